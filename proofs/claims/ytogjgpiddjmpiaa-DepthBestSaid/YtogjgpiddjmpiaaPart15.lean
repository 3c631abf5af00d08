/- Parts of the proof: TapeIter, TapeKeep, TapeRefC, DepthP2, LvlV, TapeBars. -/
import Derived.Test.YtogjgpiddjmpiaaPart12
import Derived.Test.YtogjgpiddjmpiaaPart14
import Derived.Test.YtogjgpiddjmpiaaPart1
import Derived.WalkMore
import Derived.Deep.AppendLies
import Derived.Test.YtogjgpiddjmpiaaPart7
import Derived.Test.YtogjgpiddjmpiaaPart4
import Derived.Maps.Range

/- tape.counts: what counts of messages, one behind the other. -/
namespace Go.Proofs.Ytogjgpiddjmpiaa.Tape
set_option linter.unusedVariables false
open Go.RowKit Go.Shelf Go.Proofs.Ytogjgpiddjmpiaa.Kit Go.Proofs.Ytogjgpiddjmpiaa.Blk Go.Proofs.Ytogjgpiddjmpiaa.Msgs Go.Proofs.Ytogjgpiddjmpiaa.Iter
attribute [local go_sem] Oper.semAt_some wide_fn

/-- A trade that counts. -/
abbrev TM := { m : Msg // Good m }
def cnt (sym : Int) : List Msg → List TM
  | [] => []
  | m :: l => if h : isT sym m = true then ⟨m, good_of h⟩ :: cnt sym l else cnt sym l
theorem cnt_app (sym : Int) (l k : List Msg) : cnt sym (l ++ k) = cnt sym l ++ cnt sym k := by
  induction l with
  | nil => rfl
  | cons m l ih =>
    simp only [List.cons_append, cnt]
    split
    · rw [ih]; rfl
    · exact ih
theorem cnt_yes (sym : Int) (l : List Msg) (k : Nat) (h : k < l.length) (hb : isT sym l[k] = true) : cnt sym (l.take (k + 1)) = cnt sym (l.take k) ++ [⟨l[k], good_of hb⟩] := by
  rw [List.take_succ_eq_append_getElem h, cnt_app]; simp [cnt, hb]
theorem cnt_no (sym : Int) (l : List Msg) (k : Nat) (h : k < l.length) (hb : isT sym l[k] = false) : cnt sym (l.take (k + 1)) = cnt sym (l.take k) := by
  rw [List.take_succ_eq_append_getElem h, cnt_app]; simp [cnt, hb]
theorem cnt_pre (sym : Int) (l : List Msg) (k : Nat) : cnt sym (l.take k) <+: cnt sym l := by
  have h := cnt_app sym (l.take k) (l.drop k)
  rw [List.take_append_drop] at h
  exact ⟨_, h.symm⟩
theorem cnt_len (sym : Int) (l : List Msg) : (cnt sym l).length ≤ l.length := by
  induction l with
  | nil => simp [cnt]
  | cons m l ih => simp only [cnt]; split <;> simp <;> omega
theorem cnt_lt (sym : Int) (l : List Msg) (k : Nat) (h : k < l.length) (hb : isT sym l[k] = true) : (cnt sym (l.take k)).length < (cnt sym l).length := by
  have h1 := (cnt_pre sym l (k + 1)).length_le
  rw [cnt_yes sym l k h hb] at h1
  simp at h1
  omega
theorem down_one (p : Int) : Fix.down p 1 = if p < 0 then 0 else p := by
  unfold Fix.down
  by_cases h : p < 0
  · rw [if_pos (Or.inl h), if_pos h]
  · rw [if_neg (by omega), if_neg h]; omega
theorem price_one (p : Int) : Fix.price p 1 = if 1 ≤ p ∧ p ≤ 1099511627776 then 0 else 9 := by
  unfold Fix.price
  rw [if_neg (by decide)]
  by_cases h : 1 ≤ p ∧ p ≤ 1099511627776
  · rw [if_neg (show ¬ (p < 1 ∨ 1099511627776 < p) by omega), down_one, if_neg (show ¬ p < 0 by omega), if_pos rfl, if_pos h]
  · rw [if_pos (by omega), if_neg h]

theorem counts_any (v : Value) (a : Option Addr) (n c : Nat) (sym : Int) (w : World) (hv : v = .slice a n c) (B : Nat) (hB : w.heap.size = B) : Calls Try.prog 71 #[v, .int .i64 sym] w fun e w' => e = .returned (.func (.func 113) #[] #[.pointer (some ⟨B, 0, none⟩), .pointer (some ⟨B + 1, 0, none⟩)]) ∧
    w' = (w.alloc (.cells #[v] 45)).alloc (.cells #[.int .i64 sym] 3) := by
  subst hv hB
  go_enter Try.func71, Try.ntmps71
  go_wp2
  go_ret
  exact ⟨rfl, rfl⟩

theorem msg_old {w : World} {a : Option Addr} {ms : List Msg} (h : MsgRow w a ms) : ∀ b off, a = some ⟨b, off, none⟩ → 0 < ms.length → b < w.heap.size := by
  intro b off ha hl
  obtain ⟨b', off', ha', hb, _⟩ := h 0 hl
  rw [ha] at ha'
  cases ha'
  exact hb
/-- A block laid and filled is a block that is laid filled. -/
theorem alloc_setCells (w : World) (cs vs : Array Value) (T : TypeId) (hs : vs.size = cs.size) (B : Nat) (hB : w.heap.size = B) : (w.alloc (.cells cs T)).setCells B 0 vs.toList = w.alloc (.cells vs T) := by
  subst hB
  have key : ∀ (l : List Value) (o : Nat) (ds : Array Value), (w.alloc (.cells ds T)).setCells w.heap.size o l = w.alloc (.cells (setMid ds o l) T) := by
    intro l
    induction l with
    | nil => intro o ds; rfl
    | cons v l ih =>
      intro o ds
      show (World.setCell (w.alloc (.cells ds T)) ⟨w.heap.size, o, none⟩ v).setCells w.heap.size (o + 1) l = _
      rw [World.setCell_alloc_at _ _ _ _ _ rfl]
      exact ih (o + 1) _
  rw [key]
  have h := (Blk.new w cs T w.heap.size rfl).setCells vs hs
  have h2 := blk_mid vs.toList 0 _ _ (Blk.new w cs T w.heap.size rfl)
  rw [show setMid cs 0 vs.toList = vs from by
    have := h.symm.trans h2
    injection this with this
    injection this with h1 _ _
    exact h1.symm]
def msgZero : Array Value := #[.int .i64 0, .int .i64 0, .int .i64 0, .int .i64 0, .int .i64 0, .int .i64 0, .int .i64 0, .int .i64 0, .int .i64 0]
theorem one_msg (m : Msg) : m.cells.all (·.oneCell') = true := by simp [Msg.cells, Value.oneCell']
theorem price_good (p : Int) (w : World) (h : 1 ≤ p ∧ p ≤ 1099511627776) : Calls Try.prog 83 #[.int .i64 p, .int .i64 1] w fun e w' => e = .returned (.int .i64 0) ∧ w = w' :=
  (Fix.price_any p 1 w).mono fun e w' ⟨he, hw⟩ => ⟨by rw [he, price_one, if_pos h], hw⟩
theorem price_bad (p : Int) (w : World) (h : ¬ (1 ≤ p ∧ p ≤ 1099511627776)) : Calls Try.prog 83 #[.int .i64 p, .int .i64 1] w fun e w' => e = .returned (.int .i64 9) ∧ w = w' :=
  (Fix.price_any p 1 w).mono fun e w' ⟨he, hw⟩ => ⟨by rw [he, price_one, if_neg h], hw⟩
theorem qty_good (p : Int) (w : World) (h : 1 ≤ p ∧ p ≤ 4294967296) : Calls Try.prog 114 #[.int .i64 p] w fun e w' => e = .returned (.int .i64 0) ∧ Below w.heap.size w w' :=
  (qty_any p w).mono fun e w' ⟨he, hw⟩ => ⟨by rw [he]; exact ret_int (if_pos h), hw⟩
theorem qty_bad (p : Int) (w : World) (h : ¬ (1 ≤ p ∧ p ≤ 4294967296)) : Calls Try.prog 114 #[.int .i64 p] w fun e w' => e = .returned (.int .i64 9) ∧ Below w.heap.size w w' :=
  (qty_any p w).mono fun e w' ⟨he, hw⟩ => ⟨by rw [he]; exact ret_int (if_neg h), hw⟩
theorem j_below {B : Nat} {J : List TM → World → Prop} (hJ : AbidesFrom B J) {s : List TM} {W W' : World} (h : J s W) (hb : Below W.heap.size W W') : J s W' :=
  hJ s W W' none h ⟨hb.os, hb.tape, hb.output, hb.size, fun k hk _ => hb.block k hk⟩ (fun r e => by cases e)
theorem isT_false {sym : Int} {m : Msg} (h : ¬ (m.kind = 3 ∧ m.sym = sym ∧ 0 ≤ m.tick ∧ (1 ≤ m.price ∧ m.price ≤ 1099511627776) ∧ (1 ≤ m.qty ∧ m.qty ≤ 4294967296))) : isT sym m = false := by
  rw [Bool.eq_false_iff]
  intro hh
  simp [isT] at hh
  exact h ⟨hh.1.1.1.1.1.1.1, hh.1.1.1.1.1.1.2, hh.1.2, ⟨hh.1.1.1.1.1.2, hh.1.1.1.1.2⟩, hh.1.1.1.2, hh.1.1.2⟩
theorem isT_true {sym : Int} {m : Msg} (h : m.kind = 3 ∧ m.sym = sym ∧ 0 ≤ m.tick ∧ (1 ≤ m.price ∧ m.price ≤ 1099511627776) ∧ (1 ≤ m.qty ∧ m.qty ≤ 4294967296)) (ht : m.tick ≤ 9223372036854775807) : isT sym m = true := by
  obtain ⟨h1, h2, h3, ⟨h4, h5⟩, h6, h7⟩ := h
  simp [isT, h1, h2, h3, h4, h5, h6, h7, ht]

set_option maxRecDepth 100000 in
set_option maxHeartbeats 2000000 in
theorem counts1_in (n : Nat) (hn : 1 ≤ n) (sym : Int) (a : Option Addr) (cap : Nat) (ms : List Msg) (hmx : ms.length ≤ 1000) (hfit : ∀ m ∈ ms, m.tick ≤ 9223372036854775807) (l Bs By : Nat) (S : Nat → Prop) (hS : ∀ b off, a = some ⟨b, off, none⟩ → 0 < ms.length → S b) (hSy : S By) (J Jx : List TM → World → Prop)
    (W : World) (hSl : ∀ b, S b → b < W.heap.size) (hJ : AbidesFrom W.heap.size J) (hY : ∀ pre x W, J pre W → pre.length < (cnt sym ms).length → YieldAt Fence.wide (n - 1) Try.prog l #[.agg x.1.cells] W fun e W' =>
      (e = .returned (.bool true) ∧ J (pre ++ [x]) W' ∧ KZ S W W') ∨ (e = .returned (.bool false) ∧ Jx (pre ++ [x]) W'))
    (hBs : W.cell? ⟨Bs, 0, none⟩ = some (.slice a ms.length cap)) (hBy : Blk W By #[.int .i64 sym] 3) (hm : MsgRow W a ms) (h0 : J [] W) :
    CallsIn Fence.wide n Try.prog 113 #[.func (.yield l) #[] #[], .pointer (some ⟨Bs, 0, none⟩), .pointer (some ⟨By, 0, none⟩)] W fun e W' => (∃ v, e = .returned v) ∧
      ((∃ ys, ys = cnt sym ms ∧ J ys W') ∨ (∃ pre, pre <+: cnt sym ms ∧ Jx pre W')) := by
  refine callsIn_of_wp Try.func113 rfl trivial ?_ rfl
  simp only [Try.ntmps113, List.size_toArray, List.length_cons, List.length_nil, Nat.reduceAdd, Nat.reduceSub, Array.replicate_succ, Array.replicate_zero, List.push_toArray, List.append_toArray, List.nil_append, List.cons_append]
  gi_wp2
  gi_loopw [9] (fun i wr => ∃ k : Nat, k ≤ ms.length ∧ i = .int .i64 k ∧ J (cnt sym (ms.take k)) wr ∧ KZ S W wr) (fun i _ => ms.length - (intOf i).toNat)
  case atStart => exact ⟨0, by omega, rfl, h0, kz_refl _ _⟩
  case round =>
    obtain ⟨k, hk, rfl, hJs, hnx⟩ := hrel
    by_cases hlt : k < ms.length
    · obtain ⟨b, off, rfl, hbl, hrow0⟩ := msgRow_at hm k hlt
      have hrow : wr.rangeAt b (off + k * 9) ms[k].cells.toList := fun j v hv => (ks_cell (p := ⟨b, _, none⟩) hnx.1 (hS b off rfl (Nat.lt_of_le_of_lt (Nat.zero_le _) hlt))).trans (hrow0 j v hv)
      have HY := Lib.hid (cnt_yes sym ms k hlt)
      have HN := Lib.hid (cnt_no sym ms k hlt)
      have HL := Lib.hid (cnt_lt sym ms k hlt)
      have HFT := Lib.hid (hfit ms[k] (List.getElem_mem hlt))
      generalize ms[k] = m at hrow HY HN HL HFT
      have HNX := Lib.hid hnx
      have HJ := Lib.hid hJs
      have HBY := Lib.hid (ks_blk hBy hnx.1 hSy)
      have HZ := Lib.hid (Blk.new wr msgZero 66 wr.heap.size rfl)
      have HM := Lib.hid (Blk.new wr m.cells 66 wr.heap.size rfl)
      clear hrow0 hnx hJs
      have g0 : (0 : Int) ≤ (k : Int) := by omega
      have g1 : (k : Int) < (ms.length : Int) := by omega
      have m0 : (wr.alloc (.cells m.cells 66)).cell? ⟨wr.heap.size, 0, none⟩ = some (.int .i64 m.kind) := HM.out.cell 0 rfl
      have m1 : (wr.alloc (.cells m.cells 66)).cell? ⟨wr.heap.size, 1, none⟩ = some (.int .i64 m.sym) := HM.out.cell 1 rfl
      have m3 : (wr.alloc (.cells m.cells 66)).cell? ⟨wr.heap.size, 3, none⟩ = some (.int .i64 m.tick) := HM.out.cell 3 rfl
      have m6 : (wr.alloc (.cells m.cells 66)).cell? ⟨wr.heap.size, 6, none⟩ = some (.int .i64 m.price) := HM.out.cell 6 rfl
      have m7 : (wr.alloc (.cells m.cells 66)).cell? ⟨wr.heap.size, 7, none⟩ = some (.int .i64 m.qty) := HM.out.cell 7 rfl
      have HAL := Lib.hid ((Below.refl _ wr).alloc (Nat.le_refl _) (.cells m.cells 66))
      have HSW := Lib.hid (show ∀ b, S b → b < wr.heap.size from fun b hb => Nat.lt_of_lt_of_le (hSl b hb) HNX.out.2)
      have by0 : (wr.alloc (.cells m.cells 66)).cell? ⟨By, 0, none⟩ = some (.int .i64 sym) := (HBY.out.old (.cells m.cells 66)).cell 0 rfl
      by_cases hkd : m.kind = 3
      · by_cases hsy : m.sym = sym
        · by_cases htk : 0 ≤ m.tick
          · by_cases hpr : 1 ≤ m.price ∧ m.price ≤ 1099511627776
            · by_cases hqy : 1 ≤ m.qty ∧ m.qty ≤ 4294967296
              · have HT := Lib.hid (isT_true ⟨hkd, hsy, htk, hpr, hqy⟩ HFT.out)
                have HQ := Lib.hid (fun w => qty_good m.qty w hqy)
                have HP := Lib.hid (fun w => price_good m.price w hpr)
                have b1 : (m.kind == 3) = true := by simpa using hkd
                have b2 : (m.sym == sym) = true := by simpa using hsy
                clear hkd hsy hpr hqy
                gi_wp2_with (first
                  | (refine loadW_mid trivial (by rfl) 66 _ (by rfl) b (off + k * 9) (by rfl) m.cells.toList _ hrow Try.underlying66 rfl (by kernel_rfl) ?_)
                  | (refine storeW_blk trivial (by rfl) 66 _ _ (by rfl) wr.heap.size (by rfl) msgZero m.cells 66 HZ.out (by rfl) (by rfl) (by kernel_rfl) (one_msg _) ?_; change wpListIn _ _ _ _ _ _ _ (World.setCells (wr.alloc (.cells msgZero 66)) wr.heap.size 0 m.cells.toList); rw [alloc_setCells wr msgZero m.cells 66 rfl wr.heap.size rfl])
                  )
                refine (to_wide (HP.out _)).mono ?_
                rintro e w2 ⟨rfl, rfl⟩
                gi_wp2_with fail
                refine (to_wide (HQ.out _)).mono ?_
                rintro e w3 ⟨rfl, hb3⟩
                replace HM := Lib.hid (HM.out.below hb3 HM.out.lt)
                have HAL3 := Lib.hid (HAL.out.trans (hb3.mono (by simp)))
                clear hb3 HAL HQ HP m0 m1 m3 m6 m7 by0
                obtain ⟨fn, tmps, assign, body, hy, hR⟩ := hY _ ⟨m, good_of HT.out⟩ w3 (j_below hJ HJ.out HAL3.out) (HL.out HT.out)
                dsimp only [Msg.cells] at hy hR
                have n0 : w3.cell? ⟨wr.heap.size, 0, none⟩ = some (.int .i64 m.kind) := HM.out.cell 0 rfl
                have n1 : w3.cell? ⟨wr.heap.size, 1, none⟩ = some (.int .i64 m.sym) := HM.out.cell 1 rfl
                have n2 : w3.cell? ⟨wr.heap.size, 2, none⟩ = some (.int .i64 m.seq) := HM.out.cell 2 rfl
                have n3 : w3.cell? ⟨wr.heap.size, 3, none⟩ = some (.int .i64 m.tick) := HM.out.cell 3 rfl
                have n4 : w3.cell? ⟨wr.heap.size, 4, none⟩ = some (.int .i64 m.id) := HM.out.cell 4 rfl
                have n5 : w3.cell? ⟨wr.heap.size, 5, none⟩ = some (.int .i64 m.wth) := HM.out.cell 5 rfl
                have n6 : w3.cell? ⟨wr.heap.size, 6, none⟩ = some (.int .i64 m.price) := HM.out.cell 6 rfl
                have n7 : w3.cell? ⟨wr.heap.size, 7, none⟩ = some (.int .i64 m.qty) := HM.out.cell 7 rfl
                have n8 : w3.cell? ⟨wr.heap.size, 8, none⟩ = some (.int .i64 m.code) := HM.out.cell 8 rfl
                gi_wp2_with fail
                refine hR.mono ?_
                rintro e W3 (⟨rfl, hJ3, hk3⟩ | ⟨rfl, hJx3⟩)
                · gi_wp2
                  go_roundw
                  case rel => exact ⟨k + 1, by omega, by simp, by rw [HY.out HT.out]; exact hJ3, kz_t HNX.out (kz_t (kz_below HAL3.out HSW.out) hk3)⟩
                  case measure => simp [intOf]; omega
                · gi_wp2
                  refine bodyPost_ret (results_none rfl _ _ _) rfl ?_
                  exact ⟨⟨_, rfl⟩, .inr ⟨_, HY.out HT.out ▸ cnt_pre sym ms (k + 1), hJx3⟩⟩
              · have HF := Lib.hid (isT_false (sym := sym) (fun h => hqy h.2.2.2.2))
                have HQ := Lib.hid (fun w => qty_bad m.qty w hqy)
                have HP := Lib.hid (fun w => price_good m.price w hpr)
                have b1 : (m.kind == 3) = true := by simpa using hkd
                have b2 : (m.sym == sym) = true := by simpa using hsy
                clear hkd hsy hpr hqy
                gi_wp2_with (first
                  | (refine loadW_mid trivial (by rfl) 66 _ (by rfl) b (off + k * 9) (by rfl) m.cells.toList _ hrow Try.underlying66 rfl (by kernel_rfl) ?_)
                  | (refine storeW_blk trivial (by rfl) 66 _ _ (by rfl) wr.heap.size (by rfl) msgZero m.cells 66 HZ.out (by rfl) (by rfl) (by kernel_rfl) (one_msg _) ?_; change wpListIn _ _ _ _ _ _ _ (World.setCells (wr.alloc (.cells msgZero 66)) wr.heap.size 0 m.cells.toList); rw [alloc_setCells wr msgZero m.cells 66 rfl wr.heap.size rfl])
                  )
                refine (to_wide (HP.out _)).mono ?_
                rintro e w2 ⟨rfl, rfl⟩
                gi_wp2_with fail
                refine (to_wide (HQ.out _)).mono ?_
                rintro e w3 ⟨rfl, hb3⟩
                have HAL3 := Lib.hid (HAL.out.trans (hb3.mono (by simp)))
                clear hb3
                gi_wp2
                go_roundw
                case rel => exact ⟨k + 1, by omega, by simp, by rw [HN.out HF.out]; exact j_below hJ HJ.out HAL3.out, kz_t HNX.out (kz_below HAL3.out HSW.out)⟩
                case measure => simp [intOf]; omega
            · have HF := Lib.hid (isT_false (sym := sym) (fun h => hpr h.2.2.2.1))
              have HP := Lib.hid (fun w => price_bad m.price w hpr)
              have b1 : (m.kind == 3) = true := by simpa using hkd
              have b2 : (m.sym == sym) = true := by simpa using hsy
              clear hkd hsy hpr
              gi_wp2_with (first
                | (refine loadW_mid trivial (by rfl) 66 _ (by rfl) b (off + k * 9) (by rfl) m.cells.toList _ hrow Try.underlying66 rfl (by kernel_rfl) ?_)
                | (refine storeW_blk trivial (by rfl) 66 _ _ (by rfl) wr.heap.size (by rfl) msgZero m.cells 66 HZ.out (by rfl) (by rfl) (by kernel_rfl) (one_msg _) ?_; change wpListIn _ _ _ _ _ _ _ (World.setCells (wr.alloc (.cells msgZero 66)) wr.heap.size 0 m.cells.toList); rw [alloc_setCells wr msgZero m.cells 66 rfl wr.heap.size rfl])
                | (gi_at_call 83; refine (to_wide (HP.out _)).mono ?_; rintro e w2 ⟨rfl, rfl⟩)
                )
              have HAL3 := HAL
              go_roundw
              case rel => exact ⟨k + 1, by omega, by simp, by rw [HN.out HF.out]; exact j_below hJ HJ.out HAL3.out, kz_t HNX.out (kz_below HAL3.out HSW.out)⟩
              case measure => simp [intOf]; omega
          · have HF := Lib.hid (isT_false (sym := sym) (fun h => htk h.2.2.1))
            have b1 : (m.kind == 3) = true := by simpa using hkd
            have b2 : (m.sym == sym) = true := by simpa using hsy
            have b3 : m.tick < 0 := by omega
            clear hkd hsy htk
            gi_wp2_with (first
              | (refine loadW_mid trivial (by rfl) 66 _ (by rfl) b (off + k * 9) (by rfl) m.cells.toList _ hrow Try.underlying66 rfl (by kernel_rfl) ?_)
              | (refine storeW_blk trivial (by rfl) 66 _ _ (by rfl) wr.heap.size (by rfl) msgZero m.cells 66 HZ.out (by rfl) (by rfl) (by kernel_rfl) (one_msg _) ?_; change wpListIn _ _ _ _ _ _ _ (World.setCells (wr.alloc (.cells msgZero 66)) wr.heap.size 0 m.cells.toList); rw [alloc_setCells wr msgZero m.cells 66 rfl wr.heap.size rfl])
              )
            go_roundw
            case rel => exact ⟨k + 1, by omega, by simp, by rw [HN.out HF.out]; exact j_below hJ HJ.out HAL.out, kz_t HNX.out (kz_below HAL.out HSW.out)⟩
            case measure => simp [intOf]; omega
        · have HF := Lib.hid (isT_false (fun h => hsy h.2.1))
          have b1 : (m.kind == 3) = true := by simpa using hkd
          have b2 : (m.sym == sym) = false := by simpa using hsy
          clear hkd hsy
          gi_wp2_with (first
            | (refine loadW_mid trivial (by rfl) 66 _ (by rfl) b (off + k * 9) (by rfl) m.cells.toList _ hrow Try.underlying66 rfl (by kernel_rfl) ?_)
            | (refine storeW_blk trivial (by rfl) 66 _ _ (by rfl) wr.heap.size (by rfl) msgZero m.cells 66 HZ.out (by rfl) (by rfl) (by kernel_rfl) (one_msg _) ?_; change wpListIn _ _ _ _ _ _ _ (World.setCells (wr.alloc (.cells msgZero 66)) wr.heap.size 0 m.cells.toList); rw [alloc_setCells wr msgZero m.cells 66 rfl wr.heap.size rfl])
            )
          go_roundw
          case rel => exact ⟨k + 1, by omega, by simp, by rw [HN.out HF.out]; exact j_below hJ HJ.out HAL.out, kz_t HNX.out (kz_below HAL.out HSW.out)⟩
          case measure => simp [intOf]; omega
      · have HF := Lib.hid (isT_false (sym := sym) (fun h => hkd h.1))
        have b1 : (m.kind == 3) = false := by simpa using hkd
        clear hkd
        gi_wp2_with (first
          | (refine loadW_mid trivial (by rfl) 66 _ (by rfl) b (off + k * 9) (by rfl) m.cells.toList _ hrow Try.underlying66 rfl (by kernel_rfl) ?_)
          | (refine storeW_blk trivial (by rfl) 66 _ _ (by rfl) wr.heap.size (by rfl) msgZero m.cells 66 HZ.out (by rfl) (by rfl) (by kernel_rfl) (one_msg _) ?_; change wpListIn _ _ _ _ _ _ _ (World.setCells (wr.alloc (.cells msgZero 66)) wr.heap.size 0 m.cells.toList); rw [alloc_setCells wr msgZero m.cells 66 rfl wr.heap.size rfl])
          )
        go_roundw
        case rel => exact ⟨k + 1, by omega, by simp, by rw [HN.out HF.out]; exact j_below hJ HJ.out HAL.out, kz_t HNX.out (kz_below HAL.out HSW.out)⟩
        case measure => simp [intOf]; omega
    · obtain rfl : k = ms.length := by omega
      rw [List.take_length] at hJs
      have HJ := Lib.hid hJs
      clear hJs
      have g1 : (ms.length : Int) ≤ (ms.length : Int) := by omega
      gi_wp2
      go_end0
      exact ⟨⟨_, rfl⟩, .inl ⟨_, rfl, HJ.out⟩⟩

theorem counts_stops (n : Nat) (hn : 1 ≤ n) (sym : Int) (a : Option Addr) (cap : Nat) (ms : List Msg) (hmx : ms.length ≤ 1000) (hfit : ∀ m ∈ ms, m.tick ≤ 9223372036854775807) (Bs By : Nat) (S : Nat → Prop) (hS : ∀ b off, a = some ⟨b, off, none⟩ → 0 < ms.length → S b) (hSy : S By) (w : World) (hSl : ∀ b, S b → b < w.heap.size)
    (hBs : Blk w Bs #[.slice a ms.length cap] 45) (hBy : Blk w By #[.int .i64 sym] 3) (hm : MsgRow w a ms) :
    SeqStopsK Fence.wide n Try.prog 113 #[.pointer (some ⟨Bs, 0, none⟩), .pointer (some ⟨By, 0, none⟩)] (fun x : TM => #[Value.agg x.1.cells]) (KZ S) (fun ys => ys = cnt sym ms) (fun pre => pre <+: cnt sym ms) (cnt sym ms).length w := fun l J Jx W hW hJ _ hY h0 =>
  counts1_in n hn sym a cap ms hmx hfit l Bs By S hS hSy J Jx W (fun b hb => Nat.lt_of_lt_of_le (hSl b hb) hW.size) hJ hY ((hBs.below hW hBs.lt).cell 0 rfl) (hBy.below hW hBy.lt) (hm.all hW) h0
end Go.Proofs.Ytogjgpiddjmpiaa.Tape

/- What is kept while trades are gathered into bars. -/
namespace Go.Proofs.Ytogjgpiddjmpiaa.Tape
open Go.RowKit Go.Shelf Go.Proofs.Ytogjgpiddjmpiaa.Kit Go.Proofs.Ytogjgpiddjmpiaa.Blk Go.Proofs.Ytogjgpiddjmpiaa.Msgs Go.Proofs.Ytogjgpiddjmpiaa.Iter

def rowsOf (l : List Bar) : List Value := l.flatMap fun b => b.cells.toList
theorem rowsOf_app (l : List Bar) (b : Bar) : rowsOf (l ++ [b]) = rowsOf l ++ b.cells.toList := by simp [rowsOf]
theorem scopeW {P : Program} {n : Nat} {c : Code} {Q : Exit → Act → World → Prop} {a : Act} {w : World} (h : c.wpIn Fence.wide n P (Exit.noGoto Q) a w) : (Code.scope c).wpIn Fence.wide n P Q a w :=
  wpIn_wide.2 (wp_scope_straight (wpIn_wide.1 h))
theorem kz_chg {S : Nat → Prop} {n d : Nat} {w w' : World} (h : Chg n d w w') (hS : ∀ b, S b → b < n ∧ b ≠ d) : KZ S w w' := ⟨fun b hb => h.block b (hS b hb).1 (hS b hb).2, h.size⟩
theorem kz_same {S : Nat → Prop} {w w' : World} (hs : w.heap.size ≤ w'.heap.size) (h : ∀ b, S b → w'.heap[b]? = w.heap[b]?) : KZ S w w' := ⟨h, hs⟩
theorem blk_not_row {W : World} {B : Nat} {cs : Array Value} {t e : TypeId} (h : Blk W B cs t) (hte : t ≠ e) {base size k : Nat} {v : Value} {xs : List Value} (hr : W.ownsRow base e size v k xs) : some B ≠ v.ownBlock := by
  rcases hr.2 with ⟨rfl, _⟩ | ⟨g, cap, cur, rfl, _, hgb, _⟩
  · simp [Value.ownBlock]
  · intro e'
    obtain rfl : B = g := by simpa [Value.ownBlock] using e'
    have := (show W.heap[B]? = _ from h).symm.trans hgb
    simp at this
    exact hte this.2
theorem row_from {W : World} {base e size k : Nat} {v : Value} {xs : List Value} (hr : W.ownsRow base e size v k xs) {j : Nat} (h : v.ownBlock = some j) : base ≤ j ∧ ∃ cur, W.heap[j]? = some (.cells cur e (0, 0)) := by
  rcases hr.2 with ⟨rfl, _⟩ | ⟨g, cap, cur, rfl, hg, hgb, _⟩
  · simp [Value.ownBlock] at h
  · obtain rfl : g = j := by simpa [Value.ownBlock] using h
    exact ⟨hg, cur, hgb⟩
theorem blk_grown {W W' : World} {B : Nat} {cs : Array Value} {t : TypeId} {row : Option Nat} (h : Blk W B cs t) (hg : W.grownBy W' row) (hne : some B ≠ row) : Blk W' B cs t := (hg.block B h.lt hne).trans h
theorem chg_grown {W W' : World} {d : Nat} (h : Chg W.heap.size d W W') : W.grownBy W' (some d) := ⟨h.os, h.tape, h.output, h.size, fun k hk hne => h.block k hk (fun e => hne (by rw [e]))⟩
theorem below_grown {W W' : World} (h : Below W.heap.size W W') : W.grownBy W' none := ⟨h.os, h.tape, h.output, h.size, fun k hk _ => h.block k hk⟩

/-- Behind some trades: the bars that are closed, the maker, and the width. -/
structure Kept (N O K Bw : Nat) (wd : Int) (w : World) (s : St) (W : World) : Prop where
  out : ∃ v, Boxed W O 46 v ∧ W.ownsRow N 53 8 v s.out.length (rowsOf s.out) ∧ True
  maker : Blk W K (mk s.b s.x) 146
  width : Blk W Bw #[.int .i64 wd] 2
  bel : Below N w W
  top : N ≤ w.heap.size
theorem Kept.le {N O K Bw : Nat} {wd : Int} {w : World} {s : St} {W : World} (h : Kept N O K Bw wd w s W) : N ≤ W.heap.size := Nat.le_trans h.top h.bel.size
section
variable {N O K Bw : Nat} {wd : Int} {w : World} {s : St} {W W' : World}
theorem Kept.below (h : Kept N O K Bw wd w s W) (hb : Below W.heap.size W W') : Kept N O K Bw wd w s W' := by
  obtain ⟨v, h1, h2, _⟩ := h.out
  exact ⟨⟨v, h1.kept (below_grown hb) (by simp), h2.kept (below_grown hb) (by cases v.ownBlock with
    | none => exact .inl rfl
    | some j => exact .inr (by simp)), trivial⟩, h.maker.below hb h.maker.lt, h.width.below hb h.width.lt, h.bel.trans (hb.mono h.le), h.top⟩
theorem Kept.drew (h : Kept N O K Bw wd w s W) : Kept N O K Bw wd w s W.drew := h.below (Below.refl _ _).drew
theorem kept_chg (h : Kept N O K Bw wd w s W) (b : Bar) (x : Nat) (hK : Blk W' K (mk b x) 146) (hc : Chg W.heap.size K W W') (hO : O ≠ K) (hB : Bw ≠ K) (hN : N ≤ K) : Kept N O K Bw wd w ⟨s.out, b, x⟩ W' := by
  obtain ⟨v, h1, h2, _⟩ := h.out
  exact ⟨⟨v, h1.kept (chg_grown hc) (by simpa using hO), h2.kept (chg_grown hc) (.inr (fun e => blk_not_row h.maker (by decide) h2 e.symm)), trivial⟩, hK, hc.blk h.width.lt hB h.width, h.bel.trans (hc.below' hN h.le), h.top⟩
/-- One bar more. -/
theorem Kept.push (h : Kept N O K Bw wd w s W) {v v' : Value} {w1 : World} {tmp : Obj} {bs : List Bar} (hv : Boxed W O 46 v) (hrow : W.ownsRow N 53 8 v s.out.length (rowsOf s.out)) (hO : O ≠ K) (hB : Bw ≠ O) (hN : N ≤ O)
    (hown : w1.ownsRow N 53 8 v' bs.length (rowsOf bs)) (hgrow : (W.alloc tmp).grownBy w1 v.ownBlock) : Kept N O K Bw wd w ⟨bs, s.b, s.x⟩ (w1.setCell ⟨O, 0, none⟩ v') := by
  obtain ⟨a1, a2, a3, a4, a5⟩ := hv.appended (tmp := tmp) (by decide) hrow h.le hN hown hgrow
  exact ⟨⟨v', a2, a3, trivial⟩, (blk_grown (h.maker.old tmp) hgrow (blk_not_row h.maker (by decide) hrow)).apart _ _ (by show O ≠ K; exact hO), (blk_grown (h.width.old tmp) hgrow (blk_not_row h.width (by decide) hrow)).apart _ _ (by show O ≠ Bw; exact hB.symm), h.bel.trans a5, h.top⟩
theorem push_keeps {v v' : Value} {w1 : World} {tmp : Obj} {k m : Nat} {xs ys : List Value} (hv : Boxed W O 46 v) (hrow : W.ownsRow N 53 8 v k xs) (hle : N ≤ W.heap.size) (hN : N ≤ O)
    (hown : w1.ownsRow N 53 8 v' m ys) (hgrow : (W.alloc tmp).grownBy w1 v.ownBlock) : KeepsOthers W (w1.setCell ⟨O, 0, none⟩ v') := (hv.appended (tmp := tmp) (by decide) hrow hle hN hown hgrow).2.2.2.1
theorem kz_push {S : Nat → Prop} {v v' : Value} {w1 : World} {tmp : Obj} {k : Nat} {xs : List Value} (hrow : W.ownsRow N 53 8 v k xs) (hgrow : (W.alloc tmp).grownBy w1 v.ownBlock)
    (hS : ∀ b, S b → b < W.heap.size ∧ b ≠ O ∧ (b < N ∨ ∃ cs T, Blk W b cs T ∧ T ≠ 53)) : KZ S W (w1.setCell ⟨O, 0, none⟩ v') := by
  refine ⟨fun b hb => ?_, ?_⟩
  · obtain ⟨h1, h2, h3⟩ := hS b hb
    rw [Below.heap_setCell _ _ _ _ (by show b ≠ O; exact h2), hgrow.block b (by simp; omega) ?_, Below.heap_alloc _ _ _ h1]
    intro e
    rcases h3 with h3 | ⟨cs, T, h3, h4⟩
    · have := (row_from hrow e.symm).1; omega
    · exact blk_not_row h3 h4 hrow e
  · have := hgrow.size
    simp at this
    simp [World.setCell]; omega
end
theorem news_blk {w : World} {B : Nat} {cs : Array Value} {T : TypeId} (h : Blk w B cs T) : ∀ j u, cs.toList[j]? = some u → w.cell? ((⟨B, 0, none⟩ : Addr).add j) = some u := fun j u hu => by
  rw [Addr.add_mid, Nat.zero_add]; exact h.cell j (by simpa using hu)
theorem one_mem {cs : Array Value} (h : cs.all (·.oneCell') = true) : ∀ u ∈ cs.toList, u.oneCell' = true := fun u hu => by
  rw [Array.all_eq_true_iff_forall_mem] at h
  exact h u (Array.mem_toList_iff.1 hu)
theorem row_slice {W : World} {base e size k : Nat} {v : Value} {xs : List Value} (hr : W.ownsRow base e size v k xs) : ∃ a c, v = .slice a k c := by
  rcases hr.2 with ⟨rfl, rfl⟩ | ⟨g, cap, cur, rfl, _⟩
  · exact ⟨_, _, rfl⟩
  · exact ⟨_, _, rfl⟩
/-- Behind the function's return. -/
theorem at_end {W w : World} {O D t e size k : Nat} {v : Value} {xs : List Value} (hv : Boxed W O t v) (hr : W.ownsRow w.heap.size e size v k xs) (hb : Below w.heap.size w W) (hK : W.heap[D]? = some (.deferred (some []))) (hD : w.heap.size ≤ D) :
    Boxed (W.putObj D (.deferred none)) O t v ∧ (W.putObj D (.deferred none)).ownsRow w.heap.size e size v k xs ∧ Below w.heap.size w (W.putObj D (.deferred none)) :=
  ⟨hv.kept (grownBy_putObj' W D _) (fun e => by cases e; rw [show W.heap[O]? = _ from hv] at hK; cases hK), ownsRow_putObj hr _ hK rfl, hb.trans (belowK_b (w := w) (Nat.le_refl _) W D _ _ hD hK rfl rfl)⟩
/-- It speaks of cells alone. -/
theorem kept_own {N O K Bw : Nat} {wd : Int} {w : World} {β : Type} (f : β → St) {B : Nat} (hN : N ≤ B) : OwnFrom B (fun x W => Kept N O K Bw wd w (f x) W) := by
  intro x W W' row hs hg hr
  have hr' : ∀ r, row = some r → ∃ o : Obj, W.heap[r]? = some o ∧ o.isCells = false := fun r e => (hr r e).2
  refine ⟨holdsRow_own N O 46 53 8 (fun x => (f x).out.length) (fun x => rowsOf (f x).out) (fun _ _ => True) x W W' row hs.out hg hr', (grownBy_keeps_cells hg hr' hs.maker rfl).trans hs.maker, (grownBy_keeps_cells hg hr' hs.width rfl).trans hs.width, ownFrom_below (w₀ := w) hs.top hN x W W' row hs.bel hg hr, hs.top⟩
end Go.Proofs.Ytogjgpiddjmpiaa.Tape

/- The document's Counts. -/
namespace Go.Proofs.Ytogjgpiddjmpiaa.Tape
set_option linter.unusedVariables false
open Go.RowKit Go.Proofs.Ytogjgpiddjmpiaa.Kit Go.Proofs.Ytogjgpiddjmpiaa.Blk Go.Proofs.Ytogjgpiddjmpiaa.Msgs
attribute [local go_sem ↓] Go.wp_at_zero Go.wp_at_succ

theorem cnt_map (sym : Int) (l : List Msg) : (cnt sym l).map Subtype.val = l.filter (isT sym) := by
  induction l with
  | nil => rfl
  | cons m l ih =>
    simp only [cnt, List.filter_cons]
    split
    · rw [List.map_cons, ih]
    · exact ih
theorem flt_yes (sym : Int) (l : List Msg) (k : Nat) (h : k < l.length) (hb : isT sym l[k] = true) : (l.take (k + 1)).filter (isT sym) = (l.take k).filter (isT sym) ++ [l[k]] := by
  rw [List.take_succ_eq_append_getElem h, List.filter_append]; simp [hb]
theorem flt_no (sym : Int) (l : List Msg) (k : Nat) (h : k < l.length) (hb : isT sym l[k] = false) : (l.take (k + 1)).filter (isT sym) = (l.take k).filter (isT sym) := by
  rw [List.take_succ_eq_append_getElem h, List.filter_append]; simp [hb]
def cellsOf (l : List Msg) : List Value := l.flatMap fun m => m.cells.toList
theorem cellsOf_app (l : List Msg) (m : Msg) : cellsOf (l ++ [m]) = cellsOf l ++ m.cells.toList := by simp [cellsOf]
theorem cellsOf_at (l : List Msg) : ∀ (i : Nat) (h : i < l.length) (j : Nat) (v : Value), l[i].cells[j]? = some v → (cellsOf l)[i * 9 + j]? = some v := by
  induction l with
  | nil => intro i h; simp at h
  | cons m l ih =>
    intro i h j v hv
    have hc : cellsOf (m :: l) = m.cells.toList ++ cellsOf l := by simp [cellsOf]
    have hs : m.cells.toList.length = 9 := rfl
    rw [hc]
    cases i with
    | zero =>
      rw [List.getElem_cons_zero] at hv
      have hj : j < 9 := (Array.getElem?_eq_some_iff.1 hv).1
      rw [List.getElem?_append_left (by omega)]
      rw [show 0 * 9 + j = j by omega]
      simpa using hv
    | succ i =>
      rw [List.getElem_cons_succ] at hv
      rw [List.getElem?_append_right (by omega), hs]
      have := ih i (by simpa using h) j v hv
      rw [show (i + 1) * 9 + j - 9 = i * 9 + j by omega]
      exact this
/-- A row that is owned, as a row of messages. -/
theorem row_of_owned {w : World} {N T : Nat} {v : Value} {l : List Msg} (h : w.ownsRow N T 9 v l.length (cellsOf l)) : ∃ a c, v = .slice a l.length c ∧ MsgRow w a l ∧ (∀ b off, a = some ⟨b, off, none⟩ → N ≤ b ∧ off = 0) ∧ l.length ≤ c ∧ c ≤ maxLen := by
  rcases h.2 with ⟨rfl, h0⟩ | ⟨g, cap, cur, rfl, hg, hgb, hn, hc, hsz, htk⟩
  · exact ⟨none, 0, by rw [h0], fun i hi => by omega, (fun b off e => by cases e), by omega, Nat.zero_le _⟩
  · refine ⟨_, cap, rfl, fun i hi => ⟨g, 0, rfl, (Array.getElem?_eq_some_iff.1 hgb).1, fun j u hu => ?_⟩, (fun b off e => by cases e; exact ⟨hg, rfl⟩), hn, hc⟩
    have h1 := cellsOf_at l i hi j u hu
    rw [Nat.zero_add]
    have h2 := h.cellAt (g := g) (cap := cap) (i * 9 + j) (by have : j < 9 := (Array.getElem?_eq_some_iff.1 hu).1; have : (i + 1) * 9 ≤ l.length * 9 := Nat.mul_le_mul_right _ hi; omega)
    rw [h2]; exact h1
theorem infoMsg : (Try.prog.info? 66).map (fun i => (i.zero, i.size, i.bytes)) = some (some (.agg msgZero), 9, 72) := by kernel_rfl
def MsgsIs (l : List Msg) (w : World) (e : Ending) (w' : World) : Prop := ∃ v, e = .returned v ∧ w'.ownsRow w.heap.size 66 9 v l.length (cellsOf l) ∧ Below w.heap.size w w'

theorem below_push {w W w1 : World} {N e size k : Nat} {v : Value} {xs : List Value} (hb : Below N w W) (hr : W.ownsRow N e size v k xs) (hg : W.grownBy w1 v.ownBlock) (hle : N ≤ W.heap.size) : Below N w w1 :=
  hb.grown hg hle (fun k e => (row_from hr e).1)
set_option maxRecDepth 100000 in
set_option maxHeartbeats 4000000 in
theorem refcounts_any (a : Option Addr) (cap : Nat) (ms : List Msg) (sym : Int) (w : World) (hm : MsgRow w a ms) (hl : ms.length ≤ 1000) (hfit : ∀ m ∈ ms, m.tick ≤ 9223372036854775807) :
    Calls Try.prog 74 #[.slice a ms.length cap, .int .i64 sym] w fun e w' => MsgsIs (ms.filter (isT sym)) w e w' := by
  obtain ⟨i0, hi0, hz0, hz1, hz2⟩ := info_parts infoMsg
  go_enter Try.func74, Try.ntmps74
  go_wp2_with fail
  go_loopw [5, 6] (fun v i wr => ∃ k : Nat, k ≤ ms.length ∧ i = .int .i64 k ∧ wr.ownsRow w.heap.size 66 9 v ((ms.take k).filter (isT sym)).length (cellsOf ((ms.take k).filter (isT sym))) ∧ Below w.heap.size w wr) (fun _ i _ => ms.length - (intOf i).toNat)
  case atStart => exact ⟨0, by omega, rfl, World.ownsRow_nil _ _ _ _, Below.refl _ _⟩
  case round =>
    obtain ⟨k, hk, rfl, hrw, hbw⟩ := hrel
    have HRW := Lib.hid hrw
    have HBW := Lib.hid hbw
    obtain ⟨va, vc, rfl⟩ := row_slice hrw
    clear hrw hbw
    by_cases hlt : k < ms.length
    · obtain ⟨b, off, rfl, hbl, hrow0⟩ := msgRow_at hm k hlt
      have hrow : wr.rangeAt b (off + k * 9) ms[k].cells.toList := fun j v hv => by rw [HBW.out.cell (p := ⟨b, _, none⟩) hbl]; exact hrow0 j v hv
      have HY := Lib.hid (flt_yes sym ms k hlt)
      have HN := Lib.hid (flt_no sym ms k hlt)
      have HLEN := Lib.hid (show ((ms.take k).filter (isT sym)).length ≤ 1000 from by have := List.length_filter_le (isT sym) (ms.take k); have := List.length_take_le k ms; omega)
      have HFT := Lib.hid (hfit ms[k] (List.getElem_mem hlt))
      generalize ms[k] = m at hrow HY HN HFT
      have HZ := Lib.hid (Blk.new wr msgZero 66 wr.heap.size rfl)
      have HM := Lib.hid (Blk.new wr m.cells 66 wr.heap.size rfl)
      have HBN := Lib.hid (HBW.out.alloc HBW.out.size (.cells m.cells 66))
      have HRN := Lib.hid (HRW.out.alloc (.cells m.cells 66))
      clear hrow0
      have g0 : (0 : Int) ≤ (k : Int) := by omega
      have g1 : (k : Int) < (ms.length : Int) := by omega
      have m0 : (wr.alloc (.cells m.cells 66)).cell? ⟨wr.heap.size, 0, none⟩ = some (.int .i64 m.kind) := HM.out.cell 0 rfl
      have m1 : (wr.alloc (.cells m.cells 66)).cell? ⟨wr.heap.size, 1, none⟩ = some (.int .i64 m.sym) := HM.out.cell 1 rfl
      have m3 : (wr.alloc (.cells m.cells 66)).cell? ⟨wr.heap.size, 3, none⟩ = some (.int .i64 m.tick) := HM.out.cell 3 rfl
      have m6 : (wr.alloc (.cells m.cells 66)).cell? ⟨wr.heap.size, 6, none⟩ = some (.int .i64 m.price) := HM.out.cell 6 rfl
      have m7 : (wr.alloc (.cells m.cells 66)).cell? ⟨wr.heap.size, 7, none⟩ = some (.int .i64 m.qty) := HM.out.cell 7 rfl
      by_cases hkd : m.kind = 3
      · have b1 : (m.kind == 3) = true := by simpa using hkd
        by_cases hsy : m.sym = sym
        · have b2 : (m.sym == sym) = true := by simpa using hsy
          by_cases hp1 : 1 ≤ m.price
          · by_cases hp2 : m.price ≤ 1099511627776
            · by_cases hq1 : 1 ≤ m.qty
              · by_cases hq2 : m.qty ≤ 4294967296
                · by_cases htk : 0 ≤ m.tick
                  · have HF := Lib.hid (isT_true ⟨hkd, hsy, htk, ⟨hp1, hp2⟩, hq1, hq2⟩ HFT.out)
                    clear hkd hsy
                    have HNB := Lib.hid (Blk.new (wr.alloc (.cells m.cells 66)) m.cells 66 (wr.heap.size + 1) (by simp))
                    have HR2 := Lib.hid (HRN.out.alloc (.cells m.cells 66))
                    have HB2 := Lib.hid (HBN.out.alloc HBN.out.size (.cells m.cells 66))
                    go_wp2_with (first
                      | (refine wpList_load_mid (by rfl) 66 _ (by rfl) b (off + k * 9) (by rfl) m.cells.toList _ hrow Try.underlying66 rfl (by kernel_rfl) ?_)
                      | (refine store_blk (by rfl) 66 _ _ (by rfl) wr.heap.size (by rfl) msgZero m.cells 66 HZ.out (by rfl) (by rfl) (by kernel_rfl) (one_msg _) ?_; change wpList _ _ _ _ _ (World.setCells (wr.alloc (.cells msgZero 66)) wr.heap.size 0 m.cells.toList); rw [alloc_setCells wr msgZero m.cells 66 rfl wr.heap.size rfl])
                      | (refine load_blk (by rfl) 66 _ (by rfl) wr.heap.size (by rfl) #[.int .i64 m.kind, .int .i64 m.sym, .int .i64 m.seq, .int .i64 m.tick, .int .i64 m.id, .int .i64 m.wth, .int .i64 m.price, .int .i64 m.qty, .int .i64 m.code] 66 HM.out _ Try.underlying66 rfl (by kernel_rfl) ?_)
                      | (at_builtin; refine wpList_append_lies _ (by rfl) _ _ _ (by rfl) w.heap.size 66 i0 (.agg msgZero) 9 72 Try.underlying45 hi0 hz0 hz1 hz2 (by rfl) (by decide) _ ((ms.take k).filter (isT sym)).length (cellsOf ((ms.take k).filter (isT sym))) (by rfl) HR2.out ⟨wr.heap.size + 1, 0, none⟩ 1 1 m.cells.toList (by rfl) (by rfl) (news_blk HNB.out) (one_mem (one_msg m)) (by decide) (by unfold maxLen; have := HLEN.out; omega) (by have := HLEN.out; omega) HB2.out.size (wr.heap.size + 1 + 1) (by simp) ?_; intro g cap2 w5 hown5 hgrow5 hat5 hlt5))
                    have HB5 := Lib.hid (below_push HB2.out HR2.out hgrow5 HB2.out.size)
                    have HR5 := Lib.hid hown5
                    clear hown5 hgrow5 hat5 hlt5
                    go_wp2
                    go_roundw
                    case rel => exact ⟨k + 1, by omega, by go_num, by rw [HY.out HF.out, cellsOf_app, List.length_append]; exact HR5.out, HB5.out⟩
                    case measure => simp [intOf]; omega
                  · have HF := Lib.hid (isT_false (sym := sym) (fun h => htk h.2.2.1))
                    clear hkd hsy
                    have h2 : m.tick < 0 := by omega
                    go_wp2_with (first
                      | (refine wpList_load_mid (by rfl) 66 _ (by rfl) b (off + k * 9) (by rfl) m.cells.toList _ hrow Try.underlying66 rfl (by kernel_rfl) ?_)
                      | (refine store_blk (by rfl) 66 _ _ (by rfl) wr.heap.size (by rfl) msgZero m.cells 66 HZ.out (by rfl) (by rfl) (by kernel_rfl) (one_msg _) ?_; change wpList _ _ _ _ _ (World.setCells (wr.alloc (.cells msgZero 66)) wr.heap.size 0 m.cells.toList); rw [alloc_setCells wr msgZero m.cells 66 rfl wr.heap.size rfl])
                      )
                    go_roundw
                    case rel => exact ⟨k + 1, by omega, by go_num, by rw [HN.out HF.out]; exact HRN.out, HBN.out⟩
                    case measure => simp [intOf]; omega
                · have HF := Lib.hid (isT_false (sym := sym) (fun h => hq2 h.2.2.2.2.2))
                  clear hkd hsy
                  have h2 : 4294967296 < m.qty := by omega
                  go_wp2_with (first
                    | (refine wpList_load_mid (by rfl) 66 _ (by rfl) b (off + k * 9) (by rfl) m.cells.toList _ hrow Try.underlying66 rfl (by kernel_rfl) ?_)
                    | (refine store_blk (by rfl) 66 _ _ (by rfl) wr.heap.size (by rfl) msgZero m.cells 66 HZ.out (by rfl) (by rfl) (by kernel_rfl) (one_msg _) ?_; change wpList _ _ _ _ _ (World.setCells (wr.alloc (.cells msgZero 66)) wr.heap.size 0 m.cells.toList); rw [alloc_setCells wr msgZero m.cells 66 rfl wr.heap.size rfl])
                    )
                  go_roundw
                  case rel => exact ⟨k + 1, by omega, by go_num, by rw [HN.out HF.out]; exact HRN.out, HBN.out⟩
                  case measure => simp [intOf]; omega
              · have HF := Lib.hid (isT_false (sym := sym) (fun h => hq1 h.2.2.2.2.1))
                clear hkd hsy
                have h2 : m.qty < 1 := by omega
                go_wp2_with (first
                  | (refine wpList_load_mid (by rfl) 66 _ (by rfl) b (off + k * 9) (by rfl) m.cells.toList _ hrow Try.underlying66 rfl (by kernel_rfl) ?_)
                  | (refine store_blk (by rfl) 66 _ _ (by rfl) wr.heap.size (by rfl) msgZero m.cells 66 HZ.out (by rfl) (by rfl) (by kernel_rfl) (one_msg _) ?_; change wpList _ _ _ _ _ (World.setCells (wr.alloc (.cells msgZero 66)) wr.heap.size 0 m.cells.toList); rw [alloc_setCells wr msgZero m.cells 66 rfl wr.heap.size rfl])
                  )
                go_roundw
                case rel => exact ⟨k + 1, by omega, by go_num, by rw [HN.out HF.out]; exact HRN.out, HBN.out⟩
                case measure => simp [intOf]; omega
            · have HF := Lib.hid (isT_false (sym := sym) (fun h => hp2 h.2.2.2.1.2))
              clear hkd hsy
              have h2 : 1099511627776 < m.price := by omega
              go_wp2_with (first
                | (refine wpList_load_mid (by rfl) 66 _ (by rfl) b (off + k * 9) (by rfl) m.cells.toList _ hrow Try.underlying66 rfl (by kernel_rfl) ?_)
                | (refine store_blk (by rfl) 66 _ _ (by rfl) wr.heap.size (by rfl) msgZero m.cells 66 HZ.out (by rfl) (by rfl) (by kernel_rfl) (one_msg _) ?_; change wpList _ _ _ _ _ (World.setCells (wr.alloc (.cells msgZero 66)) wr.heap.size 0 m.cells.toList); rw [alloc_setCells wr msgZero m.cells 66 rfl wr.heap.size rfl])
                )
              go_roundw
              case rel => exact ⟨k + 1, by omega, by go_num, by rw [HN.out HF.out]; exact HRN.out, HBN.out⟩
              case measure => simp [intOf]; omega
          · have HF := Lib.hid (isT_false (sym := sym) (fun h => hp1 h.2.2.2.1.1))
            clear hkd hsy
            have h2 : m.price < 1 := by omega
            go_wp2_with (first
              | (refine wpList_load_mid (by rfl) 66 _ (by rfl) b (off + k * 9) (by rfl) m.cells.toList _ hrow Try.underlying66 rfl (by kernel_rfl) ?_)
              | (refine store_blk (by rfl) 66 _ _ (by rfl) wr.heap.size (by rfl) msgZero m.cells 66 HZ.out (by rfl) (by rfl) (by kernel_rfl) (one_msg _) ?_; change wpList _ _ _ _ _ (World.setCells (wr.alloc (.cells msgZero 66)) wr.heap.size 0 m.cells.toList); rw [alloc_setCells wr msgZero m.cells 66 rfl wr.heap.size rfl])
              )
            go_roundw
            case rel => exact ⟨k + 1, by omega, by go_num, by rw [HN.out HF.out]; exact HRN.out, HBN.out⟩
            case measure => simp [intOf]; omega
        · have HF := Lib.hid (isT_false (fun h => hsy h.2.1))
          have b2 : (m.sym == sym) = false := by simpa using hsy
          clear hkd hsy
          go_wp2_with (first
            | (refine wpList_load_mid (by rfl) 66 _ (by rfl) b (off + k * 9) (by rfl) m.cells.toList _ hrow Try.underlying66 rfl (by kernel_rfl) ?_)
            | (refine store_blk (by rfl) 66 _ _ (by rfl) wr.heap.size (by rfl) msgZero m.cells 66 HZ.out (by rfl) (by rfl) (by kernel_rfl) (one_msg _) ?_; change wpList _ _ _ _ _ (World.setCells (wr.alloc (.cells msgZero 66)) wr.heap.size 0 m.cells.toList); rw [alloc_setCells wr msgZero m.cells 66 rfl wr.heap.size rfl])
            )
          go_roundw
          case rel => exact ⟨k + 1, by omega, by go_num, by rw [HN.out HF.out]; exact HRN.out, HBN.out⟩
          case measure => simp [intOf]; omega
      · have HF := Lib.hid (isT_false (sym := sym) (fun h => hkd h.1))
        have b1 : (m.kind == 3) = false := by simpa using hkd
        clear hkd
        go_wp2_with (first
          | (refine wpList_load_mid (by rfl) 66 _ (by rfl) b (off + k * 9) (by rfl) m.cells.toList _ hrow Try.underlying66 rfl (by kernel_rfl) ?_)
          | (refine store_blk (by rfl) 66 _ _ (by rfl) wr.heap.size (by rfl) msgZero m.cells 66 HZ.out (by rfl) (by rfl) (by kernel_rfl) (one_msg _) ?_; change wpList _ _ _ _ _ (World.setCells (wr.alloc (.cells msgZero 66)) wr.heap.size 0 m.cells.toList); rw [alloc_setCells wr msgZero m.cells 66 rfl wr.heap.size rfl])
          )
        go_roundw
        case rel => exact ⟨k + 1, by omega, by go_num, by rw [HN.out HF.out]; exact HRN.out, HBN.out⟩
        case measure => simp [intOf]; omega
    · obtain rfl : k = ms.length := by omega
      rw [List.take_length] at HRW ⊢
      have g1 : (ms.length : Int) ≤ (ms.length : Int) := by omega
      go_wp2
      go_ret
      exact ⟨_, rfl, HRW.out, HBW.out⟩
end Go.Proofs.Ytogjgpiddjmpiaa.Tape

/- (*depth.Depth).Put: acknowledgements, trades, ends. -/
namespace Go.Proofs.Ytogjgpiddjmpiaa.Depth
open Go.RowKit Go.Proofs.Ytogjgpiddjmpiaa.Kit Go.Proofs.Ytogjgpiddjmpiaa.Blk Go.Proofs.Ytogjgpiddjmpiaa.Mp Go.Proofs.Ytogjgpiddjmpiaa.Msgs
attribute [local go_sem ↓] Go.wp_at_zero Go.wp_at_succ
set_option linter.unusedVariables false
theorem less_yes {L : List (Key × Rest)} {k : Key} {x : Rest} (h : mget k L = some x) (q : Int) : (lessF L k q).2 = true := by
  unfold lessF; rw [h]; dsimp only; split <;> rfl
theorem less_no {L : List (Key × Rest)} {k : Key} (h : mget k L = none) (q : Int) : lessF L k q = (L, false) := by
  unfold lessF; rw [h]
theorem sided_any (s : Int) (w : World) : Calls Try.prog 82 #[.int .i64 s] w fun e w' => e = .returned (.bool (decide (s = 0) || decide (s = 1))) ∧ w = w' := by
  by_cases h0 : s = 0
  · subst h0
    go_enter Try.func82, Try.ntmps82
    go_wp2_with fail
    go_ret
    exact ⟨rfl, rfl⟩
  · have g0 : (s == 0) = false := by simpa using h0
    have HE := Lib.hid (show (decide (s = 0) || decide (s = 1)) = (s == 1) by simp [h0]; rfl)
    clear h0
    go_enter Try.func82, Try.ntmps82
    go_wp2_with fail
    go_ret
    exact ⟨ret_bool HE.out.symm, rfl⟩
/-- No number leaves its range. -/
theorem fits {L : List (Key × Rest)} (h : OkL L) (k : Key) (q : Int) (q0 : 0 ≤ q) (q1 : q ≤ 1125899906842624) : ∀ x, mget k L = some x → -9223372036854775808 ≤ x.qty - q ∧ x.qty - q ≤ 9223372036854775807 := fun x hx => by
  have := h _ (mget_mem hx); dsimp only at this; omega

set_option maxRecDepth 20000 in
set_option maxHeartbeats 2000000 in
theorem put_done (D b : Nat) (L : List (Key × Rest)) (m : Msg) (w : World) (h : DS w D b L) (hok : OkL L) (h4 : m.kind = 4) :
    Calls Try.prog 37 #[.pointer (some ⟨D, 0, none⟩), .agg m.cells] w (PutIs L m D b w) := by
  have g1 : (m.kind == 1) = false := by simp [h4]
  have g3 : (m.kind == 3) = false := by simp [h4]
  have g4 : (m.kind == 4) = true := by simp [h4]
  cases hk : mget (m.sym, m.id) L with
  | none =>
    have HE := Lib.hid (show putF L m = (L, false) by simp [putF, h4, hk])
    clear h4
    have HD0 := Lib.hid ((h.alloc (.cells m.cells 66)).alloc (.cells #[.int .i64 m.sym, .int .i64 m.id] 164))
    have HM0 := Lib.hid ((Blk.new w m.cells 66 w.heap.size rfl).old (.cells #[.int .i64 m.sym, .int .i64 m.id] 164))
    have HK0 := Lib.hid (Blk.new (w.alloc (.cells m.cells 66)) #[.int .i64 m.sym, .int .i64 m.id] 164 (w.heap.size + 1) (by simp))
    have HC0 := Lib.hid (show Chg w.heap.size b w ((w.alloc (.cells m.cells 66)).alloc (.cells #[.int .i64 m.sym, .int .i64 m.id] 164)) from ((Chg.refl _ _ _).alloc (Nat.le_refl _) _).alloc (by simp) _)
    have hD := h.box.lt
    have hb := h.map.lt
    have m1 : (w.alloc (.cells m.cells 66)).cell? ⟨w.heap.size, 1, none⟩ = some (.int .i64 m.sym) := (Blk.new w m.cells 66 w.heap.size rfl).cell 1 rfl
    have m4 : (w.alloc (.cells m.cells 66)).cell? ⟨w.heap.size, 4, none⟩ = some (.int .i64 m.id) := (Blk.new w m.cells 66 w.heap.size rfl).cell 4 rfl
    have HL := Lib.hid (fun W (hm : MapIs W b ke ve L) => show (Instr.lookup 160 (.map (some b)) (.agg #[.int .i64 m.sym, .int .i64 m.id]) true).run Try.prog W = .ok (.tuple #[.agg #[.int .i64 (0), .int .i64 (0), .int .i64 (0)], .bool false]) W by have := look_at hm m.sym m.id; rw [hk] at this; exact this)
    have HK := Lib.hid hk
    clear h hk
    go_enter Try.func37, Try.ntmps37
    go_upto_region 4 with fail
    clear m1 m4
    change Code.wp _ _ _ _ ((w.alloc (.cells m.cells 66)).alloc (.cells #[.int .i64 m.sym, .int .i64 m.id] 164))
    refine wp_region_held_drew (S := (fun w' => w'.cell? ⟨D, 0, none⟩ = some (.map (some b)) ∧ w'.cell? ⟨w.heap.size + 1, 0, none⟩ = some (.int .i64 m.sym) ∧ w'.cell? ⟨w.heap.size + 1, 1, none⟩ = some (.int .i64 m.id) ∧ (Instr.lookup 160 (.map (some b)) (.agg #[.int .i64 m.sym, .int .i64 m.id]) true).run Try.prog w' = .ok (.tuple #[.agg #[.int .i64 (0), .int .i64 (0), .int .i64 (0)], .bool false]) w')) (by kernel_rfl) ⟨HD0.out.box.cell 0 rfl, HK0.out.cell 0 rfl, HK0.out.cell 1 rfl, HL.out _ HD0.out.map.drew⟩ (fun hHeld => ?_)
    replace HD0 := Lib.hid HD0.out.drew
    replace HM0 := Lib.hid HM0.out.drew
    replace HK0 := Lib.hid HK0.out.drew
    replace HC0 := Lib.hid HC0.out.drew
    have hsz : w.heap.size + 1 < ((w.alloc (.cells m.cells 66)).alloc (.cells #[.int .i64 m.sym, .int .i64 m.id] 164)).drew.heap.size := HK0.out.lt
    generalize ((w.alloc (.cells m.cells 66)).alloc (.cells #[.int .i64 m.sym, .int .i64 m.id] 164)).drew = W1 at HD0 HM0 HK0 HC0 hHeld hsz ⊢
    refine wpAnyH_take (i := 0) (oi := ⟨some 18, _, _, _, _, _⟩) (v := (.pointer (some ⟨D, 0, none⟩))) rfl (by kernel_rfl) (by kernel_rfl) (by kernel_rfl) (fun _ _ _ h => h) (Or.inl ⟨by rfl, fun w hSw => by (try dsimp only at hSw); go_simp⟩) (by assumption) ?_
    simp only [Act.put, List.setIfInBounds_toArray, List.set_cons_zero, List.set_cons_succ]
    refine wpAnyH_take (i := 1) (oi := ⟨some 19, _, _, _, _, _⟩) (v := (.pointer (some ⟨D, 0, none⟩))) rfl (by kernel_rfl) (by kernel_rfl) (by kernel_rfl) (fun _ _ _ h => h) (Or.inl ⟨by rfl, fun w hSw => by (try dsimp only at hSw); go_simp⟩) (by assumption) ?_
    simp only [Act.put, List.setIfInBounds_toArray, List.set_cons_zero, List.set_cons_succ]
    refine wpAnyH_take (i := 2) (oi := ⟨some 20, _, _, _, _, _⟩) (v := (.pointer (some ⟨D, 0, none⟩))) rfl (by kernel_rfl) (by kernel_rfl) (by kernel_rfl) (fun _ _ _ h => h) (Or.inl ⟨by rfl, fun w hSw => by (try dsimp only at hSw); go_simp⟩) (by assumption) ?_
    simp only [Act.put, List.setIfInBounds_toArray, List.set_cons_zero, List.set_cons_succ]
    refine wpAnyH_take (i := 3) (oi := ⟨some 21, _, _, _, _, _⟩) (v := (.map (some b))) rfl (by kernel_rfl) (by kernel_rfl) (by kernel_rfl) (fun _ _ _ h => h) (Or.inl ⟨by rfl, fun w hSw => by (try dsimp only at hSw); go_simp⟩) (by assumption) ?_
    simp only [Act.put, List.setIfInBounds_toArray, List.set_cons_zero, List.set_cons_succ]
    refine wpAnyH_take (i := 4) (oi := ⟨some 22, _, _, _, _, _⟩) (v := (.agg #[.int .i64 m.sym, .int .i64 m.id])) rfl (by kernel_rfl) (by kernel_rfl) (by kernel_rfl) (fun _ _ _ h => h) (Or.inl ⟨by rfl, fun w hSw => by (try dsimp only at hSw); go_simp⟩) (by assumption) ?_
    simp only [Act.put, List.setIfInBounds_toArray, List.set_cons_zero, List.set_cons_succ]
    refine wpAnyH_take (i := 5) (oi := ⟨some 23, _, _, _, _, _⟩) (v := (.tuple #[.agg #[.int .i64 (0), .int .i64 (0), .int .i64 (0)], .bool false])) rfl (by kernel_rfl) (by kernel_rfl) (by kernel_rfl) (fun _ _ _ h => h) (Or.inl ⟨by rfl, fun w hSw => by (try dsimp only at hSw); go_simp⟩) (by assumption) ?_
    simp only [Act.put, List.setIfInBounds_toArray, List.set_cons_zero, List.set_cons_succ]
    refine wpAnyH_take (i := 6) (oi := ⟨some 17, _, _, _, _, _⟩) (v := (.tuple #[.agg #[.int .i64 (0), .int .i64 (0), .int .i64 (0)], .bool false])) rfl (by kernel_rfl) (by kernel_rfl) (by kernel_rfl) (fun _ _ _ h => h) (Or.inl ⟨by rfl, fun w hSw => by (try dsimp only at hSw); go_simp⟩) (by assumption) ?_
    simp only [Act.put, List.setIfInBounds_toArray, List.set_cons_zero, List.set_cons_succ]
    refine wpAnyH_take (i := 7) (oi := ⟨some 24, _, _, _, _, _⟩) (v := (.agg #[.int .i64 (0), .int .i64 (0), .int .i64 (0)])) rfl (by kernel_rfl) (by kernel_rfl) (by kernel_rfl) (fun _ _ _ h => h) (Or.inl ⟨by rfl, fun w hSw => by (try dsimp only at hSw); go_simp⟩) (by assumption) ?_
    simp only [Act.put, List.setIfInBounds_toArray, List.set_cons_zero, List.set_cons_succ]
    refine wpAnyH_take (i := 8) (oi := ⟨some 25, _, _, _, _, _⟩) (v := (.bool false)) rfl (by kernel_rfl) (by kernel_rfl) (by kernel_rfl) (fun _ _ _ h => h) (Or.inl ⟨by rfl, fun w hSw => by (try dsimp only at hSw); go_simp⟩) (by assumption) ?_
    simp only [Act.put, List.setIfInBounds_toArray, List.set_cons_zero, List.set_cons_succ]
    refine wpAnyH_ready (rs := [9]) (by kernel_rfl) (by simp) ?_
    refine AllReadyH.cons (o := ⟨some 6, _, _, _, _, _⟩) rfl (fun KK hK => ?_) AllReadyH.nil
    go_simp
    change KK _ (W1.alloc (.cells restZ 166))
    have HS : Hid (QS w D b m W1.heap.size (W1.alloc (.cells restZ 166)) L restZ) := Lib.hid ⟨HD0.out.alloc _, HM0.out.old _, HK0.out.old _, Blk.new _ _ _ _ rfl, HC0.out.alloc HC0.out.size _, hD, hb, hsz⟩
    refine hK.out _ _ ⟨HS.out.ds.box.cell 0 rfl, HS.out.kb.cell 0 rfl, HS.out.kb.cell 1 rfl, HL.out _ HS.out.ds.map⟩ (fun hHeld => ?_)
    clear hK; try clear KK
    try simp only [Act.put, List.setIfInBounds_toArray, List.set_cons_zero, List.set_cons_succ]
    refine wpAnyH_ready (rs := [10]) (by kernel_rfl) (by simp) ?_
    refine AllReadyH.cons (o := ⟨none, _, _, _, _, _⟩) rfl (fun KK hK => ?_) AllReadyH.nil
    refine step_store_blk (by rfl) 166 _ _ (by rfl) W1.heap.size (by rfl) restZ #[.int .i64 (0), .int .i64 (0), .int .i64 (0)] 166 HS.out.x (by rfl) rfl (by kernel_rfl) (one_rest ⟨0, 0, 0⟩) ?_
    replace HS := Lib.hid (HS.out.mput #[.int .i64 (0), .int .i64 (0), .int .i64 (0)] rfl)
    refine hK.out _ _ ⟨HS.out.ds.box.cell 0 rfl, HS.out.kb.cell 0 rfl, HS.out.kb.cell 1 rfl, HL.out _ HS.out.ds.map⟩ (fun hHeld => ?_)
    clear hK; try clear KK
    refine wpAnyH_take (i := 11) (oi := ⟨some 7, _, _, _, _, _⟩) (v := (.bool false)) rfl (by kernel_rfl) (by kernel_rfl) (by kernel_rfl) (fun _ _ _ h => h) (Or.inl ⟨by rfl, fun w hSw => by (try dsimp only at hSw); go_simp⟩) (by assumption) ?_
    simp only [Act.put, List.setIfInBounds_toArray, List.set_cons_zero, List.set_cons_succ]
    refine wpAnyH_done (by kernel_rfl) ?_ _
    generalize hW2 : World.setCells (W1.alloc (.cells restZ 166)) W1.heap.size 0 #[.int .i64 (0), .int .i64 (0), .int .i64 (0)].toList = W2 at HS hHeld ⊢
    clear hW2 hHeld HD0 HM0 HK0 HC0
    generalize W1.heap.size = xb at HS hsz ⊢
    have m0 : W2.cell? ⟨w.heap.size, 0, none⟩ = some (.int .i64 m.kind) := HS.out.mb.cell 0 rfl
    have m1 : W2.cell? ⟨w.heap.size, 1, none⟩ = some (.int .i64 m.sym) := HS.out.mb.cell 1 rfl
    have m5 : W2.cell? ⟨w.heap.size, 5, none⟩ = some (.int .i64 m.wth) := HS.out.mb.cell 5 rfl
    have m6 : W2.cell? ⟨w.heap.size, 6, none⟩ = some (.int .i64 m.price) := HS.out.mb.cell 6 rfl
    have m7 : W2.cell? ⟨w.heap.size, 7, none⟩ = some (.int .i64 m.qty) := HS.out.mb.cell 7 rfl
    have m8 : W2.cell? ⟨w.heap.size, 8, none⟩ = some (.int .i64 m.code) := HS.out.mb.cell 8 rfl
    have k0 : W2.cell? ⟨w.heap.size + 1, 0, none⟩ = some (.int .i64 m.sym) := HS.out.kb.cell 0 rfl
    have k1 : W2.cell? ⟨w.heap.size + 1, 1, none⟩ = some (.int .i64 m.id) := HS.out.kb.cell 1 rfl
    go_wp2_with fail
    go_ret
    exact ⟨by (show Ending.returned (.bool false) = _; rw [HE.out]), by rw [HE.out]; exact HS.out.ds, HS.out.chg⟩
  | some x =>
    have HE := Lib.hid (show putF L m = ((lessF L (m.sym, m.id) x.qty).1, true) by simp [putF, h4, hk])
    have hx := hok _ (mget_mem hk)
    dsimp only at hx
    have HFI := Lib.hid (fits hok (m.sym, m.id) x.qty (by omega) (by omega))
    have HY := Lib.hid (less_yes hk x.qty)
    clear h4 hx
    have HD0 := Lib.hid ((h.alloc (.cells m.cells 66)).alloc (.cells #[.int .i64 m.sym, .int .i64 m.id] 164))
    have HM0 := Lib.hid ((Blk.new w m.cells 66 w.heap.size rfl).old (.cells #[.int .i64 m.sym, .int .i64 m.id] 164))
    have HK0 := Lib.hid (Blk.new (w.alloc (.cells m.cells 66)) #[.int .i64 m.sym, .int .i64 m.id] 164 (w.heap.size + 1) (by simp))
    have HC0 := Lib.hid (show Chg w.heap.size b w ((w.alloc (.cells m.cells 66)).alloc (.cells #[.int .i64 m.sym, .int .i64 m.id] 164)) from ((Chg.refl _ _ _).alloc (Nat.le_refl _) _).alloc (by simp) _)
    have hD := h.box.lt
    have hb := h.map.lt
    have m1 : (w.alloc (.cells m.cells 66)).cell? ⟨w.heap.size, 1, none⟩ = some (.int .i64 m.sym) := (Blk.new w m.cells 66 w.heap.size rfl).cell 1 rfl
    have m4 : (w.alloc (.cells m.cells 66)).cell? ⟨w.heap.size, 4, none⟩ = some (.int .i64 m.id) := (Blk.new w m.cells 66 w.heap.size rfl).cell 4 rfl
    have HL := Lib.hid (fun W (hm : MapIs W b ke ve L) => show (Instr.lookup 160 (.map (some b)) (.agg #[.int .i64 m.sym, .int .i64 m.id]) true).run Try.prog W = .ok (.tuple #[.agg #[.int .i64 (x.side), .int .i64 (x.price), .int .i64 (x.qty)], .bool true]) W by have := look_at hm m.sym m.id; rw [hk] at this; exact this)
    have HK := Lib.hid hk
    clear h hk
    go_enter Try.func37, Try.ntmps37
    go_upto_region 4 with fail
    clear m1 m4
    change Code.wp _ _ _ _ ((w.alloc (.cells m.cells 66)).alloc (.cells #[.int .i64 m.sym, .int .i64 m.id] 164))
    refine wp_region_held_drew (S := (fun w' => w'.cell? ⟨D, 0, none⟩ = some (.map (some b)) ∧ w'.cell? ⟨w.heap.size + 1, 0, none⟩ = some (.int .i64 m.sym) ∧ w'.cell? ⟨w.heap.size + 1, 1, none⟩ = some (.int .i64 m.id) ∧ (Instr.lookup 160 (.map (some b)) (.agg #[.int .i64 m.sym, .int .i64 m.id]) true).run Try.prog w' = .ok (.tuple #[.agg #[.int .i64 (x.side), .int .i64 (x.price), .int .i64 (x.qty)], .bool true]) w')) (by kernel_rfl) ⟨HD0.out.box.cell 0 rfl, HK0.out.cell 0 rfl, HK0.out.cell 1 rfl, HL.out _ HD0.out.map.drew⟩ (fun hHeld => ?_)
    replace HD0 := Lib.hid HD0.out.drew
    replace HM0 := Lib.hid HM0.out.drew
    replace HK0 := Lib.hid HK0.out.drew
    replace HC0 := Lib.hid HC0.out.drew
    have hsz : w.heap.size + 1 < ((w.alloc (.cells m.cells 66)).alloc (.cells #[.int .i64 m.sym, .int .i64 m.id] 164)).drew.heap.size := HK0.out.lt
    generalize ((w.alloc (.cells m.cells 66)).alloc (.cells #[.int .i64 m.sym, .int .i64 m.id] 164)).drew = W1 at HD0 HM0 HK0 HC0 hHeld hsz ⊢
    refine wpAnyH_take (i := 0) (oi := ⟨some 18, _, _, _, _, _⟩) (v := (.pointer (some ⟨D, 0, none⟩))) rfl (by kernel_rfl) (by kernel_rfl) (by kernel_rfl) (fun _ _ _ h => h) (Or.inl ⟨by rfl, fun w hSw => by (try dsimp only at hSw); go_simp⟩) (by assumption) ?_
    simp only [Act.put, List.setIfInBounds_toArray, List.set_cons_zero, List.set_cons_succ]
    refine wpAnyH_take (i := 1) (oi := ⟨some 19, _, _, _, _, _⟩) (v := (.pointer (some ⟨D, 0, none⟩))) rfl (by kernel_rfl) (by kernel_rfl) (by kernel_rfl) (fun _ _ _ h => h) (Or.inl ⟨by rfl, fun w hSw => by (try dsimp only at hSw); go_simp⟩) (by assumption) ?_
    simp only [Act.put, List.setIfInBounds_toArray, List.set_cons_zero, List.set_cons_succ]
    refine wpAnyH_take (i := 2) (oi := ⟨some 20, _, _, _, _, _⟩) (v := (.pointer (some ⟨D, 0, none⟩))) rfl (by kernel_rfl) (by kernel_rfl) (by kernel_rfl) (fun _ _ _ h => h) (Or.inl ⟨by rfl, fun w hSw => by (try dsimp only at hSw); go_simp⟩) (by assumption) ?_
    simp only [Act.put, List.setIfInBounds_toArray, List.set_cons_zero, List.set_cons_succ]
    refine wpAnyH_take (i := 3) (oi := ⟨some 21, _, _, _, _, _⟩) (v := (.map (some b))) rfl (by kernel_rfl) (by kernel_rfl) (by kernel_rfl) (fun _ _ _ h => h) (Or.inl ⟨by rfl, fun w hSw => by (try dsimp only at hSw); go_simp⟩) (by assumption) ?_
    simp only [Act.put, List.setIfInBounds_toArray, List.set_cons_zero, List.set_cons_succ]
    refine wpAnyH_take (i := 4) (oi := ⟨some 22, _, _, _, _, _⟩) (v := (.agg #[.int .i64 m.sym, .int .i64 m.id])) rfl (by kernel_rfl) (by kernel_rfl) (by kernel_rfl) (fun _ _ _ h => h) (Or.inl ⟨by rfl, fun w hSw => by (try dsimp only at hSw); go_simp⟩) (by assumption) ?_
    simp only [Act.put, List.setIfInBounds_toArray, List.set_cons_zero, List.set_cons_succ]
    refine wpAnyH_take (i := 5) (oi := ⟨some 23, _, _, _, _, _⟩) (v := (.tuple #[.agg #[.int .i64 (x.side), .int .i64 (x.price), .int .i64 (x.qty)], .bool true])) rfl (by kernel_rfl) (by kernel_rfl) (by kernel_rfl) (fun _ _ _ h => h) (Or.inl ⟨by rfl, fun w hSw => by (try dsimp only at hSw); go_simp⟩) (by assumption) ?_
    simp only [Act.put, List.setIfInBounds_toArray, List.set_cons_zero, List.set_cons_succ]
    refine wpAnyH_take (i := 6) (oi := ⟨some 17, _, _, _, _, _⟩) (v := (.tuple #[.agg #[.int .i64 (x.side), .int .i64 (x.price), .int .i64 (x.qty)], .bool true])) rfl (by kernel_rfl) (by kernel_rfl) (by kernel_rfl) (fun _ _ _ h => h) (Or.inl ⟨by rfl, fun w hSw => by (try dsimp only at hSw); go_simp⟩) (by assumption) ?_
    simp only [Act.put, List.setIfInBounds_toArray, List.set_cons_zero, List.set_cons_succ]
    refine wpAnyH_take (i := 7) (oi := ⟨some 24, _, _, _, _, _⟩) (v := (.agg #[.int .i64 (x.side), .int .i64 (x.price), .int .i64 (x.qty)])) rfl (by kernel_rfl) (by kernel_rfl) (by kernel_rfl) (fun _ _ _ h => h) (Or.inl ⟨by rfl, fun w hSw => by (try dsimp only at hSw); go_simp⟩) (by assumption) ?_
    simp only [Act.put, List.setIfInBounds_toArray, List.set_cons_zero, List.set_cons_succ]
    refine wpAnyH_take (i := 8) (oi := ⟨some 25, _, _, _, _, _⟩) (v := (.bool true)) rfl (by kernel_rfl) (by kernel_rfl) (by kernel_rfl) (fun _ _ _ h => h) (Or.inl ⟨by rfl, fun w hSw => by (try dsimp only at hSw); go_simp⟩) (by assumption) ?_
    simp only [Act.put, List.setIfInBounds_toArray, List.set_cons_zero, List.set_cons_succ]
    refine wpAnyH_ready (rs := [9]) (by kernel_rfl) (by simp) ?_
    refine AllReadyH.cons (o := ⟨some 6, _, _, _, _, _⟩) rfl (fun KK hK => ?_) AllReadyH.nil
    go_simp
    change KK _ (W1.alloc (.cells restZ 166))
    have HS : Hid (QS w D b m W1.heap.size (W1.alloc (.cells restZ 166)) L restZ) := Lib.hid ⟨HD0.out.alloc _, HM0.out.old _, HK0.out.old _, Blk.new _ _ _ _ rfl, HC0.out.alloc HC0.out.size _, hD, hb, hsz⟩
    refine hK.out _ _ ⟨HS.out.ds.box.cell 0 rfl, HS.out.kb.cell 0 rfl, HS.out.kb.cell 1 rfl, HL.out _ HS.out.ds.map⟩ (fun hHeld => ?_)
    clear hK; try clear KK
    try simp only [Act.put, List.setIfInBounds_toArray, List.set_cons_zero, List.set_cons_succ]
    refine wpAnyH_ready (rs := [10]) (by kernel_rfl) (by simp) ?_
    refine AllReadyH.cons (o := ⟨none, _, _, _, _, _⟩) rfl (fun KK hK => ?_) AllReadyH.nil
    refine step_store_blk (by rfl) 166 _ _ (by rfl) W1.heap.size (by rfl) restZ #[.int .i64 (x.side), .int .i64 (x.price), .int .i64 (x.qty)] 166 HS.out.x (by rfl) rfl (by kernel_rfl) (one_rest ⟨x.side, x.price, x.qty⟩) ?_
    replace HS := Lib.hid (HS.out.mput #[.int .i64 (x.side), .int .i64 (x.price), .int .i64 (x.qty)] rfl)
    refine hK.out _ _ ⟨HS.out.ds.box.cell 0 rfl, HS.out.kb.cell 0 rfl, HS.out.kb.cell 1 rfl, HL.out _ HS.out.ds.map⟩ (fun hHeld => ?_)
    clear hK; try clear KK
    refine wpAnyH_take (i := 11) (oi := ⟨some 7, _, _, _, _, _⟩) (v := (.bool true)) rfl (by kernel_rfl) (by kernel_rfl) (by kernel_rfl) (fun _ _ _ h => h) (Or.inl ⟨by rfl, fun w hSw => by (try dsimp only at hSw); go_simp⟩) (by assumption) ?_
    simp only [Act.put, List.setIfInBounds_toArray, List.set_cons_zero, List.set_cons_succ]
    refine wpAnyH_done (by kernel_rfl) ?_ _
    generalize hW2 : World.setCells (W1.alloc (.cells restZ 166)) W1.heap.size 0 #[.int .i64 (x.side), .int .i64 (x.price), .int .i64 (x.qty)].toList = W2 at HS hHeld ⊢
    clear hW2 hHeld HD0 HM0 HK0 HC0
    generalize W1.heap.size = xb at HS hsz ⊢
    have m0 : W2.cell? ⟨w.heap.size, 0, none⟩ = some (.int .i64 m.kind) := HS.out.mb.cell 0 rfl
    have m1 : W2.cell? ⟨w.heap.size, 1, none⟩ = some (.int .i64 m.sym) := HS.out.mb.cell 1 rfl
    have m5 : W2.cell? ⟨w.heap.size, 5, none⟩ = some (.int .i64 m.wth) := HS.out.mb.cell 5 rfl
    have m6 : W2.cell? ⟨w.heap.size, 6, none⟩ = some (.int .i64 m.price) := HS.out.mb.cell 6 rfl
    have m7 : W2.cell? ⟨w.heap.size, 7, none⟩ = some (.int .i64 m.qty) := HS.out.mb.cell 7 rfl
    have m8 : W2.cell? ⟨w.heap.size, 8, none⟩ = some (.int .i64 m.code) := HS.out.mb.cell 8 rfl
    have k0 : W2.cell? ⟨w.heap.size + 1, 0, none⟩ = some (.int .i64 m.sym) := HS.out.kb.cell 0 rfl
    have k1 : W2.cell? ⟨w.heap.size + 1, 1, none⟩ = some (.int .i64 m.id) := HS.out.kb.cell 1 rfl
    have x2 : W2.cell? ⟨xb, 2, none⟩ = some (.int .i64 x.qty) := HS.out.x.cell 2 rfl
    go_wp2_with fail
    refine (less_any D b L m.sym m.id x.qty _ HS.out.ds HFI.out).mono ?_
    rintro e w3 ⟨rfl, hd3, hc3⟩
    rw [HY.out]
    replace HS := Lib.hid (HS.out.turnD hd3 hc3)
    clear hd3 hc3 x2
    go_wp2_with fail
    go_ret
    exact ⟨by (show Ending.returned (.bool true) = _; rw [HE.out]), by rw [HE.out]; exact HS.out.ds, HS.out.chg⟩

set_option maxRecDepth 20000 in
set_option maxHeartbeats 4000000 in
theorem put_trade (D b : Nat) (L : List (Key × Rest)) (m : Msg) (w : World) (h : DS w D b L) (hok : OkL L) (h3 : m.kind = 3) (hq1 : m.qty ≤ 1125899906842624) :
    Calls Try.prog 37 #[.pointer (some ⟨D, 0, none⟩), .agg m.cells] w (PutIs L m D b w) := by
  have g1 : (m.kind == 1) = false := by simp [h3]
  have g3 : (m.kind == 3) = true := by simp [h3]
  by_cases hq : m.qty < 1
  · have HE := Lib.hid (show putF L m = (L, false) by simp [putF, h3, hq])
    clear h3
    cases hk : mget (m.sym, m.id) L with
    | none =>
      have HD0 := Lib.hid ((h.alloc (.cells m.cells 66)).alloc (.cells #[.int .i64 m.sym, .int .i64 m.id] 164))
      have HM0 := Lib.hid ((Blk.new w m.cells 66 w.heap.size rfl).old (.cells #[.int .i64 m.sym, .int .i64 m.id] 164))
      have HK0 := Lib.hid (Blk.new (w.alloc (.cells m.cells 66)) #[.int .i64 m.sym, .int .i64 m.id] 164 (w.heap.size + 1) (by simp))
      have HC0 := Lib.hid (show Chg w.heap.size b w ((w.alloc (.cells m.cells 66)).alloc (.cells #[.int .i64 m.sym, .int .i64 m.id] 164)) from ((Chg.refl _ _ _).alloc (Nat.le_refl _) _).alloc (by simp) _)
      have hD := h.box.lt
      have hb := h.map.lt
      have m1 : (w.alloc (.cells m.cells 66)).cell? ⟨w.heap.size, 1, none⟩ = some (.int .i64 m.sym) := (Blk.new w m.cells 66 w.heap.size rfl).cell 1 rfl
      have m4 : (w.alloc (.cells m.cells 66)).cell? ⟨w.heap.size, 4, none⟩ = some (.int .i64 m.id) := (Blk.new w m.cells 66 w.heap.size rfl).cell 4 rfl
      have HL := Lib.hid (fun W (hm : MapIs W b ke ve L) => show (Instr.lookup 160 (.map (some b)) (.agg #[.int .i64 m.sym, .int .i64 m.id]) true).run Try.prog W = .ok (.tuple #[.agg #[.int .i64 (0), .int .i64 (0), .int .i64 (0)], .bool false]) W by have := look_at hm m.sym m.id; rw [hk] at this; exact this)
      have HK := Lib.hid hk
      clear h hk
      go_enter Try.func37, Try.ntmps37
      go_upto_region 4 with fail
      clear m1 m4
      change Code.wp _ _ _ _ ((w.alloc (.cells m.cells 66)).alloc (.cells #[.int .i64 m.sym, .int .i64 m.id] 164))
      refine wp_region_held_drew (S := (fun w' => w'.cell? ⟨D, 0, none⟩ = some (.map (some b)) ∧ w'.cell? ⟨w.heap.size + 1, 0, none⟩ = some (.int .i64 m.sym) ∧ w'.cell? ⟨w.heap.size + 1, 1, none⟩ = some (.int .i64 m.id) ∧ (Instr.lookup 160 (.map (some b)) (.agg #[.int .i64 m.sym, .int .i64 m.id]) true).run Try.prog w' = .ok (.tuple #[.agg #[.int .i64 (0), .int .i64 (0), .int .i64 (0)], .bool false]) w')) (by kernel_rfl) ⟨HD0.out.box.cell 0 rfl, HK0.out.cell 0 rfl, HK0.out.cell 1 rfl, HL.out _ HD0.out.map.drew⟩ (fun hHeld => ?_)
      replace HD0 := Lib.hid HD0.out.drew
      replace HM0 := Lib.hid HM0.out.drew
      replace HK0 := Lib.hid HK0.out.drew
      replace HC0 := Lib.hid HC0.out.drew
      have hsz : w.heap.size + 1 < ((w.alloc (.cells m.cells 66)).alloc (.cells #[.int .i64 m.sym, .int .i64 m.id] 164)).drew.heap.size := HK0.out.lt
      generalize ((w.alloc (.cells m.cells 66)).alloc (.cells #[.int .i64 m.sym, .int .i64 m.id] 164)).drew = W1 at HD0 HM0 HK0 HC0 hHeld hsz ⊢
      refine wpAnyH_take (i := 0) (oi := ⟨some 18, _, _, _, _, _⟩) (v := (.pointer (some ⟨D, 0, none⟩))) rfl (by kernel_rfl) (by kernel_rfl) (by kernel_rfl) (fun _ _ _ h => h) (Or.inl ⟨by rfl, fun w hSw => by (try dsimp only at hSw); go_simp⟩) (by assumption) ?_
      simp only [Act.put, List.setIfInBounds_toArray, List.set_cons_zero, List.set_cons_succ]
      refine wpAnyH_take (i := 1) (oi := ⟨some 19, _, _, _, _, _⟩) (v := (.pointer (some ⟨D, 0, none⟩))) rfl (by kernel_rfl) (by kernel_rfl) (by kernel_rfl) (fun _ _ _ h => h) (Or.inl ⟨by rfl, fun w hSw => by (try dsimp only at hSw); go_simp⟩) (by assumption) ?_
      simp only [Act.put, List.setIfInBounds_toArray, List.set_cons_zero, List.set_cons_succ]
      refine wpAnyH_take (i := 2) (oi := ⟨some 20, _, _, _, _, _⟩) (v := (.pointer (some ⟨D, 0, none⟩))) rfl (by kernel_rfl) (by kernel_rfl) (by kernel_rfl) (fun _ _ _ h => h) (Or.inl ⟨by rfl, fun w hSw => by (try dsimp only at hSw); go_simp⟩) (by assumption) ?_
      simp only [Act.put, List.setIfInBounds_toArray, List.set_cons_zero, List.set_cons_succ]
      refine wpAnyH_take (i := 3) (oi := ⟨some 21, _, _, _, _, _⟩) (v := (.map (some b))) rfl (by kernel_rfl) (by kernel_rfl) (by kernel_rfl) (fun _ _ _ h => h) (Or.inl ⟨by rfl, fun w hSw => by (try dsimp only at hSw); go_simp⟩) (by assumption) ?_
      simp only [Act.put, List.setIfInBounds_toArray, List.set_cons_zero, List.set_cons_succ]
      refine wpAnyH_take (i := 4) (oi := ⟨some 22, _, _, _, _, _⟩) (v := (.agg #[.int .i64 m.sym, .int .i64 m.id])) rfl (by kernel_rfl) (by kernel_rfl) (by kernel_rfl) (fun _ _ _ h => h) (Or.inl ⟨by rfl, fun w hSw => by (try dsimp only at hSw); go_simp⟩) (by assumption) ?_
      simp only [Act.put, List.setIfInBounds_toArray, List.set_cons_zero, List.set_cons_succ]
      refine wpAnyH_take (i := 5) (oi := ⟨some 23, _, _, _, _, _⟩) (v := (.tuple #[.agg #[.int .i64 (0), .int .i64 (0), .int .i64 (0)], .bool false])) rfl (by kernel_rfl) (by kernel_rfl) (by kernel_rfl) (fun _ _ _ h => h) (Or.inl ⟨by rfl, fun w hSw => by (try dsimp only at hSw); go_simp⟩) (by assumption) ?_
      simp only [Act.put, List.setIfInBounds_toArray, List.set_cons_zero, List.set_cons_succ]
      refine wpAnyH_take (i := 6) (oi := ⟨some 17, _, _, _, _, _⟩) (v := (.tuple #[.agg #[.int .i64 (0), .int .i64 (0), .int .i64 (0)], .bool false])) rfl (by kernel_rfl) (by kernel_rfl) (by kernel_rfl) (fun _ _ _ h => h) (Or.inl ⟨by rfl, fun w hSw => by (try dsimp only at hSw); go_simp⟩) (by assumption) ?_
      simp only [Act.put, List.setIfInBounds_toArray, List.set_cons_zero, List.set_cons_succ]
      refine wpAnyH_take (i := 7) (oi := ⟨some 24, _, _, _, _, _⟩) (v := (.agg #[.int .i64 (0), .int .i64 (0), .int .i64 (0)])) rfl (by kernel_rfl) (by kernel_rfl) (by kernel_rfl) (fun _ _ _ h => h) (Or.inl ⟨by rfl, fun w hSw => by (try dsimp only at hSw); go_simp⟩) (by assumption) ?_
      simp only [Act.put, List.setIfInBounds_toArray, List.set_cons_zero, List.set_cons_succ]
      refine wpAnyH_take (i := 8) (oi := ⟨some 25, _, _, _, _, _⟩) (v := (.bool false)) rfl (by kernel_rfl) (by kernel_rfl) (by kernel_rfl) (fun _ _ _ h => h) (Or.inl ⟨by rfl, fun w hSw => by (try dsimp only at hSw); go_simp⟩) (by assumption) ?_
      simp only [Act.put, List.setIfInBounds_toArray, List.set_cons_zero, List.set_cons_succ]
      refine wpAnyH_ready (rs := [9]) (by kernel_rfl) (by simp) ?_
      refine AllReadyH.cons (o := ⟨some 6, _, _, _, _, _⟩) rfl (fun KK hK => ?_) AllReadyH.nil
      go_simp
      change KK _ (W1.alloc (.cells restZ 166))
      have HS : Hid (QS w D b m W1.heap.size (W1.alloc (.cells restZ 166)) L restZ) := Lib.hid ⟨HD0.out.alloc _, HM0.out.old _, HK0.out.old _, Blk.new _ _ _ _ rfl, HC0.out.alloc HC0.out.size _, hD, hb, hsz⟩
      refine hK.out _ _ ⟨HS.out.ds.box.cell 0 rfl, HS.out.kb.cell 0 rfl, HS.out.kb.cell 1 rfl, HL.out _ HS.out.ds.map⟩ (fun hHeld => ?_)
      clear hK; try clear KK
      try simp only [Act.put, List.setIfInBounds_toArray, List.set_cons_zero, List.set_cons_succ]
      refine wpAnyH_ready (rs := [10]) (by kernel_rfl) (by simp) ?_
      refine AllReadyH.cons (o := ⟨none, _, _, _, _, _⟩) rfl (fun KK hK => ?_) AllReadyH.nil
      refine step_store_blk (by rfl) 166 _ _ (by rfl) W1.heap.size (by rfl) restZ #[.int .i64 (0), .int .i64 (0), .int .i64 (0)] 166 HS.out.x (by rfl) rfl (by kernel_rfl) (one_rest ⟨0, 0, 0⟩) ?_
      replace HS := Lib.hid (HS.out.mput #[.int .i64 (0), .int .i64 (0), .int .i64 (0)] rfl)
      refine hK.out _ _ ⟨HS.out.ds.box.cell 0 rfl, HS.out.kb.cell 0 rfl, HS.out.kb.cell 1 rfl, HL.out _ HS.out.ds.map⟩ (fun hHeld => ?_)
      clear hK; try clear KK
      refine wpAnyH_take (i := 11) (oi := ⟨some 7, _, _, _, _, _⟩) (v := (.bool false)) rfl (by kernel_rfl) (by kernel_rfl) (by kernel_rfl) (fun _ _ _ h => h) (Or.inl ⟨by rfl, fun w hSw => by (try dsimp only at hSw); go_simp⟩) (by assumption) ?_
      simp only [Act.put, List.setIfInBounds_toArray, List.set_cons_zero, List.set_cons_succ]
      refine wpAnyH_done (by kernel_rfl) ?_ _
      generalize hW2 : World.setCells (W1.alloc (.cells restZ 166)) W1.heap.size 0 #[.int .i64 (0), .int .i64 (0), .int .i64 (0)].toList = W2 at HS hHeld ⊢
      clear hW2 hHeld HD0 HM0 HK0 HC0
      generalize W1.heap.size = xb at HS hsz ⊢
      have m0 : W2.cell? ⟨w.heap.size, 0, none⟩ = some (.int .i64 m.kind) := HS.out.mb.cell 0 rfl
      have m1 : W2.cell? ⟨w.heap.size, 1, none⟩ = some (.int .i64 m.sym) := HS.out.mb.cell 1 rfl
      have m5 : W2.cell? ⟨w.heap.size, 5, none⟩ = some (.int .i64 m.wth) := HS.out.mb.cell 5 rfl
      have m6 : W2.cell? ⟨w.heap.size, 6, none⟩ = some (.int .i64 m.price) := HS.out.mb.cell 6 rfl
      have m7 : W2.cell? ⟨w.heap.size, 7, none⟩ = some (.int .i64 m.qty) := HS.out.mb.cell 7 rfl
      have m8 : W2.cell? ⟨w.heap.size, 8, none⟩ = some (.int .i64 m.code) := HS.out.mb.cell 8 rfl
      have k0 : W2.cell? ⟨w.heap.size + 1, 0, none⟩ = some (.int .i64 m.sym) := HS.out.kb.cell 0 rfl
      have k1 : W2.cell? ⟨w.heap.size + 1, 1, none⟩ = some (.int .i64 m.id) := HS.out.kb.cell 1 rfl
      go_wp2_with fail
      go_ret
      exact ⟨by (show Ending.returned (.bool false) = _; rw [HE.out]), by rw [HE.out]; exact HS.out.ds, HS.out.chg⟩
    | some x =>
      have HD0 := Lib.hid ((h.alloc (.cells m.cells 66)).alloc (.cells #[.int .i64 m.sym, .int .i64 m.id] 164))
      have HM0 := Lib.hid ((Blk.new w m.cells 66 w.heap.size rfl).old (.cells #[.int .i64 m.sym, .int .i64 m.id] 164))
      have HK0 := Lib.hid (Blk.new (w.alloc (.cells m.cells 66)) #[.int .i64 m.sym, .int .i64 m.id] 164 (w.heap.size + 1) (by simp))
      have HC0 := Lib.hid (show Chg w.heap.size b w ((w.alloc (.cells m.cells 66)).alloc (.cells #[.int .i64 m.sym, .int .i64 m.id] 164)) from ((Chg.refl _ _ _).alloc (Nat.le_refl _) _).alloc (by simp) _)
      have hD := h.box.lt
      have hb := h.map.lt
      have m1 : (w.alloc (.cells m.cells 66)).cell? ⟨w.heap.size, 1, none⟩ = some (.int .i64 m.sym) := (Blk.new w m.cells 66 w.heap.size rfl).cell 1 rfl
      have m4 : (w.alloc (.cells m.cells 66)).cell? ⟨w.heap.size, 4, none⟩ = some (.int .i64 m.id) := (Blk.new w m.cells 66 w.heap.size rfl).cell 4 rfl
      have HL := Lib.hid (fun W (hm : MapIs W b ke ve L) => show (Instr.lookup 160 (.map (some b)) (.agg #[.int .i64 m.sym, .int .i64 m.id]) true).run Try.prog W = .ok (.tuple #[.agg #[.int .i64 (x.side), .int .i64 (x.price), .int .i64 (x.qty)], .bool true]) W by have := look_at hm m.sym m.id; rw [hk] at this; exact this)
      have HK := Lib.hid hk
      clear h hk
      go_enter Try.func37, Try.ntmps37
      go_upto_region 4 with fail
      clear m1 m4
      change Code.wp _ _ _ _ ((w.alloc (.cells m.cells 66)).alloc (.cells #[.int .i64 m.sym, .int .i64 m.id] 164))
      refine wp_region_held_drew (S := (fun w' => w'.cell? ⟨D, 0, none⟩ = some (.map (some b)) ∧ w'.cell? ⟨w.heap.size + 1, 0, none⟩ = some (.int .i64 m.sym) ∧ w'.cell? ⟨w.heap.size + 1, 1, none⟩ = some (.int .i64 m.id) ∧ (Instr.lookup 160 (.map (some b)) (.agg #[.int .i64 m.sym, .int .i64 m.id]) true).run Try.prog w' = .ok (.tuple #[.agg #[.int .i64 (x.side), .int .i64 (x.price), .int .i64 (x.qty)], .bool true]) w')) (by kernel_rfl) ⟨HD0.out.box.cell 0 rfl, HK0.out.cell 0 rfl, HK0.out.cell 1 rfl, HL.out _ HD0.out.map.drew⟩ (fun hHeld => ?_)
      replace HD0 := Lib.hid HD0.out.drew
      replace HM0 := Lib.hid HM0.out.drew
      replace HK0 := Lib.hid HK0.out.drew
      replace HC0 := Lib.hid HC0.out.drew
      have hsz : w.heap.size + 1 < ((w.alloc (.cells m.cells 66)).alloc (.cells #[.int .i64 m.sym, .int .i64 m.id] 164)).drew.heap.size := HK0.out.lt
      generalize ((w.alloc (.cells m.cells 66)).alloc (.cells #[.int .i64 m.sym, .int .i64 m.id] 164)).drew = W1 at HD0 HM0 HK0 HC0 hHeld hsz ⊢
      refine wpAnyH_take (i := 0) (oi := ⟨some 18, _, _, _, _, _⟩) (v := (.pointer (some ⟨D, 0, none⟩))) rfl (by kernel_rfl) (by kernel_rfl) (by kernel_rfl) (fun _ _ _ h => h) (Or.inl ⟨by rfl, fun w hSw => by (try dsimp only at hSw); go_simp⟩) (by assumption) ?_
      simp only [Act.put, List.setIfInBounds_toArray, List.set_cons_zero, List.set_cons_succ]
      refine wpAnyH_take (i := 1) (oi := ⟨some 19, _, _, _, _, _⟩) (v := (.pointer (some ⟨D, 0, none⟩))) rfl (by kernel_rfl) (by kernel_rfl) (by kernel_rfl) (fun _ _ _ h => h) (Or.inl ⟨by rfl, fun w hSw => by (try dsimp only at hSw); go_simp⟩) (by assumption) ?_
      simp only [Act.put, List.setIfInBounds_toArray, List.set_cons_zero, List.set_cons_succ]
      refine wpAnyH_take (i := 2) (oi := ⟨some 20, _, _, _, _, _⟩) (v := (.pointer (some ⟨D, 0, none⟩))) rfl (by kernel_rfl) (by kernel_rfl) (by kernel_rfl) (fun _ _ _ h => h) (Or.inl ⟨by rfl, fun w hSw => by (try dsimp only at hSw); go_simp⟩) (by assumption) ?_
      simp only [Act.put, List.setIfInBounds_toArray, List.set_cons_zero, List.set_cons_succ]
      refine wpAnyH_take (i := 3) (oi := ⟨some 21, _, _, _, _, _⟩) (v := (.map (some b))) rfl (by kernel_rfl) (by kernel_rfl) (by kernel_rfl) (fun _ _ _ h => h) (Or.inl ⟨by rfl, fun w hSw => by (try dsimp only at hSw); go_simp⟩) (by assumption) ?_
      simp only [Act.put, List.setIfInBounds_toArray, List.set_cons_zero, List.set_cons_succ]
      refine wpAnyH_take (i := 4) (oi := ⟨some 22, _, _, _, _, _⟩) (v := (.agg #[.int .i64 m.sym, .int .i64 m.id])) rfl (by kernel_rfl) (by kernel_rfl) (by kernel_rfl) (fun _ _ _ h => h) (Or.inl ⟨by rfl, fun w hSw => by (try dsimp only at hSw); go_simp⟩) (by assumption) ?_
      simp only [Act.put, List.setIfInBounds_toArray, List.set_cons_zero, List.set_cons_succ]
      refine wpAnyH_take (i := 5) (oi := ⟨some 23, _, _, _, _, _⟩) (v := (.tuple #[.agg #[.int .i64 (x.side), .int .i64 (x.price), .int .i64 (x.qty)], .bool true])) rfl (by kernel_rfl) (by kernel_rfl) (by kernel_rfl) (fun _ _ _ h => h) (Or.inl ⟨by rfl, fun w hSw => by (try dsimp only at hSw); go_simp⟩) (by assumption) ?_
      simp only [Act.put, List.setIfInBounds_toArray, List.set_cons_zero, List.set_cons_succ]
      refine wpAnyH_take (i := 6) (oi := ⟨some 17, _, _, _, _, _⟩) (v := (.tuple #[.agg #[.int .i64 (x.side), .int .i64 (x.price), .int .i64 (x.qty)], .bool true])) rfl (by kernel_rfl) (by kernel_rfl) (by kernel_rfl) (fun _ _ _ h => h) (Or.inl ⟨by rfl, fun w hSw => by (try dsimp only at hSw); go_simp⟩) (by assumption) ?_
      simp only [Act.put, List.setIfInBounds_toArray, List.set_cons_zero, List.set_cons_succ]
      refine wpAnyH_take (i := 7) (oi := ⟨some 24, _, _, _, _, _⟩) (v := (.agg #[.int .i64 (x.side), .int .i64 (x.price), .int .i64 (x.qty)])) rfl (by kernel_rfl) (by kernel_rfl) (by kernel_rfl) (fun _ _ _ h => h) (Or.inl ⟨by rfl, fun w hSw => by (try dsimp only at hSw); go_simp⟩) (by assumption) ?_
      simp only [Act.put, List.setIfInBounds_toArray, List.set_cons_zero, List.set_cons_succ]
      refine wpAnyH_take (i := 8) (oi := ⟨some 25, _, _, _, _, _⟩) (v := (.bool true)) rfl (by kernel_rfl) (by kernel_rfl) (by kernel_rfl) (fun _ _ _ h => h) (Or.inl ⟨by rfl, fun w hSw => by (try dsimp only at hSw); go_simp⟩) (by assumption) ?_
      simp only [Act.put, List.setIfInBounds_toArray, List.set_cons_zero, List.set_cons_succ]
      refine wpAnyH_ready (rs := [9]) (by kernel_rfl) (by simp) ?_
      refine AllReadyH.cons (o := ⟨some 6, _, _, _, _, _⟩) rfl (fun KK hK => ?_) AllReadyH.nil
      go_simp
      change KK _ (W1.alloc (.cells restZ 166))
      have HS : Hid (QS w D b m W1.heap.size (W1.alloc (.cells restZ 166)) L restZ) := Lib.hid ⟨HD0.out.alloc _, HM0.out.old _, HK0.out.old _, Blk.new _ _ _ _ rfl, HC0.out.alloc HC0.out.size _, hD, hb, hsz⟩
      refine hK.out _ _ ⟨HS.out.ds.box.cell 0 rfl, HS.out.kb.cell 0 rfl, HS.out.kb.cell 1 rfl, HL.out _ HS.out.ds.map⟩ (fun hHeld => ?_)
      clear hK; try clear KK
      try simp only [Act.put, List.setIfInBounds_toArray, List.set_cons_zero, List.set_cons_succ]
      refine wpAnyH_ready (rs := [10]) (by kernel_rfl) (by simp) ?_
      refine AllReadyH.cons (o := ⟨none, _, _, _, _, _⟩) rfl (fun KK hK => ?_) AllReadyH.nil
      refine step_store_blk (by rfl) 166 _ _ (by rfl) W1.heap.size (by rfl) restZ #[.int .i64 (x.side), .int .i64 (x.price), .int .i64 (x.qty)] 166 HS.out.x (by rfl) rfl (by kernel_rfl) (one_rest ⟨x.side, x.price, x.qty⟩) ?_
      replace HS := Lib.hid (HS.out.mput #[.int .i64 (x.side), .int .i64 (x.price), .int .i64 (x.qty)] rfl)
      refine hK.out _ _ ⟨HS.out.ds.box.cell 0 rfl, HS.out.kb.cell 0 rfl, HS.out.kb.cell 1 rfl, HL.out _ HS.out.ds.map⟩ (fun hHeld => ?_)
      clear hK; try clear KK
      refine wpAnyH_take (i := 11) (oi := ⟨some 7, _, _, _, _, _⟩) (v := (.bool true)) rfl (by kernel_rfl) (by kernel_rfl) (by kernel_rfl) (fun _ _ _ h => h) (Or.inl ⟨by rfl, fun w hSw => by (try dsimp only at hSw); go_simp⟩) (by assumption) ?_
      simp only [Act.put, List.setIfInBounds_toArray, List.set_cons_zero, List.set_cons_succ]
      refine wpAnyH_done (by kernel_rfl) ?_ _
      generalize hW2 : World.setCells (W1.alloc (.cells restZ 166)) W1.heap.size 0 #[.int .i64 (x.side), .int .i64 (x.price), .int .i64 (x.qty)].toList = W2 at HS hHeld ⊢
      clear hW2 hHeld HD0 HM0 HK0 HC0
      generalize W1.heap.size = xb at HS hsz ⊢
      have m0 : W2.cell? ⟨w.heap.size, 0, none⟩ = some (.int .i64 m.kind) := HS.out.mb.cell 0 rfl
      have m1 : W2.cell? ⟨w.heap.size, 1, none⟩ = some (.int .i64 m.sym) := HS.out.mb.cell 1 rfl
      have m5 : W2.cell? ⟨w.heap.size, 5, none⟩ = some (.int .i64 m.wth) := HS.out.mb.cell 5 rfl
      have m6 : W2.cell? ⟨w.heap.size, 6, none⟩ = some (.int .i64 m.price) := HS.out.mb.cell 6 rfl
      have m7 : W2.cell? ⟨w.heap.size, 7, none⟩ = some (.int .i64 m.qty) := HS.out.mb.cell 7 rfl
      have m8 : W2.cell? ⟨w.heap.size, 8, none⟩ = some (.int .i64 m.code) := HS.out.mb.cell 8 rfl
      have k0 : W2.cell? ⟨w.heap.size + 1, 0, none⟩ = some (.int .i64 m.sym) := HS.out.kb.cell 0 rfl
      have k1 : W2.cell? ⟨w.heap.size + 1, 1, none⟩ = some (.int .i64 m.id) := HS.out.kb.cell 1 rfl
      go_wp2_with fail
      go_ret
      exact ⟨by (show Ending.returned (.bool false) = _; rw [HE.out]), by rw [HE.out]; exact HS.out.ds, HS.out.chg⟩
  · have HFI := Lib.hid (fits hok (m.sym, m.id) m.qty (by omega) hq1)
    have HF2 := Lib.hid (fits (ok_less hok (m.sym, m.id) m.qty (by omega)) (m.sym, m.wth) m.qty (by omega) hq1)
    by_cases hc : m.code = 1
    · have HE := Lib.hid (show putF L m = lessF L (m.sym, m.id) m.qty by simp [putF, h3, hq, hc])
      have g8 : (m.code != 1) = false := by simp [hc]
      clear h3 hc HF2
      cases hk : mget (m.sym, m.id) L with
      | none =>
        have HD0 := Lib.hid ((h.alloc (.cells m.cells 66)).alloc (.cells #[.int .i64 m.sym, .int .i64 m.id] 164))
        have HM0 := Lib.hid ((Blk.new w m.cells 66 w.heap.size rfl).old (.cells #[.int .i64 m.sym, .int .i64 m.id] 164))
        have HK0 := Lib.hid (Blk.new (w.alloc (.cells m.cells 66)) #[.int .i64 m.sym, .int .i64 m.id] 164 (w.heap.size + 1) (by simp))
        have HC0 := Lib.hid (show Chg w.heap.size b w ((w.alloc (.cells m.cells 66)).alloc (.cells #[.int .i64 m.sym, .int .i64 m.id] 164)) from ((Chg.refl _ _ _).alloc (Nat.le_refl _) _).alloc (by simp) _)
        have hD := h.box.lt
        have hb := h.map.lt
        have m1 : (w.alloc (.cells m.cells 66)).cell? ⟨w.heap.size, 1, none⟩ = some (.int .i64 m.sym) := (Blk.new w m.cells 66 w.heap.size rfl).cell 1 rfl
        have m4 : (w.alloc (.cells m.cells 66)).cell? ⟨w.heap.size, 4, none⟩ = some (.int .i64 m.id) := (Blk.new w m.cells 66 w.heap.size rfl).cell 4 rfl
        have HL := Lib.hid (fun W (hm : MapIs W b ke ve L) => show (Instr.lookup 160 (.map (some b)) (.agg #[.int .i64 m.sym, .int .i64 m.id]) true).run Try.prog W = .ok (.tuple #[.agg #[.int .i64 (0), .int .i64 (0), .int .i64 (0)], .bool false]) W by have := look_at hm m.sym m.id; rw [hk] at this; exact this)
        have HK := Lib.hid hk
        clear h hk
        go_enter Try.func37, Try.ntmps37
        go_upto_region 4 with fail
        clear m1 m4
        change Code.wp _ _ _ _ ((w.alloc (.cells m.cells 66)).alloc (.cells #[.int .i64 m.sym, .int .i64 m.id] 164))
        refine wp_region_held_drew (S := (fun w' => w'.cell? ⟨D, 0, none⟩ = some (.map (some b)) ∧ w'.cell? ⟨w.heap.size + 1, 0, none⟩ = some (.int .i64 m.sym) ∧ w'.cell? ⟨w.heap.size + 1, 1, none⟩ = some (.int .i64 m.id) ∧ (Instr.lookup 160 (.map (some b)) (.agg #[.int .i64 m.sym, .int .i64 m.id]) true).run Try.prog w' = .ok (.tuple #[.agg #[.int .i64 (0), .int .i64 (0), .int .i64 (0)], .bool false]) w')) (by kernel_rfl) ⟨HD0.out.box.cell 0 rfl, HK0.out.cell 0 rfl, HK0.out.cell 1 rfl, HL.out _ HD0.out.map.drew⟩ (fun hHeld => ?_)
        replace HD0 := Lib.hid HD0.out.drew
        replace HM0 := Lib.hid HM0.out.drew
        replace HK0 := Lib.hid HK0.out.drew
        replace HC0 := Lib.hid HC0.out.drew
        have hsz : w.heap.size + 1 < ((w.alloc (.cells m.cells 66)).alloc (.cells #[.int .i64 m.sym, .int .i64 m.id] 164)).drew.heap.size := HK0.out.lt
        generalize ((w.alloc (.cells m.cells 66)).alloc (.cells #[.int .i64 m.sym, .int .i64 m.id] 164)).drew = W1 at HD0 HM0 HK0 HC0 hHeld hsz ⊢
        refine wpAnyH_take (i := 0) (oi := ⟨some 18, _, _, _, _, _⟩) (v := (.pointer (some ⟨D, 0, none⟩))) rfl (by kernel_rfl) (by kernel_rfl) (by kernel_rfl) (fun _ _ _ h => h) (Or.inl ⟨by rfl, fun w hSw => by (try dsimp only at hSw); go_simp⟩) (by assumption) ?_
        simp only [Act.put, List.setIfInBounds_toArray, List.set_cons_zero, List.set_cons_succ]
        refine wpAnyH_take (i := 1) (oi := ⟨some 19, _, _, _, _, _⟩) (v := (.pointer (some ⟨D, 0, none⟩))) rfl (by kernel_rfl) (by kernel_rfl) (by kernel_rfl) (fun _ _ _ h => h) (Or.inl ⟨by rfl, fun w hSw => by (try dsimp only at hSw); go_simp⟩) (by assumption) ?_
        simp only [Act.put, List.setIfInBounds_toArray, List.set_cons_zero, List.set_cons_succ]
        refine wpAnyH_take (i := 2) (oi := ⟨some 20, _, _, _, _, _⟩) (v := (.pointer (some ⟨D, 0, none⟩))) rfl (by kernel_rfl) (by kernel_rfl) (by kernel_rfl) (fun _ _ _ h => h) (Or.inl ⟨by rfl, fun w hSw => by (try dsimp only at hSw); go_simp⟩) (by assumption) ?_
        simp only [Act.put, List.setIfInBounds_toArray, List.set_cons_zero, List.set_cons_succ]
        refine wpAnyH_take (i := 3) (oi := ⟨some 21, _, _, _, _, _⟩) (v := (.map (some b))) rfl (by kernel_rfl) (by kernel_rfl) (by kernel_rfl) (fun _ _ _ h => h) (Or.inl ⟨by rfl, fun w hSw => by (try dsimp only at hSw); go_simp⟩) (by assumption) ?_
        simp only [Act.put, List.setIfInBounds_toArray, List.set_cons_zero, List.set_cons_succ]
        refine wpAnyH_take (i := 4) (oi := ⟨some 22, _, _, _, _, _⟩) (v := (.agg #[.int .i64 m.sym, .int .i64 m.id])) rfl (by kernel_rfl) (by kernel_rfl) (by kernel_rfl) (fun _ _ _ h => h) (Or.inl ⟨by rfl, fun w hSw => by (try dsimp only at hSw); go_simp⟩) (by assumption) ?_
        simp only [Act.put, List.setIfInBounds_toArray, List.set_cons_zero, List.set_cons_succ]
        refine wpAnyH_take (i := 5) (oi := ⟨some 23, _, _, _, _, _⟩) (v := (.tuple #[.agg #[.int .i64 (0), .int .i64 (0), .int .i64 (0)], .bool false])) rfl (by kernel_rfl) (by kernel_rfl) (by kernel_rfl) (fun _ _ _ h => h) (Or.inl ⟨by rfl, fun w hSw => by (try dsimp only at hSw); go_simp⟩) (by assumption) ?_
        simp only [Act.put, List.setIfInBounds_toArray, List.set_cons_zero, List.set_cons_succ]
        refine wpAnyH_take (i := 6) (oi := ⟨some 17, _, _, _, _, _⟩) (v := (.tuple #[.agg #[.int .i64 (0), .int .i64 (0), .int .i64 (0)], .bool false])) rfl (by kernel_rfl) (by kernel_rfl) (by kernel_rfl) (fun _ _ _ h => h) (Or.inl ⟨by rfl, fun w hSw => by (try dsimp only at hSw); go_simp⟩) (by assumption) ?_
        simp only [Act.put, List.setIfInBounds_toArray, List.set_cons_zero, List.set_cons_succ]
        refine wpAnyH_take (i := 7) (oi := ⟨some 24, _, _, _, _, _⟩) (v := (.agg #[.int .i64 (0), .int .i64 (0), .int .i64 (0)])) rfl (by kernel_rfl) (by kernel_rfl) (by kernel_rfl) (fun _ _ _ h => h) (Or.inl ⟨by rfl, fun w hSw => by (try dsimp only at hSw); go_simp⟩) (by assumption) ?_
        simp only [Act.put, List.setIfInBounds_toArray, List.set_cons_zero, List.set_cons_succ]
        refine wpAnyH_take (i := 8) (oi := ⟨some 25, _, _, _, _, _⟩) (v := (.bool false)) rfl (by kernel_rfl) (by kernel_rfl) (by kernel_rfl) (fun _ _ _ h => h) (Or.inl ⟨by rfl, fun w hSw => by (try dsimp only at hSw); go_simp⟩) (by assumption) ?_
        simp only [Act.put, List.setIfInBounds_toArray, List.set_cons_zero, List.set_cons_succ]
        refine wpAnyH_ready (rs := [9]) (by kernel_rfl) (by simp) ?_
        refine AllReadyH.cons (o := ⟨some 6, _, _, _, _, _⟩) rfl (fun KK hK => ?_) AllReadyH.nil
        go_simp
        change KK _ (W1.alloc (.cells restZ 166))
        have HS : Hid (QS w D b m W1.heap.size (W1.alloc (.cells restZ 166)) L restZ) := Lib.hid ⟨HD0.out.alloc _, HM0.out.old _, HK0.out.old _, Blk.new _ _ _ _ rfl, HC0.out.alloc HC0.out.size _, hD, hb, hsz⟩
        refine hK.out _ _ ⟨HS.out.ds.box.cell 0 rfl, HS.out.kb.cell 0 rfl, HS.out.kb.cell 1 rfl, HL.out _ HS.out.ds.map⟩ (fun hHeld => ?_)
        clear hK; try clear KK
        try simp only [Act.put, List.setIfInBounds_toArray, List.set_cons_zero, List.set_cons_succ]
        refine wpAnyH_ready (rs := [10]) (by kernel_rfl) (by simp) ?_
        refine AllReadyH.cons (o := ⟨none, _, _, _, _, _⟩) rfl (fun KK hK => ?_) AllReadyH.nil
        refine step_store_blk (by rfl) 166 _ _ (by rfl) W1.heap.size (by rfl) restZ #[.int .i64 (0), .int .i64 (0), .int .i64 (0)] 166 HS.out.x (by rfl) rfl (by kernel_rfl) (one_rest ⟨0, 0, 0⟩) ?_
        replace HS := Lib.hid (HS.out.mput #[.int .i64 (0), .int .i64 (0), .int .i64 (0)] rfl)
        refine hK.out _ _ ⟨HS.out.ds.box.cell 0 rfl, HS.out.kb.cell 0 rfl, HS.out.kb.cell 1 rfl, HL.out _ HS.out.ds.map⟩ (fun hHeld => ?_)
        clear hK; try clear KK
        refine wpAnyH_take (i := 11) (oi := ⟨some 7, _, _, _, _, _⟩) (v := (.bool false)) rfl (by kernel_rfl) (by kernel_rfl) (by kernel_rfl) (fun _ _ _ h => h) (Or.inl ⟨by rfl, fun w hSw => by (try dsimp only at hSw); go_simp⟩) (by assumption) ?_
        simp only [Act.put, List.setIfInBounds_toArray, List.set_cons_zero, List.set_cons_succ]
        refine wpAnyH_done (by kernel_rfl) ?_ _
        generalize hW2 : World.setCells (W1.alloc (.cells restZ 166)) W1.heap.size 0 #[.int .i64 (0), .int .i64 (0), .int .i64 (0)].toList = W2 at HS hHeld ⊢
        clear hW2 hHeld HD0 HM0 HK0 HC0
        generalize W1.heap.size = xb at HS hsz ⊢
        have m0 : W2.cell? ⟨w.heap.size, 0, none⟩ = some (.int .i64 m.kind) := HS.out.mb.cell 0 rfl
        have m1 : W2.cell? ⟨w.heap.size, 1, none⟩ = some (.int .i64 m.sym) := HS.out.mb.cell 1 rfl
        have m5 : W2.cell? ⟨w.heap.size, 5, none⟩ = some (.int .i64 m.wth) := HS.out.mb.cell 5 rfl
        have m6 : W2.cell? ⟨w.heap.size, 6, none⟩ = some (.int .i64 m.price) := HS.out.mb.cell 6 rfl
        have m7 : W2.cell? ⟨w.heap.size, 7, none⟩ = some (.int .i64 m.qty) := HS.out.mb.cell 7 rfl
        have m8 : W2.cell? ⟨w.heap.size, 8, none⟩ = some (.int .i64 m.code) := HS.out.mb.cell 8 rfl
        have k0 : W2.cell? ⟨w.heap.size + 1, 0, none⟩ = some (.int .i64 m.sym) := HS.out.kb.cell 0 rfl
        have k1 : W2.cell? ⟨w.heap.size + 1, 1, none⟩ = some (.int .i64 m.id) := HS.out.kb.cell 1 rfl
        have c1 : W2.cell? ⟨w.heap.size, 7, none⟩ = some (.int .i64 m.qty) := m7
        go_wp2_with fail
        refine (less_any D b L m.sym m.id m.qty _ HS.out.ds HFI.out).mono ?_
        rintro e w3 ⟨rfl, hd3, hc3⟩
        replace HS := Lib.hid (HS.out.turnD hd3 hc3)
        clear hd3 hc3 c1 m0 m1 m5 m6 m7 m8 k0 k1
        have m1 : w3.cell? ⟨w.heap.size, 1, none⟩ = some (.int .i64 m.sym) := HS.out.mb.cell 1 rfl
        have m5 : w3.cell? ⟨w.heap.size, 5, none⟩ = some (.int .i64 m.wth) := HS.out.mb.cell 5 rfl
        have m7 : w3.cell? ⟨w.heap.size, 7, none⟩ = some (.int .i64 m.qty) := HS.out.mb.cell 7 rfl
        have m8 : w3.cell? ⟨w.heap.size, 8, none⟩ = some (.int .i64 m.code) := HS.out.mb.cell 8 rfl
        generalize hA : lessF L (m.sym, m.id) m.qty = A at HS HE ⊢
        clear hA
        obtain ⟨L1, c1⟩ := A
        dsimp only at HS HE ⊢
        go_wp2_with fail
        go_ret
        exact ⟨by (show Ending.returned (.bool c1) = _; rw [HE.out]), by rw [HE.out]; exact HS.out.ds, HS.out.chg⟩
      | some x =>
        have HD0 := Lib.hid ((h.alloc (.cells m.cells 66)).alloc (.cells #[.int .i64 m.sym, .int .i64 m.id] 164))
        have HM0 := Lib.hid ((Blk.new w m.cells 66 w.heap.size rfl).old (.cells #[.int .i64 m.sym, .int .i64 m.id] 164))
        have HK0 := Lib.hid (Blk.new (w.alloc (.cells m.cells 66)) #[.int .i64 m.sym, .int .i64 m.id] 164 (w.heap.size + 1) (by simp))
        have HC0 := Lib.hid (show Chg w.heap.size b w ((w.alloc (.cells m.cells 66)).alloc (.cells #[.int .i64 m.sym, .int .i64 m.id] 164)) from ((Chg.refl _ _ _).alloc (Nat.le_refl _) _).alloc (by simp) _)
        have hD := h.box.lt
        have hb := h.map.lt
        have m1 : (w.alloc (.cells m.cells 66)).cell? ⟨w.heap.size, 1, none⟩ = some (.int .i64 m.sym) := (Blk.new w m.cells 66 w.heap.size rfl).cell 1 rfl
        have m4 : (w.alloc (.cells m.cells 66)).cell? ⟨w.heap.size, 4, none⟩ = some (.int .i64 m.id) := (Blk.new w m.cells 66 w.heap.size rfl).cell 4 rfl
        have HL := Lib.hid (fun W (hm : MapIs W b ke ve L) => show (Instr.lookup 160 (.map (some b)) (.agg #[.int .i64 m.sym, .int .i64 m.id]) true).run Try.prog W = .ok (.tuple #[.agg #[.int .i64 (x.side), .int .i64 (x.price), .int .i64 (x.qty)], .bool true]) W by have := look_at hm m.sym m.id; rw [hk] at this; exact this)
        have HK := Lib.hid hk
        clear h hk
        go_enter Try.func37, Try.ntmps37
        go_upto_region 4 with fail
        clear m1 m4
        change Code.wp _ _ _ _ ((w.alloc (.cells m.cells 66)).alloc (.cells #[.int .i64 m.sym, .int .i64 m.id] 164))
        refine wp_region_held_drew (S := (fun w' => w'.cell? ⟨D, 0, none⟩ = some (.map (some b)) ∧ w'.cell? ⟨w.heap.size + 1, 0, none⟩ = some (.int .i64 m.sym) ∧ w'.cell? ⟨w.heap.size + 1, 1, none⟩ = some (.int .i64 m.id) ∧ (Instr.lookup 160 (.map (some b)) (.agg #[.int .i64 m.sym, .int .i64 m.id]) true).run Try.prog w' = .ok (.tuple #[.agg #[.int .i64 (x.side), .int .i64 (x.price), .int .i64 (x.qty)], .bool true]) w')) (by kernel_rfl) ⟨HD0.out.box.cell 0 rfl, HK0.out.cell 0 rfl, HK0.out.cell 1 rfl, HL.out _ HD0.out.map.drew⟩ (fun hHeld => ?_)
        replace HD0 := Lib.hid HD0.out.drew
        replace HM0 := Lib.hid HM0.out.drew
        replace HK0 := Lib.hid HK0.out.drew
        replace HC0 := Lib.hid HC0.out.drew
        have hsz : w.heap.size + 1 < ((w.alloc (.cells m.cells 66)).alloc (.cells #[.int .i64 m.sym, .int .i64 m.id] 164)).drew.heap.size := HK0.out.lt
        generalize ((w.alloc (.cells m.cells 66)).alloc (.cells #[.int .i64 m.sym, .int .i64 m.id] 164)).drew = W1 at HD0 HM0 HK0 HC0 hHeld hsz ⊢
        refine wpAnyH_take (i := 0) (oi := ⟨some 18, _, _, _, _, _⟩) (v := (.pointer (some ⟨D, 0, none⟩))) rfl (by kernel_rfl) (by kernel_rfl) (by kernel_rfl) (fun _ _ _ h => h) (Or.inl ⟨by rfl, fun w hSw => by (try dsimp only at hSw); go_simp⟩) (by assumption) ?_
        simp only [Act.put, List.setIfInBounds_toArray, List.set_cons_zero, List.set_cons_succ]
        refine wpAnyH_take (i := 1) (oi := ⟨some 19, _, _, _, _, _⟩) (v := (.pointer (some ⟨D, 0, none⟩))) rfl (by kernel_rfl) (by kernel_rfl) (by kernel_rfl) (fun _ _ _ h => h) (Or.inl ⟨by rfl, fun w hSw => by (try dsimp only at hSw); go_simp⟩) (by assumption) ?_
        simp only [Act.put, List.setIfInBounds_toArray, List.set_cons_zero, List.set_cons_succ]
        refine wpAnyH_take (i := 2) (oi := ⟨some 20, _, _, _, _, _⟩) (v := (.pointer (some ⟨D, 0, none⟩))) rfl (by kernel_rfl) (by kernel_rfl) (by kernel_rfl) (fun _ _ _ h => h) (Or.inl ⟨by rfl, fun w hSw => by (try dsimp only at hSw); go_simp⟩) (by assumption) ?_
        simp only [Act.put, List.setIfInBounds_toArray, List.set_cons_zero, List.set_cons_succ]
        refine wpAnyH_take (i := 3) (oi := ⟨some 21, _, _, _, _, _⟩) (v := (.map (some b))) rfl (by kernel_rfl) (by kernel_rfl) (by kernel_rfl) (fun _ _ _ h => h) (Or.inl ⟨by rfl, fun w hSw => by (try dsimp only at hSw); go_simp⟩) (by assumption) ?_
        simp only [Act.put, List.setIfInBounds_toArray, List.set_cons_zero, List.set_cons_succ]
        refine wpAnyH_take (i := 4) (oi := ⟨some 22, _, _, _, _, _⟩) (v := (.agg #[.int .i64 m.sym, .int .i64 m.id])) rfl (by kernel_rfl) (by kernel_rfl) (by kernel_rfl) (fun _ _ _ h => h) (Or.inl ⟨by rfl, fun w hSw => by (try dsimp only at hSw); go_simp⟩) (by assumption) ?_
        simp only [Act.put, List.setIfInBounds_toArray, List.set_cons_zero, List.set_cons_succ]
        refine wpAnyH_take (i := 5) (oi := ⟨some 23, _, _, _, _, _⟩) (v := (.tuple #[.agg #[.int .i64 (x.side), .int .i64 (x.price), .int .i64 (x.qty)], .bool true])) rfl (by kernel_rfl) (by kernel_rfl) (by kernel_rfl) (fun _ _ _ h => h) (Or.inl ⟨by rfl, fun w hSw => by (try dsimp only at hSw); go_simp⟩) (by assumption) ?_
        simp only [Act.put, List.setIfInBounds_toArray, List.set_cons_zero, List.set_cons_succ]
        refine wpAnyH_take (i := 6) (oi := ⟨some 17, _, _, _, _, _⟩) (v := (.tuple #[.agg #[.int .i64 (x.side), .int .i64 (x.price), .int .i64 (x.qty)], .bool true])) rfl (by kernel_rfl) (by kernel_rfl) (by kernel_rfl) (fun _ _ _ h => h) (Or.inl ⟨by rfl, fun w hSw => by (try dsimp only at hSw); go_simp⟩) (by assumption) ?_
        simp only [Act.put, List.setIfInBounds_toArray, List.set_cons_zero, List.set_cons_succ]
        refine wpAnyH_take (i := 7) (oi := ⟨some 24, _, _, _, _, _⟩) (v := (.agg #[.int .i64 (x.side), .int .i64 (x.price), .int .i64 (x.qty)])) rfl (by kernel_rfl) (by kernel_rfl) (by kernel_rfl) (fun _ _ _ h => h) (Or.inl ⟨by rfl, fun w hSw => by (try dsimp only at hSw); go_simp⟩) (by assumption) ?_
        simp only [Act.put, List.setIfInBounds_toArray, List.set_cons_zero, List.set_cons_succ]
        refine wpAnyH_take (i := 8) (oi := ⟨some 25, _, _, _, _, _⟩) (v := (.bool true)) rfl (by kernel_rfl) (by kernel_rfl) (by kernel_rfl) (fun _ _ _ h => h) (Or.inl ⟨by rfl, fun w hSw => by (try dsimp only at hSw); go_simp⟩) (by assumption) ?_
        simp only [Act.put, List.setIfInBounds_toArray, List.set_cons_zero, List.set_cons_succ]
        refine wpAnyH_ready (rs := [9]) (by kernel_rfl) (by simp) ?_
        refine AllReadyH.cons (o := ⟨some 6, _, _, _, _, _⟩) rfl (fun KK hK => ?_) AllReadyH.nil
        go_simp
        change KK _ (W1.alloc (.cells restZ 166))
        have HS : Hid (QS w D b m W1.heap.size (W1.alloc (.cells restZ 166)) L restZ) := Lib.hid ⟨HD0.out.alloc _, HM0.out.old _, HK0.out.old _, Blk.new _ _ _ _ rfl, HC0.out.alloc HC0.out.size _, hD, hb, hsz⟩
        refine hK.out _ _ ⟨HS.out.ds.box.cell 0 rfl, HS.out.kb.cell 0 rfl, HS.out.kb.cell 1 rfl, HL.out _ HS.out.ds.map⟩ (fun hHeld => ?_)
        clear hK; try clear KK
        try simp only [Act.put, List.setIfInBounds_toArray, List.set_cons_zero, List.set_cons_succ]
        refine wpAnyH_ready (rs := [10]) (by kernel_rfl) (by simp) ?_
        refine AllReadyH.cons (o := ⟨none, _, _, _, _, _⟩) rfl (fun KK hK => ?_) AllReadyH.nil
        refine step_store_blk (by rfl) 166 _ _ (by rfl) W1.heap.size (by rfl) restZ #[.int .i64 (x.side), .int .i64 (x.price), .int .i64 (x.qty)] 166 HS.out.x (by rfl) rfl (by kernel_rfl) (one_rest ⟨x.side, x.price, x.qty⟩) ?_
        replace HS := Lib.hid (HS.out.mput #[.int .i64 (x.side), .int .i64 (x.price), .int .i64 (x.qty)] rfl)
        refine hK.out _ _ ⟨HS.out.ds.box.cell 0 rfl, HS.out.kb.cell 0 rfl, HS.out.kb.cell 1 rfl, HL.out _ HS.out.ds.map⟩ (fun hHeld => ?_)
        clear hK; try clear KK
        refine wpAnyH_take (i := 11) (oi := ⟨some 7, _, _, _, _, _⟩) (v := (.bool true)) rfl (by kernel_rfl) (by kernel_rfl) (by kernel_rfl) (fun _ _ _ h => h) (Or.inl ⟨by rfl, fun w hSw => by (try dsimp only at hSw); go_simp⟩) (by assumption) ?_
        simp only [Act.put, List.setIfInBounds_toArray, List.set_cons_zero, List.set_cons_succ]
        refine wpAnyH_done (by kernel_rfl) ?_ _
        generalize hW2 : World.setCells (W1.alloc (.cells restZ 166)) W1.heap.size 0 #[.int .i64 (x.side), .int .i64 (x.price), .int .i64 (x.qty)].toList = W2 at HS hHeld ⊢
        clear hW2 hHeld HD0 HM0 HK0 HC0
        generalize W1.heap.size = xb at HS hsz ⊢
        have m0 : W2.cell? ⟨w.heap.size, 0, none⟩ = some (.int .i64 m.kind) := HS.out.mb.cell 0 rfl
        have m1 : W2.cell? ⟨w.heap.size, 1, none⟩ = some (.int .i64 m.sym) := HS.out.mb.cell 1 rfl
        have m5 : W2.cell? ⟨w.heap.size, 5, none⟩ = some (.int .i64 m.wth) := HS.out.mb.cell 5 rfl
        have m6 : W2.cell? ⟨w.heap.size, 6, none⟩ = some (.int .i64 m.price) := HS.out.mb.cell 6 rfl
        have m7 : W2.cell? ⟨w.heap.size, 7, none⟩ = some (.int .i64 m.qty) := HS.out.mb.cell 7 rfl
        have m8 : W2.cell? ⟨w.heap.size, 8, none⟩ = some (.int .i64 m.code) := HS.out.mb.cell 8 rfl
        have k0 : W2.cell? ⟨w.heap.size + 1, 0, none⟩ = some (.int .i64 m.sym) := HS.out.kb.cell 0 rfl
        have k1 : W2.cell? ⟨w.heap.size + 1, 1, none⟩ = some (.int .i64 m.id) := HS.out.kb.cell 1 rfl
        have c1 : W2.cell? ⟨w.heap.size, 7, none⟩ = some (.int .i64 m.qty) := m7
        go_wp2_with fail
        refine (less_any D b L m.sym m.id m.qty _ HS.out.ds HFI.out).mono ?_
        rintro e w3 ⟨rfl, hd3, hc3⟩
        replace HS := Lib.hid (HS.out.turnD hd3 hc3)
        clear hd3 hc3 c1 m0 m1 m5 m6 m7 m8 k0 k1
        have m1 : w3.cell? ⟨w.heap.size, 1, none⟩ = some (.int .i64 m.sym) := HS.out.mb.cell 1 rfl
        have m5 : w3.cell? ⟨w.heap.size, 5, none⟩ = some (.int .i64 m.wth) := HS.out.mb.cell 5 rfl
        have m7 : w3.cell? ⟨w.heap.size, 7, none⟩ = some (.int .i64 m.qty) := HS.out.mb.cell 7 rfl
        have m8 : w3.cell? ⟨w.heap.size, 8, none⟩ = some (.int .i64 m.code) := HS.out.mb.cell 8 rfl
        generalize hA : lessF L (m.sym, m.id) m.qty = A at HS HE ⊢
        clear hA
        obtain ⟨L1, c1⟩ := A
        dsimp only at HS HE ⊢
        go_wp2_with fail
        go_ret
        exact ⟨by (show Ending.returned (.bool c1) = _; rw [HE.out]), by rw [HE.out]; exact HS.out.ds, HS.out.chg⟩
    · have HE := Lib.hid (show putF L m = ((lessF (lessF L (m.sym, m.id) m.qty).1 (m.sym, m.wth) m.qty).1, (lessF L (m.sym, m.id) m.qty).2 || (lessF (lessF L (m.sym, m.id) m.qty).1 (m.sym, m.wth) m.qty).2) by simp [putF, h3, hq, hc])
      have g8 : (m.code != 1) = true := by simp [hc]
      clear h3 hc
      cases hk : mget (m.sym, m.id) L with
      | none =>
        have HD0 := Lib.hid ((h.alloc (.cells m.cells 66)).alloc (.cells #[.int .i64 m.sym, .int .i64 m.id] 164))
        have HM0 := Lib.hid ((Blk.new w m.cells 66 w.heap.size rfl).old (.cells #[.int .i64 m.sym, .int .i64 m.id] 164))
        have HK0 := Lib.hid (Blk.new (w.alloc (.cells m.cells 66)) #[.int .i64 m.sym, .int .i64 m.id] 164 (w.heap.size + 1) (by simp))
        have HC0 := Lib.hid (show Chg w.heap.size b w ((w.alloc (.cells m.cells 66)).alloc (.cells #[.int .i64 m.sym, .int .i64 m.id] 164)) from ((Chg.refl _ _ _).alloc (Nat.le_refl _) _).alloc (by simp) _)
        have hD := h.box.lt
        have hb := h.map.lt
        have m1 : (w.alloc (.cells m.cells 66)).cell? ⟨w.heap.size, 1, none⟩ = some (.int .i64 m.sym) := (Blk.new w m.cells 66 w.heap.size rfl).cell 1 rfl
        have m4 : (w.alloc (.cells m.cells 66)).cell? ⟨w.heap.size, 4, none⟩ = some (.int .i64 m.id) := (Blk.new w m.cells 66 w.heap.size rfl).cell 4 rfl
        have HL := Lib.hid (fun W (hm : MapIs W b ke ve L) => show (Instr.lookup 160 (.map (some b)) (.agg #[.int .i64 m.sym, .int .i64 m.id]) true).run Try.prog W = .ok (.tuple #[.agg #[.int .i64 (0), .int .i64 (0), .int .i64 (0)], .bool false]) W by have := look_at hm m.sym m.id; rw [hk] at this; exact this)
        have HK := Lib.hid hk
        clear h hk
        go_enter Try.func37, Try.ntmps37
        go_upto_region 4 with fail
        clear m1 m4
        change Code.wp _ _ _ _ ((w.alloc (.cells m.cells 66)).alloc (.cells #[.int .i64 m.sym, .int .i64 m.id] 164))
        refine wp_region_held_drew (S := (fun w' => w'.cell? ⟨D, 0, none⟩ = some (.map (some b)) ∧ w'.cell? ⟨w.heap.size + 1, 0, none⟩ = some (.int .i64 m.sym) ∧ w'.cell? ⟨w.heap.size + 1, 1, none⟩ = some (.int .i64 m.id) ∧ (Instr.lookup 160 (.map (some b)) (.agg #[.int .i64 m.sym, .int .i64 m.id]) true).run Try.prog w' = .ok (.tuple #[.agg #[.int .i64 (0), .int .i64 (0), .int .i64 (0)], .bool false]) w')) (by kernel_rfl) ⟨HD0.out.box.cell 0 rfl, HK0.out.cell 0 rfl, HK0.out.cell 1 rfl, HL.out _ HD0.out.map.drew⟩ (fun hHeld => ?_)
        replace HD0 := Lib.hid HD0.out.drew
        replace HM0 := Lib.hid HM0.out.drew
        replace HK0 := Lib.hid HK0.out.drew
        replace HC0 := Lib.hid HC0.out.drew
        have hsz : w.heap.size + 1 < ((w.alloc (.cells m.cells 66)).alloc (.cells #[.int .i64 m.sym, .int .i64 m.id] 164)).drew.heap.size := HK0.out.lt
        generalize ((w.alloc (.cells m.cells 66)).alloc (.cells #[.int .i64 m.sym, .int .i64 m.id] 164)).drew = W1 at HD0 HM0 HK0 HC0 hHeld hsz ⊢
        refine wpAnyH_take (i := 0) (oi := ⟨some 18, _, _, _, _, _⟩) (v := (.pointer (some ⟨D, 0, none⟩))) rfl (by kernel_rfl) (by kernel_rfl) (by kernel_rfl) (fun _ _ _ h => h) (Or.inl ⟨by rfl, fun w hSw => by (try dsimp only at hSw); go_simp⟩) (by assumption) ?_
        simp only [Act.put, List.setIfInBounds_toArray, List.set_cons_zero, List.set_cons_succ]
        refine wpAnyH_take (i := 1) (oi := ⟨some 19, _, _, _, _, _⟩) (v := (.pointer (some ⟨D, 0, none⟩))) rfl (by kernel_rfl) (by kernel_rfl) (by kernel_rfl) (fun _ _ _ h => h) (Or.inl ⟨by rfl, fun w hSw => by (try dsimp only at hSw); go_simp⟩) (by assumption) ?_
        simp only [Act.put, List.setIfInBounds_toArray, List.set_cons_zero, List.set_cons_succ]
        refine wpAnyH_take (i := 2) (oi := ⟨some 20, _, _, _, _, _⟩) (v := (.pointer (some ⟨D, 0, none⟩))) rfl (by kernel_rfl) (by kernel_rfl) (by kernel_rfl) (fun _ _ _ h => h) (Or.inl ⟨by rfl, fun w hSw => by (try dsimp only at hSw); go_simp⟩) (by assumption) ?_
        simp only [Act.put, List.setIfInBounds_toArray, List.set_cons_zero, List.set_cons_succ]
        refine wpAnyH_take (i := 3) (oi := ⟨some 21, _, _, _, _, _⟩) (v := (.map (some b))) rfl (by kernel_rfl) (by kernel_rfl) (by kernel_rfl) (fun _ _ _ h => h) (Or.inl ⟨by rfl, fun w hSw => by (try dsimp only at hSw); go_simp⟩) (by assumption) ?_
        simp only [Act.put, List.setIfInBounds_toArray, List.set_cons_zero, List.set_cons_succ]
        refine wpAnyH_take (i := 4) (oi := ⟨some 22, _, _, _, _, _⟩) (v := (.agg #[.int .i64 m.sym, .int .i64 m.id])) rfl (by kernel_rfl) (by kernel_rfl) (by kernel_rfl) (fun _ _ _ h => h) (Or.inl ⟨by rfl, fun w hSw => by (try dsimp only at hSw); go_simp⟩) (by assumption) ?_
        simp only [Act.put, List.setIfInBounds_toArray, List.set_cons_zero, List.set_cons_succ]
        refine wpAnyH_take (i := 5) (oi := ⟨some 23, _, _, _, _, _⟩) (v := (.tuple #[.agg #[.int .i64 (0), .int .i64 (0), .int .i64 (0)], .bool false])) rfl (by kernel_rfl) (by kernel_rfl) (by kernel_rfl) (fun _ _ _ h => h) (Or.inl ⟨by rfl, fun w hSw => by (try dsimp only at hSw); go_simp⟩) (by assumption) ?_
        simp only [Act.put, List.setIfInBounds_toArray, List.set_cons_zero, List.set_cons_succ]
        refine wpAnyH_take (i := 6) (oi := ⟨some 17, _, _, _, _, _⟩) (v := (.tuple #[.agg #[.int .i64 (0), .int .i64 (0), .int .i64 (0)], .bool false])) rfl (by kernel_rfl) (by kernel_rfl) (by kernel_rfl) (fun _ _ _ h => h) (Or.inl ⟨by rfl, fun w hSw => by (try dsimp only at hSw); go_simp⟩) (by assumption) ?_
        simp only [Act.put, List.setIfInBounds_toArray, List.set_cons_zero, List.set_cons_succ]
        refine wpAnyH_take (i := 7) (oi := ⟨some 24, _, _, _, _, _⟩) (v := (.agg #[.int .i64 (0), .int .i64 (0), .int .i64 (0)])) rfl (by kernel_rfl) (by kernel_rfl) (by kernel_rfl) (fun _ _ _ h => h) (Or.inl ⟨by rfl, fun w hSw => by (try dsimp only at hSw); go_simp⟩) (by assumption) ?_
        simp only [Act.put, List.setIfInBounds_toArray, List.set_cons_zero, List.set_cons_succ]
        refine wpAnyH_take (i := 8) (oi := ⟨some 25, _, _, _, _, _⟩) (v := (.bool false)) rfl (by kernel_rfl) (by kernel_rfl) (by kernel_rfl) (fun _ _ _ h => h) (Or.inl ⟨by rfl, fun w hSw => by (try dsimp only at hSw); go_simp⟩) (by assumption) ?_
        simp only [Act.put, List.setIfInBounds_toArray, List.set_cons_zero, List.set_cons_succ]
        refine wpAnyH_ready (rs := [9]) (by kernel_rfl) (by simp) ?_
        refine AllReadyH.cons (o := ⟨some 6, _, _, _, _, _⟩) rfl (fun KK hK => ?_) AllReadyH.nil
        go_simp
        change KK _ (W1.alloc (.cells restZ 166))
        have HS : Hid (QS w D b m W1.heap.size (W1.alloc (.cells restZ 166)) L restZ) := Lib.hid ⟨HD0.out.alloc _, HM0.out.old _, HK0.out.old _, Blk.new _ _ _ _ rfl, HC0.out.alloc HC0.out.size _, hD, hb, hsz⟩
        refine hK.out _ _ ⟨HS.out.ds.box.cell 0 rfl, HS.out.kb.cell 0 rfl, HS.out.kb.cell 1 rfl, HL.out _ HS.out.ds.map⟩ (fun hHeld => ?_)
        clear hK; try clear KK
        try simp only [Act.put, List.setIfInBounds_toArray, List.set_cons_zero, List.set_cons_succ]
        refine wpAnyH_ready (rs := [10]) (by kernel_rfl) (by simp) ?_
        refine AllReadyH.cons (o := ⟨none, _, _, _, _, _⟩) rfl (fun KK hK => ?_) AllReadyH.nil
        refine step_store_blk (by rfl) 166 _ _ (by rfl) W1.heap.size (by rfl) restZ #[.int .i64 (0), .int .i64 (0), .int .i64 (0)] 166 HS.out.x (by rfl) rfl (by kernel_rfl) (one_rest ⟨0, 0, 0⟩) ?_
        replace HS := Lib.hid (HS.out.mput #[.int .i64 (0), .int .i64 (0), .int .i64 (0)] rfl)
        refine hK.out _ _ ⟨HS.out.ds.box.cell 0 rfl, HS.out.kb.cell 0 rfl, HS.out.kb.cell 1 rfl, HL.out _ HS.out.ds.map⟩ (fun hHeld => ?_)
        clear hK; try clear KK
        refine wpAnyH_take (i := 11) (oi := ⟨some 7, _, _, _, _, _⟩) (v := (.bool false)) rfl (by kernel_rfl) (by kernel_rfl) (by kernel_rfl) (fun _ _ _ h => h) (Or.inl ⟨by rfl, fun w hSw => by (try dsimp only at hSw); go_simp⟩) (by assumption) ?_
        simp only [Act.put, List.setIfInBounds_toArray, List.set_cons_zero, List.set_cons_succ]
        refine wpAnyH_done (by kernel_rfl) ?_ _
        generalize hW2 : World.setCells (W1.alloc (.cells restZ 166)) W1.heap.size 0 #[.int .i64 (0), .int .i64 (0), .int .i64 (0)].toList = W2 at HS hHeld ⊢
        clear hW2 hHeld HD0 HM0 HK0 HC0
        generalize W1.heap.size = xb at HS hsz ⊢
        have m0 : W2.cell? ⟨w.heap.size, 0, none⟩ = some (.int .i64 m.kind) := HS.out.mb.cell 0 rfl
        have m1 : W2.cell? ⟨w.heap.size, 1, none⟩ = some (.int .i64 m.sym) := HS.out.mb.cell 1 rfl
        have m5 : W2.cell? ⟨w.heap.size, 5, none⟩ = some (.int .i64 m.wth) := HS.out.mb.cell 5 rfl
        have m6 : W2.cell? ⟨w.heap.size, 6, none⟩ = some (.int .i64 m.price) := HS.out.mb.cell 6 rfl
        have m7 : W2.cell? ⟨w.heap.size, 7, none⟩ = some (.int .i64 m.qty) := HS.out.mb.cell 7 rfl
        have m8 : W2.cell? ⟨w.heap.size, 8, none⟩ = some (.int .i64 m.code) := HS.out.mb.cell 8 rfl
        have k0 : W2.cell? ⟨w.heap.size + 1, 0, none⟩ = some (.int .i64 m.sym) := HS.out.kb.cell 0 rfl
        have k1 : W2.cell? ⟨w.heap.size + 1, 1, none⟩ = some (.int .i64 m.id) := HS.out.kb.cell 1 rfl
        have c1 : W2.cell? ⟨w.heap.size, 7, none⟩ = some (.int .i64 m.qty) := m7
        go_wp2_with fail
        refine (less_any D b L m.sym m.id m.qty _ HS.out.ds HFI.out).mono ?_
        rintro e w3 ⟨rfl, hd3, hc3⟩
        replace HS := Lib.hid (HS.out.turnD hd3 hc3)
        clear hd3 hc3 c1 m0 m1 m5 m6 m7 m8 k0 k1
        have m1 : w3.cell? ⟨w.heap.size, 1, none⟩ = some (.int .i64 m.sym) := HS.out.mb.cell 1 rfl
        have m5 : w3.cell? ⟨w.heap.size, 5, none⟩ = some (.int .i64 m.wth) := HS.out.mb.cell 5 rfl
        have m7 : w3.cell? ⟨w.heap.size, 7, none⟩ = some (.int .i64 m.qty) := HS.out.mb.cell 7 rfl
        have m8 : w3.cell? ⟨w.heap.size, 8, none⟩ = some (.int .i64 m.code) := HS.out.mb.cell 8 rfl
        generalize hA : lessF L (m.sym, m.id) m.qty = A at HS HE HF2 ⊢
        clear hA
        obtain ⟨L1, c1⟩ := A
        dsimp only at HS HE HF2 ⊢
        go_wp2_with fail
        refine (less_any D b L1 m.sym m.wth m.qty _ HS.out.ds HF2.out).mono ?_
        rintro e w4 ⟨rfl, hd4, hc4⟩
        replace HS := Lib.hid (HS.out.turnD hd4 hc4)
        clear hd4 hc4 m1 m5 m7 m8
        generalize hB : lessF L1 (m.sym, m.wth) m.qty = B at HS HE ⊢
        clear hB
        obtain ⟨L2, c2⟩ := B
        dsimp only at HS HE ⊢
        cases c2 with
        | true =>
          go_wp2_with fail
          go_ret
          exact ⟨by (show Ending.returned (.bool true) = _; rw [HE.out, Bool.or_true]), by rw [HE.out]; exact HS.out.ds, HS.out.chg⟩
        | false =>
          go_wp2_with fail
          go_ret
          exact ⟨by (show Ending.returned (.bool c1) = _; rw [HE.out, Bool.or_false]), by rw [HE.out]; exact HS.out.ds, HS.out.chg⟩
      | some x =>
        have HD0 := Lib.hid ((h.alloc (.cells m.cells 66)).alloc (.cells #[.int .i64 m.sym, .int .i64 m.id] 164))
        have HM0 := Lib.hid ((Blk.new w m.cells 66 w.heap.size rfl).old (.cells #[.int .i64 m.sym, .int .i64 m.id] 164))
        have HK0 := Lib.hid (Blk.new (w.alloc (.cells m.cells 66)) #[.int .i64 m.sym, .int .i64 m.id] 164 (w.heap.size + 1) (by simp))
        have HC0 := Lib.hid (show Chg w.heap.size b w ((w.alloc (.cells m.cells 66)).alloc (.cells #[.int .i64 m.sym, .int .i64 m.id] 164)) from ((Chg.refl _ _ _).alloc (Nat.le_refl _) _).alloc (by simp) _)
        have hD := h.box.lt
        have hb := h.map.lt
        have m1 : (w.alloc (.cells m.cells 66)).cell? ⟨w.heap.size, 1, none⟩ = some (.int .i64 m.sym) := (Blk.new w m.cells 66 w.heap.size rfl).cell 1 rfl
        have m4 : (w.alloc (.cells m.cells 66)).cell? ⟨w.heap.size, 4, none⟩ = some (.int .i64 m.id) := (Blk.new w m.cells 66 w.heap.size rfl).cell 4 rfl
        have HL := Lib.hid (fun W (hm : MapIs W b ke ve L) => show (Instr.lookup 160 (.map (some b)) (.agg #[.int .i64 m.sym, .int .i64 m.id]) true).run Try.prog W = .ok (.tuple #[.agg #[.int .i64 (x.side), .int .i64 (x.price), .int .i64 (x.qty)], .bool true]) W by have := look_at hm m.sym m.id; rw [hk] at this; exact this)
        have HK := Lib.hid hk
        clear h hk
        go_enter Try.func37, Try.ntmps37
        go_upto_region 4 with fail
        clear m1 m4
        change Code.wp _ _ _ _ ((w.alloc (.cells m.cells 66)).alloc (.cells #[.int .i64 m.sym, .int .i64 m.id] 164))
        refine wp_region_held_drew (S := (fun w' => w'.cell? ⟨D, 0, none⟩ = some (.map (some b)) ∧ w'.cell? ⟨w.heap.size + 1, 0, none⟩ = some (.int .i64 m.sym) ∧ w'.cell? ⟨w.heap.size + 1, 1, none⟩ = some (.int .i64 m.id) ∧ (Instr.lookup 160 (.map (some b)) (.agg #[.int .i64 m.sym, .int .i64 m.id]) true).run Try.prog w' = .ok (.tuple #[.agg #[.int .i64 (x.side), .int .i64 (x.price), .int .i64 (x.qty)], .bool true]) w')) (by kernel_rfl) ⟨HD0.out.box.cell 0 rfl, HK0.out.cell 0 rfl, HK0.out.cell 1 rfl, HL.out _ HD0.out.map.drew⟩ (fun hHeld => ?_)
        replace HD0 := Lib.hid HD0.out.drew
        replace HM0 := Lib.hid HM0.out.drew
        replace HK0 := Lib.hid HK0.out.drew
        replace HC0 := Lib.hid HC0.out.drew
        have hsz : w.heap.size + 1 < ((w.alloc (.cells m.cells 66)).alloc (.cells #[.int .i64 m.sym, .int .i64 m.id] 164)).drew.heap.size := HK0.out.lt
        generalize ((w.alloc (.cells m.cells 66)).alloc (.cells #[.int .i64 m.sym, .int .i64 m.id] 164)).drew = W1 at HD0 HM0 HK0 HC0 hHeld hsz ⊢
        refine wpAnyH_take (i := 0) (oi := ⟨some 18, _, _, _, _, _⟩) (v := (.pointer (some ⟨D, 0, none⟩))) rfl (by kernel_rfl) (by kernel_rfl) (by kernel_rfl) (fun _ _ _ h => h) (Or.inl ⟨by rfl, fun w hSw => by (try dsimp only at hSw); go_simp⟩) (by assumption) ?_
        simp only [Act.put, List.setIfInBounds_toArray, List.set_cons_zero, List.set_cons_succ]
        refine wpAnyH_take (i := 1) (oi := ⟨some 19, _, _, _, _, _⟩) (v := (.pointer (some ⟨D, 0, none⟩))) rfl (by kernel_rfl) (by kernel_rfl) (by kernel_rfl) (fun _ _ _ h => h) (Or.inl ⟨by rfl, fun w hSw => by (try dsimp only at hSw); go_simp⟩) (by assumption) ?_
        simp only [Act.put, List.setIfInBounds_toArray, List.set_cons_zero, List.set_cons_succ]
        refine wpAnyH_take (i := 2) (oi := ⟨some 20, _, _, _, _, _⟩) (v := (.pointer (some ⟨D, 0, none⟩))) rfl (by kernel_rfl) (by kernel_rfl) (by kernel_rfl) (fun _ _ _ h => h) (Or.inl ⟨by rfl, fun w hSw => by (try dsimp only at hSw); go_simp⟩) (by assumption) ?_
        simp only [Act.put, List.setIfInBounds_toArray, List.set_cons_zero, List.set_cons_succ]
        refine wpAnyH_take (i := 3) (oi := ⟨some 21, _, _, _, _, _⟩) (v := (.map (some b))) rfl (by kernel_rfl) (by kernel_rfl) (by kernel_rfl) (fun _ _ _ h => h) (Or.inl ⟨by rfl, fun w hSw => by (try dsimp only at hSw); go_simp⟩) (by assumption) ?_
        simp only [Act.put, List.setIfInBounds_toArray, List.set_cons_zero, List.set_cons_succ]
        refine wpAnyH_take (i := 4) (oi := ⟨some 22, _, _, _, _, _⟩) (v := (.agg #[.int .i64 m.sym, .int .i64 m.id])) rfl (by kernel_rfl) (by kernel_rfl) (by kernel_rfl) (fun _ _ _ h => h) (Or.inl ⟨by rfl, fun w hSw => by (try dsimp only at hSw); go_simp⟩) (by assumption) ?_
        simp only [Act.put, List.setIfInBounds_toArray, List.set_cons_zero, List.set_cons_succ]
        refine wpAnyH_take (i := 5) (oi := ⟨some 23, _, _, _, _, _⟩) (v := (.tuple #[.agg #[.int .i64 (x.side), .int .i64 (x.price), .int .i64 (x.qty)], .bool true])) rfl (by kernel_rfl) (by kernel_rfl) (by kernel_rfl) (fun _ _ _ h => h) (Or.inl ⟨by rfl, fun w hSw => by (try dsimp only at hSw); go_simp⟩) (by assumption) ?_
        simp only [Act.put, List.setIfInBounds_toArray, List.set_cons_zero, List.set_cons_succ]
        refine wpAnyH_take (i := 6) (oi := ⟨some 17, _, _, _, _, _⟩) (v := (.tuple #[.agg #[.int .i64 (x.side), .int .i64 (x.price), .int .i64 (x.qty)], .bool true])) rfl (by kernel_rfl) (by kernel_rfl) (by kernel_rfl) (fun _ _ _ h => h) (Or.inl ⟨by rfl, fun w hSw => by (try dsimp only at hSw); go_simp⟩) (by assumption) ?_
        simp only [Act.put, List.setIfInBounds_toArray, List.set_cons_zero, List.set_cons_succ]
        refine wpAnyH_take (i := 7) (oi := ⟨some 24, _, _, _, _, _⟩) (v := (.agg #[.int .i64 (x.side), .int .i64 (x.price), .int .i64 (x.qty)])) rfl (by kernel_rfl) (by kernel_rfl) (by kernel_rfl) (fun _ _ _ h => h) (Or.inl ⟨by rfl, fun w hSw => by (try dsimp only at hSw); go_simp⟩) (by assumption) ?_
        simp only [Act.put, List.setIfInBounds_toArray, List.set_cons_zero, List.set_cons_succ]
        refine wpAnyH_take (i := 8) (oi := ⟨some 25, _, _, _, _, _⟩) (v := (.bool true)) rfl (by kernel_rfl) (by kernel_rfl) (by kernel_rfl) (fun _ _ _ h => h) (Or.inl ⟨by rfl, fun w hSw => by (try dsimp only at hSw); go_simp⟩) (by assumption) ?_
        simp only [Act.put, List.setIfInBounds_toArray, List.set_cons_zero, List.set_cons_succ]
        refine wpAnyH_ready (rs := [9]) (by kernel_rfl) (by simp) ?_
        refine AllReadyH.cons (o := ⟨some 6, _, _, _, _, _⟩) rfl (fun KK hK => ?_) AllReadyH.nil
        go_simp
        change KK _ (W1.alloc (.cells restZ 166))
        have HS : Hid (QS w D b m W1.heap.size (W1.alloc (.cells restZ 166)) L restZ) := Lib.hid ⟨HD0.out.alloc _, HM0.out.old _, HK0.out.old _, Blk.new _ _ _ _ rfl, HC0.out.alloc HC0.out.size _, hD, hb, hsz⟩
        refine hK.out _ _ ⟨HS.out.ds.box.cell 0 rfl, HS.out.kb.cell 0 rfl, HS.out.kb.cell 1 rfl, HL.out _ HS.out.ds.map⟩ (fun hHeld => ?_)
        clear hK; try clear KK
        try simp only [Act.put, List.setIfInBounds_toArray, List.set_cons_zero, List.set_cons_succ]
        refine wpAnyH_ready (rs := [10]) (by kernel_rfl) (by simp) ?_
        refine AllReadyH.cons (o := ⟨none, _, _, _, _, _⟩) rfl (fun KK hK => ?_) AllReadyH.nil
        refine step_store_blk (by rfl) 166 _ _ (by rfl) W1.heap.size (by rfl) restZ #[.int .i64 (x.side), .int .i64 (x.price), .int .i64 (x.qty)] 166 HS.out.x (by rfl) rfl (by kernel_rfl) (one_rest ⟨x.side, x.price, x.qty⟩) ?_
        replace HS := Lib.hid (HS.out.mput #[.int .i64 (x.side), .int .i64 (x.price), .int .i64 (x.qty)] rfl)
        refine hK.out _ _ ⟨HS.out.ds.box.cell 0 rfl, HS.out.kb.cell 0 rfl, HS.out.kb.cell 1 rfl, HL.out _ HS.out.ds.map⟩ (fun hHeld => ?_)
        clear hK; try clear KK
        refine wpAnyH_take (i := 11) (oi := ⟨some 7, _, _, _, _, _⟩) (v := (.bool true)) rfl (by kernel_rfl) (by kernel_rfl) (by kernel_rfl) (fun _ _ _ h => h) (Or.inl ⟨by rfl, fun w hSw => by (try dsimp only at hSw); go_simp⟩) (by assumption) ?_
        simp only [Act.put, List.setIfInBounds_toArray, List.set_cons_zero, List.set_cons_succ]
        refine wpAnyH_done (by kernel_rfl) ?_ _
        generalize hW2 : World.setCells (W1.alloc (.cells restZ 166)) W1.heap.size 0 #[.int .i64 (x.side), .int .i64 (x.price), .int .i64 (x.qty)].toList = W2 at HS hHeld ⊢
        clear hW2 hHeld HD0 HM0 HK0 HC0
        generalize W1.heap.size = xb at HS hsz ⊢
        have m0 : W2.cell? ⟨w.heap.size, 0, none⟩ = some (.int .i64 m.kind) := HS.out.mb.cell 0 rfl
        have m1 : W2.cell? ⟨w.heap.size, 1, none⟩ = some (.int .i64 m.sym) := HS.out.mb.cell 1 rfl
        have m5 : W2.cell? ⟨w.heap.size, 5, none⟩ = some (.int .i64 m.wth) := HS.out.mb.cell 5 rfl
        have m6 : W2.cell? ⟨w.heap.size, 6, none⟩ = some (.int .i64 m.price) := HS.out.mb.cell 6 rfl
        have m7 : W2.cell? ⟨w.heap.size, 7, none⟩ = some (.int .i64 m.qty) := HS.out.mb.cell 7 rfl
        have m8 : W2.cell? ⟨w.heap.size, 8, none⟩ = some (.int .i64 m.code) := HS.out.mb.cell 8 rfl
        have k0 : W2.cell? ⟨w.heap.size + 1, 0, none⟩ = some (.int .i64 m.sym) := HS.out.kb.cell 0 rfl
        have k1 : W2.cell? ⟨w.heap.size + 1, 1, none⟩ = some (.int .i64 m.id) := HS.out.kb.cell 1 rfl
        have c1 : W2.cell? ⟨w.heap.size, 7, none⟩ = some (.int .i64 m.qty) := m7
        go_wp2_with fail
        refine (less_any D b L m.sym m.id m.qty _ HS.out.ds HFI.out).mono ?_
        rintro e w3 ⟨rfl, hd3, hc3⟩
        replace HS := Lib.hid (HS.out.turnD hd3 hc3)
        clear hd3 hc3 c1 m0 m1 m5 m6 m7 m8 k0 k1
        have m1 : w3.cell? ⟨w.heap.size, 1, none⟩ = some (.int .i64 m.sym) := HS.out.mb.cell 1 rfl
        have m5 : w3.cell? ⟨w.heap.size, 5, none⟩ = some (.int .i64 m.wth) := HS.out.mb.cell 5 rfl
        have m7 : w3.cell? ⟨w.heap.size, 7, none⟩ = some (.int .i64 m.qty) := HS.out.mb.cell 7 rfl
        have m8 : w3.cell? ⟨w.heap.size, 8, none⟩ = some (.int .i64 m.code) := HS.out.mb.cell 8 rfl
        generalize hA : lessF L (m.sym, m.id) m.qty = A at HS HE HF2 ⊢
        clear hA
        obtain ⟨L1, c1⟩ := A
        dsimp only at HS HE HF2 ⊢
        go_wp2_with fail
        refine (less_any D b L1 m.sym m.wth m.qty _ HS.out.ds HF2.out).mono ?_
        rintro e w4 ⟨rfl, hd4, hc4⟩
        replace HS := Lib.hid (HS.out.turnD hd4 hc4)
        clear hd4 hc4 m1 m5 m7 m8
        generalize hB : lessF L1 (m.sym, m.wth) m.qty = B at HS HE ⊢
        clear hB
        obtain ⟨L2, c2⟩ := B
        dsimp only at HS HE ⊢
        cases c2 with
        | true =>
          go_wp2_with fail
          go_ret
          exact ⟨by (show Ending.returned (.bool true) = _; rw [HE.out, Bool.or_true]), by rw [HE.out]; exact HS.out.ds, HS.out.chg⟩
        | false =>
          go_wp2_with fail
          go_ret
          exact ⟨by (show Ending.returned (.bool c1) = _; rw [HE.out, Bool.or_false]), by rw [HE.out]; exact HS.out.ds, HS.out.chg⟩
end Go.Proofs.Ytogjgpiddjmpiaa.Depth

/- The iterator of maps.Values, of a map of levels. -/
namespace Go.Proofs.Ytogjgpiddjmpiaa.Depth
open Go.RowKit Go.Shelf Go.Proofs.Ytogjgpiddjmpiaa.Kit Go.Proofs.Ytogjgpiddjmpiaa.Blk Go.Proofs.Ytogjgpiddjmpiaa.Mp Go.Proofs.Ytogjgpiddjmpiaa.Iter
attribute [local go_sem] Oper.semAt_some wide_fn

/-- The blocks of S are as they were, and so is whatever walks. -/
def KW (S : Nat → Prop) (w w' : World) : Prop := KZ S w w' ∧ KeepsWalks w w'
theorem kw_t {S : Nat → Prop} {A B C : World} (h : KW S A B) (k : KW S B C) : KW S A C := ⟨kz_t h.1 k.1, walksK_t h.2 k.2⟩
theorem kw_b {S : Nat → Prop} {w : World} (hS : ∀ b, S b → b < w.heap.size) (W : World) (l : Nat) (o o' : Obj) (hl : w.heap.size ≤ l) (h1 : W.heap[l]? = some o) (h2 : o.isCells = false) (h3 : o.isWalk = false) : KW S W (W.putObj l o') :=
  ⟨kz_b hS W l o o' hl h1 h2 h3, walksK_b (w := w) W l o o' hl h1 h2 h3⟩
theorem kw_refl (S : Nat → Prop) (w : World) : KW S w w := ⟨kz_refl S w, ⟨Nat.le_refl _, fun _ _ h _ => h⟩⟩
theorem iter_left {w : World} {r b : Nat} {A left : List (Int × Lvl)} (h : IterIs w r b k64 lv A left) : w.rangeLeft b r = left.length := by
  obtain ⟨es, clock, seen, h1, h2, h3, h4, h5, h6⟩ := h
  have := congrArg List.length h6
  simp only [List.length_map, Array.length_toList] at this
  unfold World.rangeLeft
  rw [h1, h5]
  exact this
theorem iter_walk {w : World} {r b : Nat} {A left : List (Int × Lvl)} (h : IterIs w r b k64 lv A left) : ∃ o : Obj, w.heap[r]? = some o ∧ o.isWalk = true := by
  obtain ⟨es, clock, seen, h1, h2, h3, h4, h5, h6⟩ := h
  exact ⟨_, h5, rfl⟩
theorem iter_kw {S : Nat → Prop} {w w' : World} {r b : Nat} {A left : List (Int × Lvl)} (h : IterIs w r b k64 lv A left) (hk : KW S w w') (hb : S b) : IterIs w' r b k64 lv A left := by
  obtain ⟨o, h1, h2⟩ := iter_walk h
  exact h.same (hk.1.1 b hb) ((hk.2.2 r o h1 h2).trans h1.symm)
theorem kw_next {S : Nat → Prop} {W w w' : World} {r : Nat} (h : KW S W w) (hS : ∀ b, S b → b < W.heap.size) (hr : W.heap.size ≤ r) (hc : Chg w.heap.size r w w') : KW S W w' :=
  ⟨kz_t h.1 (Tape.kz_chg hc (fun c hk => by have := hS c hk; have := h.1.2; exact ⟨by omega, by omega⟩)), Nat.le_trans h.2.size hc.size, fun k o hk ho => by
    have hl : k < W.heap.size := (Array.getElem?_eq_some_iff.1 hk).1
    have hl2 := h.1.2
    exact (hc.block k (by omega) (by omega)).trans (h.2.same k o hk ho)⟩
theorem jv_below {B : Nat} {J : List Lvl → World → Prop} (hJ : AbidesFrom B J) {s : List Lvl} {W W' : World} (h : J s W) (hb : Below W.heap.size W W') : J s W' :=
  hJ s W W' none h ⟨hb.os, hb.tape, hb.output, hb.size, fun k hk _ => hb.block k hk⟩ (fun r e => by cases e)

set_option maxRecDepth 100000 in
set_option maxHeartbeats 2000000 in
theorem values1_in (n : Nat) (hn : 1 ≤ n) (A : List (Int × Lvl)) (l Bm b : Nat) (S : Nat → Prop) (hSb : S b) (J Jx : List Lvl → World → Prop)
    (W : World) (hSl : ∀ b, S b → b < W.heap.size) (hJ : AbidesFrom W.heap.size J) (hY : ∀ pre x W, J pre W → pre.length < A.length → YieldAt Fence.wide (n - 1) Try.prog l #[.agg (Lvl.cells x)] W fun e W' =>
      (e = .returned (.bool true) ∧ J (pre ++ [x]) W' ∧ KW S W W') ∨ (e = .returned (.bool false) ∧ Jx (pre ++ [x]) W'))
    (hBm : Blk W Bm #[.map (some b)] 174) (hM : MapIs W b k64 lv A) (h0 : J [] W) :
    CallsIn Fence.wide n Try.prog 160 #[.func (.yield l) #[] #[], .pointer (some ⟨Bm, 0, none⟩)] W fun e W' => (∃ v, e = .returned v) ∧
      ((∃ ys, ys.Perm (A.map (·.2)) ∧ J ys W') ∨ (∃ pre, True ∧ Jx pre W')) := by
  obtain ⟨o, hrg, hit⟩ := run_range (P := Try.prog) hM Try.underlying174
  have HIT := Lib.hid hit
  have c0 : W.cell? ⟨Bm, 0, none⟩ = some (.map (some b)) := hBm.cell 0 rfl
  have HW0 := Lib.hid (show KW S W (W.alloc o) from ⟨kz_below ((Below.refl _ _).alloc (Nat.le_refl _) o) hSl, (KeepsOthers.alloc W o).walks⟩)
  have HJ0 := Lib.hid (jv_below hJ h0 ((Below.refl _ _).alloc (Nat.le_refl _) o))
  have HSL := Lib.hid hSl
  clear hit hBm hM h0 hSl
  refine callsIn_of_wp Try.func160 rfl trivial ?_ rfl
  simp only [Try.ntmps160, List.size_toArray, List.length_cons, List.length_nil, Nat.reduceAdd, Nat.reduceSub, Array.replicate_succ, Array.replicate_zero, List.push_toArray, List.append_toArray, List.nil_append, List.cons_append]
  gi_wp2
  gi_loopw [7] (fun _ wr => ∃ (pre : List Lvl) (left : List (Int × Lvl)), J pre wr ∧ IterIs wr W.heap.size b k64 lv A left ∧ (pre ++ left.map (·.2)).Perm (A.map (·.2)) ∧ KW S W wr) (fun _ wr => wr.rangeLeft b W.heap.size)
  case atStart => exact ⟨[], A, HJ0.out, HIT.out, List.Perm.refl _, HW0.out⟩
  case round =>
    obtain ⟨pre, left, hjp, hit, hperm, hkw⟩ := hrel
    have HP := Lib.hid hperm
    have HKW := Lib.hid hkw
    have HLF := Lib.hid (iter_left hit)
    have HWK := Lib.hid (iter_walk hit)
    clear hrg c0 HIT HW0 HJ0
    rcases run_next (P := Try.prog) hit 0 with ⟨rfl, hrun⟩ | ⟨l1, p, l2, w', rfl, hrun, hent, hit', hch, hsz⟩
    · have HJP := Lib.hid hjp
      clear hperm hkw hit hjp
      gi_wp2
      go_end0
      exact ⟨⟨_, rfl⟩, .inl ⟨pre, by have h := HP.out; rw [List.map_nil, List.append_nil] at h; exact h, HJP.out⟩⟩
    · obtain ⟨k, ⟨x, y, z⟩⟩ := p
      have hrr : W.heap.size < wr.heap.size := hit.lt
      have hg : wr.grownBy w' (some W.heap.size) := ⟨hch.os, hch.tape, hch.output, hch.size, fun i hi hne => hch.block i hi (fun e => hne (by rw [e]))⟩
      have hj' : J pre w' := hJ pre wr w' (some W.heap.size) hjp hg (fun r e => by cases e; exact ⟨Nat.le_refl _, HWK.out⟩)
      have hlen : pre.length < A.length := by
        have := HP.out.length_eq
        simp at this; omega
      have HK1 := Lib.hid (kw_next hkw HSL.out (Nat.le_refl _) hch)
      have HIT := Lib.hid hit'
      have HAL := Lib.hid ((Below.refl _ w').alloc (Nat.le_refl _) (.cells #[.int .i64 x, .int .i64 y, .int .i64 z] 90))
      obtain ⟨fn, tmps, assign, body, hy, hR⟩ := hY pre ⟨x, y, z⟩ (w'.alloc (.cells #[.int .i64 x, .int .i64 y, .int .i64 z] 90)) (jv_below hJ hj' HAL.out) hlen
      have HIT2 := Lib.hid (HIT.out.alloc (.cells #[.int .i64 x, .int .i64 y, .int .i64 z] 90))
      have HR := Lib.hid hR
      dsimp only [Lvl.cells] at hy HR
      have hrun2 : (Instr.next (.pointer (some ⟨W.heap.size, 0, none⟩)) false 0).run Try.prog wr = .ok (.tuple #[.bool true, .int .i64 k, .agg #[.int .i64 x, .int .i64 y, .int .i64 z]]) w' := hrun
      have hent2 : (Instr.entry (.pointer (some ⟨W.heap.size, 0, none⟩))).run Try.prog w' = .ok (.tuple #[.int .i64 k, .agg #[.int .i64 x, .int .i64 y, .int .i64 z]]) w' := hent
      clear hperm hkw hit hjp hrun hent hit' hch hg hj' hR hlen
      gi_wp2_with fail
      refine HR.out.mono ?_
      rintro e W3 (⟨rfl, hJ3, hk3⟩ | ⟨rfl, hJx3⟩)
      · have HJ3 := Lib.hid hJ3
        have HIT3 := Lib.hid (iter_kw HIT2.out hk3 hSb)
        have HKW3 := Lib.hid (kw_t (kw_t HK1.out ⟨kz_below HAL.out (fun c hc => by have := HSL.out c hc; have := HK1.out.1.2; omega), (KeepsOthers.alloc w' _).walks⟩) hk3)
        clear hJ3 hk3
        gi_wp2
        go_roundw
        case rel => exact ⟨_, _, HJ3.out, HIT3.out, by (have h := HP.out; simp only [List.map_append, List.map_cons] at h ⊢; rw [List.append_assoc]; refine List.Perm.trans ?_ h; exact List.Perm.append_left pre (by simpa using List.perm_middle.symm)), HKW3.out⟩
        case measure => rw [HLF.out]; rw [iter_left HIT3.out]; simp
      · have HJX := Lib.hid hJx3
        clear hJx3
        gi_wp2
        refine bodyPost_ret (results_none rfl _ _ _) rfl ?_
        exact ⟨⟨_, rfl⟩, .inr ⟨_, trivial, HJX.out⟩⟩

theorem values_stops (n : Nat) (hn : 1 ≤ n) (A : List (Int × Lvl)) (Bm b : Nat) (S : Nat → Prop) (hSb : S b) (w : World) (hSl : ∀ b, S b → b < w.heap.size)
    (hBm : Blk w Bm #[.map (some b)] 174) (hM : MapIs w b k64 lv A) :
    SeqStopsK Fence.wide n Try.prog 160 #[.pointer (some ⟨Bm, 0, none⟩)] (fun x : Lvl => #[Value.agg x.cells]) (KW S) (fun ys => ys.Perm (A.map (·.2))) (fun _ => True) A.length w := fun l J Jx W hW hJ _ hY h0 =>
  values1_in n hn A l Bm b S hSb J Jx W (fun b hb => Nat.lt_of_lt_of_le (hSl b hb) hW.size) hJ hY (hBm.below hW hBm.lt) (hM.below hW hM.lt) h0
end Go.Proofs.Ytogjgpiddjmpiaa.Depth

/- tape.Bars. -/
namespace Go.Proofs.Ytogjgpiddjmpiaa.Tape
set_option linter.unusedVariables false
open Go.RowKit Go.Shelf Go.Proofs.Ytogjgpiddjmpiaa.Kit Go.Proofs.Ytogjgpiddjmpiaa.Blk Go.Proofs.Ytogjgpiddjmpiaa.Msgs Go.Proofs.Ytogjgpiddjmpiaa.Iter
attribute [local go_sem] Oper.semAt_some wide_fn

theorem infoBar : (Try.prog.info? 53).map (fun i => (i.zero, i.size, i.bytes)) = some (some (.agg Bar.zero.cells), 8, 64) := by kernel_rfl
/-- What Bars returns. -/
def BarsIs (wd : Int) (l : List Msg) (w : World) (e : Ending) (w' : World) : Prop :=
  ∃ v : Value, e = .returned (.tuple #[v, .int .i64 (if wd < 1 then 9 else 0)]) ∧ w'.ownsRow w.heap.size 53 8 v (if wd < 1 then [] else barsF wd l).length (rowsOf (if wd < 1 then [] else barsF wd l)) ∧ Below w.heap.size w w'

theorem results_cell_tmp {P : Program} {fn : Func} {p u : Tmp} {ty T : TypeId} {tmps : Array Value} {w : World} {B : Nat} {v : Value} (hb : Boxed w B T v) (h : fn.results = #[.cell p ty, .tmp u]) (hp : tmps.getD p undef = .pointer (some ⟨B, 0, none⟩))
    {e : TypeId} (hu : P.underlying ty = some (.slice e)) : (results fn tmps).run P w = .ok (.tuple #[v, tmps.getD u undef]) w := by
  have hc : w.cell? ⟨B, 0, none⟩ = some v := hb.cell
  have hp' : tmps[p]?.getD undef = .pointer (some ⟨B, 0, none⟩) := by simpa using hp
  have hag := run_isAgg_plain hu rfl w
  simp [results, h, hp', asAddr, loadVar, hag, hc, go_sem]
/-- The blocks that a round leaves as they were. -/
def SB (N K b : Nat) : Prop := b < N ∨ b = K + 1 ∨ b = K + 1 + 1
theorem kz_own {S : Nat → Prop} {Z : World} {β : Type} {B : Nat} (hZ : B ≤ Z.heap.size) (hS : ∀ b, S b → b < B) : OwnFrom B (fun (_ : β) W => KZ S Z W) := by
  intro s W W' row hs hg hr
  refine ⟨fun b hb => ?_, Nat.le_trans hs.2 hg.size⟩
  rw [hg.block b (Nat.lt_of_lt_of_le (hS b hb) (Nat.le_trans hZ hs.2)) (fun e => by have := (hr b e.symm).1; have := hS b hb; omega)]
  exact hs.1 b hb
def mkZero : Array Value := #[.int .i64 0, .int .i64 0, .int .i64 0, .int .i64 0, .int .i64 0, .int .i64 0, .int .i64 0, .int .i64 0, .int .u64 0, .int .u64 0]
theorem one_mkz : mkZero.all (·.oneCell') = true := by simp [mkZero, Value.oneCell']
theorem mk_zero : mkZero = mk Bar.zero 0 := rfl

set_option maxRecDepth 100000 in
set_option maxHeartbeats 4000000 in
theorem bars_any (a : Option Addr) (cap : Nat) (ms : List Msg) (sym wd : Int) (w : World) (hm : MsgRow w a ms) (hl : ms.length ≤ 1000) (hfit : ∀ m ∈ ms, m.tick ≤ 9223372036854775807) :
    Calls Try.prog 24 #[.slice a ms.length cap, .int .i64 sym, .int .i64 wd] w fun e w' => BarsIs wd ((cnt sym ms).map Subtype.val) w e w' := by
  refine of_wide (n := 9) ?_
  refine callsIn_of_wp_marks Try.func24 rfl trivial ?_ rfl
  simp only [Try.ntmps24, List.size_toArray, List.length_cons, List.length_nil, Nat.reduceAdd, Nat.reduceSub, Array.replicate_succ, Array.replicate_zero, List.push_toArray, List.append_toArray, List.nil_append, List.cons_append]
  have hB1 := Blk.new w #[.int .i64 wd] 2 w.heap.size rfl
  have hO1 := Blk.new (w.alloc (.cells #[.int .i64 wd] 2)) #[.slice none 0 0] 46 (w.heap.size + 1) (by simp)
  have hL1 : Below w.heap.size w ((w.alloc (.cells #[.int .i64 wd] 2)).alloc (.cells #[.slice none 0 0] 46)) := ((Below.refl _ _).alloc (Nat.le_refl _) _).alloc (by simp) _
  have HO := Lib.hid hO1
  have HL := Lib.hid hL1
  have HBw := Lib.hid (hB1.old (.cells #[.slice none 0 0] 46))
  have HM := Lib.hid hm
  have HMB := Lib.hid (msg_old hm)
  clear hB1 hO1 hL1 hm
  gi_wp2
  refine scopeW ?_
  by_cases hw : wd < 1
  · have HW := Lib.hid hw
    gi_wp2
    rw [Exit.noGoto_ret]
    gi_wp2
    refine ⟨_, results_cell_tmp HO.out rfl rfl Try.underlying46, ?_⟩
    refine ⟨_, by rw [if_pos HW.out]; rfl, ?_, HL.out⟩
    rw [if_pos HW.out]
    exact World.ownsRow_nil _ _ _ _
  · have hw1 : 1 ≤ wd := by omega
    gi_wp2_with fail
    refine wpIn_label ?_
    gi_wp2_with fail
    have hWs : ((w.alloc (.cells #[.int .i64 wd] 2)).alloc (.cells #[.slice none 0 0] 46)).heap.size = w.heap.size + 1 + 1 := by simp
    generalize (w.alloc (.cells #[.int .i64 wd] 2)).alloc (.cells #[.slice none 0 0] 46) = W at HO HL HBw hWs ⊢
    generalize hKK : w.heap.size + 1 + 1 = K at hWs ⊢
    generalize hOO : w.heap.size + 1 = O at HO hKK ⊢
    have HK := Lib.hid (Blk.new W mkZero 146 K hWs)
    replace HO := Lib.hid (HO.out.old (.cells mkZero 146))
    replace HBw := Lib.hid (HBw.out.old (.cells mkZero 146))
    replace HL := Lib.hid (HL.out.alloc (by omega) (.cells mkZero 146))
    have hX : (W.alloc (.cells mkZero 146)).heap.size = K + 1 := by rw [World.size_alloc, hWs]
    have HKK := Lib.hid hKK
    have HOO := Lib.hid hOO
    have HX := Lib.hid hX
    clear hKK hOO hWs
    change CallsIn _ _ _ _ _ (W.alloc (.cells mkZero 146)) _
    generalize W.alloc (.cells mkZero 146) = X at HO HBw HL HK HX hX ⊢
    refine (to_wide (counts_any _ a ms.length cap sym X rfl (K + 1) hX)).mono ?_
    clear hX
    rintro e w2 ⟨rfl, rfl⟩
    gi_wp2_with fail
    have HXs := Lib.hid (Blk.new X #[.slice a ms.length cap] 45 (K + 1) HX.out)
    replace HXs := Lib.hid (HXs.out.old (.cells #[.int .i64 sym] 3))
    have HXy := Lib.hid (Blk.new (X.alloc (.cells #[.slice a ms.length cap] 45)) #[.int .i64 sym] 3 (K + 1 + 1) (by rw [World.size_alloc, HX.out]))
    have HZs := Lib.hid (show ((X.alloc (.cells #[.slice a ms.length cap] 45)).alloc (.cells #[.int .i64 sym] 3)).heap.size = K + 3 by rw [World.size_alloc, World.size_alloc, HX.out])
    have hbz : Below X.heap.size X ((X.alloc (.cells #[.slice a ms.length cap] 45)).alloc (.cells #[.int .i64 sym] 3)) := ((Below.refl _ _).alloc (Nat.le_refl _) _).alloc (by simp) _
    replace HO := Lib.hid (HO.out.below hbz HO.out.lt)
    replace HBw := Lib.hid (HBw.out.below hbz HBw.out.lt)
    replace HK := Lib.hid (HK.out.below hbz HK.out.lt)
    replace HL := Lib.hid (HL.out.trans (hbz.mono HL.out.size))
    clear hbz
    generalize (X.alloc (.cells #[.slice a ms.length cap] 45)).alloc (.cells #[.int .i64 sym] 3) = Z at HO HBw HK HL HXs HXy HZs ⊢
    clear HX
    replace HM := Lib.hid (HM.out.all HL.out)
    refine wpIn_rangeFunc_ownH (w0 := Z) rfl (by decide) (gf := 113) (lb := #[.pointer (some ⟨K + 1, 0, none⟩), .pointer (some ⟨K + 1 + 1, 0, none⟩)]) rfl trivial (enters_of Try.func113 (by kernel_rfl) rfl)
      (counts_stops 8 (by decide) sym a cap ms hl hfit (K + 1) (K + 1 + 1) (SB w.heap.size K) (fun b off ha hn => Or.inl (HMB.out b off ha hn)) (by simp [SB]) Z (fun b hb => by have := HZs.out; have := HKK.out; have := HOO.out; unfold SB at hb; omega) HXs.out HXy.out HM.out) kz_t (kz_b (fun b hb => by have := HZs.out; have := HKK.out; have := HOO.out; unfold SB at hb; omega)) (Below.refl _ _) (fun _ => rfl)
      (fun (pre : List TM) W => Kept w.heap.size O K w.heap.size wd w (foldB wd (pre.map Subtype.val)) W ∧ KZ (SB w.heap.size K) Z W)
      (fun _ _ _ => False)
      (OwnFrom.and (kept_own _ HL.out.size) (kz_own (Nat.le_refl _) (fun b hb => by have := HZs.out; have := HKK.out; have := HOO.out; unfold SB at hb; omega)))
      (fun c s W W' row hs _ _ => hs)
      ⟨⟨⟨_, HO.out, World.ownsRow_nil _ _ _ _, trivial⟩, (by have h := HK.out; rw [mk_zero] at h; exact h), HBw.out, HL.out, Nat.le_refl _⟩, kz_refl _ _⟩
      (fun x a' W => ∃ Bx, Z.heap.size ≤ Bx ∧ Blk W Bx x.1.cells 66 ∧ a' = { tmps := #[.slice a ms.length cap, .int .i64 sym, .int .i64 wd, undef, undef, .pointer (some ⟨w.heap.size, 0, none⟩), .pointer (some ⟨O, 0, none⟩), .int .i64 0, .pointer (some ⟨K, 0, none⟩), .pointer (some ⟨Bx, 0, none⟩), undef, .int .i64 wd, .bool false,
        .slice a ms.length cap, .int .i64 sym, .func (.func 113) #[] #[.pointer (some ⟨K + 1, 0, none⟩), .pointer (some ⟨K + 1 + 1, 0, none⟩)], .agg x.1.cells, undef, undef, undef, undef, undef, undef, undef, undef, undef, undef, undef, undef, undef, undef, undef, undef, undef, undef, undef, undef, undef, undef, undef, undef, undef, undef, undef, undef, undef, undef, undef, undef, undef, undef, undef, undef, undef], defers := [] })
      (fun x a' s W W' row hs hg hr => by obtain ⟨Bx, h1, h2, h3⟩ := hs; exact ⟨Bx, h1, (grownBy_keeps_cells hg (fun r e => (hr r e).2) h2 rfl).trans h2, h3⟩) ?assign ?body ?done ?stop
    case assign =>
      rintro l pre x W K' ⟨hi, hz⟩ hK'
      have HZ := Lib.hid (Blk.new W msgZero 66 W.heap.size rfl)
      have HFIN := Lib.hid (hK' _ _ ((KeepsOthers.alloc W (.cells x.1.cells 66)).from _) (kz_below ((Below.refl W.heap.size W).alloc (Nat.le_refl _) (.cells x.1.cells 66)) (fun b hb => by have := HZs.out; have := HKK.out; have := HOO.out; have := hz.2; unfold SB at hb; omega))
        ⟨hi.below ((Below.refl W.heap.size W).alloc (Nat.le_refl _) (.cells x.1.cells 66)), kz_t hz (kz_below ((Below.refl W.heap.size W).alloc (Nat.le_refl _) (.cells x.1.cells 66)) (fun b hb => by have := HZs.out; have := HKK.out; have := HOO.out; have := hz.2; unfold SB at hb; omega))⟩
        ⟨W.heap.size, hz.2, Blk.new W x.1.cells 66 W.heap.size rfl, rfl⟩)
      clear hK' hi hz
      gi_wp2_with (refine storeR_blk l (by rfl) 66 _ _ (by rfl) W.heap.size (by rfl) msgZero x.1.cells 66 HZ.out (by rfl) (by rfl) (by kernel_rfl) (one_msg _) ?_; change wpListIn _ _ _ _ _ _ _ (World.setCells (W.alloc (.cells msgZero 66)) W.heap.size 0 x.1.cells.toList); rw [alloc_setCells W msgZero x.1.cells 66 rfl W.heap.size rfl])
      exact HFIN.out
    case body =>
      rintro l pre x a' W hWl ⟨r, hr⟩ ⟨hkept, hkz⟩ ⟨Bx, hBx, bX, rfl⟩ hlen
      obtain ⟨m, hg⟩ := x
      have hn : pre.length ≤ 999 := by have := cnt_len sym ms; omega
      have hsnd := (sound_fold wd (pre.map Subtype.val) (fun m hm => by obtain ⟨y, _, rfl⟩ := List.mem_map.1 hm; exact y.2))
      rw [List.length_map] at hsnd
      have HST := Lib.hid (show foldB wd ((pre ++ [(⟨m, hg⟩ : TM)]).map Subtype.val) = stepB wd (foldB wd (pre.map Subtype.val)) m by rw [List.map_append]; exact foldB_snoc wd _ m)
      generalize foldB wd (pre.map Subtype.val) = s at hkept hsnd HST
      obtain ⟨out, b, x⟩ := s
      obtain ⟨hsnd, hout⟩ := hsnd
      dsimp only at hsnd hout
      have HSND := Lib.hid hsnd
      have hsm := sound_small hsnd (by omega)
      have ht0 := hsnd.t0
      have hv0 := hsnd.v0
      obtain ⟨ht1, hv1, hx1⟩ := hsm
      have e0 : ¬ wd = 0 := by omega
      have e1 : IntKind.i64.wrap (m.tick.tdiv wd) = m.tick / wd := by
        rw [Int.tdiv_eq_ediv_of_nonneg hg.t1, IntWalk.i64_in _ ⟨by have := Int.ediv_nonneg hg.t1 (show 0 ≤ wd by omega); omega, by have := Int.ediv_le_self wd hg.t1; have := hg.t2; omega⟩]
      have e2 : IntKind.i64.wrap (m.tick / wd * wd) = m.tick / wd * wd :=
        IntWalk.i64_in _ ⟨by have := Fix.div_mul_nonneg m.tick wd hg.t1 hw1; omega, by have := Fix.div_mul_le m.tick wd hw1; have := hg.t2; omega⟩
      have HF := Lib.hid (show stepB wd ⟨out, b, x⟩ m = if b.trd = 0 ∨ b.frm = m.tick / wd * wd then ⟨out, addF b (m.tick / wd * wd) m, x + wo m⟩ else ⟨out ++ [doneF b x], addF Bar.zero (m.tick / wd * wd) m, wo m⟩ from rfl)
      generalize m.tick / wd = q at e1 e2 HF
      have HKP := Lib.hid hkept
      have HKZ := Lib.hid hkz
      have HBX := Lib.hid bX
      have HR := Lib.hid hr
      have c3 : W.cell? ⟨Bx, 3, none⟩ = some (.int .i64 m.tick) := bX.cell 3 rfl
      have cw : W.cell? ⟨w.heap.size, 0, none⟩ = some (.int .i64 wd) := hkept.width.cell 0 rfl
      clear hkept hkz bX hr hlen hsnd
      gi_wp2_with fail
      refine stillR l (by kernel_rfl) (by kernel_rfl) (by kernel_rfl) ?_
      repeat still_step
      refine wpStill_nil ?_
      generalize hff : q * wd = f at HF
      have HFF := Lib.hid hff
      clear hff e1 e2 c3 cw
      replace HKP := Lib.hid HKP.out.drew
      replace HKZ := Lib.hid (kz_t HKZ.out (kz_below (Below.refl _ W).drew (fun b hb => Nat.lt_of_lt_of_le (by have := HZs.out; have := HKK.out; have := HOO.out; unfold SB at hb; omega) HKZ.out.2)))
      have HKF := Lib.hid ((KeepsOthers.drew W).from Z.heap.size)
      replace HBX := Lib.hid HBX.out.drew
      have HWK := Lib.hid (show KZ (SB w.heap.size K) W W.drew from kz_below (Below.refl _ W).drew (fun b hb => Nat.lt_of_lt_of_le (by have := HZs.out; have := HKK.out; have := HOO.out; unfold SB at hb; omega) (show Z.heap.size ≤ W.heap.size from HKZ.out.2)))
      generalize W.drew = W1 at HKP HKZ HBX HKF HWK ⊢
      have k6 : W1.cell? ⟨K, 6, none⟩ = some (.int .i64 b.trd) := HKP.out.maker.cell 6 rfl
      have k0 : W1.cell? ⟨K, 0, none⟩ = some (.int .i64 b.frm) := HKP.out.maker.cell 0 rfl
      by_cases hz : b.trd = 0
      · have b1 : (b.trd == 0) = true := by simpa using hz
        have HFE := Lib.hid (HF.out.trans (if_pos (Or.inl hz)))
        clear hz
        have HADD := Lib.hid (fun w (h : Blk w K (mk b x) 146) => add_any K b x f m w h hg ht0 ht1 hv0 hv1 hx1)
        gi_wp2_with (refine loadR_blk l (by rfl) 66 _ (by rfl) Bx (by rfl) m.cells 66 HBX.out _ Try.underlying66 rfl (by kernel_rfl) ?_)
        refine (CallsIn.inRound l (to_wide (HADD.out _ HKP.out.maker))).mono ?_
        rintro e w2 ⟨rfl, hk2, hc2⟩
        have HEND := Lib.hid (kept_chg HKP.out _ _ hk2 hc2 (by have := HKK.out; omega) (by have := HKK.out; have := HOO.out; omega) (by have := HKK.out; have := HOO.out; omega))
        have HZ2 := Lib.hid (kz_chg (S := SB w.heap.size K) hc2 (fun b hb => ⟨Nat.lt_of_lt_of_le (by have := HZs.out; have := HKK.out; have := HOO.out; unfold SB at hb; omega) HKZ.out.2, by have := HKK.out; have := HOO.out; unfold SB at hb; omega⟩))
        have HF2 := Lib.hid (kf_chg (B := Z.heap.size) hc2 (by have := HZs.out; omega))
        clear hk2 hc2
        gi_wp2
        exact ⟨HKF.out.trans HF2.out, kz_t HWK.out HZ2.out, by rw [HST.out, HFE.out]; exact HEND.out, kz_t HKZ.out HZ2.out⟩
      · by_cases hq : b.frm = f
        · have b1 : (b.trd == 0) = false := by simpa using hz
          have b2 : (b.frm == f) = true := by simpa using hq
          have HFE := Lib.hid (HF.out.trans (if_pos (Or.inr hq)))
          clear hz hq
          have HADD := Lib.hid (fun w (h : Blk w K (mk b x) 146) => add_any K b x f m w h hg ht0 ht1 hv0 hv1 hx1)
          gi_wp2_with (refine loadR_blk l (by rfl) 66 _ (by rfl) Bx (by rfl) m.cells 66 HBX.out _ Try.underlying66 rfl (by kernel_rfl) ?_)
          refine (CallsIn.inRound l (to_wide (HADD.out _ HKP.out.maker))).mono ?_
          rintro e w2 ⟨rfl, hk2, hc2⟩
          have HEND := Lib.hid (kept_chg HKP.out _ _ hk2 hc2 (by have := HKK.out; omega) (by have := HKK.out; have := HOO.out; omega) (by have := HKK.out; have := HOO.out; omega))
          have HZ2 := Lib.hid (kz_chg (S := SB w.heap.size K) hc2 (fun b hb => ⟨Nat.lt_of_lt_of_le (by have := HZs.out; have := HKK.out; have := HOO.out; unfold SB at hb; omega) HKZ.out.2, by have := HKK.out; have := HOO.out; unfold SB at hb; omega⟩))
          have HF2 := Lib.hid (kf_chg (B := Z.heap.size) hc2 (by have := HZs.out; omega))
          clear hk2 hc2
          gi_wp2
          exact ⟨HKF.out.trans HF2.out, kz_t HWK.out HZ2.out, by rw [HST.out, HFE.out]; exact HEND.out, kz_t HKZ.out HZ2.out⟩
        · have b1 : (b.trd == 0) = false := by simpa using hz
          have b2 : (b.frm == f) = false := by simpa using hq
          have HFE := Lib.hid (HF.out.trans (if_neg (fun h => by rcases h with h | h; exact hz h; exact hq h)))
          obtain ⟨v, hv, hrow, -⟩ := HKP.out.out
          have HV := Lib.hid hv
          have HROW := Lib.hid hrow
          have hme := sound_mean HSND.out hz (by omega)
          have HDONE := Lib.hid (show ∀ w, Blk w K (mk b x) 146 → Calls Try.prog 73 #[.pointer (some ⟨K, 0, none⟩)] w fun e w' => e = .returned (.agg (doneF b x).cells) ∧ Blk w' K (mk (doneF b x) x) 146 ∧ Chg w.heap.size K w w' from
            fun w h => done_any K b x b.vol.toNat w h hme.1 hme.2.1 hme.2.2.1 hme.2.2.2.1 hme.2.2.2.2)
          obtain ⟨i0, hi0, hz0, hz1, hz2⟩ := info_parts infoBar
          clear hv hrow hme hz hq
          generalize doneF b x = d at HDONE HFE
          gi_wp2_with fail
          refine heldR l (S := fun _ => True) (by kernel_rfl) (by kernel_rfl) trivial (fun hHeld => ?_)
          clear k6 k0
          replace HKP := Lib.hid HKP.out.drew
          replace HBX := Lib.hid HBX.out.drew
          replace HV := Lib.hid (show Boxed W1.drew O 46 v from HV.out)
          replace HROW := Lib.hid (show W1.drew.ownsRow w.heap.size 53 8 v out.length (rowsOf out) from HROW.out)
          have HW12 := Lib.hid (show KZ (SB w.heap.size K) W1 W1.drew from kz_below (Below.refl _ W1).drew (fun b hb => Nat.lt_of_lt_of_le (by have := HZs.out; have := HKK.out; have := HOO.out; unfold SB at hb; omega) (show Z.heap.size ≤ W1.heap.size from HKZ.out.2)))
          replace HKF := Lib.hid (HKF.out.trans ((KeepsOthers.drew W1).from Z.heap.size))
          replace HWK := Lib.hid (kz_t HWK.out HW12.out)
          replace HKZ := Lib.hid (kz_t HKZ.out HW12.out)
          clear HW12
          generalize W1.drew = W2 at HKP HKZ HBX HKF HWK HV HROW ⊢
          refine wpAnyH_ready (rs := [0, 1]) (by kernel_rfl) (by simp) ?_
          refine AllReadyH.cons (o := ⟨some 37, _, _, _, _, _⟩) rfl (fun KK hK => ?_) (AllReadyH.cons (o := ⟨some 38, _, _, _, _, _⟩) rfl (fun KK hK => ?_) AllReadyH.nil)
          ·
            have c0 : W2.cell? ⟨O, 0, none⟩ = some v := HV.out.cell
            go_simp
            refine hK.out _ _ trivial (fun hHeld => ?_)
            clear hK; try clear KK
            try simp only [Act.put, List.setIfInBounds_toArray, List.set_cons_zero, List.set_cons_succ]
            clear c0
            refine wpAnyH_ready (rs := [1]) (by kernel_rfl) (by simp) ?_
            refine AllReadyH.cons (o := ⟨some 38, _, _, _, _, _⟩) rfl (fun KK hK => ?_) AllReadyH.nil
            go_simp
            refine (HDONE.out _ HKP.out.maker).mono ?_
            rintro e W3 ⟨rfl, hk3, hc3⟩
            dsimp only [Bar.cells]
            have HW23 := Lib.hid (kz_chg (S := SB w.heap.size K) hc3 (fun b hb => ⟨Nat.lt_of_lt_of_le (by have := HZs.out; have := HKK.out; have := HOO.out; unfold SB at hb; omega) HKZ.out.2, by have := HKK.out; have := HOO.out; unfold SB at hb; omega⟩))
            replace HV := Lib.hid (HV.out.kept (chg_grown hc3) (by have := HKK.out; simp; omega))
            replace HROW := Lib.hid (HROW.out.kept (chg_grown hc3) (.inr (fun e => blk_not_row HKP.out.maker (by decide) HROW.out e.symm)))
            replace HKP := Lib.hid (kept_chg HKP.out d x hk3 hc3 (by have := HKK.out; omega) (by have := HKK.out; have := HOO.out; omega) (by have := HKK.out; have := HOO.out; omega))
            replace HBX := Lib.hid (hc3.blk HBX.out.lt (by have := HZs.out; omega) HBX.out)
            replace HKF := Lib.hid (HKF.out.trans (kf_chg (B := Z.heap.size) hc3 (by have := HZs.out; omega)))
            replace HWK := Lib.hid (kz_t HWK.out HW23.out)
            replace HKZ := Lib.hid (kz_t HKZ.out HW23.out)
            clear HW23 hk3 hc3 hHeld
            go_wp2_with fail
            refine hK.out _ _ trivial (fun hHeld => ?_)
            clear hK; try clear KK
            try simp only [Act.put, List.setIfInBounds_toArray, List.set_cons_zero, List.set_cons_succ]
            refine wpAnyH_ready (rs := [2]) (by kernel_rfl) (by simp) ?_
            refine AllReadyH.cons (o := ⟨some 39, _, _, _, _, _⟩) rfl (fun KK hK => ?_) AllReadyH.nil
            go_simp
            change KK _ (W3.alloc (.cells d.cells 53))
            have HV3 := HV
            replace HV := Lib.hid (HV.out.alloc (.cells d.cells 53))
            have HR4 := Lib.hid (HROW.out.alloc (.cells d.cells 53))
            have HNEW := Lib.hid (Blk.new W3 d.cells 53 W3.heap.size rfl)
            have HS4 := Lib.hid (show (W3.alloc (.cells d.cells 53)).heap.size = W3.heap.size + 1 by simp)
            generalize hW4 : W3.alloc (.cells d.cells 53) = W4 at HV HR4 HNEW HS4 ⊢
            have HW4 := Lib.hid hW4
            clear hW4
            refine hK.out _ _ trivial (fun hHeld => ?_)
            clear hK; try clear KK
            try simp only [Act.put, List.setIfInBounds_toArray, List.set_cons_zero, List.set_cons_succ]
            refine wpAnyH_ready (rs := [3]) (by kernel_rfl) (by simp) ?_
            refine AllReadyH.cons (o := ⟨some 40, _, _, _, _, _⟩) rfl (fun KK hK => ?_) AllReadyH.nil
            refine step_append_lies _ (by rfl) _ _ _ (by rfl) w.heap.size 53 i0 (.agg Bar.zero.cells) 8 64 Try.underlying46 hi0 hz0 hz1 hz2 (by rfl) (by decide) v out.length (rowsOf out) (by rfl) HR4.out ⟨W3.heap.size, 0, none⟩ 1 1 d.cells.toList (by rfl) (by rfl) (news_blk HNEW.out) (one_mem (one_bar d)) (by decide) (by unfold maxLen; omega) (by omega) (by have := HS4.out; have := HKP.out.le; omega) (W3.heap.size + 1) HS4.out ?_
            intro g cap2 w5 hown5 hgrow5 hat5 hlt5
            clear hat5 hlt5
            have HV5 := Lib.hid (HV.out.kept hgrow5 (HV.out.not_row (by decide) HR4.out))
            rw [← HW4.out] at hgrow5
            have HKP6 := Lib.hid (HKP.out.push (bs := out ++ [d]) HV3.out HROW.out (by have := HKK.out; omega) (by have := HOO.out; omega) (by have := HOO.out; omega) (by rw [rowsOf_app, List.length_append]; exact hown5) hgrow5)
            have HKO6 := Lib.hid (push_keeps HV3.out HROW.out HKP.out.le (by have := HOO.out; omega) hown5 hgrow5)
            have HKZ6 := Lib.hid (kz_push (O := O) (v' := .slice (some ⟨g, 0, none⟩) (out.length + 1) cap2) (S := SB w.heap.size K) HROW.out hgrow5 (fun b hb => ⟨Nat.lt_of_lt_of_le (by have := HZs.out; have := HKK.out; have := HOO.out; unfold SB at hb; omega) HKZ.out.2, by have := HKK.out; have := HOO.out; unfold SB at hb; omega, by
              rcases hb with hb | rfl | rfl
              · exact .inl hb
              · exact .inr ⟨_, _, ks_blk HXs.out HKZ.out.1 (.inr (.inl rfl)), by decide⟩
              · exact .inr ⟨_, _, ks_blk HXy.out HKZ.out.1 (.inr (.inr rfl)), by decide⟩⟩))
            have HBX6 := Lib.hid (((blk_grown (HBX.out.old (.cells d.cells 53)) hgrow5 (blk_not_row HBX.out (by decide) HROW.out)).apart ⟨O, 0, none⟩ (.slice (some ⟨g, 0, none⟩) (out.length + 1) cap2) (by show O ≠ Bx; have := HZs.out; have := HKK.out; omega)))
            have c0 : w5.cell? ⟨O, 0, none⟩ = some v := HV5.out.cell
            have f0 : w5.frozen? ⟨O, 0, none⟩ = false := HV5.out.frozen
            clear hown5 hgrow5
            refine hK.out _ _ trivial (fun hHeld => ?_)
            clear hK; try clear KK
            try simp only [Act.put, List.setIfInBounds_toArray, List.set_cons_zero, List.set_cons_succ]
            refine wpAnyH_ready (rs := [4]) (by kernel_rfl) (by simp) ?_
            refine AllReadyH.cons (o := ⟨none, _, _, _, _, _⟩) rfl (fun KK hK => ?_) AllReadyH.nil
            go_simp
            clear c0 f0 HV5
            change KK _ (World.setCell w5 ⟨O, 0, none⟩ (.slice (some ⟨g, 0, none⟩) (out.length + 1) cap2))
            generalize World.setCell w5 ⟨O, 0, none⟩ (.slice (some ⟨g, 0, none⟩) (out.length + 1) cap2) = W6 at HKP6 HKO6 HKZ6 HBX6 ⊢
            refine hK.out _ _ trivial (fun hHeld => ?_)
            clear hK; try clear KK
            refine wpAnyH_done (by kernel_rfl) ?_ _
            unfold onlyNormal
            replace HKF := Lib.hid (HKF.out.trans (HKO6.out.from Z.heap.size))
            replace HWK := Lib.hid (kz_t HWK.out HKZ6.out)
            replace HKZ := Lib.hid (kz_t HKZ.out HKZ6.out)
            clear HKO6 HKZ6 HKP HROW HV HV3 HR4 HNEW HS4 HW4 HDONE hHeld
            have HK7 := Lib.hid (HKP6.out.maker.setCells mkZero rfl)
            have HC7 := Lib.hid (Chg.setCells (B := K) mkZero.toList 0 _ (Chg.refl W6.heap.size K W6) (Or.inl rfl))
            have HBX7 := Lib.hid (Blk.apartAll (B := K) mkZero.toList 0 _ HBX6.out (by have := HZs.out; omega))
            have HADD := Lib.hid (fun w (h : Blk w K (mk Bar.zero 0) 146) => add_any K Bar.zero 0 f m w h hg (by decide) (by decide) (by decide) (by decide) (by decide))
            gi_wp2_with (first
              | (refine storeR_blk l (by rfl) 146 _ _ (by rfl) K (by rfl) (mk d x) mkZero 146 HKP6.out.maker (by rfl) (by rfl) (by kernel_rfl) one_mkz ?_; generalize World.setCells W6 K 0 mkZero.toList = W7 at HK7 HC7 HBX7 ⊢; have HBX8 := HBX7)
              | (refine loadR_blk l (by rfl) 66 _ (by rfl) Bx (by rfl) m.cells 66 HBX8.out _ Try.underlying66 rfl (by kernel_rfl) ?_))
            rw [mk_zero] at HK7
            refine (CallsIn.inRound l (to_wide (HADD.out _ HK7.out))).mono ?_
            rintro e w8 ⟨rfl, hk8, hc8⟩
            rw [Nat.zero_add] at hk8
            have hc := HC7.out.trans (hc8.mono HC7.out.size)
            have HEND := Lib.hid (kept_chg HKP6.out _ _ hk8 hc (by have := HKK.out; omega) (by have := HKK.out; have := HOO.out; omega) (by have := HKK.out; have := HOO.out; omega))
            have HZ2 := Lib.hid (kz_chg (S := SB w.heap.size K) hc (fun b hb => ⟨Nat.lt_of_lt_of_le (by have := HZs.out; have := HKK.out; have := HOO.out; unfold SB at hb; omega) HKZ.out.2, by have := HKK.out; have := HOO.out; unfold SB at hb; omega⟩))
            have HF2 := Lib.hid (kf_chg (B := Z.heap.size) hc (by have := HZs.out; omega))
            clear hk8 hc8 hc HC7
            gi_wp2
            exact ⟨HKF.out.trans HF2.out, kz_t HWK.out HZ2.out, by rw [HST.out, HFE.out]; exact HEND.out, kz_t HKZ.out HZ2.out⟩
          ·
            go_simp
            refine (HDONE.out _ HKP.out.maker).mono ?_
            rintro e W3 ⟨rfl, hk3, hc3⟩
            dsimp only [Bar.cells]
            have HW23 := Lib.hid (kz_chg (S := SB w.heap.size K) hc3 (fun b hb => ⟨Nat.lt_of_lt_of_le (by have := HZs.out; have := HKK.out; have := HOO.out; unfold SB at hb; omega) HKZ.out.2, by have := HKK.out; have := HOO.out; unfold SB at hb; omega⟩))
            replace HV := Lib.hid (HV.out.kept (chg_grown hc3) (by have := HKK.out; simp; omega))
            replace HROW := Lib.hid (HROW.out.kept (chg_grown hc3) (.inr (fun e => blk_not_row HKP.out.maker (by decide) HROW.out e.symm)))
            replace HKP := Lib.hid (kept_chg HKP.out d x hk3 hc3 (by have := HKK.out; omega) (by have := HKK.out; have := HOO.out; omega) (by have := HKK.out; have := HOO.out; omega))
            replace HBX := Lib.hid (hc3.blk HBX.out.lt (by have := HZs.out; omega) HBX.out)
            replace HKF := Lib.hid (HKF.out.trans (kf_chg (B := Z.heap.size) hc3 (by have := HZs.out; omega)))
            replace HWK := Lib.hid (kz_t HWK.out HW23.out)
            replace HKZ := Lib.hid (kz_t HKZ.out HW23.out)
            clear HW23 hk3 hc3 hHeld
            go_wp2_with fail
            refine hK.out _ _ trivial (fun hHeld => ?_)
            clear hK; try clear KK
            try simp only [Act.put, List.setIfInBounds_toArray, List.set_cons_zero, List.set_cons_succ]
            refine wpAnyH_ready (rs := [0, 2]) (by kernel_rfl) (by simp) ?_
            refine AllReadyH.cons (o := ⟨some 37, _, _, _, _, _⟩) rfl (fun KK hK => ?_) (AllReadyH.cons (o := ⟨some 39, _, _, _, _, _⟩) rfl (fun KK hK => ?_) AllReadyH.nil)
            ·
              have c0 : W3.cell? ⟨O, 0, none⟩ = some v := HV.out.cell
              go_simp
              refine hK.out _ _ trivial (fun hHeld => ?_)
              clear hK; try clear KK
              try simp only [Act.put, List.setIfInBounds_toArray, List.set_cons_zero, List.set_cons_succ]
              clear c0
              refine wpAnyH_ready (rs := [2]) (by kernel_rfl) (by simp) ?_
              refine AllReadyH.cons (o := ⟨some 39, _, _, _, _, _⟩) rfl (fun KK hK => ?_) AllReadyH.nil
              go_simp
              change KK _ (W3.alloc (.cells d.cells 53))
              have HV3 := HV
              replace HV := Lib.hid (HV.out.alloc (.cells d.cells 53))
              have HR4 := Lib.hid (HROW.out.alloc (.cells d.cells 53))
              have HNEW := Lib.hid (Blk.new W3 d.cells 53 W3.heap.size rfl)
              have HS4 := Lib.hid (show (W3.alloc (.cells d.cells 53)).heap.size = W3.heap.size + 1 by simp)
              generalize hW4 : W3.alloc (.cells d.cells 53) = W4 at HV HR4 HNEW HS4 ⊢
              have HW4 := Lib.hid hW4
              clear hW4
              refine hK.out _ _ trivial (fun hHeld => ?_)
              clear hK; try clear KK
              try simp only [Act.put, List.setIfInBounds_toArray, List.set_cons_zero, List.set_cons_succ]
              refine wpAnyH_ready (rs := [3]) (by kernel_rfl) (by simp) ?_
              refine AllReadyH.cons (o := ⟨some 40, _, _, _, _, _⟩) rfl (fun KK hK => ?_) AllReadyH.nil
              refine step_append_lies _ (by rfl) _ _ _ (by rfl) w.heap.size 53 i0 (.agg Bar.zero.cells) 8 64 Try.underlying46 hi0 hz0 hz1 hz2 (by rfl) (by decide) v out.length (rowsOf out) (by rfl) HR4.out ⟨W3.heap.size, 0, none⟩ 1 1 d.cells.toList (by rfl) (by rfl) (news_blk HNEW.out) (one_mem (one_bar d)) (by decide) (by unfold maxLen; omega) (by omega) (by have := HS4.out; have := HKP.out.le; omega) (W3.heap.size + 1) HS4.out ?_
              intro g cap2 w5 hown5 hgrow5 hat5 hlt5
              clear hat5 hlt5
              have HV5 := Lib.hid (HV.out.kept hgrow5 (HV.out.not_row (by decide) HR4.out))
              rw [← HW4.out] at hgrow5
              have HKP6 := Lib.hid (HKP.out.push (bs := out ++ [d]) HV3.out HROW.out (by have := HKK.out; omega) (by have := HOO.out; omega) (by have := HOO.out; omega) (by rw [rowsOf_app, List.length_append]; exact hown5) hgrow5)
              have HKO6 := Lib.hid (push_keeps HV3.out HROW.out HKP.out.le (by have := HOO.out; omega) hown5 hgrow5)
              have HKZ6 := Lib.hid (kz_push (O := O) (v' := .slice (some ⟨g, 0, none⟩) (out.length + 1) cap2) (S := SB w.heap.size K) HROW.out hgrow5 (fun b hb => ⟨Nat.lt_of_lt_of_le (by have := HZs.out; have := HKK.out; have := HOO.out; unfold SB at hb; omega) HKZ.out.2, by have := HKK.out; have := HOO.out; unfold SB at hb; omega, by
                rcases hb with hb | rfl | rfl
                · exact .inl hb
                · exact .inr ⟨_, _, ks_blk HXs.out HKZ.out.1 (.inr (.inl rfl)), by decide⟩
                · exact .inr ⟨_, _, ks_blk HXy.out HKZ.out.1 (.inr (.inr rfl)), by decide⟩⟩))
              have HBX6 := Lib.hid (((blk_grown (HBX.out.old (.cells d.cells 53)) hgrow5 (blk_not_row HBX.out (by decide) HROW.out)).apart ⟨O, 0, none⟩ (.slice (some ⟨g, 0, none⟩) (out.length + 1) cap2) (by show O ≠ Bx; have := HZs.out; have := HKK.out; omega)))
              have c0 : w5.cell? ⟨O, 0, none⟩ = some v := HV5.out.cell
              have f0 : w5.frozen? ⟨O, 0, none⟩ = false := HV5.out.frozen
              clear hown5 hgrow5
              refine hK.out _ _ trivial (fun hHeld => ?_)
              clear hK; try clear KK
              try simp only [Act.put, List.setIfInBounds_toArray, List.set_cons_zero, List.set_cons_succ]
              refine wpAnyH_ready (rs := [4]) (by kernel_rfl) (by simp) ?_
              refine AllReadyH.cons (o := ⟨none, _, _, _, _, _⟩) rfl (fun KK hK => ?_) AllReadyH.nil
              go_simp
              clear c0 f0 HV5
              change KK _ (World.setCell w5 ⟨O, 0, none⟩ (.slice (some ⟨g, 0, none⟩) (out.length + 1) cap2))
              generalize World.setCell w5 ⟨O, 0, none⟩ (.slice (some ⟨g, 0, none⟩) (out.length + 1) cap2) = W6 at HKP6 HKO6 HKZ6 HBX6 ⊢
              refine hK.out _ _ trivial (fun hHeld => ?_)
              clear hK; try clear KK
              refine wpAnyH_done (by kernel_rfl) ?_ _
              unfold onlyNormal
              replace HKF := Lib.hid (HKF.out.trans (HKO6.out.from Z.heap.size))
              replace HWK := Lib.hid (kz_t HWK.out HKZ6.out)
              replace HKZ := Lib.hid (kz_t HKZ.out HKZ6.out)
              clear HKO6 HKZ6 HKP HROW HV HV3 HR4 HNEW HS4 HW4 HDONE hHeld
              have HK7 := Lib.hid (HKP6.out.maker.setCells mkZero rfl)
              have HC7 := Lib.hid (Chg.setCells (B := K) mkZero.toList 0 _ (Chg.refl W6.heap.size K W6) (Or.inl rfl))
              have HBX7 := Lib.hid (Blk.apartAll (B := K) mkZero.toList 0 _ HBX6.out (by have := HZs.out; omega))
              have HADD := Lib.hid (fun w (h : Blk w K (mk Bar.zero 0) 146) => add_any K Bar.zero 0 f m w h hg (by decide) (by decide) (by decide) (by decide) (by decide))
              gi_wp2_with (first
                | (refine storeR_blk l (by rfl) 146 _ _ (by rfl) K (by rfl) (mk d x) mkZero 146 HKP6.out.maker (by rfl) (by rfl) (by kernel_rfl) one_mkz ?_; generalize World.setCells W6 K 0 mkZero.toList = W7 at HK7 HC7 HBX7 ⊢; have HBX8 := HBX7)
                | (refine loadR_blk l (by rfl) 66 _ (by rfl) Bx (by rfl) m.cells 66 HBX8.out _ Try.underlying66 rfl (by kernel_rfl) ?_))
              rw [mk_zero] at HK7
              refine (CallsIn.inRound l (to_wide (HADD.out _ HK7.out))).mono ?_
              rintro e w8 ⟨rfl, hk8, hc8⟩
              rw [Nat.zero_add] at hk8
              have hc := HC7.out.trans (hc8.mono HC7.out.size)
              have HEND := Lib.hid (kept_chg HKP6.out _ _ hk8 hc (by have := HKK.out; omega) (by have := HKK.out; have := HOO.out; omega) (by have := HKK.out; have := HOO.out; omega))
              have HZ2 := Lib.hid (kz_chg (S := SB w.heap.size K) hc (fun b hb => ⟨Nat.lt_of_lt_of_le (by have := HZs.out; have := HKK.out; have := HOO.out; unfold SB at hb; omega) HKZ.out.2, by have := HKK.out; have := HOO.out; unfold SB at hb; omega⟩))
              have HF2 := Lib.hid (kf_chg (B := Z.heap.size) hc (by have := HZs.out; omega))
              clear hk8 hc8 hc HC7
              gi_wp2
              exact ⟨HKF.out.trans HF2.out, kz_t HWK.out HZ2.out, by rw [HST.out, HFE.out]; exact HEND.out, kz_t HKZ.out HZ2.out⟩
            ·
              go_simp
              change KK _ (W3.alloc (.cells d.cells 53))
              have HV3 := HV
              replace HV := Lib.hid (HV.out.alloc (.cells d.cells 53))
              have HR4 := Lib.hid (HROW.out.alloc (.cells d.cells 53))
              have HNEW := Lib.hid (Blk.new W3 d.cells 53 W3.heap.size rfl)
              have HS4 := Lib.hid (show (W3.alloc (.cells d.cells 53)).heap.size = W3.heap.size + 1 by simp)
              generalize hW4 : W3.alloc (.cells d.cells 53) = W4 at HV HR4 HNEW HS4 ⊢
              have HW4 := Lib.hid hW4
              clear hW4
              refine hK.out _ _ trivial (fun hHeld => ?_)
              clear hK; try clear KK
              try simp only [Act.put, List.setIfInBounds_toArray, List.set_cons_zero, List.set_cons_succ]
              refine wpAnyH_ready (rs := [0]) (by kernel_rfl) (by simp) ?_
              refine AllReadyH.cons (o := ⟨some 37, _, _, _, _, _⟩) rfl (fun KK hK => ?_) AllReadyH.nil
              have c0 : W4.cell? ⟨O, 0, none⟩ = some v := HV.out.cell
              go_simp
              refine hK.out _ _ trivial (fun hHeld => ?_)
              clear hK; try clear KK
              try simp only [Act.put, List.setIfInBounds_toArray, List.set_cons_zero, List.set_cons_succ]
              clear c0
              refine wpAnyH_ready (rs := [3]) (by kernel_rfl) (by simp) ?_
              refine AllReadyH.cons (o := ⟨some 40, _, _, _, _, _⟩) rfl (fun KK hK => ?_) AllReadyH.nil
              refine step_append_lies _ (by rfl) _ _ _ (by rfl) w.heap.size 53 i0 (.agg Bar.zero.cells) 8 64 Try.underlying46 hi0 hz0 hz1 hz2 (by rfl) (by decide) v out.length (rowsOf out) (by rfl) HR4.out ⟨W3.heap.size, 0, none⟩ 1 1 d.cells.toList (by rfl) (by rfl) (news_blk HNEW.out) (one_mem (one_bar d)) (by decide) (by unfold maxLen; omega) (by omega) (by have := HS4.out; have := HKP.out.le; omega) (W3.heap.size + 1) HS4.out ?_
              intro g cap2 w5 hown5 hgrow5 hat5 hlt5
              clear hat5 hlt5
              have HV5 := Lib.hid (HV.out.kept hgrow5 (HV.out.not_row (by decide) HR4.out))
              rw [← HW4.out] at hgrow5
              have HKP6 := Lib.hid (HKP.out.push (bs := out ++ [d]) HV3.out HROW.out (by have := HKK.out; omega) (by have := HOO.out; omega) (by have := HOO.out; omega) (by rw [rowsOf_app, List.length_append]; exact hown5) hgrow5)
              have HKO6 := Lib.hid (push_keeps HV3.out HROW.out HKP.out.le (by have := HOO.out; omega) hown5 hgrow5)
              have HKZ6 := Lib.hid (kz_push (O := O) (v' := .slice (some ⟨g, 0, none⟩) (out.length + 1) cap2) (S := SB w.heap.size K) HROW.out hgrow5 (fun b hb => ⟨Nat.lt_of_lt_of_le (by have := HZs.out; have := HKK.out; have := HOO.out; unfold SB at hb; omega) HKZ.out.2, by have := HKK.out; have := HOO.out; unfold SB at hb; omega, by
                rcases hb with hb | rfl | rfl
                · exact .inl hb
                · exact .inr ⟨_, _, ks_blk HXs.out HKZ.out.1 (.inr (.inl rfl)), by decide⟩
                · exact .inr ⟨_, _, ks_blk HXy.out HKZ.out.1 (.inr (.inr rfl)), by decide⟩⟩))
              have HBX6 := Lib.hid (((blk_grown (HBX.out.old (.cells d.cells 53)) hgrow5 (blk_not_row HBX.out (by decide) HROW.out)).apart ⟨O, 0, none⟩ (.slice (some ⟨g, 0, none⟩) (out.length + 1) cap2) (by show O ≠ Bx; have := HZs.out; have := HKK.out; omega)))
              have c0 : w5.cell? ⟨O, 0, none⟩ = some v := HV5.out.cell
              have f0 : w5.frozen? ⟨O, 0, none⟩ = false := HV5.out.frozen
              clear hown5 hgrow5
              refine hK.out _ _ trivial (fun hHeld => ?_)
              clear hK; try clear KK
              try simp only [Act.put, List.setIfInBounds_toArray, List.set_cons_zero, List.set_cons_succ]
              refine wpAnyH_ready (rs := [4]) (by kernel_rfl) (by simp) ?_
              refine AllReadyH.cons (o := ⟨none, _, _, _, _, _⟩) rfl (fun KK hK => ?_) AllReadyH.nil
              go_simp
              clear c0 f0 HV5
              change KK _ (World.setCell w5 ⟨O, 0, none⟩ (.slice (some ⟨g, 0, none⟩) (out.length + 1) cap2))
              generalize World.setCell w5 ⟨O, 0, none⟩ (.slice (some ⟨g, 0, none⟩) (out.length + 1) cap2) = W6 at HKP6 HKO6 HKZ6 HBX6 ⊢
              refine hK.out _ _ trivial (fun hHeld => ?_)
              clear hK; try clear KK
              refine wpAnyH_done (by kernel_rfl) ?_ _
              unfold onlyNormal
              replace HKF := Lib.hid (HKF.out.trans (HKO6.out.from Z.heap.size))
              replace HWK := Lib.hid (kz_t HWK.out HKZ6.out)
              replace HKZ := Lib.hid (kz_t HKZ.out HKZ6.out)
              clear HKO6 HKZ6 HKP HROW HV HV3 HR4 HNEW HS4 HW4 HDONE hHeld
              have HK7 := Lib.hid (HKP6.out.maker.setCells mkZero rfl)
              have HC7 := Lib.hid (Chg.setCells (B := K) mkZero.toList 0 _ (Chg.refl W6.heap.size K W6) (Or.inl rfl))
              have HBX7 := Lib.hid (Blk.apartAll (B := K) mkZero.toList 0 _ HBX6.out (by have := HZs.out; omega))
              have HADD := Lib.hid (fun w (h : Blk w K (mk Bar.zero 0) 146) => add_any K Bar.zero 0 f m w h hg (by decide) (by decide) (by decide) (by decide) (by decide))
              gi_wp2_with (first
                | (refine storeR_blk l (by rfl) 146 _ _ (by rfl) K (by rfl) (mk d x) mkZero 146 HKP6.out.maker (by rfl) (by rfl) (by kernel_rfl) one_mkz ?_; generalize World.setCells W6 K 0 mkZero.toList = W7 at HK7 HC7 HBX7 ⊢; have HBX8 := HBX7)
                | (refine loadR_blk l (by rfl) 66 _ (by rfl) Bx (by rfl) m.cells 66 HBX8.out _ Try.underlying66 rfl (by kernel_rfl) ?_))
              rw [mk_zero] at HK7
              refine (CallsIn.inRound l (to_wide (HADD.out _ HK7.out))).mono ?_
              rintro e w8 ⟨rfl, hk8, hc8⟩
              rw [Nat.zero_add] at hk8
              have hc := HC7.out.trans (hc8.mono HC7.out.size)
              have HEND := Lib.hid (kept_chg HKP6.out _ _ hk8 hc (by have := HKK.out; omega) (by have := HKK.out; have := HOO.out; omega) (by have := HKK.out; have := HOO.out; omega))
              have HZ2 := Lib.hid (kz_chg (S := SB w.heap.size K) hc (fun b hb => ⟨Nat.lt_of_lt_of_le (by have := HZs.out; have := HKK.out; have := HOO.out; unfold SB at hb; omega) HKZ.out.2, by have := HKK.out; have := HOO.out; unfold SB at hb; omega⟩))
              have HF2 := Lib.hid (kf_chg (B := Z.heap.size) hc (by have := HZs.out; omega))
              clear hk8 hc8 hc HC7
              gi_wp2
              exact ⟨HKF.out.trans HF2.out, kz_t HWK.out HZ2.out, by rw [HST.out, HFE.out]; exact HEND.out, kz_t HKZ.out HZ2.out⟩
    case done =>
      rintro D xs W hD rfl ⟨hkept, hkz⟩ hKd
      have hsnd := (sound_fold wd ((cnt sym ms).map Subtype.val) (fun m hm => by obtain ⟨y, _, rfl⟩ := List.mem_map.1 hm; exact y.2))
      rw [List.length_map] at hsnd
      have hn : (cnt sym ms).length ≤ 1000 := by have := cnt_len sym ms; omega
      have HF := Lib.hid (show barsF wd ((cnt sym ms).map Subtype.val) = if 0 < (foldB wd ((cnt sym ms).map Subtype.val)).b.trd then (foldB wd ((cnt sym ms).map Subtype.val)).out ++ [doneF (foldB wd ((cnt sym ms).map Subtype.val)).b (foldB wd ((cnt sym ms).map Subtype.val)).x] else (foldB wd ((cnt sym ms).map Subtype.val)).out from rfl)
      generalize foldB wd ((cnt sym ms).map Subtype.val) = s at hkept hsnd HF
      obtain ⟨out, b, x⟩ := s
      obtain ⟨hsnd, hout⟩ := hsnd
      dsimp only at hsnd hout
      have HSND := Lib.hid hsnd
      have HKP := Lib.hid hkept
      have HKD := Lib.hid hKd
      have HD := Lib.hid hD
      have k6 : W.cell? ⟨K, 6, none⟩ = some (.int .i64 b.trd) := hkept.maker.cell 6 rfl
      have HWD := Lib.hid (show ¬ wd < 1 by omega)
      obtain ⟨v, hv, hrow, -⟩ := hkept.out
      have HV := Lib.hid hv
      have HROW := Lib.hid hrow
      have ht0 := hsnd.t0
      clear hkept hkz hKd hD hsnd hv hrow
      by_cases hp : 0 < b.trd
      · have HFE := Lib.hid (HF.out.trans (if_pos hp))
        have hme := sound_mean HSND.out (by omega) (by omega)
        have HDONE := Lib.hid (show ∀ w, Blk w K (mk b x) 146 → Calls Try.prog 73 #[.pointer (some ⟨K, 0, none⟩)] w fun e w' => e = .returned (.agg (doneF b x).cells) ∧ Blk w' K (mk (doneF b x) x) 146 ∧ Chg w.heap.size K w w' from
          fun w h => done_any K b x b.vol.toNat w h hme.1 hme.2.1 hme.2.2.1 hme.2.2.2.1 hme.2.2.2.2)
        obtain ⟨i0, hi0, hz0, hz1, hz2⟩ := info_parts infoBar
        clear hme
        generalize doneF b x = d at HDONE HFE
        have hDK : ¬ D = K := fun e => by
          have h1 := HKD.out
          rw [e, show W.heap[K]? = _ from HKP.out.maker] at h1
          cases h1
        have hDK2 := Lib.hid (show D < W.heap.size from (Array.getElem?_eq_some_iff.1 HKD.out).1)
        gi_wp2_with fail
        clear k6
        refine heldW trivial (S := fun _ => True) (by kernel_rfl) (by kernel_rfl) trivial (fun hHeld => ?_)
        replace HKP := Lib.hid HKP.out.drew
        replace HV := Lib.hid (show Boxed W.drew O 46 v from HV.out)
        replace HROW := Lib.hid (show W.drew.ownsRow w.heap.size 53 8 v out.length (rowsOf out) from HROW.out)
        replace HKD := Lib.hid (show W.drew.heap[D]? = some (.deferred (some [])) from HKD.out)
        replace hDK2 := Lib.hid (show D < W.drew.heap.size from hDK2.out)
        generalize W.drew = W2 at HKP HKD HV HROW hDK2 ⊢
        refine wpAnyH_ready (rs := [0, 1]) (by kernel_rfl) (by simp) ?_
        refine AllReadyH.cons (o := ⟨some 49, _, _, _, _, _⟩) rfl (fun KK hK => ?_) (AllReadyH.cons (o := ⟨some 50, _, _, _, _, _⟩) rfl (fun KK hK => ?_) AllReadyH.nil)
        ·
          have c0 : W2.cell? ⟨O, 0, none⟩ = some v := HV.out.cell
          go_simp
          refine hK.out _ _ trivial (fun hHeld => ?_)
          clear hK; try clear KK
          try simp only [Act.put, List.setIfInBounds_toArray, List.set_cons_zero, List.set_cons_succ]
          clear c0
          refine wpAnyH_ready (rs := [1]) (by kernel_rfl) (by simp) ?_
          refine AllReadyH.cons (o := ⟨some 50, _, _, _, _, _⟩) rfl (fun KK hK => ?_) AllReadyH.nil
          go_simp
          refine (HDONE.out _ HKP.out.maker).mono ?_
          rintro e W3 ⟨rfl, hk3, hc3⟩
          dsimp only [Bar.cells]
          replace HV := Lib.hid (HV.out.kept (chg_grown hc3) (by have := HKK.out; simp; omega))
          replace HROW := Lib.hid (HROW.out.kept (chg_grown hc3) (.inr (fun e => blk_not_row HKP.out.maker (by decide) HROW.out e.symm)))
          replace HKP := Lib.hid (kept_chg HKP.out d x hk3 hc3 (by have := HKK.out; omega) (by have := HKK.out; have := HOO.out; omega) (by have := HKK.out; have := HOO.out; omega))
          replace HKD := Lib.hid ((hc3.block D hDK2.out hDK).trans HKD.out)
          clear hk3 hc3 hHeld hDK2
          go_wp2_with fail
          refine hK.out _ _ trivial (fun hHeld => ?_)
          clear hK; try clear KK
          try simp only [Act.put, List.setIfInBounds_toArray, List.set_cons_zero, List.set_cons_succ]
          refine wpAnyH_ready (rs := [2]) (by kernel_rfl) (by simp) ?_
          refine AllReadyH.cons (o := ⟨some 51, _, _, _, _, _⟩) rfl (fun KK hK => ?_) AllReadyH.nil
          go_simp
          change KK _ (W3.alloc (.cells d.cells 53))
          have HV3 := HV
          replace HV := Lib.hid (HV.out.alloc (.cells d.cells 53))
          have HR4 := Lib.hid (HROW.out.alloc (.cells d.cells 53))
          have HNEW := Lib.hid (Blk.new W3 d.cells 53 W3.heap.size rfl)
          have HS4 := Lib.hid (show (W3.alloc (.cells d.cells 53)).heap.size = W3.heap.size + 1 by simp)
          generalize hW4 : W3.alloc (.cells d.cells 53) = W4 at HV HR4 HNEW HS4 ⊢
          have HW4 := Lib.hid hW4
          clear hW4
          refine hK.out _ _ trivial (fun hHeld => ?_)
          clear hK; try clear KK
          try simp only [Act.put, List.setIfInBounds_toArray, List.set_cons_zero, List.set_cons_succ]
          refine wpAnyH_ready (rs := [3]) (by kernel_rfl) (by simp) ?_
          refine AllReadyH.cons (o := ⟨some 52, _, _, _, _, _⟩) rfl (fun KK hK => ?_) AllReadyH.nil
          refine step_append_lies _ (by rfl) _ _ _ (by rfl) w.heap.size 53 i0 (.agg Bar.zero.cells) 8 64 Try.underlying46 hi0 hz0 hz1 hz2 (by rfl) (by decide) v out.length (rowsOf out) (by rfl) HR4.out ⟨W3.heap.size, 0, none⟩ 1 1 d.cells.toList (by rfl) (by rfl) (news_blk HNEW.out) (one_mem (one_bar d)) (by decide) (by unfold maxLen; omega) (by omega) (by have := HS4.out; have := HKP.out.le; omega) (W3.heap.size + 1) HS4.out ?_
          intro g cap2 w5 hown5 hgrow5 hat5 hlt5
          clear hat5 hlt5
          have HV5 := Lib.hid (HV.out.kept hgrow5 (HV.out.not_row (by decide) HR4.out))
          rw [← HW4.out] at hgrow5
          have HKP6 := Lib.hid (HKP.out.push (bs := out ++ [d]) HV3.out HROW.out (by have := HKK.out; omega) (by have := HOO.out; omega) (by have := HOO.out; omega) (by rw [rowsOf_app, List.length_append]; exact hown5) hgrow5)
          have HKO6 := Lib.hid (push_keeps HV3.out HROW.out HKP.out.le (by have := HOO.out; omega) hown5 hgrow5)
          have HKD6 := Lib.hid (HKO6.out.same D _ HKD.out rfl)
          have HV6 := Lib.hid (HV5.out.set (.slice (some ⟨g, 0, none⟩) (out.length + 1) cap2))
          have HR6 := Lib.hid (hown5.kept (grownBy_setCell' w5 O (.slice (some ⟨g, 0, none⟩) (out.length + 1) cap2)) (.inr (HV5.out.not_row (by decide) hown5).symm))
          have c0 : w5.cell? ⟨O, 0, none⟩ = some v := HV5.out.cell
          have f0 : w5.frozen? ⟨O, 0, none⟩ = false := HV5.out.frozen
          clear hown5 hgrow5
          refine hK.out _ _ trivial (fun hHeld => ?_)
          clear hK; try clear KK
          try simp only [Act.put, List.setIfInBounds_toArray, List.set_cons_zero, List.set_cons_succ]
          refine wpAnyH_ready (rs := [4]) (by kernel_rfl) (by simp) ?_
          refine AllReadyH.cons (o := ⟨none, _, _, _, _, _⟩) rfl (fun KK hK => ?_) AllReadyH.nil
          go_simp
          clear c0 f0 HV5 HKO6
          change KK _ (World.setCell w5 ⟨O, 0, none⟩ (.slice (some ⟨g, 0, none⟩) (out.length + 1) cap2))
          generalize World.setCell w5 ⟨O, 0, none⟩ (.slice (some ⟨g, 0, none⟩) (out.length + 1) cap2) = W6 at HKP6 HKD6 HV6 HR6 ⊢
          refine hK.out _ _ trivial (fun hHeld => ?_)
          clear hK; try clear KK
          refine wpAnyH_done (by kernel_rfl) ?_ _
          unfold onlyNormal
          clear HKP HROW HV HV3 HR4 HNEW HS4 HW4 HDONE hHeld HKD
          have c0 : W6.cell? ⟨O, 0, none⟩ = some (.slice (some ⟨g, 0, none⟩) (out.length + 1) cap2) := HV6.out.cell
          have f0 : W6.frozen? ⟨O, 0, none⟩ = false := HV6.out.frozen
          have HEND := Lib.hid (at_end (O := O) (HV6.out.set (.slice (some ⟨g, 0, none⟩) (out.length + 1) cap2)) (HR6.out.kept (grownBy_setCell' W6 O _) (.inr (HV6.out.not_row (by decide) HR6.out).symm)) (HKP6.out.bel.setCell (p := ⟨O, 0, none⟩) (by show w.heap.size ≤ O; have := HOO.out; omega) _) ((KeepsOthers.setCell W6 ⟨O, 0, none⟩ (.slice (some ⟨g, 0, none⟩) (out.length + 1) cap2)).same D _ HKD6.out rfl) (by have := HD.out; have := HZs.out; have := HKK.out; have := HOO.out; omega))
          have HKD2 := Lib.hid ((KeepsOthers.setCell W6 ⟨O, 0, none⟩ (.slice (some ⟨g, 0, none⟩) (out.length + 1) cap2)).same D _ HKD6.out rfl)
          gi_wp2
          refine ⟨by simp, .inl ⟨_, _, rfl, run_takeDeferred HKD2.out, ?_⟩⟩
          refine ⟨_, results_cell_tmp HEND.out.1 rfl rfl Try.underlying46, ?_⟩
          refine ⟨_, by rw [if_neg (show ¬ wd < 1 by omega)]; rfl, ?_, HEND.out.2.2⟩
          rw [if_neg (show ¬ wd < 1 by omega), HFE.out, rowsOf_app, List.length_append]
          exact HEND.out.2.1
        ·
          go_simp
          refine (HDONE.out _ HKP.out.maker).mono ?_
          rintro e W3 ⟨rfl, hk3, hc3⟩
          dsimp only [Bar.cells]
          replace HV := Lib.hid (HV.out.kept (chg_grown hc3) (by have := HKK.out; simp; omega))
          replace HROW := Lib.hid (HROW.out.kept (chg_grown hc3) (.inr (fun e => blk_not_row HKP.out.maker (by decide) HROW.out e.symm)))
          replace HKP := Lib.hid (kept_chg HKP.out d x hk3 hc3 (by have := HKK.out; omega) (by have := HKK.out; have := HOO.out; omega) (by have := HKK.out; have := HOO.out; omega))
          replace HKD := Lib.hid ((hc3.block D hDK2.out hDK).trans HKD.out)
          clear hk3 hc3 hHeld hDK2
          go_wp2_with fail
          refine hK.out _ _ trivial (fun hHeld => ?_)
          clear hK; try clear KK
          try simp only [Act.put, List.setIfInBounds_toArray, List.set_cons_zero, List.set_cons_succ]
          refine wpAnyH_ready (rs := [0, 2]) (by kernel_rfl) (by simp) ?_
          refine AllReadyH.cons (o := ⟨some 49, _, _, _, _, _⟩) rfl (fun KK hK => ?_) (AllReadyH.cons (o := ⟨some 51, _, _, _, _, _⟩) rfl (fun KK hK => ?_) AllReadyH.nil)
          ·
            have c0 : W3.cell? ⟨O, 0, none⟩ = some v := HV.out.cell
            go_simp
            refine hK.out _ _ trivial (fun hHeld => ?_)
            clear hK; try clear KK
            try simp only [Act.put, List.setIfInBounds_toArray, List.set_cons_zero, List.set_cons_succ]
            clear c0
            refine wpAnyH_ready (rs := [2]) (by kernel_rfl) (by simp) ?_
            refine AllReadyH.cons (o := ⟨some 51, _, _, _, _, _⟩) rfl (fun KK hK => ?_) AllReadyH.nil
            go_simp
            change KK _ (W3.alloc (.cells d.cells 53))
            have HV3 := HV
            replace HV := Lib.hid (HV.out.alloc (.cells d.cells 53))
            have HR4 := Lib.hid (HROW.out.alloc (.cells d.cells 53))
            have HNEW := Lib.hid (Blk.new W3 d.cells 53 W3.heap.size rfl)
            have HS4 := Lib.hid (show (W3.alloc (.cells d.cells 53)).heap.size = W3.heap.size + 1 by simp)
            generalize hW4 : W3.alloc (.cells d.cells 53) = W4 at HV HR4 HNEW HS4 ⊢
            have HW4 := Lib.hid hW4
            clear hW4
            refine hK.out _ _ trivial (fun hHeld => ?_)
            clear hK; try clear KK
            try simp only [Act.put, List.setIfInBounds_toArray, List.set_cons_zero, List.set_cons_succ]
            refine wpAnyH_ready (rs := [3]) (by kernel_rfl) (by simp) ?_
            refine AllReadyH.cons (o := ⟨some 52, _, _, _, _, _⟩) rfl (fun KK hK => ?_) AllReadyH.nil
            refine step_append_lies _ (by rfl) _ _ _ (by rfl) w.heap.size 53 i0 (.agg Bar.zero.cells) 8 64 Try.underlying46 hi0 hz0 hz1 hz2 (by rfl) (by decide) v out.length (rowsOf out) (by rfl) HR4.out ⟨W3.heap.size, 0, none⟩ 1 1 d.cells.toList (by rfl) (by rfl) (news_blk HNEW.out) (one_mem (one_bar d)) (by decide) (by unfold maxLen; omega) (by omega) (by have := HS4.out; have := HKP.out.le; omega) (W3.heap.size + 1) HS4.out ?_
            intro g cap2 w5 hown5 hgrow5 hat5 hlt5
            clear hat5 hlt5
            have HV5 := Lib.hid (HV.out.kept hgrow5 (HV.out.not_row (by decide) HR4.out))
            rw [← HW4.out] at hgrow5
            have HKP6 := Lib.hid (HKP.out.push (bs := out ++ [d]) HV3.out HROW.out (by have := HKK.out; omega) (by have := HOO.out; omega) (by have := HOO.out; omega) (by rw [rowsOf_app, List.length_append]; exact hown5) hgrow5)
            have HKO6 := Lib.hid (push_keeps HV3.out HROW.out HKP.out.le (by have := HOO.out; omega) hown5 hgrow5)
            have HKD6 := Lib.hid (HKO6.out.same D _ HKD.out rfl)
            have HV6 := Lib.hid (HV5.out.set (.slice (some ⟨g, 0, none⟩) (out.length + 1) cap2))
            have HR6 := Lib.hid (hown5.kept (grownBy_setCell' w5 O (.slice (some ⟨g, 0, none⟩) (out.length + 1) cap2)) (.inr (HV5.out.not_row (by decide) hown5).symm))
            have c0 : w5.cell? ⟨O, 0, none⟩ = some v := HV5.out.cell
            have f0 : w5.frozen? ⟨O, 0, none⟩ = false := HV5.out.frozen
            clear hown5 hgrow5
            refine hK.out _ _ trivial (fun hHeld => ?_)
            clear hK; try clear KK
            try simp only [Act.put, List.setIfInBounds_toArray, List.set_cons_zero, List.set_cons_succ]
            refine wpAnyH_ready (rs := [4]) (by kernel_rfl) (by simp) ?_
            refine AllReadyH.cons (o := ⟨none, _, _, _, _, _⟩) rfl (fun KK hK => ?_) AllReadyH.nil
            go_simp
            clear c0 f0 HV5 HKO6
            change KK _ (World.setCell w5 ⟨O, 0, none⟩ (.slice (some ⟨g, 0, none⟩) (out.length + 1) cap2))
            generalize World.setCell w5 ⟨O, 0, none⟩ (.slice (some ⟨g, 0, none⟩) (out.length + 1) cap2) = W6 at HKP6 HKD6 HV6 HR6 ⊢
            refine hK.out _ _ trivial (fun hHeld => ?_)
            clear hK; try clear KK
            refine wpAnyH_done (by kernel_rfl) ?_ _
            unfold onlyNormal
            clear HKP HROW HV HV3 HR4 HNEW HS4 HW4 HDONE hHeld HKD
            have c0 : W6.cell? ⟨O, 0, none⟩ = some (.slice (some ⟨g, 0, none⟩) (out.length + 1) cap2) := HV6.out.cell
            have f0 : W6.frozen? ⟨O, 0, none⟩ = false := HV6.out.frozen
            have HEND := Lib.hid (at_end (O := O) (HV6.out.set (.slice (some ⟨g, 0, none⟩) (out.length + 1) cap2)) (HR6.out.kept (grownBy_setCell' W6 O _) (.inr (HV6.out.not_row (by decide) HR6.out).symm)) (HKP6.out.bel.setCell (p := ⟨O, 0, none⟩) (by show w.heap.size ≤ O; have := HOO.out; omega) _) ((KeepsOthers.setCell W6 ⟨O, 0, none⟩ (.slice (some ⟨g, 0, none⟩) (out.length + 1) cap2)).same D _ HKD6.out rfl) (by have := HD.out; have := HZs.out; have := HKK.out; have := HOO.out; omega))
            have HKD2 := Lib.hid ((KeepsOthers.setCell W6 ⟨O, 0, none⟩ (.slice (some ⟨g, 0, none⟩) (out.length + 1) cap2)).same D _ HKD6.out rfl)
            gi_wp2
            refine ⟨by simp, .inl ⟨_, _, rfl, run_takeDeferred HKD2.out, ?_⟩⟩
            refine ⟨_, results_cell_tmp HEND.out.1 rfl rfl Try.underlying46, ?_⟩
            refine ⟨_, by rw [if_neg (show ¬ wd < 1 by omega)]; rfl, ?_, HEND.out.2.2⟩
            rw [if_neg (show ¬ wd < 1 by omega), HFE.out, rowsOf_app, List.length_append]
            exact HEND.out.2.1
          ·
            go_simp
            change KK _ (W3.alloc (.cells d.cells 53))
            have HV3 := HV
            replace HV := Lib.hid (HV.out.alloc (.cells d.cells 53))
            have HR4 := Lib.hid (HROW.out.alloc (.cells d.cells 53))
            have HNEW := Lib.hid (Blk.new W3 d.cells 53 W3.heap.size rfl)
            have HS4 := Lib.hid (show (W3.alloc (.cells d.cells 53)).heap.size = W3.heap.size + 1 by simp)
            generalize hW4 : W3.alloc (.cells d.cells 53) = W4 at HV HR4 HNEW HS4 ⊢
            have HW4 := Lib.hid hW4
            clear hW4
            refine hK.out _ _ trivial (fun hHeld => ?_)
            clear hK; try clear KK
            try simp only [Act.put, List.setIfInBounds_toArray, List.set_cons_zero, List.set_cons_succ]
            refine wpAnyH_ready (rs := [0]) (by kernel_rfl) (by simp) ?_
            refine AllReadyH.cons (o := ⟨some 49, _, _, _, _, _⟩) rfl (fun KK hK => ?_) AllReadyH.nil
            have c0 : W4.cell? ⟨O, 0, none⟩ = some v := HV.out.cell
            go_simp
            refine hK.out _ _ trivial (fun hHeld => ?_)
            clear hK; try clear KK
            try simp only [Act.put, List.setIfInBounds_toArray, List.set_cons_zero, List.set_cons_succ]
            clear c0
            refine wpAnyH_ready (rs := [3]) (by kernel_rfl) (by simp) ?_
            refine AllReadyH.cons (o := ⟨some 52, _, _, _, _, _⟩) rfl (fun KK hK => ?_) AllReadyH.nil
            refine step_append_lies _ (by rfl) _ _ _ (by rfl) w.heap.size 53 i0 (.agg Bar.zero.cells) 8 64 Try.underlying46 hi0 hz0 hz1 hz2 (by rfl) (by decide) v out.length (rowsOf out) (by rfl) HR4.out ⟨W3.heap.size, 0, none⟩ 1 1 d.cells.toList (by rfl) (by rfl) (news_blk HNEW.out) (one_mem (one_bar d)) (by decide) (by unfold maxLen; omega) (by omega) (by have := HS4.out; have := HKP.out.le; omega) (W3.heap.size + 1) HS4.out ?_
            intro g cap2 w5 hown5 hgrow5 hat5 hlt5
            clear hat5 hlt5
            have HV5 := Lib.hid (HV.out.kept hgrow5 (HV.out.not_row (by decide) HR4.out))
            rw [← HW4.out] at hgrow5
            have HKP6 := Lib.hid (HKP.out.push (bs := out ++ [d]) HV3.out HROW.out (by have := HKK.out; omega) (by have := HOO.out; omega) (by have := HOO.out; omega) (by rw [rowsOf_app, List.length_append]; exact hown5) hgrow5)
            have HKO6 := Lib.hid (push_keeps HV3.out HROW.out HKP.out.le (by have := HOO.out; omega) hown5 hgrow5)
            have HKD6 := Lib.hid (HKO6.out.same D _ HKD.out rfl)
            have HV6 := Lib.hid (HV5.out.set (.slice (some ⟨g, 0, none⟩) (out.length + 1) cap2))
            have HR6 := Lib.hid (hown5.kept (grownBy_setCell' w5 O (.slice (some ⟨g, 0, none⟩) (out.length + 1) cap2)) (.inr (HV5.out.not_row (by decide) hown5).symm))
            have c0 : w5.cell? ⟨O, 0, none⟩ = some v := HV5.out.cell
            have f0 : w5.frozen? ⟨O, 0, none⟩ = false := HV5.out.frozen
            clear hown5 hgrow5
            refine hK.out _ _ trivial (fun hHeld => ?_)
            clear hK; try clear KK
            try simp only [Act.put, List.setIfInBounds_toArray, List.set_cons_zero, List.set_cons_succ]
            refine wpAnyH_ready (rs := [4]) (by kernel_rfl) (by simp) ?_
            refine AllReadyH.cons (o := ⟨none, _, _, _, _, _⟩) rfl (fun KK hK => ?_) AllReadyH.nil
            go_simp
            clear c0 f0 HV5 HKO6
            change KK _ (World.setCell w5 ⟨O, 0, none⟩ (.slice (some ⟨g, 0, none⟩) (out.length + 1) cap2))
            generalize World.setCell w5 ⟨O, 0, none⟩ (.slice (some ⟨g, 0, none⟩) (out.length + 1) cap2) = W6 at HKP6 HKD6 HV6 HR6 ⊢
            refine hK.out _ _ trivial (fun hHeld => ?_)
            clear hK; try clear KK
            refine wpAnyH_done (by kernel_rfl) ?_ _
            unfold onlyNormal
            clear HKP HROW HV HV3 HR4 HNEW HS4 HW4 HDONE hHeld HKD
            have c0 : W6.cell? ⟨O, 0, none⟩ = some (.slice (some ⟨g, 0, none⟩) (out.length + 1) cap2) := HV6.out.cell
            have f0 : W6.frozen? ⟨O, 0, none⟩ = false := HV6.out.frozen
            have HEND := Lib.hid (at_end (O := O) (HV6.out.set (.slice (some ⟨g, 0, none⟩) (out.length + 1) cap2)) (HR6.out.kept (grownBy_setCell' W6 O _) (.inr (HV6.out.not_row (by decide) HR6.out).symm)) (HKP6.out.bel.setCell (p := ⟨O, 0, none⟩) (by show w.heap.size ≤ O; have := HOO.out; omega) _) ((KeepsOthers.setCell W6 ⟨O, 0, none⟩ (.slice (some ⟨g, 0, none⟩) (out.length + 1) cap2)).same D _ HKD6.out rfl) (by have := HD.out; have := HZs.out; have := HKK.out; have := HOO.out; omega))
            have HKD2 := Lib.hid ((KeepsOthers.setCell W6 ⟨O, 0, none⟩ (.slice (some ⟨g, 0, none⟩) (out.length + 1) cap2)).same D _ HKD6.out rfl)
            gi_wp2
            refine ⟨by simp, .inl ⟨_, _, rfl, run_takeDeferred HKD2.out, ?_⟩⟩
            refine ⟨_, results_cell_tmp HEND.out.1 rfl rfl Try.underlying46, ?_⟩
            refine ⟨_, by rw [if_neg (show ¬ wd < 1 by omega)]; rfl, ?_, HEND.out.2.2⟩
            rw [if_neg (show ¬ wd < 1 by omega), HFE.out, rowsOf_app, List.length_append]
            exact HEND.out.2.1
      · have HFE := Lib.hid (HF.out.trans (if_neg hp))
        have c0 : W.cell? ⟨O, 0, none⟩ = some v := HV.out.cell
        have f0 : W.frozen? ⟨O, 0, none⟩ = false := HV.out.frozen
        obtain ⟨va, vc, rfl⟩ := row_slice HROW.out
        have HEND := Lib.hid (at_end (O := O) (HV.out.set (.slice va out.length vc)) (HROW.out.kept (grownBy_setCell' W O _) (.inr (HV.out.not_row (by decide) HROW.out).symm)) (HKP.out.bel.setCell (p := ⟨O, 0, none⟩) (by show w.heap.size ≤ O; have := HOO.out; omega) _) ((KeepsOthers.setCell W ⟨O, 0, none⟩ (.slice va out.length vc)).same D _ HKD.out rfl) (by have := HD.out; have := HZs.out; have := HKK.out; have := HOO.out; omega))
        have HKD2 := Lib.hid ((KeepsOthers.setCell W ⟨O, 0, none⟩ (.slice va out.length vc)).same D _ HKD.out rfl)
        gi_wp2
        refine ⟨by simp, .inl ⟨_, _, rfl, run_takeDeferred HKD2.out, ?_⟩⟩
        refine ⟨_, results_cell_tmp HEND.out.1 rfl rfl Try.underlying46, ?_⟩
        refine ⟨_, by rw [if_neg (show ¬ wd < 1 by omega)]; rfl, ?_, HEND.out.2.2⟩
        rw [if_neg (show ¬ wd < 1 by omega), HFE.out]
        exact HEND.out.2.1
    case stop =>
      rintro D c pre W hD hpre h
      exact h.elim
end Go.Proofs.Ytogjgpiddjmpiaa.Tape
