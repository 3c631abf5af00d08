/- tape.counts: what counts of messages, one behind the other. -/
import Derived.Test.YtogjgpiddjmpiaaTapeDone
import Derived.Test.YtogjgpiddjmpiaaInRound
import Derived.Test.YtogjgpiddjmpiaaFix
namespace Go.Proofs.Ytogjgpiddjmpiaa.Tape
set_option linter.unusedVariables false
open Go.RowKit Go.Shelf Go.Proofs.Ytogjgpiddjmpiaa.Kit Go.Proofs.Ytogjgpiddjmpiaa.Blk Go.Proofs.Ytogjgpiddjmpiaa.Msgs Go.Proofs.Ytogjgpiddjmpiaa.Iter
attribute [local go_sem] Oper.semAt_some wide_fn

/-- A trade that counts. -/
abbrev TM := { m : Msg // Good m }
def cnt (sym : Int) : List Msg → List TM
  | [] => []
  | m :: l => if h : isT sym m = true then ⟨m, good_of h⟩ :: cnt sym l else cnt sym l
theorem cnt_app (sym : Int) (l k : List Msg) : cnt sym (l ++ k) = cnt sym l ++ cnt sym k := by
  induction l with
  | nil => rfl
  | cons m l ih =>
    simp only [List.cons_append, cnt]
    split
    · rw [ih]; rfl
    · exact ih
theorem cnt_yes (sym : Int) (l : List Msg) (k : Nat) (h : k < l.length) (hb : isT sym l[k] = true) : cnt sym (l.take (k + 1)) = cnt sym (l.take k) ++ [⟨l[k], good_of hb⟩] := by
  rw [List.take_succ_eq_append_getElem h, cnt_app]; simp [cnt, hb]
theorem cnt_no (sym : Int) (l : List Msg) (k : Nat) (h : k < l.length) (hb : isT sym l[k] = false) : cnt sym (l.take (k + 1)) = cnt sym (l.take k) := by
  rw [List.take_succ_eq_append_getElem h, cnt_app]; simp [cnt, hb]
theorem cnt_pre (sym : Int) (l : List Msg) (k : Nat) : cnt sym (l.take k) <+: cnt sym l := by
  have h := cnt_app sym (l.take k) (l.drop k)
  rw [List.take_append_drop] at h
  exact ⟨_, h.symm⟩
theorem cnt_len (sym : Int) (l : List Msg) : (cnt sym l).length ≤ l.length := by
  induction l with
  | nil => simp [cnt]
  | cons m l ih => simp only [cnt]; split <;> simp <;> omega
theorem cnt_lt (sym : Int) (l : List Msg) (k : Nat) (h : k < l.length) (hb : isT sym l[k] = true) : (cnt sym (l.take k)).length < (cnt sym l).length := by
  have h1 := (cnt_pre sym l (k + 1)).length_le
  rw [cnt_yes sym l k h hb] at h1
  simp at h1
  omega
theorem down_one (p : Int) : Fix.down p 1 = if p < 0 then 0 else p := by
  unfold Fix.down
  by_cases h : p < 0
  · rw [if_pos (Or.inl h), if_pos h]
  · rw [if_neg (by omega), if_neg h]; omega
theorem price_one (p : Int) : Fix.price p 1 = if 1 ≤ p ∧ p ≤ 1099511627776 then 0 else 9 := by
  unfold Fix.price
  rw [if_neg (by decide)]
  by_cases h : 1 ≤ p ∧ p ≤ 1099511627776
  · rw [if_neg (show ¬ (p < 1 ∨ 1099511627776 < p) by omega), down_one, if_neg (show ¬ p < 0 by omega), if_pos rfl, if_pos h]
  · rw [if_pos (by omega), if_neg h]

theorem counts_any (v : Value) (a : Option Addr) (n c : Nat) (sym : Int) (w : World) (hv : v = .slice a n c) (B : Nat) (hB : w.heap.size = B) : Calls Try.prog 71 #[v, .int .i64 sym] w fun e w' => e = .returned (.func (.func 113) #[] #[.pointer (some ⟨B, 0, none⟩), .pointer (some ⟨B + 1, 0, none⟩)]) ∧
    w' = (w.alloc (.cells #[v] 45)).alloc (.cells #[.int .i64 sym] 3) := by
  subst hv hB
  go_enter Try.func71, Try.ntmps71
  go_wp2
  go_ret
  exact ⟨rfl, rfl⟩

theorem msg_old {w : World} {a : Option Addr} {ms : List Msg} (h : MsgRow w a ms) : ∀ b off, a = some ⟨b, off, none⟩ → 0 < ms.length → b < w.heap.size := by
  intro b off ha hl
  obtain ⟨b', off', ha', hb, _⟩ := h 0 hl
  rw [ha] at ha'
  cases ha'
  exact hb
/-- A block laid and filled is a block that is laid filled. -/
theorem alloc_setCells (w : World) (cs vs : Array Value) (T : TypeId) (hs : vs.size = cs.size) (B : Nat) (hB : w.heap.size = B) : (w.alloc (.cells cs T)).setCells B 0 vs.toList = w.alloc (.cells vs T) := by
  subst hB
  have key : ∀ (l : List Value) (o : Nat) (ds : Array Value), (w.alloc (.cells ds T)).setCells w.heap.size o l = w.alloc (.cells (setMid ds o l) T) := by
    intro l
    induction l with
    | nil => intro o ds; rfl
    | cons v l ih =>
      intro o ds
      show (World.setCell (w.alloc (.cells ds T)) ⟨w.heap.size, o, none⟩ v).setCells w.heap.size (o + 1) l = _
      rw [World.setCell_alloc_at _ _ _ _ _ rfl]
      exact ih (o + 1) _
  rw [key]
  have h := (Blk.new w cs T w.heap.size rfl).setCells vs hs
  have h2 := blk_mid vs.toList 0 _ _ (Blk.new w cs T w.heap.size rfl)
  rw [show setMid cs 0 vs.toList = vs from by
    have := h.symm.trans h2
    injection this with this
    injection this with h1 _ _
    exact h1.symm]
def msgZero : Array Value := #[.int .i64 0, .int .i64 0, .int .i64 0, .int .i64 0, .int .i64 0, .int .i64 0, .int .i64 0, .int .i64 0, .int .i64 0]
theorem one_msg (m : Msg) : m.cells.all (·.oneCell') = true := by simp [Msg.cells, Value.oneCell']
theorem price_good (p : Int) (w : World) (h : 1 ≤ p ∧ p ≤ 1099511627776) : Calls Try.prog 83 #[.int .i64 p, .int .i64 1] w fun e w' => e = .returned (.int .i64 0) ∧ w = w' :=
  (Fix.price_any p 1 w).mono fun e w' ⟨he, hw⟩ => ⟨by rw [he, price_one, if_pos h], hw⟩
theorem price_bad (p : Int) (w : World) (h : ¬ (1 ≤ p ∧ p ≤ 1099511627776)) : Calls Try.prog 83 #[.int .i64 p, .int .i64 1] w fun e w' => e = .returned (.int .i64 9) ∧ w = w' :=
  (Fix.price_any p 1 w).mono fun e w' ⟨he, hw⟩ => ⟨by rw [he, price_one, if_neg h], hw⟩
theorem qty_good (p : Int) (w : World) (h : 1 ≤ p ∧ p ≤ 4294967296) : Calls Try.prog 114 #[.int .i64 p] w fun e w' => e = .returned (.int .i64 0) ∧ Below w.heap.size w w' :=
  (qty_any p w).mono fun e w' ⟨he, hw⟩ => ⟨by rw [he]; exact ret_int (if_pos h), hw⟩
theorem qty_bad (p : Int) (w : World) (h : ¬ (1 ≤ p ∧ p ≤ 4294967296)) : Calls Try.prog 114 #[.int .i64 p] w fun e w' => e = .returned (.int .i64 9) ∧ Below w.heap.size w w' :=
  (qty_any p w).mono fun e w' ⟨he, hw⟩ => ⟨by rw [he]; exact ret_int (if_neg h), hw⟩
theorem j_below {B : Nat} {J : List TM → World → Prop} (hJ : AbidesFrom B J) {s : List TM} {W W' : World} (h : J s W) (hb : Below W.heap.size W W') : J s W' :=
  hJ s W W' none h ⟨hb.os, hb.tape, hb.output, hb.size, fun k hk _ => hb.block k hk⟩ (fun r e => by cases e)
theorem isT_false {sym : Int} {m : Msg} (h : ¬ (m.kind = 3 ∧ m.sym = sym ∧ 0 ≤ m.tick ∧ (1 ≤ m.price ∧ m.price ≤ 1099511627776) ∧ (1 ≤ m.qty ∧ m.qty ≤ 4294967296))) : isT sym m = false := by
  rw [Bool.eq_false_iff]
  intro hh
  simp [isT] at hh
  exact h ⟨hh.1.1.1.1.1.1.1, hh.1.1.1.1.1.1.2, hh.1.2, ⟨hh.1.1.1.1.1.2, hh.1.1.1.1.2⟩, hh.1.1.1.2, hh.1.1.2⟩
theorem isT_true {sym : Int} {m : Msg} (h : m.kind = 3 ∧ m.sym = sym ∧ 0 ≤ m.tick ∧ (1 ≤ m.price ∧ m.price ≤ 1099511627776) ∧ (1 ≤ m.qty ∧ m.qty ≤ 4294967296)) (ht : m.tick ≤ 9223372036854775807) : isT sym m = true := by
  obtain ⟨h1, h2, h3, ⟨h4, h5⟩, h6, h7⟩ := h
  simp [isT, h1, h2, h3, h4, h5, h6, h7, ht]

set_option maxRecDepth 100000 in
set_option maxHeartbeats 2000000 in
theorem counts1_in (n : Nat) (hn : 1 ≤ n) (sym : Int) (a : Option Addr) (cap : Nat) (ms : List Msg) (hmx : ms.length ≤ 1000) (hfit : ∀ m ∈ ms, m.tick ≤ 9223372036854775807) (l Bs By : Nat) (S : Nat → Prop) (hS : ∀ b off, a = some ⟨b, off, none⟩ → 0 < ms.length → S b) (hSy : S By) (J Jx : List TM → World → Prop)
    (W : World) (hSl : ∀ b, S b → b < W.heap.size) (hJ : AbidesFrom W.heap.size J) (hY : ∀ pre x W, J pre W → pre.length < (cnt sym ms).length → YieldAt Fence.wide (n - 1) Try.prog l #[.agg x.1.cells] W fun e W' =>
      (e = .returned (.bool true) ∧ J (pre ++ [x]) W' ∧ KZ S W W') ∨ (e = .returned (.bool false) ∧ Jx (pre ++ [x]) W'))
    (hBs : W.cell? ⟨Bs, 0, none⟩ = some (.slice a ms.length cap)) (hBy : Blk W By #[.int .i64 sym] 3) (hm : MsgRow W a ms) (h0 : J [] W) :
    CallsIn Fence.wide n Try.prog 113 #[.func (.yield l) #[] #[], .pointer (some ⟨Bs, 0, none⟩), .pointer (some ⟨By, 0, none⟩)] W fun e W' => (∃ v, e = .returned v) ∧
      ((∃ ys, ys = cnt sym ms ∧ J ys W') ∨ (∃ pre, pre <+: cnt sym ms ∧ Jx pre W')) := by
  refine callsIn_of_wp Try.func113 rfl trivial ?_ rfl
  simp only [Try.ntmps113, List.size_toArray, List.length_cons, List.length_nil, Nat.reduceAdd, Nat.reduceSub, Array.replicate_succ, Array.replicate_zero, List.push_toArray, List.append_toArray, List.nil_append, List.cons_append]
  gi_wp2
  gi_loopw [9] (fun i wr => ∃ k : Nat, k ≤ ms.length ∧ i = .int .i64 k ∧ J (cnt sym (ms.take k)) wr ∧ KZ S W wr) (fun i _ => ms.length - (intOf i).toNat)
  case atStart => exact ⟨0, by omega, rfl, h0, kz_refl _ _⟩
  case round =>
    obtain ⟨k, hk, rfl, hJs, hnx⟩ := hrel
    by_cases hlt : k < ms.length
    · obtain ⟨b, off, rfl, hbl, hrow0⟩ := msgRow_at hm k hlt
      have hrow : wr.rangeAt b (off + k * 9) ms[k].cells.toList := fun j v hv => (ks_cell (p := ⟨b, _, none⟩) hnx.1 (hS b off rfl (Nat.lt_of_le_of_lt (Nat.zero_le _) hlt))).trans (hrow0 j v hv)
      have HY := Lib.hid (cnt_yes sym ms k hlt)
      have HN := Lib.hid (cnt_no sym ms k hlt)
      have HL := Lib.hid (cnt_lt sym ms k hlt)
      have HFT := Lib.hid (hfit ms[k] (List.getElem_mem hlt))
      generalize ms[k] = m at hrow HY HN HL HFT
      have HNX := Lib.hid hnx
      have HJ := Lib.hid hJs
      have HBY := Lib.hid (ks_blk hBy hnx.1 hSy)
      have HZ := Lib.hid (Blk.new wr msgZero 66 wr.heap.size rfl)
      have HM := Lib.hid (Blk.new wr m.cells 66 wr.heap.size rfl)
      clear hrow0 hnx hJs
      have g0 : (0 : Int) ≤ (k : Int) := by omega
      have g1 : (k : Int) < (ms.length : Int) := by omega
      have m0 : (wr.alloc (.cells m.cells 66)).cell? ⟨wr.heap.size, 0, none⟩ = some (.int .i64 m.kind) := HM.out.cell 0 rfl
      have m1 : (wr.alloc (.cells m.cells 66)).cell? ⟨wr.heap.size, 1, none⟩ = some (.int .i64 m.sym) := HM.out.cell 1 rfl
      have m3 : (wr.alloc (.cells m.cells 66)).cell? ⟨wr.heap.size, 3, none⟩ = some (.int .i64 m.tick) := HM.out.cell 3 rfl
      have m6 : (wr.alloc (.cells m.cells 66)).cell? ⟨wr.heap.size, 6, none⟩ = some (.int .i64 m.price) := HM.out.cell 6 rfl
      have m7 : (wr.alloc (.cells m.cells 66)).cell? ⟨wr.heap.size, 7, none⟩ = some (.int .i64 m.qty) := HM.out.cell 7 rfl
      have HAL := Lib.hid ((Below.refl _ wr).alloc (Nat.le_refl _) (.cells m.cells 66))
      have HSW := Lib.hid (show ∀ b, S b → b < wr.heap.size from fun b hb => Nat.lt_of_lt_of_le (hSl b hb) HNX.out.2)
      have by0 : (wr.alloc (.cells m.cells 66)).cell? ⟨By, 0, none⟩ = some (.int .i64 sym) := (HBY.out.old (.cells m.cells 66)).cell 0 rfl
      by_cases hkd : m.kind = 3
      · by_cases hsy : m.sym = sym
        · by_cases htk : 0 ≤ m.tick
          · by_cases hpr : 1 ≤ m.price ∧ m.price ≤ 1099511627776
            · by_cases hqy : 1 ≤ m.qty ∧ m.qty ≤ 4294967296
              · have HT := Lib.hid (isT_true ⟨hkd, hsy, htk, hpr, hqy⟩ HFT.out)
                have HQ := Lib.hid (fun w => qty_good m.qty w hqy)
                have HP := Lib.hid (fun w => price_good m.price w hpr)
                have b1 : (m.kind == 3) = true := by simpa using hkd
                have b2 : (m.sym == sym) = true := by simpa using hsy
                clear hkd hsy hpr hqy
                gi_wp2_with (first
                  | (refine loadW_mid trivial (by rfl) 66 _ (by rfl) b (off + k * 9) (by rfl) m.cells.toList _ hrow Try.underlying66 rfl (by kernel_rfl) ?_)
                  | (refine storeW_blk trivial (by rfl) 66 _ _ (by rfl) wr.heap.size (by rfl) msgZero m.cells 66 HZ.out (by rfl) (by rfl) (by kernel_rfl) (one_msg _) ?_; change wpListIn _ _ _ _ _ _ _ (World.setCells (wr.alloc (.cells msgZero 66)) wr.heap.size 0 m.cells.toList); rw [alloc_setCells wr msgZero m.cells 66 rfl wr.heap.size rfl])
                  )
                refine (to_wide (HP.out _)).mono ?_
                rintro e w2 ⟨rfl, rfl⟩
                gi_wp2_with fail
                refine (to_wide (HQ.out _)).mono ?_
                rintro e w3 ⟨rfl, hb3⟩
                replace HM := Lib.hid (HM.out.below hb3 HM.out.lt)
                have HAL3 := Lib.hid (HAL.out.trans (hb3.mono (by simp)))
                clear hb3 HAL HQ HP m0 m1 m3 m6 m7 by0
                obtain ⟨fn, tmps, assign, body, hy, hR⟩ := hY _ ⟨m, good_of HT.out⟩ w3 (j_below hJ HJ.out HAL3.out) (HL.out HT.out)
                dsimp only [Msg.cells] at hy hR
                have n0 : w3.cell? ⟨wr.heap.size, 0, none⟩ = some (.int .i64 m.kind) := HM.out.cell 0 rfl
                have n1 : w3.cell? ⟨wr.heap.size, 1, none⟩ = some (.int .i64 m.sym) := HM.out.cell 1 rfl
                have n2 : w3.cell? ⟨wr.heap.size, 2, none⟩ = some (.int .i64 m.seq) := HM.out.cell 2 rfl
                have n3 : w3.cell? ⟨wr.heap.size, 3, none⟩ = some (.int .i64 m.tick) := HM.out.cell 3 rfl
                have n4 : w3.cell? ⟨wr.heap.size, 4, none⟩ = some (.int .i64 m.id) := HM.out.cell 4 rfl
                have n5 : w3.cell? ⟨wr.heap.size, 5, none⟩ = some (.int .i64 m.wth) := HM.out.cell 5 rfl
                have n6 : w3.cell? ⟨wr.heap.size, 6, none⟩ = some (.int .i64 m.price) := HM.out.cell 6 rfl
                have n7 : w3.cell? ⟨wr.heap.size, 7, none⟩ = some (.int .i64 m.qty) := HM.out.cell 7 rfl
                have n8 : w3.cell? ⟨wr.heap.size, 8, none⟩ = some (.int .i64 m.code) := HM.out.cell 8 rfl
                gi_wp2_with fail
                refine hR.mono ?_
                rintro e W3 (⟨rfl, hJ3, hk3⟩ | ⟨rfl, hJx3⟩)
                · gi_wp2
                  go_roundw
                  case rel => exact ⟨k + 1, by omega, by simp, by rw [HY.out HT.out]; exact hJ3, kz_t HNX.out (kz_t (kz_below HAL3.out HSW.out) hk3)⟩
                  case measure => simp [intOf]; omega
                · gi_wp2
                  refine bodyPost_ret (results_none rfl _ _ _) rfl ?_
                  exact ⟨⟨_, rfl⟩, .inr ⟨_, HY.out HT.out ▸ cnt_pre sym ms (k + 1), hJx3⟩⟩
              · have HF := Lib.hid (isT_false (sym := sym) (fun h => hqy h.2.2.2.2))
                have HQ := Lib.hid (fun w => qty_bad m.qty w hqy)
                have HP := Lib.hid (fun w => price_good m.price w hpr)
                have b1 : (m.kind == 3) = true := by simpa using hkd
                have b2 : (m.sym == sym) = true := by simpa using hsy
                clear hkd hsy hpr hqy
                gi_wp2_with (first
                  | (refine loadW_mid trivial (by rfl) 66 _ (by rfl) b (off + k * 9) (by rfl) m.cells.toList _ hrow Try.underlying66 rfl (by kernel_rfl) ?_)
                  | (refine storeW_blk trivial (by rfl) 66 _ _ (by rfl) wr.heap.size (by rfl) msgZero m.cells 66 HZ.out (by rfl) (by rfl) (by kernel_rfl) (one_msg _) ?_; change wpListIn _ _ _ _ _ _ _ (World.setCells (wr.alloc (.cells msgZero 66)) wr.heap.size 0 m.cells.toList); rw [alloc_setCells wr msgZero m.cells 66 rfl wr.heap.size rfl])
                  )
                refine (to_wide (HP.out _)).mono ?_
                rintro e w2 ⟨rfl, rfl⟩
                gi_wp2_with fail
                refine (to_wide (HQ.out _)).mono ?_
                rintro e w3 ⟨rfl, hb3⟩
                have HAL3 := Lib.hid (HAL.out.trans (hb3.mono (by simp)))
                clear hb3
                gi_wp2
                go_roundw
                case rel => exact ⟨k + 1, by omega, by simp, by rw [HN.out HF.out]; exact j_below hJ HJ.out HAL3.out, kz_t HNX.out (kz_below HAL3.out HSW.out)⟩
                case measure => simp [intOf]; omega
            · have HF := Lib.hid (isT_false (sym := sym) (fun h => hpr h.2.2.2.1))
              have HP := Lib.hid (fun w => price_bad m.price w hpr)
              have b1 : (m.kind == 3) = true := by simpa using hkd
              have b2 : (m.sym == sym) = true := by simpa using hsy
              clear hkd hsy hpr
              gi_wp2_with (first
                | (refine loadW_mid trivial (by rfl) 66 _ (by rfl) b (off + k * 9) (by rfl) m.cells.toList _ hrow Try.underlying66 rfl (by kernel_rfl) ?_)
                | (refine storeW_blk trivial (by rfl) 66 _ _ (by rfl) wr.heap.size (by rfl) msgZero m.cells 66 HZ.out (by rfl) (by rfl) (by kernel_rfl) (one_msg _) ?_; change wpListIn _ _ _ _ _ _ _ (World.setCells (wr.alloc (.cells msgZero 66)) wr.heap.size 0 m.cells.toList); rw [alloc_setCells wr msgZero m.cells 66 rfl wr.heap.size rfl])
                | (gi_at_call 83; refine (to_wide (HP.out _)).mono ?_; rintro e w2 ⟨rfl, rfl⟩)
                )
              have HAL3 := HAL
              go_roundw
              case rel => exact ⟨k + 1, by omega, by simp, by rw [HN.out HF.out]; exact j_below hJ HJ.out HAL3.out, kz_t HNX.out (kz_below HAL3.out HSW.out)⟩
              case measure => simp [intOf]; omega
          · have HF := Lib.hid (isT_false (sym := sym) (fun h => htk h.2.2.1))
            have b1 : (m.kind == 3) = true := by simpa using hkd
            have b2 : (m.sym == sym) = true := by simpa using hsy
            have b3 : m.tick < 0 := by omega
            clear hkd hsy htk
            gi_wp2_with (first
              | (refine loadW_mid trivial (by rfl) 66 _ (by rfl) b (off + k * 9) (by rfl) m.cells.toList _ hrow Try.underlying66 rfl (by kernel_rfl) ?_)
              | (refine storeW_blk trivial (by rfl) 66 _ _ (by rfl) wr.heap.size (by rfl) msgZero m.cells 66 HZ.out (by rfl) (by rfl) (by kernel_rfl) (one_msg _) ?_; change wpListIn _ _ _ _ _ _ _ (World.setCells (wr.alloc (.cells msgZero 66)) wr.heap.size 0 m.cells.toList); rw [alloc_setCells wr msgZero m.cells 66 rfl wr.heap.size rfl])
              )
            go_roundw
            case rel => exact ⟨k + 1, by omega, by simp, by rw [HN.out HF.out]; exact j_below hJ HJ.out HAL.out, kz_t HNX.out (kz_below HAL.out HSW.out)⟩
            case measure => simp [intOf]; omega
        · have HF := Lib.hid (isT_false (fun h => hsy h.2.1))
          have b1 : (m.kind == 3) = true := by simpa using hkd
          have b2 : (m.sym == sym) = false := by simpa using hsy
          clear hkd hsy
          gi_wp2_with (first
            | (refine loadW_mid trivial (by rfl) 66 _ (by rfl) b (off + k * 9) (by rfl) m.cells.toList _ hrow Try.underlying66 rfl (by kernel_rfl) ?_)
            | (refine storeW_blk trivial (by rfl) 66 _ _ (by rfl) wr.heap.size (by rfl) msgZero m.cells 66 HZ.out (by rfl) (by rfl) (by kernel_rfl) (one_msg _) ?_; change wpListIn _ _ _ _ _ _ _ (World.setCells (wr.alloc (.cells msgZero 66)) wr.heap.size 0 m.cells.toList); rw [alloc_setCells wr msgZero m.cells 66 rfl wr.heap.size rfl])
            )
          go_roundw
          case rel => exact ⟨k + 1, by omega, by simp, by rw [HN.out HF.out]; exact j_below hJ HJ.out HAL.out, kz_t HNX.out (kz_below HAL.out HSW.out)⟩
          case measure => simp [intOf]; omega
      · have HF := Lib.hid (isT_false (sym := sym) (fun h => hkd h.1))
        have b1 : (m.kind == 3) = false := by simpa using hkd
        clear hkd
        gi_wp2_with (first
          | (refine loadW_mid trivial (by rfl) 66 _ (by rfl) b (off + k * 9) (by rfl) m.cells.toList _ hrow Try.underlying66 rfl (by kernel_rfl) ?_)
          | (refine storeW_blk trivial (by rfl) 66 _ _ (by rfl) wr.heap.size (by rfl) msgZero m.cells 66 HZ.out (by rfl) (by rfl) (by kernel_rfl) (one_msg _) ?_; change wpListIn _ _ _ _ _ _ _ (World.setCells (wr.alloc (.cells msgZero 66)) wr.heap.size 0 m.cells.toList); rw [alloc_setCells wr msgZero m.cells 66 rfl wr.heap.size rfl])
          )
        go_roundw
        case rel => exact ⟨k + 1, by omega, by simp, by rw [HN.out HF.out]; exact j_below hJ HJ.out HAL.out, kz_t HNX.out (kz_below HAL.out HSW.out)⟩
        case measure => simp [intOf]; omega
    · obtain rfl : k = ms.length := by omega
      rw [List.take_length] at hJs
      have HJ := Lib.hid hJs
      clear hJs
      have g1 : (ms.length : Int) ≤ (ms.length : Int) := by omega
      gi_wp2
      go_end0
      exact ⟨⟨_, rfl⟩, .inl ⟨_, rfl, HJ.out⟩⟩

theorem counts_stops (n : Nat) (hn : 1 ≤ n) (sym : Int) (a : Option Addr) (cap : Nat) (ms : List Msg) (hmx : ms.length ≤ 1000) (hfit : ∀ m ∈ ms, m.tick ≤ 9223372036854775807) (Bs By : Nat) (S : Nat → Prop) (hS : ∀ b off, a = some ⟨b, off, none⟩ → 0 < ms.length → S b) (hSy : S By) (w : World) (hSl : ∀ b, S b → b < w.heap.size)
    (hBs : Blk w Bs #[.slice a ms.length cap] 45) (hBy : Blk w By #[.int .i64 sym] 3) (hm : MsgRow w a ms) :
    SeqStopsK Fence.wide n Try.prog 113 #[.pointer (some ⟨Bs, 0, none⟩), .pointer (some ⟨By, 0, none⟩)] (fun x : TM => #[Value.agg x.1.cells]) (KZ S) (fun ys => ys = cnt sym ms) (fun pre => pre <+: cnt sym ms) (cnt sym ms).length w := fun l J Jx W hW hJ _ hY h0 =>
  counts1_in n hn sym a cap ms hmx hfit l Bs By S hS hSy J Jx W (fun b hb => Nat.lt_of_lt_of_le (hSl b hb) hW.size) hJ hY ((hBs.below hW hBs.lt).cell 0 rfl) (hBy.below hW hBy.lt) (hm.all hW) h0
end Go.Proofs.Ytogjgpiddjmpiaa.Tape
