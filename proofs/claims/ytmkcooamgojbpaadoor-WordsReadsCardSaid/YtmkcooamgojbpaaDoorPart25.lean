/- Parts of the proof: WRaw, WStepE, WRead, RHex. -/
import Derived.Test.YtmkcooamgojbpaaDoorPart21
import Derived.Test.YtmkcooamgojbpaaDoorPart24
import Derived.Test.YtmkcooamgojbpaaDoorPart19
import Derived.Test.YtmkcooamgojbpaaDoorPart20
import Derived.Test.YtmkcooamgojbpaaDoorPart9
import Derived.Test.YtmkcooamgojbpaaDoorPart11
import Derived.Deep.QuietTactic
import Derived.Test.YtmkcooamgojbpaaDoorPart16
import Derived.Test.YtmkcooamgojbpaaDoorPart18

/- words.reader's raw. -/
namespace Go.Proofs.YtmkcooamgojbpaaDoor.Lines
open Go.RowKit Go.Proofs.YtmkcooamgojbpaaDoor.Kit Go.Proofs.YtmkcooamgojbpaaDoor.Blk Go.Proofs.YtmkcooamgojbpaaDoor.Dec Go.Proofs.YtmkcooamgojbpaaDoor.Words Go.Proofs.YtmkcooamgojbpaaDoor.Octets Go.Proofs.YtmkcooamgojbpaaDoor.Steps Go.Proofs.YtmkcooamgojbpaaDoor.Cmds
attribute [local go_sem ↓] Go.wp_at_zero Go.wp_at_succ
set_option linter.unusedVariables false

/-- Where the reading of digits stands. -/
structure RwS (w : World) (P X : Nat) (l : List Tok) (bs : List Nat) (u : Value) (W : World) : Prop where
  chg : Chg w.heap.size P w W
  z : Blk W w.heap.size (stepC 0 0 0 (.slice none 0 0)) 42
  r : WRd P l W
  s : Blk W X (stepC 1 0 0 u) 42
  own : Own X bs u W
  PX : w.heap.size < X
  P0 : P < w.heap.size
section
variable {w W W' w1 : World} {P X : Nat} {l l' : List Tok} {bs : List Nat} {u u' : Value}
theorem RwS.rd (h : RwS w P X l [] (.slice none 0 0) W) (hc : Chg W.heap.size P W W') (hr : WRd P l' W') : RwS w P X l' [] (.slice none 0 0) W' :=
  have h1 := h.PX; have h2 := h.P0
  ⟨h.chg.trans (hc.mono h.chg.size), hc.blk h.z.lt (by omega) h.z, hr, hc.blk h.s.lt (by omega) h.s, World.ownsRow_nil _ _ _ _, h.PX, h.P0⟩
theorem RwS.below (h : RwS w P X l bs u W) (hb : Below W.heap.size W W') : RwS w P X l bs u W' :=
  ⟨h.chg.step (hb.mono h.chg.size), h.z.below hb h.z.lt, h.r.below h.r.lt hb, h.s.below hb h.s.lt, own_below h.own hb, h.PX, h.P0⟩
theorem RwS.push {b : Nat} (h : RwS w P X l bs u W) (hb : Below W.heap.size W W') (hown : w1.ownsRow X 5 1 u' (bs.length + 1) (vals bs ++ [.int .u8 (b : Int)])) (hgrow : W'.grownBy w1 u.ownBlock) : RwS w P X l (bs ++ [b]) u' (w1.setCell ⟨X, 3, none⟩ u') := by
  have h1 := h.PX
  have h2 := h.P0
  have hz : Blk w1 w.heap.size (stepC 0 0 0 (.slice none 0 0)) 42 := blk_keep hb h.z (by decide) h.own hgrow
  have hs : Blk w1 X (stepC 1 0 0 u) 42 := blk_keep hb h.s (by decide) h.own hgrow
  have hbel : Below w.heap.size W (w1.setCell ⟨X, 3, none⟩ u') :=
    (((hb.mono h.chg.size).grown hgrow (Nat.le_trans h.chg.size hb.size) (fun k e => by have := (row_from' h.own e).1; omega))).setCell (by show w.heap.size ≤ X; omega) _
  refine ⟨h.chg.step hbel, hz.apart _ _ (by show X ≠ _; omega), h.r.below h2 hbel, hs.set 3 u', ?_, h1, h2⟩
  have ho : Own X (bs ++ [b]) u' w1 := by
    have e : vals (bs ++ [b]) = vals bs ++ [.int .u8 (b : Int)] := by simp [vals]
    unfold Own
    rw [List.length_append, e]
    exact hown
  refine own_set ho (fun hu => ?_) 3 u'
  obtain ⟨_, cur, hc⟩ := row_from' ho hu
  rw [show w1.heap[X]? = _ from hs] at hc
  injection hc with hc
  injection hc with _ hc _
  exact absurd hc (by decide)
end
theorem raw_nil_eq : rawP [] = some (⟨1, 0, 0, []⟩, []) := rfl
set_option maxRecDepth 20000 in
set_option maxHeartbeats 4000000 in
theorem raw_nil (P : Nat) (w : World) (h : WRd P [] w) :
    Calls Tryd.prog 134 #[.pointer (some ⟨P, 0, none⟩)] w (RdV (StepV w.heap.size) (rawP []) P w) := by
  have hP := h.lt
  have hbel : Below w.heap.size w ((w.alloc (.cells (stepC 0 0 0 (.slice none 0 0)) 42)).alloc (.cells (stepC 1 0 0 (.slice none 0 0)) 42)) := ((Below.refl _ _).alloc (Nat.le_refl _) _).alloc (by simp) _
  have hr := h.below hP hbel
  obtain ⟨a, c, c0⟩ := hr.empty
  have HR := Lib.hid hr
  have HC := Lib.hid (show Chg w.heap.size P w _ from Chg.of hbel)
  have HZ := Lib.hid ((Blk.new w (stepC 0 0 0 (.slice none 0 0)) 42 w.heap.size rfl).old (.cells (stepC 1 0 0 (.slice none 0 0)) 42))
  have HX := Lib.hid (Blk.new (w.alloc (.cells (stepC 0 0 0 (.slice none 0 0)) 42)) (stepC 1 0 0 (.slice none 0 0)) 42 (w.heap.size + 1) (by simp))
  clear h hr hbel
  go_enter Tryd.func134, Tryd.ntmps134
  go_upto_region 2 with fail
  change Code.wp _ _ _ _ ((w.alloc (.cells (stepC 0 0 0 (.slice none 0 0)) 42)).alloc (.cells (stepC 1 0 0 (.slice none 0 0)) 42))
  generalize (w.alloc (.cells (stepC 0 0 0 (.slice none 0 0)) 42)).alloc (.cells (stepC 1 0 0 (.slice none 0 0)) 42) = w2 at c0 HR HC HZ HX ⊢
  go_wp2_with (first
    | (refine load_blk (by rfl) 42 _ (by rfl) (w.heap.size + 1) (by rfl) _ _ HX.out _ Tryd.underlying42 rfl (by kernel_rfl) ?_)
    | (refine store_blk (by rfl) 42 _ _ (by rfl) w.heap.size (by rfl) _ (stepC 1 0 0 (.slice none 0 0)) 42 HZ.out (by rfl) rfl (by kernel_rfl) (one_stp _ _ _ _ _ _) ?_))
  refine bodyPost_ret (results_cell_row rfl _ _ _ _ _ (0, 0) _ rfl (HZ.out.setCells (stepC 1 0 0 (.slice none 0 0)) rfl) Tryd.underlying42 rfl (by kernel_rfl)) rfl ?_
  have hbel := Blk.Below.setCells (stepC 1 0 0 (.slice none 0 0)).toList 0 _ (Below.refl w.heap.size w2) (B := w.heap.size) (Nat.le_refl _)
  exact .inr ⟨_, [], _, raw_nil_eq, rfl, ⟨_, rfl, .inl ⟨rfl, rfl⟩⟩, HR.out.below hP hbel, HC.out.step hbel⟩
theorem str_index (s : Tok) (m : Nat) (h : m < s.length) (z : Int) (hz : z = (m : Int)) (W : World) : (Instr.index 9 (.string (strB s)) (.int .i64 z)).run Tryd.prog W = .ok (.int .u8 (s[m].toNat : Int)) W := by
  subst hz
  have h1 : m < (strB s).size := by rw [strB_size]; exact h
  rw [run_index_string W 9 (strB s) .i64 (m : Int) Tryd.underlying9, dif_pos ⟨by omega, by omega⟩]
  have h2 := strB_at s m h1 h
  have h3 : (strB s)[(m : Int).toNat]'(by simpa using h1) = s[m] := by
    have : (m : Int).toNat = m := by omega
    simp only [this]
    exact h2
  rw [h3]
  rfl
theorem raw_cons (x : Tok) (l : List Tok) : rawP (x :: l) = (rawW x).map fun s => (s, l) := rfl
set_option maxRecDepth 20000 in
set_option maxHeartbeats 4000000 in
theorem raw_bad (P : Nat) (x : Tok) (l : List Tok) (hx : ¬ (0 < x.length ∧ x.length % 2 = 0 ∧ x.length ≤ 128)) (w : World) (h : WRd P (x :: l) w) :
    Calls Tryd.prog 134 #[.pointer (some ⟨P, 0, none⟩)] w (RdV (StepV w.heap.size) (rawP (x :: l)) P w) := by
  have HN := Lib.hid (show rawP (x :: l) = none by rw [raw_cons]; unfold rawW; rw [if_neg hx]; rfl)
  have hP := h.lt
  have hbel : Below w.heap.size w ((w.alloc (.cells (stepC 0 0 0 (.slice none 0 0)) 42)).alloc (.cells (stepC 1 0 0 (.slice none 0 0)) 42)) := ((Below.refl _ _).alloc (Nat.le_refl _) _).alloc (by simp) _
  have hr := h.below hP hbel
  obtain ⟨g, o, c, c0, -, hgc⟩ := hr.head
  have HW := Lib.hid (word_any' P _ _ hr)
  have HS := Lib.hid (show RwS w P (w.heap.size + 1) (x :: l) [] (.slice none 0 0) _ from ⟨Chg.of hbel, (Blk.new w (stepC 0 0 0 (.slice none 0 0)) 42 w.heap.size rfl).old (.cells (stepC 1 0 0 (.slice none 0 0)) 42), hr, Blk.new (w.alloc (.cells (stepC 0 0 0 (.slice none 0 0)) 42)) (stepC 1 0 0 (.slice none 0 0)) 42 (w.heap.size + 1) (by simp), World.ownsRow_nil _ _ _ _, Nat.lt_succ_self _, hP⟩)
  have hpos : ((l.length : Int) + 1 == 0) = false := by simp; omega
  have z1 : (strB x).size = x.length := strB_size x
  clear h hr hbel
  go_enter Tryd.func134, Tryd.ntmps134
  go_upto_region 2 with fail
  change Code.wp _ _ _ _ ((w.alloc (.cells (stepC 0 0 0 (.slice none 0 0)) 42)).alloc (.cells (stepC 1 0 0 (.slice none 0 0)) 42))
  generalize (w.alloc (.cells (stepC 0 0 0 (.slice none 0 0)) 42)).alloc (.cells (stepC 1 0 0 (.slice none 0 0)) 42) = w2 at c0 HW HS ⊢
  generalize hX : w.heap.size + 1 = X at HS ⊢
  go_wp2_with fail
  refine HW.out.mono ?_
  rintro e w3 (⟨ho, rfl, hc⟩ | ⟨x', l', ho, rfl, hr, hc⟩)
  · cases ho
  injection ho with ho
  injection ho with h1 h2
  subst h1 h2
  replace HS := Lib.hid (HS.out.rd hc hr)
  clear hr hc HW c0 hgc hpos
  have HC := Lib.hid HS.out.chg
  by_cases h1 : 0 < x.length
  · have g1 : (0 : Int) < (x.length : Int) := by omega
    by_cases h2 : x.length % 2 = 0
    · have g2 : ((x.length : Int).tmod 2) = 0 := by rw [Int.tmod_eq_emod_of_nonneg (by omega)]; omega
      have g3 : decide ((x.length : Int) ≤ 128) = false := by simp; omega
      go_wp2_with fail
      refine (must_false _).mono ?_
      rintro e w4 ⟨rfl, rfl⟩
      go_wp2_with fail
      exact ⟨rfl, .inl ⟨HN.out, rfl, HC.out⟩⟩
    · have g2 : (((x.length : Int).tmod 2) == 0) = false := by rw [Int.tmod_eq_emod_of_nonneg (by omega)]; simp; omega
      go_wp2_with fail
      refine (must_false _).mono ?_
      rintro e w4 ⟨rfl, rfl⟩
      go_wp2_with fail
      exact ⟨rfl, .inl ⟨HN.out, rfl, HC.out⟩⟩
  · have g1 : ¬ (0 : Int) < (x.length : Int) := by omega
    go_wp2_with fail
    refine (must_false _).mono ?_
    rintro e w4 ⟨rfl, rfl⟩
    go_wp2_with fail
    exact ⟨rfl, .inl ⟨HN.out, rfl, HC.out⟩⟩
set_option maxRecDepth 20000 in
set_option maxHeartbeats 8000000 in
theorem raw_good (P : Nat) (x : Tok) (l : List Tok) (hx0 : 0 < x.length) (hx2 : x.length % 2 = 0) (hx3 : x.length ≤ 128) (w : World) (h : WRd P (x :: l) w) :
    Calls Tryd.prog 134 #[.pointer (some ⟨P, 0, none⟩)] w (RdV (StepV w.heap.size) (rawP (x :: l)) P w) := by
  obtain ⟨i0, hi0, hz0, hz1, hz2⟩ := info_parts infoU8
  have HRW := Lib.hid (show rawP (x :: l) = (rawW x).map fun s => (s, l) from rfl)
  have HRX := Lib.hid (show rawW x = (unhexF x).bind fun b => match decF b with
    | .bad _ => some ⟨1, 0, 0, b⟩
    | .ok _ _ => none by unfold rawW; rw [if_pos ⟨hx0, hx2, hx3⟩]; rfl)
  have hP := h.lt
  have hbel : Below w.heap.size w ((w.alloc (.cells (stepC 0 0 0 (.slice none 0 0)) 42)).alloc (.cells (stepC 1 0 0 (.slice none 0 0)) 42)) := ((Below.refl _ _).alloc (Nat.le_refl _) _).alloc (by simp) _
  have hr := h.below hP hbel
  obtain ⟨g, o, c, c0, -, hgc⟩ := hr.head
  have HW := Lib.hid (word_any' P _ _ hr)
  have HS := Lib.hid (show RwS w P (w.heap.size + 1) (x :: l) [] (.slice none 0 0) _ from ⟨Chg.of hbel, (Blk.new w (stepC 0 0 0 (.slice none 0 0)) 42 w.heap.size rfl).old (.cells (stepC 1 0 0 (.slice none 0 0)) 42), hr, Blk.new (w.alloc (.cells (stepC 0 0 0 (.slice none 0 0)) 42)) (stepC 1 0 0 (.slice none 0 0)) 42 (w.heap.size + 1) (by simp), World.ownsRow_nil _ _ _ _, Nat.lt_succ_self _, hP⟩)
  have hpos : ((l.length : Int) + 1 == 0) = false := by simp; omega
  have z1 : (strB x).size = x.length := strB_size x
  clear h hr hbel
  go_enter Tryd.func134, Tryd.ntmps134
  go_upto_region 2 with fail
  change Code.wp _ _ _ _ ((w.alloc (.cells (stepC 0 0 0 (.slice none 0 0)) 42)).alloc (.cells (stepC 1 0 0 (.slice none 0 0)) 42))
  generalize (w.alloc (.cells (stepC 0 0 0 (.slice none 0 0)) 42)).alloc (.cells (stepC 1 0 0 (.slice none 0 0)) 42) = w2 at c0 HW HS ⊢
  generalize hX : w.heap.size + 1 = X at HS ⊢
  go_wp2_with fail
  refine HW.out.mono ?_
  rintro e w3 (⟨ho, rfl, hc⟩ | ⟨x', l', ho, rfl, hr, hc⟩)
  · cases ho
  injection ho with ho
  injection ho with h1 h2
  subst h1 h2
  replace HS := Lib.hid (HS.out.rd hc hr)
  clear hr hc HW c0 hgc hpos
  have g1 : (0 : Int) < (x.length : Int) := by omega
  have g2 : ((x.length : Int).tmod 2) = 0 := by rw [Int.tmod_eq_emod_of_nonneg (by omega)]; omega
  have g3 : (x.length : Int) ≤ 128 := by omega
  go_wp2_with fail
  refine (must_true _).mono ?_
  rintro e w4 ⟨rfl, rfl⟩
  go_wp2_with fail
  go_loopw [5] (fun i wr => ∃ (k : Nat) (bs : List Nat) (u : Value), 2 * k ≤ x.length ∧ i = .int .i64 ((2 * k : Nat) : Int) ∧ Hid (unhexF (x.take (2 * k)) = some bs) ∧ bs.length = k ∧ RwS w P X l bs u wr) (fun i _ => x.length - (intOf i).toNat)
  case atStart => exact ⟨0, [], _, by omega, rfl, Lib.hid rfl, rfl, HS.out⟩
  case round =>
    obtain ⟨k, bs, u, hk, rfl, HU, hbk, hs⟩ := hrel
    clear HS
    have HS := Lib.hid hs
    have hbs : bs.length ≤ 64 := by omega
    have HBK := Lib.hid hbk
    clear hs hbk
    by_cases hlt : 2 * k < x.length
    · have hkl : 2 * (k : Int) < (x.length : Int) := by omega
      have hlt2 : 2 * k + 1 < x.length := by omega
      go_wp2_with fail
      have ix1 := str_index x (2 * k) hlt (2 * (k : Int)) (by omega)
      have ix2 := str_index x (2 * k + 1) hlt2 (2 * (k : Int) + 1) (by omega)
      have HU2 := Lib.hid (show x.take (2 * (k + 1)) = x.take (2 * k) ++ [x[2 * k], x[2 * k + 1]] by
        have e1 : x.take (2 * k + 1 + 1) = x.take (2 * k + 1) ++ [x[2 * k + 1]] := by simp
        have e2 : x.take (2 * k + 1) = x.take (2 * k) ++ [x[2 * k]] := by simp
        rw [show 2 * (k + 1) = 2 * k + 1 + 1 by omega, e1, e2, List.append_assoc]; rfl)
      generalize x[2 * k] = ca at ix1 HU2
      generalize x[2 * k + 1] = cb at ix2 HU2
      have hkw : 2 * (k : Int) + 1 < 9223372036854775808 := by omega
      have HI := Lib.hid (fun (c : UInt8) (W : World) => show Calls Tryd.prog 186 #[.string ⟨#[48, 49, 50, 51, 52, 53, 54, 55, 56, 57, 97, 98, 99, 100, 101, 102]⟩, .int .u8 (c.toNat : Int)] W fun e w' => e = .returned (.int .i64 (uhI c)) ∧ w' = W from by
        have h := Shelf.strings_IndexByte ⟨#[48, 49, 50, 51, 52, 53, 54, 55, 56, 57, 97, 98, 99, 100, 101, 102]⟩ (c.toNat : Int) W
        rw [← index_uh]
        simpa [digitsH] using h)
      go_quiet ((go_at_call 186; exact Calls.quiet_of_same (HI.out _ _)))
      replace HS := Lib.hid (HS.out.below ((Below.refl _ _).drewN nq))
      generalize wr.drewN nq = wq at HS ⊢
      clear ix1 ix2 HI
      have HSN := Lib.hid (show unhexF (x.take (2 * (k + 1))) = (uh ca).bind fun a => (uh cb).map fun b => bs ++ [a * 16 + b] by rw [HU2.out, unhex_snoc _ _ _ (by rw [List.length_take]; omega), HU.out]; rfl)
      have HNX := Lib.hid (fun (h : unhexF (x.take (2 * (k + 1))) = none) => show rawP (x :: l) = none by
        have h2 : unhexF x = none := by rw [← List.take_append_drop (2 * (k + 1)) x]; exact unhex_app_none _ _ (by rw [List.length_take]; omega) h
        rw [HRW.out, HRX.out, h2]; rfl)
      have HC := Lib.hid HS.out.chg
      cases ha : uh ca with
      | none =>
        have HN := Lib.hid (HNX.out (by rw [HSN.out, ha]; rfl))
        rw [uhI_none ha]
        clear HNX HSN HU HU2
        go_wp2_with fail
        refine (must_false _).mono ?_
        rintro e w4' ⟨rfl, rfl⟩
        go_wp2_with fail
        exact ⟨rfl, .inl ⟨HN.out, rfl, HC.out⟩⟩
      | some da =>
        rw [uhI_some ha]
        have ga : da < 16 := (uh_ok ha).1
        have g0a : (0 : Int) ≤ (da : Int) := by omega
        cases hb : uh cb with
        | none =>
          have HN := Lib.hid (HNX.out (by rw [HSN.out, ha, hb]; rfl))
          rw [uhI_none hb]
          clear HNX HSN HU HU2
          go_wp2_with fail
          refine (must_false _).mono ?_
          rintro e w4' ⟨rfl, rfl⟩
          go_wp2_with fail
          exact ⟨rfl, .inl ⟨HN.out, rfl, HC.out⟩⟩
        | some db =>
          rw [uhI_some hb]
          have gb : db < 16 := (uh_ok hb).1
          have g0b : (0 : Int) ≤ (db : Int) := by omega
          have HUN := Lib.hid (show unhexF (x.take (2 * (k + 1))) = some (bs ++ [da * 16 + db]) by rw [HSN.out, ha, hb]; rfl)
          have hor := or_hex da db ga gb
          have g16 : (da : Int) < 16 := by omega
          clear HNX HSN HU HU2 ha hb
          obtain ⟨ua, uc, rfl⟩ := slice_of HS.out.own
          have s3 : wq.cell? ⟨X, 3, none⟩ = some (.slice ua bs.length uc) := HS.out.s.cell 3 rfl
          go_wp2_with fail
          refine (must_true _).mono ?_
          rintro e w4' ⟨rfl, rfl⟩
          obtain ⟨b, hbb⟩ : ∃ b, b = da * 16 + db := ⟨_, rfl⟩
          rw [← hbb] at HUN hor
          have hb8 : Go.bits .or .i64 ((da : Int) * 16) (db : Int) % 256 = (b : Int) := by rw [hor]; omega
          clear hbb hor
          have HNW := Lib.hid (Blk.new wq #[.int .u8 (b : Int)] 5 wq.heap.size rfl)
          have HRA := Lib.hid (HS.out.own.alloc (.cells #[.int .u8 (b : Int)] 5))
          have hlX : X ≤ wq.heap.size := Nat.le_of_lt HS.out.s.lt
          have HSX := Lib.hid (HS.out.s.old (.cells #[.int .u8 (b : Int)] 5))
          go_wp2_with (at_builtin; refine wpList_append_lies _ (by rfl) _ _ _ (by rfl) X 5 i0 (.int .u8 0) 1 1 Tryd.underlying40 hi0 hz0 hz1 hz2 (by rfl) (by decide) _ bs.length (vals bs) (by rfl) HRA.out ⟨wq.heap.size, 0, none⟩ 1 1 [.int .u8 (b : Int)] (by rfl) (by rfl) (news_one HNW.out) (by simp [Value.oneCell']) (by decide) (by unfold maxLen; omega) (by omega) (by simp; omega) (wq.heap.size + 1) (by simp) ?_; intro ga' ca' w5 hown hgrow hat hlt5; have HPU := Lib.hid (HS.out.push ((Below.refl _ _).alloc (Nat.le_refl _) (.cells #[.int .u8 (b : Int)] 5)) hown hgrow); have c5 : w5.cell? ⟨X, 3, none⟩ = some (.slice ua bs.length uc) := (blk_row' HSX.out (by decide) HRA.out hgrow).cell 3 rfl; have f5 : w5.frozen? ⟨X, 3, none⟩ = false := (blk_row' HSX.out (by decide) HRA.out hgrow).free 3; clear hown hgrow hat hlt5)
          have HPU2 := Lib.hid (show RwS w P X l (bs ++ [b]) _ _ from HPU.out)
          go_roundw
          case rel => exact ⟨k + 1, bs ++ [b], _, by omega, by go_num, HUN, by rw [List.length_append, HBK.out]; rfl, HPU2.out⟩
          case measure => simp [intOf]; omega
    · have hkl : decide (2 * (k : Int) < (x.length : Int)) = false := by simp; omega
      obtain ⟨ua, uc, rfl⟩ := slice_of HS.out.own
      have s3 : wr.cell? ⟨X, 3, none⟩ = some (.slice ua bs.length uc) := HS.out.s.cell 3 rfl
      have hux : unhexF x = some bs := by have := HU.out; rwa [List.take_of_length_le (by omega)] at this
      have HUX := Lib.hid hux
      have hbyt : ∀ b ∈ bs, b < 256 := (unhex_ok hux).2.1
      have HD := Lib.hid (decode_any wr.heap.size bs (by omega) hbyt (.slice ua bs.length uc) wr ((own_atB HS.out.own).mono (Nat.zero_le _) (Nat.le_refl _)) (Nat.le_refl _))
      have HPO := Lib.hid (show 0 < bs.length by have := HBK.out; omega)
      have HRF := Lib.hid (show rawP (x :: l) = (match decF bs with
        | .bad _ => some ((⟨1, 0, 0, bs⟩ : Stp), l)
        | .ok _ _ => none) by rw [HRW.out, HRX.out, HUX.out]; dsimp only [Option.bind]; cases decF bs <;> rfl)
      have HBN := Lib.hid (dec_bad_ne bs)
      unfold DecIs at HD
      clear hux hbyt HRW HRX HU
      go_wp2_with fail
      refine HD.out.mono ?_
      rintro e w6 ⟨rfl, hb6⟩
      replace HS := Lib.hid (HS.out.below hb6)
      clear hb6 HD s3
      cases hdf : decF bs with
      | ok cm rest =>
        have HN := Lib.hid (show rawP (x :: l) = none by rw [HRF.out, hdf])
        clear HRF HBN hdf
        unfold decV
        dsimp only
        have HCC := Lib.hid ((HS.out.chg).alloc HS.out.chg.size (.cells cm.cells 164))
        unfold Cmd.cells at *
        go_wp2_with fail
        refine (must_false _).mono ?_
        rintro e w7 ⟨rfl, rfl⟩
        go_wp2_with fail
        exact ⟨rfl, .inl ⟨HN.out, rfl, HCC.out⟩⟩
      | bad f =>
        have HN := Lib.hid (show rawP (x :: l) = some (⟨1, 0, 0, bs⟩, l) by rw [HRF.out, hdf])
        have hf : (f != 0) = true := by have := HBN.out f hdf; simpa using this
        clear HRF HBN hdf
        unfold decV
        dsimp only
        replace HS := Lib.hid (HS.out.below ((Below.refl w6.heap.size w6).alloc (Nat.le_refl _) (.cells zeroC.cells 164)))
        have HY := Lib.hid (show BytesOf w.heap.size bs (.slice ua bs.length uc) (w6.alloc (.cells zeroC.cells 164)) from .inr ⟨HPO.out, own_mono HS.out.own (by have := HS.out.PX; omega)⟩)
        unfold Cmd.cells zeroC at *
        dsimp only at *
        go_wp2_with fail
        refine (must_true _).mono ?_
        rintro e w7 ⟨rfl, he⟩
        subst he
        generalize w6.alloc _ = w8 at HS HY ⊢
        generalize bs.length = bn at HS HY ⊢
        go_wp2_with (first
          | (refine load_blk (by rfl) 42 _ (by rfl) X (by rfl) _ _ HS.out.s _ Tryd.underlying42 rfl (by kernel_rfl) ?_)
          | (refine store_blk (by rfl) 42 _ _ (by rfl) w.heap.size (by rfl) _ (stepC 1 0 0 (.slice ua bn uc)) 42 HS.out.z (by rfl) rfl (by kernel_rfl) (one_stp _ _ _ _ _ _) ?_))
        refine bodyPost_ret (results_cell_row rfl _ _ _ _ _ (0, 0) _ rfl (HS.out.z.setCells (stepC 1 0 0 (.slice ua bn uc)) rfl) Tryd.underlying42 rfl (by kernel_rfl)) rfl ?_
        have hbel := Blk.Below.setCells (stepC 1 0 0 (.slice ua bn uc)).toList 0 _ (Below.refl w.heap.size w8) (B := w.heap.size) (Nat.le_refl _)
        exact .inr ⟨_, l, _, HN.out, rfl, ⟨_, rfl, bytes_cells _ _ _ _ HY.out HS.out.z⟩, HS.out.r.below hP hbel, HS.out.chg.step hbel⟩
end Go.Proofs.YtmkcooamgojbpaaDoor.Lines

/- words.reader's step: any words. -/
namespace Go.Proofs.YtmkcooamgojbpaaDoor.Lines
open Go.RowKit Go.Proofs.YtmkcooamgojbpaaDoor.Kit Go.Proofs.YtmkcooamgojbpaaDoor.Blk Go.Proofs.YtmkcooamgojbpaaDoor.Dec Go.Proofs.YtmkcooamgojbpaaDoor.Words Go.Proofs.YtmkcooamgojbpaaDoor.Octets Go.Proofs.YtmkcooamgojbpaaDoor.Steps Go.Proofs.YtmkcooamgojbpaaDoor.Cmds
attribute [local go_sem ↓] Go.wp_at_zero Go.wp_at_succ
set_option linter.unusedVariables false

theorem raw_any (P : Nat) (ws : List Tok) (w : World) (h : WRd P ws w) :
    Calls Tryd.prog 134 #[.pointer (some ⟨P, 0, none⟩)] w (RdV (StepV w.heap.size) (rawP ws) P w) := by
  cases ws with
  | nil => exact raw_nil P w h
  | cons x l =>
    by_cases hx : 0 < x.length ∧ x.length % 2 = 0 ∧ x.length ≤ 128
    · exact raw_good P x l hx.1 hx.2.1 hx.2.2 w h
    · exact raw_bad P x l hx w h
set_option maxRecDepth 20000 in
set_option maxHeartbeats 4000000 in
theorem step_raw (P : Nat) (l : List Tok) (w : World) (h : WRd P (tRaw :: l) w) :
    Calls Tryd.prog 80 #[.pointer (some ⟨P, 0, none⟩)] w (StepIs (stepP (tRaw :: l)) P w) := by
  have hP := h.lt
  have hR0 := h.below (P := P) hP ((Below.refl w.heap.size w).alloc (Nat.le_refl _) (.cells (stepC 0 0 0 (.slice none 0 0)) 42))
  have HI := Lib.hid (word_any' P _ _ hR0)
  have HZ0 := Lib.hid (Blk.new w (stepC 0 0 0 (.slice none 0 0)) 42 w.heap.size rfl)
  have HC0 := Lib.hid ((Chg.refl w.heap.size P w).alloc (Nat.le_refl _) (.cells (stepC 0 0 0 (.slice none 0 0)) 42))
  have HE := Lib.hid (step_eq (show bodyP tRaw l = rawP l from rfl))
  clear h hR0
  go_enter Tryd.func80, Tryd.ntmps80
  go_wp2_with fail
  refine HI.out.mono ?_
  rintro e w1 (⟨ho, rfl, hc⟩ | ⟨x, l', ho, rfl, hr, hc⟩)
  · cases ho
  injection ho with ho
  injection ho with h1 h2
  subst h1 h2
  have HC := Lib.hid (HC0.out.trans (hc.mono (by simp)))
  have HZ := Lib.hid (hc.blk (by simp) (by omega) HZ0.out)
  have HR := Lib.hid hr
  have HM := Lib.hid (raw_any P l w1 hr)
  clear hr hc HI HZ0 HC0
  have k1 : ((strB tRaw).toList == [116, 105, 99, 107]) = false := by rw [strB_toList]; decide
  have k2 : ((strB tRaw).toList == [105, 110, 100, 101, 120]) = false := by rw [strB_toList]; decide
  have k3 : ((strB tRaw).toList == [98, 105, 100]) = false := by rw [strB_toList]; decide
  have k4 : ((strB tRaw).toList == [110, 101, 119]) = false := by rw [strB_toList]; decide
  have k5 : ((strB tRaw).toList == [99, 97, 110, 99, 101, 108]) = false := by rw [strB_toList]; decide
  have k6 : ((strB tRaw).toList == [114, 101, 112, 108, 97, 99, 101]) = false := by rw [strB_toList]; decide
  have k7 : ((strB tRaw).toList == [114, 97, 119]) = true := by rw [strB_toList]; decide
  go_wp2_with fail
  refine HM.out.mono ?_
  rintro e w2 (⟨ho, rfl, hc⟩ | ⟨st, l3, v, ho, rfl, ⟨u, rfl, hby⟩, hr, hc⟩)
  · have HN := Lib.hid (show stepP (tRaw :: l) = none by rw [HE.out, ho]; rfl)
    replace HC := Lib.hid (HC.out.trans (hc.mono HC.out.size))
    clear ho hc HM HE k1 k2 k3 k4 k5 k6 k7
    go_wp2_with fail
    exact ⟨rfl, .inl ⟨HN.out, rfl, HC.out⟩⟩
  rw [ho] at HE
  replace HE := Lib.hid (show stepP (tRaw :: l) = if l3 = [] then some st else none from HE.out)
  obtain ⟨ua, un, uc, rfl⟩ := bytes_form hby
  replace HZ := Lib.hid (hc.blk HZ.out.lt (by omega) HZ.out)
  have HY := Lib.hid (bytes_cells (stepC st.k st.y st.v (.slice ua un uc)).toList 0 _ _ (bytes_mono hby HC.out.size) HZ.out)
  have hbel := Blk.Below.setCells (stepC st.k st.y st.v (.slice ua un uc)).toList 0 _ (Below.refl w.heap.size w2) (B := w.heap.size) (Nat.le_refl _)
  replace HR := Lib.hid (hr.below hP hbel)
  replace HC := Lib.hid ((HC.out.trans (hc.mono HC.out.size)).step hbel)
  have HZ3 := Lib.hid (HZ.out.setCells (stepC st.k st.y st.v (.slice ua un uc)) rfl)
  clear ho hby hr hc hbel HM k1 k2 k3 k4 k5 k6 k7
  go_wp2_with (refine store_blk (by rfl) 42 _ _ (by rfl) w.heap.size (by rfl) _ (stepC st.k st.y st.v (.slice ua un uc)) 42 HZ.out (by rfl) rfl (by kernel_rfl) (one_stp _ _ _ _ _ _) ?_; clear HZ; generalize w2.setCells w.heap.size 0 (stepC st.k st.y st.v (.slice ua un uc)).toList = w3 at HC HZ3 HR HY ⊢; have HZ := HZ3; clear HZ3; obtain ⟨ra, rc, hrs⟩ := HR.out.slice; have c0 : w3.cell? ⟨P, 0, none⟩ = some (.slice ra l3.length rc) := hrs.cell 0 rfl; clear hrs)
  by_cases hl3 : l3 = []
  · have HE3 := Lib.hid (show stepP (tRaw :: l) = some st by rw [HE.out, if_pos hl3])
    have hz : ((l3.length : Int) == 0) = true := by rw [hl3]; rfl
    clear HE c0
    rw [hz]
    refine (must_true _).mono ?_
    rintro e w4 ⟨rfl, rfl⟩
    go_wp2_with (first
      | (refine load_blk (by rfl) 42 _ (by rfl) w.heap.size (by rfl) _ _ HZ.out _ Tryd.underlying42 rfl (by kernel_rfl) ?_)
      | (refine store_blk (by rfl) 42 _ _ (by rfl) w.heap.size (by rfl) _ (stepC st.k st.y st.v (.slice ua un uc)) 42 HZ.out (by rfl) rfl (by kernel_rfl) (one_stp _ _ _ _ _ _) ?_))
    refine bodyPost_ret (results_cell_row rfl _ _ _ _ _ (0, 0) _ rfl (HZ.out.setCells (stepC st.k st.y st.v (.slice ua un uc)) rfl) Tryd.underlying42 rfl (by kernel_rfl)) rfl ?_
    have hbel := Blk.Below.setCells (stepC st.k st.y st.v (.slice ua un uc)).toList 0 _ (Below.refl w.heap.size w3) (B := w.heap.size) (Nat.le_refl _)
    exact .inr ⟨st, _, HE3.out, rfl, ⟨_, rfl, bytes_cells _ _ _ _ HY.out HZ.out⟩, HC.out.step hbel⟩
  · have HE3 := Lib.hid (show stepP (tRaw :: l) = none by rw [HE.out]; exact if_neg hl3)
    have hz : ((l3.length : Int) == 0) = false := by
      have : l3.length ≠ 0 := fun h => hl3 (List.length_eq_zero_iff.1 h)
      simp; omega
    clear HE
    rw [hz]
    refine (must_false _).mono ?_
    rintro e w4 ⟨rfl, rfl⟩
    go_wp2_with fail
    exact ⟨rfl, .inl ⟨HE3.out, rfl, HC.out⟩⟩
set_option maxRecDepth 20000 in
set_option maxHeartbeats 4000000 in
theorem step_other (P : Nat) (t : Tok) (l : List Tok) (w : World) (h : WRd P (t :: l) w) (h1 : t ≠ tTick) (h2 : t ≠ tIndex) (h3 : t ≠ tBid) (h4 : t ≠ tNew) (h5 : t ≠ tCancel) (h6 : t ≠ tReplace) (h7 : t ≠ tRaw) :
    Calls Tryd.prog 80 #[.pointer (some ⟨P, 0, none⟩)] w (StepIs (stepP (t :: l)) P w) := by
  have hP := h.lt
  have hR0 := h.below (P := P) hP ((Below.refl w.heap.size w).alloc (Nat.le_refl _) (.cells (stepC 0 0 0 (.slice none 0 0)) 42))
  have HI := Lib.hid (word_any' P _ _ hR0)
  have HZ0 := Lib.hid (Blk.new w (stepC 0 0 0 (.slice none 0 0)) 42 w.heap.size rfl)
  have HC0 := Lib.hid ((Chg.refl w.heap.size P w).alloc (Nat.le_refl _) (.cells (stepC 0 0 0 (.slice none 0 0)) 42))
  have HE := Lib.hid (step_eq (show bodyP t l = none from by unfold bodyP; rw [if_neg h1, if_neg h2, if_neg h3, if_neg h4, if_neg h5, if_neg h6, if_neg h7]))
  clear h hR0
  go_enter Tryd.func80, Tryd.ntmps80
  go_wp2_with fail
  refine HI.out.mono ?_
  rintro e w1 (⟨ho, rfl, hc⟩ | ⟨x, l', ho, rfl, hr, hc⟩)
  · cases ho
  injection ho with ho
  injection ho with ho1 ho2
  subst ho1 ho2
  have HC := Lib.hid (HC0.out.trans (hc.mono (by simp)))
  have HZ := Lib.hid (hc.blk (by simp) (by omega) HZ0.out)
  have HR := Lib.hid hr
  clear hr hc HI HZ0 HC0
  have k1 : ((strB t).toList == [116, 105, 99, 107]) = false := by rw [strB_toList]; simpa [tTick] using h1
  have k2 : ((strB t).toList == [105, 110, 100, 101, 120]) = false := by rw [strB_toList]; simpa [tIndex] using h2
  have k3 : ((strB t).toList == [98, 105, 100]) = false := by rw [strB_toList]; simpa [tBid] using h3
  have k4 : ((strB t).toList == [110, 101, 119]) = false := by rw [strB_toList]; simpa [tNew] using h4
  have k5 : ((strB t).toList == [99, 97, 110, 99, 101, 108]) = false := by rw [strB_toList]; simpa [tCancel] using h5
  have k6 : ((strB t).toList == [114, 101, 112, 108, 97, 99, 101]) = false := by rw [strB_toList]; simpa [tReplace] using h6
  have k7 : ((strB t).toList == [114, 97, 119]) = false := by rw [strB_toList]; simpa [tRaw] using h7
  go_wp2_with fail
  refine (must_false _).mono ?_
  rintro e w4 ⟨rfl, rfl⟩
  go_wp2_with fail
  exact ⟨rfl, .inl ⟨HE.out, rfl, HC.out⟩⟩
set_option maxRecDepth 20000 in
set_option maxHeartbeats 4000000 in
theorem step_nil (P : Nat) (w : World) (h : WRd P [] w) :
    Calls Tryd.prog 80 #[.pointer (some ⟨P, 0, none⟩)] w (StepIs (stepP []) P w) := by
  have hP := h.lt
  have hR0 := h.below (P := P) hP ((Below.refl w.heap.size w).alloc (Nat.le_refl _) (.cells (stepC 0 0 0 (.slice none 0 0)) 42))
  have HI := Lib.hid (word_any' P _ _ hR0)
  have HC0 := Lib.hid ((Chg.refl w.heap.size P w).alloc (Nat.le_refl _) (.cells (stepC 0 0 0 (.slice none 0 0)) 42))
  clear h hR0
  go_enter Tryd.func80, Tryd.ntmps80
  go_wp2_with fail
  refine HI.out.mono ?_
  rintro e w1 (⟨ho, rfl, hc⟩ | ⟨x, l', ho, rfl, hr, hc⟩)
  · have HC := Lib.hid (HC0.out.trans (hc.mono (by simp)))
    clear ho hc
    go_wp2_with fail
    exact ⟨rfl, .inl ⟨rfl, rfl, HC.out⟩⟩
  · cases ho
/-- (*words.reader).step, of any words. -/
theorem step_any (P : Nat) (ws : List Tok) (w : World) (h : WRd P ws w) :
    Calls Tryd.prog 80 #[.pointer (some ⟨P, 0, none⟩)] w (StepIs (stepP ws) P w) := by
  cases ws with
  | nil => exact step_nil P w h
  | cons t l =>
    by_cases h1 : t = tTick
    · subst h1; exact step_tick P l w h
    by_cases h2 : t = tIndex
    · subst h2; exact step_index P l w h
    by_cases h3 : t = tBid
    · subst h3; exact step_bid P l w h
    by_cases h4 : t = tNew
    · subst h4; exact step_new P l w h
    by_cases h5 : t = tCancel
    · subst h5; exact step_cancel P l w h
    by_cases h6 : t = tReplace
    · subst h6; exact step_replace P l w h
    by_cases h7 : t = tRaw
    · subst h7; exact step_raw P l w h
    · exact step_other P t l w h h1 h2 h3 h4 h5 h6 h7
/-- words.Parse, of any line. -/
theorem wparse_any (l : List UInt8) (hl : l.length ≤ 100000) (w : World) (hm : MX w) : Calls Tryd.prog 26 #[.string (strB l)] w (WParseIs (stepP (splitW l)) w) :=
  parse_of l hl _ (fun P w h => step_any P _ w h) w hm
end Go.Proofs.YtmkcooamgojbpaaDoor.Lines

/- words.Read, of any text. -/
namespace Go.Proofs.YtmkcooamgojbpaaDoor.Lines
open Go.RowKit Go.Proofs.YtmkcooamgojbpaaDoor.Kit Go.Proofs.YtmkcooamgojbpaaDoor.Blk Go.Proofs.YtmkcooamgojbpaaDoor.Dec Go.Proofs.YtmkcooamgojbpaaDoor.Words Go.Proofs.YtmkcooamgojbpaaDoor.Octets Go.Proofs.YtmkcooamgojbpaaDoor.Steps Go.Proofs.YtmkcooamgojbpaaDoor.Cmds Go.Proofs.YtmkcooamgojbpaaDoor.Reports
attribute [local go_sem ↓] Go.wp_at_zero Go.wp_at_succ
set_option linter.unusedVariables false

def strLen' : Value → Nat
  | .string s => s.size
  | _ => 0
theorem count_byte (l : List UInt8) (b : UInt8) : Lib.countByte l b = l.count b := by
  induction l with
  | nil => rfl
  | cons c l ih => simp [Lib.countByte]
set_option maxRecDepth 20000 in
set_option maxHeartbeats 8000000 in
theorem wread_any (l : List UInt8) (hl : l.length ≤ 90000) (w : World) (hm : MX w) :
    Calls Tryd.prog 36 #[.string (strB l)] w (ReadSIs (scriptF l) w) := by
  obtain ⟨i0, hi0, hz0, hz1, hz2⟩ := info_parts infoStp
  have HM := Lib.hid hm
  have HCN := Lib.hid (Shelf.strings_Count_one (strB l) 10 w)
  rw [strB_list, count_byte] at HCN
  clear hm
  by_cases hc : 2000 < l.count 10
  · have HS := Lib.hid (script_many hc)
    have g1 : (2000 : Int) < ((l.count 10 : Nat) : Int) := by omega
    generalize l.count 10 = n at HCN g1 hc
    go_enter Tryd.func36, Tryd.ntmps36
    go_wp2_with fail
    refine HCN.out.mono ?_
    rintro e w1 ⟨rfl, he⟩
    obtain rfl := he.symm
    go_wp2_with fail
    go_ret3
    rw [HS.out]
    exact ⟨rfl, Below.refl _ _⟩
  have HS := Lib.hid (script_few hc)
  have g1 : ¬ (2000 : Int) < ((l.count 10 : Nat) : Int) := by omega
  generalize l.count 10 = n at HCN g1 hc
  go_enter Tryd.func36, Tryd.ntmps36
  go_wp2_with fail
  refine HCN.out.mono ?_
  rintro e w1 ⟨rfl, he⟩
  obtain rfl := he.symm
  clear he
  go_wp2_with fail
  clear g1 hc HCN
  go_loopw [0, 2] (fun s o wr => ∃ (r : List (Stp × Value)) (rest : List UInt8), s = .string (strB rest) ∧ rest.length + r.length ≤ l.length ∧ SRow w o r wr ∧ Hid (readT stepL l = behind (firsts r) (readT stepL rest))) (fun s _ _ => strLen' s)
  case atStart => exact ⟨[], l, rfl, by simp, SRow.start, Lib.hid (behind_nil _).symm⟩
  case round =>
    obtain ⟨r, rest, rfl, hle, hsr, HE⟩ := hrel
    have HR := Lib.hid hsr
    obtain ⟨oa, oc, rfl⟩ := hsr.form
    clear hsr
    have HSZ := Lib.hid (strB_size rest)
    by_cases h0 : rest = []
    · subst h0
      have b1 : (strB []).toList = [] := by rw [ByteArray.toList_eq, strB_list]
      have HF := Lib.hid (show readT stepL l = .inr (firsts r) by rw [HE.out, readS_empty]; simp [behind])
      go_wp2_with fail
      go_ret3
      rw [HS.out, HF.out]
      exact ⟨_, r, rfl, rfl, HR.out⟩
    · have b1 : ((strB rest).toList == []) = false := by rw [ByteArray.toList_eq, strB_list]; simpa using h0
      have b2 : ((strB rest).toList.isEmpty) = false := by rw [ByteArray.toList_eq, strB_list]; simpa using h0
      have HC := Lib.hid (cut_any rest 10 wr (HM.out.below (n := 0) HR.out.bel) (by omega))
      rcases part_at 10 rest with hno | ⟨x, m, hx, rfl⟩
      · rw [cut_none hno] at HC
        have HRD := Lib.hid (show scriptF l = some (.inl (r.length + 1)) by rw [HS.out, HE.out, read_none stepL hno, if_neg h0, ← firsts_len r]; rfl)
        clear hno h0
        go_wp2_with fail
        refine HC.out.mono ?_
        rintro e w1 ⟨rfl, n1, rfl⟩
        have HB1 := Lib.hid (HR.out.bel.drewN n1)
        have HPR := Lib.hid (wparse_any rest (by omega) _ (HM.out.below (n := 0) HB1.out))
        unfold WParseIs at HPR
        generalize hs : ((stepP (splitW rest)).getD ⟨0, 0, 0, []⟩) = s at HPR
        clear hs
        by_cases hf : (stepP (splitW rest)).isSome = true
        · rw [if_pos hf] at HPR
          clear hf
          go_wp2_with fail
          refine (HPR.out).mono ?_
          rintro e w2 ⟨u, rfl, hby, hb2⟩
          obtain ⟨ua, un, uc, rfl⟩ := bytes_form hby
          have HB2 := Lib.hid ((HB1.out.trans (hb2.mono HB1.out.size)).alloc (Nat.le_trans HB1.out.size hb2.size) (.cells (stepC s.k s.y s.v (.slice ua un uc)) 42))
          clear hb2 hby
          unfold stepC at HB2 ⊢
          go_wp2_with fail
          go_ret3
          rw [HRD.out]
          exact ⟨rfl, HB2.out⟩
        · rw [if_neg hf] at HPR
          clear hf
          go_wp2_with fail
          refine (HPR.out).mono ?_
          rintro e w2 ⟨u, rfl, hby, hb2⟩
          obtain ⟨ua, un, uc, rfl⟩ := bytes_form hby
          have HB2 := Lib.hid ((HB1.out.trans (hb2.mono HB1.out.size)).alloc (Nat.le_trans HB1.out.size hb2.size) (.cells (stepC s.k s.y s.v (.slice ua un uc)) 42))
          clear hb2 hby
          unfold stepC at HB2 ⊢
          go_wp2_with fail
          go_ret3
          rw [HRD.out]
          exact ⟨rfl, HB2.out⟩
      · rw [cut_at hx] at HC
        have hxl : x.length + m.length + 1 = (x ++ 10 :: m).length := by simp; omega
        cases hp : stepL x with
        | none =>
          have HRD := Lib.hid (show scriptF l = some (.inl (r.length + 1)) by rw [HS.out, HE.out, read_bad stepL hx hp, ← firsts_len r]; rfl)
          have HPN := Lib.hid (show stepP (splitW x) = none from hp)
          clear hx h0 hp
          go_wp2_with fail
          refine HC.out.mono ?_
          rintro e w1 ⟨rfl, n1, rfl⟩
          have HB1 := Lib.hid (HR.out.bel.drewN n1)
          have HPR := Lib.hid (wparse_any x (by omega) _ (HM.out.below (n := 0) HB1.out))
          unfold WParseIs at HPR
          rw [HPN.out] at HPR
          simp only [Option.getD_none, Option.isSome_none] at HPR
          have e4 : (if (false = true) then (0 : Int) else 4) = 4 := rfl
          rw [e4] at HPR
          clear e4
          go_wp2_with fail
          refine (HPR.out).mono ?_
          rintro e w2 ⟨u, rfl, hby, hb2⟩
          obtain ⟨ua, un, uc, rfl⟩ := bytes_form hby
          have HB2 := Lib.hid ((HB1.out.trans (hb2.mono HB1.out.size)).alloc (Nat.le_trans HB1.out.size hb2.size) (.cells (stepC 0 0 0 (.slice ua un uc)) 42))
          clear hb2 hby
          unfold stepC at HB2 ⊢
          go_wp2_with fail
          go_ret3
          rw [HRD.out]
          exact ⟨rfl, HB2.out⟩
        | some s =>
          have HRD := Lib.hid (show ∀ u, readT stepL l = behind (firsts (r ++ [(s, u)])) (readT stepL m) from fun u => by rw [HE.out, read_ok stepL hx hp, behind_app, firsts_snoc])
          have HPN := Lib.hid (show stepP (splitW x) = some s from hp)
          clear hx h0 hp
          go_wp2_with fail
          refine HC.out.mono ?_
          rintro e w1 ⟨rfl, n1, rfl⟩
          have HB1 := Lib.hid (HR.out.bel.drewN n1)
          replace HR := Lib.hid (HR.out.below ((Below.refl _ _).drewN n1))
          have HPR := Lib.hid (wparse_any x (by omega) _ (HM.out.below (n := 0) HB1.out))
          unfold WParseIs at HPR
          rw [HPN.out] at HPR
          simp only [Option.getD_some, Option.isSome_some, if_true] at HPR
          have hsz1 := HB1.out.size
          go_wp2_with fail
          refine HPR.out.mono ?_
          rintro e w2 ⟨u, rfl, hby, hb2⟩
          obtain ⟨ua, un, uc, rfl⟩ := bytes_form hby
          replace HR := Lib.hid ((HR.out.below hb2).alloc (.cells (stepC s.k s.y s.v (.slice ua un uc)) 42))
          have HY := Lib.hid (bytes_alloc (bytes_mono hby hsz1) (.cells (stepC s.k s.y s.v (.slice ua un uc)) 42))
          have HX := Lib.hid (Blk.new w2 (stepC s.k s.y s.v (.slice ua un uc)) 42 w2.heap.size rfl)
          clear hb2 hby HB1 hsz1
          unfold stepC
          go_upto_region 8 with fail
          change Code.wp _ _ _ _ (w2.alloc (.cells (stepC s.k s.y s.v (.slice ua un uc)) 42))
          generalize w2.alloc (.cells (stepC s.k s.y s.v (.slice ua un uc)) 42) = w3 at HR HY HX ⊢
          generalize w2.heap.size = X at HX ⊢
          have HNB := Lib.hid (Blk.new w3 (stepC s.k s.y s.v (.slice ua un uc)) 42 w3.heap.size rfl)
          have HR2 := Lib.hid (HR.out.alloc (.cells (stepC s.k s.y s.v (.slice ua un uc)) 42))
          have HY2 := Lib.hid (bytes_alloc HY.out (.cells (stepC s.k s.y s.v (.slice ua un uc)) 42))
          have HX2 := Lib.hid (show Blk w3 X #[.int .i64 s.k, .int .i64 s.y, .int .i64 s.v, .slice ua un uc] 42 from HX.out)
          have hrl : r.length ≤ 90000 := by omega
          clear HR HY HX
          go_wp2_with (first
            | (refine load_blk (by rfl) 42 _ (by rfl) X (by rfl) _ _ HX2.out _ Tryd.underlying42 rfl (by kernel_rfl) ?_)
            | (at_builtin; refine wpList_append_lies _ (by rfl) _ _ _ (by rfl) w.heap.size 42 i0 (.agg (stepC 0 0 0 (.slice none 0 0))) 4 48 Tryd.underlying57 hi0 hz0 hz1 hz2 (by rfl) (by decide) _ r.length (flat r) (by rfl) HR2.out.row.1 ⟨w3.heap.size, 0, none⟩ 1 1 (stepC s.k s.y s.v (.slice ua un uc)).toList (by rfl) (by rfl) (news_stp HNB.out) (mem_stp (one_stp _ _ _ _ _ _)) (by decide) (by unfold maxLen; omega) (by omega) HR2.out.bel.size (w3.heap.size + 1) (by simp) ?_; intro g cap2 w9 hown9 hgrow9 hat9 hlt9; have H9 := Lib.hid (HR2.out.push HY2.out hown9 hgrow9); clear hown9 hgrow9 hat9 hlt9))
          go_roundw
          case rel => exact ⟨r ++ [(s, .slice ua un uc)], m, rfl, by rw [List.length_append]; simp; omega, H9.out, Lib.hid (HRD.out _)⟩
          case measure => simp only [strLen', strB_size]; omega
end Go.Proofs.YtmkcooamgojbpaaDoor.Lines

/- damperref35.hex. -/
namespace Go.Proofs.YtmkcooamgojbpaaDoor.Lines
open Go.RowKit Go.Proofs.YtmkcooamgojbpaaDoor.Kit Go.Proofs.YtmkcooamgojbpaaDoor.Blk Go.Proofs.YtmkcooamgojbpaaDoor.Dec Go.Proofs.YtmkcooamgojbpaaDoor.Words Go.Proofs.YtmkcooamgojbpaaDoor.Octets Go.Proofs.YtmkcooamgojbpaaDoor.Steps Go.Proofs.YtmkcooamgojbpaaDoor.Cmds
attribute [local go_sem ↓] Go.wp_at_zero Go.wp_at_succ
set_option linter.unusedVariables false

def hexT : Tok := [48, 49, 50, 51, 52, 53, 54, 55, 56, 57, 97, 98, 99, 100, 101, 102]
theorem hexT_at (k : Nat) (h : k < 16) : hexT[k]? = some (hx k) := by
  have : ∀ k : Fin 16, hexT[k.1]? = some (hx k.1) := by decide
  exact this ⟨k, h⟩
theorem bytes_own {N : Nat} {l : List Nat} {u : Value} {W : World} (h : BytesOf N l u W) : Own N l u W := by
  rcases h with ⟨rfl, rfl⟩ | ⟨_, h⟩
  · exact World.ownsRow_nil _ _ _ _
  · exact h
/-- A digit's worth, where it is below a bound. -/
def upto (c : UInt8) (k : Nat) : Nat := if uhd c < k then uhd c else 0
theorem upto_yes {k : Nat} (h : k < 16) : upto (hx k) (k + 1) = upto (hx k) k + k := by
  have e : uhd (hx k) = k := by unfold uhd; rw [uh_hx h]; rfl
  unfold upto
  rw [e, if_pos (by omega), if_neg (by omega)]
  omega
theorem upto_no {c : UInt8} {k : Nat} (h : k < 16) (hc : c ≠ hx k) : upto c (k + 1) = upto c k := by
  unfold upto
  by_cases h1 : uhd c < k
  · rw [if_pos h1, if_pos (by omega)]
  · rw [if_neg h1]
    by_cases h2 : uhd c < k + 1
    · have h3 : uhd c = k := by omega
      rw [if_pos h2, h3]
      unfold uhd at h3
      cases e : uh c with
      | none => rw [e] at h3; exact h3.symm
      | some d =>
        rw [e] at h3
        have h3 : d = k := h3
        subst h3
        exact absurd (uh_ok e).2 hc
    · rw [if_neg h2]
theorem upto_all (c : UInt8) : upto c 16 = uhd c := by unfold upto; rw [if_pos (uhd_lt c)]
theorem upto_lt (c : UInt8) (k : Nat) : upto c k < 16 := by
  unfold upto
  have := uhd_lt c
  split <;> omega
theorem hex_eq {c : UInt8} {k : Nat} : (((hx k).toNat : Int) == (c.toNat : Int)) = decide (c = hx k) := by
  by_cases h : c = hx k
  · subst h; simp
  · rw [decide_eq_false h, beq_eq_false_iff_ne]
    intro e
    exact h (UInt8.toNat_inj.1 (by omega))
set_option maxRecDepth 20000 in
set_option maxHeartbeats 4000000 in
theorem rhex_any (s : Tok) (hs : s.length ≤ 100000) (w : World) :
    Calls Tryd.prog 137 #[.string (strB s)] w fun e w' => ∃ u, e = .returned u ∧ BytesOf w.heap.size (hexG s) u w' ∧ Below w.heap.size w w' := by
  obtain ⟨i0, hi0, hz0, hz1, hz2⟩ := info_parts infoU8
  have z1 : (strB s).size = s.length := strB_size s
  have HD := Lib.hid (fun (k : Nat) (h : k < 16) (W : World) => show (Instr.index 9 (.string ⟨#[48, 49, 50, 51, 52, 53, 54, 55, 56, 57, 97, 98, 99, 100, 101, 102]⟩) (.int .i64 (k : Int))).run Tryd.prog W = .ok (.int .u8 ((hx k).toNat : Int)) W by
    have h1 : k < hexT.length := h
    have := str_index hexT k h1 (k : Int) rfl W
    have h2 : hexT[k] = hx k := by have := hexT_at k h; rw [List.getElem?_eq_getElem h1] at this; injection this
    rw [h2] at this
    exact this)
  have HS := Lib.hid (fun (m : Nat) (h : m < s.length) (z : Int) (hz : z = (m : Int)) (W : World) => str_index s m h z hz W)
  generalize strB s = S at z1 HS ⊢
  go_enter Tryd.func137, Tryd.ntmps137
  go_wp2_with fail
  go_loopw [3, 4] (fun v i wr => ∃ (m : Nat) (k : List Nat), i = .int .i64 ((2 * m : Nat) : Int) ∧ 2 * m ≤ s.length ∧ k.length = m ∧ k ++ hexG (s.drop (2 * m)) = hexG s ∧ BytesOf w.heap.size k v wr ∧ Below w.heap.size w wr) (fun _ i _ => s.length - (intOf i).toNat)
  case atStart => exact ⟨0, [], rfl, by omega, rfl, rfl, .inl ⟨rfl, rfl⟩, Below.refl _ _⟩
  case round =>
    obtain ⟨m, k, rfl, hm, hkl, hk, hby, hbw⟩ := hrel
    have HB := Lib.hid hby
    have HROW := Lib.hid (bytes_own hby)
    have HBW := Lib.hid hbw
    have HK := Lib.hid hk
    have HKL := Lib.hid hkl
    obtain ⟨va, vn, vc, rfl⟩ := bytes_form hby
    have hvn : vn = k.length := by
      rcases hby with ⟨rfl, h⟩ | ⟨_, h⟩
      · injection h
      · obtain ⟨a, c, h⟩ := slice_of h
        injection h
    subst hvn
    clear hby hbw hk hkl
    by_cases hlt : 2 * m + 1 < s.length
    · have g1 : ((2 * m : Nat) : Int) + 1 < (s.length : Int) := by omega
      have HDR := Lib.hid (show hexG (s.drop (2 * m)) = (uhd s[2 * m] * 16 + uhd s[2 * m + 1]) :: hexG (s.drop (2 * (m + 1))) by
        rw [List.drop_eq_getElem_cons (show 2 * m < s.length by omega), List.drop_eq_getElem_cons hlt]; rfl)
      have HA := Lib.hid (fun W => HS.out (2 * m) (by omega) (2 * (m : Int)) (by omega) W)
      have HC := Lib.hid (fun W => HS.out (2 * m + 1) hlt (2 * (m : Int) + 1) (by omega) W)
      generalize s[2 * m] = a at HDR HA
      generalize s[2 * m + 1] = b at HDR HC
      go_wp2_with fail
      go_loopw [5, 6] (fun n j wx => ∃ q : Nat, q ≤ 16 ∧ j = .int .i64 (q : Int) ∧ n = .int .i64 ((16 * upto a q + upto b q : Nat) : Int) ∧ BytesOf w.heap.size k (.slice va k.length vc) wx ∧ Below w.heap.size w wx) (fun _ j _ => 16 - (intOf j).toNat)
      case atStart => exact ⟨0, by omega, rfl, rfl, HB.out, HBW.out⟩
      case round =>
        obtain ⟨q, hq, rfl, rfl, hb1, hb2⟩ := hrel
        have HB2 := Lib.hid hb1
        have HBW2 := Lib.hid hb2
        clear hb1 hb2 HB HBW HROW
        by_cases h16 : q < 16
        · have q16 : (q : Int) < 16 := by omega
          have hd := fun W => HD.out q h16 W
          have ha := fun W => HA.out W
          have hc := fun W => HC.out W
          have ea := hex_eq (c := a) (k := q)
          have eb := hex_eq (c := b) (k := q)
          have la := upto_lt a q
          have lb := upto_lt b q
          have HQA := Lib.hid (fun h => upto_no (c := a) (k := q) h16 h)
          have HQB := Lib.hid (fun h => upto_no (c := b) (k := q) h16 h)
          have HQY := Lib.hid (upto_yes h16)
          by_cases hqa : a = hx q
          · rw [decide_eq_true hqa] at ea
            have HAN : Hid (upto a (q + 1) = upto a q + q) := Lib.hid (by rw [hqa]; exact HQY.out)
            clear hqa
            generalize hua : upto a q = ua at la HAN ⊢
            clear hua
            by_cases hqb : b = hx q
            · rw [decide_eq_true hqb] at eb
              have HBN : Hid (upto b (q + 1) = upto b q + q) := Lib.hid (by rw [hqb]; exact HQY.out)
              clear hqb
              generalize hub : upto b q = ub at lb HBN ⊢
              clear hub
              have hsum : 16 * (ua : Int) + (ub : Int) + 16 * (q : Int) + (q : Int) = ((16 * upto a (q + 1) + upto b (q + 1) : Nat) : Int) := by
                have h1 := HAN.out
                have h2 := HBN.out
                omega
              have HSUM := Lib.hid hsum
              clear hsum
              go_upto_region 9 with fail
              go_quiet (fail)
              replace HB2 := Lib.hid (bytes_below HB2.out ((Below.refl _ _).drewN nq))
              replace HBW2 := Lib.hid (HBW2.out.drewN nq)
              generalize wr.drewN nq = wy at HB2 HBW2 ⊢
              go_upto_region 11 with fail
              go_quiet (fail)
              replace HB2 := Lib.hid (bytes_below HB2.out ((Below.refl _ _).drewN nq))
              replace HBW2 := Lib.hid (HBW2.out.drewN nq)
              generalize wy.drewN nq = wz at HB2 HBW2 ⊢
              go_wp2_with fail
              go_roundw
              case rel => exact ⟨q + 1, by omega, by go_num, (by rw [← HSUM.out]; try simp), HB2.out, HBW2.out⟩
              case measure => simp [intOf]; omega
            · rw [decide_eq_false hqb] at eb
              have HBN : Hid (upto b (q + 1) = upto b q + 0) := Lib.hid (HQB.out hqb)
              clear hqb
              generalize hub : upto b q = ub at lb HBN ⊢
              clear hub
              have hsum : 16 * (ua : Int) + (ub : Int) + 16 * (q : Int) + (0 : Int) = ((16 * upto a (q + 1) + upto b (q + 1) : Nat) : Int) := by
                have h1 := HAN.out
                have h2 := HBN.out
                omega
              have HSUM := Lib.hid hsum
              clear hsum
              go_upto_region 9 with fail
              go_quiet (fail)
              replace HB2 := Lib.hid (bytes_below HB2.out ((Below.refl _ _).drewN nq))
              replace HBW2 := Lib.hid (HBW2.out.drewN nq)
              generalize wr.drewN nq = wy at HB2 HBW2 ⊢
              go_upto_region 11 with fail
              go_quiet (fail)
              replace HB2 := Lib.hid (bytes_below HB2.out ((Below.refl _ _).drewN nq))
              replace HBW2 := Lib.hid (HBW2.out.drewN nq)
              generalize wy.drewN nq = wz at HB2 HBW2 ⊢
              go_wp2_with fail
              go_roundw
              case rel => exact ⟨q + 1, by omega, by go_num, (by rw [← HSUM.out]; try simp), HB2.out, HBW2.out⟩
              case measure => simp [intOf]; omega
          · rw [decide_eq_false hqa] at ea
            have HAN : Hid (upto a (q + 1) = upto a q + 0) := Lib.hid (HQA.out hqa)
            clear hqa
            generalize hua : upto a q = ua at la HAN ⊢
            clear hua
            by_cases hqb : b = hx q
            · rw [decide_eq_true hqb] at eb
              have HBN : Hid (upto b (q + 1) = upto b q + q) := Lib.hid (by rw [hqb]; exact HQY.out)
              clear hqb
              generalize hub : upto b q = ub at lb HBN ⊢
              clear hub
              have hsum : 16 * (ua : Int) + (ub : Int) + 16 * (0 : Int) + (q : Int) = ((16 * upto a (q + 1) + upto b (q + 1) : Nat) : Int) := by
                have h1 := HAN.out
                have h2 := HBN.out
                omega
              have HSUM := Lib.hid hsum
              clear hsum
              go_upto_region 9 with fail
              go_quiet (fail)
              replace HB2 := Lib.hid (bytes_below HB2.out ((Below.refl _ _).drewN nq))
              replace HBW2 := Lib.hid (HBW2.out.drewN nq)
              generalize wr.drewN nq = wy at HB2 HBW2 ⊢
              go_upto_region 11 with fail
              go_quiet (fail)
              replace HB2 := Lib.hid (bytes_below HB2.out ((Below.refl _ _).drewN nq))
              replace HBW2 := Lib.hid (HBW2.out.drewN nq)
              generalize wy.drewN nq = wz at HB2 HBW2 ⊢
              go_wp2_with fail
              go_roundw
              case rel => exact ⟨q + 1, by omega, by go_num, (by rw [← HSUM.out]; try simp), HB2.out, HBW2.out⟩
              case measure => simp [intOf]; omega
            · rw [decide_eq_false hqb] at eb
              have HBN : Hid (upto b (q + 1) = upto b q + 0) := Lib.hid (HQB.out hqb)
              clear hqb
              generalize hub : upto b q = ub at lb HBN ⊢
              clear hub
              have hsum : 16 * (ua : Int) + (ub : Int) + 16 * (0 : Int) + (0 : Int) = ((16 * upto a (q + 1) + upto b (q + 1) : Nat) : Int) := by
                have h1 := HAN.out
                have h2 := HBN.out
                omega
              have HSUM := Lib.hid hsum
              clear hsum
              go_upto_region 9 with fail
              go_quiet (fail)
              replace HB2 := Lib.hid (bytes_below HB2.out ((Below.refl _ _).drewN nq))
              replace HBW2 := Lib.hid (HBW2.out.drewN nq)
              generalize wr.drewN nq = wy at HB2 HBW2 ⊢
              go_upto_region 11 with fail
              go_quiet (fail)
              replace HB2 := Lib.hid (bytes_below HB2.out ((Below.refl _ _).drewN nq))
              replace HBW2 := Lib.hid (HBW2.out.drewN nq)
              generalize wy.drewN nq = wz at HB2 HBW2 ⊢
              go_wp2_with fail
              go_roundw
              case rel => exact ⟨q + 1, by omega, by go_num, (by rw [← HSUM.out]; try simp), HB2.out, HBW2.out⟩
              case measure => simp [intOf]; omega
        · obtain rfl : q = 16 := by omega
          obtain ⟨bb, hbb⟩ : ∃ bb, uhd a * 16 + uhd b = bb := ⟨_, rfl⟩
          have hb256 : bb < 256 := by have := uhd_lt a; have := uhd_lt b; omega
          rw [hbb] at HDR
          rw [show 16 * upto a 16 + upto b 16 = bb by rw [upto_all, upto_all]; omega]
          have hb8 : (bb : Int) % 256 = (bb : Int) := by omega
          have HROW := Lib.hid (bytes_own HB2.out)
          have HKN := Lib.hid (show (k ++ [bb]) ++ hexG (s.drop (2 * (m + 1))) = hexG s by rw [List.append_assoc, List.singleton_append, ← HDR.out, HK.out])
          have hkl : k.length ≤ 100000 := by have := HKL.out; omega
          clear hbb HDR
          have HNW := Lib.hid (Blk.new wr #[.int .u8 (bb : Int)] 5 wr.heap.size rfl)
          have HAL := Lib.hid (World.ownsRow.alloc HROW.out (.cells #[.int .u8 (bb : Int)] 5))
          have hle : w.heap.size ≤ wr.heap.size := HBW2.out.size
          go_wp2_with (at_builtin; refine wpList_append_lies _ (by rfl) _ _ _ (by rfl) w.heap.size 5 i0 (.int .u8 0) 1 1 Tryd.underlying40 hi0 hz0 hz1 hz2 (by rfl) (by decide) _ k.length (vals k) (by rfl) HAL.out ⟨wr.heap.size, 0, none⟩ 1 1 [.int .u8 (bb : Int)] (by rfl) (by rfl) (news_one HNW.out) (by simp [Value.oneCell']) (by decide) (by unfold maxLen; omega) (by omega) (by simp; omega) (wr.heap.size + 1) (by simp) ?_; intro ga ca w5 hown hgrow hat hlt5; have HPU := Lib.hid (own_push (m := [bb]) HBW2.out hle HROW.out ((Below.refl _ _).alloc (Nat.le_refl _) (.cells #[.int .u8 (bb : Int)] 5)) hown hgrow); clear hown hgrow hat hlt5)
          go_roundw
          case rel => exact ⟨m + 1, k ++ [bb], by go_num, by omega, by rw [List.length_append, HKL.out]; rfl, HKN.out, .inr ⟨by simp, HPU.out.1⟩, HPU.out.2⟩
          case measure => simp [intOf]; omega
    · have g1 : ¬ ((2 * m : Nat) : Int) + 1 < (s.length : Int) := by omega
      have HE := Lib.hid (show k = hexG s by
        have h := HK.out
        have hd : hexG (s.drop (2 * m)) = [] := by
          match hs2 : s.drop (2 * m) with
          | [] => rfl
          | [_] => rfl
          | x :: y :: t =>
            have := congrArg List.length hs2
            simp at this
            omega
        rw [hd, List.append_nil] at h
        exact h)
      go_wp2_with fail
      go_ret
      exact ⟨_, rfl, by rw [← HE.out]; exact HB.out, HBW.out⟩
end Go.Proofs.YtmkcooamgojbpaaDoor.Lines
