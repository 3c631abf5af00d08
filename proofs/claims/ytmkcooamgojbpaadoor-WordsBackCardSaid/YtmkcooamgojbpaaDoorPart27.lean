/- Parts of the proof: WRaw, RHex, RWLine, LineR, LineA, LineE, RowE, Light29, TextF, TextS, WStepE, RGuess, RowS, BackF, WRead. -/
import Derived.Test.YtmkcooamgojbpaaDoorPart21
import Derived.Test.YtmkcooamgojbpaaDoorPart26
import Derived.Test.YtmkcooamgojbpaaDoorPart13
import Derived.Test.YtmkcooamgojbpaaDoorPart14
import Derived.Test.YtmkcooamgojbpaaDoorPart9
import Derived.Test.YtmkcooamgojbpaaDoorPart15
import Derived.Deep.QuietTactic
import Derived.Test.YtmkcooamgojbpaaDoorPart12
import Derived.Test.YtmkcooamgojbpaaDoorPart24
import Derived.Test.YtmkcooamgojbpaaDoorPart20
import Derived.Deep.RegionHeld3
import Derived.Deep.DrawnRows
import Derived.Test.YtmkcooamgojbpaaDoorPart17
import Derived.Test.YtmkcooamgojbpaaDoorPart3

/- words.reader's raw. -/
namespace Go.Proofs.YtmkcooamgojbpaaDoor.Lines
open Go.RowKit Go.Proofs.YtmkcooamgojbpaaDoor.Kit Go.Proofs.YtmkcooamgojbpaaDoor.Blk Go.Proofs.YtmkcooamgojbpaaDoor.Dec Go.Proofs.YtmkcooamgojbpaaDoor.Words Go.Proofs.YtmkcooamgojbpaaDoor.Octets Go.Proofs.YtmkcooamgojbpaaDoor.Steps Go.Proofs.YtmkcooamgojbpaaDoor.Cmds
attribute [local go_sem ↓] Go.wp_at_zero Go.wp_at_succ
set_option linter.unusedVariables false

/-- Where the reading of digits stands. -/
structure RwS (w : World) (P X : Nat) (l : List Tok) (bs : List Nat) (u : Value) (W : World) : Prop where
  chg : Chg w.heap.size P w W
  z : Blk W w.heap.size (stepC 0 0 0 (.slice none 0 0)) 42
  r : WRd P l W
  s : Blk W X (stepC 1 0 0 u) 42
  own : Own X bs u W
  PX : w.heap.size < X
  P0 : P < w.heap.size
section
variable {w W W' w1 : World} {P X : Nat} {l l' : List Tok} {bs : List Nat} {u u' : Value}
theorem RwS.rd (h : RwS w P X l [] (.slice none 0 0) W) (hc : Chg W.heap.size P W W') (hr : WRd P l' W') : RwS w P X l' [] (.slice none 0 0) W' :=
  have h1 := h.PX; have h2 := h.P0
  ⟨h.chg.trans (hc.mono h.chg.size), hc.blk h.z.lt (by omega) h.z, hr, hc.blk h.s.lt (by omega) h.s, World.ownsRow_nil _ _ _ _, h.PX, h.P0⟩
theorem RwS.below (h : RwS w P X l bs u W) (hb : Below W.heap.size W W') : RwS w P X l bs u W' :=
  ⟨h.chg.step (hb.mono h.chg.size), h.z.below hb h.z.lt, h.r.below h.r.lt hb, h.s.below hb h.s.lt, own_below h.own hb, h.PX, h.P0⟩
theorem RwS.push {b : Nat} (h : RwS w P X l bs u W) (hb : Below W.heap.size W W') (hown : w1.ownsRow X 5 1 u' (bs.length + 1) (vals bs ++ [.int .u8 (b : Int)])) (hgrow : W'.grownBy w1 u.ownBlock) : RwS w P X l (bs ++ [b]) u' (w1.setCell ⟨X, 3, none⟩ u') := by
  have h1 := h.PX
  have h2 := h.P0
  have hz : Blk w1 w.heap.size (stepC 0 0 0 (.slice none 0 0)) 42 := blk_keep hb h.z (by decide) h.own hgrow
  have hs : Blk w1 X (stepC 1 0 0 u) 42 := blk_keep hb h.s (by decide) h.own hgrow
  have hbel : Below w.heap.size W (w1.setCell ⟨X, 3, none⟩ u') :=
    (((hb.mono h.chg.size).grown hgrow (Nat.le_trans h.chg.size hb.size) (fun k e => by have := (row_from' h.own e).1; omega))).setCell (by show w.heap.size ≤ X; omega) _
  refine ⟨h.chg.step hbel, hz.apart _ _ (by show X ≠ _; omega), h.r.below h2 hbel, hs.set 3 u', ?_, h1, h2⟩
  have ho : Own X (bs ++ [b]) u' w1 := by
    have e : vals (bs ++ [b]) = vals bs ++ [.int .u8 (b : Int)] := by simp [vals]
    unfold Own
    rw [List.length_append, e]
    exact hown
  refine own_set ho (fun hu => ?_) 3 u'
  obtain ⟨_, cur, hc⟩ := row_from' ho hu
  rw [show w1.heap[X]? = _ from hs] at hc
  injection hc with hc
  injection hc with _ hc _
  exact absurd hc (by decide)
end
theorem raw_nil_eq : rawP [] = some (⟨1, 0, 0, []⟩, []) := rfl
set_option maxRecDepth 20000 in
set_option maxHeartbeats 4000000 in
theorem raw_nil (P : Nat) (w : World) (h : WRd P [] w) :
    Calls Tryd.prog 134 #[.pointer (some ⟨P, 0, none⟩)] w (RdV (StepV w.heap.size) (rawP []) P w) := by
  have hP := h.lt
  have hbel : Below w.heap.size w ((w.alloc (.cells (stepC 0 0 0 (.slice none 0 0)) 42)).alloc (.cells (stepC 1 0 0 (.slice none 0 0)) 42)) := ((Below.refl _ _).alloc (Nat.le_refl _) _).alloc (by simp) _
  have hr := h.below hP hbel
  obtain ⟨a, c, c0⟩ := hr.empty
  have HR := Lib.hid hr
  have HC := Lib.hid (show Chg w.heap.size P w _ from Chg.of hbel)
  have HZ := Lib.hid ((Blk.new w (stepC 0 0 0 (.slice none 0 0)) 42 w.heap.size rfl).old (.cells (stepC 1 0 0 (.slice none 0 0)) 42))
  have HX := Lib.hid (Blk.new (w.alloc (.cells (stepC 0 0 0 (.slice none 0 0)) 42)) (stepC 1 0 0 (.slice none 0 0)) 42 (w.heap.size + 1) (by simp))
  clear h hr hbel
  go_enter Tryd.func134, Tryd.ntmps134
  go_upto_region 2 with fail
  change Code.wp _ _ _ _ ((w.alloc (.cells (stepC 0 0 0 (.slice none 0 0)) 42)).alloc (.cells (stepC 1 0 0 (.slice none 0 0)) 42))
  generalize (w.alloc (.cells (stepC 0 0 0 (.slice none 0 0)) 42)).alloc (.cells (stepC 1 0 0 (.slice none 0 0)) 42) = w2 at c0 HR HC HZ HX ⊢
  go_wp2_with (first
    | (refine load_blk (by rfl) 42 _ (by rfl) (w.heap.size + 1) (by rfl) _ _ HX.out _ Tryd.underlying42 rfl (by kernel_rfl) ?_)
    | (refine store_blk (by rfl) 42 _ _ (by rfl) w.heap.size (by rfl) _ (stepC 1 0 0 (.slice none 0 0)) 42 HZ.out (by rfl) rfl (by kernel_rfl) (one_stp _ _ _ _ _ _) ?_))
  refine bodyPost_ret (results_cell_row rfl _ _ _ _ _ (0, 0) _ rfl (HZ.out.setCells (stepC 1 0 0 (.slice none 0 0)) rfl) Tryd.underlying42 rfl (by kernel_rfl)) rfl ?_
  have hbel := Blk.Below.setCells (stepC 1 0 0 (.slice none 0 0)).toList 0 _ (Below.refl w.heap.size w2) (B := w.heap.size) (Nat.le_refl _)
  exact .inr ⟨_, [], _, raw_nil_eq, rfl, ⟨_, rfl, .inl ⟨rfl, rfl⟩⟩, HR.out.below hP hbel, HC.out.step hbel⟩
theorem str_index (s : Tok) (m : Nat) (h : m < s.length) (z : Int) (hz : z = (m : Int)) (W : World) : (Instr.index 9 (.string (strB s)) (.int .i64 z)).run Tryd.prog W = .ok (.int .u8 (s[m].toNat : Int)) W := by
  subst hz
  have h1 : m < (strB s).size := by rw [strB_size]; exact h
  rw [run_index_string W 9 (strB s) .i64 (m : Int) Tryd.underlying9, dif_pos ⟨by omega, by omega⟩]
  have h2 := strB_at s m h1 h
  have h3 : (strB s)[(m : Int).toNat]'(by simpa using h1) = s[m] := by
    have : (m : Int).toNat = m := by omega
    simp only [this]
    exact h2
  rw [h3]
  rfl
theorem raw_cons (x : Tok) (l : List Tok) : rawP (x :: l) = (rawW x).map fun s => (s, l) := rfl
set_option maxRecDepth 20000 in
set_option maxHeartbeats 4000000 in
theorem raw_bad (P : Nat) (x : Tok) (l : List Tok) (hx : ¬ (0 < x.length ∧ x.length % 2 = 0 ∧ x.length ≤ 128)) (w : World) (h : WRd P (x :: l) w) :
    Calls Tryd.prog 134 #[.pointer (some ⟨P, 0, none⟩)] w (RdV (StepV w.heap.size) (rawP (x :: l)) P w) := by
  have HN := Lib.hid (show rawP (x :: l) = none by rw [raw_cons]; unfold rawW; rw [if_neg hx]; rfl)
  have hP := h.lt
  have hbel : Below w.heap.size w ((w.alloc (.cells (stepC 0 0 0 (.slice none 0 0)) 42)).alloc (.cells (stepC 1 0 0 (.slice none 0 0)) 42)) := ((Below.refl _ _).alloc (Nat.le_refl _) _).alloc (by simp) _
  have hr := h.below hP hbel
  obtain ⟨g, o, c, c0, -, hgc⟩ := hr.head
  have HW := Lib.hid (word_any' P _ _ hr)
  have HS := Lib.hid (show RwS w P (w.heap.size + 1) (x :: l) [] (.slice none 0 0) _ from ⟨Chg.of hbel, (Blk.new w (stepC 0 0 0 (.slice none 0 0)) 42 w.heap.size rfl).old (.cells (stepC 1 0 0 (.slice none 0 0)) 42), hr, Blk.new (w.alloc (.cells (stepC 0 0 0 (.slice none 0 0)) 42)) (stepC 1 0 0 (.slice none 0 0)) 42 (w.heap.size + 1) (by simp), World.ownsRow_nil _ _ _ _, Nat.lt_succ_self _, hP⟩)
  have hpos : ((l.length : Int) + 1 == 0) = false := by simp; omega
  have z1 : (strB x).size = x.length := strB_size x
  clear h hr hbel
  go_enter Tryd.func134, Tryd.ntmps134
  go_upto_region 2 with fail
  change Code.wp _ _ _ _ ((w.alloc (.cells (stepC 0 0 0 (.slice none 0 0)) 42)).alloc (.cells (stepC 1 0 0 (.slice none 0 0)) 42))
  generalize (w.alloc (.cells (stepC 0 0 0 (.slice none 0 0)) 42)).alloc (.cells (stepC 1 0 0 (.slice none 0 0)) 42) = w2 at c0 HW HS ⊢
  generalize hX : w.heap.size + 1 = X at HS ⊢
  go_wp2_with fail
  refine HW.out.mono ?_
  rintro e w3 (⟨ho, rfl, hc⟩ | ⟨x', l', ho, rfl, hr, hc⟩)
  · cases ho
  injection ho with ho
  injection ho with h1 h2
  subst h1 h2
  replace HS := Lib.hid (HS.out.rd hc hr)
  clear hr hc HW c0 hgc hpos
  have HC := Lib.hid HS.out.chg
  by_cases h1 : 0 < x.length
  · have g1 : (0 : Int) < (x.length : Int) := by omega
    by_cases h2 : x.length % 2 = 0
    · have g2 : ((x.length : Int).tmod 2) = 0 := by rw [Int.tmod_eq_emod_of_nonneg (by omega)]; omega
      have g3 : decide ((x.length : Int) ≤ 128) = false := by simp; omega
      go_wp2_with fail
      refine (must_false _).mono ?_
      rintro e w4 ⟨rfl, rfl⟩
      go_wp2_with fail
      exact ⟨rfl, .inl ⟨HN.out, rfl, HC.out⟩⟩
    · have g2 : (((x.length : Int).tmod 2) == 0) = false := by rw [Int.tmod_eq_emod_of_nonneg (by omega)]; simp; omega
      go_wp2_with fail
      refine (must_false _).mono ?_
      rintro e w4 ⟨rfl, rfl⟩
      go_wp2_with fail
      exact ⟨rfl, .inl ⟨HN.out, rfl, HC.out⟩⟩
  · have g1 : ¬ (0 : Int) < (x.length : Int) := by omega
    go_wp2_with fail
    refine (must_false _).mono ?_
    rintro e w4 ⟨rfl, rfl⟩
    go_wp2_with fail
    exact ⟨rfl, .inl ⟨HN.out, rfl, HC.out⟩⟩
set_option maxRecDepth 20000 in
set_option maxHeartbeats 8000000 in
theorem raw_good (P : Nat) (x : Tok) (l : List Tok) (hx0 : 0 < x.length) (hx2 : x.length % 2 = 0) (hx3 : x.length ≤ 128) (w : World) (h : WRd P (x :: l) w) :
    Calls Tryd.prog 134 #[.pointer (some ⟨P, 0, none⟩)] w (RdV (StepV w.heap.size) (rawP (x :: l)) P w) := by
  obtain ⟨i0, hi0, hz0, hz1, hz2⟩ := info_parts infoU8
  have HRW := Lib.hid (show rawP (x :: l) = (rawW x).map fun s => (s, l) from rfl)
  have HRX := Lib.hid (show rawW x = (unhexF x).bind fun b => match decF b with
    | .bad _ => some ⟨1, 0, 0, b⟩
    | .ok _ _ => none by unfold rawW; rw [if_pos ⟨hx0, hx2, hx3⟩]; rfl)
  have hP := h.lt
  have hbel : Below w.heap.size w ((w.alloc (.cells (stepC 0 0 0 (.slice none 0 0)) 42)).alloc (.cells (stepC 1 0 0 (.slice none 0 0)) 42)) := ((Below.refl _ _).alloc (Nat.le_refl _) _).alloc (by simp) _
  have hr := h.below hP hbel
  obtain ⟨g, o, c, c0, -, hgc⟩ := hr.head
  have HW := Lib.hid (word_any' P _ _ hr)
  have HS := Lib.hid (show RwS w P (w.heap.size + 1) (x :: l) [] (.slice none 0 0) _ from ⟨Chg.of hbel, (Blk.new w (stepC 0 0 0 (.slice none 0 0)) 42 w.heap.size rfl).old (.cells (stepC 1 0 0 (.slice none 0 0)) 42), hr, Blk.new (w.alloc (.cells (stepC 0 0 0 (.slice none 0 0)) 42)) (stepC 1 0 0 (.slice none 0 0)) 42 (w.heap.size + 1) (by simp), World.ownsRow_nil _ _ _ _, Nat.lt_succ_self _, hP⟩)
  have hpos : ((l.length : Int) + 1 == 0) = false := by simp; omega
  have z1 : (strB x).size = x.length := strB_size x
  clear h hr hbel
  go_enter Tryd.func134, Tryd.ntmps134
  go_upto_region 2 with fail
  change Code.wp _ _ _ _ ((w.alloc (.cells (stepC 0 0 0 (.slice none 0 0)) 42)).alloc (.cells (stepC 1 0 0 (.slice none 0 0)) 42))
  generalize (w.alloc (.cells (stepC 0 0 0 (.slice none 0 0)) 42)).alloc (.cells (stepC 1 0 0 (.slice none 0 0)) 42) = w2 at c0 HW HS ⊢
  generalize hX : w.heap.size + 1 = X at HS ⊢
  go_wp2_with fail
  refine HW.out.mono ?_
  rintro e w3 (⟨ho, rfl, hc⟩ | ⟨x', l', ho, rfl, hr, hc⟩)
  · cases ho
  injection ho with ho
  injection ho with h1 h2
  subst h1 h2
  replace HS := Lib.hid (HS.out.rd hc hr)
  clear hr hc HW c0 hgc hpos
  have g1 : (0 : Int) < (x.length : Int) := by omega
  have g2 : ((x.length : Int).tmod 2) = 0 := by rw [Int.tmod_eq_emod_of_nonneg (by omega)]; omega
  have g3 : (x.length : Int) ≤ 128 := by omega
  go_wp2_with fail
  refine (must_true _).mono ?_
  rintro e w4 ⟨rfl, rfl⟩
  go_wp2_with fail
  go_loopw [5] (fun i wr => ∃ (k : Nat) (bs : List Nat) (u : Value), 2 * k ≤ x.length ∧ i = .int .i64 ((2 * k : Nat) : Int) ∧ Hid (unhexF (x.take (2 * k)) = some bs) ∧ bs.length = k ∧ RwS w P X l bs u wr) (fun i _ => x.length - (intOf i).toNat)
  case atStart => exact ⟨0, [], _, by omega, rfl, Lib.hid rfl, rfl, HS.out⟩
  case round =>
    obtain ⟨k, bs, u, hk, rfl, HU, hbk, hs⟩ := hrel
    clear HS
    have HS := Lib.hid hs
    have hbs : bs.length ≤ 64 := by omega
    have HBK := Lib.hid hbk
    clear hs hbk
    by_cases hlt : 2 * k < x.length
    · have hkl : 2 * (k : Int) < (x.length : Int) := by omega
      have hlt2 : 2 * k + 1 < x.length := by omega
      go_wp2_with fail
      have ix1 := str_index x (2 * k) hlt (2 * (k : Int)) (by omega)
      have ix2 := str_index x (2 * k + 1) hlt2 (2 * (k : Int) + 1) (by omega)
      have HU2 := Lib.hid (show x.take (2 * (k + 1)) = x.take (2 * k) ++ [x[2 * k], x[2 * k + 1]] by
        have e1 : x.take (2 * k + 1 + 1) = x.take (2 * k + 1) ++ [x[2 * k + 1]] := by simp
        have e2 : x.take (2 * k + 1) = x.take (2 * k) ++ [x[2 * k]] := by simp
        rw [show 2 * (k + 1) = 2 * k + 1 + 1 by omega, e1, e2, List.append_assoc]; rfl)
      generalize x[2 * k] = ca at ix1 HU2
      generalize x[2 * k + 1] = cb at ix2 HU2
      have hkw : 2 * (k : Int) + 1 < 9223372036854775808 := by omega
      have HI := Lib.hid (fun (c : UInt8) (W : World) => show Calls Tryd.prog 186 #[.string ⟨#[48, 49, 50, 51, 52, 53, 54, 55, 56, 57, 97, 98, 99, 100, 101, 102]⟩, .int .u8 (c.toNat : Int)] W fun e w' => e = .returned (.int .i64 (uhI c)) ∧ w' = W from by
        have h := Shelf.strings_IndexByte ⟨#[48, 49, 50, 51, 52, 53, 54, 55, 56, 57, 97, 98, 99, 100, 101, 102]⟩ (c.toNat : Int) W
        rw [← index_uh]
        simpa [digitsH] using h)
      go_quiet ((go_at_call 186; exact Calls.quiet_of_same (HI.out _ _)))
      replace HS := Lib.hid (HS.out.below ((Below.refl _ _).drewN nq))
      generalize wr.drewN nq = wq at HS ⊢
      clear ix1 ix2 HI
      have HSN := Lib.hid (show unhexF (x.take (2 * (k + 1))) = (uh ca).bind fun a => (uh cb).map fun b => bs ++ [a * 16 + b] by rw [HU2.out, unhex_snoc _ _ _ (by rw [List.length_take]; omega), HU.out]; rfl)
      have HNX := Lib.hid (fun (h : unhexF (x.take (2 * (k + 1))) = none) => show rawP (x :: l) = none by
        have h2 : unhexF x = none := by rw [← List.take_append_drop (2 * (k + 1)) x]; exact unhex_app_none _ _ (by rw [List.length_take]; omega) h
        rw [HRW.out, HRX.out, h2]; rfl)
      have HC := Lib.hid HS.out.chg
      cases ha : uh ca with
      | none =>
        have HN := Lib.hid (HNX.out (by rw [HSN.out, ha]; rfl))
        rw [uhI_none ha]
        clear HNX HSN HU HU2
        go_wp2_with fail
        refine (must_false _).mono ?_
        rintro e w4' ⟨rfl, rfl⟩
        go_wp2_with fail
        exact ⟨rfl, .inl ⟨HN.out, rfl, HC.out⟩⟩
      | some da =>
        rw [uhI_some ha]
        have ga : da < 16 := (uh_ok ha).1
        have g0a : (0 : Int) ≤ (da : Int) := by omega
        cases hb : uh cb with
        | none =>
          have HN := Lib.hid (HNX.out (by rw [HSN.out, ha, hb]; rfl))
          rw [uhI_none hb]
          clear HNX HSN HU HU2
          go_wp2_with fail
          refine (must_false _).mono ?_
          rintro e w4' ⟨rfl, rfl⟩
          go_wp2_with fail
          exact ⟨rfl, .inl ⟨HN.out, rfl, HC.out⟩⟩
        | some db =>
          rw [uhI_some hb]
          have gb : db < 16 := (uh_ok hb).1
          have g0b : (0 : Int) ≤ (db : Int) := by omega
          have HUN := Lib.hid (show unhexF (x.take (2 * (k + 1))) = some (bs ++ [da * 16 + db]) by rw [HSN.out, ha, hb]; rfl)
          have hor := or_hex da db ga gb
          have g16 : (da : Int) < 16 := by omega
          clear HNX HSN HU HU2 ha hb
          obtain ⟨ua, uc, rfl⟩ := slice_of HS.out.own
          have s3 : wq.cell? ⟨X, 3, none⟩ = some (.slice ua bs.length uc) := HS.out.s.cell 3 rfl
          go_wp2_with fail
          refine (must_true _).mono ?_
          rintro e w4' ⟨rfl, rfl⟩
          obtain ⟨b, hbb⟩ : ∃ b, b = da * 16 + db := ⟨_, rfl⟩
          rw [← hbb] at HUN hor
          have hb8 : Go.bits .or .i64 ((da : Int) * 16) (db : Int) % 256 = (b : Int) := by rw [hor]; omega
          clear hbb hor
          have HNW := Lib.hid (Blk.new wq #[.int .u8 (b : Int)] 5 wq.heap.size rfl)
          have HRA := Lib.hid (HS.out.own.alloc (.cells #[.int .u8 (b : Int)] 5))
          have hlX : X ≤ wq.heap.size := Nat.le_of_lt HS.out.s.lt
          have HSX := Lib.hid (HS.out.s.old (.cells #[.int .u8 (b : Int)] 5))
          go_wp2_with (at_builtin; refine wpList_append_lies _ (by rfl) _ _ _ (by rfl) X 5 i0 (.int .u8 0) 1 1 Tryd.underlying40 hi0 hz0 hz1 hz2 (by rfl) (by decide) _ bs.length (vals bs) (by rfl) HRA.out ⟨wq.heap.size, 0, none⟩ 1 1 [.int .u8 (b : Int)] (by rfl) (by rfl) (news_one HNW.out) (by simp [Value.oneCell']) (by decide) (by unfold maxLen; omega) (by omega) (by simp; omega) (wq.heap.size + 1) (by simp) ?_; intro ga' ca' w5 hown hgrow hat hlt5; have HPU := Lib.hid (HS.out.push ((Below.refl _ _).alloc (Nat.le_refl _) (.cells #[.int .u8 (b : Int)] 5)) hown hgrow); have c5 : w5.cell? ⟨X, 3, none⟩ = some (.slice ua bs.length uc) := (blk_row' HSX.out (by decide) HRA.out hgrow).cell 3 rfl; have f5 : w5.frozen? ⟨X, 3, none⟩ = false := (blk_row' HSX.out (by decide) HRA.out hgrow).free 3; clear hown hgrow hat hlt5)
          have HPU2 := Lib.hid (show RwS w P X l (bs ++ [b]) _ _ from HPU.out)
          go_roundw
          case rel => exact ⟨k + 1, bs ++ [b], _, by omega, by go_num, HUN, by rw [List.length_append, HBK.out]; rfl, HPU2.out⟩
          case measure => simp [intOf]; omega
    · have hkl : decide (2 * (k : Int) < (x.length : Int)) = false := by simp; omega
      obtain ⟨ua, uc, rfl⟩ := slice_of HS.out.own
      have s3 : wr.cell? ⟨X, 3, none⟩ = some (.slice ua bs.length uc) := HS.out.s.cell 3 rfl
      have hux : unhexF x = some bs := by have := HU.out; rwa [List.take_of_length_le (by omega)] at this
      have HUX := Lib.hid hux
      have hbyt : ∀ b ∈ bs, b < 256 := (unhex_ok hux).2.1
      have HD := Lib.hid (decode_any wr.heap.size bs (by omega) hbyt (.slice ua bs.length uc) wr ((own_atB HS.out.own).mono (Nat.zero_le _) (Nat.le_refl _)) (Nat.le_refl _))
      have HPO := Lib.hid (show 0 < bs.length by have := HBK.out; omega)
      have HRF := Lib.hid (show rawP (x :: l) = (match decF bs with
        | .bad _ => some ((⟨1, 0, 0, bs⟩ : Stp), l)
        | .ok _ _ => none) by rw [HRW.out, HRX.out, HUX.out]; dsimp only [Option.bind]; cases decF bs <;> rfl)
      have HBN := Lib.hid (dec_bad_ne bs)
      unfold DecIs at HD
      clear hux hbyt HRW HRX HU
      go_wp2_with fail
      refine HD.out.mono ?_
      rintro e w6 ⟨rfl, hb6⟩
      replace HS := Lib.hid (HS.out.below hb6)
      clear hb6 HD s3
      cases hdf : decF bs with
      | ok cm rest =>
        have HN := Lib.hid (show rawP (x :: l) = none by rw [HRF.out, hdf])
        clear HRF HBN hdf
        unfold decV
        dsimp only
        have HCC := Lib.hid ((HS.out.chg).alloc HS.out.chg.size (.cells cm.cells 164))
        unfold Cmd.cells at *
        go_wp2_with fail
        refine (must_false _).mono ?_
        rintro e w7 ⟨rfl, rfl⟩
        go_wp2_with fail
        exact ⟨rfl, .inl ⟨HN.out, rfl, HCC.out⟩⟩
      | bad f =>
        have HN := Lib.hid (show rawP (x :: l) = some (⟨1, 0, 0, bs⟩, l) by rw [HRF.out, hdf])
        have hf : (f != 0) = true := by have := HBN.out f hdf; simpa using this
        clear HRF HBN hdf
        unfold decV
        dsimp only
        replace HS := Lib.hid (HS.out.below ((Below.refl w6.heap.size w6).alloc (Nat.le_refl _) (.cells zeroC.cells 164)))
        have HY := Lib.hid (show BytesOf w.heap.size bs (.slice ua bs.length uc) (w6.alloc (.cells zeroC.cells 164)) from .inr ⟨HPO.out, own_mono HS.out.own (by have := HS.out.PX; omega)⟩)
        unfold Cmd.cells zeroC at *
        dsimp only at *
        go_wp2_with fail
        refine (must_true _).mono ?_
        rintro e w7 ⟨rfl, he⟩
        subst he
        generalize w6.alloc _ = w8 at HS HY ⊢
        generalize bs.length = bn at HS HY ⊢
        go_wp2_with (first
          | (refine load_blk (by rfl) 42 _ (by rfl) X (by rfl) _ _ HS.out.s _ Tryd.underlying42 rfl (by kernel_rfl) ?_)
          | (refine store_blk (by rfl) 42 _ _ (by rfl) w.heap.size (by rfl) _ (stepC 1 0 0 (.slice ua bn uc)) 42 HS.out.z (by rfl) rfl (by kernel_rfl) (one_stp _ _ _ _ _ _) ?_))
        refine bodyPost_ret (results_cell_row rfl _ _ _ _ _ (0, 0) _ rfl (HS.out.z.setCells (stepC 1 0 0 (.slice ua bn uc)) rfl) Tryd.underlying42 rfl (by kernel_rfl)) rfl ?_
        have hbel := Blk.Below.setCells (stepC 1 0 0 (.slice ua bn uc)).toList 0 _ (Below.refl w.heap.size w8) (B := w.heap.size) (Nat.le_refl _)
        exact .inr ⟨_, l, _, HN.out, rfl, ⟨_, rfl, bytes_cells _ _ _ _ HY.out HS.out.z⟩, HS.out.r.below hP hbel, HS.out.chg.step hbel⟩
end Go.Proofs.YtmkcooamgojbpaaDoor.Lines

/- damperref35.hex. -/
namespace Go.Proofs.YtmkcooamgojbpaaDoor.Lines
open Go.RowKit Go.Proofs.YtmkcooamgojbpaaDoor.Kit Go.Proofs.YtmkcooamgojbpaaDoor.Blk Go.Proofs.YtmkcooamgojbpaaDoor.Dec Go.Proofs.YtmkcooamgojbpaaDoor.Words Go.Proofs.YtmkcooamgojbpaaDoor.Octets Go.Proofs.YtmkcooamgojbpaaDoor.Steps Go.Proofs.YtmkcooamgojbpaaDoor.Cmds
attribute [local go_sem ↓] Go.wp_at_zero Go.wp_at_succ
set_option linter.unusedVariables false

def hexT : Tok := [48, 49, 50, 51, 52, 53, 54, 55, 56, 57, 97, 98, 99, 100, 101, 102]
theorem hexT_at (k : Nat) (h : k < 16) : hexT[k]? = some (hx k) := by
  have : ∀ k : Fin 16, hexT[k.1]? = some (hx k.1) := by decide
  exact this ⟨k, h⟩
theorem bytes_own {N : Nat} {l : List Nat} {u : Value} {W : World} (h : BytesOf N l u W) : Own N l u W := by
  rcases h with ⟨rfl, rfl⟩ | ⟨_, h⟩
  · exact World.ownsRow_nil _ _ _ _
  · exact h
/-- A digit's worth, where it is below a bound. -/
def upto (c : UInt8) (k : Nat) : Nat := if uhd c < k then uhd c else 0
theorem upto_yes {k : Nat} (h : k < 16) : upto (hx k) (k + 1) = upto (hx k) k + k := by
  have e : uhd (hx k) = k := by unfold uhd; rw [uh_hx h]; rfl
  unfold upto
  rw [e, if_pos (by omega), if_neg (by omega)]
  omega
theorem upto_no {c : UInt8} {k : Nat} (h : k < 16) (hc : c ≠ hx k) : upto c (k + 1) = upto c k := by
  unfold upto
  by_cases h1 : uhd c < k
  · rw [if_pos h1, if_pos (by omega)]
  · rw [if_neg h1]
    by_cases h2 : uhd c < k + 1
    · have h3 : uhd c = k := by omega
      rw [if_pos h2, h3]
      unfold uhd at h3
      cases e : uh c with
      | none => rw [e] at h3; exact h3.symm
      | some d =>
        rw [e] at h3
        have h3 : d = k := h3
        subst h3
        exact absurd (uh_ok e).2 hc
    · rw [if_neg h2]
theorem upto_all (c : UInt8) : upto c 16 = uhd c := by unfold upto; rw [if_pos (uhd_lt c)]
theorem upto_lt (c : UInt8) (k : Nat) : upto c k < 16 := by
  unfold upto
  have := uhd_lt c
  split <;> omega
theorem hex_eq {c : UInt8} {k : Nat} : (((hx k).toNat : Int) == (c.toNat : Int)) = decide (c = hx k) := by
  by_cases h : c = hx k
  · subst h; simp
  · rw [decide_eq_false h, beq_eq_false_iff_ne]
    intro e
    exact h (UInt8.toNat_inj.1 (by omega))
set_option maxRecDepth 20000 in
set_option maxHeartbeats 4000000 in
theorem rhex_any (s : Tok) (hs : s.length ≤ 100000) (w : World) :
    Calls Tryd.prog 137 #[.string (strB s)] w fun e w' => ∃ u, e = .returned u ∧ BytesOf w.heap.size (hexG s) u w' ∧ Below w.heap.size w w' := by
  obtain ⟨i0, hi0, hz0, hz1, hz2⟩ := info_parts infoU8
  have z1 : (strB s).size = s.length := strB_size s
  have HD := Lib.hid (fun (k : Nat) (h : k < 16) (W : World) => show (Instr.index 9 (.string ⟨#[48, 49, 50, 51, 52, 53, 54, 55, 56, 57, 97, 98, 99, 100, 101, 102]⟩) (.int .i64 (k : Int))).run Tryd.prog W = .ok (.int .u8 ((hx k).toNat : Int)) W by
    have h1 : k < hexT.length := h
    have := str_index hexT k h1 (k : Int) rfl W
    have h2 : hexT[k] = hx k := by have := hexT_at k h; rw [List.getElem?_eq_getElem h1] at this; injection this
    rw [h2] at this
    exact this)
  have HS := Lib.hid (fun (m : Nat) (h : m < s.length) (z : Int) (hz : z = (m : Int)) (W : World) => str_index s m h z hz W)
  generalize strB s = S at z1 HS ⊢
  go_enter Tryd.func137, Tryd.ntmps137
  go_wp2_with fail
  go_loopw [3, 4] (fun v i wr => ∃ (m : Nat) (k : List Nat), i = .int .i64 ((2 * m : Nat) : Int) ∧ 2 * m ≤ s.length ∧ k.length = m ∧ k ++ hexG (s.drop (2 * m)) = hexG s ∧ BytesOf w.heap.size k v wr ∧ Below w.heap.size w wr) (fun _ i _ => s.length - (intOf i).toNat)
  case atStart => exact ⟨0, [], rfl, by omega, rfl, rfl, .inl ⟨rfl, rfl⟩, Below.refl _ _⟩
  case round =>
    obtain ⟨m, k, rfl, hm, hkl, hk, hby, hbw⟩ := hrel
    have HB := Lib.hid hby
    have HROW := Lib.hid (bytes_own hby)
    have HBW := Lib.hid hbw
    have HK := Lib.hid hk
    have HKL := Lib.hid hkl
    obtain ⟨va, vn, vc, rfl⟩ := bytes_form hby
    have hvn : vn = k.length := by
      rcases hby with ⟨rfl, h⟩ | ⟨_, h⟩
      · injection h
      · obtain ⟨a, c, h⟩ := slice_of h
        injection h
    subst hvn
    clear hby hbw hk hkl
    by_cases hlt : 2 * m + 1 < s.length
    · have g1 : ((2 * m : Nat) : Int) + 1 < (s.length : Int) := by omega
      have HDR := Lib.hid (show hexG (s.drop (2 * m)) = (uhd s[2 * m] * 16 + uhd s[2 * m + 1]) :: hexG (s.drop (2 * (m + 1))) by
        rw [List.drop_eq_getElem_cons (show 2 * m < s.length by omega), List.drop_eq_getElem_cons hlt]; rfl)
      have HA := Lib.hid (fun W => HS.out (2 * m) (by omega) (2 * (m : Int)) (by omega) W)
      have HC := Lib.hid (fun W => HS.out (2 * m + 1) hlt (2 * (m : Int) + 1) (by omega) W)
      generalize s[2 * m] = a at HDR HA
      generalize s[2 * m + 1] = b at HDR HC
      go_wp2_with fail
      go_loopw [5, 6] (fun n j wx => ∃ q : Nat, q ≤ 16 ∧ j = .int .i64 (q : Int) ∧ n = .int .i64 ((16 * upto a q + upto b q : Nat) : Int) ∧ BytesOf w.heap.size k (.slice va k.length vc) wx ∧ Below w.heap.size w wx) (fun _ j _ => 16 - (intOf j).toNat)
      case atStart => exact ⟨0, by omega, rfl, rfl, HB.out, HBW.out⟩
      case round =>
        obtain ⟨q, hq, rfl, rfl, hb1, hb2⟩ := hrel
        have HB2 := Lib.hid hb1
        have HBW2 := Lib.hid hb2
        clear hb1 hb2 HB HBW HROW
        by_cases h16 : q < 16
        · have q16 : (q : Int) < 16 := by omega
          have hd := fun W => HD.out q h16 W
          have ha := fun W => HA.out W
          have hc := fun W => HC.out W
          have ea := hex_eq (c := a) (k := q)
          have eb := hex_eq (c := b) (k := q)
          have la := upto_lt a q
          have lb := upto_lt b q
          have HQA := Lib.hid (fun h => upto_no (c := a) (k := q) h16 h)
          have HQB := Lib.hid (fun h => upto_no (c := b) (k := q) h16 h)
          have HQY := Lib.hid (upto_yes h16)
          by_cases hqa : a = hx q
          · rw [decide_eq_true hqa] at ea
            have HAN : Hid (upto a (q + 1) = upto a q + q) := Lib.hid (by rw [hqa]; exact HQY.out)
            clear hqa
            generalize hua : upto a q = ua at la HAN ⊢
            clear hua
            by_cases hqb : b = hx q
            · rw [decide_eq_true hqb] at eb
              have HBN : Hid (upto b (q + 1) = upto b q + q) := Lib.hid (by rw [hqb]; exact HQY.out)
              clear hqb
              generalize hub : upto b q = ub at lb HBN ⊢
              clear hub
              have hsum : 16 * (ua : Int) + (ub : Int) + 16 * (q : Int) + (q : Int) = ((16 * upto a (q + 1) + upto b (q + 1) : Nat) : Int) := by
                have h1 := HAN.out
                have h2 := HBN.out
                omega
              have HSUM := Lib.hid hsum
              clear hsum
              go_upto_region 9 with fail
              go_quiet (fail)
              replace HB2 := Lib.hid (bytes_below HB2.out ((Below.refl _ _).drewN nq))
              replace HBW2 := Lib.hid (HBW2.out.drewN nq)
              generalize wr.drewN nq = wy at HB2 HBW2 ⊢
              go_upto_region 11 with fail
              go_quiet (fail)
              replace HB2 := Lib.hid (bytes_below HB2.out ((Below.refl _ _).drewN nq))
              replace HBW2 := Lib.hid (HBW2.out.drewN nq)
              generalize wy.drewN nq = wz at HB2 HBW2 ⊢
              go_wp2_with fail
              go_roundw
              case rel => exact ⟨q + 1, by omega, by go_num, (by rw [← HSUM.out]; try simp), HB2.out, HBW2.out⟩
              case measure => simp [intOf]; omega
            · rw [decide_eq_false hqb] at eb
              have HBN : Hid (upto b (q + 1) = upto b q + 0) := Lib.hid (HQB.out hqb)
              clear hqb
              generalize hub : upto b q = ub at lb HBN ⊢
              clear hub
              have hsum : 16 * (ua : Int) + (ub : Int) + 16 * (q : Int) + (0 : Int) = ((16 * upto a (q + 1) + upto b (q + 1) : Nat) : Int) := by
                have h1 := HAN.out
                have h2 := HBN.out
                omega
              have HSUM := Lib.hid hsum
              clear hsum
              go_upto_region 9 with fail
              go_quiet (fail)
              replace HB2 := Lib.hid (bytes_below HB2.out ((Below.refl _ _).drewN nq))
              replace HBW2 := Lib.hid (HBW2.out.drewN nq)
              generalize wr.drewN nq = wy at HB2 HBW2 ⊢
              go_upto_region 11 with fail
              go_quiet (fail)
              replace HB2 := Lib.hid (bytes_below HB2.out ((Below.refl _ _).drewN nq))
              replace HBW2 := Lib.hid (HBW2.out.drewN nq)
              generalize wy.drewN nq = wz at HB2 HBW2 ⊢
              go_wp2_with fail
              go_roundw
              case rel => exact ⟨q + 1, by omega, by go_num, (by rw [← HSUM.out]; try simp), HB2.out, HBW2.out⟩
              case measure => simp [intOf]; omega
          · rw [decide_eq_false hqa] at ea
            have HAN : Hid (upto a (q + 1) = upto a q + 0) := Lib.hid (HQA.out hqa)
            clear hqa
            generalize hua : upto a q = ua at la HAN ⊢
            clear hua
            by_cases hqb : b = hx q
            · rw [decide_eq_true hqb] at eb
              have HBN : Hid (upto b (q + 1) = upto b q + q) := Lib.hid (by rw [hqb]; exact HQY.out)
              clear hqb
              generalize hub : upto b q = ub at lb HBN ⊢
              clear hub
              have hsum : 16 * (ua : Int) + (ub : Int) + 16 * (0 : Int) + (q : Int) = ((16 * upto a (q + 1) + upto b (q + 1) : Nat) : Int) := by
                have h1 := HAN.out
                have h2 := HBN.out
                omega
              have HSUM := Lib.hid hsum
              clear hsum
              go_upto_region 9 with fail
              go_quiet (fail)
              replace HB2 := Lib.hid (bytes_below HB2.out ((Below.refl _ _).drewN nq))
              replace HBW2 := Lib.hid (HBW2.out.drewN nq)
              generalize wr.drewN nq = wy at HB2 HBW2 ⊢
              go_upto_region 11 with fail
              go_quiet (fail)
              replace HB2 := Lib.hid (bytes_below HB2.out ((Below.refl _ _).drewN nq))
              replace HBW2 := Lib.hid (HBW2.out.drewN nq)
              generalize wy.drewN nq = wz at HB2 HBW2 ⊢
              go_wp2_with fail
              go_roundw
              case rel => exact ⟨q + 1, by omega, by go_num, (by rw [← HSUM.out]; try simp), HB2.out, HBW2.out⟩
              case measure => simp [intOf]; omega
            · rw [decide_eq_false hqb] at eb
              have HBN : Hid (upto b (q + 1) = upto b q + 0) := Lib.hid (HQB.out hqb)
              clear hqb
              generalize hub : upto b q = ub at lb HBN ⊢
              clear hub
              have hsum : 16 * (ua : Int) + (ub : Int) + 16 * (0 : Int) + (0 : Int) = ((16 * upto a (q + 1) + upto b (q + 1) : Nat) : Int) := by
                have h1 := HAN.out
                have h2 := HBN.out
                omega
              have HSUM := Lib.hid hsum
              clear hsum
              go_upto_region 9 with fail
              go_quiet (fail)
              replace HB2 := Lib.hid (bytes_below HB2.out ((Below.refl _ _).drewN nq))
              replace HBW2 := Lib.hid (HBW2.out.drewN nq)
              generalize wr.drewN nq = wy at HB2 HBW2 ⊢
              go_upto_region 11 with fail
              go_quiet (fail)
              replace HB2 := Lib.hid (bytes_below HB2.out ((Below.refl _ _).drewN nq))
              replace HBW2 := Lib.hid (HBW2.out.drewN nq)
              generalize wy.drewN nq = wz at HB2 HBW2 ⊢
              go_wp2_with fail
              go_roundw
              case rel => exact ⟨q + 1, by omega, by go_num, (by rw [← HSUM.out]; try simp), HB2.out, HBW2.out⟩
              case measure => simp [intOf]; omega
        · obtain rfl : q = 16 := by omega
          obtain ⟨bb, hbb⟩ : ∃ bb, uhd a * 16 + uhd b = bb := ⟨_, rfl⟩
          have hb256 : bb < 256 := by have := uhd_lt a; have := uhd_lt b; omega
          rw [hbb] at HDR
          rw [show 16 * upto a 16 + upto b 16 = bb by rw [upto_all, upto_all]; omega]
          have hb8 : (bb : Int) % 256 = (bb : Int) := by omega
          have HROW := Lib.hid (bytes_own HB2.out)
          have HKN := Lib.hid (show (k ++ [bb]) ++ hexG (s.drop (2 * (m + 1))) = hexG s by rw [List.append_assoc, List.singleton_append, ← HDR.out, HK.out])
          have hkl : k.length ≤ 100000 := by have := HKL.out; omega
          clear hbb HDR
          have HNW := Lib.hid (Blk.new wr #[.int .u8 (bb : Int)] 5 wr.heap.size rfl)
          have HAL := Lib.hid (World.ownsRow.alloc HROW.out (.cells #[.int .u8 (bb : Int)] 5))
          have hle : w.heap.size ≤ wr.heap.size := HBW2.out.size
          go_wp2_with (at_builtin; refine wpList_append_lies _ (by rfl) _ _ _ (by rfl) w.heap.size 5 i0 (.int .u8 0) 1 1 Tryd.underlying40 hi0 hz0 hz1 hz2 (by rfl) (by decide) _ k.length (vals k) (by rfl) HAL.out ⟨wr.heap.size, 0, none⟩ 1 1 [.int .u8 (bb : Int)] (by rfl) (by rfl) (news_one HNW.out) (by simp [Value.oneCell']) (by decide) (by unfold maxLen; omega) (by omega) (by simp; omega) (wr.heap.size + 1) (by simp) ?_; intro ga ca w5 hown hgrow hat hlt5; have HPU := Lib.hid (own_push (m := [bb]) HBW2.out hle HROW.out ((Below.refl _ _).alloc (Nat.le_refl _) (.cells #[.int .u8 (bb : Int)] 5)) hown hgrow); clear hown hgrow hat hlt5)
          go_roundw
          case rel => exact ⟨m + 1, k ++ [bb], by go_num, by omega, by rw [List.length_append, HKL.out]; rfl, HKN.out, .inr ⟨by simp, HPU.out.1⟩, HPU.out.2⟩
          case measure => simp [intOf]; omega
    · have g1 : ¬ ((2 * m : Nat) : Int) + 1 < (s.length : Int) := by omega
      have HE := Lib.hid (show k = hexG s by
        have h := HK.out
        have hd : hexG (s.drop (2 * m)) = [] := by
          match hs2 : s.drop (2 * m) with
          | [] => rfl
          | [_] => rfl
          | x :: y :: t =>
            have := congrArg List.length hs2
            simp at this
            omega
        rw [hd, List.append_nil] at h
        exact h)
      go_wp2_with fail
      go_ret
      exact ⟨_, rfl, by rw [← HE.out]; exact HB.out, HBW.out⟩
end Go.Proofs.YtmkcooamgojbpaaDoor.Lines

/- damperref35.Line, of any step. -/
namespace Go.Proofs.YtmkcooamgojbpaaDoor.Lines
open Go.RowKit Go.Proofs.YtmkcooamgojbpaaDoor.Kit Go.Proofs.YtmkcooamgojbpaaDoor.Blk Go.Proofs.YtmkcooamgojbpaaDoor.Dec Go.Proofs.YtmkcooamgojbpaaDoor.Words Go.Proofs.YtmkcooamgojbpaaDoor.Octets Go.Proofs.YtmkcooamgojbpaaDoor.Steps Go.Proofs.YtmkcooamgojbpaaDoor.Cmds
attribute [local go_sem ↓] Go.wp_at_zero Go.wp_at_succ
set_option linter.unusedVariables false

theorem right_z (s : Stp) : rightZ s.k s.y s.v s.l.length = rightS s := by
  obtain ⟨k, y, v, l⟩ := s
  unfold rightZ rightS
  dsimp only
  have e : decide ((l.length : Int) = 0) = l.isEmpty := by
    cases l with
    | nil => rfl
    | cons a l => simp; omega
  have e2 : decide ((l.length : Int) ≤ 64) = decide (l.length ≤ 64) := by rw [decide_eq_decide]; omega
  rw [e, e2]
/-- Bytes as a line has them. -/
def rawS (m : List Nat) : Tok := tRaw ++ if m = [] then [] else 32 :: hexF m
theorem rawS_snoc (m : List Nat) (b : Nat) : rawS (m ++ [b]) = rawS m ++ (if m = [] then [32] else []) ++ [hx (b / 16), hx (b % 16)] := by
  unfold rawS
  rw [if_neg (by simp)]
  by_cases h : m = []
  · subst h; simp [hexF]
  · rw [if_neg h, if_neg h]; simp [hexF]
theorem rawS_len (m : List Nat) : (rawS m).length ≤ 4 + 2 * m.length := by
  unfold rawS
  have := hex_len m
  have h3 : tRaw.length = 3 := rfl
  rw [List.length_append]
  split
  · simp; omega
  · simp; omega
/-- A line, of a step's bytes somewhere. -/
def LnDs (s : Stp) (w : World) (e : Ending) (w' : World) : Prop := LineIs (lineF s) w e w'
theorem ln_eq {s : Stp} (h : rightS s = true) : (lineF s).getD [] = joinW 32 (wordsF s) ∧ (lineF s).isSome = true := by unfold lineF; rw [if_pos h]; exact ⟨rfl, rfl⟩
theorem ln_none {s : Stp} (h : rightS s = false) : lineF s = none := by unfold lineF; rw [h]; rfl
set_option maxRecDepth 20000 in
set_option maxHeartbeats 4000000 in
theorem rline_wrong (k y v : Int) (l : List Nat) (ua : Option Addr) (uc : Nat) (hr : rightS ⟨k, y, v, l⟩ = false) (w : World) :
    Calls Tryd.prog 53 #[.agg (stepC k y v (.slice ua l.length uc))] w (LnDs ⟨k, y, v, l⟩ w) := by
  have HN := Lib.hid (ln_none hr)
  have HX := Lib.hid (Blk.new w (stepC k y v (.slice ua l.length uc)) 42 w.heap.size rfl)
  have HR := Lib.hid ((right_z ⟨k, y, v, l⟩).trans hr)
  clear hr
  go_enter Tryd.func53, Tryd.ntmps53
  go_wp2_with (refine load_blk (by rfl) 42 _ (by rfl) w.heap.size (by rfl) _ _ HX.out _ Tryd.underlying42 rfl (by kernel_rfl) ?_)
  refine (rsright_any k y v ua l.length uc _).mono ?_
  rintro e w1 ⟨rfl, hb⟩
  have HB := Lib.hid (((Below.refl w.heap.size w).alloc (Nat.le_refl _) (.cells (stepC k y v (.slice ua l.length uc)) 42)).trans (hb.mono (by simp)))
  replace HX := Lib.hid (HX.out.below hb (by simp))
  clear hb
  rw [HR.out]
  go_wp2_with fail
  go_ret2
  exact ⟨by rw [HN.out]; rfl, HB.out⟩
set_option maxRecDepth 20000 in
set_option maxHeartbeats 4000000 in
theorem rline_num (k y v : Int) (hk : k = 2 ∨ k = 3) (hv : -9223372036854775808 ≤ v ∧ v ≤ 9223372036854775807) (l : List Nat) (ua : Option Addr) (uc : Nat) (hr : rightS ⟨k, y, v, l⟩ = true) (w : World) :
    Calls Tryd.prog 53 #[.agg (stepC k y v (.slice ua l.length uc))] w (LnDs ⟨k, y, v, l⟩ w) := by
  have HL := Lib.hid (ln_eq hr)
  have hz : (strB (decB v)).size ≤ 20 := by rw [strB_size]; exact dec_len hv.1 hv.2
  rcases hk with rfl | rfl
  · have HS := Lib.hid (show strB (joinW 32 (wordsF ⟨2, y, v, l⟩)) = (⟨#[116, 105, 99, 107, 32]⟩ : ByteArray) ++ strB (decB v) from (strB_app [116, 105, 99, 107, 32] _).symm)
    have HX := Lib.hid (Blk.new w (stepC 2 y v (.slice ua l.length uc)) 42 w.heap.size rfl)
    have HR := Lib.hid ((right_z ⟨2, y, v, l⟩).trans hr)
    clear hr
    go_enter Tryd.func53, Tryd.ntmps53
    go_wp2_with (refine load_blk (by rfl) 42 _ (by rfl) w.heap.size (by rfl) _ _ HX.out _ Tryd.underlying42 rfl (by kernel_rfl) ?_)
    refine (rsright_any 2 y v ua l.length uc _).mono ?_
    rintro e w1 ⟨rfl, hb⟩
    have HB := Lib.hid (((Below.refl w.heap.size w).alloc (Nat.le_refl _) (.cells (stepC 2 y v (.slice ua l.length uc)) 42)).trans (hb.mono (by simp)))
    replace HX := Lib.hid (HX.out.below hb (by simp))
    clear hb
    rw [HR.out]
    have c0 : w1.cell? ⟨w.heap.size, 0, none⟩ = some (.int .i64 2) := HX.out.cell 0 rfl
    have c2 : w1.cell? ⟨w.heap.size, 2, none⟩ = some (.int .i64 v) := HX.out.cell 2 rfl
    go_wp2_with fail
    refine (rdecimal_any v hv.1 hv.2 w1).mono ?_
    rintro e w2 ⟨rfl, hb⟩
    have HB2 := Lib.hid (HB.out.trans (hb.mono HB.out.size))
    clear hb c0 c2
    generalize hT : strB (decB v) = T at hz
    have HT := Lib.hid hT
    have hg : ¬ 9223372036854775807 < 5 + T.size := by omega
    clear hT
    go_wp2_with fail
    go_ret2
    refine ⟨?_, HB2.out⟩
    rw [HL.out.1, HL.out.2, HS.out, ← HT.out]
    rfl
  · have HS := Lib.hid (show strB (joinW 32 (wordsF ⟨3, y, v, l⟩)) = (⟨#[105, 110, 100, 101, 120, 32]⟩ : ByteArray) ++ strB (decB v) from (strB_app [105, 110, 100, 101, 120, 32] _).symm)
    have HX := Lib.hid (Blk.new w (stepC 3 y v (.slice ua l.length uc)) 42 w.heap.size rfl)
    have HR := Lib.hid ((right_z ⟨3, y, v, l⟩).trans hr)
    clear hr
    go_enter Tryd.func53, Tryd.ntmps53
    go_wp2_with (refine load_blk (by rfl) 42 _ (by rfl) w.heap.size (by rfl) _ _ HX.out _ Tryd.underlying42 rfl (by kernel_rfl) ?_)
    refine (rsright_any 3 y v ua l.length uc _).mono ?_
    rintro e w1 ⟨rfl, hb⟩
    have HB := Lib.hid (((Below.refl w.heap.size w).alloc (Nat.le_refl _) (.cells (stepC 3 y v (.slice ua l.length uc)) 42)).trans (hb.mono (by simp)))
    replace HX := Lib.hid (HX.out.below hb (by simp))
    clear hb
    rw [HR.out]
    have c0 : w1.cell? ⟨w.heap.size, 0, none⟩ = some (.int .i64 3) := HX.out.cell 0 rfl
    have c2 : w1.cell? ⟨w.heap.size, 2, none⟩ = some (.int .i64 v) := HX.out.cell 2 rfl
    go_wp2_with fail
    refine (rdecimal_any v hv.1 hv.2 w1).mono ?_
    rintro e w2 ⟨rfl, hb⟩
    have HB2 := Lib.hid (HB.out.trans (hb.mono HB.out.size))
    clear hb c0 c2
    generalize hT : strB (decB v) = T at hz
    have HT := Lib.hid hT
    have hg : ¬ 9223372036854775807 < 6 + T.size := by omega
    clear hT
    go_wp2_with fail
    go_ret2
    refine ⟨?_, HB2.out⟩
    rw [HL.out.1, HL.out.2, HS.out, ← HT.out]
    rfl
set_option maxRecDepth 20000 in
set_option maxHeartbeats 4000000 in
theorem rline_bid (y v : Int) (hy : 0 ≤ y ∧ y ≤ 255) (hv : -9223372036854775808 ≤ v ∧ v ≤ 9223372036854775807) (l : List Nat) (ua : Option Addr) (uc : Nat) (hr : rightS ⟨4, y, v, l⟩ = true) (w : World) :
    Calls Tryd.prog 53 #[.agg (stepC 4 y v (.slice ua l.length uc))] w (LnDs ⟨4, y, v, l⟩ w) := by
  have HL := Lib.hid (ln_eq hr)
  have tT0 : (strB (decB y)).size ≤ 20 := by rw [strB_size]; exact dec_len (by omega) (by omega)
  have tT1 : (strB (decB v)).size ≤ 20 := by rw [strB_size]; exact dec_len hv.1 hv.2
  obtain ⟨T0, qT0⟩ : ∃ T, strB (decB y) = T := ⟨_, rfl⟩
  obtain ⟨T1, qT1⟩ : ∃ T, strB (decB v) = T := ⟨_, rfl⟩
  rw [qT0] at tT0
  rw [qT1] at tT1
  obtain ⟨P1, r1⟩ : ∃ P, (⟨#[98, 105, 100, 32]⟩ : ByteArray) ++ T0 = P := ⟨_, rfl⟩
  have g1 : ¬ 9223372036854775807 < 4 + T0.size := by omega
  have t1 : P1.size ≤ 24 := by rw [← r1, ByteArray.size_append]; show 4 + _ ≤ _; omega
  obtain ⟨P2, r2⟩ : ∃ P, P1 ++ (⟨#[32]⟩ : ByteArray) = P := ⟨_, rfl⟩
  have g2 : ¬ 9223372036854775807 < P1.size + 1 := by omega
  have t2 : P2.size ≤ 25 := by rw [← r2, ByteArray.size_append]; show _ + 1 ≤ _; omega
  obtain ⟨P3, r3⟩ : ∃ P, P2 ++ T1 = P := ⟨_, rfl⟩
  have g3 : ¬ 9223372036854775807 < P2.size + T1.size := by omega
  have HS := Lib.hid (show strB (joinW 32 (wordsF ⟨4, y, v, l⟩)) = P3 by
    rw [← r3, ← r2, ← r1, ← qT0, ← qT1, show (⟨#[32]⟩ : ByteArray) = strB [32] from rfl, show (⟨#[98, 105, 100, 32]⟩ : ByteArray) = strB [98, 105, 100, 32] from rfl]
    simp only [strB_app]
    congr 1
    show joinW 32 [tBid, decB y, decB v] = _
    simp [joinW, tBid])
  clear tT0 tT1 t1 t2
  have HX := Lib.hid (Blk.new w (stepC 4 y v (.slice ua l.length uc)) 42 w.heap.size rfl)
  have HR := Lib.hid ((right_z ⟨4, y, v, l⟩).trans hr)
  clear hr
  go_enter Tryd.func53, Tryd.ntmps53
  go_wp2_with (refine load_blk (by rfl) 42 _ (by rfl) w.heap.size (by rfl) _ _ HX.out _ Tryd.underlying42 rfl (by kernel_rfl) ?_)
  refine (rsright_any 4 y v ua l.length uc _).mono ?_
  rintro e w1 ⟨rfl, hb⟩
  have HB := Lib.hid (((Below.refl w.heap.size w).alloc (Nat.le_refl _) (.cells (stepC 4 y v (.slice ua l.length uc)) 42)).trans (hb.mono (by simp)))
  replace HX := Lib.hid (HX.out.below hb (by simp))
  clear hb
  rw [HR.out]
  have c0 : w1.cell? ⟨w.heap.size, 0, none⟩ = some (.int .i64 4) := HX.out.cell 0 rfl
  go_upto_region 9 with fail
  refine wp_region_held_drew (S := (fun w' => w'.cell? ⟨w.heap.size, 1, none⟩ = some (.int .i64 y) ∧ w'.cell? ⟨w.heap.size, 2, none⟩ = some (.int .i64 v))) (by kernel_rfl) ⟨HX.out.cell 1 rfl, HX.out.cell 2 rfl⟩ (fun hHeld => ?_)
  replace HX := Lib.hid HX.out.drew
  replace HB := Lib.hid HB.out.drew
  clear c0
  generalize w1.drew = w2 at HX HB hHeld ⊢
  refine wpAnyH_take (i := 0) (oi := ⟨some 27, _, _, _, _, _⟩) (v := ?_) rfl (by kernel_rfl) (by kernel_rfl) (by kernel_rfl) (fun _ _ _ h => h) (Or.inl ⟨by rfl, ?_⟩) (by assumption) ?_
  rotate_left
  · (intro w hSw; (try dsimp only at hSw); go_simp; (try with_reducible rfl))
  simp only [Act.put, List.setIfInBounds_toArray, List.set_cons_zero, List.set_cons_succ]
  refine wpAnyH_take (i := 1) (oi := ⟨some 28, _, _, _, _, _⟩) (v := ?_) rfl (by kernel_rfl) (by kernel_rfl) (by kernel_rfl) (fun _ _ _ h => h) (Or.inl ⟨by rfl, ?_⟩) (by assumption) ?_
  rotate_left
  · (intro w hSw; (try dsimp only at hSw); go_simp; (try with_reducible rfl))
  simp only [Act.put, List.setIfInBounds_toArray, List.set_cons_zero, List.set_cons_succ]
  refine wpAnyH_take (i := 5) (oi := ⟨some 32, _, _, _, _, _⟩) (v := ?_) rfl (by kernel_rfl) (by kernel_rfl) (by kernel_rfl) (fun _ _ _ h => h) (Or.inl ⟨by rfl, ?_⟩) (by assumption) ?_
  rotate_left
  · (intro w hSw; (try dsimp only at hSw); go_simp; (try with_reducible rfl))
  simp only [Act.put, List.setIfInBounds_toArray, List.set_cons_zero, List.set_cons_succ]
  refine wpAnyH_take (i := 6) (oi := ⟨some 33, _, _, _, _, _⟩) (v := ?_) rfl (by kernel_rfl) (by kernel_rfl) (by kernel_rfl) (fun _ _ _ h => h) (Or.inl ⟨by rfl, ?_⟩) (by assumption) ?_
  rotate_left
  · (intro w hSw; (try dsimp only at hSw); go_simp; (try with_reducible rfl))
  simp only [Act.put, List.setIfInBounds_toArray, List.set_cons_zero, List.set_cons_succ]
  refine wpAnyH_ready (rs := [2]) (by kernel_rfl) (by simp) ?_
  refine AllReadyH.cons (o := ⟨some 29, _, _, _, _, _⟩) rfl (fun KK hK => ?_) AllReadyH.nil
  go_simp
  refine (rdecimal_any _ (by omega) (by omega) _).mono ?_
  rintro e WX1 ⟨rfl, hb⟩
  replace HX := Lib.hid (HX.out.below hb HX.out.lt)
  replace HB := Lib.hid (HB.out.trans (hb.mono HB.out.size))
  clear hb
  refine hK.out _ _ ⟨HX.out.cell 1 rfl, HX.out.cell 2 rfl⟩ (fun hHeld => ?_)
  clear hK; try clear KK
  try simp only [Act.put, List.setIfInBounds_toArray, List.set_cons_zero, List.set_cons_succ]
  refine wpAnyH_take (i := 3) (oi := ⟨some 30, _, _, _, _, _⟩) (v := ?_) rfl (by kernel_rfl) (by kernel_rfl) (by kernel_rfl) (fun _ _ _ h => h) (Or.inl ⟨by rfl, ?_⟩) (by assumption) ?_
  rotate_left
  · (intro w hSw; (try dsimp only at hSw); go_simp; (try with_reducible rfl))
  simp only [Act.put, List.setIfInBounds_toArray, List.set_cons_zero, List.set_cons_succ]
  refine wpAnyH_take (i := 4) (oi := ⟨some 31, _, _, _, _, _⟩) (v := ?_) rfl (by kernel_rfl) (by kernel_rfl) (by kernel_rfl) (fun _ _ _ h => h) (Or.inl ⟨by rfl, ?_⟩) (by assumption) ?_
  rotate_left
  · (intro w hSw; (try dsimp only at hSw); go_simp; (try with_reducible rfl))
  simp only [Act.put, List.setIfInBounds_toArray, List.set_cons_zero, List.set_cons_succ]
  refine wpAnyH_ready (rs := [7]) (by kernel_rfl) (by simp) ?_
  refine AllReadyH.cons (o := ⟨some 34, _, _, _, _, _⟩) rfl (fun KK hK => ?_) AllReadyH.nil
  go_simp
  refine (rdecimal_any _ (by omega) (by omega) _).mono ?_
  rintro e WX2 ⟨rfl, hb⟩
  replace HX := Lib.hid (HX.out.below hb HX.out.lt)
  replace HB := Lib.hid (HB.out.trans (hb.mono HB.out.size))
  clear hb
  refine hK.out _ _ ⟨HX.out.cell 1 rfl, HX.out.cell 2 rfl⟩ (fun hHeld => ?_)
  clear hK; try clear KK
  try simp only [Act.put, List.setIfInBounds_toArray, List.set_cons_zero, List.set_cons_succ]
  refine wpAnyH_take (i := 8) (oi := ⟨some 35, _, _, _, _, _⟩) (v := ?_) rfl (by kernel_rfl) (by kernel_rfl) (by kernel_rfl) (fun _ _ _ h => h) (Or.inl ⟨by rfl, ?_⟩) (by assumption) ?_
  rotate_left
  · (intro w hSw; (try dsimp only at hSw); go_simp; (try with_reducible rfl))
  simp only [Act.put, List.setIfInBounds_toArray, List.set_cons_zero, List.set_cons_succ]
  refine wpAnyH_take (i := 9) (oi := ⟨some 2, _, _, _, _, _⟩) (v := ?_) rfl (by kernel_rfl) (by kernel_rfl) (by kernel_rfl) (fun _ _ _ h => h) (Or.inl ⟨by rfl, ?_⟩) (by assumption) ?_
  rotate_left
  · (intro w hSw; (try dsimp only at hSw); go_simp; (try with_reducible rfl))
  simp only [Act.put, List.setIfInBounds_toArray, List.set_cons_zero, List.set_cons_succ]
  refine wpAnyH_take (i := 10) (oi := ⟨some 3, _, _, _, _, _⟩) (v := ?_) rfl (by kernel_rfl) (by kernel_rfl) (by kernel_rfl) (fun _ _ _ h => h) (Or.inl ⟨by rfl, ?_⟩) (by assumption) ?_
  rotate_left
  · (intro w hSw; (try dsimp only at hSw); go_simp; (try with_reducible rfl))
  simp only [Act.put, List.setIfInBounds_toArray, List.set_cons_zero, List.set_cons_succ]
  refine wpAnyH_done (by kernel_rfl) ?_ _
  clear hHeld
  go_wp2_with fail
  go_ret2
  refine ⟨?_, HB.out⟩
  rw [HL.out.1, HL.out.2, HS.out]
  rfl
set_option maxRecDepth 20000 in
set_option maxHeartbeats 4000000 in
theorem rline_cmd (M : Nat) (l l' : List Nat) (c : Cmd) (hd : decF l = .ok c l') (hby : ∀ b ∈ l, b < 256) (hl : l.length ≤ 100000) (ua : Option Addr) (uc : Nat) (hr : rightS ⟨1, 0, 0, l⟩ = true) (w : World) (hM : M ≤ w.heap.size) (ha : AtB 0 M l (.slice ua l.length uc) w) :
    Calls Tryd.prog 53 #[.agg (stepC 1 0 0 (.slice ua l.length uc))] w (LnDs ⟨1, 0, 0, l⟩ w) := by
  have HL := Lib.hid (ln_eq hr)
  obtain ⟨rfl, hc, hf, hp, hq⟩ := dec_ok hby hd
  obtain ⟨ck, cs, ci, ca, cb, ct, cp, cq, cf⟩ := c
  generalize hC : (⟨ck, cs, ci, ca, cb, ct, cp, cq, cf⟩ : Cmd) = c at hd hc hf hp hq
  have HCC := Lib.hid hC
  have HW := Lib.hid (show wordsF ⟨1, 0, 0, l⟩ = wordsC c by unfold wordsF; dsimp only; rw [if_neg (by decide), if_neg (by decide), if_neg (by decide), hd])
  have HV := Lib.hid (show decV (decF l) = (c, 0) by rw [hd]; rfl)
  have HD := Lib.hid (fun w2 (hb : Below w.heap.size w w2) (hs : w.heap.size ≤ w2.heap.size) => rdecode_any M l hl hby _ w2 (ha.below hM hb) (Nat.le_trans hM hs))
  have HC := Lib.hid (fun w => rcommand_any c hc hp hq w)
  clear hby hd ha hc hf hp hq
  have HX := Lib.hid (Blk.new w (stepC 1 0 0 (.slice ua l.length uc)) 42 w.heap.size rfl)
  have HR := Lib.hid ((right_z ⟨1, 0, 0, l⟩).trans hr)
  clear hr
  go_enter Tryd.func53, Tryd.ntmps53
  go_wp2_with (refine load_blk (by rfl) 42 _ (by rfl) w.heap.size (by rfl) _ _ HX.out _ Tryd.underlying42 rfl (by kernel_rfl) ?_)
  refine (rsright_any 1 0 0 ua l.length uc _).mono ?_
  rintro e w1 ⟨rfl, hb⟩
  have HB := Lib.hid (((Below.refl w.heap.size w).alloc (Nat.le_refl _) (.cells (stepC 1 0 0 (.slice ua l.length uc)) 42)).trans (hb.mono (by simp)))
  replace HX := Lib.hid (HX.out.below hb (by simp))
  clear hb
  rw [HR.out]
  have c0 : w1.cell? ⟨w.heap.size, 0, none⟩ = some (.int .i64 1) := HX.out.cell 0 rfl
  have c3 : w1.cell? ⟨w.heap.size, 3, none⟩ = some (.slice ua l.length uc) := HX.out.cell 3 rfl
  go_wp2_with fail
  refine (HD.out w1 HB.out HB.out.size).mono ?_
  rintro e w2 ⟨rfl, hb2⟩
  rw [HV.out, ← HCC.out]
  dsimp only [Cmd.cells]
  replace HB := Lib.hid ((HB.out.trans (hb2.mono HB.out.size)).alloc (Nat.le_trans HB.out.size hb2.size) (.cells #[.int .i64 ck, .int .i64 cs, .int .i64 ci, .int .i64 ca, .int .i64 cb, .int .i64 ct, .int .i64 cp, .int .i64 cq, .int .i64 cf] 164))
  have HY := Lib.hid (Blk.new w2 #[.int .i64 ck, .int .i64 cs, .int .i64 ci, .int .i64 ca, .int .i64 cb, .int .i64 ct, .int .i64 cp, .int .i64 cq, .int .i64 cf] 164 w2.heap.size rfl)
  clear hb2 c0 c3 HX
  go_upto_region 11 with fail
  generalize w2.alloc (.cells #[.int .i64 ck, .int .i64 cs, .int .i64 ci, .int .i64 ca, .int .i64 cb, .int .i64 ct, .int .i64 cp, .int .i64 cq, .int .i64 cf] 164) = w3 at HB HY ⊢
  generalize w2.heap.size = C at HY ⊢
  have HC2 := Lib.hid (HC.out w3)
  rw [← HCC.out] at HC2
  dsimp only [Cmd.cells] at HC2
  go_wp2_with (refine load_blk (by rfl) 164 _ (by rfl) C (by rfl) _ _ HY.out _ Tryd.underlying164 rfl (by kernel_rfl) ?_)
  refine HC2.out.mono ?_
  rintro e w4 ⟨rfl, hb4⟩
  replace HB := Lib.hid (HB.out.trans (hb4.mono HB.out.size))
  clear hb4 HC2
  go_wp2_with fail
  go_ret2
  refine ⟨?_, HB.out⟩
  rw [HL.out.1, HL.out.2, HW.out, ← HCC.out]
  rfl
theorem hex_cut (d : Nat) (h : d < 16) : (⟨#[48, 49, 50, 51, 52, 53, 54, 55, 56, 57, 97, 98, 99, 100, 101, 102]⟩ : ByteArray).extract d (d + 1) = strB [hx d] := by
  apply ByteArray.ext
  have : ∀ d : Fin 16, ((⟨#[48, 49, 50, 51, 52, 53, 54, 55, 56, 57, 97, 98, 99, 100, 101, 102]⟩ : ByteArray).extract d.1 (d.1 + 1)).data = (strB [hx d.1]).data := by decide +kernel
  exact this ⟨d, h⟩
set_option maxRecDepth 20000 in
set_option maxHeartbeats 4000000 in
theorem rline_raw (M : Nat) (l : List Nat) (f : Int) (hd : decF l = .bad f) (hby : ∀ b ∈ l, b < 256) (ua : Option Addr) (uc : Nat) (hr : rightS ⟨1, 0, 0, l⟩ = true) (w : World) (hM : M ≤ w.heap.size) (ha : AtB 0 M l (.slice ua l.length uc) w) :
    Calls Tryd.prog 53 #[.agg (stepC 1 0 0 (.slice ua l.length uc))] w (LnDs ⟨1, 0, 0, l⟩ w) := by
  have HL := Lib.hid (ln_eq hr)
  have hl : l.length ≤ 64 := by
    have h : ((0 : Int) == 0 && ((0 : Int) == 0 && decide (l.length ≤ 64))) = true := hr
    simpa using h
  have hf : (f == 0) = false := beq_eq_false_iff_ne.2 (dec_bad_ne l f hd)
  have HW := Lib.hid (show joinW 32 (wordsF ⟨1, 0, 0, l⟩) = rawS l by
    unfold wordsF rawS
    dsimp only
    rw [if_neg (by decide), if_neg (by decide), if_neg (by decide), hd]
    dsimp only
    by_cases h : l = []
    · rw [if_pos h, if_pos h]; simp [joinW]
    · rw [if_neg h, if_neg h]; rfl)
  have HV := Lib.hid (show decV (decF l) = (zeroC, f) by rw [hd]; rfl)
  have HD := Lib.hid (fun w2 (hb : Below w.heap.size w w2) (hs : w.heap.size ≤ w2.heap.size) => rdecode_any M l (by omega) hby _ w2 (ha.below hM hb) (Nat.le_trans hM hs))
  have HA := Lib.hid (fun w2 (hb : Below w.heap.size w w2) => ha.below hM hb)
  have HBY := Lib.hid hby
  clear hby hd ha
  have HX := Lib.hid (Blk.new w (stepC 1 0 0 (.slice ua l.length uc)) 42 w.heap.size rfl)
  have HR := Lib.hid ((right_z ⟨1, 0, 0, l⟩).trans hr)
  clear hr
  go_enter Tryd.func53, Tryd.ntmps53
  go_wp2_with (refine load_blk (by rfl) 42 _ (by rfl) w.heap.size (by rfl) _ _ HX.out _ Tryd.underlying42 rfl (by kernel_rfl) ?_)
  refine (rsright_any 1 0 0 ua l.length uc _).mono ?_
  rintro e w1 ⟨rfl, hb⟩
  have HB := Lib.hid (((Below.refl w.heap.size w).alloc (Nat.le_refl _) (.cells (stepC 1 0 0 (.slice ua l.length uc)) 42)).trans (hb.mono (by simp)))
  replace HX := Lib.hid (HX.out.below hb (by simp))
  clear hb
  rw [HR.out]
  have c0 : w1.cell? ⟨w.heap.size, 0, none⟩ = some (.int .i64 1) := HX.out.cell 0 rfl
  have c3 : w1.cell? ⟨w.heap.size, 3, none⟩ = some (.slice ua l.length uc) := HX.out.cell 3 rfl
  go_wp2_with fail
  refine (HD.out w1 HB.out HB.out.size).mono ?_
  rintro e w2 ⟨rfl, hb2⟩
  rw [HV.out]
  dsimp only [Cmd.cells, zeroC]
  replace HB := Lib.hid ((HB.out.trans (hb2.mono HB.out.size)).alloc (Nat.le_trans HB.out.size hb2.size) (.cells zero9 164))
  replace HX := Lib.hid ((HX.out.below hb2 HX.out.lt).old (.cells zero9 164))
  clear hb2 c0 c3 HD
  go_upto_region 11 with fail
  change Code.wp _ _ _ _ (w2.alloc (.cells zero9 164))
  generalize w2.alloc (.cells zero9 164) = w3 at HB HX ⊢
  generalize w2.heap.size = C
  replace HA := Lib.hid (HA.out w3 HB.out)
  go_wp2_with fail
  go_loopw [6, 7] (fun sv iv wr => ∃ k : Nat, k ≤ l.length ∧ iv = .int .i64 (k : Int) ∧ sv = .string (strB (rawS (l.take k))) ∧ Blk wr w.heap.size (stepC 1 0 0 (.slice ua l.length uc)) 42 ∧ Below w.heap.size w wr ∧ AtB 0 M l (.slice ua l.length uc) wr) (fun _ iv _ => l.length - (intOf iv).toNat)
  case atStart => exact ⟨0, by omega, rfl, rfl, HX.out, HB.out, HA.out⟩
  case round =>
    obtain ⟨k, hk, rfl, rfl, hx, hb, ha⟩ := hrel
    replace HX := Lib.hid hx
    replace HB := Lib.hid hb
    replace HA := Lib.hid ha
    clear hx hb ha
    have c3 : wr.cell? ⟨w.heap.size, 3, none⟩ = some (.slice ua l.length uc) := HX.out.cell 3 rfl
    by_cases hlt : k < l.length
    · have g1 : (k : Int) < (l.length : Int) := by omega
      have cj : ∃ g o, ua = some ⟨g, o, none⟩ ∧ wr.cell? ⟨g, o + k, none⟩ = some (.int .u8 (l[k] : Int)) := by
        rcases HA.out with ⟨h1, -⟩ | ⟨g, o, c', he, -, -, -, -, hcell⟩
        · rw [h1] at hlt; simp at hlt
        · injection he with he1 he2 he3
          exact ⟨g, o, he1, hcell k hlt⟩
      obtain ⟨g, o, rfl, cj⟩ := cj
      have hb := HBY.out l[k] (List.getElem_mem hlt)
      have HN := Lib.hid (show rawS (l.take (k + 1)) = rawS (l.take k) ++ (if l.take k = [] then [32] else []) ++ [hx (l[k] / 16), hx (l[k] % 16)] by rw [List.take_succ_eq_append_getElem hlt, rawS_snoc])
      generalize l[k] = b at cj hb HN
      have e1 : (b : Int) / 16 = ((b / 16 : Nat) : Int) := by omega
      have e2 : (b : Int) % 16 = ((b % 16 : Nat) : Int) := by omega
      have hd1 : b / 16 < 16 := by omega
      have hd2 : b % 16 < 16 := by omega
      generalize b / 16 = d1 at e1 hd1 HN
      generalize b % 16 = d2 at e2 hd2 HN
      have x1 := hex_cut d1 hd1
      have x2 := hex_cut d2 hd2
      have hs0 : (strB (rawS (l.take k))).size ≤ 140 := by rw [strB_size]; have := rawS_len (l.take k); rw [List.length_take] at this; omega
      obtain ⟨H1, h1⟩ : ∃ H, strB [hx d1] = H := ⟨_, rfl⟩
      obtain ⟨H2, h2⟩ : ∃ H, strB [hx d2] = H := ⟨_, rfl⟩
      have z1 : H1.size = 1 := by rw [← h1, strB_size]; rfl
      have z2 : H2.size = 1 := by rw [← h2, strB_size]; rfl
      rw [h1] at x1
      rw [h2] at x2
      have HH1 := Lib.hid h1
      have HH2 := Lib.hid h2
      clear h1 h2
      have b1 : (d1 : Int) < 16 := by omega
      have b2 : (d2 : Int) < 16 := by omega
      generalize hs' : strB (rawS (l.take k)) = S0 at hs0 ⊢
      have HS := Lib.hid hs'
      clear hs'
      by_cases hk0 : k = 0
      · have HT := Lib.hid (show l.take k = [] by rw [hk0]; rfl)
        have z0 : ((k : Int) == 0) = true := beq_iff_eq.2 (by omega)
        obtain ⟨S1, hs1⟩ : ∃ P, S0 ++ (⟨#[32]⟩ : ByteArray) = P := ⟨_, rfl⟩
        have hg1 : ¬ 9223372036854775807 < S0.size + 1 := by omega
        have hz1 : S1.size ≤ 141 := by rw [← hs1, ByteArray.size_append]; show _ + 1 ≤ _; omega
        have HS1 := Lib.hid (show S1 = strB (rawS (l.take k) ++ (if l.take k = [] then [32] else [])) by rw [if_pos HT.out, ← hs1, ← HS.out, show (⟨#[32]⟩ : ByteArray) = strB [32] from rfl, strB_app])
        clear hk0
        obtain ⟨S2, hs2⟩ : ∃ P, S1 ++ H1 = P := ⟨_, rfl⟩
        have hg2 : ¬ 9223372036854775807 < (S1).size + H1.size := by omega
        have hz2 : S2.size ≤ 142 := by rw [← hs2, ByteArray.size_append]; omega
        obtain ⟨S3, hs3⟩ : ∃ P, S2 ++ H2 = P := ⟨_, rfl⟩
        have hg3 : ¬ 9223372036854775807 < S2.size + H2.size := by omega
        have HS3 := Lib.hid (show S3 = strB (rawS (l.take (k + 1))) by rw [HN.out, ← hs3, ← hs2, HS1.out, ← HH1.out, ← HH2.out, strB_app, strB_app]; congr 1; simp)
        clear hz1 hz2 hs0
        rw [z1] at hg2
        rw [z2] at hg3
        go_upto_region 19 with fail
        go_quiet (fail)
        replace HX := Lib.hid (HX.out.drewN nq)
        replace HB := Lib.hid (HB.out.drewN nq)
        replace HA := Lib.hid (HA.out.below (Nat.le_refl _) ((Below.refl _ _).drewN nq))
        go_wp2_with fail
        go_roundw
        case rel => exact ⟨k + 1, by omega, by go_num, by rw [← HS3.out], HX.out, HB.out, HA.out⟩
        case measure => simp [intOf]; omega
      · have HT := Lib.hid (show ¬ l.take k = [] by rw [List.take_eq_nil_iff]; rintro (h | h); exact hk0 h; rw [h] at hlt; simp at hlt)
        have z0 : ((k : Int) == 0) = false := beq_eq_false_iff_ne.2 (by omega)
        have HS1 := Lib.hid (show S0 = strB (rawS (l.take k) ++ (if l.take k = [] then [32] else [])) by rw [if_neg HT.out, List.append_nil, HS.out])
        have hz1 : S0.size ≤ 141 := by omega
        clear hk0
        obtain ⟨S2, hs2⟩ : ∃ P, S0 ++ H1 = P := ⟨_, rfl⟩
        have hg2 : ¬ 9223372036854775807 < (S0).size + H1.size := by omega
        have hz2 : S2.size ≤ 142 := by rw [← hs2, ByteArray.size_append]; omega
        obtain ⟨S3, hs3⟩ : ∃ P, S2 ++ H2 = P := ⟨_, rfl⟩
        have hg3 : ¬ 9223372036854775807 < S2.size + H2.size := by omega
        have HS3 := Lib.hid (show S3 = strB (rawS (l.take (k + 1))) by rw [HN.out, ← hs3, ← hs2, HS1.out, ← HH1.out, ← HH2.out, strB_app, strB_app]; congr 1; simp)
        clear hz1 hz2 hs0
        rw [z1] at hg2
        rw [z2] at hg3
        go_upto_region 19 with fail
        go_quiet (fail)
        replace HX := Lib.hid (HX.out.drewN nq)
        replace HB := Lib.hid (HB.out.drewN nq)
        replace HA := Lib.hid (HA.out.below (Nat.le_refl _) ((Below.refl _ _).drewN nq))
        go_wp2_with fail
        go_roundw
        case rel => exact ⟨k + 1, by omega, by go_num, by rw [← HS3.out], HX.out, HB.out, HA.out⟩
        case measure => simp [intOf]; omega
    · obtain rfl : k = l.length := by omega
      rw [List.take_length]
      go_wp2_with fail
      go_ret2
      refine ⟨?_, HB.out⟩
      rw [HL.out.1, HL.out.2, HW.out]
      rfl
/-- damperref35.Line, of any step. -/
theorem rline_any (M : Nat) (s : Stp) (hin : StpIn s) (hl : s.l.length ≤ 100000) (u : Value) (w : World) (hM : M ≤ w.heap.size) (ha : AtB 0 M s.l u w) :
    Calls Tryd.prog 53 #[.agg (stepC s.k s.y s.v u)] w (LineIs (lineF s) w) := by
  obtain ⟨k, y, v, l⟩ := s
  obtain ⟨hv, hb⟩ := hin
  dsimp only at *
  obtain ⟨a, c, rfl, -, -⟩ := ha.len
  cases hr : rightS ⟨k, y, v, l⟩ with
  | false => exact rline_wrong k y v l a c hr w
  | true =>
    by_cases h1 : k = 1
    · subst h1
      have h : (y == 0 && (v == 0 && decide (l.length ≤ 64))) = true := hr
      simp only [Bool.and_eq_true, beq_iff_eq] at h
      obtain ⟨rfl, rfl, -⟩ := h
      cases hd : decF l with
      | ok c' l' => exact rline_cmd M l l' c' hd hb hl a c hr w hM ha
      | bad f => exact rline_raw M l f hd hb a c hr w hM ha
    by_cases h2 : k = 2 ∨ k = 3
    · exact rline_num k y v h2 hv l a c hr w
    by_cases h4 : k = 4
    · subst h4
      have h : (l.isEmpty && (decide (0 ≤ y) && decide (y ≤ 255))) = true := hr
      simp only [Bool.and_eq_true, decide_eq_true_eq] at h
      exact rline_bid y v h.2 hv l a c hr w
    · exfalso
      have : rightS ⟨k, y, v, l⟩ = false := by unfold rightS; dsimp only; rw [if_neg h1, if_neg h2, if_neg h4]
      rw [this] at hr
      cases hr
end Go.Proofs.YtmkcooamgojbpaaDoor.Lines

/- (*words.line).raw; words.Line, of any step. -/
namespace Go.Proofs.YtmkcooamgojbpaaDoor.Lines
open Go.RowKit Go.Proofs.YtmkcooamgojbpaaDoor.Kit Go.Proofs.YtmkcooamgojbpaaDoor.Blk Go.Proofs.YtmkcooamgojbpaaDoor.Dec Go.Proofs.YtmkcooamgojbpaaDoor.Words Go.Proofs.YtmkcooamgojbpaaDoor.Octets Go.Proofs.YtmkcooamgojbpaaDoor.Steps Go.Proofs.YtmkcooamgojbpaaDoor.Cmds
attribute [local go_sem ↓] Go.wp_at_zero Go.wp_at_succ
set_option linter.unusedVariables false

theorem hex_index (d : Nat) (h : d < 16) (W : World) : (Instr.index 9 (.string ⟨#[48, 49, 50, 51, 52, 53, 54, 55, 56, 57, 97, 98, 99, 100, 101, 102]⟩) (.int .u8 (d : Int))).run Tryd.prog W = .ok (.int .u8 ((hx d).toNat : Int)) W := by
  have h1 : d < hexT.length := h
  have h0 : d < (strB hexT).size := by rw [strB_size]; exact h1
  have h2 : hexT[d] = hx d := by have := hexT_at d h; rw [List.getElem?_eq_getElem h1] at this; injection this
  show (Instr.index 9 (.string (strB hexT)) (.int .u8 (d : Int))).run Tryd.prog W = _
  rw [run_index_string W 9 (strB hexT) .u8 (d : Int) Tryd.underlying9, dif_pos ⟨by omega, by omega⟩]
  have h3 := strB_at hexT d h0 h1
  have h4 : (strB hexT)[(d : Int).toNat]'(by simpa using h0) = hexT[d] := by
    have : (d : Int).toNat = d := by omega
    simp only [this]
    exact h3
  rw [h4, h2]
theorem and15 (b : Nat) (hb : b < 256) : bits .and .u8 (b : Int) 15 = ((b % 16 : Nat) : Int) := by
  have key : ∀ b : Fin 256, bits .and .u8 ((b.val : Nat) : Int) 15 = ((b.val % 16 : Nat) : Int) := by decide +kernel
  exact key ⟨b, hb⟩
def rawT (l : List Nat) : List Tok := if l = [] then [tRaw] else [tRaw, hexF l]
theorem hexF_snoc (l : List Nat) (b : Nat) : hexF (l ++ [b]) = hexF l ++ [hx (b / 16)] ++ [hx (b % 16)] := by simp [hexF]
set_option maxRecDepth 20000 in
set_option maxHeartbeats 4000000 in
theorem lraw_any (N P M : Nat) (hNP : N ≤ P) (hM : M ≤ N) (ws : List Tok) (hkw : ws.length ≤ 100) (l : List Nat) (hl : l.length ≤ 100000) (hby : ∀ b ∈ l, b < 256) (v : Value) (w : World) (hN : N ≤ w.heap.size) (hw : LnS N P ws w) (ha : AtB 0 M l v w) :
    Calls Tryd.prog 113 #[.pointer (some ⟨P, 0, none⟩), v] w (LnIs N P (ws ++ rawT l) w) := by
  have HA := Lib.hid ha
  have HBY := Lib.hid hby
  obtain ⟨a, c, rfl, hc1, hc2⟩ := ha.len
  clear ha hby hc2
  go_enter Tryd.func113, Tryd.ntmps113
  go_wp2_with fail
  refine (put_any N P hNP ws [tRaw] (by omega) (by simp) (by simp) w.heap.size _ _ (by simp; omega) (hw.alloc _) (Blk.new _ _ _ _ rfl)).mono ?_
  rintro e w1 ⟨rfl, h1, h2⟩
  have HL := Lib.hid h1
  have HK := Lib.hid (show KeepL N w w1 from (KeepB.alloc hN _).trans h2)
  replace HA := Lib.hid (HA.out.below hM HK.out.bel)
  have hN1 : N ≤ w1.heap.size := Nat.le_trans hN HK.out.bel.size
  clear h1 h2 hw
  by_cases h0 : l = []
  · have hz : ((l.length : Int) == 0) = true := by rw [h0]; rfl
    have HR := Lib.hid (show rawT l = [tRaw] by unfold rawT; rw [if_pos h0])
    go_wp2_with fail
    go_end0
    exact ⟨rfl, by rw [HR.out]; exact HL.out, HK.out⟩
  · have hz : ((l.length : Int) == 0) = false := by rw [beq_eq_false_iff_ne]; have := List.length_pos_iff.2 h0; omega
    have HR := Lib.hid (show rawT l = [tRaw] ++ [hexF l] by unfold rawT; rw [if_neg h0]; rfl)
    have HB := Lib.hid (bd_new w1 w1.heap.size rfl)
    have HBL := Lib.hid ((Below.refl w1.heap.size w1).alloc (Nat.le_refl _) (.cells #[.pointer none, .slice none 0 0] 150))
    go_upto_region 3 with fail
    generalize w1.alloc (.cells #[.pointer none, .slice none 0 0] 150) = w2 at HB HBL ⊢
    obtain ⟨B, hB⟩ : ∃ B, w1.heap.size = B := ⟨_, rfl⟩
    rw [hB] at HB HBL hN1 ⊢
    have HSB := Lib.hid hB
    clear hB
    go_wp2_with fail
    go_loopw [15] (fun iv wr => ∃ k : Nat, k ≤ l.length ∧ iv = .int .i64 (k : Int) ∧ BdS B (hexF (l.take k)) wr ∧ Below B w1 wr) (fun iv _ => l.length - (intOf iv).toNat)
    case atStart => exact ⟨0, by omega, rfl, HB.out, HBL.out⟩
    case round =>
      obtain ⟨k, hk, rfl, hbd, hbl⟩ := hrel
      replace HB := Lib.hid hbd
      replace HBL := Lib.hid hbl
      clear hbd hbl
      by_cases hlt : k < l.length
      · have g1 : (k : Int) < (l.length : Int) := by omega
        have cj : ∃ g o, a = some ⟨g, o, none⟩ ∧ wr.cell? ⟨g, o + k, none⟩ = some (.int .u8 (l[k] : Int)) := by
          rcases HA.out with ⟨h1, -⟩ | ⟨g, o, c', he, -, -, -, hgm, hcell⟩
          · exact absurd h1 h0
          · injection he with he1 he2 he3
            exact ⟨g, o, he1, by rw [HBL.out.cell (p := ⟨g, o + k, none⟩) (by show g < B; omega)]; exact hcell k hlt⟩
        obtain ⟨g, o, rfl, cj⟩ := cj
        have hb := HBY.out l[k] (List.getElem_mem hlt)
        have HN := Lib.hid (show hexF (l.take (k + 1)) = hexF (l.take k) ++ [hx (l[k] / 16)] ++ [hx (l[k] % 16)] by rw [List.take_succ_eq_append_getElem hlt, hexF_snoc])
        have hhl : (hexF (l.take k)).length ≤ 200000 := by rw [hex_len, List.length_take]; omega
        generalize l[k] = b at cj hb HN
        have e1 : (b : Int) / 16 = ((b / 16 : Nat) : Int) := by omega
        have e2 := and15 b hb
        have hd1 : b / 16 < 16 := by omega
        have hd2 : b % 16 < 16 := by omega
        generalize b / 16 = d1 at e1 hd1 HN
        generalize b % 16 = d2 at e2 hd2 HN
        have x1 := fun W => hex_index d1 hd1 W
        have x2 := fun W => hex_index d2 hd2 W
        go_wp2_with fail
        refine (writeByte_any B (hexF (l.take k)) (hx d1) wr HB.out (by omega)).mono ?_
        rintro e w4 ⟨rfl, hb4, hl4⟩
        have HB4 := Lib.hid hb4
        have HBL4 := Lib.hid (HBL.out.trans hl4)
        clear hb4 hl4
        go_wp2_with fail
        refine (writeByte_any B (hexF (l.take k) ++ [hx d1]) (hx d2) w4 HB4.out (by simp; omega)).mono ?_
        rintro e w5 ⟨rfl, hb5, hl5⟩
        have HB5 := Lib.hid hb5
        have HBL5 := Lib.hid (HBL4.out.trans hl5)
        clear hb5 hl5
        go_wp2_with fail
        go_roundw
        case rel => exact ⟨k + 1, by omega, by go_num, by rw [HN.out]; exact HB5.out, HBL5.out⟩
        case measure => simp [intOf]; omega
      · obtain rfl : k = l.length := by omega
        rw [List.take_length] at HB
        go_wp2_with fail
        refine (string_any B (hexF l) wr HB.out).mono ?_
        rintro e w4 ⟨rfl, hl4⟩
        replace HBL := Lib.hid (HBL.out.trans hl4)
        have hb1 : Below w1.heap.size w1 w4 := by rw [HSB.out]; exact HBL.out
        have HL4 := Lib.hid (HL.out.below hb1)
        have HK4 := Lib.hid (HK.out.trans (KeepB.below (by rw [HSB.out]; exact hN1) hb1))
        have hN4 : N ≤ w4.heap.size := Nat.le_trans hN1 (by rw [← HSB.out]; exact hb1.size)
        clear hl4 hb1
        go_wp2_with fail
        refine (put_any N P hNP (ws ++ [tRaw]) [hexF l] (by simp; omega) (by simp) (by simp) w4.heap.size _ _ (by simp; omega) (HL4.out.alloc _) (Blk.new _ _ _ _ rfl)).mono ?_
        rintro e w5 ⟨rfl, h1, h2⟩
        have HL5 := Lib.hid h1
        have HK5 := Lib.hid (HK4.out.trans ((KeepB.alloc hN4 _).trans h2))
        clear h1 h2
        go_wp2_with fail
        go_end0
        exact ⟨rfl, by rw [HR.out, ← List.append_assoc]; exact HL5.out, HK5.out⟩
end Go.Proofs.YtmkcooamgojbpaaDoor.Lines

/- words.Line, of any step. -/
namespace Go.Proofs.YtmkcooamgojbpaaDoor.Lines
open Go.RowKit Go.Proofs.YtmkcooamgojbpaaDoor.Kit Go.Proofs.YtmkcooamgojbpaaDoor.Blk Go.Proofs.YtmkcooamgojbpaaDoor.Dec Go.Proofs.YtmkcooamgojbpaaDoor.Words Go.Proofs.YtmkcooamgojbpaaDoor.Octets Go.Proofs.YtmkcooamgojbpaaDoor.Steps Go.Proofs.YtmkcooamgojbpaaDoor.Cmds
attribute [local go_sem ↓] Go.wp_at_zero Go.wp_at_succ
set_option linter.unusedVariables false

theorem join_le (m : Nat) : ∀ ws : List Tok, (∀ w ∈ ws, w.length ≤ m) → (joinW 32 ws).length ≤ ws.length * (m + 1) := by
  intro ws
  induction ws with
  | nil => intro _; simp [joinW]
  | cons w ws ih =>
    intro h
    have h1 := h w (by simp)
    have h2 := ih (fun x hx => h x (List.mem_cons_of_mem _ hx))
    cases ws with
    | nil => simp [joinW]; omega
    | cons v ws =>
      rw [join_cons (by simp), List.length_append, List.length_cons, List.length_cons, Nat.succ_mul]
      omega
theorem wordsC_le {c : Cmd} (hr : rightC c = true) (hp : -9223372036854775808 ≤ c.p ∧ c.p ≤ 9223372036854775807) (hq : -9223372036854775808 ≤ c.q ∧ c.q ≤ 9223372036854775807) : (∀ w ∈ wordsC c, w.length ≤ 200) ∧ (wordsC c).length ≤ 11 := by
  obtain ⟨hk, hs, hi, hn⟩ := right_in hr
  have h20 : ∀ n : Int, -9223372036854775808 ≤ n ∧ n ≤ 9223372036854775807 → (decB n).length ≤ 200 := fun n h => Nat.le_trans (dec_len h.1 h.2) (by decide)
  have kn : tNew.length ≤ 200 := by decide
  have kc : tCancel.length ≤ 200 := by decide
  have kr : tReplace.length ≤ 200 := by decide
  unfold wordsC
  split
  · rename_i h1
    obtain ⟨ha, hb, ht, hf⟩ := hn h1
    have hfl : (∀ w ∈ flagW c.f.toNat, w.length ≤ 20) ∧ (flagW c.f.toNat).length ≤ 3 := by
      have : ∀ f : Fin 8, (∀ w ∈ flagW f.1, w.length ≤ 20) ∧ (flagW f.1).length ≤ 3 := by decide
      exact this ⟨c.f.toNat, by omega⟩
    refine ⟨fun w hw => ?_, by rw [List.length_append]; have := hfl.2; simp; omega⟩
    rcases List.mem_append.1 hw with hw | hw
    · simp only [List.mem_cons, List.not_mem_nil, or_false] at hw
      rcases hw with rfl | rfl | rfl | rfl | rfl | rfl | rfl | rfl
      · exact kn
      · exact h20 _ (by omega)
      · exact h20 _ (by omega)
      · exact h20 _ (by omega)
      · exact Nat.le_trans (side_len _ (by omega)) (by decide)
      · exact Nat.le_trans (type_len _ (by omega)) (by decide)
      · exact h20 _ hp
      · exact h20 _ hq
    · exact Nat.le_trans (hfl.1 w hw) (by decide)
  split
  · refine ⟨fun w hw => ?_, by simp⟩
    simp only [List.mem_cons, List.not_mem_nil, or_false] at hw
    rcases hw with rfl | rfl | rfl | rfl | rfl
    · exact kr
    · exact h20 _ (by omega)
    · exact h20 _ (by omega)
    · exact h20 _ hp
    · exact h20 _ hq
  · refine ⟨fun w hw => ?_, by simp⟩
    simp only [List.mem_cons, List.not_mem_nil, or_false] at hw
    rcases hw with rfl | rfl | rfl
    · exact kc
    · exact h20 _ (by omega)
    · exact h20 _ (by omega)
theorem line_le {ws : List Tok} (h : (∀ w ∈ ws, w.length ≤ 200) ∧ ws.length ≤ 11) : (joinW 32 ws).length ≤ 140737488355328 := by
  have := join_le 200 ws h.1
  have h2 := h.2
  omega
set_option maxRecDepth 20000 in
set_option maxHeartbeats 4000000 in
theorem line_num (k y v : Int) (hk : k = 2 ∨ k = 3) (hv : -9223372036854775808 ≤ v ∧ v ≤ 9223372036854775807) (l : List Nat) (ua : Option Addr) (uc : Nat) (hr : rightS ⟨k, y, v, l⟩ = true) (w : World) :
    Calls Tryd.prog 52 #[.agg (stepC k y v (.slice ua l.length uc))] w (LnDs ⟨k, y, v, l⟩ w) := by
  have HE := Lib.hid (ln_eq hr)
  have hd := dec_len hv.1 hv.2
  rcases hk with rfl | rfl
  · have HLE := Lib.hid (show (∀ x ∈ [tTick, decB v], x.length ≤ 200) ∧ [tTick, decB v].length ≤ 11 from ⟨fun x hx => by
      simp only [List.mem_cons, List.not_mem_nil, or_false] at hx
      rcases hx with rfl | rfl
      · decide
      · omega, by simp⟩)
    have HX := Lib.hid (Blk.new w (stepC 2 y v (.slice ua l.length uc)) 42 w.heap.size rfl)
    have HR := Lib.hid ((right_z ⟨2, y, v, l⟩).trans hr)
    clear hr
    go_enter Tryd.func52, Tryd.ntmps52
    go_wp2_with (refine load_blk (by rfl) 42 _ (by rfl) w.heap.size (by rfl) _ _ HX.out _ Tryd.underlying42 rfl (by kernel_rfl) ?_)
    refine (sright_any 2 y v ua l.length uc _).mono ?_
    rintro e w1 ⟨rfl, hb⟩
    have HB := Lib.hid (((Below.refl w.heap.size w).alloc (Nat.le_refl _) (.cells (stepC 2 y v (.slice ua l.length uc)) 42)).trans (hb.mono (by simp)))
    replace HX := Lib.hid (HX.out.below hb (by simp))
    clear hb
    rw [HR.out]
    have HL := Lib.hid (show LnS w1.heap.size w1.heap.size [] (w1.alloc (.cells #[.slice none 0 0] 160)) from br_new w1 w1.heap.size rfl)
    have hAN : w.heap.size < w1.heap.size := HX.out.lt
    have HK := Lib.hid ((Below.refl w1.heap.size w1).alloc (Nat.le_refl _) (.cells #[.slice none 0 0] 160))
    replace HX := Lib.hid (HX.out.old (.cells #[.slice none 0 0] 160))
    have hsz : w1.heap.size ≤ (w1.alloc (.cells #[.slice none 0 0] 160)).heap.size := by simp
    go_upto_region 4 with fail
    change Code.wp _ _ _ _ (w1.alloc (.cells #[.slice none 0 0] 160))
    generalize w1.alloc (.cells #[.slice none 0 0] 160) = w2 at HL HX HK hsz ⊢
    have HS1 := Lib.hid HB.out.size
    obtain ⟨N, hN⟩ : ∃ N, w1.heap.size = N := ⟨_, rfl⟩
    rw [hN] at HL hAN HK hsz ⊢
    have HN1 := Lib.hid hN
    clear hN
    have c0 : w2.cell? ⟨w.heap.size, 0, none⟩ = some (.int .i64 2) := HX.out.cell 0 rfl
    go_wp2_with fail
    refine (put_any N N (Nat.le_refl _) [] [tTick] (by decide) (by simp) (by simp) w2.heap.size _ _ (by simp; omega) (HL.out.alloc _) (Blk.new _ _ _ _ rfl)).mono ?_
    rintro e w3 ⟨rfl, h1, h2⟩
    replace HL := Lib.hid (show LnS N N [tTick] w3 from h1)
    have HK3 := Lib.hid ((KeepB.alloc (T := 160) (e := 9) hsz (.cells (strs [tTick]).toArray 9)).trans h2)
    replace HX := Lib.hid (HK3.out.blk _ _ _ HX.out (by decide) (by decide))
    replace HK := Lib.hid (HK.out.trans HK3.out.bel)
    have hs3 : N ≤ w3.heap.size := Nat.le_trans hsz HK3.out.bel.size
    clear h1 h2 HK3 c0
    have c2 : w3.cell? ⟨w.heap.size, 2, none⟩ = some (.int .i64 v) := HX.out.cell 2 rfl
    go_wp2_with fail
    refine (nums_any N N (Nat.le_refl _) [tTick] (by simp) [v] (by simp) (fun n hn => by simp at hn; omega) w3.heap.size _ _ (by simp; omega) (HL.out.alloc _) (Blk.new _ _ _ _ rfl)).mono ?_
    rintro e w4 ⟨rfl, h1, h2⟩
    replace HL := Lib.hid (show LnS N N ([tTick, decB v]) w4 from h1)
    replace HK := Lib.hid (HK.out.trans ((KeepB.alloc (T := 160) (e := 9) hs3 (.cells (ints [v]).toArray 2)).trans h2).bel)
    clear h1 h2
    clear c2
    obtain ⟨g, cap, hv, hc, hg, hcells⟩ := ln_row HL.out (by simp)
    have c3 : w4.cell? ⟨N, 0, none⟩ = some (.slice (some ⟨g, 0, none⟩) _ cap) := hv.cell 0 rfl
    have HJN := Lib.hid (join_any g cap ([tTick, decB v]) w4 hg hc (by have := HLE.out.2; omega) (line_le HLE.out) hcells)
    clear hv hc hg hcells
    go_wp2_with fail
    refine HJN.out.mono ?_
    rintro e wz ⟨rfl, hbz⟩
    have HBZ := Lib.hid ((HB.out.trans (by rw [← HN1.out] at HK; exact HK.out.mono HS1.out)).trans (hbz.mono (by have h1 := HK.out.size; have h2 := HS1.out; have h3 := HN1.out; omega)))
    clear hbz
    go_wp2_with fail
    go_ret2
    exact ⟨by rw [HE.out.1, HE.out.2]; rfl, HBZ.out⟩
  · have HLE := Lib.hid (show (∀ x ∈ [tIndex, decB v], x.length ≤ 200) ∧ [tIndex, decB v].length ≤ 11 from ⟨fun x hx => by
      simp only [List.mem_cons, List.not_mem_nil, or_false] at hx
      rcases hx with rfl | rfl
      · decide
      · omega, by simp⟩)
    have HX := Lib.hid (Blk.new w (stepC 3 y v (.slice ua l.length uc)) 42 w.heap.size rfl)
    have HR := Lib.hid ((right_z ⟨3, y, v, l⟩).trans hr)
    clear hr
    go_enter Tryd.func52, Tryd.ntmps52
    go_wp2_with (refine load_blk (by rfl) 42 _ (by rfl) w.heap.size (by rfl) _ _ HX.out _ Tryd.underlying42 rfl (by kernel_rfl) ?_)
    refine (sright_any 3 y v ua l.length uc _).mono ?_
    rintro e w1 ⟨rfl, hb⟩
    have HB := Lib.hid (((Below.refl w.heap.size w).alloc (Nat.le_refl _) (.cells (stepC 3 y v (.slice ua l.length uc)) 42)).trans (hb.mono (by simp)))
    replace HX := Lib.hid (HX.out.below hb (by simp))
    clear hb
    rw [HR.out]
    have HL := Lib.hid (show LnS w1.heap.size w1.heap.size [] (w1.alloc (.cells #[.slice none 0 0] 160)) from br_new w1 w1.heap.size rfl)
    have hAN : w.heap.size < w1.heap.size := HX.out.lt
    have HK := Lib.hid ((Below.refl w1.heap.size w1).alloc (Nat.le_refl _) (.cells #[.slice none 0 0] 160))
    replace HX := Lib.hid (HX.out.old (.cells #[.slice none 0 0] 160))
    have hsz : w1.heap.size ≤ (w1.alloc (.cells #[.slice none 0 0] 160)).heap.size := by simp
    go_upto_region 4 with fail
    change Code.wp _ _ _ _ (w1.alloc (.cells #[.slice none 0 0] 160))
    generalize w1.alloc (.cells #[.slice none 0 0] 160) = w2 at HL HX HK hsz ⊢
    have HS1 := Lib.hid HB.out.size
    obtain ⟨N, hN⟩ : ∃ N, w1.heap.size = N := ⟨_, rfl⟩
    rw [hN] at HL hAN HK hsz ⊢
    have HN1 := Lib.hid hN
    clear hN
    have c0 : w2.cell? ⟨w.heap.size, 0, none⟩ = some (.int .i64 3) := HX.out.cell 0 rfl
    go_wp2_with fail
    refine (put_any N N (Nat.le_refl _) [] [tIndex] (by decide) (by simp) (by simp) w2.heap.size _ _ (by simp; omega) (HL.out.alloc _) (Blk.new _ _ _ _ rfl)).mono ?_
    rintro e w3 ⟨rfl, h1, h2⟩
    replace HL := Lib.hid (show LnS N N [tIndex] w3 from h1)
    have HK3 := Lib.hid ((KeepB.alloc (T := 160) (e := 9) hsz (.cells (strs [tIndex]).toArray 9)).trans h2)
    replace HX := Lib.hid (HK3.out.blk _ _ _ HX.out (by decide) (by decide))
    replace HK := Lib.hid (HK.out.trans HK3.out.bel)
    have hs3 : N ≤ w3.heap.size := Nat.le_trans hsz HK3.out.bel.size
    clear h1 h2 HK3 c0
    have c2 : w3.cell? ⟨w.heap.size, 2, none⟩ = some (.int .i64 v) := HX.out.cell 2 rfl
    go_wp2_with fail
    refine (nums_any N N (Nat.le_refl _) [tIndex] (by simp) [v] (by simp) (fun n hn => by simp at hn; omega) w3.heap.size _ _ (by simp; omega) (HL.out.alloc _) (Blk.new _ _ _ _ rfl)).mono ?_
    rintro e w4 ⟨rfl, h1, h2⟩
    replace HL := Lib.hid (show LnS N N ([tIndex, decB v]) w4 from h1)
    replace HK := Lib.hid (HK.out.trans ((KeepB.alloc (T := 160) (e := 9) hs3 (.cells (ints [v]).toArray 2)).trans h2).bel)
    clear h1 h2
    clear c2
    obtain ⟨g, cap, hv, hc, hg, hcells⟩ := ln_row HL.out (by simp)
    have c3 : w4.cell? ⟨N, 0, none⟩ = some (.slice (some ⟨g, 0, none⟩) _ cap) := hv.cell 0 rfl
    have HJN := Lib.hid (join_any g cap ([tIndex, decB v]) w4 hg hc (by have := HLE.out.2; omega) (line_le HLE.out) hcells)
    clear hv hc hg hcells
    go_wp2_with fail
    refine HJN.out.mono ?_
    rintro e wz ⟨rfl, hbz⟩
    have HBZ := Lib.hid ((HB.out.trans (by rw [← HN1.out] at HK; exact HK.out.mono HS1.out)).trans (hbz.mono (by have h1 := HK.out.size; have h2 := HS1.out; have h3 := HN1.out; omega)))
    clear hbz
    go_wp2_with fail
    go_ret2
    exact ⟨by rw [HE.out.1, HE.out.2]; rfl, HBZ.out⟩
set_option maxRecDepth 20000 in
set_option maxHeartbeats 4000000 in
theorem line_bid (y v : Int) (hy : 0 ≤ y ∧ y ≤ 255) (hv : -9223372036854775808 ≤ v ∧ v ≤ 9223372036854775807) (l : List Nat) (ua : Option Addr) (uc : Nat) (hr : rightS ⟨4, y, v, l⟩ = true) (w : World) :
    Calls Tryd.prog 52 #[.agg (stepC 4 y v (.slice ua l.length uc))] w (LnDs ⟨4, y, v, l⟩ w) := by
  have HE := Lib.hid (ln_eq hr)
  have hd := dec_len hv.1 hv.2
  have hd2 := dec_len (n := y) (by omega) (by omega)
  have HLE := Lib.hid (show (∀ x ∈ [tBid, decB y, decB v], x.length ≤ 200) ∧ [tBid, decB y, decB v].length ≤ 11 from ⟨fun x hx => by
    simp only [List.mem_cons, List.not_mem_nil, or_false] at hx
    rcases hx with rfl | rfl | rfl
    · decide
    · omega
    · omega, by simp⟩)
  have HX := Lib.hid (Blk.new w (stepC 4 y v (.slice ua l.length uc)) 42 w.heap.size rfl)
  have HR := Lib.hid ((right_z ⟨4, y, v, l⟩).trans hr)
  clear hr
  go_enter Tryd.func52, Tryd.ntmps52
  go_wp2_with (refine load_blk (by rfl) 42 _ (by rfl) w.heap.size (by rfl) _ _ HX.out _ Tryd.underlying42 rfl (by kernel_rfl) ?_)
  refine (sright_any 4 y v ua l.length uc _).mono ?_
  rintro e w1 ⟨rfl, hb⟩
  have HB := Lib.hid (((Below.refl w.heap.size w).alloc (Nat.le_refl _) (.cells (stepC 4 y v (.slice ua l.length uc)) 42)).trans (hb.mono (by simp)))
  replace HX := Lib.hid (HX.out.below hb (by simp))
  clear hb
  rw [HR.out]
  have HL := Lib.hid (show LnS w1.heap.size w1.heap.size [] (w1.alloc (.cells #[.slice none 0 0] 160)) from br_new w1 w1.heap.size rfl)
  have hAN : w.heap.size < w1.heap.size := HX.out.lt
  have HK := Lib.hid ((Below.refl w1.heap.size w1).alloc (Nat.le_refl _) (.cells #[.slice none 0 0] 160))
  replace HX := Lib.hid (HX.out.old (.cells #[.slice none 0 0] 160))
  have hsz : w1.heap.size ≤ (w1.alloc (.cells #[.slice none 0 0] 160)).heap.size := by simp
  go_upto_region 4 with fail
  change Code.wp _ _ _ _ (w1.alloc (.cells #[.slice none 0 0] 160))
  generalize w1.alloc (.cells #[.slice none 0 0] 160) = w2 at HL HX HK hsz ⊢
  have HS1 := Lib.hid HB.out.size
  obtain ⟨N, hN⟩ : ∃ N, w1.heap.size = N := ⟨_, rfl⟩
  rw [hN] at HL hAN HK hsz ⊢
  have HN1 := Lib.hid hN
  clear hN
  have c0 : w2.cell? ⟨w.heap.size, 0, none⟩ = some (.int .i64 4) := HX.out.cell 0 rfl
  go_wp2_with fail
  refine (put_any N N (Nat.le_refl _) [] [tBid] (by decide) (by simp) (by simp) w2.heap.size _ _ (by simp; omega) (HL.out.alloc _) (Blk.new _ _ _ _ rfl)).mono ?_
  rintro e w3 ⟨rfl, h1, h2⟩
  replace HL := Lib.hid (show LnS N N [tBid] w3 from h1)
  have HK3 := Lib.hid ((KeepB.alloc (T := 160) (e := 9) hsz (.cells (strs [tBid]).toArray 9)).trans h2)
  replace HX := Lib.hid (HK3.out.blk _ _ _ HX.out (by decide) (by decide))
  replace HK := Lib.hid (HK.out.trans HK3.out.bel)
  have hs3 : N ≤ w3.heap.size := Nat.le_trans hsz HK3.out.bel.size
  clear h1 h2 HK3 c0
  have c2 : w3.cell? ⟨w.heap.size, 2, none⟩ = some (.int .i64 v) := HX.out.cell 2 rfl
  have c1 : w3.cell? ⟨w.heap.size, 1, none⟩ = some (.int .i64 y) := HX.out.cell 1 rfl
  go_wp2_with fail
  refine (nums_any N N (Nat.le_refl _) [tBid] (by simp) [y, v] (by simp) (fun n hn => by simp at hn; omega) w3.heap.size _ _ (by simp; omega) (HL.out.alloc _) (Blk.new _ _ _ _ rfl)).mono ?_
  rintro e w4 ⟨rfl, h1, h2⟩
  replace HL := Lib.hid (show LnS N N ([tBid, decB y, decB v]) w4 from h1)
  replace HK := Lib.hid (HK.out.trans ((KeepB.alloc (T := 160) (e := 9) hs3 (.cells (ints [y, v]).toArray 2)).trans h2).bel)
  clear h1 h2
  clear c1 c2
  obtain ⟨g, cap, hv, hc, hg, hcells⟩ := ln_row HL.out (by simp)
  have c3 : w4.cell? ⟨N, 0, none⟩ = some (.slice (some ⟨g, 0, none⟩) _ cap) := hv.cell 0 rfl
  have HJN := Lib.hid (join_any g cap ([tBid, decB y, decB v]) w4 hg hc (by have := HLE.out.2; omega) (line_le HLE.out) hcells)
  clear hv hc hg hcells
  go_wp2_with fail
  refine HJN.out.mono ?_
  rintro e wz ⟨rfl, hbz⟩
  have HBZ := Lib.hid ((HB.out.trans (by rw [← HN1.out] at HK; exact HK.out.mono HS1.out)).trans (hbz.mono (by have h1 := HK.out.size; have h2 := HS1.out; have h3 := HN1.out; omega)))
  clear hbz
  go_wp2_with fail
  go_ret2
  exact ⟨by rw [HE.out.1, HE.out.2]; rfl, HBZ.out⟩
set_option maxRecDepth 20000 in
set_option maxHeartbeats 4000000 in
theorem line_cmd (M : Nat) (l l' : List Nat) (c : Cmd) (hd : decF l = .ok c l') (hby : ∀ b ∈ l, b < 256) (hl : l.length ≤ 100000) (ua : Option Addr) (uc : Nat) (hr : rightS ⟨1, 0, 0, l⟩ = true) (w : World) (hM : M ≤ w.heap.size) (ha : AtB 0 M l (.slice ua l.length uc) w) :
    Calls Tryd.prog 52 #[.agg (stepC 1 0 0 (.slice ua l.length uc))] w (LnDs ⟨1, 0, 0, l⟩ w) := by
  have HE := Lib.hid (ln_eq hr)
  obtain ⟨rfl, hc, hf, hp, hq⟩ := dec_ok hby hd
  obtain ⟨ck, cs, ci, ca, cb, ct, cp, cq, cf⟩ := c
  generalize hC : (⟨ck, cs, ci, ca, cb, ct, cp, cq, cf⟩ : Cmd) = c at hd hc hf hp hq
  have HCC := Lib.hid hC
  have HW := Lib.hid (show wordsF ⟨1, 0, 0, l⟩ = wordsC c by unfold wordsF; dsimp only; rw [if_neg (by decide), if_neg (by decide), if_neg (by decide), hd])
  rw [HW.out] at HE
  have HLE := Lib.hid (wordsC_le hc hp hq)
  have HWN := Lib.hid (show 0 < (wordsC c).length from List.length_pos_iff.2 (by rw [← HW.out]; exact wordsF_ne _))
  have HV := Lib.hid (show decV (decF l) = (c, 0) by rw [hd]; rfl)
  have HD := Lib.hid (fun w2 (hb : Below w.heap.size w w2) (hs : w.heap.size ≤ w2.heap.size) => decode_any M l hl hby _ w2 (ha.below hM hb) (Nat.le_trans hM hs))
  have HC := Lib.hid (fun N w hN hw => lcmd_any N N (Nat.le_refl _) [] (by simp) c hc hp hq w hN hw)
  clear hby hd ha hc hf hp hq
  obtain ⟨y, hy⟩ : ∃ y : Int, y = 0 := ⟨_, rfl⟩
  obtain ⟨v, hv⟩ : ∃ v : Int, v = 0 := ⟨_, rfl⟩
  rw [show stepC 1 0 0 (.slice ua l.length uc) = stepC 1 y v (.slice ua l.length uc) by rw [hy, hv]]
  replace hr : rightS ⟨1, y, v, l⟩ = true := by rw [hy, hv]; exact hr
  have HYV := Lib.hid (And.intro hy hv)
  clear hy hv
  have HX := Lib.hid (Blk.new w (stepC 1 y v (.slice ua l.length uc)) 42 w.heap.size rfl)
  have HR := Lib.hid ((right_z ⟨1, y, v, l⟩).trans hr)
  clear hr
  go_enter Tryd.func52, Tryd.ntmps52
  go_wp2_with (refine load_blk (by rfl) 42 _ (by rfl) w.heap.size (by rfl) _ _ HX.out _ Tryd.underlying42 rfl (by kernel_rfl) ?_)
  refine (sright_any 1 y v ua l.length uc _).mono ?_
  rintro e w1 ⟨rfl, hb⟩
  have HB := Lib.hid (((Below.refl w.heap.size w).alloc (Nat.le_refl _) (.cells (stepC 1 y v (.slice ua l.length uc)) 42)).trans (hb.mono (by simp)))
  replace HX := Lib.hid (HX.out.below hb (by simp))
  clear hb
  rw [HR.out]
  have HL := Lib.hid (show LnS w1.heap.size w1.heap.size [] (w1.alloc (.cells #[.slice none 0 0] 160)) from br_new w1 w1.heap.size rfl)
  have hAN : w.heap.size < w1.heap.size := HX.out.lt
  have HK := Lib.hid ((Below.refl w1.heap.size w1).alloc (Nat.le_refl _) (.cells #[.slice none 0 0] 160))
  replace HX := Lib.hid (HX.out.old (.cells #[.slice none 0 0] 160))
  have hsz : w1.heap.size ≤ (w1.alloc (.cells #[.slice none 0 0] 160)).heap.size := by simp
  go_upto_region 4 with fail
  change Code.wp _ _ _ _ (w1.alloc (.cells #[.slice none 0 0] 160))
  generalize w1.alloc (.cells #[.slice none 0 0] 160) = w2 at HL HX HK hsz ⊢
  have HS1 := Lib.hid HB.out.size
  obtain ⟨N, hN⟩ : ∃ N, w1.heap.size = N := ⟨_, rfl⟩
  rw [hN] at HL hAN HK hsz ⊢
  have HN1 := Lib.hid hN
  clear hN
  have c0 : w2.cell? ⟨w.heap.size, 0, none⟩ = some (.int .i64 1) := HX.out.cell 0 rfl
  have c3' : w2.cell? ⟨w.heap.size, 3, none⟩ = some (.slice ua l.length uc) := HX.out.cell 3 rfl
  have hb2 : Below w.heap.size w w2 := HB.out.trans (by rw [← HN1.out] at HK; exact HK.out.mono HS1.out)
  have HDD := Lib.hid (HD.out w2 hb2 hb2.size)
  clear hb2
  go_wp2_with fail
  refine HDD.out.mono ?_
  rintro e w3 ⟨rfl, hb3⟩
  rw [HV.out, ← HCC.out]
  dsimp only [Cmd.cells]
  have hs3 : N ≤ w3.heap.size := Nat.le_trans hsz hb3.size
  replace HL := Lib.hid ((HL.out.below hb3).alloc (.cells #[.int .i64 ck, .int .i64 cs, .int .i64 ci, .int .i64 ca, .int .i64 cb, .int .i64 ct, .int .i64 cp, .int .i64 cq, .int .i64 cf] 164))
  replace HK := Lib.hid ((HK.out.trans (hb3.mono hsz)).alloc hs3 (.cells #[.int .i64 ck, .int .i64 cs, .int .i64 ci, .int .i64 ca, .int .i64 cb, .int .i64 ct, .int .i64 cp, .int .i64 cq, .int .i64 cf] 164))
  have HY := Lib.hid (Blk.new w3 #[.int .i64 ck, .int .i64 cs, .int .i64 ci, .int .i64 ca, .int .i64 cb, .int .i64 ct, .int .i64 cp, .int .i64 cq, .int .i64 cf] 164 w3.heap.size rfl)
  have hs4 : N ≤ (w3.alloc (.cells #[.int .i64 ck, .int .i64 cs, .int .i64 ci, .int .i64 ca, .int .i64 cb, .int .i64 ct, .int .i64 cp, .int .i64 cq, .int .i64 cf] 164)).heap.size := by simp; omega
  clear hb3 c0 c3' HX HDD HD
  go_upto_region 16 with fail
  generalize w3.alloc (.cells #[.int .i64 ck, .int .i64 cs, .int .i64 ci, .int .i64 ca, .int .i64 cb, .int .i64 ct, .int .i64 cp, .int .i64 cq, .int .i64 cf] 164) = w4 at HL HK HY hs4 ⊢
  generalize w3.heap.size = C at HY ⊢
  have HC2 := Lib.hid (HC.out N w4 hs4 HL.out)
  rw [← HCC.out] at HC2
  dsimp only [Cmd.cells] at HC2
  rw [HCC.out] at HC2
  go_wp2_with (refine load_blk (by rfl) 164 _ (by rfl) C (by rfl) _ _ HY.out _ Tryd.underlying164 rfl (by kernel_rfl) ?_)
  refine HC2.out.mono ?_
  rintro e w5 ⟨rfl, h1, h2⟩
  replace HL := Lib.hid (show LnS N N (wordsC c) w5 from h1)
  replace HK := Lib.hid (HK.out.trans h2.bel)
  clear h1 h2 HC2 HY
  obtain ⟨g, cap, hv, hc, hg, hcells⟩ := ln_row HL.out (HWN.out)
  have c3 : w5.cell? ⟨N, 0, none⟩ = some (.slice (some ⟨g, 0, none⟩) _ cap) := hv.cell 0 rfl
  have HJN := Lib.hid (join_any g cap (wordsC c) w5 hg hc (by have := HLE.out.2; omega) (line_le HLE.out) hcells)
  clear hv hc hg hcells
  go_wp2_with fail
  refine HJN.out.mono ?_
  rintro e wz ⟨rfl, hbz⟩
  have HBZ := Lib.hid ((HB.out.trans (by rw [← HN1.out] at HK; exact HK.out.mono HS1.out)).trans (hbz.mono (by have h1 := HK.out.size; have h2 := HS1.out; have h3 := HN1.out; omega)))
  clear hbz
  go_wp2_with fail
  go_ret2
  exact ⟨by rw [HE.out.1, HE.out.2]; rfl, HBZ.out⟩
set_option maxRecDepth 20000 in
set_option maxHeartbeats 4000000 in
theorem line_raw_of (l : List Nat) (f : Int) (hd : decF l = .bad f) (ua : Option Addr) (uc : Nat) (hr : rightS ⟨1, 0, 0, l⟩ = true) (w : World) (hD : ∀ w2, Below w.heap.size w w2 → w.heap.size ≤ w2.heap.size → Calls Tryd.prog 111 #[.slice ua l.length uc] w2 (DecIs l w2))
    (hC : ∀ N w2, w.heap.size ≤ N → N ≤ w2.heap.size → LnS N N [] w2 → Below w.heap.size w w2 → Calls Tryd.prog 113 #[.pointer (some ⟨N, 0, none⟩), .slice ua l.length uc] w2 (LnIs N N ([] ++ rawT l) w2)) :
    Calls Tryd.prog 52 #[.agg (stepC 1 0 0 (.slice ua l.length uc))] w (LnDs ⟨1, 0, 0, l⟩ w) := by
  have HE := Lib.hid (ln_eq hr)
  have hl : l.length ≤ 64 := by
    have h : ((0 : Int) == 0 && ((0 : Int) == 0 && decide (l.length ≤ 64))) = true := hr
    simpa using h
  have hf : (f == 0) = false := beq_eq_false_iff_ne.2 (dec_bad_ne l f hd)
  have HW := Lib.hid (show wordsF ⟨1, 0, 0, l⟩ = rawT l by
    unfold wordsF rawT
    dsimp only
    rw [if_neg (by decide), if_neg (by decide), if_neg (by decide), hd])
  rw [HW.out] at HE
  have HLE := Lib.hid (show (∀ x ∈ rawT l, x.length ≤ 200) ∧ (rawT l).length ≤ 11 by
    have hx := hex_len l
    have k3 : tRaw.length ≤ 200 := by decide
    unfold rawT
    split
    · exact ⟨fun x hx => by rw [List.mem_singleton] at hx; subst hx; exact k3, by simp⟩
    · refine ⟨fun x h => ?_, by simp⟩
      simp only [List.mem_cons, List.not_mem_nil, or_false] at h
      rcases h with rfl | rfl
      · exact k3
      · omega)
  have HWN := Lib.hid (show 0 < (rawT l).length by unfold rawT; split <;> simp)
  have HV := Lib.hid (show decV (decF l) = (zeroC, f) by rw [hd]; rfl)
  have HD := Lib.hid hD
  have HC := Lib.hid hC
  clear hd hD hC
  obtain ⟨y, hy⟩ : ∃ y : Int, y = 0 := ⟨_, rfl⟩
  obtain ⟨v, hv⟩ : ∃ v : Int, v = 0 := ⟨_, rfl⟩
  rw [show stepC 1 0 0 (.slice ua l.length uc) = stepC 1 y v (.slice ua l.length uc) by rw [hy, hv]]
  replace hr : rightS ⟨1, y, v, l⟩ = true := by rw [hy, hv]; exact hr
  clear hy hv
  have HX := Lib.hid (Blk.new w (stepC 1 y v (.slice ua l.length uc)) 42 w.heap.size rfl)
  have HR := Lib.hid ((right_z ⟨1, y, v, l⟩).trans hr)
  clear hr
  go_enter Tryd.func52, Tryd.ntmps52
  go_wp2_with (refine load_blk (by rfl) 42 _ (by rfl) w.heap.size (by rfl) _ _ HX.out _ Tryd.underlying42 rfl (by kernel_rfl) ?_)
  refine (sright_any 1 y v ua l.length uc _).mono ?_
  rintro e w1 ⟨rfl, hb⟩
  have HB := Lib.hid (((Below.refl w.heap.size w).alloc (Nat.le_refl _) (.cells (stepC 1 y v (.slice ua l.length uc)) 42)).trans (hb.mono (by simp)))
  replace HX := Lib.hid (HX.out.below hb (by simp))
  clear hb
  rw [HR.out]
  have HL := Lib.hid (show LnS w1.heap.size w1.heap.size [] (w1.alloc (.cells #[.slice none 0 0] 160)) from br_new w1 w1.heap.size rfl)
  have hAN : w.heap.size < w1.heap.size := HX.out.lt
  have HK := Lib.hid ((Below.refl w1.heap.size w1).alloc (Nat.le_refl _) (.cells #[.slice none 0 0] 160))
  replace HX := Lib.hid (HX.out.old (.cells #[.slice none 0 0] 160))
  have hsz : w1.heap.size ≤ (w1.alloc (.cells #[.slice none 0 0] 160)).heap.size := by simp
  go_upto_region 4 with fail
  change Code.wp _ _ _ _ (w1.alloc (.cells #[.slice none 0 0] 160))
  generalize w1.alloc (.cells #[.slice none 0 0] 160) = w2 at HL HX HK hsz ⊢
  have HS1 := Lib.hid HB.out.size
  obtain ⟨N, hN⟩ : ∃ N, w1.heap.size = N := ⟨_, rfl⟩
  rw [hN] at HL hAN HK hsz ⊢
  have HN1 := Lib.hid hN
  clear hN
  have c0 : w2.cell? ⟨w.heap.size, 0, none⟩ = some (.int .i64 1) := HX.out.cell 0 rfl
  have c3' : w2.cell? ⟨w.heap.size, 3, none⟩ = some (.slice ua l.length uc) := HX.out.cell 3 rfl
  have hb2 : Below w.heap.size w w2 := HB.out.trans (by rw [← HN1.out] at HK; exact HK.out.mono HS1.out)
  have HDD := Lib.hid (HD.out w2 hb2 hb2.size)
  have HB2 := Lib.hid hb2
  clear hb2
  go_wp2_with fail
  refine HDD.out.mono ?_
  rintro e w3 ⟨rfl, hb3⟩
  rw [HV.out]
  dsimp only [Cmd.cells, zeroC]
  have hs3 : N ≤ w3.heap.size := Nat.le_trans hsz hb3.size
  replace HL := Lib.hid ((HL.out.below hb3).alloc (.cells zero9 164))
  replace HX := Lib.hid ((HX.out.below hb3 HX.out.lt).old (.cells zero9 164))
  replace HK := Lib.hid ((HK.out.trans (hb3.mono hsz)).alloc hs3 (.cells zero9 164))
  replace HB2 := Lib.hid ((HB2.out.trans (hb3.mono HB2.out.size)).alloc (Nat.le_trans HB2.out.size hb3.size) (.cells zero9 164))
  have hs4 : N ≤ (w3.alloc (.cells zero9 164)).heap.size := by simp; omega
  clear hb3 c0 c3' HDD HD
  go_upto_region 16 with fail
  change Code.wp _ _ _ _ (w3.alloc (.cells zero9 164))
  generalize w3.alloc (.cells zero9 164) = w4 at HL HK HX HB2 hs4 ⊢
  generalize w3.heap.size = C
  have HC2 := Lib.hid (HC.out N w4 (by omega) hs4 HL.out HB2.out)
  have c3'' : w4.cell? ⟨w.heap.size, 3, none⟩ = some (.slice ua l.length uc) := HX.out.cell 3 rfl
  go_wp2_with fail
  refine HC2.out.mono ?_
  rintro e w5 ⟨rfl, h1, h2⟩
  replace HL := Lib.hid (show LnS N N (rawT l) w5 from h1)
  replace HK := Lib.hid (HK.out.trans h2.bel)
  clear h1 h2 HC2 c3'' HB2
  obtain ⟨g, cap, hv, hc, hg, hcells⟩ := ln_row HL.out (HWN.out)
  have c3 : w5.cell? ⟨N, 0, none⟩ = some (.slice (some ⟨g, 0, none⟩) _ cap) := hv.cell 0 rfl
  have HJN := Lib.hid (join_any g cap (rawT l) w5 hg hc (by have := HLE.out.2; omega) (line_le HLE.out) hcells)
  clear hv hc hg hcells
  go_wp2_with fail
  refine HJN.out.mono ?_
  rintro e wz ⟨rfl, hbz⟩
  have HBZ := Lib.hid ((HB.out.trans (by rw [← HN1.out] at HK; exact HK.out.mono HS1.out)).trans (hbz.mono (by have h1 := HK.out.size; have h2 := HS1.out; have h3 := HN1.out; omega)))
  clear hbz
  go_wp2_with fail
  go_ret2
  exact ⟨by rw [HE.out.1, HE.out.2]; rfl, HBZ.out⟩
theorem line_raw (M : Nat) (l : List Nat) (f : Int) (hd : decF l = .bad f) (hby : ∀ b ∈ l, b < 256) (hl : l.length ≤ 100000) (ua : Option Addr) (uc : Nat) (hr : rightS ⟨1, 0, 0, l⟩ = true) (w : World) (hM : M ≤ w.heap.size) (ha : AtB 0 M l (.slice ua l.length uc) w) :
    Calls Tryd.prog 52 #[.agg (stepC 1 0 0 (.slice ua l.length uc))] w (LnDs ⟨1, 0, 0, l⟩ w) :=
  line_raw_of l f hd ua uc hr w (fun w2 hb hs => decode_any M l hl hby _ w2 (ha.below hM hb) (Nat.le_trans hM hs))
    (fun N w2 h1 h2 hw hb => lraw_any N N M (Nat.le_refl _) (Nat.le_trans hM h1) [] (by simp) l hl hby _ w2 h2 hw (ha.below hM hb))
/-- words.Line, of any step. -/
theorem wline_any (M : Nat) (s : Stp) (hin : StpIn s) (hl : s.l.length ≤ 100000) (u : Value) (w : World) (hM : M ≤ w.heap.size) (ha : AtB 0 M s.l u w) :
    Calls Tryd.prog 52 #[.agg (stepC s.k s.y s.v u)] w (LineIs (lineF s) w) := by
  obtain ⟨k, y, v, l⟩ := s
  obtain ⟨hv, hb⟩ := hin
  dsimp only at *
  obtain ⟨a, c, rfl, -, -⟩ := ha.len
  cases hr : rightS ⟨k, y, v, l⟩ with
  | false =>
    have h := line_bad k y v a l.length c w ((right_z ⟨k, y, v, l⟩).trans hr)
    rw [ln_none hr]
    exact h
  | true =>
    by_cases h1 : k = 1
    · subst h1
      have h : (y == 0 && (v == 0 && decide (l.length ≤ 64))) = true := hr
      simp only [Bool.and_eq_true, beq_iff_eq] at h
      obtain ⟨rfl, rfl, -⟩ := h
      cases hd : decF l with
      | ok c' l' => exact line_cmd M l l' c' hd hb hl a c hr w hM ha
      | bad f => exact line_raw M l f hd hb hl a c hr w hM ha
    by_cases h2 : k = 2 ∨ k = 3
    · exact line_num k y v h2 hv l a c hr w
    by_cases h4 : k = 4
    · subst h4
      have h : (l.isEmpty && (decide (0 ≤ y) && decide (y ≤ 255))) = true := hr
      simp only [Bool.and_eq_true, decide_eq_true_eq] at h
      exact line_bid y v h.2 hv l a c hr w
    · exfalso
      have : rightS ⟨k, y, v, l⟩ = false := by unfold rightS; dsimp only; rw [if_neg h1, if_neg h2, if_neg h4]
      rw [this] at hr
      cases hr
end Go.Proofs.YtmkcooamgojbpaaDoor.Lines

/- words.Line and damperref35.Line of a step whose bytes are empty, at any address. -/
namespace Go.Proofs.YtmkcooamgojbpaaDoor.Cmds
open Go.RowKit Go.Proofs.YtmkcooamgojbpaaDoor.Kit Go.Proofs.YtmkcooamgojbpaaDoor.Blk Go.Proofs.YtmkcooamgojbpaaDoor.Octets
attribute [local go_sem ↓] Go.wp_at_zero Go.wp_at_succ
set_option linter.unusedVariables false

set_option maxRecDepth 20000 in
theorem bclone_zero (a : Addr) (c : Nat) (w : World) :
    Calls Tryd.prog 202 #[.slice (some a) 0 c] w (ClIs [] w) := by
  have hnil : ∀ (n : Nat) (W : World), (binOp .eql 40 (.slice (some a) n c) (.slice none 0 0)).run Tryd.prog W = .ok (.bool false) W := fun _ _ => by kernel_rfl
  obtain ⟨i0, hi0, hz0, hz1, hz2⟩ := info_parts infoU8
  have HE := Lib.hid (show (w.alloc (.cells #[] 5)).ownsRow w.heap.size 5 1 (.slice (some ⟨w.heap.size, 0, none⟩) 0 0) 0 [] from World.ownsRow_made w #[] 0 (Nat.le_refl _) (by decide) rfl)
  go_enter Tryd.func202, Tryd.ntmps202
  go_wp2_with (at_builtin; refine wpList_append_zero (by rfl) _ _ _ (by rfl) w.heap.size 5 i0 1 Tryd.underlying40 hi0 hz1 _ 0 [] (by rfl) HE.out (some a) c (by rfl) ?_)
  go_ret
  refine ⟨_, rfl, .inr ⟨w.heap.size, 0, 0, rfl, Nat.le_refl _, Nat.zero_le _, Nat.le_refl _, by simp, fun i hi => absurd hi (by simp)⟩, (Below.refl _ _).alloc (Nat.le_refl _) _⟩
theorem newReader_zero (a : Addr) (c : Nat) (w : World) :
    Calls Tryd.prog 163 #[.slice (some a) 0 c] w (NewIs [] w) := by
  have HC := Lib.hid (bclone_zero a c w)
  go_enter Tryd.func163, Tryd.ntmps163
  go_wp2_with fail
  refine HC.out.mono ?_
  rintro e w1 ⟨v', rfl, h1, h2⟩
  obtain ⟨a', c', rfl, -, -⟩ := h1.len
  have HR := Lib.hid (show RdS w.heap.size w1.heap.size (.inr []) (w1.alloc (.cells #[.slice a' ([] : List Nat).length c', .int .i64 0] 238)) from ⟨by simp, _, Blk.new _ _ _ _ rfl, (h1.below (Nat.le_refl _) ((Below.refl _ _).alloc (Nat.le_refl _) _)).mono (Nat.le_refl _) (Nat.le_refl _)⟩)
  have HB := Lib.hid (h2.alloc h2.size (.cells #[.slice a' ([] : List Nat).length c', .int .i64 0] 238))
  have hsz := h2.size
  clear h1 h2 HC
  go_wp2_with fail
  go_ret
  exact ⟨_, rfl, hsz, HR.out, HB.out⟩
set_option maxRecDepth 20000 in
set_option maxHeartbeats 4000000 in
theorem decode_zero (a : Addr) (c : Nat) (w : World) :
    Calls Tryd.prog 111 #[.slice (some a) 0 c] w (DecIs [] w) := by
  have HN := Lib.hid (newReader_zero a c (w.alloc (.cells zero9 164)))
  go_enter Tryd.func111, Tryd.ntmps111
  go_wp2_with fail
  refine HN.out.mono ?_
  rintro e w1 ⟨P, rfl, h1, h2, h3⟩
  simp at h1 h2 h3
  have H := Lib.hid (dcs_start h1 h2 h3)
  clear h1 h2 h3 HN
  go_wp2_with fail
  generalize w1.alloc (.cells #[.pointer (some ⟨P, 0, none⟩)] 204) = w2 at H ⊢
  generalize w1.heap.size = B at H ⊢
  generalize hN : w.heap.size + 1 = N at H
  generalize hC : w.heap.size = C at H ⊢
  have c0 := H.out.cell
  go_quiet (fail)
  replace H := Lib.hid (H.out.drewN nq)
  clear c0
  generalize w2.drewN nq = w3 at H ⊢
  have c0 := H.out.cell
  have nBC : ¬ B = C := by have := H.out.CN; have := H.out.NP; have := H.out.PB; omega
  have nCB : ¬ C = B := fun e => nBC e.symm
  go_wp2_with fail
  refine (one_eq H.out (one_nil)).mono ?_
  rintro e w4 ⟨rfl, h2⟩
  replace H := Lib.hid h2
  clear h2 c0
  have c0 := H.out.cell
  have f0 := H.out.c.free 0
  have k0 : w4.cell? ⟨C, 0, none⟩ = some (.int .i64 0) := H.out.c.cell 0 rfl
  go_wp2_with fail
  replace H := Lib.hid (H.out.store 0 (.int .i64 0))
  generalize w4.setCell ⟨C, 0, none⟩ (.int .i64 0) = w5 at H ⊢
  clear c0
  have c0 := H.out.cell
  clear f0 k0
  have k0 : w5.cell? ⟨C, 0, none⟩ = some (.int .i64 0) := H.out.c.cell 0 rfl
  go_wp2_with fail
  refine (fault_any N P _ _ H.out.r).mono ?_
  rintro e w' ⟨rfl, rfl⟩
  unfold faultR
  dsimp only
  go_wp2_with fail
  refine (one_eq H.out ((one_inl 3))).mono ?_
  rintro e w6 ⟨rfl, h2⟩
  replace H := Lib.hid h2
  clear h2 c0
  have c0 := H.out.cell
  have f1 := H.out.c.free 1
  have k1 : w6.cell? ⟨C, 1, none⟩ = some (.int .i64 0) := H.out.c.cell 1 rfl
  go_wp2_with fail
  replace H := Lib.hid (H.out.store 1 (.int .i64 0))
  generalize w6.setCell ⟨C, 1, none⟩ (.int .i64 0) = w7 at H ⊢
  clear c0
  have c0 := H.out.cell
  clear f1 k1 k0
  go_wp2_with fail
  refine (num_eq H.out ((num_inl 3))).mono ?_
  rintro e w8 ⟨rfl, h2⟩
  replace H := Lib.hid h2
  clear h2 c0
  have c0 := H.out.cell
  have k0 : w8.cell? ⟨C, 0, none⟩ = some (.int .i64 0) := H.out.c.cell 0 rfl
  go_wp2_with fail
  refine (int_eq H.out ((int_inl 3))).mono ?_
  rintro e w9' ⟨rfl, h2⟩
  replace H := Lib.hid h2
  clear h2 c0
  have c0 := H.out.cell
  clear k0
  go_wp2_with fail
  refine (int_eq H.out ((int_inl 3))).mono ?_
  rintro e w10' ⟨rfl, h2⟩
  replace H := Lib.hid h2
  clear h2 c0
  have c0 := H.out.cell
  have f6 := H.out.c.free 6
  have f7 := H.out.c.free 7
  have k6 : w10'.cell? ⟨C, 6, none⟩ = some (.int .i64 0) := H.out.c.cell 6 rfl
  have k7 : w10'.cell? ⟨C, 7, none⟩ = some (.int .i64 0) := H.out.c.cell 7 rfl
  replace H := Lib.hid ((H.out.store 6 (.int .i64 0)).store 7 (.int .i64 0))
  go_upto_region 14 with fail
  generalize (w10'.setCell ⟨C, 6, none⟩ (.int .i64 0)).setCell ⟨C, 7, none⟩ (.int .i64 0) = w11 at H ⊢
  clear k6 k7 f6 f7 c0
  have c0 := H.out.cell
  go_wp2_with fail
  refine (fault_any N P _ _ H.out.r).mono ?_
  rintro e w' ⟨rfl, rfl⟩
  unfold faultR
  dsimp only
  go_wp2_with (refine store_blk (by rfl) 164 _ _ (by rfl) C (by rfl) _ zero9 164 H.out.c (by rfl) rfl (by kernel_rfl) (one_cm zeroC) ?_)
  refine bodyPost_ret (results_blk_tmp (cs := zero9) rfl rfl (H.out.c.setCells zero9 rfl) Tryd.underlying164 rfl (by kernel_rfl)) rfl ⟨rfl, Below.setCells _ _ _ H.out.bel H.out.geC⟩
set_option maxRecDepth 20000 in
set_option maxHeartbeats 4000000 in
theorem rdecode_zero (a : Addr) (c : Nat) (w : World) :
    Calls Tryd.prog 115 #[.slice (some a) 0 c] w (DecIs [] w) := by
  have HV := Lib.hid (show decV (decF []) = (zeroC, 3) from rfl)
  have HZ0 := Lib.hid (Blk.new w zero9 164 w.heap.size rfl)
  have HB0 := Lib.hid ((Below.refl w.heap.size w).alloc (Nat.le_refl _) (.cells zero9 164))
  have hsz : (w.alloc (.cells zero9 164)).heap.size = w.heap.size + 1 := by simp
  have HSZ := Lib.hid hsz
  go_enter Tryd.func115, Tryd.ntmps115
  go_upto_region 1 with fail
  change Code.wp _ _ _ _ (w.alloc (.cells zero9 164))
  generalize w.alloc (.cells zero9 164) = w1 at HZ0 HB0 HSZ ⊢
  go_wp2_with (refine store_blk (by rfl) 164 _ _ (by rfl) w.heap.size (by rfl) _ zero9 164 (HZ0).out (by rfl) rfl (by kernel_rfl) (one_cm zeroC) ?_)
  refine bodyPost_ret (results_blk_tmp (cs := zero9) rfl rfl ((HZ0).out.setCells zero9 rfl) Tryd.underlying164 rfl (by kernel_rfl)) rfl ⟨by rw [HV.out]; rfl, Below.setCells _ _ _ (HB0).out (Nat.le_refl _)⟩
end Go.Proofs.YtmkcooamgojbpaaDoor.Cmds
namespace Go.Proofs.YtmkcooamgojbpaaDoor.Lines
open Go.RowKit Go.Proofs.YtmkcooamgojbpaaDoor.Kit Go.Proofs.YtmkcooamgojbpaaDoor.Blk Go.Proofs.YtmkcooamgojbpaaDoor.Dec Go.Proofs.YtmkcooamgojbpaaDoor.Words Go.Proofs.YtmkcooamgojbpaaDoor.Octets Go.Proofs.YtmkcooamgojbpaaDoor.Steps Go.Proofs.YtmkcooamgojbpaaDoor.Cmds
attribute [local go_sem ↓] Go.wp_at_zero Go.wp_at_succ
set_option linter.unusedVariables false
set_option maxRecDepth 20000 in
set_option maxHeartbeats 4000000 in
theorem lraw_zero (N P : Nat) (hNP : N ≤ P) (ws : List Tok) (hkw : ws.length ≤ 100) (a : Addr) (c : Nat) (w : World) (hN : N ≤ w.heap.size) (hw : LnS N P ws w) :
    Calls Tryd.prog 113 #[.pointer (some ⟨P, 0, none⟩), .slice (some a) 0 c] w (LnIs N P (ws ++ rawT []) w) := by
  go_enter Tryd.func113, Tryd.ntmps113
  go_wp2_with fail
  refine (put_any N P hNP ws [tRaw] (by omega) (by simp) (by simp) w.heap.size _ _ (by simp; omega) (hw.alloc _) (Blk.new _ _ _ _ rfl)).mono ?_
  rintro e w1 ⟨rfl, h1, h2⟩
  have HL := Lib.hid h1
  have HK := Lib.hid (show KeepL N w w1 from (KeepB.alloc hN _).trans h2)
  clear h1 h2 hw
  have HR := Lib.hid (show rawT [] = [tRaw] by unfold rawT; rw [if_pos rfl])
  go_wp2_with fail
  go_end0
  exact ⟨rfl, by rw [HR.out]; exact HL.out, HK.out⟩
theorem line_zero (a : Addr) (c : Nat) (hr : rightS ⟨1, 0, 0, []⟩ = true) (w : World) :
    Calls Tryd.prog 52 #[.agg (stepC 1 0 0 (.slice (some a) 0 c))] w (LnDs ⟨1, 0, 0, []⟩ w) :=
  line_raw_of [] 3 rfl (some a) c hr w (fun w2 _ _ => decode_zero a c w2) (fun N w2 h1 h2 hw _ => lraw_zero N N (Nat.le_refl _) [] (by simp) a c w2 h2 hw)
set_option maxRecDepth 20000 in
set_option maxHeartbeats 4000000 in
theorem rline_zero (a : Addr) (uc : Nat) (hr : rightS ⟨1, 0, 0, []⟩ = true) (w : World) :
    Calls Tryd.prog 53 #[.agg (stepC 1 0 0 (.slice (some a) 0 uc))] w (LnDs ⟨1, 0, 0, []⟩ w) := by
  have HL := Lib.hid (ln_eq hr)
  have HW := Lib.hid (show joinW 32 (wordsF ⟨1, 0, 0, []⟩) = tRaw by decide)
  have HD := Lib.hid (fun w2 => rdecode_zero a uc w2)
  obtain ⟨ua, hua⟩ : ∃ ua, some a = ua := ⟨_, rfl⟩
  obtain ⟨l, hl⟩ : ∃ l : List Nat, [] = l := ⟨_, rfl⟩
  rw [show (0 : Nat) = l.length by rw [← hl]; rfl, hua] at HD ⊢
  have HV := Lib.hid (show decV (decF []) = (zeroC, 3) from rfl)
  rw [hl] at HL HW HD HV hr ⊢
  have HZ := Lib.hid (show l.length = 0 by rw [← hl]; rfl)
  clear hua hl
  have HX := Lib.hid (Blk.new w (stepC 1 0 0 (.slice ua l.length uc)) 42 w.heap.size rfl)
  have HR := Lib.hid ((right_z ⟨1, 0, 0, l⟩).trans hr)
  clear hr
  go_enter Tryd.func53, Tryd.ntmps53
  go_wp2_with (refine load_blk (by rfl) 42 _ (by rfl) w.heap.size (by rfl) _ _ HX.out _ Tryd.underlying42 rfl (by kernel_rfl) ?_)
  refine (rsright_any 1 0 0 ua l.length uc _).mono ?_
  rintro e w1 ⟨rfl, hb⟩
  have HB := Lib.hid (((Below.refl w.heap.size w).alloc (Nat.le_refl _) (.cells (stepC 1 0 0 (.slice ua l.length uc)) 42)).trans (hb.mono (by simp)))
  replace HX := Lib.hid (HX.out.below hb (by simp))
  clear hb
  rw [HR.out]
  have c0 : w1.cell? ⟨w.heap.size, 0, none⟩ = some (.int .i64 1) := HX.out.cell 0 rfl
  have c3 : w1.cell? ⟨w.heap.size, 3, none⟩ = some (.slice ua l.length uc) := HX.out.cell 3 rfl
  go_wp2_with fail
  refine (HD.out w1).mono ?_
  rintro e w2 ⟨rfl, hb2⟩
  rw [HV.out]
  dsimp only [Cmd.cells, zeroC]
  replace HB := Lib.hid ((HB.out.trans (hb2.mono HB.out.size)).alloc (Nat.le_trans HB.out.size hb2.size) (.cells zero9 164))
  replace HX := Lib.hid ((HX.out.below hb2 HX.out.lt).old (.cells zero9 164))
  clear hb2 c0 c3 HD
  go_upto_region 11 with fail
  change Code.wp _ _ _ _ (w2.alloc (.cells zero9 164))
  generalize w2.alloc (.cells zero9 164) = w3 at HB HX ⊢
  generalize w2.heap.size = C
  go_wp2_with fail
  go_loopw [6, 7] (fun sv iv wr => iv = .int .i64 0 ∧ sv = .string (strB tRaw) ∧ Blk wr w.heap.size (stepC 1 0 0 (.slice ua l.length uc)) 42 ∧ Below w.heap.size w wr) (fun _ iv _ => 0)
  case atStart => exact ⟨rfl, rfl, HX.out, HB.out⟩
  case round =>
    obtain ⟨rfl, rfl, hx, hb⟩ := hrel
    replace HX := Lib.hid hx
    replace HB := Lib.hid hb
    clear hx hb
    have c3 : wr.cell? ⟨w.heap.size, 3, none⟩ = some (.slice ua l.length uc) := HX.out.cell 3 rfl
    have g1 : ¬ (0 : Int) < (l.length : Int) := by have := HZ.out; omega
    go_wp2_with fail
    go_ret2
    refine ⟨?_, HB.out⟩
    rw [HL.out.1, HL.out.2, HW.out]
    rfl
/-- Bytes of a step that came with a call: below M, or none at all, at any address. -/
def AtE (M : Nat) (l : List Nat) (v : Value) (W : World) : Prop := AtB 0 M l v W ∨ (l = [] ∧ ∃ a c, v = .slice (some a) 0 c)
theorem AtE.below {M n : Nat} {l : List Nat} {v : Value} {W W' : World} (h : AtE M l v W) (hM : M ≤ n) (hb : Below n W W') : AtE M l v W' := h.imp (fun h => h.below hM hb) id
/-- words.Line of a step that came with a call. -/
theorem wline_e (M : Nat) (s : Stp) (hin : StpIn s) (hl : s.l.length ≤ 100000) (u : Value) (w : World) (hM : M ≤ w.heap.size) (ha : AtE M s.l u w) :
    Calls Tryd.prog 52 #[.agg (stepC s.k s.y s.v u)] w (LineIs (lineF s) w) := by
  rcases ha with ha | ⟨h0, a, c, rfl⟩
  · exact wline_any M s hin hl u w hM ha
  obtain ⟨k, y, v, l⟩ := s
  obtain ⟨hv, hb⟩ := hin
  dsimp only at *
  subst h0
  cases hr : rightS ⟨k, y, v, []⟩ with
  | false =>
    have h := line_bad k y v (some a) ([] : List Nat).length c w ((right_z ⟨k, y, v, []⟩).trans hr)
    rw [ln_none hr]
    exact h
  | true =>
    by_cases h1 : k = 1
    · subst h1
      have h : (y == 0 && (v == 0 && decide (([] : List Nat).length ≤ 64))) = true := hr
      simp only [Bool.and_eq_true, beq_iff_eq] at h
      obtain ⟨rfl, rfl, -⟩ := h
      exact line_zero a c hr w
    by_cases h2 : k = 2 ∨ k = 3
    · exact line_num k y v h2 hv [] (some a) c hr w
    by_cases h4 : k = 4
    · subst h4
      have h : (([] : List Nat).isEmpty && (decide (0 ≤ y) && decide (y ≤ 255))) = true := hr
      simp only [Bool.and_eq_true, decide_eq_true_eq] at h
      exact line_bid y v h.2 hv [] (some a) c hr w
    · exfalso
      have : rightS ⟨k, y, v, []⟩ = false := by unfold rightS; dsimp only; rw [if_neg h1, if_neg h2, if_neg h4]
      rw [this] at hr
      cases hr
/-- damperref35.Line of a step that came with a call. -/
theorem rline_e (M : Nat) (s : Stp) (hin : StpIn s) (hl : s.l.length ≤ 100000) (u : Value) (w : World) (hM : M ≤ w.heap.size) (ha : AtE M s.l u w) :
    Calls Tryd.prog 53 #[.agg (stepC s.k s.y s.v u)] w (LineIs (lineF s) w) := by
  rcases ha with ha | ⟨h0, a, c, rfl⟩
  · exact rline_any M s hin hl u w hM ha
  obtain ⟨k, y, v, l⟩ := s
  obtain ⟨hv, hb⟩ := hin
  dsimp only at *
  subst h0
  cases hr : rightS ⟨k, y, v, []⟩ with
  | false => exact rline_wrong k y v [] (some a) c hr w
  | true =>
    by_cases h1 : k = 1
    · subst h1
      have h : (y == 0 && (v == 0 && decide (([] : List Nat).length ≤ 64))) = true := hr
      simp only [Bool.and_eq_true, beq_iff_eq] at h
      obtain ⟨rfl, rfl, -⟩ := h
      exact rline_zero a c hr w
    by_cases h2 : k = 2 ∨ k = 3
    · exact rline_num k y v h2 hv [] (some a) c hr w
    by_cases h4 : k = 4
    · subst h4
      have h : (([] : List Nat).isEmpty && (decide (0 ≤ y) && decide (y ≤ 255))) = true := hr
      simp only [Bool.and_eq_true, decide_eq_true_eq] at h
      exact rline_bid y v h.2 hv [] (some a) c hr w
    · exfalso
      have : rightS ⟨k, y, v, []⟩ = false := by unfold rightS; dsimp only; rw [if_neg h1, if_neg h2, if_neg h4]
      rw [this] at hr
      cases hr
end Go.Proofs.YtmkcooamgojbpaaDoor.Lines

/- Rows of steps that came with a call. -/
namespace Go.Proofs.YtmkcooamgojbpaaDoor.Lines
open Go.ChangeShapes Go.WideShapes Go.Deep Go.RowKit Go.Proofs.YtmkcooamgojbpaaDoor.Kit Go.Proofs.YtmkcooamgojbpaaDoor.Blk Go.Proofs.YtmkcooamgojbpaaDoor.Dec Go.Proofs.YtmkcooamgojbpaaDoor.Words Go.Proofs.YtmkcooamgojbpaaDoor.Octets Go.Proofs.YtmkcooamgojbpaaDoor.Steps Go.Proofs.YtmkcooamgojbpaaDoor.Cmds Go.Proofs.YtmkcooamgojbpaaDoor.Open
set_option linter.unusedVariables false

/-- A row of steps: each step's cells, and its bytes, all below M. -/
structure RowE (M : Nat) (a : Option Addr) (r : List (Stp × Value)) (W : World) : Prop where
  inn : ∀ x ∈ r, StpIn x.1 ∧ x.1.l.length ≤ maxLen
  cells : ∀ i, (h : i < r.length) → ∃ b o, a = some ⟨b, o, none⟩ ∧ b < M ∧ W.rangeAt b (o + i * 4) (stepC r[i].1.k r[i].1.y r[i].1.v r[i].2).toList
  bytes : ∀ x ∈ r, AtE M x.1.l x.2 W
section
variable {M n : Nat} {a : Option Addr} {r : List (Stp × Value)} {W W' : World}
theorem RowE.below (h : RowE M a r W) (hM : M ≤ n) (hb : Below n W W') : RowE M a r W' :=
  ⟨h.inn, fun i hi => by
    obtain ⟨b, o, h1, h2, h3⟩ := h.cells i hi
    exact ⟨b, o, h1, h2, fun j v hv => by rw [hb.cell (p := ⟨b, _, none⟩) (by show b < n; omega)]; exact h3 j v hv⟩,
   fun x hx => (h.bytes x hx).below hM hb⟩
theorem AtE.form {M : Nat} {l : List Nat} {v : Value} {W : World} (h : AtE M l v W) : ∃ a c, v = .slice a l.length c := by
  rcases h with h | ⟨rfl, a, c, rfl⟩
  · obtain ⟨a, c, h, -⟩ := h.len; exact ⟨a, c, h⟩
  · exact ⟨_, _, rfl⟩
end
section
variable {H : Type} {enc : TypeId × Value → H} {w : World} {base : Nat} {spare : Nat → Bool} {held : Bool}
theorem open_bytes {n : Nat} {v : Value} {y : DataW H × List MemPlace} (h : DataW.trod enc Tryd.prog w base spare held n 40 [v] = some y) :
    ∃ l : List Nat, (∀ b ∈ l, b < 256) ∧ l.length ≤ maxLen ∧ AtE w.heap.size l v w := by
  rcases open_slice Tryd.underlying40 h with ⟨hv, _⟩ | ⟨a, len, cap, m, n', D, Pl, hcs, hb, hl, hm, hmm, hx, hi⟩
  · simp at hv; subst hv
    exact ⟨[], by simp, by simp, .inl (.inl ⟨rfl, rfl⟩)⟩
  · simp at hcs; subst hcs
    have hlm : len ≤ m := by rw [hmm]; split <;> omega
    have hC : Tryd.prog.cellsOf 5 = 1 := by kernel_rfl
    have key : ∀ i, i < len → ∃ k : Nat, k < 256 ∧ w.cell? (a.add i) = some (.int .u8 (k : Int)) := by
      intro i hil
      obtain ⟨cs', hc, ht'⟩ := hi i (by omega)
      obtain ⟨k, hk, _, hw⟩ := DataW.trod_int Tryd.underlying5 ht'
      rw [hC] at hc
      obtain ⟨_, _, hat⟩ := World.cells?_some hc
      have h0 := hat 0 (by decide)
      rw [hk, Nat.mul_one] at h0
      have hr : 0 ≤ k ∧ k ≤ 255 := by
        simp [Lit.wf, IntKind.min, IntKind.max, IntKind.bits, IntKind.signed] at hw
        omega
      refine ⟨k.toNat, by omega, ?_⟩
      rw [show ((k.toNat : Nat) : Int) = k by omega, show a.add i = (a.add i).add 0 by rw [add_add, Nat.add_zero]]
      simpa using h0
    let l : List Nat := (List.range len).map fun i => if h : i < len then Classical.choose (key i h) else 0
    have hll : l.length = len := by simp [l]
    refine ⟨l, fun b hb => ?_, by omega, ?_⟩
    · obtain ⟨i, hi', rfl⟩ := List.mem_map.1 hb
      have hi2 := List.mem_range.1 hi'
      simp only [dif_pos hi2]
      exact (Classical.choose_spec (key i hi2)).1
    · rcases Nat.eq_zero_or_pos len with h0 | h0
      · exact .inr ⟨List.eq_nil_of_length_eq_zero (by omega), a, cap, by rw [h0]⟩
      · obtain ⟨b, off, spot⟩ := a
        have hs : spot = none := by
          obtain ⟨k, -, hk⟩ := key 0 h0
          simpa [Addr.add] using World.cell?_spot hk
        subst hs
        have hadd : ∀ k, (⟨b, off, none⟩ : Addr).add k = ⟨b, off + k, none⟩ := fun k => by unfold Addr.add; split <;> simp_all
        refine .inl (.inr ⟨b, off, cap, by rw [hll], by omega, hm, Nat.zero_le _, ?_, fun i hi' => ?_⟩)
        · obtain ⟨k, -, hk⟩ := key 0 h0
          have := World.block_lt_of_cell? w _ hk
          rw [hadd] at this
          exact this
        · rw [hll] at hi'
          have hl' : l[i] = Classical.choose (key i hi') := by simp [l, hi']
          rw [hl', ← hadd]
          exact (Classical.choose_spec (key i hi')).2
theorem sStep : Tryd.prog.cellsOf 42 = 4 := by kernel_rfl
set_option maxRecDepth 100000 in
theorem open_steps {r : Reach} {b0 : Nat} {v : Value} {d : DataW H} {p : List MemPlace} (hv : Value.okWide Tryd.prog w r b0 57 v) (h : DataW.Trod enc Tryd.prog w base spare held 57 v d p) :
    ∃ (a : Option Addr) (cap : Nat) (r : List (Stp × Value)), v = .slice a r.length cap ∧ r.length ≤ maxLen ∧ RowE w.heap.size a r w := by
  obtain ⟨a0, n0, c0, rfl⟩ := okWide_slice Tryd.underlying57 hv
  obtain ⟨fuel, hf⟩ := h
  have hf' : DataW.trod enc Tryd.prog w base spare held fuel 57 [.slice a0 n0 c0] = some (d, p) := hf
  rcases open_slice_fields Tryd.underlying57 Tryd.underlying42 (by kernel_rfl) sStep hf' with ⟨hv, _⟩ | ⟨a, len, cap, m, hv, hl, hm, hmm, hff⟩
  · simp at hv
    obtain ⟨rfl, rfl, rfl⟩ := hv
    exact ⟨none, 0, [], rfl, Nat.zero_le _, ⟨fun x hx => (by cases hx), fun i hi => absurd hi (Nat.not_lt_zero _), fun x hx => (by cases hx)⟩⟩
  · simp at hv
    obtain ⟨rfl, rfl, rfl⟩ := hv
    have hlm : n0 ≤ m := by rw [hmm]; split <;> omega
    have key : ∀ i, i < n0 → ∃ x : Stp × Value, StpIn x.1 ∧ x.1.l.length ≤ maxLen ∧ AtE w.heap.size x.1.l x.2 w ∧ ∀ j v, (stepC x.1.k x.1.y x.1.v x.2)[j]? = some v → w.cell? (a.add (i * 4 + j)) = some v := by
      intro i hi
      obtain ⟨n, hn⟩ := hff i (by omega)
      obtain ⟨u0, y0, hc0, hy0⟩ := hn 0 _ rfl
      obtain ⟨u1, y1, hc1, hy1⟩ := hn 1 _ rfl
      obtain ⟨u2, y2, hc2, hy2⟩ := hn 2 _ rfl
      obtain ⟨u3, y3, hc3, hy3⟩ := hn 3 _ rfl
      obtain ⟨k0, hk0, _, hw0⟩ := DataW.trod_int (by first | exact Tryd.underlying2 | exact Tryd.underlying3) hy0
      obtain ⟨k1, hk1, _, hw1⟩ := DataW.trod_int (by first | exact Tryd.underlying2 | exact Tryd.underlying3) hy1
      obtain ⟨k2, hk2, _, hw2⟩ := DataW.trod_int (by first | exact Tryd.underlying2 | exact Tryd.underlying3) hy2
      obtain ⟨l, hl1, hl2, hl3⟩ := open_bytes hy3
      simp at hk0 hk1 hk2
      subst hk0 hk1 hk2
      refine ⟨(⟨k0, k1, k2, l⟩, u3), ⟨in64_of hw2, hl1⟩, hl2, hl3, fun j v hv => ?_⟩
      have hj : j < 4 := (Array.getElem?_eq_some_iff.1 hv).1
      have : j = 0 ∨ j = 1 ∨ j = 2 ∨ j = 3 := by omega
      rcases this with rfl | rfl | rfl | rfl
      · simp [stepC] at hv; subst hv; exact hc0
      · simp [stepC] at hv; subst hv; exact hc1
      · simp [stepC] at hv; subst hv; exact hc2
      · simp [stepC] at hv; subst hv; exact hc3
    refine ⟨some a, c0, (List.range n0).map fun i => if h : i < n0 then Classical.choose (key i h) else (⟨0, 0, 0, []⟩, .slice none 0 0), by simp, by simp; omega, ⟨fun x hx => ?_, fun i hi => ?_, fun x hx => ?_⟩⟩
    · obtain ⟨i, hi', rfl⟩ := List.mem_map.1 hx
      have hi2 := List.mem_range.1 hi'
      simp only [dif_pos hi2]
      have := Classical.choose_spec (key i hi2)
      exact ⟨this.1, this.2.1⟩
    · have hi2 : i < n0 := by simpa using hi
      have hs := Classical.choose_spec (key i hi2)
      simp only [List.getElem_map, List.getElem_range, dif_pos hi2]
      obtain ⟨b, off, spot⟩ := a
      have hsp : spot = none := by
        obtain ⟨x0, -, -, -, h0⟩ := key 0 (by omega)
        simpa [Addr.add] using World.cell?_spot (h0 0 _ rfl)
      subst hsp
      have hadd : ∀ k, (⟨b, off, none⟩ : Addr).add k = ⟨b, off + k, none⟩ := fun k => by unfold Addr.add; split <;> simp_all
      refine ⟨b, off, rfl, ?_, fun j v hv => ?_⟩
      · have := World.block_lt_of_cell? w _ (hs.2.2.2 0 _ rfl)
        rw [hadd] at this
        exact this
      · have := hs.2.2.2 j v (by simpa using hv)
        rw [hadd] at this
        rw [Nat.add_assoc]
        exact this
    · obtain ⟨i, hi', rfl⟩ := List.mem_map.1 hx
      have hi2 := List.mem_range.1 hi'
      simp only [dif_pos hi2]
      exact (Classical.choose_spec (key i hi2)).2.2.1
end
end Go.Proofs.YtmkcooamgojbpaaDoor.Lines

/- damperlaw29.Light. -/
namespace Go.Proofs.YtmkcooamgojbpaaDoor.Lines
open Go.RowKit Go.Proofs.YtmkcooamgojbpaaDoor.Kit Go.Proofs.YtmkcooamgojbpaaDoor.Blk Go.Proofs.YtmkcooamgojbpaaDoor.Dec Go.Proofs.YtmkcooamgojbpaaDoor.Words Go.Proofs.YtmkcooamgojbpaaDoor.Octets Go.Proofs.YtmkcooamgojbpaaDoor.Steps Go.Proofs.YtmkcooamgojbpaaDoor.Cmds
attribute [local go_sem ↓] Go.wp_at_zero Go.wp_at_succ
set_option linter.unusedVariables false

theorem rowE_at {M : Nat} {a : Option Addr} {r : List (Stp × Value)} {W : World} (h : RowE M a r W) (k : Nat) (hk : k < r.length) :
    ∃ b o, a = some ⟨b, o, none⟩ ∧ b < M ∧ W.rangeAt b (o + k * 4) (stepC r[k].1.k r[k].1.y r[k].1.v r[k].2).toList ∧ ∃ ua uc, r[k].2 = .slice ua r[k].1.l.length uc := by
  obtain ⟨b, o, h1, h2, h3⟩ := h.cells k hk
  obtain ⟨ua, uc, h4⟩ := AtE.form (h.bytes _ (List.getElem_mem hk))
  exact ⟨b, o, h1, h2, h3, ua, uc, h4⟩
def lightF (r : List (Stp × Value)) : Bool := decide (r.length ≤ 2100) && r.all fun x => decide (x.1.l.length ≤ 100)
def LightIs (r : List (Stp × Value)) (w : World) (e : Ending) (w' : World) : Prop := e = .returned (.bool (lightF r)) ∧ Below w.heap.size w w'
theorem light_bad {r : List (Stp × Value)} {k : Nat} (h : k < r.length) (hb : 100 < r[k].1.l.length) : lightF r = false := by
  unfold lightF
  rw [Bool.and_eq_false_iff]
  right
  rw [List.all_eq_false]
  exact ⟨_, List.getElem_mem h, by simpa using hb⟩
theorem light_all {r : List (Stp × Value)} (h0 : r.length ≤ 2100) (h : ∀ j, (hj : j < r.length) → r[j].1.l.length ≤ 100) : lightF r = true := by
  unfold lightF
  rw [Bool.and_eq_true]
  refine ⟨by simpa using h0, List.all_eq_true.2 fun m hm => ?_⟩
  obtain ⟨j, hj, rfl⟩ := List.mem_iff_getElem.1 hm
  simpa using h j hj
theorem light_of {r : List (Stp × Value)} (h : lightF r = true) : r.length ≤ 2100 ∧ ∀ x ∈ r, x.1.l.length ≤ 100 := by
  unfold lightF at h
  simpa using h
set_option maxRecDepth 20000 in
set_option maxHeartbeats 4000000 in
theorem light29_any (M : Nat) (a : Option Addr) (cap : Nat) (r : List (Stp × Value)) (w : World) (hrow : RowE M a r w) (hM : M ≤ w.heap.size) (hl : r.length ≤ maxLen) :
    Calls Tryd.prog 51 #[.slice a r.length cap] w (LightIs r w) := by
  have HR := Lib.hid hrow
  clear hrow
  by_cases h : 2100 < r.length
  · have b1 : (2100 : Int) < (r.length : Int) := by omega
    have HF := Lib.hid (show lightF r = false by unfold lightF; rw [Bool.and_eq_false_iff]; left; simpa using h)
    go_enter Tryd.func51, Tryd.ntmps51
    go_wp2_with fail
    go_ret
    exact ⟨by rw [HF.out]; rfl, Below.refl _ _⟩
  · have b1 : ¬ (2100 : Int) < (r.length : Int) := by omega
    go_enter Tryd.func51, Tryd.ntmps51
    go_wp2_with fail
    go_loopw [3] (fun i wr => ∃ k : Nat, k ≤ r.length ∧ i = .int .i64 k ∧ Below w.heap.size w wr ∧ Hid (∀ j, (hj : j < r.length) → j < k → r[j].1.l.length ≤ 100)) (fun i _ => r.length - (intOf i).toNat)
    case atStart => exact ⟨0, by omega, rfl, Below.refl _ _, Lib.hid fun j _ h => absurd h (Nat.not_lt_zero _)⟩
    case round =>
      obtain ⟨k, hk, rfl, hbel, HOK⟩ := hrel
      have HBL := Lib.hid hbel
      clear hbel
      by_cases hlt : k < r.length
      · obtain ⟨g, off, rfl, hg, hat, ua, uc, hu⟩ := rowE_at (HR.out.below hM HBL.out) k hlt
        have HBAD := Lib.hid (light_bad hlt)
        have HSTEP := Lib.hid (show r[k].1.l.length ≤ 100 → ∀ j, (hj : j < r.length) → j < k + 1 → r[j].1.l.length ≤ 100 from fun h j hj hjk => by
          by_cases e : j < k
          · exact HOK.out j hj e
          · have : j = k := by omega
            subst this; exact h)
        have hkl : (k : Int) < (r.length : Int) := by omega
        rw [hu] at hat
        have hl64 := (HR.out.inn _ (List.getElem_mem hlt)).2
        clear hu
        generalize r[k].1 = s at hat HBAD HSTEP hl64
        have c3 : wr.cell? ⟨g, off + k * 4 + 3, none⟩ = some (.slice ua s.l.length uc) := hat 3 _ rfl
        clear hat
        generalize s.l.length = n at c3 HBAD HSTEP hl64
        by_cases hn : 100 < n
        · have g1 : (100 : Int) < (n : Int) := by omega
          have HF := Lib.hid (HBAD.out hn)
          go_wp2_with fail
          go_ret
          exact ⟨by rw [HF.out]; rfl, HBL.out⟩
        · have g1 : ¬ (100 : Int) < (n : Int) := by omega
          have HS := Lib.hid (HSTEP.out (by omega))
          go_wp2_with fail
          go_roundw
          case rel => exact ⟨k + 1, by omega, by go_num, HBL.out, HS⟩
          case measure => simp [intOf]; omega
      · obtain rfl : k = r.length := by omega
        have HF := Lib.hid (light_all (by omega) (fun j hj => HOK.out j hj hj))
        go_wp2_with fail
        go_ret
        exact ⟨by rw [HF.out]; rfl, HBL.out⟩
end Go.Proofs.YtmkcooamgojbpaaDoor.Lines

/- A script's text, as a plain function. -/
namespace Go.Proofs.YtmkcooamgojbpaaDoor.Lines
open Go.RowKit Go.Proofs.YtmkcooamgojbpaaDoor.Kit Go.Proofs.YtmkcooamgojbpaaDoor.Blk Go.Proofs.YtmkcooamgojbpaaDoor.Dec Go.Proofs.YtmkcooamgojbpaaDoor.Words Go.Proofs.YtmkcooamgojbpaaDoor.Octets Go.Proofs.YtmkcooamgojbpaaDoor.Steps Go.Proofs.YtmkcooamgojbpaaDoor.Cmds
set_option linter.unusedVariables false

/-- How long a step's words are. -/
theorem words_le {s : Stp} (hr : rightS s = true) (hin : StpIn s) : (∀ w ∈ wordsF s, w.length ≤ 200) ∧ (wordsF s).length ≤ 11 := by
  obtain ⟨k, y, v, l⟩ := s
  obtain ⟨hv, hb⟩ := hin
  dsimp only at hv hb
  have hd := dec_len hv.1 hv.2
  by_cases h1 : k = 1
  · subst h1
    have h : (y == 0 && (v == 0 && decide (l.length ≤ 64))) = true := hr
    simp only [Bool.and_eq_true, beq_iff_eq, decide_eq_true_eq] at h
    obtain ⟨rfl, rfl, hl⟩ := h
    cases hd : decF l with
    | ok c l' =>
      obtain ⟨rfl, hc, hf, hp, hq⟩ := dec_ok hb hd
      rw [show wordsF ⟨1, 0, 0, l⟩ = wordsC c by unfold wordsF; dsimp only; rw [if_neg (by decide), if_neg (by decide), if_neg (by decide), hd]]
      exact wordsC_le hc hp hq
    | bad f =>
      rw [show wordsF ⟨1, 0, 0, l⟩ = rawT l by
        unfold wordsF rawT
        dsimp only
        rw [if_neg (by decide), if_neg (by decide), if_neg (by decide), hd]]
      have hx := hex_len l
      have k3 : tRaw.length ≤ 200 := by decide
      unfold rawT
      split
      · exact ⟨fun x hx => by rw [List.mem_singleton] at hx; subst hx; exact k3, by simp⟩
      · refine ⟨fun x h => ?_, by simp⟩
        simp only [List.mem_cons, List.not_mem_nil, or_false] at h
        rcases h with rfl | rfl
        · exact k3
        · omega
  by_cases h2 : k = 2
  · subst h2
    show (∀ w ∈ [tTick, decB v], w.length ≤ 200) ∧ [tTick, decB v].length ≤ 11
    refine ⟨fun x hx => ?_, by simp⟩
    simp only [List.mem_cons, List.not_mem_nil, or_false] at hx
    rcases hx with rfl | rfl
    · decide
    · omega
  by_cases h3 : k = 3
  · subst h3
    show (∀ w ∈ [tIndex, decB v], w.length ≤ 200) ∧ [tIndex, decB v].length ≤ 11
    refine ⟨fun x hx => ?_, by simp⟩
    simp only [List.mem_cons, List.not_mem_nil, or_false] at hx
    rcases hx with rfl | rfl
    · decide
    · omega
  by_cases h4 : k = 4
  · subst h4
    have h : (l.isEmpty && (decide (0 ≤ y) && decide (y ≤ 255))) = true := hr
    simp only [Bool.and_eq_true, decide_eq_true_eq] at h
    have hd2 := dec_len (n := y) (by omega) (by omega)
    show (∀ w ∈ [tBid, decB y, decB v], w.length ≤ 200) ∧ [tBid, decB y, decB v].length ≤ 11
    refine ⟨fun x hx => ?_, by simp⟩
    simp only [List.mem_cons, List.not_mem_nil, or_false] at hx
    rcases hx with rfl | rfl | rfl
    · decide
    · omega
    · omega
  · exfalso
    have : rightS ⟨k, y, v, l⟩ = false := by unfold rightS; dsimp only; rw [if_neg h1, if_neg (by omega), if_neg h4]
    rw [this] at hr
    cases hr
def lineT (s : Stp) : Tok := joinW 32 (wordsF s)
theorem lineF_eq (s : Stp) : lineF s = if rightS s = true then some (lineT s) else none := rfl
theorem lineT_len {s : Stp} (hr : rightS s = true) (hin : StpIn s) : (lineT s).length ≤ 2300 := by
  have h := words_le hr hin
  have := join_le 200 (wordsF s) h.1
  unfold lineT
  omega
def txtS (r : List (Stp × Value)) : Tok := r.flatMap fun x => lineT x.1 ++ [10]
def textS (r : List (Stp × Value)) : Option Tok := if (r.all fun x => rightS x.1) = true then some (txtS r) else none
theorem txts_next {r : List (Stp × Value)} {k : Nat} (h : k < r.length) : txtS (r.take (k + 1)) = txtS (r.take k) ++ (lineT r[k].1 ++ [10]) := by
  unfold txtS
  rw [List.take_succ_eq_append_getElem h, List.flatMap_append]
  simp
theorem txts_len {r : List (Stp × Value)} (hf : ∀ x ∈ r, StpIn x.1) (hr : ∀ x ∈ r, rightS x.1 = true) : (txtS r).length ≤ 2301 * r.length := by
  induction r with
  | nil => simp [txtS]
  | cons m r ih =>
    have h1 := ih (fun x hx => hf x (List.mem_cons_of_mem _ hx)) (fun x hx => hr x (List.mem_cons_of_mem _ hx))
    have h2 := lineT_len (hr m List.mem_cons_self) (hf m List.mem_cons_self)
    simp only [txtS, List.flatMap_cons, List.length_append, List.length_cons, List.length_nil] at h1 ⊢
    omega
theorem texts_bad {r : List (Stp × Value)} {k : Nat} (h : k < r.length) (hr : rightS r[k].1 = false) : textS r = none := by
  unfold textS
  rw [if_neg]
  intro e
  rw [List.all_eq_true.1 e _ (List.getElem_mem h)] at hr
  cases hr
theorem texts_all {r : List (Stp × Value)} (h : ∀ j, (hj : j < r.length) → rightS r[j].1 = true) : textS r = some (txtS r) := by
  unfold textS
  rw [if_pos]
  refine List.all_eq_true.2 fun m hm => ?_
  obtain ⟨j, hj, rfl⟩ := List.mem_iff_getElem.1 hm
  exact h j hj
/-- What both Texts answer. -/
def TextSIs (r : List (Stp × Value)) (w : World) (e : Ending) (w' : World) : Prop :=
  (if 2000 < r.length then e = .returned (.tuple #[.string (strB []), .int .i64 9]) else e = .returned (.tuple #[.string (strB ((textS r).getD [])), .int .i64 (if (textS r).isSome = true then 0 else 1)])) ∧ Below w.heap.size w w'
end Go.Proofs.YtmkcooamgojbpaaDoor.Lines

/- words.Text and damperref35.Text. -/
namespace Go.Proofs.YtmkcooamgojbpaaDoor.Lines
open Go.RowKit Go.Proofs.YtmkcooamgojbpaaDoor.Kit Go.Proofs.YtmkcooamgojbpaaDoor.Blk Go.Proofs.YtmkcooamgojbpaaDoor.Dec Go.Proofs.YtmkcooamgojbpaaDoor.Words Go.Proofs.YtmkcooamgojbpaaDoor.Octets Go.Proofs.YtmkcooamgojbpaaDoor.Steps Go.Proofs.YtmkcooamgojbpaaDoor.Cmds
attribute [local go_sem ↓] Go.wp_at_zero Go.wp_at_succ
set_option linter.unusedVariables false

def OKto (r : List (Stp × Value)) (k : Nat) : Prop := ∀ j, (hj : j < r.length) → j < k → rightS r[j].1 = true
theorem okto_next {r : List (Stp × Value)} {k : Nat} (h : OKto r k) (hk : k < r.length) (hr : rightS r[k].1 = true) : OKto r (k + 1) := fun j hj hjk => by
  by_cases e : j < k
  · exact h j hj e
  · have : j = k := by omega
    subst this; exact hr
theorem okto_len {r : List (Stp × Value)} {k : Nat} (h : OKto r k) (hk : k ≤ r.length) (hin : ∀ x ∈ r, StpIn x.1) : (txtS (r.take k)).length ≤ 2301 * k := by
  have := txts_len (r := r.take k) (fun x hx => hin x (List.mem_of_mem_take hx)) (fun x hx => by
    obtain ⟨j, hj, rfl⟩ := List.mem_iff_getElem.1 hx
    rw [List.length_take] at hj
    rw [List.getElem_take]
    exact h j (by omega) (by omega))
  rwa [List.length_take, Nat.min_eq_left hk] at this
set_option maxRecDepth 20000 in
set_option maxHeartbeats 4000000 in
theorem wtext_any (M : Nat) (a : Option Addr) (cap : Nat) (r : List (Stp × Value)) (w : World) (hrow : RowE M a r w) (hM : M ≤ w.heap.size) (hl : r.length ≤ 2100) (hb : ∀ x ∈ r, x.1.l.length ≤ 100) :
    Calls Tryd.prog 54 #[.slice a r.length cap] w (TextSIs r w) := by
  have HR := Lib.hid hrow
  have HBY := Lib.hid hb
  have HB0 := Lib.hid (bd_new w w.heap.size rfl)
  clear hrow hb
  by_cases hbig : 2000 < r.length
  · have b1 : (2000 : Int) < (r.length : Int) := by omega
    refine Calls.mono (R := fun e w' => e = .returned (.tuple #[.string (strB []), .int .i64 9]) ∧ Below w.heap.size w w') ?_ (fun _ _ ⟨h1, h2⟩ => ⟨by rw [if_pos hbig]; exact h1, h2⟩)
    go_enter Tryd.func54, Tryd.ntmps54
    go_wp2_with fail
    go_ret2
    exact ⟨rfl, Below.refl _ _⟩
  have b1 : ¬ (2000 : Int) < (r.length : Int) := by omega
  refine Calls.mono (R := LineIs (textS r) w) ?_ (fun _ _ ⟨h1, h2⟩ => ⟨by rw [if_neg hbig]; exact h1, h2⟩)
  go_enter Tryd.func54, Tryd.ntmps54
  go_wp2_with fail
  go_loopw [14] (fun i wr => ∃ k : Nat, k ≤ r.length ∧ i = .int .i64 k ∧ BdS w.heap.size (txtS (r.take k)) wr ∧ Below w.heap.size w wr ∧ Hid (OKto r k)) (fun i _ => r.length - (intOf i).toNat)
  case atStart => exact ⟨0, by omega, rfl, HB0.out, (Below.refl _ _).alloc (Nat.le_refl _) _, Lib.hid fun j _ h => absurd h (Nat.not_lt_zero _)⟩
  case round =>
    obtain ⟨k, hk, rfl, hb, hbel, HOK⟩ := hrel
    clear HB0
    have HBD := Lib.hid hb
    have HBL := Lib.hid hbel
    clear hb hbel
    by_cases hlt : k < r.length
    · have HRW := Lib.hid (HR.out.below hM HBL.out)
      obtain ⟨g, off, rfl, hg, hat, ua, uc, hu⟩ := rowE_at HRW.out k hlt
      rw [hu] at hat
      have HAT := Lib.hid hat
      have HIN := Lib.hid (HRW.out.inn _ (List.getElem_mem hlt)).1
      have HEE := Lib.hid (HRW.out.bytes _ (List.getElem_mem hlt))
      have HBYK := Lib.hid (HBY.out _ (List.getElem_mem hlt))
      rw [hu] at HEE
      have HT := Lib.hid (txts_next hlt)
      have HTL := Lib.hid (okto_len HOK.out hk (fun x hx => (HRW.out.inn x hx).1))
      have HBAD := Lib.hid (texts_bad hlt)
      have HSTEP := Lib.hid (okto_next HOK.out hlt)
      clear hat hu HRW
      generalize r[k].1 = s at HAT HIN HEE HBYK HT HBAD HSTEP
      have hkl : (k : Int) < (r.length : Int) := by omega
      unfold stepC at HAT
      go_upto_region 7 with (refine wpList_load_mid rfl 42 (.tmp 16) rfl g (off + k * 4) rfl _ _ HAT.out Tryd.underlying42 rfl (by kernel_rfl) ?_)
      have HBD4 := Lib.hid (HBD.out.alloc (.cells (stepC s.k s.y s.v (.slice ua s.l.length uc)) 42))
      have HBL4 := Lib.hid (HBL.out.alloc HBL.out.size (.cells (stepC s.k s.y s.v (.slice ua s.l.length uc)) 42))
      have HX := Lib.hid (Blk.new wr (stepC s.k s.y s.v (.slice ua s.l.length uc)) 42 wr.heap.size rfl)
      have HLN := Lib.hid (wline_e M s HIN.out (by have := HBYK.out; omega) _ _ (Nat.le_trans hM HBL4.out.size) (HEE.out.below (Nat.le_trans hM HBL.out.size) ((Below.refl wr.heap.size wr).alloc (Nat.le_refl _) (.cells (stepC s.k s.y s.v (.slice ua s.l.length uc)) 42))))
      have HLT := Lib.hid (fun hr => lineT_len (s := s) hr HIN.out)
      rw [lineF_eq] at HLN
      unfold LineIs at HLN
      clear HBD HBL HAT HEE HBYK HIN
      cases hr : rightS s with
      | false =>
        have HTX := Lib.hid (HBAD.out hr)
        rw [hr, if_neg (by decide)] at HLN
        clear hr
        unfold stepC at HLN HBL4 HX
        go_wp2_with (refine load_blk (by rfl) 42 _ (by rfl) wr.heap.size (by rfl) _ _ HX.out _ Tryd.underlying42 rfl (by kernel_rfl) ?_)
        refine HLN.out.mono ?_
        rintro e w5 ⟨rfl, hb5⟩
        have HBL5 := Lib.hid (HBL4.out.trans (hb5.mono HBL4.out.size))
        clear hb5
        go_wp2_with fail
        go_ret2
        exact ⟨by rw [HTX.out]; rfl, HBL5.out⟩
      | true =>
        have HS := Lib.hid (HSTEP.out hr)
        have hll := HLT.out hr
        rw [hr, if_pos rfl] at HLN
        clear hr
        unfold stepC at HLN HBL4 HBD4 HX
        go_wp2_with (refine load_blk (by rfl) 42 _ (by rfl) wr.heap.size (by rfl) _ _ HX.out _ Tryd.underlying42 rfl (by kernel_rfl) ?_)
        refine HLN.out.mono ?_
        rintro e w5 ⟨rfl, hb5⟩
        have HBL5 := Lib.hid (HBL4.out.trans (hb5.mono HBL4.out.size))
        have HBD5 := Lib.hid (HBD4.out.below hb5)
        clear hb5 HBD4 HBL4 HLN HX
        simp only [Option.getD_some, Option.isSome_some, if_true]
        go_wp2_with fail
        refine (writeString_any w.heap.size _ (lineT s) w5 HBD5.out (by have := HTL.out; omega)).mono ?_
        rintro e w6 ⟨rfl, hb6, hl6⟩
        have HBL6 := Lib.hid (HBL5.out.trans hl6)
        have HBD6 := Lib.hid hb6
        clear hb6 hl6 HBD5 HBL5
        go_wp2_with fail
        refine (writeByte_any w.heap.size _ 10 w6 HBD6.out (by have := HTL.out; rw [List.length_append]; omega)).mono ?_
        rintro e w7 ⟨rfl, hb7, hl7⟩
        have HBL7 := Lib.hid (HBL6.out.trans hl7)
        have HBD7 := Lib.hid hb7
        clear hb7 hl7 HBD6 HBL6
        rw [List.append_assoc, ← HT.out] at HBD7
        go_wp2_with fail
        go_roundw
        case rel => exact ⟨k + 1, by omega, by go_num, HBD7.out, HBL7.out, HS⟩
        case measure => simp [intOf]; omega
    · obtain rfl : k = r.length := by omega
      have HTX := Lib.hid (texts_all (fun j hj => HOK.out j hj hj))
      have hbd := HBD.out
      rw [List.take_length] at hbd
      have HST := Lib.hid (string_any w.heap.size (txtS r) wr hbd)
      clear hbd
      go_wp2_with fail
      refine HST.out.mono ?_
      rintro e w5 ⟨rfl, hb5⟩
      have HBL5 := Lib.hid (HBL.out.trans hb5)
      clear hb5
      go_wp2_with fail
      go_ret2
      exact ⟨by rw [HTX.out]; rfl, HBL5.out⟩
set_option maxRecDepth 20000 in
set_option maxHeartbeats 4000000 in
theorem rwtext_any (M : Nat) (a : Option Addr) (cap : Nat) (r : List (Stp × Value)) (w : World) (hrow : RowE M a r w) (hM : M ≤ w.heap.size) (hl : r.length ≤ 2100) (hb : ∀ x ∈ r, x.1.l.length ≤ 100) :
    Calls Tryd.prog 55 #[.slice a r.length cap] w (TextSIs r w) := by
  have HR := Lib.hid hrow
  have HBY := Lib.hid hb
  clear hrow hb
  by_cases hbig : 2000 < r.length
  · have b1 : (2000 : Int) < (r.length : Int) := by omega
    refine Calls.mono (R := fun e w' => e = .returned (.tuple #[.string (strB []), .int .i64 9]) ∧ Below w.heap.size w w') ?_ (fun _ _ ⟨h1, h2⟩ => ⟨by rw [if_pos hbig]; exact h1, h2⟩)
    go_enter Tryd.func55, Tryd.ntmps55
    go_wp2_with fail
    go_ret2
    exact ⟨rfl, Below.refl _ _⟩
  have b1 : ¬ (2000 : Int) < (r.length : Int) := by omega
  refine Calls.mono (R := LineIs (textS r) w) ?_ (fun _ _ ⟨h1, h2⟩ => ⟨by rw [if_neg hbig]; exact h1, h2⟩)
  go_enter Tryd.func55, Tryd.ntmps55
  go_wp2_with fail
  go_loopw [4, 5] (fun o i wr => ∃ k : Nat, k ≤ r.length ∧ i = .int .i64 k ∧ o = .string (strB (txtS (r.take k))) ∧ Below w.heap.size w wr ∧ Hid (OKto r k)) (fun _ i _ => r.length - (intOf i).toNat)
  case atStart => exact ⟨0, by omega, rfl, rfl, Below.refl _ _, Lib.hid fun j _ h => absurd h (Nat.not_lt_zero _)⟩
  case round =>
    obtain ⟨k, hk, rfl, rfl, hbel, HOK⟩ := hrel
    have HBL := Lib.hid hbel
    clear hbel
    by_cases hlt : k < r.length
    · have HRW := Lib.hid (HR.out.below hM HBL.out)
      obtain ⟨g, off, rfl, hg, hat, ua, uc, hu⟩ := rowE_at HRW.out k hlt
      rw [hu] at hat
      have HAT := Lib.hid hat
      have HIN := Lib.hid (HRW.out.inn _ (List.getElem_mem hlt)).1
      have HEE := Lib.hid (HRW.out.bytes _ (List.getElem_mem hlt))
      have HBYK := Lib.hid (HBY.out _ (List.getElem_mem hlt))
      rw [hu] at HEE
      have HT := Lib.hid (txts_next hlt)
      have htl := okto_len HOK.out hk (fun x hx => (HRW.out.inn x hx).1)
      have HBAD := Lib.hid (texts_bad hlt)
      have HSTEP := Lib.hid (okto_next HOK.out hlt)
      clear hat hu HRW
      generalize r[k].1 = s at HAT HIN HEE HBYK HT HBAD HSTEP
      have hkl : (k : Int) < (r.length : Int) := by omega
      have HLN := Lib.hid (rline_e M s HIN.out (by have := HBYK.out; omega) _ wr (Nat.le_trans hM HBL.out.size) HEE.out)
      have HLT := Lib.hid (fun hr => lineT_len (s := s) hr HIN.out)
      rw [lineF_eq] at HLN
      unfold LineIs at HLN
      clear HEE HBYK HIN
      cases hr : rightS s with
      | false =>
        have HTX := Lib.hid (HBAD.out hr)
        rw [hr, if_neg (by decide)] at HLN
        clear hr
        unfold stepC at HLN HAT
        go_wp2_with (refine wpList_load_mid rfl 42 (.tmp 20) rfl g (off + k * 4) rfl _ _ HAT.out Tryd.underlying42 rfl (by kernel_rfl) ?_)
        refine HLN.out.mono ?_
        rintro e w5 ⟨rfl, hb5⟩
        have HBL5 := Lib.hid (HBL.out.trans (hb5.mono HBL.out.size))
        clear hb5
        go_wp2_with fail
        go_ret2
        exact ⟨by rw [HTX.out]; rfl, HBL5.out⟩
      | true =>
        have HS := Lib.hid (HSTEP.out hr)
        have hll := HLT.out hr
        rw [hr, if_pos rfl] at HLN
        clear hr
        unfold stepC at HLN HAT
        go_wp2_with (refine wpList_load_mid rfl 42 (.tmp 20) rfl g (off + k * 4) rfl _ _ HAT.out Tryd.underlying42 rfl (by kernel_rfl) ?_)
        refine HLN.out.mono ?_
        rintro e w5 ⟨rfl, hb5⟩
        have HBL5 := Lib.hid (HBL.out.trans (hb5.mono HBL.out.size))
        clear hb5 HLN HBL
        simp only [Option.getD_some, Option.isSome_some, if_true]
        obtain ⟨A, hA⟩ : ∃ A, strB (txtS (r.take k)) = A := ⟨_, rfl⟩
        obtain ⟨B, hB⟩ : ∃ B, strB (lineT s) = B := ⟨_, rfl⟩
        have sA : A.size ≤ 5000000 := by rw [← hA, strB_size]; omega
        have sB : B.size ≤ 2300 := by rw [← hB, strB_size]; exact hll
        have HE := Lib.hid (show A ++ B ++ ⟨#[10]⟩ = strB (txtS (r.take (k + 1))) by rw [← hA, ← hB, HT.out, show (⟨#[10]⟩ : ByteArray) = strB [10] from rfl, strB_app, strB_app, List.append_assoc])
        rw [hA, hB]
        obtain ⟨C, hC⟩ : ∃ C, A ++ B = C := ⟨_, rfl⟩
        have sC : C.size ≤ 5002300 := by rw [← hC, ByteArray.size_append]; omega
        have g1 : ¬ 9223372036854775807 < A.size + B.size := by omega
        have g2 : ¬ 9223372036854775807 < C.size + 1 := by omega
        rw [hC] at HE
        clear hA hB sA sB sC htl hll
        go_wp2_with fail
        go_roundw
        case rel => exact ⟨k + 1, by omega, by go_num, by rw [← HE.out], HBL5.out, HS⟩
        case measure => simp [intOf]; omega
    · obtain rfl : k = r.length := by omega
      have HTX := Lib.hid (texts_all (fun j hj => HOK.out j hj hj))
      rw [List.take_length]
      go_wp2_with fail
      go_ret2
      exact ⟨by rw [HTX.out]; rfl, HBL.out⟩
end Go.Proofs.YtmkcooamgojbpaaDoor.Lines

/- words.reader's step: any words. -/
namespace Go.Proofs.YtmkcooamgojbpaaDoor.Lines
open Go.RowKit Go.Proofs.YtmkcooamgojbpaaDoor.Kit Go.Proofs.YtmkcooamgojbpaaDoor.Blk Go.Proofs.YtmkcooamgojbpaaDoor.Dec Go.Proofs.YtmkcooamgojbpaaDoor.Words Go.Proofs.YtmkcooamgojbpaaDoor.Octets Go.Proofs.YtmkcooamgojbpaaDoor.Steps Go.Proofs.YtmkcooamgojbpaaDoor.Cmds
attribute [local go_sem ↓] Go.wp_at_zero Go.wp_at_succ
set_option linter.unusedVariables false

theorem raw_any (P : Nat) (ws : List Tok) (w : World) (h : WRd P ws w) :
    Calls Tryd.prog 134 #[.pointer (some ⟨P, 0, none⟩)] w (RdV (StepV w.heap.size) (rawP ws) P w) := by
  cases ws with
  | nil => exact raw_nil P w h
  | cons x l =>
    by_cases hx : 0 < x.length ∧ x.length % 2 = 0 ∧ x.length ≤ 128
    · exact raw_good P x l hx.1 hx.2.1 hx.2.2 w h
    · exact raw_bad P x l hx w h
set_option maxRecDepth 20000 in
set_option maxHeartbeats 4000000 in
theorem step_raw (P : Nat) (l : List Tok) (w : World) (h : WRd P (tRaw :: l) w) :
    Calls Tryd.prog 80 #[.pointer (some ⟨P, 0, none⟩)] w (StepIs (stepP (tRaw :: l)) P w) := by
  have hP := h.lt
  have hR0 := h.below (P := P) hP ((Below.refl w.heap.size w).alloc (Nat.le_refl _) (.cells (stepC 0 0 0 (.slice none 0 0)) 42))
  have HI := Lib.hid (word_any' P _ _ hR0)
  have HZ0 := Lib.hid (Blk.new w (stepC 0 0 0 (.slice none 0 0)) 42 w.heap.size rfl)
  have HC0 := Lib.hid ((Chg.refl w.heap.size P w).alloc (Nat.le_refl _) (.cells (stepC 0 0 0 (.slice none 0 0)) 42))
  have HE := Lib.hid (step_eq (show bodyP tRaw l = rawP l from rfl))
  clear h hR0
  go_enter Tryd.func80, Tryd.ntmps80
  go_wp2_with fail
  refine HI.out.mono ?_
  rintro e w1 (⟨ho, rfl, hc⟩ | ⟨x, l', ho, rfl, hr, hc⟩)
  · cases ho
  injection ho with ho
  injection ho with h1 h2
  subst h1 h2
  have HC := Lib.hid (HC0.out.trans (hc.mono (by simp)))
  have HZ := Lib.hid (hc.blk (by simp) (by omega) HZ0.out)
  have HR := Lib.hid hr
  have HM := Lib.hid (raw_any P l w1 hr)
  clear hr hc HI HZ0 HC0
  have k1 : ((strB tRaw).toList == [116, 105, 99, 107]) = false := by rw [strB_toList]; decide
  have k2 : ((strB tRaw).toList == [105, 110, 100, 101, 120]) = false := by rw [strB_toList]; decide
  have k3 : ((strB tRaw).toList == [98, 105, 100]) = false := by rw [strB_toList]; decide
  have k4 : ((strB tRaw).toList == [110, 101, 119]) = false := by rw [strB_toList]; decide
  have k5 : ((strB tRaw).toList == [99, 97, 110, 99, 101, 108]) = false := by rw [strB_toList]; decide
  have k6 : ((strB tRaw).toList == [114, 101, 112, 108, 97, 99, 101]) = false := by rw [strB_toList]; decide
  have k7 : ((strB tRaw).toList == [114, 97, 119]) = true := by rw [strB_toList]; decide
  go_wp2_with fail
  refine HM.out.mono ?_
  rintro e w2 (⟨ho, rfl, hc⟩ | ⟨st, l3, v, ho, rfl, ⟨u, rfl, hby⟩, hr, hc⟩)
  · have HN := Lib.hid (show stepP (tRaw :: l) = none by rw [HE.out, ho]; rfl)
    replace HC := Lib.hid (HC.out.trans (hc.mono HC.out.size))
    clear ho hc HM HE k1 k2 k3 k4 k5 k6 k7
    go_wp2_with fail
    exact ⟨rfl, .inl ⟨HN.out, rfl, HC.out⟩⟩
  rw [ho] at HE
  replace HE := Lib.hid (show stepP (tRaw :: l) = if l3 = [] then some st else none from HE.out)
  obtain ⟨ua, un, uc, rfl⟩ := bytes_form hby
  replace HZ := Lib.hid (hc.blk HZ.out.lt (by omega) HZ.out)
  have HY := Lib.hid (bytes_cells (stepC st.k st.y st.v (.slice ua un uc)).toList 0 _ _ (bytes_mono hby HC.out.size) HZ.out)
  have hbel := Blk.Below.setCells (stepC st.k st.y st.v (.slice ua un uc)).toList 0 _ (Below.refl w.heap.size w2) (B := w.heap.size) (Nat.le_refl _)
  replace HR := Lib.hid (hr.below hP hbel)
  replace HC := Lib.hid ((HC.out.trans (hc.mono HC.out.size)).step hbel)
  have HZ3 := Lib.hid (HZ.out.setCells (stepC st.k st.y st.v (.slice ua un uc)) rfl)
  clear ho hby hr hc hbel HM k1 k2 k3 k4 k5 k6 k7
  go_wp2_with (refine store_blk (by rfl) 42 _ _ (by rfl) w.heap.size (by rfl) _ (stepC st.k st.y st.v (.slice ua un uc)) 42 HZ.out (by rfl) rfl (by kernel_rfl) (one_stp _ _ _ _ _ _) ?_; clear HZ; generalize w2.setCells w.heap.size 0 (stepC st.k st.y st.v (.slice ua un uc)).toList = w3 at HC HZ3 HR HY ⊢; have HZ := HZ3; clear HZ3; obtain ⟨ra, rc, hrs⟩ := HR.out.slice; have c0 : w3.cell? ⟨P, 0, none⟩ = some (.slice ra l3.length rc) := hrs.cell 0 rfl; clear hrs)
  by_cases hl3 : l3 = []
  · have HE3 := Lib.hid (show stepP (tRaw :: l) = some st by rw [HE.out, if_pos hl3])
    have hz : ((l3.length : Int) == 0) = true := by rw [hl3]; rfl
    clear HE c0
    rw [hz]
    refine (must_true _).mono ?_
    rintro e w4 ⟨rfl, rfl⟩
    go_wp2_with (first
      | (refine load_blk (by rfl) 42 _ (by rfl) w.heap.size (by rfl) _ _ HZ.out _ Tryd.underlying42 rfl (by kernel_rfl) ?_)
      | (refine store_blk (by rfl) 42 _ _ (by rfl) w.heap.size (by rfl) _ (stepC st.k st.y st.v (.slice ua un uc)) 42 HZ.out (by rfl) rfl (by kernel_rfl) (one_stp _ _ _ _ _ _) ?_))
    refine bodyPost_ret (results_cell_row rfl _ _ _ _ _ (0, 0) _ rfl (HZ.out.setCells (stepC st.k st.y st.v (.slice ua un uc)) rfl) Tryd.underlying42 rfl (by kernel_rfl)) rfl ?_
    have hbel := Blk.Below.setCells (stepC st.k st.y st.v (.slice ua un uc)).toList 0 _ (Below.refl w.heap.size w3) (B := w.heap.size) (Nat.le_refl _)
    exact .inr ⟨st, _, HE3.out, rfl, ⟨_, rfl, bytes_cells _ _ _ _ HY.out HZ.out⟩, HC.out.step hbel⟩
  · have HE3 := Lib.hid (show stepP (tRaw :: l) = none by rw [HE.out]; exact if_neg hl3)
    have hz : ((l3.length : Int) == 0) = false := by
      have : l3.length ≠ 0 := fun h => hl3 (List.length_eq_zero_iff.1 h)
      simp; omega
    clear HE
    rw [hz]
    refine (must_false _).mono ?_
    rintro e w4 ⟨rfl, rfl⟩
    go_wp2_with fail
    exact ⟨rfl, .inl ⟨HE3.out, rfl, HC.out⟩⟩
set_option maxRecDepth 20000 in
set_option maxHeartbeats 4000000 in
theorem step_other (P : Nat) (t : Tok) (l : List Tok) (w : World) (h : WRd P (t :: l) w) (h1 : t ≠ tTick) (h2 : t ≠ tIndex) (h3 : t ≠ tBid) (h4 : t ≠ tNew) (h5 : t ≠ tCancel) (h6 : t ≠ tReplace) (h7 : t ≠ tRaw) :
    Calls Tryd.prog 80 #[.pointer (some ⟨P, 0, none⟩)] w (StepIs (stepP (t :: l)) P w) := by
  have hP := h.lt
  have hR0 := h.below (P := P) hP ((Below.refl w.heap.size w).alloc (Nat.le_refl _) (.cells (stepC 0 0 0 (.slice none 0 0)) 42))
  have HI := Lib.hid (word_any' P _ _ hR0)
  have HZ0 := Lib.hid (Blk.new w (stepC 0 0 0 (.slice none 0 0)) 42 w.heap.size rfl)
  have HC0 := Lib.hid ((Chg.refl w.heap.size P w).alloc (Nat.le_refl _) (.cells (stepC 0 0 0 (.slice none 0 0)) 42))
  have HE := Lib.hid (step_eq (show bodyP t l = none from by unfold bodyP; rw [if_neg h1, if_neg h2, if_neg h3, if_neg h4, if_neg h5, if_neg h6, if_neg h7]))
  clear h hR0
  go_enter Tryd.func80, Tryd.ntmps80
  go_wp2_with fail
  refine HI.out.mono ?_
  rintro e w1 (⟨ho, rfl, hc⟩ | ⟨x, l', ho, rfl, hr, hc⟩)
  · cases ho
  injection ho with ho
  injection ho with ho1 ho2
  subst ho1 ho2
  have HC := Lib.hid (HC0.out.trans (hc.mono (by simp)))
  have HZ := Lib.hid (hc.blk (by simp) (by omega) HZ0.out)
  have HR := Lib.hid hr
  clear hr hc HI HZ0 HC0
  have k1 : ((strB t).toList == [116, 105, 99, 107]) = false := by rw [strB_toList]; simpa [tTick] using h1
  have k2 : ((strB t).toList == [105, 110, 100, 101, 120]) = false := by rw [strB_toList]; simpa [tIndex] using h2
  have k3 : ((strB t).toList == [98, 105, 100]) = false := by rw [strB_toList]; simpa [tBid] using h3
  have k4 : ((strB t).toList == [110, 101, 119]) = false := by rw [strB_toList]; simpa [tNew] using h4
  have k5 : ((strB t).toList == [99, 97, 110, 99, 101, 108]) = false := by rw [strB_toList]; simpa [tCancel] using h5
  have k6 : ((strB t).toList == [114, 101, 112, 108, 97, 99, 101]) = false := by rw [strB_toList]; simpa [tReplace] using h6
  have k7 : ((strB t).toList == [114, 97, 119]) = false := by rw [strB_toList]; simpa [tRaw] using h7
  go_wp2_with fail
  refine (must_false _).mono ?_
  rintro e w4 ⟨rfl, rfl⟩
  go_wp2_with fail
  exact ⟨rfl, .inl ⟨HE.out, rfl, HC.out⟩⟩
set_option maxRecDepth 20000 in
set_option maxHeartbeats 4000000 in
theorem step_nil (P : Nat) (w : World) (h : WRd P [] w) :
    Calls Tryd.prog 80 #[.pointer (some ⟨P, 0, none⟩)] w (StepIs (stepP []) P w) := by
  have hP := h.lt
  have hR0 := h.below (P := P) hP ((Below.refl w.heap.size w).alloc (Nat.le_refl _) (.cells (stepC 0 0 0 (.slice none 0 0)) 42))
  have HI := Lib.hid (word_any' P _ _ hR0)
  have HC0 := Lib.hid ((Chg.refl w.heap.size P w).alloc (Nat.le_refl _) (.cells (stepC 0 0 0 (.slice none 0 0)) 42))
  clear h hR0
  go_enter Tryd.func80, Tryd.ntmps80
  go_wp2_with fail
  refine HI.out.mono ?_
  rintro e w1 (⟨ho, rfl, hc⟩ | ⟨x, l', ho, rfl, hr, hc⟩)
  · have HC := Lib.hid (HC0.out.trans (hc.mono (by simp)))
    clear ho hc
    go_wp2_with fail
    exact ⟨rfl, .inl ⟨rfl, rfl, HC.out⟩⟩
  · cases ho
/-- (*words.reader).step, of any words. -/
theorem step_any (P : Nat) (ws : List Tok) (w : World) (h : WRd P ws w) :
    Calls Tryd.prog 80 #[.pointer (some ⟨P, 0, none⟩)] w (StepIs (stepP ws) P w) := by
  cases ws with
  | nil => exact step_nil P w h
  | cons t l =>
    by_cases h1 : t = tTick
    · subst h1; exact step_tick P l w h
    by_cases h2 : t = tIndex
    · subst h2; exact step_index P l w h
    by_cases h3 : t = tBid
    · subst h3; exact step_bid P l w h
    by_cases h4 : t = tNew
    · subst h4; exact step_new P l w h
    by_cases h5 : t = tCancel
    · subst h5; exact step_cancel P l w h
    by_cases h6 : t = tReplace
    · subst h6; exact step_replace P l w h
    by_cases h7 : t = tRaw
    · subst h7; exact step_raw P l w h
    · exact step_other P t l w h h1 h2 h3 h4 h5 h6 h7
/-- words.Parse, of any line. -/
theorem wparse_any (l : List UInt8) (hl : l.length ≤ 100000) (w : World) (hm : MX w) : Calls Tryd.prog 26 #[.string (strB l)] w (WParseIs (stepP (splitW l)) w) :=
  parse_of l hl _ (fun P w h => step_any P _ w h) w hm
end Go.Proofs.YtmkcooamgojbpaaDoor.Lines

/- damperref35.guess. -/
namespace Go.Proofs.YtmkcooamgojbpaaDoor.Lines
open Go.RowKit Go.Proofs.YtmkcooamgojbpaaDoor.Kit Go.Proofs.YtmkcooamgojbpaaDoor.Blk Go.Proofs.YtmkcooamgojbpaaDoor.Dec Go.Proofs.YtmkcooamgojbpaaDoor.Words Go.Proofs.YtmkcooamgojbpaaDoor.Octets Go.Proofs.YtmkcooamgojbpaaDoor.Steps Go.Proofs.YtmkcooamgojbpaaDoor.Cmds
attribute [local go_sem ↓] Go.wp_at_zero Go.wp_at_succ
set_option linter.unusedVariables false

/-- A step as an answer: its bytes are new. -/
def StepAns (s : Stp) (w : World) (e : Ending) (w' : World) : Prop := ∃ u, e = .returned (.agg (stepC s.k s.y s.v u)) ∧ BytesOf w.heap.size s.l u w' ∧ Below w.heap.size w w'
/-- What is known in guess: the answer's block, the command, the words. -/
structure GS (w : World) (C b : Nat) (ws : List Tok) (c : Cmd) (W : World) : Prop where
  z : Blk W w.heap.size (stepC 0 0 0 (.slice none 0 0)) 42
  c : Blk W C c.cells 164
  bel : Below w.heap.size w W
  row : ∀ j, (h : j < ws.length) → W.cell? ⟨b, j, none⟩ = some (.string (strB ws[j]))
  bC : b < w.heap.size
  C0 : w.heap.size < C
section
variable {w W W' : World} {C b : Nat} {ws : List Tok} {c c' : Cmd}
theorem GS.below (h : GS w C b ws c W) (hb : Below W.heap.size W W') : GS w C b ws c W' :=
  ⟨h.z.below hb h.z.lt, h.c.below hb h.c.lt, h.bel.trans (hb.mono h.bel.size), fun j hj => by rw [hb.cell (p := ⟨b, j, none⟩) (by show b < _; have := h.z.lt; have := h.bC; omega)]; exact h.row j hj, h.bC, h.C0⟩
theorem GS.drew (h : GS w C b ws c W) : GS w C b ws c W.drew := h.below (Below.refl _ _).drew
theorem GS.store (h : GS w C b ws c W) (j : Nat) (v : Value) (he : c.cells.setIfInBounds j v = c'.cells) : GS w C b ws c' (W.setCell ⟨C, j, none⟩ v) :=
  have h1 := h.C0; have h2 := h.bC
  ⟨h.z.apart _ _ (by show C ≠ _; omega), he ▸ h.c.set j v, h.bel.setCell (by show _ ≤ C; omega) _, fun i hi => by
    rw [World.cell?_of_block (w := W) (w' := W.setCell ⟨C, j, none⟩ v) (a := ⟨b, i, none⟩) (Below.heap_setCell _ _ _ _ (by show b ≠ C; omega))]; exact h.row i hi, h.bC, h.C0⟩
theorem GS.strRow {cp : Nat} (h : GS w C b ws c W) (h0 : 0 < ws.length) (hc : ws.length ≤ cp) : StrRow (.slice (some ⟨b, 0, none⟩) ws.length cp) ws W :=
  .inr ⟨h0, b, cp, rfl, hc, by have := h.z.lt; have := h.bC; omega, h.row⟩
end
theorem tok_eq (t x : Tok) : ((strB t).toList == x) = decide (t = x) := by rw [strB_toList']; by_cases h : t = x <;> simp [h]
set_option maxRecDepth 20000 in
set_option maxHeartbeats 4000000 in
theorem guess_tick (b cp : Nat) (t : Tok) (ht : t = tTick) (l : List Tok) (hl : ∀ x ∈ t :: l, x.length ≤ 100000) (hcp : l.length + 1 ≤ cp) (w : World) (hb : b < w.heap.size) (hrow : ∀ j, (h : j < (t :: l).length) → w.cell? ⟨b, j, none⟩ = some (.string (strB (t :: l)[j]))) :
    Calls Tryd.prog 81 #[.slice (some ⟨b, 0, none⟩) (l.length + 1) cp] w (StepAns (guessF (t :: l)) w) := by
  have HE := Lib.hid (show guessF (t :: l) = ⟨2, 0, nAt (t :: l) 1, []⟩ from by unfold guessF; rw [if_pos (show ((t :: l)[0]?).getD [] = tTick from ht)])
  have k1 : ((strB t).toList == [116, 105, 99, 107]) = decide (t = tTick) := tok_eq t _
  have k2 : ((strB t).toList == [105, 110, 100, 101, 120]) = decide (t = tIndex) := tok_eq t _
  have k3 : ((strB t).toList == [98, 105, 100]) = decide (t = tBid) := tok_eq t _
  have k4 : ((strB t).toList == [114, 97, 119]) = decide (t = tRaw) := tok_eq t _
  have k5 : ((strB t).toList == [99, 97, 110, 99, 101, 108]) = decide (t = tCancel) := tok_eq t _
  have k6 : ((strB t).toList == [114, 101, 112, 108, 97, 99, 101]) = decide (t = tReplace) := tok_eq t _
  have k7 : ((strB t).toList == [110, 101, 119]) = decide (t = tNew) := tok_eq t _
  rw [decide_eq_true ht] at k1
  rw [decide_eq_false (show ¬ t = tIndex from by rw [ht]; decide)] at k2
  rw [decide_eq_false (show ¬ t = tBid from by rw [ht]; decide)] at k3
  rw [decide_eq_false (show ¬ t = tRaw from by rw [ht]; decide)] at k4
  rw [decide_eq_false (show ¬ t = tCancel from by rw [ht]; decide)] at k5
  rw [decide_eq_false (show ¬ t = tReplace from by rw [ht]; decide)] at k6
  rw [decide_eq_false (show ¬ t = tNew from by rw [ht]; decide)] at k7
  clear ht
  have HZ0 := Lib.hid (Blk.new w (stepC 0 0 0 (.slice none 0 0)) 42 w.heap.size rfl)
  have HSR := Lib.hid ((show StrRow (.slice (some ⟨b, 0, none⟩) (l.length + 1) cp) (t :: l) w from .inr ⟨by simp, b, cp, rfl, by simpa using hcp, hb, hrow⟩).below ((Below.refl w.heap.size w).alloc (Nat.le_refl _) (.cells (stepC 0 0 0 (.slice none 0 0)) 42)))
  have HROW := Lib.hid hrow
  have HN := Lib.hid (fun j hj v W h => rnum_any v (t :: l) hl j hj W h)
  have HL := Lib.hid hl
  clear hrow hl
  go_enter Tryd.func81, Tryd.ntmps81
  go_wp2_with fail
  refine (HN.out 1 (by omega) _ _ HSR.out).mono ?_
  rintro e w1 ⟨rfl, hb1⟩
  replace HSR := Lib.hid (HSR.out.below hb1)
  replace HZ0 := Lib.hid (HZ0.out.below hb1 (by simp))
  have HB1 := Lib.hid (((Below.refl w.heap.size w).alloc (Nat.le_refl _) (.cells (stepC 0 0 0 (.slice none 0 0)) 42)).trans (hb1.mono (by simp)))
  clear hb1
  go_wp2_with fail
  refine (HN.out 2 (by omega) _ _ HSR.out).mono ?_
  rintro e w2 ⟨rfl, hb2⟩
  have hsz : w.heap.size < w2.heap.size := Nat.lt_of_lt_of_le HZ0.out.lt hb2.size
  have HG := Lib.hid (show GS w w2.heap.size b (t :: l) ⟨0, nAt (t :: l) 1, nAt (t :: l) 2, 0, 0, 0, 0, 0, 0⟩ (w2.alloc (.cells (Cmd.cells ⟨0, nAt (t :: l) 1, nAt (t :: l) 2, 0, 0, 0, 0, 0, 0⟩) 164)) from ⟨(HZ0.out.below hb2 HZ0.out.lt).old _, Blk.new _ _ _ _ rfl, (HB1.out.trans (hb2.mono HB1.out.size)).alloc (by omega) _, fun j hj => by
    have hx := ((HB1.out.trans (hb2.mono HB1.out.size)).alloc (by omega) (.cells (Cmd.cells ⟨0, nAt (t :: l) 1, nAt (t :: l) 2, 0, 0, 0, 0, 0, 0⟩) 164)).cell (p := ⟨b, j, none⟩) (by show b < _; omega)
    rw [hx]; exact HROW.out j hj, hb, hsz⟩)
  clear hb2 HZ0 HB1 HSR
  go_upto_region 2 with fail
  change Code.wp _ _ _ _ (w2.alloc (.cells (Cmd.cells ⟨0, nAt (t :: l) 1, nAt (t :: l) 2, 0, 0, 0, 0, 0, 0⟩) 164))
  generalize w2.alloc (.cells (Cmd.cells ⟨0, nAt (t :: l) 1, nAt (t :: l) 2, 0, 0, 0, 0, 0, 0⟩) 164) = w3 at HG ⊢
  generalize w2.heap.size = C at HG hsz ⊢
  have c0 : w3.cell? ⟨b, 0, none⟩ = some (.string (strB t)) := HG.out.row 0 (by simp)
  generalize strB t = T at c0 k1 k2 k3 k4 k5 k6 k7
  go_wp2_with fail
  refine (HN.out 1 (by omega) _ _ (HG.out.strRow (by simp) hcp)).mono ?_
  rintro e w4 ⟨rfl, hb⟩
  replace HG := Lib.hid (HG.out.below hb)
  clear hb
  go_wp2_with (refine store_blk (by rfl) 42 _ _ (by rfl) w.heap.size (by rfl) _ (stepC 2 0 (nAt (t :: l) 1) (.slice none 0 0)) 42 (HG).out.z (by rfl) rfl (by kernel_rfl) (one_stp _ _ _ _ _ _) ?_)
  refine bodyPost_ret (results_cell_row rfl _ _ _ _ _ (0, 0) _ rfl ((HG).out.z.setCells (stepC 2 0 (nAt (t :: l) 1) (.slice none 0 0)) rfl) Tryd.underlying42 rfl (by kernel_rfl)) rfl ?_
  exact ⟨_, by rw [HE.out], .inl ⟨by rw [HE.out], rfl⟩, Blk.Below.setCells _ _ _ (HG).out.bel (Nat.le_refl _)⟩
set_option maxRecDepth 20000 in
set_option maxHeartbeats 4000000 in
theorem guess_index (b cp : Nat) (t : Tok) (ht : t = tIndex) (l : List Tok) (hl : ∀ x ∈ t :: l, x.length ≤ 100000) (hcp : l.length + 1 ≤ cp) (w : World) (hb : b < w.heap.size) (hrow : ∀ j, (h : j < (t :: l).length) → w.cell? ⟨b, j, none⟩ = some (.string (strB (t :: l)[j]))) :
    Calls Tryd.prog 81 #[.slice (some ⟨b, 0, none⟩) (l.length + 1) cp] w (StepAns (guessF (t :: l)) w) := by
  have HE := Lib.hid (show guessF (t :: l) = ⟨3, 0, nAt (t :: l) 1, []⟩ from by unfold guessF; rw [if_neg (show ¬ ((t :: l)[0]?).getD [] = tTick from by rw [show ((t :: l)[0]?).getD [] = t from rfl, ht]; decide), if_pos (show ((t :: l)[0]?).getD [] = tIndex from ht)])
  have k1 : ((strB t).toList == [116, 105, 99, 107]) = decide (t = tTick) := tok_eq t _
  have k2 : ((strB t).toList == [105, 110, 100, 101, 120]) = decide (t = tIndex) := tok_eq t _
  have k3 : ((strB t).toList == [98, 105, 100]) = decide (t = tBid) := tok_eq t _
  have k4 : ((strB t).toList == [114, 97, 119]) = decide (t = tRaw) := tok_eq t _
  have k5 : ((strB t).toList == [99, 97, 110, 99, 101, 108]) = decide (t = tCancel) := tok_eq t _
  have k6 : ((strB t).toList == [114, 101, 112, 108, 97, 99, 101]) = decide (t = tReplace) := tok_eq t _
  have k7 : ((strB t).toList == [110, 101, 119]) = decide (t = tNew) := tok_eq t _
  rw [decide_eq_false (show ¬ t = tTick from by rw [ht]; decide)] at k1
  rw [decide_eq_true ht] at k2
  rw [decide_eq_false (show ¬ t = tBid from by rw [ht]; decide)] at k3
  rw [decide_eq_false (show ¬ t = tRaw from by rw [ht]; decide)] at k4
  rw [decide_eq_false (show ¬ t = tCancel from by rw [ht]; decide)] at k5
  rw [decide_eq_false (show ¬ t = tReplace from by rw [ht]; decide)] at k6
  rw [decide_eq_false (show ¬ t = tNew from by rw [ht]; decide)] at k7
  clear ht
  have HZ0 := Lib.hid (Blk.new w (stepC 0 0 0 (.slice none 0 0)) 42 w.heap.size rfl)
  have HSR := Lib.hid ((show StrRow (.slice (some ⟨b, 0, none⟩) (l.length + 1) cp) (t :: l) w from .inr ⟨by simp, b, cp, rfl, by simpa using hcp, hb, hrow⟩).below ((Below.refl w.heap.size w).alloc (Nat.le_refl _) (.cells (stepC 0 0 0 (.slice none 0 0)) 42)))
  have HROW := Lib.hid hrow
  have HN := Lib.hid (fun j hj v W h => rnum_any v (t :: l) hl j hj W h)
  have HL := Lib.hid hl
  clear hrow hl
  go_enter Tryd.func81, Tryd.ntmps81
  go_wp2_with fail
  refine (HN.out 1 (by omega) _ _ HSR.out).mono ?_
  rintro e w1 ⟨rfl, hb1⟩
  replace HSR := Lib.hid (HSR.out.below hb1)
  replace HZ0 := Lib.hid (HZ0.out.below hb1 (by simp))
  have HB1 := Lib.hid (((Below.refl w.heap.size w).alloc (Nat.le_refl _) (.cells (stepC 0 0 0 (.slice none 0 0)) 42)).trans (hb1.mono (by simp)))
  clear hb1
  go_wp2_with fail
  refine (HN.out 2 (by omega) _ _ HSR.out).mono ?_
  rintro e w2 ⟨rfl, hb2⟩
  have hsz : w.heap.size < w2.heap.size := Nat.lt_of_lt_of_le HZ0.out.lt hb2.size
  have HG := Lib.hid (show GS w w2.heap.size b (t :: l) ⟨0, nAt (t :: l) 1, nAt (t :: l) 2, 0, 0, 0, 0, 0, 0⟩ (w2.alloc (.cells (Cmd.cells ⟨0, nAt (t :: l) 1, nAt (t :: l) 2, 0, 0, 0, 0, 0, 0⟩) 164)) from ⟨(HZ0.out.below hb2 HZ0.out.lt).old _, Blk.new _ _ _ _ rfl, (HB1.out.trans (hb2.mono HB1.out.size)).alloc (by omega) _, fun j hj => by
    have hx := ((HB1.out.trans (hb2.mono HB1.out.size)).alloc (by omega) (.cells (Cmd.cells ⟨0, nAt (t :: l) 1, nAt (t :: l) 2, 0, 0, 0, 0, 0, 0⟩) 164)).cell (p := ⟨b, j, none⟩) (by show b < _; omega)
    rw [hx]; exact HROW.out j hj, hb, hsz⟩)
  clear hb2 HZ0 HB1 HSR
  go_upto_region 2 with fail
  change Code.wp _ _ _ _ (w2.alloc (.cells (Cmd.cells ⟨0, nAt (t :: l) 1, nAt (t :: l) 2, 0, 0, 0, 0, 0, 0⟩) 164))
  generalize w2.alloc (.cells (Cmd.cells ⟨0, nAt (t :: l) 1, nAt (t :: l) 2, 0, 0, 0, 0, 0, 0⟩) 164) = w3 at HG ⊢
  generalize w2.heap.size = C at HG hsz ⊢
  have c0 : w3.cell? ⟨b, 0, none⟩ = some (.string (strB t)) := HG.out.row 0 (by simp)
  generalize strB t = T at c0 k1 k2 k3 k4 k5 k6 k7
  go_wp2_with fail
  refine (HN.out 1 (by omega) _ _ (HG.out.strRow (by simp) hcp)).mono ?_
  rintro e w4 ⟨rfl, hb⟩
  replace HG := Lib.hid (HG.out.below hb)
  clear hb
  go_wp2_with (refine store_blk (by rfl) 42 _ _ (by rfl) w.heap.size (by rfl) _ (stepC 3 0 (nAt (t :: l) 1) (.slice none 0 0)) 42 (HG).out.z (by rfl) rfl (by kernel_rfl) (one_stp _ _ _ _ _ _) ?_)
  refine bodyPost_ret (results_cell_row rfl _ _ _ _ _ (0, 0) _ rfl ((HG).out.z.setCells (stepC 3 0 (nAt (t :: l) 1) (.slice none 0 0)) rfl) Tryd.underlying42 rfl (by kernel_rfl)) rfl ?_
  exact ⟨_, by rw [HE.out], .inl ⟨by rw [HE.out], rfl⟩, Blk.Below.setCells _ _ _ (HG).out.bel (Nat.le_refl _)⟩
set_option maxRecDepth 20000 in
set_option maxHeartbeats 4000000 in
theorem guess_bid (b cp : Nat) (t : Tok) (ht : t = tBid) (l : List Tok) (hl : ∀ x ∈ t :: l, x.length ≤ 100000) (hcp : l.length + 1 ≤ cp) (w : World) (hb : b < w.heap.size) (hrow : ∀ j, (h : j < (t :: l).length) → w.cell? ⟨b, j, none⟩ = some (.string (strB (t :: l)[j]))) :
    Calls Tryd.prog 81 #[.slice (some ⟨b, 0, none⟩) (l.length + 1) cp] w (StepAns (guessF (t :: l)) w) := by
  have HE := Lib.hid (show guessF (t :: l) = ⟨4, nAt (t :: l) 1, nAt (t :: l) 2, []⟩ from by unfold guessF; rw [if_neg (show ¬ ((t :: l)[0]?).getD [] = tTick from by rw [show ((t :: l)[0]?).getD [] = t from rfl, ht]; decide), if_neg (show ¬ ((t :: l)[0]?).getD [] = tIndex from by rw [show ((t :: l)[0]?).getD [] = t from rfl, ht]; decide), if_pos (show ((t :: l)[0]?).getD [] = tBid from ht)])
  have k1 : ((strB t).toList == [116, 105, 99, 107]) = decide (t = tTick) := tok_eq t _
  have k2 : ((strB t).toList == [105, 110, 100, 101, 120]) = decide (t = tIndex) := tok_eq t _
  have k3 : ((strB t).toList == [98, 105, 100]) = decide (t = tBid) := tok_eq t _
  have k4 : ((strB t).toList == [114, 97, 119]) = decide (t = tRaw) := tok_eq t _
  have k5 : ((strB t).toList == [99, 97, 110, 99, 101, 108]) = decide (t = tCancel) := tok_eq t _
  have k6 : ((strB t).toList == [114, 101, 112, 108, 97, 99, 101]) = decide (t = tReplace) := tok_eq t _
  have k7 : ((strB t).toList == [110, 101, 119]) = decide (t = tNew) := tok_eq t _
  rw [decide_eq_false (show ¬ t = tTick from by rw [ht]; decide)] at k1
  rw [decide_eq_false (show ¬ t = tIndex from by rw [ht]; decide)] at k2
  rw [decide_eq_true ht] at k3
  rw [decide_eq_false (show ¬ t = tRaw from by rw [ht]; decide)] at k4
  rw [decide_eq_false (show ¬ t = tCancel from by rw [ht]; decide)] at k5
  rw [decide_eq_false (show ¬ t = tReplace from by rw [ht]; decide)] at k6
  rw [decide_eq_false (show ¬ t = tNew from by rw [ht]; decide)] at k7
  clear ht
  have HZ0 := Lib.hid (Blk.new w (stepC 0 0 0 (.slice none 0 0)) 42 w.heap.size rfl)
  have HSR := Lib.hid ((show StrRow (.slice (some ⟨b, 0, none⟩) (l.length + 1) cp) (t :: l) w from .inr ⟨by simp, b, cp, rfl, by simpa using hcp, hb, hrow⟩).below ((Below.refl w.heap.size w).alloc (Nat.le_refl _) (.cells (stepC 0 0 0 (.slice none 0 0)) 42)))
  have HROW := Lib.hid hrow
  have HN := Lib.hid (fun j hj v W h => rnum_any v (t :: l) hl j hj W h)
  have HL := Lib.hid hl
  clear hrow hl
  go_enter Tryd.func81, Tryd.ntmps81
  go_wp2_with fail
  refine (HN.out 1 (by omega) _ _ HSR.out).mono ?_
  rintro e w1 ⟨rfl, hb1⟩
  replace HSR := Lib.hid (HSR.out.below hb1)
  replace HZ0 := Lib.hid (HZ0.out.below hb1 (by simp))
  have HB1 := Lib.hid (((Below.refl w.heap.size w).alloc (Nat.le_refl _) (.cells (stepC 0 0 0 (.slice none 0 0)) 42)).trans (hb1.mono (by simp)))
  clear hb1
  go_wp2_with fail
  refine (HN.out 2 (by omega) _ _ HSR.out).mono ?_
  rintro e w2 ⟨rfl, hb2⟩
  have hsz : w.heap.size < w2.heap.size := Nat.lt_of_lt_of_le HZ0.out.lt hb2.size
  have HG := Lib.hid (show GS w w2.heap.size b (t :: l) ⟨0, nAt (t :: l) 1, nAt (t :: l) 2, 0, 0, 0, 0, 0, 0⟩ (w2.alloc (.cells (Cmd.cells ⟨0, nAt (t :: l) 1, nAt (t :: l) 2, 0, 0, 0, 0, 0, 0⟩) 164)) from ⟨(HZ0.out.below hb2 HZ0.out.lt).old _, Blk.new _ _ _ _ rfl, (HB1.out.trans (hb2.mono HB1.out.size)).alloc (by omega) _, fun j hj => by
    have hx := ((HB1.out.trans (hb2.mono HB1.out.size)).alloc (by omega) (.cells (Cmd.cells ⟨0, nAt (t :: l) 1, nAt (t :: l) 2, 0, 0, 0, 0, 0, 0⟩) 164)).cell (p := ⟨b, j, none⟩) (by show b < _; omega)
    rw [hx]; exact HROW.out j hj, hb, hsz⟩)
  clear hb2 HZ0 HB1 HSR
  go_upto_region 2 with fail
  change Code.wp _ _ _ _ (w2.alloc (.cells (Cmd.cells ⟨0, nAt (t :: l) 1, nAt (t :: l) 2, 0, 0, 0, 0, 0, 0⟩) 164))
  generalize w2.alloc (.cells (Cmd.cells ⟨0, nAt (t :: l) 1, nAt (t :: l) 2, 0, 0, 0, 0, 0, 0⟩) 164) = w3 at HG ⊢
  generalize w2.heap.size = C at HG hsz ⊢
  have c0 : w3.cell? ⟨b, 0, none⟩ = some (.string (strB t)) := HG.out.row 0 (by simp)
  generalize strB t = T at c0 k1 k2 k3 k4 k5 k6 k7
  go_wp2_with fail
  refine (HN.out 1 (by omega) _ _ (HG.out.strRow (by simp) hcp)).mono ?_
  rintro e w4 ⟨rfl, hb⟩
  replace HG := Lib.hid (HG.out.below hb)
  clear hb
  go_wp2_with fail
  refine (HN.out 2 (by omega) _ _ (HG.out.strRow (by simp) hcp)).mono ?_
  rintro e w5 ⟨rfl, hb⟩
  replace HG := Lib.hid (HG.out.below hb)
  clear hb
  go_wp2_with (refine store_blk (by rfl) 42 _ _ (by rfl) w.heap.size (by rfl) _ (stepC 4 (nAt (t :: l) 1) (nAt (t :: l) 2) (.slice none 0 0)) 42 (HG).out.z (by rfl) rfl (by kernel_rfl) (one_stp _ _ _ _ _ _) ?_)
  refine bodyPost_ret (results_cell_row rfl _ _ _ _ _ (0, 0) _ rfl ((HG).out.z.setCells (stepC 4 (nAt (t :: l) 1) (nAt (t :: l) 2) (.slice none 0 0)) rfl) Tryd.underlying42 rfl (by kernel_rfl)) rfl ?_
  exact ⟨_, by rw [HE.out], .inl ⟨by rw [HE.out], rfl⟩, Blk.Below.setCells _ _ _ (HG).out.bel (Nat.le_refl _)⟩
set_option maxRecDepth 20000 in
set_option maxHeartbeats 4000000 in
theorem guess_raw (b cp : Nat) (t : Tok) (ht : t = tRaw) (l : List Tok) (hl : ∀ x ∈ t :: l, x.length ≤ 100000) (hcp : l.length + 1 ≤ cp) (w : World) (hb : b < w.heap.size) (hrow : ∀ j, (h : j < (t :: l).length) → w.cell? ⟨b, j, none⟩ = some (.string (strB (t :: l)[j]))) :
    Calls Tryd.prog 81 #[.slice (some ⟨b, 0, none⟩) (l.length + 1) cp] w (StepAns (guessF (t :: l)) w) := by
  have HE := Lib.hid (show guessF (t :: l) = ⟨1, 0, 0, hexG (((t :: l)[1]?).getD [])⟩ from by unfold guessF; rw [if_neg (show ¬ ((t :: l)[0]?).getD [] = tTick from by rw [show ((t :: l)[0]?).getD [] = t from rfl, ht]; decide), if_neg (show ¬ ((t :: l)[0]?).getD [] = tIndex from by rw [show ((t :: l)[0]?).getD [] = t from rfl, ht]; decide), if_neg (show ¬ ((t :: l)[0]?).getD [] = tBid from by rw [show ((t :: l)[0]?).getD [] = t from rfl, ht]; decide), if_pos (show ((t :: l)[0]?).getD [] = tRaw from ht)])
  have k1 : ((strB t).toList == [116, 105, 99, 107]) = decide (t = tTick) := tok_eq t _
  have k2 : ((strB t).toList == [105, 110, 100, 101, 120]) = decide (t = tIndex) := tok_eq t _
  have k3 : ((strB t).toList == [98, 105, 100]) = decide (t = tBid) := tok_eq t _
  have k4 : ((strB t).toList == [114, 97, 119]) = decide (t = tRaw) := tok_eq t _
  have k5 : ((strB t).toList == [99, 97, 110, 99, 101, 108]) = decide (t = tCancel) := tok_eq t _
  have k6 : ((strB t).toList == [114, 101, 112, 108, 97, 99, 101]) = decide (t = tReplace) := tok_eq t _
  have k7 : ((strB t).toList == [110, 101, 119]) = decide (t = tNew) := tok_eq t _
  rw [decide_eq_false (show ¬ t = tTick from by rw [ht]; decide)] at k1
  rw [decide_eq_false (show ¬ t = tIndex from by rw [ht]; decide)] at k2
  rw [decide_eq_false (show ¬ t = tBid from by rw [ht]; decide)] at k3
  rw [decide_eq_true ht] at k4
  rw [decide_eq_false (show ¬ t = tCancel from by rw [ht]; decide)] at k5
  rw [decide_eq_false (show ¬ t = tReplace from by rw [ht]; decide)] at k6
  rw [decide_eq_false (show ¬ t = tNew from by rw [ht]; decide)] at k7
  clear ht
  have HZ0 := Lib.hid (Blk.new w (stepC 0 0 0 (.slice none 0 0)) 42 w.heap.size rfl)
  have HSR := Lib.hid ((show StrRow (.slice (some ⟨b, 0, none⟩) (l.length + 1) cp) (t :: l) w from .inr ⟨by simp, b, cp, rfl, by simpa using hcp, hb, hrow⟩).below ((Below.refl w.heap.size w).alloc (Nat.le_refl _) (.cells (stepC 0 0 0 (.slice none 0 0)) 42)))
  have HROW := Lib.hid hrow
  have HN := Lib.hid (fun j hj v W h => rnum_any v (t :: l) hl j hj W h)
  have HL := Lib.hid hl
  clear hrow hl
  go_enter Tryd.func81, Tryd.ntmps81
  go_wp2_with fail
  refine (HN.out 1 (by omega) _ _ HSR.out).mono ?_
  rintro e w1 ⟨rfl, hb1⟩
  replace HSR := Lib.hid (HSR.out.below hb1)
  replace HZ0 := Lib.hid (HZ0.out.below hb1 (by simp))
  have HB1 := Lib.hid (((Below.refl w.heap.size w).alloc (Nat.le_refl _) (.cells (stepC 0 0 0 (.slice none 0 0)) 42)).trans (hb1.mono (by simp)))
  clear hb1
  go_wp2_with fail
  refine (HN.out 2 (by omega) _ _ HSR.out).mono ?_
  rintro e w2 ⟨rfl, hb2⟩
  have hsz : w.heap.size < w2.heap.size := Nat.lt_of_lt_of_le HZ0.out.lt hb2.size
  have HG := Lib.hid (show GS w w2.heap.size b (t :: l) ⟨0, nAt (t :: l) 1, nAt (t :: l) 2, 0, 0, 0, 0, 0, 0⟩ (w2.alloc (.cells (Cmd.cells ⟨0, nAt (t :: l) 1, nAt (t :: l) 2, 0, 0, 0, 0, 0, 0⟩) 164)) from ⟨(HZ0.out.below hb2 HZ0.out.lt).old _, Blk.new _ _ _ _ rfl, (HB1.out.trans (hb2.mono HB1.out.size)).alloc (by omega) _, fun j hj => by
    have hx := ((HB1.out.trans (hb2.mono HB1.out.size)).alloc (by omega) (.cells (Cmd.cells ⟨0, nAt (t :: l) 1, nAt (t :: l) 2, 0, 0, 0, 0, 0, 0⟩) 164)).cell (p := ⟨b, j, none⟩) (by show b < _; omega)
    rw [hx]; exact HROW.out j hj, hb, hsz⟩)
  clear hb2 HZ0 HB1 HSR
  go_upto_region 2 with fail
  change Code.wp _ _ _ _ (w2.alloc (.cells (Cmd.cells ⟨0, nAt (t :: l) 1, nAt (t :: l) 2, 0, 0, 0, 0, 0, 0⟩) 164))
  generalize w2.alloc (.cells (Cmd.cells ⟨0, nAt (t :: l) 1, nAt (t :: l) 2, 0, 0, 0, 0, 0, 0⟩) 164) = w3 at HG ⊢
  generalize w2.heap.size = C at HG hsz ⊢
  have c0 : w3.cell? ⟨b, 0, none⟩ = some (.string (strB t)) := HG.out.row 0 (by simp)
  generalize strB t = T at c0 k1 k2 k3 k4 k5 k6 k7
  have HX := Lib.hid (Blk.new w3 (stepC 1 0 0 (.slice none 0 0)) 42 w3.heap.size rfl)
  have hzl := HG.out.z.lt
  have hbel3 := HG.out.bel.size
  replace HG := Lib.hid (HG.out.below ((Below.refl w3.heap.size w3).alloc (Nat.le_refl _) (.cells (stepC 1 0 0 (.slice none 0 0)) 42)))
  go_upto_region 11 with fail
  change Code.wp _ _ _ _ (w3.alloc (.cells (stepC 1 0 0 (.slice none 0 0)) 42))
  generalize w3.alloc (.cells (stepC 1 0 0 (.slice none 0 0)) 42) = w4 at HG HX ⊢
  have hX : w.heap.size < w3.heap.size := hzl
  generalize w3.heap.size = X at HX hX ⊢
  clear c0 hzl hbel3
  cases l with
  | nil =>
    have HW := Lib.hid HX.out
    go_wp2_with (first
      | (refine load_blk (by rfl) 42 _ (by rfl) X (by rfl) _ _ HX.out _ Tryd.underlying42 rfl (by kernel_rfl) ?_)
      | (refine store_blk (by rfl) 42 _ _ (by rfl) w.heap.size (by rfl) _ (stepC 1 0 0 (.slice none 0 0)) 42 HG.out.z (by rfl) rfl (by kernel_rfl) (one_stp _ _ _ _ _ _) ?_))
    refine bodyPost_ret (results_cell_row rfl _ _ _ _ _ (0, 0) _ rfl (HG.out.z.setCells (stepC 1 0 0 (.slice none 0 0)) rfl) Tryd.underlying42 rfl (by kernel_rfl)) rfl ?_
    exact ⟨_, by rw [HE.out], .inl ⟨by rw [HE.out]; rfl, rfl⟩, Blk.Below.setCells _ _ _ HG.out.bel (Nat.le_refl _)⟩
  | cons y l2 =>
    have c1 : w4.cell? ⟨b, 1, none⟩ = some (.string (strB y)) := HG.out.row 1 (by simp)
    have g1 : (1 : Int) < (l2.length : Int) + 1 + 1 := by omega
    have HH := Lib.hid (rhex_any y (HL.out y (by simp)) w4)
    go_wp2_with fail
    refine HH.out.mono ?_
    rintro e w5 ⟨u, rfl, hby, hb5⟩
    have hs4 := HG.out.bel.size
    replace HG := Lib.hid (HG.out.below hb5)
    replace HX := Lib.hid (HX.out.below hb5 HX.out.lt)
    have HY := Lib.hid (bytes_cell (bytes_mono hby hs4) HX.out 3 u)
    obtain ⟨ua, un, uc, rfl⟩ := bytes_form hby
    clear hby hb5 HH
    have c3 : w5.cell? ⟨X, 3, none⟩ = some (.slice none 0 0) := HX.out.cell 3 rfl
    have f3 := HX.out.free 3
    have HX2 := Lib.hid (show Blk (w5.setCell ⟨X, 3, none⟩ (.slice ua un uc)) X (stepC 1 0 0 (.slice ua un uc)) 42 from HX.out.set 3 _)
    have HZ := Lib.hid (HG.out.z.apart ⟨X, 3, none⟩ (.slice ua un uc) (by show X ≠ _; omega))
    have HB := Lib.hid (HG.out.bel.setCell (p := ⟨X, 3, none⟩) (by show _ ≤ X; omega) (.slice ua un uc))
    go_upto_region 13 with fail
    change Code.wp _ _ _ _ (w5.setCell ⟨X, 3, none⟩ (.slice ua un uc))
    generalize w5.setCell ⟨X, 3, none⟩ (.slice ua un uc) = w6 at HX2 HZ HB HY ⊢
    go_wp2_with (first
      | (refine load_blk (by rfl) 42 _ (by rfl) X (by rfl) _ _ HX2.out _ Tryd.underlying42 rfl (by kernel_rfl) ?_)
      | (refine store_blk (by rfl) 42 _ _ (by rfl) w.heap.size (by rfl) _ (stepC 1 0 0 (.slice ua un uc)) 42 HZ.out (by rfl) rfl (by kernel_rfl) (one_stp _ _ _ _ _ _) ?_))
    refine bodyPost_ret (results_cell_row rfl _ _ _ _ _ (0, 0) _ rfl (HZ.out.setCells (stepC 1 0 0 (.slice ua un uc)) rfl) Tryd.underlying42 rfl (by kernel_rfl)) rfl ?_
    exact ⟨_, by rw [HE.out], by rw [HE.out]; exact bytes_cells _ _ _ _ HY.out HZ.out, Blk.Below.setCells _ _ _ HB.out (Nat.le_refl _)⟩
end Go.Proofs.YtmkcooamgojbpaaDoor.Lines

/- Rows of steps that are made one by one. -/
namespace Go.Proofs.YtmkcooamgojbpaaDoor.Lines
open Go.RowKit Go.Proofs.YtmkcooamgojbpaaDoor.Kit Go.Proofs.YtmkcooamgojbpaaDoor.Blk Go.Proofs.YtmkcooamgojbpaaDoor.Dec Go.Proofs.YtmkcooamgojbpaaDoor.Words Go.Proofs.YtmkcooamgojbpaaDoor.Octets Go.Proofs.YtmkcooamgojbpaaDoor.Steps Go.Proofs.YtmkcooamgojbpaaDoor.Cmds
set_option linter.unusedVariables false

/-- What holds between two steps of a row that is being made. -/
structure SRow (w : World) (v : Value) (r : List (Stp × Value)) (W : World) : Prop where
  row : RowR w.heap.size v r W
  bel : Below w.heap.size w W
section
variable {w W W' : World} {v v' u : Value} {r : List (Stp × Value)} {s : Stp}
theorem SRow.start : SRow w (.slice none 0 0) [] w := ⟨⟨World.ownsRow_nil _ _ _ _, fun x hx => by cases hx⟩, Below.refl _ _⟩
theorem SRow.below (h : SRow w v r W) (hb : Below W.heap.size W W') : SRow w v r W' := ⟨h.row.below hb, h.bel.trans (hb.mono h.bel.size)⟩
theorem SRow.alloc (h : SRow w v r W) (o : Obj) : SRow w v r (W.alloc o) := h.below ((Below.refl _ _).alloc (Nat.le_refl _) o)
theorem SRow.push (h : SRow w v r W) (hu : BytesOf w.heap.size s.l u W)
    (hown : W'.ownsRow w.heap.size 42 4 v' (r.length + 1) (flat r ++ (stepC s.k s.y s.v u).toList)) (hg : W.grownBy W' v.ownBlock) : SRow w v' (r ++ [(s, u)]) W' :=
  ⟨h.row.push hu hown hg, h.bel.grown hg h.bel.size (fun k e => (row_from' h.row.1 e).1)⟩
theorem SRow.form (h : SRow w v r W) : ∃ a c, v = .slice a r.length c := by
  rcases h.row.1.2 with ⟨rfl, h0⟩ | ⟨g, cap, cur, rfl, _⟩
  · exact ⟨none, 0, by rw [h0]⟩
  · exact ⟨_, cap, rfl⟩
end
theorem infoStp : (Tryd.prog.info? 42).map (fun i => (i.zero, i.size, i.bytes)) = some (some (.agg (stepC 0 0 0 (.slice none 0 0))), 4, 48) := by kernel_rfl
theorem news_stp {w : World} {B : Nat} {cs : Array Value} {T : TypeId} (h : Blk w B cs T) : ∀ j u, cs.toList[j]? = some u → w.cell? ((⟨B, 0, none⟩ : Addr).add j) = some u := fun j u hu => by
  rw [Addr.add_mid, Nat.zero_add]; exact h.cell j (by simpa using hu)
theorem mem_stp {cs : Array Value} (h : cs.all (·.oneCell') = true) : ∀ u ∈ cs.toList, u.oneCell' = true := fun u hu => by
  rw [Array.all_eq_true] at h
  obtain ⟨i, hi, rfl⟩ := List.mem_iff_getElem.1 hu
  simpa using h i (by simpa using hi)
/-- A line's step. -/
def stepL (l : Tok) : Option Stp := stepP (splitW l)
/-- A text's script: too many lines, or the number of the first line that is none, or all. -/
def scriptF (t : Tok) : Option (Nat ⊕ List Stp) := if 2000 < t.count 10 then none else some (readT stepL t)
def ReadSIs (o : Option (Nat ⊕ List Stp)) (w : World) (e : Ending) (w' : World) : Prop := match o with
  | none => e = .returned (.tuple #[.slice none 0 0, .int .i64 0, .int .i64 9]) ∧ Below w.heap.size w w'
  | some (.inl n) => e = .returned (.tuple #[.slice none 0 0, .int .i64 (n : Int), .int .i64 4]) ∧ Below w.heap.size w w'
  | some (.inr ss) => ∃ v r, e = .returned (.tuple #[v, .int .i64 0, .int .i64 0]) ∧ r.map (·.1) = ss ∧ SRow w v r w'
theorem script_many {t : Tok} (h : 2000 < t.count 10) : scriptF t = none := by unfold scriptF; rw [if_pos h]
theorem script_few {t : Tok} (h : ¬ 2000 < t.count 10) : scriptF t = some (readT stepL t) := by unfold scriptF; rw [if_neg h]
theorem readS_empty : readT stepL [] = .inr [] := rfl
/-- What stands in front. -/
def firsts (r : List (Stp × Value)) : List Stp := r.map (·.1)
theorem firsts_snoc (r : List (Stp × Value)) (s : Stp) (u : Value) : firsts (r ++ [(s, u)]) = firsts r ++ [s] := by simp [firsts]
theorem firsts_len (r : List (Stp × Value)) : (firsts r).length = r.length := by simp [firsts]
end Go.Proofs.YtmkcooamgojbpaaDoor.Lines

/- Lines read back as the steps they were of (plain). -/
namespace Go.Proofs.YtmkcooamgojbpaaDoor.Lines
open Go.RowKit Go.Proofs.YtmkcooamgojbpaaDoor.Kit Go.Proofs.YtmkcooamgojbpaaDoor.Blk Go.Proofs.YtmkcooamgojbpaaDoor.Dec Go.Proofs.YtmkcooamgojbpaaDoor.Words Go.Proofs.YtmkcooamgojbpaaDoor.Octets Go.Proofs.YtmkcooamgojbpaaDoor.Steps Go.Proofs.YtmkcooamgojbpaaDoor.Cmds
set_option linter.unusedVariables false

theorem wordsC_le25 {c : Cmd} (hr : rightC c = true) (hp : -9223372036854775808 ≤ c.p ∧ c.p ≤ 9223372036854775807) (hq : -9223372036854775808 ≤ c.q ∧ c.q ≤ 9223372036854775807) : ∀ w ∈ wordsC c, w.length ≤ 25 := by
  obtain ⟨hk, hs, hi, hn⟩ := right_in hr
  have h20 : ∀ n : Int, -9223372036854775808 ≤ n ∧ n ≤ 9223372036854775807 → (decB n).length ≤ 25 := fun n h => Nat.le_trans (dec_len h.1 h.2) (by decide)
  have kn : tNew.length ≤ 25 := by decide
  have kc : tCancel.length ≤ 25 := by decide
  have kr : tReplace.length ≤ 25 := by decide
  unfold wordsC
  split
  · rename_i h1
    obtain ⟨ha, hb, ht, hf⟩ := hn h1
    have hfl : (∀ w ∈ flagW c.f.toNat, w.length ≤ 20) := by
      have : ∀ f : Fin 8, (∀ w ∈ flagW f.1, w.length ≤ 20) := by decide
      exact this ⟨c.f.toNat, by omega⟩
    intro w hw
    rcases List.mem_append.1 hw with hw | hw
    · simp only [List.mem_cons, List.not_mem_nil, or_false] at hw
      rcases hw with rfl | rfl | rfl | rfl | rfl | rfl | rfl | rfl
      · exact kn
      · exact h20 _ (by omega)
      · exact h20 _ (by omega)
      · exact h20 _ (by omega)
      · exact Nat.le_trans (side_len _ (by omega)) (by decide)
      · exact Nat.le_trans (type_len _ (by omega)) (by decide)
      · exact h20 _ hp
      · exact h20 _ hq
    · exact Nat.le_trans (hfl w hw) (by decide)
  split
  · intro w hw
    simp only [List.mem_cons, List.not_mem_nil, or_false] at hw
    rcases hw with rfl | rfl | rfl | rfl | rfl
    · exact kr
    · exact h20 _ (by omega)
    · exact h20 _ (by omega)
    · exact h20 _ hp
    · exact h20 _ hq
  · intro w hw
    simp only [List.mem_cons, List.not_mem_nil, or_false] at hw
    rcases hw with rfl | rfl | rfl
    · exact kc
    · exact h20 _ (by omega)
    · exact h20 _ (by omega)
/-- A line is short. -/
theorem lineT_short {s : Stp} (hr : rightS s = true) (hin : StpIn s) : (lineT s).length ≤ 500 := by
  have h11 := (words_le hr hin).2
  obtain ⟨k, y, v, l⟩ := s
  obtain ⟨hv, hb⟩ := hin
  dsimp only at hv hb
  have hd := dec_len hv.1 hv.2
  unfold lineT
  have key : (∀ w ∈ wordsF ⟨k, y, v, l⟩, w.length ≤ 25) → (joinW 32 (wordsF ⟨k, y, v, l⟩)).length ≤ 500 := fun h => by
    have := join_le 25 _ h
    omega
  by_cases h1 : k = 1
  · subst h1
    have h : (y == 0 && (v == 0 && decide (l.length ≤ 64))) = true := hr
    simp only [Bool.and_eq_true, beq_iff_eq, decide_eq_true_eq] at h
    obtain ⟨rfl, rfl, hl⟩ := h
    cases hd : decF l with
    | ok c l' =>
      obtain ⟨rfl, hc, hf, hp, hq⟩ := dec_ok hb hd
      rw [show wordsF ⟨1, 0, 0, l⟩ = wordsC c by unfold wordsF; dsimp only; rw [if_neg (by decide), if_neg (by decide), if_neg (by decide), hd]] at key ⊢
      exact key (wordsC_le25 hc hp hq)
    | bad f =>
      rw [show wordsF ⟨1, 0, 0, l⟩ = rawT l by
        unfold wordsF rawT
        dsimp only
        rw [if_neg (by decide), if_neg (by decide), if_neg (by decide), hd]]
      have hx := hex_len l
      have k3 : tRaw.length = 3 := rfl
      unfold rawT
      split
      · simp [joinW, k3]
      · simp [joinW, k3]; omega
  by_cases h2 : k = 2
  · subst h2
    refine key ?_
    show (∀ w ∈ [tTick, decB v], w.length ≤ 25)
    intro x hx
    simp only [List.mem_cons, List.not_mem_nil, or_false] at hx
    rcases hx with rfl | rfl
    · decide
    · omega
  by_cases h3 : k = 3
  · subst h3
    refine key ?_
    show (∀ w ∈ [tIndex, decB v], w.length ≤ 25)
    intro x hx
    simp only [List.mem_cons, List.not_mem_nil, or_false] at hx
    rcases hx with rfl | rfl
    · decide
    · omega
  by_cases h4 : k = 4
  · subst h4
    have h : (l.isEmpty && (decide (0 ≤ y) && decide (y ≤ 255))) = true := hr
    simp only [Bool.and_eq_true, decide_eq_true_eq] at h
    have hd2 := dec_len (n := y) (by omega) (by omega)
    refine key ?_
    show (∀ w ∈ [tBid, decB y, decB v], w.length ≤ 25)
    intro x hx
    simp only [List.mem_cons, List.not_mem_nil, or_false] at hx
    rcases hx with rfl | rfl | rfl
    · decide
    · omega
    · omega
  · exfalso
    have : rightS ⟨k, y, v, l⟩ = false := by unfold rightS; dsimp only; rw [if_neg h1, if_neg (by omega), if_neg h4]
    rw [this] at hr
    cases hr
theorem txts_short {r : List (Stp × Value)} (hf : ∀ x ∈ r, StpIn x.1) (hr : ∀ x ∈ r, rightS x.1 = true) : (txtS r).length ≤ 501 * r.length := by
  induction r with
  | nil => simp [txtS]
  | cons m r ih =>
    have h1 := ih (fun x hx => hf x (List.mem_cons_of_mem _ hx)) (fun x hx => hr x (List.mem_cons_of_mem _ hx))
    have h2 := lineT_short (hr m List.mem_cons_self) (hf m List.mem_cons_self)
    simp only [txtS, List.flatMap_cons, List.length_append, List.length_cons, List.length_nil] at h1 ⊢
    omega
/-- A step's line is read as the step. -/
theorem step_line {s : Stp} (hr : rightS s = true) (hin : StpIn s) : splitW (lineT s) = wordsF s ∧ stepP (splitW (lineT s)) = some s := by
  have h0 : cutW 32 (lineT s) = wordsF s := cut_join (wordsF_ne _) (fun w hw => (wordsF_free hin.l w hw).1)
  have hne : lineT s ≠ [] := fun e => by
    have h1 := step_words hr hin
    rw [← h0, e, show stepP (cutW 32 []) = none from rfl] at h1
    cases h1
  have h : splitW (lineT s) = wordsF s := by unfold splitW; rw [if_neg hne]; exact h0
  exact ⟨h, by rw [h]; exact step_words hr hin⟩
theorem join_free {c : UInt8} (hc : c ≠ 32) : ∀ ws : List Tok, (∀ w ∈ ws, c ∉ w) → c ∉ joinW 32 ws := by
  intro ws
  induction ws with
  | nil => intro _; simp [joinW]
  | cons w ws ih =>
    intro h
    have h1 := h w (by simp)
    have h2 := ih (fun x hx => h x (List.mem_cons_of_mem _ hx))
    cases ws with
    | nil => simpa [joinW] using h1
    | cons v ws =>
      rw [join_cons (by simp)]
      simp only [List.mem_append, List.mem_cons, not_or]
      exact ⟨h1, hc, h2⟩
theorem lineT_free {s : Stp} (hin : StpIn s) : (10 : UInt8) ∉ lineT s := join_free (by decide) _ (fun w hw => (wordsF_free hin.l w hw).2)
theorem count_txts {r : List (Stp × Value)} (hf : ∀ x ∈ r, StpIn x.1) : (txtS r).count 10 = r.length := by
  induction r with
  | nil => simp [txtS]
  | cons m r ih =>
    have h1 := ih (fun x hx => hf x (List.mem_cons_of_mem _ hx))
    have h2 := List.count_eq_zero_of_not_mem (lineT_free (hf m List.mem_cons_self))
    simp only [txtS, List.flatMap_cons, List.count_append] at h1 ⊢
    rw [h2, h1]
    simp; omega
theorem script_text {r : List (Stp × Value)} (hl : r.length ≤ 2000) (hf : ∀ x ∈ r, StpIn x.1) (hr : ∀ x ∈ r, rightS x.1 = true) : scriptF (txtS r) = some (.inr (r.map (·.1))) := by
  rw [script_few (by rw [count_txts hf]; omega)]
  have e : txtS r = (r.map (·.1)).flatMap fun s => lineT s ++ [10] := by unfold txtS; rw [List.flatMap_map]
  rw [e, read_lines stepL lineT (r.map (·.1)) (fun m hm => by
    obtain ⟨x, hx, rfl⟩ := List.mem_map.1 hm
    exact ⟨lineT_free (hf x hx), (step_line (hr x hx) (hf x hx)).2⟩)]
end Go.Proofs.YtmkcooamgojbpaaDoor.Lines

/- words.Read, of any text. -/
namespace Go.Proofs.YtmkcooamgojbpaaDoor.Lines
open Go.RowKit Go.Proofs.YtmkcooamgojbpaaDoor.Kit Go.Proofs.YtmkcooamgojbpaaDoor.Blk Go.Proofs.YtmkcooamgojbpaaDoor.Dec Go.Proofs.YtmkcooamgojbpaaDoor.Words Go.Proofs.YtmkcooamgojbpaaDoor.Octets Go.Proofs.YtmkcooamgojbpaaDoor.Steps Go.Proofs.YtmkcooamgojbpaaDoor.Cmds Go.Proofs.YtmkcooamgojbpaaDoor.Reports
attribute [local go_sem ↓] Go.wp_at_zero Go.wp_at_succ
set_option linter.unusedVariables false

def strLen' : Value → Nat
  | .string s => s.size
  | _ => 0
theorem count_byte (l : List UInt8) (b : UInt8) : Lib.countByte l b = l.count b := by
  induction l with
  | nil => rfl
  | cons c l ih => simp [Lib.countByte]
set_option maxRecDepth 20000 in
set_option maxHeartbeats 8000000 in
theorem wread_any (l : List UInt8) (hl : l.length ≤ 90000) (w : World) (hm : MX w) :
    Calls Tryd.prog 36 #[.string (strB l)] w (ReadSIs (scriptF l) w) := by
  obtain ⟨i0, hi0, hz0, hz1, hz2⟩ := info_parts infoStp
  have HM := Lib.hid hm
  have HCN := Lib.hid (Shelf.strings_Count_one (strB l) 10 w)
  rw [strB_list, count_byte] at HCN
  clear hm
  by_cases hc : 2000 < l.count 10
  · have HS := Lib.hid (script_many hc)
    have g1 : (2000 : Int) < ((l.count 10 : Nat) : Int) := by omega
    generalize l.count 10 = n at HCN g1 hc
    go_enter Tryd.func36, Tryd.ntmps36
    go_wp2_with fail
    refine HCN.out.mono ?_
    rintro e w1 ⟨rfl, he⟩
    obtain rfl := he.symm
    go_wp2_with fail
    go_ret3
    rw [HS.out]
    exact ⟨rfl, Below.refl _ _⟩
  have HS := Lib.hid (script_few hc)
  have g1 : ¬ (2000 : Int) < ((l.count 10 : Nat) : Int) := by omega
  generalize l.count 10 = n at HCN g1 hc
  go_enter Tryd.func36, Tryd.ntmps36
  go_wp2_with fail
  refine HCN.out.mono ?_
  rintro e w1 ⟨rfl, he⟩
  obtain rfl := he.symm
  clear he
  go_wp2_with fail
  clear g1 hc HCN
  go_loopw [0, 2] (fun s o wr => ∃ (r : List (Stp × Value)) (rest : List UInt8), s = .string (strB rest) ∧ rest.length + r.length ≤ l.length ∧ SRow w o r wr ∧ Hid (readT stepL l = behind (firsts r) (readT stepL rest))) (fun s _ _ => strLen' s)
  case atStart => exact ⟨[], l, rfl, by simp, SRow.start, Lib.hid (behind_nil _).symm⟩
  case round =>
    obtain ⟨r, rest, rfl, hle, hsr, HE⟩ := hrel
    have HR := Lib.hid hsr
    obtain ⟨oa, oc, rfl⟩ := hsr.form
    clear hsr
    have HSZ := Lib.hid (strB_size rest)
    by_cases h0 : rest = []
    · subst h0
      have b1 : (strB []).toList = [] := by rw [ByteArray.toList_eq, strB_list]
      have HF := Lib.hid (show readT stepL l = .inr (firsts r) by rw [HE.out, readS_empty]; simp [behind])
      go_wp2_with fail
      go_ret3
      rw [HS.out, HF.out]
      exact ⟨_, r, rfl, rfl, HR.out⟩
    · have b1 : ((strB rest).toList == []) = false := by rw [ByteArray.toList_eq, strB_list]; simpa using h0
      have b2 : ((strB rest).toList.isEmpty) = false := by rw [ByteArray.toList_eq, strB_list]; simpa using h0
      have HC := Lib.hid (cut_any rest 10 wr (HM.out.below (n := 0) HR.out.bel) (by omega))
      rcases part_at 10 rest with hno | ⟨x, m, hx, rfl⟩
      · rw [cut_none hno] at HC
        have HRD := Lib.hid (show scriptF l = some (.inl (r.length + 1)) by rw [HS.out, HE.out, read_none stepL hno, if_neg h0, ← firsts_len r]; rfl)
        clear hno h0
        go_wp2_with fail
        refine HC.out.mono ?_
        rintro e w1 ⟨rfl, n1, rfl⟩
        have HB1 := Lib.hid (HR.out.bel.drewN n1)
        have HPR := Lib.hid (wparse_any rest (by omega) _ (HM.out.below (n := 0) HB1.out))
        unfold WParseIs at HPR
        generalize hs : ((stepP (splitW rest)).getD ⟨0, 0, 0, []⟩) = s at HPR
        clear hs
        by_cases hf : (stepP (splitW rest)).isSome = true
        · rw [if_pos hf] at HPR
          clear hf
          go_wp2_with fail
          refine (HPR.out).mono ?_
          rintro e w2 ⟨u, rfl, hby, hb2⟩
          obtain ⟨ua, un, uc, rfl⟩ := bytes_form hby
          have HB2 := Lib.hid ((HB1.out.trans (hb2.mono HB1.out.size)).alloc (Nat.le_trans HB1.out.size hb2.size) (.cells (stepC s.k s.y s.v (.slice ua un uc)) 42))
          clear hb2 hby
          unfold stepC at HB2 ⊢
          go_wp2_with fail
          go_ret3
          rw [HRD.out]
          exact ⟨rfl, HB2.out⟩
        · rw [if_neg hf] at HPR
          clear hf
          go_wp2_with fail
          refine (HPR.out).mono ?_
          rintro e w2 ⟨u, rfl, hby, hb2⟩
          obtain ⟨ua, un, uc, rfl⟩ := bytes_form hby
          have HB2 := Lib.hid ((HB1.out.trans (hb2.mono HB1.out.size)).alloc (Nat.le_trans HB1.out.size hb2.size) (.cells (stepC s.k s.y s.v (.slice ua un uc)) 42))
          clear hb2 hby
          unfold stepC at HB2 ⊢
          go_wp2_with fail
          go_ret3
          rw [HRD.out]
          exact ⟨rfl, HB2.out⟩
      · rw [cut_at hx] at HC
        have hxl : x.length + m.length + 1 = (x ++ 10 :: m).length := by simp; omega
        cases hp : stepL x with
        | none =>
          have HRD := Lib.hid (show scriptF l = some (.inl (r.length + 1)) by rw [HS.out, HE.out, read_bad stepL hx hp, ← firsts_len r]; rfl)
          have HPN := Lib.hid (show stepP (splitW x) = none from hp)
          clear hx h0 hp
          go_wp2_with fail
          refine HC.out.mono ?_
          rintro e w1 ⟨rfl, n1, rfl⟩
          have HB1 := Lib.hid (HR.out.bel.drewN n1)
          have HPR := Lib.hid (wparse_any x (by omega) _ (HM.out.below (n := 0) HB1.out))
          unfold WParseIs at HPR
          rw [HPN.out] at HPR
          simp only [Option.getD_none, Option.isSome_none] at HPR
          have e4 : (if (false = true) then (0 : Int) else 4) = 4 := rfl
          rw [e4] at HPR
          clear e4
          go_wp2_with fail
          refine (HPR.out).mono ?_
          rintro e w2 ⟨u, rfl, hby, hb2⟩
          obtain ⟨ua, un, uc, rfl⟩ := bytes_form hby
          have HB2 := Lib.hid ((HB1.out.trans (hb2.mono HB1.out.size)).alloc (Nat.le_trans HB1.out.size hb2.size) (.cells (stepC 0 0 0 (.slice ua un uc)) 42))
          clear hb2 hby
          unfold stepC at HB2 ⊢
          go_wp2_with fail
          go_ret3
          rw [HRD.out]
          exact ⟨rfl, HB2.out⟩
        | some s =>
          have HRD := Lib.hid (show ∀ u, readT stepL l = behind (firsts (r ++ [(s, u)])) (readT stepL m) from fun u => by rw [HE.out, read_ok stepL hx hp, behind_app, firsts_snoc])
          have HPN := Lib.hid (show stepP (splitW x) = some s from hp)
          clear hx h0 hp
          go_wp2_with fail
          refine HC.out.mono ?_
          rintro e w1 ⟨rfl, n1, rfl⟩
          have HB1 := Lib.hid (HR.out.bel.drewN n1)
          replace HR := Lib.hid (HR.out.below ((Below.refl _ _).drewN n1))
          have HPR := Lib.hid (wparse_any x (by omega) _ (HM.out.below (n := 0) HB1.out))
          unfold WParseIs at HPR
          rw [HPN.out] at HPR
          simp only [Option.getD_some, Option.isSome_some, if_true] at HPR
          have hsz1 := HB1.out.size
          go_wp2_with fail
          refine HPR.out.mono ?_
          rintro e w2 ⟨u, rfl, hby, hb2⟩
          obtain ⟨ua, un, uc, rfl⟩ := bytes_form hby
          replace HR := Lib.hid ((HR.out.below hb2).alloc (.cells (stepC s.k s.y s.v (.slice ua un uc)) 42))
          have HY := Lib.hid (bytes_alloc (bytes_mono hby hsz1) (.cells (stepC s.k s.y s.v (.slice ua un uc)) 42))
          have HX := Lib.hid (Blk.new w2 (stepC s.k s.y s.v (.slice ua un uc)) 42 w2.heap.size rfl)
          clear hb2 hby HB1 hsz1
          unfold stepC
          go_upto_region 8 with fail
          change Code.wp _ _ _ _ (w2.alloc (.cells (stepC s.k s.y s.v (.slice ua un uc)) 42))
          generalize w2.alloc (.cells (stepC s.k s.y s.v (.slice ua un uc)) 42) = w3 at HR HY HX ⊢
          generalize w2.heap.size = X at HX ⊢
          have HNB := Lib.hid (Blk.new w3 (stepC s.k s.y s.v (.slice ua un uc)) 42 w3.heap.size rfl)
          have HR2 := Lib.hid (HR.out.alloc (.cells (stepC s.k s.y s.v (.slice ua un uc)) 42))
          have HY2 := Lib.hid (bytes_alloc HY.out (.cells (stepC s.k s.y s.v (.slice ua un uc)) 42))
          have HX2 := Lib.hid (show Blk w3 X #[.int .i64 s.k, .int .i64 s.y, .int .i64 s.v, .slice ua un uc] 42 from HX.out)
          have hrl : r.length ≤ 90000 := by omega
          clear HR HY HX
          go_wp2_with (first
            | (refine load_blk (by rfl) 42 _ (by rfl) X (by rfl) _ _ HX2.out _ Tryd.underlying42 rfl (by kernel_rfl) ?_)
            | (at_builtin; refine wpList_append_lies _ (by rfl) _ _ _ (by rfl) w.heap.size 42 i0 (.agg (stepC 0 0 0 (.slice none 0 0))) 4 48 Tryd.underlying57 hi0 hz0 hz1 hz2 (by rfl) (by decide) _ r.length (flat r) (by rfl) HR2.out.row.1 ⟨w3.heap.size, 0, none⟩ 1 1 (stepC s.k s.y s.v (.slice ua un uc)).toList (by rfl) (by rfl) (news_stp HNB.out) (mem_stp (one_stp _ _ _ _ _ _)) (by decide) (by unfold maxLen; omega) (by omega) HR2.out.bel.size (w3.heap.size + 1) (by simp) ?_; intro g cap2 w9 hown9 hgrow9 hat9 hlt9; have H9 := Lib.hid (HR2.out.push HY2.out hown9 hgrow9); clear hown9 hgrow9 hat9 hlt9))
          go_roundw
          case rel => exact ⟨r ++ [(s, .slice ua un uc)], m, rfl, by rw [List.length_append]; simp; omega, H9.out, Lib.hid (HRD.out _)⟩
          case measure => simp only [strLen', strB_size]; omega
end Go.Proofs.YtmkcooamgojbpaaDoor.Lines
