/- Parts of the proof: ShSymbol, ShField, ShPlain, ShRow, ShAlive. -/
import Derived.Test.YtmkcooamgojbpaaDoorPart26
import Derived.Test.YtmkcooamgojbpaaDoorPart28
import Derived.Test.YtmkcooamgojbpaaDoorPart22
import Derived.Test.YtmkcooamgojbpaaDoorPart30
import Derived.Test.YtmkcooamgojbpaaDoorPart7
import Derived.Test.YtmkcooamgojbpaaDoorPart29
import Derived.Test.YtmkcooamgojbpaaDoorPart8
import Derived.Test.YtmkcooamgojbpaaDoorPart17

/- sheet.Symbol: the symbol of a line. -/
namespace Go.Proofs.YtmkcooamgojbpaaDoor.Sheet
open Go.RowKit Go.Proofs.YtmkcooamgojbpaaDoor.Kit Go.Proofs.YtmkcooamgojbpaaDoor.Blk Go.Proofs.YtmkcooamgojbpaaDoor.Words Go.Proofs.YtmkcooamgojbpaaDoor.Octets Go.Proofs.YtmkcooamgojbpaaDoor.Lines Go.Proofs.YtmkcooamgojbpaaDoor.Dec Go.Proofs.YtmkcooamgojbpaaDoor.Symbol
attribute [local go_sem ↓] Go.wp_at_zero Go.wp_at_succ
set_option linter.unusedVariables false

def fieldsQ : List (Bool × Nat) := [(true, 0), (true, 1), (false, 2), (false, 3), (true, 4), (false, 5), (true, 6), (true, 7), (true, 8), (false, 9), (false, 10), (false, 11), (false, 12), (false, 13), (false, 14), (false, 15)]
theorem fieldsL_at (B : Nat) : fieldsL B = atB B fieldsQ := rfl
theorem plain_sym (s : Sym) : PlainC s.cells := fun j u hu => by
  have hj : j < 16 := (Array.getElem?_eq_some_iff.1 hu).1
  refine .inl ?_
  have : j = 0 ∨ j = 1 ∨ j = 2 ∨ j = 3 ∨ j = 4 ∨ j = 5 ∨ j = 6 ∨ j = 7 ∨ j = 8 ∨ j = 9 ∨ j = 10 ∨ j = 11 ∨ j = 12 ∨ j = 13 ∨ j = 14 ∨ j = 15 := by omega
  rcases this with rfl | rfl | rfl | rfl | rfl | rfl | rfl | rfl | rfl | rfl | rfl | rfl | rfl | rfl | rfl | rfl <;> (injection hu with hu; exact ⟨_, hu.symm⟩)
theorem fieldsQ_int (s : Sym) : ∀ y ∈ fieldsQ, ∃ n, s.cells[y.2]? = some (Value.int .i64 n) := by
  intro y hy
  simp only [fieldsQ, List.mem_cons, List.not_mem_nil, or_false] at hy
  rcases hy with rfl | rfl | rfl | rfl | rfl | rfl | rfl | rfl | rfl | rfl | rfl | rfl | rfl | rfl | rfl | rfl <;> exact ⟨_, rfl⟩
theorem setL_sym {ns : List Int} (h : ns.length = 16) (s : Sym) : setL s.cells (fieldsQ.map (·.2)) ns = (symL ns).cells := by
  match ns, h with
  | [_, _, _, _, _, _, _, _, _, _, _, _, _, _, _, _], _ => simp [setL, fieldsQ, Sym.cells, symL]
def SymE (line : Txt) (S : Nat) (b : Bool) (W : World) : Prop := (b = false ∧ symF line = none) ∨ ∃ s, b = true ∧ symF line = some s ∧ Blk W S s.cells 29
/-- What the closure that reads a symbol leaves. -/
def SymR (line : Txt) (S : Nat) (w : World) (b : Bool) (W : World) : Prop :=
  Chg w.heap.size S w W ∧ SymE line S b W
set_option maxRecDepth 20000 in
set_option maxHeartbeats 4000000 in
theorem symbol1_any (line : Txt) (hl : line.length ≤ 100000) (S L : Nat) (s : Sym) (w : World) (hm : MX w) (hS : Blk w S s.cells 29) (hL : w.cell? ⟨L, 0, none⟩ = some (.string (strB line))) :
    Calls Tryd.prog 73 #[.pointer (some ⟨S, 0, none⟩), .pointer (some ⟨L, 0, none⟩)] w fun e W => (e = .returned (.tuple #[]) ∧ SymR line S w true W) ∨ (e = badE ∧ SymR line S w false W) := by
  have HS := Lib.hid hS.drew
  have HM := Lib.hid (show MX w.drew from hm)
  have HF := Lib.hid (fields_any S w.drew)
  have HD := Lib.hid (show Chg w.heap.size S w w.drew from (Chg.refl _ _ _).drew)
  have hLd : w.drew.cell? ⟨L, 0, none⟩ = some (.string (strB line)) := hL
  have hLb : L < w.drew.heap.size := World.block_lt_of_cell? w _ hL
  have HLN := Lib.hid hl
  have HLS := Lib.hid (show L ≠ S from by
    rintro rfl
    have h2 := hS.cell 0 (v := .int .i64 s.grid) rfl
    rw [hL] at h2
    cases h2)
  clear hS hm hl hL
  go_enter Tryd.func73, Tryd.ntmps73
  refine wp_region_held_drew (S := (fun w' => w'.cell? ⟨L, 0, none⟩ = some (.string (strB line)))) (by kernel_rfl) (hLd) (fun hHeld => ?_)
  generalize w.drew = w1 at HS HM HF HD hLb hHeld ⊢
  refine wpAnyH_take (i := 2) (oi := ⟨some 4, _, _, _, _, _⟩) (v := (.string (strB line))) rfl (by kernel_rfl) (by kernel_rfl) (by kernel_rfl) (fun _ _ _ h => h) (Or.inl ⟨by rfl, fun w hSw => by (try dsimp only at hSw); go_simp⟩) (by assumption) ?_
  simp only [Act.put, List.setIfInBounds_toArray, List.set_cons_zero, List.set_cons_succ]
  refine wpAnyH_ready (rs := [0]) (by kernel_rfl) (by simp) ?_
  refine AllReadyH.cons (o := ⟨some 2, _, _, _, _, _⟩) rfl (fun KK hK => ?_) AllReadyH.nil
  go_simp
  refine HF.out.mono ?_
  rintro e w2 ⟨v, rfl, hrow⟩
  have hL2 : w2.cell? ⟨L, 0, none⟩ = some (.string (strB line)) := by rw [hrow.bel.cell (p := ⟨L, 0, none⟩) hLb]; exact hHeld
  have HRD := Lib.hid (read_any wSymbol line HLN.out S s.cells 29 fieldsQ v w2 (HM.out.below (n := w1.heap.size) hrow.bel) (HS.out.below hrow.bel HS.out.lt) (plain_sym s) (fieldsQ_int s) (by decide) (by decide) (hrow.at (by simp [fieldsL, grpN, grp])))
  have HD2 := Lib.hid (HD.out.step (hrow.bel.mono HD.out.size))
  obtain ⟨g, cp, rfl, -, -⟩ := World.ownsRow.form hrow.row (by simp [fieldsL, grpN, grp])
  clear hrow HF HM HS hHeld hLb
  refine hK.out _ _ (hL2) (fun hHeld => ?_)
  clear hK; try clear KK
  try simp only [Act.put, List.setIfInBounds_toArray, List.set_cons_zero, List.set_cons_succ]
  refine wpAnyH_take (i := 1) (oi := ⟨some 3, _, _, _, _, _⟩) (v := ?_) rfl (by kernel_rfl) (by kernel_rfl) (by kernel_rfl) (fun _ _ _ h => h) (Or.inl ⟨by rfl, ?_⟩) (by assumption) ?_
  rotate_left
  · (intro w hSw; (try dsimp only at hSw); go_simp; (try with_reducible rfl))
  simp only [Act.put, List.setIfInBounds_toArray, List.set_cons_zero, List.set_cons_succ]
  refine wpAnyH_ready (rs := [3]) (by kernel_rfl) (by simp) ?_
  refine AllReadyH.cons (o := ⟨some 5, _, _, _, _, _⟩) rfl (fun KK hK => ?_) AllReadyH.nil
  go_simp
  refine HRD.out.mono ?_
  rintro e w3 ⟨hc, ⟨ho, rfl⟩ | ⟨ns, ho, rfl, hb⟩⟩ <;> rw [show fieldsQ.length = 16 from rfl] at ho
  · exact ⟨rfl, .inr ⟨rfl, HD2.out.trans (hc.mono HD2.out.size), .inl ⟨rfl, by unfold symF; rw [ho]; rfl⟩⟩⟩
  · have HC3 := Lib.hid (HD2.out.trans (hc.mono HD2.out.size))
    have HE := Lib.hid (show SymE line S true w3 from .inr ⟨symL ns, rfl, by unfold symF; rw [ho]; rfl, by rw [← setL_sym (part_len ho) s]; exact hb⟩)
    have hL3 : w3.cell? ⟨L, 0, none⟩ = some (.string (strB line)) := by
      rw [hc.cell (p := ⟨L, 0, none⟩) (World.block_lt_of_cell? w2 _ hL2) HLS.out]
      exact hL2
    clear hc ho hb hL2 HD2 HRD
    dsimp only
    refine hK.out _ _ (hL3) (fun hHeld => ?_)
    clear hK; try clear KK
    try simp only [Act.put, List.setIfInBounds_toArray, List.set_cons_zero, List.set_cons_succ]
    refine wpAnyH_done (by kernel_rfl) ?_ _
    go_wp2_with fail
    go_end0
    exact .inl ⟨rfl, HC3.out, HE.out⟩
set_option maxRecDepth 20000 in
set_option maxHeartbeats 4000000 in
theorem symbol_any (line : Txt) (hl : line.length ≤ 100000) (w : World) (hm : MX w) :
    Calls Tryd.prog 19 #[.string (strB line)] w (SymIs (symF line) w) := by
  have hmf : ∀ (fn : Fn) (first cap : Array Value) (w : World), (Instr.makeFunc fn first cap).run Tryd.prog w = .ok (.func fn first cap) w := fun _ _ _ _ => rfl
  have hgo : ∀ c w, (callFunc 73 c).run Tryd.prog w = .ok (.enter 73 c) w := fun c w => callFunc_enter Tryd.func73 (by kernel_rfl) (by kernel_rfl) c w
  have HGO := Lib.hid hgo
  clear hgo
  have HW := Lib.hid (show Below w.heap.size w (((w.alloc (.cells #[.string (strB line)] 9)).alloc (.cells zeroSym.cells 29)).alloc (.cells zeroSym.cells 29)) from (((Below.refl _ _).alloc (Nat.le_refl _) _).alloc (by simp) _).alloc (by simp; omega) _)
  have HL := Lib.hid (((Blk.new w #[.string (strB line)] 9 w.heap.size rfl).old (.cells zeroSym.cells 29)).old (.cells zeroSym.cells 29))
  have HR := Lib.hid ((Blk.new (w.alloc (.cells #[.string (strB line)] 9)) zeroSym.cells 29 (w.heap.size + 1) (by simp)).old (.cells zeroSym.cells 29))
  have HS := Lib.hid (Blk.new ((w.alloc (.cells #[.string (strB line)] 9)).alloc (.cells zeroSym.cells 29)) zeroSym.cells 29 (w.heap.size + 2) (by simp))
  have HM := Lib.hid hm
  have HLN := Lib.hid hl
  clear hm hl
  go_enter Tryd.func19, Tryd.ntmps19
  go_upto_region 2 with fail
  change Code.wp _ _ _ _ (((w.alloc (.cells #[.string (strB line)] 9)).alloc (.cells zeroSym.cells 29)).alloc (.cells zeroSym.cells 29))
  generalize ((w.alloc (.cells #[.string (strB line)] 9)).alloc (.cells zeroSym.cells 29)).alloc (.cells zeroSym.cells 29) = w1 at HW HL HR HS ⊢
  have HT := Lib.hid (try_of 73 #[.pointer (some ⟨w.heap.size + 2, 0, none⟩), .pointer (some ⟨w.heap.size, 0, none⟩)] (HGO.out _) (SymR line (w.heap.size + 2) (w1.alloc (.cells #[.int .i64 0] 25))) w1
    (symbol1_any line HLN.out (w.heap.size + 2) w.heap.size zeroSym (w1.alloc (.cells #[.int .i64 0] 25)) (HM.out.below (n := w.heap.size) (HW.out.alloc HW.out.size _)) (HS.out.old _) ((HL.out.old _).cell 0 rfl))
    (fun b W h => h.1.blk (by simp) (by have := HS.out.lt; omega) (Blk.new w1 _ _ _ rfl)))
  go_wp2_with fail
  refine HT.out.mono ?_
  clear HT
  rintro e w2 ⟨b, W, ⟨hc, hb⟩, rfl, hbl⟩
  have HR2 := Lib.hid ((hc.blk (by simp; have := HR.out.lt; omega) (by omega) (HR.out.old _)).below hbl HR.out.lt)
  have HW2 := Lib.hid ((HW.out.trans (((Below.refl w1.heap.size w1).alloc (Nat.le_refl _) _).mono HW.out.size)).trans ((hc.below' (m := w.heap.size) (by omega) (by simp; have := HW.out.size; omega)).trans (hbl.mono HW.out.size)))
  rcases hb with ⟨rfl, ho⟩ | ⟨s, rfl, ho, hb⟩
  · have HN := Lib.hid ho
    clear hc ho hbl HR HL HS HW
    simp only [Bool.false_eq_true, if_false]
    go_wp2_with (refine store_blk (by rfl) 29 _ _ (by rfl) (w.heap.size + 1) (by rfl) _ zeroSym.cells 29 HR2.out (by rfl) rfl (by kernel_rfl) (sym_one _) ?_)
    refine bodyPost_ret (results_blk_tmp rfl rfl (HR2.out.setCells zeroSym.cells rfl) Tryd.underlying29 rfl (by kernel_rfl)) rfl ?_
    exact ⟨by rw [HN.out]; rfl, Blk.Below.setCells _ _ _ HW2.out (by omega)⟩
  · have HN := Lib.hid ho
    have HS2 := Lib.hid (hb.below hbl HS.out.lt)
    clear hc ho hb hbl HR HL HS HW
    simp only [if_true]
    go_wp2_with (first
      | (refine load_blk (by rfl) 29 _ (by rfl) (w.heap.size + 2) (by rfl) _ _ HS2.out _ Tryd.underlying29 rfl (by kernel_rfl) ?_)
      | (refine store_blk (by rfl) 29 _ _ (by rfl) (w.heap.size + 1) (by rfl) _ s.cells 29 HR2.out (by rfl) rfl (by kernel_rfl) (sym_one _) ?_))
    refine bodyPost_ret (results_blk_tmp rfl rfl (HR2.out.setCells s.cells rfl) Tryd.underlying29 rfl (by kernel_rfl)) rfl ?_
    exact ⟨by rw [HN.out]; rfl, Blk.Below.setCells _ _ _ HW2.out (by omega)⟩
end Go.Proofs.YtmkcooamgojbpaaDoor.Sheet

/- sheet.Field. -/
namespace Go.Proofs.YtmkcooamgojbpaaDoor.Sheet
open Go.RowKit Go.Proofs.YtmkcooamgojbpaaDoor.Kit Go.Proofs.YtmkcooamgojbpaaDoor.Blk Go.Proofs.YtmkcooamgojbpaaDoor.Words Go.Proofs.YtmkcooamgojbpaaDoor.Octets Go.Proofs.YtmkcooamgojbpaaDoor.Lines Go.Proofs.YtmkcooamgojbpaaDoor.Dec Go.Proofs.YtmkcooamgojbpaaDoor.Symbol
attribute [local go_sem ↓] Go.wp_at_zero Go.wp_at_succ
set_option linter.unusedVariables false

/-- The place of a name among a symbol's; -1: it is none. -/
def nameI (x : ByteArray) : Int := Lib.idxOfS (nameL.take 16) x
theorem name_or (x : ByteArray) : (nameI x = -1 ∧ ∀ j, j < 16 → nameL.getD j ByteArray.empty ≠ x) ∨ ∃ k : Nat, k < 16 ∧ nameI x = (k : Int) ∧ nameL.getD k ByteArray.empty = x ∧ ∀ j, j < k → nameL.getD j ByteArray.empty ≠ x := by
  have gen : ∀ n, n ≤ 16 → (∀ j, j < n → nameL.getD j ByteArray.empty ≠ x) ∨ ∃ k, k < n ∧ nameL.getD k ByteArray.empty = x ∧ ∀ j, j < k → nameL.getD j ByteArray.empty ≠ x := by
    intro n
    induction n with
    | zero => intro _; exact .inl fun j hj => absurd hj (by omega)
    | succ n ih =>
      intro hn
      rcases ih (by omega) with h | ⟨k, h1, h2⟩
      · by_cases he : nameL.getD n ByteArray.empty = x
        · exact .inr ⟨n, by omega, he, h⟩
        · refine .inl fun j hj => ?_
          by_cases e : j = n
          · subst e; exact he
          · exact h j (by omega)
      · exact .inr ⟨k, by omega, h2⟩
  rcases gen 16 (Nat.le_refl _) with h | ⟨k, h1, h2, h3⟩
  · exact .inl ⟨Lib.idxOfS_miss nameL 16 x h, h⟩
  · exact .inr ⟨k, h1, Lib.idxOfS_hit nameL 16 k x h1 (by decide) h2 h3, h2, h3⟩
def fieldV (s : Sym) (x : ByteArray) : Int := if 0 ≤ nameI x then s.vals.getD (nameI x).toNat 0 else 0
def FieldIs (s : Sym) (x : ByteArray) (w : World) (e : Ending) (w' : World) : Prop :=
  e = .returned (.tuple #[.int .i64 (fieldV s x), .bool (decide (0 ≤ nameI x))]) ∧ Below w.heap.size w w'
theorem fields_get (B k : Nat) (h : k < 16) : ∃ lg, (fieldsL B)[k]? = some (lg, ⟨B, k, none⟩) := by
  have : k = 0 ∨ k = 1 ∨ k = 2 ∨ k = 3 ∨ k = 4 ∨ k = 5 ∨ k = 6 ∨ k = 7 ∨ k = 8 ∨ k = 9 ∨ k = 10 ∨ k = 11 ∨ k = 12 ∨ k = 13 ∨ k = 14 ∨ k = 15 := by omega
  rcases this with rfl | rfl | rfl | rfl | rfl | rfl | rfl | rfl | rfl | rfl | rfl | rfl | rfl | rfl | rfl | rfl <;> exact ⟨_, rfl⟩
theorem cells_get (s : Sym) (k : Nat) (h : k < 16) : s.cells[k]? = some (.int .i64 (s.vals.getD k 0)) := by
  have : k = 0 ∨ k = 1 ∨ k = 2 ∨ k = 3 ∨ k = 4 ∨ k = 5 ∨ k = 6 ∨ k = 7 ∨ k = 8 ∨ k = 9 ∨ k = 10 ∨ k = 11 ∨ k = 12 ∨ k = 13 ∨ k = 14 ∨ k = 15 := by omega
  rcases this with rfl | rfl | rfl | rfl | rfl | rfl | rfl | rfl | rfl | rfl | rfl | rfl | rfl | rfl | rfl | rfl <;> rfl
set_option maxRecDepth 20000 in
set_option maxHeartbeats 4000000 in
theorem field_any (s : Sym) (x : ByteArray) (w : World) :
    Calls Tryd.prog 22 #[.agg s.cells, .string x] w (FieldIs s x w) := by
  have HX := Lib.hid (Blk.new w s.cells 29 w.heap.size rfl)
  have HB := Lib.hid ((Below.refl w.heap.size w).alloc (Nat.le_refl _) (.cells s.cells 29))
  unfold Sym.cells
  go_enter Tryd.func22, Tryd.ntmps22
  go_upto_region 1 with fail
  change Code.wp _ _ _ _ (w.alloc (.cells s.cells 29))
  generalize w.alloc (.cells s.cells 29) = w1 at HX HB ⊢
  go_wp2_with fail
  refine (names_any w1).mono ?_
  rintro e w2 ⟨rfl, hb2⟩
  have HX2 := Lib.hid ((HX.out.below hb2 HX.out.lt).old (.cells nameA 110))
  have HB2 := Lib.hid ((HB.out.trans (hb2.mono HB.out.size)).alloc (Nat.le_trans HB.out.size hb2.size) (.cells nameA 110))
  have HN2 := Lib.hid (Blk.new w2 nameA 110 w2.heap.size rfl)
  clear hb2 HX HB
  unfold nameA
  go_upto_region 2 with fail
  change Code.wp _ _ _ _ (w2.alloc (.cells nameA 110))
  generalize w2.alloc (.cells nameA 110) = w3 at HX2 HB2 HN2 ⊢
  have HIX := Lib.hid (fun c => show Calls Tryd.prog 71 #[.slice (some ⟨w2.heap.size, 0, none⟩) 16 c, .string x] w3 fun e w' => e = .returned (.int .i64 (nameI x)) ∧ w3 = w' from (Shelf.slices_Index_string w2.heap.size 0 16 c nameL x w3 (by decide) (by decide) (name_at _ _ HN2.out)).mono fun _ _ h => ⟨h.1, h.2.symm⟩)
  have HV := Lib.hid (show fieldV s x = if 0 ≤ nameI x then s.vals.getD (nameI x).toNat 0 else 0 from rfl)
  go_wp2_with fail
  refine (HIX.out _).mono ?_
  clear HIX
  rintro e w4 ⟨rfl, rfl⟩
  clear HN2
  rcases name_or x with ⟨hi, -⟩ | ⟨k, hk, hi, -, -⟩
  · have HE := Lib.hid (show FieldIs s x w (.returned (.tuple #[.int .i64 0, .bool false])) w3 from ⟨by rw [HV.out, hi]; rfl, HB2.out⟩)
    rw [hi]
    clear hi HV
    go_wp2_with fail
    go_ret2
    exact HE.out
  · have HE := Lib.hid (show fieldV s x = s.vals.getD k 0 ∧ decide (0 ≤ nameI x) = true from ⟨by rw [HV.out, hi, if_pos (by omega)]; simp, by rw [hi]; simp⟩)
    rw [hi]
    have g1 : ¬ (k : Int) < 0 := by omega
    clear hi HV
    go_wp2_with fail
    refine (fields_any w.heap.size w3).mono ?_
    rintro e w5 ⟨v, rfl, hrow⟩
    have hrow' := hrow.at (by simp [fieldsL, grpN, grp])
    obtain ⟨g, c, rfl, hg, hcells⟩ := hrow'
    obtain ⟨lg, hlg⟩ := fields_get w.heap.size k hk
    have hkl : k < (fieldsL w.heap.size).length := (List.getElem?_eq_some_iff.1 hlg).1
    have hx : (fieldsL w.heap.size)[k] = (lg, ⟨w.heap.size, k, none⟩) := (List.getElem?_eq_some_iff.1 hlg).2
    have HR := Lib.hid (show w5.rangeAt g (k * 2) (numC (lg, ⟨w.heap.size, k, none⟩)).toList from hx ▸ nums_at hcells k hkl)
    have HX5 := Lib.hid (HX2.out.below hrow.bel HX2.out.lt)
    have HB5 := Lib.hid (HB2.out.trans (hrow.bel.mono HB2.out.size))
    have HSZ := Lib.hid (show (numC (lg, ⟨w.heap.size, k, none⟩)).size = 2 by cases lg <;> rfl)
    have hl16 : (fieldsL w.heap.size).length = 16 := rfl
    rw [hl16]
    have g2 : (k : Int) < 16 := by omega
    clear hrow hcells hlg hx hkl hl16 HX2 HB2 hg
    have HG := Lib.hid (get_any lg w.heap.size k (s.vals.getD k 0) w5 (HX5.out.cell k (cells_get s k hk)))
    generalize s.vals.getD k 0 = z at HG HE
    go_wp2_with (refine wpList_load_mid rfl 115 _ rfl _ _ rfl _ _ HR.out Tryd.underlying115 rfl (by rw [Array.length_toList, HSZ.out]; kernel_rfl) ?_)
    refine HG.out.mono ?_
    rintro e w6 ⟨rfl, hb6⟩
    have HB6 := Lib.hid (HB5.out.trans (hb6.mono HB5.out.size))
    clear hb6 HG
    have HE3 := Lib.hid (show FieldIs s x w (.returned (.tuple #[.int .i64 z, .bool true])) w6 from ⟨by rw [HE.out.1, HE.out.2], HB6.out⟩)
    go_wp2_with fail
    go_ret2
    exact HE3.out
end Go.Proofs.YtmkcooamgojbpaaDoor.Sheet

/- damperlaw07.Plain of one symbol. -/
namespace Go.Proofs.YtmkcooamgojbpaaDoor.Sheet
open Go.RowKit Go.Proofs.YtmkcooamgojbpaaDoor.Kit Go.Proofs.YtmkcooamgojbpaaDoor.Blk Go.Proofs.YtmkcooamgojbpaaDoor.Words Go.Proofs.YtmkcooamgojbpaaDoor.Octets Go.Proofs.YtmkcooamgojbpaaDoor.Lines Go.Proofs.YtmkcooamgojbpaaDoor.Dec Go.Proofs.YtmkcooamgojbpaaDoor.Symbol
attribute [local go_sem ↓] Go.wp_at_zero Go.wp_at_succ
set_option linter.unusedVariables false

def plainS : Sym := ⟨5, 1000, 2000, 500, 20, 100, 3, 10, 5, 2, 500, 500, 1, 40, 12, 1000⟩
def plainC (sy ta : Value) : Array Value := #[sy, ta, .int .i64 10000, .int .i64 700, .int .i64 1300, .int .i64 2000, .int .i64 15, .int .i64 30]
def zeroC : Array Value := #[.slice none 0 0, .slice none 0 0, .int .i64 0, .int .i64 0, .int .i64 0, .int .i64 0, .int .i64 0, .int .i64 0]
def PlainIs (w : World) (e : Ending) (w' : World) : Prop := ∃ g cap ta, e = .returned (.agg (plainC (.slice (some ⟨g, 0, none⟩) 1 cap) ta)) ∧ w'.rangeAt g 0 plainS.cells.toList ∧ Below w.heap.size w w'
theorem infoSym : (Tryd.prog.info? 29).map (fun i => (i.zero, i.size, i.bytes)) = some (some (.agg zeroSym.cells), 16, 128) := by kernel_rfl
def plainR : Array Value := #[.int .i64 5, .int .i64 1, .int .i64 10, .int .i64 2, .int .i64 500, .int .i64 0]
/-- Between two rounds. -/
structure PlS (w : World) (k : Nat) (ta v : Value) (W : World) : Prop where
  res : Blk W w.heap.size zeroC 53
  sym : Blk W (w.heap.size + 1) plainS.cells 29
  cfg : Blk W (w.heap.size + 1 + 1 + 1) (plainC v ta) 53
  bel : Below w.heap.size w W
  nil : k = 0 → v = .slice none 0 0
  row : k = 1 → ∃ g cap, v = .slice (some ⟨g, 0, none⟩) 1 cap ∧ W.rangeAt g 0 plainS.cells.toList
def plainW (w : World) : World := (((w.alloc (.cells zeroC 53)).alloc (.cells plainS.cells 29)).alloc (.cells plainR 24)).alloc (.cells (plainC (.slice none 0 0) (.slice (some ⟨w.heap.size + 1 + 1, 0, none⟩) 3 3)) 53)
theorem pls_start (w : World) : PlS w 0 (.slice (some ⟨w.heap.size + 1 + 1, 0, none⟩) 3 3) (.slice none 0 0) (plainW w) := by
  have hb : Below w.heap.size w (plainW w) := ((((Below.refl _ _).alloc (Nat.le_refl _) _).alloc (by simp) _).alloc (by simp; omega) _).alloc (by simp; omega) _
  refine ⟨(((Blk.new w _ _ w.heap.size rfl).old _).old _).old _, ((Blk.new (w.alloc _) _ _ (w.heap.size + 1) (by simp)).old _).old _, Blk.new _ _ _ _ (by simp), hb, fun _ => rfl, fun h => (by cases h)⟩
theorem range_set {W : World} {g B o : Nat} {l : List Value} (h : W.rangeAt g o l) (hne : g ≠ B) (vs : List Value) : (W.setCells B 0 vs).rangeAt g o l := fun j u hu => by
  rw [← h j u hu]
  have gen : ∀ (vs : List Value) (i : Nat) (W : World), (W.setCells B i vs).cell? ⟨g, o + j, none⟩ = W.cell? ⟨g, o + j, none⟩ := by
    intro vs
    induction vs with
    | nil => intro i W; rfl
    | cons v vs ih =>
      intro i W
      rw [show W.setCells B i (v :: vs) = (W.setCell ⟨B, i, none⟩ v).setCells B (i + 1) vs from rfl, ih]
      exact World.cell?_of_block (Below.heap_setCell _ _ _ _ hne)
  exact gen vs 0 W
set_option maxRecDepth 20000 in
set_option maxHeartbeats 8000000 in
theorem plain_any (w : World) : Calls Tryd.prog 61 #[.int .i64 1] w (PlainIs w) := by
  obtain ⟨i0, hi0, hz0, hz1, hz2⟩ := info_parts infoSym
  have HP0 := Lib.hid (pls_start w)
  go_enter Tryd.func61, Tryd.ntmps61
  go_upto_region 3 with fail
  change Code.wp _ _ _ _ (plainW w)
  generalize plainW w = w1 at HP0 ⊢
  generalize (some (⟨w.heap.size + 1 + 1, 0, none⟩ : Addr)) = tb at HP0 ⊢
  go_wp2_with fail
  go_loopw [5] (fun i wr => ∃ k v, k ≤ 1 ∧ i = .int .i64 ((k : Nat) : Int) ∧ PlS w k (.slice tb 3 3) v wr) (fun i _ => 1 - (intOf i).toNat)
  case atStart => exact ⟨0, _, by omega, rfl, HP0.out⟩
  case round =>
    obtain ⟨k, v, hk, rfl, hp⟩ := hrel
    have HP := Lib.hid hp
    clear hp HP0
    by_cases hlt : k < 1
    · obtain rfl : k = 0 := by omega
      obtain rfl : v = .slice none 0 0 := HP.out.nil rfl
      have c0 : wr.cell? ⟨w.heap.size + 1 + 1 + 1, 0, none⟩ = some (.slice none 0 0) := HP.out.cfg.cell 0 rfl
      have HNB := Lib.hid ((GL.start wr.heap.size 29 16 (Below.refl _ wr) (Nat.le_refl _)).new plainS.cells)
      have HR2 := Lib.hid (HP.out.res.old (.cells plainS.cells 29))
      have HS2 := Lib.hid (HP.out.sym.old (.cells plainS.cells 29))
      have HC2 := Lib.hid (HP.out.cfg.old (.cells plainS.cells 29))
      go_wp2_with (first
        | (refine load_blk (by rfl) 29 _ (by rfl) (w.heap.size + 1) (by rfl) _ _ HP.out.sym _ Tryd.underlying29 rfl (by kernel_rfl) ?_; unfold plainS Sym.cells)
        | (at_builtin; refine GN.wp HNB.out rfl _ _ 48 (by rfl) i0 (.agg zeroSym.cells) 128 Tryd.underlying48 hi0 hz0 hz1 hz2 rfl (by decide) (by rfl) (by rfl) rfl (by simp [plainS, Sym.cells, Value.oneCell']) (by unfold maxLen; omega) (by omega) ?_; intro g5 cap5 w5 H5; replace H5 := Lib.hid H5; have HR5 := Lib.hid (HP.out.res.below H5.out.bel HP.out.res.lt); have HS5 := Lib.hid (HP.out.sym.below H5.out.bel HP.out.sym.lt); have HC5 := Lib.hid (HP.out.cfg.below H5.out.bel HP.out.cfg.lt); have f5 := HC5.out.free 0; have c5 : w5.cell? ⟨w.heap.size + 1 + 1 + 1, 0, none⟩ = some (.slice none 0 0) := HC5.out.cell 0 rfl))
      have hne : g5 ≠ w.heap.size + 1 + 1 + 1 := by
        have := (World.ownsRow.lt H5.out.own g5 rfl).1
        have := HP.out.cfg.lt
        omega
      have HE := Lib.hid (show PlS w 1 (.slice tb 3 3) (.slice (some ⟨g5, 0, none⟩) 1 cap5) (w5.setCell ⟨w.heap.size + 1 + 1 + 1, 0, none⟩ (.slice (some ⟨g5, 0, none⟩) 1 cap5)) from
        ⟨HR5.out.apart _ _ (by show w.heap.size + 1 + 1 + 1 ≠ w.heap.size; omega), HS5.out.apart _ _ (by show w.heap.size + 1 + 1 + 1 ≠ w.heap.size + 1; omega), HC5.out.set 0 _, (HP.out.bel.trans (H5.out.bel.mono HP.out.bel.size)).setCell (by show w.heap.size ≤ w.heap.size + 1 + 1 + 1; omega) _, fun h => (by cases h), fun _ => ⟨g5, cap5, rfl, fun j u hu => by
          rw [World.cell?_of_block (w := w5) (a := ⟨g5, 0 + j, none⟩) (Below.heap_setCell _ _ _ _ (by show g5 ≠ w.heap.size + 1 + 1 + 1; exact hne)), Nat.zero_add]
          have := World.ownsRow.cells H5.out.own rfl j u hu
          rwa [Addr.add_mid, Nat.zero_add] at this⟩⟩)
      clear hne
      go_roundw
      case rel => exact ⟨1, _, by omega, rfl, HE.out⟩
      case measure => simp [intOf]
    · obtain rfl : k = 1 := by omega
      obtain ⟨g, cap, rfl, hr⟩ := HP.out.row rfl
      have HRG := Lib.hid hr
      clear hr
      go_wp2_with (first
        | (refine load_blk (by rfl) 53 _ (by rfl) (w.heap.size + 1 + 1 + 1) (by rfl) _ _ HP.out.cfg _ Tryd.underlying53 rfl (by kernel_rfl) ?_)
        | (refine store_blk (by rfl) 53 _ _ (by rfl) w.heap.size (by rfl) _ (plainC (.slice (some ⟨g, 0, none⟩) 1 cap) (.slice tb 3 3)) 53 HP.out.res (by rfl) rfl (by kernel_rfl) (by simp [plainC, Value.oneCell']) ?_))
      have hne : g ≠ w.heap.size := by
        rintro rfl
        have h1 := HRG.out 0 (.int .i64 5) rfl
        have h2 := HP.out.res.cell 0 (v := .slice none 0 0) rfl
        rw [show w.heap.size = w.heap.size from rfl] at h1
        rw [show (0 + 0 : Nat) = 0 from rfl, h2] at h1
        cases h1
      refine bodyPost_ret (results_blk (cs := plainC (.slice (some ⟨g, 0, none⟩) 1 cap) (.slice tb 3 3)) rfl rfl (HP.out.res.setCells (plainC (.slice (some ⟨g, 0, none⟩) 1 cap) (.slice tb 3 3)) rfl) Tryd.underlying53 rfl (by kernel_rfl)) rfl ⟨g, cap, _, rfl, range_set HRG.out hne _, Blk.Below.setCells _ _ _ HP.out.bel (Nat.le_refl _)⟩
end Go.Proofs.YtmkcooamgojbpaaDoor.Sheet

/- sheet.Row: the row of a line. -/
namespace Go.Proofs.YtmkcooamgojbpaaDoor.Sheet
open Go.RowKit Go.Proofs.YtmkcooamgojbpaaDoor.Kit Go.Proofs.YtmkcooamgojbpaaDoor.Blk Go.Proofs.YtmkcooamgojbpaaDoor.Words Go.Proofs.YtmkcooamgojbpaaDoor.Octets Go.Proofs.YtmkcooamgojbpaaDoor.Lines Go.Proofs.YtmkcooamgojbpaaDoor.Dec Go.Proofs.YtmkcooamgojbpaaDoor.Symbol
attribute [local go_sem ↓] Go.wp_at_zero Go.wp_at_succ
set_option linter.unusedVariables false

/-- A line's first word is "row". -/
def pRow : Txt := [114, 111, 119, 32]
theorem prow_yes (t : Txt) : Lib.hasPrefix (wRow ++ 32 :: t) pRow = true ∧ Lib.trimPrefix (wRow ++ 32 :: t) pRow = t := by
  have h : Lib.hasPrefix (wRow ++ 32 :: t) pRow = true := by simp [Lib.hasPrefix, wRow, pRow]
  refine ⟨h, ?_⟩
  unfold Lib.trimPrefix
  rw [if_pos h]
  rfl
theorem prow_no {l : Txt} (h : ∀ t, l ≠ wRow ++ 32 :: t) : Lib.hasPrefix l pRow = false ∧ Lib.trimPrefix l pRow = l := by
  have e : Lib.hasPrefix l pRow = false := by
    cases e : Lib.hasPrefix l pRow with
    | false => rfl
    | true =>
      obtain ⟨t, ht⟩ := List.isPrefixOf_iff_prefix.1 (show pRow.isPrefixOf l = true from e)
      exact absurd ht.symm (h t)
  refine ⟨e, ?_⟩
  unfold Lib.trimPrefix
  rw [if_neg (by rw [e]; decide)]
theorem trim_row (l : Txt) (w : World) : Calls Tryd.prog 65 #[.string (strB l), .string ⟨#[114, 111, 119, 32]⟩] w fun e w' => e = .returned (.string (strB (Lib.trimPrefix l pRow))) ∧ w = w' := by
  have h := Shelf.strings_TrimPrefix (strB l) ⟨#[114, 111, 119, 32]⟩ w
  rw [strB_list] at h
  exact h.mono fun _ _ h => ⟨h.1, h.2.symm⟩
theorem has_row (l : Txt) (w : World) : Calls Tryd.prog 67 #[.string (strB l), .string ⟨#[114, 111, 119, 32]⟩] w fun e w' => e = .returned (.bool (Lib.hasPrefix l pRow)) ∧ w = w' := by
  have h := Shelf.strings_HasPrefix (strB l) ⟨#[114, 111, 119, 32]⟩ w
  rw [strB_list] at h
  exact h.mono fun _ _ h => ⟨h.1, h.2.symm⟩
theorem phaseL_at (k : Nat) (h : k < 3) : phaseL.getD k ByteArray.empty = strB (phF k) := by
  have : k = 0 ∨ k = 1 ∨ k = 2 := by omega
  rcases this with rfl | rfl | rfl <;> rfl
theorem strB_inj {a b : Txt} (h : strB a = strB b) : a = b := by rw [← strB_list a, h, strB_list]
/-- The place of a phase's word. -/
theorem phase_idx (p : Txt) : Lib.idxOfS (phaseL.take 3) (strB p) = (phaseI p).getD (-1) := by
  by_cases h : ∃ k, k < 3 ∧ phF k = p
  · obtain ⟨k, hk, rfl⟩ := h
    rw [phase_hit hk rfl]
    refine (Lib.idxOfS_hit phaseL 3 k _ hk (by decide) (phaseL_at k hk) (fun j hj he => ?_))
    rw [phaseL_at j (by omega)] at he
    have e := strB_inj he
    have h1 := phase_hit (c := phF k) (show j < 3 by omega) e
    rw [phase_hit hk rfl] at h1
    injection h1 with h1
    omega
  · have hm : ∀ k, k < 3 → phF k ≠ p := fun k hk e => h ⟨k, hk, e⟩
    rw [phase_miss hm]
    refine Lib.idxOfS_miss phaseL 3 _ (fun j hj he => ?_)
    rw [phaseL_at j hj] at he
    exact hm j hj (strB_inj he)
theorem index_phase (B c : Nat) (p : Txt) (w : World) (hb : Blk w B phaseA 103) : Calls Tryd.prog 71 #[.slice (some ⟨B, 0, none⟩) 3 c, .string (strB p)] w fun e w' => e = .returned (.int .i64 ((phaseI p).getD (-1))) ∧ w = w' := by
  have h := Shelf.slices_Index_string B 0 3 c phaseL (strB p) w (by decide) (by decide) (fun j hj => by
    have hj : j < 3 := hj
    rw [Nat.zero_add]
    have : j = 0 ∨ j = 1 ∨ j = 2 := by omega
    rcases this with rfl | rfl | rfl <;> exact hb.cell _ rfl)
  rw [phase_idx] at h
  exact h.mono fun _ _ h => ⟨h.1, h.2.symm⟩
def RowE (line : Txt) (S : Nat) (b : Bool) (W : World) : Prop := (b = false ∧ rowF line = none) ∨ ∃ r, b = true ∧ rowF line = some r ∧ Blk W S (rowC r) 24
def RowR (line : Txt) (S : Nat) (w : World) (b : Bool) (W : World) : Prop := Chg w.heap.size S w W ∧ RowE line S b W
theorem plain_row (r : Int × Int) : PlainC (rowC r) := fun j u hu => by
  have hj : j < 2 := (Array.getElem?_eq_some_iff.1 hu).1
  refine .inl ?_
  have : j = 0 ∨ j = 1 := by omega
  rcases this with rfl | rfl <;> (injection hu with hu; exact ⟨_, hu.symm⟩)
set_option maxRecDepth 20000 in
set_option maxHeartbeats 4000000 in
theorem row1_any (line : Txt) (hl : line.length ≤ 90000) (S L : Nat) (r : Int × Int) (w : World) (hm : MX w) (hS : Blk w S (rowC r) 24) (hL : w.cell? ⟨L, 0, none⟩ = some (.string (strB line))) :
    Calls Tryd.prog 63 #[.pointer (some ⟨L, 0, none⟩), .pointer (some ⟨S, 0, none⟩)] w fun e W => (e = .returned (.tuple #[]) ∧ RowR line S w true W) ∨ (e = badE ∧ RowR line S w false W) := by
  have HM := Lib.hid hm
  have HS := Lib.hid hS
  have HTP := Lib.hid (trim_row line w)
  have HLN := Lib.hid hl
  by_cases hp : ∃ t, line = wRow ++ 32 :: t
  · obtain ⟨t, ht⟩ := hp
    obtain ⟨p1, p2⟩ := prow_yes t
    rw [← ht] at p1 p2
    rw [p2] at HTP
    have htl : t.length ≤ 90000 := by
      have := congrArg List.length ht
      simp [wRow] at this
      omega
    rcases part_at 32 t with hno | ⟨a, p, ha, htp⟩
    · have HN := Lib.hid (show rowF line = none by rw [ht]; exact row_one hno)
      have HCU := Lib.hid (cut_any t 32 w hm (by omega))
      rw [cut_none hno] at HCU
      clear hm hS ht hl p1 p2 hno
      go_enter Tryd.func63, Tryd.ntmps63
      go_wp2_with fail
      refine HTP.out.mono ?_
      rintro e w1 ⟨rfl, rfl⟩
      go_wp2_with fail
      refine HCU.out.mono ?_
      rintro e w2 ⟨rfl, n, rfl⟩
      have HC := Lib.hid (show Chg w.heap.size S w (w.drewN n) from (Chg.refl _ _ _).step ((Below.refl _ _).drewN n))
      go_wp2_with fail
      with_reducible refine (must_false _).mono ?_
      rintro e w9 ⟨rfl, rfl⟩
      go_wp2_with fail
      exact ⟨rfl, .inr ⟨rfl, HC.out, .inl ⟨rfl, HN.out⟩⟩⟩
    · have HCU := Lib.hid (cut_any t 32 w hm (by omega))
      rw [htp, cut_at ha] at HCU
      subst htp
      have HRW := Lib.hid (show rowF line = if posW a = true then (phaseI p).map (fun k => (valW a, k)) else none by rw [ht]; exact row_two ha)
      have HPF := Lib.hid (fun W => has_row line W)
      rw [p1] at HPF
      have HA := Lib.hid ha
      have hal : a.length ≤ 90000 := by simp at htl; omega
      have HAL := Lib.hid (show (wRow ++ 32 :: a).length ≤ 100000 by simp [wRow]; omega)
      clear hm hS ht hl p1 p2 ha htl
      have z1 : (strB a).size = a.length := strB_size a
      have z2 : (⟨#[114, 111, 119, 32]⟩ : ByteArray).size = 4 := rfl
      have hcat : (⟨#[114, 111, 119, 32]⟩ : ByteArray) ++ strB a = strB (wRow ++ 32 :: a) := strB_app [114, 111, 119, 32] a
      have HCAT := Lib.hid hcat
      have hL2 : ∀ n, (w.drewN n).cell? ⟨L, 0, none⟩ = some (.string (strB line)) := fun n => hL
      go_enter Tryd.func63, Tryd.ntmps63
      go_wp2_with fail
      refine HTP.out.mono ?_
      rintro e w1 ⟨rfl, rfl⟩
      go_wp2_with fail
      refine HCU.out.mono ?_
      rintro e w2 ⟨rfl, n, rfl⟩
      have HC := Lib.hid (show Chg w.heap.size S w (w.drewN n) from (Chg.refl _ _ _).step ((Below.refl _ _).drewN n))
      have HS2 := Lib.hid (HS.out.drewN n)
      have HM2 := Lib.hid (show MX (w.drewN n) from HM.out)
      go_wp2_with fail
      refine (HPF.out _).mono ?_
      rintro e w3 ⟨rfl, rfl⟩
      go_wp2_with fail
      with_reducible refine (must_true _).mono ?_
      rintro e w9 ⟨rfl, rfl⟩
      clear HTP HCU HPF hL2 hL HM HS
      generalize w.drewN n = w1 at HC HS2 HM2 ⊢
      have HB3 := Lib.hid ((Below.refl w1.heap.size w1).alloc (Nat.le_refl _) (.cells #[.pointer (some ⟨S, 0, none⟩)] 99))
      have HNB := Lib.hid (Blk.new w1 #[.pointer (some ⟨S, 0, none⟩)] 99 w1.heap.size rfl)
      have HLG := Lib.hid (longs_any w1.heap.size 0 1 [⟨S, 0, none⟩] (by simp) (w1.alloc (.cells #[.pointer (some ⟨S, 0, none⟩)] 99)) (by simp) (fun j hj => by
        obtain rfl : j = 0 := by simpa using hj
        exact HNB.out.cell 0 rfl))
      go_wp2_with fail
      refine HLG.out.mono ?_
      rintro e w3 ⟨v, rfl, hrow⟩
      have HS3 := Lib.hid ((HS2.out.below HB3.out HS2.out.lt).below hrow.bel (by simp; have := HS2.out.lt; omega))
      have HC3 := Lib.hid ((HC.out.step (HB3.out.mono HC.out.size)).step (hrow.bel.mono (by simp; have := HC.out.size; omega)))
      have HM3 := Lib.hid ((HM2.out.below (n := 0) HB3.out).below (n := 0) hrow.bel)
      have HRD := Lib.hid (read_any wRow (wRow ++ 32 :: a) HAL.out S (rowC r) 24 [(true, 0)] v w3 HM3.out HS3.out (plain_row r) (by
        intro y hy
        obtain rfl : y = (true, 0) := by simpa using hy
        exact ⟨_, rfl⟩) (by decide) (by decide) (hrow.at (by simp)))
      have HPR := Lib.hid (part_row HA.out)
      obtain ⟨g, cp, rfl, -, -⟩ := World.ownsRow.form hrow.row (by simp)
      clear hrow HB3 HNB HLG HS2 HC HM2 hcat
      have hcat := HCAT.out
      have g1 : ¬ 9223372036854775807 < (⟨#[114, 111, 119, 32]⟩ : ByteArray).size + (strB a).size := by rw [z1, z2]; omega
      go_wp2_with fail
      refine HRD.out.mono ?_
      rw [show [(true, 0)].length = 1 from rfl, HPR.out]
      clear HRD HCAT hcat g1
      by_cases hpos : posW a = true
      · rw [if_pos hpos]
        have HRW2 := Lib.hid (show rowF line = (phaseI p).map (fun k => (valW a, k)) by rw [HRW.out, if_pos hpos])
        rintro e w4 ⟨hc4, ⟨ho, rfl⟩ | ⟨ns, ho, rfl, hb⟩⟩
        · cases ho
        injection ho with ho
        subst ho
        have HS4 := Lib.hid (show Blk w4 S #[.int .i64 (valW a), .int .i64 r.2] 24 from hb)
        have HC4 := Lib.hid (HC3.out.trans (hc4.mono HC3.out.size))
        clear hc4 hb HS3 HC3 hpos
        generalize valW a = m at HS4 HRW2
        go_wp2_with fail
        refine (phases_any w4).mono ?_
        rintro e w5 ⟨rfl, hb5⟩
        have HS5 := Lib.hid ((HS4.out.below hb5 HS4.out.lt).old (.cells phaseA 103))
        have HC5 := Lib.hid ((HC4.out.step (hb5.mono HC4.out.size)).alloc (Nat.le_trans HC4.out.size hb5.size) (.cells phaseA 103))
        have HX5 := Lib.hid (Blk.new w5 phaseA 103 w5.heap.size rfl)
        have HNE := Lib.hid (show S ≠ w5.heap.size from by have := HS4.out.lt; have := hb5.size; omega)
        clear hb5 HS4 HC4
        unfold phaseA
        go_upto_region 4 with fail
        change Code.wp _ _ _ _ (w5.alloc (.cells phaseA 103))
        generalize w5.alloc (.cells phaseA 103) = w6 at HS5 HC5 HX5 ⊢
        have HIX := Lib.hid (fun c => index_phase w5.heap.size c p w6 HX5.out)
        go_wp2_with fail
        refine (HIX.out _).mono ?_
        rintro e w7 ⟨rfl, rfl⟩
        have c1 : w6.cell? ⟨S, 1, none⟩ = some (.int .i64 r.2) := HS5.out.cell 1 rfl
        have f1 := HS5.out.free 1
        cases hph : phaseI p with
        | none =>
          have HN := Lib.hid (show rowF line = none by rw [HRW2.out, hph]; rfl)
          have HC7 := Lib.hid (show Chg w.heap.size S w (w6.setCell ⟨S, 1, none⟩ (.int .i64 (-1))) from HC5.out.setCell _ _ (.inl rfl))
          simp only [Option.getD_none]
          clear hph HIX HX5
          go_wp2_with fail
          with_reducible refine (must_false _).mono ?_
          rintro e w9 ⟨rfl, rfl⟩
          go_wp2_with fail
          exact ⟨rfl, .inr ⟨rfl, HC7.out, .inl ⟨rfl, HN.out⟩⟩⟩
        | some k =>
          have HN := Lib.hid (show rowF line = some (m, k) by rw [HRW2.out, hph]; rfl)
          have HC7 := Lib.hid (show Chg w.heap.size S w (w6.setCell ⟨S, 1, none⟩ (.int .i64 k)) from HC5.out.setCell _ _ (.inl rfl))
          have HS7 := Lib.hid (show Blk (w6.setCell ⟨S, 1, none⟩ (.int .i64 k)) S (rowC (m, k)) 24 from HS5.out.set 1 _)
          have hk0 : decide (0 ≤ k) = true := by
            have := T_phase hph
            unfold phaseI at hph
            split at hph
            · injection hph with h; simp; omega
            · split at hph
              · injection hph with h; simp; omega
              · split at hph
                · injection hph with h; simp; omega
                · cases hph
          simp only [Option.getD_some]
          clear hph HIX HX5
          go_wp2_with fail
          with_reducible refine (must_true _).mono ?_
          rintro e w9 ⟨rfl, rfl⟩
          go_wp2_with fail
          go_end0
          exact .inl ⟨rfl, HC7.out, .inr ⟨_, rfl, HN.out, HS7.out⟩⟩
      · rw [if_neg hpos]
        have HN := Lib.hid (show rowF line = none by rw [HRW.out, if_neg hpos])
        rintro e w4 ⟨hc4, ⟨-, rfl⟩ | ⟨ns, ho, rfl, hb⟩⟩
        · have HC4 := Lib.hid (HC3.out.trans (hc4.mono HC3.out.size))
          clear hc4 hpos
          go_wp2_with fail
          exact ⟨rfl, .inr ⟨rfl, HC4.out, .inl ⟨rfl, HN.out⟩⟩⟩
        · cases ho
  · have hp' : ∀ t, line ≠ wRow ++ 32 :: t := fun t h => hp ⟨t, h⟩
    obtain ⟨p1, p2⟩ := prow_no hp'
    have HN := Lib.hid (row_no hp')
    rw [p2] at HTP
    have HCU := Lib.hid (cut_any line 32 w hm (by omega))
    have HPF := Lib.hid (fun W => has_row line W)
    rw [p1] at HPF
    clear hm hS hp hp' hl p1 p2
    generalize Lib.cut line [32] = cc at HCU
    obtain ⟨c1, c2, is⟩ := cc
    go_enter Tryd.func63, Tryd.ntmps63
    go_wp2_with fail
    refine HTP.out.mono ?_
    rintro e w1 ⟨rfl, rfl⟩
    go_wp2_with fail
    refine HCU.out.mono ?_
    rintro e w2 ⟨rfl, n, rfl⟩
    have HC := Lib.hid (show Chg w.heap.size S w (w.drewN n) from (Chg.refl _ _ _).step ((Below.refl _ _).drewN n))
    cases is with
    | false =>
      go_wp2_with fail
      with_reducible refine (must_false _).mono ?_
      rintro e w9 ⟨rfl, rfl⟩
      go_wp2_with fail
      exact ⟨rfl, .inr ⟨rfl, HC.out, .inl ⟨rfl, HN.out⟩⟩⟩
    | true =>
      have hL2 : (w.drewN n).cell? ⟨L, 0, none⟩ = some (.string (strB line)) := hL
      go_wp2_with fail
      refine (HPF.out _).mono ?_
      rintro e w3 ⟨rfl, rfl⟩
      go_wp2_with fail
      with_reducible refine (must_false _).mono ?_
      rintro e w9 ⟨rfl, rfl⟩
      go_wp2_with fail
      exact ⟨rfl, .inr ⟨rfl, HC.out, .inl ⟨rfl, HN.out⟩⟩⟩
set_option maxRecDepth 20000 in
set_option maxHeartbeats 4000000 in
theorem row_any (line : Txt) (hl : line.length ≤ 90000) (w : World) (hm : MX w) :
    Calls Tryd.prog 17 #[.string (strB line)] w (RowIs (rowF line) w) := by
  have hmf : ∀ (fn : Fn) (first cap : Array Value) (w : World), (Instr.makeFunc fn first cap).run Tryd.prog w = .ok (.func fn first cap) w := fun _ _ _ _ => rfl
  have hgo : ∀ c w, (callFunc 63 c).run Tryd.prog w = .ok (.enter 63 c) w := fun c w => callFunc_enter Tryd.func63 (by kernel_rfl) (by kernel_rfl) c w
  have HGO := Lib.hid hgo
  clear hgo
  have HW := Lib.hid (show Below w.heap.size w (((w.alloc (.cells #[.string (strB line)] 9)).alloc (.cells (rowC (0, 0)) 24)).alloc (.cells (rowC (0, 0)) 24)) from (((Below.refl _ _).alloc (Nat.le_refl _) _).alloc (by simp) _).alloc (by simp; omega) _)
  have HL := Lib.hid (((Blk.new w #[.string (strB line)] 9 w.heap.size rfl).old (.cells (rowC (0, 0)) 24)).old (.cells (rowC (0, 0)) 24))
  have HR := Lib.hid ((Blk.new (w.alloc (.cells #[.string (strB line)] 9)) (rowC (0, 0)) 24 (w.heap.size + 1) (by simp)).old (.cells (rowC (0, 0)) 24))
  have HS := Lib.hid (Blk.new ((w.alloc (.cells #[.string (strB line)] 9)).alloc (.cells (rowC (0, 0)) 24)) (rowC (0, 0)) 24 (w.heap.size + 2) (by simp))
  have HM := Lib.hid hm
  have HLN := Lib.hid hl
  clear hm hl
  go_enter Tryd.func17, Tryd.ntmps17
  go_upto_region 2 with fail
  change Code.wp _ _ _ _ (((w.alloc (.cells #[.string (strB line)] 9)).alloc (.cells (rowC (0, 0)) 24)).alloc (.cells (rowC (0, 0)) 24))
  generalize ((w.alloc (.cells #[.string (strB line)] 9)).alloc (.cells (rowC (0, 0)) 24)).alloc (.cells (rowC (0, 0)) 24) = w1 at HW HL HR HS ⊢
  have HT := Lib.hid (try_of 63 #[.pointer (some ⟨w.heap.size, 0, none⟩), .pointer (some ⟨w.heap.size + 2, 0, none⟩)] (HGO.out _) (RowR line (w.heap.size + 2) (w1.alloc (.cells #[.int .i64 0] 25))) w1
    (row1_any line HLN.out (w.heap.size + 2) w.heap.size (0, 0) (w1.alloc (.cells #[.int .i64 0] 25)) (HM.out.below (n := w.heap.size) (HW.out.alloc HW.out.size _)) (HS.out.old _) ((HL.out.old _).cell 0 rfl))
    (fun b W h => h.1.blk (by simp) (by have := HS.out.lt; omega) (Blk.new w1 _ _ _ rfl)))
  go_wp2_with fail
  refine HT.out.mono ?_
  clear HT
  rintro e w2 ⟨b, W, ⟨hc, hb⟩, rfl, hbl⟩
  have HR2 := Lib.hid ((hc.blk (by simp; have := HR.out.lt; omega) (by omega) (HR.out.old _)).below hbl HR.out.lt)
  have HW2 := Lib.hid ((HW.out.trans (((Below.refl w1.heap.size w1).alloc (Nat.le_refl _) _).mono HW.out.size)).trans ((hc.below' (m := w.heap.size) (by omega) (by simp; have := HW.out.size; omega)).trans (hbl.mono HW.out.size)))
  rcases hb with ⟨rfl, ho⟩ | ⟨s, rfl, ho, hb⟩
  · have HN := Lib.hid ho
    clear hc ho hbl HR HL HS HW
    simp only [Bool.false_eq_true, if_false]
    go_wp2_with (refine store_blk (by rfl) 24 _ _ (by rfl) (w.heap.size + 1) (by rfl) _ (rowC (0, 0)) 24 HR2.out (by rfl) rfl (by kernel_rfl) (by simp [rowC, Value.oneCell']) ?_)
    refine bodyPost_ret (results_blk_tmp rfl rfl (HR2.out.setCells (rowC (0, 0)) rfl) Tryd.underlying24 rfl (by kernel_rfl)) rfl ?_
    exact ⟨by rw [HN.out]; rfl, Blk.Below.setCells _ _ _ HW2.out (by omega)⟩
  · have HN := Lib.hid ho
    have HS2 := Lib.hid (hb.below hbl HS.out.lt)
    clear hc ho hb hbl HR HL HS HW
    simp only [if_true]
    go_wp2_with (first
      | (refine load_blk (by rfl) 24 _ (by rfl) (w.heap.size + 2) (by rfl) _ _ HS2.out _ Tryd.underlying24 rfl (by kernel_rfl) ?_)
      | (refine store_blk (by rfl) 24 _ _ (by rfl) (w.heap.size + 1) (by rfl) _ (rowC s) 24 HR2.out (by rfl) rfl (by kernel_rfl) (by simp [rowC, Value.oneCell']) ?_))
    refine bodyPost_ret (results_blk_tmp rfl rfl (HR2.out.setCells (rowC s) rfl) Tryd.underlying24 rfl (by kernel_rfl)) rfl ?_
    exact ⟨by rw [HN.out]; rfl, Blk.Below.setCells _ _ _ HW2.out (by omega)⟩
end Go.Proofs.YtmkcooamgojbpaaDoor.Sheet

/- damperlaw40.alive. -/
namespace Go.Proofs.YtmkcooamgojbpaaDoor.Sheet
open Go.RowKit Go.Proofs.YtmkcooamgojbpaaDoor.Kit Go.Proofs.YtmkcooamgojbpaaDoor.Blk Go.Proofs.YtmkcooamgojbpaaDoor.Words Go.Proofs.YtmkcooamgojbpaaDoor.Octets Go.Proofs.YtmkcooamgojbpaaDoor.Lines Go.Proofs.YtmkcooamgojbpaaDoor.Dec Go.Proofs.YtmkcooamgojbpaaDoor.Symbol
attribute [local go_sem ↓] Go.wp_at_zero Go.wp_at_succ
set_option linter.unusedVariables false

def lRow5 : Txt := [114, 111, 119, 32, 53, 32, 111, 112, 101, 110, 105, 110, 103]
theorem row5 : rowF lRow5 = some (5, 1) := by decide +kernel
theorem pause_v : fieldV plainS ⟨#[112, 97, 117, 115, 101]⟩ = 10 ∧ decide (0 ≤ nameI ⟨#[112, 97, 117, 115, 101]⟩) = true := by decide +kernel
def AliveIs (w : World) (e : Ending) (w' : World) : Prop := e = .returned (.bool true) ∧ Below w.heap.size w w'
set_option maxRecDepth 20000 in
set_option maxHeartbeats 4000000 in
theorem alive_any (w : World) (hm : MX w) : Calls Tryd.prog 16 #[] w (AliveIs w) := by
  have H1 := Lib.hid (row_any lRow5 (by decide) w hm)
  rw [row5] at H1
  have HF := Lib.hid (fun W => field_any plainS ⟨#[112, 97, 117, 115, 101]⟩ W)
  unfold FieldIs at HF
  rw [pause_v.1, pause_v.2] at HF
  clear hm
  go_enter Tryd.func16, Tryd.ntmps16
  go_wp2_with fail
  refine H1.out.mono ?_
  rintro e w1 ⟨rfl, hb1⟩
  have HB1 := Lib.hid (hb1.alloc hb1.size (.cells (rowC (5, 1)) 24))
  have HX1 := Lib.hid (Blk.new w1 (rowC (5, 1)) 24 w1.heap.size rfl)
  clear hb1 H1
  simp only [Option.getD_some, Option.isSome_some, if_true]
  unfold rowC
  go_upto_region 2 with fail
  change Code.wp _ _ _ _ (w1.alloc (.cells (rowC (5, 1)) 24))
  generalize w1.alloc (.cells (rowC (5, 1)) 24) = w2 at HB1 HX1 ⊢
  go_wp2_with fail
  refine (plain_any w2).mono ?_
  rintro e w3 ⟨g, cap, ta, rfl, hr, hb3⟩
  have HB3 := Lib.hid (HB1.out.trans (hb3.mono HB1.out.size))
  have HX3 := Lib.hid (HX1.out.below hb3 HX1.out.lt)
  have HR3 := Lib.hid hr
  clear hr hb3 HB1 HX1
  unfold plainC
  have hfd : ∀ w, (Instr.field 53 (.agg #[.slice (some ⟨g, 0, none⟩) 1 cap, ta, .int .i64 10000, .int .i64 700, .int .i64 1300, .int .i64 2000, .int .i64 15, .int .i64 30]) 0).run Tryd.prog w = .ok (.slice (some ⟨g, 0, none⟩) 1 cap) w := fun _ => by kernel_rfl
  go_wp2_with (refine wpList_load_mid rfl 29 _ rfl _ _ rfl _ _ HR3.out Tryd.underlying29 rfl (by kernel_rfl) ?_)
  refine (HF.out w3).mono ?_
  rintro e w4 ⟨rfl, hb4⟩
  have HB4 := Lib.hid (HB3.out.trans (hb4.mono HB3.out.size))
  have HX4 := Lib.hid (HX3.out.below hb4 HX3.out.lt)
  have c0 : w4.cell? ⟨w1.heap.size, 0, none⟩ = some (.int .i64 5) := HX4.out.cell 0 rfl
  have c1 : w4.cell? ⟨w1.heap.size, 1, none⟩ = some (.int .i64 1) := HX4.out.cell 1 rfl
  clear hb4 HR3 hfd
  go_wp2_with (refine load_blk (by rfl) 24 _ (by rfl) w1.heap.size (by rfl) _ _ HX4.out _ Tryd.underlying24 rfl (by kernel_rfl) ?_)
  go_ret
  exact ⟨rfl, HB4.out⟩
end Go.Proofs.YtmkcooamgojbpaaDoor.Sheet
