/- Parts of the proof: LvlT, LvlW, LvlB, DepthNilsW. -/
import Derived.Test.YtogjgpiddjmpiaaPart26
import Derived.Test.YtogjgpiddjmpiaaPart22
import Derived.Test.YtogjgpiddjmpiaaPart7
import Derived.Test.YtogjgpiddjmpiaaPart17

/- depth.sorted: the levels of a map, the best price first. -/
namespace Go.Proofs.Ytogjgpiddjmpiaa.Depth
set_option linter.unusedVariables false
open Go.RowKit Go.Shelf Go.Proofs.Ytogjgpiddjmpiaa.Kit Go.Proofs.Ytogjgpiddjmpiaa.Blk Go.Proofs.Ytogjgpiddjmpiaa.Mp Go.Proofs.Ytogjgpiddjmpiaa.Lay Go.Lib Go.Sort

/-- A row of levels in memory, from N on. -/
def LvRow (W : World) (N : Nat) (v : Value) (S : List Lvl) : Prop :=
  ∃ a c, v = .slice a S.length c ∧ S.length ≤ c ∧ c ≤ maxLen ∧ ∀ i, (h : i < S.length) → ∃ g, a = some ⟨g, 0, none⟩ ∧ N ≤ g ∧ g < W.heap.size ∧ ∀ (j : Nat) (u : Value), S[i].cells[j]? = some u → W.cell? ⟨g, i * 3 + j, none⟩ = some u
theorem LvRow.below {W W' : World} {N : Nat} {v : Value} {S : List Lvl} (h : LvRow W N v S) (hb : Below W.heap.size W W') : LvRow W' N v S := by
  obtain ⟨a, c, h1, h2, h3, h4⟩ := h
  refine ⟨a, c, h1, h2, h3, fun i hi => ?_⟩
  obtain ⟨g, e, hn, hg, hc⟩ := h4 i hi
  exact ⟨g, e, hn, Nat.lt_of_lt_of_le hg hb.size, fun j u hu => by rw [hb.cell (p := ⟨g, _, none⟩) hg]; exact hc j u hu⟩
theorem bang_of {l : List Value} {j : Nat} {u : Value} (h : l[j]? = some u) : l[j]! = u := by
  rw [List.getElem!_eq_getElem?_getD, h]; rfl
theorem rowsL_at (l : List Lvl) : ∀ (i : Nat) (h : i < l.length) (j : Nat) (v : Value), l[i].cells[j]? = some v → (rowsL l)[i * 3 + j]? = some v := by
  induction l with
  | nil => intro i h; simp at h
  | cons m l ih =>
    intro i h j v hv
    have hc : rowsL (m :: l) = m.cells.toList ++ rowsL l := by simp [rowsL]
    have hs : m.cells.toList.length = 3 := rfl
    rw [hc]
    cases i with
    | zero =>
      rw [List.getElem_cons_zero] at hv
      have hj : j < 3 := (Array.getElem?_eq_some_iff.1 hv).1
      rw [List.getElem?_append_left (by omega), show 0 * 3 + j = j by omega]
      simpa using hv
    | succ i =>
      rw [List.getElem_cons_succ] at hv
      rw [List.getElem?_append_right (by omega), hs]
      have := ih i (by simpa using h) j v hv
      rw [show (i + 1) * 3 + j - 3 = i * 3 + j by omega]
      exact this
theorem holds_of_own {w : World} {N g cap : Nat} {ys : List Lvl} (h : w.ownsRow N 90 3 (.slice (some ⟨g, 0, none⟩) ys.length cap) ys.length (rowsL ys)) : HoldsK encL 3 w g 0 ys.toArray := by
  intro t ht
  rw [size_flatK] at ht
  have hlt : t < ys.length * 3 := by simpa using ht
  have hi : t / 3 < ys.length := by omega
  have hc := h.cellAt (g := g) (cap := cap) t hlt
  rcases h.2 with ⟨e, _⟩ | ⟨g', cap', cur, e, hg, hgb, hn, hcm, hsz, htk⟩
  · cases e
  · have e' : g = g' := by injection e with e; injection e with e; injection e
    subst e'
    refine ⟨?_, ?_⟩
    · rw [Nat.zero_add, hc]
      have h3 := rowsL_at ys (t / 3) hi (t % 3) ((ys[t / 3].cells)[t % 3]'(by show t % 3 < 3; omega)) (Array.getElem?_eq_getElem _)
      rw [show t / 3 * 3 + t % 3 = t by omega] at h3
      rw [h3, get_flatK _ _ _ _ ht]
      congr 1
      rw [getElem!_pos ys.toArray (t / 3) (by simpa using hi)]
      exact (bang_of (l := encL ys[t / 3]) (by simp)).symm
    · simp only [World.frozen?, hgb]; simp
theorem cells_of_holds {w : World} {g : Nat} {d : Array Lvl} (h : HoldsK encL 3 w g 0 d) (i : Nat) (hi : i < d.size) (j : Nat) (u : Value) (hu : d[i].cells[j]? = some u) : w.cell? ⟨g, i * 3 + j, none⟩ = some u := by
  have hj : j < 3 := (Array.getElem?_eq_some_iff.1 hu).1
  have := (h.cell (i := i) (c := j) hi hj).1
  rw [Nat.zero_add] at this
  rw [this, getElem!_pos d i hi]
  rw [bang_of (l := encL d[i]) (by simpa using hu)]

theorem mget_of_mem {κ ν : Type} [DecidableEq κ] {l : List (κ × ν)} : (l.map (·.1)).Nodup → ∀ p y, (p, y) ∈ l → mget p l = some y := by
  induction l with
  | nil => intro _ p y h; simp at h
  | cons q l ih =>
    intro hn p y hm
    obtain ⟨a, u⟩ := q
    rw [List.map_cons, List.nodup_cons] at hn
    rcases List.mem_cons.1 hm with e | hm
    · injection e with e1 e2
      subst e1 e2; simp [mget]
    · have hpm : p ∈ l.map (·.1) := List.mem_map_of_mem (f := (·.1)) hm
      have : ¬ p = a := fun e => hn.1 (e ▸ hpm)
      simp only [mget, this, if_false]
      exact ih hn.2 p y hm
theorem lvA_prices {V : List PQ} {A : List (Int × Lvl)} (h : LvA V A) : (A.map (·.2)).map (·.price) = A.map (·.1) := by
  rw [List.map_map]
  apply List.map_congr_left
  rintro ⟨p, y⟩ hm
  have h1 : p ∈ V.map (·.1) := (h.keys p).1 (List.mem_map_of_mem (f := (·.1)) hm)
  have h2 := mget_of_mem h.nodup p y hm
  rw [h.get p h1] at h2
  injection h2 with h2
  show y.price = p
  rw [← h2]
theorem sorted_of {side : Int} (hs : side = 0 ∨ side = 1) {V : List PQ} {A : List (Int × Lvl)} (hA : LvA V A) {ys : List Lvl} (hy : ys.Perm (A.map (·.2))) {d' : Array Lvl} (hp : PermIn 0 ys.length ys.toArray d') (ho : SortedIn (ltOf (cfL side)) 0 ys.length d') : LvS side V d'.toList ∧ d'.size = ys.length := by
  obtain ⟨h1, _, h3⟩ := hp
  have hsz : d'.size = ys.length := by simpa using h1
  have hperm : d'.toList.Perm ys := by
    have e1 : (d'.extract 0 ys.length).toList = d'.toList := by rw [← hsz]; simp
    have e2 : (ys.toArray.extract 0 ys.length).toList = ys := by simp
    rwa [e1, e2] at h3
  refine ⟨lvS_of hA (hperm.trans hy) ?_, hsz⟩
  have hnd : (d'.toList.map (·.price)).Nodup := by
    rw [((hperm.trans hy).map (·.price)).nodup_iff, lvA_prices hA]; exact hA.nodup
  rw [List.pairwise_iff_getElem]
  intro i j hi hj hij
  have hi' : i < d'.size := by simpa using hi
  have hj' : j < d'.size := by simpa using hj
  have h4 := ho i j (Nat.zero_le _) hij (by omega)
  rw [lt_cfL, getElem!_pos d' i hi', getElem!_pos d' j hj'] at h4
  have hne : d'[i].price ≠ d'[j].price := by
    have := List.pairwise_iff_getElem.1 hnd i j (by simpa using hi) (by simpa using hj) hij
    simpa using this
  show better side d'.toList[i].price d'.toList[j].price = true
  simp only [Array.getElem_toList]
  unfold better at *
  rcases hs with rfl | rfl
  · simp only [if_true, decide_eq_false_iff_not, decide_eq_true_eq] at *; omega
  · simp at *; omega

set_option maxHeartbeats 1000000 in
theorem ins_none (p : Option Addr) (cap : Nat) (fv : Value) (w : World) : Calls Try.prog 205 #[.slice p 0 cap, .int .i64 0, .int .i64 0, fv] w fun e w' => e = .returned (.tuple #[]) ∧ w = w' := by
  go_enter Try.func205, Try.ntmps205
  go_wp2_with fail
  go_loop [8] (fun i => i = .int .i64 1) (fun _ => 0)
  case atStart => rfl
  case round =>
    subst hrel
    go_wp2_with fail
    go_end0
    exact ⟨rfl, rfl⟩
set_option maxHeartbeats 1000000 in
theorem pdq_none (p : Option Addr) (cap : Nat) (lim : Int) (fv : Value) (w : World) : Calls Try.prog 195 #[.slice p 0 cap, .int .i64 0, .int .i64 0, .int .i64 lim, fv] w fun e w' => e = .returned (.tuple #[]) ∧ w = w' := by
  go_enter Try.func195, Try.ntmps195
  go_wp2_with fail
  go_loop [1, 2] (fun a b => a = .int .i64 0 ∧ b = .int .i64 0) (fun _ _ => 0)
  case atStart => exact ⟨rfl, rfl⟩
  case round =>
    obtain ⟨rfl, rfl⟩ := hrel
    go_wp2_with fail
    refine (ins_none p cap fv w).mono ?_
    rintro e w' ⟨rfl, rfl⟩
    go_wp2_with fail
    refine bodyPost_ret (results_none rfl _ _ _) rfl ?_
    exact ⟨rfl, rfl⟩
set_option maxHeartbeats 1000000 in
theorem sort_none (p : Option Addr) (cap : Nat) (fv : Value) (w : World) : Calls Try.prog 159 #[.slice p 0 cap, fv] w fun e w' => e = .returned (.tuple #[]) ∧ w = w' := by
  have hl := Any.bits_Len (SlLaysF0.n15.bits (P := Try.prog) (ρ := sortL_ren) { sortL with }) 0 w (by omega) (by omega)
  change Calls _ 131 _ _ _ at hl
  have HL := Lib.hid hl
  clear hl
  go_enter Try.func159, Try.ntmps159
  go_wp2_with fail
  refine HL.out.mono ?_
  rintro e w' ⟨rfl, rfl⟩
  go_wp2_with fail
  refine (pdq_none p cap _ fv _).mono ?_
  rintro e w' ⟨rfl, rfl⟩
  go_wp2_with fail
  go_end0
  exact ⟨rfl, rfl⟩

theorem values_any (mb : Option Nat) (W : World) : Calls Try.prog 121 #[.map mb] W fun e w' => e = .returned (.func (.func 160) #[] #[.pointer (some ⟨W.heap.size, 0, none⟩)]) ∧ W.alloc (.cells #[.map mb] 174) = w' := by
  go_enter Try.func121, Try.ntmps121
  go_wp2_with fail
  go_ret
  exact ⟨rfl, rfl⟩
theorem collect_any (A : List (Int × Lvl)) (hl : A.length ≤ 1000) (Bm b : Nat) (w : World) (hBm : Blk w Bm #[.map (some b)] 174) (hM : MapIs w b k64 lv A) :
    Calls Try.prog 158 #[.func (.func 160) #[] #[.pointer (some ⟨Bm, 0, none⟩)]] w (CollIs (fun ys => ys.Perm (A.map (·.2))) w) := by
  have HA := Lib.hid (append_any A hl Bm b w hBm hM)
  clear hBm hM
  go_enter Try.func158, Try.ntmps158
  go_wp2_with fail
  refine HA.out.mono ?_
  rintro e w' ⟨ys, v, hp, rfl, hrow, hb⟩
  have HP := Lib.hid hp
  have HR := Lib.hid hrow
  have HB := Lib.hid hb
  clear hp hrow hb HA
  go_wp2_with fail
  go_ret
  exact ⟨ys, v, HP.out, rfl, HR.out, HB.out⟩
/-- The levels, sorted. -/
def SortIs (side : Int) (V : List PQ) (w : World) (e : Ending) (w' : World) : Prop := ∃ S v, LvS side V S ∧ e = .returned v ∧ LvRow w' w.heap.size v S ∧ Below w.heap.size w w'

set_option maxHeartbeats 2000000 in
theorem sortedf_any (side : Int) (V : List PQ) (hs : side = 0 ∨ side = 1 ∨ V = []) (sb : Nat) (A : List (Int × Lvl)) (hA : LvA V A) (hl : A.length ≤ 1000) (Bm b : Nat) (w : World) (hsc : Blk w sb #[.int .i64 side] 3) (hBm : Blk w Bm #[.map (some b)] 174) (hM : MapIs w b k64 lv A) :
    Calls Try.prog 120 #[.func (.func 160) #[] #[.pointer (some ⟨Bm, 0, none⟩)], .func (.func 122) #[] #[.pointer (some ⟨sb, 0, none⟩)]] w (SortIs side V w) := by
  have HC := Lib.hid (collect_any A hl Bm b w hBm hM)
  have HSC := Lib.hid hsc
  have HA := Lib.hid hA
  have HSD := Lib.hid hs
  clear hBm hM hsc hA hs
  go_enter Try.func120, Try.ntmps120
  go_wp2_with fail
  refine HC.out.mono ?_
  rintro e w1 ⟨ys, v, hp, rfl, hrow, hb⟩
  have HP := Lib.hid hp
  have HB := Lib.hid hb
  have HS1 := Lib.hid (HSC.out.below hb HSC.out.lt)
  have hlt := HSC.out.lt
  clear hp hb HC
  by_cases h0 : ys = []
  · subst h0
    obtain ⟨a, c, rfl⟩ : ∃ a c, v = .slice a 0 c := by
      rcases hrow.2 with ⟨rfl, _⟩ | ⟨g, cap, cur, rfl, _⟩
      · exact ⟨none, 0, rfl⟩
      · exact ⟨_, cap, rfl⟩
    have HLC := Lib.hid (show c ≤ maxLen by
      rcases hrow.2 with ⟨e, _⟩ | ⟨g, cap, cur, e, hg, hgb, hn, hcm, _⟩
      · injection e with _ _ e; omega
      · injection e with _ _ e; omega)
    have HL := Lib.hid (show LvS side V [] from lvS_of HA.out HP.out List.Pairwise.nil)
    clear hrow
    go_wp2_with fail
    refine (sort_none a c _ _).mono ?_
    rintro e w2 ⟨rfl, rfl⟩
    go_wp2_with fail
    go_ret
    exact ⟨[], _, HL.out, rfl, ⟨a, c, rfl, Nat.zero_le _, HLC.out, fun i hi => absurd hi (by simp)⟩, HB.out⟩
  · have hn : 0 < ys.length := by cases ys; exact absurd rfl h0; simp
    obtain ⟨g, cap, rfl, -, hgl⟩ := World.ownsRow.form hrow hn
    have HH := Lib.hid (holds_of_own hrow)
    have hgN := (Octets.row_from' hrow (j := g) rfl).1
    have HCAP := Lib.hid (show ys.length ≤ cap ∧ cap ≤ maxLen by
      rcases hrow.2 with ⟨e, _⟩ | ⟨g', cap', cur, e, hg, hgb, hn, hcm, _⟩
      · cases e
      · injection e with _ _ e; subst e; exact ⟨hn, hcm⟩)
    have hylen : ys.length ≤ 1000 := by have := HP.out.length_eq; rw [List.length_map] at this; omega
    have hsd : side = 0 ∨ side = 1 := by
      rcases HSD.out with h | h | h
      · exact .inl h
      · exact .inr h
      · exfalso
        subst h
        have hA0 : A = [] := by
          cases A with
          | nil => rfl
          | cons q A => exact absurd ((HA.out.keys q.1).1 (by simp)) (by simp)
        subst hA0
        have := HP.out.length_eq
        simp at this; exact h0 this
    have HSO := Lib.hid (sortFunc_any side sb g cap ys.toArray w1 (HS1.out.cell 0 rfl) (Nat.lt_of_lt_of_le hlt HB.out.size) (by omega) HH.out hgl (by simp; omega))
    have HSD2 := Lib.hid hsd
    clear hrow h0 hsd
    go_wp2_with fail
    refine HSO.out.mono ?_
    rintro e w2 ⟨rfl, d', hpm, hso, hh, hc⟩
    obtain ⟨h1, h2⟩ := sorted_of HSD2.out HA.out HP.out (by simpa using hpm) (by simpa using hso)
    have HL := Lib.hid h1
    have HN := Lib.hid h2
    have HHD := Lib.hid hh
    have HB2 := Lib.hid (HB.out.trans (hc.below' (by omega) (by have := HB.out.size; omega)))
    have HG2 := Lib.hid (show g < w2.heap.size from Nat.lt_of_lt_of_le hgl hc.size)
    clear h1 h2 hpm hso hh hc HSO
    go_wp2_with fail
    go_ret
    have hlen : d'.toList.length = ys.length := by have := HN.out; simpa using this
    exact ⟨d'.toList, .slice (some ⟨g, 0, none⟩) ys.length cap, HL.out, rfl, ⟨some ⟨g, 0, none⟩, cap, by rw [hlen], by rw [hlen]; exact HCAP.out.1, HCAP.out.2, fun i hi => ⟨g, rfl, hgN, HG2.out, fun j u hu => cells_of_holds HHD.out i (by simpa using hi) j u (by simpa using hu)⟩⟩, HB2.out⟩
theorem sorted_any (side : Int) (V : List PQ) (hs : side = 0 ∨ side = 1 ∨ V = []) (A : List (Int × Lvl)) (hA : LvA V A) (hl : A.length ≤ 1000) (b : Nat) (w : World) (hM : MapIs w b k64 lv A) :
    Calls Try.prog 87 #[.int .i64 side, .map (some b)] w (SortIs side V w) := by
  have hb1 : Below w.heap.size w ((w.alloc (.cells #[.int .i64 side] 3)).alloc (.cells #[.map (some b)] 174)) := ((Below.refl _ _).alloc (Nat.le_refl _) _).alloc (by simp) _
  have HB := Lib.hid hb1
  have HF := Lib.hid (sortedf_any side V hs w.heap.size A hA hl (w.heap.size + 1) b ((w.alloc (.cells #[.int .i64 side] 3)).alloc (.cells #[.map (some b)] 174)) ((Blk.new _ _ _ _ rfl).old _) (Blk.new _ _ _ _ (by simp)) (hM.below hb1 hM.lt))
  clear hM hA hs hb1
  go_enter Try.func87, Try.ntmps87
  go_wp2_with fail
  refine (values_any _ _).mono ?_
  rintro e w1 ⟨rfl, rfl⟩
  go_wp2_with fail
  refine HF.out.mono ?_
  rintro e w2 ⟨S, v, h1, rfl, h2, h3⟩
  have H1 := Lib.hid h1
  have H2 := Lib.hid h2
  have H3 := Lib.hid (HB.out.trans (h3.mono HB.out.size))
  clear h1 h2 h3 HF
  go_wp2_with fail
  go_ret
  obtain ⟨a, c, e1, e2, e3, e4⟩ := H2.out
  exact ⟨S, v, H1.out, rfl, ⟨a, c, e1, e2, e3, fun i hi => by obtain ⟨g, f1, f2, f3⟩ := e4 i hi; exact ⟨g, f1, by simp at f2; omega, f3⟩⟩, H3.out⟩
end Go.Proofs.Ytogjgpiddjmpiaa.Depth

/- (*depth.Depth).Levels. -/
namespace Go.Proofs.Ytogjgpiddjmpiaa.Mp
open Go.RowKit Go.ChangeMaps Go.Proofs.Ytogjgpiddjmpiaa.Kit Go.Proofs.Ytogjgpiddjmpiaa.Blk
/-- How many have yet to come. -/
def leftN (r b : Nat) (w : World) : Nat :=
  match w.heap[b]?, w.heap[r]? with
  | some (.map es _), some (.mapIter _ _ seen _) => (leftOf es seen).size
  | _, _ => 0
theorem leftN_of {κ ν : Type} {w : World} {r b : Nat} {ke : κ → Value} {ve : ν → Value} {l left : List (κ × ν)} (h : IterIs w r b ke ve l left) : leftN r b w = left.length := by
  obtain ⟨es, clock, seen, h1, h2, h3, h4, h5, h6⟩ := h
  unfold leftN
  rw [h1, h5]
  dsimp only
  have := congrArg List.length h6
  simpa using this
end Go.Proofs.Ytogjgpiddjmpiaa.Mp
namespace Go.Proofs.Ytogjgpiddjmpiaa.Depth
open Go.RowKit Go.Shelf Go.Proofs.Ytogjgpiddjmpiaa.Kit Go.Proofs.Ytogjgpiddjmpiaa.Blk Go.Proofs.Ytogjgpiddjmpiaa.Mp
set_option linter.unusedVariables false

/-- What rests at a symbol's side. -/
def restV (L : List (Key × Rest)) (sym side : Int) : List PQ := (L.filter fun p => decide (p.1.1 = sym) && decide (p.2.side = side)).map fun p => (p.2.price, p.2.qty)
theorem restV_yes {L : List (Key × Rest)} {p : Key × Rest} {sym side : Int} (h1 : p.1.1 = sym) (h2 : p.2.side = side) : restV (L ++ [p]) sym side = restV L sym side ++ [(p.2.price, p.2.qty)] := by
  simp [restV, List.filter_append, h1, h2]
theorem restV_no {L : List (Key × Rest)} {p : Key × Rest} {sym side : Int} (h : ¬ (p.1.1 = sym ∧ p.2.side = side)) : restV (L ++ [p]) sym side = restV L sym side := by
  have : (decide (p.1.1 = sym) && decide (p.2.side = side)) = false := by simpa using h
  simp [restV, List.filter_append, this]
theorem restV_perm {L M : List (Key × Rest)} (h : L.Perm M) (sym side : Int) : (restV L sym side).Perm (restV M sym side) := (h.filter _).map _
theorem restV_len (L : List (Key × Rest)) (sym side : Int) : (restV L sym side).length ≤ L.length := by
  unfold restV; rw [List.length_map]; exact List.length_filter_le _ _
theorem restV_in {L : List (Key × Rest)} (h : OkL L) (sym side : Int) : ∀ x ∈ restV L sym side, 1 ≤ x.2 ∧ x.2 ≤ 1125899906842624 := by
  intro x hx
  obtain ⟨p, hp, rfl⟩ := List.mem_map.1 hx
  have := h p (List.mem_filter.1 hp).1
  exact ⟨this.1, this.2.1⟩
theorem restV_side {L : List (Key × Rest)} (h : OkL L) (sym side : Int) : side = 0 ∨ side = 1 ∨ restV L sym side = [] := by
  by_cases h0 : side = 0
  · exact .inl h0
  · by_cases h1 : side = 1
    · exact .inr (.inl h1)
    · refine .inr (.inr ?_)
      unfold restV
      rw [List.map_eq_nil_iff, List.filter_eq_nil_iff]
      intro p hp
      have := h p hp
      simp only [Bool.and_eq_true, decide_eq_true_eq]
      omega
theorem mput_len {κ ν : Type} [DecidableEq κ] (k : κ) (v : ν) (l : List (κ × ν)) : (mput k v l).length ≤ l.length + 1 := by
  induction l with
  | nil => simp [mput]
  | cons p l ih =>
    obtain ⟨a, u⟩ := p
    by_cases h : k = a
    · simp [mput, h]
    · simp only [mput, h, if_false, List.length_cons]; omega
theorem putL_len (A : List (Int × Lvl)) (x : PQ) : (putL A x).length ≤ A.length + 1 := mput_len _ _ _
/-- So many of them at most. -/
def cutF (most : Int) (S : List Lvl) : List Lvl := if 0 ≤ most ∧ most < S.length then S.take most.toNat else S
theorem LvRow.take {W : World} {N : Nat} {a : Option Addr} {c : Nat} {S : List Lvl} (h : LvRow W N (.slice a S.length c) S) {m : Nat} (hm : m < S.length) : LvRow W N (.slice a m m) (S.take m) := by
  obtain ⟨a', c', h1, h2, h3, h4⟩ := h
  injection h1 with h1 _ h5
  subst h1 h5
  have hl : (S.take m).length = m := by rw [List.length_take]; omega
  refine ⟨a, m, by rw [hl], by omega, by omega, fun i hi => ?_⟩
  obtain ⟨g, f1, f2, f3, f4⟩ := h4 i (by omega)
  refine ⟨g, f1, f2, f3, fun j u hu => f4 j u ?_⟩
  rwa [List.getElem_take] at hu
theorem lvS_perm {s : Int} {V W : List PQ} (hp : V.Perm W) {S : List Lvl} (h : LvS s V S) : LvS s W S :=
  ⟨h.ord, fun x => by rw [h.mem, sum_perm hp, num_perm hp, (hp.map (·.1)).mem_iff]⟩
/-- What Levels answers. -/
def LevIs (L : List (Key × Rest)) (sym side most : Int) (w : World) (e : Ending) (w' : World) : Prop :=
  ∃ S v, LvS side (restV L sym side) S ∧ e = .returned v ∧ LvRow w' w.heap.size v (cutF most S) ∧ Below w.heap.size w w'
/-- Where the loop stands. -/
def LevAt (L : List (Key × Rest)) (sym side : Int) (b bm r N : Nat) (w wr : World) : Prop :=
  ∃ vis left A, (vis ++ left).Perm L ∧ IterIs wr r b ke ve L left ∧ MapIs wr bm k64 lv A ∧ LvA (restV vis sym side) A ∧ A.length ≤ vis.length ∧ Below N w wr

set_option maxRecDepth 20000 in
set_option maxHeartbeats 4000000 in
theorem levels_any (D b : Nat) (L : List (Key × Rest)) (sym side most : Int) (w : World) (h : DS w D b L) (hok : OkL L) (hl : L.length ≤ 1000) :
    Calls Try.prog 41 #[.pointer (some ⟨D, 0, none⟩), .int .i64 sym, .int .i64 side, .int .i64 most] w (LevIs L sym side most w) := by
  have hmm := @run_makeMap Try.prog
  have hD := h.box.lt
  have hb := h.map.lt
  have HD1 := Lib.hid (h.alloc (.map #[] 0))
  have HM1 := Lib.hid (mapIs_new w w.heap.size rfl k64 lv)
  have HB1 := Lib.hid ((Below.refl w.heap.size w).alloc (Nat.le_refl _) (.map #[] 0))
  obtain ⟨o, hrange, hit⟩ := run_range (P := Try.prog) HD1.out.map (T := 160) Try.underlying160
  have hs1 : (w.alloc (.map #[] 0)).heap.size = w.heap.size + 1 := by simp
  rw [hs1] at hit hrange
  have HIT := Lib.hid hit
  have HOK := Lib.hid hok
  have HM2 := Lib.hid (HM1.out.old o)
  have HB2 := Lib.hid (HB1.out.alloc (by omega) o)
  have cD : (w.alloc (.map #[] 0)).cell? ⟨D, 0, none⟩ = some (.map (some b)) := HD1.out.box.cell 0 rfl
  clear h hit hok
  go_enter Try.func41, Try.ntmps41
  go_wp2_with fail
  go_loopw [21] (fun _ wr => LevAt L sym side b w.heap.size (w.heap.size + 1) w.heap.size w wr) (fun _ wr => leftN (w.heap.size + 1) b wr)
  case atStart => exact ⟨[], L, [], List.Perm.refl _, HIT.out, HM2.out, lvA_nil, Nat.le_refl _, HB2.out⟩
  case round =>
    obtain ⟨vis, left, A, hp, hi, hm, ha, hal, hb2⟩ := hrel
    have HP := Lib.hid hp
    have HA := Lib.hid ha
    have HBL := Lib.hid hb2
    clear hp ha hb2 hmm hrange cD HIT HM2 HB2 HD1 HM1 HB1 hs1
    rcases run_next (P := Try.prog) hi 0 with ⟨rfl, hnext⟩ | ⟨l1, p, l2, W2, rfl, hnext, hent, hi2, hc2, hs2⟩
    · have hp2 : vis.Perm L := by have := HP.out; rwa [List.append_nil] at this
      have HS := Lib.hid (sorted_any side (restV vis sym side) (restV_side (fun p hp => HOK.out p (hp2.mem_iff.1 hp)) sym side) A HA.out (by have := hp2.length_eq; omega) w.heap.size wr hm)
      have HP2 := Lib.hid hp2
      clear hm hi hp2
      go_wp2_with fail
      refine HS.out.mono ?_
      rintro e w2 ⟨S, v, h1, rfl, h2, h3⟩
      have H1 := Lib.hid (lvS_perm (restV_perm HP2.out sym side) h1)
      have H3 := Lib.hid (HBL.out.trans (h3.mono HBL.out.size))
      have H2 := Lib.hid (show LvRow w2 w.heap.size v S from by
        obtain ⟨a, c, e1, e2, e3, e4⟩ := h2
        exact ⟨a, c, e1, e2, e3, fun i hi => by obtain ⟨g, f1, f2, f3⟩ := e4 i hi; exact ⟨g, f1, Nat.le_trans HBL.out.size f2, f3⟩⟩)
      obtain ⟨a, c, rfl, hc1, hc2, -⟩ := h2
      unfold maxLen at hc2
      clear h1 h3 HS hnext
      by_cases hm0 : 0 ≤ most
      · by_cases hm1 : most < S.length
        · have HE := Lib.hid (show cutF most S = S.take most.toNat by simp [cutF, hm0, hm1])
          obtain ⟨m, rfl⟩ := Int.eq_ofNat_of_zero_le hm0
          have HR := Lib.hid (H2.out.take (m := m) (by omega))
          go_wp2_with fail
          go_ret
          exact ⟨S, _, H1.out, rfl, by rw [HE.out]; exact HR.out, H3.out⟩
        · have HE := Lib.hid (show cutF most S = S by simp [cutF, hm1])
          go_wp2_with fail
          go_ret
          exact ⟨S, _, H1.out, rfl, by rw [HE.out]; exact H2.out, H3.out⟩
      · have HE := Lib.hid (show cutF most S = S by simp [cutF, hm0])
        go_wp2_with fail
        go_ret
        exact ⟨S, _, H1.out, rfl, by rw [HE.out]; exact H2.out, H3.out⟩
    · have hkey : ke p.1 = .agg #[.int .i64 p.1.1, .int .i64 p.1.2] := rfl
      have hval : ve p.2 = .agg #[.int .i64 p.2.side, .int .i64 p.2.price, .int .i64 p.2.qty] := rfl
      rw [hkey, hval] at hnext hent
      have hlt := hi.lt
      have hmlt := hm.lt
      have HI0 := Lib.hid hi
      have HM2 := Lib.hid (hm.chg hc2 hmlt (by omega))
      have HI2 := Lib.hid hi2
      have HBL2 := Lib.hid (HBL.out.trans (hc2.below' (m := w.heap.size) (by omega) HBL.out.size))
      have HPP := Lib.hid (show ((vis ++ [p]) ++ (l1 ++ l2)).Perm L from by
        refine List.Perm.trans ?_ HP.out
        rw [List.append_assoc]
        exact List.Perm.append_left _ (List.perm_middle (a := p) (l₁ := l1) (l₂ := l2)).symm)
      have hvl : vis.length + 1 ≤ L.length := by have := HPP.out.length_eq; simp at this; omega
      obtain ⟨⟨k1, k2⟩, ps, pp, pq⟩ := p
      dsimp only at hnext hent
      have hsz : w.heap.size + 1 < W2.heap.size := by omega
      have HA2 := Lib.hid (Below.trans (((Below.refl W2.heap.size W2).alloc (Nat.le_refl _) (.cells #[.int .i64 k1, .int .i64 k2] 164))) (((Below.refl W2.heap.size _).alloc (by simp) (.cells #[.int .i64 ps, .int .i64 pp, .int .i64 pq] 166))))
      clear hm hi hkey hval hi2 hc2 hmlt
      by_cases hin : k1 = sym ∧ ps = side
      · obtain ⟨rfl, rfl⟩ := hin
        have HV := Lib.hid (restV_yes (L := vis) (p := ((k1, k2), ⟨ps, pp, pq⟩)) (sym := k1) (side := ps) rfl rfl)
        have hq := HOK.out _ (HPP.out.mem_iff.1 (List.mem_append_left _ (List.mem_append_right _ (List.mem_singleton.2 rfl))))
        have hin := sum_in (restV vis k1 ps) 1125899906842624 (by omega) (fun x hx => by have := restV_in (fun q hq => HOK.out q (HPP.out.mem_iff.1 (by simp [hq]))) k1 ps x hx; omega) pp
        have hvl2 := restV_len vis k1 ps
        dsimp only at hq
        have HPT := Lib.hid (lput_any w.heap.size (restV vis k1 ps) A (pp, pq) _ (HM2.out.below HA2.out HM2.out.lt) HA.out (by dsimp only; omega) (by
          dsimp only
          have : ((restV vis k1 ps).length : Int) * 1125899906842624 ≤ 1000 * 1125899906842624 := Int.mul_le_mul_of_nonneg_right (by omega) (by omega)
          omega) (by omega))
        clear hin hq
        go_wp2_with fail
        refine HPT.out.mono ?_
        rintro e w3 ⟨rfl, hm3, hc3⟩
        have HI3 := Lib.hid ((HI2.out.below HA2.out).chg hc3 (Nat.lt_of_lt_of_le HI2.out.map.lt HA2.out.size) (Nat.lt_of_lt_of_le HI2.out.lt HA2.out.size) (by omega) (by omega))
        have HM3 := Lib.hid hm3
        have HB3 := Lib.hid ((HBL2.out.trans (HA2.out.mono (by omega))).trans (hc3.below' (m := w.heap.size) (Nat.le_refl _) (by have := HA2.out.size; omega)))
        clear hm3 hc3 HPT
        go_wp2_with fail
        go_roundw
        case rel => exact ⟨vis ++ [((k1, k2), ⟨ps, pp, pq⟩)], l1 ++ l2, _, HPP.out, HI3.out, HM3.out, by rw [HV.out]; exact (lvA_put HA.out (pp, pq)).1, by have := putL_len A (pp, pq); simp; omega, HB3.out⟩
        case measure =>
          rw [leftN_of HI3.out, leftN_of HI0.out]; simp
      · have HV := Lib.hid (restV_no (L := vis) (p := ((k1, k2), ⟨ps, pp, pq⟩)) (sym := sym) (side := side) hin)
        have HI3 := Lib.hid (HI2.out.below HA2.out)
        have HM3 := Lib.hid (HM2.out.below HA2.out HM2.out.lt)
        have HB3 := Lib.hid (HBL2.out.trans (HA2.out.mono (by omega)))
        by_cases h1 : k1 = sym
        · have h2 : ¬ ps = side := fun e => hin ⟨h1, e⟩
          have g1 : (k1 == sym) = true := by simpa using h1
          have g2 : (ps == side) = false := by simpa using h2
          clear hin h1 h2
          go_wp2_with fail
          go_roundw
          case rel => exact ⟨vis ++ [((k1, k2), ⟨ps, pp, pq⟩)], l1 ++ l2, A, HPP.out, HI3.out, HM3.out, by rw [HV.out]; exact HA.out, by simp; omega, HB3.out⟩
          case measure =>
            rw [leftN_of HI3.out, leftN_of HI0.out]; simp
        · have g1 : (k1 == sym) = false := by simpa using h1
          clear hin h1
          go_wp2_with fail
          go_roundw
          case rel => exact ⟨vis ++ [((k1, k2), ⟨ps, pp, pq⟩)], l1 ++ l2, A, HPP.out, HI3.out, HM3.out, by rw [HV.out]; exact HA.out, by simp; omega, HB3.out⟩
          case measure =>
            rw [leftN_of HI3.out, leftN_of HI0.out]; simp
end Go.Proofs.Ytogjgpiddjmpiaa.Depth

/- (*depth.Depth).Best, .Spread; of a nil depth. -/
namespace Go.Proofs.Ytogjgpiddjmpiaa.Depth
open Go.RowKit Go.Shelf Go.Proofs.Ytogjgpiddjmpiaa.Kit Go.Proofs.Ytogjgpiddjmpiaa.Blk Go.Proofs.Ytogjgpiddjmpiaa.Mp
set_option linter.unusedVariables false

def headF (S : List Lvl) : Lvl := S.headD ⟨0, 0, 0⟩
/-- What Best answers. -/
def BestIs (L : List (Key × Rest)) (sym side : Int) (w : World) (e : Ending) (w' : World) : Prop :=
  ∃ S, LvS side (restV L sym side) S ∧ e = .returned (.tuple #[.agg #[.int .i64 (headF S).price, .int .i64 (headF S).qty, .int .i64 (headF S).ords], .bool (!S.isEmpty)]) ∧ Below w.heap.size w w'

set_option maxRecDepth 20000 in
set_option maxHeartbeats 4000000 in
theorem best_any (D b : Nat) (L : List (Key × Rest)) (sym side : Int) (w : World) (h : DS w D b L) (hok : OkL L) (hl : L.length ≤ 1000) :
    Calls Try.prog 45 #[.pointer (some ⟨D, 0, none⟩), .int .i64 sym, .int .i64 side] w (BestIs L sym side w) := by
  have hb1 : Below w.heap.size w (w.alloc (.cells lvlZ 90)) := (Below.refl _ _).alloc (Nat.le_refl _) _
  have HL := Lib.hid (levels_any D b L sym side 1 _ (h.alloc (.cells lvlZ 90)) hok hl)
  have HB := Lib.hid hb1
  have HX := Lib.hid (Blk.new w lvlZ 90 w.heap.size rfl)
  clear h hok hb1
  unfold lvlZ at *
  go_enter Try.func45, Try.ntmps45
  go_wp2_with fail
  refine HL.out.mono ?_
  rintro e w2 ⟨S, v, h1, rfl, h2, h3⟩
  have H1 := Lib.hid h1
  have H3 := Lib.hid (HB.out.trans (h3.mono HB.out.size))
  have HX2 := Lib.hid (HX.out.below h3 HX.out.lt)
  obtain ⟨a, c, rfl, hc1, hc2, hc3⟩ := h2
  unfold maxLen at hc2
  clear h1 h3 HL HX
  cases S with
  | nil =>
    have hx0 := HX2.out.cell 0 rfl
    have hx1 := HX2.out.cell 1 rfl
    have hx2 := HX2.out.cell 2 rfl
    have f0 := HX2.out.free 0
    have f1 := HX2.out.free 1
    have f2 := HX2.out.free 2
    have HX3 := Lib.hid (((HX2.out.set 0 (.int .i64 0)).set 1 (.int .i64 0)).set 2 (.int .i64 0))
    have H4 := Lib.hid (((H3.out.setCell (p := ⟨w.heap.size, 0, none⟩) (Nat.le_refl _) (.int .i64 0)).setCell (p := ⟨w.heap.size, 1, none⟩) (Nat.le_refl _) (.int .i64 0)).setCell (p := ⟨w.heap.size, 2, none⟩) (Nat.le_refl _) (.int .i64 0))
    clear hc3
    dsimp only [cutF, List.length_nil] at *
    go_wp2_with fail
    have e0 := HX3.out.cell 0 rfl
    have e1 := HX3.out.cell 1 rfl
    have e2 := HX3.out.cell 2 rfl
    refine bodyPost_ret (v := .tuple #[.agg #[.int .i64 0, .int .i64 0, .int .i64 0], .bool false]) (by simp [results, Try.results45, go_sem, e0, e1, e2]) rfl ⟨[], H1.out, rfl, H4.out⟩
  | cons x S =>
    have hlen : (cutF 1 (x :: S)).length = 1 ∧ ∀ h : 0 < (cutF 1 (x :: S)).length, (cutF 1 (x :: S))[0] = x := by
      unfold cutF
      split
      · exact ⟨by simp, fun h => by simp⟩
      · rename_i hn
        have : S = [] := by
          cases S with
          | nil => rfl
          | cons y S => exact absurd ⟨by omega, by simp; omega⟩ hn
        subst this
        exact ⟨rfl, fun _ => rfl⟩
    obtain ⟨g, rfl, hg1, hg2, hcell⟩ := hc3 0 (by omega)
    rw [hlen.2] at hcell
    have c0 : w2.cell? ⟨g, 0, none⟩ = some (.int .i64 x.price) := hcell 0 _ rfl
    have c1 : w2.cell? ⟨g, 1, none⟩ = some (.int .i64 x.qty) := hcell 1 _ rfl
    have c2 : w2.cell? ⟨g, 2, none⟩ = some (.int .i64 x.ords) := hcell 2 _ rfl
    rw [hlen.1]
    have hx0 := HX2.out.cell 0 rfl
    have hx1 := HX2.out.cell 1 rfl
    have hx2 := HX2.out.cell 2 rfl
    have f0 := HX2.out.free 0
    have f1 := HX2.out.free 1
    have f2 := HX2.out.free 2
    have HX3 := Lib.hid (((HX2.out.set 0 (.int .i64 x.price)).set 1 (.int .i64 x.qty)).set 2 (.int .i64 x.ords))
    have H4 := Lib.hid (((H3.out.setCell (p := ⟨w.heap.size, 0, none⟩) (Nat.le_refl _) (.int .i64 x.price)).setCell (p := ⟨w.heap.size, 1, none⟩) (Nat.le_refl _) (.int .i64 x.qty)).setCell (p := ⟨w.heap.size, 2, none⟩) (Nat.le_refl _) (.int .i64 x.ords))
    clear hcell hc3 hlen
    go_wp2_with fail
    have e0 := HX3.out.cell 0 rfl
    have e1 := HX3.out.cell 1 rfl
    have e2 := HX3.out.cell 2 rfl
    refine bodyPost_ret (v := .tuple #[.agg #[.int .i64 x.price, .int .i64 x.qty, .int .i64 x.ords], .bool true]) (by simp [results, Try.results45, go_sem, e0, e1, e2]) rfl ⟨x :: S, H1.out, rfl, H4.out⟩
theorem restV_price {L : List (Key × Rest)} (h : OkL L) {sym side : Int} {S : List Lvl} (hS : LvS side (restV L sym side) S) : 0 ≤ (headF S).price ∧ (headF S).price ≤ 1099511627776 := by
  cases S with
  | nil => exact ⟨Int.le_refl _, by decide⟩
  | cons x S =>
    have h1 := ((hS.mem x).1 List.mem_cons_self).1
    obtain ⟨q, hq, he⟩ := List.mem_map.1 h1
    obtain ⟨p, hp, rfl⟩ := List.mem_map.1 hq
    have := h p (List.mem_filter.1 hp).1
    show 0 ≤ x.price ∧ x.price ≤ _
    rw [← he]
    dsimp only
    omega
/-- What Spread answers. -/
def SprIs (L : List (Key × Rest)) (sym : Int) (w : World) (e : Ending) (w' : World) : Prop :=
  ∃ S T, LvS 0 (restV L sym 0) S ∧ LvS 1 (restV L sym 1) T ∧ e = .returned (.tuple #[.int .i64 (if (!S.isEmpty && !T.isEmpty) = true then (headF T).price - (headF S).price else 0), .bool (!S.isEmpty && !T.isEmpty)]) ∧ Below w.heap.size w w'

set_option maxRecDepth 20000 in
set_option maxHeartbeats 4000000 in
theorem spread_any (D b : Nat) (L : List (Key × Rest)) (sym : Int) (w : World) (h : DS w D b L) (hok : OkL L) (hl : L.length ≤ 1000) :
    Calls Try.prog 46 #[.pointer (some ⟨D, 0, none⟩), .int .i64 sym] w (SprIs L sym w) := by
  have HL := Lib.hid (best_any D b L sym 0 w h hok hl)
  have HD := Lib.hid h
  have HOK := Lib.hid hok
  clear h hok
  go_enter Try.func46, Try.ntmps46
  go_wp2_with fail
  refine HL.out.mono ?_
  rintro e w2 ⟨S, h1, rfl, hb1⟩
  have H1 := Lib.hid h1
  have HB1 := Lib.hid (hb1.alloc hb1.size (.cells #[.int .i64 (headF S).price, .int .i64 (headF S).qty, .int .i64 (headF S).ords] 90))
  have HD1 := Lib.hid ((HD.out.below hb1).alloc (.cells #[.int .i64 (headF S).price, .int .i64 (headF S).qty, .int .i64 (headF S).ords] 90))
  have HX1 := Lib.hid (Blk.new w2 #[.int .i64 (headF S).price, .int .i64 (headF S).qty, .int .i64 (headF S).ords] 90 w2.heap.size rfl)
  have HL2 := Lib.hid (best_any D b L sym 1 _ HD1.out HOK.out hl)
  clear h1 hb1 HL HD HD1
  go_wp2_with fail
  refine HL2.out.mono ?_
  rintro e w3 ⟨T, h2, rfl, hb2⟩
  have H2 := Lib.hid h2
  have HB2 := Lib.hid ((HB1.out.trans (hb2.mono HB1.out.size)).alloc (Nat.le_trans HB1.out.size hb2.size) (.cells #[.int .i64 (headF T).price, .int .i64 (headF T).qty, .int .i64 (headF T).ords] 90))
  have HX2 := Lib.hid ((HX1.out.below hb2 HX1.out.lt).old (.cells #[.int .i64 (headF T).price, .int .i64 (headF T).qty, .int .i64 (headF T).ords] 90))
  have p1 := restV_price HOK.out H1.out
  have p2 := restV_price HOK.out H2.out
  have hx : w3.cell? ⟨w2.heap.size, 0, none⟩ = some (.int .i64 (headF S).price) := (HX1.out.below hb2 HX1.out.lt).cell 0 rfl
  have hlt : w2.heap.size < w3.heap.size := (HX1.out.below hb2 HX1.out.lt).lt
  clear h2 hb2 HL2 HX1
  cases h1 : S.isEmpty with
  | true =>
    go_wp2_with fail
    go_ret2
    exact ⟨S, T, H1.out, H2.out, by simp [h1], HB2.out⟩
  | false =>
    cases h2 : T.isEmpty with
    | true =>
      go_wp2_with fail
      go_ret2
      exact ⟨S, T, H1.out, H2.out, by simp [h2], HB2.out⟩
    | false =>
      go_wp2_with fail
      go_ret2
      exact ⟨S, T, H1.out, H2.out, by simp [h1, h2], HB2.out⟩

theorem levels_nil (sym side most : Int) (w : World) : Calls Try.prog 41 #[.pointer none, .int .i64 sym, .int .i64 side, .int .i64 most] w fun e w' => e = .returned (.slice none 0 0) ∧ w = w' := by
  go_enter Try.func41, Try.ntmps41
  go_wp2_with fail
  go_ret
  exact ⟨rfl, rfl⟩
theorem best_nil (sym side : Int) (w : World) : Calls Try.prog 45 #[.pointer none, .int .i64 sym, .int .i64 side] w fun e w' => e = .returned (.tuple #[.agg #[.int .i64 0, .int .i64 0, .int .i64 0], .bool false]) ∧ Below w.heap.size w w' := by
  have HX := Lib.hid (((Blk.new w lvlZ 90 w.heap.size rfl)))
  have HB := Lib.hid ((Below.refl w.heap.size w).alloc (Nat.le_refl _) (.cells lvlZ 90))
  unfold lvlZ at *
  go_enter Try.func45, Try.ntmps45
  go_wp2_with fail
  refine (levels_nil _ _ _ _).mono ?_
  rintro e w2 ⟨rfl, rfl⟩
  go_wp2_with fail
  refine bodyPost_ret (v := .tuple #[.agg #[.int .i64 0, .int .i64 0, .int .i64 0], .bool false]) (by simp [results, Try.results45, go_sem]) rfl ⟨rfl, ?_⟩
  exact HB.out
theorem spread_nil (sym : Int) (w : World) : Calls Try.prog 46 #[.pointer none, .int .i64 sym] w fun e w' => e = .returned (.tuple #[.int .i64 0, .bool false]) ∧ Below w.heap.size w w' := by
  go_enter Try.func46, Try.ntmps46
  go_wp2_with fail
  refine (best_nil _ _ _).mono ?_
  rintro e w2 ⟨rfl, hb1⟩
  have HB1 := Lib.hid (hb1.alloc hb1.size (.cells #[.int .i64 0, .int .i64 0, .int .i64 0] 90))
  clear hb1
  go_wp2_with fail
  refine (best_nil _ _ _).mono ?_
  rintro e w3 ⟨rfl, hb2⟩
  have HB2 := Lib.hid ((HB1.out.trans (hb2.mono HB1.out.size)).alloc (Nat.le_trans HB1.out.size hb2.size) (.cells #[.int .i64 0, .int .i64 0, .int .i64 0] 90))
  clear hb2
  go_wp2_with fail
  go_ret2
  exact ⟨rfl, HB2.out⟩
end Go.Proofs.Ytogjgpiddjmpiaa.Depth

/- DepthNils. -/
namespace Go.Proofs.Ytogjgpiddjmpiaa.Depth
open Go.RowKit Go.Shelf Go.Proofs.Ytogjgpiddjmpiaa.Kit Go.Proofs.Ytogjgpiddjmpiaa.Blk Go.Proofs.Ytogjgpiddjmpiaa.Mp Go.Proofs.Ytogjgpiddjmpiaa.Msgs
attribute [local go_sem ↓] Go.wp_at_zero Go.wp_at_succ
set_option linter.unusedVariables false

theorem lvS_one (side p q : Int) : LvS side [(p, q)] [⟨p, q, 1⟩] := by
  refine ⟨by simp, fun x => ?_⟩
  rw [List.mem_singleton]
  constructor
  · rintro rfl
    exact ⟨by simp, by simp [sumF], by simp [numF]⟩
  · rintro ⟨h1, h2, h3⟩
    obtain ⟨a, b, c⟩ := x
    dsimp only at *
    have h1 : a = p := by simpa using h1
    subst h1
    simp [sumF] at h2
    simp [numF] at h3
    rw [h2, h3]
def aliveM : Msg := ⟨1, 0, 0, 0, 1, 0, 10, 5, 0⟩
theorem alive_put : putF [] aliveM = ([((0, 1), ⟨0, 10, 5⟩)], true) := by simp [putF, aliveM, mget, mput]
theorem alive_ok : OkL [((0, 1), ⟨0, 10, 5⟩)] := by
  intro p hp
  rw [List.mem_singleton] at hp
  subst hp
  decide
theorem alive_rest : restV [((0, 1), ⟨0, 10, 5⟩)] 0 0 = [(10, 5)] := by decide

set_option maxRecDepth 20000 in
set_option maxHeartbeats 4000000 in
theorem alive_any (w : World) : Calls Try.prog 35 #[] w fun e w' => e = .returned (.bool true) ∧ Below w.heap.size w w' := by
  go_enter Try.func35, Try.ntmps35
  go_wp2_with fail
  refine (new_any w).mono ?_
  rintro e w1 ⟨rfl, hd, hb⟩
  have HP := Lib.hid (put_any _ _ [] aliveM w1 hd (by intro p hp; simp at hp) (by decide))
  rw [show aliveM.cells = #[.int .i64 1, .int .i64 0, .int .i64 0, .int .i64 0, .int .i64 1, .int .i64 0, .int .i64 10, .int .i64 5, .int .i64 0] from rfl] at HP
  have HB := Lib.hid hb
  clear hd hb
  go_wp2_with fail
  refine HP.out.mono ?_
  rintro e w2 ⟨rfl, hd, hc⟩
  rw [alive_put] at hd ⊢
  have HB2 := Lib.hid (HB.out.trans (hc.below' (m := w.heap.size) (Nat.le_refl _) HB.out.size))
  have HL := Lib.hid (levels_any _ _ _ 0 0 3 w2 hd alive_ok (by decide))
  clear hd hc HP
  dsimp only at *
  go_wp2_with fail
  refine HL.out.mono ?_
  rintro e w3 ⟨S, v, h1, rfl, h2, h3⟩
  rw [alive_rest] at h1
  obtain rfl := lvS_unique (List.Perm.refl _) h1 (lvS_one 0 10 5)
  have HB3 := Lib.hid (HB2.out.trans (h3.mono HB2.out.size))
  obtain ⟨a, c, rfl, hc1, hc2, hc3⟩ := h2
  obtain ⟨g, rfl, hg1, hg2, hcell⟩ := hc3 0 (by decide)
  have c0 : w3.cell? ⟨g, 0, none⟩ = some (.int .i64 10) := hcell 0 _ rfl
  have c1 : w3.cell? ⟨g, 1, none⟩ = some (.int .i64 5) := hcell 1 _ rfl
  have c2 : w3.cell? ⟨g, 2, none⟩ = some (.int .i64 1) := hcell 2 _ rfl
  rw [show (cutF 3 [(⟨10, 5, 1⟩ : Lvl)]).length = 1 from by decide]
  clear hcell hc3 hc1 hc2 h1 h3 HL
  go_wp2_with fail
  go_ret
  exact ⟨rfl, HB3.out⟩

set_option maxRecDepth 20000 in
set_option maxHeartbeats 4000000 in
theorem depthNils_any (m : Msg) (side most : Int) (w : World) : Calls Try.prog 11 #[.agg m.cells, .int .i64 side, .int .i64 most] w fun e w' => e = .returned (.bool true) ∧ Below w.heap.size w w' := by
  have HB0 := Lib.hid (show Below w.heap.size w (w.alloc (.cells m.cells 66)) from (Below.refl _ _).alloc (Nat.le_refl _) _)
  have HM := Lib.hid (Blk.new w m.cells 66 w.heap.size rfl)
  have HPUT := Lib.hid (put_nil m)
  unfold Msg.cells at *
  go_enter Try.func11, Try.ntmps11
  go_wp2_with fail
  refine (best_nil _ _ _).mono ?_
  rintro e w1 ⟨rfl, hb1⟩
  have c1 : w1.cell? ⟨w.heap.size, 1, none⟩ = some (.int .i64 m.sym) := (HM.out.below hb1 HM.out.lt).cell 1 rfl
  have hlt : w.heap.size < w1.heap.size := (HM.out.below hb1 HM.out.lt).lt
  have HM1 := Lib.hid ((HM.out.below hb1 HM.out.lt).old (.cells #[.int .i64 0, .int .i64 0, .int .i64 0] 90))
  have HB1 := Lib.hid ((HB0.out.trans (hb1.mono HB0.out.size)).alloc (Nat.le_trans HB0.out.size hb1.size) (.cells #[.int .i64 0, .int .i64 0, .int .i64 0] 90))
  clear hb1 HM HB0
  go_wp2_with fail
  refine (spread_nil _ _).mono ?_
  rintro e w2 ⟨rfl, hb2⟩
  have HM2 := Lib.hid (HM1.out.below hb2 HM1.out.lt)
  have HB2 := Lib.hid (HB1.out.trans (hb2.mono HB1.out.size))
  clear hb2 HM1 c1 hlt HB1
  have c0 : w2.cell? ⟨w.heap.size, 0, none⟩ = some (.int .i64 m.kind) := HM2.out.cell 0 rfl
  have c1 : w2.cell? ⟨w.heap.size, 1, none⟩ = some (.int .i64 m.sym) := HM2.out.cell 1 rfl
  have c2 : w2.cell? ⟨w.heap.size, 2, none⟩ = some (.int .i64 m.seq) := HM2.out.cell 2 rfl
  have c3 : w2.cell? ⟨w.heap.size, 3, none⟩ = some (.int .i64 m.tick) := HM2.out.cell 3 rfl
  have c4 : w2.cell? ⟨w.heap.size, 4, none⟩ = some (.int .i64 m.id) := HM2.out.cell 4 rfl
  have c5 : w2.cell? ⟨w.heap.size, 5, none⟩ = some (.int .i64 m.wth) := HM2.out.cell 5 rfl
  have c6 : w2.cell? ⟨w.heap.size, 6, none⟩ = some (.int .i64 m.price) := HM2.out.cell 6 rfl
  have c7 : w2.cell? ⟨w.heap.size, 7, none⟩ = some (.int .i64 m.qty) := HM2.out.cell 7 rfl
  have c8 : w2.cell? ⟨w.heap.size, 8, none⟩ = some (.int .i64 m.code) := HM2.out.cell 8 rfl
  go_wp2_with fail
  refine (HPUT.out w2).mono ?_
  rintro e w3 ⟨rfl, hb3⟩
  have HM3 := Lib.hid (HM2.out.below hb3 HM2.out.lt)
  have HB3 := Lib.hid (HB2.out.trans (hb3.mono HB2.out.size))
  clear hb3 HB2 HM2 HPUT c0 c1 c2 c3 c4 c5 c6 c7 c8
  have c1 : w3.cell? ⟨w.heap.size, 1, none⟩ = some (.int .i64 m.sym) := HM3.out.cell 1 rfl
  go_wp2_with fail
  refine (levels_nil _ _ _ _).mono ?_
  rintro e w4 ⟨rfl, rfl⟩
  go_wp2_with fail
  refine (alive_any _).mono ?_
  rintro e w5 ⟨rfl, hb5⟩
  have HB5 := Lib.hid (HB3.out.trans (hb5.mono HB3.out.size))
  clear hb5 HB3
  go_wp2_with fail
  go_ret
  exact ⟨rfl, HB5.out⟩
end Go.Proofs.Ytogjgpiddjmpiaa.Depth
