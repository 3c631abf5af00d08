/- Parts of the proof: LvlT. -/
import Derived.Test.YtogjgpiddjmpiaaPart4
import Derived.Test.YtogjgpiddjmpiaaPart22

/- depth.sorted: the levels of a map, the best price first. -/
namespace Go.Proofs.Ytogjgpiddjmpiaa.Depth
set_option linter.unusedVariables false
open Go.RowKit Go.Shelf Go.Proofs.Ytogjgpiddjmpiaa.Kit Go.Proofs.Ytogjgpiddjmpiaa.Blk Go.Proofs.Ytogjgpiddjmpiaa.Mp Go.Proofs.Ytogjgpiddjmpiaa.Lay Go.Lib Go.Sort

/-- A row of levels in memory, from N on. -/
def LvRow (W : World) (N : Nat) (v : Value) (S : List Lvl) : Prop :=
  ∃ a c, v = .slice a S.length c ∧ S.length ≤ c ∧ c ≤ maxLen ∧ ∀ i, (h : i < S.length) → ∃ g, a = some ⟨g, 0, none⟩ ∧ N ≤ g ∧ g < W.heap.size ∧ ∀ (j : Nat) (u : Value), S[i].cells[j]? = some u → W.cell? ⟨g, i * 3 + j, none⟩ = some u
theorem LvRow.below {W W' : World} {N : Nat} {v : Value} {S : List Lvl} (h : LvRow W N v S) (hb : Below W.heap.size W W') : LvRow W' N v S := by
  obtain ⟨a, c, h1, h2, h3, h4⟩ := h
  refine ⟨a, c, h1, h2, h3, fun i hi => ?_⟩
  obtain ⟨g, e, hn, hg, hc⟩ := h4 i hi
  exact ⟨g, e, hn, Nat.lt_of_lt_of_le hg hb.size, fun j u hu => by rw [hb.cell (p := ⟨g, _, none⟩) hg]; exact hc j u hu⟩
theorem bang_of {l : List Value} {j : Nat} {u : Value} (h : l[j]? = some u) : l[j]! = u := by
  rw [List.getElem!_eq_getElem?_getD, h]; rfl
theorem rowsL_at (l : List Lvl) : ∀ (i : Nat) (h : i < l.length) (j : Nat) (v : Value), l[i].cells[j]? = some v → (rowsL l)[i * 3 + j]? = some v := by
  induction l with
  | nil => intro i h; simp at h
  | cons m l ih =>
    intro i h j v hv
    have hc : rowsL (m :: l) = m.cells.toList ++ rowsL l := by simp [rowsL]
    have hs : m.cells.toList.length = 3 := rfl
    rw [hc]
    cases i with
    | zero =>
      rw [List.getElem_cons_zero] at hv
      have hj : j < 3 := (Array.getElem?_eq_some_iff.1 hv).1
      rw [List.getElem?_append_left (by omega), show 0 * 3 + j = j by omega]
      simpa using hv
    | succ i =>
      rw [List.getElem_cons_succ] at hv
      rw [List.getElem?_append_right (by omega), hs]
      have := ih i (by simpa using h) j v hv
      rw [show (i + 1) * 3 + j - 3 = i * 3 + j by omega]
      exact this
theorem holds_of_own {w : World} {N g cap : Nat} {ys : List Lvl} (h : w.ownsRow N 90 3 (.slice (some ⟨g, 0, none⟩) ys.length cap) ys.length (rowsL ys)) : HoldsK encL 3 w g 0 ys.toArray := by
  intro t ht
  rw [size_flatK] at ht
  have hlt : t < ys.length * 3 := by simpa using ht
  have hi : t / 3 < ys.length := by omega
  have hc := h.cellAt (g := g) (cap := cap) t hlt
  rcases h.2 with ⟨e, _⟩ | ⟨g', cap', cur, e, hg, hgb, hn, hcm, hsz, htk⟩
  · cases e
  · have e' : g = g' := by injection e with e; injection e with e; injection e
    subst e'
    refine ⟨?_, ?_⟩
    · rw [Nat.zero_add, hc]
      have h3 := rowsL_at ys (t / 3) hi (t % 3) ((ys[t / 3].cells)[t % 3]'(by show t % 3 < 3; omega)) (Array.getElem?_eq_getElem _)
      rw [show t / 3 * 3 + t % 3 = t by omega] at h3
      rw [h3, get_flatK _ _ _ _ ht]
      congr 1
      rw [getElem!_pos ys.toArray (t / 3) (by simpa using hi)]
      exact (bang_of (l := encL ys[t / 3]) (by simp)).symm
    · simp only [World.frozen?, hgb]; simp
theorem cells_of_holds {w : World} {g : Nat} {d : Array Lvl} (h : HoldsK encL 3 w g 0 d) (i : Nat) (hi : i < d.size) (j : Nat) (u : Value) (hu : d[i].cells[j]? = some u) : w.cell? ⟨g, i * 3 + j, none⟩ = some u := by
  have hj : j < 3 := (Array.getElem?_eq_some_iff.1 hu).1
  have := (h.cell (i := i) (c := j) hi hj).1
  rw [Nat.zero_add] at this
  rw [this, getElem!_pos d i hi]
  rw [bang_of (l := encL d[i]) (by simpa using hu)]

theorem mget_of_mem {κ ν : Type} [DecidableEq κ] {l : List (κ × ν)} : (l.map (·.1)).Nodup → ∀ p y, (p, y) ∈ l → mget p l = some y := by
  induction l with
  | nil => intro _ p y h; simp at h
  | cons q l ih =>
    intro hn p y hm
    obtain ⟨a, u⟩ := q
    rw [List.map_cons, List.nodup_cons] at hn
    rcases List.mem_cons.1 hm with e | hm
    · injection e with e1 e2
      subst e1 e2; simp [mget]
    · have hpm : p ∈ l.map (·.1) := List.mem_map_of_mem (f := (·.1)) hm
      have : ¬ p = a := fun e => hn.1 (e ▸ hpm)
      simp only [mget, this, if_false]
      exact ih hn.2 p y hm
theorem lvA_prices {V : List PQ} {A : List (Int × Lvl)} (h : LvA V A) : (A.map (·.2)).map (·.price) = A.map (·.1) := by
  rw [List.map_map]
  apply List.map_congr_left
  rintro ⟨p, y⟩ hm
  have h1 : p ∈ V.map (·.1) := (h.keys p).1 (List.mem_map_of_mem (f := (·.1)) hm)
  have h2 := mget_of_mem h.nodup p y hm
  rw [h.get p h1] at h2
  injection h2 with h2
  show y.price = p
  rw [← h2]
theorem sorted_of {side : Int} (hs : side = 0 ∨ side = 1) {V : List PQ} {A : List (Int × Lvl)} (hA : LvA V A) {ys : List Lvl} (hy : ys.Perm (A.map (·.2))) {d' : Array Lvl} (hp : PermIn 0 ys.length ys.toArray d') (ho : SortedIn (ltOf (cfL side)) 0 ys.length d') : LvS side V d'.toList ∧ d'.size = ys.length := by
  obtain ⟨h1, _, h3⟩ := hp
  have hsz : d'.size = ys.length := by simpa using h1
  have hperm : d'.toList.Perm ys := by
    have e1 : (d'.extract 0 ys.length).toList = d'.toList := by rw [← hsz]; simp
    have e2 : (ys.toArray.extract 0 ys.length).toList = ys := by simp
    rwa [e1, e2] at h3
  refine ⟨lvS_of hA (hperm.trans hy) ?_, hsz⟩
  have hnd : (d'.toList.map (·.price)).Nodup := by
    rw [((hperm.trans hy).map (·.price)).nodup_iff, lvA_prices hA]; exact hA.nodup
  rw [List.pairwise_iff_getElem]
  intro i j hi hj hij
  have hi' : i < d'.size := by simpa using hi
  have hj' : j < d'.size := by simpa using hj
  have h4 := ho i j (Nat.zero_le _) hij (by omega)
  rw [lt_cfL, getElem!_pos d' i hi', getElem!_pos d' j hj'] at h4
  have hne : d'[i].price ≠ d'[j].price := by
    have := List.pairwise_iff_getElem.1 hnd i j (by simpa using hi) (by simpa using hj) hij
    simpa using this
  show better side d'.toList[i].price d'.toList[j].price = true
  simp only [Array.getElem_toList]
  unfold better at *
  rcases hs with rfl | rfl
  · simp only [if_true, decide_eq_false_iff_not, decide_eq_true_eq] at *; omega
  · simp at *; omega

set_option maxHeartbeats 1000000 in
theorem ins_none (p : Option Addr) (cap : Nat) (fv : Value) (w : World) : Calls Try.prog 205 #[.slice p 0 cap, .int .i64 0, .int .i64 0, fv] w fun e w' => e = .returned (.tuple #[]) ∧ w = w' := by
  go_enter Try.func205, Try.ntmps205
  go_wp2_with fail
  go_loop [8] (fun i => i = .int .i64 1) (fun _ => 0)
  case atStart => rfl
  case round =>
    subst hrel
    go_wp2_with fail
    go_end0
    exact ⟨rfl, rfl⟩
set_option maxHeartbeats 1000000 in
theorem pdq_none (p : Option Addr) (cap : Nat) (lim : Int) (fv : Value) (w : World) : Calls Try.prog 195 #[.slice p 0 cap, .int .i64 0, .int .i64 0, .int .i64 lim, fv] w fun e w' => e = .returned (.tuple #[]) ∧ w = w' := by
  go_enter Try.func195, Try.ntmps195
  go_wp2_with fail
  go_loop [1, 2] (fun a b => a = .int .i64 0 ∧ b = .int .i64 0) (fun _ _ => 0)
  case atStart => exact ⟨rfl, rfl⟩
  case round =>
    obtain ⟨rfl, rfl⟩ := hrel
    go_wp2_with fail
    refine (ins_none p cap fv w).mono ?_
    rintro e w' ⟨rfl, rfl⟩
    go_wp2_with fail
    refine bodyPost_ret (results_none rfl _ _ _) rfl ?_
    exact ⟨rfl, rfl⟩
set_option maxHeartbeats 1000000 in
theorem sort_none (p : Option Addr) (cap : Nat) (fv : Value) (w : World) : Calls Try.prog 159 #[.slice p 0 cap, fv] w fun e w' => e = .returned (.tuple #[]) ∧ w = w' := by
  have hl := Any.bits_Len (SlLaysF0.n15.bits (P := Try.prog) (ρ := sortL_ren) { sortL with }) 0 w (by omega) (by omega)
  change Calls _ 131 _ _ _ at hl
  have HL := Lib.hid hl
  clear hl
  go_enter Try.func159, Try.ntmps159
  go_wp2_with fail
  refine HL.out.mono ?_
  rintro e w' ⟨rfl, rfl⟩
  go_wp2_with fail
  refine (pdq_none p cap _ fv _).mono ?_
  rintro e w' ⟨rfl, rfl⟩
  go_wp2_with fail
  go_end0
  exact ⟨rfl, rfl⟩

theorem values_any (mb : Option Nat) (W : World) : Calls Try.prog 121 #[.map mb] W fun e w' => e = .returned (.func (.func 160) #[] #[.pointer (some ⟨W.heap.size, 0, none⟩)]) ∧ W.alloc (.cells #[.map mb] 174) = w' := by
  go_enter Try.func121, Try.ntmps121
  go_wp2_with fail
  go_ret
  exact ⟨rfl, rfl⟩
theorem collect_any (A : List (Int × Lvl)) (hl : A.length ≤ 1000) (Bm b : Nat) (w : World) (hBm : Blk w Bm #[.map (some b)] 174) (hM : MapIs w b k64 lv A) :
    Calls Try.prog 158 #[.func (.func 160) #[] #[.pointer (some ⟨Bm, 0, none⟩)]] w (CollIs (fun ys => ys.Perm (A.map (·.2))) w) := by
  have HA := Lib.hid (append_any A hl Bm b w hBm hM)
  clear hBm hM
  go_enter Try.func158, Try.ntmps158
  go_wp2_with fail
  refine HA.out.mono ?_
  rintro e w' ⟨ys, v, hp, rfl, hrow, hb⟩
  have HP := Lib.hid hp
  have HR := Lib.hid hrow
  have HB := Lib.hid hb
  clear hp hrow hb HA
  go_wp2_with fail
  go_ret
  exact ⟨ys, v, HP.out, rfl, HR.out, HB.out⟩
/-- The levels, sorted. -/
def SortIs (side : Int) (V : List PQ) (w : World) (e : Ending) (w' : World) : Prop := ∃ S v, LvS side V S ∧ e = .returned v ∧ LvRow w' w.heap.size v S ∧ Below w.heap.size w w'

set_option maxHeartbeats 2000000 in
theorem sortedf_any (side : Int) (V : List PQ) (hs : side = 0 ∨ side = 1 ∨ V = []) (sb : Nat) (A : List (Int × Lvl)) (hA : LvA V A) (hl : A.length ≤ 1000) (Bm b : Nat) (w : World) (hsc : Blk w sb #[.int .i64 side] 3) (hBm : Blk w Bm #[.map (some b)] 174) (hM : MapIs w b k64 lv A) :
    Calls Try.prog 120 #[.func (.func 160) #[] #[.pointer (some ⟨Bm, 0, none⟩)], .func (.func 122) #[] #[.pointer (some ⟨sb, 0, none⟩)]] w (SortIs side V w) := by
  have HC := Lib.hid (collect_any A hl Bm b w hBm hM)
  have HSC := Lib.hid hsc
  have HA := Lib.hid hA
  have HSD := Lib.hid hs
  clear hBm hM hsc hA hs
  go_enter Try.func120, Try.ntmps120
  go_wp2_with fail
  refine HC.out.mono ?_
  rintro e w1 ⟨ys, v, hp, rfl, hrow, hb⟩
  have HP := Lib.hid hp
  have HB := Lib.hid hb
  have HS1 := Lib.hid (HSC.out.below hb HSC.out.lt)
  have hlt := HSC.out.lt
  clear hp hb HC
  by_cases h0 : ys = []
  · subst h0
    obtain ⟨a, c, rfl⟩ : ∃ a c, v = .slice a 0 c := by
      rcases hrow.2 with ⟨rfl, _⟩ | ⟨g, cap, cur, rfl, _⟩
      · exact ⟨none, 0, rfl⟩
      · exact ⟨_, cap, rfl⟩
    have HLC := Lib.hid (show c ≤ maxLen by
      rcases hrow.2 with ⟨e, _⟩ | ⟨g, cap, cur, e, hg, hgb, hn, hcm, _⟩
      · injection e with _ _ e; omega
      · injection e with _ _ e; omega)
    have HL := Lib.hid (show LvS side V [] from lvS_of HA.out HP.out List.Pairwise.nil)
    clear hrow
    go_wp2_with fail
    refine (sort_none a c _ _).mono ?_
    rintro e w2 ⟨rfl, rfl⟩
    go_wp2_with fail
    go_ret
    exact ⟨[], _, HL.out, rfl, ⟨a, c, rfl, Nat.zero_le _, HLC.out, fun i hi => absurd hi (by simp)⟩, HB.out⟩
  · have hn : 0 < ys.length := by cases ys; exact absurd rfl h0; simp
    obtain ⟨g, cap, rfl, -, hgl⟩ := World.ownsRow.form hrow hn
    have HH := Lib.hid (holds_of_own hrow)
    have hgN := (Octets.row_from' hrow (j := g) rfl).1
    have HCAP := Lib.hid (show ys.length ≤ cap ∧ cap ≤ maxLen by
      rcases hrow.2 with ⟨e, _⟩ | ⟨g', cap', cur, e, hg, hgb, hn, hcm, _⟩
      · cases e
      · injection e with _ _ e; subst e; exact ⟨hn, hcm⟩)
    have hylen : ys.length ≤ 1000 := by have := HP.out.length_eq; rw [List.length_map] at this; omega
    have hsd : side = 0 ∨ side = 1 := by
      rcases HSD.out with h | h | h
      · exact .inl h
      · exact .inr h
      · exfalso
        subst h
        have hA0 : A = [] := by
          cases A with
          | nil => rfl
          | cons q A => exact absurd ((HA.out.keys q.1).1 (by simp)) (by simp)
        subst hA0
        have := HP.out.length_eq
        simp at this; exact h0 this
    have HSO := Lib.hid (sortFunc_any side sb g cap ys.toArray w1 (HS1.out.cell 0 rfl) (Nat.lt_of_lt_of_le hlt HB.out.size) (by omega) HH.out hgl (by simp; omega))
    have HSD2 := Lib.hid hsd
    clear hrow h0 hsd
    go_wp2_with fail
    refine HSO.out.mono ?_
    rintro e w2 ⟨rfl, d', hpm, hso, hh, hc⟩
    obtain ⟨h1, h2⟩ := sorted_of HSD2.out HA.out HP.out (by simpa using hpm) (by simpa using hso)
    have HL := Lib.hid h1
    have HN := Lib.hid h2
    have HHD := Lib.hid hh
    have HB2 := Lib.hid (HB.out.trans (hc.below' (by omega) (by have := HB.out.size; omega)))
    have HG2 := Lib.hid (show g < w2.heap.size from Nat.lt_of_lt_of_le hgl hc.size)
    clear h1 h2 hpm hso hh hc HSO
    go_wp2_with fail
    go_ret
    have hlen : d'.toList.length = ys.length := by have := HN.out; simpa using this
    exact ⟨d'.toList, .slice (some ⟨g, 0, none⟩) ys.length cap, HL.out, rfl, ⟨some ⟨g, 0, none⟩, cap, by rw [hlen], by rw [hlen]; exact HCAP.out.1, HCAP.out.2, fun i hi => ⟨g, rfl, hgN, HG2.out, fun j u hu => cells_of_holds HHD.out i (by simpa using hi) j u (by simpa using hu)⟩⟩, HB2.out⟩
theorem sorted_any (side : Int) (V : List PQ) (hs : side = 0 ∨ side = 1 ∨ V = []) (A : List (Int × Lvl)) (hA : LvA V A) (hl : A.length ≤ 1000) (b : Nat) (w : World) (hM : MapIs w b k64 lv A) :
    Calls Try.prog 87 #[.int .i64 side, .map (some b)] w (SortIs side V w) := by
  have hb1 : Below w.heap.size w ((w.alloc (.cells #[.int .i64 side] 3)).alloc (.cells #[.map (some b)] 174)) := ((Below.refl _ _).alloc (Nat.le_refl _) _).alloc (by simp) _
  have HB := Lib.hid hb1
  have HF := Lib.hid (sortedf_any side V hs w.heap.size A hA hl (w.heap.size + 1) b ((w.alloc (.cells #[.int .i64 side] 3)).alloc (.cells #[.map (some b)] 174)) ((Blk.new _ _ _ _ rfl).old _) (Blk.new _ _ _ _ (by simp)) (hM.below hb1 hM.lt))
  clear hM hA hs hb1
  go_enter Try.func87, Try.ntmps87
  go_wp2_with fail
  refine (values_any _ _).mono ?_
  rintro e w1 ⟨rfl, rfl⟩
  go_wp2_with fail
  refine HF.out.mono ?_
  rintro e w2 ⟨S, v, h1, rfl, h2, h3⟩
  have H1 := Lib.hid h1
  have H2 := Lib.hid h2
  have H3 := Lib.hid (HB.out.trans (h3.mono HB.out.size))
  clear h1 h2 h3 HF
  go_wp2_with fail
  go_ret
  obtain ⟨a, c, e1, e2, e3, e4⟩ := H2.out
  exact ⟨S, v, H1.out, rfl, ⟨a, c, e1, e2, e3, fun i hi => by obtain ⟨g, f1, f2, f3⟩ := e4 i hi; exact ⟨g, f1, by simp at f2; omega, f3⟩⟩, H3.out⟩
end Go.Proofs.Ytogjgpiddjmpiaa.Depth
