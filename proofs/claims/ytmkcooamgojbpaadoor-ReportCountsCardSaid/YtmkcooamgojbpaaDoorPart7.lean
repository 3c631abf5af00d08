/- Parts of the proof: CntS. -/
import Derived.Test.YtmkcooamgojbpaaDoorPart3
import Derived.Test.YtmkcooamgojbpaaDoorPart5
import Derived.Test.YtmkcooamgojbpaaDoorPart6

/- slices.SortFunc, of counts. -/
namespace Go.Proofs.YtmkcooamgojbpaaDoor.Counts
open Go.RowKit Go.Proofs.YtmkcooamgojbpaaDoor.Kit Go.Proofs.YtmkcooamgojbpaaDoor.Blk Go.Proofs.YtmkcooamgojbpaaDoor.Lay Go.Proofs.YtmkcooamgojbpaaDoor.Own Go.Shelf Go.Lib Go.Sort
set_option linter.unusedVariables false

/-- A row of counts in memory, from N on. -/
def CntRow (W : World) (N : Nat) (v : Value) (S : List Cnt) : Prop :=
  ∃ a c, v = .slice a S.length c ∧ S.length ≤ c ∧ c ≤ maxLen ∧ ∀ i, (h : i < S.length) → ∃ g, a = some ⟨g, 0, none⟩ ∧ N ≤ g ∧ g < W.heap.size ∧ ∀ (j : Nat) (u : Value), S[i].cells[j]? = some u → W.cell? ⟨g, i * 4 + j, none⟩ = some u
theorem CntRow.below {W W' : World} {N : Nat} {v : Value} {S : List Cnt} (h : CntRow W N v S) (hb : Below W.heap.size W W') : CntRow W' N v S := by
  obtain ⟨a, c, h1, h2, h3, h4⟩ := h
  refine ⟨a, c, h1, h2, h3, fun i hi => ?_⟩
  obtain ⟨g, e, hn, hg, hc⟩ := h4 i hi
  exact ⟨g, e, hn, Nat.lt_of_lt_of_le hg hb.size, fun j u hu => by rw [hb.cell (p := ⟨g, _, none⟩) hg]; exact hc j u hu⟩
abbrev rowsK (l : List Cnt) : List Value := l.flatMap fun c => c.cells.toList
abbrev encK (x : Cnt) : List Value := x.cells.toList
theorem bang_of {l : List Value} {j : Nat} {u : Value} (h : l[j]? = some u) : l[j]! = u := by
  rw [List.getElem!_eq_getElem?_getD, h]; rfl
theorem holds_of_own {w : World} {N g cap : Nat} {ys : List Cnt} (h : w.ownsRow N 85 4 (.slice (some ⟨g, 0, none⟩) ys.length cap) ys.length (rowsK ys)) : HoldsK encK 4 w g 0 ys.toArray := by
  intro t ht
  rw [size_flatK] at ht
  have hlt : t < ys.length * 4 := by simpa using ht
  have hi : t / 4 < ys.length := by omega
  have hc := h.cellAt (g := g) (cap := cap) t hlt
  rcases h.2 with ⟨e, _⟩ | ⟨g', cap', cur, e, hg, hgb, hn, hcm, hsz, htk⟩
  · cases e
  · have e' : g = g' := by injection e with e; injection e with e; injection e
    subst e'
    refine ⟨?_, ?_⟩
    · rw [Nat.zero_add, hc]
      have h3 := flat_at Cnt.cells 4 cnt_size ys (t / 4) hi (t % 4) ((ys[t / 4].cells)[t % 4]'(by show t % 4 < 4; omega)) (Array.getElem?_eq_getElem _)
      rw [show t / 4 * 4 + t % 4 = t by omega] at h3
      rw [h3, get_flatK _ _ _ _ ht]
      congr 1
      rw [getElem!_pos ys.toArray (t / 4) (by simpa using hi)]
      exact (bang_of (l := encK ys[t / 4]) (by simp)).symm
    · simp only [World.frozen?, hgb]; simp
theorem cells_of_holds {w : World} {g : Nat} {d : Array Cnt} (h : HoldsK encK 4 w g 0 d) (i : Nat) (hi : i < d.size) (j : Nat) (u : Value) (hu : d[i].cells[j]? = some u) : w.cell? ⟨g, i * 4 + j, none⟩ = some u := by
  have hj : j < 4 := (Array.getElem?_eq_some_iff.1 hu).1
  have := (h.cell (i := i) (c := j) hi hj).1
  rw [Nat.zero_add] at this
  rw [this, getElem!_pos d i hi]
  rw [bang_of (l := encK d[i]) (by simpa using hu)]
theorem grow_chg {w : World} {g n m : Nat} {d : Array Cnt} {os : Array Obj} (hg : g < w.heap.size) : Chg w.heap.size g w (sortWorldK encK 4 w g n m d os) := by
  unfold sortWorldK putRowK putRow grow Sort.ahead
  refine ⟨rfl, rfl, rfl, by simp [mapBlock], fun k hk hd => ?_⟩
  simp only [mapBlock]
  rw [Array.getElem?_append_left (by simp; omega)]
  rw [Array.getElem?_modify]
  rw [if_neg (fun e => hd e.symm)]
theorem sortFunc_any (g cap : Nat) (d : Array Cnt) (w : World) (hH : HoldsK encK 4 w g 0 d) (hg : g < w.heap.size) (hsz : d.size < 4611686018427387904) :
    Calls Tryd.prog 117 #[.slice (some ⟨g, 0, none⟩) d.size cap, .func (.func 118) #[] #[]] w fun e w' =>
      e = .returned (.tuple #[]) ∧ ∃ d', PermIn 0 d.size d d' ∧ SortedIn (ltOf cfC) 0 d.size d' ∧ HoldsK encK 4 w' g 0 d' ∧ Chg w.heap.size g w w' := by
  have eg : ∀ args w, (callFunc 118 args).run Tryd.prog w = .ok (.enter 118 args) w := enters_of Tryd.func118 (by kernel_rfl) rfl
  have hcon := AnyQ.slices_SortFunc sortC 4 Tryd.isAgg85 Tryd.sizeOf85 encK (fun _ => rfl) (fun x v hv => by simp [Cnt.cells] at hv; rcases hv with rfl | rfl | rfl | rfl <;> rfl) cfC swo_cfC 118 #[] g 0 cap d w eg
    (fun m os dk hdk x y => cmp_any x y _) hH hg hsz
  change Calls _ 117 _ _ _ at hcon
  refine hcon.mono ?_
  rintro e w' ⟨rfl, d', n, os, hp, hso, rfl⟩
  exact ⟨rfl, d', hp, hso, holdsK_sortWorldK_c _ _ _ _ _ d d' n os hH hg hp.1, grow_chg hg⟩
set_option maxHeartbeats 1000000 in
theorem ins_none (p : Option Addr) (cap : Nat) (fv : Value) (w : World) : Calls Tryd.prog 211 #[.slice p 0 cap, .int .i64 0, .int .i64 0, fv] w fun e w' => e = .returned (.tuple #[]) ∧ w = w' := by
  go_enter Tryd.func211, Tryd.ntmps211
  go_wp2_with fail
  go_loop [8] (fun i => i = .int .i64 1) (fun _ => 0)
  case atStart => rfl
  case round =>
    subst hrel
    go_wp2_with fail
    go_end0
    exact ⟨rfl, rfl⟩
set_option maxHeartbeats 1000000 in
theorem pdq_none (p : Option Addr) (cap : Nat) (lim : Int) (fv : Value) (w : World) : Calls Tryd.prog 178 #[.slice p 0 cap, .int .i64 0, .int .i64 0, .int .i64 lim, fv] w fun e w' => e = .returned (.tuple #[]) ∧ w = w' := by
  go_enter Tryd.func178, Tryd.ntmps178
  go_wp2_with fail
  go_loop [1, 2] (fun a b => a = .int .i64 0 ∧ b = .int .i64 0) (fun _ _ => 0)
  case atStart => exact ⟨rfl, rfl⟩
  case round =>
    obtain ⟨rfl, rfl⟩ := hrel
    go_wp2_with fail
    refine (ins_none p cap fv w).mono ?_
    rintro e w' ⟨rfl, rfl⟩
    go_wp2_with fail
    refine bodyPost_ret (results_none rfl _ _ _) rfl ?_
    exact ⟨rfl, rfl⟩
set_option maxHeartbeats 1000000 in
theorem sort_none (p : Option Addr) (cap : Nat) (fv : Value) (w : World) : Calls Tryd.prog 117 #[.slice p 0 cap, fv] w fun e w' => e = .returned (.tuple #[]) ∧ w = w' := by
  have hl := Any.bits_Len (SlLaysF0.n15.bits (P := Tryd.prog) (ρ := sortC_ren) { sortC with }) 0 w (by omega) (by omega)
  change Calls _ 179 _ _ _ at hl
  have HL := Lib.hid hl
  clear hl
  go_enter Tryd.func117, Tryd.ntmps117
  go_wp2_with fail
  refine HL.out.mono ?_
  rintro e w' ⟨rfl, rfl⟩
  go_wp2_with fail
  refine (pdq_none p cap _ fv _).mono ?_
  rintro e w' ⟨rfl, rfl⟩
  go_wp2_with fail
  go_end0
  exact ⟨rfl, rfl⟩
/-- What is sorted is the document's list. -/
theorem sorted_of {S : List Cnt} (hS : SortedC S) {ys : List Cnt} (hy : ys.Perm S) {d' : Array Cnt} (hp : PermIn 0 ys.length ys.toArray d') (ho : SortedIn (ltOf cfC) 0 ys.length d') : d'.toList = S ∧ d'.size = ys.length := by
  obtain ⟨h1, _, h3⟩ := hp
  have hsz : d'.size = ys.length := by simpa using h1
  have hperm : d'.toList.Perm ys := by
    have e1 : (d'.extract 0 ys.length).toList = d'.toList := by rw [← hsz]; simp
    have e2 : (ys.toArray.extract 0 ys.length).toList = ys := by simp
    rwa [e1, e2] at h3
  refine ⟨sorted_only hS (hperm.trans hy) ?_, hsz⟩
  rw [List.pairwise_iff_getElem]
  intro i j hi hj hij
  have hi' : i < d'.size := by simpa using hi
  have hj' : j < d'.size := by simpa using hj
  have h4 := ho i j (Nat.zero_le _) hij (by omega)
  rw [lt_cfC, getElem!_pos d' i hi', getElem!_pos d' j hj'] at h4
  simpa only [Array.getElem_toList] using h4
end Go.Proofs.YtmkcooamgojbpaaDoor.Counts
