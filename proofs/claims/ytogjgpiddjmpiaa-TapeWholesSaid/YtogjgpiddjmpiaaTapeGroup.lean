/- Trades of one beginning make one bar: the program's way and the document's. -/
import Derived.Test.YtogjgpiddjmpiaaTapeOf
namespace Go.Proofs.Ytogjgpiddjmpiaa.Tape
open Go.RowKit Go.Proofs.Ytogjgpiddjmpiaa.Kit Go.Proofs.Ytogjgpiddjmpiaa.Blk Go.Proofs.Ytogjgpiddjmpiaa.Msgs

def key (wd : Int) (m : Msg) : Int := m.tick / wd * wd
def lastP (p : Int) (g : List Msg) : Int := g.foldl (fun _ m => m.price) p
def gb (f : Int) (m0 : Msg) (g : List Msg) : Bar := ⟨f, m0.price, hiF m0.price g, loF m0.price g, lastP m0.price g, volF g, (g.length : Int), 0⟩
def wos (g : List Msg) : Nat := g.foldl (fun x m => x + wo m) 0
theorem wos_snoc (g : List Msg) (m : Msg) : wos (g ++ [m]) = wos g + wo m := by unfold wos; rw [List.foldl_append]; rfl
theorem gb_snoc (f : Int) (m0 : Msg) (g : List Msg) (m : Msg) (hne : g ≠ []) : addF (gb f m0 g) f m = gb f m0 (g ++ [m]) := by
  have ht : (gb f m0 g).trd ≠ 0 := by
    show (g.length : Int) ≠ 0
    have : g.length ≠ 0 := fun e => hne (List.length_eq_zero_iff.1 e)
    omega
  unfold addF firstF
  rw [if_neg ht]
  unfold nextF gb hiF loF lastP volF
  simp only [List.foldl_append, List.length_append, List.foldl_cons, List.foldl_nil, List.length_cons, List.length_nil]
  congr 1
theorem gb_one (f : Int) (m0 : Msg) : addF Bar.zero f m0 = gb f m0 [m0] := by
  unfold addF firstF
  rw [if_pos (show Bar.zero.trd = 0 from rfl)]
  rfl
/-- All of a group, one behind the other. -/
theorem fold_group (wd f : Int) (m0 : Msg) (o : List Bar) (t : List Msg) : ∀ (g : List Msg) (x : Nat), g ≠ [] → (∀ m ∈ t, key wd m = f) → t.foldl (stepB wd) ⟨o, gb f m0 g, x⟩ = ⟨o, gb f m0 (g ++ t), x + wos t⟩ := by
  induction t with
  | nil => intro g x _ _; rw [List.append_nil]; rfl
  | cons m t ih =>
    intro g x hne hk
    have hf : m.tick / wd * wd = f := hk m List.mem_cons_self
    have e : stepB wd ⟨o, gb f m0 g, x⟩ m = ⟨o, gb f m0 (g ++ [m]), x + wo m⟩ := by
      unfold stepB
      dsimp only
      rw [if_pos (show (gb f m0 g).trd = 0 ∨ (gb f m0 g).frm = m.tick / wd * wd from Or.inr hf.symm), hf, gb_snoc f m0 g m hne]
    rw [List.foldl_cons, e, ih (g ++ [m]) (x + wo m) (by simp) (fun y hy => hk y (List.mem_cons_of_mem _ hy))]
    have e2 : wos (m :: t) = wo m + wos t := by
      have : ∀ (t : List Msg) (a : Nat), t.foldl (fun x m => x + wo m) a = a + t.foldl (fun x m => x + wo m) 0 := by
        intro t
        induction t with
        | nil => intro a; rfl
        | cons y t ih => intro a; rw [List.foldl_cons, List.foldl_cons, ih (a + wo y), ih (0 + wo y)]; omega
      unfold wos
      rw [List.foldl_cons, this]; omega
    rw [e2, List.append_assoc]
    congr 1
    omega
theorem wos_pairs (g : List Msg) (hg : ∀ m ∈ g, Good m) : wos g = Ref01.worth (pairs g) ∧ volF g = (Ref01.volume (pairs g) : Int) := by
  revert hg
  refine rev_ind (p := fun g => (∀ m ∈ g, Good m) → wos g = Ref01.worth (pairs g) ∧ volF g = (Ref01.volume (pairs g) : Int)) ?_ ?_ g
  · intro _; exact ⟨rfl, rfl⟩
  · intro g m ih hg
    obtain ⟨h1, h2⟩ := ih (fun x hx => hg x (List.mem_append_left _ hx))
    have hm := hg m (List.mem_append_right _ List.mem_cons_self)
    have hp := hm.p1
    have hq := hm.q1
    have e1 : pairs (g ++ [m]) = pairs g ++ [(m.price.toNat, m.qty.toNat)] := by simp [pairs]
    rw [wos_snoc, volF_snoc, e1, Ref01.worth_app, Ref01.volume_app, h1, h2]
    have e2 : wo m = m.price.toNat * m.qty.toNat := by
      unfold wo
      rw [Int.toNat_mul (by omega) (by omega)]
    refine ⟨by rw [e2]; simp [Ref01.worth], ?_⟩
    simp only [Ref01.volume, Nat.add_zero]
    omega
theorem last_get (p : Int) (g : List Msg) (n : Nat) (h : g.length = n + 1) : lastP p g = (g[n]'(by omega)).price := by
  have e : g = g.take n ++ [g[n]'(by omega)] := by
    rw [← List.take_succ_eq_append_getElem (by omega), List.take_of_length_le (by omega)]
  have e2 : lastP p (g.take n ++ [g[n]'(by omega)]) = (g[n]'(by omega)).price := by unfold lastP; rw [List.foldl_append]; rfl
  rw [← e] at e2
  exact e2
theorem done_group (f : Int) (m0 : Msg) (g : List Msg) (n : Nat) (h : g.length = n + 1) (hg : ∀ m ∈ g, Good m) : doneF (gb f m0 g) (wos g) = ofF f g m0 (g[n]'(by omega)) := by
  obtain ⟨h1, h2⟩ := wos_pairs g hg
  have e : (volF g).toNat = Ref01.volume (pairs g) := by rw [h2, Int.toNat_natCast]
  show (⟨f, m0.price, hiF m0.price g, loF m0.price g, lastP m0.price g, volF g, (g.length : Int), ((wos g / (volF g).toNat : Nat) : Int)⟩ : Bar) = ⟨f, m0.price, hiF m0.price g, loF m0.price g, (g[n]'(by omega)).price, volF g, (g.length : Int), ((Ref01.worth (pairs g) / Ref01.volume (pairs g) : Nat) : Int)⟩
  rw [e, h1, last_get m0.price g n h]

/-- Where a group ends. -/
def Bd (wd : Int) (L : List Msg) (i : Nat) : Prop := (foldB wd (L.take i)).b.trd = 0 ∨ ∀ h : i < L.length, (foldB wd (L.take i)).b.frm ≠ key wd L[i]
theorem bd_zero (wd : Int) (L : List Msg) : Bd wd L 0 := .inl rfl
def grp (L : List Msg) (i k : Nat) : List Msg := (L.drop i).take (k - i)
theorem grp_len (L : List Msg) (i k : Nat) (hk : k ≤ L.length) : (grp L i k).length = k - i := by unfold grp; rw [List.length_take, List.length_drop]; omega
theorem grp_at (L : List Msg) (i k j : Nat) (hk : k ≤ L.length) (hj : j < k - i) : (grp L i k)[j]'(by rw [grp_len L i k hk]; exact hj) = L[i + j]'(by omega) := by
  unfold grp
  rw [List.getElem_take, List.getElem_drop]
theorem take_grp (L : List Msg) (i k : Nat) (hik : i ≤ k) : L.take k = L.take i ++ grp L i k := by
  unfold grp
  have := List.take_append_drop i (L.take k)
  rw [List.take_take, List.drop_take] at this
  rw [Nat.min_eq_left hik] at this
  exact this.symm
theorem group_next (wd : Int) (L : List Msg) (hL : ∀ m ∈ L, Good m) (i k : Nat) (hik : i < k) (hk : k ≤ L.length) (hbd : Bd wd L i) (hkey : ∀ j (_ : i ≤ j) (h2 : j < k), key wd (L[j]'(by omega)) = key wd (L[i]'(by omega))) :
    barsF wd (L.take k) = barsF wd (L.take i) ++ [ofF (key wd (L[i]'(by omega))) (grp L i k) (L[i]'(by omega)) (L[k - 1]'(by omega))] ∧
    (foldB wd (L.take k)).b.trd ≠ 0 ∧ (foldB wd (L.take k)).b.frm = key wd (L[i]'(by omega)) := by
  have hlen := grp_len L i k hk
  obtain ⟨t, ht⟩ : ∃ t, grp L i k = L[i]'(by omega) :: t := by
    have h0 := grp_at L i k 0 hk (by omega)
    cases hg : grp L i k with
    | nil => rw [hg] at hlen; simp at hlen; omega
    | cons y t =>
      refine ⟨t, ?_⟩
      have : (grp L i k)[0]'(by omega) = y := by simp [hg]
      rw [h0] at this
      rw [← this]; rfl
  have hgk : ∀ m ∈ grp L i k, key wd m = key wd (L[i]'(by omega)) := by
    intro m hm
    obtain ⟨j, hj, rfl⟩ := List.getElem_of_mem hm
    rw [hlen] at hj
    rw [grp_at L i k j hk hj]
    exact hkey (i + j) (by omega) (by omega)
  have hsnd := (sound_fold wd (L.take i) (fun m hm => hL m (List.mem_of_mem_take hm))).1
  have e1 : foldB wd (L.take k) = (grp L i k).foldl (stepB wd) (foldB wd (L.take i)) := by
    rw [take_grp L i k (by omega)]; unfold foldB; rw [List.foldl_append]
  have e2 : stepB wd (foldB wd (L.take i)) (L[i]'(by omega)) = ⟨barsF wd (L.take i), gb (key wd (L[i]'(by omega))) (L[i]'(by omega)) [L[i]'(by omega)], wos [L[i]'(by omega)]⟩ := by
    unfold stepB barsF
    by_cases hz : (foldB wd (L.take i)).b.trd = 0
    · rw [if_pos (Or.inl hz), if_neg (by omega), hsnd.zero hz]
      congr 1
      rw [← gb_one]
      unfold addF firstF
      rw [if_pos hz, if_pos (show Bar.zero.trd = 0 from rfl)]
      rfl
    · have hq : (foldB wd (L.take i)).b.frm ≠ key wd (L[i]'(by omega)) := by
        rcases hbd with h | h
        · exact absurd h hz
        · exact h (by omega)
      rw [if_neg (by intro h; rcases h with h | h; exact hz h; exact hq h), if_pos (by have := hsnd.t0; omega)]
      congr 1
      all_goals first | exact gb_one _ _ | simp [wos]
  have e3 : foldB wd (L.take k) = ⟨barsF wd (L.take i), gb (key wd (L[i]'(by omega))) (L[i]'(by omega)) (grp L i k), wos (grp L i k)⟩ := by
    rw [e1, ht, List.foldl_cons, e2, fold_group wd _ _ _ t _ _ (by simp) (fun m hm => hgk m (by rw [ht]; exact List.mem_cons_of_mem _ hm))]
    congr 1
    have : ∀ (t : List Msg) (a : Nat), t.foldl (fun x m => x + wo m) a = a + t.foldl (fun x m => x + wo m) 0 := by
      intro t
      induction t with
      | nil => intro a; rfl
      | cons y t ih => intro a; rw [List.foldl_cons, List.foldl_cons, ih (a + wo y), ih (0 + wo y)]; omega
    unfold wos
    rw [List.foldl_cons, List.foldl_cons, List.foldl_nil, this t (0 + _)]
  have htrd : (foldB wd (L.take k)).b.trd = ((k - i : Nat) : Int) := by
    rw [e3]; show ((grp L i k).length : Int) = _; rw [hlen]
  refine ⟨?_, by rw [htrd]; omega, by rw [e3]; rfl⟩
  unfold barsF
  rw [if_pos (by rw [htrd]; omega), e3]
  dsimp only
  have hd := done_group (key wd (L[i]'(by omega))) (L[i]'(by omega)) (grp L i k) (k - i - 1) (by rw [hlen]; omega) (fun m hm => hL m (List.mem_of_mem_drop (List.mem_of_mem_take hm)))
  rw [grp_at L i k (k - i - 1) hk (by omega)] at hd
  rw [hd]
  unfold barsF
  congr 3
  all_goals (congr 1; omega)
end Go.Proofs.Ytogjgpiddjmpiaa.Tape
