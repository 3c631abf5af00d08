/- All bars together, in plain numbers. -/
import Derived.Test.YtogjgpiddjmpiaaTapeWhole
import Derived.Test.YtogjgpiddjmpiaaTapeMerge
namespace Go.Proofs.Ytogjgpiddjmpiaa.Tape
set_option linter.unusedVariables false
open Go.RowKit Go.Proofs.Ytogjgpiddjmpiaa.Kit Go.Proofs.Ytogjgpiddjmpiaa.Blk Go.Proofs.Ytogjgpiddjmpiaa.Msgs

/-- What is true of a bar that is closed. -/
structure GoodBar (wd : Int) (b : Bar) : Prop where
  m1 : b.low ≤ b.mean
  m2 : b.mean ≤ b.high
  o1 : b.low ≤ b.opn
  c1 : b.cls ≤ b.high
  f1 : b.frm % wd = 0
  t1 : 1 ≤ b.trd
  l1 : 1 ≤ b.low
  h1 : b.high ≤ 1099511627776
/-- What is true of a maker that has a trade. -/
structure GoodMk (wd : Int) (b : Bar) (x : Nat) : Prop where
  t1 : 1 ≤ b.trd
  v1 : 1 ≤ b.vol
  l1 : 1 ≤ b.low
  o1 : b.low ≤ b.opn
  c1 : b.cls ≤ b.high
  h1 : b.high ≤ 1099511627776
  x1 : b.low * b.vol ≤ x
  x2 : x ≤ b.high * b.vol
  f1 : b.frm % wd = 0
theorem good_one (wd : Int) (m : Msg) (hg : Good m) : GoodMk wd (addF Bar.zero (m.tick / wd * wd) m) (wo m) := by
  have hw := (wo_le hg).1
  have hp1 := hg.p1; have hp2 := hg.p2; have hq1 := hg.q1
  have e : addF Bar.zero (m.tick / wd * wd) m = ⟨m.tick / wd * wd, m.price, max m.price m.price, min m.price m.price, m.price, 0 + m.qty, 0 + 1, 0⟩ := by
    unfold addF firstF; rw [if_pos (show Bar.zero.trd = 0 from rfl)]; rfl
  rw [e]
  refine ⟨?_, ?_, ?_, ?_, ?_, ?_, ?_, ?_, ?_⟩ <;> dsimp only
  · omega
  · omega
  · omega
  · omega
  · omega
  · omega
  · rw [Int.min_self, Int.zero_add]; omega
  · rw [Int.max_self, Int.zero_add]; omega
  · exact Int.mul_emod_left _ _
theorem good_next (wd : Int) (b : Bar) (x : Nat) (f : Int) (m : Msg) (hg : Good m) (h : GoodMk wd b x) : GoodMk wd (addF b f m) (x + wo m) := by
  have hw := (wo_le hg).1
  have hp1 := hg.p1; have hp2 := hg.p2; have hq1 := hg.q1
  have e : addF b f m = ⟨b.frm, b.opn, max b.high m.price, min b.low m.price, m.price, b.vol + m.qty, b.trd + 1, b.mean⟩ := by
    unfold addF firstF; rw [if_neg (by have := h.t1; omega)]; rfl
  rw [e]
  have t1 := h.t1; have v1 := h.v1; have l1 := h.l1; have o1 := h.o1; have h1 := h.h1; have x1 := h.x1; have x2 := h.x2
  have k1 : min b.low m.price * b.vol ≤ b.low * b.vol := Int.mul_le_mul_of_nonneg_right (by omega) (by omega)
  have k2 : min b.low m.price * m.qty ≤ m.price * m.qty := Int.mul_le_mul_of_nonneg_right (by omega) (by omega)
  have k3 : b.high * b.vol ≤ max b.high m.price * b.vol := Int.mul_le_mul_of_nonneg_right (by omega) (by omega)
  have k4 : m.price * m.qty ≤ max b.high m.price * m.qty := Int.mul_le_mul_of_nonneg_right (by omega) (by omega)
  refine ⟨?_, ?_, ?_, ?_, ?_, ?_, ?_, ?_, h.f1⟩ <;> dsimp only
  · omega
  · omega
  · omega
  · omega
  · omega
  · omega
  · rw [Int.mul_add]; omega
  · rw [Int.mul_add]; omega
theorem good_done (wd : Int) (b : Bar) (x : Nat) (h : GoodMk wd b x) : GoodBar wd (doneF b x) := by
  have v1 := h.v1
  have e : ((x / b.vol.toNat : Nat) : Int) = (x : Int) / b.vol := by
    rw [Int.natCast_ediv, Int.toNat_of_nonneg (by omega)]
  refine ⟨?_, ?_, h.o1, h.c1, h.f1, h.t1, h.l1, h.h1⟩
  · show b.low ≤ ((x / b.vol.toNat : Nat) : Int)
    rw [e]
    exact Int.le_ediv_of_mul_le (by omega) h.x1
  · show ((x / b.vol.toNat : Nat) : Int) ≤ b.high
    rw [e]
    exact Int.ediv_le_of_le_mul (by omega) h.x2
/-- All bars that are closed, and the maker. -/
theorem good_fold (wd : Int) (l : List Msg) (hl : ∀ m ∈ l, Good m) : (∀ d ∈ (foldB wd l).out, GoodBar wd d) ∧ (l ≠ [] → GoodMk wd (foldB wd l).b (foldB wd l).x) := by
  revert hl
  refine rev_ind (p := fun l => (∀ m ∈ l, Good m) → (∀ d ∈ (foldB wd l).out, GoodBar wd d) ∧ (l ≠ [] → GoodMk wd (foldB wd l).b (foldB wd l).x)) ?_ ?_ l
  · exact fun _ => ⟨fun d hd => by simp [foldB] at hd, fun h => absurd rfl h⟩
  · intro l m ih hl
    have hg := hl m (List.mem_append_right _ List.mem_cons_self)
    have hl' : ∀ x ∈ l, Good x := fun x hx => hl x (List.mem_append_left _ hx)
    obtain ⟨h1, h2⟩ := ih hl'
    have hs := (sound_fold wd l hl').1
    rw [foldB_snoc]
    by_cases hne : l = []
    · subst hne
      have e : stepB wd (foldB wd []) m = ⟨[], addF Bar.zero (m.tick / wd * wd) m, wo m⟩ := by
        unfold stepB
        rw [if_pos (show (foldB wd []).b.trd = 0 ∨ (foldB wd []).b.frm = m.tick / wd * wd from Or.inl rfl)]
        show (⟨[], addF Bar.zero (m.tick / wd * wd) m, 0 + wo m⟩ : St) = _
        rw [Nat.zero_add]
      rw [e]
      exact ⟨fun d hd => by simp at hd, fun _ => good_one wd m hg⟩
    · have hk := h2 hne
      unfold stepB
      split
      · exact ⟨h1, fun _ => good_next wd _ _ _ m hg hk⟩
      · refine ⟨fun d hd => ?_, fun _ => good_one wd m hg⟩
        rcases List.mem_append.1 hd with hd | hd
        · exact h1 d hd
        · rw [List.mem_singleton] at hd
          subst hd
          exact good_done wd _ _ hk
theorem good_bars (wd : Int) (l : List Msg) (hl : ∀ m ∈ l, Good m) : ∀ d ∈ barsF wd l, GoodBar wd d := by
  obtain ⟨h1, h2⟩ := good_fold wd l hl
  unfold barsF
  split
  · rename_i ht
    intro d hd
    rcases List.mem_append.1 hd with hd | hd
    · exact h1 d hd
    · rw [List.mem_singleton] at hd
      subst hd
      refine good_done wd _ _ (h2 (fun e => ?_))
      subst e
      exact absurd ht (by show ¬ (0 : Int) < 0; omega)
  · exact h1
theorem bars_some (wd : Int) (l : List Msg) (hl : ∀ m ∈ l, Good m) (hne : l ≠ []) : barsF wd l = (foldB wd l).out ++ [doneF (foldB wd l).b (foldB wd l).x] := by
  have h := (good_fold wd l hl).2 hne
  unfold barsF
  rw [if_pos (by have := h.t1; omega)]

/-- All bars, merged. -/
def mstep (a d : Bar) : Bar := if a.trd = 0 then d else mergedF a d ((a.mean.toNat * a.vol.toNat + d.mean.toNat * d.vol.toNat) / (a.vol.toNat + d.vol.toNat))
def mergeL (l : List Bar) : Bar := l.foldl mstep Bar.zero
theorem mergeL_snoc (l : List Bar) (d : Bar) : mergeL (l ++ [d]) = mstep (mergeL l) d := by unfold mergeL; rw [List.foldl_append]; rfl
structure Agree (x y : Bar) : Prop where
  o : x.opn = y.opn
  h : x.high = y.high
  l : x.low = y.low
  c : x.cls = y.cls
  v : x.vol = y.vol
  t : x.trd = y.trd
theorem merge_trd (l : List Bar) (hl : ∀ d ∈ l, 1 ≤ d.trd) : 0 ≤ (mergeL l).trd := by
  revert hl
  refine rev_ind (p := fun l => (∀ d ∈ l, 1 ≤ d.trd) → 0 ≤ (mergeL l).trd) ?_ ?_ l
  · intro _; show (0 : Int) ≤ 0; omega
  · intro l d ih hl
    have h1 := ih (fun x hx => hl x (List.mem_append_left _ hx))
    have h2 := hl d (List.mem_append_right _ List.mem_cons_self)
    rw [mergeL_snoc]
    unfold mstep
    split
    · omega
    · show 0 ≤ (mergeL l).trd + d.trd; omega
theorem merge_agree (wd : Int) (l : List Msg) (hl : ∀ m ∈ l, Good m) (hne : l ≠ []) : Agree (mergeL (barsF wd l)) (wb l) := by
  revert hl hne
  refine rev_ind (p := fun l => (∀ m ∈ l, Good m) → l ≠ [] → Agree (mergeL (barsF wd l)) (wb l)) ?_ ?_ l
  · intro _ h; exact absurd rfl h
  · intro l m ih hl hne
    have hg := hl m (List.mem_append_right _ List.mem_cons_self)
    have hl' : ∀ x ∈ l, Good x := fun x hx => hl x (List.mem_append_left _ hx)
    rw [bars_some wd _ hl hne, mergeL_snoc, foldB_snoc]
    by_cases hn : l = []
    · subst hn
      have e : stepB wd (foldB wd []) m = ⟨[], addF Bar.zero (m.tick / wd * wd) m, wo m⟩ := by
        unfold stepB
        rw [if_pos (show (foldB wd []).b.trd = 0 ∨ (foldB wd []).b.frm = m.tick / wd * wd from Or.inl rfl)]
        show (⟨[], addF Bar.zero (m.tick / wd * wd) m, 0 + wo m⟩ : St) = _
        rw [Nat.zero_add]
      rw [e]
      have e2 : mstep (mergeL []) (doneF (addF Bar.zero (m.tick / wd * wd) m) (wo m)) = doneF (addF Bar.zero (m.tick / wd * wd) m) (wo m) := if_pos rfl
      rw [show (⟨[], addF Bar.zero (m.tick / wd * wd) m, wo m⟩ : St).out = [] from rfl, e2, gb_one]
      exact ⟨rfl, rfl, rfl, rfl, rfl, rfl⟩
    · have hA := ih hl' hn
      rw [bars_some wd l hl' hn, mergeL_snoc] at hA
      have hgm := (good_fold wd l hl').2 hn
      have hwt : ¬ (wb l).trd = 0 := by
        rw [wb_trd]
        have : l.length ≠ 0 := fun e => hn (List.length_eq_zero_iff.1 e)
        omega
      have hwb : wb (l ++ [m]) = nextF (wb l) m := by
        rw [← wb_snoc, if_pos (by rw [wb_trd] at hwt ⊢; omega)]
        unfold addF firstF
        rw [if_neg hwt]
      rw [hwb]
      have htb := hgm.t1
      generalize hA0 : mergeL (foldB wd l).out = A at hA ⊢
      unfold stepB
      by_cases hc : (foldB wd l).b.trd = 0 ∨ (foldB wd l).b.frm = m.tick / wd * wd
      · rw [if_pos hc]
        dsimp only
        rw [hA0]
        have e : addF (foldB wd l).b (m.tick / wd * wd) m = nextF (foldB wd l).b m := by
          unfold addF firstF; rw [if_neg (by omega)]
        rw [e]
        generalize (foldB wd l).b = b at hA ⊢
        generalize wb l = W at hA ⊢
        unfold mstep at hA ⊢
        by_cases hz : A.trd = 0
        · rw [if_pos hz] at hA ⊢
          obtain ⟨a1, a2, a3, a4, a5, a6⟩ := hA
          exact ⟨a1, by show max _ _ = max _ _; rw [← a2]; rfl, by show min _ _ = min _ _; rw [← a3]; rfl, rfl, by show _ + _ = _ + _; rw [← a5]; rfl, by show _ + _ = _ + _; rw [← a6]; rfl⟩
        · rw [if_neg hz] at hA ⊢
          obtain ⟨a1, a2, a3, a4, a5, a6⟩ := hA
          refine ⟨a1, ?_, ?_, rfl, ?_, ?_⟩
          · have a2 : max A.high b.high = W.high := a2
            show max A.high (max b.high m.price) = max W.high m.price
            omega
          · have a3 : min A.low b.low = W.low := a3
            show min A.low (min b.low m.price) = min W.low m.price
            omega
          · have a5 : A.vol + b.vol = W.vol := a5
            show A.vol + (b.vol + m.qty) = W.vol + m.qty
            omega
          · have a6 : A.trd + b.trd = W.trd := a6
            show A.trd + (b.trd + 1) = W.trd + 1
            omega
      · rw [if_neg hc]
        dsimp only
        rw [mergeL_snoc, hA0]
        generalize mstep A (doneF (foldB wd l).b (foldB wd l).x) = A' at hA ⊢
        generalize wb l = W at hA hwt ⊢
        obtain ⟨a1, a2, a3, a4, a5, a6⟩ := hA
        unfold mstep
        rw [if_neg (by rw [a6]; exact hwt), gb_one]
        refine ⟨a1, ?_, ?_, rfl, ?_, ?_⟩
        · show max A'.high (max m.price m.price) = max W.high m.price
          rw [a2]; omega
        · show min A'.low (min m.price m.price) = min W.low m.price
          rw [a3]; omega
        · show A'.vol + (0 + m.qty) = W.vol + m.qty
          rw [a5]; omega
        · show A'.trd + 1 = W.trd + 1
          rw [a6]
/-- Bounds while bars are merged. -/
structure MOK (n : Nat) (b : Bar) : Prop where
  m0 : 0 ≤ b.mean
  m1 : b.mean ≤ 1099511627776
  t0 : 1 ≤ b.trd
  t1 : b.trd ≤ n * 150
  v0 : 1 ≤ b.vol
  v1 : b.vol ≤ n * 644245094400
theorem mok_step {n : Nat} {a d : Bar} (ha : MOK n a) (hd : MOK 1 d) : MOK (n + 1) (mstep a d) := by
  have k1 := ha.m0; have k2 := ha.m1; have k3 := ha.t0; have k4 := ha.t1; have k5 := ha.v0; have k6 := ha.v1
  have l1 := hd.m0; have l2 := hd.m1; have l3 := hd.t0; have l4 := hd.t1; have l5 := hd.v0; have l6 := hd.v1
  unfold mstep
  rw [if_neg (by omega)]
  have hm : (a.mean.toNat * a.vol.toNat + d.mean.toNat * d.vol.toNat) / (a.vol.toNat + d.vol.toNat) ≤ 1099511627776 := by
    apply Nat.div_le_of_le_mul
    have h1 := Nat.mul_le_mul_right a.vol.toNat (show a.mean.toNat ≤ 1099511627776 by omega)
    have h2 := Nat.mul_le_mul_right d.vol.toNat (show d.mean.toNat ≤ 1099511627776 by omega)
    omega
  generalize (a.mean.toNat * a.vol.toNat + d.mean.toNat * d.vol.toNat) / (a.vol.toNat + d.vol.toNat) = q at hm ⊢
  refine ⟨?_, ?_, ?_, ?_, ?_, ?_⟩ <;> dsimp only [mergedF] <;> omega
theorem mok_done {wd : Int} {b : Bar} {x n : Nat} (h : GoodMk wd b x) (hs : Sound b x n) (hn : n ≤ 150) : MOK 1 (doneF b x) := by
  have hg := good_done wd b x h
  have h1 := hg.m1; have h2 := hg.m2; have h3 := hg.l1; have h4 := hg.h1
  have s1 := hs.t1; have s2 := hs.v1
  refine ⟨by omega, by omega, h.t1, ?_, h.v1, ?_⟩
  · show b.trd ≤ _; omega
  · show b.vol ≤ _; omega
theorem mok_fold (wd : Int) (l : List Msg) (hl : ∀ m ∈ l, Good m) (hn : l.length ≤ 150) : ∀ d ∈ (foldB wd l).out, MOK 1 d := by
  revert hl hn
  refine rev_ind (p := fun l => (∀ m ∈ l, Good m) → l.length ≤ 150 → ∀ d ∈ (foldB wd l).out, MOK 1 d) ?_ ?_ l
  · intro _ _ d hd; simp [foldB] at hd
  · intro l m ih hl hn
    have hl' : ∀ x ∈ l, Good x := fun x hx => hl x (List.mem_append_left _ hx)
    rw [List.length_append] at hn
    have h1 := ih hl' (by simp at hn; omega)
    rw [foldB_snoc]
    unfold stepB
    split
    · exact h1
    · rename_i hc
      intro d hd
      rcases List.mem_append.1 hd with hd | hd
      · exact h1 d hd
      · rw [List.mem_singleton] at hd
        subst hd
        have hne : l ≠ [] := fun e => by subst e; exact hc (Or.inl rfl)
        exact mok_done ((good_fold wd l hl').2 hne) (sound_fold wd l hl').1 (by simp at hn; omega)
theorem mok_bars (wd : Int) (l : List Msg) (hl : ∀ m ∈ l, Good m) (hn : l.length ≤ 150) : ∀ d ∈ barsF wd l, MOK 1 d := by
  intro d hd
  by_cases hne : l = []
  · subst hne
    exact absurd hd (by show d ∉ []; simp)
  · rw [bars_some wd l hl hne] at hd
    rcases List.mem_append.1 hd with hd | hd
    · exact mok_fold wd l hl hn d hd
    · rw [List.mem_singleton] at hd
      subst hd
      exact mok_done ((good_fold wd l hl).2 hne) (sound_fold wd l hl).1 hn
theorem mok_merge (l : List Bar) (hl : ∀ d ∈ l, MOK 1 d) : l = [] ∨ MOK l.length (mergeL l) := by
  revert hl
  refine rev_ind (p := fun l => (∀ d ∈ l, MOK 1 d) → l = [] ∨ MOK l.length (mergeL l)) ?_ ?_ l
  · exact fun _ => .inl rfl
  · intro l d ih hl
    have hd := hl d (List.mem_append_right _ List.mem_cons_self)
    rw [mergeL_snoc, List.length_append]
    rcases ih (fun x hx => hl x (List.mem_append_left _ hx)) with rfl | h
    · right
      rw [show mstep (mergeL []) d = d from if_pos rfl]
      exact hd
    · exact .inr (mok_step h hd)
end Go.Proofs.Ytogjgpiddjmpiaa.Tape
