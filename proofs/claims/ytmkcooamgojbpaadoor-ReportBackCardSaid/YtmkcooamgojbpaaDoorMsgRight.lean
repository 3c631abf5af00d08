/- message.Right and damperref06.Right. -/
import Derived.Test.YtmkcooamgojbpaaDoorRepNum
namespace Go.Proofs.YtmkcooamgojbpaaDoor.Reports
open Go.RowKit Go.Proofs.YtmkcooamgojbpaaDoor.Kit Go.Proofs.YtmkcooamgojbpaaDoor.Blk Go.Proofs.YtmkcooamgojbpaaDoor.Dec Go.Proofs.YtmkcooamgojbpaaDoor.Words Go.Proofs.YtmkcooamgojbpaaDoor.Octets Go.Proofs.YtmkcooamgojbpaaDoor.Lines Go.Proofs.YtmkcooamgojbpaaDoor.Msgs
attribute [local go_sem ↓] Go.wp_at_zero Go.wp_at_succ
set_option linter.unusedVariables false

theorem all_no {l : List Int} {lo hi : Int} {k : Nat} (h : k < l.length) (hb : l[k] < lo ∨ hi < l[k]) : allIn lo hi l = false := by
  cases e : allIn lo hi l with
  | false => rfl
  | true =>
    have := List.all_eq_true.1 e _ (List.getElem_mem h)
    simp at this
    omega
theorem all_yes {l : List Int} {lo hi : Int} (h : ∀ k, (hk : k < l.length) → ¬ l[k] < lo ∧ ¬ hi < l[k]) : allIn lo hi l = true := by
  refine List.all_eq_true.2 fun n hn => ?_
  obtain ⟨k, hk, rfl⟩ := List.mem_iff_getElem.1 hn
  have := h k hk
  simp; omega
set_option maxHeartbeats 1000000 in
theorem within_any (lo hi : Int) (l : List Int) (hl : l.length ≤ 1000) (B c : Nat) (w : World) (hB : Blk w B (ints l).toArray 2) :
    Calls Tryd.prog 158 #[.int .i64 lo, .int .i64 hi, .slice (some ⟨B, 0, none⟩) l.length c] w fun e w' => e = .returned (.bool (allIn lo hi l)) ∧ w = w' := by
  have HB := Lib.hid hB
  clear hB
  go_enter Tryd.func158, Tryd.ntmps158
  go_wp2_with fail
  go_loop [11] (fun i => ∃ k : Nat, k ≤ l.length ∧ i = .int .i64 k ∧ Hid (∀ j, (hj : j < l.length) → j < k → ¬ l[j] < lo ∧ ¬ hi < l[j])) (fun i => l.length - (intOf i).toNat)
  case atStart => exact ⟨0, by omega, rfl, Lib.hid fun j _ h => absurd h (Nat.not_lt_zero _)⟩
  case round =>
    obtain ⟨k, hk, rfl, HP⟩ := hrel
    by_cases hlt : k < l.length
    · have ck : w.cell? ⟨B, k, none⟩ = some (.int .i64 l[k]) := HB.out.cell k (by simp [ints, hlt])
      have HN := Lib.hid (fun h => all_no (lo := lo) (hi := hi) hlt h)
      have HY := Lib.hid (show (¬ l[k] < lo ∧ ¬ hi < l[k]) → ∀ j, (hj : j < l.length) → j < k + 1 → ¬ l[j] < lo ∧ ¬ hi < l[j] from fun h j hj hjk => by
        by_cases e : j < k
        · exact HP.out j hj e
        · have : j = k := by omega
          subst this; exact h)
      generalize l[k] = n at ck HN HY
      by_cases g1 : n < lo
      · go_wp2_with fail
        go_ret
        exact ⟨by rw [HN.out (.inl g1)]; rfl, rfl⟩
      · by_cases g2 : hi < n
        · go_wp2_with fail
          go_ret
          exact ⟨by rw [HN.out (.inr g2)]; rfl, rfl⟩
        · go_wp2_with fail
          go_round
          case rel => exact ⟨k + 1, by omega, by go_num, Lib.hid (HY.out ⟨g1, g2⟩)⟩
          case measure => simp [intOf]; omega
    · have HE := Lib.hid (all_yes (lo := lo) (hi := hi) (fun j hj => HP.out j hj (by omega)))
      go_wp2_with fail
      go_ret
      exact ⟨by rw [HE.out]; rfl, rfl⟩
set_option maxRecDepth 20000 in
set_option maxHeartbeats 2000000 in
theorem mright_any (m : Msg) (w : World) :
    Calls Tryd.prog 99 #[.agg m.cells] w fun e w' => e = .returned (.bool (rightM m)) ∧ Below w.heap.size w w' := by
  unfold Msg.cells
  go_enter Tryd.func99, Tryd.ntmps99
  go_wp2_with fail
  refine (within_any 1 9 [m.kind] (by simp) _ _ _ (Blk.new _ _ _ _ (by simp))).mono ?_
  rintro e w' ⟨rfl, rfl⟩
  cases hb1 : allIn 1 9 [m.kind]
  · have HE := Lib.hid (show rightM m = false by simp [allIn] at hb1; simp [rightM]; omega)
    go_wp2_with fail
    go_ret
    exact ⟨by rw [HE.out]; rfl, by repeat (first | exact Below.refl _ _ | refine Below.alloc ?_ (by first | (simp; done) | (simp; omega)) _)⟩
  · go_wp2_with fail
    refine (within_any 0 255 [m.sym, m.code] (by simp) _ _ _ (Blk.new _ _ _ _ (by simp))).mono ?_
    rintro e w' ⟨rfl, rfl⟩
    cases hb2 : allIn 0 255 [m.sym, m.code]
    · have HE := Lib.hid (show rightM m = false by simp [allIn] at hb2; simp [rightM]; omega)
      go_wp2_with fail
      go_ret
      exact ⟨by rw [HE.out]; rfl, by repeat (first | exact Below.refl _ _ | refine Below.alloc ?_ (by first | (simp; done) | (simp; omega)) _)⟩
    · go_wp2_with fail
      refine (within_any 0 4611686018427387904 [m.seq, m.tick] (by simp) _ _ _ (Blk.new _ _ _ _ (by simp))).mono ?_
      rintro e w' ⟨rfl, rfl⟩
      cases hb3 : allIn 0 4611686018427387904 [m.seq, m.tick]
      · have HE := Lib.hid (show rightM m = false by simp [allIn] at hb3; simp [rightM]; omega)
        go_wp2_with fail
        go_ret
        exact ⟨by rw [HE.out]; rfl, by repeat (first | exact Below.refl _ _ | refine Below.alloc ?_ (by first | (simp; done) | (simp; omega)) _)⟩
      · go_wp2_with fail
        refine (within_any (-1) 4611686018427387904 [m.id, m.wth] (by simp) _ _ _ (Blk.new _ _ _ _ (by simp))).mono ?_
        rintro e w' ⟨rfl, rfl⟩
        cases hb4 : allIn (-1) 4611686018427387904 [m.id, m.wth]
        · have HE := Lib.hid (show rightM m = false by simp [allIn] at hb4; simp [rightM]; omega)
          go_wp2_with fail
          go_ret
          exact ⟨by rw [HE.out]; rfl, by repeat (first | exact Below.refl _ _ | refine Below.alloc ?_ (by first | (simp; done) | (simp; omega)) _)⟩
        · have HE := Lib.hid (show rightM m = true by simp [allIn] at hb1 hb2 hb3 hb4; simp [rightM]; omega)
          go_wp2_with fail
          go_ret
          exact ⟨by rw [HE.out]; rfl, by repeat (first | exact Below.refl _ _ | refine Below.alloc ?_ (by first | (simp; done) | (simp; omega)) _)⟩
def inN (n lo hi : Int) : Bool := decide (lo ≤ n) && decide (n ≤ hi)
theorem in_any (n lo hi : Int) (w : World) :
    Calls Tryd.prog 160 #[.int .i64 n, .int .i64 lo, .int .i64 hi] w fun e w' => e = .returned (.bool (inN n lo hi)) ∧ w = w' := by
  by_cases h : lo ≤ n
  · have HE := Lib.hid (show inN n lo hi = decide (n ≤ hi) by simp [inN, h])
    go_enter Tryd.func160, Tryd.ntmps160
    go_wp2_with fail
    all_goals (go_ret; exact ⟨by rw [HE.out]; simp, rfl⟩)
  · have HE := Lib.hid (show inN n lo hi = false by simp [inN]; omega)
    go_enter Tryd.func160, Tryd.ntmps160
    go_wp2_with fail
    all_goals (go_ret; exact ⟨by rw [HE.out]; rfl, rfl⟩)
set_option maxRecDepth 20000 in
set_option maxHeartbeats 2000000 in
theorem rmright_any (m : Msg) (w : World) :
    Calls Tryd.prog 102 #[.agg m.cells] w fun e w' => e = .returned (.bool (rightM m)) ∧ Below w.heap.size w w' := by
  unfold Msg.cells
  go_enter Tryd.func102, Tryd.ntmps102
  go_wp2_with fail
  refine (in_any m.kind 1 9 _).mono ?_
  rintro e w' ⟨rfl, rfl⟩
  cases hb1 : inN m.kind 1 9
  · have HE := Lib.hid (show rightM m = false by simp [inN] at hb1; simp [rightM]; omega)
    go_wp2_with fail
    go_ret
    exact ⟨by rw [HE.out]; rfl, (Below.refl _ _).alloc (Nat.le_refl _) _⟩
  · go_wp2_with fail
    refine (in_any m.sym 0 255 _).mono ?_
    rintro e w' ⟨rfl, rfl⟩
    cases hb2 : inN m.sym 0 255
    · have HE := Lib.hid (show rightM m = false by simp [inN] at hb2; simp [rightM]; omega)
      go_wp2_with fail
      go_ret
      exact ⟨by rw [HE.out]; rfl, (Below.refl _ _).alloc (Nat.le_refl _) _⟩
    · go_wp2_with fail
      refine (in_any m.code 0 255 _).mono ?_
      rintro e w' ⟨rfl, rfl⟩
      cases hb3 : inN m.code 0 255
      · have HE := Lib.hid (show rightM m = false by simp [inN] at hb3; simp [rightM]; omega)
        go_wp2_with fail
        go_ret
        exact ⟨by rw [HE.out]; rfl, (Below.refl _ _).alloc (Nat.le_refl _) _⟩
      · go_wp2_with fail
        refine (in_any m.seq 0 4611686018427387904 _).mono ?_
        rintro e w' ⟨rfl, rfl⟩
        cases hb4 : inN m.seq 0 4611686018427387904
        · have HE := Lib.hid (show rightM m = false by simp [inN] at hb4; simp [rightM]; omega)
          go_wp2_with fail
          go_ret
          exact ⟨by rw [HE.out]; rfl, (Below.refl _ _).alloc (Nat.le_refl _) _⟩
        · go_wp2_with fail
          refine (in_any m.tick 0 4611686018427387904 _).mono ?_
          rintro e w' ⟨rfl, rfl⟩
          cases hb5 : inN m.tick 0 4611686018427387904
          · have HE := Lib.hid (show rightM m = false by simp [inN] at hb5; simp [rightM]; omega)
            go_wp2_with fail
            go_ret
            exact ⟨by rw [HE.out]; rfl, (Below.refl _ _).alloc (Nat.le_refl _) _⟩
          · go_wp2_with fail
            refine (in_any m.id (-1) 4611686018427387904 _).mono ?_
            rintro e w' ⟨rfl, rfl⟩
            cases hb6 : inN m.id (-1) 4611686018427387904
            · have HE := Lib.hid (show rightM m = false by simp [inN] at hb6; simp [rightM]; omega)
              go_wp2_with fail
              go_ret
              exact ⟨by rw [HE.out]; rfl, (Below.refl _ _).alloc (Nat.le_refl _) _⟩
            · go_wp2_with fail
              refine (in_any m.wth (-1) 4611686018427387904 _).mono ?_
              rintro e w' ⟨rfl, rfl⟩
              cases hb7 : inN m.wth (-1) 4611686018427387904
              · have HE := Lib.hid (show rightM m = false by simp [inN] at hb7; simp [rightM]; omega)
                go_wp2_with fail
                go_ret
                exact ⟨by rw [HE.out]; rfl, (Below.refl _ _).alloc (Nat.le_refl _) _⟩
              · have HE := Lib.hid (show rightM m = true by simp [inN] at hb1 hb2 hb3 hb4 hb5 hb6 hb7; simp [rightM]; omega)
                go_wp2_with fail
                go_ret
                exact ⟨by rw [HE.out]; rfl, (Below.refl _ _).alloc (Nat.le_refl _) _⟩
end Go.Proofs.YtmkcooamgojbpaaDoor.Reports
