/- report.kindOf. -/
import Derived.Test.YtmkcooamgojbpaaDoorRepWord
namespace Go.Proofs.YtmkcooamgojbpaaDoor.Reports
open Go.RowKit Go.Proofs.YtmkcooamgojbpaaDoor.Kit Go.Proofs.YtmkcooamgojbpaaDoor.Blk Go.Proofs.YtmkcooamgojbpaaDoor.Dec Go.Proofs.YtmkcooamgojbpaaDoor.Words Go.Proofs.YtmkcooamgojbpaaDoor.Octets Go.Proofs.YtmkcooamgojbpaaDoor.Lines Go.Proofs.YtmkcooamgojbpaaDoor.Msgs
attribute [local go_sem ↓] Go.wp_at_zero Go.wp_at_succ
set_option linter.unusedVariables false

theorem strB_inj {a b : List UInt8} : strB a = strB b ↔ a = b := ⟨fun h => by have := congrArg (fun x : ByteArray => x.data.toList) h; simpa [strB] using this, fun h => by rw [h]⟩
/-- Where a word stands among others, or -1. -/
def placeI (ws : List (List UInt8)) (l : List UInt8) : Int := match ws.findIdx? (· == l) with
  | some i => (i : Int)
  | none => -1
theorem idx_from (l : List UInt8) : ∀ (ws : List (List UInt8)) (i : Nat), Lib.idxFromS (ws.map strB) (strB l) i = match ws.findIdx? (· == l) with
    | some k => (i : Int) + (k : Int)
    | none => -1 := by
  intro ws
  induction ws with
  | nil => intro i; rfl
  | cons a ws ih =>
    intro i
    rw [List.map_cons, Lib.idxFromS, List.findIdx?_cons, ih (i + 1)]
    by_cases h : a = l
    · subst h; simp
    · have h2 : ¬ strB a = strB l := fun e => h (strB_inj.1 e)
      have h3 : (a == l) = false := by simpa using h
      rw [if_neg h2, h3]
      cases ws.findIdx? (· == l) with
      | none => rfl
      | some k => show ((i + 1 : Nat) : Int) + (k : Int) = (i : Int) + ((k + 1 : Nat) : Int); omega
theorem idx_place (ws : List (List UInt8)) (l : List UInt8) : Lib.idxOfS (ws.map strB) (strB l) = placeI ws l := by
  unfold Lib.idxOfS placeI
  rw [idx_from]
  simp
theorem kind_place (l : List UInt8) : max (placeI kindsF l) 0 = kindF l := by
  unfold placeI kindF
  cases kindsF.findIdx? (· == l) <;> simp
  omega
/-- slices.Index over words. -/
theorem index_any (b c : Nat) (ws : List (List UInt8)) (hl : ws.length ≤ 1000) (l : List UInt8) (w : World) (hb : ∀ j, (h : j < ws.length) → w.cell? ⟨b, j, none⟩ = some (.string (strB ws[j]))) :
    Calls Tryd.prog 71 #[.slice (some ⟨b, 0, none⟩) ws.length c, .string (strB l)] w fun e w' => e = .returned (.int .i64 (placeI ws l)) ∧ w' = w := by
  have h := Shelf.slices_Index_string b 0 ws.length c (ws.map strB) (strB l) w (by simp) (by omega) (fun j hj => by
    rw [List.length_map] at hj
    rw [Nat.zero_add, hb j hj]
    simp [hj])
  rw [List.take_of_length_le (by simp), idx_place] at h
  exact h
theorem names_cells {w : World} {B : Nat} (h : Blk w B namesC 157) : ∀ j, (hj : j < kindsF.length) → w.cell? ⟨B, j, none⟩ = some (.string (strB kindsF[j])) := fun j hj =>
  h.cell j (by simp [namesC, strs, hj])
set_option maxRecDepth 20000 in
set_option maxHeartbeats 4000000 in
theorem kindOf_any (l : List UInt8) (w : World) : Calls Tryd.prog 98 #[.string (strB l)] w fun e w' => e = .returned (.int .i64 (kindF l)) ∧ Below w.heap.size w w' := by
  have HK := Lib.hid (kind_place l)
  go_enter Tryd.func98, Tryd.ntmps98
  go_wp2_with fail
  refine (names_any w).mono ?_
  rintro e w1 ⟨rfl, hb⟩
  have HB := Lib.hid (hb.alloc hb.size (.cells namesC 157))
  clear hb
  have HZ := Lib.hid (Blk.new w1 zeroNames 157 w1.heap.size rfl)
  have HN := Lib.hid (Blk.new w1 namesC 157 w1.heap.size rfl)
  go_upto_region 2 with (refine store_blk (by rfl) 157 _ _ (by rfl) w1.heap.size (by rfl) zeroNames namesC 157 HZ.out (by rfl) rfl (by kernel_rfl) one_names ?_; change wpList _ _ _ _ _ (World.setCells (w1.alloc (.cells zeroNames 157)) w1.heap.size 0 namesC.toList); rw [alloc_setCells w1 zeroNames namesC 157 rfl w1.heap.size rfl])
  generalize w1.alloc (.cells namesC 157) = w2 at HB HN ⊢
  clear HZ
  have HI := Lib.hid (index_any w1.heap.size 10 kindsF (by decide) l w2 (names_cells HN.out))
  go_wp2_with fail
  refine HI.out.mono ?_
  rintro e w3 ⟨rfl, rfl⟩
  go_wp2_with fail
  go_ret
  exact ⟨by rw [← HK.out]; rfl, HB.out⟩
end Go.Proofs.YtmkcooamgojbpaaDoor.Reports
