/- report.Word and damperref36.Word; report.names. -/
import Derived.Test.YtmkcooamgojbpaaDoorMsgRight
import Derived.Test.YtmkcooamgojbpaaDoorFresh
namespace Go.Proofs.YtmkcooamgojbpaaDoor.Reports
open Go.RowKit Go.Proofs.YtmkcooamgojbpaaDoor.Kit Go.Proofs.YtmkcooamgojbpaaDoor.Blk Go.Proofs.YtmkcooamgojbpaaDoor.Dec Go.Proofs.YtmkcooamgojbpaaDoor.Words Go.Proofs.YtmkcooamgojbpaaDoor.Octets Go.Proofs.YtmkcooamgojbpaaDoor.Lines Go.Proofs.YtmkcooamgojbpaaDoor.Msgs
attribute [local go_sem ↓] Go.wp_at_zero Go.wp_at_succ
set_option linter.unusedVariables false

def namesC : Array Value := (strs kindsF).toArray
theorem namesC_at {k : Int} (h : 1 ≤ k ∧ k ≤ 9) : namesC[k.toNat]? = some (.string (strB (wordK k))) := by
  rcases cases9 h with rfl | rfl | rfl | rfl | rfl | rfl | rfl | rfl | rfl <;> rfl
theorem wordK_none {k : Int} (h : k < 1 ∨ 9 < k) : wordK k = [] := by
  unfold wordK
  rw [if_neg (by omega)]
set_option maxRecDepth 20000 in
theorem names_any (w : World) : Calls Tryd.prog 107 #[] w fun e w' => e = .returned (.agg namesC) ∧ Below w.heap.size w w' := by
  go_enter Tryd.func107, Tryd.ntmps107
  go_wp2_with fail
  refine bodyPost_ret (v := .agg namesC) (by simp [results, Tryd.results107, go_sem]; rfl) rfl ⟨rfl, (Below.refl _ _).alloc (Nat.le_refl _) _⟩
def zeroNames : Array Value := #[.string ⟨#[]⟩, .string ⟨#[]⟩, .string ⟨#[]⟩, .string ⟨#[]⟩, .string ⟨#[]⟩, .string ⟨#[]⟩, .string ⟨#[]⟩, .string ⟨#[]⟩, .string ⟨#[]⟩, .string ⟨#[]⟩]
theorem one_names : namesC.all (·.oneCell') = true := by simp [namesC, strs, Value.oneCell', kindsF]
set_option maxRecDepth 20000 in
set_option maxHeartbeats 4000000 in
theorem word_any (k : Int) (w : World) : Calls Tryd.prog 46 #[.int .i64 k] w fun e w' => e = .returned (.string (strB (wordK k))) ∧ Below w.heap.size w w' := by
  by_cases h1 : k < 1
  · have HE := Lib.hid (wordK_none (.inl h1))
    go_enter Tryd.func46, Tryd.ntmps46
    go_wp2_with fail
    refine (names_any w).mono ?_
    rintro e w1 ⟨rfl, hb⟩
    have HB := Lib.hid (hb.alloc hb.size (.cells namesC 157))
    clear hb
    have HZ := Lib.hid (Blk.new w1 zeroNames 157 w1.heap.size rfl)
    have HN := Lib.hid (Blk.new w1 namesC 157 w1.heap.size rfl)
    go_upto_region 2 with (refine store_blk (by rfl) 157 _ _ (by rfl) w1.heap.size (by rfl) zeroNames namesC 157 HZ.out (by rfl) rfl (by kernel_rfl) one_names ?_; change wpList _ _ _ _ _ (World.setCells (w1.alloc (.cells zeroNames 157)) w1.heap.size 0 namesC.toList); rw [alloc_setCells w1 zeroNames namesC 157 rfl w1.heap.size rfl])
    generalize w1.alloc (.cells namesC 157) = w2 at HB HN ⊢
    clear HZ
    go_wp2_with fail
    go_ret
    exact ⟨by rw [HE.out]; rfl, HB.out⟩
  · by_cases h2 : 9 < k
    · have HE := Lib.hid (wordK_none (.inr h2))
      have h3 : k ≥ 10 := by omega
      go_enter Tryd.func46, Tryd.ntmps46
      go_wp2_with fail
      refine (names_any w).mono ?_
      rintro e w1 ⟨rfl, hb⟩
      have HB := Lib.hid (hb.alloc hb.size (.cells namesC 157))
      clear hb
      have HZ := Lib.hid (Blk.new w1 zeroNames 157 w1.heap.size rfl)
      have HN := Lib.hid (Blk.new w1 namesC 157 w1.heap.size rfl)
      go_upto_region 2 with (refine store_blk (by rfl) 157 _ _ (by rfl) w1.heap.size (by rfl) zeroNames namesC 157 HZ.out (by rfl) rfl (by kernel_rfl) one_names ?_; change wpList _ _ _ _ _ (World.setCells (w1.alloc (.cells zeroNames 157)) w1.heap.size 0 namesC.toList); rw [alloc_setCells w1 zeroNames namesC 157 rfl w1.heap.size rfl])
      generalize w1.alloc (.cells namesC 157) = w2 at HB HN ⊢
      clear HZ
      go_wp2_with fail
      go_ret
      exact ⟨by rw [HE.out]; rfl, HB.out⟩
    · have h3 : k < 10 := by omega
      have HK := Lib.hid (namesC_at (k := k) ⟨by omega, by omega⟩)
      go_enter Tryd.func46, Tryd.ntmps46
      go_wp2_with fail
      refine (names_any w).mono ?_
      rintro e w1 ⟨rfl, hb⟩
      have HB := Lib.hid (hb.alloc hb.size (.cells namesC 157))
      clear hb
      have HZ := Lib.hid (Blk.new w1 zeroNames 157 w1.heap.size rfl)
      have HN := Lib.hid (Blk.new w1 namesC 157 w1.heap.size rfl)
      go_upto_region 2 with (refine store_blk (by rfl) 157 _ _ (by rfl) w1.heap.size (by rfl) zeroNames namesC 157 HZ.out (by rfl) rfl (by kernel_rfl) one_names ?_; change wpList _ _ _ _ _ (World.setCells (w1.alloc (.cells zeroNames 157)) w1.heap.size 0 namesC.toList); rw [alloc_setCells w1 zeroNames namesC 157 rfl w1.heap.size rfl])
      generalize w1.alloc (.cells namesC 157) = w2 at HB HN ⊢
      clear HZ
      have ck : w2.cell? ⟨w1.heap.size, k.toNat, none⟩ = some (.string (strB (wordK k))) := HN.out.cell _ HK.out
      go_wp2_with fail
      go_ret
      exact ⟨rfl, HB.out⟩
end Go.Proofs.YtmkcooamgojbpaaDoor.Reports
