/- Parts of the proof: WNumbersW. -/
import Derived.Test.YtmkcooamgojbpaaDoorPart21
import Derived.Test.YtmkcooamgojbpaaDoorPart23
import Derived.Deep.DeepCutAuto
import Derived.Deep.CutBlock
import Derived.Deep.QuietTactic

/- damperlaw35.WordsNumbers: the walk. -/
namespace Go.Proofs.YtmkcooamgojbpaaDoor.Lines
open Go.RowKit Go.Proofs.YtmkcooamgojbpaaDoor.Kit Go.Proofs.YtmkcooamgojbpaaDoor.Blk Go.Proofs.YtmkcooamgojbpaaDoor.Dec Go.Proofs.YtmkcooamgojbpaaDoor.Words Go.Proofs.YtmkcooamgojbpaaDoor.Octets
attribute [local go_sem ↓] Go.wp_at_zero Go.wp_at_succ
set_option linter.unusedVariables false

theorem StrRow.slice {v : Value} {ws : List (List UInt8)} {W : World} (h : StrRow v ws W) : ∃ a c, v = .slice a ws.length c := by
  rcases h with ⟨rfl, rfl⟩ | ⟨_, b, c, h1, _⟩
  · exact ⟨_, _, rfl⟩
  · exact ⟨_, _, h1⟩
theorem StrRow.get {a : Option Addr} {n c : Nat} {ws : List (List UInt8)} {W W' : World} (h : StrRow (.slice a n c) ws W) (hb : Below W.heap.size W W') (k : Nat) (hk : k < ws.length) : ∃ g, a = some ⟨g, 0, none⟩ ∧ W'.cell? ⟨g, k, none⟩ = some (.string (strB ws[k])) := by
  rcases h with ⟨rfl, h⟩ | ⟨_, b, c', h1, h2, h3, h4⟩
  · cases hk
  · injection h1 with h1
    exact ⟨b, h1, by rw [hb.cell (p := ⟨b, k, none⟩) h3]; exact h4 k hk⟩
set_option maxRecDepth 20000 in
set_option maxHeartbeats 4000000 in
theorem numbers_list (l : List UInt8) (w : World) (hm : MX w) : Calls Tryd.prog 6 #[.string (strB l)] w (AliveW w) := by
  have HM := Lib.hid hm
  have z1 : (strB l).size = l.length := strB_size l
  by_cases h : 300 < l.length
  · have b1 : (300 : Int) < (l.length : Int) := by omega
    clear hm
    go_enter Tryd.func6, Tryd.ntmps6
    go_wp2_with fail
    refine (alive35_any w HM.out).mono ?_
    rintro e w1 ⟨rfl, hb⟩
    have HB := Lib.hid hb
    clear hb
    go_wp2_with fail
    go_ret
    exact ⟨rfl, HB.out⟩
  · have b1 : ¬ (300 : Int) < (l.length : Int) := by omega
    have H1 := Lib.hid (fun W => wnumber_any l (by omega) W)
    have H2 := Lib.hid (fun W => rnumber_any l (by omega) W)
    have H3 := Lib.hid (fun W h => split_any l (by omega) W h)
    have H4 := Lib.hid (fun W => rsplit_any l (by omega) W)
    have hln : (splitW l).length ≤ 301 := by
      have := split_len l
      omega
    unfold NumIs at H1 H2
    unfold SplitIs at H3 H4
    generalize splitW l = ws at H3 H4 hln
    generalize (numF l).getD 0 = n at H1 H2
    generalize (numF l).isSome = ok at H1 H2
    clear hm h
    go_enter Tryd.func6, Tryd.ntmps6
    go_wp2_with fail
    refine (H1.out _).mono ?_
    rintro e w1 ⟨rfl, hb1⟩
    have HB1 := Lib.hid hb1
    clear hb1
    go_wp2_with fail
    refine (H2.out _).mono ?_
    rintro e w2 ⟨rfl, hb2⟩
    have HB2 := Lib.hid (HB1.out.trans (hb2.mono HB1.out.size))
    clear hb2
    go_wp2_with fail
    refine (H3.out _ (HM.out.below (n := 0) HB2.out)).mono ?_
    rintro e w3 ⟨v3, rfl, hr3, hb3⟩
    have HB3 := Lib.hid (HB2.out.trans (hb3.mono HB2.out.size))
    obtain ⟨a3, c3, rfl⟩ := hr3.slice
    have HR3 := Lib.hid hr3
    clear hb3 hr3
    go_wp2_with fail
    refine (H4.out _).mono ?_
    rintro e w4 ⟨v4, rfl, hr4, hb4⟩
    have HB4 := Lib.hid (HB3.out.trans (hb4.mono HB3.out.size))
    obtain ⟨a4, c4, rfl⟩ := hr4.slice
    have HR4 := Lib.hid hr4
    have HG3 := Lib.hid (HR3.out.below hb4)
    clear hb4 hr4 HR3 H1 H2 H3 H4
    go_wp2_with fail
    go_loopw [9] (fun i wr => ∃ k : Nat, k ≤ ws.length ∧ i = .int .i64 k ∧ Below w4.heap.size w4 wr) (fun i _ => ws.length - (intOf i).toNat)
    case atStart => exact ⟨0, by omega, rfl, Below.refl _ _⟩
    case round =>
      obtain ⟨k, hk, rfl, hbel⟩ := hrel
      have HBL := Lib.hid hbel
      clear hbel
      by_cases hlt : k < ws.length
      · obtain ⟨g3, rfl, k3⟩ := HG3.out.get HBL.out k hlt
        obtain ⟨g4, rfl, k4⟩ := HR4.out.get HBL.out k hlt
        have bs : ∀ S : ByteArray, (S.toList == S.toList) = true := fun S => by simp
        have bS := bs (strB ws[k])
        clear bs
        generalize strB ws[k] = S at k3 k4 bS
        have hkl : (k : Int) < (ws.length : Int) := by omega
        go_wp2_with fail
        go_quiet (fail)
        go_wp2_with fail
        go_roundw
        case rel => exact ⟨k + 1, by omega, by go_num, HBL.out.drewN nq⟩
        case measure => simp [intOf]; omega
      · go_wp2_with fail
        refine (alive35_any _ (HM.out.below (n := 0) (HB4.out.trans (HBL.out.mono HB4.out.size)))).mono ?_
        rintro e w6 ⟨rfl, hb6⟩
        have HB6 := Lib.hid ((HB4.out.trans (HBL.out.mono HB4.out.size)).trans (hb6.mono (Nat.le_trans HB4.out.size HBL.out.size)))
        clear hb6
        go_wp2_with fail
        go_ret
        exact ⟨rfl, HB6.out⟩
theorem numbers_law (s : ByteArray) (w : World) (hm : MX w) : Calls Tryd.prog 6 #[.string s] w (AliveW w) := by
  have h := numbers_list s.data.toList w hm
  rwa [show strB s.data.toList = s by simp [strB]] at h
end Go.Proofs.YtmkcooamgojbpaaDoor.Lines
