/- tape.Busiest. -/
import Derived.Test.YtogjgpiddjmpiaaVolumes
import Derived.Test.YtogjgpiddjmpiaaSortedK
import Derived.Test.YtogjgpiddjmpiaaRefVol
namespace Go.Proofs.Ytogjgpiddjmpiaa.Tape
set_option linter.unusedVariables false
open Go.RowKit Go.Shelf Go.Proofs.Ytogjgpiddjmpiaa.Kit Go.Proofs.Ytogjgpiddjmpiaa.Blk Go.Proofs.Ytogjgpiddjmpiaa.Msgs Go.Maps
attribute [local go_sem ↓] Go.wp_at_zero Go.wp_at_succ

theorem look_vol {w : World} {b n : Nat} {L : List Msg} (h : w.ownsMap Try.prog 2 (plainElem Try.prog 2) b n (volD L)) (p : Int) (h0 : -9223372036854775808 ≤ p) (h1 : p ≤ 9223372036854775807) :
    (Instr.lookup 63 (.map (some b)) (.int .i64 p) false).run Try.prog w = .ok (.int .i64 (volP L p)) w := by
  obtain ⟨c, hrun, hat, -⟩ := h.lookup_int (Maps.int_keyed Try.underlying2) Try.underlying63 Try.underlying2 (zero64 _) (Maps.keyOf_int_mk Try.underlying2 (WalkArith.wf_i64 ⟨h0, h1⟩))
  have h2 := (volD_at L p).symm.trans hat
  have h3 : volP L p = c := congrArg (fun d : DataW Unit => match d with | .lit (.int _ c) => c | _ => 0) h2
  rw [h3]; exact hrun

theorem row_nums {w : World} {N T : Nat} {v : Value} {l : List Int} (h : w.ownsRow N T 1 v l.length (l.map encZ)) : ∃ a c, v = .slice a l.length c ∧ ∀ i, (hi : i < l.length) → ∃ b, a = some ⟨b, 0, none⟩ ∧ b < w.heap.size ∧ w.cell? ⟨b, i, none⟩ = some (.int .i64 l[i]) := by
  rcases h.2 with ⟨rfl, h0⟩ | ⟨g, cap, cur, rfl, hg, hgb, hn, hc, hsz, htk⟩
  · have h0' : l = [] := by simpa using h0
    subst h0'
    exact ⟨none, 0, rfl, fun i hi => absurd hi (by simp)⟩
  · refine ⟨_, cap, rfl, fun i hi => ⟨g, rfl, (Array.getElem?_eq_some_iff.1 hgb).1, ?_⟩⟩
    have h2 := h.cellAt (g := g) (cap := cap) i (by omega)
    rw [h2]; simp [hi, encZ]

/-- What Busiest answers. -/
def BusyIs (L : List Msg) (w : World) (e : Ending) (w' : World) : Prop := ∃ b, e = .returned (.tuple #[.int .i64 b, .bool (decide (0 < L.length))]) ∧ BusyOr (volP L) (L.map (·.price)) b ∧ Below w.heap.size w w'

theorem len_keys {L : List Msg} {l : List Int} (h : ∀ x, x ∈ l ↔ x ∈ L.map (·.price)) : decide (0 < l.length) = decide (0 < L.length) := by
  rw [decide_eq_decide]
  constructor
  · intro hl
    cases l with
    | nil => simp at hl
    | cons x l =>
      have := (h x).1 List.mem_cons_self
      cases L with
      | nil => simp at this
      | cons y L => simp
  · intro hl
    cases L with
    | nil => simp at hl
    | cons y L =>
      have := (h y.price).2 (by simp)
      cases l with
      | nil => simp at this
      | cons x l => simp

set_option maxRecDepth 20000 in
set_option maxHeartbeats 4000000 in
theorem busiest_any (a : Option Addr) (cap : Nat) (ms : List Msg) (sym : Int) (w : World) (hm : MsgRow w a ms) (hl : ms.length ≤ 1000) (hfit : ∀ m ∈ ms, m.tick ≤ 9223372036854775807) :
    Calls Try.prog 30 #[.slice a ms.length cap, .int .i64 sym] w fun e w' => BusyIs ((cnt sym ms).map Subtype.val) w e w' := by
  have HC := Lib.hid (volumes_any a cap ms sym w hm hl hfit)
  have hgd : ∀ m ∈ (cnt sym ms).map Subtype.val, Good m := fun m hm => by obtain ⟨y, _, rfl⟩ := List.mem_map.1 hm; exact y.2
  have hln : ((cnt sym ms).map Subtype.val).length ≤ 1000 := by rw [List.length_map]; have := cnt_len sym ms; omega
  clear hm hl hfit
  generalize (cnt sym ms).map Subtype.val = L at HC hgd hln ⊢
  generalize ms.length = n at HC ⊢
  go_enter Try.func30, Try.ntmps30
  go_wp2_with fail
  refine HC.out.mono ?_
  rintro e w1 ⟨b, rfl, hown, -, hb⟩
  have HB := Lib.hid hb
  have HOW := Lib.hid hown
  have HG := Lib.hid hgd
  clear hb hown hgd HC
  go_wp2_with fail
  refine (keys_any _ _).mono ?_
  rintro e w2 ⟨rfl, rfl⟩
  go_wp2_with fail
  have hsz := owns_size HOW.out
  refine (sorted_any b L.length (volD L) _ w1 HOW.out (by unfold maxLen; omega) (by omega)).mono ?_
  rintro e w3 ⟨v, ss, rfl, hperm, hrow, -, hb3⟩
  clear hsz
  have HLK := Lib.hid (fun p h0 h1 => look_vol (L := L) (b := b) ((HOW.out.alloc (.cells #[.map (some b)] 63)).kept (row := none) (w' := w3) ⟨hb3.os, hb3.tape, hb3.output, hb3.size, fun k hk _ => hb3.block k hk⟩ (by simp)) p h0 h1)
  replace HB := Lib.hid ((HB.out.alloc HB.out.size (.cells #[.map (some b)] 63)).trans (hb3.mono (by have := HB.out.size; simp; omega)))
  have hks := perm_keys hperm
  have hsd := sorted_keys ss
  have hlen : ss.length = (ss.mergeSort leI).length := (List.length_mergeSort ss).symm
  rw [hlen] at hrow
  clear hb3 hperm HOW hlen
  generalize ss.mergeSort leI = l at hks hsd hrow
  obtain ⟨va, vc, rfl, hcell⟩ := row_nums hrow
  have hle := len_keys hks
  have HLE := Lib.hid hle
  have hll : l.length ≤ maxLen := by
    rcases hrow.2 with ⟨_, h0⟩ | ⟨g, cp, cur, _, hg, hgb, hn, hc, hsz, htk⟩
    · have : l = [] := by simpa using h0
      subst this; simp
    · omega
  unfold maxLen at hll
  have HCL := Lib.hid hcell
  have HKS := Lib.hid hks
  have HSD := Lib.hid hsd
  clear hrow hcell hks hsd hle
  go_wp2_with fail
  go_loop [4, 18] (fun x i => ∃ (k : Nat) (bb : Int), k ≤ l.length ∧ i = .int .i64 k ∧ x = .int .i64 bb ∧ BusyOr (volP L) (l.take k) bb) (fun _ i => l.length - (intOf i).toNat)
  case atStart => exact ⟨0, 0, by omega, rfl, rfl, .inl ⟨rfl, rfl⟩⟩
  case round =>
    obtain ⟨k, bb, hk, rfl, rfl, hbest⟩ := hrel
    by_cases hlt : k < l.length
    · obtain ⟨g, rfl, hgl, hc⟩ := HCL.out k hlt
      have HT := Lib.hid (show l.take (k + 1) = l.take k ++ [l[k]] from List.take_succ_eq_append_getElem hlt)
      have hin : ∀ x ∈ l, 1 ≤ x ∧ x ≤ 1099511627776 := fun x hx => by
        obtain ⟨m, hm, rfl⟩ := List.mem_map.1 ((HKS.out x).1 hx)
        exact ⟨(HG.out m hm).p1, (HG.out m hm).p2⟩
      have HP := Lib.hid (hin _ (List.getElem_mem hlt))
      have HORD := Lib.hid (show ∀ x ∈ l.take k, x ≤ l[k] from fun x hx => by
        have h := HSD.out
        rw [← List.take_append_drop k l, List.pairwise_append] at h
        exact h.2.2 x hx _ (by rw [List.drop_eq_getElem_cons hlt]; exact List.mem_cons_self))
      generalize l[k] = p at hc HT HP HORD
      have HLP := Lib.hid (HLK.out p (by have := HP.out; omega) (by have := HP.out; omega))
      by_cases h0 : k = 0
      · subst h0
        have HN : Hid (BusyOr (volP L) (l.take (0 + 1)) p) := Lib.hid (by rw [HT.out]; exact .inr (busy_one _ _))
        clear hbest
        go_wp2
        go_round
        case rel => exact ⟨0 + 1, _, by omega, by go_num, rfl, HN.out⟩
        case measure => simp [intOf]; omega
      · have hy : Busy (volP L) (l.take k) bb := by
          rcases hbest with ⟨h1, -⟩ | h1
          · have := congrArg List.length h1
            rw [List.length_take] at this
            have this : min k l.length = 0 := this
            omega
          · exact h1
        have HY := Lib.hid hy
        have HBB := Lib.hid (hin bb (List.mem_of_mem_take hy.1))
        have HBO := Lib.hid (HORD.out bb hy.1)
        have HLB := Lib.hid (HLK.out bb (by have := HBB.out; omega) (by have := HBB.out; omega))
        clear hbest hy hin
        have g0 : ((k : Int) == 0) = false := by simp; omega
        have l1 := HLP.out
        have l2 := HLB.out
        generalize hv1 : volP L p = v1 at l1
        generalize hv2 : volP L bb = v2 at l2
        have HV1 := Lib.hid hv1
        have HV2 := Lib.hid hv2
        clear hv1 hv2
        by_cases h2 : v2 < v1
        · have HN : Hid (BusyOr (volP L) (l.take (k + 1)) p) := Lib.hid (by rw [HT.out]; exact .inr (busy_new HY.out (.inl (by rw [HV1.out, HV2.out]; exact h2))))
          go_wp2
          go_round
          case rel => exact ⟨k + 1, _, by omega, by go_num, rfl, HN.out⟩
          case measure => simp [intOf]; omega
        · have HN : Hid (BusyOr (volP L) (l.take (k + 1)) bb) := Lib.hid (by
            rw [HT.out]
            refine .inr (busy_old HY.out ?_)
            rw [HV1.out, HV2.out]
            have := HBO.out
            omega)
          go_wp2
          go_round
          case rel => exact ⟨k + 1, _, by omega, by go_num, rfl, HN.out⟩
          case measure => simp [intOf]; omega
    · obtain rfl : k = l.length := by omega
      rw [List.take_length] at hbest
      have HN : Hid (BusyOr (volP L) (L.map (·.price)) bb) := Lib.hid (by
        rcases hbest with ⟨h1, h2⟩ | h1
        · refine .inl ⟨?_, h2⟩
          apply List.eq_nil_iff_forall_not_mem.2
          intro x hx
          have := (HKS.out x).2 hx
          rw [h1] at this
          exact absurd this (by simp)
        · exact .inr ⟨(HKS.out _).1 h1.1, fun q hq => h1.2 q ((HKS.out q).2 hq)⟩)
      clear hbest
      go_wp2
      go_ret2
      exact ⟨bb, by (show Ending.returned (.tuple #[.int .i64 bb, .bool (decide (0 < l.length))]) = _; rw [HLE.out]), HN.out, HB.out⟩
end Go.Proofs.Ytogjgpiddjmpiaa.Tape
