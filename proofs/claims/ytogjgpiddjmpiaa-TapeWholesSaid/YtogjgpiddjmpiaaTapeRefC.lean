/- The document's Counts. -/
import Derived.Test.YtogjgpiddjmpiaaTapeKeep
import Derived.Deep.AppendLies
namespace Go.Proofs.Ytogjgpiddjmpiaa.Tape
set_option linter.unusedVariables false
open Go.RowKit Go.Proofs.Ytogjgpiddjmpiaa.Kit Go.Proofs.Ytogjgpiddjmpiaa.Blk Go.Proofs.Ytogjgpiddjmpiaa.Msgs
attribute [local go_sem ↓] Go.wp_at_zero Go.wp_at_succ

theorem cnt_map (sym : Int) (l : List Msg) : (cnt sym l).map Subtype.val = l.filter (isT sym) := by
  induction l with
  | nil => rfl
  | cons m l ih =>
    simp only [cnt, List.filter_cons]
    split
    · rw [List.map_cons, ih]
    · exact ih
theorem flt_yes (sym : Int) (l : List Msg) (k : Nat) (h : k < l.length) (hb : isT sym l[k] = true) : (l.take (k + 1)).filter (isT sym) = (l.take k).filter (isT sym) ++ [l[k]] := by
  rw [List.take_succ_eq_append_getElem h, List.filter_append]; simp [hb]
theorem flt_no (sym : Int) (l : List Msg) (k : Nat) (h : k < l.length) (hb : isT sym l[k] = false) : (l.take (k + 1)).filter (isT sym) = (l.take k).filter (isT sym) := by
  rw [List.take_succ_eq_append_getElem h, List.filter_append]; simp [hb]
def cellsOf (l : List Msg) : List Value := l.flatMap fun m => m.cells.toList
theorem cellsOf_app (l : List Msg) (m : Msg) : cellsOf (l ++ [m]) = cellsOf l ++ m.cells.toList := by simp [cellsOf]
theorem cellsOf_at (l : List Msg) : ∀ (i : Nat) (h : i < l.length) (j : Nat) (v : Value), l[i].cells[j]? = some v → (cellsOf l)[i * 9 + j]? = some v := by
  induction l with
  | nil => intro i h; simp at h
  | cons m l ih =>
    intro i h j v hv
    have hc : cellsOf (m :: l) = m.cells.toList ++ cellsOf l := by simp [cellsOf]
    have hs : m.cells.toList.length = 9 := rfl
    rw [hc]
    cases i with
    | zero =>
      rw [List.getElem_cons_zero] at hv
      have hj : j < 9 := (Array.getElem?_eq_some_iff.1 hv).1
      rw [List.getElem?_append_left (by omega)]
      rw [show 0 * 9 + j = j by omega]
      simpa using hv
    | succ i =>
      rw [List.getElem_cons_succ] at hv
      rw [List.getElem?_append_right (by omega), hs]
      have := ih i (by simpa using h) j v hv
      rw [show (i + 1) * 9 + j - 9 = i * 9 + j by omega]
      exact this
/-- A row that is owned, as a row of messages. -/
theorem row_of_owned {w : World} {N T : Nat} {v : Value} {l : List Msg} (h : w.ownsRow N T 9 v l.length (cellsOf l)) : ∃ a c, v = .slice a l.length c ∧ MsgRow w a l ∧ (∀ b off, a = some ⟨b, off, none⟩ → N ≤ b ∧ off = 0) ∧ l.length ≤ c ∧ c ≤ maxLen := by
  rcases h.2 with ⟨rfl, h0⟩ | ⟨g, cap, cur, rfl, hg, hgb, hn, hc, hsz, htk⟩
  · exact ⟨none, 0, by rw [h0], fun i hi => by omega, (fun b off e => by cases e), by omega, Nat.zero_le _⟩
  · refine ⟨_, cap, rfl, fun i hi => ⟨g, 0, rfl, (Array.getElem?_eq_some_iff.1 hgb).1, fun j u hu => ?_⟩, (fun b off e => by cases e; exact ⟨hg, rfl⟩), hn, hc⟩
    have h1 := cellsOf_at l i hi j u hu
    rw [Nat.zero_add]
    have h2 := h.cellAt (g := g) (cap := cap) (i * 9 + j) (by have : j < 9 := (Array.getElem?_eq_some_iff.1 hu).1; have : (i + 1) * 9 ≤ l.length * 9 := Nat.mul_le_mul_right _ hi; omega)
    rw [h2]; exact h1
theorem infoMsg : (Try.prog.info? 66).map (fun i => (i.zero, i.size, i.bytes)) = some (some (.agg msgZero), 9, 72) := by kernel_rfl
def MsgsIs (l : List Msg) (w : World) (e : Ending) (w' : World) : Prop := ∃ v, e = .returned v ∧ w'.ownsRow w.heap.size 66 9 v l.length (cellsOf l) ∧ Below w.heap.size w w'

theorem below_push {w W w1 : World} {N e size k : Nat} {v : Value} {xs : List Value} (hb : Below N w W) (hr : W.ownsRow N e size v k xs) (hg : W.grownBy w1 v.ownBlock) (hle : N ≤ W.heap.size) : Below N w w1 :=
  hb.grown hg hle (fun k e => (row_from hr e).1)
set_option maxRecDepth 100000 in
set_option maxHeartbeats 4000000 in
theorem refcounts_any (a : Option Addr) (cap : Nat) (ms : List Msg) (sym : Int) (w : World) (hm : MsgRow w a ms) (hl : ms.length ≤ 1000) (hfit : ∀ m ∈ ms, m.tick ≤ 9223372036854775807) :
    Calls Try.prog 74 #[.slice a ms.length cap, .int .i64 sym] w fun e w' => MsgsIs (ms.filter (isT sym)) w e w' := by
  obtain ⟨i0, hi0, hz0, hz1, hz2⟩ := info_parts infoMsg
  go_enter Try.func74, Try.ntmps74
  go_wp2_with fail
  go_loopw [5, 6] (fun v i wr => ∃ k : Nat, k ≤ ms.length ∧ i = .int .i64 k ∧ wr.ownsRow w.heap.size 66 9 v ((ms.take k).filter (isT sym)).length (cellsOf ((ms.take k).filter (isT sym))) ∧ Below w.heap.size w wr) (fun _ i _ => ms.length - (intOf i).toNat)
  case atStart => exact ⟨0, by omega, rfl, World.ownsRow_nil _ _ _ _, Below.refl _ _⟩
  case round =>
    obtain ⟨k, hk, rfl, hrw, hbw⟩ := hrel
    have HRW := Lib.hid hrw
    have HBW := Lib.hid hbw
    obtain ⟨va, vc, rfl⟩ := row_slice hrw
    clear hrw hbw
    by_cases hlt : k < ms.length
    · obtain ⟨b, off, rfl, hbl, hrow0⟩ := msgRow_at hm k hlt
      have hrow : wr.rangeAt b (off + k * 9) ms[k].cells.toList := fun j v hv => by rw [HBW.out.cell (p := ⟨b, _, none⟩) hbl]; exact hrow0 j v hv
      have HY := Lib.hid (flt_yes sym ms k hlt)
      have HN := Lib.hid (flt_no sym ms k hlt)
      have HLEN := Lib.hid (show ((ms.take k).filter (isT sym)).length ≤ 1000 from by have := List.length_filter_le (isT sym) (ms.take k); have := List.length_take_le k ms; omega)
      have HFT := Lib.hid (hfit ms[k] (List.getElem_mem hlt))
      generalize ms[k] = m at hrow HY HN HFT
      have HZ := Lib.hid (Blk.new wr msgZero 66 wr.heap.size rfl)
      have HM := Lib.hid (Blk.new wr m.cells 66 wr.heap.size rfl)
      have HBN := Lib.hid (HBW.out.alloc HBW.out.size (.cells m.cells 66))
      have HRN := Lib.hid (HRW.out.alloc (.cells m.cells 66))
      clear hrow0
      have g0 : (0 : Int) ≤ (k : Int) := by omega
      have g1 : (k : Int) < (ms.length : Int) := by omega
      have m0 : (wr.alloc (.cells m.cells 66)).cell? ⟨wr.heap.size, 0, none⟩ = some (.int .i64 m.kind) := HM.out.cell 0 rfl
      have m1 : (wr.alloc (.cells m.cells 66)).cell? ⟨wr.heap.size, 1, none⟩ = some (.int .i64 m.sym) := HM.out.cell 1 rfl
      have m3 : (wr.alloc (.cells m.cells 66)).cell? ⟨wr.heap.size, 3, none⟩ = some (.int .i64 m.tick) := HM.out.cell 3 rfl
      have m6 : (wr.alloc (.cells m.cells 66)).cell? ⟨wr.heap.size, 6, none⟩ = some (.int .i64 m.price) := HM.out.cell 6 rfl
      have m7 : (wr.alloc (.cells m.cells 66)).cell? ⟨wr.heap.size, 7, none⟩ = some (.int .i64 m.qty) := HM.out.cell 7 rfl
      by_cases hkd : m.kind = 3
      · have b1 : (m.kind == 3) = true := by simpa using hkd
        by_cases hsy : m.sym = sym
        · have b2 : (m.sym == sym) = true := by simpa using hsy
          by_cases hp1 : 1 ≤ m.price
          · by_cases hp2 : m.price ≤ 1099511627776
            · by_cases hq1 : 1 ≤ m.qty
              · by_cases hq2 : m.qty ≤ 4294967296
                · by_cases htk : 0 ≤ m.tick
                  · have HF := Lib.hid (isT_true ⟨hkd, hsy, htk, ⟨hp1, hp2⟩, hq1, hq2⟩ HFT.out)
                    clear hkd hsy
                    have HNB := Lib.hid (Blk.new (wr.alloc (.cells m.cells 66)) m.cells 66 (wr.heap.size + 1) (by simp))
                    have HR2 := Lib.hid (HRN.out.alloc (.cells m.cells 66))
                    have HB2 := Lib.hid (HBN.out.alloc HBN.out.size (.cells m.cells 66))
                    go_wp2_with (first
                      | (refine wpList_load_mid (by rfl) 66 _ (by rfl) b (off + k * 9) (by rfl) m.cells.toList _ hrow Try.underlying66 rfl (by kernel_rfl) ?_)
                      | (refine store_blk (by rfl) 66 _ _ (by rfl) wr.heap.size (by rfl) msgZero m.cells 66 HZ.out (by rfl) (by rfl) (by kernel_rfl) (one_msg _) ?_; change wpList _ _ _ _ _ (World.setCells (wr.alloc (.cells msgZero 66)) wr.heap.size 0 m.cells.toList); rw [alloc_setCells wr msgZero m.cells 66 rfl wr.heap.size rfl])
                      | (refine load_blk (by rfl) 66 _ (by rfl) wr.heap.size (by rfl) #[.int .i64 m.kind, .int .i64 m.sym, .int .i64 m.seq, .int .i64 m.tick, .int .i64 m.id, .int .i64 m.wth, .int .i64 m.price, .int .i64 m.qty, .int .i64 m.code] 66 HM.out _ Try.underlying66 rfl (by kernel_rfl) ?_)
                      | (at_builtin; refine wpList_append_lies _ (by rfl) _ _ _ (by rfl) w.heap.size 66 i0 (.agg msgZero) 9 72 Try.underlying45 hi0 hz0 hz1 hz2 (by rfl) (by decide) _ ((ms.take k).filter (isT sym)).length (cellsOf ((ms.take k).filter (isT sym))) (by rfl) HR2.out ⟨wr.heap.size + 1, 0, none⟩ 1 1 m.cells.toList (by rfl) (by rfl) (news_blk HNB.out) (one_mem (one_msg m)) (by decide) (by unfold maxLen; have := HLEN.out; omega) (by have := HLEN.out; omega) HB2.out.size (wr.heap.size + 1 + 1) (by simp) ?_; intro g cap2 w5 hown5 hgrow5 hat5 hlt5))
                    have HB5 := Lib.hid (below_push HB2.out HR2.out hgrow5 HB2.out.size)
                    have HR5 := Lib.hid hown5
                    clear hown5 hgrow5 hat5 hlt5
                    go_wp2
                    go_roundw
                    case rel => exact ⟨k + 1, by omega, by go_num, by rw [HY.out HF.out, cellsOf_app, List.length_append]; exact HR5.out, HB5.out⟩
                    case measure => simp [intOf]; omega
                  · have HF := Lib.hid (isT_false (sym := sym) (fun h => htk h.2.2.1))
                    clear hkd hsy
                    have h2 : m.tick < 0 := by omega
                    go_wp2_with (first
                      | (refine wpList_load_mid (by rfl) 66 _ (by rfl) b (off + k * 9) (by rfl) m.cells.toList _ hrow Try.underlying66 rfl (by kernel_rfl) ?_)
                      | (refine store_blk (by rfl) 66 _ _ (by rfl) wr.heap.size (by rfl) msgZero m.cells 66 HZ.out (by rfl) (by rfl) (by kernel_rfl) (one_msg _) ?_; change wpList _ _ _ _ _ (World.setCells (wr.alloc (.cells msgZero 66)) wr.heap.size 0 m.cells.toList); rw [alloc_setCells wr msgZero m.cells 66 rfl wr.heap.size rfl])
                      )
                    go_roundw
                    case rel => exact ⟨k + 1, by omega, by go_num, by rw [HN.out HF.out]; exact HRN.out, HBN.out⟩
                    case measure => simp [intOf]; omega
                · have HF := Lib.hid (isT_false (sym := sym) (fun h => hq2 h.2.2.2.2.2))
                  clear hkd hsy
                  have h2 : 4294967296 < m.qty := by omega
                  go_wp2_with (first
                    | (refine wpList_load_mid (by rfl) 66 _ (by rfl) b (off + k * 9) (by rfl) m.cells.toList _ hrow Try.underlying66 rfl (by kernel_rfl) ?_)
                    | (refine store_blk (by rfl) 66 _ _ (by rfl) wr.heap.size (by rfl) msgZero m.cells 66 HZ.out (by rfl) (by rfl) (by kernel_rfl) (one_msg _) ?_; change wpList _ _ _ _ _ (World.setCells (wr.alloc (.cells msgZero 66)) wr.heap.size 0 m.cells.toList); rw [alloc_setCells wr msgZero m.cells 66 rfl wr.heap.size rfl])
                    )
                  go_roundw
                  case rel => exact ⟨k + 1, by omega, by go_num, by rw [HN.out HF.out]; exact HRN.out, HBN.out⟩
                  case measure => simp [intOf]; omega
              · have HF := Lib.hid (isT_false (sym := sym) (fun h => hq1 h.2.2.2.2.1))
                clear hkd hsy
                have h2 : m.qty < 1 := by omega
                go_wp2_with (first
                  | (refine wpList_load_mid (by rfl) 66 _ (by rfl) b (off + k * 9) (by rfl) m.cells.toList _ hrow Try.underlying66 rfl (by kernel_rfl) ?_)
                  | (refine store_blk (by rfl) 66 _ _ (by rfl) wr.heap.size (by rfl) msgZero m.cells 66 HZ.out (by rfl) (by rfl) (by kernel_rfl) (one_msg _) ?_; change wpList _ _ _ _ _ (World.setCells (wr.alloc (.cells msgZero 66)) wr.heap.size 0 m.cells.toList); rw [alloc_setCells wr msgZero m.cells 66 rfl wr.heap.size rfl])
                  )
                go_roundw
                case rel => exact ⟨k + 1, by omega, by go_num, by rw [HN.out HF.out]; exact HRN.out, HBN.out⟩
                case measure => simp [intOf]; omega
            · have HF := Lib.hid (isT_false (sym := sym) (fun h => hp2 h.2.2.2.1.2))
              clear hkd hsy
              have h2 : 1099511627776 < m.price := by omega
              go_wp2_with (first
                | (refine wpList_load_mid (by rfl) 66 _ (by rfl) b (off + k * 9) (by rfl) m.cells.toList _ hrow Try.underlying66 rfl (by kernel_rfl) ?_)
                | (refine store_blk (by rfl) 66 _ _ (by rfl) wr.heap.size (by rfl) msgZero m.cells 66 HZ.out (by rfl) (by rfl) (by kernel_rfl) (one_msg _) ?_; change wpList _ _ _ _ _ (World.setCells (wr.alloc (.cells msgZero 66)) wr.heap.size 0 m.cells.toList); rw [alloc_setCells wr msgZero m.cells 66 rfl wr.heap.size rfl])
                )
              go_roundw
              case rel => exact ⟨k + 1, by omega, by go_num, by rw [HN.out HF.out]; exact HRN.out, HBN.out⟩
              case measure => simp [intOf]; omega
          · have HF := Lib.hid (isT_false (sym := sym) (fun h => hp1 h.2.2.2.1.1))
            clear hkd hsy
            have h2 : m.price < 1 := by omega
            go_wp2_with (first
              | (refine wpList_load_mid (by rfl) 66 _ (by rfl) b (off + k * 9) (by rfl) m.cells.toList _ hrow Try.underlying66 rfl (by kernel_rfl) ?_)
              | (refine store_blk (by rfl) 66 _ _ (by rfl) wr.heap.size (by rfl) msgZero m.cells 66 HZ.out (by rfl) (by rfl) (by kernel_rfl) (one_msg _) ?_; change wpList _ _ _ _ _ (World.setCells (wr.alloc (.cells msgZero 66)) wr.heap.size 0 m.cells.toList); rw [alloc_setCells wr msgZero m.cells 66 rfl wr.heap.size rfl])
              )
            go_roundw
            case rel => exact ⟨k + 1, by omega, by go_num, by rw [HN.out HF.out]; exact HRN.out, HBN.out⟩
            case measure => simp [intOf]; omega
        · have HF := Lib.hid (isT_false (fun h => hsy h.2.1))
          have b2 : (m.sym == sym) = false := by simpa using hsy
          clear hkd hsy
          go_wp2_with (first
            | (refine wpList_load_mid (by rfl) 66 _ (by rfl) b (off + k * 9) (by rfl) m.cells.toList _ hrow Try.underlying66 rfl (by kernel_rfl) ?_)
            | (refine store_blk (by rfl) 66 _ _ (by rfl) wr.heap.size (by rfl) msgZero m.cells 66 HZ.out (by rfl) (by rfl) (by kernel_rfl) (one_msg _) ?_; change wpList _ _ _ _ _ (World.setCells (wr.alloc (.cells msgZero 66)) wr.heap.size 0 m.cells.toList); rw [alloc_setCells wr msgZero m.cells 66 rfl wr.heap.size rfl])
            )
          go_roundw
          case rel => exact ⟨k + 1, by omega, by go_num, by rw [HN.out HF.out]; exact HRN.out, HBN.out⟩
          case measure => simp [intOf]; omega
      · have HF := Lib.hid (isT_false (sym := sym) (fun h => hkd h.1))
        have b1 : (m.kind == 3) = false := by simpa using hkd
        clear hkd
        go_wp2_with (first
          | (refine wpList_load_mid (by rfl) 66 _ (by rfl) b (off + k * 9) (by rfl) m.cells.toList _ hrow Try.underlying66 rfl (by kernel_rfl) ?_)
          | (refine store_blk (by rfl) 66 _ _ (by rfl) wr.heap.size (by rfl) msgZero m.cells 66 HZ.out (by rfl) (by rfl) (by kernel_rfl) (one_msg _) ?_; change wpList _ _ _ _ _ (World.setCells (wr.alloc (.cells msgZero 66)) wr.heap.size 0 m.cells.toList); rw [alloc_setCells wr msgZero m.cells 66 rfl wr.heap.size rfl])
          )
        go_roundw
        case rel => exact ⟨k + 1, by omega, by go_num, by rw [HN.out HF.out]; exact HRN.out, HBN.out⟩
        case measure => simp [intOf]; omega
    · obtain rfl : k = ms.length := by omega
      rw [List.take_length] at HRW ⊢
      have g1 : (ms.length : Int) ≤ (ms.length : Int) := by omega
      go_wp2
      go_ret
      exact ⟨_, rfl, HRW.out, HBW.out⟩
end Go.Proofs.Ytogjgpiddjmpiaa.Tape
