/- Rows of messages that were made. -/
import Derived.Test.YtmkcooamgojbpaaDoorGrow
import Derived.Test.YtmkcooamgojbpaaDoorMsg
namespace Go.Proofs.YtmkcooamgojbpaaDoor.Msgs
open Go.RowKit Go.Proofs.YtmkcooamgojbpaaDoor.Kit Go.Proofs.YtmkcooamgojbpaaDoor.Blk
set_option linter.unusedVariables false

def rowsM (l : List Msg) : List Value := l.flatMap fun m => m.cells.toList
theorem rowsM_app (l : List Msg) (m : Msg) : rowsM (l ++ [m]) = rowsM l ++ m.cells.toList := by simp [rowsM]
theorem msg_size (m : Msg) : m.cells.size = 9 := rfl
theorem rowsM_at (l : List Msg) : ∀ (i : Nat) (h : i < l.length) (j : Nat) (v : Value), l[i].cells[j]? = some v → (rowsM l)[i * 9 + j]? = some v := by
  induction l with
  | nil => intro i h; simp at h
  | cons m l ih =>
    intro i h j v hv
    have hc : rowsM (m :: l) = m.cells.toList ++ rowsM l := by simp [rowsM]
    have hsz : m.cells.toList.length = 9 := rfl
    rw [hc]
    cases i with
    | zero =>
      rw [List.getElem_cons_zero] at hv
      have hj : j < 9 := by have := (Array.getElem?_eq_some_iff.1 hv).1; rw [msg_size] at this; exact this
      rw [show 0 * 9 + j = j by simp, List.getElem?_append_left (by omega)]
      simpa using hv
    | succ i =>
      rw [List.getElem_cons_succ] at hv
      have he : (i + 1) * 9 + j = 9 + (i * 9 + j) := by omega
      rw [he, List.getElem?_append_right (by omega), hsz, Nat.add_sub_cancel_left]
      exact ih i (by simpa using h) j v hv
theorem rowsM_len (l : List Msg) : (rowsM l).length = l.length * 9 := by
  induction l with
  | nil => rfl
  | cons m l ih =>
    have hc : rowsM (m :: l) = m.cells.toList ++ rowsM l := by simp [rowsM]
    rw [hc, List.length_append, ih, List.length_cons]
    have : m.cells.toList.length = 9 := rfl
    omega
theorem row_of_gl {n0 : Nat} {w W : World} {v : Value} {l : List Msg} (h : GL n0 62 9 w W v l.length (rowsM l)) : ∃ a c, v = .slice a l.length c ∧ MsgRow W a l := by
  have ho := h.own
  rcases ho.2 with ⟨rfl, h0⟩ | ⟨g, cap, cur, rfl, hg, hgb, hn, hc, hsz, htk⟩
  · exact ⟨none, 0, by rw [h0], fun i hi => by omega⟩
  · refine ⟨_, cap, rfl, fun i hi => ⟨g, 0, rfl, (Array.getElem?_eq_some_iff.1 hgb).1, fun j u hu => ?_⟩⟩
    have hj : j < 9 := by have := (Array.getElem?_eq_some_iff.1 hu).1; rw [msg_size] at this; exact this
    rw [show 0 + i * 9 + j = i * 9 + j by omega, World.ownsRow.cellAt ho (i * 9 + j) (by omega)]
    exact rowsM_at l i hi j u hu
theorem gl_len {n0 n s T : Nat} {w W : World} {v : Value} {xs : List Value} (h : GL n0 T s w W v n xs) : n ≤ maxLen := by
  rcases h.own.2 with ⟨_, h0⟩ | ⟨g, cap, cur, _, _, _, hn, hc, _⟩
  · omega
  · omega
theorem infoMsg : (Tryd.prog.info? 62).map (fun i => (i.zero, i.size, i.bytes)) = some (some (.agg #[.int .i64 0, .int .i64 0, .int .i64 0, .int .i64 0, .int .i64 0, .int .i64 0, .int .i64 0, .int .i64 0, .int .i64 0]), 9, 72) := by kernel_rfl
theorem mem_one (m : Msg) : ∀ u ∈ m.cells.toList, u.oneCell' = true := by simp [Msg.cells, Value.oneCell']
end Go.Proofs.YtmkcooamgojbpaaDoor.Msgs
