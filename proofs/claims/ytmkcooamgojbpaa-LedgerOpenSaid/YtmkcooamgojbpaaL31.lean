/- The document's ledger: its rows in memory; Find, EarlyOf. -/
import Derived.Test.YtmkcooamgojbpaaOwnRow
import Derived.Test.YtmkcooamgojbpaaLedOk
namespace Go.Proofs.Ytmkcooamgojbpaa.Ledger
open Go.RowKit Go.Proofs.Ytmkcooamgojbpaa.Kit Go.Proofs.Ytmkcooamgojbpaa.Blk Go.Proofs.Ytmkcooamgojbpaa.Mp Go.Proofs.Ytmkcooamgojbpaa.Msgs Go.Proofs.Ytmkcooamgojbpaa.Own
attribute [local go_sem ↓] Go.wp_at_zero Go.wp_at_succ
set_option linter.unusedVariables false

/-- A row of the document. -/
structure DRow where
  sym : Int
  id : Int
  a : Acc
  old : Bool
def DRow.cells (r : DRow) : Array Value := #[.int .i64 r.sym, .int .i64 r.id, .int .i64 r.a.asked, .int .i64 r.a.filled, .int .i64 r.a.gone, .int .i64 r.a.rest, .bool r.old]
theorem cells_size (r : DRow) : r.cells.size = 7 := rfl
abbrev rowsD (l : List DRow) : List Value := l.flatMap fun r => r.cells.toList
def liveB (k : Key) (r : DRow) : Bool := (r.sym == k.1 && r.id == k.2) && !r.old
def findN (k : Key) (l : List DRow) : Nat := l.findIdx (liveB k)
def findD (k : Key) (l : List DRow) : Int := if findN k l < l.length then (findN k l : Int) else -1
theorem find_yes {k : Key} {l : List DRow} {i : Nat} (hi : i < l.length) (h : ∀ j, (hj : j < l.length) → j < i → liveB k l[j] = false) (he : liveB k l[i] = true) : findD k l = (i : Int) := by
  have e : findN k l = i := by
    unfold findN
    rw [List.findIdx_eq hi]
    exact ⟨he, fun j hj => h j (by omega) hj⟩
  unfold findD
  rw [e, if_pos hi]
theorem find_no {k : Key} {l : List DRow} (h : ∀ j, (hj : j < l.length) → liveB k l[j] = false) : findD k l = -1 := by
  unfold findD findN
  rw [if_neg]
  intro hlt
  have := List.findIdx_getElem (w := hlt)
  rw [h _ hlt] at this
  cases this
theorem no_more {k : Key} {l : List DRow} {i : Nat} (hi : i < l.length) (h : ∀ j, (hj : j < l.length) → j < i → liveB k l[j] = false) (he : liveB k l[i] = false) : ∀ j, (hj : j < l.length) → j < i + 1 → liveB k l[j] = false := by
  intro j hj hji
  by_cases h1 : j < i
  · exact h j hj h1
  · have : j = i := by omega
    subst this; exact he
def keyB (k : Key) (r : DRow) : Bool := r.sym == k.1 && r.id == k.2
/-- The early fills of a key. -/
def earlyD (k : Key) (es : List DRow) : Int := ((es.filter (keyB k)).map fun r => r.a.filled).sum
theorem early_yes {k : Key} {es : List DRow} {r : DRow} (h : keyB k r = true) : earlyD k (es ++ [r]) = earlyD k es + r.a.filled := by simp [earlyD, h]
theorem early_no {k : Key} {es : List DRow} {r : DRow} (h : keyB k r = false) : earlyD k (es ++ [r]) = earlyD k es := by simp [earlyD, h]
/-- The document's ledger in block R. -/
structure RS (N : Nat) (W : World) (R : Nat) (l es : List DRow) (v u : Value) : Prop where
  box : Blk W R #[v, u] 29
  lt : R < N
  row : W.ownsRow N 57 7 v l.length (rowsD l)
  ear : W.ownsRow N 57 7 u es.length (rowsD es)
  ne : ∀ g, v.ownBlock = some g → u.ownBlock ≠ some g
def FineE (es : List DRow) : Prop := ∀ r ∈ es, 0 ≤ r.a.filled ∧ r.a.filled ≤ 4294967296
theorem early_in {k : Key} {es : List DRow} (h : FineE es) : 0 ≤ earlyD k es ∧ earlyD k es ≤ 4294967296 * (es.length : Int) := by
  induction es with
  | nil => simp [earlyD]
  | cons r es ih =>
    have h1 := ih fun x hx => h x (List.mem_cons_of_mem _ hx)
    have h2 := h r List.mem_cons_self
    unfold earlyD at h1 ⊢
    rw [List.filter_cons]
    split
    · rw [List.map_cons, List.sum_cons, List.length_cons]; omega
    · rw [List.length_cons]; omega

set_option maxHeartbeats 2000000 in
theorem findr_any (N R : Nat) (l es : List DRow) (v u : Value) (k1 k2 : Int) (w : World) (h : RS N w R l es v u) :
    Calls Try.prog 21 #[.pointer (some ⟨R, 0, none⟩), .int .i64 k1, .int .i64 k2] w fun e w' => e = .returned (.int .i64 (findD (k1, k2) l)) ∧ w = w' := by
  obtain ⟨hR, -, hrow, -, -⟩ := h
  obtain ⟨a, cap, rfl, hc1, hc2, hat⟩ := owned_at DRow.cells 7 cells_size hrow
  have cR : w.cell? ⟨R, 0, none⟩ = some (.slice a l.length cap) := hR.cell 0 rfl
  unfold maxLen at hc2
  clear hrow hR
  go_enter Try.func21, Try.ntmps21
  go_wp2_with fail
  go_loop [7] (fun i => ∃ k : Nat, k ≤ l.length ∧ i = .int .i64 k ∧ ∀ j, (hj : j < l.length) → j < k → liveB (k1, k2) l[j] = false) (fun i => l.length - (intOf i).toNat)
  case atStart => exact ⟨0, by omega, rfl, fun j _ h => absurd h (by omega)⟩
  case round =>
    obtain ⟨k, hk, rfl, hno⟩ := hrel
    have HNO := Lib.hid hno
    clear hno
    by_cases hlt : k < l.length
    · obtain ⟨g, rfl, -, -, hg⟩ := hat k hlt
      have HP := Lib.hid (fun he => find_yes (k := (k1, k2)) hlt HNO.out he)
      have HS := Lib.hid (no_more hlt HNO.out)
      have c0 : w.cell? ⟨g, k * 7, none⟩ = some (.int .i64 l[k].sym) := hg 0 _ rfl
      have c1 : w.cell? ⟨g, k * 7 + 1, none⟩ = some (.int .i64 l[k].id) := hg 1 _ rfl
      have c6 : w.cell? ⟨g, k * 7 + 6, none⟩ = some (.bool l[k].old) := hg 6 _ rfl
      clear hat hg
      generalize hx : l[k] = x at *
      obtain ⟨x1, x2, xa, xo⟩ := x
      dsimp only at c0 c1 c6
      have g0 : (0 : Int) ≤ (k : Int) := by omega
      have g1 : (k : Int) < (l.length : Int) := by omega
      have HL := Lib.hid (show liveB (k1, k2) ⟨x1, x2, xa, xo⟩ = ((x1 == k1 && x2 == k2) && !xo) from rfl)
      by_cases h1 : x1 = k1
      · have b1 : (x1 == k1) = true := by simpa using h1
        clear h1
        by_cases h2 : x2 = k2
        · have b2 : (x2 == k2) = true := by simpa using h2
          clear h2
          cases xo with
          | false =>
            have HE := Lib.hid (show findD (k1, k2) l = (k : Int) from HP.out (by rw [HL.out, b1, b2]; rfl))
            go_wp2_with fail
            go_ret
            exact ⟨by rw [HE.out]; rfl, rfl⟩
          | true =>
            go_wp2_with fail
            go_round
            case rel => exact ⟨k + 1, by omega, by go_num, HS.out (by rw [HL.out, b1, b2]; rfl)⟩
            case measure => simp [intOf]; omega
        · have b2 : (x2 == k2) = false := by simpa using h2
          clear h2
          go_wp2_with fail
          go_round
          case rel => exact ⟨k + 1, by omega, by go_num, HS.out (by rw [HL.out, b1, b2]; rfl)⟩
          case measure => simp [intOf]; omega
      · have b1 : (x1 == k1) = false := by simpa using h1
        clear h1
        go_wp2_with fail
        go_round
        case rel => exact ⟨k + 1, by omega, by go_num, HS.out (by rw [HL.out, b1]; rfl)⟩
        case measure => simp [intOf]; omega
    · have hk2 : k = l.length := by omega
      have HE := Lib.hid (show findD (k1, k2) l = -1 from find_no (fun j hj => HNO.out j hj (by omega)))
      go_wp2_with fail
      go_ret
      exact ⟨by rw [HE.out]; rfl, rfl⟩
set_option maxHeartbeats 2000000 in
theorem earlyof_any (N R : Nat) (l es : List DRow) (v u : Value) (k1 k2 : Int) (w : World) (h : RS N w R l es v u) (hf : FineE es) (hl : es.length ≤ 1000) :
    Calls Try.prog 33 #[.pointer (some ⟨R, 0, none⟩), .int .i64 k1, .int .i64 k2] w fun e w' => e = .returned (.int .i64 (earlyD (k1, k2) es)) ∧ w = w' := by
  obtain ⟨hR, -, -, hrow, -⟩ := h
  obtain ⟨a, cap, rfl, hc1, hc2, hat⟩ := owned_at DRow.cells 7 cells_size hrow
  have cR : w.cell? ⟨R, 1, none⟩ = some (.slice a es.length cap) := hR.cell 1 rfl
  have HF := Lib.hid hf
  unfold maxLen at hc2
  clear hrow hR hf
  go_enter Try.func33, Try.ntmps33
  go_wp2_with fail
  go_loop [7, 8] (fun s i => ∃ k : Nat, k ≤ es.length ∧ i = .int .i64 k ∧ s = .int .i64 (earlyD (k1, k2) (es.take k))) (fun s i => es.length - (intOf i).toNat)
  case atStart => exact ⟨0, by omega, rfl, by simp [earlyD]⟩
  case round =>
    obtain ⟨k, hk, rfl, hs⟩ := hrel
    have hin := early_in (k := (k1, k2)) (es := es.take k) (fun r hr => HF.out r (List.mem_of_mem_take hr))
    rw [List.length_take] at hin
    generalize hz : earlyD (k1, k2) (es.take k) = z at hs hin
    subst hs
    have HV := Lib.hid hz
    clear hz
    have hz0 : 0 ≤ z := hin.1
    have hz1 : z ≤ 4398046511104 := by omega
    clear hin
    by_cases hlt : k < es.length
    · obtain ⟨g, rfl, -, -, hg⟩ := hat k hlt
      have HT := Lib.hid (List.take_succ_eq_append_getElem hlt)
      have hfx := HF.out _ (List.getElem_mem hlt)
      have c0 : w.cell? ⟨g, k * 7, none⟩ = some (.int .i64 es[k].sym) := hg 0 _ rfl
      have c1 : w.cell? ⟨g, k * 7 + 1, none⟩ = some (.int .i64 es[k].id) := hg 1 _ rfl
      have c3 : w.cell? ⟨g, k * 7 + 3, none⟩ = some (.int .i64 es[k].a.filled) := hg 3 _ rfl
      clear hat hg
      generalize hx : es[k] = x at *
      obtain ⟨x1, x2, ⟨y1, y2, y3, y4⟩, xo⟩ := x
      dsimp only at c0 c1 c3 hfx
      have g0 : (0 : Int) ≤ (k : Int) := by omega
      have g1 : (k : Int) < (es.length : Int) := by omega
      have hy0 := hfx.1
      have hy1 := hfx.2
      clear hfx
      have HL := Lib.hid (show keyB (k1, k2) ⟨x1, x2, ⟨y1, y2, y3, y4⟩, xo⟩ = (x1 == k1 && x2 == k2) from rfl)
      by_cases h1 : x1 = k1
      · have b1 : (x1 == k1) = true := by simpa using h1
        clear h1
        by_cases h2 : x2 = k2
        · have b2 : (x2 == k2) = true := by simpa using h2
          clear h2
          go_wp2_with fail
          go_round
          case rel => exact ⟨k + 1, by omega, by go_num, by rw [HT.out, early_yes (by rw [HL.out, b1, b2]; rfl), HV.out]⟩
          case measure => simp [intOf]; omega
        · have b2 : (x2 == k2) = false := by simpa using h2
          clear h2
          go_wp2_with fail
          go_round
          case rel => exact ⟨k + 1, by omega, by go_num, by rw [HT.out, early_no (by rw [HL.out, b1, b2]; rfl), HV.out]⟩
          case measure => simp [intOf]; omega
      · have b1 : (x1 == k1) = false := by simpa using h1
        clear h1
        go_wp2_with fail
        go_round
        case rel => exact ⟨k + 1, by omega, by go_num, by rw [HT.out, early_no (by rw [HL.out, b1]; rfl), HV.out]⟩
        case measure => simp [intOf]; omega
    · have hk2 : k = es.length := by omega
      have HE := Lib.hid (show earlyD (k1, k2) es = z by have := HV.out; rw [hk2, List.take_length] at this; exact this)
      go_wp2_with fail
      go_ret
      exact ⟨by rw [HE.out]; rfl, rfl⟩
end Go.Proofs.Ytmkcooamgojbpaa.Ledger
