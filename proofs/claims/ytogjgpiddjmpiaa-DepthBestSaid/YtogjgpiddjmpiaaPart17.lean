/- Parts of the proof: R33, R33L, R33P, R33Q, DepthP3. -/
import Derived.Test.YtogjgpiddjmpiaaPart7
import Derived.Test.YtogjgpiddjmpiaaPart15
import Derived.Test.YtogjgpiddjmpiaaPart16

/- The document's depth: its rows in memory; where a key stands. -/
namespace Go.Proofs.Ytogjgpiddjmpiaa.Depth
open Go.RowKit Go.Proofs.Ytogjgpiddjmpiaa.Kit Go.Proofs.Ytogjgpiddjmpiaa.Blk Go.Proofs.Ytogjgpiddjmpiaa.Mp Go.Proofs.Ytogjgpiddjmpiaa.Msgs Go.Proofs.Ytogjgpiddjmpiaa.Octets
attribute [local go_sem ↓] Go.wp_at_zero Go.wp_at_succ
set_option linter.unusedVariables false

section
variable {α : Type} (c : α → Array Value) (s : Nat) (hs : ∀ x, (c x).size = s)
include hs
theorem flat_at (l : List α) : ∀ (i : Nat) (h : i < l.length) (j : Nat) (v : Value), (c l[i])[j]? = some v → (l.flatMap fun m => (c m).toList)[i * s + j]? = some v := by
  induction l with
  | nil => intro i h; simp at h
  | cons m l ih =>
    intro i h j v hv
    have hc : ((m :: l).flatMap fun m => (c m).toList) = (c m).toList ++ (l.flatMap fun m => (c m).toList) := by simp
    have hsz : (c m).toList.length = s := by simpa using hs m
    rw [hc]
    cases i with
    | zero =>
      rw [List.getElem_cons_zero] at hv
      have hj : j < s := by have := (Array.getElem?_eq_some_iff.1 hv).1; rw [hs] at this; exact this
      rw [show 0 * s + j = j by simp, List.getElem?_append_left (by omega)]
      simpa using hv
    | succ i =>
      rw [List.getElem_cons_succ] at hv
      have he : (i + 1) * s + j = s + (i * s + j) := by rw [Nat.add_mul]; omega
      rw [he, List.getElem?_append_right (by omega), hsz, Nat.add_sub_cancel_left]
      exact ih i (by simpa using h) j v hv
theorem flat_len (l : List α) : (l.flatMap fun m => (c m).toList).length = l.length * s := by
  induction l with
  | nil => simp
  | cons m l ih =>
    have hc : ((m :: l).flatMap fun m => (c m).toList) = (c m).toList ++ (l.flatMap fun m => (c m).toList) := by simp
    rw [hc, List.length_append, ih, List.length_cons, Nat.add_mul]
    have : (c m).toList.length = s := by simpa using hs m
    omega
/-- A row that is owned: each of its cells. -/
theorem owned_at {w : World} {N T : Nat} {v : Value} {l : List α} (h : w.ownsRow N T s v l.length (l.flatMap fun m => (c m).toList)) :
    ∃ a cap, v = .slice a l.length cap ∧ l.length ≤ cap ∧ cap ≤ maxLen ∧ ∀ i, (hi : i < l.length) → ∃ g, a = some ⟨g, 0, none⟩ ∧ N ≤ g ∧ g < w.heap.size ∧ w.rangeAt g (i * s) (c l[i]).toList := by
  rcases h.2 with ⟨rfl, h0⟩ | ⟨g, cap, cur, rfl, hg, hgb, hn, hc, hsz, htk⟩
  · exact ⟨none, 0, by rw [h0], by omega, Nat.zero_le _, fun i hi => by omega⟩
  · refine ⟨_, cap, rfl, hn, hc, fun i hi => ⟨g, rfl, hg, (Array.getElem?_eq_some_iff.1 hgb).1, fun j u hu => ?_⟩⟩
    have hu' : (c l[i])[j]? = some u := by simpa using hu
    have h1 := flat_at c s hs l i hi j u hu'
    have h2 := h.cellAt (g := g) (cap := cap) (i * s + j) (by
      have hj : j < s := by have := (Array.getElem?_eq_some_iff.1 hu').1; rw [hs] at this; exact this
      have : (i + 1) * s ≤ l.length * s := Nat.mul_le_mul_right _ hi
      rw [Nat.add_mul] at this; omega)
    rw [h2]; exact h1
end

/-- A row of the document's depth. -/
def rowC (p : Key × Rest) : Array Value := #[.int .i64 p.1.1, .int .i64 p.1.2, .int .i64 0, .int .i64 p.2.side, .int .i64 p.2.price, .int .i64 p.2.qty, .int .i64 0, .int .i64 0]
def rowZ : Array Value := #[.int .i64 0, .int .i64 0, .int .i64 0, .int .i64 0, .int .i64 0, .int .i64 0, .int .i64 0, .int .i64 0]
abbrev rowsR (L : List (Key × Rest)) : List Value := L.flatMap fun p => (rowC p).toList
theorem rowC_size (p : Key × Rest) : (rowC p).size = 8 := rfl
theorem one_row (p : Key × Rest) : (rowC p).all (·.oneCell') = true := by simp [rowC, Value.oneCell']
theorem rowsR_app (L : List (Key × Rest)) (p : Key × Rest) : rowsR (L ++ [p]) = rowsR L ++ (rowC p).toList := by simp [rowsR]
theorem infoRow : (Try.prog.info? 172).map (fun i => (i.zero, i.size, i.bytes)) = some (some (.agg rowZ), 8, 64) := by kernel_rfl
/-- The document's depth in block R. -/
def RS (N : Nat) (W : World) (R : Nat) (L : List (Key × Rest)) : Prop :=
  ∃ v, Blk W R #[v] 74 ∧ R < N ∧ W.ownsRow N 172 8 v L.length (rowsR L) ∧ (L = [] → v = .slice none 0 0)

/-- The place of a key. -/
def findF (L : List (Key × Rest)) (k : Key) : Int := if (mget k L).isSome = true then (midx k L : Int) else -1
theorem mget_first {k : Key} : ∀ {L : List (Key × Rest)} {i : Nat} (h : i < L.length), (∀ j, (hj : j < L.length) → j < i → L[j].1 ≠ k) → L[i].1 = k → mget k L = some L[i].2 ∧ midx k L = i := by
  intro L
  induction L with
  | nil => intro i h; simp at h
  | cons p L ih =>
    intro i h hn he
    obtain ⟨a, u⟩ := p
    cases i with
    | zero =>
      have he : a = k := he
      subst he
      exact ⟨by simp [mget], by simp [midx]⟩
    | succ i =>
      have h0 : ¬ k = a := fun e => hn 0 (by simp) (by omega) e.symm
      have := ih (i := i) (by simpa using h) (fun j hj hji => hn (j + 1) (by simpa using hj) (by omega)) he
      simp only [mget, midx, h0, if_false]
      exact ⟨this.1, by rw [this.2]⟩
theorem mget_nowhere {k : Key} {L : List (Key × Rest)} (h : ∀ j, (hj : j < L.length) → L[j].1 ≠ k) : mget k L = none := by
  induction L with
  | nil => rfl
  | cons p L ih =>
    obtain ⟨a, u⟩ := p
    have h0 : ¬ k = a := fun e => h 0 (by simp) e.symm
    simp only [mget, h0, if_false]
    exact ih fun j hj => h (j + 1) (by simpa using hj)
theorem no_more {k : Key} {L : List (Key × Rest)} {i : Nat} (hi : i < L.length) (h : ∀ j, (hj : j < L.length) → j < i → L[j].1 ≠ k) (he : L[i].1 ≠ k) : ∀ j, (hj : j < L.length) → j < i + 1 → L[j].1 ≠ k := by
  intro j hj hji
  by_cases h1 : j < i
  · exact h j hj h1
  · have : j = i := by omega
    subst this; exact he

set_option maxHeartbeats 2000000 in
theorem find_any (N R : Nat) (L : List (Key × Rest)) (k1 k2 : Int) (w : World) (h : RS N w R L) :
    Calls Try.prog 84 #[.pointer (some ⟨R, 0, none⟩), .int .i64 k1, .int .i64 k2] w fun e w' => e = .returned (.int .i64 (findF L (k1, k2))) ∧ w = w' := by
  obtain ⟨v, hR, -, hrow, -⟩ := h
  obtain ⟨a, cap, rfl, hc1, hc2, hat⟩ := owned_at rowC 8 rowC_size hrow
  have cR : w.cell? ⟨R, 0, none⟩ = some (.slice a L.length cap) := hR.cell 0 rfl
  unfold maxLen at hc2
  clear hrow hR
  go_enter Try.func84, Try.ntmps84
  go_wp2_with fail
  go_loop [7] (fun i => ∃ k : Nat, k ≤ L.length ∧ i = .int .i64 k ∧ ∀ j, (hj : j < L.length) → j < k → L[j].1 ≠ (k1, k2)) (fun i => L.length - (intOf i).toNat)
  case atStart => exact ⟨0, by omega, rfl, fun j _ h => absurd h (by omega)⟩
  case round =>
    obtain ⟨k, hk, rfl, hno⟩ := hrel
    have HNO := Lib.hid hno
    clear hno
    by_cases hlt : k < L.length
    · obtain ⟨g, rfl, -, -, hg⟩ := hat k hlt
      have HP := Lib.hid (fun he => mget_first (k := (k1, k2)) hlt HNO.out he)
      have HS := Lib.hid (no_more hlt HNO.out)
      have c0 : w.cell? ⟨g, k * 8, none⟩ = some (.int .i64 L[k].1.1) := hg 0 _ rfl
      have c1 : w.cell? ⟨g, k * 8 + 1, none⟩ = some (.int .i64 L[k].1.2) := hg 1 _ rfl
      clear hat hg
      generalize hx : L[k] = x at *
      obtain ⟨⟨x1, x2⟩, xr⟩ := x
      dsimp only at c0 c1
      have g0 : (0 : Int) ≤ (k : Int) := by omega
      have g1 : (k : Int) < (L.length : Int) := by omega
      by_cases h1 : x1 = k1
      · by_cases h2 : x2 = k2
        · subst h1 h2
          have HE := Lib.hid (show findF L (x1, x2) = (k : Int) by unfold findF; rw [(HP.out rfl).1, (HP.out rfl).2]; rfl)
          go_wp2_with fail
          go_ret
          exact ⟨by rw [HE.out]; rfl, rfl⟩
        · have b1 : (x1 == k1) = true := by simpa using h1
          have b2 : (x2 == k2) = false := by simpa using h2
          have hne : ¬ (x1 = k1 ∧ x2 = k2) := fun h => h2 h.2
          clear h1 h2
          go_wp2_with fail
          go_round
          case rel => exact ⟨k + 1, by omega, by go_num, HS.out (fun e => hne (by injection e with e1 e2; exact ⟨e1, e2⟩))⟩
          case measure => simp [intOf]; omega
      · have b1 : (x1 == k1) = false := by simpa using h1
        have hne : ¬ (x1 = k1 ∧ x2 = k2) := fun h => h1 h.1
        clear h1
        go_wp2_with fail
        go_round
        case rel => exact ⟨k + 1, by omega, by go_num, HS.out (fun e => hne (by injection e with e1 e2; exact ⟨e1, e2⟩))⟩
        case measure => simp [intOf]; omega
    · have hk2 : k = L.length := by omega
      have HE := Lib.hid (show findF L (k1, k2) = -1 by unfold findF; rw [mget_nowhere (fun j hj => HNO.out j hj (by omega))]; rfl)
      go_wp2_with fail
      go_ret
      exact ⟨by rw [HE.out]; rfl, rfl⟩
end Go.Proofs.Ytogjgpiddjmpiaa.Depth

/- The document's less. -/
namespace Go.Proofs.Ytogjgpiddjmpiaa.Depth
open Go.RowKit Go.Proofs.Ytogjgpiddjmpiaa.Kit Go.Proofs.Ytogjgpiddjmpiaa.Blk Go.Proofs.Ytogjgpiddjmpiaa.Mp Go.Proofs.Ytogjgpiddjmpiaa.Msgs Go.Proofs.Ytogjgpiddjmpiaa.Octets Go.Proofs.Ytogjgpiddjmpiaa.Tape
attribute [local go_sem ↓] Go.wp_at_zero Go.wp_at_succ
set_option linter.unusedVariables false

theorem owns_mono {w : World} {base base' : Nat} {e : TypeId} {size : Nat} {v : Value} {n : Nat} {xs : List Value} (h : w.ownsRow base e size v n xs) (hb : base' ≤ base) : w.ownsRow base' e size v n xs := by
  refine ⟨h.1, ?_⟩
  rcases h.2 with h | ⟨g, cap, cur, h1, h2, h3⟩
  · exact .inl h
  · exact .inr ⟨g, cap, cur, h1, Nat.le_trans hb h2, h3⟩
theorem mput_at {k : Key} {v x : Rest} {L : List (Key × Rest)} (h : mget k L = some x) : mput k v L = L.take (midx k L) ++ [(k, v)] ++ L.drop (midx k L + 1) := by
  induction L with
  | nil => simp [mget] at h
  | cons p L ih =>
    obtain ⟨a, u⟩ := p
    by_cases hk : k = a
    · subst hk; simp [mput, midx]
    · simp only [mget, hk, if_false] at h
      simp only [mput, midx, hk, if_false, ih h]
      simp
theorem mdel_at {k : Key} {x : Rest} {L : List (Key × Rest)} (h : mget k L = some x) : mdel k L = L.take (midx k L) ++ L.drop (midx k L + 1) := by
  induction L with
  | nil => simp [mget] at h
  | cons p L ih =>
    obtain ⟨a, u⟩ := p
    by_cases hk : k = a
    · subst hk; simp [mdel, midx]
    · simp only [mget, hk, if_false] at h
      simp only [mdel, midx, hk, if_false, ih h]
      simp
theorem midx_at {k : Key} {x : Rest} {L : List (Key × Rest)} (h : mget k L = some x) : ∃ hi : midx k L < L.length, L[midx k L] = (k, x) := by
  induction L with
  | nil => simp [mget] at h
  | cons p L ih =>
    obtain ⟨a, u⟩ := p
    by_cases hk : k = a
    · subst hk
      have : u = x := by simpa [mget] using h
      subst this
      exact ⟨by simp [midx], by simp [midx]⟩
    · simp only [mget, hk, if_false] at h
      obtain ⟨h1, h2⟩ := ih h
      exact ⟨by simp only [midx, hk, if_false, List.length_cons]; omega, by simp only [midx, hk, if_false, List.getElem_cons_succ]; exact h2⟩
/-- What the loop has kept so far. -/
def outF (L : List (Key × Rest)) (i : Nat) (mid : List (Key × Rest)) (j : Nat) : List (Key × Rest) :=
  if j ≤ i then L.take j else L.take i ++ mid ++ (L.drop (i + 1)).take (j - (i + 1))
theorem out_here (L : List (Key × Rest)) (i : Nat) (mid : List (Key × Rest)) : outF L i mid (i + 1) = outF L i mid i ++ mid := by
  unfold outF
  rw [if_neg (by omega), if_pos (Nat.le_refl _)]; simp
theorem out_else {L : List (Key × Rest)} {i j : Nat} (mid : List (Key × Rest)) (hj : j < L.length) (hne : j ≠ i) : outF L i mid (j + 1) = outF L i mid j ++ [L[j]] := by
  unfold outF
  by_cases h : j ≤ i
  · rw [if_pos h, if_pos (by omega), List.take_succ_eq_append_getElem hj]
  · rw [if_neg h, if_neg (by omega), show j + 1 - (i + 1) = (j - (i + 1)) + 1 by omega]
    rw [List.take_succ_eq_append_getElem (by rw [List.length_drop]; omega), List.append_assoc, List.append_assoc, List.append_assoc]
    congr 3
    rw [List.getElem_drop]
    congr 2
    omega
theorem out_end {L : List (Key × Rest)} {i : Nat} (mid : List (Key × Rest)) (hi : i < L.length) : outF L i mid L.length = L.take i ++ mid ++ L.drop (i + 1) := by
  unfold outF
  rw [if_neg (by omega), List.take_of_length_le (l := L.drop (i + 1)) (by rw [List.length_drop]; omega)]
theorem out_len (L : List (Key × Rest)) (i : Nat) (mid : List (Key × Rest)) (hm : mid.length ≤ 1) (j : Nat) : (outF L i mid j).length ≤ j + 1 := by
  unfold outF
  split
  · rw [List.length_take]; omega
  · simp only [List.length_append, List.length_take]; omega
def midF (k : Key) (x : Rest) (q : Int) : List (Key × Rest) := if 0 < x.qty - q then [(k, ⟨x.side, x.price, x.qty - q⟩)] else []
theorem less_out {L : List (Key × Rest)} {k : Key} {x : Rest} (h : mget k L = some x) (q : Int) : lessF L k q = (outF L (midx k L) (midF k x q) L.length, true) := by
  obtain ⟨hi, -⟩ := midx_at h
  rw [out_end _ hi]
  unfold lessF midF
  rw [h]
  dsimp only
  split
  · rw [mput_at h]
  · rw [mdel_at h]; simp

/-- What the document's less answers. -/
def RLessIs (N R : Nat) (L : List (Key × Rest)) (k : Key) (q : Int) (w : World) (e : Ending) (w' : World) : Prop :=
  e = .returned (.bool (lessF L k q).2) ∧ RS N w' R (lessF L k q).1 ∧ Chg w.heap.size R w w'

set_option maxRecDepth 100000 in
set_option maxHeartbeats 4000000 in
theorem rless_any (N R : Nat) (L : List (Key × Rest)) (k1 k2 q : Int) (w : World) (h : RS N w R L) (hN : N ≤ w.heap.size) (hok : OkL L) (hl : L.length ≤ 1000) (hq0 : 0 ≤ q) (hq1 : q ≤ 1125899906842624) :
    Calls Try.prog 85 #[.pointer (some ⟨R, 0, none⟩), .int .i64 k1, .int .i64 k2, .int .i64 q] w (RLessIs N R L (k1, k2) q w) := by
  have HF := Lib.hid (find_any N R L k1 k2 w h)
  obtain ⟨i0, hi0, hz0, hz1, hz2⟩ := info_parts infoRow
  cases hk : mget (k1, k2) L with
  | none =>
    have HE := Lib.hid (show lessF L (k1, k2) q = (L, false) by simp [lessF, hk])
    have HFE : findF L (k1, k2) = -1 := by simp [findF, hk]
    have HH := Lib.hid h
    rw [HFE] at HF
    clear h hk
    go_enter Try.func85, Try.ntmps85
    go_wp2_with fail
    refine HF.out.mono ?_
    rintro e w1 ⟨rfl, rfl⟩
    go_wp2_with fail
    go_ret
    exact ⟨by rw [HE.out]; rfl, by rw [HE.out]; exact HH.out, Chg.refl _ _ _⟩
  | some x =>
    obtain ⟨hi, hix⟩ := midx_at hk
    have HE := Lib.hid (less_out hk q)
    have HFE : findF L (k1, k2) = (midx (k1, k2) L : Int) := by simp [findF, hk]
    rw [HFE] at HF
    generalize midx (k1, k2) L = i at *
    obtain ⟨v, hR, hRN, hrows, -⟩ := h
    obtain ⟨a, cap, rfl, hc1, hc2, hat⟩ := owned_at rowC 8 rowC_size hrows
    have HBR := Lib.hid hR
    unfold maxLen at hc2
    have HAT := Lib.hid hat
    have HOK := Lib.hid hok
    have HX := Lib.hid hix
    have HMID := Lib.hid (show (midF (k1, k2) x q).length ≤ 1 by unfold midF; split <;> simp)
    clear hrows hR hat hok hix hk
    go_enter Try.func85, Try.ntmps85
    go_wp2_with fail
    refine HF.out.mono ?_
    rintro e w1 ⟨rfl, rfl⟩
    go_wp2_with fail
    go_loopw [10, 11] (fun v j wr => ∃ k : Nat, k ≤ L.length ∧ j = .int .i64 k ∧ wr.ownsRow w.heap.size 172 8 v (outF L i (midF (k1, k2) x q) k).length (rowsR (outF L i (midF (k1, k2) x q) k)) ∧ Below w.heap.size w wr ∧ (outF L i (midF (k1, k2) x q) k = [] → v = .slice none 0 0)) (fun _ j _ => L.length - (intOf j).toNat)
    case atStart => exact ⟨0, by omega, rfl, by simpa [outF] using World.ownsRow_nil _ _ _ _, Below.refl _ _, fun _ => rfl⟩
    case round =>
      obtain ⟨j, hk, rfl, hrw, hbw, hnl⟩ := hrel
      have HNL := Lib.hid hnl
      have HRW := Lib.hid hrw
      have HBW := Lib.hid hbw
      obtain ⟨va, vc, rfl⟩ := row_slice hrw
      have hRw : R < w.heap.size := by omega
      have cR : wr.cell? ⟨R, 0, none⟩ = some (.slice a L.length cap) := by rw [hbw.cell (p := ⟨R, _, none⟩) hRw]; exact HBR.out.cell 0 rfl
      clear hrw hbw hnl
      by_cases hlt : j < L.length
      · obtain ⟨g, rfl, hgN, hgw, hg⟩ := HAT.out j hlt
        have hrow : wr.rangeAt g (j * 8) (rowC L[j]).toList := fun c v hv => by rw [HBW.out.cell (p := ⟨g, _, none⟩) hgw]; exact hg c v hv
        have HOKP := Lib.hid (HOK.out _ (List.getElem_mem hlt))
        have HLEN := Lib.hid (show (outF L i (midF (k1, k2) x q) j).length ≤ 1001 from by have := out_len L i (midF (k1, k2) x q) HMID.out j; omega)
        have HP := Lib.hid (show ∀ h : j ≠ i, outF L i (midF (k1, k2) x q) (j + 1) = outF L i (midF (k1, k2) x q) j ++ [L[j]] from out_else _ hlt)
        have HPI := Lib.hid (show j = i → L[j] = ((k1, k2), x) from fun e => by subst e; exact HX.out)
        generalize L[j] = p at hrow HOKP HP HPI
        have HZ := Lib.hid (Blk.new wr rowZ 172 wr.heap.size rfl)
        have HM := Lib.hid (Blk.new wr (rowC p) 172 wr.heap.size rfl)
        have HBN := Lib.hid (HBW.out.alloc HBW.out.size (.cells (rowC p) 172))
        have HRN := Lib.hid (HRW.out.alloc (.cells (rowC p) 172))
        have m5 : (wr.alloc (.cells (rowC p) 172)).cell? ⟨wr.heap.size, 5, none⟩ = some (.int .i64 p.2.qty) := HM.out.cell 5 rfl
        have f5 : (wr.alloc (.cells (rowC p) 172)).frozen? ⟨wr.heap.size, 5, none⟩ = false := HM.out.free 5
        have g0 : (0 : Int) ≤ (j : Int) := by omega
        have g1 : (j : Int) < (L.length : Int) := by omega
        have hqp := HOKP.out.1
        have hqq := HOKP.out.2.1
        clear hg
        by_cases hji : j = i
        · subst hji
          have b1 : ((j : Int) == (j : Int)) = true := by simp
          have HPI2 := HPI.out rfl
          subst HPI2
          dsimp only at hqp hqq
          have HOH := Lib.hid (out_here L j (midF (k1, k2) x q))
          have hset : (rowC ((k1, k2), x)).setIfInBounds 5 (.int .i64 (x.qty - q)) = rowC ((k1, k2), ⟨x.side, x.price, x.qty - q⟩) := rfl
          have hwr : wrap64 (x.qty - q) = x.qty - q := IntWalk.wrap64_in _ (by omega)
          have HM2 := Lib.hid (Blk.new wr (rowC ((k1, k2), ⟨x.side, x.price, x.qty - q⟩)) 172 wr.heap.size rfl)
          have HRM := Lib.hid (HRW.out.alloc (.cells (rowC ((k1, k2), ⟨x.side, x.price, x.qty - q⟩)) 172))
          have HBM := Lib.hid (HBW.out.alloc HBW.out.size (.cells (rowC ((k1, k2), ⟨x.side, x.price, x.qty - q⟩)) 172))
          have m52 : (wr.alloc (.cells (rowC ((k1, k2), ⟨x.side, x.price, x.qty - q⟩)) 172)).cell? ⟨wr.heap.size, 5, none⟩ = some (.int .i64 (x.qty - q)) := HM2.out.cell 5 rfl
          by_cases hpos : 0 < x.qty - q
          · have HMF := Lib.hid (show midF (k1, k2) x q = [((k1, k2), ⟨x.side, x.price, x.qty - q⟩)] by unfold midF; rw [if_pos hpos])
            have HNB := Lib.hid (Blk.new (wr.alloc (.cells (rowC ((k1, k2), ⟨x.side, x.price, x.qty - q⟩)) 172)) (rowC ((k1, k2), ⟨x.side, x.price, x.qty - q⟩)) 172 (wr.heap.size + 1) (by simp))
            have HR2 := Lib.hid (HRM.out.alloc (.cells (rowC ((k1, k2), ⟨x.side, x.price, x.qty - q⟩)) 172))
            have HB2 := Lib.hid (HBM.out.alloc HBM.out.size (.cells (rowC ((k1, k2), ⟨x.side, x.price, x.qty - q⟩)) 172))
            go_wp2_with (first
              | (refine wpList_load_mid (by rfl) 172 _ (by rfl) g (j * 8) (by rfl) (rowC ((k1, k2), x)).toList _ hrow Try.underlying172 rfl (by kernel_rfl) ?_)
              | (refine store_blk (by rfl) 172 _ _ (by rfl) wr.heap.size (by rfl) rowZ (rowC ((k1, k2), x)) 172 HZ.out (by rfl) (by rfl) (by kernel_rfl) (one_row ((k1, k2), x)) ?_; change wpList _ _ _ _ _ (World.setCells (wr.alloc (.cells rowZ 172)) wr.heap.size 0 (rowC ((k1, k2), x)).toList); rw [Go.Proofs.Ytogjgpiddjmpiaa.Tape.alloc_setCells wr rowZ (rowC ((k1, k2), x)) 172 rfl wr.heap.size rfl])
              | (refine load_blk (by rfl) 172 _ (by rfl) wr.heap.size (by rfl) #[.int .i64 k1, .int .i64 k2, .int .i64 0, .int .i64 x.side, .int .i64 x.price, .int .i64 (x.qty - q), .int .i64 0, .int .i64 0] 172 HM2.out _ Try.underlying172 rfl (by kernel_rfl) ?_)
              | (at_builtin; refine wpList_append_lies _ (by rfl) _ _ _ (by rfl) w.heap.size 172 i0 (.agg rowZ) 8 64 Try.underlying72 hi0 hz0 hz1 hz2 (by rfl) (by decide) _ (outF L j (midF (k1, k2) x q) j).length (rowsR (outF L j (midF (k1, k2) x q) j)) (by rfl) HR2.out ⟨wr.heap.size + 1, 0, none⟩ 1 1 (Array.toList (rowC ((k1, k2), ⟨x.side, x.price, x.qty - q⟩))) (by rfl) (by rfl) (news_blk HNB.out) (one_mem (one_row ((k1, k2), ⟨x.side, x.price, x.qty - q⟩))) (by decide) (by unfold maxLen; have := HLEN.out; omega) (by have := HLEN.out; omega) HB2.out.size (wr.heap.size + 1 + 1) (by simp) ?_; intro g2 cap2 w5 hown5 hgrow5 hat5 hlt5)
              )
            have HB5 := Lib.hid (below_push HB2.out HR2.out hgrow5 HB2.out.size)
            have HR5 := Lib.hid hown5
            clear hown5 hgrow5 hat5 hlt5
            go_wp2
            go_roundw
            case rel => exact ⟨j + 1, by omega, by go_num, by have h := HR5.out; rw [HOH.out, List.length_append, rowsR, List.flatMap_append]; generalize outF L j (midF (k1, k2) x q) j = O at h ⊢; rw [HMF.out]; simpa using h, HB5.out, fun e => by rw [HOH.out, HMF.out] at e; simp at e⟩
            case measure => simp [intOf]; omega
          · have HMF := Lib.hid (show midF (k1, k2) x q = [] by unfold midF; rw [if_neg hpos])
            go_wp2_with (first
              | (refine wpList_load_mid (by rfl) 172 _ (by rfl) g (j * 8) (by rfl) (rowC ((k1, k2), x)).toList _ hrow Try.underlying172 rfl (by kernel_rfl) ?_)
              | (refine store_blk (by rfl) 172 _ _ (by rfl) wr.heap.size (by rfl) rowZ (rowC ((k1, k2), x)) 172 HZ.out (by rfl) (by rfl) (by kernel_rfl) (one_row ((k1, k2), x)) ?_; change wpList _ _ _ _ _ (World.setCells (wr.alloc (.cells rowZ 172)) wr.heap.size 0 (rowC ((k1, k2), x)).toList); rw [Go.Proofs.Ytogjgpiddjmpiaa.Tape.alloc_setCells wr rowZ (rowC ((k1, k2), x)) 172 rfl wr.heap.size rfl])
              )
            go_roundw
            case rel => exact ⟨j + 1, by omega, by go_num, by have h := HRM.out; rw [HOH.out]; generalize outF L j (midF (k1, k2) x q) j = O at h ⊢; rw [HMF.out, List.append_nil]; exact h, HBM.out, fun e => by rw [HOH.out] at e; exact HNL.out (List.append_eq_nil_iff.1 e).1⟩
            case measure => simp [intOf]; omega
        · have b1 : ((j : Int) == (i : Int)) = false := by simpa using fun e => hji (by omega)
          have HNB := Lib.hid (Blk.new (wr.alloc (.cells (rowC p) 172)) (rowC p) 172 (wr.heap.size + 1) (by simp))
          have HR2 := Lib.hid (HRN.out.alloc (.cells (rowC p) 172))
          have HB2 := Lib.hid (HBN.out.alloc HBN.out.size (.cells (rowC p) 172))
          go_wp2_with (first
            | (refine wpList_load_mid (by rfl) 172 _ (by rfl) g (j * 8) (by rfl) (rowC p).toList _ hrow Try.underlying172 rfl (by kernel_rfl) ?_)
            | (refine store_blk (by rfl) 172 _ _ (by rfl) wr.heap.size (by rfl) rowZ (rowC p) 172 HZ.out (by rfl) (by rfl) (by kernel_rfl) (one_row p) ?_; change wpList _ _ _ _ _ (World.setCells (wr.alloc (.cells rowZ 172)) wr.heap.size 0 (rowC p).toList); rw [Go.Proofs.Ytogjgpiddjmpiaa.Tape.alloc_setCells wr rowZ (rowC p) 172 rfl wr.heap.size rfl])
            | (refine load_blk (by rfl) 172 _ (by rfl) wr.heap.size (by rfl) #[.int .i64 p.1.1, .int .i64 p.1.2, .int .i64 0, .int .i64 p.2.side, .int .i64 p.2.price, .int .i64 p.2.qty, .int .i64 0, .int .i64 0] 172 HM.out _ Try.underlying172 rfl (by kernel_rfl) ?_)
            | (at_builtin; refine wpList_append_lies _ (by rfl) _ _ _ (by rfl) w.heap.size 172 i0 (.agg rowZ) 8 64 Try.underlying72 hi0 hz0 hz1 hz2 (by rfl) (by decide) _ (outF L i (midF (k1, k2) x q) j).length (rowsR (outF L i (midF (k1, k2) x q) j)) (by rfl) HR2.out ⟨wr.heap.size + 1, 0, none⟩ 1 1 (Array.toList (rowC p)) (by rfl) (by rfl) (news_blk HNB.out) (one_mem (one_row p)) (by decide) (by unfold maxLen; have := HLEN.out; omega) (by have := HLEN.out; omega) HB2.out.size (wr.heap.size + 1 + 1) (by simp) ?_; intro g2 cap2 w5 hown5 hgrow5 hat5 hlt5)
            )
          have HB5 := Lib.hid (below_push HB2.out HR2.out hgrow5 HB2.out.size)
          have HR5 := Lib.hid hown5
          clear hown5 hgrow5 hat5 hlt5
          go_wp2
          go_roundw
          case rel => exact ⟨j + 1, by omega, by go_num, by rw [HP.out hji, rowsR_app, List.length_append]; exact HR5.out, HB5.out, fun e => by rw [HP.out hji] at e; simp at e⟩
          case measure => simp [intOf]; omega
      · obtain rfl : j = L.length := by omega
        have fR : wr.frozen? ⟨R, 0, none⟩ = false := (HBR.out.below HBW.out (by exact hRw)).free 0
        have HEND := Lib.hid (show RS N (wr.setCell ⟨R, 0, none⟩ (.slice va (outF L i (midF (k1, k2) x q) L.length).length vc)) R (outF L i (midF (k1, k2) x q) L.length) from
          ⟨_, (HBR.out.below HBW.out (by exact hRw)).set 0 _, hRN, owns_mono (HRW.out.kept (grown_cell _ R 0 _) (.inr (fun e => by have := (HRW.out.lt _ e).1; omega))) hN, HNL.out⟩)
        have HCH := Lib.hid (show Chg w.heap.size R w (wr.setCell ⟨R, 0, none⟩ (.slice va (outF L i (midF (k1, k2) x q) L.length).length vc)) from (Chg.of HBW.out).setCell _ _ (.inl rfl))
        go_wp2_with fail
        go_ret
        exact ⟨by rw [HE.out]; rfl, by rw [HE.out]; exact HEND.out, HCH.out⟩
end Go.Proofs.Ytogjgpiddjmpiaa.Depth

/- The document's Put: trades and other messages. -/
namespace Go.Proofs.Ytogjgpiddjmpiaa.Depth
open Go.RowKit Go.Proofs.Ytogjgpiddjmpiaa.Kit Go.Proofs.Ytogjgpiddjmpiaa.Blk Go.Proofs.Ytogjgpiddjmpiaa.Mp Go.Proofs.Ytogjgpiddjmpiaa.Msgs Go.Proofs.Ytogjgpiddjmpiaa.Octets Go.Proofs.Ytogjgpiddjmpiaa.Tape
attribute [local go_sem ↓] Go.wp_at_zero Go.wp_at_succ
set_option linter.unusedVariables false

theorem RS.below {N R : Nat} {W W' : World} {L : List (Key × Rest)} (h : RS N W R L) (hb : Below W.heap.size W W') : RS N W' R L := by
  obtain ⟨v, h1, h2, h3, h4⟩ := h
  exact ⟨v, h1.below hb h1.lt, h2, h3.kept (row := none) ⟨hb.os, hb.tape, hb.output, hb.size, fun k hk _ => hb.block k hk⟩ (by cases v.ownBlock; exact .inl rfl; exact .inr (by simp)), h4⟩
theorem RS.lt {N R : Nat} {W : World} {L : List (Key × Rest)} (h : RS N W R L) : R < W.heap.size := by
  obtain ⟨v, h1, _⟩ := h; exact h1.lt
theorem RS.ltN {N R : Nat} {W : World} {L : List (Key × Rest)} (h : RS N W R L) : R < N := by
  obtain ⟨v, h1, h2, _⟩ := h; exact h2
theorem less_len (L : List (Key × Rest)) (k : Key) (q : Int) : (lessF L k q).1.length ≤ L.length + 1 := by
  cases hk : mget k L with
  | none => rw [less_no hk]; simp
  | some x =>
    rw [less_out hk]
    exact out_len _ _ _ (by unfold midF; split <;> simp) _
/-- What the document's Put answers. -/
def RPutIs (N R : Nat) (L : List (Key × Rest)) (m : Msg) (w : World) (e : Ending) (w' : World) : Prop :=
  e = .returned (.bool (putF L m).2) ∧ RS N w' R (putF L m).1 ∧ Chg w.heap.size R w w'
/-- Where it stands: the message boxed. -/
structure RB (N R : Nat) (w : World) (m : Msg) (W : World) (L : List (Key × Rest)) : Prop where
  rs : RS N W R L
  mb : Blk W w.heap.size m.cells 66
  chg : Chg w.heap.size R w W
  ltR : R < w.heap.size
  ltN : N ≤ W.heap.size
theorem rb_start {N R : Nat} {w : World} {L : List (Key × Rest)} (m : Msg) (h : RS N w R L) (hN : N ≤ w.heap.size) : RB N R w m (w.alloc (.cells m.cells 66)) L :=
  ⟨h.below ((Below.refl _ _).alloc (Nat.le_refl _) _), Blk.new _ _ _ _ rfl, (Chg.refl _ _ _).alloc (Nat.le_refl _) _, h.lt, by simp; omega⟩
theorem RB.turn {N R : Nat} {w W W' : World} {m : Msg} {L L' : List (Key × Rest)} (h : RB N R w m W L) (hr : RS N W' R L') (hc : Chg W.heap.size R W W') : RB N R w m W' L' :=
  have h1 := h.ltR
  ⟨hr, hc.blk h.mb.lt (by omega) h.mb, h.chg.trans (hc.mono h.chg.size), h.ltR, Nat.le_trans h.ltN hc.size⟩
set_option maxRecDepth 20000 in
set_option maxHeartbeats 2000000 in
theorem rput_other (N R : Nat) (L : List (Key × Rest)) (m : Msg) (w : World) (h : RS N w R L) (hN : N ≤ w.heap.size) (h1 : m.kind ≠ 1) (h3 : m.kind ≠ 3) (h4 : m.kind ≠ 4) :
    Calls Try.prog 38 #[.pointer (some ⟨R, 0, none⟩), .agg m.cells] w (RPutIs N R L m w) := by
  have HE := Lib.hid (show putF L m = (L, false) by simp [putF, h1, h3, h4])
  have g1 : (m.kind == 1) = false := by simpa using h1
  have g3 : (m.kind == 3) = false := by simpa using h3
  have g4 : (m.kind == 4) = false := by simpa using h4
  clear h1 h3 h4
  have HS := Lib.hid (rb_start m h hN)
  clear h
  have m0 : (w.alloc (.cells m.cells 66)).cell? ⟨w.heap.size, 0, none⟩ = some (.int .i64 m.kind) := HS.out.mb.cell 0 rfl
  have m1 : (w.alloc (.cells m.cells 66)).cell? ⟨w.heap.size, 1, none⟩ = some (.int .i64 m.sym) := HS.out.mb.cell 1 rfl
  have m4 : (w.alloc (.cells m.cells 66)).cell? ⟨w.heap.size, 4, none⟩ = some (.int .i64 m.id) := HS.out.mb.cell 4 rfl
  have m5 : (w.alloc (.cells m.cells 66)).cell? ⟨w.heap.size, 5, none⟩ = some (.int .i64 m.wth) := HS.out.mb.cell 5 rfl
  have m6 : (w.alloc (.cells m.cells 66)).cell? ⟨w.heap.size, 6, none⟩ = some (.int .i64 m.price) := HS.out.mb.cell 6 rfl
  have m7 : (w.alloc (.cells m.cells 66)).cell? ⟨w.heap.size, 7, none⟩ = some (.int .i64 m.qty) := HS.out.mb.cell 7 rfl
  have m8 : (w.alloc (.cells m.cells 66)).cell? ⟨w.heap.size, 8, none⟩ = some (.int .i64 m.code) := HS.out.mb.cell 8 rfl
  go_enter Try.func38, Try.ntmps38
  go_wp2_with fail
  go_ret
  exact ⟨by (show Ending.returned (.bool false) = _; rw [HE.out]; first | done | rfl), by rw [HE.out]; exact HS.out.rs, HS.out.chg⟩

set_option maxRecDepth 20000 in
set_option maxHeartbeats 4000000 in
theorem rput_trade (N R : Nat) (L : List (Key × Rest)) (m : Msg) (w : World) (h : RS N w R L) (hN : N ≤ w.heap.size) (hok : OkL L) (hl : L.length ≤ 900) (h3 : m.kind = 3) (hq1 : m.qty ≤ 1125899906842624) :
    Calls Try.prog 38 #[.pointer (some ⟨R, 0, none⟩), .agg m.cells] w (RPutIs N R L m w) := by
  have g1 : (m.kind == 1) = false := by simp [h3]
  have g3 : (m.kind == 3) = true := by simp [h3]
  by_cases hq : m.qty < 1
  · have HE := Lib.hid (show putF L m = (L, false) by simp [putF, h3, hq])
    clear h3
    have HS := Lib.hid (rb_start m h hN)
    clear h
    have m0 : (w.alloc (.cells m.cells 66)).cell? ⟨w.heap.size, 0, none⟩ = some (.int .i64 m.kind) := HS.out.mb.cell 0 rfl
    have m1 : (w.alloc (.cells m.cells 66)).cell? ⟨w.heap.size, 1, none⟩ = some (.int .i64 m.sym) := HS.out.mb.cell 1 rfl
    have m4 : (w.alloc (.cells m.cells 66)).cell? ⟨w.heap.size, 4, none⟩ = some (.int .i64 m.id) := HS.out.mb.cell 4 rfl
    have m5 : (w.alloc (.cells m.cells 66)).cell? ⟨w.heap.size, 5, none⟩ = some (.int .i64 m.wth) := HS.out.mb.cell 5 rfl
    have m6 : (w.alloc (.cells m.cells 66)).cell? ⟨w.heap.size, 6, none⟩ = some (.int .i64 m.price) := HS.out.mb.cell 6 rfl
    have m7 : (w.alloc (.cells m.cells 66)).cell? ⟨w.heap.size, 7, none⟩ = some (.int .i64 m.qty) := HS.out.mb.cell 7 rfl
    have m8 : (w.alloc (.cells m.cells 66)).cell? ⟨w.heap.size, 8, none⟩ = some (.int .i64 m.code) := HS.out.mb.cell 8 rfl
    go_enter Try.func38, Try.ntmps38
    go_wp2_with fail
    go_ret
    exact ⟨by (show Ending.returned (.bool false) = _; rw [HE.out]; first | done | rfl), by rw [HE.out]; exact HS.out.rs, HS.out.chg⟩
  · have HQ := Lib.hid hq1
    have HOK := Lib.hid hok
    have HL := Lib.hid (show (lessF L (m.sym, m.id) m.qty).1.length ≤ 1000 from by have := less_len L (m.sym, m.id) m.qty; omega)
    by_cases hc : m.code = 1
    · have HE := Lib.hid (show putF L m = lessF L (m.sym, m.id) m.qty by simp [putF, h3, hq, hc])
      have g8 : (m.code != 1) = false := by simp [hc]
      clear h3 hc hq1 hok
      have HS := Lib.hid (rb_start m h hN)
      clear h
      have m0 : (w.alloc (.cells m.cells 66)).cell? ⟨w.heap.size, 0, none⟩ = some (.int .i64 m.kind) := HS.out.mb.cell 0 rfl
      have m1 : (w.alloc (.cells m.cells 66)).cell? ⟨w.heap.size, 1, none⟩ = some (.int .i64 m.sym) := HS.out.mb.cell 1 rfl
      have m4 : (w.alloc (.cells m.cells 66)).cell? ⟨w.heap.size, 4, none⟩ = some (.int .i64 m.id) := HS.out.mb.cell 4 rfl
      have m5 : (w.alloc (.cells m.cells 66)).cell? ⟨w.heap.size, 5, none⟩ = some (.int .i64 m.wth) := HS.out.mb.cell 5 rfl
      have m6 : (w.alloc (.cells m.cells 66)).cell? ⟨w.heap.size, 6, none⟩ = some (.int .i64 m.price) := HS.out.mb.cell 6 rfl
      have m7 : (w.alloc (.cells m.cells 66)).cell? ⟨w.heap.size, 7, none⟩ = some (.int .i64 m.qty) := HS.out.mb.cell 7 rfl
      have m8 : (w.alloc (.cells m.cells 66)).cell? ⟨w.heap.size, 8, none⟩ = some (.int .i64 m.code) := HS.out.mb.cell 8 rfl
      go_enter Try.func38, Try.ntmps38
      go_wp2_with fail
      refine (rless_any N R L m.sym m.id m.qty _ HS.out.rs HS.out.ltN HOK.out (by omega) (by omega) HQ.out).mono ?_
      rintro e w3 ⟨rfl, hd3, hc3⟩
      replace HS := Lib.hid (HS.out.turn hd3 hc3)
      clear hd3 hc3 m0 m1 m4 m5 m6 m7 m8
      have m0 : w3.cell? ⟨w.heap.size, 0, none⟩ = some (.int .i64 m.kind) := HS.out.mb.cell 0 rfl
      have m1 : w3.cell? ⟨w.heap.size, 1, none⟩ = some (.int .i64 m.sym) := HS.out.mb.cell 1 rfl
      have m4 : w3.cell? ⟨w.heap.size, 4, none⟩ = some (.int .i64 m.id) := HS.out.mb.cell 4 rfl
      have m5 : w3.cell? ⟨w.heap.size, 5, none⟩ = some (.int .i64 m.wth) := HS.out.mb.cell 5 rfl
      have m6 : w3.cell? ⟨w.heap.size, 6, none⟩ = some (.int .i64 m.price) := HS.out.mb.cell 6 rfl
      have m7 : w3.cell? ⟨w.heap.size, 7, none⟩ = some (.int .i64 m.qty) := HS.out.mb.cell 7 rfl
      have m8 : w3.cell? ⟨w.heap.size, 8, none⟩ = some (.int .i64 m.code) := HS.out.mb.cell 8 rfl
      generalize hA : lessF L (m.sym, m.id) m.qty = A at HS HE HL ⊢
      clear hA
      obtain ⟨L1, c1⟩ := A
      dsimp only at HS HE ⊢
      cases c1 with
      | true =>
        go_wp2_with fail
        go_ret
        exact ⟨by (show Ending.returned (.bool true) = _; rw [HE.out]; first | done | rfl), by rw [HE.out]; exact HS.out.rs, HS.out.chg⟩
      | false =>
        go_wp2_with fail
        go_ret
        exact ⟨by (show Ending.returned (.bool false) = _; rw [HE.out]; first | done | rfl), by rw [HE.out]; exact HS.out.rs, HS.out.chg⟩
    · have HE := Lib.hid (show putF L m = ((lessF (lessF L (m.sym, m.id) m.qty).1 (m.sym, m.wth) m.qty).1, (lessF L (m.sym, m.id) m.qty).2 || (lessF (lessF L (m.sym, m.id) m.qty).1 (m.sym, m.wth) m.qty).2) by simp [putF, h3, hq, hc])
      have g8 : (m.code != 1) = true := by simp [hc]
      have HOK1 := Lib.hid (ok_less hok (m.sym, m.id) m.qty (by omega))
      clear h3 hc hq1 hok
      have HS := Lib.hid (rb_start m h hN)
      clear h
      have m0 : (w.alloc (.cells m.cells 66)).cell? ⟨w.heap.size, 0, none⟩ = some (.int .i64 m.kind) := HS.out.mb.cell 0 rfl
      have m1 : (w.alloc (.cells m.cells 66)).cell? ⟨w.heap.size, 1, none⟩ = some (.int .i64 m.sym) := HS.out.mb.cell 1 rfl
      have m4 : (w.alloc (.cells m.cells 66)).cell? ⟨w.heap.size, 4, none⟩ = some (.int .i64 m.id) := HS.out.mb.cell 4 rfl
      have m5 : (w.alloc (.cells m.cells 66)).cell? ⟨w.heap.size, 5, none⟩ = some (.int .i64 m.wth) := HS.out.mb.cell 5 rfl
      have m6 : (w.alloc (.cells m.cells 66)).cell? ⟨w.heap.size, 6, none⟩ = some (.int .i64 m.price) := HS.out.mb.cell 6 rfl
      have m7 : (w.alloc (.cells m.cells 66)).cell? ⟨w.heap.size, 7, none⟩ = some (.int .i64 m.qty) := HS.out.mb.cell 7 rfl
      have m8 : (w.alloc (.cells m.cells 66)).cell? ⟨w.heap.size, 8, none⟩ = some (.int .i64 m.code) := HS.out.mb.cell 8 rfl
      go_enter Try.func38, Try.ntmps38
      go_wp2_with fail
      refine (rless_any N R L m.sym m.id m.qty _ HS.out.rs HS.out.ltN HOK.out (by omega) (by omega) HQ.out).mono ?_
      rintro e w3 ⟨rfl, hd3, hc3⟩
      replace HS := Lib.hid (HS.out.turn hd3 hc3)
      clear hd3 hc3 m0 m1 m4 m5 m6 m7 m8
      have m0 : w3.cell? ⟨w.heap.size, 0, none⟩ = some (.int .i64 m.kind) := HS.out.mb.cell 0 rfl
      have m1 : w3.cell? ⟨w.heap.size, 1, none⟩ = some (.int .i64 m.sym) := HS.out.mb.cell 1 rfl
      have m4 : w3.cell? ⟨w.heap.size, 4, none⟩ = some (.int .i64 m.id) := HS.out.mb.cell 4 rfl
      have m5 : w3.cell? ⟨w.heap.size, 5, none⟩ = some (.int .i64 m.wth) := HS.out.mb.cell 5 rfl
      have m6 : w3.cell? ⟨w.heap.size, 6, none⟩ = some (.int .i64 m.price) := HS.out.mb.cell 6 rfl
      have m7 : w3.cell? ⟨w.heap.size, 7, none⟩ = some (.int .i64 m.qty) := HS.out.mb.cell 7 rfl
      have m8 : w3.cell? ⟨w.heap.size, 8, none⟩ = some (.int .i64 m.code) := HS.out.mb.cell 8 rfl
      generalize hA : lessF L (m.sym, m.id) m.qty = A at HS HE HL HOK1 ⊢
      clear hA
      obtain ⟨L1, c1⟩ := A
      dsimp only at HS HE HL HOK1 ⊢
      go_wp2_with fail
      refine (rless_any N R L1 m.sym m.wth m.qty _ HS.out.rs HS.out.ltN HOK1.out HL.out (by omega) HQ.out).mono ?_
      rintro e w4 ⟨rfl, hd4, hc4⟩
      replace HS := Lib.hid (HS.out.turn hd4 hc4)
      clear hd4 hc4 m0 m1 m4 m5 m6 m7 m8
      generalize hB : lessF L1 (m.sym, m.wth) m.qty = B at HS HE ⊢
      clear hB
      obtain ⟨L2, c2⟩ := B
      dsimp only at HS HE ⊢
      cases c1 with
      | true =>
        go_wp2_with fail
        go_ret
        exact ⟨by (show Ending.returned (.bool true) = _; rw [HE.out]; first | done | rfl), by rw [HE.out]; exact HS.out.rs, HS.out.chg⟩
      | false =>
        go_wp2_with fail
        go_ret
        exact ⟨by (show Ending.returned (.bool c2) = _; rw [HE.out]; first | done | rfl), by rw [HE.out]; exact HS.out.rs, HS.out.chg⟩
end Go.Proofs.Ytogjgpiddjmpiaa.Depth

/- The document's Put: ends. -/
namespace Go.Proofs.Ytogjgpiddjmpiaa.Depth
open Go.RowKit Go.Proofs.Ytogjgpiddjmpiaa.Kit Go.Proofs.Ytogjgpiddjmpiaa.Blk Go.Proofs.Ytogjgpiddjmpiaa.Mp Go.Proofs.Ytogjgpiddjmpiaa.Msgs Go.Proofs.Ytogjgpiddjmpiaa.Octets Go.Proofs.Ytogjgpiddjmpiaa.Tape
attribute [local go_sem ↓] Go.wp_at_zero Go.wp_at_succ
set_option linter.unusedVariables false
theorem RB.drew {N R : Nat} {w W : World} {m : Msg} {L : List (Key × Rest)} (h : RB N R w m W L) : RB N R w m W.drew L :=
  ⟨h.rs.below ((Below.refl _ _).drew), h.mb, h.chg.drew, h.ltR, h.ltN⟩
theorem RB.drewN {N R : Nat} {w W : World} {m : Msg} {L : List (Key × Rest)} (h : RB N R w m W L) (n : Nat) : RB N R w m (W.drewN n) L :=
  ⟨h.rs.below ((Below.refl _ _).drewN n), h.mb, ⟨h.chg.os, h.chg.tape, h.chg.output, h.chg.size, h.chg.block⟩, h.ltR, h.ltN⟩
/-- The rows' variable, and a row's quantity. -/
theorem RS.qty {N R : Nat} {W : World} {L : List (Key × Rest)} (h : RS N W R L) {i : Nat} (hi : i < L.length) : ∃ g cap, N ≤ g ∧ g < W.heap.size ∧ L.length ≤ cap ∧ cap ≤ maxLen ∧ W.cell? ⟨R, 0, none⟩ = some (.slice (some ⟨g, 0, none⟩) L.length cap) ∧ W.cell? ⟨g, i * 8 + 5, none⟩ = some (.int .i64 L[i].2.qty) := by
  obtain ⟨v, hR, -, hrow, -⟩ := h
  obtain ⟨a, cap, rfl, hc1, hc2, hat⟩ := owned_at rowC 8 rowC_size hrow
  obtain ⟨g, rfl, hg1, hg2, hg⟩ := hat i hi
  exact ⟨g, cap, hg1, hg2, hc1, hc2, hR.cell 0 rfl, hg 5 _ rfl⟩

set_option maxRecDepth 20000 in
set_option maxHeartbeats 4000000 in
theorem rput_done (N R : Nat) (L : List (Key × Rest)) (m : Msg) (w : World) (h : RS N w R L) (hN : N ≤ w.heap.size) (hok : OkL L) (hl : L.length ≤ 900) (h4 : m.kind = 4) :
    Calls Try.prog 38 #[.pointer (some ⟨R, 0, none⟩), .agg m.cells] w (RPutIs N R L m w) := by
  have g1 : (m.kind == 1) = false := by simp [h4]
  have g3 : (m.kind == 3) = false := by simp [h4]
  have g4 : (m.kind == 4) = true := by simp [h4]
  cases hk : mget (m.sym, m.id) L with
  | none =>
    have HE := Lib.hid (show putF L m = (L, false) by simp [putF, h4, hk])
    have HFE : findF L (m.sym, m.id) = -1 := by simp [findF, hk]
    clear h4 hk
    have HS := Lib.hid (rb_start m h hN)
    clear h
    have m0 : (w.alloc (.cells m.cells 66)).cell? ⟨w.heap.size, 0, none⟩ = some (.int .i64 m.kind) := HS.out.mb.cell 0 rfl
    have m1 : (w.alloc (.cells m.cells 66)).cell? ⟨w.heap.size, 1, none⟩ = some (.int .i64 m.sym) := HS.out.mb.cell 1 rfl
    have m4 : (w.alloc (.cells m.cells 66)).cell? ⟨w.heap.size, 4, none⟩ = some (.int .i64 m.id) := HS.out.mb.cell 4 rfl
    have m5 : (w.alloc (.cells m.cells 66)).cell? ⟨w.heap.size, 5, none⟩ = some (.int .i64 m.wth) := HS.out.mb.cell 5 rfl
    have m6 : (w.alloc (.cells m.cells 66)).cell? ⟨w.heap.size, 6, none⟩ = some (.int .i64 m.price) := HS.out.mb.cell 6 rfl
    have m7 : (w.alloc (.cells m.cells 66)).cell? ⟨w.heap.size, 7, none⟩ = some (.int .i64 m.qty) := HS.out.mb.cell 7 rfl
    have m8 : (w.alloc (.cells m.cells 66)).cell? ⟨w.heap.size, 8, none⟩ = some (.int .i64 m.code) := HS.out.mb.cell 8 rfl
    go_enter Try.func38, Try.ntmps38
    go_wp2_with fail
    refine (find_any N R L m.sym m.id _ HS.out.rs).mono ?_
    rintro e w2 ⟨rfl, rfl⟩
    rw [HFE]
    go_upto_region 15 with fail
    generalize w.alloc (.cells m.cells 66) = W1 at HS ⊢
    clear m0 m1 m4 m5 m6 m7 m8
    go_quiet (fail)
    replace HS := Lib.hid ((HS.out).drewN nq)
    generalize W1.drewN nq = W2 at HS ⊢
    go_wp2_with fail
    go_ret
    exact ⟨by (show Ending.returned (.bool false) = _; rw [HE.out]; first | done | rfl), by rw [HE.out]; exact HS.out.rs, HS.out.chg⟩
  | some x =>
    have HE := Lib.hid (show putF L m = ((lessF L (m.sym, m.id) x.qty).1, true) by simp [putF, h4, hk])
    have hx := hok _ (mget_mem hk)
    dsimp only at hx
    have HQ := Lib.hid (show 0 ≤ x.qty ∧ x.qty ≤ 1125899906842624 by omega)
    have HY := Lib.hid (less_yes hk x.qty)
    have HFE : findF L (m.sym, m.id) = (midx (m.sym, m.id) L : Int) := by simp [findF, hk]
    obtain ⟨hi, hix⟩ := midx_at hk
    have HOK := Lib.hid hok
    generalize midx (m.sym, m.id) L = i at *
    clear h4 hx hk hok
    have HS := Lib.hid (rb_start m h hN)
    clear h
    have m0 : (w.alloc (.cells m.cells 66)).cell? ⟨w.heap.size, 0, none⟩ = some (.int .i64 m.kind) := HS.out.mb.cell 0 rfl
    have m1 : (w.alloc (.cells m.cells 66)).cell? ⟨w.heap.size, 1, none⟩ = some (.int .i64 m.sym) := HS.out.mb.cell 1 rfl
    have m4 : (w.alloc (.cells m.cells 66)).cell? ⟨w.heap.size, 4, none⟩ = some (.int .i64 m.id) := HS.out.mb.cell 4 rfl
    have m5 : (w.alloc (.cells m.cells 66)).cell? ⟨w.heap.size, 5, none⟩ = some (.int .i64 m.wth) := HS.out.mb.cell 5 rfl
    have m6 : (w.alloc (.cells m.cells 66)).cell? ⟨w.heap.size, 6, none⟩ = some (.int .i64 m.price) := HS.out.mb.cell 6 rfl
    have m7 : (w.alloc (.cells m.cells 66)).cell? ⟨w.heap.size, 7, none⟩ = some (.int .i64 m.qty) := HS.out.mb.cell 7 rfl
    have m8 : (w.alloc (.cells m.cells 66)).cell? ⟨w.heap.size, 8, none⟩ = some (.int .i64 m.code) := HS.out.mb.cell 8 rfl
    go_enter Try.func38, Try.ntmps38
    go_wp2_with fail
    refine (find_any N R L m.sym m.id _ HS.out.rs).mono ?_
    rintro e w2 ⟨rfl, rfl⟩
    rw [HFE]
    obtain ⟨g, cap, hg1, hg2, hc1, hc2, cR, cq⟩ := HS.out.rs.qty hi
    rw [hix] at cq
    dsimp only at cq
    unfold maxLen at hc2
    go_upto_region 15 with fail
    clear m0 m1 m4 m5 m6 m7 m8
    generalize w.alloc (.cells m.cells 66) = W1 at HS cR cq hg2 ⊢
    refine wp_region_held_drew (S := (fun w' => w'.cell? ⟨g, i * 8 + 5, none⟩ = some (.int .i64 x.qty) ∧ w'.cell? ⟨w.heap.size, 1, none⟩ = some (.int .i64 m.sym) ∧ w'.cell? ⟨w.heap.size, 4, none⟩ = some (.int .i64 m.id))) (by kernel_rfl) ⟨cq, HS.out.mb.cell 1 rfl, HS.out.mb.cell 4 rfl⟩ (fun hHeld => ?_)
    have cR2 : W1.drew.cell? ⟨R, 0, none⟩ = some (.slice (some ⟨g, 0, none⟩) L.length cap) := cR
    have hg3 : g < W1.drew.heap.size := hg2
    replace HS := Lib.hid HS.out.drew
    generalize W1.drew = W2 at HS hHeld cR2 hg3 ⊢
    clear cR
    refine wpAnyH_take (i := 0) (oi := ⟨some 105, _, _, _, _, _⟩) (v := (.int .i64 i)) rfl (by kernel_rfl) (by kernel_rfl) (by kernel_rfl) (fun _ _ _ h => h) (Or.inl ⟨by rfl, fun w hSw => by (try dsimp only at hSw); go_simp⟩) (by assumption) ?_
    simp only [Act.put, List.setIfInBounds_toArray, List.set_cons_zero, List.set_cons_succ]
    refine wpAnyH_take (i := 1) (oi := ⟨some 106, _, _, _, _, _⟩) (v := (.bool true)) rfl (by kernel_rfl) (by kernel_rfl) (by kernel_rfl) (fun _ _ _ h => h) (Or.inl ⟨by rfl, fun w hSw => by (try dsimp only at hSw); go_simp⟩) (by assumption) ?_
    simp only [Act.put, List.setIfInBounds_toArray, List.set_cons_zero, List.set_cons_succ]
    refine wpAnyH_take (i := 2) (oi := ⟨some 107, _, _, _, _, _⟩) (v := (.bool true)) rfl (by kernel_rfl) (by kernel_rfl) (by kernel_rfl) (fun _ _ _ h => h) (Or.inl ⟨by rfl, fun w hSw => by (try dsimp only at hSw); go_simp⟩) (by assumption) ?_
    simp only [Act.put, List.setIfInBounds_toArray, List.set_cons_zero, List.set_cons_succ]
    refine wpAnyH_take (i := 3) (oi := ⟨some 108, _, _, _, _, _⟩) (v := (.pointer (some ⟨R, 0, none⟩))) rfl (by kernel_rfl) (by kernel_rfl) (by kernel_rfl) (fun _ _ _ h => h) (Or.inl ⟨by rfl, fun w hSw => by (try dsimp only at hSw); go_simp⟩) (by assumption) ?_
    simp only [Act.put, List.setIfInBounds_toArray, List.set_cons_zero, List.set_cons_succ]
    refine wpAnyH_take (i := 4) (oi := ⟨some 109, _, _, _, _, _⟩) (v := (.pointer (some ⟨w.heap.size, 1, none⟩))) rfl (by kernel_rfl) (by kernel_rfl) (by kernel_rfl) (fun _ _ _ h => h) (Or.inl ⟨by rfl, fun w hSw => by (try dsimp only at hSw); go_simp⟩) (by assumption) ?_
    simp only [Act.put, List.setIfInBounds_toArray, List.set_cons_zero, List.set_cons_succ]
    refine wpAnyH_take (i := 5) (oi := ⟨some 110, _, _, _, _, _⟩) (v := (.int .i64 m.sym)) rfl (by kernel_rfl) (by kernel_rfl) (by kernel_rfl) (fun _ _ _ h => h) (Or.inl ⟨by rfl, fun w hSw => by (try dsimp only at hSw); go_simp⟩) (by assumption) ?_
    simp only [Act.put, List.setIfInBounds_toArray, List.set_cons_zero, List.set_cons_succ]
    refine wpAnyH_take (i := 6) (oi := ⟨some 111, _, _, _, _, _⟩) (v := (.pointer (some ⟨w.heap.size, 4, none⟩))) rfl (by kernel_rfl) (by kernel_rfl) (by kernel_rfl) (fun _ _ _ h => h) (Or.inl ⟨by rfl, fun w hSw => by (try dsimp only at hSw); go_simp⟩) (by assumption) ?_
    simp only [Act.put, List.setIfInBounds_toArray, List.set_cons_zero, List.set_cons_succ]
    refine wpAnyH_take (i := 7) (oi := ⟨some 112, _, _, _, _, _⟩) (v := (.int .i64 m.id)) rfl (by kernel_rfl) (by kernel_rfl) (by kernel_rfl) (fun _ _ _ h => h) (Or.inl ⟨by rfl, fun w hSw => by (try dsimp only at hSw); go_simp⟩) (by assumption) ?_
    simp only [Act.put, List.setIfInBounds_toArray, List.set_cons_zero, List.set_cons_succ]
    refine wpAnyH_take (i := 8) (oi := ⟨some 113, _, _, _, _, _⟩) (v := (.pointer (some ⟨R, 0, none⟩))) rfl (by kernel_rfl) (by kernel_rfl) (by kernel_rfl) (fun _ _ _ h => h) (Or.inl ⟨by rfl, fun w hSw => by (try dsimp only at hSw); go_simp⟩) (by assumption) ?_
    simp only [Act.put, List.setIfInBounds_toArray, List.set_cons_zero, List.set_cons_succ]
    refine wpAnyH_take (i := 9) (oi := ⟨some 114, _, _, _, _, _⟩) (v := (.pointer (some ⟨R, 0, none⟩))) rfl (by kernel_rfl) (by kernel_rfl) (by kernel_rfl) (fun _ _ _ h => h) (Or.inl ⟨by rfl, fun w hSw => by (try dsimp only at hSw); go_simp⟩) (by assumption) ?_
    simp only [Act.put, List.setIfInBounds_toArray, List.set_cons_zero, List.set_cons_succ]
    refine wpAnyH_take (i := 10) (oi := ⟨some 115, _, _, _, _, _⟩) (v := (.pointer (some ⟨R, 0, none⟩))) rfl (by kernel_rfl) (by kernel_rfl) (by kernel_rfl) (fun _ _ _ h => h) (Or.inl ⟨by rfl, fun w hSw => by (try dsimp only at hSw); go_simp⟩) (by assumption) ?_
    simp only [Act.put, List.setIfInBounds_toArray, List.set_cons_zero, List.set_cons_succ]
    refine wpAnyH_take (i := 12) (oi := ⟨some 117, _, _, _, _, _⟩) (v := (.int .i64 i)) rfl (by kernel_rfl) (by kernel_rfl) (by kernel_rfl) (fun _ _ _ h => h) (Or.inl ⟨by rfl, fun w hSw => by (try dsimp only at hSw); go_simp⟩) (by assumption) ?_
    simp only [Act.put, List.setIfInBounds_toArray, List.set_cons_zero, List.set_cons_succ]
    refine wpAnyH_ready (rs := [11]) (by kernel_rfl) (by simp) ?_
    refine AllReadyH.cons (o := ⟨some 116, _, _, _, _, _⟩) rfl (fun KK hK => ?_) AllReadyH.nil
    go_simp
    refine hK.out _ _ ⟨hHeld.1, hHeld.2.1, hHeld.2.2⟩ (fun hHeld => ?_)
    clear hK; try clear KK
    try simp only [Act.put, List.setIfInBounds_toArray, List.set_cons_zero, List.set_cons_succ]
    refine wpAnyH_take (i := 13) (oi := ⟨some 118, _, _, _, _, _⟩) (v := (.pointer (some ⟨g, i * 8, none⟩))) rfl (by kernel_rfl) (by kernel_rfl) (by kernel_rfl) (fun _ _ _ h => h) (Or.inl ⟨by rfl, fun w hSw => by (try dsimp only at hSw); go_simp⟩) (by assumption) ?_
    simp only [Act.put, List.setIfInBounds_toArray, List.set_cons_zero, List.set_cons_succ]
    refine wpAnyH_take (i := 14) (oi := ⟨some 119, _, _, _, _, _⟩) (v := (.pointer (some ⟨g, i * 8 + 1, none⟩))) rfl (by kernel_rfl) (by kernel_rfl) (by kernel_rfl) (fun _ _ _ h => h) (Or.inl ⟨by rfl, fun w hSw => by (try dsimp only at hSw); go_simp⟩) (by assumption) ?_
    simp only [Act.put, List.setIfInBounds_toArray, List.set_cons_zero, List.set_cons_succ]
    refine wpAnyH_take (i := 15) (oi := ⟨some 120, _, _, _, _, _⟩) (v := (.pointer (some ⟨g, i * 8 + 5, none⟩))) rfl (by kernel_rfl) (by kernel_rfl) (by kernel_rfl) (fun _ _ _ h => h) (Or.inl ⟨by rfl, fun w hSw => by (try dsimp only at hSw); go_simp⟩) (by assumption) ?_
    simp only [Act.put, List.setIfInBounds_toArray, List.set_cons_zero, List.set_cons_succ]
    refine wpAnyH_take (i := 16) (oi := ⟨some 121, _, _, _, _, _⟩) (v := (.int .i64 x.qty)) rfl (by kernel_rfl) (by kernel_rfl) (by kernel_rfl) (fun _ _ _ h => h) (Or.inl ⟨by rfl, fun w hSw => by (try dsimp only at hSw); go_simp⟩) (by assumption) ?_
    simp only [Act.put, List.setIfInBounds_toArray, List.set_cons_zero, List.set_cons_succ]
    refine wpAnyH_ready (rs := [17]) (by kernel_rfl) (by simp) ?_
    refine AllReadyH.cons (o := ⟨some 122, _, _, _, _, _⟩) rfl (fun KK hK => ?_) AllReadyH.nil
    go_simp
    refine (rless_any N R L m.sym m.id x.qty _ HS.out.rs HS.out.ltN HOK.out (by omega) HQ.out.1 HQ.out.2).mono ?_
    rintro e w3 ⟨rfl, hd3, hc3⟩
    rw [HY.out]
    have cq3 : w3.cell? ⟨g, i * 8 + 5, none⟩ = some (.int .i64 x.qty) := by rw [hc3.cell (p := ⟨g, _, none⟩) hg3 (by have := HS.out.rs.ltN; show g ≠ R; omega)]; exact hHeld.1
    replace HS := Lib.hid (HS.out.turn hd3 hc3)
    clear hd3 hc3 hHeld cR2
    go_wp2_with fail
    refine hK.out _ _ ⟨cq3, HS.out.mb.cell 1 rfl, HS.out.mb.cell 4 rfl⟩ (fun hHeld => ?_)
    clear hK; try clear KK
    try simp only [Act.put, List.setIfInBounds_toArray, List.set_cons_zero, List.set_cons_succ]
    refine wpAnyH_take (i := 18) (oi := ⟨some 123, _, _, _, _, _⟩) (v := (.bool true)) rfl (by kernel_rfl) (by kernel_rfl) (by kernel_rfl) (fun _ _ _ h => h) (Or.inl ⟨by rfl, fun w hSw => by (try dsimp only at hSw); go_simp⟩) (by assumption) ?_
    simp only [Act.put, List.setIfInBounds_toArray, List.set_cons_zero, List.set_cons_succ]
    refine wpAnyH_take (i := 19) (oi := ⟨some 4, _, _, _, _, _⟩) (v := (.bool true)) rfl (by kernel_rfl) (by kernel_rfl) (by kernel_rfl) (fun _ _ _ h => h) (Or.inl ⟨by rfl, fun w hSw => by (try dsimp only at hSw); go_simp⟩) (by assumption) ?_
    simp only [Act.put, List.setIfInBounds_toArray, List.set_cons_zero, List.set_cons_succ]
    refine wpAnyH_done (by kernel_rfl) ?_ _
    go_wp2_with fail
    go_ret
    exact ⟨by (show Ending.returned (.bool true) = _; rw [HE.out]; first | done | rfl), by rw [HE.out]; exact HS.out.rs, HS.out.chg⟩
end Go.Proofs.Ytogjgpiddjmpiaa.Depth

/- (*depth.Depth).Put: acknowledgements; any message. -/
namespace Go.Proofs.Ytogjgpiddjmpiaa.Depth
open Go.RowKit Go.Proofs.Ytogjgpiddjmpiaa.Kit Go.Proofs.Ytogjgpiddjmpiaa.Blk Go.Proofs.Ytogjgpiddjmpiaa.Mp Go.Proofs.Ytogjgpiddjmpiaa.Msgs
attribute [local go_sem ↓] Go.wp_at_zero Go.wp_at_succ
set_option linter.unusedVariables false
set_option maxRecDepth 20000 in
set_option maxHeartbeats 4000000 in
theorem put_ack (D b : Nat) (L : List (Key × Rest)) (m : Msg) (w : World) (h : DS w D b L) (h1 : m.kind = 1) :
    Calls Try.prog 37 #[.pointer (some ⟨D, 0, none⟩), .agg m.cells] w (PutIs L m D b w) := by
  have g1 : (m.kind == 1) = true := by simp [h1]
  cases hk : mget (m.sym, m.id) L with
  | some x =>
    have HE := Lib.hid (show putF L m = (L, false) by simp [putF, h1, hk])
    clear h1
    have HD0 := Lib.hid ((h.alloc (.cells m.cells 66)).alloc (.cells #[.int .i64 m.sym, .int .i64 m.id] 164))
    have HM0 := Lib.hid ((Blk.new w m.cells 66 w.heap.size rfl).old (.cells #[.int .i64 m.sym, .int .i64 m.id] 164))
    have HK0 := Lib.hid (Blk.new (w.alloc (.cells m.cells 66)) #[.int .i64 m.sym, .int .i64 m.id] 164 (w.heap.size + 1) (by simp))
    have HC0 := Lib.hid (show Chg w.heap.size b w ((w.alloc (.cells m.cells 66)).alloc (.cells #[.int .i64 m.sym, .int .i64 m.id] 164)) from ((Chg.refl _ _ _).alloc (Nat.le_refl _) _).alloc (by simp) _)
    have hD := h.box.lt
    have hb := h.map.lt
    have m1 : (w.alloc (.cells m.cells 66)).cell? ⟨w.heap.size, 1, none⟩ = some (.int .i64 m.sym) := (Blk.new w m.cells 66 w.heap.size rfl).cell 1 rfl
    have m4 : (w.alloc (.cells m.cells 66)).cell? ⟨w.heap.size, 4, none⟩ = some (.int .i64 m.id) := (Blk.new w m.cells 66 w.heap.size rfl).cell 4 rfl
    have HL := Lib.hid (fun W (hm : MapIs W b ke ve L) => show (Instr.lookup 160 (.map (some b)) (.agg #[.int .i64 m.sym, .int .i64 m.id]) true).run Try.prog W = .ok (.tuple #[.agg #[.int .i64 (x.side), .int .i64 (x.price), .int .i64 (x.qty)], .bool true]) W by have := look_at hm m.sym m.id; rw [hk] at this; exact this)
    have HK := Lib.hid hk
    clear h hk
    go_enter Try.func37, Try.ntmps37
    go_upto_region 4 with fail
    clear m1 m4
    change Code.wp _ _ _ _ ((w.alloc (.cells m.cells 66)).alloc (.cells #[.int .i64 m.sym, .int .i64 m.id] 164))
    refine wp_region_held_drew (S := (fun w' => w'.cell? ⟨D, 0, none⟩ = some (.map (some b)) ∧ w'.cell? ⟨w.heap.size + 1, 0, none⟩ = some (.int .i64 m.sym) ∧ w'.cell? ⟨w.heap.size + 1, 1, none⟩ = some (.int .i64 m.id) ∧ (Instr.lookup 160 (.map (some b)) (.agg #[.int .i64 m.sym, .int .i64 m.id]) true).run Try.prog w' = .ok (.tuple #[.agg #[.int .i64 (x.side), .int .i64 (x.price), .int .i64 (x.qty)], .bool true]) w')) (by kernel_rfl) ⟨HD0.out.box.cell 0 rfl, HK0.out.cell 0 rfl, HK0.out.cell 1 rfl, HL.out _ HD0.out.map.drew⟩ (fun hHeld => ?_)
    replace HD0 := Lib.hid HD0.out.drew
    replace HM0 := Lib.hid HM0.out.drew
    replace HK0 := Lib.hid HK0.out.drew
    replace HC0 := Lib.hid HC0.out.drew
    have hsz : w.heap.size + 1 < ((w.alloc (.cells m.cells 66)).alloc (.cells #[.int .i64 m.sym, .int .i64 m.id] 164)).drew.heap.size := HK0.out.lt
    generalize ((w.alloc (.cells m.cells 66)).alloc (.cells #[.int .i64 m.sym, .int .i64 m.id] 164)).drew = W1 at HD0 HM0 HK0 HC0 hHeld hsz ⊢
    refine wpAnyH_take (i := 0) (oi := ⟨some 18, _, _, _, _, _⟩) (v := (.pointer (some ⟨D, 0, none⟩))) rfl (by kernel_rfl) (by kernel_rfl) (by kernel_rfl) (fun _ _ _ h => h) (Or.inl ⟨by rfl, fun w hSw => by (try dsimp only at hSw); go_simp⟩) (by assumption) ?_
    simp only [Act.put, List.setIfInBounds_toArray, List.set_cons_zero, List.set_cons_succ]
    refine wpAnyH_take (i := 1) (oi := ⟨some 19, _, _, _, _, _⟩) (v := (.pointer (some ⟨D, 0, none⟩))) rfl (by kernel_rfl) (by kernel_rfl) (by kernel_rfl) (fun _ _ _ h => h) (Or.inl ⟨by rfl, fun w hSw => by (try dsimp only at hSw); go_simp⟩) (by assumption) ?_
    simp only [Act.put, List.setIfInBounds_toArray, List.set_cons_zero, List.set_cons_succ]
    refine wpAnyH_take (i := 2) (oi := ⟨some 20, _, _, _, _, _⟩) (v := (.pointer (some ⟨D, 0, none⟩))) rfl (by kernel_rfl) (by kernel_rfl) (by kernel_rfl) (fun _ _ _ h => h) (Or.inl ⟨by rfl, fun w hSw => by (try dsimp only at hSw); go_simp⟩) (by assumption) ?_
    simp only [Act.put, List.setIfInBounds_toArray, List.set_cons_zero, List.set_cons_succ]
    refine wpAnyH_take (i := 3) (oi := ⟨some 21, _, _, _, _, _⟩) (v := (.map (some b))) rfl (by kernel_rfl) (by kernel_rfl) (by kernel_rfl) (fun _ _ _ h => h) (Or.inl ⟨by rfl, fun w hSw => by (try dsimp only at hSw); go_simp⟩) (by assumption) ?_
    simp only [Act.put, List.setIfInBounds_toArray, List.set_cons_zero, List.set_cons_succ]
    refine wpAnyH_take (i := 4) (oi := ⟨some 22, _, _, _, _, _⟩) (v := (.agg #[.int .i64 m.sym, .int .i64 m.id])) rfl (by kernel_rfl) (by kernel_rfl) (by kernel_rfl) (fun _ _ _ h => h) (Or.inl ⟨by rfl, fun w hSw => by (try dsimp only at hSw); go_simp⟩) (by assumption) ?_
    simp only [Act.put, List.setIfInBounds_toArray, List.set_cons_zero, List.set_cons_succ]
    refine wpAnyH_take (i := 5) (oi := ⟨some 23, _, _, _, _, _⟩) (v := (.tuple #[.agg #[.int .i64 (x.side), .int .i64 (x.price), .int .i64 (x.qty)], .bool true])) rfl (by kernel_rfl) (by kernel_rfl) (by kernel_rfl) (fun _ _ _ h => h) (Or.inl ⟨by rfl, fun w hSw => by (try dsimp only at hSw); go_simp⟩) (by assumption) ?_
    simp only [Act.put, List.setIfInBounds_toArray, List.set_cons_zero, List.set_cons_succ]
    refine wpAnyH_take (i := 6) (oi := ⟨some 17, _, _, _, _, _⟩) (v := (.tuple #[.agg #[.int .i64 (x.side), .int .i64 (x.price), .int .i64 (x.qty)], .bool true])) rfl (by kernel_rfl) (by kernel_rfl) (by kernel_rfl) (fun _ _ _ h => h) (Or.inl ⟨by rfl, fun w hSw => by (try dsimp only at hSw); go_simp⟩) (by assumption) ?_
    simp only [Act.put, List.setIfInBounds_toArray, List.set_cons_zero, List.set_cons_succ]
    refine wpAnyH_take (i := 7) (oi := ⟨some 24, _, _, _, _, _⟩) (v := (.agg #[.int .i64 (x.side), .int .i64 (x.price), .int .i64 (x.qty)])) rfl (by kernel_rfl) (by kernel_rfl) (by kernel_rfl) (fun _ _ _ h => h) (Or.inl ⟨by rfl, fun w hSw => by (try dsimp only at hSw); go_simp⟩) (by assumption) ?_
    simp only [Act.put, List.setIfInBounds_toArray, List.set_cons_zero, List.set_cons_succ]
    refine wpAnyH_take (i := 8) (oi := ⟨some 25, _, _, _, _, _⟩) (v := (.bool true)) rfl (by kernel_rfl) (by kernel_rfl) (by kernel_rfl) (fun _ _ _ h => h) (Or.inl ⟨by rfl, fun w hSw => by (try dsimp only at hSw); go_simp⟩) (by assumption) ?_
    simp only [Act.put, List.setIfInBounds_toArray, List.set_cons_zero, List.set_cons_succ]
    refine wpAnyH_ready (rs := [9]) (by kernel_rfl) (by simp) ?_
    refine AllReadyH.cons (o := ⟨some 6, _, _, _, _, _⟩) rfl (fun KK hK => ?_) AllReadyH.nil
    go_simp
    change KK _ (W1.alloc (.cells restZ 166))
    have HS : Hid (QS w D b m W1.heap.size (W1.alloc (.cells restZ 166)) L restZ) := Lib.hid ⟨HD0.out.alloc _, HM0.out.old _, HK0.out.old _, Blk.new _ _ _ _ rfl, HC0.out.alloc HC0.out.size _, hD, hb, hsz⟩
    refine hK.out _ _ ⟨HS.out.ds.box.cell 0 rfl, HS.out.kb.cell 0 rfl, HS.out.kb.cell 1 rfl, HL.out _ HS.out.ds.map⟩ (fun hHeld => ?_)
    clear hK; try clear KK
    try simp only [Act.put, List.setIfInBounds_toArray, List.set_cons_zero, List.set_cons_succ]
    refine wpAnyH_ready (rs := [10]) (by kernel_rfl) (by simp) ?_
    refine AllReadyH.cons (o := ⟨none, _, _, _, _, _⟩) rfl (fun KK hK => ?_) AllReadyH.nil
    refine step_store_blk (by rfl) 166 _ _ (by rfl) W1.heap.size (by rfl) restZ #[.int .i64 (x.side), .int .i64 (x.price), .int .i64 (x.qty)] 166 HS.out.x (by rfl) rfl (by kernel_rfl) (one_rest ⟨x.side, x.price, x.qty⟩) ?_
    replace HS := Lib.hid (HS.out.mput #[.int .i64 (x.side), .int .i64 (x.price), .int .i64 (x.qty)] rfl)
    refine hK.out _ _ ⟨HS.out.ds.box.cell 0 rfl, HS.out.kb.cell 0 rfl, HS.out.kb.cell 1 rfl, HL.out _ HS.out.ds.map⟩ (fun hHeld => ?_)
    clear hK; try clear KK
    refine wpAnyH_take (i := 11) (oi := ⟨some 7, _, _, _, _, _⟩) (v := (.bool true)) rfl (by kernel_rfl) (by kernel_rfl) (by kernel_rfl) (fun _ _ _ h => h) (Or.inl ⟨by rfl, fun w hSw => by (try dsimp only at hSw); go_simp⟩) (by assumption) ?_
    simp only [Act.put, List.setIfInBounds_toArray, List.set_cons_zero, List.set_cons_succ]
    refine wpAnyH_done (by kernel_rfl) ?_ _
    generalize hW2 : World.setCells (W1.alloc (.cells restZ 166)) W1.heap.size 0 #[.int .i64 (x.side), .int .i64 (x.price), .int .i64 (x.qty)].toList = W2 at HS hHeld ⊢
    clear hW2 hHeld HD0 HM0 HK0 HC0
    generalize W1.heap.size = xb at HS hsz ⊢
    have m0 : W2.cell? ⟨w.heap.size, 0, none⟩ = some (.int .i64 m.kind) := HS.out.mb.cell 0 rfl
    have m1 : W2.cell? ⟨w.heap.size, 1, none⟩ = some (.int .i64 m.sym) := HS.out.mb.cell 1 rfl
    have m5 : W2.cell? ⟨w.heap.size, 5, none⟩ = some (.int .i64 m.wth) := HS.out.mb.cell 5 rfl
    have m6 : W2.cell? ⟨w.heap.size, 6, none⟩ = some (.int .i64 m.price) := HS.out.mb.cell 6 rfl
    have m7 : W2.cell? ⟨w.heap.size, 7, none⟩ = some (.int .i64 m.qty) := HS.out.mb.cell 7 rfl
    have m8 : W2.cell? ⟨w.heap.size, 8, none⟩ = some (.int .i64 m.code) := HS.out.mb.cell 8 rfl
    have k0 : W2.cell? ⟨w.heap.size + 1, 0, none⟩ = some (.int .i64 m.sym) := HS.out.kb.cell 0 rfl
    have k1 : W2.cell? ⟨w.heap.size + 1, 1, none⟩ = some (.int .i64 m.id) := HS.out.kb.cell 1 rfl
    go_wp2_with fail
    go_ret
    exact ⟨by (show Ending.returned (.bool false) = _; rw [HE.out]), by rw [HE.out]; exact HS.out.ds, HS.out.chg⟩
  | none =>
    by_cases hq : m.qty < 1
    · have HE := Lib.hid (show putF L m = (L, false) by simp [putF, h1, hk, hq])
      clear h1
      have HD0 := Lib.hid ((h.alloc (.cells m.cells 66)).alloc (.cells #[.int .i64 m.sym, .int .i64 m.id] 164))
      have HM0 := Lib.hid ((Blk.new w m.cells 66 w.heap.size rfl).old (.cells #[.int .i64 m.sym, .int .i64 m.id] 164))
      have HK0 := Lib.hid (Blk.new (w.alloc (.cells m.cells 66)) #[.int .i64 m.sym, .int .i64 m.id] 164 (w.heap.size + 1) (by simp))
      have HC0 := Lib.hid (show Chg w.heap.size b w ((w.alloc (.cells m.cells 66)).alloc (.cells #[.int .i64 m.sym, .int .i64 m.id] 164)) from ((Chg.refl _ _ _).alloc (Nat.le_refl _) _).alloc (by simp) _)
      have hD := h.box.lt
      have hb := h.map.lt
      have m1 : (w.alloc (.cells m.cells 66)).cell? ⟨w.heap.size, 1, none⟩ = some (.int .i64 m.sym) := (Blk.new w m.cells 66 w.heap.size rfl).cell 1 rfl
      have m4 : (w.alloc (.cells m.cells 66)).cell? ⟨w.heap.size, 4, none⟩ = some (.int .i64 m.id) := (Blk.new w m.cells 66 w.heap.size rfl).cell 4 rfl
      have HL := Lib.hid (fun W (hm : MapIs W b ke ve L) => show (Instr.lookup 160 (.map (some b)) (.agg #[.int .i64 m.sym, .int .i64 m.id]) true).run Try.prog W = .ok (.tuple #[.agg #[.int .i64 (0), .int .i64 (0), .int .i64 (0)], .bool false]) W by have := look_at hm m.sym m.id; rw [hk] at this; exact this)
      have HK := Lib.hid hk
      clear h hk
      go_enter Try.func37, Try.ntmps37
      go_upto_region 4 with fail
      clear m1 m4
      change Code.wp _ _ _ _ ((w.alloc (.cells m.cells 66)).alloc (.cells #[.int .i64 m.sym, .int .i64 m.id] 164))
      refine wp_region_held_drew (S := (fun w' => w'.cell? ⟨D, 0, none⟩ = some (.map (some b)) ∧ w'.cell? ⟨w.heap.size + 1, 0, none⟩ = some (.int .i64 m.sym) ∧ w'.cell? ⟨w.heap.size + 1, 1, none⟩ = some (.int .i64 m.id) ∧ (Instr.lookup 160 (.map (some b)) (.agg #[.int .i64 m.sym, .int .i64 m.id]) true).run Try.prog w' = .ok (.tuple #[.agg #[.int .i64 (0), .int .i64 (0), .int .i64 (0)], .bool false]) w')) (by kernel_rfl) ⟨HD0.out.box.cell 0 rfl, HK0.out.cell 0 rfl, HK0.out.cell 1 rfl, HL.out _ HD0.out.map.drew⟩ (fun hHeld => ?_)
      replace HD0 := Lib.hid HD0.out.drew
      replace HM0 := Lib.hid HM0.out.drew
      replace HK0 := Lib.hid HK0.out.drew
      replace HC0 := Lib.hid HC0.out.drew
      have hsz : w.heap.size + 1 < ((w.alloc (.cells m.cells 66)).alloc (.cells #[.int .i64 m.sym, .int .i64 m.id] 164)).drew.heap.size := HK0.out.lt
      generalize ((w.alloc (.cells m.cells 66)).alloc (.cells #[.int .i64 m.sym, .int .i64 m.id] 164)).drew = W1 at HD0 HM0 HK0 HC0 hHeld hsz ⊢
      refine wpAnyH_take (i := 0) (oi := ⟨some 18, _, _, _, _, _⟩) (v := (.pointer (some ⟨D, 0, none⟩))) rfl (by kernel_rfl) (by kernel_rfl) (by kernel_rfl) (fun _ _ _ h => h) (Or.inl ⟨by rfl, fun w hSw => by (try dsimp only at hSw); go_simp⟩) (by assumption) ?_
      simp only [Act.put, List.setIfInBounds_toArray, List.set_cons_zero, List.set_cons_succ]
      refine wpAnyH_take (i := 1) (oi := ⟨some 19, _, _, _, _, _⟩) (v := (.pointer (some ⟨D, 0, none⟩))) rfl (by kernel_rfl) (by kernel_rfl) (by kernel_rfl) (fun _ _ _ h => h) (Or.inl ⟨by rfl, fun w hSw => by (try dsimp only at hSw); go_simp⟩) (by assumption) ?_
      simp only [Act.put, List.setIfInBounds_toArray, List.set_cons_zero, List.set_cons_succ]
      refine wpAnyH_take (i := 2) (oi := ⟨some 20, _, _, _, _, _⟩) (v := (.pointer (some ⟨D, 0, none⟩))) rfl (by kernel_rfl) (by kernel_rfl) (by kernel_rfl) (fun _ _ _ h => h) (Or.inl ⟨by rfl, fun w hSw => by (try dsimp only at hSw); go_simp⟩) (by assumption) ?_
      simp only [Act.put, List.setIfInBounds_toArray, List.set_cons_zero, List.set_cons_succ]
      refine wpAnyH_take (i := 3) (oi := ⟨some 21, _, _, _, _, _⟩) (v := (.map (some b))) rfl (by kernel_rfl) (by kernel_rfl) (by kernel_rfl) (fun _ _ _ h => h) (Or.inl ⟨by rfl, fun w hSw => by (try dsimp only at hSw); go_simp⟩) (by assumption) ?_
      simp only [Act.put, List.setIfInBounds_toArray, List.set_cons_zero, List.set_cons_succ]
      refine wpAnyH_take (i := 4) (oi := ⟨some 22, _, _, _, _, _⟩) (v := (.agg #[.int .i64 m.sym, .int .i64 m.id])) rfl (by kernel_rfl) (by kernel_rfl) (by kernel_rfl) (fun _ _ _ h => h) (Or.inl ⟨by rfl, fun w hSw => by (try dsimp only at hSw); go_simp⟩) (by assumption) ?_
      simp only [Act.put, List.setIfInBounds_toArray, List.set_cons_zero, List.set_cons_succ]
      refine wpAnyH_take (i := 5) (oi := ⟨some 23, _, _, _, _, _⟩) (v := (.tuple #[.agg #[.int .i64 (0), .int .i64 (0), .int .i64 (0)], .bool false])) rfl (by kernel_rfl) (by kernel_rfl) (by kernel_rfl) (fun _ _ _ h => h) (Or.inl ⟨by rfl, fun w hSw => by (try dsimp only at hSw); go_simp⟩) (by assumption) ?_
      simp only [Act.put, List.setIfInBounds_toArray, List.set_cons_zero, List.set_cons_succ]
      refine wpAnyH_take (i := 6) (oi := ⟨some 17, _, _, _, _, _⟩) (v := (.tuple #[.agg #[.int .i64 (0), .int .i64 (0), .int .i64 (0)], .bool false])) rfl (by kernel_rfl) (by kernel_rfl) (by kernel_rfl) (fun _ _ _ h => h) (Or.inl ⟨by rfl, fun w hSw => by (try dsimp only at hSw); go_simp⟩) (by assumption) ?_
      simp only [Act.put, List.setIfInBounds_toArray, List.set_cons_zero, List.set_cons_succ]
      refine wpAnyH_take (i := 7) (oi := ⟨some 24, _, _, _, _, _⟩) (v := (.agg #[.int .i64 (0), .int .i64 (0), .int .i64 (0)])) rfl (by kernel_rfl) (by kernel_rfl) (by kernel_rfl) (fun _ _ _ h => h) (Or.inl ⟨by rfl, fun w hSw => by (try dsimp only at hSw); go_simp⟩) (by assumption) ?_
      simp only [Act.put, List.setIfInBounds_toArray, List.set_cons_zero, List.set_cons_succ]
      refine wpAnyH_take (i := 8) (oi := ⟨some 25, _, _, _, _, _⟩) (v := (.bool false)) rfl (by kernel_rfl) (by kernel_rfl) (by kernel_rfl) (fun _ _ _ h => h) (Or.inl ⟨by rfl, fun w hSw => by (try dsimp only at hSw); go_simp⟩) (by assumption) ?_
      simp only [Act.put, List.setIfInBounds_toArray, List.set_cons_zero, List.set_cons_succ]
      refine wpAnyH_ready (rs := [9]) (by kernel_rfl) (by simp) ?_
      refine AllReadyH.cons (o := ⟨some 6, _, _, _, _, _⟩) rfl (fun KK hK => ?_) AllReadyH.nil
      go_simp
      change KK _ (W1.alloc (.cells restZ 166))
      have HS : Hid (QS w D b m W1.heap.size (W1.alloc (.cells restZ 166)) L restZ) := Lib.hid ⟨HD0.out.alloc _, HM0.out.old _, HK0.out.old _, Blk.new _ _ _ _ rfl, HC0.out.alloc HC0.out.size _, hD, hb, hsz⟩
      refine hK.out _ _ ⟨HS.out.ds.box.cell 0 rfl, HS.out.kb.cell 0 rfl, HS.out.kb.cell 1 rfl, HL.out _ HS.out.ds.map⟩ (fun hHeld => ?_)
      clear hK; try clear KK
      try simp only [Act.put, List.setIfInBounds_toArray, List.set_cons_zero, List.set_cons_succ]
      refine wpAnyH_ready (rs := [10]) (by kernel_rfl) (by simp) ?_
      refine AllReadyH.cons (o := ⟨none, _, _, _, _, _⟩) rfl (fun KK hK => ?_) AllReadyH.nil
      refine step_store_blk (by rfl) 166 _ _ (by rfl) W1.heap.size (by rfl) restZ #[.int .i64 (0), .int .i64 (0), .int .i64 (0)] 166 HS.out.x (by rfl) rfl (by kernel_rfl) (one_rest ⟨0, 0, 0⟩) ?_
      replace HS := Lib.hid (HS.out.mput #[.int .i64 (0), .int .i64 (0), .int .i64 (0)] rfl)
      refine hK.out _ _ ⟨HS.out.ds.box.cell 0 rfl, HS.out.kb.cell 0 rfl, HS.out.kb.cell 1 rfl, HL.out _ HS.out.ds.map⟩ (fun hHeld => ?_)
      clear hK; try clear KK
      refine wpAnyH_take (i := 11) (oi := ⟨some 7, _, _, _, _, _⟩) (v := (.bool false)) rfl (by kernel_rfl) (by kernel_rfl) (by kernel_rfl) (fun _ _ _ h => h) (Or.inl ⟨by rfl, fun w hSw => by (try dsimp only at hSw); go_simp⟩) (by assumption) ?_
      simp only [Act.put, List.setIfInBounds_toArray, List.set_cons_zero, List.set_cons_succ]
      refine wpAnyH_done (by kernel_rfl) ?_ _
      generalize hW2 : World.setCells (W1.alloc (.cells restZ 166)) W1.heap.size 0 #[.int .i64 (0), .int .i64 (0), .int .i64 (0)].toList = W2 at HS hHeld ⊢
      clear hW2 hHeld HD0 HM0 HK0 HC0
      generalize W1.heap.size = xb at HS hsz ⊢
      have m0 : W2.cell? ⟨w.heap.size, 0, none⟩ = some (.int .i64 m.kind) := HS.out.mb.cell 0 rfl
      have m1 : W2.cell? ⟨w.heap.size, 1, none⟩ = some (.int .i64 m.sym) := HS.out.mb.cell 1 rfl
      have m5 : W2.cell? ⟨w.heap.size, 5, none⟩ = some (.int .i64 m.wth) := HS.out.mb.cell 5 rfl
      have m6 : W2.cell? ⟨w.heap.size, 6, none⟩ = some (.int .i64 m.price) := HS.out.mb.cell 6 rfl
      have m7 : W2.cell? ⟨w.heap.size, 7, none⟩ = some (.int .i64 m.qty) := HS.out.mb.cell 7 rfl
      have m8 : W2.cell? ⟨w.heap.size, 8, none⟩ = some (.int .i64 m.code) := HS.out.mb.cell 8 rfl
      have k0 : W2.cell? ⟨w.heap.size + 1, 0, none⟩ = some (.int .i64 m.sym) := HS.out.kb.cell 0 rfl
      have k1 : W2.cell? ⟨w.heap.size + 1, 1, none⟩ = some (.int .i64 m.id) := HS.out.kb.cell 1 rfl
      go_wp2_with fail
      go_ret
      exact ⟨by (show Ending.returned (.bool false) = _; rw [HE.out]), by rw [HE.out]; exact HS.out.ds, HS.out.chg⟩
    · by_cases hc : m.code = 0 ∨ m.code = 1
      · have HSD := Lib.hid (show (decide (m.code = 0) || decide (m.code = 1)) = true by simpa using hc)
        by_cases hp : 1 ≤ m.price ∧ m.price ≤ 1099511627776
        · have HE := Lib.hid (show putF L m = (mput (m.sym, m.id) ⟨m.code, m.price, m.qty⟩ L, true) by simp [putF, h1, hk, hq, hc, hp])
          have HPR := Lib.hid hp
          clear h1 hc hp
          have HD0 := Lib.hid ((h.alloc (.cells m.cells 66)).alloc (.cells #[.int .i64 m.sym, .int .i64 m.id] 164))
          have HM0 := Lib.hid ((Blk.new w m.cells 66 w.heap.size rfl).old (.cells #[.int .i64 m.sym, .int .i64 m.id] 164))
          have HK0 := Lib.hid (Blk.new (w.alloc (.cells m.cells 66)) #[.int .i64 m.sym, .int .i64 m.id] 164 (w.heap.size + 1) (by simp))
          have HC0 := Lib.hid (show Chg w.heap.size b w ((w.alloc (.cells m.cells 66)).alloc (.cells #[.int .i64 m.sym, .int .i64 m.id] 164)) from ((Chg.refl _ _ _).alloc (Nat.le_refl _) _).alloc (by simp) _)
          have hD := h.box.lt
          have hb := h.map.lt
          have m1 : (w.alloc (.cells m.cells 66)).cell? ⟨w.heap.size, 1, none⟩ = some (.int .i64 m.sym) := (Blk.new w m.cells 66 w.heap.size rfl).cell 1 rfl
          have m4 : (w.alloc (.cells m.cells 66)).cell? ⟨w.heap.size, 4, none⟩ = some (.int .i64 m.id) := (Blk.new w m.cells 66 w.heap.size rfl).cell 4 rfl
          have HL := Lib.hid (fun W (hm : MapIs W b ke ve L) => show (Instr.lookup 160 (.map (some b)) (.agg #[.int .i64 m.sym, .int .i64 m.id]) true).run Try.prog W = .ok (.tuple #[.agg #[.int .i64 (0), .int .i64 (0), .int .i64 (0)], .bool false]) W by have := look_at hm m.sym m.id; rw [hk] at this; exact this)
          have HK := Lib.hid hk
          clear h hk
          go_enter Try.func37, Try.ntmps37
          go_upto_region 4 with fail
          clear m1 m4
          change Code.wp _ _ _ _ ((w.alloc (.cells m.cells 66)).alloc (.cells #[.int .i64 m.sym, .int .i64 m.id] 164))
          refine wp_region_held_drew (S := (fun w' => w'.cell? ⟨D, 0, none⟩ = some (.map (some b)) ∧ w'.cell? ⟨w.heap.size + 1, 0, none⟩ = some (.int .i64 m.sym) ∧ w'.cell? ⟨w.heap.size + 1, 1, none⟩ = some (.int .i64 m.id) ∧ (Instr.lookup 160 (.map (some b)) (.agg #[.int .i64 m.sym, .int .i64 m.id]) true).run Try.prog w' = .ok (.tuple #[.agg #[.int .i64 (0), .int .i64 (0), .int .i64 (0)], .bool false]) w')) (by kernel_rfl) ⟨HD0.out.box.cell 0 rfl, HK0.out.cell 0 rfl, HK0.out.cell 1 rfl, HL.out _ HD0.out.map.drew⟩ (fun hHeld => ?_)
          replace HD0 := Lib.hid HD0.out.drew
          replace HM0 := Lib.hid HM0.out.drew
          replace HK0 := Lib.hid HK0.out.drew
          replace HC0 := Lib.hid HC0.out.drew
          have hsz : w.heap.size + 1 < ((w.alloc (.cells m.cells 66)).alloc (.cells #[.int .i64 m.sym, .int .i64 m.id] 164)).drew.heap.size := HK0.out.lt
          generalize ((w.alloc (.cells m.cells 66)).alloc (.cells #[.int .i64 m.sym, .int .i64 m.id] 164)).drew = W1 at HD0 HM0 HK0 HC0 hHeld hsz ⊢
          refine wpAnyH_take (i := 0) (oi := ⟨some 18, _, _, _, _, _⟩) (v := (.pointer (some ⟨D, 0, none⟩))) rfl (by kernel_rfl) (by kernel_rfl) (by kernel_rfl) (fun _ _ _ h => h) (Or.inl ⟨by rfl, fun w hSw => by (try dsimp only at hSw); go_simp⟩) (by assumption) ?_
          simp only [Act.put, List.setIfInBounds_toArray, List.set_cons_zero, List.set_cons_succ]
          refine wpAnyH_take (i := 1) (oi := ⟨some 19, _, _, _, _, _⟩) (v := (.pointer (some ⟨D, 0, none⟩))) rfl (by kernel_rfl) (by kernel_rfl) (by kernel_rfl) (fun _ _ _ h => h) (Or.inl ⟨by rfl, fun w hSw => by (try dsimp only at hSw); go_simp⟩) (by assumption) ?_
          simp only [Act.put, List.setIfInBounds_toArray, List.set_cons_zero, List.set_cons_succ]
          refine wpAnyH_take (i := 2) (oi := ⟨some 20, _, _, _, _, _⟩) (v := (.pointer (some ⟨D, 0, none⟩))) rfl (by kernel_rfl) (by kernel_rfl) (by kernel_rfl) (fun _ _ _ h => h) (Or.inl ⟨by rfl, fun w hSw => by (try dsimp only at hSw); go_simp⟩) (by assumption) ?_
          simp only [Act.put, List.setIfInBounds_toArray, List.set_cons_zero, List.set_cons_succ]
          refine wpAnyH_take (i := 3) (oi := ⟨some 21, _, _, _, _, _⟩) (v := (.map (some b))) rfl (by kernel_rfl) (by kernel_rfl) (by kernel_rfl) (fun _ _ _ h => h) (Or.inl ⟨by rfl, fun w hSw => by (try dsimp only at hSw); go_simp⟩) (by assumption) ?_
          simp only [Act.put, List.setIfInBounds_toArray, List.set_cons_zero, List.set_cons_succ]
          refine wpAnyH_take (i := 4) (oi := ⟨some 22, _, _, _, _, _⟩) (v := (.agg #[.int .i64 m.sym, .int .i64 m.id])) rfl (by kernel_rfl) (by kernel_rfl) (by kernel_rfl) (fun _ _ _ h => h) (Or.inl ⟨by rfl, fun w hSw => by (try dsimp only at hSw); go_simp⟩) (by assumption) ?_
          simp only [Act.put, List.setIfInBounds_toArray, List.set_cons_zero, List.set_cons_succ]
          refine wpAnyH_take (i := 5) (oi := ⟨some 23, _, _, _, _, _⟩) (v := (.tuple #[.agg #[.int .i64 (0), .int .i64 (0), .int .i64 (0)], .bool false])) rfl (by kernel_rfl) (by kernel_rfl) (by kernel_rfl) (fun _ _ _ h => h) (Or.inl ⟨by rfl, fun w hSw => by (try dsimp only at hSw); go_simp⟩) (by assumption) ?_
          simp only [Act.put, List.setIfInBounds_toArray, List.set_cons_zero, List.set_cons_succ]
          refine wpAnyH_take (i := 6) (oi := ⟨some 17, _, _, _, _, _⟩) (v := (.tuple #[.agg #[.int .i64 (0), .int .i64 (0), .int .i64 (0)], .bool false])) rfl (by kernel_rfl) (by kernel_rfl) (by kernel_rfl) (fun _ _ _ h => h) (Or.inl ⟨by rfl, fun w hSw => by (try dsimp only at hSw); go_simp⟩) (by assumption) ?_
          simp only [Act.put, List.setIfInBounds_toArray, List.set_cons_zero, List.set_cons_succ]
          refine wpAnyH_take (i := 7) (oi := ⟨some 24, _, _, _, _, _⟩) (v := (.agg #[.int .i64 (0), .int .i64 (0), .int .i64 (0)])) rfl (by kernel_rfl) (by kernel_rfl) (by kernel_rfl) (fun _ _ _ h => h) (Or.inl ⟨by rfl, fun w hSw => by (try dsimp only at hSw); go_simp⟩) (by assumption) ?_
          simp only [Act.put, List.setIfInBounds_toArray, List.set_cons_zero, List.set_cons_succ]
          refine wpAnyH_take (i := 8) (oi := ⟨some 25, _, _, _, _, _⟩) (v := (.bool false)) rfl (by kernel_rfl) (by kernel_rfl) (by kernel_rfl) (fun _ _ _ h => h) (Or.inl ⟨by rfl, fun w hSw => by (try dsimp only at hSw); go_simp⟩) (by assumption) ?_
          simp only [Act.put, List.setIfInBounds_toArray, List.set_cons_zero, List.set_cons_succ]
          refine wpAnyH_ready (rs := [9]) (by kernel_rfl) (by simp) ?_
          refine AllReadyH.cons (o := ⟨some 6, _, _, _, _, _⟩) rfl (fun KK hK => ?_) AllReadyH.nil
          go_simp
          change KK _ (W1.alloc (.cells restZ 166))
          have HS : Hid (QS w D b m W1.heap.size (W1.alloc (.cells restZ 166)) L restZ) := Lib.hid ⟨HD0.out.alloc _, HM0.out.old _, HK0.out.old _, Blk.new _ _ _ _ rfl, HC0.out.alloc HC0.out.size _, hD, hb, hsz⟩
          refine hK.out _ _ ⟨HS.out.ds.box.cell 0 rfl, HS.out.kb.cell 0 rfl, HS.out.kb.cell 1 rfl, HL.out _ HS.out.ds.map⟩ (fun hHeld => ?_)
          clear hK; try clear KK
          try simp only [Act.put, List.setIfInBounds_toArray, List.set_cons_zero, List.set_cons_succ]
          refine wpAnyH_ready (rs := [10]) (by kernel_rfl) (by simp) ?_
          refine AllReadyH.cons (o := ⟨none, _, _, _, _, _⟩) rfl (fun KK hK => ?_) AllReadyH.nil
          refine step_store_blk (by rfl) 166 _ _ (by rfl) W1.heap.size (by rfl) restZ #[.int .i64 (0), .int .i64 (0), .int .i64 (0)] 166 HS.out.x (by rfl) rfl (by kernel_rfl) (one_rest ⟨0, 0, 0⟩) ?_
          replace HS := Lib.hid (HS.out.mput #[.int .i64 (0), .int .i64 (0), .int .i64 (0)] rfl)
          refine hK.out _ _ ⟨HS.out.ds.box.cell 0 rfl, HS.out.kb.cell 0 rfl, HS.out.kb.cell 1 rfl, HL.out _ HS.out.ds.map⟩ (fun hHeld => ?_)
          clear hK; try clear KK
          refine wpAnyH_take (i := 11) (oi := ⟨some 7, _, _, _, _, _⟩) (v := (.bool false)) rfl (by kernel_rfl) (by kernel_rfl) (by kernel_rfl) (fun _ _ _ h => h) (Or.inl ⟨by rfl, fun w hSw => by (try dsimp only at hSw); go_simp⟩) (by assumption) ?_
          simp only [Act.put, List.setIfInBounds_toArray, List.set_cons_zero, List.set_cons_succ]
          refine wpAnyH_done (by kernel_rfl) ?_ _
          generalize hW2 : World.setCells (W1.alloc (.cells restZ 166)) W1.heap.size 0 #[.int .i64 (0), .int .i64 (0), .int .i64 (0)].toList = W2 at HS hHeld ⊢
          clear hW2 hHeld HD0 HM0 HK0 HC0
          generalize W1.heap.size = xb at HS hsz ⊢
          have m0 : W2.cell? ⟨w.heap.size, 0, none⟩ = some (.int .i64 m.kind) := HS.out.mb.cell 0 rfl
          have m1 : W2.cell? ⟨w.heap.size, 1, none⟩ = some (.int .i64 m.sym) := HS.out.mb.cell 1 rfl
          have m5 : W2.cell? ⟨w.heap.size, 5, none⟩ = some (.int .i64 m.wth) := HS.out.mb.cell 5 rfl
          have m6 : W2.cell? ⟨w.heap.size, 6, none⟩ = some (.int .i64 m.price) := HS.out.mb.cell 6 rfl
          have m7 : W2.cell? ⟨w.heap.size, 7, none⟩ = some (.int .i64 m.qty) := HS.out.mb.cell 7 rfl
          have m8 : W2.cell? ⟨w.heap.size, 8, none⟩ = some (.int .i64 m.code) := HS.out.mb.cell 8 rfl
          have k0 : W2.cell? ⟨w.heap.size + 1, 0, none⟩ = some (.int .i64 m.sym) := HS.out.kb.cell 0 rfl
          have k1 : W2.cell? ⟨w.heap.size + 1, 1, none⟩ = some (.int .i64 m.id) := HS.out.kb.cell 1 rfl
          go_wp2_with fail
          refine (sided_any m.code _).mono ?_
          rintro e w3 ⟨rfl, rfl⟩
          rw [HSD.out]
          go_wp2_with fail
          refine (Tape.price_good m.price _ HPR.out).mono ?_
          rintro e w3 ⟨rfl, rfl⟩
          clear m0 m1 m5 m6 m7 m8 k0 k1
          go_upto_region 10 with fail
          refine wp_region_held_drew (S := (fun w' => w'.cell? ⟨D, 0, none⟩ = some (.map (some b)) ∧ w'.cell? ⟨w.heap.size + 1, 0, none⟩ = some (.int .i64 m.sym) ∧ w'.cell? ⟨w.heap.size + 1, 1, none⟩ = some (.int .i64 m.id) ∧ w'.cell? ⟨w.heap.size, 6, none⟩ = some (.int .i64 m.price) ∧ w'.cell? ⟨w.heap.size, 7, none⟩ = some (.int .i64 m.qty) ∧ w'.cell? ⟨w.heap.size, 8, none⟩ = some (.int .i64 m.code))) (by kernel_rfl) ⟨HS.out.ds.box.cell 0 rfl, HS.out.kb.cell 0 rfl, HS.out.kb.cell 1 rfl, HS.out.mb.cell 6 rfl, HS.out.mb.cell 7 rfl, HS.out.mb.cell 8 rfl⟩ (fun hHeld => ?_)
          replace HS := Lib.hid HS.out.drew
          generalize W2.drew = W4 at HS hHeld ⊢
          refine wpAnyH_take (i := 0) (oi := ⟨some 50, _, _, _, _, _⟩) (v := (.pointer (some ⟨D, 0, none⟩))) rfl (by kernel_rfl) (by kernel_rfl) (by kernel_rfl) (fun _ _ _ h => h) (Or.inl ⟨by rfl, fun w hSw => by (try dsimp only at hSw); go_simp⟩) (by assumption) ?_
          simp only [Act.put, List.setIfInBounds_toArray, List.set_cons_zero, List.set_cons_succ]
          refine wpAnyH_take (i := 1) (oi := ⟨some 51, _, _, _, _, _⟩) (v := (.pointer (some ⟨D, 0, none⟩))) rfl (by kernel_rfl) (by kernel_rfl) (by kernel_rfl) (fun _ _ _ h => h) (Or.inl ⟨by rfl, fun w hSw => by (try dsimp only at hSw); go_simp⟩) (by assumption) ?_
          simp only [Act.put, List.setIfInBounds_toArray, List.set_cons_zero, List.set_cons_succ]
          refine wpAnyH_take (i := 2) (oi := ⟨some 52, _, _, _, _, _⟩) (v := (.pointer (some ⟨D, 0, none⟩))) rfl (by kernel_rfl) (by kernel_rfl) (by kernel_rfl) (fun _ _ _ h => h) (Or.inl ⟨by rfl, fun w hSw => by (try dsimp only at hSw); go_simp⟩) (by assumption) ?_
          simp only [Act.put, List.setIfInBounds_toArray, List.set_cons_zero, List.set_cons_succ]
          refine wpAnyH_take (i := 3) (oi := ⟨some 53, _, _, _, _, _⟩) (v := (.map (some b))) rfl (by kernel_rfl) (by kernel_rfl) (by kernel_rfl) (fun _ _ _ h => h) (Or.inl ⟨by rfl, fun w hSw => by (try dsimp only at hSw); go_simp⟩) (by assumption) ?_
          simp only [Act.put, List.setIfInBounds_toArray, List.set_cons_zero, List.set_cons_succ]
          refine wpAnyH_take (i := 4) (oi := ⟨some 54, _, _, _, _, _⟩) (v := (.agg #[.int .i64 m.sym, .int .i64 m.id])) rfl (by kernel_rfl) (by kernel_rfl) (by kernel_rfl) (fun _ _ _ h => h) (Or.inl ⟨by rfl, fun w hSw => by (try dsimp only at hSw); go_simp⟩) (by assumption) ?_
          simp only [Act.put, List.setIfInBounds_toArray, List.set_cons_zero, List.set_cons_succ]
          refine wpAnyH_take (i := 5) (oi := ⟨some 55, _, _, _, _, _⟩) (v := (.pointer (some ⟨w.heap.size, 8, none⟩))) rfl (by kernel_rfl) (by kernel_rfl) (by kernel_rfl) (fun _ _ _ h => h) (Or.inl ⟨by rfl, fun w hSw => by (try dsimp only at hSw); go_simp⟩) (by assumption) ?_
          simp only [Act.put, List.setIfInBounds_toArray, List.set_cons_zero, List.set_cons_succ]
          refine wpAnyH_take (i := 6) (oi := ⟨some 56, _, _, _, _, _⟩) (v := (.int .i64 m.code)) rfl (by kernel_rfl) (by kernel_rfl) (by kernel_rfl) (fun _ _ _ h => h) (Or.inl ⟨by rfl, fun w hSw => by (try dsimp only at hSw); go_simp⟩) (by assumption) ?_
          simp only [Act.put, List.setIfInBounds_toArray, List.set_cons_zero, List.set_cons_succ]
          refine wpAnyH_take (i := 7) (oi := ⟨some 57, _, _, _, _, _⟩) (v := (.pointer (some ⟨w.heap.size, 6, none⟩))) rfl (by kernel_rfl) (by kernel_rfl) (by kernel_rfl) (fun _ _ _ h => h) (Or.inl ⟨by rfl, fun w hSw => by (try dsimp only at hSw); go_simp⟩) (by assumption) ?_
          simp only [Act.put, List.setIfInBounds_toArray, List.set_cons_zero, List.set_cons_succ]
          refine wpAnyH_take (i := 8) (oi := ⟨some 58, _, _, _, _, _⟩) (v := (.int .i64 m.price)) rfl (by kernel_rfl) (by kernel_rfl) (by kernel_rfl) (fun _ _ _ h => h) (Or.inl ⟨by rfl, fun w hSw => by (try dsimp only at hSw); go_simp⟩) (by assumption) ?_
          simp only [Act.put, List.setIfInBounds_toArray, List.set_cons_zero, List.set_cons_succ]
          refine wpAnyH_take (i := 9) (oi := ⟨some 59, _, _, _, _, _⟩) (v := (.pointer (some ⟨w.heap.size, 7, none⟩))) rfl (by kernel_rfl) (by kernel_rfl) (by kernel_rfl) (fun _ _ _ h => h) (Or.inl ⟨by rfl, fun w hSw => by (try dsimp only at hSw); go_simp⟩) (by assumption) ?_
          simp only [Act.put, List.setIfInBounds_toArray, List.set_cons_zero, List.set_cons_succ]
          refine wpAnyH_take (i := 10) (oi := ⟨some 60, _, _, _, _, _⟩) (v := (.int .i64 m.qty)) rfl (by kernel_rfl) (by kernel_rfl) (by kernel_rfl) (fun _ _ _ h => h) (Or.inl ⟨by rfl, fun w hSw => by (try dsimp only at hSw); go_simp⟩) (by assumption) ?_
          simp only [Act.put, List.setIfInBounds_toArray, List.set_cons_zero, List.set_cons_succ]
          refine wpAnyH_take (i := 11) (oi := ⟨some 61, _, _, _, _, _⟩) (v := (.agg #[.int .i64 m.code, .int .i64 m.price, .int .i64 m.qty])) rfl (by kernel_rfl) (by kernel_rfl) (by kernel_rfl) (fun _ _ _ h => h) (Or.inl ⟨by rfl, fun w hSw => by (try dsimp only at hSw); go_simp⟩) (by assumption) ?_
          simp only [Act.put, List.setIfInBounds_toArray, List.set_cons_zero, List.set_cons_succ]
          obtain ⟨W5, hrun, hm5, hc5, -⟩ := put_at HS.out.ds.map m.sym m.id m.code m.price m.qty
          have HS5 := Lib.hid (HS.out.turn hm5 hc5)
          clear hm5 hc5
          refine wpAnyH_ready (rs := [12]) (by kernel_rfl) (by simp) ?_
          refine AllReadyH.cons (o := ⟨none, _, _, _, _, _⟩) rfl (fun KK hK => ?_) AllReadyH.nil
          go_simp
          clear hrun HS
          refine hK.out _ _ ⟨HS5.out.ds.box.cell 0 rfl, HS5.out.kb.cell 0 rfl, HS5.out.kb.cell 1 rfl, HS5.out.mb.cell 6 rfl, HS5.out.mb.cell 7 rfl, HS5.out.mb.cell 8 rfl⟩ (fun hHeld => ?_)
          clear hK; try clear KK
          refine wpAnyH_done (by kernel_rfl) ?_ _
          have HS := HS5
          go_wp2_with fail
          go_ret
          exact ⟨by (show Ending.returned (.bool true) = _; rw [HE.out]), by rw [HE.out]; exact HS.out.ds, HS.out.chg⟩
        · have HE := Lib.hid (show putF L m = (L, false) by simp [putF, h1, hk, hq, hc, hp])
          have HPR := Lib.hid hp
          clear h1 hc hp
          have HD0 := Lib.hid ((h.alloc (.cells m.cells 66)).alloc (.cells #[.int .i64 m.sym, .int .i64 m.id] 164))
          have HM0 := Lib.hid ((Blk.new w m.cells 66 w.heap.size rfl).old (.cells #[.int .i64 m.sym, .int .i64 m.id] 164))
          have HK0 := Lib.hid (Blk.new (w.alloc (.cells m.cells 66)) #[.int .i64 m.sym, .int .i64 m.id] 164 (w.heap.size + 1) (by simp))
          have HC0 := Lib.hid (show Chg w.heap.size b w ((w.alloc (.cells m.cells 66)).alloc (.cells #[.int .i64 m.sym, .int .i64 m.id] 164)) from ((Chg.refl _ _ _).alloc (Nat.le_refl _) _).alloc (by simp) _)
          have hD := h.box.lt
          have hb := h.map.lt
          have m1 : (w.alloc (.cells m.cells 66)).cell? ⟨w.heap.size, 1, none⟩ = some (.int .i64 m.sym) := (Blk.new w m.cells 66 w.heap.size rfl).cell 1 rfl
          have m4 : (w.alloc (.cells m.cells 66)).cell? ⟨w.heap.size, 4, none⟩ = some (.int .i64 m.id) := (Blk.new w m.cells 66 w.heap.size rfl).cell 4 rfl
          have HL := Lib.hid (fun W (hm : MapIs W b ke ve L) => show (Instr.lookup 160 (.map (some b)) (.agg #[.int .i64 m.sym, .int .i64 m.id]) true).run Try.prog W = .ok (.tuple #[.agg #[.int .i64 (0), .int .i64 (0), .int .i64 (0)], .bool false]) W by have := look_at hm m.sym m.id; rw [hk] at this; exact this)
          have HK := Lib.hid hk
          clear h hk
          go_enter Try.func37, Try.ntmps37
          go_upto_region 4 with fail
          clear m1 m4
          change Code.wp _ _ _ _ ((w.alloc (.cells m.cells 66)).alloc (.cells #[.int .i64 m.sym, .int .i64 m.id] 164))
          refine wp_region_held_drew (S := (fun w' => w'.cell? ⟨D, 0, none⟩ = some (.map (some b)) ∧ w'.cell? ⟨w.heap.size + 1, 0, none⟩ = some (.int .i64 m.sym) ∧ w'.cell? ⟨w.heap.size + 1, 1, none⟩ = some (.int .i64 m.id) ∧ (Instr.lookup 160 (.map (some b)) (.agg #[.int .i64 m.sym, .int .i64 m.id]) true).run Try.prog w' = .ok (.tuple #[.agg #[.int .i64 (0), .int .i64 (0), .int .i64 (0)], .bool false]) w')) (by kernel_rfl) ⟨HD0.out.box.cell 0 rfl, HK0.out.cell 0 rfl, HK0.out.cell 1 rfl, HL.out _ HD0.out.map.drew⟩ (fun hHeld => ?_)
          replace HD0 := Lib.hid HD0.out.drew
          replace HM0 := Lib.hid HM0.out.drew
          replace HK0 := Lib.hid HK0.out.drew
          replace HC0 := Lib.hid HC0.out.drew
          have hsz : w.heap.size + 1 < ((w.alloc (.cells m.cells 66)).alloc (.cells #[.int .i64 m.sym, .int .i64 m.id] 164)).drew.heap.size := HK0.out.lt
          generalize ((w.alloc (.cells m.cells 66)).alloc (.cells #[.int .i64 m.sym, .int .i64 m.id] 164)).drew = W1 at HD0 HM0 HK0 HC0 hHeld hsz ⊢
          refine wpAnyH_take (i := 0) (oi := ⟨some 18, _, _, _, _, _⟩) (v := (.pointer (some ⟨D, 0, none⟩))) rfl (by kernel_rfl) (by kernel_rfl) (by kernel_rfl) (fun _ _ _ h => h) (Or.inl ⟨by rfl, fun w hSw => by (try dsimp only at hSw); go_simp⟩) (by assumption) ?_
          simp only [Act.put, List.setIfInBounds_toArray, List.set_cons_zero, List.set_cons_succ]
          refine wpAnyH_take (i := 1) (oi := ⟨some 19, _, _, _, _, _⟩) (v := (.pointer (some ⟨D, 0, none⟩))) rfl (by kernel_rfl) (by kernel_rfl) (by kernel_rfl) (fun _ _ _ h => h) (Or.inl ⟨by rfl, fun w hSw => by (try dsimp only at hSw); go_simp⟩) (by assumption) ?_
          simp only [Act.put, List.setIfInBounds_toArray, List.set_cons_zero, List.set_cons_succ]
          refine wpAnyH_take (i := 2) (oi := ⟨some 20, _, _, _, _, _⟩) (v := (.pointer (some ⟨D, 0, none⟩))) rfl (by kernel_rfl) (by kernel_rfl) (by kernel_rfl) (fun _ _ _ h => h) (Or.inl ⟨by rfl, fun w hSw => by (try dsimp only at hSw); go_simp⟩) (by assumption) ?_
          simp only [Act.put, List.setIfInBounds_toArray, List.set_cons_zero, List.set_cons_succ]
          refine wpAnyH_take (i := 3) (oi := ⟨some 21, _, _, _, _, _⟩) (v := (.map (some b))) rfl (by kernel_rfl) (by kernel_rfl) (by kernel_rfl) (fun _ _ _ h => h) (Or.inl ⟨by rfl, fun w hSw => by (try dsimp only at hSw); go_simp⟩) (by assumption) ?_
          simp only [Act.put, List.setIfInBounds_toArray, List.set_cons_zero, List.set_cons_succ]
          refine wpAnyH_take (i := 4) (oi := ⟨some 22, _, _, _, _, _⟩) (v := (.agg #[.int .i64 m.sym, .int .i64 m.id])) rfl (by kernel_rfl) (by kernel_rfl) (by kernel_rfl) (fun _ _ _ h => h) (Or.inl ⟨by rfl, fun w hSw => by (try dsimp only at hSw); go_simp⟩) (by assumption) ?_
          simp only [Act.put, List.setIfInBounds_toArray, List.set_cons_zero, List.set_cons_succ]
          refine wpAnyH_take (i := 5) (oi := ⟨some 23, _, _, _, _, _⟩) (v := (.tuple #[.agg #[.int .i64 (0), .int .i64 (0), .int .i64 (0)], .bool false])) rfl (by kernel_rfl) (by kernel_rfl) (by kernel_rfl) (fun _ _ _ h => h) (Or.inl ⟨by rfl, fun w hSw => by (try dsimp only at hSw); go_simp⟩) (by assumption) ?_
          simp only [Act.put, List.setIfInBounds_toArray, List.set_cons_zero, List.set_cons_succ]
          refine wpAnyH_take (i := 6) (oi := ⟨some 17, _, _, _, _, _⟩) (v := (.tuple #[.agg #[.int .i64 (0), .int .i64 (0), .int .i64 (0)], .bool false])) rfl (by kernel_rfl) (by kernel_rfl) (by kernel_rfl) (fun _ _ _ h => h) (Or.inl ⟨by rfl, fun w hSw => by (try dsimp only at hSw); go_simp⟩) (by assumption) ?_
          simp only [Act.put, List.setIfInBounds_toArray, List.set_cons_zero, List.set_cons_succ]
          refine wpAnyH_take (i := 7) (oi := ⟨some 24, _, _, _, _, _⟩) (v := (.agg #[.int .i64 (0), .int .i64 (0), .int .i64 (0)])) rfl (by kernel_rfl) (by kernel_rfl) (by kernel_rfl) (fun _ _ _ h => h) (Or.inl ⟨by rfl, fun w hSw => by (try dsimp only at hSw); go_simp⟩) (by assumption) ?_
          simp only [Act.put, List.setIfInBounds_toArray, List.set_cons_zero, List.set_cons_succ]
          refine wpAnyH_take (i := 8) (oi := ⟨some 25, _, _, _, _, _⟩) (v := (.bool false)) rfl (by kernel_rfl) (by kernel_rfl) (by kernel_rfl) (fun _ _ _ h => h) (Or.inl ⟨by rfl, fun w hSw => by (try dsimp only at hSw); go_simp⟩) (by assumption) ?_
          simp only [Act.put, List.setIfInBounds_toArray, List.set_cons_zero, List.set_cons_succ]
          refine wpAnyH_ready (rs := [9]) (by kernel_rfl) (by simp) ?_
          refine AllReadyH.cons (o := ⟨some 6, _, _, _, _, _⟩) rfl (fun KK hK => ?_) AllReadyH.nil
          go_simp
          change KK _ (W1.alloc (.cells restZ 166))
          have HS : Hid (QS w D b m W1.heap.size (W1.alloc (.cells restZ 166)) L restZ) := Lib.hid ⟨HD0.out.alloc _, HM0.out.old _, HK0.out.old _, Blk.new _ _ _ _ rfl, HC0.out.alloc HC0.out.size _, hD, hb, hsz⟩
          refine hK.out _ _ ⟨HS.out.ds.box.cell 0 rfl, HS.out.kb.cell 0 rfl, HS.out.kb.cell 1 rfl, HL.out _ HS.out.ds.map⟩ (fun hHeld => ?_)
          clear hK; try clear KK
          try simp only [Act.put, List.setIfInBounds_toArray, List.set_cons_zero, List.set_cons_succ]
          refine wpAnyH_ready (rs := [10]) (by kernel_rfl) (by simp) ?_
          refine AllReadyH.cons (o := ⟨none, _, _, _, _, _⟩) rfl (fun KK hK => ?_) AllReadyH.nil
          refine step_store_blk (by rfl) 166 _ _ (by rfl) W1.heap.size (by rfl) restZ #[.int .i64 (0), .int .i64 (0), .int .i64 (0)] 166 HS.out.x (by rfl) rfl (by kernel_rfl) (one_rest ⟨0, 0, 0⟩) ?_
          replace HS := Lib.hid (HS.out.mput #[.int .i64 (0), .int .i64 (0), .int .i64 (0)] rfl)
          refine hK.out _ _ ⟨HS.out.ds.box.cell 0 rfl, HS.out.kb.cell 0 rfl, HS.out.kb.cell 1 rfl, HL.out _ HS.out.ds.map⟩ (fun hHeld => ?_)
          clear hK; try clear KK
          refine wpAnyH_take (i := 11) (oi := ⟨some 7, _, _, _, _, _⟩) (v := (.bool false)) rfl (by kernel_rfl) (by kernel_rfl) (by kernel_rfl) (fun _ _ _ h => h) (Or.inl ⟨by rfl, fun w hSw => by (try dsimp only at hSw); go_simp⟩) (by assumption) ?_
          simp only [Act.put, List.setIfInBounds_toArray, List.set_cons_zero, List.set_cons_succ]
          refine wpAnyH_done (by kernel_rfl) ?_ _
          generalize hW2 : World.setCells (W1.alloc (.cells restZ 166)) W1.heap.size 0 #[.int .i64 (0), .int .i64 (0), .int .i64 (0)].toList = W2 at HS hHeld ⊢
          clear hW2 hHeld HD0 HM0 HK0 HC0
          generalize W1.heap.size = xb at HS hsz ⊢
          have m0 : W2.cell? ⟨w.heap.size, 0, none⟩ = some (.int .i64 m.kind) := HS.out.mb.cell 0 rfl
          have m1 : W2.cell? ⟨w.heap.size, 1, none⟩ = some (.int .i64 m.sym) := HS.out.mb.cell 1 rfl
          have m5 : W2.cell? ⟨w.heap.size, 5, none⟩ = some (.int .i64 m.wth) := HS.out.mb.cell 5 rfl
          have m6 : W2.cell? ⟨w.heap.size, 6, none⟩ = some (.int .i64 m.price) := HS.out.mb.cell 6 rfl
          have m7 : W2.cell? ⟨w.heap.size, 7, none⟩ = some (.int .i64 m.qty) := HS.out.mb.cell 7 rfl
          have m8 : W2.cell? ⟨w.heap.size, 8, none⟩ = some (.int .i64 m.code) := HS.out.mb.cell 8 rfl
          have k0 : W2.cell? ⟨w.heap.size + 1, 0, none⟩ = some (.int .i64 m.sym) := HS.out.kb.cell 0 rfl
          have k1 : W2.cell? ⟨w.heap.size + 1, 1, none⟩ = some (.int .i64 m.id) := HS.out.kb.cell 1 rfl
          go_wp2_with fail
          refine (sided_any m.code _).mono ?_
          rintro e w3 ⟨rfl, rfl⟩
          rw [HSD.out]
          go_wp2_with fail
          refine (Tape.price_bad m.price _ HPR.out).mono ?_
          rintro e w3 ⟨rfl, rfl⟩
          go_wp2_with fail
          go_ret
          exact ⟨by (show Ending.returned (.bool false) = _; rw [HE.out]), by rw [HE.out]; exact HS.out.ds, HS.out.chg⟩
      · have HE := Lib.hid (show putF L m = (L, false) by simp [putF, h1, hk, hq, hc])
        have HSD := Lib.hid (show (decide (m.code = 0) || decide (m.code = 1)) = false by simpa using hc)
        clear h1 hc
        have HD0 := Lib.hid ((h.alloc (.cells m.cells 66)).alloc (.cells #[.int .i64 m.sym, .int .i64 m.id] 164))
        have HM0 := Lib.hid ((Blk.new w m.cells 66 w.heap.size rfl).old (.cells #[.int .i64 m.sym, .int .i64 m.id] 164))
        have HK0 := Lib.hid (Blk.new (w.alloc (.cells m.cells 66)) #[.int .i64 m.sym, .int .i64 m.id] 164 (w.heap.size + 1) (by simp))
        have HC0 := Lib.hid (show Chg w.heap.size b w ((w.alloc (.cells m.cells 66)).alloc (.cells #[.int .i64 m.sym, .int .i64 m.id] 164)) from ((Chg.refl _ _ _).alloc (Nat.le_refl _) _).alloc (by simp) _)
        have hD := h.box.lt
        have hb := h.map.lt
        have m1 : (w.alloc (.cells m.cells 66)).cell? ⟨w.heap.size, 1, none⟩ = some (.int .i64 m.sym) := (Blk.new w m.cells 66 w.heap.size rfl).cell 1 rfl
        have m4 : (w.alloc (.cells m.cells 66)).cell? ⟨w.heap.size, 4, none⟩ = some (.int .i64 m.id) := (Blk.new w m.cells 66 w.heap.size rfl).cell 4 rfl
        have HL := Lib.hid (fun W (hm : MapIs W b ke ve L) => show (Instr.lookup 160 (.map (some b)) (.agg #[.int .i64 m.sym, .int .i64 m.id]) true).run Try.prog W = .ok (.tuple #[.agg #[.int .i64 (0), .int .i64 (0), .int .i64 (0)], .bool false]) W by have := look_at hm m.sym m.id; rw [hk] at this; exact this)
        have HK := Lib.hid hk
        clear h hk
        go_enter Try.func37, Try.ntmps37
        go_upto_region 4 with fail
        clear m1 m4
        change Code.wp _ _ _ _ ((w.alloc (.cells m.cells 66)).alloc (.cells #[.int .i64 m.sym, .int .i64 m.id] 164))
        refine wp_region_held_drew (S := (fun w' => w'.cell? ⟨D, 0, none⟩ = some (.map (some b)) ∧ w'.cell? ⟨w.heap.size + 1, 0, none⟩ = some (.int .i64 m.sym) ∧ w'.cell? ⟨w.heap.size + 1, 1, none⟩ = some (.int .i64 m.id) ∧ (Instr.lookup 160 (.map (some b)) (.agg #[.int .i64 m.sym, .int .i64 m.id]) true).run Try.prog w' = .ok (.tuple #[.agg #[.int .i64 (0), .int .i64 (0), .int .i64 (0)], .bool false]) w')) (by kernel_rfl) ⟨HD0.out.box.cell 0 rfl, HK0.out.cell 0 rfl, HK0.out.cell 1 rfl, HL.out _ HD0.out.map.drew⟩ (fun hHeld => ?_)
        replace HD0 := Lib.hid HD0.out.drew
        replace HM0 := Lib.hid HM0.out.drew
        replace HK0 := Lib.hid HK0.out.drew
        replace HC0 := Lib.hid HC0.out.drew
        have hsz : w.heap.size + 1 < ((w.alloc (.cells m.cells 66)).alloc (.cells #[.int .i64 m.sym, .int .i64 m.id] 164)).drew.heap.size := HK0.out.lt
        generalize ((w.alloc (.cells m.cells 66)).alloc (.cells #[.int .i64 m.sym, .int .i64 m.id] 164)).drew = W1 at HD0 HM0 HK0 HC0 hHeld hsz ⊢
        refine wpAnyH_take (i := 0) (oi := ⟨some 18, _, _, _, _, _⟩) (v := (.pointer (some ⟨D, 0, none⟩))) rfl (by kernel_rfl) (by kernel_rfl) (by kernel_rfl) (fun _ _ _ h => h) (Or.inl ⟨by rfl, fun w hSw => by (try dsimp only at hSw); go_simp⟩) (by assumption) ?_
        simp only [Act.put, List.setIfInBounds_toArray, List.set_cons_zero, List.set_cons_succ]
        refine wpAnyH_take (i := 1) (oi := ⟨some 19, _, _, _, _, _⟩) (v := (.pointer (some ⟨D, 0, none⟩))) rfl (by kernel_rfl) (by kernel_rfl) (by kernel_rfl) (fun _ _ _ h => h) (Or.inl ⟨by rfl, fun w hSw => by (try dsimp only at hSw); go_simp⟩) (by assumption) ?_
        simp only [Act.put, List.setIfInBounds_toArray, List.set_cons_zero, List.set_cons_succ]
        refine wpAnyH_take (i := 2) (oi := ⟨some 20, _, _, _, _, _⟩) (v := (.pointer (some ⟨D, 0, none⟩))) rfl (by kernel_rfl) (by kernel_rfl) (by kernel_rfl) (fun _ _ _ h => h) (Or.inl ⟨by rfl, fun w hSw => by (try dsimp only at hSw); go_simp⟩) (by assumption) ?_
        simp only [Act.put, List.setIfInBounds_toArray, List.set_cons_zero, List.set_cons_succ]
        refine wpAnyH_take (i := 3) (oi := ⟨some 21, _, _, _, _, _⟩) (v := (.map (some b))) rfl (by kernel_rfl) (by kernel_rfl) (by kernel_rfl) (fun _ _ _ h => h) (Or.inl ⟨by rfl, fun w hSw => by (try dsimp only at hSw); go_simp⟩) (by assumption) ?_
        simp only [Act.put, List.setIfInBounds_toArray, List.set_cons_zero, List.set_cons_succ]
        refine wpAnyH_take (i := 4) (oi := ⟨some 22, _, _, _, _, _⟩) (v := (.agg #[.int .i64 m.sym, .int .i64 m.id])) rfl (by kernel_rfl) (by kernel_rfl) (by kernel_rfl) (fun _ _ _ h => h) (Or.inl ⟨by rfl, fun w hSw => by (try dsimp only at hSw); go_simp⟩) (by assumption) ?_
        simp only [Act.put, List.setIfInBounds_toArray, List.set_cons_zero, List.set_cons_succ]
        refine wpAnyH_take (i := 5) (oi := ⟨some 23, _, _, _, _, _⟩) (v := (.tuple #[.agg #[.int .i64 (0), .int .i64 (0), .int .i64 (0)], .bool false])) rfl (by kernel_rfl) (by kernel_rfl) (by kernel_rfl) (fun _ _ _ h => h) (Or.inl ⟨by rfl, fun w hSw => by (try dsimp only at hSw); go_simp⟩) (by assumption) ?_
        simp only [Act.put, List.setIfInBounds_toArray, List.set_cons_zero, List.set_cons_succ]
        refine wpAnyH_take (i := 6) (oi := ⟨some 17, _, _, _, _, _⟩) (v := (.tuple #[.agg #[.int .i64 (0), .int .i64 (0), .int .i64 (0)], .bool false])) rfl (by kernel_rfl) (by kernel_rfl) (by kernel_rfl) (fun _ _ _ h => h) (Or.inl ⟨by rfl, fun w hSw => by (try dsimp only at hSw); go_simp⟩) (by assumption) ?_
        simp only [Act.put, List.setIfInBounds_toArray, List.set_cons_zero, List.set_cons_succ]
        refine wpAnyH_take (i := 7) (oi := ⟨some 24, _, _, _, _, _⟩) (v := (.agg #[.int .i64 (0), .int .i64 (0), .int .i64 (0)])) rfl (by kernel_rfl) (by kernel_rfl) (by kernel_rfl) (fun _ _ _ h => h) (Or.inl ⟨by rfl, fun w hSw => by (try dsimp only at hSw); go_simp⟩) (by assumption) ?_
        simp only [Act.put, List.setIfInBounds_toArray, List.set_cons_zero, List.set_cons_succ]
        refine wpAnyH_take (i := 8) (oi := ⟨some 25, _, _, _, _, _⟩) (v := (.bool false)) rfl (by kernel_rfl) (by kernel_rfl) (by kernel_rfl) (fun _ _ _ h => h) (Or.inl ⟨by rfl, fun w hSw => by (try dsimp only at hSw); go_simp⟩) (by assumption) ?_
        simp only [Act.put, List.setIfInBounds_toArray, List.set_cons_zero, List.set_cons_succ]
        refine wpAnyH_ready (rs := [9]) (by kernel_rfl) (by simp) ?_
        refine AllReadyH.cons (o := ⟨some 6, _, _, _, _, _⟩) rfl (fun KK hK => ?_) AllReadyH.nil
        go_simp
        change KK _ (W1.alloc (.cells restZ 166))
        have HS : Hid (QS w D b m W1.heap.size (W1.alloc (.cells restZ 166)) L restZ) := Lib.hid ⟨HD0.out.alloc _, HM0.out.old _, HK0.out.old _, Blk.new _ _ _ _ rfl, HC0.out.alloc HC0.out.size _, hD, hb, hsz⟩
        refine hK.out _ _ ⟨HS.out.ds.box.cell 0 rfl, HS.out.kb.cell 0 rfl, HS.out.kb.cell 1 rfl, HL.out _ HS.out.ds.map⟩ (fun hHeld => ?_)
        clear hK; try clear KK
        try simp only [Act.put, List.setIfInBounds_toArray, List.set_cons_zero, List.set_cons_succ]
        refine wpAnyH_ready (rs := [10]) (by kernel_rfl) (by simp) ?_
        refine AllReadyH.cons (o := ⟨none, _, _, _, _, _⟩) rfl (fun KK hK => ?_) AllReadyH.nil
        refine step_store_blk (by rfl) 166 _ _ (by rfl) W1.heap.size (by rfl) restZ #[.int .i64 (0), .int .i64 (0), .int .i64 (0)] 166 HS.out.x (by rfl) rfl (by kernel_rfl) (one_rest ⟨0, 0, 0⟩) ?_
        replace HS := Lib.hid (HS.out.mput #[.int .i64 (0), .int .i64 (0), .int .i64 (0)] rfl)
        refine hK.out _ _ ⟨HS.out.ds.box.cell 0 rfl, HS.out.kb.cell 0 rfl, HS.out.kb.cell 1 rfl, HL.out _ HS.out.ds.map⟩ (fun hHeld => ?_)
        clear hK; try clear KK
        refine wpAnyH_take (i := 11) (oi := ⟨some 7, _, _, _, _, _⟩) (v := (.bool false)) rfl (by kernel_rfl) (by kernel_rfl) (by kernel_rfl) (fun _ _ _ h => h) (Or.inl ⟨by rfl, fun w hSw => by (try dsimp only at hSw); go_simp⟩) (by assumption) ?_
        simp only [Act.put, List.setIfInBounds_toArray, List.set_cons_zero, List.set_cons_succ]
        refine wpAnyH_done (by kernel_rfl) ?_ _
        generalize hW2 : World.setCells (W1.alloc (.cells restZ 166)) W1.heap.size 0 #[.int .i64 (0), .int .i64 (0), .int .i64 (0)].toList = W2 at HS hHeld ⊢
        clear hW2 hHeld HD0 HM0 HK0 HC0
        generalize W1.heap.size = xb at HS hsz ⊢
        have m0 : W2.cell? ⟨w.heap.size, 0, none⟩ = some (.int .i64 m.kind) := HS.out.mb.cell 0 rfl
        have m1 : W2.cell? ⟨w.heap.size, 1, none⟩ = some (.int .i64 m.sym) := HS.out.mb.cell 1 rfl
        have m5 : W2.cell? ⟨w.heap.size, 5, none⟩ = some (.int .i64 m.wth) := HS.out.mb.cell 5 rfl
        have m6 : W2.cell? ⟨w.heap.size, 6, none⟩ = some (.int .i64 m.price) := HS.out.mb.cell 6 rfl
        have m7 : W2.cell? ⟨w.heap.size, 7, none⟩ = some (.int .i64 m.qty) := HS.out.mb.cell 7 rfl
        have m8 : W2.cell? ⟨w.heap.size, 8, none⟩ = some (.int .i64 m.code) := HS.out.mb.cell 8 rfl
        have k0 : W2.cell? ⟨w.heap.size + 1, 0, none⟩ = some (.int .i64 m.sym) := HS.out.kb.cell 0 rfl
        have k1 : W2.cell? ⟨w.heap.size + 1, 1, none⟩ = some (.int .i64 m.id) := HS.out.kb.cell 1 rfl
        go_wp2_with fail
        refine (sided_any m.code _).mono ?_
        rintro e w3 ⟨rfl, rfl⟩
        rw [HSD.out]
        go_wp2_with fail
        go_ret
        exact ⟨by (show Ending.returned (.bool false) = _; rw [HE.out]), by rw [HE.out]; exact HS.out.ds, HS.out.chg⟩

theorem put_any (D b : Nat) (L : List (Key × Rest)) (m : Msg) (w : World) (h : DS w D b L) (hok : OkL L) (hq1 : m.qty ≤ 1125899906842624) :
    Calls Try.prog 37 #[.pointer (some ⟨D, 0, none⟩), .agg m.cells] w (PutIs L m D b w) := by
  by_cases h1 : m.kind = 1
  · exact put_ack D b L m w h h1
  · by_cases h3 : m.kind = 3
    · exact put_trade D b L m w h hok h3 hq1
    · by_cases h4 : m.kind = 4
      · exact put_done D b L m w h hok h4
      · exact put_other D b L m w h h1 h3 h4
theorem new_any (w : World) : Calls Try.prog 36 #[] w fun e w' => e = .returned (.pointer (some ⟨w.heap.size + 1, 0, none⟩)) ∧ DS w' (w.heap.size + 1) w.heap.size [] ∧ Below w.heap.size w w' := by
  have hmm := @run_makeMap Try.prog
  have HD := Lib.hid (show DS ((w.alloc (.map #[] 0)).alloc (.cells #[.map (some w.heap.size)] 162)) (w.heap.size + 1) w.heap.size [] from ⟨Blk.new _ _ _ _ (by simp), (mapIs_new w w.heap.size rfl ke ve).old _⟩)
  have HB := Lib.hid (((Below.refl w.heap.size w).alloc (Nat.le_refl _) (.map #[] 0)).alloc (by simp) (.cells #[.map (some w.heap.size)] 162))
  go_enter Try.func36, Try.ntmps36
  go_wp2_with fail
  go_ret
  exact ⟨rfl, HD.out, HB.out⟩
end Go.Proofs.Ytogjgpiddjmpiaa.Depth
