/- The document's bar of some trades. -/
import Derived.Test.YtogjgpiddjmpiaaTapeRefC
import Derived.Test.YtogjgpiddjmpiaaRefMean
namespace Go.Proofs.Ytogjgpiddjmpiaa.Tape
set_option linter.unusedVariables false
open Go.RowKit Go.Proofs.Ytogjgpiddjmpiaa.Kit Go.Proofs.Ytogjgpiddjmpiaa.Blk Go.Proofs.Ytogjgpiddjmpiaa.Msgs
attribute [local go_sem ↓] Go.wp_at_zero Go.wp_at_succ

def hiF (p : Int) (l : List Msg) : Int := l.foldl (fun h m => max h m.price) p
def loF (p : Int) (l : List Msg) : Int := l.foldl (fun h m => min h m.price) p
def volF (l : List Msg) : Int := l.foldl (fun v m => v + m.qty) 0
def prices (l : List Msg) : List Value := l.map fun m => .int .i64 m.price
def qtys (l : List Msg) : List Value := l.map fun m => .int .i64 m.qty
def pairs (l : List Msg) : List (Nat × Nat) := l.map fun m => (m.price.toNat, m.qty.toNat)
def meanF (l : List Msg) : Nat := Ref01.worth (pairs l) / Ref01.volume (pairs l)
def ofF (f : Int) (g : List Msg) (m0 ml : Msg) : Bar := ⟨f, m0.price, hiF m0.price g, loF m0.price g, ml.price, volF g, (g.length : Int), (meanF g : Int)⟩
theorem hi_next (p : Int) (l : List Msg) (k : Nat) (h : k < l.length) : hiF p (l.take (k + 1)) = max (hiF p (l.take k)) l[k].price := by
  unfold hiF; rw [List.take_succ_eq_append_getElem h, List.foldl_append]; rfl
theorem lo_next (p : Int) (l : List Msg) (k : Nat) (h : k < l.length) : loF p (l.take (k + 1)) = min (loF p (l.take k)) l[k].price := by
  unfold loF; rw [List.take_succ_eq_append_getElem h, List.foldl_append]; rfl
theorem vol_next (l : List Msg) (k : Nat) (h : k < l.length) : volF (l.take (k + 1)) = volF (l.take k) + l[k].qty := by
  unfold volF; rw [List.take_succ_eq_append_getElem h, List.foldl_append]; rfl
theorem prices_next (l : List Msg) (k : Nat) (h : k < l.length) : prices (l.take (k + 1)) = prices (l.take k) ++ [.int .i64 l[k].price] := by
  unfold prices; rw [List.take_succ_eq_append_getElem h, List.map_append]; rfl
theorem qtys_next (l : List Msg) (k : Nat) (h : k < l.length) : qtys (l.take (k + 1)) = qtys (l.take k) ++ [.int .i64 l[k].qty] := by
  unfold qtys; rw [List.take_succ_eq_append_getElem h, List.map_append]; rfl
theorem volF_snoc (l : List Msg) (m : Msg) : volF (l ++ [m]) = volF l + m.qty := by unfold volF; rw [List.foldl_append]; rfl
theorem volF_bd (l : List Msg) (hg : ∀ m ∈ l, Good m) : (l.length : Int) ≤ volF l ∧ volF l ≤ l.length * 4294967296 := by
  revert hg
  refine rev_ind (p := fun l => (∀ m ∈ l, Good m) → (l.length : Int) ≤ volF l ∧ volF l ≤ l.length * 4294967296) ?_ ?_ l
  · intro _; exact ⟨by show ((0 : Nat) : Int) ≤ 0; omega, by show (0 : Int) ≤ ((0 : Nat) : Int) * _; omega⟩
  · intro l m ih hg
    obtain ⟨h1, h2⟩ := ih (fun x hx => hg x (List.mem_append_left _ hx))
    have h3 := hg m (List.mem_append_right _ List.mem_cons_self)
    have h4 := h3.q1
    have h5 := h3.q2
    rw [volF_snoc, List.length_append]
    simp only [List.length_singleton]
    omega
theorem pairs_bd (l : List Msg) (hg : ∀ m ∈ l, Good m) : (∀ x ∈ pairs l, x.1 < 2 ^ 63 ∧ x.2 < 2 ^ 33) ∧ Ref01.worth (pairs l) ≤ 1099511627776 * Ref01.volume (pairs l) ∧ l.length ≤ Ref01.volume (pairs l) := by
  induction l with
  | nil => exact ⟨fun x hx => by simp [pairs] at hx, by simp [pairs, Ref01.worth], by simp⟩
  | cons m l ih =>
    obtain ⟨h1, h2, h3⟩ := ih (fun x hx => hg x (List.mem_cons_of_mem _ hx))
    have h4 := hg m List.mem_cons_self
    have hp1 := h4.p1; have hp2 := h4.p2; have hq1 := h4.q1; have hq2 := h4.q2
    refine ⟨fun x hx => ?_, ?_, ?_⟩
    · simp only [pairs, List.map_cons, List.mem_cons] at hx
      rcases hx with rfl | hx
      · exact ⟨by show m.price.toNat < _; omega, by show m.qty.toNat < _; omega⟩
      · exact h1 x (by simpa [pairs] using hx)
    · have e1 : Ref01.worth (pairs (m :: l)) = m.price.toNat * m.qty.toNat + Ref01.worth (pairs l) := rfl
      have e2 : Ref01.volume (pairs (m :: l)) = m.qty.toNat + Ref01.volume (pairs l) := rfl
      rw [e1, e2, Nat.mul_add]
      have : m.price.toNat * m.qty.toNat ≤ 1099511627776 * m.qty.toNat := Nat.mul_le_mul_right _ (by omega)
      omega
    · have e2 : Ref01.volume (pairs (m :: l)) = m.qty.toNat + Ref01.volume (pairs l) := rfl
      rw [e2, List.length_cons]; omega
/-- Two rows that lie apart. -/
def apart (v u : Value) : Prop := ∀ j, v.ownBlock = some j → u.ownBlock ≠ some j
theorem apart_next {w : World} {N e : Nat} {size k m cap g H : Nat} {v u : Value} {xs : List Value} (h : apart v u) (hu : w.ownsRow N e size u k xs) (hat : v.ownBlock = some g ∨ g = H) (hH : w.heap.size ≤ H) : apart (.slice (some ⟨g, 0, none⟩) m cap) u := by
  intro j hj e
  obtain rfl : g = j := by simpa [Value.ownBlock] using hj
  rcases hat with hat | rfl
  · exact h g hat e
  · obtain ⟨_, cur, hc⟩ := row_from hu e
    have := (Array.getElem?_eq_some_iff.1 hc).1
    omega
theorem apart_symm {v u : Value} (h : apart v u) : apart u v := fun j hj e => h j e hj
theorem row_other {w w' : World} {N e size k : Nat} {v u : Value} {xs : List Value} (h : apart v u) (hu : w.ownsRow N e size u k xs) (hg : w.grownBy w' v.ownBlock) : w'.ownsRow N e size u k xs :=
  hu.kept hg (by
    cases hv : u.ownBlock with
    | none => exact .inl rfl
    | some j => exact .inr (fun e => h j e.symm hv))
theorem bar_high {w : World} {X T : Nat} {b : Bar} (h : Blk w X b.cells T) (v : Int) : Blk (w.setCell ⟨X, 2, none⟩ (.int .i64 v)) X (Bar.cells ⟨b.frm, b.opn, v, b.low, b.cls, b.vol, b.trd, b.mean⟩) T := h.set 2 _
theorem bar_low {w : World} {X T : Nat} {b : Bar} (h : Blk w X b.cells T) (v : Int) : Blk (w.setCell ⟨X, 3, none⟩ (.int .i64 v)) X (Bar.cells ⟨b.frm, b.opn, b.high, v, b.cls, b.vol, b.trd, b.mean⟩) T := h.set 3 _
theorem bar_vol {w : World} {X T : Nat} {b : Bar} (h : Blk w X b.cells T) (v : Int) : Blk (w.setCell ⟨X, 5, none⟩ (.int .i64 v)) X (Bar.cells ⟨b.frm, b.opn, b.high, b.low, b.cls, v, b.trd, b.mean⟩) T := h.set 5 _
theorem bar_mean {w : World} {X T : Nat} {b : Bar} (h : Blk w X b.cells T) (v : Int) : Blk (w.setCell ⟨X, 7, none⟩ (.int .i64 v)) X (Bar.cells ⟨b.frm, b.opn, b.high, b.low, b.cls, b.vol, b.trd, v⟩) T := h.set 7 _
theorem grown_set (W : World) (b j : Nat) (v : Value) : W.grownBy (W.setCell ⟨b, j, none⟩ v) (some b) :=
  ⟨rfl, rfl, rfl, (KeepsWalks.setCell W _ v).size, fun k _ hk => Below.heap_setCell _ _ _ k (fun e => hk (by rw [e]))⟩
theorem row_drew {W : World} {N e size k : Nat} {v : Value} {xs : List Value} (h : W.ownsRow N e size v k xs) : W.drew.ownsRow N e size v k xs := h
/-- A store into a struct leaves a row of numbers. -/
theorem row_set {W : World} {N e size k X j T : Nat} {cs : Array Value} {v u : Value} {xs : List Value} (hX : Blk W X cs T) (hte : T ≠ e) (h : W.ownsRow N e size v k xs) : (W.setCell ⟨X, j, none⟩ u).ownsRow N e size v k xs :=
  h.kept (grown_set W X j u) (.inr (fun e' => blk_not_row hX hte h e'.symm))
/-- While the bar of trades is made. -/
structure OfI (N X : Nat) (f : Int) (g : List Msg) (m0 ml : Msg) (L : Nat) (w : World) (k : Nat) (v u : Value) (W : World) : Prop where
  bar : Blk W X (Bar.cells ⟨f, m0.price, hiF m0.price (g.take k), loF m0.price (g.take k), ml.price, volF (g.take k), L, 0⟩) 55
  res : Blk W N Bar.zero.cells 55
  ps : W.ownsRow N 2 1 v k (prices (g.take k))
  qs : W.ownsRow N 2 1 u k (qtys (g.take k))
  dis : apart v u
  bel : Below N w W
theorem row_some {W : World} {base e size k : Nat} {v : Value} {xs : List Value} (h : 0 < k) (hr : W.ownsRow base e size v k xs) : ∃ g cap, v = .slice (some ⟨g, 0, none⟩) k cap := by
  rcases hr.2 with ⟨rfl, rfl⟩ | ⟨g, cap, cur, rfl, _⟩
  · omega
  · exact ⟨_, _, rfl⟩
theorem rows_of {W : World} {N P Q cp cq : Nat} {l : List Msg} (hg : ∀ m ∈ l, Good m) (hp : W.ownsRow N 2 1 (.slice (some ⟨P, 0, none⟩) l.length cp) l.length (prices l)) (hq : W.ownsRow N 2 1 (.slice (some ⟨Q, 0, none⟩) l.length cq) l.length (qtys l)) : Ref01.Rows W P Q (pairs l) := by
  refine ⟨fun i hi => ?_, fun i hi => ?_⟩
  · have hi' : i < l.length := by simpa [pairs] using hi
    have h1 := hp.cellAt i (by omega)
    rw [h1]
    have h2 := (hg l[i] (List.getElem_mem hi')).p1
    simp only [prices, pairs, List.getElem?_map, List.getElem_map, List.getElem?_eq_getElem hi', Option.map_some]
    rw [Int.toNat_of_nonneg (by omega)]
  · have hi' : i < l.length := by simpa [pairs] using hi
    have h1 := hq.cellAt i (by omega)
    rw [h1]
    have h2 := (hg l[i] (List.getElem_mem hi')).q1
    simp only [qtys, pairs, List.getElem?_map, List.getElem_map, List.getElem?_eq_getElem hi', Option.map_some]
    rw [Int.toNat_of_nonneg (by omega)]
theorem meanr_any (P Q cp cq L : Nat) (l : List Msg) (hL : l.length = L) (h0 : 0 < L) (hl : L ≤ 1000) (hg : ∀ m ∈ l, Good m) (N : Nat) (w : World) (hp : w.ownsRow N 2 1 (.slice (some ⟨P, 0, none⟩) L cp) L (prices l)) (hq : w.ownsRow N 2 1 (.slice (some ⟨Q, 0, none⟩) L cq) L (qtys l)) :
    Calls Try.prog 115 #[.slice (some ⟨P, 0, none⟩) L cp, .slice (some ⟨Q, 0, none⟩) L cq] w fun e w' => e = .returned (.int .i64 (meanF l : Nat)) ∧ Below w.heap.size w w' := by
  subst hL
  obtain ⟨b1, b2, b3⟩ := pairs_bd l hg
  have hlen : (pairs l).length = l.length := by simp [pairs]
  have hlt : Ref01.worth (pairs l) / Ref01.volume (pairs l) < 2 ^ 63 := Nat.lt_of_le_of_lt (Nat.div_le_of_le_mul (by rw [Nat.mul_comm]; exact b2)) (show (1099511627776 : Nat) < 2 ^ 63 by decide)
  have hP : P < w.heap.size := by
    obtain ⟨_, cur, hc⟩ := row_from hp (j := P) rfl
    exact (Array.getElem?_eq_some_iff.1 hc).1
  have hQ : Q < w.heap.size := by
    obtain ⟨_, cur, hc⟩ := row_from hq (j := Q) rfl
    exact (Array.getElem?_eq_some_iff.1 hc).1
  have h := Ref01.mean_any P Q cp cq (pairs l) (by omega) b1 (by omega) hlt w hP hQ (rows_of hg hp hq)
  rw [hlen] at h
  exact h
theorem infoI : (Try.prog.info? 2).map (fun i => (i.zero, i.size, i.bytes)) = some (some (.int .i64 0), 1, 8) := by kernel_rfl
theorem infoRBar : (Try.prog.info? 55).map (fun i => (i.zero, i.size, i.bytes)) = some (some (.agg Bar.zero.cells), 8, 64) := by kernel_rfl
end Go.Proofs.Ytogjgpiddjmpiaa.Tape
