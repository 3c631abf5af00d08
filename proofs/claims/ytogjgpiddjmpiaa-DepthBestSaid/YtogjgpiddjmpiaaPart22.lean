/- Parts of the proof: TapeOf, TapeGroup, TapeWhole, LvlC. -/
import Derived.Test.YtogjgpiddjmpiaaPart15
import Derived.Test.YtogjgpiddjmpiaaPart21
import Derived.Test.YtogjgpiddjmpiaaPart16

/- The document's bar of some trades. -/
namespace Go.Proofs.Ytogjgpiddjmpiaa.Tape
set_option linter.unusedVariables false
open Go.RowKit Go.Proofs.Ytogjgpiddjmpiaa.Kit Go.Proofs.Ytogjgpiddjmpiaa.Blk Go.Proofs.Ytogjgpiddjmpiaa.Msgs
attribute [local go_sem ↓] Go.wp_at_zero Go.wp_at_succ

def hiF (p : Int) (l : List Msg) : Int := l.foldl (fun h m => max h m.price) p
def loF (p : Int) (l : List Msg) : Int := l.foldl (fun h m => min h m.price) p
def volF (l : List Msg) : Int := l.foldl (fun v m => v + m.qty) 0
def prices (l : List Msg) : List Value := l.map fun m => .int .i64 m.price
def qtys (l : List Msg) : List Value := l.map fun m => .int .i64 m.qty
def pairs (l : List Msg) : List (Nat × Nat) := l.map fun m => (m.price.toNat, m.qty.toNat)
def meanF (l : List Msg) : Nat := Ref01.worth (pairs l) / Ref01.volume (pairs l)
def ofF (f : Int) (g : List Msg) (m0 ml : Msg) : Bar := ⟨f, m0.price, hiF m0.price g, loF m0.price g, ml.price, volF g, (g.length : Int), (meanF g : Int)⟩
theorem hi_next (p : Int) (l : List Msg) (k : Nat) (h : k < l.length) : hiF p (l.take (k + 1)) = max (hiF p (l.take k)) l[k].price := by
  unfold hiF; rw [List.take_succ_eq_append_getElem h, List.foldl_append]; rfl
theorem lo_next (p : Int) (l : List Msg) (k : Nat) (h : k < l.length) : loF p (l.take (k + 1)) = min (loF p (l.take k)) l[k].price := by
  unfold loF; rw [List.take_succ_eq_append_getElem h, List.foldl_append]; rfl
theorem vol_next (l : List Msg) (k : Nat) (h : k < l.length) : volF (l.take (k + 1)) = volF (l.take k) + l[k].qty := by
  unfold volF; rw [List.take_succ_eq_append_getElem h, List.foldl_append]; rfl
theorem prices_next (l : List Msg) (k : Nat) (h : k < l.length) : prices (l.take (k + 1)) = prices (l.take k) ++ [.int .i64 l[k].price] := by
  unfold prices; rw [List.take_succ_eq_append_getElem h, List.map_append]; rfl
theorem qtys_next (l : List Msg) (k : Nat) (h : k < l.length) : qtys (l.take (k + 1)) = qtys (l.take k) ++ [.int .i64 l[k].qty] := by
  unfold qtys; rw [List.take_succ_eq_append_getElem h, List.map_append]; rfl
theorem volF_snoc (l : List Msg) (m : Msg) : volF (l ++ [m]) = volF l + m.qty := by unfold volF; rw [List.foldl_append]; rfl
theorem volF_bd (l : List Msg) (hg : ∀ m ∈ l, Good m) : (l.length : Int) ≤ volF l ∧ volF l ≤ l.length * 4294967296 := by
  revert hg
  refine rev_ind (p := fun l => (∀ m ∈ l, Good m) → (l.length : Int) ≤ volF l ∧ volF l ≤ l.length * 4294967296) ?_ ?_ l
  · intro _; exact ⟨by show ((0 : Nat) : Int) ≤ 0; omega, by show (0 : Int) ≤ ((0 : Nat) : Int) * _; omega⟩
  · intro l m ih hg
    obtain ⟨h1, h2⟩ := ih (fun x hx => hg x (List.mem_append_left _ hx))
    have h3 := hg m (List.mem_append_right _ List.mem_cons_self)
    have h4 := h3.q1
    have h5 := h3.q2
    rw [volF_snoc, List.length_append]
    simp only [List.length_singleton]
    omega
theorem pairs_bd (l : List Msg) (hg : ∀ m ∈ l, Good m) : (∀ x ∈ pairs l, x.1 < 2 ^ 63 ∧ x.2 < 2 ^ 33) ∧ Ref01.worth (pairs l) ≤ 1099511627776 * Ref01.volume (pairs l) ∧ l.length ≤ Ref01.volume (pairs l) := by
  induction l with
  | nil => exact ⟨fun x hx => by simp [pairs] at hx, by simp [pairs, Ref01.worth], by simp⟩
  | cons m l ih =>
    obtain ⟨h1, h2, h3⟩ := ih (fun x hx => hg x (List.mem_cons_of_mem _ hx))
    have h4 := hg m List.mem_cons_self
    have hp1 := h4.p1; have hp2 := h4.p2; have hq1 := h4.q1; have hq2 := h4.q2
    refine ⟨fun x hx => ?_, ?_, ?_⟩
    · simp only [pairs, List.map_cons, List.mem_cons] at hx
      rcases hx with rfl | hx
      · exact ⟨by show m.price.toNat < _; omega, by show m.qty.toNat < _; omega⟩
      · exact h1 x (by simpa [pairs] using hx)
    · have e1 : Ref01.worth (pairs (m :: l)) = m.price.toNat * m.qty.toNat + Ref01.worth (pairs l) := rfl
      have e2 : Ref01.volume (pairs (m :: l)) = m.qty.toNat + Ref01.volume (pairs l) := rfl
      rw [e1, e2, Nat.mul_add]
      have : m.price.toNat * m.qty.toNat ≤ 1099511627776 * m.qty.toNat := Nat.mul_le_mul_right _ (by omega)
      omega
    · have e2 : Ref01.volume (pairs (m :: l)) = m.qty.toNat + Ref01.volume (pairs l) := rfl
      rw [e2, List.length_cons]; omega
/-- Two rows that lie apart. -/
def apart (v u : Value) : Prop := ∀ j, v.ownBlock = some j → u.ownBlock ≠ some j
theorem apart_next {w : World} {N e : Nat} {size k m cap g H : Nat} {v u : Value} {xs : List Value} (h : apart v u) (hu : w.ownsRow N e size u k xs) (hat : v.ownBlock = some g ∨ g = H) (hH : w.heap.size ≤ H) : apart (.slice (some ⟨g, 0, none⟩) m cap) u := by
  intro j hj e
  obtain rfl : g = j := by simpa [Value.ownBlock] using hj
  rcases hat with hat | rfl
  · exact h g hat e
  · obtain ⟨_, cur, hc⟩ := row_from hu e
    have := (Array.getElem?_eq_some_iff.1 hc).1
    omega
theorem apart_symm {v u : Value} (h : apart v u) : apart u v := fun j hj e => h j e hj
theorem row_other {w w' : World} {N e size k : Nat} {v u : Value} {xs : List Value} (h : apart v u) (hu : w.ownsRow N e size u k xs) (hg : w.grownBy w' v.ownBlock) : w'.ownsRow N e size u k xs :=
  hu.kept hg (by
    cases hv : u.ownBlock with
    | none => exact .inl rfl
    | some j => exact .inr (fun e => h j e.symm hv))
theorem bar_high {w : World} {X T : Nat} {b : Bar} (h : Blk w X b.cells T) (v : Int) : Blk (w.setCell ⟨X, 2, none⟩ (.int .i64 v)) X (Bar.cells ⟨b.frm, b.opn, v, b.low, b.cls, b.vol, b.trd, b.mean⟩) T := h.set 2 _
theorem bar_low {w : World} {X T : Nat} {b : Bar} (h : Blk w X b.cells T) (v : Int) : Blk (w.setCell ⟨X, 3, none⟩ (.int .i64 v)) X (Bar.cells ⟨b.frm, b.opn, b.high, v, b.cls, b.vol, b.trd, b.mean⟩) T := h.set 3 _
theorem bar_vol {w : World} {X T : Nat} {b : Bar} (h : Blk w X b.cells T) (v : Int) : Blk (w.setCell ⟨X, 5, none⟩ (.int .i64 v)) X (Bar.cells ⟨b.frm, b.opn, b.high, b.low, b.cls, v, b.trd, b.mean⟩) T := h.set 5 _
theorem bar_mean {w : World} {X T : Nat} {b : Bar} (h : Blk w X b.cells T) (v : Int) : Blk (w.setCell ⟨X, 7, none⟩ (.int .i64 v)) X (Bar.cells ⟨b.frm, b.opn, b.high, b.low, b.cls, b.vol, b.trd, v⟩) T := h.set 7 _
theorem grown_set (W : World) (b j : Nat) (v : Value) : W.grownBy (W.setCell ⟨b, j, none⟩ v) (some b) :=
  ⟨rfl, rfl, rfl, (KeepsWalks.setCell W _ v).size, fun k _ hk => Below.heap_setCell _ _ _ k (fun e => hk (by rw [e]))⟩
theorem row_drew {W : World} {N e size k : Nat} {v : Value} {xs : List Value} (h : W.ownsRow N e size v k xs) : W.drew.ownsRow N e size v k xs := h
/-- A store into a struct leaves a row of numbers. -/
theorem row_set {W : World} {N e size k X j T : Nat} {cs : Array Value} {v u : Value} {xs : List Value} (hX : Blk W X cs T) (hte : T ≠ e) (h : W.ownsRow N e size v k xs) : (W.setCell ⟨X, j, none⟩ u).ownsRow N e size v k xs :=
  h.kept (grown_set W X j u) (.inr (fun e' => blk_not_row hX hte h e'.symm))
/-- While the bar of trades is made. -/
structure OfI (N X : Nat) (f : Int) (g : List Msg) (m0 ml : Msg) (L : Nat) (w : World) (k : Nat) (v u : Value) (W : World) : Prop where
  bar : Blk W X (Bar.cells ⟨f, m0.price, hiF m0.price (g.take k), loF m0.price (g.take k), ml.price, volF (g.take k), L, 0⟩) 55
  res : Blk W N Bar.zero.cells 55
  ps : W.ownsRow N 2 1 v k (prices (g.take k))
  qs : W.ownsRow N 2 1 u k (qtys (g.take k))
  dis : apart v u
  bel : Below N w W
theorem row_some {W : World} {base e size k : Nat} {v : Value} {xs : List Value} (h : 0 < k) (hr : W.ownsRow base e size v k xs) : ∃ g cap, v = .slice (some ⟨g, 0, none⟩) k cap := by
  rcases hr.2 with ⟨rfl, rfl⟩ | ⟨g, cap, cur, rfl, _⟩
  · omega
  · exact ⟨_, _, rfl⟩
theorem rows_of {W : World} {N P Q cp cq : Nat} {l : List Msg} (hg : ∀ m ∈ l, Good m) (hp : W.ownsRow N 2 1 (.slice (some ⟨P, 0, none⟩) l.length cp) l.length (prices l)) (hq : W.ownsRow N 2 1 (.slice (some ⟨Q, 0, none⟩) l.length cq) l.length (qtys l)) : Ref01.Rows W P Q (pairs l) := by
  refine ⟨fun i hi => ?_, fun i hi => ?_⟩
  · have hi' : i < l.length := by simpa [pairs] using hi
    have h1 := hp.cellAt i (by omega)
    rw [h1]
    have h2 := (hg l[i] (List.getElem_mem hi')).p1
    simp only [prices, pairs, List.getElem?_map, List.getElem_map, List.getElem?_eq_getElem hi', Option.map_some]
    rw [Int.toNat_of_nonneg (by omega)]
  · have hi' : i < l.length := by simpa [pairs] using hi
    have h1 := hq.cellAt i (by omega)
    rw [h1]
    have h2 := (hg l[i] (List.getElem_mem hi')).q1
    simp only [qtys, pairs, List.getElem?_map, List.getElem_map, List.getElem?_eq_getElem hi', Option.map_some]
    rw [Int.toNat_of_nonneg (by omega)]
theorem meanr_any (P Q cp cq L : Nat) (l : List Msg) (hL : l.length = L) (h0 : 0 < L) (hl : L ≤ 1000) (hg : ∀ m ∈ l, Good m) (N : Nat) (w : World) (hp : w.ownsRow N 2 1 (.slice (some ⟨P, 0, none⟩) L cp) L (prices l)) (hq : w.ownsRow N 2 1 (.slice (some ⟨Q, 0, none⟩) L cq) L (qtys l)) :
    Calls Try.prog 115 #[.slice (some ⟨P, 0, none⟩) L cp, .slice (some ⟨Q, 0, none⟩) L cq] w fun e w' => e = .returned (.int .i64 (meanF l : Nat)) ∧ Below w.heap.size w w' := by
  subst hL
  obtain ⟨b1, b2, b3⟩ := pairs_bd l hg
  have hlen : (pairs l).length = l.length := by simp [pairs]
  have hlt : Ref01.worth (pairs l) / Ref01.volume (pairs l) < 2 ^ 63 := Nat.lt_of_le_of_lt (Nat.div_le_of_le_mul (by rw [Nat.mul_comm]; exact b2)) (show (1099511627776 : Nat) < 2 ^ 63 by decide)
  have hP : P < w.heap.size := by
    obtain ⟨_, cur, hc⟩ := row_from hp (j := P) rfl
    exact (Array.getElem?_eq_some_iff.1 hc).1
  have hQ : Q < w.heap.size := by
    obtain ⟨_, cur, hc⟩ := row_from hq (j := Q) rfl
    exact (Array.getElem?_eq_some_iff.1 hc).1
  have h := Ref01.mean_any P Q cp cq (pairs l) (by omega) b1 (by omega) hlt w hP hQ (rows_of hg hp hq)
  rw [hlen] at h
  exact h
theorem infoI : (Try.prog.info? 2).map (fun i => (i.zero, i.size, i.bytes)) = some (some (.int .i64 0), 1, 8) := by kernel_rfl
theorem infoRBar : (Try.prog.info? 55).map (fun i => (i.zero, i.size, i.bytes)) = some (some (.agg Bar.zero.cells), 8, 64) := by kernel_rfl
end Go.Proofs.Ytogjgpiddjmpiaa.Tape

/- Trades of one beginning make one bar: the program's way and the document's. -/
namespace Go.Proofs.Ytogjgpiddjmpiaa.Tape
open Go.RowKit Go.Proofs.Ytogjgpiddjmpiaa.Kit Go.Proofs.Ytogjgpiddjmpiaa.Blk Go.Proofs.Ytogjgpiddjmpiaa.Msgs

def key (wd : Int) (m : Msg) : Int := m.tick / wd * wd
def lastP (p : Int) (g : List Msg) : Int := g.foldl (fun _ m => m.price) p
def gb (f : Int) (m0 : Msg) (g : List Msg) : Bar := ⟨f, m0.price, hiF m0.price g, loF m0.price g, lastP m0.price g, volF g, (g.length : Int), 0⟩
def wos (g : List Msg) : Nat := g.foldl (fun x m => x + wo m) 0
theorem wos_snoc (g : List Msg) (m : Msg) : wos (g ++ [m]) = wos g + wo m := by unfold wos; rw [List.foldl_append]; rfl
theorem gb_snoc (f : Int) (m0 : Msg) (g : List Msg) (m : Msg) (hne : g ≠ []) : addF (gb f m0 g) f m = gb f m0 (g ++ [m]) := by
  have ht : (gb f m0 g).trd ≠ 0 := by
    show (g.length : Int) ≠ 0
    have : g.length ≠ 0 := fun e => hne (List.length_eq_zero_iff.1 e)
    omega
  unfold addF firstF
  rw [if_neg ht]
  unfold nextF gb hiF loF lastP volF
  simp only [List.foldl_append, List.length_append, List.foldl_cons, List.foldl_nil, List.length_cons, List.length_nil]
  congr 1
theorem gb_one (f : Int) (m0 : Msg) : addF Bar.zero f m0 = gb f m0 [m0] := by
  unfold addF firstF
  rw [if_pos (show Bar.zero.trd = 0 from rfl)]
  rfl
/-- All of a group, one behind the other. -/
theorem fold_group (wd f : Int) (m0 : Msg) (o : List Bar) (t : List Msg) : ∀ (g : List Msg) (x : Nat), g ≠ [] → (∀ m ∈ t, key wd m = f) → t.foldl (stepB wd) ⟨o, gb f m0 g, x⟩ = ⟨o, gb f m0 (g ++ t), x + wos t⟩ := by
  induction t with
  | nil => intro g x _ _; rw [List.append_nil]; rfl
  | cons m t ih =>
    intro g x hne hk
    have hf : m.tick / wd * wd = f := hk m List.mem_cons_self
    have e : stepB wd ⟨o, gb f m0 g, x⟩ m = ⟨o, gb f m0 (g ++ [m]), x + wo m⟩ := by
      unfold stepB
      dsimp only
      rw [if_pos (show (gb f m0 g).trd = 0 ∨ (gb f m0 g).frm = m.tick / wd * wd from Or.inr hf.symm), hf, gb_snoc f m0 g m hne]
    rw [List.foldl_cons, e, ih (g ++ [m]) (x + wo m) (by simp) (fun y hy => hk y (List.mem_cons_of_mem _ hy))]
    have e2 : wos (m :: t) = wo m + wos t := by
      have : ∀ (t : List Msg) (a : Nat), t.foldl (fun x m => x + wo m) a = a + t.foldl (fun x m => x + wo m) 0 := by
        intro t
        induction t with
        | nil => intro a; rfl
        | cons y t ih => intro a; rw [List.foldl_cons, List.foldl_cons, ih (a + wo y), ih (0 + wo y)]; omega
      unfold wos
      rw [List.foldl_cons, this]; omega
    rw [e2, List.append_assoc]
    congr 1
    omega
theorem wos_pairs (g : List Msg) (hg : ∀ m ∈ g, Good m) : wos g = Ref01.worth (pairs g) ∧ volF g = (Ref01.volume (pairs g) : Int) := by
  revert hg
  refine rev_ind (p := fun g => (∀ m ∈ g, Good m) → wos g = Ref01.worth (pairs g) ∧ volF g = (Ref01.volume (pairs g) : Int)) ?_ ?_ g
  · intro _; exact ⟨rfl, rfl⟩
  · intro g m ih hg
    obtain ⟨h1, h2⟩ := ih (fun x hx => hg x (List.mem_append_left _ hx))
    have hm := hg m (List.mem_append_right _ List.mem_cons_self)
    have hp := hm.p1
    have hq := hm.q1
    have e1 : pairs (g ++ [m]) = pairs g ++ [(m.price.toNat, m.qty.toNat)] := by simp [pairs]
    rw [wos_snoc, volF_snoc, e1, Ref01.worth_app, Ref01.volume_app, h1, h2]
    have e2 : wo m = m.price.toNat * m.qty.toNat := by
      unfold wo
      rw [Int.toNat_mul (by omega) (by omega)]
    refine ⟨by rw [e2]; simp [Ref01.worth], ?_⟩
    simp only [Ref01.volume, Nat.add_zero]
    omega
theorem last_get (p : Int) (g : List Msg) (n : Nat) (h : g.length = n + 1) : lastP p g = (g[n]'(by omega)).price := by
  have e : g = g.take n ++ [g[n]'(by omega)] := by
    rw [← List.take_succ_eq_append_getElem (by omega), List.take_of_length_le (by omega)]
  have e2 : lastP p (g.take n ++ [g[n]'(by omega)]) = (g[n]'(by omega)).price := by unfold lastP; rw [List.foldl_append]; rfl
  rw [← e] at e2
  exact e2
theorem done_group (f : Int) (m0 : Msg) (g : List Msg) (n : Nat) (h : g.length = n + 1) (hg : ∀ m ∈ g, Good m) : doneF (gb f m0 g) (wos g) = ofF f g m0 (g[n]'(by omega)) := by
  obtain ⟨h1, h2⟩ := wos_pairs g hg
  have e : (volF g).toNat = Ref01.volume (pairs g) := by rw [h2, Int.toNat_natCast]
  show (⟨f, m0.price, hiF m0.price g, loF m0.price g, lastP m0.price g, volF g, (g.length : Int), ((wos g / (volF g).toNat : Nat) : Int)⟩ : Bar) = ⟨f, m0.price, hiF m0.price g, loF m0.price g, (g[n]'(by omega)).price, volF g, (g.length : Int), ((Ref01.worth (pairs g) / Ref01.volume (pairs g) : Nat) : Int)⟩
  rw [e, h1, last_get m0.price g n h]

/-- Where a group ends. -/
def Bd (wd : Int) (L : List Msg) (i : Nat) : Prop := (foldB wd (L.take i)).b.trd = 0 ∨ ∀ h : i < L.length, (foldB wd (L.take i)).b.frm ≠ key wd L[i]
theorem bd_zero (wd : Int) (L : List Msg) : Bd wd L 0 := .inl rfl
def grp (L : List Msg) (i k : Nat) : List Msg := (L.drop i).take (k - i)
theorem grp_len (L : List Msg) (i k : Nat) (hk : k ≤ L.length) : (grp L i k).length = k - i := by unfold grp; rw [List.length_take, List.length_drop]; omega
theorem grp_at (L : List Msg) (i k j : Nat) (hk : k ≤ L.length) (hj : j < k - i) : (grp L i k)[j]'(by rw [grp_len L i k hk]; exact hj) = L[i + j]'(by omega) := by
  unfold grp
  rw [List.getElem_take, List.getElem_drop]
theorem take_grp (L : List Msg) (i k : Nat) (hik : i ≤ k) : L.take k = L.take i ++ grp L i k := by
  unfold grp
  have := List.take_append_drop i (L.take k)
  rw [List.take_take, List.drop_take] at this
  rw [Nat.min_eq_left hik] at this
  exact this.symm
theorem group_next (wd : Int) (L : List Msg) (hL : ∀ m ∈ L, Good m) (i k : Nat) (hik : i < k) (hk : k ≤ L.length) (hbd : Bd wd L i) (hkey : ∀ j (_ : i ≤ j) (h2 : j < k), key wd (L[j]'(by omega)) = key wd (L[i]'(by omega))) :
    barsF wd (L.take k) = barsF wd (L.take i) ++ [ofF (key wd (L[i]'(by omega))) (grp L i k) (L[i]'(by omega)) (L[k - 1]'(by omega))] ∧
    (foldB wd (L.take k)).b.trd ≠ 0 ∧ (foldB wd (L.take k)).b.frm = key wd (L[i]'(by omega)) := by
  have hlen := grp_len L i k hk
  obtain ⟨t, ht⟩ : ∃ t, grp L i k = L[i]'(by omega) :: t := by
    have h0 := grp_at L i k 0 hk (by omega)
    cases hg : grp L i k with
    | nil => rw [hg] at hlen; simp at hlen; omega
    | cons y t =>
      refine ⟨t, ?_⟩
      have : (grp L i k)[0]'(by omega) = y := by simp [hg]
      rw [h0] at this
      rw [← this]; rfl
  have hgk : ∀ m ∈ grp L i k, key wd m = key wd (L[i]'(by omega)) := by
    intro m hm
    obtain ⟨j, hj, rfl⟩ := List.getElem_of_mem hm
    rw [hlen] at hj
    rw [grp_at L i k j hk hj]
    exact hkey (i + j) (by omega) (by omega)
  have hsnd := (sound_fold wd (L.take i) (fun m hm => hL m (List.mem_of_mem_take hm))).1
  have e1 : foldB wd (L.take k) = (grp L i k).foldl (stepB wd) (foldB wd (L.take i)) := by
    rw [take_grp L i k (by omega)]; unfold foldB; rw [List.foldl_append]
  have e2 : stepB wd (foldB wd (L.take i)) (L[i]'(by omega)) = ⟨barsF wd (L.take i), gb (key wd (L[i]'(by omega))) (L[i]'(by omega)) [L[i]'(by omega)], wos [L[i]'(by omega)]⟩ := by
    unfold stepB barsF
    by_cases hz : (foldB wd (L.take i)).b.trd = 0
    · rw [if_pos (Or.inl hz), if_neg (by omega), hsnd.zero hz]
      congr 1
      rw [← gb_one]
      unfold addF firstF
      rw [if_pos hz, if_pos (show Bar.zero.trd = 0 from rfl)]
      rfl
    · have hq : (foldB wd (L.take i)).b.frm ≠ key wd (L[i]'(by omega)) := by
        rcases hbd with h | h
        · exact absurd h hz
        · exact h (by omega)
      rw [if_neg (by intro h; rcases h with h | h; exact hz h; exact hq h), if_pos (by have := hsnd.t0; omega)]
      congr 1
      all_goals first | exact gb_one _ _ | simp [wos]
  have e3 : foldB wd (L.take k) = ⟨barsF wd (L.take i), gb (key wd (L[i]'(by omega))) (L[i]'(by omega)) (grp L i k), wos (grp L i k)⟩ := by
    rw [e1, ht, List.foldl_cons, e2, fold_group wd _ _ _ t _ _ (by simp) (fun m hm => hgk m (by rw [ht]; exact List.mem_cons_of_mem _ hm))]
    congr 1
    have : ∀ (t : List Msg) (a : Nat), t.foldl (fun x m => x + wo m) a = a + t.foldl (fun x m => x + wo m) 0 := by
      intro t
      induction t with
      | nil => intro a; rfl
      | cons y t ih => intro a; rw [List.foldl_cons, List.foldl_cons, ih (a + wo y), ih (0 + wo y)]; omega
    unfold wos
    rw [List.foldl_cons, List.foldl_cons, List.foldl_nil, this t (0 + _)]
  have htrd : (foldB wd (L.take k)).b.trd = ((k - i : Nat) : Int) := by
    rw [e3]; show ((grp L i k).length : Int) = _; rw [hlen]
  refine ⟨?_, by rw [htrd]; omega, by rw [e3]; rfl⟩
  unfold barsF
  rw [if_pos (by rw [htrd]; omega), e3]
  dsimp only
  have hd := done_group (key wd (L[i]'(by omega))) (L[i]'(by omega)) (grp L i k) (k - i - 1) (by rw [hlen]; omega) (fun m hm => hL m (List.mem_of_mem_drop (List.mem_of_mem_take hm)))
  rw [grp_at L i k (k - i - 1) hk (by omega)] at hd
  rw [hd]
  unfold barsF
  congr 3
  all_goals (congr 1; omega)
end Go.Proofs.Ytogjgpiddjmpiaa.Tape

/- tape.Whole: the bar of all that counts. -/
namespace Go.Proofs.Ytogjgpiddjmpiaa.Tape
set_option linter.unusedVariables false
open Go.RowKit Go.Shelf Go.Proofs.Ytogjgpiddjmpiaa.Kit Go.Proofs.Ytogjgpiddjmpiaa.Blk Go.Proofs.Ytogjgpiddjmpiaa.Msgs Go.Proofs.Ytogjgpiddjmpiaa.Iter
attribute [local go_sem] Oper.semAt_some wide_fn

/-- The maker behind some trades. -/
def wb : List Msg → Bar
  | [] => Bar.zero
  | m :: l => gb m.tick m (m :: l)
theorem wb_trd (l : List Msg) : (wb l).trd = (l.length : Int) := by cases l <;> rfl
theorem wb_snoc (l : List Msg) (m : Msg) : addF (wb l) (if 0 < (wb l).trd then (wb l).frm else m.tick) m = wb (l ++ [m]) := by
  cases l with
  | nil =>
    rw [if_neg (by rw [wb_trd]; simp)]
    exact gb_one _ _
  | cons m0 t =>
    rw [if_pos (by rw [wb_trd]; simp)]
    exact gb_snoc m0.tick m0 (m0 :: t) m (by simp)
theorem sound_wb (l : List Msg) (hl : ∀ m ∈ l, Good m) : Sound (wb l) (wos l) l.length := by
  revert hl
  refine rev_ind (p := fun l => (∀ m ∈ l, Good m) → Sound (wb l) (wos l) l.length) ?_ ?_ l
  · exact fun _ => sound_zero 0
  · intro l m ih hl
    have h := sound_add (ih (fun x hx => hl x (List.mem_append_left _ hx))) (if 0 < (wb l).trd then (wb l).frm else m.tick) (hl m (List.mem_append_right _ List.mem_cons_self))
    rw [wb_snoc] at h
    rw [wos_snoc, List.length_append]
    exact h
def wholeF (l : List Msg) : Bar := if l = [] then Bar.zero else doneF (wb l) (wos l)
def isAny (l : List Msg) : Bool := !l.isEmpty
structure WKept (N K : Nat) (w : World) (l : List Msg) (W : World) : Prop where
  res : Blk W N Bar.zero.cells 53
  maker : Blk W K (mk (wb l) (wos l)) 146
  bel : Below N w W
  top : N ≤ w.heap.size
theorem WKept.le {N K : Nat} {w : World} {l : List Msg} {W : World} (h : WKept N K w l W) : N ≤ W.heap.size := Nat.le_trans h.top h.bel.size
theorem wkept_own {N K : Nat} {w : World} {β : Type} (f : β → List Msg) {B : Nat} (hN : N ≤ B) : OwnFrom B (fun x W => WKept N K w (f x) W) := by
  intro x W W' row hs hg hr
  have hr' : ∀ r, row = some r → ∃ o : Obj, W.heap[r]? = some o ∧ o.isCells = false := fun r e => (hr r e).2
  exact ⟨(grownBy_keeps_cells hg hr' hs.res rfl).trans hs.res, (grownBy_keeps_cells hg hr' hs.maker rfl).trans hs.maker, ownFrom_below (w₀ := w) hs.top hN x W W' row hs.bel hg hr, hs.top⟩
theorem WKept.below {N K : Nat} {w : World} {l : List Msg} {W W' : World} (h : WKept N K w l W) (hb : Below W.heap.size W W') : WKept N K w l W' :=
  ⟨h.res.below hb h.res.lt, h.maker.below hb h.maker.lt, h.bel.trans (hb.mono h.le), h.top⟩
theorem wkept_chg {N K : Nat} {w : World} {l l' : List Msg} {W W' : World} (h : WKept N K w l W) (hK : Blk W' K (mk (wb l') (wos l')) 146) (hc : Chg W.heap.size K W W') (hNK : N < K) : WKept N K w l' W' :=
  ⟨hc.blk h.res.lt (by omega) h.res, hK, h.bel.trans (hc.below' (by omega) h.le), h.top⟩
/-- What Whole returns. -/
def WholeIs (l : List Msg) (w : World) (e : Ending) (w' : World) : Prop := e = .returned (.tuple #[.agg (wholeF l).cells, .bool (isAny l)]) ∧ Below w.heap.size w w'
theorem results_blk_tmp' {P : Program} {fn : Func} {p u : Tmp} {ty T : TypeId} {tmps : Array Value} {w : World} {B : Nat} {cs : Array Value} {d : TypeDesc} (hb : Blk w B cs T) (h : fn.results = #[.cell p ty, .tmp u]) (hp : tmps.getD p undef = .pointer (some ⟨B, 0, none⟩))
    (hu : P.underlying ty = some d) (hd : d.isRow = true) (hi : (P.info? ty).map (·.size) = some cs.size) : (results fn tmps).run P w = .ok (.tuple #[.agg cs, tmps.getD u undef]) w := by
  have hp' : tmps[p]?.getD undef = .pointer (some ⟨B, 0, none⟩) := by simpa using hp
  have hl := run_loadVar_mid w B 0 ty cs.toList d hb.range hu hd (by simpa using hi)
  simp [results, h, hp', asAddr, hl]

theorem keeps_sets {B : Nat} (vs : List Value) : ∀ (o : Nat) (W : World), KeepsOthers W (W.setCells B o vs) := by
  induction vs with
  | nil => intro o W; exact KeepsOthers.refl _
  | cons v vs ih => intro o W; exact (KeepsOthers.setCell W ⟨B, o, none⟩ v).trans (ih (o + 1) _)
theorem blk_put {W : World} {B D : Nat} {cs : Array Value} {T : TypeId} (h : Blk W B cs T) (hK : W.heap[D]? = some (.deferred (some []))) : Blk (W.putObj D (.deferred none)) B cs T := by
  have hne : B ≠ D := fun e => by subst e; rw [show W.heap[B]? = _ from h] at hK; cases hK
  exact (World.putObj_heap_other hne).trans h

set_option maxRecDepth 100000 in
set_option maxHeartbeats 4000000 in
theorem whole_any (a : Option Addr) (cap : Nat) (ms : List Msg) (sym : Int) (w : World) (hm : MsgRow w a ms) (hl : ms.length ≤ 1000) (hfit : ∀ m ∈ ms, m.tick ≤ 9223372036854775807) :
    Calls Try.prog 27 #[.slice a ms.length cap, .int .i64 sym] w fun e w' => WholeIs ((cnt sym ms).map Subtype.val) w e w' := by
  refine of_wide (n := 9) ?_
  refine callsIn_of_wp_marks Try.func27 rfl trivial ?_ rfl
  simp only [Try.ntmps27, List.size_toArray, List.length_cons, List.length_nil, Nat.reduceAdd, Nat.reduceSub, Array.replicate_succ, Array.replicate_zero, List.push_toArray, List.append_toArray, List.nil_append, List.cons_append]
  have hO1 := Blk.new w Bar.zero.cells 53 w.heap.size rfl
  have hWs : (w.alloc (.cells Bar.zero.cells 53)).heap.size = w.heap.size + 1 := by simp
  have HR := Lib.hid (hO1.old (.cells mkZero 146))
  have HL := Lib.hid (((Below.refl w.heap.size w).alloc (Nat.le_refl _) (.cells Bar.zero.cells 53)).alloc (by simp) (.cells mkZero 146))
  have HK := Lib.hid (Blk.new (w.alloc (.cells Bar.zero.cells 53)) mkZero 146 (w.heap.size + 1) hWs)
  have hX : ((w.alloc (.cells Bar.zero.cells 53)).alloc (.cells mkZero 146)).heap.size = w.heap.size + 1 + 1 := by simp
  have HM := Lib.hid (hm.all HL.out)
  have HMB := Lib.hid (msg_old hm)
  clear hO1 hWs hm
  gi_wp2_with fail
  change CallsIn _ _ _ _ _ ((w.alloc (.cells Bar.zero.cells 53)).alloc (.cells mkZero 146)) _
  generalize (w.alloc (.cells Bar.zero.cells 53)).alloc (.cells mkZero 146) = X at HR HL HK HM hX ⊢
  generalize hKK : w.heap.size + 1 = K at HK hX ⊢
  have HKK := Lib.hid hKK
  have HX := Lib.hid hX
  refine (to_wide (counts_any _ a ms.length cap sym X rfl (K + 1) hX)).mono ?_
  clear hX hKK
  rintro e w2 ⟨rfl, rfl⟩
  gi_wp2_with fail
  have HXs := Lib.hid (Blk.new X #[.slice a ms.length cap] 45 (K + 1) HX.out)
  replace HXs := Lib.hid (HXs.out.old (.cells #[.int .i64 sym] 3))
  have HXy := Lib.hid (Blk.new (X.alloc (.cells #[.slice a ms.length cap] 45)) #[.int .i64 sym] 3 (K + 1 + 1) (by rw [World.size_alloc, HX.out]))
  have HZs := Lib.hid (show ((X.alloc (.cells #[.slice a ms.length cap] 45)).alloc (.cells #[.int .i64 sym] 3)).heap.size = K + 3 by rw [World.size_alloc, World.size_alloc, HX.out])
  have hbz : Below X.heap.size X ((X.alloc (.cells #[.slice a ms.length cap] 45)).alloc (.cells #[.int .i64 sym] 3)) := ((Below.refl _ _).alloc (Nat.le_refl _) _).alloc (by simp) _
  replace HR := Lib.hid (HR.out.below hbz HR.out.lt)
  replace HK := Lib.hid (HK.out.below hbz HK.out.lt)
  replace HL := Lib.hid (HL.out.trans (hbz.mono HL.out.size))
  replace HM := Lib.hid (HM.out.all hbz)
  clear hbz
  generalize (X.alloc (.cells #[.slice a ms.length cap] 45)).alloc (.cells #[.int .i64 sym] 3) = Z at HR HK HL HM HXs HXy HZs ⊢
  clear HX
  refine wpIn_rangeFunc_ownH (w0 := Z) rfl (by decide) (gf := 113) (lb := #[.pointer (some ⟨K + 1, 0, none⟩), .pointer (some ⟨K + 1 + 1, 0, none⟩)]) rfl trivial (enters_of Try.func113 (by kernel_rfl) rfl)
    (counts_stops 8 (by decide) sym a cap ms hl hfit (K + 1) (K + 1 + 1) (SB w.heap.size K) (fun b off ha hn => Or.inl (HMB.out b off ha hn)) (by simp [SB]) Z (fun b hb => by have := HZs.out; have := HKK.out; unfold SB at hb; omega) HXs.out HXy.out HM.out) kz_t (kz_b (fun b hb => by have := HZs.out; have := HKK.out; unfold SB at hb; omega)) (Below.refl _ _) (fun _ => rfl)
    (fun (pre : List TM) W => WKept w.heap.size K w (pre.map Subtype.val) W ∧ KZ (SB w.heap.size K) Z W)
    (fun _ _ _ => False)
    (OwnFrom.and (wkept_own _ HL.out.size) (kz_own (Nat.le_refl _) (fun b hb => by have := HZs.out; have := HKK.out; unfold SB at hb; omega)))
    (fun c s W W' row hs _ _ => hs)
    ⟨⟨HR.out, (by have h := HK.out; rw [mk_zero] at h; exact h), HL.out, Nat.le_refl _⟩, kz_refl _ _⟩
    (fun x a' W => ∃ Bx, Z.heap.size ≤ Bx ∧ Blk W Bx x.1.cells 66 ∧ a' = { tmps := #[.slice a ms.length cap, .int .i64 sym, undef, undef, .pointer (some ⟨w.heap.size, 0, none⟩), .bool false, .pointer (some ⟨K, 0, none⟩), .pointer (some ⟨Bx, 0, none⟩), undef,
      .slice a ms.length cap, .int .i64 sym, .func (.func 113) #[] #[.pointer (some ⟨K + 1, 0, none⟩), .pointer (some ⟨K + 1 + 1, 0, none⟩)], .agg x.1.cells, undef, undef, undef, undef, undef, undef, undef, undef, undef, undef, undef, undef, undef, undef, undef, undef, undef, undef], defers := [] })
    (fun x a' s W W' row hs hg hr => by obtain ⟨Bx, h1, h2, h3⟩ := hs; exact ⟨Bx, h1, (grownBy_keeps_cells hg (fun r e => (hr r e).2) h2 rfl).trans h2, h3⟩) ?assign ?body ?done ?stop
  case assign =>
    rintro l pre x W K' ⟨hi, hz⟩ hK'
    have HZ := Lib.hid (Blk.new W msgZero 66 W.heap.size rfl)
    have HFIN := Lib.hid (hK' _ _ ((KeepsOthers.alloc W (.cells x.1.cells 66)).from _) (kz_below ((Below.refl W.heap.size W).alloc (Nat.le_refl _) (.cells x.1.cells 66)) (fun b hb => by have := HZs.out; have := HKK.out; have := hz.2; unfold SB at hb; omega))
      ⟨hi.below ((Below.refl W.heap.size W).alloc (Nat.le_refl _) (.cells x.1.cells 66)), kz_t hz (kz_below ((Below.refl W.heap.size W).alloc (Nat.le_refl _) (.cells x.1.cells 66)) (fun b hb => by have := HZs.out; have := HKK.out; have := hz.2; unfold SB at hb; omega))⟩
      ⟨W.heap.size, hz.2, Blk.new W x.1.cells 66 W.heap.size rfl, rfl⟩)
    clear hK' hi hz
    gi_wp2_with (refine storeR_blk l (by rfl) 66 _ _ (by rfl) W.heap.size (by rfl) msgZero x.1.cells 66 HZ.out (by rfl) (by rfl) (by kernel_rfl) (one_msg _) ?_; change wpListIn _ _ _ _ _ _ _ (World.setCells (W.alloc (.cells msgZero 66)) W.heap.size 0 x.1.cells.toList); rw [alloc_setCells W msgZero x.1.cells 66 rfl W.heap.size rfl])
    exact HFIN.out
  case body =>
    rintro l pre x a' W hWl ⟨r, hr⟩ ⟨hkept, hkz⟩ ⟨Bx, hBx, bX, rfl⟩ hlen
    obtain ⟨m, hg⟩ := x
    have hn : pre.length ≤ 999 := by have := cnt_len sym ms; omega
    have hsnd := sound_wb (pre.map Subtype.val) (fun m hm => by obtain ⟨y, _, rfl⟩ := List.mem_map.1 hm; exact y.2)
    rw [List.length_map] at hsnd
    have HST0 := Lib.hid (wb_snoc (pre.map Subtype.val) m)
    have HWO0 := Lib.hid (wos_snoc (pre.map Subtype.val) m)
    have hsm := sound_small hsnd (by omega)
    have ht0 := hsnd.t0
    have hv0 := hsnd.v0
    obtain ⟨ht1, hv1, hx1⟩ := hsm
    have HKP := Lib.hid hkept
    have HMK0 := Lib.hid hkept.maker
    have HKZ := Lib.hid hkz
    have HBX := Lib.hid bX
    have HR := Lib.hid hr
    clear hkept hkz bX hr hlen hsnd
    have HL1 := Lib.hid (show (pre.map Subtype.val) ++ [m] = (pre ++ [(⟨m, hg⟩ : TM)]).map Subtype.val by simp)
    have HMK := HMK0
    have HST := HST0
    have HWO := HWO0
    generalize hbb : wb (pre.map Subtype.val) = b at HMK HST ht0 ht1 hv0 hv1
    generalize hxx : wos (pre.map Subtype.val) = x at HMK HWO hx1
    clear hbb hxx HMK0 HST0 HWO0
    have c3 : W.cell? ⟨Bx, 3, none⟩ = some (.int .i64 m.tick) := HBX.out.cell 3 rfl
    have k6 : W.cell? ⟨K, 6, none⟩ = some (.int .i64 b.trd) := HMK.out.cell 6 rfl
    have k0 : W.cell? ⟨K, 0, none⟩ = some (.int .i64 b.frm) := HMK.out.cell 0 rfl
    by_cases hz : 0 < b.trd
    · rw [if_pos hz] at HST
      generalize hff : b.frm = f at HST k0
      clear hff
      have HADD := Lib.hid (fun w (h : Blk w K (mk b x) 146) => add_any K b x f m w h hg ht0 ht1 hv0 hv1 hx1)
      gi_wp2_with (refine loadR_blk l (by rfl) 66 _ (by rfl) Bx (by rfl) m.cells 66 HBX.out _ Try.underlying66 rfl (by kernel_rfl) ?_)
      refine (CallsIn.inRound l (to_wide (HADD.out _ HMK.out))).mono ?_
      rintro e w2 ⟨rfl, hk2, hc2⟩
      rw [HST.out, ← HWO.out] at hk2
      have HEND := Lib.hid (wkept_chg HKP.out hk2 hc2 (by have := HKK.out; omega))
      have HZ2 := Lib.hid (kz_chg (S := SB w.heap.size K) hc2 (fun b hb => ⟨Nat.lt_of_lt_of_le (by have := HZs.out; have := HKK.out; unfold SB at hb; omega) HKZ.out.2, by have := HKK.out; unfold SB at hb; omega⟩))
      have HF2 := Lib.hid (kf_chg (B := Z.heap.size) hc2 (by have := HZs.out; omega))
      clear hk2 hc2
      gi_wp2
      exact ⟨HF2.out, HZ2.out, by rw [List.map_append]; exact HEND.out, kz_t HKZ.out HZ2.out⟩
    · rw [if_neg hz] at HST
      generalize hff : m.tick = f at HST c3
      clear hff
      have HADD := Lib.hid (fun w (h : Blk w K (mk b x) 146) => add_any K b x f m w h hg ht0 ht1 hv0 hv1 hx1)
      gi_wp2_with (refine loadR_blk l (by rfl) 66 _ (by rfl) Bx (by rfl) m.cells 66 HBX.out _ Try.underlying66 rfl (by kernel_rfl) ?_)
      refine (CallsIn.inRound l (to_wide (HADD.out _ HMK.out))).mono ?_
      rintro e w2 ⟨rfl, hk2, hc2⟩
      rw [HST.out, ← HWO.out] at hk2
      have HEND := Lib.hid (wkept_chg HKP.out hk2 hc2 (by have := HKK.out; omega))
      have HZ2 := Lib.hid (kz_chg (S := SB w.heap.size K) hc2 (fun b hb => ⟨Nat.lt_of_lt_of_le (by have := HZs.out; have := HKK.out; unfold SB at hb; omega) HKZ.out.2, by have := HKK.out; unfold SB at hb; omega⟩))
      have HF2 := Lib.hid (kf_chg (B := Z.heap.size) hc2 (by have := HZs.out; omega))
      clear hk2 hc2
      gi_wp2
      exact ⟨HF2.out, HZ2.out, by rw [List.map_append]; exact HEND.out, kz_t HKZ.out HZ2.out⟩
  case done =>
    rintro D xs W hD rfl ⟨hkept, hkz⟩ hKd
    have hgd : ∀ m ∈ (cnt sym ms).map Subtype.val, Good m := fun m hm => by obtain ⟨y, _, rfl⟩ := List.mem_map.1 hm; exact y.2
    have hn : ((cnt sym ms).map Subtype.val).length ≤ 1000 := by rw [List.length_map]; have := cnt_len sym ms; omega
    generalize hLL : (cnt sym ms).map Subtype.val = L at hkept hgd hn
    have HLL := Lib.hid hLL
    clear hLL
    have hsnd := sound_wb L hgd
    have htr := wb_trd L
    have HRES := Lib.hid hkept.res
    have HMK := Lib.hid hkept.maker
    have HB := Lib.hid hkept.bel
    have HKD := Lib.hid hKd
    have HD := Lib.hid hD
    clear hkept hkz hKd hD hgd
    have HWB := Lib.hid (show wholeF L = if L = [] then Bar.zero else doneF (wb L) (wos L) from rfl)
    by_cases hz : L = []
    · have HI := Lib.hid (show isAny L = false by rw [hz]; rfl)
      have ht : (wb L).trd = 0 := by rw [htr, hz]; rfl
      replace HWB := Lib.hid (HWB.out.trans (if_pos hz))
      clear hz htr hsnd
      generalize wb L = b at HMK ht
      generalize wos L = x at HMK
      have k6 : W.cell? ⟨K, 6, none⟩ = some (.int .i64 b.trd) := HMK.out.cell 6 rfl
      have HR2 := Lib.hid (HRES.out.setCells Bar.zero.cells rfl)
      have HB2 := Lib.hid (Blk.Below.setCells (B := w.heap.size) Bar.zero.cells.toList 0 _ HB.out (Nat.le_refl _))
      have HKD2 := Lib.hid ((keeps_sets (B := w.heap.size) Bar.zero.cells.toList 0 W).same D _ HKD.out rfl)
      gi_wp2_with (refine storeW_blk trivial (by rfl) 53 _ _ (by rfl) w.heap.size (by rfl) Bar.zero.cells Bar.zero.cells 53 HRES.out (by rfl) (by rfl) (by kernel_rfl) (one_bar _) ?_)
      refine ⟨by simp, .inl ⟨_, _, rfl, run_takeDeferred HKD2.out, ?_⟩⟩
      refine ⟨_, results_blk_tmp' (blk_put HR2.out HKD2.out) rfl rfl Try.underlying53 rfl (by kernel_rfl), ?_⟩
      exact ⟨by rw [HLL.out, HWB.out, HI.out]; rfl, HB2.out.trans (belowK_b (w := w) (Nat.le_refl _) _ D _ _ (by have := HD.out; have := HZs.out; have := HKK.out; omega) HKD2.out rfl rfl)⟩
    · have HI := Lib.hid (show isAny L = true by cases L; exact absurd rfl hz; rfl)
      have ht : (wb L).trd ≠ 0 := by rw [htr]; cases L; exact absurd rfl hz; simp; omega
      replace HWB := Lib.hid (HWB.out.trans (if_neg hz))
      have hme := sound_mean hsnd ht hn
      have HDONE := Lib.hid (show ∀ w, Blk w K (mk (wb L) (wos L)) 146 → Calls Try.prog 73 #[.pointer (some ⟨K, 0, none⟩)] w fun e w' => e = .returned (.agg (doneF (wb L) (wos L)).cells) ∧ Blk w' K (mk (doneF (wb L) (wos L)) (wos L)) 146 ∧ Chg w.heap.size K w w' from
        fun w h => done_any K (wb L) (wos L) (wb L).vol.toNat w h hme.1 hme.2.1 hme.2.2.1 hme.2.2.2.1 hme.2.2.2.2)
      clear hz htr hsnd hme
      generalize doneF (wb L) (wos L) = d at HDONE HWB
      generalize wos L = x at HMK HDONE
      generalize wb L = b at HMK ht HDONE
      have b1 : (b.trd == 0) = false := by simpa using ht
      have hDK : ¬ D = K := fun e => by
        have h1 := HKD.out
        rw [e, show W.heap[K]? = _ from HMK.out] at h1
        cases h1
      have hDl : D < W.heap.size := (Array.getElem?_eq_some_iff.1 HKD.out).1
      have k6 : W.cell? ⟨K, 6, none⟩ = some (.int .i64 b.trd) := HMK.out.cell 6 rfl
      clear ht
      gi_wp2_with fail
      refine (to_wide (HDONE.out _ HMK.out)).mono ?_
      rintro e w3 ⟨rfl, hk3, hc3⟩
      have HRES3 := Lib.hid (hc3.blk HRES.out.lt (by have := HKK.out; omega) HRES.out)
      have HKD3 := Lib.hid ((hc3.block D hDl hDK).trans HKD.out)
      have HB3 := Lib.hid (HB.out.trans (hc3.below' (by have := HKK.out; omega) HB.out.size))
      clear hk3 hc3 k6
      have HR2 := Lib.hid (HRES3.out.setCells d.cells rfl)
      have HB2 := Lib.hid (Blk.Below.setCells (B := w.heap.size) d.cells.toList 0 _ HB3.out (Nat.le_refl _))
      have HKD2 := Lib.hid ((keeps_sets (B := w.heap.size) d.cells.toList 0 w3).same D _ HKD3.out rfl)
      gi_wp2_with (refine storeW_blk trivial (by rfl) 53 _ _ (by rfl) w.heap.size (by rfl) Bar.zero.cells d.cells 53 HRES3.out (by rfl) (by rfl) (by kernel_rfl) (one_bar _) ?_)
      refine ⟨by simp, .inl ⟨_, _, rfl, run_takeDeferred HKD2.out, ?_⟩⟩
      refine ⟨_, results_blk_tmp' (blk_put HR2.out HKD2.out) rfl rfl Try.underlying53 rfl (by kernel_rfl), ?_⟩
      exact ⟨by rw [HLL.out, HWB.out, HI.out]; rfl, HB2.out.trans (belowK_b (w := w) (Nat.le_refl _) _ D _ _ (by have := HD.out; have := HZs.out; have := HKK.out; omega) HKD2.out rfl rfl)⟩
  case stop =>
    rintro D c pre W hD hpre h
    exact h.elim
end Go.Proofs.Ytogjgpiddjmpiaa.Tape

/- slices.Collect, of a map of levels' values. -/
namespace Go.Proofs.Ytogjgpiddjmpiaa.Depth
set_option linter.unusedVariables false
open Go.RowKit Go.Shelf Go.Proofs.Ytogjgpiddjmpiaa.Kit Go.Proofs.Ytogjgpiddjmpiaa.Blk Go.Proofs.Ytogjgpiddjmpiaa.Mp Go.Proofs.Ytogjgpiddjmpiaa.Iter Go.Proofs.Ytogjgpiddjmpiaa.Octets
attribute [local go_sem] Oper.semAt_some wide_fn

def rowsL (l : List Lvl) : List Value := l.flatMap fun x => x.cells.toList
theorem rowsL_app (l : List Lvl) (x : Lvl) : rowsL (l ++ [x]) = rowsL l ++ x.cells.toList := by simp [rowsL]
theorem infoLvl : (Try.prog.info? 90).map (fun i => (i.zero, i.size, i.bytes)) = some (some (.agg lvlZ), 3, 24) := by kernel_rfl
/-- What is collected: its variable in block Bs. -/
def CK (Bs : Nat) (w : World) (pre : List Lvl) (W : World) : Prop :=
  ∃ v, Blk W Bs #[v] 79 ∧ W.ownsRow w.heap.size 90 3 v pre.length (rowsL pre) ∧ Below w.heap.size w W
theorem ck_own {Bs : Nat} {w : World} {B : Nat} (hB : w.heap.size ≤ B) : OwnFrom B (fun pre W => CK Bs w pre W) := by
  rintro pre W W' row ⟨v, h1, h2, h3⟩ hg hr
  refine ⟨v, (grownBy_keeps_cells hg (fun r e => (hr r e).2) h1 rfl).trans h1, h2.kept hg ?_, ownFrom_below (w₀ := w) (Nat.le_refl _) hB pre W W' row h3 hg hr⟩
  cases hv : v.ownBlock with
  | none => exact .inl rfl
  | some j =>
    right
    intro e
    obtain ⟨_, cur, hc⟩ := row_from' h2 hv
    obtain ⟨_, o, h4, h5⟩ := hr j e.symm
    rw [h4] at hc; cases hc; cases h5
theorem ck_below {Bs : Nat} {w W W' : World} {pre : List Lvl} (h : CK Bs w pre W) (hb : Below W.heap.size W W') : CK Bs w pre W' := by
  obtain ⟨v, h1, h2, h3⟩ := h
  exact ⟨v, h1.below hb h1.lt, h2.kept (row := none) ⟨hb.os, hb.tape, hb.output, hb.size, fun k hk _ => hb.block k hk⟩ (by cases v.ownBlock; exact .inl rfl; exact .inr (by simp)), h3.trans (hb.mono h3.size)⟩
theorem kw_below {N : Nat} {Z W W' : World} (h : KW (fun b => b < N) Z W) (hN : N ≤ W.heap.size) (hb : Below N W W') (hk : KeepsWalks W W') : KW (fun b => b < N) Z W' :=
  kw_t h ⟨kz_below hb (fun _ h => h), hk⟩

/-- What is collected. -/
def CollIs (P : List Lvl → Prop) (w : World) (e : Ending) (w' : World) : Prop := ∃ ys v, P ys ∧ e = .returned v ∧ w'.ownsRow w.heap.size 90 3 v ys.length (rowsL ys) ∧ Below w.heap.size w w'

set_option maxRecDepth 100000 in
set_option maxHeartbeats 4000000 in
theorem append_any (A : List (Int × Lvl)) (hl : A.length ≤ 1000) (Bm b : Nat) (w : World) (hBm : Blk w Bm #[.map (some b)] 174) (hM : MapIs w b k64 lv A) :
    Calls Try.prog 194 #[.slice none 0 0, .func (.func 160) #[] #[.pointer (some ⟨Bm, 0, none⟩)]] w (CollIs (fun ys => ys.Perm (A.map (·.2))) w) := by
  refine of_wide (n := 9) ?_
  refine callsIn_of_wp_marks Try.func194 rfl trivial ?_ rfl
  simp only [Try.ntmps194, List.size_toArray, List.length_cons, List.length_nil, Nat.reduceAdd, Nat.reduceSub, Array.replicate_succ, Array.replicate_zero, List.push_toArray, List.append_toArray, List.nil_append, List.cons_append]
  obtain ⟨i0, hi0, hz0, hz1, hz2⟩ := info_parts infoLvl
  have hbz : Below w.heap.size w (w.alloc (.cells #[.slice none 0 0] 79)) := (Below.refl _ _).alloc (Nat.le_refl _) _
  have HCK := Lib.hid (show CK w.heap.size w [] (w.alloc (.cells #[.slice none 0 0] 79)) from ⟨_, Blk.new _ _ _ _ rfl, World.ownsRow_nil _ _ _ _, hbz⟩)
  have HBM := Lib.hid (hBm.below hbz hBm.lt)
  have HMM := Lib.hid (hM.below hbz hM.lt)
  have HBL := Lib.hid hM.lt
  have HZs := Lib.hid (show (w.alloc (.cells #[.slice none 0 0] 79)).heap.size = w.heap.size + 1 by simp)
  clear hbz hBm hM
  gi_wp2_with fail
  generalize w.alloc (.cells #[.slice none 0 0] 79) = Z at HCK HBM HMM HZs ⊢
  refine wpIn_rangeFunc_ownH (w0 := Z) rfl (by decide) (gf := 160) (lb := #[.pointer (some ⟨Bm, 0, none⟩)]) rfl trivial (enters_of Try.func160 (by kernel_rfl) rfl)
    (values_stops 8 (by decide) A Bm b (fun c => c < w.heap.size) HBL.out Z (fun c hc => by have := HZs.out; omega) HBM.out HMM.out) kw_t (kw_b (fun c hc => by have := HZs.out; omega)) (Below.refl _ _) (fun _ => rfl)
    (fun (pre : List Lvl) W => CK w.heap.size w pre W ∧ KW (fun c => c < w.heap.size) Z W)
    (fun _ _ _ => False)
    (OwnFrom.and (ck_own (by have := HZs.out; omega)) ?kwown)
    (fun c s W W' row hs _ _ => hs)
    ⟨HCK.out, kw_refl _ _⟩
    (fun x a' W => ∃ Bx, Z.heap.size ≤ Bx ∧ Blk W Bx x.cells 90 ∧ a' = { tmps := #[.slice none 0 0, .func (.func 160) #[] #[.pointer (some ⟨Bm, 0, none⟩)], .pointer (some ⟨w.heap.size, 0, none⟩), undef, .slice none 0 0, .pointer (some ⟨Bx, 0, none⟩), .func (.func 160) #[] #[.pointer (some ⟨Bm, 0, none⟩)], .agg x.cells, undef, undef, undef, undef, undef], defers := [] })
    (fun x a' s W W' row hs hg hr => by obtain ⟨Bx, h1, h2, h3⟩ := hs; exact ⟨Bx, h1, (grownBy_keeps_cells hg (fun r e => (hr r e).2) h2 rfl).trans h2, h3⟩) ?assign ?body ?done ?stop
  case kwown =>
    intro s W W' row hs hg hr
    have hb : ∀ k, k < Z.heap.size → W'.heap[k]? = W.heap[k]? := fun k hk => hg.block k (Nat.lt_of_lt_of_le hk hs.1.2) (fun e => by have := (hr k e.symm).1; omega)
    exact ⟨⟨fun c hc => (hb c (by have := HZs.out; omega)).trans (hs.1.1 c hc), Nat.le_trans hs.1.2 hg.size⟩, Nat.le_trans hs.2.size hg.size, fun k o hk ho => (hb k (Array.getElem?_eq_some_iff.1 hk).1).trans (hs.2.same k o hk ho)⟩
  case assign =>
    rintro l pre ⟨x, y, z⟩ W K' ⟨hi, hz⟩ hK'
    have HAL := Lib.hid ((Below.refl W.heap.size W).alloc (Nat.le_refl _) (.cells #[.int .i64 x, .int .i64 y, .int .i64 z] 90))
    have HFIN := Lib.hid (hK' _ (W.alloc (.cells #[.int .i64 x, .int .i64 y, .int .i64 z] 90)) ((KeepsOthers.alloc W _).from _) ⟨kz_below HAL.out (fun c hc => by have := HZs.out; have := hz.1.2; omega), (KeepsOthers.alloc W _).walks⟩
      ⟨ck_below hi HAL.out, kw_t hz ⟨kz_below HAL.out (fun c hc => by have := HZs.out; have := hz.1.2; omega), (KeepsOthers.alloc W _).walks⟩⟩
      ⟨W.heap.size, hz.1.2, Blk.new W _ 90 W.heap.size rfl, rfl⟩)
    clear hK' hi hz
    dsimp only [Lvl.cells] at *
    gi_wp2_with fail
    exact HFIN.out
  case body =>
    rintro l pre ⟨x, y, z⟩ a' W hWl ⟨r, hr⟩ ⟨hck, hkw⟩ ⟨Bx, hBx, bX, rfl⟩ hlen
    obtain ⟨v, hv1, hv2, hv3⟩ := hck
    have HV := Lib.hid hv1
    have HOW := Lib.hid hv2
    have HBL2 := Lib.hid hv3
    have HKW := Lib.hid hkw
    have HWL := Lib.hid hWl
    have cv : W.cell? ⟨w.heap.size, 0, none⟩ = some v := hv1.cell 0 rfl
    have x0 : W.cell? ⟨Bx, 0, none⟩ = some (.int .i64 x) := bX.cell 0 rfl
    have x1 : W.cell? ⟨Bx, 1, none⟩ = some (.int .i64 y) := bX.cell 1 rfl
    have x2 : W.cell? ⟨Bx, 2, none⟩ = some (.int .i64 z) := bX.cell 2 rfl
    have HNB := Lib.hid (Blk.new W #[.int .i64 x, .int .i64 y, .int .i64 z] 90 W.heap.size rfl)
    have HOW2 := Lib.hid (HOW.out.alloc (.cells #[.int .i64 x, .int .i64 y, .int .i64 z] 90))
    clear hv1 hv2 hv3 hkw hr bX
    dsimp only [Lvl.cells] at *
    gi_wp2_with (gi_at_builtin; (refine wpListIn_append_own _ rfl _ _ 79 rfl w.heap.size 90 i0 (.agg lvlZ) 3 24 Try.underlying79 hi0 hz0 hz1 hz2 rfl (by decide) v pre.length (rowsL pre) rfl HOW2.out ⟨W.heap.size, 0, none⟩ 1 1 (Lvl.cells ⟨x, y, z⟩).toList rfl rfl (Tape.news_blk HNB.out) (Tape.one_mem (one_lvl ⟨x, y, z⟩)) (by unfold maxLen; omega) (by omega) (by have := HBL2.out.size; simp; omega) ?_); intro v' w1 hown1 hgrow1 _; obtain ⟨g, cp, rfl, -, -⟩ := World.ownsRow.form hown1 (by omega); have HO1 := Lib.hid hown1; have HG1 := Lib.hid hgrow1; have HV1 := Lib.hid (blk_row' (HV.out.old (.cells #[.int .i64 x, .int .i64 y, .int .i64 z] 90)) (by decide) HOW2.out hgrow1); have cv1 : w1.cell? ⟨w.heap.size, 0, none⟩ = some v := HV1.out.cell 0 rfl; have fv1 : w1.frozen? ⟨w.heap.size, 0, none⟩ = false := HV1.out.free 0; clear hown1 hgrow1)
    have HKO := Lib.hid (show KeepsOthers W (w1.setCell ⟨w.heap.size, 0, none⟩ (.slice (some ⟨g, 0, none⟩) (pre.length + 1) cp)) from (KeepsOthers.alloc W (.cells #[.int .i64 x, .int .i64 y, .int .i64 z] 90)).trans ((KeepsOthers.of_grownBy HG1.out (fun j o hj ho => by
      obtain ⟨_, cur, hc⟩ := row_from' HOW2.out hj
      rw [ho] at hc; cases hc; rfl)).trans (KeepsOthers.setCell w1 _ _)))
    have HBL3 := Lib.hid (show Below w.heap.size W (w1.setCell ⟨w.heap.size, 0, none⟩ (.slice (some ⟨g, 0, none⟩) (pre.length + 1) cp)) from
      ((((Below.refl w.heap.size W).alloc HBL2.out.size (.cells #[.int .i64 x, .int .i64 y, .int .i64 z] 90))).grown HG1.out (by have := HBL2.out.size; simp; omega) (fun k e => (row_from' HOW2.out e).1)).setCell (Nat.le_refl _) _)
    have HCK1 := Lib.hid (show CK w.heap.size w (pre ++ [⟨x, y, z⟩]) (w1.setCell ⟨w.heap.size, 0, none⟩ (.slice (some ⟨g, 0, none⟩) (pre.length + 1) cp)) from
      ⟨_, HV1.out.set 0 _, by
        rw [rowsL_app, List.length_append]
        refine HO1.out.kept (grown_cell w1 w.heap.size 0 _) (.inr (fun e => ?_))
        obtain ⟨_, cur, hc⟩ := row_from' HO1.out e
        rw [show w1.heap[w.heap.size]? = _ from HV1.out] at hc
        injection hc with hc
        injection hc with _ hc _
        exact absurd hc (by decide), HBL2.out.trans HBL3.out⟩)
    have HKW1 := Lib.hid (show KW (fun c => c < w.heap.size) W (w1.setCell ⟨w.heap.size, 0, none⟩ (.slice (some ⟨g, 0, none⟩) (pre.length + 1) cp)) from ⟨kz_below HBL3.out (fun _ h => h), HKO.out.walks⟩)
    gi_wp2
    exact ⟨HKO.out.from _, HKW1.out, HCK1.out, kw_t HKW.out HKW1.out⟩
  case done =>
    rintro D xs W hD hxs ⟨⟨v, hv1, hv2, hv3⟩, hkw⟩ hKd
    have HXS := Lib.hid hxs
    have HOW := Lib.hid hv2
    have HBL2 := Lib.hid hv3
    have HKD := Lib.hid hKd
    have HD := Lib.hid hD
    have cv : W.cell? ⟨w.heap.size, 0, none⟩ = some v := hv1.cell 0 rfl
    clear hxs hv1 hv2 hv3 hkw hKd hD
    gi_wp2
    refine ⟨by simp, .inl ⟨_, _, rfl, run_takeDeferred HKD.out, ?_⟩⟩
    refine ⟨_, results_tmp rfl _ _ _, ?_⟩
    exact ⟨xs, v, HXS.out, rfl, ownsRow_putObj HOW.out _ HKD.out rfl, HBL2.out.trans (belowK_b (w := w) (Nat.le_refl _) W D _ _ (by have := HD.out; have := HZs.out; omega) HKD.out rfl rfl)⟩
  case stop =>
    rintro D c pre W hD hpre h
    exact h.elim
end Go.Proofs.Ytogjgpiddjmpiaa.Depth
