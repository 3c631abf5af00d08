/- Parts of the proof: Grow. -/
import Derived.Test.YtmkcooamgojbpaaDoorPart2
import Derived.Deep.AppendLies
import Derived.Laws.AppendOwnNone
import Derived.Deep.RegionHeld3

/- append(append(append([]T{}, l[:k]...), x), l[k:]...): what is known between its steps, in whatever order they come. -/
namespace Go.Proofs.YtmkcooamgojbpaaDoor.Blk
open Go.RowKit
set_option linter.unusedVariables false

/-- The walk stands still here. -/
def StopAt (p : Prop) : Prop := p
theorem stopAt {p : Prop} (h : StopAt p) : p := h
section
variable {P : Program}
theorem run_append_zero (w : World) (base : Nat) (t ty e : TypeId) (i : TypeInfo) (size : Nat) (ht : P.underlying t = some (.slice e)) (hi : P.info? e = some i) (hz : i.size = size)
    (v : Value) (n : Nat) (xs : List Value) (hown : w.ownsRow base e size v n xs) (ax : Option Addr) (c : Nat) :
    (Builtin.append_ #[t, t] ty #[v, .slice ax 0 c]).run P w = .ok v w := by
  have hf : ∀ ax, (Builtin.firstCells i.size 0 (.slice ax 0 c)).run P w = .ok #[] w := fun ax => by
    cases ax with
    | none => simp [Builtin.firstCells]
    | some a => exact run_firstCells_some (P := P) w i.size 0 a 0 c [] (by simp) (by simp)
  rcases hown.2 with ⟨rfl, rfl⟩ | ⟨g, cap, cur, rfl, _, _, hnc, _⟩
  · simp [Builtin.append_, run_underlying ht, sizeOf, typeInfo, hi, Builtin.lenOf, hf]
  · simp [Builtin.append_, run_underlying ht, sizeOf, typeInfo, hi, Builtin.lenOf, hf, hnc, storeCells]
end

/-- What is known: what lay below n0 is as it was; v: the row that grows (its value, its length, its cells); nb: a block with the new element. -/
structure GA (n0 : Nat) (T : TypeId) (s : Nat) (w : World) (W : World) (v : Option (Value × Nat × List Value)) (nb : Option (Nat × Array Value)) : Prop where
  bel : Below n0 w W
  le : n0 ≤ W.heap.size
  own : ∀ u n xs, v = some (u, n, xs) → W.ownsRow n0 T s u n xs
  nr : ∀ b cs, nb = some (b, cs) → Blk W b cs T ∧ n0 ≤ b ∧ ∀ u n xs, v = some (u, n, xs) → u.ownBlock ≠ some b
section
variable {n0 s : Nat} {T : TypeId} {w W : World} {v : Option (Value × Nat × List Value)} {nb : Option (Nat × Array Value)}
theorem GA.start (hb : Below n0 w W) (hn : n0 ≤ W.heap.size) : GA n0 T s w W none none := ⟨hb, hn, fun _ _ _ h => (by cases h), fun _ _ h => (by cases h)⟩
theorem GA.drew (h : GA n0 T s w W v nb) : GA n0 T s w W.drew v nb := ⟨h.bel.drew, h.le, fun u n xs e => (h.own u n xs e).drew, fun b cs e => h.nr b cs e⟩
theorem GA.empty (h : GA n0 T s w W none nb) : GA n0 T s w (W.alloc (.cells #[] T)) (some (.slice (some ⟨W.heap.size, 0, none⟩) 0 0, 0, [])) nb :=
  ⟨h.bel.alloc h.le _, by simp; have := h.le; omega, fun u n xs e => by
    injection e with e
    injection e with e1 e2
    injection e2 with e2 e3
    subst e1 e2 e3
    exact World.ownsRow_lit (base := n0) (size := s) W #[] 0 h.le (Nat.zero_le _) (by simp), fun b cs e => ⟨(h.nr b cs e).1.old _, (h.nr b cs e).2.1, fun u n xs e' => by
      injection e' with e'
      injection e' with e1 e2
      subst e1
      have := (h.nr b cs e).1.lt
      simp [Value.ownBlock]; omega⟩⟩
theorem GA.new (h : GA n0 T s w W v none) (cs : Array Value) : GA n0 T s w (W.alloc (.cells cs T)) v (some (W.heap.size, cs)) :=
  ⟨h.bel.alloc h.le _, by simp; have := h.le; omega, fun u n xs e => (h.own u n xs e).alloc _, fun b cs' e => by
    injection e with e
    injection e with e1 e2
    subst e1 e2
    exact ⟨Blk.new _ _ _ _ rfl, h.le, fun u n xs e' he => by have := ((h.own u n xs e').lt _ he).2; omega⟩⟩
/-- Behind a growth of the row. -/
theorem GA.grown {u u' : Value} {n n' : Nat} {xs xs' : List Value} {W' : World} {g : Nat} (h : GA n0 T s w W (some (u, n, xs)) nb) (hown : W'.ownsRow n0 T s u' n' xs') (hg : W.grownBy W' u.ownBlock)
    (hu : u'.ownBlock = some g) (hat : u.ownBlock = some g ∨ g = W.heap.size) : GA n0 T s w W' (some (u', n', xs')) nb := by
  have ho := h.own _ _ _ rfl
  refine ⟨h.bel.grown hg h.le (fun k e => (ho.lt k e).1), Nat.le_trans h.le hg.size, fun a b c e => ?_, fun b cs e => ?_⟩
  · injection e with e
    injection e with e1 e2
    injection e2 with e2 e3
    subst e1 e2 e3
    exact hown
  · obtain ⟨h1, h2, h3⟩ := h.nr b cs e
    refine ⟨(hg.block b h1.lt (fun e' => h3 _ _ _ rfl e'.symm)).trans h1, h2, fun a b' c e' => ?_⟩
    injection e' with e'
    injection e' with e1 e2
    subst e1
    rw [hu]
    rcases hat with h4 | h4
    · rw [← h4]; exact h3 _ _ _ rfl
    · have := h1.lt
      intro e5
      injection e5 with e5
      omega
theorem GA.drop (h : GA n0 T s w W v nb) : GA n0 T s w W v none := ⟨h.bel, h.le, h.own, fun _ _ e => (by cases e)⟩
end

section
variable {P : Program} {n0 s : Nat} {T : TypeId} {w W : World} {nb : Option (Nat × Array Value)}
/-- A source that lies below: appended to the row. -/
theorem GA.src {ops : Array Oper} {o : Oper} {a : Act} {K : Act → World → Prop} {Q : Exit → Act → World → Prop} {E : Prop} {b0 n cap : Nat} {xs : List Value}
    (h : GA n0 T s w W (some (.slice (some ⟨b0, 0, none⟩) n cap, n, xs)) nb) (hgd : o.guard = none) (sx x : Operand) (t : TypeId)
    (ho : o.op = .call { callee := .builtin .append, args := #[sx, x], argTypes := #[t, t] })
    (i : TypeInfo) (z : Value) (bytes : Nat) (ht : P.underlying t = some (.slice T)) (hi : P.info? T = some i) (hz : i.zero = some z)
    (hsize : i.size = s) (hby : i.bytes = bytes) (hzs : z.cells.size = s) (hsz : 0 < s)
    (hs : a.eval sx = .slice (some ⟨b0, 0, none⟩) n cap) (ax : Option Addr) (m c : Nat) (news : List Value) (hx : a.eval x = .slice ax m c) (hl : news.length = m * s)
    (hsome : 0 < m → ∃ ad : Addr, ax = some ad ∧ ∀ j u, news[j]? = some u → W.cell? (ad.add j) = some u) (h1 : ∀ u ∈ news, u.oneCell' = true)
    (h63 : n + m ≤ maxLen) (hbytes : (n + m) * bytes ≤ 140737488355328)
    (hK : ∀ g cap' W', GA n0 T s w W' (some (.slice (some ⟨g, 0, none⟩) (n + m) cap', n + m, xs ++ news)) nb → K (a.put o.dst (.slice (some ⟨g, 0, none⟩) (n + m) cap')) W') :
    if Region.wanted o (yielded ops a.tmps) = true then Oper.wp P o a W K Q else E := by
  rcases Nat.eq_zero_or_pos m with hm | hm
  · subst hm
    have hw : Region.wanted o (yielded ops a.tmps) = true := by simp [Region.wanted, hgd]
    rw [if_pos hw]
    have hrun := run_append_zero (P := P) W n0 t o.type T i s ht hi hsize _ n xs (h.own _ _ _ rfl) ax c
    unfold Oper.wp execOp
    simp only [ho, resolve, invoke, builtin, Sem.run_bind, Sem.run_pure, Result.andThen_ok, List.map_toArray, List.map_cons, List.map_nil, hs, hx, hrun]
    have hn : news = [] := List.eq_nil_of_length_eq_zero (by rw [hl]; simp)
    subst hn
    have := hK b0 cap W (by rw [List.append_nil]; exact h)
    exact this
  · obtain ⟨ad, rfl, hc⟩ := hsome hm
    refine step_append_lies W hgd sx x t ho n0 T i z s bytes ht hi hz hsize hby hzs hsz _ n xs hs (h.own _ _ _ rfl) ad m c news hx hl hc h1 hm h63 hbytes h.le W.heap.size rfl ?_
    intro g cap' W' hown hgrow hat hlt
    exact hK g cap' W' (h.grown hown hgrow rfl hat)
/-- The new element, appended to the row. -/
theorem GA.app {ops : Array Oper} {o : Oper} {a : Act} {K : Act → World → Prop} {Q : Exit → Act → World → Prop} {E : Prop} {b0 n cap nb1 c : Nat} {xs : List Value} {cs : Array Value}
    (h : GA n0 T s w W (some (.slice (some ⟨b0, 0, none⟩) n cap, n, xs)) (some (nb1, cs))) (hgd : o.guard = none) (sx x : Operand) (t : TypeId)
    (ho : o.op = .call { callee := .builtin .append, args := #[sx, x], argTypes := #[t, t] })
    (i : TypeInfo) (z : Value) (bytes : Nat) (ht : P.underlying t = some (.slice T)) (hi : P.info? T = some i) (hz : i.zero = some z)
    (hsize : i.size = s) (hby : i.bytes = bytes) (hzs : z.cells.size = s) (hsz : 0 < s)
    (hs : a.eval sx = .slice (some ⟨b0, 0, none⟩) n cap) (hx : a.eval x = .slice (some ⟨nb1, 0, none⟩) 1 c) (hl : cs.size = s) (h1 : ∀ u ∈ cs.toList, u.oneCell' = true)
    (h63 : n + 1 ≤ maxLen) (hbytes : (n + 1) * bytes ≤ 140737488355328)
    (hK : ∀ g cap' W', GA n0 T s w W' (some (.slice (some ⟨g, 0, none⟩) (n + 1) cap', n + 1, xs ++ cs.toList)) none → K (a.put o.dst (.slice (some ⟨g, 0, none⟩) (n + 1) cap')) W') :
    if Region.wanted o (yielded ops a.tmps) = true then Oper.wp P o a W K Q else E := by
  refine step_append_lies W hgd sx x t ho n0 T i z s bytes ht hi hz hsize hby hzs hsz _ n xs hs (h.own _ _ _ rfl) ⟨nb1, 0, none⟩ 1 c cs.toList hx (by simpa using hl) (World.news_of_block (h.nr _ _ rfl).1) h1 (by decide) h63 hbytes h.le W.heap.size rfl ?_
  intro g cap' W' hown hgrow hat hlt
  exact hK g cap' W' (h.grown hown hgrow rfl hat).drop
end

section
variable {α : Type} (c : α → Array Value) (s : Nat) (hs : ∀ x, (c x).size = s)
include hs
theorem flat_take (l : List α) (k : Nat) : ((l.take k).flatMap fun m => (c m).toList) = (l.flatMap fun m => (c m).toList).take (k * s) := by
  induction l generalizing k with
  | nil => simp
  | cons x l ih =>
    cases k with
    | zero => simp
    | succ k =>
      have h : (c x).toList.length = s := by simpa using hs x
      rw [List.take_succ_cons, List.flatMap_cons, List.flatMap_cons, ih, List.take_append, List.take_of_length_le (l := (c x).toList) (by rw [h, Nat.add_mul]; omega), h, show (k + 1) * s - s = k * s by rw [Nat.add_mul]; omega]
theorem flat_drop (l : List α) (k : Nat) : ((l.drop k).flatMap fun m => (c m).toList) = (l.flatMap fun m => (c m).toList).drop (k * s) := by
  induction l generalizing k with
  | nil => simp
  | cons x l ih =>
    cases k with
    | zero => simp
    | succ k =>
      have h : (c x).toList.length = s := by simpa using hs x
      rw [List.drop_succ_cons, ih, List.flatMap_cons, List.drop_append, List.drop_of_length_le (l := (c x).toList) (by rw [h, Nat.add_mul]; omega), h, show (k + 1) * s - s = k * s by rw [Nat.add_mul]; omega, List.nil_append]
theorem flat_size (l : List α) : (l.flatMap fun m => (c m).toList).length = l.length * s := by
  induction l with
  | nil => simp
  | cons x l ih =>
    have h : (c x).toList.length = s := by simpa using hs x
    rw [List.flatMap_cons, List.length_append, ih, List.length_cons, Nat.add_mul, h]; omega
/-- A row that is owned, cut: the cells of either part, in any world behind. -/
theorem row_take {w W : World} {n0 g n cap T : Nat} {l : List α} (h : w.ownsRow n0 T s (.slice (some ⟨g, 0, none⟩) n cap) l.length (l.flatMap fun m => (c m).toList)) (hb : Below w.heap.size w W) (k : Nat) :
    ∀ j u, ((l.take k).flatMap fun m => (c m).toList)[j]? = some u → W.cell? ((⟨g, 0, none⟩ : Addr).add j) = some u := fun j u hu => by
  rw [flat_take c s hs, List.getElem?_take] at hu
  split at hu
  · have hg := (h.lt g rfl).2
    rw [hb.cell (p := (⟨g, 0, none⟩ : Addr).add j) (by simp only [Addr.add]; split <;> exact hg)]
    exact h.cells rfl j u hu
  · cases hu
theorem row_drop {w W : World} {n0 g n cap T : Nat} {l : List α} (h : w.ownsRow n0 T s (.slice (some ⟨g, 0, none⟩) n cap) l.length (l.flatMap fun m => (c m).toList)) (hb : Below w.heap.size w W) (k : Nat) :
    ∀ j u, ((l.drop k).flatMap fun m => (c m).toList)[j]? = some u → W.cell? ((⟨g, k * s, none⟩ : Addr).add j) = some u := fun j u hu => by
  rw [flat_drop c s hs, List.getElem?_drop] at hu
  have hg := (h.lt g rfl).2
  rw [hb.cell (p := (⟨g, k * s, none⟩ : Addr).add j) (by simp only [Addr.add]; split <;> exact hg)]
  have := h.cells rfl (k * s + j) u hu
  have e : (⟨g, 0, none⟩ : Addr).add (k * s + j) = (⟨g, k * s, none⟩ : Addr).add j := by
    simp only [Addr.add]
    split <;> split <;> simp_all
  rw [← e]; exact this
end

theorem grown_stay {n0 T s n : Nat} {w W : World} {v : Value} {xs : List Value} (h : w.ownsRow n0 T s v n xs) (hb : Below w.heap.size w W) : W.ownsRow n0 T s v n xs :=
  h.kept (row := none) ⟨hb.os, hb.tape, hb.output, hb.size, fun k hk _ => hb.block k hk⟩ (by cases v.ownBlock; exact .inl rfl; exact .inr (by simp))
/-- A list that is built by append(v, x): its value v so far. -/
structure GL (n0 T s : Nat) (w W : World) (v : Value) (n : Nat) (xs : List Value) : Prop where
  own : W.ownsRow n0 T s v n xs
  bel : Below n0 w W
  le : n0 ≤ W.heap.size
  nil : n = 0 → v = .slice none 0 0
/-- And the new element in a block of its own. -/
structure GN (n0 T s : Nat) (w W : World) (v : Value) (n : Nat) (xs : List Value) (nb : Nat) (cs : Array Value) : Prop where
  gl : GL n0 T s w W v n xs
  nr : Blk W nb cs T
  ge : n0 ≤ nb
  ne : v.ownBlock ≠ some nb
section
variable {n0 T s n nb : Nat} {w W W' : World} {v : Value} {xs : List Value} {cs : Array Value}
theorem GL.start (n0 T s : Nat) (hb : Below n0 w W) (hn : n0 ≤ W.heap.size) : GL n0 T s w W (.slice none 0 0) 0 [] := ⟨World.ownsRow_nil _ _ _ _, hb, hn, fun _ => rfl⟩
theorem GL.drew (h : GL n0 T s w W v n xs) : GL n0 T s w W.drew v n xs := ⟨h.own.drew, h.bel.drew, h.le, h.nil⟩
theorem GL.below (h : GL n0 T s w W v n xs) (hb : Below W.heap.size W W') : GL n0 T s w W' v n xs := ⟨grown_stay h.own hb, h.bel.trans (hb.mono h.le), Nat.le_trans h.le hb.size, h.nil⟩
theorem GL.drewN (h : GL n0 T s w W v n xs) (k : Nat) : GL n0 T s w (W.drewN k) v n xs := h.below ((Below.refl _ _).drewN k)
theorem GL.alloc (h : GL n0 T s w W v n xs) (o : Obj) : GL n0 T s w (W.alloc o) v n xs := h.below ((Below.refl _ _).alloc (Nat.le_refl _) _)
theorem GL.new (h : GL n0 T s w W v n xs) (cs : Array Value) : GN n0 T s w (W.alloc (.cells cs T)) v n xs W.heap.size cs :=
  ⟨h.alloc _, Blk.new _ _ _ _ rfl, h.le, fun e => by have := (h.own.lt _ e).2; omega⟩
theorem GN.drew (h : GN n0 T s w W v n xs nb cs) : GN n0 T s w W.drew v n xs nb cs := ⟨h.gl.drew, h.nr, h.ge, h.ne⟩
theorem GN.push {g cap : Nat} (h : GN n0 T s w W v n xs nb cs) (hown : W'.ownsRow n0 T s (.slice (some ⟨g, 0, none⟩) (n + 1) cap) (n + 1) (xs ++ cs.toList)) (hg : W.grownBy W' v.ownBlock) :
    GL n0 T s w W' (.slice (some ⟨g, 0, none⟩) (n + 1) cap) (n + 1) (xs ++ cs.toList) :=
  ⟨hown, h.gl.bel.grown hg h.gl.le (fun k e => (h.gl.own.lt k e).1), Nat.le_trans h.gl.le hg.size, fun e => by omega⟩
end
section
variable {P : Program} {n0 T s n nb : Nat} {w W : World} {v : Value} {xs : List Value} {cs : Array Value}
/-- The append: in a region that does not draw. -/
theorem GN.wp {ops : Array Oper} {rest : List Oper} {o : Oper} {a : Act} {Q : Exit → Act → World → Prop} {c : Nat}
    (h : GN n0 T s w W v n xs nb cs) (hgd : o.guard = none) (sx x : Operand) (t : TypeId)
    (ho : o.op = .call { callee := .builtin .append, args := #[sx, x], argTypes := #[t, t] })
    (i : TypeInfo) (z : Value) (bytes : Nat) (ht : P.underlying t = some (.slice T)) (hi : P.info? T = some i) (hz : i.zero = some z)
    (hsize : i.size = s) (hby : i.bytes = bytes) (hzs : z.cells.size = s) (hsz : 0 < s)
    (hs : a.eval sx = v) (hx : a.eval x = .slice (some ⟨nb, 0, none⟩) 1 c) (hl : cs.size = s) (h1 : ∀ u ∈ cs.toList, u.oneCell' = true)
    (h63 : n + 1 ≤ maxLen) (hbytes : (n + 1) * bytes ≤ 140737488355328)
    (hK : ∀ g cap' W', GL n0 T s w W' (.slice (some ⟨g, 0, none⟩) (n + 1) cap') (n + 1) (xs ++ cs.toList) → wpList P ops Q rest (a.put o.dst (.slice (some ⟨g, 0, none⟩) (n + 1) cap')) W') :
    wpList P ops Q (o :: rest) a W := by
  refine wpList_append_lies W hgd sx x t ho n0 T i z s bytes ht hi hz hsize hby hzs hsz v n xs hs h.gl.own ⟨nb, 0, none⟩ 1 c cs.toList hx (by simpa using hl) (World.news_of_block h.nr) h1 (by decide) h63 hbytes h.gl.le W.heap.size rfl ?_
  intro g cap' W' hown hgrow hat hlt
  exact hK g cap' W' (h.push hown hgrow)
/-- And at a step of one that draws. -/
theorem GN.step {ops : Array Oper} {o : Oper} {a : Act} {K : Act → World → Prop} {Q : Exit → Act → World → Prop} {E : Prop} {c : Nat}
    (h : GN n0 T s w W v n xs nb cs) (hgd : o.guard = none) (sx x : Operand) (t : TypeId)
    (ho : o.op = .call { callee := .builtin .append, args := #[sx, x], argTypes := #[t, t] })
    (i : TypeInfo) (z : Value) (bytes : Nat) (ht : P.underlying t = some (.slice T)) (hi : P.info? T = some i) (hz : i.zero = some z)
    (hsize : i.size = s) (hby : i.bytes = bytes) (hzs : z.cells.size = s) (hsz : 0 < s)
    (hs : a.eval sx = v) (hx : a.eval x = .slice (some ⟨nb, 0, none⟩) 1 c) (hl : cs.size = s) (h1 : ∀ u ∈ cs.toList, u.oneCell' = true)
    (h63 : n + 1 ≤ maxLen) (hbytes : (n + 1) * bytes ≤ 140737488355328)
    (hK : ∀ g cap' W', GL n0 T s w W' (.slice (some ⟨g, 0, none⟩) (n + 1) cap') (n + 1) (xs ++ cs.toList) → K (a.put o.dst (.slice (some ⟨g, 0, none⟩) (n + 1) cap')) W') :
    if Region.wanted o (yielded ops a.tmps) = true then Oper.wp P o a W K Q else E := by
  refine step_append_lies W hgd sx x t ho n0 T i z s bytes ht hi hz hsize hby hzs hsz v n xs hs h.gl.own ⟨nb, 0, none⟩ 1 c cs.toList hx (by simpa using hl) (World.news_of_block h.nr) h1 (by decide) h63 hbytes h.gl.le W.heap.size rfl ?_
  intro g cap' W' hown hgrow hat hlt
  exact hK g cap' W' (h.push hown hgrow)
end
end Go.Proofs.YtmkcooamgojbpaaDoor.Blk
