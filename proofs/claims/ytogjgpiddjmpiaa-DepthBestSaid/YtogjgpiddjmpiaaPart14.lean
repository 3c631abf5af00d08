/- Parts of the proof: InRound. -/
import Derived.Test.YtogjgpiddjmpiaaPart13
import Derived.Test.YtogjgpiddjmpiaaPart3
import Derived.Deep.RegionHeld3
import Derived.Deep.DrawnRows

/- Regions within the body of a range over a function, walked as they are elsewhere. -/
namespace Go.Proofs.Ytogjgpiddjmpiaa.Iter
open Go.RowKit Go.Shelf Go.Proofs.Ytogjgpiddjmpiaa.Kit Go.Proofs.Ytogjgpiddjmpiaa.Blk
set_option linter.unusedVariables false

/-- The fence that asks nothing, within a round or not. -/
def FW (ro : Option Nat) : Fence := { Fence.wide with round := ro }
def isDefer (o : Oper) : Bool := match o.op with | .defer _ => true | _ => false
theorem not_defer {o : Oper} (h : isDefer o = false) : ∀ c, o.op ≠ .defer c := fun c e => by simp [isDefer, e] at h
def onlyNormal (Q : Exit → Act → World → Prop) : Exit → Act → World → Prop
  | .normal, a, w => Q .normal a w
  | _, _, _ => False
theorem onlyNormal_out (Q : Exit → Act → World → Prop) : ¬ LetsOut (onlyNormal Q) := fun ⟨_, _, h⟩ => h

/-- The blocks of S are as they were, and none has gone. -/
def KZ (S : Nat → Prop) (w w' : World) : Prop := KS S w w' ∧ w.heap.size ≤ w'.heap.size
theorem kz_t {S : Nat → Prop} {A B C : World} (h : KZ S A B) (k : KZ S B C) : KZ S A C := ⟨ks_t h.1 k.1, Nat.le_trans h.2 k.2⟩
theorem kz_b {S : Nat → Prop} {w : World} (hS : ∀ b, S b → b < w.heap.size) (W : World) (l : Nat) (o o' : Obj) (hl : w.heap.size ≤ l) (h1 : W.heap[l]? = some o) (h2 : o.isCells = false) (h3 : o.isWalk = false) : KZ S W (W.putObj l o') := ⟨ks_b hS W l o o' hl h1 h2 h3, by simp⟩
theorem kz_refl (S : Nat → Prop) (w : World) : KZ S w w := ⟨ks_refl _ _, Nat.le_refl _⟩
theorem kz_below {S : Nat → Prop} {n : Nat} {w w' : World} (hb : Below n w w') (h : ∀ b, S b → b < n) : KZ S w w' := ⟨ks_below hb h, hb.size⟩

section
variable {P : Program} {ops : Array Oper} {a : Act} {w : World} {Q : Exit → Act → World → Prop} {n : Nat}
theorem opIn_of (ro : Option Nat) {o : Oper} {K : Act → World → Prop} (hd : isDefer o = false) (h : o.wp P a w K Q) : o.wpIn (FW ro) n P a w K Q := by
  unfold Oper.wp at h
  unfold Oper.wpIn
  refine ⟨fun _ _ => trivial, ?_⟩
  have e : o.semAt (FW ro).round a.eval = execOp a.eval o := Oper.semAt_eq _ _ _ (not_defer hd)
  rw [e]
  generalize (execOp a.eval o).run P w = r at *
  cases r with
  | ok x w' =>
    cases x with
    | enter f args => exact ⟨(fun h => by cases h), CallsIn.inRound 0 (callsIn_wide.2 h)⟩
    | row r args => exact ⟨(fun h => by cases h), fun c cs _ => let ⟨v, w', r, s⟩ := h c cs; ⟨v, w', r, stepsIn_wide.2 s⟩⟩
    | round l f tmps assign body => exact False.elim h
    | _ => exact h
  | halt x w' => cases x <;> exact h
theorem opsIn_of (ro : Option Nat) (hd : ∀ o ∈ ops.toList, isDefer o = false) (hQ : ¬ LetsOut Q) : ∀ (l : List Nat) (a : Act) (w : World), wpOps P ops Q l a w → wpOpsIn (FW ro) n P ops Q l a w := by
  intro l
  induction l with
  | nil => intro a w h; exact h
  | cons i l ih =>
    intro a w h
    rw [wpOpsIn]
    rw [wpOps] at h
    cases ho : ops[i]? with
    | none => rw [ho] at h; exact ih _ _ h
    | some o =>
      rw [ho] at h
      have hdo : isDefer o = false := hd o (by rw [Array.getElem?_eq_some_iff] at ho; obtain ⟨hi, rfl⟩ := ho; exact Array.mem_toList_iff.2 (Array.getElem_mem hi))
      dsimp only at h ⊢
      split at h
      · rename_i hw
        rw [if_pos hw]
        rcases h with h | h
        · exact Oper.wpIn_mono (fun a w h => ih a w h) (opIn_of ro hdo h)
        · exact absurd h.2 hQ
      · rename_i hw
        rw [if_neg hw]
        exact ⟨fun _ _ => trivial, ih _ _ h⟩
/-- A region that draws its order, under S. -/
theorem wpIn_held {S : World → Prop} (ro : Option Nat) {id : Nat} {l : List Oper} (hm : P.follows .mixedOrders = true) (hd : (l.all fun o => !isDefer o) = true) (hS : S w.drew)
    (h : S w.drew → wpAnyH P .any l.toArray (onlyNormal Q) S l.toArray.size (Array.replicate l.toArray.size false) a w.drew) : (Code.region id l.toArray true).wpIn (FW ro) n P Q a w := by
  refine Go.wpIn_mono (Q := onlyNormal Q) (wpIn_region_draw fun t => ?_) ?_
  · simp only [Region.schedule, hm, Bool.true_or, if_true]
    refine opsIn_of ro (fun o ho => ?_) (onlyNormal_out Q) _ _ _ (wpAny_sound _ t _ _ _ (wpAny_of_held _ _ _ _ (h hS)))
    rw [List.all_eq_true] at hd
    have := hd o (by simpa using ho)
    simpa using this
  · intro e a w h
    cases e <;> first | exact h | exact h.elim
/-- A region that draws its order and only reads. -/
theorem wpIn_still (ro : Option Nat) {id : Nat} {l : List Oper} (hm : P.follows .mixedOrders = true) (hd : (l.all fun o => !isDefer o) = true) (hB : Region.lexB .any l.toArray = true)
    (h : wpStill P l.toArray w.drew (fun a' => Q .normal a' w.drew) l a) : (Code.region id l.toArray true).wpIn (FW ro) n P Q a w := by
  refine Go.wpIn_mono (Q := onlyNormal Q) (wpIn_region_draw fun t => ?_) ?_
  · simp only [Region.schedule, hm, Bool.true_or, if_true]
    refine opsIn_of ro (fun o ho => ?_) (onlyNormal_out Q) _ _ _ (wpAny_sound _ t _ _ _ ?_)
    · rw [List.all_eq_true] at hd
      have := hd o (by simpa using ho)
      simpa using this
    · simp only [Region.lexB, Bool.and_eq_true] at hB
      refine wpAny_of_still (w := w.drew) (Q := fun a' => Q .normal a' w.drew) (Q' := onlyNormal Q) (fun _ h => h) _ _ _ ?_
      have := wpAnyS_lex (md := .any) hB.1 l.toArray.toList 0 (Array.replicate l.toArray.size false) a (by simp) (by simpa using hB.2) (by simpa using h)
      simpa using this
  · intro e a w h
    cases e <;> first | exact h | exact h.elim
theorem listIn_of (ro : Option Nat) {o : Oper} {rest : List Oper} (hg : o.guard = none) (hd : isDefer o = false) (h : ∀ K : Act → World → Prop, (∀ a w, wpListIn (FW ro) n P ops Q rest a w → K a w) → o.wp P a w K Q) : wpListIn (FW ro) n P ops Q (o :: rest) a w :=
  wpListIn_plain hg fun K hK => opIn_of ro hd (h K hK)
theorem loadIn_mid (ro : Option Nat) {op : Oper} {rest : List Oper} (hgd : op.guard = none) (ty : TypeId) (x : Operand) (ho : op.op = .load ty x)
    (b o : Nat) (hx : a.eval x = .pointer (some ⟨b, o, none⟩)) (cs : List Value) (d : TypeDesc) (hc : w.rangeAt b o cs)
    (hu : P.underlying ty = some d) (hd : d.isRow = true) (hi : (P.info? ty).map (·.size) = some cs.length)
    (h : wpListIn (FW ro) n P ops Q rest (a.put op.dst (.agg cs.toArray)) w) : wpListIn (FW ro) n P ops Q (op :: rest) a w :=
  listIn_of ro hgd (by simp [isDefer, ho]) fun K hK => wp_load_mid ty x ho b o hx cs d hc hu hd hi (hK _ _ h)
theorem storeIn_mid (ro : Option Nat) {op : Oper} {rest : List Oper} (hgd : op.guard = none) (ty : TypeId) (x y : Operand) (ho : op.op = .store ty x y)
    (b o : Nat) (cells : Array Value) (hx : a.eval x = .pointer (some ⟨b, o, none⟩)) (hy : a.eval y = .agg cells) (ht : w.there b o cells.size) (hi : (P.info? ty).map (·.size) = some cells.size) (h1 : cells.all (·.oneCell') = true)
    (h : wpListIn (FW ro) n P ops Q rest (a.put op.dst undef) (w.setCells b o cells.toList)) : wpListIn (FW ro) n P ops Q (op :: rest) a w :=
  listIn_of ro hgd (by simp [isDefer, ho]) fun K hK => wp_store_mid ty x y ho b o cells hx hy ht hi h1 (hK _ _ h)
theorem loadW_mid (_u : True) {op : Oper} {rest : List Oper} (hgd : op.guard = none) (ty : TypeId) (x : Operand) (ho : op.op = .load ty x)
    (b o : Nat) (hx : a.eval x = .pointer (some ⟨b, o, none⟩)) (cs : List Value) (d : TypeDesc) (hc : w.rangeAt b o cs)
    (hu : P.underlying ty = some d) (hd : d.isRow = true) (hi : (P.info? ty).map (·.size) = some cs.length)
    (h : wpListIn Fence.wide n P ops Q rest (a.put op.dst (.agg cs.toArray)) w) : wpListIn Fence.wide n P ops Q (op :: rest) a w :=
  loadIn_mid none hgd ty x ho b o hx cs d hc hu hd hi h
theorem storeW_mid (_u : True) {op : Oper} {rest : List Oper} (hgd : op.guard = none) (ty : TypeId) (x y : Operand) (ho : op.op = .store ty x y)
    (b o : Nat) (cells : Array Value) (hx : a.eval x = .pointer (some ⟨b, o, none⟩)) (hy : a.eval y = .agg cells) (ht : w.there b o cells.size) (hi : (P.info? ty).map (·.size) = some cells.size) (h1 : cells.all (·.oneCell') = true)
    (h : wpListIn Fence.wide n P ops Q rest (a.put op.dst undef) (w.setCells b o cells.toList)) : wpListIn Fence.wide n P ops Q (op :: rest) a w :=
  storeIn_mid none hgd ty x y ho b o cells hx hy ht hi h1 h
theorem loadW_blk (_u : True) {op : Oper} {rest : List Oper} (hgd : op.guard = none) (ty : TypeId) (x : Operand) (ho : op.op = .load ty x) (B : Nat) (hx : a.eval x = .pointer (some ⟨B, 0, none⟩)) (cs : Array Value) (T : TypeId) (h : Blk w B cs T)
    (d : TypeDesc) (hu : P.underlying ty = some d) (hd : d.isRow = true) (hi : (P.info? ty).map (·.size) = some cs.size)
    (hk : wpListIn Fence.wide n P ops Q rest (a.put op.dst (.agg cs)) w) : wpListIn Fence.wide n P ops Q (op :: rest) a w :=
  loadIn_mid none hgd ty x ho B 0 hx cs.toList d h.range hu hd (by simpa using hi) hk
theorem storeW_blk (_u : True) {op : Oper} {rest : List Oper} (hgd : op.guard = none) (ty : TypeId) (x y : Operand) (ho : op.op = .store ty x y) (B : Nat) (hx : a.eval x = .pointer (some ⟨B, 0, none⟩)) (cs vs : Array Value) (T : TypeId) (h : Blk w B cs T)
    (hy : a.eval y = .agg vs) (hs : vs.size = cs.size) (hi : (P.info? ty).map (·.size) = some vs.size) (h1 : vs.all (·.oneCell') = true)
    (hk : wpListIn Fence.wide n P ops Q rest (a.put op.dst undef) (w.setCells B 0 vs.toList)) : wpListIn Fence.wide n P ops Q (op :: rest) a w :=
  storeIn_mid none hgd ty x y ho B 0 vs hx hy (hs ▸ h.there) hi h1 hk
theorem heldW (_u : True) {S : World → Prop} {id : Nat} {l : List Oper} (hm : P.follows .mixedOrders = true) (hd : (l.all fun o => !isDefer o) = true) (hS : S w.drew)
    (h : S w.drew → wpAnyH P .any l.toArray (onlyNormal Q) S l.toArray.size (Array.replicate l.toArray.size false) a w.drew) : (Code.region id l.toArray true).wpIn Fence.wide n P Q a w := wpIn_held none hm hd hS h
theorem stillW (_u : True) {id : Nat} {l : List Oper} (hm : P.follows .mixedOrders = true) (hd : (l.all fun o => !isDefer o) = true) (hB : Region.lexB .any l.toArray = true)
    (h : wpStill P l.toArray w.drew (fun a' => Q .normal a' w.drew) l a) : (Code.region id l.toArray true).wpIn Fence.wide n P Q a w := wpIn_still none hm hd hB h
theorem loadR_mid (r : Nat) {op : Oper} {rest : List Oper} (hgd : op.guard = none) (ty : TypeId) (x : Operand) (ho : op.op = .load ty x)
    (b o : Nat) (hx : a.eval x = .pointer (some ⟨b, o, none⟩)) (cs : List Value) (d : TypeDesc) (hc : w.rangeAt b o cs)
    (hu : P.underlying ty = some d) (hd : d.isRow = true) (hi : (P.info? ty).map (·.size) = some cs.length)
    (h : wpListIn (Fence.wide.inRound r) n P ops Q rest (a.put op.dst (.agg cs.toArray)) w) : wpListIn (Fence.wide.inRound r) n P ops Q (op :: rest) a w :=
  loadIn_mid (some r) hgd ty x ho b o hx cs d hc hu hd hi h
theorem storeR_mid (r : Nat) {op : Oper} {rest : List Oper} (hgd : op.guard = none) (ty : TypeId) (x y : Operand) (ho : op.op = .store ty x y)
    (b o : Nat) (cells : Array Value) (hx : a.eval x = .pointer (some ⟨b, o, none⟩)) (hy : a.eval y = .agg cells) (ht : w.there b o cells.size) (hi : (P.info? ty).map (·.size) = some cells.size) (h1 : cells.all (·.oneCell') = true)
    (h : wpListIn (Fence.wide.inRound r) n P ops Q rest (a.put op.dst undef) (w.setCells b o cells.toList)) : wpListIn (Fence.wide.inRound r) n P ops Q (op :: rest) a w :=
  storeIn_mid (some r) hgd ty x y ho b o cells hx hy ht hi h1 h
theorem loadR_blk (r : Nat) {op : Oper} {rest : List Oper} (hgd : op.guard = none) (ty : TypeId) (x : Operand) (ho : op.op = .load ty x) (B : Nat) (hx : a.eval x = .pointer (some ⟨B, 0, none⟩)) (cs : Array Value) (T : TypeId) (h : Blk w B cs T)
    (d : TypeDesc) (hu : P.underlying ty = some d) (hd : d.isRow = true) (hi : (P.info? ty).map (·.size) = some cs.size)
    (hk : wpListIn (Fence.wide.inRound r) n P ops Q rest (a.put op.dst (.agg cs)) w) : wpListIn (Fence.wide.inRound r) n P ops Q (op :: rest) a w :=
  loadIn_mid (some r) hgd ty x ho B 0 hx cs.toList d h.range hu hd (by simpa using hi) hk
theorem storeR_blk (r : Nat) {op : Oper} {rest : List Oper} (hgd : op.guard = none) (ty : TypeId) (x y : Operand) (ho : op.op = .store ty x y) (B : Nat) (hx : a.eval x = .pointer (some ⟨B, 0, none⟩)) (cs vs : Array Value) (T : TypeId) (h : Blk w B cs T)
    (hy : a.eval y = .agg vs) (hs : vs.size = cs.size) (hi : (P.info? ty).map (·.size) = some vs.size) (h1 : vs.all (·.oneCell') = true)
    (hk : wpListIn (Fence.wide.inRound r) n P ops Q rest (a.put op.dst undef) (w.setCells B 0 vs.toList)) : wpListIn (Fence.wide.inRound r) n P ops Q (op :: rest) a w :=
  storeIn_mid (some r) hgd ty x y ho B 0 vs hx hy (hs ▸ h.there) hi h1 hk
theorem heldR (r : Nat) {S : World → Prop} {id : Nat} {l : List Oper} (hm : P.follows .mixedOrders = true) (hd : (l.all fun o => !isDefer o) = true) (hS : S w.drew)
    (h : S w.drew → wpAnyH P .any l.toArray (onlyNormal Q) S l.toArray.size (Array.replicate l.toArray.size false) a w.drew) : (Code.region id l.toArray true).wpIn (Fence.wide.inRound r) n P Q a w := wpIn_held (some r) hm hd hS h
theorem stillR (r : Nat) {id : Nat} {l : List Oper} (hm : P.follows .mixedOrders = true) (hd : (l.all fun o => !isDefer o) = true) (hB : Region.lexB .any l.toArray = true)
    (h : wpStill P l.toArray w.drew (fun a' => Q .normal a' w.drew) l a) : (Code.region id l.toArray true).wpIn (Fence.wide.inRound r) n P Q a w := wpIn_still (some r) hm hd hB h
end
end Go.Proofs.Ytogjgpiddjmpiaa.Iter
