/- Parts of the proof: Kit, Blk, Mp, MpI, Fix, Lvl, LvlO, B128. -/
import Derived.Test.YtogjgpiddjmpiaaProg
import Derived.WalkKit
import Derived.WalkLawsBesides
import Derived.WalkSpells
import Derived.Lib.Hide
import Derived.BigQuiet
import Derived.Deep.QuietTactic
import Derived.Deep.AppendLies
import Derived.KernelRfl
import Derived.Laws.EntriesVeiled
import Derived.Maps.RangeRun
import Derived.IntWalk

/- Plain lemmas on worlds and cells, used by all walks of this seat. -/
namespace Go.Proofs.Ytogjgpiddjmpiaa.Kit
open Go.RowKit

theorem cell_new (w : World) (cs : Array Value) (T : TypeId) (n j : Nat) (v : Value) (hn : w.heap.size = n) (h : cs[j]? = some v) :
    (w.alloc (.cells cs T)).cell? ⟨n, j, none⟩ = some v := by
  subst hn
  simp only [World.cell?, heap_alloc_new]
  simpa using h
theorem cell_old (w : World) (o : Obj) (a : Addr) (h : a.block < w.heap.size) : (w.alloc o).cell? a = w.cell? a :=
  World.cell?_of_block (Below.heap_alloc w o a.block h)
theorem frozen_old (w : World) (o : Obj) (a : Addr) (h : a.block < w.heap.size) : (w.alloc o).frozen? a = w.frozen? a :=
  World.frozen?_of_block (Below.heap_alloc w o a.block h)

/-- What is known of the first blocks stays known. -/
theorem keeps {W w1 : World} (hb : Below W.heap.size W w1) : (∀ b o, b < W.heap.size → w1.cell? ⟨b, o, none⟩ = W.cell? ⟨b, o, none⟩) ∧ (∀ b o, b < W.heap.size → w1.frozen? ⟨b, o, none⟩ = W.frozen? ⟨b, o, none⟩) :=
  ⟨fun b o h => hb.cell (p := ⟨b, o, none⟩) h, fun b o h => hb.frozen (p := ⟨b, o, none⟩) h⟩

/-- Numbers in a row of cells. -/
def Nums (w : World) (a : Option Addr) (l : List Int) : Prop :=
  ∀ i, (h : i < l.length) → ∃ b off, a = some ⟨b, off, none⟩ ∧ b < w.heap.size ∧ w.cell? ⟨b, off + i, none⟩ = some (.int .i64 l[i])

theorem Nums.below {w w' : World} {a : Option Addr} {l : List Int} (h : Nums w a l) (hb : Below w.heap.size w w') : Nums w' a l := by
  intro i hi
  obtain ⟨b, off, ha, hl, hc⟩ := h i hi
  exact ⟨b, off, ha, Nat.lt_of_lt_of_le hl hb.size, by rw [hb.cell (p := ⟨b, _, none⟩) hl]; exact hc⟩

theorem nums_new (w : World) (cs : Array Value) (T n : Nat) (l : List Int) (hn : w.heap.size = n) (hcs : cs = (l.map (Value.int .i64)).toArray) :
    Nums (w.alloc (.cells cs T)) (some ⟨n, 0, none⟩) l := by
  intro i hi
  refine ⟨n, 0, rfl, by simp [hn], ?_⟩
  rw [Nat.zero_add]
  exact cell_new _ _ _ _ _ _ hn (by subst hcs; simp [hi])

theorem callFunc_enter {P : Program} {f : FuncId} {fn : Func} (hf : P.funcs[f]? = some fn) (hn : (fn.name == "runtime.NumGoroutine") = false) (hb : fn.body.isNone = false) (args : Array Value) (w : World) :
    (callFunc f args).run P w = .ok (.enter f args) w := by
  rw [beq_eq_false_iff_ne] at hn
  have hb' : fn.body ≠ none := fun h => by simp [h] at hb
  simp [callFunc, hf, hn, hb']

theorem ret_int {k : IntKind} {a b : Int} (h : a = b) : Ending.returned (.int k a) = .returned (.int k b) := by rw [h]
theorem ret_bool {a b : Bool} (h : a = b) : Ending.returned (.bool a) = .returned (.bool b) := by rw [h]

def allIn (lo hi : Int) (l : List Int) : Bool := l.all fun n => !(decide (n < lo) || decide (hi < n))
end Go.Proofs.Ytogjgpiddjmpiaa.Kit

/- Blocks that are known whole; and worlds in which one old block may have changed. -/
namespace Go.Proofs.Ytogjgpiddjmpiaa.Blk
open Go.RowKit Go.Proofs.Ytogjgpiddjmpiaa.Kit

/-- Block B holds just these cells, none of them frozen. -/
def Blk (w : World) (B : Nat) (cs : Array Value) (T : TypeId) : Prop := w.heap[B]? = some (.cells cs T (0, 0))

section
variable {w w' : World} {B : Nat} {cs : Array Value} {T : TypeId}
theorem Blk.cell (h : Blk w B cs T) (j : Nat) {v : Value} (hv : cs[j]? = some v) : w.cell? ⟨B, j, none⟩ = some v := by
  unfold Blk at h
  simp only [World.cell?, h]
  simpa using hv
theorem Blk.free (h : Blk w B cs T) (j : Nat) : w.frozen? ⟨B, j, none⟩ = false := by
  unfold Blk at h
  simp only [World.frozen?, h]
  simp
theorem Blk.lt (h : Blk w B cs T) : B < w.heap.size := (Array.getElem?_eq_some_iff.1 h).1
theorem Blk.new (w : World) (cs : Array Value) (T n : Nat) (hn : w.heap.size = n) : Blk (w.alloc (.cells cs T)) n cs T := by
  subst hn; exact heap_alloc_new w _
theorem Blk.old (h : Blk w B cs T) (o : Obj) : Blk (w.alloc o) B cs T := by
  unfold Blk; rw [Below.heap_alloc w o B h.lt]; exact h
theorem Blk.drew (h : Blk w B cs T) : Blk w.drew B cs T := h
theorem Blk.drewN (h : Blk w B cs T) (n : Nat) : Blk (w.drewN n) B cs T := h
theorem Blk.below {n : Nat} (h : Blk w B cs T) (hb : Below n w w') (hB : B < n) : Blk w' B cs T := by
  unfold Blk; rw [hb.block B hB]; exact h
theorem Blk.set (h : Blk w B cs T) (j : Nat) (v : Value) : Blk (w.setCell ⟨B, j, none⟩ v) B (cs.setIfInBounds j v) T := by
  have hl := h.lt
  unfold Blk at *
  simp only [World.setCell, Array.getElem?_modify]
  simp [h]
theorem Blk.apart (h : Blk w B cs T) (a : Addr) (v : Value) (hne : a.block ≠ B) : Blk (w.setCell a v) B cs T := by
  unfold Blk; rw [Below.heap_setCell _ _ _ _ (fun e => hne e.symm)]; exact h
end

theorem _root_.Go.RowKit.Below.drewN {n : Nat} {a w : World} (h : Below n a w) (k : Nat) : Below n a (w.drewN k) := ⟨h.os, h.tape, h.output, h.size, h.block⟩

/-- Below number n nothing has changed but block d. -/
structure Chg (n d : Nat) (w w' : World) : Prop where
  os : w'.os = w.os
  tape : w'.tape = w.tape
  output : w'.output = w.output
  size : w.heap.size ≤ w'.heap.size
  block : ∀ k, k < n → k ≠ d → w'.heap[k]? = w.heap[k]?

section
variable {n d : Nat} {a w w' : World}
theorem Chg.refl (n d : Nat) (w : World) : Chg n d w w := ⟨rfl, rfl, rfl, Nat.le_refl _, fun _ _ _ => rfl⟩
theorem Chg.trans {b c : World} (h : Chg n d a b) (k : Chg n d b c) : Chg n d a c :=
  ⟨k.os.trans h.os, k.tape.trans h.tape, k.output.trans h.output, Nat.le_trans h.size k.size, fun i hi hd => (k.block i hi hd).trans (h.block i hi hd)⟩
theorem Chg.mono {n' : Nat} (h : Chg n d w w') (hn : n' ≤ n) : Chg n' d w w' := ⟨h.os, h.tape, h.output, h.size, fun k hk => h.block k (Nat.lt_of_lt_of_le hk hn)⟩
theorem Chg.of (h : Below n w w') : Chg n d w w' := ⟨h.os, h.tape, h.output, h.size, fun k hk _ => h.block k hk⟩
theorem Chg.below (h : Chg n d w w') (hd : n ≤ d) : Below n w w' := ⟨h.os, h.tape, h.output, h.size, fun k hk => h.block k hk (by omega)⟩
theorem Chg.below' {m : Nat} (h : Chg n d w w') (hd : m ≤ d) (hm : m ≤ n) : Below m w w' := ⟨h.os, h.tape, h.output, h.size, fun k hk => h.block k (by omega) (by omega)⟩
theorem Chg.step {w2 : World} (h : Chg n d a w) (k : Below n w w2) : Chg n d a w2 := h.trans (Chg.of k)
theorem Chg.alloc (h : Chg n d a w) (hn : n ≤ w.heap.size) (o : Obj) : Chg n d a (w.alloc o) := h.step ((Below.refl _ _).alloc hn o)
theorem Chg.drew (h : Chg n d a w) : Chg n d a w.drew := h.step (Below.refl _ _).drew
theorem Chg.setCell (h : Chg n d a w) (p : Addr) (v : Value) (hp : p.block = d ∨ n ≤ p.block) : Chg n d a (w.setCell p v) :=
  h.trans ⟨rfl, rfl, rfl, by simp [World.setCell], fun k hk hd => Below.heap_setCell _ _ _ _ (by omega)⟩
theorem Chg.blk {B : Nat} {cs : Array Value} {T : TypeId} (h : Chg n d w w') (hB : B < n) (hd : B ≠ d) (hb : Blk w B cs T) : Blk w' B cs T := by
  unfold Blk; rw [h.block B hB hd]; exact hb
theorem Chg.cell (h : Chg n d w w') {p : Addr} (hp : p.block < n) (hd : p.block ≠ d) : w'.cell? p = w.cell? p := World.cell?_of_block (h.block p.block hp hd)
end
end Go.Proofs.Ytogjgpiddjmpiaa.Blk

/- Maps in memory, as lists of their entries in order. -/
namespace Go.Proofs.Ytogjgpiddjmpiaa.Mp
open Go.RowKit Go.ChangeMaps Go.Proofs.Ytogjgpiddjmpiaa.Kit Go.Proofs.Ytogjgpiddjmpiaa.Blk
set_option linter.unusedVariables false

section
variable {P : Program} {κ ν : Type} [DecidableEq κ]

def findE (k : κ) : List κ → List MapEntry → Nat → Option (Nat × Value)
  | a :: ks, e :: es, i => if k = a then some (i, e.val) else findE k ks es (i + 1)
  | _, _, _ => none
/-- Keys that can be told apart. -/
structure KeyOK (P : Program) (K : TypeId) (ke : κ → Value) : Prop where
  check : ∀ (w : World) (em : Bool) (k : κ), (Instr.checkKey em 10000 K (ke k)).run P w = .ok () w
  find : ∀ (w : World) (k : κ) (es : List MapEntry) (ks : List κ), es.map (·.key) = ks.map ke → (Instr.findKey K (ke k) es).run P w = .ok (findE k ks es 0) w
  stays : ∀ (w : World) (k : κ), (Instr.keyThatStays (ke k) (ke k)).run P w = .ok (ke k) w

theorem asking (K : TypeId) (ke : κ → Value) (heq : ∀ (w : World) (a b : κ), (Op.equal K (ke a) (ke b)).run P w = .ok (decide (a = b)) w) (w : World) (k : κ) :
    ∀ (es : List MapEntry) (ks : List κ) (i : Nat), es.map (·.key) = ks.map ke → (Instr.findAsking K (ke k) es i).run P w = .ok (findE k ks es i) w := by
  intro es
  induction es with
  | nil => intro ks i h; cases ks <;> simp [Instr.findAsking, findE]
  | cons e es ih =>
    intro ks i h
    cases ks with
    | nil => simp at h
    | cons a ks =>
      simp only [List.map_cons, List.cons.injEq] at h
      obtain ⟨h1, h2⟩ := h
      by_cases hk : k = a
      · simp [Instr.findAsking, h1, heq, findE, hk]
      · simp [Instr.findAsking, h1, heq, findE, hk, ih ks (i + 1) h2]
/-- Keys whose comparison is asked of ==. -/
theorem keyOK_asked {K : TypeId} {d : TypeDesc} (ke : κ → Value) (hu : P.underlying K = some d) (hnow : ∀ a b : κ, Instr.sameNow d (ke a) (ke b) = none)
    (heq : ∀ (w : World) (a b : κ), (Op.equal K (ke a) (ke b)).run P w = .ok (decide (a = b)) w) (hc : ∀ (w : World) (em : Bool) (k : κ), (Instr.checkKey em 10000 K (ke k)).run P w = .ok () w)
    (hs : ∀ (w : World) (k : κ), (Instr.keyThatStays (ke k) (ke k)).run P w = .ok (ke k) w) : KeyOK P K ke where
  check := hc
  stays := hs
  find := fun w k es ks h => by
    cases es with
    | nil => cases ks <;> simp [Instr.findKey, run_underlying hu, Instr.findNow, findE]
    | cons e es =>
      cases ks with
      | nil => simp at h
      | cons a ks =>
        have h1 : e.key = ke a := by simp only [List.map_cons, List.cons.injEq] at h; exact h.1
        have := asking K ke heq w k (e :: es) (a :: ks) 0 h
        simp [Instr.findKey, run_underlying hu, Instr.findNow, h1, hnow, this]
/-- Keys that are compared at once. -/
theorem now {d : TypeDesc} (ke : κ → Value) (hnow : ∀ a b : κ, Instr.sameNow d (ke a) (ke b) = some (decide (a = b))) (k : κ) :
    ∀ (es : List MapEntry) (ks : List κ) (i : Nat), es.map (·.key) = ks.map ke → Instr.findNow d (ke k) es i = some (findE k ks es i) := by
  intro es
  induction es with
  | nil => intro ks i h; cases ks <;> simp [Instr.findNow, findE]
  | cons e es ih =>
    intro ks i h
    cases ks with
    | nil => simp at h
    | cons a ks =>
      simp only [List.map_cons, List.cons.injEq] at h
      obtain ⟨h1, h2⟩ := h
      by_cases hk : k = a
      · simp [Instr.findNow, h1, hnow, findE, hk]
      · simp [Instr.findNow, h1, hnow, findE, hk, ih ks (i + 1) h2]
theorem keyOK_now {K : TypeId} {d : TypeDesc} (ke : κ → Value) (hu : P.underlying K = some d) (hnow : ∀ a b : κ, Instr.sameNow d (ke a) (ke b) = some (decide (a = b)))
    (hc : ∀ (w : World) (em : Bool) (k : κ), (Instr.checkKey em 10000 K (ke k)).run P w = .ok () w) (hs : ∀ (w : World) (k : κ), (Instr.keyThatStays (ke k) (ke k)).run P w = .ok (ke k) w) : KeyOK P K ke where
  check := hc
  stays := hs
  find := fun w k es ks h => by simp [Instr.findKey, run_underlying hu, now ke hnow k es ks 0 h]

def mget (k : κ) : List (κ × ν) → Option ν
  | [] => none
  | (a, v) :: l => if k = a then some v else mget k l
def mput (k : κ) (v : ν) : List (κ × ν) → List (κ × ν)
  | [] => [(k, v)]
  | (a, u) :: l => if k = a then (a, v) :: l else (a, u) :: mput k v l
def mdel (k : κ) : List (κ × ν) → List (κ × ν)
  | [] => []
  | (a, u) :: l => if k = a then l else (a, u) :: mdel k l
def midx (k : κ) : List (κ × ν) → Nat
  | [] => 0
  | (a, _) :: l => if k = a then 0 else midx k l + 1
def pr (e : MapEntry) : Value × Value := (e.key, e.val)
def en (ke : κ → Value) (ve : ν → Value) (p : κ × ν) : Value × Value := (ke p.1, ve p.2)

theorem find_look (ke : κ → Value) (ve : ν → Value) (k : κ) : ∀ (l : List (κ × ν)) (es : List MapEntry) (i : Nat), es.map pr = l.map (en ke ve) → findE k (l.map (·.1)) es i = (mget k l).map fun v => (i + midx k l, ve v) := by
  intro l
  induction l with
  | nil => intro es i h; simp [findE, mget]
  | cons p l ih =>
    intro es i h
    obtain ⟨a, v⟩ := p
    cases es with
    | nil => simp at h
    | cons e es =>
      simp only [List.map_cons, List.cons.injEq] at h
      obtain ⟨h1, h2⟩ := h
      have hv : e.val = ve v := congrArg Prod.snd h1
      by_cases hk : k = a
      · simp [findE, mget, midx, hk, hv]
      · simp only [List.map_cons, findE, mget, midx, hk, if_false]
        rw [ih es (i + 1) h2]
        congr 1
        funext v
        congr 1
        omega
end

section
variable {P : Program} {κ ν : Type}
theorem keys_of {ke : κ → Value} {ve : ν → Value} {l : List (κ × ν)} {es : List MapEntry} (h : es.map pr = l.map (en ke ve)) : es.map (·.key) = (l.map (·.1)).map ke := by
  have := congrArg (List.map Prod.fst) h
  simpa [List.map_map, Function.comp_def, pr, en] using this

/-- Block b holds a map of just these entries, in this order. -/
def MapIs (w : World) (b : Nat) (ke : κ → Value) (ve : ν → Value) (l : List (κ × ν)) : Prop :=
  ∃ es clock, w.heap[b]? = some (.map es clock) ∧ es.toList.map pr = l.map (en ke ve) ∧ (es.toList.map (·.born)).Nodup ∧ ∀ x ∈ es.toList, x.born < clock
theorem MapIs.lt {w : World} {b : Nat} {ke : κ → Value} {ve : ν → Value} {l : List (κ × ν)} (h : MapIs w b ke ve l) : b < w.heap.size := by
  obtain ⟨es, clock, hb, _⟩ := h
  exact (Array.getElem?_eq_some_iff.1 hb).1
theorem MapIs.same {w w' : World} {b : Nat} {ke : κ → Value} {ve : ν → Value} {l : List (κ × ν)} (h : MapIs w b ke ve l) (hb : w'.heap[b]? = w.heap[b]?) : MapIs w' b ke ve l := by
  obtain ⟨es, clock, h1, h2⟩ := h
  exact ⟨es, clock, hb.trans h1, h2⟩
theorem MapIs.below {w w' : World} {b n : Nat} {ke : κ → Value} {ve : ν → Value} {l : List (κ × ν)} (h : MapIs w b ke ve l) (hb : Below n w w') (hn : b < n) : MapIs w' b ke ve l := h.same (hb.block b hn)
theorem MapIs.chg {w w' : World} {b n d : Nat} {ke : κ → Value} {ve : ν → Value} {l : List (κ × ν)} (h : MapIs w b ke ve l) (hc : Chg n d w w') (hn : b < n) (hd : b ≠ d) : MapIs w' b ke ve l := h.same (hc.block b hn hd)
theorem MapIs.old {w : World} {b : Nat} {ke : κ → Value} {ve : ν → Value} {l : List (κ × ν)} (h : MapIs w b ke ve l) (o : Obj) : MapIs (w.alloc o) b ke ve l := h.same (Below.heap_alloc w o b h.lt)
theorem MapIs.drew {w : World} {b : Nat} {ke : κ → Value} {ve : ν → Value} {l : List (κ × ν)} (h : MapIs w b ke ve l) : MapIs w.drew b ke ve l := h
theorem MapIs.apart {w : World} {b : Nat} {ke : κ → Value} {ve : ν → Value} {l : List (κ × ν)} (h : MapIs w b ke ve l) (a : Addr) (v : Value) (hne : a.block ≠ b) : MapIs (w.setCell a v) b ke ve l := h.same (Below.heap_setCell _ _ _ _ (fun e => hne e.symm))
theorem MapIs.not_blk {w : World} {b B : Nat} {cs : Array Value} {T : TypeId} {ke : κ → Value} {ve : ν → Value} {l : List (κ × ν)} (h : MapIs w b ke ve l) (hB : Blk w B cs T) : b ≠ B := by
  rintro rfl
  obtain ⟨es, clock, h1, _⟩ := h
  rw [show w.heap[b]? = _ from hB] at h1
  cases h1
theorem mapIs_new (w : World) (n : Nat) (hn : w.heap.size = n) (ke : κ → Value) (ve : ν → Value) : MapIs (w.alloc (.map #[] 0)) n ke ve [] := by
  subst hn; exact ⟨#[], 0, heap_alloc_new w _, rfl, by simp, by simp⟩

theorem chg_set (w : World) (b n : Nat) (o : Obj) : Chg n b w (setBlock w b o) :=
  ⟨rfl, rfl, rfl, by simp [setBlock], fun k hk hd => by simp only [setBlock, Array.getElem?_setIfInBounds]; rw [if_neg (fun e => hd e.symm)]⟩
theorem set_at (w : World) (b : Nat) (o : Obj) (h : b < w.heap.size) : (setBlock w b o).heap[b]? = some o := by
  simp [setBlock, h]
theorem run_set {w : World} {b : Nat} {es : Array MapEntry} {c : Nat} (hb : w.heap[b]? = some (.map es c)) (o' : Obj) : (setObj b o').run P w = .ok () (setBlock w b o') := by
  simp [setObj, Sem.run, hb, setBlock]

end

section
variable {P : Program} {κ ν : Type} [DecidableEq κ] {w : World} {b : Nat} {ke : κ → Value} {ve : ν → Value} {l : List (κ × ν)} {T K E : TypeId}
theorem run_look (h : MapIs w b ke ve l) (hK : KeyOK P K ke) (hT : P.underlying T = some (.map K E)) {z : Value} (hz : (zeroValue E).run P w = .ok z w) (k : κ) (ok : Bool) :
    (Instr.lookup T (.map (some b)) (ke k) ok).run P w = .ok (if ok then .tuple #[((mget k l).map ve).getD z, .bool (mget k l).isSome] else ((mget k l).map ve).getD z) w := by
  obtain ⟨es, clock, hb, hp, hn, hc⟩ := h
  have hf := hK.find w k es.toList (l.map (·.1)) (keys_of hp)
  rw [find_look ke ve k l es.toList 0 hp] at hf
  simp only [Instr.lookup, Sem.run_bind, run_underlying hT, getObj, Sem.run, hb, Result.andThen, hK.check, hf, Sem.run_pure]
  cases mget k l <;> cases ok <;> simp [hz]

theorem look_key {k : κ} {v : ν} : ∀ {l : List (κ × ν)} {es : List MapEntry}, es.map pr = l.map (en ke ve) → mget k l = some v → ∃ e, es[midx k l]? = some e ∧ e.key = ke k ∧ e.val = ve v := by
  intro l
  induction l with
  | nil => intro es _ h; simp [mget] at h
  | cons p l ih =>
    intro es h hl
    obtain ⟨a, u⟩ := p
    cases es with
    | nil => simp at h
    | cons e es =>
      simp only [List.map_cons, List.cons.injEq] at h
      obtain ⟨h1, h2⟩ := h
      by_cases hk : k = a
      · simp only [mget, hk, if_true, Option.some.injEq] at hl
        subst hl
        exact ⟨e, by simp [midx, hk], by rw [hk]; exact congrArg Prod.fst h1, congrArg Prod.snd h1⟩
      · simp only [mget, hk, if_false] at hl
        obtain ⟨e', h3, h4⟩ := ih h2 hl
        exact ⟨e', by simpa [midx, hk] using h3, h4⟩
theorem put_there {k : κ} {v u : ν} (f : MapEntry → MapEntry) (hf : ∀ e, pr (f e) = (ke k, ve v)) : ∀ {l : List (κ × ν)} {es : List MapEntry}, es.map pr = l.map (en ke ve) → mget k l = some u → (es.modify (midx k l) f).map pr = (mput k v l).map (en ke ve) := by
  intro l
  induction l with
  | nil => intro es _ h; simp [mget] at h
  | cons p l ih =>
    intro es h hl
    obtain ⟨a, x⟩ := p
    cases es with
    | nil => simp at h
    | cons e es =>
      simp only [List.map_cons, List.cons.injEq] at h
      obtain ⟨h1, h2⟩ := h
      by_cases hk : k = a
      · simp [midx, mput, hk, h2, hf, en]
      · simp only [mget, hk, if_false] at hl
        simp [midx, mput, hk, h1, ih h2 hl]
theorem put_new {k : κ} {v : ν} : ∀ {l : List (κ × ν)}, mget k l = none → mput k v l = l ++ [(k, v)] := by
  intro l
  induction l with
  | nil => intro _; rfl
  | cons p l ih =>
    intro h
    obtain ⟨a, x⟩ := p
    by_cases hk : k = a
    · simp [mget, hk] at h
    · simp only [mget, hk, if_false] at h
      simp [mput, hk, ih h]
theorem del_there {k : κ} : ∀ {l : List (κ × ν)} {es : List MapEntry}, es.map pr = l.map (en ke ve) → (es.eraseIdx (midx k l)).map pr = (mdel k l).map (en ke ve) := by
  intro l
  induction l with
  | nil => intro es h; simp at h; subst h; simp [midx, mdel]
  | cons p l ih =>
    intro es h
    obtain ⟨a, x⟩ := p
    cases es with
    | nil => simp at h
    | cons e es =>
      simp only [List.map_cons, List.cons.injEq] at h
      obtain ⟨h1, h2⟩ := h
      by_cases hk : k = a
      · simp [midx, mdel, hk, h2]
      · simp [midx, mdel, hk, h1, ih h2]
theorem del_none {k : κ} : ∀ {l : List (κ × ν)}, mget k l = none → mdel k l = l := by
  intro l
  induction l with
  | nil => intro _; rfl
  | cons p l ih =>
    intro h
    obtain ⟨a, x⟩ := p
    by_cases hk : k = a
    · simp [mget, hk] at h
    · simp only [mget, hk, if_false] at h
      simp [mdel, hk, ih h]
theorem idx_lt {k : κ} {v : ν} : ∀ {l : List (κ × ν)}, mget k l = some v → midx k l < l.length := by
  intro l
  induction l with
  | nil => intro h; simp [mget] at h
  | cons p l ih =>
    intro h
    obtain ⟨a, x⟩ := p
    by_cases hk : k = a
    · simp [midx, hk]
    · simp only [mget, hk, if_false] at h
      have := ih h
      simp [midx, hk, this]

theorem run_put (h : MapIs w b ke ve l) (hK : KeyOK P K ke) (hT : P.underlying T = some (.map K E)) (k : κ) (v : ν) :
    ∃ w', (Instr.mapUpdate T (.map (some b)) (ke k) (ve v)).run P w = .ok () w' ∧ MapIs w' b ke ve (mput k v l) ∧ Chg w.heap.size b w w' ∧ w'.heap.size = w.heap.size := by
  have hlt := h.lt
  obtain ⟨es, clock, hb, hp, hn, hc⟩ := h
  have hf := hK.find w k es.toList (l.map (·.1)) (keys_of hp)
  rw [find_look ke ve k l es.toList 0 hp] at hf
  cases hl : mget k l with
  | none =>
    rw [hl] at hf
    refine ⟨setBlock w b (.map (es.push { key := ke k, val := ve v, born := clock }) (clock + 1)), ?_, ?_, chg_set _ _ _ _, by simp [setBlock]⟩
    · simp only [Instr.mapUpdate, Sem.run_bind, run_underlying hT, getObj, Sem.run, hb, Result.andThen, hK.check, hf, Option.map_none]
      simp [run_set hb]
    · refine ⟨_, _, set_at _ _ _ hlt, ?_, ?_, ?_⟩
      · rw [put_new hl]; simp [hp, pr, en]
      · simp only [Array.toList_push, List.map_append, List.map_cons, List.map_nil]
        rw [List.nodup_append]
        refine ⟨hn, by simp, fun x hx y hy => ?_⟩
        obtain rfl := List.mem_singleton.1 hy
        obtain ⟨e, he, rfl⟩ := List.mem_map.1 hx
        have := hc e he
        omega
      · intro x hx
        rw [Array.toList_push] at hx
        rcases List.mem_append.1 hx with hx | hx
        · have := hc x hx; omega
        · obtain rfl := List.mem_singleton.1 hx
          simp
  | some u =>
    rw [hl] at hf
    obtain ⟨e, h1, h2, h3⟩ := look_key hp hl
    have h1' : es[midx k l]? = some e := by simpa using h1
    refine ⟨setBlock w b (.map (es.modify (midx k l) fun e => { e with key := ke k, val := ve v }) clock), ?_, ?_, chg_set _ _ _ _, by simp [setBlock]⟩
    · simp only [Instr.mapUpdate, Sem.run_bind, run_underlying hT, getObj, Sem.run, hb, Result.andThen, hK.check, hf, Option.map_some, Nat.zero_add, h1', Option.getD_some, h2, hK.stays]
      simp [run_set hb]
    · refine ⟨_, _, set_at _ _ _ hlt, ?_, ?_, ?_⟩
      · rw [Array.toList_modify]; exact put_there (ke := ke) (ve := ve) (k := k) (v := v) (u := u) (fun e : MapEntry => { e with key := ke k, val := ve v }) (fun e => rfl) hp hl
      · rw [Array.toList_modify]
        have : (es.toList.modify (midx k l) fun e => { e with key := ke k, val := ve v }).map (·.born) = es.toList.map (·.born) := by
          apply List.ext_getElem?
          intro j
          simp only [List.getElem?_map, List.getElem?_modify]
          cases es.toList[j]? <;> simp
          split <;> rfl
        rw [this]; exact hn
      · intro x hx
        rw [Array.toList_modify] at hx
        obtain ⟨j, hj, rfl⟩ := List.mem_iff_getElem.1 hx
        rw [List.getElem_modify]
        have hm := hc (es.toList[j]'(by simpa using hj)) (List.getElem_mem _)
        split <;> exact hm

theorem run_del (h : MapIs w b ke ve l) (hK : KeyOK P K ke) (hT : P.underlying T = some (.map K E)) (k : κ) (ats : Array TypeId) (ty : TypeId) (hat : ats[0]? = some T) :
    ∃ w', (Builtin.delete_ ats ty #[.map (some b), ke k]).run P w = .ok (.tuple #[]) w' ∧ MapIs w' b ke ve (mdel k l) ∧ Chg w.heap.size b w w' ∧ w'.heap.size = w.heap.size := by
  have hlt := h.lt
  obtain ⟨es, clock, hb, hp, hn, hc⟩ := h
  have hf := hK.find w k es.toList (l.map (·.1)) (keys_of hp)
  rw [find_look ke ve k l es.toList 0 hp] at hf
  cases hl : mget k l with
  | none =>
    rw [hl] at hf
    refine ⟨setBlock w b (.map es clock), ?_, ⟨_, _, set_at _ _ _ hlt, by rw [del_none hl]; exact hp, hn, hc⟩, chg_set _ _ _ _, by simp [setBlock]⟩
    simp [Builtin.delete_, hat, run_underlying hT, getObj, Sem.run, hb, hK.check, hf, run_set hb]
  | some u =>
    rw [hl] at hf
    have hi : midx k l < es.size := by
      have h1 := idx_lt hl
      have h2 := congrArg List.length hp
      simp at h2; omega
    refine ⟨setBlock w b (.map (es.eraseIdxIfInBounds (midx k l)) clock), ?_, ⟨_, _, set_at _ _ _ hlt, ?_, ?_, ?_⟩, chg_set _ _ _ _, by simp [setBlock]⟩
    · simp [Builtin.delete_, hat, run_underlying hT, getObj, Sem.run, hb, hK.check, hf, run_set hb]
    · rw [Array.eraseIdxIfInBounds, dif_pos hi, Array.toList_eraseIdx]; exact del_there hp
    · rw [Array.eraseIdxIfInBounds, dif_pos hi, Array.toList_eraseIdx]
      exact List.Nodup.sublist ((List.eraseIdx_sublist _ _).map _) hn
    · intro x hx
      rw [Array.eraseIdxIfInBounds, dif_pos hi, Array.toList_eraseIdx] at hx
      exact hc x ((List.eraseIdx_sublist _ _).mem hx)
end
end Go.Proofs.Ytogjgpiddjmpiaa.Mp

/- Ranging over a map in memory: whichever entry comes, each once. -/
namespace Go.Proofs.Ytogjgpiddjmpiaa.Mp
open Go.RowKit Go.ChangeMaps Go.Proofs.Ytogjgpiddjmpiaa.Kit Go.Proofs.Ytogjgpiddjmpiaa.Blk

section
variable {P : Program} {κ ν : Type} {w w' : World} {r b : Nat} {ke : κ → Value} {ve : ν → Value} {l left : List (κ × ν)} {T K E : TypeId}
/-- An iterator in block r over the map of block b: 'left' has yet to come. -/
def IterIs (w : World) (r b : Nat) (ke : κ → Value) (ve : ν → Value) (l left : List (κ × ν)) : Prop :=
  ∃ es clock seen, w.heap[b]? = some (.map es clock) ∧ es.toList.map pr = l.map (en ke ve) ∧ (es.toList.map (·.born)).Nodup ∧ (∀ x ∈ es.toList, x.born < clock) ∧
    w.heap[r]? = some (.mapIter (some b) clock seen clock) ∧ (leftOf es seen).toList.map pr = left.map (en ke ve)
theorem IterIs.map (h : IterIs w r b ke ve l left) : MapIs w b ke ve l := by
  obtain ⟨es, clock, seen, h1, h2, h3, h4, _⟩ := h
  exact ⟨es, clock, h1, h2, h3, h4⟩
theorem IterIs.same (h : IterIs w r b ke ve l left) (hb : w'.heap[b]? = w.heap[b]?) (hr : w'.heap[r]? = w.heap[r]?) : IterIs w' r b ke ve l left := by
  obtain ⟨es, clock, seen, h1, h2, h3, h4, h5, h6⟩ := h
  exact ⟨es, clock, seen, hb.trans h1, h2, h3, h4, hr.trans h5, h6⟩
theorem IterIs.lt (h : IterIs w r b ke ve l left) : r < w.heap.size := by
  obtain ⟨es, clock, seen, h1, h2, h3, h4, h5, h6⟩ := h
  exact (Array.getElem?_eq_some_iff.1 h5).1
theorem IterIs.ne (h : IterIs w r b ke ve l left) : r ≠ b := by
  rintro rfl
  obtain ⟨es, clock, seen, h1, h2, h3, h4, h5, h6⟩ := h
  rw [h1] at h5; cases h5
theorem IterIs.not_blk {B U : Nat} {cs : Array Value} (h : IterIs w r b ke ve l left) (hB : Blk w B cs U) : r ≠ B := by
  rintro rfl
  obtain ⟨es, clock, seen, h1, h2, h3, h4, h5, h6⟩ := h
  rw [show w.heap[r]? = _ from hB] at h5; cases h5
theorem IterIs.chg {n d : Nat} (h : IterIs w r b ke ve l left) (hc : Chg n d w w') (hb : b < n) (hr : r < n) (hbd : b ≠ d) (hrd : r ≠ d) : IterIs w' r b ke ve l left :=
  h.same (hc.block b hb hbd) (hc.block r hr hrd)
theorem IterIs.below (h : IterIs w r b ke ve l left) (hb : Below w.heap.size w w') : IterIs w' r b ke ve l left := h.same (hb.block b h.map.lt) (hb.block r h.lt)
theorem IterIs.alloc (h : IterIs w r b ke ve l left) (o : Obj) : IterIs (w.alloc o) r b ke ve l left := h.below ((Below.refl _ _).alloc (Nat.le_refl _) o)
theorem IterIs.drew (h : IterIs w r b ke ve l left) : IterIs w.drew r b ke ve l left := h
theorem IterIs.apart (h : IterIs w r b ke ve l left) (a : Addr) (v : Value) (hb : a.block ≠ b) (hr : a.block ≠ r) : IterIs (w.setCell a v) r b ke ve l left :=
  h.same (Below.heap_setCell _ _ _ _ (fun e => hb e.symm)) (Below.heap_setCell _ _ _ _ (fun e => hr e.symm))

theorem run_range (h : MapIs w b ke ve l) (hT : P.underlying T = some (.map K E)) :
    ∃ o, (Instr.range T (.map (some b))).run P w = .ok (.pointer (some ⟨w.heap.size, 0, none⟩)) (w.alloc o) ∧ IterIs (w.alloc o) w.heap.size b ke ve l l := by
  have hlt := h.lt
  obtain ⟨es, clock, hb, hp, hn, hc⟩ := h
  refine ⟨.mapIter (some b) clock #[] clock, ?_, ⟨es, clock, #[], (Below.heap_alloc w _ b hlt).trans hb, hp, hn, hc, heap_alloc_new w _, ?_⟩⟩
  · simp [Instr.range, run_underlying hT, getObj, Sem.run, hb, newObj]
  · have e : (leftOf es #[]).toList = es.toList := by
      simp only [leftOf, Array.toList_filter]
      exact List.filter_eq_self.2 (fun x _ => by simp)
    rw [e]; exact hp

theorem map_split {α β γ : Type} {f : α → γ} {g : β → γ} : ∀ {a : List α} {x : α} {c : List α} {left : List β}, (a ++ x :: c).map f = left.map g → ∃ l1 p l2, left = l1 ++ p :: l2 ∧ a.map f = l1.map g ∧ f x = g p ∧ c.map f = l2.map g := by
  intro a
  induction a with
  | nil =>
    intro x c left h
    cases left with
    | nil => simp at h
    | cons p l2 =>
      simp only [List.nil_append, List.map_cons, List.cons.injEq] at h
      exact ⟨[], p, l2, rfl, rfl, h.1, h.2⟩
  | cons y a ih =>
    intro x c left h
    cases left with
    | nil => simp at h
    | cons p left =>
      simp only [List.cons_append, List.map_cons, List.cons.injEq] at h
      obtain ⟨l1, q, l2, h1, h2, h3, h4⟩ := ih h.2
      exact ⟨p :: l1, q, l2, by rw [h1]; rfl, by simp [h.1, h2], h3, h4⟩

/-- One step: nothing is left, or one that is left comes. -/
theorem run_next (h : IterIs w r b ke ve l left) (ty : TypeId) :
    (left = [] ∧ (Instr.next (.pointer (some ⟨r, 0, none⟩)) false ty).run P w = .ok (.tuple #[.bool false]) w) ∨
    ∃ l1 p l2 w', left = l1 ++ p :: l2 ∧ (Instr.next (.pointer (some ⟨r, 0, none⟩)) false ty).run P w = .ok (.tuple #[.bool true, ke p.1, ve p.2]) w' ∧
      (Instr.entry (.pointer (some ⟨r, 0, none⟩))).run P w' = .ok (.tuple #[ke p.1, ve p.2]) w' ∧ IterIs w' r b ke ve l (l1 ++ l2) ∧ Chg w.heap.size r w w' ∧ w'.heap.size = w.heap.size := by
  have hlt := h.lt
  have hne := h.ne
  obtain ⟨es, clock, seen, hb, hp, hn, hc, hr, hl⟩ := h
  rcases run_next_at (P := P) w ty r b clock clock seen es clock hr hb hc (Nat.le_refl _) with ⟨h0, hrun⟩ | ⟨e, he, w1, hw1, hrun⟩
  · left
    refine ⟨?_, hrun⟩
    have h1 : (leftOf es seen).toList = [] := by rw [← List.length_eq_zero_iff]; simpa using h0
    rw [h1] at hl
    cases left with
    | nil => rfl
    | cons p left => simp at hl
  · right
    have hes : e ∈ es.toList := by
      simp only [leftOf, Array.toList_filter, List.mem_filter] at he
      exact he.1
    obtain ⟨a, c, hac⟩ := List.append_of_mem he
    rw [hac] at hl
    obtain ⟨l1, p, l2, h1, h2, h3, h4⟩ := map_split hl
    have hk : e.key = ke p.1 := congrArg Prod.fst h3
    have hv : e.val = ve p.2 := congrArg Prod.snd h3
    have hb1 : w1.heap[b]? = some (.map es clock) := by rcases hw1 with rfl | rfl <;> exact hb
    have hs1 : w1.heap.size = w.heap.size := by rcases hw1 with rfl | rfl <;> rfl
    have hbn : (setBlock w1 r (.mapIter (some b) clock (seen.push e.born) clock)).heap[b]? = some (.map es clock) := by
      rw [(chg_set w1 r (b + 1) _).block b (by omega) (Ne.symm hne)]; exact hb1
    have hrn := set_at w1 r (.mapIter (some b) clock (seen.push e.born) clock) (by omega)
    have hent := run_entry_at (P := P) _ r b clock seen es clock e hrn hbn hes hn
    rw [hk, hv] at hrun hent
    refine ⟨l1, p, l2, _, h1, hrun, hent, ⟨es, clock, seen.push e.born, hbn, hp, hn, hc, hrn, ?_⟩, ?_, by simp [setBlock, hs1]⟩
    · have hnl : ((leftOf es seen).toList.map (·.born)).Nodup := by
        simp only [leftOf, Array.toList_filter]
        exact List.Nodup.sublist (List.filter_sublist.map _) hn
      have hf : (leftOf es (seen.push e.born)).toList = (leftOf es seen).toList.filter (fun x => x.born != e.born) := by
        simp only [leftOf, Array.toList_filter, List.filter_filter]
        apply List.filter_congr
        intro x _
        rw [Array.contains_push]
        cases hq : (x.born == e.born) <;> simp_all [bne]
      rw [hf, hac]
      rw [hac, List.map_append, List.map_cons, List.nodup_append, List.nodup_cons] at hnl
      obtain ⟨n1, ⟨n2, n3⟩, n4⟩ := hnl
      have fa : a.filter (fun x => x.born != e.born) = a := List.filter_eq_self.2 (fun x hx => by
        have := n4 _ (List.mem_map_of_mem hx) _ List.mem_cons_self
        simpa using this)
      have fc : c.filter (fun x => x.born != e.born) = c := List.filter_eq_self.2 (fun x hx => by
        have : x.born ≠ e.born := fun hq => n2 (by rw [← hq]; exact List.mem_map_of_mem hx)
        simpa using this)
      rw [List.filter_append, List.filter_cons, fa, fc]
      simp [h2, h4]
    · have h5 : Chg w.heap.size r w w1 := by rcases hw1 with rfl | rfl; exact Chg.refl _ _ _; exact (Chg.refl _ _ _).drew
      exact h5.trans (chg_set _ _ _ _)
end
end Go.Proofs.Ytogjgpiddjmpiaa.Mp

/- fix.Down and fix.Price. -/
namespace Go.Proofs.Ytogjgpiddjmpiaa.Fix
open Go.RowKit Go.Proofs.Ytogjgpiddjmpiaa.Kit

def down (p g : Int) : Int := if p < 0 ∨ g < 1 then 0 else p / g * g

theorem div_mul_le (p g : Int) (h : 1 ≤ g) : p / g * g ≤ p := Int.ediv_mul_le _ (by omega)
theorem div_mul_nonneg (p g : Int) (h0 : 0 ≤ p) (h : 1 ≤ g) : 0 ≤ p / g * g := Int.mul_nonneg (Int.ediv_nonneg h0 (by omega)) (by omega)
theorem wrap_in (n : Int) (h0 : -9223372036854775808 ≤ n) (h1 : n ≤ 9223372036854775807) : wrap64 n = n := by unfold wrap64; omega

theorem down_any (p g : Int) (w : World) (hp : p ≤ 9223372036854775807) :
    Calls Try.prog 119 #[.int .i64 p, .int .i64 g] w fun e w' => e = .returned (.int .i64 (down p g)) ∧ w = w' := by
  by_cases h0 : p < 0
  · go_enter Try.func119, Try.ntmps119
    go_wp2
    go_ret
    exact ⟨by simp [down, h0], rfl⟩
  · by_cases h1 : g < 1
    · go_enter Try.func119, Try.ntmps119
      go_wp2
      go_ret
      exact ⟨by simp [down, h1], rfl⟩
    · have hd := Lib.hid (wrap_in (p / g * g) (by have := div_mul_nonneg p g (by omega) (by omega); omega) (by have := div_mul_le p g (by omega); omega))
      have h0' : 0 ≤ p := by omega
      have h1' : 1 ≤ g := by omega
      go_enter Try.func119, Try.ntmps119
      go_wp2
      go_ret
      refine ⟨?_, rfl⟩
      have e : down p g = p / g * g := by unfold down; rw [if_neg (by omega)]
      rw [e]
      exact ret_int hd.out

def price (p g : Int) : Int := if g < 1 then 1 else if p < 1 ∨ 1099511627776 < p then 9 else if down p g = p then 0 else 8

theorem price_any (p g : Int) (w : World) :
    Calls Try.prog 83 #[.int .i64 p, .int .i64 g] w fun e w' => e = .returned (.int .i64 (price p g)) ∧ w = w' := by
  by_cases h0 : g < 1
  · go_enter Try.func83, Try.ntmps83
    go_wp2
    go_ret
    exact ⟨by simp [price, h0], rfl⟩
  · by_cases h1 : p < 1
    · go_enter Try.func83, Try.ntmps83
      go_wp2
      go_ret
      exact ⟨by simp [price, h0, h1], rfl⟩
    · by_cases h2 : 1099511627776 < p
      · go_enter Try.func83, Try.ntmps83
        go_wp2
        go_ret
        exact ⟨by simp [price, h0, h2], rfl⟩
      · by_cases hd : down p g = p
        · have hd' : (down p g != p) = false := by simp [hd]
          have HD := Lib.hid (show price p g = 0 by unfold price; rw [if_neg h0, if_neg (by omega), if_pos hd])
          clear hd
          go_enter Try.func83, Try.ntmps83
          go_wp2_with (go_at_call 119; refine (down_any _ _ _ (by omega)).mono ?_; rintro e w' ⟨rfl, rfl⟩)
          go_ret
          exact ⟨ret_int HD.out.symm, rfl⟩
        · have hd' : (down p g != p) = true := by simp [hd]
          have HD := Lib.hid (show price p g = 8 by unfold price; rw [if_neg h0, if_neg (by omega), if_neg hd])
          clear hd
          go_enter Try.func83, Try.ntmps83
          go_wp2_with (go_at_call 119; refine (down_any _ _ _ (by omega)).mono ?_; rintro e w' ⟨rfl, rfl⟩)
          go_ret
          exact ⟨ret_int HD.out.symm, rfl⟩
end Go.Proofs.Ytogjgpiddjmpiaa.Fix

/- Levels of prices: plain. -/
namespace Go.Proofs.Ytogjgpiddjmpiaa.Depth
open Go.RowKit Go.Proofs.Ytogjgpiddjmpiaa.Mp

structure Lvl where
  price : Int
  qty : Int
  ords : Int
def Lvl.cells (x : Lvl) : Array Value := #[.int .i64 x.price, .int .i64 x.qty, .int .i64 x.ords]
def lv (x : Lvl) : Value := .agg x.cells
def k64 (p : Int) : Value := .int .i64 p
instance : Inhabited Lvl := ⟨⟨0, 0, 0⟩⟩
/-- What rests: a price and a quantity each. -/
abbrev PQ := Int × Int
def sumF (V : List PQ) (p : Int) : Int := (V.map fun x => if x.1 = p then x.2 else 0).sum
def numF (V : List PQ) (p : Int) : Int := (V.map fun x => if x.1 = p then 1 else 0).sum
theorem sum_app (V W : List PQ) (p : Int) : sumF (V ++ W) p = sumF V p + sumF W p := by simp [sumF, List.sum_append]
theorem num_app (V W : List PQ) (p : Int) : numF (V ++ W) p = numF V p + numF W p := by simp [numF, List.sum_append]
theorem sum_one (x : PQ) (p : Int) : sumF [x] p = if x.1 = p then x.2 else 0 := by simp [sumF]
theorem num_one (x : PQ) (p : Int) : numF [x] p = if x.1 = p then 1 else 0 := by simp [numF]
theorem perm_sum {l m : List Int} (h : l.Perm m) : l.sum = m.sum := by
  induction h with
  | nil => rfl
  | cons x _ ih => simp [ih]
  | swap x y l => simp only [List.sum_cons]; omega
  | trans _ _ h1 h2 => rw [h1, h2]
theorem sum_perm {V W : List PQ} (h : V.Perm W) (p : Int) : sumF V p = sumF W p := perm_sum (h.map _)
theorem num_perm {V W : List PQ} (h : V.Perm W) (p : Int) : numF V p = numF W p := perm_sum (h.map _)
theorem sum_none {V : List PQ} {p : Int} (h : ∀ x ∈ V, x.1 ≠ p) : sumF V p = 0 := by
  induction V with
  | nil => rfl
  | cons x V ih =>
    have e : sumF (x :: V) p = (if x.1 = p then x.2 else 0) + sumF V p := rfl
    rw [e, if_neg (h x List.mem_cons_self), ih (fun y hy => h y (List.mem_cons_of_mem _ hy))]; rfl
theorem num_none {V : List PQ} {p : Int} (h : ∀ x ∈ V, x.1 ≠ p) : numF V p = 0 := by
  induction V with
  | nil => rfl
  | cons x V ih =>
    have e : numF (x :: V) p = (if x.1 = p then 1 else 0) + numF V p := rfl
    rw [e, if_neg (h x List.mem_cons_self), ih (fun y hy => h y (List.mem_cons_of_mem _ hy))]; rfl
theorem sum_in (V : List PQ) (m : Int) (hm : 0 ≤ m) (h : ∀ x ∈ V, 0 ≤ x.2 ∧ x.2 ≤ m) (p : Int) : 0 ≤ sumF V p ∧ sumF V p ≤ (V.length : Int) * m := by
  induction V with
  | nil => simp [sumF]
  | cons x V ih =>
    have ⟨h1, h2⟩ := ih (fun y hy => h y (List.mem_cons_of_mem _ hy))
    have hx := h x List.mem_cons_self
    have e : sumF (x :: V) p = (if x.1 = p then x.2 else 0) + sumF V p := rfl
    have hl : (((x :: V).length : Nat) : Int) * m = (V.length : Int) * m + m := by simp [Int.add_mul]
    rw [e, hl]
    split <;> omega
theorem num_in (V : List PQ) (p : Int) : 0 ≤ numF V p ∧ numF V p ≤ (V.length : Int) := by
  induction V with
  | nil => simp [numF]
  | cons x V ih =>
    have e : numF (x :: V) p = (if x.1 = p then 1 else 0) + numF V p := rfl
    rw [e]
    have hl : (((x :: V).length : Nat) : Int) = (V.length : Int) + 1 := by simp
    rw [hl]
    split <;> omega

/-- One order more, in a map of levels. -/
def putL (A : List (Int × Lvl)) (x : PQ) : List (Int × Lvl) :=
  mput x.1 ⟨x.1, ((mget x.1 A).map (·.qty)).getD 0 + x.2, ((mget x.1 A).map (·.ords)).getD 0 + 1⟩ A
def levelsA (V : List PQ) : List (Int × Lvl) := V.foldl putL []
theorem levels_snoc (V : List PQ) (x : PQ) : levelsA (V ++ [x]) = putL (levelsA V) x := by simp [levelsA, List.foldl_append]

theorem mget_mput {κ ν : Type} [DecidableEq κ] (k k' : κ) (v : ν) (l : List (κ × ν)) : mget k (mput k' v l) = if k = k' then some v else mget k l := by
  induction l with
  | nil => by_cases h : k = k' <;> simp [mput, mget, h]
  | cons p l ih =>
    obtain ⟨a, u⟩ := p
    by_cases h1 : k' = a
    · subst h1
      by_cases h : k = k' <;> simp [mput, mget, h]
    · by_cases h2 : k = a
      · have h3 : ¬ k = k' := fun e => h1 (e ▸ h2 ▸ rfl)
        subst h2
        simp [mput, mget, h1, h3]
      · simp only [mput, h1, if_false, mget, h2, ih]
theorem mput_keys {κ ν : Type} [DecidableEq κ] (k : κ) (v : ν) (l : List (κ × ν)) (h : (l.map (·.1)).Nodup) : ((mput k v l).map (·.1)).Nodup ∧ ∀ a, a ∈ (mput k v l).map (·.1) ↔ a = k ∨ a ∈ l.map (·.1) := by
  induction l with
  | nil => exact ⟨by simp [mput], fun a => by simp [mput]⟩
  | cons p l ih =>
    obtain ⟨b, u⟩ := p
    rw [List.map_cons, List.nodup_cons] at h
    by_cases hk : k = b
    · subst hk
      simp only [mput, if_true, List.map_cons, List.nodup_cons]
      exact ⟨h, fun a => by simp⟩
    · obtain ⟨i1, i2⟩ := ih h.2
      simp only [mput, hk, if_false, List.map_cons, List.nodup_cons]
      refine ⟨⟨fun hb => ?_, i1⟩, fun a => ?_⟩
      · rcases (i2 b).1 hb with e | hb
        · exact hk e.symm
        · exact h.1 hb
      · rw [List.mem_cons, List.mem_cons, i2]
        constructor
        · rintro (h | h | h)
          · exact .inr (.inl h)
          · exact .inl h
          · exact .inr (.inr h)
        · rintro (h | h | h)
          · exact .inr (.inl h)
          · exact .inl h
          · exact .inr (.inr h)
/-- What a map of levels holds behind some orders. -/
structure LvA (V : List PQ) (A : List (Int × Lvl)) : Prop where
  nodup : (A.map (·.1)).Nodup
  keys : ∀ p, p ∈ A.map (·.1) ↔ p ∈ V.map (·.1)
  get : ∀ p, p ∈ V.map (·.1) → mget p A = some ⟨p, sumF V p, numF V p⟩
theorem mget_none {κ ν : Type} [DecidableEq κ] {k : κ} {l : List (κ × ν)} (h : k ∉ l.map (·.1)) : mget k l = none := by
  induction l with
  | nil => rfl
  | cons p l ih =>
    obtain ⟨a, u⟩ := p
    simp only [List.map_cons, List.mem_cons, not_or] at h
    simp [mget, h.1, ih h.2]
theorem lvA_nil : LvA [] [] := ⟨by simp, by simp, by simp⟩
theorem lvA_put {V : List PQ} {A : List (Int × Lvl)} (h : LvA V A) (x : PQ) : LvA (V ++ [x]) (putL A x) ∧ putL A x = mput x.1 ⟨x.1, sumF V x.1 + x.2, numF V x.1 + 1⟩ A := by
  have hg : ((mget x.1 A).map (·.qty)).getD 0 = sumF V x.1 ∧ ((mget x.1 A).map (·.ords)).getD 0 = numF V x.1 := by
    by_cases hx : x.1 ∈ V.map (·.1)
    · rw [h.get _ hx]; exact ⟨rfl, rfl⟩
    · rw [mget_none (fun hc => hx ((h.keys _).1 hc))]
      have : ∀ y ∈ V, y.1 ≠ x.1 := fun y hy e => hx (e ▸ List.mem_map_of_mem hy)
      rw [sum_none this, num_none this]; exact ⟨rfl, rfl⟩
  have e : putL A x = mput x.1 ⟨x.1, sumF V x.1 + x.2, numF V x.1 + 1⟩ A := by unfold putL; rw [hg.1, hg.2]
  refine ⟨?_, e⟩
  rw [e]
  obtain ⟨i1, i2⟩ := mput_keys x.1 ⟨x.1, sumF V x.1 + x.2, numF V x.1 + 1⟩ A h.nodup
  refine ⟨i1, fun p => ?_, fun p hp => ?_⟩
  · rw [i2, h.keys, List.map_append, List.mem_append]
    simp only [List.map_cons, List.map_nil, List.mem_singleton]
    exact Or.comm
  · rw [mget_mput, sum_app, num_app, sum_one, num_one]
    by_cases hx : p = x.1
    · subst hx; simp
    · have hx' : ¬ x.1 = p := fun e => hx e.symm
      rw [if_neg hx, if_neg hx', if_neg hx', Int.add_zero, Int.add_zero]
      refine h.get p ?_
      simp only [List.map_append, List.mem_append, List.map_cons, List.map_nil, List.mem_singleton] at hp
      exact hp.resolve_right hx
theorem lvA (V : List PQ) : LvA V (levelsA V) := by
  have : ∀ V : List PQ, LvA V.reverse (levelsA V.reverse) := fun V => by
    induction V with
    | nil => exact lvA_nil
    | cons x V ih => rw [List.reverse_cons, levels_snoc]; exact (lvA_put ih x).1
  have h := this V.reverse
  rwa [List.reverse_reverse] at h

/-- Is the one price better? -/
def better (side x y : Int) : Bool := if side = 0 then decide (y < x) else if side = 1 then decide (x < y) else false
/-- The levels of what rests on a side: the best price first. -/
structure LvS (side : Int) (V : List PQ) (S : List Lvl) : Prop where
  ord : S.Pairwise (fun a b => better side a.price b.price = true)
  mem : ∀ x, x ∈ S ↔ x.price ∈ V.map (·.1) ∧ x.qty = sumF V x.price ∧ x.ords = numF V x.price
theorem better_trans {s x y z : Int} (h : better s x y = true) (g : better s y z = true) : better s x z = true := by
  unfold better at *
  split at h
  · rename_i h0
    rw [if_pos h0] at g ⊢
    simp only [decide_eq_true_eq] at *; omega
  · rename_i h0
    rw [if_neg h0] at g ⊢
    split at h
    · rename_i h1
      rw [if_pos h1] at g ⊢
      simp only [decide_eq_true_eq] at *; omega
    · exact absurd h (by simp)
theorem better_asymm {s x y : Int} (h : better s x y = true) : better s y x = false := by
  unfold better at *
  split at h
  · rename_i h0
    rw [if_pos h0]
    simp only [decide_eq_true_eq, decide_eq_false_iff_not] at *; omega
  · rename_i h0
    rw [if_neg h0]
    split at h
    · rename_i h1
      rw [if_pos h1]
      simp only [decide_eq_true_eq, decide_eq_false_iff_not] at *; omega
    · exact absurd h (by simp)
theorem sorted_unique {s : Int} : ∀ {S T : List Lvl}, S.Pairwise (fun a b => better s a.price b.price = true) → T.Pairwise (fun a b => better s a.price b.price = true) → (∀ x, x ∈ S ↔ x ∈ T) → S = T := by
  intro S
  induction S with
  | nil =>
    intro T _ _ h
    cases T with
    | nil => rfl
    | cons y T => exact absurd ((h y).2 List.mem_cons_self) (by simp)
  | cons x S ih =>
    intro T hS hT h
    cases T with
    | nil => exact absurd ((h x).1 List.mem_cons_self) (by simp)
    | cons y T =>
      rw [List.pairwise_cons] at hS hT
      have hxy : x = y := by
        rcases List.mem_cons.1 ((h x).1 List.mem_cons_self) with e | hx
        · exact e
        · rcases List.mem_cons.1 ((h y).2 List.mem_cons_self) with e | hy
          · exact e.symm
          · have h1 := hT.1 x hx
            have h2 := hS.1 y hy
            rw [better_asymm h1] at h2
            exact absurd h2 (by simp)
      subst hxy
      congr 1
      refine ih hS.2 hT.2 (fun z => ?_)
      have hn : ∀ U : List Lvl, (∀ a ∈ U, better s x.price a.price = true) → x ∉ U := fun U hU hx => by
        have := hU x hx
        have h2 := better_asymm this
        rw [this] at h2; exact absurd h2 (by simp)
      constructor
      · intro hz
        rcases List.mem_cons.1 ((h z).1 (List.mem_cons_of_mem _ hz)) with rfl | hz'
        · exact absurd hz (hn S hS.1)
        · exact hz'
      · intro hz
        rcases List.mem_cons.1 ((h z).2 (List.mem_cons_of_mem _ hz)) with rfl | hz'
        · exact absurd hz (hn T hT.1)
        · exact hz'
theorem lvS_unique {s : Int} {V W : List PQ} (hp : V.Perm W) {S T : List Lvl} (h : LvS s V S) (g : LvS s W T) : S = T :=
  sorted_unique h.ord g.ord fun x => by
    rw [h.mem, g.mem, sum_perm hp, num_perm hp, (hp.map (·.1)).mem_iff]
/-- The map's values, sorted. -/
theorem lvS_of {s : Int} {V : List PQ} {A : List (Int × Lvl)} (h : LvA V A) {S : List Lvl} (hp : S.Perm (A.map (·.2))) (ho : S.Pairwise (fun a b => better s a.price b.price = true)) : LvS s V S := by
  refine ⟨ho, fun x => ?_⟩
  have hk : ∀ {l : List (Int × Lvl)}, (l.map (·.1)).Nodup → ∀ p y, (p, y) ∈ l → mget p l = some y := by
    intro l
    induction l with
    | nil => intro _ p y h; simp at h
    | cons q l ih =>
      intro hn p y hm
      obtain ⟨a, u⟩ := q
      rw [List.map_cons, List.nodup_cons] at hn
      rcases List.mem_cons.1 hm with e | hm
      · injection e with e1 e2
        subst e1 e2; simp [mget]
      · have hpm : p ∈ l.map (·.1) := List.mem_map_of_mem (f := (·.1)) hm
        have : ¬ p = a := fun e => hn.1 (e ▸ hpm)
        simp only [mget, this, if_false]
        exact ih hn.2 p y hm
  rw [hp.mem_iff, List.mem_map]
  constructor
  · rintro ⟨⟨p, y⟩, hm, rfl⟩
    have h1 : p ∈ V.map (·.1) := (h.keys p).1 (List.mem_map_of_mem hm)
    have h2 := hk h.nodup p y hm
    rw [h.get p h1] at h2
    injection h2 with h2
    subst h2
    exact ⟨h1, rfl, rfl⟩
  · rintro ⟨h1, h2, h3⟩
    obtain ⟨⟨p, y⟩, hm, he⟩ := List.mem_map.1 ((h.keys x.price).2 h1)
    dsimp only at he
    have h4 := hk h.nodup p y hm
    rw [he, h.get _ h1] at h4
    injection h4 with h4
    refine ⟨(p, y), hm, ?_⟩
    show y = x
    rw [← h4, ← h2, ← h3]
end Go.Proofs.Ytogjgpiddjmpiaa.Depth

/- Levels by insertion, as the document's answer gives them: plain. -/
namespace Go.Proofs.Ytogjgpiddjmpiaa.Depth
open Go.RowKit Go.Proofs.Ytogjgpiddjmpiaa.Mp

/-- One order more, put where it belongs. -/
def insL (side : Int) : List Lvl → PQ → List Lvl
  | [], x => [⟨x.1, x.2, 1⟩]
  | y :: l, x => if y.price = x.1 then ⟨y.price, y.qty + x.2, y.ords + 1⟩ :: l else if better side x.1 y.price = true then ⟨x.1, x.2, 1⟩ :: y :: l else y :: insL side l x
theorem better_irrefl (s x : Int) : better s x x = false := by
  unfold better; split
  · simp
  · split <;> simp
theorem better_total {s x y : Int} (hs : s = 0 ∨ s = 1) (h : better s x y ≠ true) (hn : y ≠ x) : better s y x = true := by
  unfold better at *
  rcases hs with rfl | rfl
  · simp at *; omega
  · simp at *; omega
abbrev Ord (s : Int) (S : List Lvl) : Prop := S.Pairwise (fun a b => better s a.price b.price = true)
/-- What an insertion holds. -/
def InsMem (S : List Lvl) (x : PQ) (z : Lvl) : Prop :=
  (z.price ≠ x.1 ∧ z ∈ S) ∨ (∃ y ∈ S, y.price = x.1 ∧ z = ⟨x.1, y.qty + x.2, y.ords + 1⟩) ∨ ((∀ y ∈ S, y.price ≠ x.1) ∧ z = ⟨x.1, x.2, 1⟩)
theorem ins_mem {s : Int} {x : PQ} : ∀ {S : List Lvl}, Ord s S → ∀ z, z ∈ insL s S x ↔ InsMem S x z := by
  intro S
  induction S with
  | nil =>
    intro _ z
    simp [insL, InsMem]
  | cons y l ih =>
    intro ho z
    rw [Ord, List.pairwise_cons] at ho
    by_cases h1 : y.price = x.1
    · rw [insL, if_pos h1, List.mem_cons]
      have hl : ∀ u ∈ l, u.price ≠ x.1 := fun u hu e => by
        have := ho.1 u hu
        rw [h1, e, better_irrefl] at this; exact absurd this (by simp)
      constructor
      · rintro (rfl | hz)
        · exact .inr (.inl ⟨y, List.mem_cons_self, h1, by rw [h1]⟩)
        · exact .inl ⟨hl z hz, List.mem_cons_of_mem _ hz⟩
      · rintro (⟨hz, hm⟩ | ⟨u, hu, hp, rfl⟩ | ⟨hn, rfl⟩)
        · rcases List.mem_cons.1 hm with rfl | hm
          · exact absurd h1 hz
          · exact .inr hm
        · rcases List.mem_cons.1 hu with rfl | hu
          · exact .inl (by rw [h1])
          · exact absurd hp (hl u hu)
        · exact absurd h1 (hn y List.mem_cons_self)
    · by_cases h2 : better s x.1 y.price = true
      · rw [insL, if_neg h1, if_pos h2, List.mem_cons]
        have hl : ∀ u ∈ y :: l, u.price ≠ x.1 := fun u hu e => by
          rcases List.mem_cons.1 hu with rfl | hu
          · exact h1 e
          · have := better_trans h2 (ho.1 u hu)
            rw [e, better_irrefl] at this; exact absurd this (by simp)
        constructor
        · rintro (rfl | hz)
          · exact .inr (.inr ⟨hl, rfl⟩)
          · exact .inl ⟨hl z hz, hz⟩
        · rintro (⟨hz, hm⟩ | ⟨u, hu, hp, rfl⟩ | ⟨hn, rfl⟩)
          · exact .inr hm
          · exact absurd hp (hl u hu)
          · exact .inl rfl
      · rw [insL, if_neg h1, if_neg h2, List.mem_cons, ih ho.2]
        constructor
        · rintro (rfl | ⟨hz, hm⟩ | ⟨u, hu, hp, rfl⟩ | ⟨hn, rfl⟩)
          · exact .inl ⟨h1, List.mem_cons_self⟩
          · exact .inl ⟨hz, List.mem_cons_of_mem _ hm⟩
          · exact .inr (.inl ⟨u, List.mem_cons_of_mem _ hu, hp, rfl⟩)
          · exact .inr (.inr ⟨fun u hu => by rcases List.mem_cons.1 hu with rfl | hu; exact h1; exact hn u hu, rfl⟩)
        · rintro (⟨hz, hm⟩ | ⟨u, hu, hp, rfl⟩ | ⟨hn, rfl⟩)
          · rcases List.mem_cons.1 hm with rfl | hm
            · exact .inl rfl
            · exact .inr (.inl ⟨hz, hm⟩)
          · rcases List.mem_cons.1 hu with rfl | hu
            · exact absurd hp h1
            · exact .inr (.inr (.inl ⟨u, hu, hp, rfl⟩))
          · exact .inr (.inr (.inr ⟨fun u hu => hn u (List.mem_cons_of_mem _ hu), rfl⟩))
theorem ins_ord {s : Int} (hs : s = 0 ∨ s = 1) {x : PQ} : ∀ {S : List Lvl}, Ord s S → Ord s (insL s S x) := by
  intro S
  induction S with
  | nil => intro _; simp [insL]
  | cons y l ih =>
    intro ho
    have ho' := ho
    rw [Ord, List.pairwise_cons] at ho'
    by_cases h1 : y.price = x.1
    · rw [insL, if_pos h1, Ord, List.pairwise_cons]
      exact ho'
    · by_cases h2 : better s x.1 y.price = true
      · rw [insL, if_neg h1, if_pos h2, Ord, List.pairwise_cons]
        refine ⟨fun u hu => ?_, ho⟩
        rcases List.mem_cons.1 hu with rfl | hu
        · exact h2
        · exact better_trans h2 (ho'.1 u hu)
      · rw [insL, if_neg h1, if_neg h2, Ord, List.pairwise_cons]
        refine ⟨fun u hu => ?_, ih ho'.2⟩
        have hyx : better s y.price x.1 = true := better_total hs h2 h1
        rcases (ins_mem ho'.2 u).1 hu with ⟨_, hm⟩ | ⟨v, _, _, rfl⟩ | ⟨_, rfl⟩
        · exact ho'.1 u hm
        · exact hyx
        · exact hyx
theorem lvS_ins {s : Int} (hs : s = 0 ∨ s = 1) {V : List PQ} {S : List Lvl} (h : LvS s V S) (x : PQ) : LvS s (V ++ [x]) (insL s S x) := by
  refine ⟨ins_ord hs h.ord, fun z => ?_⟩
  rw [ins_mem h.ord, sum_app, num_app, sum_one, num_one]
  have hin : z.price ∈ (V ++ [x]).map (·.1) ↔ z.price ∈ V.map (·.1) ∨ z.price = x.1 := by simp
  rw [hin]
  have hnone : (∀ y ∈ S, y.price ≠ x.1) → ∀ u ∈ V, u.1 ≠ x.1 := fun hn u hu e =>
    hn ⟨x.1, sumF V x.1, numF V x.1⟩ ((h.mem _).2 ⟨e ▸ List.mem_map_of_mem (f := (·.1)) hu, rfl, rfl⟩) rfl
  constructor
  · rintro (⟨hz, hm⟩ | ⟨y, hy, hp, rfl⟩ | ⟨hn, rfl⟩)
    · have := (h.mem z).1 hm
      rw [if_neg (Ne.symm hz), if_neg (Ne.symm hz), Int.add_zero, Int.add_zero]
      exact ⟨.inl this.1, this.2⟩
    · have := (h.mem y).1 hy
      rw [hp] at this
      refine ⟨.inr rfl, ?_, ?_⟩
      · simp only [if_true]; rw [this.2.1]
      · simp only [if_true]; rw [this.2.2]
    · refine ⟨.inr rfl, ?_, ?_⟩
      · simp only [if_true]; rw [sum_none (hnone hn)]; simp
      · simp only [if_true]; rw [num_none (hnone hn)]; simp
  · rintro ⟨h1, h2, h3⟩
    by_cases hz : z.price = x.1
    · obtain ⟨zp, zq, zo⟩ := z
      dsimp only at *
      subst hz
      simp only [if_true] at h2 h3
      by_cases hV : x.1 ∈ V.map (·.1)
      · exact .inr (.inl ⟨⟨x.1, sumF V x.1, numF V x.1⟩, (h.mem _).2 ⟨hV, rfl, rfl⟩, rfl, by rw [h2, h3]⟩)
      · have hno : ∀ u ∈ V, u.1 ≠ x.1 := fun u hu e => hV (e ▸ List.mem_map_of_mem (f := (·.1)) hu)
        rw [sum_none hno] at h2
        rw [num_none hno] at h3
        refine .inr (.inr ⟨fun y hy e => hV ?_, by rw [h2, h3]; simp⟩)
        have := ((h.mem y).1 hy).1
        rwa [e] at this
    · have h1' := h1.resolve_right hz
      rw [if_neg (Ne.symm hz), Int.add_zero] at h2 h3
      exact .inl ⟨hz, (h.mem z).2 ⟨h1', h2, h3⟩⟩
/-- The document's levels of some orders. -/
def ofL (side : Int) (V : List PQ) : List Lvl := V.foldl (insL side) []
theorem ofL_snoc (side : Int) (V : List PQ) (x : PQ) : ofL side (V ++ [x]) = insL side (ofL side V) x := by simp [ofL, List.foldl_append]
theorem lvS_ofL {s : Int} (hs : s = 0 ∨ s = 1) (V : List PQ) : LvS s V (ofL s V) := by
  have : ∀ V : List PQ, LvS s V.reverse (ofL s V.reverse) := fun V => by
    induction V with
    | nil => exact ⟨List.Pairwise.nil, fun x => by simp [ofL]⟩
    | cons x V ih => rw [List.reverse_cons, ofL_snoc]; exact lvS_ins hs ih x
  have h := this V.reverse
  rwa [List.reverse_reverse] at h
end Go.Proofs.Ytogjgpiddjmpiaa.Depth

/- Numbers of 128 bits, bit by bit: plain laws. -/
namespace Go.Proofs.Ytogjgpiddjmpiaa.B128
set_option linter.unusedVariables false
open Go.RowKit

/-- 128 cells of a bool each. -/
def row (f : Nat → Bool) : Array Value := (Array.range 128).map fun i => Value.bool (f i)
theorem row_size (f : Nat → Bool) : (row f).size = 128 := by simp [row]
theorem row_at (f : Nat → Bool) (i : Nat) (h : i < 128) : (row f)[i]? = some (.bool (f i)) := by
  simp [row, h]
theorem row_set (f : Nat → Bool) (i : Nat) (b : Bool) : (row f).setIfInBounds i (.bool b) = row (fun j => if j = i then b else f j) := by
  apply Array.ext
  · simp [row]
  · intro j h1 h2
    simp only [Array.size_setIfInBounds, row_size] at h1
    rw [Array.getElem_setIfInBounds (by simpa [row_size] using h1)]
    simp only [row, Array.getElem_map, Array.getElem_range]
    by_cases e : i = j
    · subst e; simp
    · rw [if_neg e, if_neg (fun h => e h.symm)]
theorem row_ext {f g : Nat → Bool} (h : ∀ i, i < 128 → f i = g i) : row f = row g := by
  apply Array.ext
  · simp [row]
  · intro j h1 h2
    simp only [row_size] at h1
    simp [row, h j h1]
theorem row_one (f : Nat → Bool) : (row f).all (·.oneCell') = true := by
  rw [Array.all_eq_true]
  intro i hi
  simp [row, Value.oneCell']

abbrev B := BitVec 128
def bitsB (x : B) : Array Value := row x.getLsbD
theorem bits_size (x : B) : (bitsB x).size = 128 := row_size _
theorem bits_one (x : B) : (bitsB x).all (·.oneCell') = true := row_one _
theorem bits_of (x : B) (f : Nat → Bool) (h : ∀ i, i < 128 → f i = x.getLsbD i) : row f = bitsB x := row_ext h
theorem bits_zero : bitsB 0#128 = row (fun _ => false) := row_ext (fun i _ => by simp)

/-- The carry at bit i of a + b. -/
theorem add_bit (a b : B) (i : Nat) (h : i < 128) : (a + b).getLsbD i = ((a.getLsbD i ^^ b.getLsbD i) ^^ BitVec.carry i a b false) := by
  rw [BitVec.getLsbD_add h]
  cases a.getLsbD i <;> cases b.getLsbD i <;> cases BitVec.carry i a b false <;> rfl
theorem carry_next (a b : B) (i : Nat) : BitVec.carry (i + 1) a b false = ((a.getLsbD i && b.getLsbD i) || (BitVec.carry i a b false && (a.getLsbD i || b.getLsbD i))) := by
  rw [BitVec.carry_succ]
  cases a.getLsbD i <;> cases b.getLsbD i <;> cases BitVec.carry i a b false <;> rfl
theorem carry_zero (a b : B) : BitVec.carry 0 a b false = false := by simp [BitVec.carry, Nat.mod_one]
theorem carry_all (a b : B) : BitVec.carry 128 a b false = decide (2 ^ 128 ≤ a.toNat + b.toNat) := by
  simp [BitVec.carry, Nat.mod_eq_of_lt a.isLt, Nat.mod_eq_of_lt b.isLt]

theorem bit_div (x i : Nat) : x / 2 ^ i = 2 * (x / 2 ^ (i + 1)) + (if x.testBit i then 1 else 0) := by
  rw [Nat.testBit_eq_decide_div_mod_eq, Nat.pow_succ, ← Nat.div_div_eq_div_mul]
  by_cases h : x / 2 ^ i % 2 = 1
  · simp [h]; omega
  · simp [h]; omega
theorem div_eq (x y i : Nat) (h : ∀ j, i ≤ j → x.testBit j = y.testBit j) : x / 2 ^ i = y / 2 ^ i := by
  apply Nat.eq_of_testBit_eq
  intro j
  rw [Nat.testBit_div_two_pow, Nat.testBit_div_two_pow]
  exact h _ (by omega)
theorem cmp_lt (a b : B) (i : Nat) (h : ∀ j, i < j → a.getLsbD j = b.getLsbD j) (ha : a.getLsbD i = false) (hb : b.getLsbD i = true) : a.toNat < b.toNat := by
  rcases Nat.lt_or_ge a.toNat b.toNat with hlt | hge
  · exact hlt
  · exfalso
    have e := div_eq a.toNat b.toNat (i + 1) (fun j hj => by rw [BitVec.testBit_toNat, BitVec.testBit_toNat]; exact h j (by omega))
    have e1 := bit_div a.toNat i
    have e2 := bit_div b.toNat i
    rw [BitVec.testBit_toNat, ha] at e1
    rw [BitVec.testBit_toNat, hb] at e2
    have := Nat.div_le_div_right (c := 2 ^ i) hge
    simp at e1 e2
    omega
theorem cmp_eq (a b : B) (h : ∀ j, j < 128 → a.getLsbD j = b.getLsbD j) : a = b := BitVec.eq_of_getLsbD_eq h

/-- -1, 0, 1. -/
def cmp (a b : B) : Int := if a.toNat < b.toNat then -1 else if a.toNat = b.toNat then 0 else 1

theorem of_bit (hi lo : Nat) (hlo : lo < 2 ^ 64) (i : Nat) : (BitVec.ofNat 128 (hi * 2 ^ 64 + lo)).getLsbD i = if i < 64 then lo.testBit i else (decide (i < 128) && hi.testBit (i - 64)) := by
  rw [BitVec.getLsbD_ofNat]
  by_cases h : i < 64
  · rw [if_pos h, Nat.mul_comm, Nat.testBit_two_pow_mul_add _ hlo, if_pos h]
    simp; omega
  · rw [if_neg h, Nat.mul_comm, Nat.testBit_two_pow_mul_add _ hlo, if_neg h]

/-- The number of the low 64 bits below i, and of the high ones. -/
theorem low_next (n i : Nat) : n % 2 ^ (i + 1) = n % 2 ^ i + (if n.testBit i then 2 ^ i else 0) := by
  rw [Nat.mod_pow_succ, Nat.testBit_eq_decide_div_mod_eq]
  have h2 : n / 2 ^ i % 2 < 2 := Nat.mod_lt _ (by decide)
  by_cases h : n / 2 ^ i % 2 = 1
  · simp [h]
  · have h0 : n / 2 ^ i % 2 = 0 := by omega
    simp [h0]
theorem bit_int (n k : Nat) (hn : n < 2 ^ 64) : (Go.bits .and .u64 ((n : Int) / 2 ^ k) 1 == 1) = n.testBit k := by
  have e : ((n : Int) / 2 ^ k) = ((n / 2 ^ k : Nat) : Int) := by simp
  have hlt : n / 2 ^ k < 2 ^ 64 := Nat.lt_of_le_of_lt (Nat.div_le_self _ _) hn
  have h1 : Go.bits .and .u64 ((n / 2 ^ k : Nat) : Int) ((1 : Nat) : Int) = ((n / 2 ^ k &&& 1 : Nat) : Int) := by
    show IntKind.u64.wrap ((BitVec.ofInt 64 ((n / 2 ^ k : Nat) : Int) &&& BitVec.ofInt 64 ((1 : Nat) : Int)).toNat : Int) = _
    rw [BitVec.toNat_and, BitVec.ofInt_natCast, BitVec.ofInt_natCast, BitVec.toNat_ofNat, BitVec.toNat_ofNat, Nat.mod_eq_of_lt hlt, Nat.mod_eq_of_lt (by decide)]
    have hle : n / 2 ^ k &&& 1 ≤ 1 := Nat.and_le_right
    exact IntWalk.u64_in _ ⟨by omega, by omega⟩
  rw [e, show (1 : Int) = ((1 : Nat) : Int) from rfl, h1, Nat.testBit_eq_decide_div_mod_eq, Nat.and_one_is_mod]
  have h2 : n / 2 ^ k % 2 < 2 := Nat.mod_lt _ (by decide)
  by_cases h : n / 2 ^ k % 2 = 1
  · simp [h]
  · have h0 : n / 2 ^ k % 2 = 0 := by omega
    simp [h0]
theorem sub_as (a b : B) : a + (~~~b + BitVec.ofNat 128 (0 * 2 ^ 64 + 1)) = a - b := by
  rw [BitVec.sub_eq_add_neg, BitVec.neg_eq_not_add]
theorem cmp_ge (a b : B) : decide (0 ≤ cmp a b) = decide (b.toNat ≤ a.toNat) := by
  unfold cmp
  by_cases h1 : a.toNat < b.toNat
  · rw [if_pos h1]; have : ¬ b.toNat ≤ a.toNat := by omega
    simp [this]
  · rw [if_neg h1]
    have h3 : b.toNat ≤ a.toNat := by omega
    by_cases h2 : a.toNat = b.toNat
    · rw [if_pos h2]; simp [h3]
    · rw [if_neg h2]; simp [h3]
theorem mod_mul_l (a b m : Nat) : (a % m * b) % m = (a * b) % m := by
  rw [Nat.mul_mod, Nat.mod_mod, ← Nat.mul_mod]
/-- One step of a product. -/
theorem mul_step (a b k : Nat) : BitVec.ofNat 128 (a * (b % 2 ^ k)) + (BitVec.ofNat 128 (0 * 2 ^ 64 + a) <<< k) = BitVec.ofNat 128 (a * (b % 2 ^ k + 2 ^ k)) := by
  apply BitVec.eq_of_toNat_eq
  simp only [BitVec.toNat_add, BitVec.toNat_ofNat, BitVec.toNat_shiftLeft, Nat.zero_mul, Nat.zero_add, Nat.shiftLeft_eq]
  rw [Nat.mul_add, Nat.add_mod (a * (b % 2 ^ k) % 2 ^ 128), Nat.mod_mod, Nat.mod_mod, ← Nat.add_mod]
  rw [Nat.add_mod, mod_mul_l , ← Nat.add_mod]
/-- Halves of a number's bits, up to bit k. -/
theorem or_two_pow (x k : Nat) (h : x < 2 ^ k) : x ||| 2 ^ k = x + 2 ^ k := by
  have := Nat.two_pow_add_eq_or_of_lt h 1
  simp at this
  rw [Nat.or_comm, ← this, Nat.add_comm]
theorem shl_one (L : Nat) : BitVec.ofNat 128 L <<< (1 : Nat) = BitVec.ofNat 128 (2 * L) := by
  apply BitVec.eq_of_toNat_eq
  simp only [BitVec.toNat_ofNat, BitVec.toNat_shiftLeft, Nat.shiftLeft_eq]
  rw [mod_mul_l, Nat.mul_comm]
theorem set_low (L : Nat) (b : Bool) : row (fun j => if j = 0 then b else (BitVec.ofNat 128 (2 * L)).getLsbD j) = bitsB (BitVec.ofNat 128 (2 * L + b.toNat)) := row_ext (fun j hj => by
  rw [BitVec.getLsbD_ofNat, BitVec.getLsbD_ofNat]
  cases j with
  | zero => cases b <;> simp <;> omega
  | succ j =>
    rw [if_neg (by omega), Nat.testBit_succ, Nat.testBit_succ]
    have e1 : 2 * L / 2 = L := by omega
    have e2 : (2 * L + b.toNat) / 2 = L := by cases b <;> simp <;> omega
    rw [e1, e2])
/-- One step of a division. -/
theorem div_step (A d n : Nat) (hd : 0 < d) : (A / 2 ^ n) % d = (if d ≤ 2 * (A / 2 ^ (n + 1) % d) + (A.testBit n).toNat then 2 * (A / 2 ^ (n + 1) % d) + (A.testBit n).toNat - d else 2 * (A / 2 ^ (n + 1) % d) + (A.testBit n).toNat) ∧
    (A / d).testBit n = decide (d ≤ 2 * (A / 2 ^ (n + 1) % d) + (A.testBit n).toNat) := by
  have e := bit_div A n
  have hb : (if A.testBit n = true then 1 else 0) = (A.testBit n).toNat := by cases A.testBit n <;> rfl
  rw [hb] at e
  have hb1 : (A.testBit n).toNat ≤ 1 := by cases A.testBit n <;> simp
  generalize (A.testBit n).toNat = b at e hb1
  have hq : (A / d).testBit n = decide ((A / 2 ^ n) / d % 2 = 1) := by
    rw [Nat.testBit_eq_decide_div_mod_eq, Nat.div_div_eq_div_mul, Nat.div_div_eq_div_mul, Nat.mul_comm d]
  rw [hq, e]
  generalize A / 2 ^ (n + 1) = Y
  have hy := Nat.div_add_mod Y d
  have hlt := Nat.mod_lt Y hd
  generalize Y % d = L at hy hlt
  generalize Y / d = Q at hy
  have e2 : 2 * Y + b = d * (2 * Q) + (2 * L + b) := by rw [← hy, Nat.mul_add, Nat.mul_left_comm, Nat.add_assoc]
  rw [e2, Nat.mul_add_mod, Nat.mul_add_div hd]
  by_cases h : d ≤ 2 * L + b
  · rw [if_pos h]
    have h1 : (2 * L + b) / d = 1 := Nat.div_eq_of_lt_le (by omega) (by omega)
    have h2 : (2 * L + b) % d = 2 * L + b - d := by
      have := Nat.div_add_mod (2 * L + b) d
      rw [h1] at this; omega
    refine ⟨h2, ?_⟩
    rw [h1]; simp [h]
  · rw [if_neg h]
    have h1 : (2 * L + b) / d = 0 := Nat.div_eq_of_lt (by omega)
    refine ⟨Nat.mod_eq_of_lt (by omega), ?_⟩
    rw [h1]; simp [h]
end Go.Proofs.Ytogjgpiddjmpiaa.B128
