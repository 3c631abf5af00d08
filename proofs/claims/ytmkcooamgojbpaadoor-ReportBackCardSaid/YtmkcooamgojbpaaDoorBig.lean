/- Long arrays made at once. -/
import Derived.Test.YtmkcooamgojbpaaDoorBlkRow
import Derived.Laws.Rows
namespace Go.Proofs.YtmkcooamgojbpaaDoor.Blk
open Go.RowKit Go.Proofs.YtmkcooamgojbpaaDoor.Kit

section
variable {P : Program} {ops : Array Oper} {rest : List Oper} {op : Oper} {a : Act} {w : World} {Q : Exit → Act → World → Prop}
theorem run_alloc_big (T : TypeId) (i : TypeInfo) (hi : P.info? T = some i) (z : Value) (hz : i.zero = some z) (w : World) :
    (Instr.alloc T true (.tuple #[])).run P w = .ok (.pointer (some ⟨w.heap.size, 0, none⟩)) (w.alloc (.cells z.cells T)) := by
  simp [Instr.alloc, zeroValue, typeInfo, hi, hz, newVar, newRow]
theorem alloc_big (hgd : op.guard = none) (T : TypeId) (ho : op.op = .alloc T) (i : TypeInfo) (hi : P.info? T = some i) (z : Value) (hz : i.zero = some z)
    (hk : wpList P ops Q rest (a.put op.dst (.pointer (some ⟨w.heap.size, 0, none⟩))) (w.alloc (.cells z.cells T))) : wpList P ops Q (op :: rest) a w :=
  wpList_plain hgd fun _ hK => by
    unfold Oper.wp execOp
    simp only [ho, Sem.run_bind, Sem.run_pure, Result.andThen_ok, run_alloc_big T i hi z hz]
    exact hK _ _ hk
end
theorem results_blk_tmp {P : Program} {fn : Func} {p u : Tmp} {ty T : TypeId} {tmps : Array Value} {w : World} {B : Nat} {cs : Array Value} {d : TypeDesc} (h : fn.results = #[.cell p ty, .tmp u]) (hp : tmps.getD p undef = .pointer (some ⟨B, 0, none⟩)) (hb : Blk w B cs T)
    (hu : P.underlying ty = some d) (hd : d.isRow = true) (hi : (P.info? ty).map (·.size) = some cs.size) : (results fn tmps).run P w = .ok (.tuple #[.agg cs, tmps.getD u undef]) w := by
  have hp' : tmps[p]?.getD undef = .pointer (some ⟨B, 0, none⟩) := by simpa using hp
  have hl := run_loadVar_mid w B 0 ty cs.toList d hb.range hu hd (by simpa using hi)
  simp [results, h, hp', asAddr, hl]
theorem results_blk_blk {P : Program} {fn : Func} {p u : Tmp} {ty T U : TypeId} {tmps : Array Value} {w : World} {B C : Nat} {cs ds : Array Value} {d : TypeDesc} (h : fn.results = #[.cell p ty, .cell u ty]) (hp : tmps.getD p undef = .pointer (some ⟨B, 0, none⟩)) (hq : tmps.getD u undef = .pointer (some ⟨C, 0, none⟩)) (hb : Blk w B cs T) (hc : Blk w C ds U)
    (hu : P.underlying ty = some d) (hd : d.isRow = true) (hi : (P.info? ty).map (·.size) = some cs.size) (hj : (P.info? ty).map (·.size) = some ds.size) : (results fn tmps).run P w = .ok (.tuple #[.agg cs, .agg ds]) w := by
  have hp' : tmps[p]?.getD undef = .pointer (some ⟨B, 0, none⟩) := by simpa using hp
  have hq' : tmps[u]?.getD undef = .pointer (some ⟨C, 0, none⟩) := by simpa using hq
  have hl := run_loadVar_mid w B 0 ty cs.toList d hb.range hu hd (by simpa using hi)
  have hm := run_loadVar_mid w C 0 ty ds.toList d hc.range hu hd (by simpa using hj)
  simp [results, h, hp', hq', asAddr, hl, hm]
end Go.Proofs.YtmkcooamgojbpaaDoor.Blk
