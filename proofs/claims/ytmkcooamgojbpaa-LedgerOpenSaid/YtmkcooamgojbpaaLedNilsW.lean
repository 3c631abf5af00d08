/- damperlaw31.LedgerNils: the walk. -/
import Derived.Test.YtmkcooamgojbpaaLedAlive
import Derived.Test.YtmkcooamgojbpaaIter
import Derived.Deep.DrawnRows
namespace Go.Proofs.Ytmkcooamgojbpaa.Ledger
open Go.RowKit Go.Shelf Go.ChangeMaps Go.Proofs.Ytmkcooamgojbpaa.Kit Go.Proofs.Ytmkcooamgojbpaa.Blk Go.Proofs.Ytmkcooamgojbpaa.Mp Go.Proofs.Ytmkcooamgojbpaa.Qty Go.Proofs.Ytmkcooamgojbpaa.Msgs Go.Proofs.Ytmkcooamgojbpaa.Iter
attribute [local go_sem] Oper.semAt_some wide_fn
attribute [local go_sem ↓] Go.wp_at_zero Go.wp_at_succ
set_option linter.unusedVariables false

theorem results_bool {P : Program} {fn : Func} {p : Tmp} {ty T : TypeId} {tmps : Array Value} {w : World} {B : Nat} {b : Bool} (hb : Blk w B #[.bool b] T) (h : fn.results = #[.cell p ty]) (hu : P.underlying ty = some .bool) (hp : tmps.getD p undef = .pointer (some ⟨B, 0, none⟩) := by rfl) : (results fn tmps).run P w = .ok (.bool b) w := by
  have hc : w.cell? ⟨B, 0, none⟩ = some (.bool b) := hb.cell 0 rfl
  have hp' : tmps[p]?.getD undef = .pointer (some ⟨B, 0, none⟩) := by simpa using hp
  have hag := run_isAgg_plain hu rfl w
  simp [results, h, hp', asAddr, loadVar, hag, hc, go_sem]
theorem open_any (v : Value) (hv : v = .pointer none ∨ ∃ D, v = .pointer (some ⟨D, 0, none⟩)) (sym : Int) (w : World) : Calls Try.prog 10 #[v, .int .i64 sym] w fun e w' => e = .returned (.func (.func 23) #[] #[.pointer (some ⟨w.heap.size, 0, none⟩), .pointer (some ⟨w.heap.size + 1, 0, none⟩)]) ∧
    w' = (w.alloc (.cells #[v] 24)).alloc (.cells #[.int .i64 sym] 3) := by
  rcases hv with rfl | ⟨D, rfl⟩
  · go_enter Try.func10, Try.ntmps10
    go_wp2_with fail
    go_ret
    exact ⟨rfl, rfl⟩
  · go_enter Try.func10, Try.ntmps10
    go_wp2_with fail
    go_ret
    exact ⟨rfl, rfl⟩
theorem open_nil_stops (n : Nat) (hn : 1 ≤ n) (Bs By : Nat) (w : World) (hBs : Blk w Bs #[.pointer none] 24) :
    SeqStopsK Fence.wide n Try.prog 23 #[.pointer (some ⟨Bs, 0, none⟩), .pointer (some ⟨By, 0, none⟩)] (fun x : Int => #[Value.int .i64 x]) (fun _ _ => True) (fun ys => ys = []) (fun _ => False) 0 w := fun l J Jx W hW hJ _ hY h0 => by
  refine callsIn_of_wp Try.func23 rfl trivial ?_ rfl
  simp only [Try.ntmps23, List.size_toArray, List.length_cons, List.length_nil, Nat.reduceAdd, Nat.reduceSub, Array.replicate_succ, Array.replicate_zero, List.push_toArray, List.append_toArray, List.nil_append, List.cons_append]
  have c0 : W.cell? ⟨Bs, 0, none⟩ = some (.pointer none) := (hBs.below hW hBs.lt).cell 0 rfl
  gi_wp2
  refine bodyPost_ret (results_none rfl _ _ _) rfl ?_
  exact ⟨⟨_, rfl⟩, h0⟩
set_option maxRecDepth 100000 in
set_option maxHeartbeats 2000000 in
theorem nils_law (m : Msg) (w : World) : Calls Try.prog 4 #[.agg m.cells] w fun e w' => e = .returned (.bool true) ∧ Below w.heap.size w w' := by
  refine of_wide (n := 9) ?_
  refine callsIn_of_wp_marks Try.func4 rfl trivial ?_ rfl
  simp only [Try.ntmps4, List.size_toArray, List.length_cons, List.length_nil, Nat.reduceAdd, Nat.reduceSub, Array.replicate_succ, Array.replicate_zero, List.push_toArray, List.append_toArray, List.nil_append, List.cons_append]
  have HB := Lib.hid (show Below w.heap.size w ((w.alloc (.cells m.cells 33)).alloc (.cells #[.bool false] 4)) from ((Below.refl _ _).alloc (Nat.le_refl _) _).alloc (by simp) _)
  have HM := Lib.hid ((Blk.new w m.cells 33 w.heap.size rfl).old (.cells #[.bool false] 4))
  have HR := Lib.hid (Blk.new (w.alloc (.cells m.cells 33)) #[.bool false] 4 (w.heap.size + 1) (by simp))
  have HPN := Lib.hid (put_nil m)
  unfold Msg.cells at *
  gi_wp2_with fail
  generalize (w.alloc (.cells #[.int .i64 m.kind, .int .i64 m.sym, .int .i64 m.seq, .int .i64 m.tick, .int .i64 m.id, .int .i64 m.wth, .int .i64 m.price, .int .i64 m.qty, .int .i64 m.code] 33)).alloc (.cells #[.bool false] 4) = W0 at HB HM HR ⊢
  refine (to_wide (alive_any _)).mono ?_
  rintro e w1 ⟨rfl, hb1⟩
  have HB1 := Lib.hid (HB.out.trans (hb1.mono HB.out.size))
  have HM1 := Lib.hid (HM.out.below hb1 HM.out.lt)
  have HR1 := Lib.hid (HR.out.below hb1 HR.out.lt)
  clear hb1 HB HM HR
  have c1 : w1.cell? ⟨w.heap.size, 1, none⟩ = some (.int .i64 m.sym) := HM1.out.cell 1 rfl
  gi_wp2_with fail
  refine (to_wide (open_any _ (.inl rfl) m.sym w1)).mono ?_
  rintro e w2 ⟨rfl, rfl⟩
  have HO := Lib.hid ((Blk.new w1 #[.pointer none] 24 w1.heap.size rfl).old (.cells #[.int .i64 m.sym] 3))
  have HB2 := Lib.hid ((HB1.out.alloc HB1.out.size (.cells #[.pointer none] 24)).alloc (Nat.le_trans HB1.out.size (by simp)) (.cells #[.int .i64 m.sym] 3))
  have HM2 := Lib.hid ((HM1.out.old (.cells #[.pointer none] 24)).old (.cells #[.int .i64 m.sym] 3))
  have HR2 := Lib.hid ((HR1.out.old (.cells #[.pointer none] 24)).old (.cells #[.int .i64 m.sym] 3))
  clear HB1 HM1 HR1 c1
  generalize (w1.alloc (.cells #[.pointer none] 24)).alloc (.cells #[.int .i64 m.sym] 3) = W2 at HO HB2 HM2 HR2 ⊢
  gi_wp2_with fail
  refine wpIn_rangeFunc_ownG (w0 := W2) rfl (by decide) (gf := 23) (lb := #[.pointer (some ⟨w1.heap.size, 0, none⟩), .pointer (some ⟨w1.heap.size + 1, 0, none⟩)]) rfl trivial (enters_of Try.func23 (by kernel_rfl) rfl)
    (open_nil_stops 8 (by decide) w1.heap.size (w1.heap.size + 1) W2 HO.out) (fun _ _ => trivial) (fun _ _ _ _ _ _ _ _ => trivial) (Below.refl _ _) (fun _ => rfl)
    (fun pre W => (Blk W w.heap.size m.cells 33 ∧ Blk W (w.heap.size + 1) #[.bool false] 4) ∧ Below w.heap.size w W)
    (fun _ _ _ => False)
    (OwnFrom.and (Own.from (own_ck fun s X Y h hk => ⟨ck_blk h.1 hk, ck_blk h.2 hk⟩) _) (ownFrom_below (Nat.le_refl _) HB2.out.size))
    (fun c s W W' row hs _ _ => hs)
    ⟨⟨HM2.out, HR2.out⟩, HB2.out⟩
    (fun x => { tmps := #[.agg #[.int .i64 m.kind, .int .i64 m.sym, .int .i64 m.seq, .int .i64 m.tick, .int .i64 m.id, .int .i64 m.wth, .int .i64 m.price, .int .i64 m.qty, .int .i64 m.code], .pointer (some ⟨w.heap.size, 0, none⟩), .pointer (some ⟨w.heap.size + 1, 0, none⟩), .pointer none, undef, undef, .bool true, .bool false, .pointer none, .pointer (some ⟨w.heap.size, 1, none⟩), .int .i64 m.sym,
      .func (.func 23) #[] #[.pointer (some ⟨w1.heap.size, 0, none⟩), .pointer (some ⟨w1.heap.size + 1, 0, none⟩)], .int .i64 x, undef, undef, undef, undef, undef, undef, undef, undef, undef, undef, undef, undef, undef, undef, undef, undef, undef, undef, undef, undef, undef, undef, undef, undef, undef, undef, undef, undef, undef, undef, undef, undef], defers := [] }) ?assign ?body ?done ?stop
  case assign =>
    intro l x W K hK
    gi_wp2
    exact hK
  case body =>
    intro l pre x W hI hlen
    exact absurd hlen (Nat.not_lt_zero _)
  case stop =>
    intro E c pre W hE hpre hX hK
    exact hpre.elim
  case done =>
    rintro E xs W hE rfl ⟨⟨hm, hr⟩, hB⟩ hK
    have HM3 := Lib.hid hm
    have HR3 := Lib.hid hr
    have HB3 := Lib.hid hB
    have HK3 := Lib.hid hK
    have HE := Lib.hid hE
    have c1 : W.cell? ⟨w.heap.size, 1, none⟩ = some (.int .i64 m.sym) := hm.cell 1 rfl
    have c4 : W.cell? ⟨w.heap.size, 4, none⟩ = some (.int .i64 m.id) := hm.cell 4 rfl
    clear hm hr hB hK hE
    gi_wp2_with fail
    refine (to_wide (get_nil m.sym m.id W)).mono ?_
    rintro e w3 ⟨rfl, hb3⟩
    have HLT := Lib.hid (Array.getElem?_eq_some_iff.1 HK3.out).1
    have HBB := Lib.hid (hb3.alloc hb3.size (.cells acc0.cells 41))
    have HM4 := Lib.hid (HM3.out.below HBB.out HM3.out.lt)
    have HR4 := Lib.hid (HR3.out.below HBB.out HR3.out.lt)
    have HB4 := Lib.hid (HB3.out.trans (HBB.out.mono HB3.out.size))
    have HK4 := Lib.hid ((HBB.out.block E HLT.out).trans HK3.out)
    clear hb3 HM3 HR3 HB3 HK3 HBB c1 c4
    unfold acc0 Acc.cells at *
    have d0 : (w3.alloc (.cells #[.int .i64 0, .int .i64 0, .int .i64 0, .int .i64 0] 41)).cell? ⟨w.heap.size, 0, none⟩ = some (.int .i64 m.kind) := HM4.out.cell 0 rfl
    have d1 : (w3.alloc (.cells #[.int .i64 0, .int .i64 0, .int .i64 0, .int .i64 0] 41)).cell? ⟨w.heap.size, 1, none⟩ = some (.int .i64 m.sym) := HM4.out.cell 1 rfl
    have d2 : (w3.alloc (.cells #[.int .i64 0, .int .i64 0, .int .i64 0, .int .i64 0] 41)).cell? ⟨w.heap.size, 2, none⟩ = some (.int .i64 m.seq) := HM4.out.cell 2 rfl
    have d3 : (w3.alloc (.cells #[.int .i64 0, .int .i64 0, .int .i64 0, .int .i64 0] 41)).cell? ⟨w.heap.size, 3, none⟩ = some (.int .i64 m.tick) := HM4.out.cell 3 rfl
    have d4 : (w3.alloc (.cells #[.int .i64 0, .int .i64 0, .int .i64 0, .int .i64 0] 41)).cell? ⟨w.heap.size, 4, none⟩ = some (.int .i64 m.id) := HM4.out.cell 4 rfl
    have d5 : (w3.alloc (.cells #[.int .i64 0, .int .i64 0, .int .i64 0, .int .i64 0] 41)).cell? ⟨w.heap.size, 5, none⟩ = some (.int .i64 m.wth) := HM4.out.cell 5 rfl
    have d6 : (w3.alloc (.cells #[.int .i64 0, .int .i64 0, .int .i64 0, .int .i64 0] 41)).cell? ⟨w.heap.size, 6, none⟩ = some (.int .i64 m.price) := HM4.out.cell 6 rfl
    have d7 : (w3.alloc (.cells #[.int .i64 0, .int .i64 0, .int .i64 0, .int .i64 0] 41)).cell? ⟨w.heap.size, 7, none⟩ = some (.int .i64 m.qty) := HM4.out.cell 7 rfl
    have d8 : (w3.alloc (.cells #[.int .i64 0, .int .i64 0, .int .i64 0, .int .i64 0] 41)).cell? ⟨w.heap.size, 8, none⟩ = some (.int .i64 m.code) := HM4.out.cell 8 rfl
    gi_wp2_with fail
    refine (to_wide (HPN.out _)).mono ?_
    rintro e w5 ⟨rfl, hb5⟩
    have HL4 := Lib.hid (show E < (w3.alloc (.cells #[.int .i64 0, .int .i64 0, .int .i64 0, .int .i64 0] 41)).heap.size from by have := (Array.getElem?_eq_some_iff.1 HK4.out).1; exact this)
    have HM5 := Lib.hid (HM4.out.below hb5 HM4.out.lt)
    have HR5 := Lib.hid (HR4.out.below hb5 HR4.out.lt)
    have HB5 := Lib.hid (HB4.out.trans (hb5.mono HB4.out.size))
    have HK5 := Lib.hid ((hb5.block E HL4.out).trans HK4.out)
    clear hb5 HM4 HR4 HB4 HK4 HL4 d0 d1 d2 d3 d4 d5 d6 d7 d8
    have e1 : w5.cell? ⟨w.heap.size, 1, none⟩ = some (.int .i64 m.sym) := HM5.out.cell 1 rfl
    gi_wp2_with fail
    refine (to_wide (sums_nil m.sym w5)).mono ?_
    rintro e w6 ⟨rfl, hb6⟩
    have HL5 := Lib.hid (show E < w5.heap.size from by have := (Array.getElem?_eq_some_iff.1 HK5.out).1; exact this)
    have HM6 := Lib.hid (HM5.out.below hb6 HM5.out.lt)
    have HR6 := Lib.hid (HR5.out.below hb6 HR5.out.lt)
    have HB6 := Lib.hid (HB5.out.trans (hb6.mono HB5.out.size))
    have HK6 := Lib.hid ((hb6.block E HL5.out).trans HK5.out)
    clear hb6 HM5 HR5 HB5 HK5 HL5 e1
    unfold acc0 Acc.cells
    have e1 : w6.cell? ⟨w.heap.size, 1, none⟩ = some (.int .i64 m.sym) := HM6.out.cell 1 rfl
    have r1 : w6.cell? ⟨w.heap.size + 1, 0, none⟩ = some (.bool false) := HR6.out.cell 0 rfl
    have f1 := HR6.out.free 0
    gi_wp2_with fail
    refine (to_wide (owes_nil m.sym w6)).mono ?_
    rintro e w7 ⟨rfl, he7⟩
    obtain rfl := he7.symm
    have HRS := Lib.hid (HR6.out.set 0 (.bool true))
    have HKS := Lib.hid ((KeepsOthers.setCell w6 ⟨w.heap.size + 1, 0, none⟩ (.bool true)).same E _ HK6.out rfl)
    have HBS := Lib.hid (HB6.out.setCell (p := ⟨w.heap.size + 1, 0, none⟩) (by show w.heap.size ≤ w.heap.size + 1; omega) (.bool true))
    have HEE := Lib.hid (show w.heap.size ≤ E from by have := HE.out; have := HB2.out.size; omega)
    have HEND := Lib.hid (HBS.out.trans (belowK_b (w := w) (Nat.le_refl _) _ E _ (.deferred none) HEE.out HKS.out rfl rfl))
    have HRR := Lib.hid (ck_blk HRS.out (ck_of_put (o := .deferred none) HKS.out))
    clear HM6
    gi_wp2_with fail
    refine ⟨by simp, .inl ⟨_, _, rfl, run_takeDeferred HKS.out, ?_⟩⟩
    exact ⟨_, results_bool HRR.out rfl Try.underlying4, rfl, HEND.out⟩
end Go.Proofs.Ytmkcooamgojbpaa.Ledger
