/- Parts of the proof: CntW. -/
import Derived.Test.YtmkcooamgojbpaaDoorPart2
import Derived.Test.YtmkcooamgojbpaaDoorPart7
import Derived.Test.YtmkcooamgojbpaaDoorPart9
import Derived.Test.YtmkcooamgojbpaaDoorPart10
import Derived.Test.YtmkcooamgojbpaaDoorPart6

/- report.Counts. -/
namespace Go.Proofs.YtmkcooamgojbpaaDoor.Counts
open Go.RowKit Go.ChangeMaps Go.Proofs.YtmkcooamgojbpaaDoor.Kit Go.Proofs.YtmkcooamgojbpaaDoor.Blk Go.Proofs.YtmkcooamgojbpaaDoor.Mp Go.Proofs.YtmkcooamgojbpaaDoor.Msgs Go.Lib Go.Sort
attribute [local go_sem ↓] Go.wp_at_zero Go.wp_at_succ
set_option linter.unusedVariables false

def keyK (m : Msg) : KC := (m.kind, m.code)
def cntStep (sym : Int) (S : List Cnt) (m : Msg) : List Cnt := if m.sym = sym then insC (keyK m) m.qty S else S
/-- The counts of messages, before they are cut. -/
def cntS (sym : Int) (l : List Msg) : List Cnt := l.foldl (cntStep sym) []
theorem cntS_snoc (sym : Int) (l : List Msg) (m : Msg) : cntS sym (l ++ [m]) = cntStep sym (cntS sym l) m := by simp [cntS, List.foldl_append]
theorem bnd_find {n : Nat} {S : List Cnt} (h : ∀ c ∈ S, BndC n c) (k : KC) : BndC n ((findC k S).getD cnt0) := by
  cases e : findC k S with
  | none => exact bnd_zero n
  | some c => exact h c (List.mem_of_find?_eq_some e)
def SmallM (m : Msg) : Prop := -36028797018963968 ≤ m.qty ∧ m.qty ≤ 36028797018963968
/-- How many have yet to come. -/
def leftC (r b : Nat) (w : World) : Nat :=
  match w.heap[b]?, w.heap[r]? with
  | some (.map es _), some (.mapIter _ _ seen _) => (leftOf es seen).size
  | _, _ => 0
theorem leftC_of {κ ν : Type} {w : World} {r b : Nat} {ke : κ → Value} {ve : ν → Value} {l left : List (κ × ν)} (h : IterIs w r b ke ve l left) : leftC r b w = left.length := by
  obtain ⟨es, clock, seen, h1, h2, h3, h4, h5, h6⟩ := h
  unfold leftC
  rw [h1, h5]
  dsimp only
  have := congrArg List.length h6
  simpa using this
theorem infoCnt : (Tryd.prog.info? 85).map (fun i => (i.zero, i.size, i.bytes)) = some (some (.agg #[.int .i64 0, .int .i64 0, .int .i64 0, .int .i64 0]), 4, 32) := by kernel_rfl
theorem one_cnt (c : Cnt) : ∀ u ∈ c.cells.toList, u.oneCell' = true := by
  intro u hu
  simp [Cnt.cells] at hu
  rcases hu with rfl | rfl | rfl | rfl <;> rfl
/-- What is collected of a map. -/
def outC (vis : List (KC × Cnt)) : List Cnt := vis.map fun p => clampC p.2
theorem outC_snoc (vis : List (KC × Cnt)) (p : KC × Cnt) : outC (vis ++ [p]) = outC vis ++ [clampC p.2] := by simp [outC]
theorem rowsK_snoc (l : List Cnt) (c : Cnt) : rowsK (l ++ [c]) = rowsK l ++ c.cells.toList := by simp [rowsK]
def CountsIs (sym : Int) (l : List Msg) (w : World) (e : Ending) (w' : World) : Prop := ∃ v, e = .returned v ∧ CntRow w' w.heap.size v ((cntS sym l).map clampC) ∧ Below w.heap.size w w'

/-- The append, with what it leaves alone. -/
theorem gn_wp2 {P : Program} {n0 T s n nb : Nat} {w W : World} {v : Value} {xs : List Value} {cs : Array Value} {ops : Array Oper} {rest : List Oper} {o : Oper} {a : Act} {Q : Exit → Act → World → Prop} {c : Nat}
    (h : GN n0 T s w W v n xs nb cs) (hgd : o.guard = none) (sx x : Operand) (t : TypeId)
    (ho : o.op = .call { callee := .builtin .append, args := #[sx, x], argTypes := #[t, t] })
    (i : TypeInfo) (z : Value) (bytes : Nat) (ht : P.underlying t = some (.slice T)) (hi : P.info? T = some i) (hz : i.zero = some z)
    (hsize : i.size = s) (hby : i.bytes = bytes) (hzs : z.cells.size = s) (hsz : 0 < s)
    (hs : a.eval sx = v) (hx : a.eval x = .slice (some ⟨nb, 0, none⟩) 1 c) (hl : cs.size = s) (h1 : ∀ u ∈ cs.toList, u.oneCell' = true)
    (h63 : n + 1 ≤ maxLen) (hbytes : (n + 1) * bytes ≤ 140737488355328)
    (hK : ∀ g cap' W', GL n0 T s w W' (.slice (some ⟨g, 0, none⟩) (n + 1) cap') (n + 1) (xs ++ cs.toList) ∧ W.grownBy W' v.ownBlock → wpList P ops Q rest (a.put o.dst (.slice (some ⟨g, 0, none⟩) (n + 1) cap')) W') :
    wpList P ops Q (o :: rest) a W := by
  refine wpList_append_lies W hgd sx x t ho n0 T i z s bytes ht hi hz hsize hby hzs hsz v n xs hs h.gl.own ⟨nb, 0, none⟩ 1 c cs.toList hx (by simpa using hl) (World.news_of_block h.nr) h1 (by decide) h63 hbytes h.gl.le W.heap.size rfl ?_
  intro g cap' W' hown hgrow hat hlt
  exact hK g cap' W' ⟨h.push hown hgrow, hgrow⟩
theorem iter_grown {κ ν : Type} {n0 T s n r b : Nat} {W W' : World} {v : Value} {xs : List Value} {ke : κ → Value} {ve : ν → Value} {l left : List (κ × ν)} (hi : IterIs W r b ke ve l left) (ho : W.ownsRow n0 T s v n xs) (hg : W.grownBy W' v.ownBlock) : IterIs W' r b ke ve l left := by
  have hne : ∀ g, v.ownBlock = some g → b ≠ g ∧ r ≠ g := fun g e => by
    rcases ho.2 with ⟨rfl, _⟩ | ⟨g', cap, cur, rfl, _, hgb, _⟩
    · cases e
    · injection e with e
      subst e
      exact ⟨hi.map.not_blk (show Blk W g' cur T from hgb), hi.not_blk (show Blk W g' cur T from hgb)⟩
  exact hi.same (hg.block b hi.map.lt (fun e => (hne b e.symm).1 rfl)) (hg.block r hi.lt (fun e => (hne r e.symm).2 rfl))
theorem gl_next {κ ν : Type} {n0 T s n r b : Nat} {w W W' : World} {v : Value} {xs : List Value} {ke : κ → Value} {ve : ν → Value} {l left : List (κ × ν)} (h : GL n0 T s w W v n xs) (hi : IterIs W r b ke ve l left) (hr : n0 ≤ r) (hc : Chg W.heap.size r W W') : GL n0 T s w W' v n xs := by
  refine ⟨h.own.kept (row := some r) ⟨hc.os, hc.tape, hc.output, hc.size, fun k hk hne => hc.block k hk (fun e => hne (congrArg some e))⟩ ?_, h.bel.trans (hc.below' (m := n0) hr h.le), Nat.le_trans h.le hc.size, h.nil⟩
  cases e : v.ownBlock with
  | none => exact .inl rfl
  | some g =>
    refine .inr (fun e2 => ?_)
    injection e2 with e2
    subst e2
    rcases h.own.2 with ⟨rfl, _⟩ | ⟨g', cap, cur, rfl, _, hgb, _⟩
    · cases e
    · injection e with e
      subst e
      exact hi.not_blk (show Blk W g' cur T from hgb) rfl
set_option maxRecDepth 20000 in
set_option maxHeartbeats 4000000 in
theorem counts_any (a : Option Addr) (cap : Nat) (l : List Msg) (sym : Int) (w : World) (hr : MsgRow w a l) (hl : l.length ≤ 120) (hq : ∀ m ∈ l, SmallM m) :
    Calls Tryd.prog 57 #[.slice a l.length cap, .int .i64 sym] w (CountsIs sym l w) := by
  have hmm := @run_makeMap Tryd.prog
  have HR := Lib.hid (fun k hk => msgRow_at hr k hk)
  have HQ := Lib.hid hq
  clear hr hq
  go_enter Tryd.func57, Tryd.ntmps57
  go_wp2_with fail
  go_loopw [15] (fun i wr => ∃ (k : Nat) (A : List (KC × Cnt)), k ≤ l.length ∧ i = .int .i64 k ∧ MapIs wr w.heap.size kk cv A ∧ RelC A (cntS sym (l.take k)) ∧ (∀ c ∈ cntS sym (l.take k), BndC k c) ∧ A.length ≤ k ∧ Below w.heap.size w wr) (fun i _ => l.length - (intOf i).toNat)
  case atStart => exact ⟨0, [], by omega, rfl, mapIs_new w w.heap.size rfl kk cv, rel_nil, fun c h => (by cases h), Nat.le_refl _, (Below.refl _ _).alloc (Nat.le_refl _) _⟩
  case round =>
    clear hmm
    obtain ⟨k, A, hk, rfl, hm, hre, hbd, hlen, hbel⟩ := hrel
    have HRE := Lib.hid hre
    have HBD := Lib.hid hbd
    have HBEL := Lib.hid hbel
    clear hre hbd hbel
    by_cases hlt : k < l.length
    · obtain ⟨gl, off, rfl, hgl, hcell⟩ := HR.out k hlt
      have HT := Lib.hid (List.take_succ_eq_append_getElem hlt)
      have hqm := HQ.out l[k] (List.getElem_mem hlt)
      have hcs : wr.rangeAt gl (off + k * 9) l[k].cells.toList := fun j u hu => by rw [HBEL.out.cell (p := ⟨gl, _, none⟩) hgl]; exact hcell j u hu
      have g0 : (0 : Int) ≤ (k : Int) := by omega
      have g1 : (k : Int) < (l.length : Int) := by omega
      clear hcell
      generalize l[k] = m at hcs HT hqm
      have c0 : wr.cell? ⟨gl, off + k * 9, none⟩ = some (.int .i64 m.kind) := hcs 0 _ rfl
      have c1 : wr.cell? ⟨gl, off + k * 9 + 1, none⟩ = some (.int .i64 m.sym) := hcs 1 _ rfl
      have c2 : wr.cell? ⟨gl, off + k * 9 + 2, none⟩ = some (.int .i64 m.seq) := hcs 2 _ rfl
      have c3 : wr.cell? ⟨gl, off + k * 9 + 3, none⟩ = some (.int .i64 m.tick) := hcs 3 _ rfl
      have c4 : wr.cell? ⟨gl, off + k * 9 + 4, none⟩ = some (.int .i64 m.id) := hcs 4 _ rfl
      have c5 : wr.cell? ⟨gl, off + k * 9 + 5, none⟩ = some (.int .i64 m.wth) := hcs 5 _ rfl
      have c6 : wr.cell? ⟨gl, off + k * 9 + 6, none⟩ = some (.int .i64 m.price) := hcs 6 _ rfl
      have c7 : wr.cell? ⟨gl, off + k * 9 + 7, none⟩ = some (.int .i64 m.qty) := hcs 7 _ rfl
      have c8 : wr.cell? ⟨gl, off + k * 9 + 8, none⟩ = some (.int .i64 m.code) := hcs 8 _ rfl
      clear hcs
      have HM0 := Lib.hid hm
      have HB1 := Lib.hid (HBEL.out.alloc HBEL.out.size (.cells m.cells 62))
      have HM1 := Lib.hid (hm.old (.cells m.cells 62))
      clear hm
      by_cases hs : m.sym = sym
      · have b1 : (m.sym != sym) = false := by simp [hs]
        have HST := Lib.hid (show cntS sym (l.take (k + 1)) = insC (keyK m) m.qty (cntS sym (l.take k)) by rw [HT.out, cntS_snoc, cntStep, if_pos hs])
        have hold := bnd_find HBD.out (keyK m)
        have HRE1 := Lib.hid (rel_add HRE.out (keyK m) m.qty)
        have HBD1 := Lib.hid (bnd_ins HBD.out hqm (keyK m))
        have HLEN := Lib.hid (show (addA A (keyK m) m.qty).length ≤ k + 1 from Nat.le_trans (put_lenP _ _ _) (by omega))
        have HM2 := Lib.hid (HM1.out.old (.cells #[.int .i64 m.kind, .int .i64 m.code] 171))
        have hlk := look_c HM2.out (keyK m)
        have HAD := Lib.hid (show addA A (keyK m) m.qty = mput (keyK m) (more (keyK m) m.qty ((mget (keyK m) A).getD cnt0)) A from rfl)
        rw [← HRE.out.get] at hold
        generalize (mget (keyK m) A).getD cnt0 = o at hlk hold HAD
        obtain ⟨o1, o2, o3, o4⟩ := o
        have HM3 := Lib.hid (HM2.out.old (.cells #[.int .i64 o1, .int .i64 o2, .int .i64 o3, .int .i64 o4] 85))
        obtain ⟨W4, hup, hm4, hc4, hs4⟩ := put_c HM3.out (keyK m) ⟨m.kind, m.code, o3 + 1, o4 + m.qty⟩
        have HM4 := Lib.hid hm4
        have HB2 := Lib.hid ((HB1.out.alloc HB1.out.size (.cells #[.int .i64 m.kind, .int .i64 m.code] 171)).alloc (by have := HB1.out.size; rw [World.size_alloc]; omega) (.cells #[.int .i64 o1, .int .i64 o2, .int .i64 o3, .int .i64 o4] 85))
        have HB4 := Lib.hid (HB2.out.trans (hc4.below' (m := w.heap.size) (Nat.le_refl _) HB2.out.size))
        obtain ⟨⟨q1, q2⟩, q3, q4⟩ := hold
        dsimp only at q1 q2 q3 q4
        obtain ⟨u1, u2⟩ := hqm
        have u3 : -4611686018427387904 ≤ o4 + m.qty := by omega
        have u4 : o4 + m.qty ≤ 4611686018427387904 := by omega
        clear hm4 hc4 hs4 hs HM3 HM2 HM1 HM0 HB2 HB1
        unfold Msg.cells Cnt.cells at *
        unfold keyK at hlk hup
        dsimp only at hlk hup
        go_wp2_with fail
        go_roundw
        case rel => exact ⟨k + 1, _, by omega, by go_num, HM4.out, by rw [HST.out]; have := HRE1.out; rw [HAD.out] at this; exact this, by rw [HST.out]; exact HBD1.out, by have := HLEN.out; rw [HAD.out] at this; exact this, HB4.out⟩
        case measure => simp [intOf]; omega
      · have b1 : (m.sym != sym) = true := by simpa using hs
        have HST := Lib.hid (show cntS sym (l.take (k + 1)) = cntS sym (l.take k) by rw [HT.out, cntS_snoc, cntStep, if_neg hs])
        clear hs HM0
        unfold Msg.cells at *
        go_wp2_with fail
        go_roundw
        case rel => exact ⟨k + 1, A, by omega, by go_num, HM1.out, by rw [HST.out]; exact HRE.out, by rw [HST.out]; exact fun c hc => bnd_next (HBD.out c hc), by omega, HB1.out⟩
        case measure => simp [intOf]; omega
    · have hke : k = l.length := by omega
      subst hke
      rw [List.take_length] at HRE HBD
      obtain ⟨o, hrange, hit⟩ := run_range (P := Tryd.prog) hm (T := 170) Tryd.underlying170
      have HIT := Lib.hid hit
      have HB1 := Lib.hid (HBEL.out.alloc HBEL.out.size o)
      obtain ⟨i0, hi0, hz0, hz1, hz2⟩ := info_parts infoCnt
      have HGL := Lib.hid (GL.start w.heap.size 85 4 HB1.out HB1.out.size)
      have HRB := Lib.hid HBEL.out.size
      clear hit hm
      go_wp2_with fail
      generalize wr.heap.size = r at HIT HRB hrange ⊢
      go_loopw [4] (fun v wr => ∃ vis left, (vis ++ left).Perm A ∧ IterIs wr r w.heap.size kk cv A left ∧ GL w.heap.size 85 4 w wr v vis.length (rowsK (outC vis))) (fun _ wr => leftC r w.heap.size wr)
      case atStart => exact ⟨[], A, List.Perm.refl _, HIT.out, HGL.out⟩
      case round =>
        clear HIT HGL HB1 hrange
        obtain ⟨vis, left, hp, hi, hg⟩ := hrel
        have HP := Lib.hid hp
        have HG := Lib.hid hg
        clear hp hg
        generalize u4 = v at HG ⊢
        rcases run_next (P := Tryd.prog) hi 0 with ⟨rfl, hnext⟩ | ⟨l1, p, l2, W2, rfl, hnext, hent, hi2, hc2, -⟩
        · have HPS := Lib.hid (show (outC vis).Perm ((cntS sym l).map clampC) from by
            have h1 := HP.out
            rw [List.append_nil] at h1
            have h2 := (h1.map (·.2)).trans (rel_perm HRE.out)
            have h3 := h2.map clampC
            rw [List.map_map] at h3
            exact h3)
          have HSO := Lib.hid (sorted_clamp HRE.out.sorted)
          have hlv : (outC vis).length = vis.length := by simp [outC]
          have hvl : vis.length ≤ 120 := by have := HP.out.length_eq; simp at this; omega
          clear hi
          by_cases hv : vis = []
          · subst hv
            obtain rfl := HG.out.nil rfl
            have HE := Lib.hid (show (cntS sym l).map clampC = [] from List.perm_nil.1 HPS.out.symm)
            go_wp2_with fail
            refine (sort_none none 0 _ _).mono ?_
            rintro e w' ⟨rfl, rfl⟩
            go_wp2_with fail
            go_ret
            exact ⟨_, rfl, by rw [HE.out]; exact ⟨none, 0, rfl, Nat.le_refl _, Nat.zero_le _, fun i h => by simp at h⟩, HG.out.bel⟩
          · have hpos : 0 < vis.length := List.length_pos_iff.2 hv
            obtain ⟨g, vc, rfl, hgn, hgw, hvc, hvm⟩ : ∃ g vc, v = .slice (some ⟨g, 0, none⟩) vis.length vc ∧ w.heap.size ≤ g ∧ g < wr.heap.size ∧ vis.length ≤ vc ∧ vc ≤ maxLen := by
              rcases HG.out.own.2 with ⟨_, h0⟩ | ⟨g, vc, cur, hv, hg, hgb, h1, h2, h3⟩
              · omega
              · exact ⟨g, vc, hv, hg, (Array.getElem?_eq_some_iff.1 hgb).1, h1, h2⟩
            have hH := holds_of_own (N := w.heap.size) (g := g) (cap := vc) (ys := outC vis) (w := wr) (by rw [hlv]; exact HG.out.own)
            have hsf := sortFunc_any g vc (outC vis).toArray wr hH hgw (by simp [hlv]; omega)
            rw [show (outC vis).toArray.size = vis.length by simp [hlv]] at hsf
            have HSF := Lib.hid hsf
            have HVC := Lib.hid (And.intro hvc hvm)
            clear hH hsf hv hvc hvm
            go_wp2_with fail
            refine HSF.out.mono ?_
            rintro e w' ⟨rfl, d', hpm, hso, hh, hc⟩
            obtain ⟨e1, e2⟩ := sorted_of HSO.out HPS.out (by rw [hlv]; exact hpm) (by rw [hlv]; exact hso)
            have HD := Lib.hid e1
            have e3 : d'.toList.length = vis.length := by rw [Array.length_toList, e2, hlv]
            have HB := Lib.hid (HG.out.bel.trans (hc.below' (m := w.heap.size) hgn HG.out.le))
            have HRW := Lib.hid (show CntRow w' w.heap.size (.slice (some ⟨g, 0, none⟩) vis.length vc) d'.toList from ⟨_, vc, by rw [e3], by rw [e3]; exact HVC.out.1, HVC.out.2, fun i hi => ⟨g, rfl, hgn, Nat.lt_of_lt_of_le hgw hc.size, fun j u hu => cells_of_holds hh i (by simpa using hi) j u (by simpa using hu)⟩⟩)
            clear hpm hso hh hc e1 e2 HSF
            go_wp2_with fail
            go_ret
            exact ⟨_, rfl, by rw [← HD.out]; exact HRW.out, HB.out⟩
        · obtain ⟨⟨k1, k2⟩, x, y, z, t⟩ := p
          change (Instr.next _ false 0).run Tryd.prog wr = .ok (.tuple #[.bool true, .agg #[.int .i64 k1, .int .i64 k2], .agg #[.int .i64 x, .int .i64 y, .int .i64 z, .int .i64 t]]) W2 at hnext
          change (Instr.entry _).run Tryd.prog W2 = .ok (.tuple #[.agg #[.int .i64 k1, .int .i64 k2], .agg #[.int .i64 x, .int .i64 y, .int .i64 z, .int .i64 t]]) W2 at hent
          have HG2 := Lib.hid (gl_next HG.out hi HRB.out hc2)
          have HI0 := Lib.hid hi
          have HI2 := Lib.hid hi2
          have HPP := Lib.hid (show ((vis ++ [((k1, k2), (⟨x, y, z, t⟩ : Cnt))]) ++ (l1 ++ l2)).Perm A from by
            refine List.Perm.trans ?_ HP.out
            rw [List.append_assoc]
            exact List.Perm.append_left _ (List.perm_middle (a := ((k1, k2), (⟨x, y, z, t⟩ : Cnt))) (l₁ := l1) (l₂ := l2)).symm)
          have hvl : vis.length + 1 ≤ 120 := by have := HPP.out.length_eq; simp at this; omega
          have HN := Lib.hid (show GN w.heap.size 85 4 w ((W2.alloc (.cells (clampC ⟨x, y, z, t⟩).cells 85)).alloc (.cells (clampC ⟨x, y, z, t⟩).cells 85)) v vis.length (rowsK (outC vis)) (W2.heap.size + 1) (clampC ⟨x, y, z, t⟩).cells from by
            have := (HG2.out.alloc (.cells (clampC ⟨x, y, z, t⟩).cells 85)).new (clampC ⟨x, y, z, t⟩).cells
            rw [World.size_alloc] at this
            exact this)
          have HI3 := Lib.hid ((HI2.out.alloc (.cells (clampC ⟨x, y, z, t⟩).cells 85)).alloc (.cells (clampC ⟨x, y, z, t⟩).cells 85))
          have HBG := Lib.hid HG2.out.le
          clear hi hi2 hc2 HG HP HG2 HI2
          go_wp2_with (at_builtin; refine gn_wp2 HN.out rfl _ _ 80 (by rfl) i0 (.agg #[.int .i64 0, .int .i64 0, .int .i64 0, .int .i64 0]) 32 Tryd.underlying80 hi0 hz0 hz1 hz2 rfl (by decide) (by rfl) (by rfl) (cnt_size _) (one_cnt _) (by unfold maxLen; omega) (by omega) ?_; intro g5 cap5 w5 H5; replace H5 := Lib.hid H5)
          go_roundw
          case rel => exact ⟨vis ++ [((k1, k2), ⟨x, y, z, t⟩)], l1 ++ l2, HPP.out, iter_grown HI3.out HN.out.gl.own H5.out.2, by rw [List.length_append, outC_snoc, rowsK_snoc]; exact H5.out.1⟩
          case measure => rw [leftC_of HI0.out, leftC_of (iter_grown HI3.out HN.out.gl.own H5.out.2)]; simp
end Go.Proofs.YtmkcooamgojbpaaDoor.Counts
