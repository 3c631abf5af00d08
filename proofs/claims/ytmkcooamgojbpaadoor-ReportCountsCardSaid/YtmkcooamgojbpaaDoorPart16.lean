/- Parts of the proof: CntR. -/
import Derived.Test.YtmkcooamgojbpaaDoorPart11
import Derived.Test.YtmkcooamgojbpaaDoorPart14
import Derived.Test.YtmkcooamgojbpaaDoorPart15
import Derived.Deep.DeepCutAuto
import Derived.Deep.CutBlock

/- damperref36.Counts. -/
namespace Go.Proofs.YtmkcooamgojbpaaDoor.Counts
open Go.RowKit Go.Proofs.YtmkcooamgojbpaaDoor.Kit Go.Proofs.YtmkcooamgojbpaaDoor.Blk Go.Proofs.YtmkcooamgojbpaaDoor.Mp Go.Proofs.YtmkcooamgojbpaaDoor.Msgs Go.Proofs.YtmkcooamgojbpaaDoor.Own Go.Proofs.YtmkcooamgojbpaaDoor.Octets
attribute [local go_sem ↓] Go.wp_at_zero Go.wp_at_succ
set_option linter.unusedVariables false

/-- Where a key stands. -/
def AheadC (S : List Cnt) (key : KC) (k : Nat) : Prop := ∀ j, (hj : j < S.length) → j < k → klt S[j].key key = true
theorem ahead_zero (S : List Cnt) (key : KC) : AheadC S key 0 := fun j _ h => absurd h (by omega)
theorem ahead_next {S : List Cnt} {key : KC} {k : Nat} (h : AheadC S key k) (hk : k < S.length) (h1 : klt S[k].key key = true) : AheadC S key (k + 1) := fun j hj hjk => by
  by_cases h3 : j < k
  · exact h j hj h3
  · obtain rfl : j = k := by omega
    exact h1
theorem insC_skip {key : KC} {q : Int} : ∀ {S : List Cnt} {k : Nat}, AheadC S key k → k ≤ S.length → insC key q S = S.take k ++ insC key q (S.drop k) := by
  intro S
  induction S with
  | nil => intro k _ h; simp
  | cons c S ih =>
    intro k hp hk
    cases k with
    | zero => simp
    | succ k =>
      have h0 := hp 0 (by simp) (by omega)
      rw [List.getElem_cons_zero] at h0
      have := ih (k := k) (fun j hj hjk => by have := hp (j + 1) (by simpa using hj) (by omega); simpa using this) (by simpa using hk)
      rw [insC, if_pos h0, this]
      simp
/-- The place is there, and what comes of it. -/
def AtC (S1 : List Cnt) (key : KC) (q : Int) (S : List Cnt) (k : Nat) : Prop := ∃ hk : k < S1.length, S1[k].key = key ∧ insC key q S = S1.set k (more key q S1[k])
theorem at_hit {S : List Cnt} {key : KC} {q : Int} {k : Nat} (hp : AheadC S key k) (hk : k < S.length) (he : S[k].key = key) : AtC S key q S k := by
  refine ⟨hk, he, ?_⟩
  rw [insC_skip hp (by omega), List.drop_eq_getElem_cons hk, insC, he, klt_irrefl, if_neg (by simp), if_pos rfl, List.set_eq_take_append_cons_drop, if_pos hk]
theorem at_new {S : List Cnt} {key : KC} {q : Int} {k : Nat} (hp : AheadC S key k) (hk : k ≤ S.length) (he : k = S.length ∨ ∃ h : k < S.length, klt S[k].key key = false ∧ S[k].key ≠ key) :
    AtC (S.take k ++ [⟨key.1, key.2, 0, 0⟩] ++ S.drop k) key q S k := by
  have hl : (S.take k).length = k := by rw [List.length_take]; omega
  have hlt : k < (S.take k ++ [(⟨key.1, key.2, 0, 0⟩ : Cnt)] ++ S.drop k).length := by simp; omega
  have hget : (S.take k ++ [(⟨key.1, key.2, 0, 0⟩ : Cnt)] ++ S.drop k)[k] = ⟨key.1, key.2, 0, 0⟩ := by
    rw [List.getElem_append_left (by simp; omega), List.getElem_append_right (by omega)]
    simp [hl]
  refine ⟨hlt, by rw [hget]; rfl, ?_⟩
  rw [hget, insC_skip hp hk, List.append_assoc, List.set_append_right _ _ (by omega), hl, Nat.sub_self, List.cons_append, List.set_cons_zero, List.nil_append]
  congr 1
  rcases he with he | ⟨h, h1, h2⟩
  · subst he; simp [insC, more, cnt0]
  · rw [List.drop_eq_getElem_cons h, insC, h1, if_neg (by simp), if_neg h2]
    rfl
/-- The list so far, and the message under way. -/
structure CR (n0 : Nat) (w W : World) (v : Value) (S : List Cnt) (B : Nat) (m : Msg) : Prop where
  gl : GL n0 86 4 w W v S.length (rowsK S)
  mb : Blk W B m.cells 62
section
variable {n0 B : Nat} {w W W' : World} {v : Value} {S : List Cnt} {m : Msg}
theorem CR.below (h : CR n0 w W v S B m) (hb : Below W.heap.size W W') : CR n0 w W' v S B m := ⟨h.gl.below hb, h.mb.below hb h.mb.lt⟩
theorem CR.drewN (h : CR n0 w W v S B m) (n : Nat) : CR n0 w (W.drewN n) v S B m := h.below ((Below.refl _ _).drewN n)
theorem CR.drew (h : CR n0 w W v S B m) : CR n0 w W.drew v S B m := ⟨h.gl.drew, h.mb⟩
theorem gl_at (h : GL n0 86 4 w W v S.length (rowsK S)) : ∃ a cap, v = .slice a S.length cap ∧ S.length ≤ cap ∧ cap ≤ maxLen ∧ ∀ i, (hi : i < S.length) → ∃ g, a = some ⟨g, 0, none⟩ ∧ n0 ≤ g ∧ g < W.heap.size ∧ W.rangeAt g (i * 4) S[i].cells.toList :=
  owned_at Cnt.cells 4 cnt_size h.own
theorem CR.row {a : Option Addr} {n cap : Nat} (h : CR n0 w W (.slice a n cap) S B m) : ∀ i, (hi : i < S.length) → ∃ g, a = some ⟨g, 0, none⟩ ∧ n0 ≤ g ∧ g < W.heap.size ∧ W.rangeAt g (i * 4) S[i].cells.toList := by
  obtain ⟨a', cap', e, _, _, hh⟩ := gl_at h.gl
  injection e with e1 e2 e3
  subst e1
  exact hh
theorem CR.len {a : Option Addr} {n cap : Nat} (h : CR n0 w W (.slice a n cap) S B m) : n = S.length := by
  obtain ⟨a', cap', e, _, _, hh⟩ := gl_at h.gl
  injection e
theorem CR.ne {g n cap : Nat} (h : CR n0 w W (.slice (some ⟨g, 0, none⟩) n cap) S B m) : g ≠ B := fun e => by
  rcases h.gl.own.2 with ⟨h0, _⟩ | ⟨g', cap', cur, hv, _, hgb, _⟩
  · cases h0
  · injection hv with hv
    injection hv with hv
    injection hv with hv
    subst hv e
    have := (show Blk W g cur 86 from hgb).symm.trans h.mb
    injection this with this
    injection this with _ e2 _
    exact absurd e2 (by decide)
theorem CR.free {g n cap : Nat} (h : CR n0 w W (.slice (some ⟨g, 0, none⟩) n cap) S B m) (j : Nat) : W.frozen? ⟨g, j, none⟩ = false := by
  obtain rfl := h.len
  exact h.gl.own.frozenAt _
theorem CR.set {g n cap : Nat} (h : CR n0 w W (.slice (some ⟨g, 0, none⟩) n cap) S B m) (i : Nat) (hi : i < S.length) (j : Nat) (hj : j < 4) (x : Value) (c : Cnt) (hc : c.cells.toList = S[i].cells.toList.set j x) :
    CR n0 w (W.setCell ⟨g, i * 4 + j, none⟩ x) (.slice (some ⟨g, 0, none⟩) n cap) (S.set i c) B m := by
  have hne := h.ne
  obtain rfl := h.len
  have hlt := h.gl.own.lt g rfl
  refine ⟨⟨?_, h.gl.bel.setCell (p := ⟨g, _, none⟩) hlt.1 _, by simp [World.setCell]; exact h.gl.le, fun e => by rw [List.length_set] at e; omega⟩, h.mb.apart _ _ (by show g ≠ B; exact hne)⟩
  have := own_row1 Cnt.cells 4 cnt_size h.gl.own i hi j hj x c hc
  simpa only [List.length_set] using this
theorem CR.grown {v' : Value} {n : Nat} {xs : List Value} {nb : Option (Nat × Array Value)} {S' : List Cnt} (h : CR n0 w W v S B m)
    (hg : GA W.heap.size 86 4 W W' (some (v', n, xs)) nb) (hn : n = S'.length) (hx : xs = rowsK S') (h0 : S' ≠ []) : CR n0 w W' v' S' B m := by
  have ho := hg.own _ _ _ rfl
  subst hn hx
  have hle := h.gl.le
  refine ⟨⟨?_, h.gl.bel.trans (hg.bel.mono h.gl.le), Nat.le_trans h.gl.le hg.le, fun e => ?_⟩, h.mb.below hg.bel h.mb.lt⟩
  · refine ⟨ho.1, ?_⟩
    rcases ho.2 with h1 | ⟨g, cap, cur, e1, e2, e3⟩
    · exact .inl h1
    · exact .inr ⟨g, cap, cur, e1, by omega, e3⟩
  · exact absurd (List.eq_nil_of_length_eq_zero e) h0
end
theorem gl_free {n0 g n cap N : Nat} {w W : World} {xs : List Value} (h : GL n0 86 4 w W (.slice (some ⟨g, 0, none⟩) n cap) N xs) (j : Nat) : W.frozen? ⟨g, j, none⟩ = false := by
  obtain rfl : n = N := by
    rcases h.own.2 with ⟨h0, _⟩ | ⟨g', cap', cur, hv, _⟩
    · cases h0
    · injection hv
  exact h.own.frozenAt _
theorem gl_set {n0 g n cap : Nat} {w W : World} {S : List Cnt} (h : GL n0 86 4 w W (.slice (some ⟨g, 0, none⟩) n cap) S.length (rowsK S)) (i : Nat) (hi : i < S.length) (j : Nat) (hj : j < 4) (x : Value) (c : Cnt) (hc : c.cells.toList = S[i].cells.toList.set j x) :
    GL n0 86 4 w (W.setCell ⟨g, i * 4 + j, none⟩ x) (.slice (some ⟨g, 0, none⟩) n cap) (S.set i c).length (rowsK (S.set i c)) := by
  obtain rfl : n = S.length := by
    rcases h.own.2 with ⟨h0, _⟩ | ⟨g', cap', cur, hv, _⟩
    · cases h0
    · injection hv
  have hlt := h.own.lt g rfl
  refine ⟨?_, h.bel.setCell (p := ⟨g, _, none⟩) hlt.1 _, by simp [World.setCell]; exact h.le, fun e => by rw [List.length_set] at e; omega⟩
  have := own_row1 Cnt.cells 4 cnt_size h.own i hi j hj x c hc
  simpa only [List.length_set] using this
/-- So far cut. -/
def cutK (S : List Cnt) (k : Nat) : List Cnt := (S.take k).map clampC ++ S.drop k
theorem cutK_zero (S : List Cnt) : cutK S 0 = S := by simp [cutK]
theorem cutK_all (S : List Cnt) : cutK S S.length = S.map clampC := by simp [cutK]
theorem cutK_len (S : List Cnt) (k : Nat) : (cutK S k).length = S.length := by simp [cutK]; omega
theorem cutK_get {S : List Cnt} {k : Nat} (hk : k < S.length) : (cutK S k)[k]'(by rw [cutK_len]; exact hk) = S[k] := by
  unfold cutK
  rw [List.getElem_append_right (by simp; omega)]
  simp [Nat.min_eq_left (Nat.le_of_lt hk)]
theorem cutK_next {S : List Cnt} {k : Nat} (hk : k < S.length) : (cutK S k).set k (clampC S[k]) = cutK S (k + 1) := by
  unfold cutK
  have hl : ((S.take k).map clampC).length = k := by rw [List.length_map, List.length_take]; omega
  rw [List.set_append_right _ _ (by omega), hl, Nat.sub_self, List.drop_eq_getElem_cons hk, List.set_cons_zero, List.take_succ_eq_append_getElem hk, List.map_append, List.append_assoc]
  rfl
theorem infoCR : (Tryd.prog.info? 86).map (fun i => (i.zero, i.size, i.bytes)) = some (some (.agg #[.int .i64 0, .int .i64 0, .int .i64 0, .int .i64 0]), 4, 32) := by kernel_rfl
theorem rowsK_one (S : List Cnt) : ∀ u ∈ rowsK S, u.oneCell' = true := fun u hu => by
  obtain ⟨x, _, hx⟩ := List.mem_flatMap.1 hu
  exact one_cnt x u hx
/-- A row of the document's counts. -/
def RCountsIs (sym : Int) (l : List Msg) (w : World) (e : Ending) (w' : World) : Prop := ∃ v, e = .returned v ∧ CntRow w' w.heap.size v ((cntS sym l).map clampC) ∧ Below w.heap.size w w'

set_option maxRecDepth 20000 in
set_option maxHeartbeats 8000000 in
theorem rcounts_any (a : Option Addr) (cap : Nat) (l : List Msg) (sym : Int) (w : World) (hr : MsgRow w a l) (hl : l.length ≤ 120) (hq : ∀ m ∈ l, SmallM m) :
    Calls Tryd.prog 58 #[.slice a l.length cap, .int .i64 sym] w (RCountsIs sym l w) := by
  have HR := Lib.hid (fun k hk => msgRow_at hr k hk)
  have HQ := Lib.hid hq
  obtain ⟨i0, hi0, hz0, hz1, hz2⟩ := info_parts infoCR
  clear hr hq
  go_enter Tryd.func58, Tryd.ntmps58
  go_upto_block 0 with fail
  go_cut [5] (fun v wx => GL w.heap.size 86 4 w wx v (cntS sym l).length (rowsK (cntS sym l)) ∧ (cntS sym l).length ≤ 120 ∧ ∀ c ∈ cntS sym l, BndC 120 c)
  case first =>
    go_wp2_with fail
    go_loopw [5, 6] (fun v i wr => ∃ k : Nat, k ≤ l.length ∧ i = .int .i64 k ∧ GL w.heap.size 86 4 w wr v (cntS sym (l.take k)).length (rowsK (cntS sym (l.take k))) ∧ (∀ c ∈ cntS sym (l.take k), BndC k c) ∧ (cntS sym (l.take k)).length ≤ k) (fun _ i _ => l.length - (intOf i).toNat)
    case atStart => exact ⟨0, by omega, rfl, GL.start _ _ _ (Below.refl _ _) (Nat.le_refl _), fun c h => (by cases h), Nat.le_refl _⟩
    case round =>
      obtain ⟨i, hi, rfl, hgl0, hbd, hlen⟩ := hrel
      have HG := Lib.hid hgl0
      have HBD := Lib.hid hbd
      clear hgl0 hbd
      by_cases hlt : i < l.length
      · obtain ⟨gl, off, rfl, hgl, hcell⟩ := HR.out i hlt
        have HT := Lib.hid (List.take_succ_eq_append_getElem hlt)
        have hqm := HQ.out l[i] (List.getElem_mem hlt)
        have hcs : wr.rangeAt gl (off + i * 9) l[i].cells.toList := fun j u hu => by rw [HG.out.bel.cell (p := ⟨gl, _, none⟩) hgl]; exact hcell j u hu
        have g0 : (0 : Int) ≤ (i : Int) := by omega
        have g1 : (i : Int) < (l.length : Int) := by omega
        clear hcell
        generalize l[i] = m at hcs HT hqm
        have c0 : wr.cell? ⟨gl, off + i * 9, none⟩ = some (.int .i64 m.kind) := hcs 0 _ rfl
        have c1 : wr.cell? ⟨gl, off + i * 9 + 1, none⟩ = some (.int .i64 m.sym) := hcs 1 _ rfl
        have c2 : wr.cell? ⟨gl, off + i * 9 + 2, none⟩ = some (.int .i64 m.seq) := hcs 2 _ rfl
        have c3 : wr.cell? ⟨gl, off + i * 9 + 3, none⟩ = some (.int .i64 m.tick) := hcs 3 _ rfl
        have c4 : wr.cell? ⟨gl, off + i * 9 + 4, none⟩ = some (.int .i64 m.id) := hcs 4 _ rfl
        have c5 : wr.cell? ⟨gl, off + i * 9 + 5, none⟩ = some (.int .i64 m.wth) := hcs 5 _ rfl
        have c6 : wr.cell? ⟨gl, off + i * 9 + 6, none⟩ = some (.int .i64 m.price) := hcs 6 _ rfl
        have c7 : wr.cell? ⟨gl, off + i * 9 + 7, none⟩ = some (.int .i64 m.qty) := hcs 7 _ rfl
        have c8 : wr.cell? ⟨gl, off + i * 9 + 8, none⟩ = some (.int .i64 m.code) := hcs 8 _ rfl
        clear hcs
        have H := Lib.hid (show CR w.heap.size w (wr.alloc (.cells m.cells 62)) _ (cntS sym (l.take i)) wr.heap.size m from ⟨HG.out.alloc _, Blk.new _ _ _ _ rfl⟩)
        by_cases hs : m.sym = sym
        · have b1 : (m.sym != sym) = false := by simp [hs]
          have HST := Lib.hid (show cntS sym (l.take (i + 1)) = insC (keyK m) m.qty (cntS sym (l.take i)) by rw [HT.out, cntS_snoc, cntStep, if_pos hs])
          clear hs HG
          generalize cntS sym (l.take i) = S at *
          have HBI := Lib.hid (bnd_ins HBD.out hqm (keyK m))
          have hSl : S.length ≤ 120 := by omega
          unfold Msg.cells at H
          go_upto_region 7 with fail
          change Code.wp _ _ _ _ (wr.alloc (.cells #[.int .i64 m.kind, .int .i64 m.sym, .int .i64 m.seq, .int .i64 m.tick, .int .i64 m.id, .int .i64 m.wth, .int .i64 m.price, .int .i64 m.qty, .int .i64 m.code] 62))
          generalize wr.alloc (.cells #[.int .i64 m.kind, .int .i64 m.sym, .int .i64 m.seq, .int .i64 m.tick, .int .i64 m.id, .int .i64 m.wth, .int .i64 m.price, .int .i64 m.qty, .int .i64 m.code] 62) = W1 at H ⊢
          generalize wr.heap.size = B at H ⊢
          clear c0 c1 c2 c3 c4 c5 c6 c7 c8
          obtain ⟨va, vc, rfl, hvc, hvm, -⟩ := gl_at H.out.gl
          unfold maxLen at hvm
          go_upto_block 2 with fail
          go_cut [8] (fun kv wx => ∃ k : Nat, kv = .int .i64 k ∧ k ≤ S.length ∧ AheadC S (keyK m) k ∧ (k = S.length ∨ ∃ h : k < S.length, klt S[k].key (keyK m) = false) ∧ CR w.heap.size w wx (.slice va S.length vc) S B m)
          case first =>
            go_wp2_with fail
            go_loopw [8] (fun kv wx => ∃ k : Nat, kv = .int .i64 k ∧ k ≤ S.length ∧ AheadC S (keyK m) k ∧ CR w.heap.size w wx (.slice va S.length vc) S B m) (fun kv _ => S.length - (intOf kv).toNat)
            case atStart => exact ⟨0, rfl, by omega, ahead_zero _ _, H.out⟩
            case round =>
              clear H
              obtain ⟨k, rfl, hk, hp, hos⟩ := hrel
              have H := Lib.hid hos
              have HP := Lib.hid hp
              clear hos hp
              by_cases hlk : k < S.length
              · obtain ⟨g, rfl, hgn, hgw, hcell⟩ := H.out.row k hlk
                have d0 : wr.cell? ⟨g, k * 4, none⟩ = some (.int .i64 S[k].kind) := hcell 0 _ rfl
                have d1 : wr.cell? ⟨g, k * 4 + 1, none⟩ = some (.int .i64 S[k].code) := hcell 1 _ rfl
                have k0 : (0 : Int) ≤ (k : Int) := by omega
                have k1 : (k : Int) < (S.length : Int) := by omega
                have HNX := Lib.hid (ahead_next HP.out hlk)
                have HEX := Lib.hid (show klt S[k].key (keyK m) = false → (k = S.length ∨ ∃ h : k < S.length, klt S[k].key (keyK m) = false) from fun h => .inr ⟨hlk, h⟩)
                have HK := Lib.hid (show klt S[k].key (keyK m) = (decide (S[k].kind < m.kind) || (decide (S[k].kind = m.kind) && decide (S[k].code < m.code))) from rfl)
                have q0 : wr.cell? ⟨B, 0, none⟩ = some (.int .i64 m.kind) := H.out.mb.cell 0 rfl
                have q8 : wr.cell? ⟨B, 8, none⟩ = some (.int .i64 m.code) := H.out.mb.cell 8 rfl
                clear hcell
                generalize S[k].kind = x at d0 HK
                generalize S[k].code = y at d1 HK
                generalize klt S[k].key (keyK m) = z at HK HNX HEX
                by_cases h1 : x < m.kind
                · have e1 : decide (x < m.kind) = true := by simpa using h1
                  have HE := Lib.hid (HNX.out (by rw [HK.out, e1]; rfl))
                  clear HK HNX HEX h1
                  go_wp2_with fail
                  go_quiet (fail)
                  replace H := Lib.hid (H.out.drewN nq)
                  generalize wr.drewN nq = w2 at H ⊢
                  go_wp2_with fail
                  go_roundw
                  case rel => exact ⟨k + 1, by go_num, by omega, HE.out, H.out⟩
                  case measure => simp [intOf]; omega
                · have e1 : decide (x < m.kind) = false := by simpa using h1
                  by_cases h2 : x = m.kind
                  · have e2 : (x == m.kind) = true := by simpa using h2
                    have e2' : decide (x = m.kind) = true := by simpa using h2
                    by_cases h3 : y < m.code
                    · have e3 : decide (y < m.code) = true := by simpa using h3
                      have HE := Lib.hid (HNX.out (by rw [HK.out, e1, e2', e3]; rfl))
                      clear HK HNX HEX h1 h2 h3 e2'
                      go_wp2_with fail
                      go_quiet (fail)
                      replace H := Lib.hid (H.out.drewN nq)
                      generalize wr.drewN nq = w2 at H ⊢
                      go_wp2_with fail
                      go_roundw
                      case rel => exact ⟨k + 1, by go_num, by omega, HE.out, H.out⟩
                      case measure => simp [intOf]; omega
                    · have e3 : decide (y < m.code) = false := by simpa using h3
                      have HE := Lib.hid (HEX.out (by rw [HK.out, e1, e2', e3]; rfl))
                      clear HK HNX HEX h1 h2 h3 e2'
                      go_wp2_with fail
                      go_quiet (fail)
                      replace H := Lib.hid (H.out.drewN nq)
                      generalize wr.drewN nq = w2 at H ⊢
                      go_wp2_with fail
                      go_meet
                      exact ⟨k, rfl, hk, HP.out, HE.out, H.out⟩
                  · have e2 : (x == m.kind) = false := by simpa using h2
                    have e2' : decide (x = m.kind) = false := by simpa using h2
                    have HE := Lib.hid (HEX.out (by rw [HK.out, e1, e2']; rfl))
                    clear HK HNX HEX h1 h2 e2'
                    go_wp2_with fail
                    go_quiet (fail)
                    replace H := Lib.hid (H.out.drewN nq)
                    generalize wr.drewN nq = w2 at H ⊢
                    go_wp2_with fail
                    go_meet
                    exact ⟨k, rfl, hk, HP.out, HE.out, H.out⟩
              · obtain rfl : k = S.length := by omega
                go_wp2_with fail
                go_quiet (fail)
                replace H := Lib.hid (H.out.drewN nq)
                generalize wr.drewN nq = w2 at H ⊢
                go_wp2_with fail
                go_meet
                exact ⟨S.length, rfl, by omega, HP.out, .inl rfl, H.out⟩
          case rest =>
            clear H
            obtain ⟨k, rfl, hk, hp, hex, hos⟩ := hcut
            have H := Lib.hid hos
            have HP := Lib.hid hp
            clear hos hp
            generalize wc = wr at H ⊢
            go_upto_region 10 with fail
            go_cut [83] (fun tv wx => ((tv = .bool false ∧ ∃ h : k < S.length, S[k].key = keyK m) ∨ (tv = .bool true ∧ (k = S.length ∨ ∃ h : k < S.length, klt S[k].key (keyK m) = false ∧ S[k].key ≠ keyK m))) ∧ CR w.heap.size w wx (.slice va S.length vc) S B m)
            case first =>
              by_cases hlk : k < S.length
              · have hkl : klt S[k].key (keyK m) = false := by
                  rcases hex with h | ⟨_, h⟩
                  · omega
                  · exact h
                obtain ⟨g, rfl, hgn, hgw, hcell⟩ := H.out.row k hlk
                have d0 : wr.cell? ⟨g, k * 4, none⟩ = some (.int .i64 S[k].kind) := hcell 0 _ rfl
                have d1 : wr.cell? ⟨g, k * 4 + 1, none⟩ = some (.int .i64 S[k].code) := hcell 1 _ rfl
                have k0 : (0 : Int) ≤ (k : Int) := by omega
                have k1 : (k : Int) < (S.length : Int) := by omega
                have k2 : ((k : Int) == (S.length : Int)) = false := by simp; omega
                have HK := Lib.hid (show S[k].key = keyK m ↔ S[k].kind = m.kind ∧ S[k].code = m.code from by unfold Cnt.key keyK; exact Prod.mk.injEq _ _ _ _ ▸ Iff.rfl)
                have HKL := Lib.hid hkl
                have q0 : wr.cell? ⟨B, 0, none⟩ = some (.int .i64 m.kind) := H.out.mb.cell 0 rfl
                have q8 : wr.cell? ⟨B, 8, none⟩ = some (.int .i64 m.code) := H.out.mb.cell 8 rfl
                clear hcell hkl hex
                generalize hx : S[k].kind = x at d0
                generalize hy : S[k].code = y at d1
                have HXY := Lib.hid (And.intro hx hy)
                clear hx hy
                by_cases h2 : x = m.kind
                · have e2 : (x != m.kind) = false := by simp [h2]
                  by_cases h3 : y = m.code
                  · have e3 : (y != m.code) = false := by simp [h3]
                    have HE := Lib.hid (show S[k].key = keyK m from HK.out.2 ⟨HXY.out.1.trans h2, HXY.out.2.trans h3⟩)
                    clear h2 h3
                    go_wp2_with fail
                    go_quiet (fail)
                    replace H := Lib.hid (H.out.drewN nq)
                    generalize wr.drewN nq = w2 at H ⊢
                    go_wp2_with fail
                    go_meet
                    exact ⟨.inl ⟨rfl, hlk, HE.out⟩, H.out⟩
                  · have e3 : (y != m.code) = true := by simpa using h3
                    have HE := Lib.hid (show S[k].key ≠ keyK m from fun e => h3 (HXY.out.2.symm.trans (HK.out.1 e).2))
                    clear h2 h3
                    go_wp2_with fail
                    go_quiet (fail)
                    replace H := Lib.hid (H.out.drewN nq)
                    generalize wr.drewN nq = w2 at H ⊢
                    go_wp2_with fail
                    go_meet
                    exact ⟨.inr ⟨rfl, .inr ⟨hlk, HKL.out, HE.out⟩⟩, H.out⟩
                · have e2 : (x != m.kind) = true := by simpa using h2
                  have HE := Lib.hid (show S[k].key ≠ keyK m from fun e => h2 (HXY.out.1.symm.trans (HK.out.1 e).1))
                  clear h2
                  go_wp2_with fail
                  go_quiet (fail)
                  replace H := Lib.hid (H.out.drewN nq)
                  generalize wr.drewN nq = w2 at H ⊢
                  go_wp2_with fail
                  go_meet
                  exact ⟨.inr ⟨rfl, .inr ⟨hlk, HKL.out, HE.out⟩⟩, H.out⟩
              · obtain rfl : k = S.length := by omega
                clear hex
                go_wp2_with fail
                go_quiet (fail)
                replace H := Lib.hid (H.out.drewN nq)
                generalize wr.drewN nq = w2 at H ⊢
                go_wp2_with fail
                go_meet
                exact ⟨.inr ⟨rfl, .inl trivial⟩, H.out⟩
            case rest =>
              obtain ⟨htv, hos⟩ := hcut
              replace H := Lib.hid hos
              clear hos hex
              generalize wc = w2 at H ⊢
              go_upto_if 83 with fail
              go_cut [5] (fun v wx => ∃ S1, AtC S1 (keyK m) m.qty S k ∧ S1.length ≤ 121 ∧ CR w.heap.size w wx v S1 B m)
              case first =>
                rcases htv with ⟨rfl, hlk, he⟩ | ⟨rfl, hex⟩
                · have HAT := Lib.hid (at_hit (q := m.qty) HP.out hlk he)
                  clear he
                  go_wp2_with fail
                  go_meet
                  exact ⟨S, HAT.out, by omega, H.out⟩
                · have HAT := Lib.hid (at_new (q := m.qty) HP.out hk hex)
                  have HMEET := Lib.hid (show ∀ v W, CR w.heap.size w W v (S.take k ++ [(⟨m.kind, m.code, 0, 0⟩ : Cnt)] ++ S.drop k) B m → ∃ S1, AtC S1 (keyK m) m.qty S k ∧ S1.length ≤ 121 ∧ CR w.heap.size w W v S1 B m from fun v W h => ⟨_, HAT.out, by simp; omega, h⟩)
                  clear HAT
                  by_cases hlk : k < S.length
                  · obtain ⟨g, rfl, hgn, hgw, -⟩ := H.out.row k hlk
                    have k0 : (0 : Int) ≤ (k : Int) := by omega
                    have k1' : (k : Int) < (S.length : Int) := by omega
                    have k2 : (k : Int) ≤ (vc : Int) := by omega
                    have k3 : ¬ (vc = k) := by omega
                    have k4 : ¬ ((vc : Int) = (k : Int)) := by omega
                    clear hex
                    replace H := Lib.hid H.out.drew
                    go_upto_region 11 with fail
                    refine wp_region_held_drew (S := (fun w' => w'.cell? ⟨B, 0, none⟩ = some (.int .i64 m.kind) ∧ w'.cell? ⟨B, 8, none⟩ = some (.int .i64 m.code))) (by kernel_rfl) ⟨H.out.mb.cell 0 rfl, H.out.mb.cell 8 rfl⟩ (fun hHeld => ?_)
                    generalize w2.drew = w3 at H hHeld ⊢
                    have HOS := Lib.hid H.out
                    obtain ⟨n0, hn0⟩ : ∃ n, n = w3.heap.size := ⟨_, rfl⟩
                    have HSS := Lib.hid (show ∀ W, Below n0 w3 W → W.cell? ⟨B, 0, none⟩ = some (.int .i64 m.kind) ∧ W.cell? ⟨B, 8, none⟩ = some (.int .i64 m.code) from fun W hb => by
                      have hlt : B < n0 := by rw [hn0]; exact HOS.out.mb.lt
                      rw [hb.cell (p := ⟨B, _, none⟩) hlt, hb.cell (p := ⟨B, _, none⟩) hlt]; exact hHeld)
                    replace H := Lib.hid (show GA n0 86 4 w3 w3 none none from GA.start (Below.refl _ _) (by rw [hn0]; exact Nat.le_refl _))
                    have HTL := Lib.hid (show (rowsK (S.take k)).length = k * 4 by rw [rowsK, flat_size Cnt.cells 4 cnt_size, List.length_take]; first | (rw [Nat.min_eq_left (by omega)]; done) | simp)
                    have HDL := Lib.hid (show (rowsK (S.drop k)).length = (S.length - k) * 4 by rw [rowsK, flat_size Cnt.cells 4 cnt_size, List.length_drop]; try simp)
                    have HT1 := Lib.hid (rowsK_one (S.take k))
                    have HD1 := Lib.hid (rowsK_one (S.drop k))
                    have HLEN := Lib.hid (show k + 1 + (S.length - k) = (S.take k ++ [(⟨m.kind, m.code, 0, 0⟩ : Cnt)] ++ S.drop k).length by simp; try omega)
                    have HROW := Lib.hid (show rowsK (S.take k) ++ (Cnt.cells ⟨m.kind, m.code, 0, 0⟩).toList ++ rowsK (S.drop k) = rowsK (S.take k ++ [(⟨m.kind, m.code, 0, 0⟩ : Cnt)] ++ S.drop k) by simp [rowsK])
                    have HNE := Lib.hid (show S.take k ++ [(⟨m.kind, m.code, 0, 0⟩ : Cnt)] ++ S.drop k ≠ [] by simp)
                    have HN0 := Lib.hid hn0
                    clear hn0
                    have HTS := Lib.hid (show ∀ W, 0 < k → Below n0 w3 W → ∃ ad : Addr, some (⟨g, 0, none⟩ : Addr) = some ad ∧ ∀ j u, (rowsK (S.take k))[j]? = some u → W.cell? (ad.add j) = some u from fun W _ hb => ⟨_, rfl, row_take Cnt.cells 4 cnt_size HOS.out.gl.own (HN0.out ▸ hb) k⟩)
                    have HDS := Lib.hid (show ∀ W, 0 < S.length - k → Below n0 w3 W → ∃ ad : Addr, some (⟨g, k * 4, none⟩ : Addr) = some ad ∧ ∀ j u, (rowsK (S.drop k))[j]? = some u → W.cell? (ad.add j) = some u from fun W _ hb => ⟨_, rfl, row_drop Cnt.cells 4 cnt_size HOS.out.gl.own (HN0.out ▸ hb) k⟩)
                    refine wpAnyH_take (i := 1) (oi := ⟨some 85, _, _, _, _, _⟩) (v := ?_) rfl (by kernel_rfl) (by kernel_rfl) (by kernel_rfl) (fun _ _ _ h => h) (Or.inl ⟨by rfl, ?_⟩) (by assumption) ?_
                    rotate_left
                    · (intro w hSw; (try dsimp only at hSw); go_simp; (try with_reducible rfl))
                    simp only [Act.put, List.setIfInBounds_toArray, List.set_cons_zero, List.set_cons_succ]
                    refine wpAnyH_take (i := 2) (oi := ⟨some 86, _, _, _, _, _⟩) (v := ?_) rfl (by kernel_rfl) (by kernel_rfl) (by kernel_rfl) (fun _ _ _ h => h) (Or.inl ⟨by rfl, ?_⟩) (by assumption) ?_
                    rotate_left
                    · (intro w hSw; (try dsimp only at hSw); go_simp; (try with_reducible rfl))
                    simp only [Act.put, List.setIfInBounds_toArray, List.set_cons_zero, List.set_cons_succ]
                    refine wpAnyH_take (i := 3) (oi := ⟨some 87, _, _, _, _, _⟩) (v := ?_) rfl (by kernel_rfl) (by kernel_rfl) (by kernel_rfl) (fun _ _ _ h => h) (Or.inl ⟨by rfl, ?_⟩) (by assumption) ?_
                    rotate_left
                    · (intro w hSw; (try dsimp only at hSw); go_simp; (try with_reducible rfl))
                    simp only [Act.put, List.setIfInBounds_toArray, List.set_cons_zero, List.set_cons_succ]
                    refine wpAnyH_take (i := 5) (oi := ⟨some 89, _, _, _, _, _⟩) (v := ?_) rfl (by kernel_rfl) (by kernel_rfl) (by kernel_rfl) (fun _ _ _ h => h) (Or.inl ⟨by rfl, ?_⟩) (by assumption) ?_
                    rotate_left
                    · (intro w hSw; (try dsimp only at hSw); go_simp; (try with_reducible rfl))
                    simp only [Act.put, List.setIfInBounds_toArray, List.set_cons_zero, List.set_cons_succ]
                    refine wpAnyH_take (i := 6) (oi := ⟨some 90, _, _, _, _, _⟩) (v := ?_) rfl (by kernel_rfl) (by kernel_rfl) (by kernel_rfl) (fun _ _ _ h => h) (Or.inl ⟨by rfl, ?_⟩) (by assumption) ?_
                    rotate_left
                    · (intro w hSw; (try dsimp only at hSw); go_simp; (try with_reducible rfl))
                    simp only [Act.put, List.setIfInBounds_toArray, List.set_cons_zero, List.set_cons_succ]
                    refine wpAnyH_take (i := 7) (oi := ⟨some 91, _, _, _, _, _⟩) (v := ?_) rfl (by kernel_rfl) (by kernel_rfl) (by kernel_rfl) (fun _ _ _ h => h) (Or.inl ⟨by rfl, ?_⟩) (by assumption) ?_
                    rotate_left
                    · (intro w hSw; (try dsimp only at hSw); go_simp; (try with_reducible rfl))
                    simp only [Act.put, List.setIfInBounds_toArray, List.set_cons_zero, List.set_cons_succ]
                    refine wpAnyH_take (i := 8) (oi := ⟨some 92, _, _, _, _, _⟩) (v := ?_) rfl (by kernel_rfl) (by kernel_rfl) (by kernel_rfl) (fun _ _ _ h => h) (Or.inl ⟨by rfl, ?_⟩) (by assumption) ?_
                    rotate_left
                    · (intro w hSw; (try dsimp only at hSw); go_simp; (try with_reducible rfl))
                    simp only [Act.put, List.setIfInBounds_toArray, List.set_cons_zero, List.set_cons_succ]
                    refine wpAnyH_take (i := 9) (oi := ⟨some 93, _, _, _, _, _⟩) (v := ?_) rfl (by kernel_rfl) (by kernel_rfl) (by kernel_rfl) (fun _ _ _ h => h) (Or.inl ⟨by rfl, ?_⟩) (by assumption) ?_
                    rotate_left
                    · (intro w hSw; (try dsimp only at hSw); go_simp; (try with_reducible rfl))
                    simp only [Act.put, List.setIfInBounds_toArray, List.set_cons_zero, List.set_cons_succ]
                    refine wpAnyH_take (i := 12) (oi := ⟨some 96, _, _, _, _, _⟩) (v := ?_) rfl (by kernel_rfl) (by kernel_rfl) (by kernel_rfl) (fun _ _ _ h => h) (Or.inl ⟨by rfl, ?_⟩) (by assumption) ?_
                    rotate_left
                    · (intro w hSw; (try dsimp only at hSw); go_simp; (try with_reducible rfl))
                    simp only [Act.put, List.setIfInBounds_toArray, List.set_cons_zero, List.set_cons_succ]
                    refine wpAnyH_take (i := 13) (oi := ⟨some 97, _, _, _, _, _⟩) (v := ?_) rfl (by kernel_rfl) (by kernel_rfl) (by kernel_rfl) (fun _ _ _ h => h) (Or.inl ⟨by rfl, ?_⟩) (by assumption) ?_
                    rotate_left
                    · (intro w hSw; (try dsimp only at hSw); go_simp; (try with_reducible rfl))
                    simp only [Act.put, List.setIfInBounds_toArray, List.set_cons_zero, List.set_cons_succ]
                    refine wpAnyH_take (i := 14) (oi := ⟨some 98, _, _, _, _, _⟩) (v := ?_) rfl (by kernel_rfl) (by kernel_rfl) (by kernel_rfl) (fun _ _ _ h => h) (Or.inl ⟨by rfl, ?_⟩) (by assumption) ?_
                    rotate_left
                    · (intro w hSw; (try dsimp only at hSw); go_simp; (try with_reducible rfl))
                    simp only [Act.put, List.setIfInBounds_toArray, List.set_cons_zero, List.set_cons_succ]
                    refine wpAnyH_ready (rs := [0, 10]) (by kernel_rfl) (by simp) ?_
                    refine AllReadyH.cons (o := ⟨some 84, _, _, _, _, _⟩) rfl (fun KK hK => ?_) (AllReadyH.cons (o := ⟨some 94, _, _, _, _, _⟩) rfl (fun KK hK => ?_) (AllReadyH.nil))
                    · go_simp
                      change KK _ (w3.alloc (.cells #[] 86))
                      replace H := Lib.hid H.out.empty
                      generalize w3.alloc (.cells #[] 86) = WX1 at H ⊢
                      generalize w3.heap.size = e1 at H ⊢
                      refine hK.out _ _ (HSS.out _ H.out.bel) (fun hHeld => ?_)
                      clear hK; try clear KK
                      try simp only [Act.put, List.setIfInBounds_toArray, List.set_cons_zero, List.set_cons_succ]
                      refine wpAnyH_ready (rs := [4, 10]) (by kernel_rfl) (by simp) ?_
                      refine AllReadyH.cons (o := ⟨some 88, _, _, _, _, _⟩) rfl (fun KK hK => ?_) (AllReadyH.cons (o := ⟨some 94, _, _, _, _, _⟩) rfl (fun KK hK => ?_) (AllReadyH.nil))
                      · refine GA.src H.out (by rfl) _ _ _ (by rfl) i0 (.agg #[.int .i64 0, .int .i64 0, .int .i64 0, .int .i64 0]) 32 Tryd.underlying82 hi0 hz0 hz1 hz2 (by rfl) (by decide) (by rfl) _ _ _ _ (by rfl) HTL.out (fun hm => HTS.out _ hm H.out.bel) HT1.out (by unfold maxLen; omega) (by omega) ?_
                        intro g1 cap1 WX2 H'
                        rw [Nat.zero_add, List.nil_append] at H'
                        rw [Nat.zero_add]
                        replace H := Lib.hid H'
                        clear H'
                        refine hK.out _ _ (HSS.out _ H.out.bel) (fun hHeld => ?_)
                        clear hK; try clear KK
                        try simp only [Act.put, List.setIfInBounds_toArray, List.set_cons_zero, List.set_cons_succ]
                        refine wpAnyH_ready (rs := [10]) (by kernel_rfl) (by simp) ?_
                        refine AllReadyH.cons (o := ⟨some 94, _, _, _, _, _⟩) rfl (fun KK hK => ?_) AllReadyH.nil
                        go_simp
                        change KK _ (WX2.alloc (.cells (Cnt.cells ⟨m.kind, m.code, 0, 0⟩) 86))
                        replace H := Lib.hid (H.out.new (Cnt.cells ⟨m.kind, m.code, 0, 0⟩))
                        generalize WX2.alloc (.cells (Cnt.cells ⟨m.kind, m.code, 0, 0⟩) 86) = WX3 at H ⊢
                        generalize WX2.heap.size = nb1 at H ⊢
                        refine hK.out _ _ (HSS.out _ H.out.bel) (fun hHeld => ?_)
                        clear hK; try clear KK
                        try simp only [Act.put, List.setIfInBounds_toArray, List.set_cons_zero, List.set_cons_succ]
                        refine wpAnyH_ready (rs := [11]) (by kernel_rfl) (by simp) ?_
                        refine AllReadyH.cons (o := ⟨some 95, _, _, _, _, _⟩) rfl (fun KK hK => ?_) AllReadyH.nil
                        refine GA.app H.out (by rfl) _ _ _ (by rfl) i0 (.agg #[.int .i64 0, .int .i64 0, .int .i64 0, .int .i64 0]) 32 Tryd.underlying82 hi0 hz0 hz1 hz2 (by rfl) (by decide) (by rfl) (by rfl) (cnt_size _) (one_cnt _) (by unfold maxLen; omega) (by omega) ?_
                        intro g2 cap2 WX4 H'
                        replace H := Lib.hid H'
                        clear H'
                        refine hK.out _ _ (HSS.out _ H.out.bel) (fun hHeld => ?_)
                        clear hK; try clear KK
                        try simp only [Act.put, List.setIfInBounds_toArray, List.set_cons_zero, List.set_cons_succ]
                        refine wpAnyH_ready (rs := [15]) (by kernel_rfl) (by simp) ?_
                        refine AllReadyH.cons (o := ⟨some 99, _, _, _, _, _⟩) rfl (fun KK hK => ?_) AllReadyH.nil
                        refine GA.src H.out (by rfl) _ _ _ (by rfl) i0 (.agg #[.int .i64 0, .int .i64 0, .int .i64 0, .int .i64 0]) 32 Tryd.underlying82 hi0 hz0 hz1 hz2 (by rfl) (by decide) (by rfl) _ _ _ _ (by rfl) HDL.out (fun hm => HDS.out _ hm H.out.bel) HD1.out (by unfold maxLen; omega) (by omega) ?_
                        intro g3 cap3 WX5 H'
                        replace H := Lib.hid H'
                        clear H'
                        refine hK.out _ _ (HSS.out _ H.out.bel) (fun hHeld => ?_)
                        clear hK; try clear KK
                        try simp only [Act.put, List.setIfInBounds_toArray, List.set_cons_zero, List.set_cons_succ]
                        refine wpAnyH_take (i := 16) (oi := ⟨some 5, _, _, _, _, _⟩) (v := ?_) rfl (by kernel_rfl) (by kernel_rfl) (by kernel_rfl) (fun _ _ _ h => h) (Or.inl ⟨by rfl, ?_⟩) (by assumption) ?_
                        rotate_left
                        · (intro w hSw; (try dsimp only at hSw); go_simp; (try with_reducible rfl))
                        simp only [Act.put, List.setIfInBounds_toArray, List.set_cons_zero, List.set_cons_succ]
                        refine wpAnyH_done (by kernel_rfl) ?_ _
                        replace H := Lib.hid (HOS.out.grown (HN0.out ▸ H.out) HLEN.out HROW.out HNE.out)
                        clear HOS
                        go_wp2_with fail
                        go_meet
                        exact HMEET.out _ _ H.out
                      · go_simp
                        change KK _ (WX1.alloc (.cells (Cnt.cells ⟨m.kind, m.code, 0, 0⟩) 86))
                        replace H := Lib.hid (H.out.new (Cnt.cells ⟨m.kind, m.code, 0, 0⟩))
                        generalize WX1.alloc (.cells (Cnt.cells ⟨m.kind, m.code, 0, 0⟩) 86) = WX6 at H ⊢
                        generalize WX1.heap.size = nb1 at H ⊢
                        refine hK.out _ _ (HSS.out _ H.out.bel) (fun hHeld => ?_)
                        clear hK; try clear KK
                        try simp only [Act.put, List.setIfInBounds_toArray, List.set_cons_zero, List.set_cons_succ]
                        refine wpAnyH_ready (rs := [4]) (by kernel_rfl) (by simp) ?_
                        refine AllReadyH.cons (o := ⟨some 88, _, _, _, _, _⟩) rfl (fun KK hK => ?_) AllReadyH.nil
                        refine GA.src H.out (by rfl) _ _ _ (by rfl) i0 (.agg #[.int .i64 0, .int .i64 0, .int .i64 0, .int .i64 0]) 32 Tryd.underlying82 hi0 hz0 hz1 hz2 (by rfl) (by decide) (by rfl) _ _ _ _ (by rfl) HTL.out (fun hm => HTS.out _ hm H.out.bel) HT1.out (by unfold maxLen; omega) (by omega) ?_
                        intro g1 cap1 WX7 H'
                        rw [Nat.zero_add, List.nil_append] at H'
                        rw [Nat.zero_add]
                        replace H := Lib.hid H'
                        clear H'
                        refine hK.out _ _ (HSS.out _ H.out.bel) (fun hHeld => ?_)
                        clear hK; try clear KK
                        try simp only [Act.put, List.setIfInBounds_toArray, List.set_cons_zero, List.set_cons_succ]
                        refine wpAnyH_ready (rs := [11]) (by kernel_rfl) (by simp) ?_
                        refine AllReadyH.cons (o := ⟨some 95, _, _, _, _, _⟩) rfl (fun KK hK => ?_) AllReadyH.nil
                        refine GA.app H.out (by rfl) _ _ _ (by rfl) i0 (.agg #[.int .i64 0, .int .i64 0, .int .i64 0, .int .i64 0]) 32 Tryd.underlying82 hi0 hz0 hz1 hz2 (by rfl) (by decide) (by rfl) (by rfl) (cnt_size _) (one_cnt _) (by unfold maxLen; omega) (by omega) ?_
                        intro g2 cap2 WX8 H'
                        replace H := Lib.hid H'
                        clear H'
                        refine hK.out _ _ (HSS.out _ H.out.bel) (fun hHeld => ?_)
                        clear hK; try clear KK
                        try simp only [Act.put, List.setIfInBounds_toArray, List.set_cons_zero, List.set_cons_succ]
                        refine wpAnyH_ready (rs := [15]) (by kernel_rfl) (by simp) ?_
                        refine AllReadyH.cons (o := ⟨some 99, _, _, _, _, _⟩) rfl (fun KK hK => ?_) AllReadyH.nil
                        refine GA.src H.out (by rfl) _ _ _ (by rfl) i0 (.agg #[.int .i64 0, .int .i64 0, .int .i64 0, .int .i64 0]) 32 Tryd.underlying82 hi0 hz0 hz1 hz2 (by rfl) (by decide) (by rfl) _ _ _ _ (by rfl) HDL.out (fun hm => HDS.out _ hm H.out.bel) HD1.out (by unfold maxLen; omega) (by omega) ?_
                        intro g3 cap3 WX9 H'
                        replace H := Lib.hid H'
                        clear H'
                        refine hK.out _ _ (HSS.out _ H.out.bel) (fun hHeld => ?_)
                        clear hK; try clear KK
                        try simp only [Act.put, List.setIfInBounds_toArray, List.set_cons_zero, List.set_cons_succ]
                        refine wpAnyH_take (i := 16) (oi := ⟨some 5, _, _, _, _, _⟩) (v := ?_) rfl (by kernel_rfl) (by kernel_rfl) (by kernel_rfl) (fun _ _ _ h => h) (Or.inl ⟨by rfl, ?_⟩) (by assumption) ?_
                        rotate_left
                        · (intro w hSw; (try dsimp only at hSw); go_simp; (try with_reducible rfl))
                        simp only [Act.put, List.setIfInBounds_toArray, List.set_cons_zero, List.set_cons_succ]
                        refine wpAnyH_done (by kernel_rfl) ?_ _
                        replace H := Lib.hid (HOS.out.grown (HN0.out ▸ H.out) HLEN.out HROW.out HNE.out)
                        clear HOS
                        go_wp2_with fail
                        go_meet
                        exact HMEET.out _ _ H.out
                    · go_simp
                      change KK _ (w3.alloc (.cells (Cnt.cells ⟨m.kind, m.code, 0, 0⟩) 86))
                      replace H := Lib.hid (H.out.new (Cnt.cells ⟨m.kind, m.code, 0, 0⟩))
                      generalize w3.alloc (.cells (Cnt.cells ⟨m.kind, m.code, 0, 0⟩) 86) = WX10 at H ⊢
                      generalize w3.heap.size = nb1 at H ⊢
                      refine hK.out _ _ (HSS.out _ H.out.bel) (fun hHeld => ?_)
                      clear hK; try clear KK
                      try simp only [Act.put, List.setIfInBounds_toArray, List.set_cons_zero, List.set_cons_succ]
                      refine wpAnyH_ready (rs := [0]) (by kernel_rfl) (by simp) ?_
                      refine AllReadyH.cons (o := ⟨some 84, _, _, _, _, _⟩) rfl (fun KK hK => ?_) AllReadyH.nil
                      go_simp
                      change KK _ (WX10.alloc (.cells #[] 86))
                      replace H := Lib.hid H.out.empty
                      generalize WX10.alloc (.cells #[] 86) = WX11 at H ⊢
                      generalize WX10.heap.size = e1 at H ⊢
                      refine hK.out _ _ (HSS.out _ H.out.bel) (fun hHeld => ?_)
                      clear hK; try clear KK
                      try simp only [Act.put, List.setIfInBounds_toArray, List.set_cons_zero, List.set_cons_succ]
                      refine wpAnyH_ready (rs := [4]) (by kernel_rfl) (by simp) ?_
                      refine AllReadyH.cons (o := ⟨some 88, _, _, _, _, _⟩) rfl (fun KK hK => ?_) AllReadyH.nil
                      refine GA.src H.out (by rfl) _ _ _ (by rfl) i0 (.agg #[.int .i64 0, .int .i64 0, .int .i64 0, .int .i64 0]) 32 Tryd.underlying82 hi0 hz0 hz1 hz2 (by rfl) (by decide) (by rfl) _ _ _ _ (by rfl) HTL.out (fun hm => HTS.out _ hm H.out.bel) HT1.out (by unfold maxLen; omega) (by omega) ?_
                      intro g1 cap1 WX12 H'
                      rw [Nat.zero_add, List.nil_append] at H'
                      rw [Nat.zero_add]
                      replace H := Lib.hid H'
                      clear H'
                      refine hK.out _ _ (HSS.out _ H.out.bel) (fun hHeld => ?_)
                      clear hK; try clear KK
                      try simp only [Act.put, List.setIfInBounds_toArray, List.set_cons_zero, List.set_cons_succ]
                      refine wpAnyH_ready (rs := [11]) (by kernel_rfl) (by simp) ?_
                      refine AllReadyH.cons (o := ⟨some 95, _, _, _, _, _⟩) rfl (fun KK hK => ?_) AllReadyH.nil
                      refine GA.app H.out (by rfl) _ _ _ (by rfl) i0 (.agg #[.int .i64 0, .int .i64 0, .int .i64 0, .int .i64 0]) 32 Tryd.underlying82 hi0 hz0 hz1 hz2 (by rfl) (by decide) (by rfl) (by rfl) (cnt_size _) (one_cnt _) (by unfold maxLen; omega) (by omega) ?_
                      intro g2 cap2 WX13 H'
                      replace H := Lib.hid H'
                      clear H'
                      refine hK.out _ _ (HSS.out _ H.out.bel) (fun hHeld => ?_)
                      clear hK; try clear KK
                      try simp only [Act.put, List.setIfInBounds_toArray, List.set_cons_zero, List.set_cons_succ]
                      refine wpAnyH_ready (rs := [15]) (by kernel_rfl) (by simp) ?_
                      refine AllReadyH.cons (o := ⟨some 99, _, _, _, _, _⟩) rfl (fun KK hK => ?_) AllReadyH.nil
                      refine GA.src H.out (by rfl) _ _ _ (by rfl) i0 (.agg #[.int .i64 0, .int .i64 0, .int .i64 0, .int .i64 0]) 32 Tryd.underlying82 hi0 hz0 hz1 hz2 (by rfl) (by decide) (by rfl) _ _ _ _ (by rfl) HDL.out (fun hm => HDS.out _ hm H.out.bel) HD1.out (by unfold maxLen; omega) (by omega) ?_
                      intro g3 cap3 WX14 H'
                      replace H := Lib.hid H'
                      clear H'
                      refine hK.out _ _ (HSS.out _ H.out.bel) (fun hHeld => ?_)
                      clear hK; try clear KK
                      try simp only [Act.put, List.setIfInBounds_toArray, List.set_cons_zero, List.set_cons_succ]
                      refine wpAnyH_take (i := 16) (oi := ⟨some 5, _, _, _, _, _⟩) (v := ?_) rfl (by kernel_rfl) (by kernel_rfl) (by kernel_rfl) (fun _ _ _ h => h) (Or.inl ⟨by rfl, ?_⟩) (by assumption) ?_
                      rotate_left
                      · (intro w hSw; (try dsimp only at hSw); go_simp; (try with_reducible rfl))
                      simp only [Act.put, List.setIfInBounds_toArray, List.set_cons_zero, List.set_cons_succ]
                      refine wpAnyH_done (by kernel_rfl) ?_ _
                      replace H := Lib.hid (HOS.out.grown (HN0.out ▸ H.out) HLEN.out HROW.out HNE.out)
                      clear HOS
                      go_wp2_with fail
                      go_meet
                      exact HMEET.out _ _ H.out
                  · obtain rfl : k = S.length := by omega
                    clear hex
                    by_cases hS : S = []
                    · subst hS
                      have hv := H.out.gl.nil rfl
                      injection hv with e1 e2 e3
                      subst e1 e3
                      dsimp only [List.length_nil] at *
                      replace H := Lib.hid H.out.drew
                      go_upto_region 11 with fail
                      refine wp_region_held_drew (S := (fun w' => w'.cell? ⟨B, 0, none⟩ = some (.int .i64 m.kind) ∧ w'.cell? ⟨B, 8, none⟩ = some (.int .i64 m.code))) (by kernel_rfl) ⟨H.out.mb.cell 0 rfl, H.out.mb.cell 8 rfl⟩ (fun hHeld => ?_)
                      generalize w2.drew = w3 at H hHeld ⊢
                      have HOS := Lib.hid H.out
                      obtain ⟨n0, hn0⟩ : ∃ n, n = w3.heap.size := ⟨_, rfl⟩
                      have HSS := Lib.hid (show ∀ W, Below n0 w3 W → W.cell? ⟨B, 0, none⟩ = some (.int .i64 m.kind) ∧ W.cell? ⟨B, 8, none⟩ = some (.int .i64 m.code) from fun W hb => by
                        have hlt : B < n0 := by rw [hn0]; exact HOS.out.mb.lt
                        rw [hb.cell (p := ⟨B, _, none⟩) hlt, hb.cell (p := ⟨B, _, none⟩) hlt]; exact hHeld)
                      replace H := Lib.hid (show GA n0 86 4 w3 w3 none none from GA.start (Below.refl _ _) (by rw [hn0]; exact Nat.le_refl _))
                      have HTL := Lib.hid (show (rowsK (([] : List Cnt).take 0)).length = 0 * 4 by rw [rowsK, flat_size Cnt.cells 4 cnt_size, List.length_take]; first | (rw [Nat.min_eq_left (by omega)]; done) | simp)
                      have HDL := Lib.hid (show (rowsK (([] : List Cnt).drop 0)).length = (0) * 4 by rw [rowsK, flat_size Cnt.cells 4 cnt_size, List.length_drop]; try simp)
                      have HT1 := Lib.hid (rowsK_one (([] : List Cnt).take 0))
                      have HD1 := Lib.hid (rowsK_one (([] : List Cnt).drop 0))
                      have HLEN := Lib.hid (show 0 + 1 + (0) = (([] : List Cnt).take 0 ++ [(⟨m.kind, m.code, 0, 0⟩ : Cnt)] ++ ([] : List Cnt).drop 0).length by simp; try omega)
                      have HROW := Lib.hid (show rowsK (([] : List Cnt).take 0) ++ (Cnt.cells ⟨m.kind, m.code, 0, 0⟩).toList ++ rowsK (([] : List Cnt).drop 0) = rowsK (([] : List Cnt).take 0 ++ [(⟨m.kind, m.code, 0, 0⟩ : Cnt)] ++ ([] : List Cnt).drop 0) by simp [rowsK])
                      have HNE := Lib.hid (show ([] : List Cnt).take 0 ++ [(⟨m.kind, m.code, 0, 0⟩ : Cnt)] ++ ([] : List Cnt).drop 0 ≠ [] by simp)
                      have HN0 := Lib.hid hn0
                      clear hn0
                      have HTS := Lib.hid (show ∀ W, 0 < 0 → Below n0 w3 W → ∃ ad : Addr, (none : Option Addr) = some ad ∧ ∀ j u, (rowsK (([] : List Cnt).take 0))[j]? = some u → W.cell? (ad.add j) = some u from fun W h => absurd h (by omega))
                      have HDS := Lib.hid (show ∀ W, 0 < 0 → Below n0 w3 W → ∃ ad : Addr, (none : Option Addr) = some ad ∧ ∀ j u, (rowsK (([] : List Cnt).drop 0))[j]? = some u → W.cell? (ad.add j) = some u from fun W h => absurd h (by omega))
                      refine wpAnyH_take (i := 1) (oi := ⟨some 85, _, _, _, _, _⟩) (v := ?_) rfl (by kernel_rfl) (by kernel_rfl) (by kernel_rfl) (fun _ _ _ h => h) (Or.inl ⟨by rfl, ?_⟩) (by assumption) ?_
                      rotate_left
                      · (intro w hSw; (try dsimp only at hSw); go_simp; (try with_reducible rfl))
                      simp only [Act.put, List.setIfInBounds_toArray, List.set_cons_zero, List.set_cons_succ]
                      refine wpAnyH_take (i := 2) (oi := ⟨some 86, _, _, _, _, _⟩) (v := ?_) rfl (by kernel_rfl) (by kernel_rfl) (by kernel_rfl) (fun _ _ _ h => h) (Or.inl ⟨by rfl, ?_⟩) (by assumption) ?_
                      rotate_left
                      · (intro w hSw; (try dsimp only at hSw); go_simp; (try with_reducible rfl))
                      simp only [Act.put, List.setIfInBounds_toArray, List.set_cons_zero, List.set_cons_succ]
                      refine wpAnyH_take (i := 3) (oi := ⟨some 87, _, _, _, _, _⟩) (v := ?_) rfl (by kernel_rfl) (by kernel_rfl) (by kernel_rfl) (fun _ _ _ h => h) (Or.inl ⟨by rfl, ?_⟩) (by assumption) ?_
                      rotate_left
                      · (intro w hSw; (try dsimp only at hSw); go_simp; (try with_reducible rfl))
                      simp only [Act.put, List.setIfInBounds_toArray, List.set_cons_zero, List.set_cons_succ]
                      refine wpAnyH_take (i := 5) (oi := ⟨some 89, _, _, _, _, _⟩) (v := ?_) rfl (by kernel_rfl) (by kernel_rfl) (by kernel_rfl) (fun _ _ _ h => h) (Or.inl ⟨by rfl, ?_⟩) (by assumption) ?_
                      rotate_left
                      · (intro w hSw; (try dsimp only at hSw); go_simp; (try with_reducible rfl))
                      simp only [Act.put, List.setIfInBounds_toArray, List.set_cons_zero, List.set_cons_succ]
                      refine wpAnyH_take (i := 6) (oi := ⟨some 90, _, _, _, _, _⟩) (v := ?_) rfl (by kernel_rfl) (by kernel_rfl) (by kernel_rfl) (fun _ _ _ h => h) (Or.inl ⟨by rfl, ?_⟩) (by assumption) ?_
                      rotate_left
                      · (intro w hSw; (try dsimp only at hSw); go_simp; (try with_reducible rfl))
                      simp only [Act.put, List.setIfInBounds_toArray, List.set_cons_zero, List.set_cons_succ]
                      refine wpAnyH_take (i := 7) (oi := ⟨some 91, _, _, _, _, _⟩) (v := ?_) rfl (by kernel_rfl) (by kernel_rfl) (by kernel_rfl) (fun _ _ _ h => h) (Or.inl ⟨by rfl, ?_⟩) (by assumption) ?_
                      rotate_left
                      · (intro w hSw; (try dsimp only at hSw); go_simp; (try with_reducible rfl))
                      simp only [Act.put, List.setIfInBounds_toArray, List.set_cons_zero, List.set_cons_succ]
                      refine wpAnyH_take (i := 8) (oi := ⟨some 92, _, _, _, _, _⟩) (v := ?_) rfl (by kernel_rfl) (by kernel_rfl) (by kernel_rfl) (fun _ _ _ h => h) (Or.inl ⟨by rfl, ?_⟩) (by assumption) ?_
                      rotate_left
                      · (intro w hSw; (try dsimp only at hSw); go_simp; (try with_reducible rfl))
                      simp only [Act.put, List.setIfInBounds_toArray, List.set_cons_zero, List.set_cons_succ]
                      refine wpAnyH_take (i := 9) (oi := ⟨some 93, _, _, _, _, _⟩) (v := ?_) rfl (by kernel_rfl) (by kernel_rfl) (by kernel_rfl) (fun _ _ _ h => h) (Or.inl ⟨by rfl, ?_⟩) (by assumption) ?_
                      rotate_left
                      · (intro w hSw; (try dsimp only at hSw); go_simp; (try with_reducible rfl))
                      simp only [Act.put, List.setIfInBounds_toArray, List.set_cons_zero, List.set_cons_succ]
                      refine wpAnyH_take (i := 12) (oi := ⟨some 96, _, _, _, _, _⟩) (v := ?_) rfl (by kernel_rfl) (by kernel_rfl) (by kernel_rfl) (fun _ _ _ h => h) (Or.inl ⟨by rfl, ?_⟩) (by assumption) ?_
                      rotate_left
                      · (intro w hSw; (try dsimp only at hSw); go_simp; (try with_reducible rfl))
                      simp only [Act.put, List.setIfInBounds_toArray, List.set_cons_zero, List.set_cons_succ]
                      refine wpAnyH_take (i := 13) (oi := ⟨some 97, _, _, _, _, _⟩) (v := ?_) rfl (by kernel_rfl) (by kernel_rfl) (by kernel_rfl) (fun _ _ _ h => h) (Or.inl ⟨by rfl, ?_⟩) (by assumption) ?_
                      rotate_left
                      · (intro w hSw; (try dsimp only at hSw); go_simp; (try with_reducible rfl))
                      simp only [Act.put, List.setIfInBounds_toArray, List.set_cons_zero, List.set_cons_succ]
                      refine wpAnyH_take (i := 14) (oi := ⟨some 98, _, _, _, _, _⟩) (v := ?_) rfl (by kernel_rfl) (by kernel_rfl) (by kernel_rfl) (fun _ _ _ h => h) (Or.inl ⟨by rfl, ?_⟩) (by assumption) ?_
                      rotate_left
                      · (intro w hSw; (try dsimp only at hSw); go_simp; (try with_reducible rfl))
                      simp only [Act.put, List.setIfInBounds_toArray, List.set_cons_zero, List.set_cons_succ]
                      refine wpAnyH_ready (rs := [0, 10]) (by kernel_rfl) (by simp) ?_
                      refine AllReadyH.cons (o := ⟨some 84, _, _, _, _, _⟩) rfl (fun KK hK => ?_) (AllReadyH.cons (o := ⟨some 94, _, _, _, _, _⟩) rfl (fun KK hK => ?_) (AllReadyH.nil))
                      · go_simp
                        change KK _ (w3.alloc (.cells #[] 86))
                        replace H := Lib.hid H.out.empty
                        generalize w3.alloc (.cells #[] 86) = WX1 at H ⊢
                        generalize w3.heap.size = e1 at H ⊢
                        refine hK.out _ _ (HSS.out _ H.out.bel) (fun hHeld => ?_)
                        clear hK; try clear KK
                        try simp only [Act.put, List.setIfInBounds_toArray, List.set_cons_zero, List.set_cons_succ]
                        refine wpAnyH_ready (rs := [4, 10]) (by kernel_rfl) (by simp) ?_
                        refine AllReadyH.cons (o := ⟨some 88, _, _, _, _, _⟩) rfl (fun KK hK => ?_) (AllReadyH.cons (o := ⟨some 94, _, _, _, _, _⟩) rfl (fun KK hK => ?_) (AllReadyH.nil))
                        · refine GA.src H.out (by rfl) _ _ _ (by rfl) i0 (.agg #[.int .i64 0, .int .i64 0, .int .i64 0, .int .i64 0]) 32 Tryd.underlying82 hi0 hz0 hz1 hz2 (by rfl) (by decide) (by rfl) _ _ _ _ (by rfl) HTL.out (fun hm => HTS.out _ hm H.out.bel) HT1.out (by unfold maxLen; omega) (by omega) ?_
                          intro g1 cap1 WX2 H'
                          rw [Nat.zero_add, List.nil_append] at H'
                          rw [Nat.zero_add]
                          replace H := Lib.hid H'
                          clear H'
                          refine hK.out _ _ (HSS.out _ H.out.bel) (fun hHeld => ?_)
                          clear hK; try clear KK
                          try simp only [Act.put, List.setIfInBounds_toArray, List.set_cons_zero, List.set_cons_succ]
                          refine wpAnyH_ready (rs := [10]) (by kernel_rfl) (by simp) ?_
                          refine AllReadyH.cons (o := ⟨some 94, _, _, _, _, _⟩) rfl (fun KK hK => ?_) AllReadyH.nil
                          go_simp
                          change KK _ (WX2.alloc (.cells (Cnt.cells ⟨m.kind, m.code, 0, 0⟩) 86))
                          replace H := Lib.hid (H.out.new (Cnt.cells ⟨m.kind, m.code, 0, 0⟩))
                          generalize WX2.alloc (.cells (Cnt.cells ⟨m.kind, m.code, 0, 0⟩) 86) = WX3 at H ⊢
                          generalize WX2.heap.size = nb1 at H ⊢
                          refine hK.out _ _ (HSS.out _ H.out.bel) (fun hHeld => ?_)
                          clear hK; try clear KK
                          try simp only [Act.put, List.setIfInBounds_toArray, List.set_cons_zero, List.set_cons_succ]
                          refine wpAnyH_ready (rs := [11]) (by kernel_rfl) (by simp) ?_
                          refine AllReadyH.cons (o := ⟨some 95, _, _, _, _, _⟩) rfl (fun KK hK => ?_) AllReadyH.nil
                          refine GA.app H.out (by rfl) _ _ _ (by rfl) i0 (.agg #[.int .i64 0, .int .i64 0, .int .i64 0, .int .i64 0]) 32 Tryd.underlying82 hi0 hz0 hz1 hz2 (by rfl) (by decide) (by rfl) (by rfl) (cnt_size _) (one_cnt _) (by unfold maxLen; omega) (by omega) ?_
                          intro g2 cap2 WX4 H'
                          replace H := Lib.hid H'
                          clear H'
                          refine hK.out _ _ (HSS.out _ H.out.bel) (fun hHeld => ?_)
                          clear hK; try clear KK
                          try simp only [Act.put, List.setIfInBounds_toArray, List.set_cons_zero, List.set_cons_succ]
                          refine wpAnyH_ready (rs := [15]) (by kernel_rfl) (by simp) ?_
                          refine AllReadyH.cons (o := ⟨some 99, _, _, _, _, _⟩) rfl (fun KK hK => ?_) AllReadyH.nil
                          refine GA.src H.out (by rfl) _ _ _ (by rfl) i0 (.agg #[.int .i64 0, .int .i64 0, .int .i64 0, .int .i64 0]) 32 Tryd.underlying82 hi0 hz0 hz1 hz2 (by rfl) (by decide) (by rfl) _ _ _ _ (by rfl) HDL.out (fun hm => HDS.out _ hm H.out.bel) HD1.out (by unfold maxLen; omega) (by omega) ?_
                          intro g3 cap3 WX5 H'
                          replace H := Lib.hid H'
                          clear H'
                          refine hK.out _ _ (HSS.out _ H.out.bel) (fun hHeld => ?_)
                          clear hK; try clear KK
                          try simp only [Act.put, List.setIfInBounds_toArray, List.set_cons_zero, List.set_cons_succ]
                          refine wpAnyH_take (i := 16) (oi := ⟨some 5, _, _, _, _, _⟩) (v := ?_) rfl (by kernel_rfl) (by kernel_rfl) (by kernel_rfl) (fun _ _ _ h => h) (Or.inl ⟨by rfl, ?_⟩) (by assumption) ?_
                          rotate_left
                          · (intro w hSw; (try dsimp only at hSw); go_simp; (try with_reducible rfl))
                          simp only [Act.put, List.setIfInBounds_toArray, List.set_cons_zero, List.set_cons_succ]
                          refine wpAnyH_done (by kernel_rfl) ?_ _
                          replace H := Lib.hid (HOS.out.grown (HN0.out ▸ H.out) HLEN.out HROW.out HNE.out)
                          clear HOS
                          go_wp2_with fail
                          go_meet
                          exact HMEET.out _ _ H.out
                        · go_simp
                          change KK _ (WX1.alloc (.cells (Cnt.cells ⟨m.kind, m.code, 0, 0⟩) 86))
                          replace H := Lib.hid (H.out.new (Cnt.cells ⟨m.kind, m.code, 0, 0⟩))
                          generalize WX1.alloc (.cells (Cnt.cells ⟨m.kind, m.code, 0, 0⟩) 86) = WX6 at H ⊢
                          generalize WX1.heap.size = nb1 at H ⊢
                          refine hK.out _ _ (HSS.out _ H.out.bel) (fun hHeld => ?_)
                          clear hK; try clear KK
                          try simp only [Act.put, List.setIfInBounds_toArray, List.set_cons_zero, List.set_cons_succ]
                          refine wpAnyH_ready (rs := [4]) (by kernel_rfl) (by simp) ?_
                          refine AllReadyH.cons (o := ⟨some 88, _, _, _, _, _⟩) rfl (fun KK hK => ?_) AllReadyH.nil
                          refine GA.src H.out (by rfl) _ _ _ (by rfl) i0 (.agg #[.int .i64 0, .int .i64 0, .int .i64 0, .int .i64 0]) 32 Tryd.underlying82 hi0 hz0 hz1 hz2 (by rfl) (by decide) (by rfl) _ _ _ _ (by rfl) HTL.out (fun hm => HTS.out _ hm H.out.bel) HT1.out (by unfold maxLen; omega) (by omega) ?_
                          intro g1 cap1 WX7 H'
                          rw [Nat.zero_add, List.nil_append] at H'
                          rw [Nat.zero_add]
                          replace H := Lib.hid H'
                          clear H'
                          refine hK.out _ _ (HSS.out _ H.out.bel) (fun hHeld => ?_)
                          clear hK; try clear KK
                          try simp only [Act.put, List.setIfInBounds_toArray, List.set_cons_zero, List.set_cons_succ]
                          refine wpAnyH_ready (rs := [11]) (by kernel_rfl) (by simp) ?_
                          refine AllReadyH.cons (o := ⟨some 95, _, _, _, _, _⟩) rfl (fun KK hK => ?_) AllReadyH.nil
                          refine GA.app H.out (by rfl) _ _ _ (by rfl) i0 (.agg #[.int .i64 0, .int .i64 0, .int .i64 0, .int .i64 0]) 32 Tryd.underlying82 hi0 hz0 hz1 hz2 (by rfl) (by decide) (by rfl) (by rfl) (cnt_size _) (one_cnt _) (by unfold maxLen; omega) (by omega) ?_
                          intro g2 cap2 WX8 H'
                          replace H := Lib.hid H'
                          clear H'
                          refine hK.out _ _ (HSS.out _ H.out.bel) (fun hHeld => ?_)
                          clear hK; try clear KK
                          try simp only [Act.put, List.setIfInBounds_toArray, List.set_cons_zero, List.set_cons_succ]
                          refine wpAnyH_ready (rs := [15]) (by kernel_rfl) (by simp) ?_
                          refine AllReadyH.cons (o := ⟨some 99, _, _, _, _, _⟩) rfl (fun KK hK => ?_) AllReadyH.nil
                          refine GA.src H.out (by rfl) _ _ _ (by rfl) i0 (.agg #[.int .i64 0, .int .i64 0, .int .i64 0, .int .i64 0]) 32 Tryd.underlying82 hi0 hz0 hz1 hz2 (by rfl) (by decide) (by rfl) _ _ _ _ (by rfl) HDL.out (fun hm => HDS.out _ hm H.out.bel) HD1.out (by unfold maxLen; omega) (by omega) ?_
                          intro g3 cap3 WX9 H'
                          replace H := Lib.hid H'
                          clear H'
                          refine hK.out _ _ (HSS.out _ H.out.bel) (fun hHeld => ?_)
                          clear hK; try clear KK
                          try simp only [Act.put, List.setIfInBounds_toArray, List.set_cons_zero, List.set_cons_succ]
                          refine wpAnyH_take (i := 16) (oi := ⟨some 5, _, _, _, _, _⟩) (v := ?_) rfl (by kernel_rfl) (by kernel_rfl) (by kernel_rfl) (fun _ _ _ h => h) (Or.inl ⟨by rfl, ?_⟩) (by assumption) ?_
                          rotate_left
                          · (intro w hSw; (try dsimp only at hSw); go_simp; (try with_reducible rfl))
                          simp only [Act.put, List.setIfInBounds_toArray, List.set_cons_zero, List.set_cons_succ]
                          refine wpAnyH_done (by kernel_rfl) ?_ _
                          replace H := Lib.hid (HOS.out.grown (HN0.out ▸ H.out) HLEN.out HROW.out HNE.out)
                          clear HOS
                          go_wp2_with fail
                          go_meet
                          exact HMEET.out _ _ H.out
                      · go_simp
                        change KK _ (w3.alloc (.cells (Cnt.cells ⟨m.kind, m.code, 0, 0⟩) 86))
                        replace H := Lib.hid (H.out.new (Cnt.cells ⟨m.kind, m.code, 0, 0⟩))
                        generalize w3.alloc (.cells (Cnt.cells ⟨m.kind, m.code, 0, 0⟩) 86) = WX10 at H ⊢
                        generalize w3.heap.size = nb1 at H ⊢
                        refine hK.out _ _ (HSS.out _ H.out.bel) (fun hHeld => ?_)
                        clear hK; try clear KK
                        try simp only [Act.put, List.setIfInBounds_toArray, List.set_cons_zero, List.set_cons_succ]
                        refine wpAnyH_ready (rs := [0]) (by kernel_rfl) (by simp) ?_
                        refine AllReadyH.cons (o := ⟨some 84, _, _, _, _, _⟩) rfl (fun KK hK => ?_) AllReadyH.nil
                        go_simp
                        change KK _ (WX10.alloc (.cells #[] 86))
                        replace H := Lib.hid H.out.empty
                        generalize WX10.alloc (.cells #[] 86) = WX11 at H ⊢
                        generalize WX10.heap.size = e1 at H ⊢
                        refine hK.out _ _ (HSS.out _ H.out.bel) (fun hHeld => ?_)
                        clear hK; try clear KK
                        try simp only [Act.put, List.setIfInBounds_toArray, List.set_cons_zero, List.set_cons_succ]
                        refine wpAnyH_ready (rs := [4]) (by kernel_rfl) (by simp) ?_
                        refine AllReadyH.cons (o := ⟨some 88, _, _, _, _, _⟩) rfl (fun KK hK => ?_) AllReadyH.nil
                        refine GA.src H.out (by rfl) _ _ _ (by rfl) i0 (.agg #[.int .i64 0, .int .i64 0, .int .i64 0, .int .i64 0]) 32 Tryd.underlying82 hi0 hz0 hz1 hz2 (by rfl) (by decide) (by rfl) _ _ _ _ (by rfl) HTL.out (fun hm => HTS.out _ hm H.out.bel) HT1.out (by unfold maxLen; omega) (by omega) ?_
                        intro g1 cap1 WX12 H'
                        rw [Nat.zero_add, List.nil_append] at H'
                        rw [Nat.zero_add]
                        replace H := Lib.hid H'
                        clear H'
                        refine hK.out _ _ (HSS.out _ H.out.bel) (fun hHeld => ?_)
                        clear hK; try clear KK
                        try simp only [Act.put, List.setIfInBounds_toArray, List.set_cons_zero, List.set_cons_succ]
                        refine wpAnyH_ready (rs := [11]) (by kernel_rfl) (by simp) ?_
                        refine AllReadyH.cons (o := ⟨some 95, _, _, _, _, _⟩) rfl (fun KK hK => ?_) AllReadyH.nil
                        refine GA.app H.out (by rfl) _ _ _ (by rfl) i0 (.agg #[.int .i64 0, .int .i64 0, .int .i64 0, .int .i64 0]) 32 Tryd.underlying82 hi0 hz0 hz1 hz2 (by rfl) (by decide) (by rfl) (by rfl) (cnt_size _) (one_cnt _) (by unfold maxLen; omega) (by omega) ?_
                        intro g2 cap2 WX13 H'
                        replace H := Lib.hid H'
                        clear H'
                        refine hK.out _ _ (HSS.out _ H.out.bel) (fun hHeld => ?_)
                        clear hK; try clear KK
                        try simp only [Act.put, List.setIfInBounds_toArray, List.set_cons_zero, List.set_cons_succ]
                        refine wpAnyH_ready (rs := [15]) (by kernel_rfl) (by simp) ?_
                        refine AllReadyH.cons (o := ⟨some 99, _, _, _, _, _⟩) rfl (fun KK hK => ?_) AllReadyH.nil
                        refine GA.src H.out (by rfl) _ _ _ (by rfl) i0 (.agg #[.int .i64 0, .int .i64 0, .int .i64 0, .int .i64 0]) 32 Tryd.underlying82 hi0 hz0 hz1 hz2 (by rfl) (by decide) (by rfl) _ _ _ _ (by rfl) HDL.out (fun hm => HDS.out _ hm H.out.bel) HD1.out (by unfold maxLen; omega) (by omega) ?_
                        intro g3 cap3 WX14 H'
                        replace H := Lib.hid H'
                        clear H'
                        refine hK.out _ _ (HSS.out _ H.out.bel) (fun hHeld => ?_)
                        clear hK; try clear KK
                        try simp only [Act.put, List.setIfInBounds_toArray, List.set_cons_zero, List.set_cons_succ]
                        refine wpAnyH_take (i := 16) (oi := ⟨some 5, _, _, _, _, _⟩) (v := ?_) rfl (by kernel_rfl) (by kernel_rfl) (by kernel_rfl) (fun _ _ _ h => h) (Or.inl ⟨by rfl, ?_⟩) (by assumption) ?_
                        rotate_left
                        · (intro w hSw; (try dsimp only at hSw); go_simp; (try with_reducible rfl))
                        simp only [Act.put, List.setIfInBounds_toArray, List.set_cons_zero, List.set_cons_succ]
                        refine wpAnyH_done (by kernel_rfl) ?_ _
                        replace H := Lib.hid (HOS.out.grown (HN0.out ▸ H.out) HLEN.out HROW.out HNE.out)
                        clear HOS
                        go_wp2_with fail
                        go_meet
                        exact HMEET.out _ _ H.out
                    · have hpos : 0 < S.length := List.length_pos_iff.2 hS
                      obtain ⟨g, rfl, hgn, hgw, -⟩ := H.out.row 0 hpos
                      have k2 : (S.length : Int) ≤ (vc : Int) := by omega
                      clear hS
                      by_cases hck : vc = S.length
                      · subst hck
                        replace H := Lib.hid H.out.drew
                        go_upto_region 11 with fail
                        refine wp_region_held_drew (S := (fun w' => w'.cell? ⟨B, 0, none⟩ = some (.int .i64 m.kind) ∧ w'.cell? ⟨B, 8, none⟩ = some (.int .i64 m.code))) (by kernel_rfl) ⟨H.out.mb.cell 0 rfl, H.out.mb.cell 8 rfl⟩ (fun hHeld => ?_)
                        generalize w2.drew = w3 at H hHeld ⊢
                        have HOS := Lib.hid H.out
                        obtain ⟨n0, hn0⟩ : ∃ n, n = w3.heap.size := ⟨_, rfl⟩
                        have HSS := Lib.hid (show ∀ W, Below n0 w3 W → W.cell? ⟨B, 0, none⟩ = some (.int .i64 m.kind) ∧ W.cell? ⟨B, 8, none⟩ = some (.int .i64 m.code) from fun W hb => by
                          have hlt : B < n0 := by rw [hn0]; exact HOS.out.mb.lt
                          rw [hb.cell (p := ⟨B, _, none⟩) hlt, hb.cell (p := ⟨B, _, none⟩) hlt]; exact hHeld)
                        replace H := Lib.hid (show GA n0 86 4 w3 w3 none none from GA.start (Below.refl _ _) (by rw [hn0]; exact Nat.le_refl _))
                        have HTL := Lib.hid (show (rowsK (S.take S.length)).length = S.length * 4 by rw [rowsK, flat_size Cnt.cells 4 cnt_size, List.length_take]; first | (rw [Nat.min_eq_left (by omega)]; done) | simp)
                        have HDL := Lib.hid (show (rowsK (S.drop S.length)).length = (0) * 4 by rw [rowsK, flat_size Cnt.cells 4 cnt_size, List.length_drop]; try simp)
                        have HT1 := Lib.hid (rowsK_one (S.take S.length))
                        have HD1 := Lib.hid (rowsK_one (S.drop S.length))
                        have HLEN := Lib.hid (show S.length + 1 + (0) = (S.take S.length ++ [(⟨m.kind, m.code, 0, 0⟩ : Cnt)] ++ S.drop S.length).length by simp; try omega)
                        have HROW := Lib.hid (show rowsK (S.take S.length) ++ (Cnt.cells ⟨m.kind, m.code, 0, 0⟩).toList ++ rowsK (S.drop S.length) = rowsK (S.take S.length ++ [(⟨m.kind, m.code, 0, 0⟩ : Cnt)] ++ S.drop S.length) by simp [rowsK])
                        have HNE := Lib.hid (show S.take S.length ++ [(⟨m.kind, m.code, 0, 0⟩ : Cnt)] ++ S.drop S.length ≠ [] by simp)
                        have HN0 := Lib.hid hn0
                        clear hn0
                        have HTS := Lib.hid (show ∀ W, 0 < S.length → Below n0 w3 W → ∃ ad : Addr, some (⟨g, 0, none⟩ : Addr) = some ad ∧ ∀ j u, (rowsK (S.take S.length))[j]? = some u → W.cell? (ad.add j) = some u from fun W _ hb => ⟨_, rfl, row_take Cnt.cells 4 cnt_size HOS.out.gl.own (HN0.out ▸ hb) S.length⟩)
                        have HDS := Lib.hid (show ∀ W, 0 < 0 → Below n0 w3 W → ∃ ad : Addr, some (⟨g, 0, none⟩ : Addr) = some ad ∧ ∀ j u, (rowsK (S.drop S.length))[j]? = some u → W.cell? (ad.add j) = some u from fun W h => absurd h (by omega))
                        refine wpAnyH_take (i := 1) (oi := ⟨some 85, _, _, _, _, _⟩) (v := ?_) rfl (by kernel_rfl) (by kernel_rfl) (by kernel_rfl) (fun _ _ _ h => h) (Or.inl ⟨by rfl, ?_⟩) (by assumption) ?_
                        rotate_left
                        · (intro w hSw; (try dsimp only at hSw); go_simp; (try with_reducible rfl))
                        simp only [Act.put, List.setIfInBounds_toArray, List.set_cons_zero, List.set_cons_succ]
                        refine wpAnyH_take (i := 2) (oi := ⟨some 86, _, _, _, _, _⟩) (v := ?_) rfl (by kernel_rfl) (by kernel_rfl) (by kernel_rfl) (fun _ _ _ h => h) (Or.inl ⟨by rfl, ?_⟩) (by assumption) ?_
                        rotate_left
                        · (intro w hSw; (try dsimp only at hSw); go_simp; (try with_reducible rfl))
                        simp only [Act.put, List.setIfInBounds_toArray, List.set_cons_zero, List.set_cons_succ]
                        refine wpAnyH_take (i := 3) (oi := ⟨some 87, _, _, _, _, _⟩) (v := ?_) rfl (by kernel_rfl) (by kernel_rfl) (by kernel_rfl) (fun _ _ _ h => h) (Or.inl ⟨by rfl, ?_⟩) (by assumption) ?_
                        rotate_left
                        · (intro w hSw; (try dsimp only at hSw); go_simp; (try with_reducible rfl))
                        simp only [Act.put, List.setIfInBounds_toArray, List.set_cons_zero, List.set_cons_succ]
                        refine wpAnyH_take (i := 5) (oi := ⟨some 89, _, _, _, _, _⟩) (v := ?_) rfl (by kernel_rfl) (by kernel_rfl) (by kernel_rfl) (fun _ _ _ h => h) (Or.inl ⟨by rfl, ?_⟩) (by assumption) ?_
                        rotate_left
                        · (intro w hSw; (try dsimp only at hSw); go_simp; (try with_reducible rfl))
                        simp only [Act.put, List.setIfInBounds_toArray, List.set_cons_zero, List.set_cons_succ]
                        refine wpAnyH_take (i := 6) (oi := ⟨some 90, _, _, _, _, _⟩) (v := ?_) rfl (by kernel_rfl) (by kernel_rfl) (by kernel_rfl) (fun _ _ _ h => h) (Or.inl ⟨by rfl, ?_⟩) (by assumption) ?_
                        rotate_left
                        · (intro w hSw; (try dsimp only at hSw); go_simp; (try with_reducible rfl))
                        simp only [Act.put, List.setIfInBounds_toArray, List.set_cons_zero, List.set_cons_succ]
                        refine wpAnyH_take (i := 7) (oi := ⟨some 91, _, _, _, _, _⟩) (v := ?_) rfl (by kernel_rfl) (by kernel_rfl) (by kernel_rfl) (fun _ _ _ h => h) (Or.inl ⟨by rfl, ?_⟩) (by assumption) ?_
                        rotate_left
                        · (intro w hSw; (try dsimp only at hSw); go_simp; (try with_reducible rfl))
                        simp only [Act.put, List.setIfInBounds_toArray, List.set_cons_zero, List.set_cons_succ]
                        refine wpAnyH_take (i := 8) (oi := ⟨some 92, _, _, _, _, _⟩) (v := ?_) rfl (by kernel_rfl) (by kernel_rfl) (by kernel_rfl) (fun _ _ _ h => h) (Or.inl ⟨by rfl, ?_⟩) (by assumption) ?_
                        rotate_left
                        · (intro w hSw; (try dsimp only at hSw); go_simp; (try with_reducible rfl))
                        simp only [Act.put, List.setIfInBounds_toArray, List.set_cons_zero, List.set_cons_succ]
                        refine wpAnyH_take (i := 9) (oi := ⟨some 93, _, _, _, _, _⟩) (v := ?_) rfl (by kernel_rfl) (by kernel_rfl) (by kernel_rfl) (fun _ _ _ h => h) (Or.inl ⟨by rfl, ?_⟩) (by assumption) ?_
                        rotate_left
                        · (intro w hSw; (try dsimp only at hSw); go_simp; (try with_reducible rfl))
                        simp only [Act.put, List.setIfInBounds_toArray, List.set_cons_zero, List.set_cons_succ]
                        refine wpAnyH_take (i := 12) (oi := ⟨some 96, _, _, _, _, _⟩) (v := ?_) rfl (by kernel_rfl) (by kernel_rfl) (by kernel_rfl) (fun _ _ _ h => h) (Or.inl ⟨by rfl, ?_⟩) (by assumption) ?_
                        rotate_left
                        · (intro w hSw; (try dsimp only at hSw); go_simp; (try with_reducible rfl))
                        simp only [Act.put, List.setIfInBounds_toArray, List.set_cons_zero, List.set_cons_succ]
                        refine wpAnyH_take (i := 13) (oi := ⟨some 97, _, _, _, _, _⟩) (v := ?_) rfl (by kernel_rfl) (by kernel_rfl) (by kernel_rfl) (fun _ _ _ h => h) (Or.inl ⟨by rfl, ?_⟩) (by assumption) ?_
                        rotate_left
                        · (intro w hSw; (try dsimp only at hSw); go_simp; (try with_reducible rfl))
                        simp only [Act.put, List.setIfInBounds_toArray, List.set_cons_zero, List.set_cons_succ]
                        refine wpAnyH_take (i := 14) (oi := ⟨some 98, _, _, _, _, _⟩) (v := ?_) rfl (by kernel_rfl) (by kernel_rfl) (by kernel_rfl) (fun _ _ _ h => h) (Or.inl ⟨by rfl, ?_⟩) (by assumption) ?_
                        rotate_left
                        · (intro w hSw; (try dsimp only at hSw); go_simp; (try with_reducible rfl))
                        simp only [Act.put, List.setIfInBounds_toArray, List.set_cons_zero, List.set_cons_succ]
                        refine wpAnyH_ready (rs := [0, 10]) (by kernel_rfl) (by simp) ?_
                        refine AllReadyH.cons (o := ⟨some 84, _, _, _, _, _⟩) rfl (fun KK hK => ?_) (AllReadyH.cons (o := ⟨some 94, _, _, _, _, _⟩) rfl (fun KK hK => ?_) (AllReadyH.nil))
                        · go_simp
                          change KK _ (w3.alloc (.cells #[] 86))
                          replace H := Lib.hid H.out.empty
                          generalize w3.alloc (.cells #[] 86) = WX1 at H ⊢
                          generalize w3.heap.size = e1 at H ⊢
                          refine hK.out _ _ (HSS.out _ H.out.bel) (fun hHeld => ?_)
                          clear hK; try clear KK
                          try simp only [Act.put, List.setIfInBounds_toArray, List.set_cons_zero, List.set_cons_succ]
                          refine wpAnyH_ready (rs := [4, 10]) (by kernel_rfl) (by simp) ?_
                          refine AllReadyH.cons (o := ⟨some 88, _, _, _, _, _⟩) rfl (fun KK hK => ?_) (AllReadyH.cons (o := ⟨some 94, _, _, _, _, _⟩) rfl (fun KK hK => ?_) (AllReadyH.nil))
                          · refine GA.src H.out (by rfl) _ _ _ (by rfl) i0 (.agg #[.int .i64 0, .int .i64 0, .int .i64 0, .int .i64 0]) 32 Tryd.underlying82 hi0 hz0 hz1 hz2 (by rfl) (by decide) (by rfl) _ _ _ _ (by rfl) HTL.out (fun hm => HTS.out _ hm H.out.bel) HT1.out (by unfold maxLen; omega) (by omega) ?_
                            intro g1 cap1 WX2 H'
                            rw [Nat.zero_add, List.nil_append] at H'
                            rw [Nat.zero_add]
                            replace H := Lib.hid H'
                            clear H'
                            refine hK.out _ _ (HSS.out _ H.out.bel) (fun hHeld => ?_)
                            clear hK; try clear KK
                            try simp only [Act.put, List.setIfInBounds_toArray, List.set_cons_zero, List.set_cons_succ]
                            refine wpAnyH_ready (rs := [10]) (by kernel_rfl) (by simp) ?_
                            refine AllReadyH.cons (o := ⟨some 94, _, _, _, _, _⟩) rfl (fun KK hK => ?_) AllReadyH.nil
                            go_simp
                            change KK _ (WX2.alloc (.cells (Cnt.cells ⟨m.kind, m.code, 0, 0⟩) 86))
                            replace H := Lib.hid (H.out.new (Cnt.cells ⟨m.kind, m.code, 0, 0⟩))
                            generalize WX2.alloc (.cells (Cnt.cells ⟨m.kind, m.code, 0, 0⟩) 86) = WX3 at H ⊢
                            generalize WX2.heap.size = nb1 at H ⊢
                            refine hK.out _ _ (HSS.out _ H.out.bel) (fun hHeld => ?_)
                            clear hK; try clear KK
                            try simp only [Act.put, List.setIfInBounds_toArray, List.set_cons_zero, List.set_cons_succ]
                            refine wpAnyH_ready (rs := [11]) (by kernel_rfl) (by simp) ?_
                            refine AllReadyH.cons (o := ⟨some 95, _, _, _, _, _⟩) rfl (fun KK hK => ?_) AllReadyH.nil
                            refine GA.app H.out (by rfl) _ _ _ (by rfl) i0 (.agg #[.int .i64 0, .int .i64 0, .int .i64 0, .int .i64 0]) 32 Tryd.underlying82 hi0 hz0 hz1 hz2 (by rfl) (by decide) (by rfl) (by rfl) (cnt_size _) (one_cnt _) (by unfold maxLen; omega) (by omega) ?_
                            intro g2 cap2 WX4 H'
                            replace H := Lib.hid H'
                            clear H'
                            refine hK.out _ _ (HSS.out _ H.out.bel) (fun hHeld => ?_)
                            clear hK; try clear KK
                            try simp only [Act.put, List.setIfInBounds_toArray, List.set_cons_zero, List.set_cons_succ]
                            refine wpAnyH_ready (rs := [15]) (by kernel_rfl) (by simp) ?_
                            refine AllReadyH.cons (o := ⟨some 99, _, _, _, _, _⟩) rfl (fun KK hK => ?_) AllReadyH.nil
                            refine GA.src H.out (by rfl) _ _ _ (by rfl) i0 (.agg #[.int .i64 0, .int .i64 0, .int .i64 0, .int .i64 0]) 32 Tryd.underlying82 hi0 hz0 hz1 hz2 (by rfl) (by decide) (by rfl) _ _ _ _ (by rfl) HDL.out (fun hm => HDS.out _ hm H.out.bel) HD1.out (by unfold maxLen; omega) (by omega) ?_
                            intro g3 cap3 WX5 H'
                            replace H := Lib.hid H'
                            clear H'
                            refine hK.out _ _ (HSS.out _ H.out.bel) (fun hHeld => ?_)
                            clear hK; try clear KK
                            try simp only [Act.put, List.setIfInBounds_toArray, List.set_cons_zero, List.set_cons_succ]
                            refine wpAnyH_take (i := 16) (oi := ⟨some 5, _, _, _, _, _⟩) (v := ?_) rfl (by kernel_rfl) (by kernel_rfl) (by kernel_rfl) (fun _ _ _ h => h) (Or.inl ⟨by rfl, ?_⟩) (by assumption) ?_
                            rotate_left
                            · (intro w hSw; (try dsimp only at hSw); go_simp; (try with_reducible rfl))
                            simp only [Act.put, List.setIfInBounds_toArray, List.set_cons_zero, List.set_cons_succ]
                            refine wpAnyH_done (by kernel_rfl) ?_ _
                            replace H := Lib.hid (HOS.out.grown (HN0.out ▸ H.out) HLEN.out HROW.out HNE.out)
                            clear HOS
                            go_wp2_with fail
                            go_meet
                            exact HMEET.out _ _ H.out
                          · go_simp
                            change KK _ (WX1.alloc (.cells (Cnt.cells ⟨m.kind, m.code, 0, 0⟩) 86))
                            replace H := Lib.hid (H.out.new (Cnt.cells ⟨m.kind, m.code, 0, 0⟩))
                            generalize WX1.alloc (.cells (Cnt.cells ⟨m.kind, m.code, 0, 0⟩) 86) = WX6 at H ⊢
                            generalize WX1.heap.size = nb1 at H ⊢
                            refine hK.out _ _ (HSS.out _ H.out.bel) (fun hHeld => ?_)
                            clear hK; try clear KK
                            try simp only [Act.put, List.setIfInBounds_toArray, List.set_cons_zero, List.set_cons_succ]
                            refine wpAnyH_ready (rs := [4]) (by kernel_rfl) (by simp) ?_
                            refine AllReadyH.cons (o := ⟨some 88, _, _, _, _, _⟩) rfl (fun KK hK => ?_) AllReadyH.nil
                            refine GA.src H.out (by rfl) _ _ _ (by rfl) i0 (.agg #[.int .i64 0, .int .i64 0, .int .i64 0, .int .i64 0]) 32 Tryd.underlying82 hi0 hz0 hz1 hz2 (by rfl) (by decide) (by rfl) _ _ _ _ (by rfl) HTL.out (fun hm => HTS.out _ hm H.out.bel) HT1.out (by unfold maxLen; omega) (by omega) ?_
                            intro g1 cap1 WX7 H'
                            rw [Nat.zero_add, List.nil_append] at H'
                            rw [Nat.zero_add]
                            replace H := Lib.hid H'
                            clear H'
                            refine hK.out _ _ (HSS.out _ H.out.bel) (fun hHeld => ?_)
                            clear hK; try clear KK
                            try simp only [Act.put, List.setIfInBounds_toArray, List.set_cons_zero, List.set_cons_succ]
                            refine wpAnyH_ready (rs := [11]) (by kernel_rfl) (by simp) ?_
                            refine AllReadyH.cons (o := ⟨some 95, _, _, _, _, _⟩) rfl (fun KK hK => ?_) AllReadyH.nil
                            refine GA.app H.out (by rfl) _ _ _ (by rfl) i0 (.agg #[.int .i64 0, .int .i64 0, .int .i64 0, .int .i64 0]) 32 Tryd.underlying82 hi0 hz0 hz1 hz2 (by rfl) (by decide) (by rfl) (by rfl) (cnt_size _) (one_cnt _) (by unfold maxLen; omega) (by omega) ?_
                            intro g2 cap2 WX8 H'
                            replace H := Lib.hid H'
                            clear H'
                            refine hK.out _ _ (HSS.out _ H.out.bel) (fun hHeld => ?_)
                            clear hK; try clear KK
                            try simp only [Act.put, List.setIfInBounds_toArray, List.set_cons_zero, List.set_cons_succ]
                            refine wpAnyH_ready (rs := [15]) (by kernel_rfl) (by simp) ?_
                            refine AllReadyH.cons (o := ⟨some 99, _, _, _, _, _⟩) rfl (fun KK hK => ?_) AllReadyH.nil
                            refine GA.src H.out (by rfl) _ _ _ (by rfl) i0 (.agg #[.int .i64 0, .int .i64 0, .int .i64 0, .int .i64 0]) 32 Tryd.underlying82 hi0 hz0 hz1 hz2 (by rfl) (by decide) (by rfl) _ _ _ _ (by rfl) HDL.out (fun hm => HDS.out _ hm H.out.bel) HD1.out (by unfold maxLen; omega) (by omega) ?_
                            intro g3 cap3 WX9 H'
                            replace H := Lib.hid H'
                            clear H'
                            refine hK.out _ _ (HSS.out _ H.out.bel) (fun hHeld => ?_)
                            clear hK; try clear KK
                            try simp only [Act.put, List.setIfInBounds_toArray, List.set_cons_zero, List.set_cons_succ]
                            refine wpAnyH_take (i := 16) (oi := ⟨some 5, _, _, _, _, _⟩) (v := ?_) rfl (by kernel_rfl) (by kernel_rfl) (by kernel_rfl) (fun _ _ _ h => h) (Or.inl ⟨by rfl, ?_⟩) (by assumption) ?_
                            rotate_left
                            · (intro w hSw; (try dsimp only at hSw); go_simp; (try with_reducible rfl))
                            simp only [Act.put, List.setIfInBounds_toArray, List.set_cons_zero, List.set_cons_succ]
                            refine wpAnyH_done (by kernel_rfl) ?_ _
                            replace H := Lib.hid (HOS.out.grown (HN0.out ▸ H.out) HLEN.out HROW.out HNE.out)
                            clear HOS
                            go_wp2_with fail
                            go_meet
                            exact HMEET.out _ _ H.out
                        · go_simp
                          change KK _ (w3.alloc (.cells (Cnt.cells ⟨m.kind, m.code, 0, 0⟩) 86))
                          replace H := Lib.hid (H.out.new (Cnt.cells ⟨m.kind, m.code, 0, 0⟩))
                          generalize w3.alloc (.cells (Cnt.cells ⟨m.kind, m.code, 0, 0⟩) 86) = WX10 at H ⊢
                          generalize w3.heap.size = nb1 at H ⊢
                          refine hK.out _ _ (HSS.out _ H.out.bel) (fun hHeld => ?_)
                          clear hK; try clear KK
                          try simp only [Act.put, List.setIfInBounds_toArray, List.set_cons_zero, List.set_cons_succ]
                          refine wpAnyH_ready (rs := [0]) (by kernel_rfl) (by simp) ?_
                          refine AllReadyH.cons (o := ⟨some 84, _, _, _, _, _⟩) rfl (fun KK hK => ?_) AllReadyH.nil
                          go_simp
                          change KK _ (WX10.alloc (.cells #[] 86))
                          replace H := Lib.hid H.out.empty
                          generalize WX10.alloc (.cells #[] 86) = WX11 at H ⊢
                          generalize WX10.heap.size = e1 at H ⊢
                          refine hK.out _ _ (HSS.out _ H.out.bel) (fun hHeld => ?_)
                          clear hK; try clear KK
                          try simp only [Act.put, List.setIfInBounds_toArray, List.set_cons_zero, List.set_cons_succ]
                          refine wpAnyH_ready (rs := [4]) (by kernel_rfl) (by simp) ?_
                          refine AllReadyH.cons (o := ⟨some 88, _, _, _, _, _⟩) rfl (fun KK hK => ?_) AllReadyH.nil
                          refine GA.src H.out (by rfl) _ _ _ (by rfl) i0 (.agg #[.int .i64 0, .int .i64 0, .int .i64 0, .int .i64 0]) 32 Tryd.underlying82 hi0 hz0 hz1 hz2 (by rfl) (by decide) (by rfl) _ _ _ _ (by rfl) HTL.out (fun hm => HTS.out _ hm H.out.bel) HT1.out (by unfold maxLen; omega) (by omega) ?_
                          intro g1 cap1 WX12 H'
                          rw [Nat.zero_add, List.nil_append] at H'
                          rw [Nat.zero_add]
                          replace H := Lib.hid H'
                          clear H'
                          refine hK.out _ _ (HSS.out _ H.out.bel) (fun hHeld => ?_)
                          clear hK; try clear KK
                          try simp only [Act.put, List.setIfInBounds_toArray, List.set_cons_zero, List.set_cons_succ]
                          refine wpAnyH_ready (rs := [11]) (by kernel_rfl) (by simp) ?_
                          refine AllReadyH.cons (o := ⟨some 95, _, _, _, _, _⟩) rfl (fun KK hK => ?_) AllReadyH.nil
                          refine GA.app H.out (by rfl) _ _ _ (by rfl) i0 (.agg #[.int .i64 0, .int .i64 0, .int .i64 0, .int .i64 0]) 32 Tryd.underlying82 hi0 hz0 hz1 hz2 (by rfl) (by decide) (by rfl) (by rfl) (cnt_size _) (one_cnt _) (by unfold maxLen; omega) (by omega) ?_
                          intro g2 cap2 WX13 H'
                          replace H := Lib.hid H'
                          clear H'
                          refine hK.out _ _ (HSS.out _ H.out.bel) (fun hHeld => ?_)
                          clear hK; try clear KK
                          try simp only [Act.put, List.setIfInBounds_toArray, List.set_cons_zero, List.set_cons_succ]
                          refine wpAnyH_ready (rs := [15]) (by kernel_rfl) (by simp) ?_
                          refine AllReadyH.cons (o := ⟨some 99, _, _, _, _, _⟩) rfl (fun KK hK => ?_) AllReadyH.nil
                          refine GA.src H.out (by rfl) _ _ _ (by rfl) i0 (.agg #[.int .i64 0, .int .i64 0, .int .i64 0, .int .i64 0]) 32 Tryd.underlying82 hi0 hz0 hz1 hz2 (by rfl) (by decide) (by rfl) _ _ _ _ (by rfl) HDL.out (fun hm => HDS.out _ hm H.out.bel) HD1.out (by unfold maxLen; omega) (by omega) ?_
                          intro g3 cap3 WX14 H'
                          replace H := Lib.hid H'
                          clear H'
                          refine hK.out _ _ (HSS.out _ H.out.bel) (fun hHeld => ?_)
                          clear hK; try clear KK
                          try simp only [Act.put, List.setIfInBounds_toArray, List.set_cons_zero, List.set_cons_succ]
                          refine wpAnyH_take (i := 16) (oi := ⟨some 5, _, _, _, _, _⟩) (v := ?_) rfl (by kernel_rfl) (by kernel_rfl) (by kernel_rfl) (fun _ _ _ h => h) (Or.inl ⟨by rfl, ?_⟩) (by assumption) ?_
                          rotate_left
                          · (intro w hSw; (try dsimp only at hSw); go_simp; (try with_reducible rfl))
                          simp only [Act.put, List.setIfInBounds_toArray, List.set_cons_zero, List.set_cons_succ]
                          refine wpAnyH_done (by kernel_rfl) ?_ _
                          replace H := Lib.hid (HOS.out.grown (HN0.out ▸ H.out) HLEN.out HROW.out HNE.out)
                          clear HOS
                          go_wp2_with fail
                          go_meet
                          exact HMEET.out _ _ H.out
                      · have hck' : ¬ ((vc : Int) = (S.length : Int)) := by omega
                        replace H := Lib.hid H.out.drew
                        go_upto_region 11 with fail
                        refine wp_region_held_drew (S := (fun w' => w'.cell? ⟨B, 0, none⟩ = some (.int .i64 m.kind) ∧ w'.cell? ⟨B, 8, none⟩ = some (.int .i64 m.code))) (by kernel_rfl) ⟨H.out.mb.cell 0 rfl, H.out.mb.cell 8 rfl⟩ (fun hHeld => ?_)
                        generalize w2.drew = w3 at H hHeld ⊢
                        have HOS := Lib.hid H.out
                        obtain ⟨n0, hn0⟩ : ∃ n, n = w3.heap.size := ⟨_, rfl⟩
                        have HSS := Lib.hid (show ∀ W, Below n0 w3 W → W.cell? ⟨B, 0, none⟩ = some (.int .i64 m.kind) ∧ W.cell? ⟨B, 8, none⟩ = some (.int .i64 m.code) from fun W hb => by
                          have hlt : B < n0 := by rw [hn0]; exact HOS.out.mb.lt
                          rw [hb.cell (p := ⟨B, _, none⟩) hlt, hb.cell (p := ⟨B, _, none⟩) hlt]; exact hHeld)
                        replace H := Lib.hid (show GA n0 86 4 w3 w3 none none from GA.start (Below.refl _ _) (by rw [hn0]; exact Nat.le_refl _))
                        have HTL := Lib.hid (show (rowsK (S.take S.length)).length = S.length * 4 by rw [rowsK, flat_size Cnt.cells 4 cnt_size, List.length_take]; first | (rw [Nat.min_eq_left (by omega)]; done) | simp)
                        have HDL := Lib.hid (show (rowsK (S.drop S.length)).length = (0) * 4 by rw [rowsK, flat_size Cnt.cells 4 cnt_size, List.length_drop]; try simp)
                        have HT1 := Lib.hid (rowsK_one (S.take S.length))
                        have HD1 := Lib.hid (rowsK_one (S.drop S.length))
                        have HLEN := Lib.hid (show S.length + 1 + (0) = (S.take S.length ++ [(⟨m.kind, m.code, 0, 0⟩ : Cnt)] ++ S.drop S.length).length by simp; try omega)
                        have HROW := Lib.hid (show rowsK (S.take S.length) ++ (Cnt.cells ⟨m.kind, m.code, 0, 0⟩).toList ++ rowsK (S.drop S.length) = rowsK (S.take S.length ++ [(⟨m.kind, m.code, 0, 0⟩ : Cnt)] ++ S.drop S.length) by simp [rowsK])
                        have HNE := Lib.hid (show S.take S.length ++ [(⟨m.kind, m.code, 0, 0⟩ : Cnt)] ++ S.drop S.length ≠ [] by simp)
                        have HN0 := Lib.hid hn0
                        clear hn0
                        have HTS := Lib.hid (show ∀ W, 0 < S.length → Below n0 w3 W → ∃ ad : Addr, some (⟨g, 0, none⟩ : Addr) = some ad ∧ ∀ j u, (rowsK (S.take S.length))[j]? = some u → W.cell? (ad.add j) = some u from fun W _ hb => ⟨_, rfl, row_take Cnt.cells 4 cnt_size HOS.out.gl.own (HN0.out ▸ hb) S.length⟩)
                        have HDS := Lib.hid (show ∀ W, 0 < 0 → Below n0 w3 W → ∃ ad : Addr, some (⟨g, S.length * 4, none⟩ : Addr) = some ad ∧ ∀ j u, (rowsK (S.drop S.length))[j]? = some u → W.cell? (ad.add j) = some u from fun W h => absurd h (by omega))
                        refine wpAnyH_take (i := 1) (oi := ⟨some 85, _, _, _, _, _⟩) (v := ?_) rfl (by kernel_rfl) (by kernel_rfl) (by kernel_rfl) (fun _ _ _ h => h) (Or.inl ⟨by rfl, ?_⟩) (by assumption) ?_
                        rotate_left
                        · (intro w hSw; (try dsimp only at hSw); go_simp; (try with_reducible rfl))
                        simp only [Act.put, List.setIfInBounds_toArray, List.set_cons_zero, List.set_cons_succ]
                        refine wpAnyH_take (i := 2) (oi := ⟨some 86, _, _, _, _, _⟩) (v := ?_) rfl (by kernel_rfl) (by kernel_rfl) (by kernel_rfl) (fun _ _ _ h => h) (Or.inl ⟨by rfl, ?_⟩) (by assumption) ?_
                        rotate_left
                        · (intro w hSw; (try dsimp only at hSw); go_simp; (try with_reducible rfl))
                        simp only [Act.put, List.setIfInBounds_toArray, List.set_cons_zero, List.set_cons_succ]
                        refine wpAnyH_take (i := 3) (oi := ⟨some 87, _, _, _, _, _⟩) (v := ?_) rfl (by kernel_rfl) (by kernel_rfl) (by kernel_rfl) (fun _ _ _ h => h) (Or.inl ⟨by rfl, ?_⟩) (by assumption) ?_
                        rotate_left
                        · (intro w hSw; (try dsimp only at hSw); go_simp; (try with_reducible rfl))
                        simp only [Act.put, List.setIfInBounds_toArray, List.set_cons_zero, List.set_cons_succ]
                        refine wpAnyH_take (i := 5) (oi := ⟨some 89, _, _, _, _, _⟩) (v := ?_) rfl (by kernel_rfl) (by kernel_rfl) (by kernel_rfl) (fun _ _ _ h => h) (Or.inl ⟨by rfl, ?_⟩) (by assumption) ?_
                        rotate_left
                        · (intro w hSw; (try dsimp only at hSw); go_simp; (try with_reducible rfl))
                        simp only [Act.put, List.setIfInBounds_toArray, List.set_cons_zero, List.set_cons_succ]
                        refine wpAnyH_take (i := 6) (oi := ⟨some 90, _, _, _, _, _⟩) (v := ?_) rfl (by kernel_rfl) (by kernel_rfl) (by kernel_rfl) (fun _ _ _ h => h) (Or.inl ⟨by rfl, ?_⟩) (by assumption) ?_
                        rotate_left
                        · (intro w hSw; (try dsimp only at hSw); go_simp; (try with_reducible rfl))
                        simp only [Act.put, List.setIfInBounds_toArray, List.set_cons_zero, List.set_cons_succ]
                        refine wpAnyH_take (i := 7) (oi := ⟨some 91, _, _, _, _, _⟩) (v := ?_) rfl (by kernel_rfl) (by kernel_rfl) (by kernel_rfl) (fun _ _ _ h => h) (Or.inl ⟨by rfl, ?_⟩) (by assumption) ?_
                        rotate_left
                        · (intro w hSw; (try dsimp only at hSw); go_simp; (try with_reducible rfl))
                        simp only [Act.put, List.setIfInBounds_toArray, List.set_cons_zero, List.set_cons_succ]
                        refine wpAnyH_take (i := 8) (oi := ⟨some 92, _, _, _, _, _⟩) (v := ?_) rfl (by kernel_rfl) (by kernel_rfl) (by kernel_rfl) (fun _ _ _ h => h) (Or.inl ⟨by rfl, ?_⟩) (by assumption) ?_
                        rotate_left
                        · (intro w hSw; (try dsimp only at hSw); go_simp; (try with_reducible rfl))
                        simp only [Act.put, List.setIfInBounds_toArray, List.set_cons_zero, List.set_cons_succ]
                        refine wpAnyH_take (i := 9) (oi := ⟨some 93, _, _, _, _, _⟩) (v := ?_) rfl (by kernel_rfl) (by kernel_rfl) (by kernel_rfl) (fun _ _ _ h => h) (Or.inl ⟨by rfl, ?_⟩) (by assumption) ?_
                        rotate_left
                        · (intro w hSw; (try dsimp only at hSw); go_simp; (try with_reducible rfl))
                        simp only [Act.put, List.setIfInBounds_toArray, List.set_cons_zero, List.set_cons_succ]
                        refine wpAnyH_take (i := 12) (oi := ⟨some 96, _, _, _, _, _⟩) (v := ?_) rfl (by kernel_rfl) (by kernel_rfl) (by kernel_rfl) (fun _ _ _ h => h) (Or.inl ⟨by rfl, ?_⟩) (by assumption) ?_
                        rotate_left
                        · (intro w hSw; (try dsimp only at hSw); go_simp; (try with_reducible rfl))
                        simp only [Act.put, List.setIfInBounds_toArray, List.set_cons_zero, List.set_cons_succ]
                        refine wpAnyH_take (i := 13) (oi := ⟨some 97, _, _, _, _, _⟩) (v := ?_) rfl (by kernel_rfl) (by kernel_rfl) (by kernel_rfl) (fun _ _ _ h => h) (Or.inl ⟨by rfl, ?_⟩) (by assumption) ?_
                        rotate_left
                        · (intro w hSw; (try dsimp only at hSw); go_simp; (try with_reducible rfl))
                        simp only [Act.put, List.setIfInBounds_toArray, List.set_cons_zero, List.set_cons_succ]
                        refine wpAnyH_take (i := 14) (oi := ⟨some 98, _, _, _, _, _⟩) (v := ?_) rfl (by kernel_rfl) (by kernel_rfl) (by kernel_rfl) (fun _ _ _ h => h) (Or.inl ⟨by rfl, ?_⟩) (by assumption) ?_
                        rotate_left
                        · (intro w hSw; (try dsimp only at hSw); go_simp; (try with_reducible rfl))
                        simp only [Act.put, List.setIfInBounds_toArray, List.set_cons_zero, List.set_cons_succ]
                        refine wpAnyH_ready (rs := [0, 10]) (by kernel_rfl) (by simp) ?_
                        refine AllReadyH.cons (o := ⟨some 84, _, _, _, _, _⟩) rfl (fun KK hK => ?_) (AllReadyH.cons (o := ⟨some 94, _, _, _, _, _⟩) rfl (fun KK hK => ?_) (AllReadyH.nil))
                        · go_simp
                          change KK _ (w3.alloc (.cells #[] 86))
                          replace H := Lib.hid H.out.empty
                          generalize w3.alloc (.cells #[] 86) = WX1 at H ⊢
                          generalize w3.heap.size = e1 at H ⊢
                          refine hK.out _ _ (HSS.out _ H.out.bel) (fun hHeld => ?_)
                          clear hK; try clear KK
                          try simp only [Act.put, List.setIfInBounds_toArray, List.set_cons_zero, List.set_cons_succ]
                          refine wpAnyH_ready (rs := [4, 10]) (by kernel_rfl) (by simp) ?_
                          refine AllReadyH.cons (o := ⟨some 88, _, _, _, _, _⟩) rfl (fun KK hK => ?_) (AllReadyH.cons (o := ⟨some 94, _, _, _, _, _⟩) rfl (fun KK hK => ?_) (AllReadyH.nil))
                          · refine GA.src H.out (by rfl) _ _ _ (by rfl) i0 (.agg #[.int .i64 0, .int .i64 0, .int .i64 0, .int .i64 0]) 32 Tryd.underlying82 hi0 hz0 hz1 hz2 (by rfl) (by decide) (by rfl) _ _ _ _ (by rfl) HTL.out (fun hm => HTS.out _ hm H.out.bel) HT1.out (by unfold maxLen; omega) (by omega) ?_
                            intro g1 cap1 WX2 H'
                            rw [Nat.zero_add, List.nil_append] at H'
                            rw [Nat.zero_add]
                            replace H := Lib.hid H'
                            clear H'
                            refine hK.out _ _ (HSS.out _ H.out.bel) (fun hHeld => ?_)
                            clear hK; try clear KK
                            try simp only [Act.put, List.setIfInBounds_toArray, List.set_cons_zero, List.set_cons_succ]
                            refine wpAnyH_ready (rs := [10]) (by kernel_rfl) (by simp) ?_
                            refine AllReadyH.cons (o := ⟨some 94, _, _, _, _, _⟩) rfl (fun KK hK => ?_) AllReadyH.nil
                            go_simp
                            change KK _ (WX2.alloc (.cells (Cnt.cells ⟨m.kind, m.code, 0, 0⟩) 86))
                            replace H := Lib.hid (H.out.new (Cnt.cells ⟨m.kind, m.code, 0, 0⟩))
                            generalize WX2.alloc (.cells (Cnt.cells ⟨m.kind, m.code, 0, 0⟩) 86) = WX3 at H ⊢
                            generalize WX2.heap.size = nb1 at H ⊢
                            refine hK.out _ _ (HSS.out _ H.out.bel) (fun hHeld => ?_)
                            clear hK; try clear KK
                            try simp only [Act.put, List.setIfInBounds_toArray, List.set_cons_zero, List.set_cons_succ]
                            refine wpAnyH_ready (rs := [11]) (by kernel_rfl) (by simp) ?_
                            refine AllReadyH.cons (o := ⟨some 95, _, _, _, _, _⟩) rfl (fun KK hK => ?_) AllReadyH.nil
                            refine GA.app H.out (by rfl) _ _ _ (by rfl) i0 (.agg #[.int .i64 0, .int .i64 0, .int .i64 0, .int .i64 0]) 32 Tryd.underlying82 hi0 hz0 hz1 hz2 (by rfl) (by decide) (by rfl) (by rfl) (cnt_size _) (one_cnt _) (by unfold maxLen; omega) (by omega) ?_
                            intro g2 cap2 WX4 H'
                            replace H := Lib.hid H'
                            clear H'
                            refine hK.out _ _ (HSS.out _ H.out.bel) (fun hHeld => ?_)
                            clear hK; try clear KK
                            try simp only [Act.put, List.setIfInBounds_toArray, List.set_cons_zero, List.set_cons_succ]
                            refine wpAnyH_ready (rs := [15]) (by kernel_rfl) (by simp) ?_
                            refine AllReadyH.cons (o := ⟨some 99, _, _, _, _, _⟩) rfl (fun KK hK => ?_) AllReadyH.nil
                            refine GA.src H.out (by rfl) _ _ _ (by rfl) i0 (.agg #[.int .i64 0, .int .i64 0, .int .i64 0, .int .i64 0]) 32 Tryd.underlying82 hi0 hz0 hz1 hz2 (by rfl) (by decide) (by rfl) _ _ _ _ (by rfl) HDL.out (fun hm => HDS.out _ hm H.out.bel) HD1.out (by unfold maxLen; omega) (by omega) ?_
                            intro g3 cap3 WX5 H'
                            replace H := Lib.hid H'
                            clear H'
                            refine hK.out _ _ (HSS.out _ H.out.bel) (fun hHeld => ?_)
                            clear hK; try clear KK
                            try simp only [Act.put, List.setIfInBounds_toArray, List.set_cons_zero, List.set_cons_succ]
                            refine wpAnyH_take (i := 16) (oi := ⟨some 5, _, _, _, _, _⟩) (v := ?_) rfl (by kernel_rfl) (by kernel_rfl) (by kernel_rfl) (fun _ _ _ h => h) (Or.inl ⟨by rfl, ?_⟩) (by assumption) ?_
                            rotate_left
                            · (intro w hSw; (try dsimp only at hSw); go_simp; (try with_reducible rfl))
                            simp only [Act.put, List.setIfInBounds_toArray, List.set_cons_zero, List.set_cons_succ]
                            refine wpAnyH_done (by kernel_rfl) ?_ _
                            replace H := Lib.hid (HOS.out.grown (HN0.out ▸ H.out) HLEN.out HROW.out HNE.out)
                            clear HOS
                            go_wp2_with fail
                            go_meet
                            exact HMEET.out _ _ H.out
                          · go_simp
                            change KK _ (WX1.alloc (.cells (Cnt.cells ⟨m.kind, m.code, 0, 0⟩) 86))
                            replace H := Lib.hid (H.out.new (Cnt.cells ⟨m.kind, m.code, 0, 0⟩))
                            generalize WX1.alloc (.cells (Cnt.cells ⟨m.kind, m.code, 0, 0⟩) 86) = WX6 at H ⊢
                            generalize WX1.heap.size = nb1 at H ⊢
                            refine hK.out _ _ (HSS.out _ H.out.bel) (fun hHeld => ?_)
                            clear hK; try clear KK
                            try simp only [Act.put, List.setIfInBounds_toArray, List.set_cons_zero, List.set_cons_succ]
                            refine wpAnyH_ready (rs := [4]) (by kernel_rfl) (by simp) ?_
                            refine AllReadyH.cons (o := ⟨some 88, _, _, _, _, _⟩) rfl (fun KK hK => ?_) AllReadyH.nil
                            refine GA.src H.out (by rfl) _ _ _ (by rfl) i0 (.agg #[.int .i64 0, .int .i64 0, .int .i64 0, .int .i64 0]) 32 Tryd.underlying82 hi0 hz0 hz1 hz2 (by rfl) (by decide) (by rfl) _ _ _ _ (by rfl) HTL.out (fun hm => HTS.out _ hm H.out.bel) HT1.out (by unfold maxLen; omega) (by omega) ?_
                            intro g1 cap1 WX7 H'
                            rw [Nat.zero_add, List.nil_append] at H'
                            rw [Nat.zero_add]
                            replace H := Lib.hid H'
                            clear H'
                            refine hK.out _ _ (HSS.out _ H.out.bel) (fun hHeld => ?_)
                            clear hK; try clear KK
                            try simp only [Act.put, List.setIfInBounds_toArray, List.set_cons_zero, List.set_cons_succ]
                            refine wpAnyH_ready (rs := [11]) (by kernel_rfl) (by simp) ?_
                            refine AllReadyH.cons (o := ⟨some 95, _, _, _, _, _⟩) rfl (fun KK hK => ?_) AllReadyH.nil
                            refine GA.app H.out (by rfl) _ _ _ (by rfl) i0 (.agg #[.int .i64 0, .int .i64 0, .int .i64 0, .int .i64 0]) 32 Tryd.underlying82 hi0 hz0 hz1 hz2 (by rfl) (by decide) (by rfl) (by rfl) (cnt_size _) (one_cnt _) (by unfold maxLen; omega) (by omega) ?_
                            intro g2 cap2 WX8 H'
                            replace H := Lib.hid H'
                            clear H'
                            refine hK.out _ _ (HSS.out _ H.out.bel) (fun hHeld => ?_)
                            clear hK; try clear KK
                            try simp only [Act.put, List.setIfInBounds_toArray, List.set_cons_zero, List.set_cons_succ]
                            refine wpAnyH_ready (rs := [15]) (by kernel_rfl) (by simp) ?_
                            refine AllReadyH.cons (o := ⟨some 99, _, _, _, _, _⟩) rfl (fun KK hK => ?_) AllReadyH.nil
                            refine GA.src H.out (by rfl) _ _ _ (by rfl) i0 (.agg #[.int .i64 0, .int .i64 0, .int .i64 0, .int .i64 0]) 32 Tryd.underlying82 hi0 hz0 hz1 hz2 (by rfl) (by decide) (by rfl) _ _ _ _ (by rfl) HDL.out (fun hm => HDS.out _ hm H.out.bel) HD1.out (by unfold maxLen; omega) (by omega) ?_
                            intro g3 cap3 WX9 H'
                            replace H := Lib.hid H'
                            clear H'
                            refine hK.out _ _ (HSS.out _ H.out.bel) (fun hHeld => ?_)
                            clear hK; try clear KK
                            try simp only [Act.put, List.setIfInBounds_toArray, List.set_cons_zero, List.set_cons_succ]
                            refine wpAnyH_take (i := 16) (oi := ⟨some 5, _, _, _, _, _⟩) (v := ?_) rfl (by kernel_rfl) (by kernel_rfl) (by kernel_rfl) (fun _ _ _ h => h) (Or.inl ⟨by rfl, ?_⟩) (by assumption) ?_
                            rotate_left
                            · (intro w hSw; (try dsimp only at hSw); go_simp; (try with_reducible rfl))
                            simp only [Act.put, List.setIfInBounds_toArray, List.set_cons_zero, List.set_cons_succ]
                            refine wpAnyH_done (by kernel_rfl) ?_ _
                            replace H := Lib.hid (HOS.out.grown (HN0.out ▸ H.out) HLEN.out HROW.out HNE.out)
                            clear HOS
                            go_wp2_with fail
                            go_meet
                            exact HMEET.out _ _ H.out
                        · go_simp
                          change KK _ (w3.alloc (.cells (Cnt.cells ⟨m.kind, m.code, 0, 0⟩) 86))
                          replace H := Lib.hid (H.out.new (Cnt.cells ⟨m.kind, m.code, 0, 0⟩))
                          generalize w3.alloc (.cells (Cnt.cells ⟨m.kind, m.code, 0, 0⟩) 86) = WX10 at H ⊢
                          generalize w3.heap.size = nb1 at H ⊢
                          refine hK.out _ _ (HSS.out _ H.out.bel) (fun hHeld => ?_)
                          clear hK; try clear KK
                          try simp only [Act.put, List.setIfInBounds_toArray, List.set_cons_zero, List.set_cons_succ]
                          refine wpAnyH_ready (rs := [0]) (by kernel_rfl) (by simp) ?_
                          refine AllReadyH.cons (o := ⟨some 84, _, _, _, _, _⟩) rfl (fun KK hK => ?_) AllReadyH.nil
                          go_simp
                          change KK _ (WX10.alloc (.cells #[] 86))
                          replace H := Lib.hid H.out.empty
                          generalize WX10.alloc (.cells #[] 86) = WX11 at H ⊢
                          generalize WX10.heap.size = e1 at H ⊢
                          refine hK.out _ _ (HSS.out _ H.out.bel) (fun hHeld => ?_)
                          clear hK; try clear KK
                          try simp only [Act.put, List.setIfInBounds_toArray, List.set_cons_zero, List.set_cons_succ]
                          refine wpAnyH_ready (rs := [4]) (by kernel_rfl) (by simp) ?_
                          refine AllReadyH.cons (o := ⟨some 88, _, _, _, _, _⟩) rfl (fun KK hK => ?_) AllReadyH.nil
                          refine GA.src H.out (by rfl) _ _ _ (by rfl) i0 (.agg #[.int .i64 0, .int .i64 0, .int .i64 0, .int .i64 0]) 32 Tryd.underlying82 hi0 hz0 hz1 hz2 (by rfl) (by decide) (by rfl) _ _ _ _ (by rfl) HTL.out (fun hm => HTS.out _ hm H.out.bel) HT1.out (by unfold maxLen; omega) (by omega) ?_
                          intro g1 cap1 WX12 H'
                          rw [Nat.zero_add, List.nil_append] at H'
                          rw [Nat.zero_add]
                          replace H := Lib.hid H'
                          clear H'
                          refine hK.out _ _ (HSS.out _ H.out.bel) (fun hHeld => ?_)
                          clear hK; try clear KK
                          try simp only [Act.put, List.setIfInBounds_toArray, List.set_cons_zero, List.set_cons_succ]
                          refine wpAnyH_ready (rs := [11]) (by kernel_rfl) (by simp) ?_
                          refine AllReadyH.cons (o := ⟨some 95, _, _, _, _, _⟩) rfl (fun KK hK => ?_) AllReadyH.nil
                          refine GA.app H.out (by rfl) _ _ _ (by rfl) i0 (.agg #[.int .i64 0, .int .i64 0, .int .i64 0, .int .i64 0]) 32 Tryd.underlying82 hi0 hz0 hz1 hz2 (by rfl) (by decide) (by rfl) (by rfl) (cnt_size _) (one_cnt _) (by unfold maxLen; omega) (by omega) ?_
                          intro g2 cap2 WX13 H'
                          replace H := Lib.hid H'
                          clear H'
                          refine hK.out _ _ (HSS.out _ H.out.bel) (fun hHeld => ?_)
                          clear hK; try clear KK
                          try simp only [Act.put, List.setIfInBounds_toArray, List.set_cons_zero, List.set_cons_succ]
                          refine wpAnyH_ready (rs := [15]) (by kernel_rfl) (by simp) ?_
                          refine AllReadyH.cons (o := ⟨some 99, _, _, _, _, _⟩) rfl (fun KK hK => ?_) AllReadyH.nil
                          refine GA.src H.out (by rfl) _ _ _ (by rfl) i0 (.agg #[.int .i64 0, .int .i64 0, .int .i64 0, .int .i64 0]) 32 Tryd.underlying82 hi0 hz0 hz1 hz2 (by rfl) (by decide) (by rfl) _ _ _ _ (by rfl) HDL.out (fun hm => HDS.out _ hm H.out.bel) HD1.out (by unfold maxLen; omega) (by omega) ?_
                          intro g3 cap3 WX14 H'
                          replace H := Lib.hid H'
                          clear H'
                          refine hK.out _ _ (HSS.out _ H.out.bel) (fun hHeld => ?_)
                          clear hK; try clear KK
                          try simp only [Act.put, List.setIfInBounds_toArray, List.set_cons_zero, List.set_cons_succ]
                          refine wpAnyH_take (i := 16) (oi := ⟨some 5, _, _, _, _, _⟩) (v := ?_) rfl (by kernel_rfl) (by kernel_rfl) (by kernel_rfl) (fun _ _ _ h => h) (Or.inl ⟨by rfl, ?_⟩) (by assumption) ?_
                          rotate_left
                          · (intro w hSw; (try dsimp only at hSw); go_simp; (try with_reducible rfl))
                          simp only [Act.put, List.setIfInBounds_toArray, List.set_cons_zero, List.set_cons_succ]
                          refine wpAnyH_done (by kernel_rfl) ?_ _
                          replace H := Lib.hid (HOS.out.grown (HN0.out ▸ H.out) HLEN.out HROW.out HNE.out)
                          clear HOS
                          go_wp2_with fail
                          go_meet
                          exact HMEET.out _ _ H.out
              case rest =>
                clear H HP htv
                obtain ⟨S1, ⟨hk1, hkey, hins⟩, hl1, hcr⟩ := hcut
                replace H := Lib.hid hcr
                have HST1 := Lib.hid (HST.out.trans hins)
                have hbm : BndC (i + 1) (more (keyK m) m.qty S1[k]) := HBI.out _ (by rw [hins]; exact List.mem_set hk1 _)
                have HBI1 := Lib.hid (show ∀ c ∈ S1.set k (more (keyK m) m.qty S1[k]), BndC (i + 1) c from fun c hc => HBI.out c (by rw [hins]; exact hc))
                have HLN := Lib.hid (show (S1.set k (more (keyK m) m.qty S1[k])).length ≤ i + 1 from by have h1 := ins_len (keyK m) m.qty S; rw [hins] at h1; omega)
                clear hcr hins HBI HST
                generalize wc = wr2 at H ⊢
                generalize u5 = v2 at H ⊢
                obtain ⟨va2, vc2, rfl, hvc2, hvm2, -⟩ := gl_at H.out.gl
                unfold maxLen at hvm2
                obtain ⟨g, rfl, hgn, hgw, hcell⟩ := H.out.row k hk1
                have d2 : wr2.cell? ⟨g, k * 4 + 2, none⟩ = some (.int .i64 S1[k].many) := hcell 2 _ rfl
                have f2 := H.out.free (k * 4 + 2)
                have k0 : (0 : Int) ≤ (k : Int) := by omega
                have k1 : (k : Int) < (S1.length : Int) := by omega
                clear hcell
                have H1 := Lib.hid (H.out.set k hk1 2 (by decide) (.int .i64 (S1[k].many + 1)) ⟨S1[k].kind, S1[k].code, S1[k].many + 1, S1[k].qty⟩ rfl)
                have hk2 : k < (S1.set k ⟨S1[k].kind, S1[k].code, S1[k].many + 1, S1[k].qty⟩).length := by simpa using hk1
                have HMO := Lib.hid (show more (keyK m) m.qty S1[k] = ⟨S1[k].kind, S1[k].code, S1[k].many + 1, S1[k].qty + m.qty⟩ from by rw [← hkey]; rfl)
                have H2 := Lib.hid (fun W (h : CR w.heap.size w W (.slice (some ⟨g, 0, none⟩) S1.length vc2) (S1.set k ⟨S1[k].kind, S1[k].code, S1[k].many + 1, S1[k].qty⟩) B m) => And.intro (show W.cell? ⟨g, k * 4 + 3, none⟩ = some (.int .i64 S1[k].qty) from by
                    obtain ⟨g2, e1, _, _, e2⟩ := h.row k hk2
                    injection e1 with e1
                    injection e1 with e1
                    subst e1
                    exact e2 3 _ (by simp [Cnt.cells])) (h.set k hk2 3 (by decide) (.int .i64 (S1[k].qty + m.qty)) ⟨S1[k].kind, S1[k].code, S1[k].many + 1, S1[k].qty + m.qty⟩ (by simp [Cnt.cells])))
                have HSS2 := Lib.hid (show (S1.set k ⟨S1[k].kind, S1[k].code, S1[k].many + 1, S1[k].qty⟩).set k ⟨S1[k].kind, S1[k].code, S1[k].many + 1, S1[k].qty + m.qty⟩ = S1.set k (more (keyK m) m.qty S1[k]) from by rw [HMO.out, List.set_set])
                obtain ⟨⟨q1, q2⟩, q3, q4⟩ := hbm
                dsimp only [more] at q1 q2 q3 q4
                go_upto_region 13 with fail
                change Code.wp _ _ _ _ (wr2.setCell ⟨g, k * 4 + 2, none⟩ (.int .i64 (S1[k].many + 1)))
                clear d2 f2 H
                generalize wr2.setCell ⟨g, k * 4 + 2, none⟩ (.int .i64 (S1[k].many + 1)) = wr3 at H1 ⊢
                have d3 : wr3.drew.cell? ⟨g, k * 4 + 3, none⟩ = some (.int .i64 S1[k].qty) := (H2.out _ H1.out).1
                have f3 : wr3.drew.frozen? ⟨g, k * 4 + 3, none⟩ = false := H1.out.drew.free _
                have m7 : wr3.drew.cell? ⟨B, 7, none⟩ = some (.int .i64 m.qty) := H1.out.mb.cell 7 rfl
                replace H2 := Lib.hid (H2.out _ H1.out.drew).2
                refine Go.Proofs.YtmkcooamgojbpaaDoor.Veil.start 12 (by kernel_rfl) (by kernel_rfl) ?_
                simp only [List.take_succ_cons, List.take_zero, List.drop_succ_cons, List.drop_zero]
                (refine Go.Proofs.YtmkcooamgojbpaaDoor.Veil.step (fun K hK => ?_); go_simp; refine hK _ ?_; clear hK K)
                (refine Go.Proofs.YtmkcooamgojbpaaDoor.Veil.step (fun K hK => ?_); go_simp; refine hK _ ?_; clear hK K)
                (refine Go.Proofs.YtmkcooamgojbpaaDoor.Veil.step (fun K hK => ?_); go_simp; refine hK _ ?_; clear hK K)
                (refine Go.Proofs.YtmkcooamgojbpaaDoor.Veil.step (fun K hK => ?_); go_simp; refine hK _ ?_; clear hK K)
                (refine Go.Proofs.YtmkcooamgojbpaaDoor.Veil.step (fun K hK => ?_); go_simp; refine hK _ ?_; clear hK K)
                (refine Go.Proofs.YtmkcooamgojbpaaDoor.Veil.step (fun K hK => ?_); go_simp; refine hK _ ?_; clear hK K)
                (refine Go.Proofs.YtmkcooamgojbpaaDoor.Veil.step (fun K hK => ?_); go_simp; refine hK _ ?_; clear hK K)
                (refine Go.Proofs.YtmkcooamgojbpaaDoor.Veil.step (fun K hK => ?_); go_simp; refine hK _ ?_; clear hK K)
                (refine Go.Proofs.YtmkcooamgojbpaaDoor.Veil.step (fun K hK => ?_); go_simp; refine hK _ ?_; clear hK K)
                (refine Go.Proofs.YtmkcooamgojbpaaDoor.Veil.step (fun K hK => ?_); go_simp; refine hK _ ?_; clear hK K)
                (refine Go.Proofs.YtmkcooamgojbpaaDoor.Veil.step (fun K hK => ?_); go_simp; refine hK _ ?_; clear hK K)
                (refine Go.Proofs.YtmkcooamgojbpaaDoor.Veil.step (fun K hK => ?_); go_simp; refine hK _ ?_; clear hK K)
                refine Go.Proofs.YtmkcooamgojbpaaDoor.Veil.nil ?_
                change wpList _ _ _ _ _ wr3.drew
                have hw : IntKind.i64.wrap (S1[k].qty + m.qty) = S1[k].qty + m.qty := by rw [IntKind.wrap_i64]; omega
                rw [hw]
                go_wp2_with fail
                go_roundw
                case rel => exact ⟨i + 1, by omega, by go_num, by rw [HST1.out, ← HSS2.out]; exact H2.out.gl, by rw [HST1.out]; exact HBI1.out, by rw [HST1.out]; exact HLN.out⟩
                case measure => simp [intOf]; omega
        · have b1 : (m.sym != sym) = true := by simpa using hs
          have HST := Lib.hid (show cntS sym (l.take (i + 1)) = cntS sym (l.take i) by rw [HT.out, cntS_snoc, cntStep, if_neg hs])
          clear hs
          unfold Msg.cells at H
          go_wp2_with fail
          go_roundw
          case rel => exact ⟨i + 1, by omega, by go_num, by rw [HST.out]; exact H.out.gl, by rw [HST.out]; exact fun c hc => bnd_next (HBD.out c hc), by rw [HST.out]; omega⟩
          case measure => simp [intOf]; omega
      · have hke : i = l.length := by omega
        subst hke
        rw [List.take_length] at HG HBD hlen
        go_wp2_with fail
        go_meet
        exact ⟨HG.out, by omega, fun c hc => by
          obtain ⟨⟨h1, h2⟩, h3, h4⟩ := HBD.out c hc
          exact ⟨⟨h1, by omega⟩, by omega, by omega⟩⟩
  case rest =>
    obtain ⟨hg, hlen, hbd⟩ := hcut
    have HG := Lib.hid hg
    obtain ⟨S, hS⟩ : ∃ S, S = cntS sym l := ⟨_, rfl⟩
    rw [← hS] at HG hlen
    have HSE := Lib.hid hS
    clear hg hbd hS
    generalize wc = wr at HG ⊢
    generalize u5 = v at HG ⊢
    obtain ⟨va, vc, rfl, hvc, hvm, -⟩ := gl_at HG.out
    unfold maxLen at hvm
    go_wp2_with fail
    go_loopw [9] (fun i wr => ∃ k : Nat, k ≤ S.length ∧ i = .int .i64 k ∧ GL w.heap.size 86 4 w wr (.slice va S.length vc) (cutK S k).length (rowsK (cutK S k))) (fun i _ => S.length - (intOf i).toNat)
    case atStart => exact ⟨0, by omega, rfl, by rw [cutK_zero]; exact HG.out⟩
    case round =>
      clear HG
      obtain ⟨k, hk, rfl, hgk⟩ := hrel
      have HG := Lib.hid hgk
      clear hgk
      by_cases hlt : k < S.length
      · have hkl : k < (cutK S k).length := by rw [cutK_len]; exact hlt
        have HT := Lib.hid (cutK_next hlt)
        have HGT := Lib.hid (cutK_get hlt)
        obtain ⟨a2, c2, e2, _, _, hat⟩ := gl_at HG.out
        injection e2 with e2 _ e3
        subst e2 e3
        obtain ⟨g, rfl, hgn, hgw, hcell⟩ := hat k hkl
        have d3 : wr.cell? ⟨g, k * 4 + 3, none⟩ = some (.int .i64 S[k].qty) := hcell 3 _ (by rw [HGT.out]; rfl)
        have f3 : wr.frozen? ⟨g, k * 4 + 3, none⟩ = false := gl_free HG.out _
        have HS := Lib.hid (gl_set HG.out k hkl 3 (by decide) (.int .i64 (max (min S[k].qty 4611686018427387904) 0)) (clampC S[k]) (by rw [HGT.out]; rfl))
        have g0 : (0 : Int) ≤ (k : Int) := by omega
        have g1 : (k : Int) < (S.length : Int) := by omega
        clear hcell hat
        go_wp2_with fail
        go_roundw
        case rel => exact ⟨k + 1, by omega, by go_num, by rw [← HT.out]; exact HS.out⟩
        case measure => simp [intOf]; omega
      · have hke : k = S.length := by omega
        subst hke
        have HR2 := Lib.hid (show CntRow wr w.heap.size (.slice va S.length vc) (S.map clampC) from by
          obtain ⟨a2, c2, e2, h1, h2, hat⟩ := gl_at HG.out
          rw [cutK_all] at hat e2 h1
          exact ⟨a2, c2, e2, h1, h2, fun i hi => by
            obtain ⟨g, f1, f2, f3, f4⟩ := hat i hi
            exact ⟨g, f1, f2, f3, fun j u hu => f4 j u (by simpa using hu)⟩⟩)
        go_wp2_with fail
        go_ret
        exact ⟨_, rfl, by rw [← HSE.out]; exact HR2.out, HG.out.bel⟩
end Go.Proofs.YtmkcooamgojbpaaDoor.Counts
