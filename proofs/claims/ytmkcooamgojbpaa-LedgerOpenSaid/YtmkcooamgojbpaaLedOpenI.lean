/- (*ledger.Ledger).Open$1: the ids that rest, rising, one behind the other. -/
import Derived.Test.YtmkcooamgojbpaaLedSort
import Derived.Test.YtmkcooamgojbpaaLedNilsW
namespace Go.Proofs.Ytmkcooamgojbpaa.Ledger
open Go.RowKit Go.Shelf Go.ChangeMaps Go.Proofs.Ytmkcooamgojbpaa.Kit Go.Proofs.Ytmkcooamgojbpaa.Blk Go.Proofs.Ytmkcooamgojbpaa.Mp Go.Proofs.Ytmkcooamgojbpaa.Qty Go.Proofs.Ytmkcooamgojbpaa.Msgs Go.Proofs.Ytmkcooamgojbpaa.Iter
attribute [local go_sem] Oper.semAt_some wide_fn
set_option linter.unusedVariables false

def restS (sym : Int) (p : Key × Acc) : Bool := p.1.1 == sym && p.2.rest != 0
def idsL (sym : Int) (l : List (Key × Acc)) : List Int := (l.filter (restS sym)).map fun p => p.1.2
theorem ids_yes {sym : Int} {l : List (Key × Acc)} {p : Key × Acc} (h : restS sym p = true) : idsL sym (l ++ [p]) = idsL sym l ++ [p.1.2] := by simp [idsL, h]
theorem ids_no {sym : Int} {l : List (Key × Acc)} {p : Key × Acc} (h : restS sym p = false) : idsL sym (l ++ [p]) = idsL sym l := by simp [idsL, h]
theorem ids_len (sym : Int) (l : List (Key × Acc)) : (idsL sym l).length ≤ l.length := by
  unfold idsL
  rw [List.length_map]
  exact List.length_filter_le _ _
theorem ids_perm {sym : Int} {l k : List (Key × Acc)} (h : l.Perm k) : (idsL sym l).Perm (idsL sym k) := (h.filter _).map _
theorem rising_perm {l k : List Int} (h : l.Perm k) : rising l = rising k := by
  have hp : (rising l).Perm (rising k) := (List.mergeSort_perm l _).trans (h.trans (List.mergeSort_perm k _).symm)
  have ht : ∀ a b c : Int, decide (a ≤ b) = true → decide (b ≤ c) = true → decide (a ≤ c) = true := fun a b c => by simp; omega
  have hs : ∀ a b : Int, (decide (a ≤ b) || decide (b ≤ a)) = true := fun a b => by simp; omega
  exact hp.eq_of_pairwise (le := fun a b => decide (a ≤ b) = true) (fun a b _ _ h1 h2 => by simp at h1 h2; omega) (List.pairwise_mergeSort ht hs l) (List.pairwise_mergeSort ht hs k)
def openF (L : Led) (sym : Int) : List Int := rising (idsL sym L.now)

/-- Blocks of cells from B on are as they were. -/
def KC (B : Nat) (W W' : World) : Prop := W.heap.size ≤ W'.heap.size ∧ ∀ (k : Nat) (cs : Array Value) (T : TypeId) (fr : Nat × Nat), B ≤ k → W.heap[k]? = some (.cells cs T fr) → W'.heap[k]? = some (.cells cs T fr)
theorem kc_refl (B : Nat) (W : World) : KC B W W := ⟨Nat.le_refl _, fun _ _ _ _ _ h => h⟩
theorem kc_t {B : Nat} {X Y Z : World} (h : KC B X Y) (k : KC B Y Z) : KC B X Z := ⟨Nat.le_trans h.1 k.1, fun j cs T fr hj e => k.2 j cs T fr hj (h.2 j cs T fr hj e)⟩
theorem kc_less {B C : Nat} {X Y : World} (h : KC B X Y) (hC : B ≤ C) : KC C X Y := ⟨h.1, fun j cs T fr hj e => h.2 j cs T fr (Nat.le_trans hC hj) e⟩
theorem kc_b {B : Nat} (W : World) (l : Nat) (o o' : Obj) (h : W.heap[l]? = some o) (hc : o.isCells = false) : KC B W (W.putObj l o') := ⟨by simp, fun k cs T fr _ hk => by
  have hne : k ≠ l := fun e => by subst e; rw [hk] at h; cases h; cases hc
  exact (World.putObj_heap_other hne).trans hk⟩
/-- Between two rounds over the map. -/
structure Op1 (L : Led) (D b1 b2 b3 r : Nat) (sym : Int) (w : World) (vis left : List (Key × Acc)) (v : Value) (ids : List Int) (W : World) : Prop where
  at1 : At1 L D b1 b2 b3 r sym w vis left W
  row : RowI w.heap.size v ids W
section
variable {L : Led} {D b1 b2 b3 r : Nat} {sym : Int} {w W W' : World} {vis left : List (Key × Acc)} {v v' : Value} {ids : List Int}
theorem Op1.below (h : Op1 L D b1 b2 b3 r sym w vis left v ids W) (hb : Below W.heap.size W W') : Op1 L D b1 b2 b3 r sym w vis left v ids W' := ⟨h.at1.below hb, h.row.below hb⟩
theorem Op1.ne (h : Op1 L D b1 b2 b3 r sym w vis left v ids W) : v.ownBlock ≠ some r := fun e => by
  obtain ⟨_, cur, hc⟩ := row_cells h.row e
  exact h.at1.it.not_blk (show Blk W r cur 2 from hc) rfl
theorem Op1.next {l1 l2 : List (Key × Acc)} {p : Key × Acc} (h : Op1 L D b1 b2 b3 r sym w vis (l1 ++ p :: l2) v ids W) (ho : D < w.heap.size ∧ b1 < w.heap.size ∧ b2 < w.heap.size ∧ b3 < w.heap.size) (hi : IterIs W' r b1 ke va L.now (l1 ++ l2)) (hc : Chg W.heap.size r W W') :
    Op1 L D b1 b2 b3 r sym w (vis ++ [p]) (l1 ++ l2) v ids W' :=
  ⟨h.at1.next ho hi hc, World.ownsRow.kept h.row (chg_grown hc) (.inr h.ne)⟩
theorem LS.same (h : LS W D b1 b2 b3 L) (hs : ∀ k, k = D ∨ k = b1 ∨ k = b2 ∨ k = b3 → W'.heap[k]? = W.heap[k]?) : LS W' D b1 b2 b3 L :=
  ⟨(hs D (.inl rfl)).trans h.box, h.m1.same (hs b1 (.inr (.inl rfl))), h.m2.same (hs b2 (.inr (.inr (.inl rfl)))), h.m3.same (hs b3 (.inr (.inr (.inr rfl)))), h.ne⟩
theorem Op1.grown {ids' : List Int} (h : Op1 L D b1 b2 b3 r sym w vis left v ids W) (ho : D < w.heap.size ∧ b1 < w.heap.size ∧ b2 < w.heap.size ∧ b3 < w.heap.size) (hr : RowI w.heap.size v' ids' W') (hg : W.grownBy W' v.ownBlock) :
    Op1 L D b1 b2 b3 r sym w vis left v' ids' W' := by
  have hsz := h.at1.bel.size
  have low : ∀ k, k < w.heap.size → W'.heap[k]? = W.heap[k]? := fun k hk => hg.block k (by omega) (fun e => by
    have := (row_cells h.row e.symm).1
    omega)
  refine ⟨⟨h.at1.pm, h.at1.it.same (low b1 ho.2.1) (hg.block r h.at1.it.lt (fun e => h.ne e.symm)), h.at1.ls.same (fun k hk => low k (by rcases hk with rfl | rfl | rfl | rfl <;> omega)), h.at1.bel.grown hg hsz (fun k e => (row_cells h.row e).1), h.at1.ge⟩, hr⟩
end
theorem one_i64 (x : Int) : ∀ u ∈ [Value.int .i64 x], u.oneCell' = true := fun u hu => by simp at hu; subst hu; rfl
theorem news_i64 (W : World) (x : Int) : ∀ j u, [Value.int .i64 x][j]? = some u → (W.alloc (.cells #[.int .i64 x] 2)).cell? ((⟨W.heap.size, 0, none⟩ : Addr).add j) = some u := World.news_of_block (Blk.new W #[.int .i64 x] 2 W.heap.size rfl)

theorem infoI64 : (Try.prog.info? 2).map (fun i => (i.zero, i.size, i.bytes)) = some (some (.int .i64 0), 1, 8) := by kernel_rfl
set_option maxRecDepth 100000 in
set_option maxHeartbeats 2000000 in
theorem open1_in (n : Nat) (hn : 1 ≤ n) (L : Led) (hl : L.now.length ≤ 100000) (D b1 b2 b3 : Nat) (sym : Int) (l Bs By : Nat) (J Jx : List Int → World → Prop)
    (W : World) (hJ : AbidesFrom W.heap.size J) (hY : ∀ pre x W1, J pre W1 → pre.length < (openF L sym).length → YieldAt Fence.wide (n - 1) Try.prog l #[.int .i64 x] W1 fun e W' =>
      (e = .returned (.bool true) ∧ J (pre ++ [x]) W' ∧ KC W.heap.size W1 W') ∨ (e = .returned (.bool false) ∧ Jx (pre ++ [x]) W'))
    (hBs : Blk W Bs #[.pointer (some ⟨D, 0, none⟩)] 24) (hBy : Blk W By #[.int .i64 sym] 3) (hL : LS W D b1 b2 b3 L) (h0 : J [] W) :
    CallsIn Fence.wide n Try.prog 23 #[.func (.yield l) #[] #[], .pointer (some ⟨Bs, 0, none⟩), .pointer (some ⟨By, 0, none⟩)] W fun e W' => (∃ v, e = .returned v) ∧
      ((∃ ys, ys = openF L sym ∧ J ys W') ∨ (∃ pre, pre <+: openF L sym ∧ Jx pre W')) := by
  obtain ⟨o, hrange, hit⟩ := run_range (P := Try.prog) hL.m1 (T := 47) Try.underlying47
  obtain ⟨i0, hi0, hz0, hz1, hz2⟩ : ∃ i0, Try.prog.info? 2 = some i0 ∧ i0.zero = some (.int .i64 0) ∧ i0.size = 1 ∧ i0.bytes = 8 := by
    have := infoI64
    cases h : Try.prog.info? 2 with
    | none => rw [h] at this; simp at this
    | some i => rw [h] at this; simp at this; exact ⟨i, rfl, this.1, this.2.1, this.2.2⟩
  have HO := Lib.hid (And.intro hL.box.lt (And.intro hL.m1.lt (And.intro hL.m2.lt hL.m3.lt)))
  have HA0 := Lib.hid (show Op1 L D b1 b2 b3 W.heap.size sym W [] L.now (.slice none 0 0) [] (W.alloc o) from ⟨⟨List.Perm.refl _, hit, hL.alloc o, (Below.refl _ _).alloc (Nat.le_refl _) o, Nat.le_refl _⟩, ⟨rfl, .inl ⟨rfl, rfl⟩⟩⟩)
  have HBS := Lib.hid hBs
  have HBY := Lib.hid hBy
  have HLN := Lib.hid hl
  have HJ := Lib.hid hJ
  have HJ0 := Lib.hid h0
  have cB : W.cell? ⟨Bs, 0, none⟩ = some (.pointer (some ⟨D, 0, none⟩)) := hBs.cell 0 rfl
  have cD : W.cell? ⟨D, 0, none⟩ = some (.map (some b1)) := hL.box.cell 0 rfl
  clear hit hBs hBy hl hL hJ h0
  refine callsIn_of_wp Try.func23 rfl trivial ?_ rfl
  simp only [Try.ntmps23, List.size_toArray, List.length_cons, List.length_nil, Nat.reduceAdd, Nat.reduceSub, Array.replicate_succ, Array.replicate_zero, List.push_toArray, List.append_toArray, List.nil_append, List.cons_append]
  gi_wp2_with fail
  gi_loopw [4] (fun v wr => ∃ vis left ids, Op1 L D b1 b2 b3 W.heap.size sym W vis left v ids wr ∧ ids = idsL sym vis) (fun _ wr => leftM W.heap.size b1 wr)
  case atStart => exact ⟨[], L.now, [], HA0.out, rfl⟩
  case round =>
    obtain ⟨vis, left, ids, hA, hids⟩ := hrel
    have HI0 := Lib.hid hA.at1.it
    have HIDS := Lib.hid hids
    have hcl : ids.length ≤ 100000 := by
      have h1 := ids_len sym vis
      have h2 := hA.at1.pm.length_eq
      have := HLN.out
      rw [hids]
      simp at h2
      omega
    have HCL := Lib.hid hcl
    have HA := Lib.hid hA
    clear hA HA0 hrange cB cD hcl hids
    generalize u4 = v at HA ⊢
    rcases run_next (P := Try.prog) HI0.out 0 with ⟨rfl, hnext⟩ | ⟨l1, p, l2, W2, rfl, hnext, hent, hi2, hc2, hs2⟩
    · have HOP := Lib.hid (show rising ids = openF L sym by
        have h1 := HA.out.at1.pm
        rw [List.append_nil] at h1
        rw [HIDS.out, openF]
        exact rising_perm (ids_perm h1))
      have HSO := Lib.hid (sort_any W.heap.size v ids (by have := HCL.out; omega) wr HA.out.row)
      have HLE := Lib.hid (rising_len ids)
      gi_wp2_with fail
      refine (to_wide HSO.out).mono ?_
      rintro e w3 ⟨rfl, hrow, hgrow⟩
      have HBE := Lib.hid (HA.out.at1.bel.grown hgrow HA.out.at1.bel.size (fun k e => (row_cells HA.out.row e).1))
      have HR := Lib.hid (show ∃ a c, v = .slice a (openF L sym).length c ∧ ∀ (k : Nat) (x : Int), (openF L sym)[k]? = some x → ∃ g cs, a = some ⟨g, 0, none⟩ ∧ W.heap.size ≤ g ∧ w3.heap[g]? = some (.cells cs 2 (0, 0)) ∧ cs[k]? = some (.int .i64 x) from by
        rw [← HOP.out]
        rcases hrow.2 with ⟨hv, h0⟩ | ⟨g, cap, cur, hv, h1, h2, h3, h4, h5, h6⟩
        · have e0 : rising ids = [] := List.eq_nil_of_length_eq_zero h0
          rw [e0]
          exact ⟨none, 0, hv, fun k x hx => by simp at hx⟩
        · refine ⟨_, _, hv, fun k x hx => ⟨g, cur, rfl, h1, h2, ?_⟩⟩
          have hk : k < (rising ids).length := (List.getElem?_eq_some_iff.1 hx).1
          have h7 : (cur.toList.take ((rising ids).length * 1))[k]? = (vals (rising ids))[k]? := by rw [h6]
          rw [List.getElem?_take_of_lt (by omega)] at h7
          rw [← Array.getElem?_toList, h7]
          simp [vals, hx])
      obtain ⟨a, c, rfl, hcell⟩ := HR.out
      have HC := Lib.hid hcell
      have HLO := Lib.hid (show (openF L sym).length ≤ 100000 by rw [← HOP.out, HLE.out]; exact HCL.out)
      clear hcell HR hrow hgrow HSO HI0 hnext HA HOP HIDS HLE HCL
      have HJ3 := Lib.hid (show J [] w3 from HJ.out [] W w3 none HJ0.out ⟨HBE.out.os, HBE.out.tape, HBE.out.output, HBE.out.size, fun k hk _ => HBE.out.block k hk⟩ (fun r e => by cases e))
      gi_wp2_with fail
      gi_loopw [39] (fun i wr => ∃ k : Nat, k ≤ (openF L sym).length ∧ i = .int .i64 k ∧ J ((openF L sym).take k) wr ∧ KC W.heap.size w3 wr) (fun i _ => (openF L sym).length - (intOf i).toNat)
      case atStart => exact ⟨0, by omega, rfl, HJ3.out, kc_refl _ _⟩
      case round =>
        obtain ⟨k, hk, rfl, hJs, hkc⟩ := hrel
        have HJS := Lib.hid hJs
        have HKC := Lib.hid hkc
        clear hJs hkc
        by_cases hlt : k < (openF L sym).length
        · have hx : (openF L sym)[k]? = some (openF L sym)[k] := List.getElem?_eq_getElem hlt
          have HT := Lib.hid (List.take_succ_eq_append_getElem hlt)
          generalize (openF L sym)[k] = x at hx HT
          obtain ⟨g, cs, rfl, hg, hb3, hcx⟩ := HC.out k x hx
          have hcell : wr.cell? ⟨g, k, none⟩ = some (.int .i64 x) := (show Blk wr g cs 2 from HKC.out.2 g cs _ _ hg hb3).cell k hcx
          obtain ⟨fn, tmps, assign, body, hy, hR⟩ := hY _ x wr HJS.out (by rw [List.length_take]; omega)
          have HR := Lib.hid hR
          have HLT := Lib.hid hlt
          clear hR hx hb3 hcx
          have g0 : (0 : Int) ≤ (k : Int) := by omega
          have g1 : (k : Int) < ((openF L sym).length : Int) := by omega
          have g2 : (k : Int) < 100000 := by have := HLO.out; have := HLT.out; omega
          gi_wp2_with fail
          refine HR.out.mono ?_
          rintro e W3 (⟨rfl, hJ3, hk3⟩ | ⟨rfl, hJx3⟩)
          · gi_wp2
            go_roundw
            case rel => exact ⟨k + 1, by have := HLT.out; omega, by simp, by rw [HT.out]; exact hJ3, kc_t HKC.out hk3⟩
            case measure => simp [intOf]; have := HLT.out; omega
          · gi_wp2
            refine bodyPost_ret (results_none rfl _ _ _) rfl ?_
            exact ⟨⟨_, rfl⟩, .inr ⟨_, by rw [← HT.out]; exact List.take_prefix _ _, hJx3⟩⟩
        · have hke : k = (openF L sym).length := by omega
          have HJE := Lib.hid (show J (openF L sym) wr from by have := HJS.out; rw [hke, List.take_length] at this; exact this)
          have g1 : ¬ (k : Int) < ((openF L sym).length : Int) := by omega
          clear hke
          gi_wp2_with fail
          go_end0
          exact ⟨⟨_, rfl⟩, .inl HJE.out⟩
    · have HA2 := Lib.hid (HA.out.next HO.out hi2 hc2)
      obtain ⟨⟨k1, k2⟩, x, y, z, t⟩ := p
      change (Instr.next _ false 0).run Try.prog wr = .ok (.tuple #[.bool true, .agg #[.int .i64 k1, .int .i64 k2], .agg #[.int .i64 x, .int .i64 y, .int .i64 z, .int .i64 t]]) W2 at hnext
      change (Instr.entry _).run Try.prog W2 = .ok (.tuple #[.agg #[.int .i64 k1, .int .i64 k2], .agg #[.int .i64 x, .int .i64 y, .int .i64 z, .int .i64 t]]) W2 at hent
      have HA3 := Lib.hid (HA2.out.below (((Below.refl W2.heap.size W2).alloc (Nat.le_refl _) (.cells #[.int .i64 k1, .int .i64 k2] 60)).trans ((Below.refl W2.heap.size _).alloc (by simp) (.cells #[.int .i64 x, .int .i64 y, .int .i64 z, .int .i64 t] 41))))
      have HY3 := Lib.hid (HBY.out.below HA3.out.at1.bel HBY.out.lt)
      have cy : ((W2.alloc (.cells #[.int .i64 k1, .int .i64 k2] 60)).alloc (.cells #[.int .i64 x, .int .i64 y, .int .i64 z, .int .i64 t] 41)).cell? ⟨By, 0, none⟩ = some (.int .i64 sym) := HY3.out.cell 0 rfl
      clear hi2 hc2 hs2 HA HA2
      by_cases hk : k1 = sym
      · have g1 : (k1 == sym) = true := by simpa using hk
        clear hk
        by_cases ht : t = 0
        · have g2 : (t != 0) = false := by simpa using ht
          have HIN := Lib.hid (show idsL sym (vis ++ [((k1, k2), ⟨x, y, z, t⟩)]) = idsL sym vis from ids_no (by unfold restS; dsimp only; rw [g1, g2]; rfl))
          clear ht
          gi_wp2_with fail
          go_roundw
          case rel => exact ⟨_, _, _, HA3.out, by rw [HIN.out]; exact HIDS.out⟩
          case measure => rw [leftM_of HA3.out.at1.it, leftM_of HI0.out]; simp
        · have g2 : (t != 0) = true := by simpa using ht
          have HIN := Lib.hid (show idsL sym (vis ++ [((k1, k2), ⟨x, y, z, t⟩)]) = idsL sym vis ++ [k2] from ids_yes (by unfold restS; dsimp only; rw [g1, g2]; rfl))
          clear ht
          have HOW := Lib.hid (HA3.out.row.below ((Below.refl _ _).alloc (Nat.le_refl _) (.cells #[.int .i64 k2] 2)))
          have HNS := Lib.hid (by have := news_i64 ((W2.alloc (.cells #[.int .i64 k1, .int .i64 k2] 60)).alloc (.cells #[.int .i64 x, .int .i64 y, .int .i64 z, .int .i64 t] 41)) k2; rw [World.size_alloc, World.size_alloc] at this; exact this)
          have HBL := Lib.hid (show W.heap.size ≤ (((W2.alloc (.cells #[.int .i64 k1, .int .i64 k2] 60)).alloc (.cells #[.int .i64 x, .int .i64 y, .int .i64 z, .int .i64 t] 41)).alloc (.cells #[.int .i64 k2] 2)).heap.size from by have := HA3.out.at1.bel.size; rw [World.size_alloc]; omega)
          have HA4 := Lib.hid (HA3.out.below ((Below.refl _ _).alloc (Nat.le_refl _) (.cells #[.int .i64 k2] 2)))
          gi_wp2_with (gi_at_builtin; (refine wpListIn_append_own _ rfl _ _ 34 rfl W.heap.size 2 i0 (.int .i64 0) 1 8 Try.underlying34 hi0 hz0 hz1 hz2 rfl (by decide) _ ids.length (vals ids) rfl HOW.out ⟨_, 0, none⟩ 1 1 [.int .i64 k2] rfl rfl HNS.out (one_i64 k2) (by have := HCL.out; unfold maxLen; omega) (by have := HCL.out; omega) HBL.out ?_); intro v' w1 hown1 hgrow1 _; have HO1 := Lib.hid hown1; have HG1 := Lib.hid hgrow1; clear hown1 hgrow1)
          have HA5 := Lib.hid (HA4.out.grown (ids' := ids ++ [k2]) HO.out (by unfold RowI; rw [List.length_append, vals_snoc]; exact HO1.out) HG1.out)
          go_roundw
          case rel => exact ⟨_, _, _, HA5.out, by rw [HIN.out, HIDS.out]⟩
          case measure => rw [leftM_of HA5.out.at1.it, leftM_of HI0.out]; simp
      · have g1 : (k1 == sym) = false := by simpa using hk
        have HIN := Lib.hid (show idsL sym (vis ++ [((k1, k2), ⟨x, y, z, t⟩)]) = idsL sym vis from ids_no (by unfold restS; dsimp only; rw [g1]; rfl))
        clear hk
        gi_wp2_with fail
        go_roundw
        case rel => exact ⟨_, _, _, HA3.out, by rw [HIN.out]; exact HIDS.out⟩
        case measure => rw [leftM_of HA3.out.at1.it, leftM_of HI0.out]; simp
theorem open_stops (n : Nat) (hn : 1 ≤ n) (L : Led) (hl : L.now.length ≤ 100000) (D b1 b2 b3 : Nat) (sym : Int) (Bs By : Nat) (w : World)
    (hBs : Blk w Bs #[.pointer (some ⟨D, 0, none⟩)] 24) (hBy : Blk w By #[.int .i64 sym] 3) (hL : LS w D b1 b2 b3 L) :
    SeqStopsK Fence.wide n Try.prog 23 #[.pointer (some ⟨Bs, 0, none⟩), .pointer (some ⟨By, 0, none⟩)] (fun x : Int => #[Value.int .i64 x]) (KC w.heap.size) (fun ys => ys = openF L sym) (fun pre => pre <+: openF L sym) (openF L sym).length w := fun l J Jx W hW hJ _ hY h0 =>
  open1_in n hn L hl D b1 b2 b3 sym l Bs By J Jx W hJ (fun pre x W1 hj hlen => by
    obtain ⟨fn, tmps, assign, body, hy, hR⟩ := hY pre x W1 hj hlen
    refine ⟨fn, tmps, assign, body, hy, hR.mono ?_⟩
    rintro e W' (⟨h1, h2, h3⟩ | h)
    · exact .inl ⟨h1, h2, kc_less h3 hW.size⟩
    · exact .inr h) (hBs.below hW hBs.lt) (hBy.below hW hBy.lt) (hL.below hW) h0
end Go.Proofs.Ytmkcooamgojbpaa.Ledger
