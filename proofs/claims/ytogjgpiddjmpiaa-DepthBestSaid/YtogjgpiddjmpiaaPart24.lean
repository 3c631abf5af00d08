/- Parts of the proof: R33O. -/
import Derived.Test.YtogjgpiddjmpiaaPart18
import Derived.Test.YtogjgpiddjmpiaaPart1
import Derived.Test.YtogjgpiddjmpiaaPart22
import Derived.Test.YtogjgpiddjmpiaaPart23

/- The document's Of: the levels of a row of orders. -/
namespace Go.Proofs.Ytogjgpiddjmpiaa.Depth
open Go.RowKit Go.Proofs.Ytogjgpiddjmpiaa.Kit Go.Proofs.Ytogjgpiddjmpiaa.Blk Go.Proofs.Ytogjgpiddjmpiaa.Mp Go.Proofs.Ytogjgpiddjmpiaa.Msgs Go.Proofs.Ytogjgpiddjmpiaa.Octets Go.Proofs.Ytogjgpiddjmpiaa.Tape
attribute [local go_sem ↓] Go.wp_at_zero Go.wp_at_succ
set_option linter.unusedVariables false

/-- An order. -/
structure Ordr where
  id : Int
  owner : Int
  side : Int
  price : Int
  qty : Int
  flags : Int
  seq : Int
def Ordr.cells (o : Ordr) : Array Value := #[.int .i64 o.id, .int .i64 o.owner, .int .i64 o.side, .int .i64 o.price, .int .i64 o.qty, .int .i64 o.flags, .int .i64 o.seq]
def Ordr.pq (o : Ordr) : PQ := (o.price, o.qty)
theorem ordr_size (o : Ordr) : o.cells.size = 7 := rfl
theorem lvl_size (x : Lvl) : x.cells.size = 3 := rfl
theorem infoRL : (Try.prog.info? 94).map (fun i => (i.zero, i.size, i.bytes)) = some (some (.agg #[.int .i64 0, .int .i64 0, .int .i64 0]), 3, 24) := by kernel_rfl

theorem rbetter_any (side x y : Int) (w : World) : Calls Try.prog 88 #[.int .i64 side, .int .i64 x, .int .i64 y] w fun e w' => e = .returned (.bool (better side x y)) ∧ w = w' := by
  by_cases h0 : side = 0
  · have HE := Lib.hid (show better side x y = decide (y < x) by simp [better, h0])
    subst h0
    by_cases hyx : y < x
    · have HV := Lib.hid (show better 0 x y = true by rw [HE.out]; simpa using hyx)
      go_enter Try.func88, Try.ntmps88
      go_wp2_with fail
      go_ret
      exact ⟨ret_bool HV.out.symm, rfl⟩
    · have HV := Lib.hid (show better 0 x y = false by rw [HE.out]; simpa using hyx)
      have b := show decide (y < x) = false by simpa using hyx
      go_enter Try.func88, Try.ntmps88
      go_wp2_with fail
      go_ret
      exact ⟨ret_bool HV.out.symm, rfl⟩
  · have g0 : (side == 0) = false := by simpa using h0
    by_cases h1 : side = 1
    · have HE := Lib.hid (show better side x y = decide (x < y) by simp [better, h1])
      subst h1
      go_enter Try.func88, Try.ntmps88
      go_wp2_with fail
      go_ret
      exact ⟨ret_bool HE.out.symm, rfl⟩
    · have g1 : (side == 1) = false := by simpa using h1
      have HE := Lib.hid (show better side x y = false by simp [better, h0, h1])
      clear h0 h1
      go_enter Try.func88, Try.ntmps88
      go_wp2_with fail
      go_ret
      exact ⟨ret_bool HE.out.symm, rfl⟩

/-- Where an order belongs. -/
def Pass (side : Int) (S : List Lvl) (p : Int) (k : Nat) : Prop := ∀ j, (hj : j < S.length) → j < k → S[j].price ≠ p ∧ better side p S[j].price = false
theorem pass_zero (side : Int) (S : List Lvl) (p : Int) : Pass side S p 0 := fun j _ h => absurd h (by omega)
theorem pass_next {side : Int} {S : List Lvl} {p : Int} {k : Nat} (h : Pass side S p k) (hk : k < S.length) (h1 : S[k].price ≠ p) (h2 : better side p S[k].price = false) : Pass side S p (k + 1) := fun j hj hjk => by
  by_cases h3 : j < k
  · exact h j hj h3
  · obtain rfl : j = k := by omega
    exact ⟨h1, h2⟩
theorem ins_skip {side : Int} {x : PQ} : ∀ {S : List Lvl} {k : Nat}, Pass side S x.1 k → k ≤ S.length → insL side S x = S.take k ++ insL side (S.drop k) x := by
  intro S
  induction S with
  | nil => intro k _ h; simp
  | cons y S ih =>
    intro k hp hk
    cases k with
    | zero => simp
    | succ k =>
      have h0 := hp 0 (by simp) (by omega)
      have := ih (k := k) (fun j hj hjk => hp (j + 1) (by simpa using hj) (by omega)) (by simpa using hk)
      simp only [List.getElem_cons_zero] at h0
      simp [insL, h0.1, h0.2, this]
theorem ins_hit {side : Int} {x : PQ} {S : List Lvl} {k : Nat} (hp : Pass side S x.1 k) (hk : k < S.length) (he : S[k].price = x.1) : insL side S x = S.set k ⟨x.1, S[k].qty + x.2, S[k].ords + 1⟩ := by
  rw [ins_skip hp (by omega), List.drop_eq_getElem_cons hk, insL, if_pos he, he, List.set_eq_take_append_cons_drop, if_pos hk]
theorem ins_new {side : Int} {x : PQ} {S : List Lvl} {k : Nat} (hp : Pass side S x.1 k) (hk : k ≤ S.length) (he : k = S.length ∨ ∃ h : k < S.length, S[k].price ≠ x.1 ∧ better side x.1 S[k].price = true) :
    insL side S x = S.take k ++ [⟨x.1, x.2, 1⟩] ++ S.drop k := by
  rw [ins_skip hp hk, List.append_assoc]
  congr 1
  rcases he with he | ⟨h, h1, h2⟩
  · subst he; simp [insL]
  · rw [List.drop_eq_getElem_cons h, insL, if_neg h1, if_pos h2]; rfl

/-- Where it stands: the levels so far in v. -/
structure OS (n0 : Nat) (side : Int) (w : World) (W : World) (v : Value) (S : List Lvl) : Prop where
  own : W.ownsRow n0 94 3 v S.length (rowsL S)
  bel : Below n0 w W
  le : n0 ≤ W.heap.size
  nil : S = [] → v = .slice none 0 0
section
variable {n0 : Nat} {side : Int} {w W : World} {v : Value} {S : List Lvl}
theorem OS.drew (h : OS n0 side w W v S) : OS n0 side w W.drew v S := ⟨h.own.drew, h.bel.drew, h.le, h.nil⟩
theorem OS.drewN (h : OS n0 side w W v S) (n : Nat) : OS n0 side w (W.drewN n) v S := ⟨h.own.kept (row := none) ⟨rfl, rfl, rfl, Nat.le_refl _, fun _ _ _ => rfl⟩ (by cases v.ownBlock; exact .inl rfl; exact .inr (by simp)), h.bel.drewN n, h.le, h.nil⟩
theorem OS.at (h : OS n0 side w W v S) : ∃ a cap, v = .slice a S.length cap ∧ S.length ≤ cap ∧ cap ≤ maxLen ∧ ∀ i, (hi : i < S.length) → ∃ g, a = some ⟨g, 0, none⟩ ∧ n0 ≤ g ∧ g < W.heap.size ∧ W.rangeAt g (i * 3) S[i].cells.toList :=
  owned_at Lvl.cells 3 lvl_size h.own
theorem OS.row {a : Option Addr} {n cap : Nat} (h : OS n0 side w W (.slice a n cap) S) : ∀ i, (hi : i < S.length) → ∃ g, a = some ⟨g, 0, none⟩ ∧ n0 ≤ g ∧ g < W.heap.size ∧ W.rangeAt g (i * 3) S[i].cells.toList := by
  obtain ⟨a', cap', e, _, _, hh⟩ := h.at
  injection e with e1 e2 e3
  subst e1
  exact hh
end
theorem rows_set2 : ∀ {S : List Lvl} {k : Nat} (hk : k < S.length) (q o : Int), ((rowsL S).set (k * 3 + 1) (.int .i64 q)).set (k * 3 + 2) (.int .i64 o) = rowsL (S.set k ⟨S[k].price, q, o⟩) := by
  intro S
  induction S with
  | nil => intro k hk; simp at hk
  | cons x S ih =>
    intro k hk q o
    cases k with
    | zero => simp [rowsL, Lvl.cells]
    | succ k =>
      have h := ih (k := k) (by simpa using hk) q o
      have e : rowsL (x :: S) = .int .i64 x.price :: .int .i64 x.qty :: .int .i64 x.ords :: rowsL S := rfl
      rw [e, show (k + 1) * 3 + 1 = k * 3 + 1 + 3 by omega, show (k + 1) * 3 + 2 = k * 3 + 2 + 3 by omega]
      simp only [List.set_cons_succ, List.getElem_cons_succ, h]
      rfl
theorem OS.hit {n0 : Nat} {side : Int} {w W : World} {S : List Lvl} {g n cap k : Nat} (h : OS n0 side w W (.slice (some ⟨g, 0, none⟩) n cap) S) (hn : n0 ≤ g) (hk : k < S.length) (q o : Int) :
    OS n0 side w (((W.setCell ⟨g, k * 3 + 1, none⟩ (.int .i64 q)).drew).setCell ⟨g, k * 3 + 2, none⟩ (.int .i64 o)) (.slice (some ⟨g, 0, none⟩) n cap) (S.set k ⟨S[k].price, q, o⟩) := by
  have hS : n = S.length := by obtain ⟨a', cap', e, _⟩ := h.at; injection e
  subst hS
  have h1 := (h.own.stored (k * 3 + 1) (.int .i64 q)).1.drew
  have h2 := (h1.stored (k * 3 + 2) (.int .i64 o)).1
  rw [rows_set2 hk] at h2
  refine ⟨by rw [List.length_set]; exact h2, ((h.bel.setCell (p := ⟨g, _, none⟩) hn _).drew).setCell (p := ⟨g, _, none⟩) hn _, by simp [World.setCell]; exact h.le, fun e => ?_⟩
  have := congrArg List.length e
  simp at this; subst this; simp at hk
theorem OS.grown {n0 : Nat} {side : Int} {w W W' : World} {v v' : Value} {S S' : List Lvl} {n : Nat} {xs : List Value} {nb : Option (Nat × Array Value)} (h : OS n0 side w W v S)
    (hg : GA W.heap.size 94 3 W W' (some (v', n, xs)) nb) (hn : n = S'.length) (hx : xs = rowsL S') (h0 : S' ≠ []) : OS n0 side w W' v' S' := by
  have := hg.own _ _ _ rfl
  subst hn hx
  exact ⟨owns_mono this h.le, h.bel.trans (hg.bel.mono h.le), Nat.le_trans h.le hg.le, fun e => absurd e h0⟩
theorem rowsL_one (S : List Lvl) : ∀ u ∈ rowsL S, u.oneCell' = true := fun u hu => by
  obtain ⟨x, _, hx⟩ := List.mem_flatMap.1 hu
  exact one_mem (one_lvl x) u hx
/-- Bounds of levels. -/
def LvB (S : List Lvl) : Prop := ∀ j, (hj : j < S.length) → 0 ≤ S[j].qty ∧ S[j].qty ≤ 1125899906842624000 ∧ 0 ≤ S[j].ords ∧ S[j].ords ≤ 1000
theorem lvB_of {side : Int} (hs : side = 0 ∨ side = 1) (V : List PQ) (hV : V.length ≤ 1000) (hq : ∀ x ∈ V, 0 ≤ x.2 ∧ x.2 ≤ 1125899906842624) : LvB (ofL side V) ∧ (ofL side V).length ≤ V.length := by
  refine ⟨fun j hj => ?_, ?_⟩
  · have h := ((lvS_ofL hs V).mem _).1 (List.getElem_mem hj)
    have h1 := sum_in V 1125899906842624 (by decide) hq (ofL side V)[j].price
    have h2 := num_in V (ofL side V)[j].price
    rw [← h.2.1] at h1
    rw [← h.2.2] at h2
    have h3 : (V.length : Int) * 1125899906842624 ≤ 1000 * 1125899906842624 := by omega
    omega
  · have : ∀ V : List PQ, (ofL side V.reverse).length ≤ V.reverse.length := fun V => by
      induction V with
      | nil => simp [ofL]
      | cons x V ih =>
        rw [List.reverse_cons, ofL_snoc]
        have : ∀ S : List Lvl, (insL side S x).length ≤ S.length + 1 := fun S => by
          induction S with
          | nil => simp [insL]
          | cons y S ih =>
            unfold insL
            split
            · simp
            · split
              · simp
              · simp; exact ih
        have := this (ofL side V.reverse)
        simp only [List.length_append, List.length_cons, List.length_nil]
        omega
    have h := this V.reverse
    rwa [List.reverse_reverse] at h
set_option maxRecDepth 20000 in
set_option maxHeartbeats 4000000 in
theorem rof_any (side : Int) (hs : side = 0 ∨ side = 1) (l : List Ordr) (a : Option Addr) (cap : Nat) (w : World) (hl : l.length ≤ 1000) (hl0 : 0 < l.length) (hside : l[0].side = side) (hq : ∀ o ∈ l, 0 ≤ o.qty ∧ o.qty ≤ 1125899906842624)
    (hat : ∀ i, (hi : i < l.length) → ∃ g, a = some ⟨g, 0, none⟩ ∧ g < w.heap.size ∧ w.rangeAt g (i * 7) l[i].cells.toList) :
    Calls Try.prog 44 #[.slice a l.length cap] w fun e w' => ∃ v, e = .returned v ∧ OS w.heap.size side w w' v (ofL side (l.map Ordr.pq)) := by
  obtain ⟨gl, rfl, hgl, hr0⟩ := hat 0 hl0
  have HAT := Lib.hid (show ∀ i, (hi : i < l.length) → w.rangeAt gl (i * 7) l[i].cells.toList from fun i hi => by
    obtain ⟨g, hg, _, h⟩ := hat i hi
    injection hg with hg
    injection hg with hg
    subst hg
    exact h)
  have q2 : w.cell? ⟨gl, 2, none⟩ = some (.int .i64 side) := by rw [← hside]; exact hr0 2 _ rfl
  have HQ := Lib.hid hq
  have HQ2 := Lib.hid q2
  have HSD := Lib.hid hs
  clear hat hr0 hq q2 hside hs
  have hlz : ((l.length : Int) == 0) = false := by simpa using (by omega : ¬ ((l.length : Int) = 0))
  go_enter Try.func44, Try.ntmps44
  go_wp2_with fail
  go_loopw [3, 4] (fun v i wr => ∃ k : Nat, k ≤ l.length ∧ i = .int .i64 k ∧ OS w.heap.size side w wr v (ofL side ((l.take k).map Ordr.pq))) (fun _ i _ => l.length - (intOf i).toNat)
  case atStart => exact ⟨0, by omega, rfl, ⟨by rw [List.take_zero]; exact World.ownsRow_nil _ _ _ _, Below.refl _ _, Nat.le_refl _, fun _ => rfl⟩⟩
  case round =>
    obtain ⟨i, hi, rfl, hos⟩ := hrel
    by_cases hlt : i < l.length
    · have HO := Lib.hid (HAT.out i hlt)
      have hqo := HQ.out l[i] (List.getElem_mem hlt)
      have HN := Lib.hid (show ofL side ((l.take (i + 1)).map Ordr.pq) = insL side (ofL side ((l.take i).map Ordr.pq)) l[i].pq by
        rw [List.take_succ_eq_append_getElem hlt, List.map_append, List.map_cons, List.map_nil, ofL_snoc])
      obtain ⟨hb1, hb2⟩ := lvB_of HSD.out ((l.take i).map Ordr.pq) (by simp; omega) (fun x hx => by
        obtain ⟨y, hy, rfl⟩ := List.mem_map.1 hx
        exact HQ.out y (List.mem_of_mem_take hy))
      have hb2 : (ofL side ((l.take i).map Ordr.pq)).length ≤ 1000 := by rw [List.length_map, List.length_take] at hb2; omega
      have HB := Lib.hid hb1
      have H := Lib.hid hos
      clear hos hb1
      generalize ofL side ((l.take i).map Ordr.pq) = S at H HN HB hb2
      generalize l[i] = o at HO HN hqo
      obtain ⟨va, vc, rfl, hvc, hvm, hva⟩ := H.out.at
      unfold maxLen at hvm
      have HVA := Lib.hid hva
      clear hva
      have g0 : (0 : Int) ≤ (i : Int) := by omega
      have g1 : (i : Int) < (l.length : Int) := by omega
      go_upto_block 2 with fail
      go_cut [5] (fun kv wx => ∃ k : Nat, kv = .int .i64 k ∧ k ≤ S.length ∧ Pass side S o.price k ∧ (k = S.length ∨ ∃ h : k < S.length, S[k].price = o.price ∨ (S[k].price ≠ o.price ∧ better side o.price S[k].price = true)) ∧ OS w.heap.size side w wx (.slice va S.length vc) S)
      case first =>
        go_wp2_with fail
        go_loopw [5] (fun kv wx => ∃ k : Nat, kv = .int .i64 k ∧ k ≤ S.length ∧ Pass side S o.price k ∧ OS w.heap.size side w wx (.slice va S.length vc) S) (fun kv _ => S.length - (intOf kv).toNat)
        case atStart => exact ⟨0, rfl, by omega, pass_zero _ _ _, H.out⟩
        case round =>
          clear H
          obtain ⟨k, rfl, hk, hp, hos⟩ := hrel
          have H := Lib.hid hos
          have HP := Lib.hid hp
          clear hos hp
          by_cases hlk : k < S.length
          · obtain ⟨g, rfl, hgn, hgw, hcell⟩ := H.out.row k hlk
            have c0 : wr.cell? ⟨g, k * 3, none⟩ = some (.int .i64 S[k].price) := hcell 0 _ rfl
            have k0 : (0 : Int) ≤ (k : Int) := by omega
            have k1 : (k : Int) < (S.length : Int) := by omega
            have HNX := Lib.hid (pass_next HP.out hlk)
            have HEX := Lib.hid (show (S[k].price = o.price ∨ (S[k].price ≠ o.price ∧ better side o.price S[k].price = true)) → (k = S.length ∨ ∃ h : k < S.length, S[k].price = o.price ∨ (S[k].price ≠ o.price ∧ better side o.price S[k].price = true)) from fun h => .inr ⟨hlk, h⟩)
            have q2 : wr.cell? ⟨gl, 2, none⟩ = some (.int .i64 side) := by rw [H.out.bel.cell (p := ⟨gl, _, none⟩) hgl]; exact HQ2.out
            have o3 : wr.cell? ⟨gl, i * 7 + 3, none⟩ = some (.int .i64 o.price) := by rw [H.out.bel.cell (p := ⟨gl, _, none⟩) hgl]; exact HO.out 3 _ rfl
            clear hcell
            generalize S[k].price = x at c0 HNX HEX
            by_cases h1 : x = o.price
            · have b1 : (x != o.price) = false := by simp [h1]
              have HE := Lib.hid (HEX.out (.inl h1))
              clear h1 HEX HNX
              go_wp2_with fail
              go_quiet ((go_at_call 88; exact Calls.quiet_of_same (HBT.out _)))
              replace H := Lib.hid (H.out.drewN nq)
              generalize wr.drewN nq = w2 at H ⊢
              clear o3 q2 c0
              go_wp2_with fail
              go_meet
              exact ⟨k, rfl, hk, HP.out, HE.out, H.out⟩
            · have b1 : (x != o.price) = true := by simpa using h1
              cases h2 : better side o.price x with
              | true =>
                have HE := Lib.hid (HEX.out (.inr ⟨h1, h2⟩))
                have HBT := Lib.hid (fun W => (rbetter_any side o.price x W).mono (fun e W' (h : _ ∧ W = W') => (⟨h.1, h.2.symm⟩ : e = .returned (.bool (better side o.price x)) ∧ W' = W)))
                rw [h2] at HBT
                clear h1 h2 HEX HNX
                go_wp2_with fail
                go_quiet ((go_at_call 88; exact Calls.quiet_of_same (HBT.out _)))
                replace H := Lib.hid (H.out.drewN nq)
                generalize wr.drewN nq = w2 at H ⊢
                clear o3 q2 c0
                go_wp2_with fail
                go_meet
                exact ⟨k, rfl, hk, HP.out, HE.out, H.out⟩
              | false =>
                have HE := Lib.hid (HNX.out h1 h2)
                have HBT := Lib.hid (fun W => (rbetter_any side o.price x W).mono (fun e W' (h : _ ∧ W = W') => (⟨h.1, h.2.symm⟩ : e = .returned (.bool (better side o.price x)) ∧ W' = W)))
                rw [h2] at HBT
                clear h1 h2 HEX HNX
                go_wp2_with fail
                go_quiet ((go_at_call 88; exact Calls.quiet_of_same (HBT.out _)))
                replace H := Lib.hid (H.out.drewN nq)
                generalize wr.drewN nq = w2 at H ⊢
                clear o3 q2 c0
                go_wp2_with fail
                go_roundw
                case rel => exact ⟨k + 1, by go_num, by omega, HE.out, H.out⟩
                case measure => simp [intOf]; omega
          · obtain rfl : k = S.length := by omega
            go_wp2_with fail
            go_quiet (fail)
            replace H := Lib.hid (H.out.drewN nq)
            generalize wr.drewN nq = w2 at H ⊢
            go_wp2_with fail
            go_meet
            exact ⟨S.length, rfl, by omega, HP.out, .inl rfl, H.out⟩
      case rest =>
        clear H
        obtain ⟨k, rfl, hk, hp, hex, hos⟩ := hcut
        have H := Lib.hid hos
        have HP := Lib.hid hp
        clear hos hp
        generalize wc = wr at H ⊢
        by_cases hhit : ∃ h : k < S.length, S[k].price = o.price
        · obtain ⟨hlk, h1⟩ := hhit
          have HIN := Lib.hid (ins_hit (x := o.pq) HP.out hlk h1)
          obtain ⟨g, rfl, hgn, hgw, hcell⟩ := H.out.row k hlk
          have c0 : wr.cell? ⟨g, k * 3, none⟩ = some (.int .i64 S[k].price) := hcell 0 _ rfl
          have c1 : wr.cell? ⟨g, k * 3 + 1, none⟩ = some (.int .i64 S[k].qty) := hcell 1 _ rfl
          have c2 : wr.cell? ⟨g, k * 3 + 2, none⟩ = some (.int .i64 S[k].ords) := hcell 2 _ rfl
          have k0 : (0 : Int) ≤ (k : Int) := by omega
          have k1 : (k : Int) < (S.length : Int) := by omega
          have q2 : wr.cell? ⟨gl, 2, none⟩ = some (.int .i64 side) := by rw [H.out.bel.cell (p := ⟨gl, _, none⟩) hgl]; exact HQ2.out
          have o3 : wr.cell? ⟨gl, i * 7 + 3, none⟩ = some (.int .i64 o.price) := by rw [H.out.bel.cell (p := ⟨gl, _, none⟩) hgl]; exact HO.out 3 _ rfl
          have hbk := HB.out k hlk
          have HSET := Lib.hid (fun W (h : OS w.heap.size side w W (.slice (some ⟨g, 0, none⟩) S.length vc) S) => h.hit hgn hlk (S[k].qty + o.qty) (S[k].ords + 1))
          rw [h1] at HSET c0
          clear hcell
          generalize S[k].qty = sq at *
          generalize S[k].ords = so at *
          have b1 : (o.price == o.price) = true := by simp
          clear h1 hex
          go_wp2_with fail
          go_quiet (fail)
          replace H := Lib.hid (H.out.drewN nq)
          have d1 : (wr.drewN nq).cell? ⟨g, k * 3 + 1, none⟩ = some (.int .i64 sq) := c1
          have d2 : (wr.drewN nq).cell? ⟨g, k * 3 + 2, none⟩ = some (.int .i64 so) := c2
          have o4 : (wr.drewN nq).cell? ⟨gl, i * 7 + 4, none⟩ = some (.int .i64 o.qty) := by rw [H.out.bel.cell (p := ⟨gl, _, none⟩) hgl]; exact HO.out 4 _ rfl
          generalize wr.drewN nq = w2 at H d1 d2 o4 ⊢
          clear c0 c1 c2 o3 q2
          have f1 : w2.frozen? ⟨g, k * 3 + 1, none⟩ = false := H.out.own.frozenAt _
          have f2 : w2.frozen? ⟨g, k * 3 + 2, none⟩ = false := H.out.own.frozenAt _
          go_upto_region 11 with fail
          go_still_tail 14, (by kernel_rfl)
          change wpList _ _ _ _ _ w2.drew
          go_wp2_with fail
          go_roundw
          case rel => exact ⟨i + 1, by omega, by go_num, by rw [HN.out, HIN.out]; exact HSET.out _ H.out⟩
          case measure => simp [intOf]; omega
        · have HIN := Lib.hid (ins_new (x := o.pq) HP.out hk (by
            rcases hex with h | ⟨h, h1 | h1⟩
            · exact .inl h
            · exact absurd ⟨h, h1⟩ hhit
            · exact .inr ⟨h, h1⟩))
          obtain ⟨i0, hi0, hz0, hz1, hz2⟩ := info_parts infoRL
          have q2 : wr.cell? ⟨gl, 2, none⟩ = some (.int .i64 side) := by rw [H.out.bel.cell (p := ⟨gl, _, none⟩) hgl]; exact HQ2.out
          have o3 : wr.cell? ⟨gl, i * 7 + 3, none⟩ = some (.int .i64 o.price) := by rw [H.out.bel.cell (p := ⟨gl, _, none⟩) hgl]; exact HO.out 3 _ rfl
          have o4 : wr.cell? ⟨gl, i * 7 + 4, none⟩ = some (.int .i64 o.qty) := by rw [H.out.bel.cell (p := ⟨gl, _, none⟩) hgl]; exact HO.out 4 _ rfl
          by_cases hlk : k < S.length
          · have hne : S[k].price ≠ o.price := fun e => hhit ⟨hlk, e⟩
            obtain ⟨g, rfl, hgn, hgw, hcell⟩ := H.out.row k hlk
            have c0 : wr.cell? ⟨g, k * 3, none⟩ = some (.int .i64 S[k].price) := hcell 0 _ rfl
            have k0 : (0 : Int) ≤ (k : Int) := by omega
            have k1 : (k : Int) < (S.length : Int) := by omega
            have k2 : (k : Int) ≤ (vc : Int) := by omega
            have k3 : ¬ (vc = k) := by omega
            have k4 : ¬ ((vc : Int) = (k : Int)) := by omega
            have b1 : (S[k].price == o.price) = false := by simpa using hne
            clear hcell hne hhit hex
            generalize S[k].price = x at c0 b1
            go_wp2_with fail
            go_quiet (fail)
            replace H := Lib.hid (H.out.drewN nq)
            replace o3 : (wr.drewN nq).cell? ⟨gl, i * 7 + 3, none⟩ = some (.int .i64 o.price) := o3
            replace o4 : (wr.drewN nq).cell? ⟨gl, i * 7 + 4, none⟩ = some (.int .i64 o.qty) := o4
            generalize wr.drewN nq = w2 at H o3 o4 ⊢
            clear c0 q2 b1
            replace H := Lib.hid H.out.drew
            go_upto_region 13 with fail
            refine wp_region_held_drew (S := (fun w' => w'.cell? ⟨gl, i * 7 + 3, none⟩ = some (.int .i64 o.price) ∧ w'.cell? ⟨gl, i * 7 + 4, none⟩ = some (.int .i64 o.qty))) (by kernel_rfl) ⟨o3, o4⟩ (fun hHeld => ?_)
            generalize w2.drew = w3 at H hHeld ⊢
            have HOS := Lib.hid H.out
            obtain ⟨n0, hn0⟩ : ∃ n, n = w3.heap.size := ⟨_, rfl⟩
            have HSS := Lib.hid (show ∀ W, Below n0 w3 W → W.cell? ⟨gl, i * 7 + 3, none⟩ = some (.int .i64 o.price) ∧ W.cell? ⟨gl, i * 7 + 4, none⟩ = some (.int .i64 o.qty) from fun W hb => by
              have hlt : gl < n0 := by rw [hn0]; exact Nat.lt_of_lt_of_le hgl HOS.out.le
              rw [hb.cell (p := ⟨gl, _, none⟩) hlt, hb.cell (p := ⟨gl, _, none⟩) hlt]; exact hHeld)
            replace H := Lib.hid (show GA n0 94 3 w3 w3 none none from GA.start (Below.refl _ _) (by rw [hn0]; exact Nat.le_refl _))
            have HTL := Lib.hid (show (rowsL (S.take k)).length = k * 3 by rw [rowsL, flat_size Lvl.cells 3 lvl_size, List.length_take]; first | (rw [Nat.min_eq_left (by omega)]; done) | simp)
            have HDL := Lib.hid (show (rowsL (S.drop k)).length = (S.length - k) * 3 by rw [rowsL, flat_size Lvl.cells 3 lvl_size, List.length_drop]; try simp)
            have HT1 := Lib.hid (rowsL_one (S.take k))
            have HD1 := Lib.hid (rowsL_one (S.drop k))
            have HLEN := Lib.hid (show k + 1 + (S.length - k) = (S.take k ++ [(⟨o.price, o.qty, 1⟩ : Lvl)] ++ S.drop k).length by simp; try omega)
            have HROW := Lib.hid (show rowsL (S.take k) ++ (Lvl.cells ⟨o.price, o.qty, 1⟩).toList ++ rowsL (S.drop k) = rowsL (S.take k ++ [(⟨o.price, o.qty, 1⟩ : Lvl)] ++ S.drop k) by simp [rowsL])
            have HNE := Lib.hid (show S.take k ++ [(⟨o.price, o.qty, 1⟩ : Lvl)] ++ S.drop k ≠ [] by simp)
            have HN0 := Lib.hid hn0
            clear hn0
            have HTS := Lib.hid (show ∀ W, 0 < k → Below n0 w3 W → ∃ ad : Addr, some (⟨g, 0, none⟩ : Addr) = some ad ∧ ∀ j u, (rowsL (S.take k))[j]? = some u → W.cell? (ad.add j) = some u from fun W _ hb => ⟨_, rfl, row_take Lvl.cells 3 lvl_size HOS.out.own (HN0.out ▸ hb) k⟩)
            have HDS := Lib.hid (show ∀ W, 0 < S.length - k → Below n0 w3 W → ∃ ad : Addr, some (⟨g, k * 3, none⟩ : Addr) = some ad ∧ ∀ j u, (rowsL (S.drop k))[j]? = some u → W.cell? (ad.add j) = some u from fun W _ hb => ⟨_, rfl, row_drop Lvl.cells 3 lvl_size HOS.out.own (HN0.out ▸ hb) k⟩)
            refine wpAnyH_take (i := 1) (oi := ⟨some 93, _, _, _, _, _⟩) (v := ?_) rfl (by kernel_rfl) (by kernel_rfl) (by kernel_rfl) (fun _ _ _ h => h) (Or.inl ⟨by rfl, ?_⟩) (by assumption) ?_
            rotate_left
            · (intro w hSw; (try dsimp only at hSw); go_simp; (try with_reducible rfl))
            simp only [Act.put, List.setIfInBounds_toArray, List.set_cons_zero, List.set_cons_succ]
            refine wpAnyH_take (i := 2) (oi := ⟨some 94, _, _, _, _, _⟩) (v := ?_) rfl (by kernel_rfl) (by kernel_rfl) (by kernel_rfl) (fun _ _ _ h => h) (Or.inl ⟨by rfl, ?_⟩) (by assumption) ?_
            rotate_left
            · (intro w hSw; (try dsimp only at hSw); go_simp; (try with_reducible rfl))
            simp only [Act.put, List.setIfInBounds_toArray, List.set_cons_zero, List.set_cons_succ]
            refine wpAnyH_take (i := 3) (oi := ⟨some 95, _, _, _, _, _⟩) (v := ?_) rfl (by kernel_rfl) (by kernel_rfl) (by kernel_rfl) (fun _ _ _ h => h) (Or.inl ⟨by rfl, ?_⟩) (by assumption) ?_
            rotate_left
            · (intro w hSw; (try dsimp only at hSw); go_simp; (try with_reducible rfl))
            simp only [Act.put, List.setIfInBounds_toArray, List.set_cons_zero, List.set_cons_succ]
            refine wpAnyH_take (i := 5) (oi := ⟨some 97, _, _, _, _, _⟩) (v := ?_) rfl (by kernel_rfl) (by kernel_rfl) (by kernel_rfl) (fun _ _ _ h => h) (Or.inl ⟨by rfl, ?_⟩) (by assumption) ?_
            rotate_left
            · (intro w hSw; (try dsimp only at hSw); go_simp; (try with_reducible rfl))
            simp only [Act.put, List.setIfInBounds_toArray, List.set_cons_zero, List.set_cons_succ]
            refine wpAnyH_take (i := 6) (oi := ⟨some 98, _, _, _, _, _⟩) (v := ?_) rfl (by kernel_rfl) (by kernel_rfl) (by kernel_rfl) (fun _ _ _ h => h) (Or.inl ⟨by rfl, ?_⟩) (by assumption) ?_
            rotate_left
            · (intro w hSw; (try dsimp only at hSw); go_simp; (try with_reducible rfl))
            simp only [Act.put, List.setIfInBounds_toArray, List.set_cons_zero, List.set_cons_succ]
            refine wpAnyH_take (i := 7) (oi := ⟨some 99, _, _, _, _, _⟩) (v := ?_) rfl (by kernel_rfl) (by kernel_rfl) (by kernel_rfl) (fun _ _ _ h => h) (Or.inl ⟨by rfl, ?_⟩) (by assumption) ?_
            rotate_left
            · (intro w hSw; (try dsimp only at hSw); go_simp; (try with_reducible rfl))
            simp only [Act.put, List.setIfInBounds_toArray, List.set_cons_zero, List.set_cons_succ]
            refine wpAnyH_take (i := 8) (oi := ⟨some 100, _, _, _, _, _⟩) (v := ?_) rfl (by kernel_rfl) (by kernel_rfl) (by kernel_rfl) (fun _ _ _ h => h) (Or.inl ⟨by rfl, ?_⟩) (by assumption) ?_
            rotate_left
            · (intro w hSw; (try dsimp only at hSw); go_simp; (try with_reducible rfl))
            simp only [Act.put, List.setIfInBounds_toArray, List.set_cons_zero, List.set_cons_succ]
            refine wpAnyH_take (i := 9) (oi := ⟨some 101, _, _, _, _, _⟩) (v := ?_) rfl (by kernel_rfl) (by kernel_rfl) (by kernel_rfl) (fun _ _ _ h => h) (Or.inl ⟨by rfl, ?_⟩) (by assumption) ?_
            rotate_left
            · (intro w hSw; (try dsimp only at hSw); go_simp; (try with_reducible rfl))
            simp only [Act.put, List.setIfInBounds_toArray, List.set_cons_zero, List.set_cons_succ]
            refine wpAnyH_take (i := 10) (oi := ⟨some 102, _, _, _, _, _⟩) (v := ?_) rfl (by kernel_rfl) (by kernel_rfl) (by kernel_rfl) (fun _ _ _ h => h) (Or.inl ⟨by rfl, ?_⟩) (by assumption) ?_
            rotate_left
            · (intro w hSw; (try dsimp only at hSw); go_simp; (try with_reducible rfl))
            simp only [Act.put, List.setIfInBounds_toArray, List.set_cons_zero, List.set_cons_succ]
            refine wpAnyH_take (i := 11) (oi := ⟨some 103, _, _, _, _, _⟩) (v := ?_) rfl (by kernel_rfl) (by kernel_rfl) (by kernel_rfl) (fun _ _ _ h => h) (Or.inl ⟨by rfl, ?_⟩) (by assumption) ?_
            rotate_left
            · (intro w hSw; (try dsimp only at hSw); go_simp; (try with_reducible rfl))
            simp only [Act.put, List.setIfInBounds_toArray, List.set_cons_zero, List.set_cons_succ]
            refine wpAnyH_take (i := 12) (oi := ⟨some 104, _, _, _, _, _⟩) (v := ?_) rfl (by kernel_rfl) (by kernel_rfl) (by kernel_rfl) (fun _ _ _ h => h) (Or.inl ⟨by rfl, ?_⟩) (by assumption) ?_
            rotate_left
            · (intro w hSw; (try dsimp only at hSw); go_simp; (try with_reducible rfl))
            simp only [Act.put, List.setIfInBounds_toArray, List.set_cons_zero, List.set_cons_succ]
            refine wpAnyH_take (i := 13) (oi := ⟨some 105, _, _, _, _, _⟩) (v := ?_) rfl (by kernel_rfl) (by kernel_rfl) (by kernel_rfl) (fun _ _ _ h => h) (Or.inl ⟨by rfl, ?_⟩) (by assumption) ?_
            rotate_left
            · (intro w hSw; (try dsimp only at hSw); go_simp; (try with_reducible rfl))
            simp only [Act.put, List.setIfInBounds_toArray, List.set_cons_zero, List.set_cons_succ]
            refine wpAnyH_take (i := 14) (oi := ⟨some 106, _, _, _, _, _⟩) (v := ?_) rfl (by kernel_rfl) (by kernel_rfl) (by kernel_rfl) (fun _ _ _ h => h) (Or.inl ⟨by rfl, ?_⟩) (by assumption) ?_
            rotate_left
            · (intro w hSw; (try dsimp only at hSw); go_simp; (try with_reducible rfl))
            simp only [Act.put, List.setIfInBounds_toArray, List.set_cons_zero, List.set_cons_succ]
            refine wpAnyH_take (i := 15) (oi := ⟨some 107, _, _, _, _, _⟩) (v := ?_) rfl (by kernel_rfl) (by kernel_rfl) (by kernel_rfl) (fun _ _ _ h => h) (Or.inl ⟨by rfl, ?_⟩) (by assumption) ?_
            rotate_left
            · (intro w hSw; (try dsimp only at hSw); go_simp; (try with_reducible rfl))
            simp only [Act.put, List.setIfInBounds_toArray, List.set_cons_zero, List.set_cons_succ]
            refine wpAnyH_take (i := 18) (oi := ⟨some 110, _, _, _, _, _⟩) (v := ?_) rfl (by kernel_rfl) (by kernel_rfl) (by kernel_rfl) (fun _ _ _ h => h) (Or.inl ⟨by rfl, ?_⟩) (by assumption) ?_
            rotate_left
            · (intro w hSw; (try dsimp only at hSw); go_simp; (try with_reducible rfl))
            simp only [Act.put, List.setIfInBounds_toArray, List.set_cons_zero, List.set_cons_succ]
            refine wpAnyH_take (i := 19) (oi := ⟨some 111, _, _, _, _, _⟩) (v := ?_) rfl (by kernel_rfl) (by kernel_rfl) (by kernel_rfl) (fun _ _ _ h => h) (Or.inl ⟨by rfl, ?_⟩) (by assumption) ?_
            rotate_left
            · (intro w hSw; (try dsimp only at hSw); go_simp; (try with_reducible rfl))
            simp only [Act.put, List.setIfInBounds_toArray, List.set_cons_zero, List.set_cons_succ]
            refine wpAnyH_take (i := 20) (oi := ⟨some 112, _, _, _, _, _⟩) (v := ?_) rfl (by kernel_rfl) (by kernel_rfl) (by kernel_rfl) (fun _ _ _ h => h) (Or.inl ⟨by rfl, ?_⟩) (by assumption) ?_
            rotate_left
            · (intro w hSw; (try dsimp only at hSw); go_simp; (try with_reducible rfl))
            simp only [Act.put, List.setIfInBounds_toArray, List.set_cons_zero, List.set_cons_succ]
            refine wpAnyH_ready (rs := [0, 16]) (by kernel_rfl) (by simp) ?_
            refine AllReadyH.cons (o := ⟨some 92, _, _, _, _, _⟩) rfl (fun KK hK => ?_) (AllReadyH.cons (o := ⟨some 108, _, _, _, _, _⟩) rfl (fun KK hK => ?_) (AllReadyH.nil))
            · go_simp
              change KK _ (w3.alloc (.cells #[] 94))
              replace H := Lib.hid H.out.empty
              generalize w3.alloc (.cells #[] 94) = WX1 at H ⊢
              generalize w3.heap.size = e1 at H ⊢
              refine hK.out _ _ (HSS.out _ H.out.bel) (fun hHeld => ?_)
              clear hK; try clear KK
              try simp only [Act.put, List.setIfInBounds_toArray, List.set_cons_zero, List.set_cons_succ]
              refine wpAnyH_ready (rs := [4, 16]) (by kernel_rfl) (by simp) ?_
              refine AllReadyH.cons (o := ⟨some 96, _, _, _, _, _⟩) rfl (fun KK hK => ?_) (AllReadyH.cons (o := ⟨some 108, _, _, _, _, _⟩) rfl (fun KK hK => ?_) (AllReadyH.nil))
              · refine GA.src H.out (by rfl) _ _ _ (by rfl) i0 (.agg #[.int .i64 0, .int .i64 0, .int .i64 0]) 24 Try.underlying77 hi0 hz0 hz1 hz2 (by rfl) (by decide) (by rfl) _ _ _ _ (by rfl) HTL.out (fun hm => HTS.out _ hm H.out.bel) HT1.out (by unfold maxLen; omega) (by omega) ?_
                intro g1 cap1 WX2 H'
                rw [Nat.zero_add, List.nil_append] at H'
                rw [Nat.zero_add]
                replace H := Lib.hid H'
                clear H'
                refine hK.out _ _ (HSS.out _ H.out.bel) (fun hHeld => ?_)
                clear hK; try clear KK
                try simp only [Act.put, List.setIfInBounds_toArray, List.set_cons_zero, List.set_cons_succ]
                refine wpAnyH_ready (rs := [16]) (by kernel_rfl) (by simp) ?_
                refine AllReadyH.cons (o := ⟨some 108, _, _, _, _, _⟩) rfl (fun KK hK => ?_) AllReadyH.nil
                go_simp
                change KK _ (WX2.alloc (.cells (Lvl.cells ⟨o.price, o.qty, 1⟩) 94))
                replace H := Lib.hid (H.out.new (Lvl.cells ⟨o.price, o.qty, 1⟩))
                generalize WX2.alloc (.cells (Lvl.cells ⟨o.price, o.qty, 1⟩) 94) = WX3 at H ⊢
                generalize WX2.heap.size = nb1 at H ⊢
                refine hK.out _ _ (HSS.out _ H.out.bel) (fun hHeld => ?_)
                clear hK; try clear KK
                try simp only [Act.put, List.setIfInBounds_toArray, List.set_cons_zero, List.set_cons_succ]
                refine wpAnyH_ready (rs := [17]) (by kernel_rfl) (by simp) ?_
                refine AllReadyH.cons (o := ⟨some 109, _, _, _, _, _⟩) rfl (fun KK hK => ?_) AllReadyH.nil
                refine GA.app H.out (by rfl) _ _ _ (by rfl) i0 (.agg #[.int .i64 0, .int .i64 0, .int .i64 0]) 24 Try.underlying77 hi0 hz0 hz1 hz2 (by rfl) (by decide) (by rfl) (by rfl) (lvl_size _) (one_mem (one_lvl _)) (by unfold maxLen; omega) (by omega) ?_
                intro g2 cap2 WX4 H'
                replace H := Lib.hid H'
                clear H'
                refine hK.out _ _ (HSS.out _ H.out.bel) (fun hHeld => ?_)
                clear hK; try clear KK
                try simp only [Act.put, List.setIfInBounds_toArray, List.set_cons_zero, List.set_cons_succ]
                refine wpAnyH_ready (rs := [21]) (by kernel_rfl) (by simp) ?_
                refine AllReadyH.cons (o := ⟨some 113, _, _, _, _, _⟩) rfl (fun KK hK => ?_) AllReadyH.nil
                refine GA.src H.out (by rfl) _ _ _ (by rfl) i0 (.agg #[.int .i64 0, .int .i64 0, .int .i64 0]) 24 Try.underlying77 hi0 hz0 hz1 hz2 (by rfl) (by decide) (by rfl) _ _ _ _ (by rfl) HDL.out (fun hm => HDS.out _ hm H.out.bel) HD1.out (by unfold maxLen; omega) (by omega) ?_
                intro g3 cap3 WX5 H'
                replace H := Lib.hid H'
                clear H'
                refine hK.out _ _ (HSS.out _ H.out.bel) (fun hHeld => ?_)
                clear hK; try clear KK
                try simp only [Act.put, List.setIfInBounds_toArray, List.set_cons_zero, List.set_cons_succ]
                refine wpAnyH_take (i := 22) (oi := ⟨some 3, _, _, _, _, _⟩) (v := ?_) rfl (by kernel_rfl) (by kernel_rfl) (by kernel_rfl) (fun _ _ _ h => h) (Or.inl ⟨by rfl, ?_⟩) (by assumption) ?_
                rotate_left
                · (intro w hSw; (try dsimp only at hSw); go_simp; (try with_reducible rfl))
                simp only [Act.put, List.setIfInBounds_toArray, List.set_cons_zero, List.set_cons_succ]
                refine wpAnyH_done (by kernel_rfl) ?_ _
                replace H := Lib.hid (HOS.out.grown (HN0.out ▸ H.out) HLEN.out HROW.out HNE.out)
                clear HOS
                go_wp2_with fail
                go_roundw
                case rel => exact ⟨i + 1, by omega, by go_num, by rw [HN.out, HIN.out]; exact H.out⟩
                case measure => simp [intOf]; omega
              · go_simp
                change KK _ (WX1.alloc (.cells (Lvl.cells ⟨o.price, o.qty, 1⟩) 94))
                replace H := Lib.hid (H.out.new (Lvl.cells ⟨o.price, o.qty, 1⟩))
                generalize WX1.alloc (.cells (Lvl.cells ⟨o.price, o.qty, 1⟩) 94) = WX6 at H ⊢
                generalize WX1.heap.size = nb1 at H ⊢
                refine hK.out _ _ (HSS.out _ H.out.bel) (fun hHeld => ?_)
                clear hK; try clear KK
                try simp only [Act.put, List.setIfInBounds_toArray, List.set_cons_zero, List.set_cons_succ]
                refine wpAnyH_ready (rs := [4]) (by kernel_rfl) (by simp) ?_
                refine AllReadyH.cons (o := ⟨some 96, _, _, _, _, _⟩) rfl (fun KK hK => ?_) AllReadyH.nil
                refine GA.src H.out (by rfl) _ _ _ (by rfl) i0 (.agg #[.int .i64 0, .int .i64 0, .int .i64 0]) 24 Try.underlying77 hi0 hz0 hz1 hz2 (by rfl) (by decide) (by rfl) _ _ _ _ (by rfl) HTL.out (fun hm => HTS.out _ hm H.out.bel) HT1.out (by unfold maxLen; omega) (by omega) ?_
                intro g1 cap1 WX7 H'
                rw [Nat.zero_add, List.nil_append] at H'
                rw [Nat.zero_add]
                replace H := Lib.hid H'
                clear H'
                refine hK.out _ _ (HSS.out _ H.out.bel) (fun hHeld => ?_)
                clear hK; try clear KK
                try simp only [Act.put, List.setIfInBounds_toArray, List.set_cons_zero, List.set_cons_succ]
                refine wpAnyH_ready (rs := [17]) (by kernel_rfl) (by simp) ?_
                refine AllReadyH.cons (o := ⟨some 109, _, _, _, _, _⟩) rfl (fun KK hK => ?_) AllReadyH.nil
                refine GA.app H.out (by rfl) _ _ _ (by rfl) i0 (.agg #[.int .i64 0, .int .i64 0, .int .i64 0]) 24 Try.underlying77 hi0 hz0 hz1 hz2 (by rfl) (by decide) (by rfl) (by rfl) (lvl_size _) (one_mem (one_lvl _)) (by unfold maxLen; omega) (by omega) ?_
                intro g2 cap2 WX8 H'
                replace H := Lib.hid H'
                clear H'
                refine hK.out _ _ (HSS.out _ H.out.bel) (fun hHeld => ?_)
                clear hK; try clear KK
                try simp only [Act.put, List.setIfInBounds_toArray, List.set_cons_zero, List.set_cons_succ]
                refine wpAnyH_ready (rs := [21]) (by kernel_rfl) (by simp) ?_
                refine AllReadyH.cons (o := ⟨some 113, _, _, _, _, _⟩) rfl (fun KK hK => ?_) AllReadyH.nil
                refine GA.src H.out (by rfl) _ _ _ (by rfl) i0 (.agg #[.int .i64 0, .int .i64 0, .int .i64 0]) 24 Try.underlying77 hi0 hz0 hz1 hz2 (by rfl) (by decide) (by rfl) _ _ _ _ (by rfl) HDL.out (fun hm => HDS.out _ hm H.out.bel) HD1.out (by unfold maxLen; omega) (by omega) ?_
                intro g3 cap3 WX9 H'
                replace H := Lib.hid H'
                clear H'
                refine hK.out _ _ (HSS.out _ H.out.bel) (fun hHeld => ?_)
                clear hK; try clear KK
                try simp only [Act.put, List.setIfInBounds_toArray, List.set_cons_zero, List.set_cons_succ]
                refine wpAnyH_take (i := 22) (oi := ⟨some 3, _, _, _, _, _⟩) (v := ?_) rfl (by kernel_rfl) (by kernel_rfl) (by kernel_rfl) (fun _ _ _ h => h) (Or.inl ⟨by rfl, ?_⟩) (by assumption) ?_
                rotate_left
                · (intro w hSw; (try dsimp only at hSw); go_simp; (try with_reducible rfl))
                simp only [Act.put, List.setIfInBounds_toArray, List.set_cons_zero, List.set_cons_succ]
                refine wpAnyH_done (by kernel_rfl) ?_ _
                replace H := Lib.hid (HOS.out.grown (HN0.out ▸ H.out) HLEN.out HROW.out HNE.out)
                clear HOS
                go_wp2_with fail
                go_roundw
                case rel => exact ⟨i + 1, by omega, by go_num, by rw [HN.out, HIN.out]; exact H.out⟩
                case measure => simp [intOf]; omega
            · go_simp
              change KK _ (w3.alloc (.cells (Lvl.cells ⟨o.price, o.qty, 1⟩) 94))
              replace H := Lib.hid (H.out.new (Lvl.cells ⟨o.price, o.qty, 1⟩))
              generalize w3.alloc (.cells (Lvl.cells ⟨o.price, o.qty, 1⟩) 94) = WX10 at H ⊢
              generalize w3.heap.size = nb1 at H ⊢
              refine hK.out _ _ (HSS.out _ H.out.bel) (fun hHeld => ?_)
              clear hK; try clear KK
              try simp only [Act.put, List.setIfInBounds_toArray, List.set_cons_zero, List.set_cons_succ]
              refine wpAnyH_ready (rs := [0]) (by kernel_rfl) (by simp) ?_
              refine AllReadyH.cons (o := ⟨some 92, _, _, _, _, _⟩) rfl (fun KK hK => ?_) AllReadyH.nil
              go_simp
              change KK _ (WX10.alloc (.cells #[] 94))
              replace H := Lib.hid H.out.empty
              generalize WX10.alloc (.cells #[] 94) = WX11 at H ⊢
              generalize WX10.heap.size = e1 at H ⊢
              refine hK.out _ _ (HSS.out _ H.out.bel) (fun hHeld => ?_)
              clear hK; try clear KK
              try simp only [Act.put, List.setIfInBounds_toArray, List.set_cons_zero, List.set_cons_succ]
              refine wpAnyH_ready (rs := [4]) (by kernel_rfl) (by simp) ?_
              refine AllReadyH.cons (o := ⟨some 96, _, _, _, _, _⟩) rfl (fun KK hK => ?_) AllReadyH.nil
              refine GA.src H.out (by rfl) _ _ _ (by rfl) i0 (.agg #[.int .i64 0, .int .i64 0, .int .i64 0]) 24 Try.underlying77 hi0 hz0 hz1 hz2 (by rfl) (by decide) (by rfl) _ _ _ _ (by rfl) HTL.out (fun hm => HTS.out _ hm H.out.bel) HT1.out (by unfold maxLen; omega) (by omega) ?_
              intro g1 cap1 WX12 H'
              rw [Nat.zero_add, List.nil_append] at H'
              rw [Nat.zero_add]
              replace H := Lib.hid H'
              clear H'
              refine hK.out _ _ (HSS.out _ H.out.bel) (fun hHeld => ?_)
              clear hK; try clear KK
              try simp only [Act.put, List.setIfInBounds_toArray, List.set_cons_zero, List.set_cons_succ]
              refine wpAnyH_ready (rs := [17]) (by kernel_rfl) (by simp) ?_
              refine AllReadyH.cons (o := ⟨some 109, _, _, _, _, _⟩) rfl (fun KK hK => ?_) AllReadyH.nil
              refine GA.app H.out (by rfl) _ _ _ (by rfl) i0 (.agg #[.int .i64 0, .int .i64 0, .int .i64 0]) 24 Try.underlying77 hi0 hz0 hz1 hz2 (by rfl) (by decide) (by rfl) (by rfl) (lvl_size _) (one_mem (one_lvl _)) (by unfold maxLen; omega) (by omega) ?_
              intro g2 cap2 WX13 H'
              replace H := Lib.hid H'
              clear H'
              refine hK.out _ _ (HSS.out _ H.out.bel) (fun hHeld => ?_)
              clear hK; try clear KK
              try simp only [Act.put, List.setIfInBounds_toArray, List.set_cons_zero, List.set_cons_succ]
              refine wpAnyH_ready (rs := [21]) (by kernel_rfl) (by simp) ?_
              refine AllReadyH.cons (o := ⟨some 113, _, _, _, _, _⟩) rfl (fun KK hK => ?_) AllReadyH.nil
              refine GA.src H.out (by rfl) _ _ _ (by rfl) i0 (.agg #[.int .i64 0, .int .i64 0, .int .i64 0]) 24 Try.underlying77 hi0 hz0 hz1 hz2 (by rfl) (by decide) (by rfl) _ _ _ _ (by rfl) HDL.out (fun hm => HDS.out _ hm H.out.bel) HD1.out (by unfold maxLen; omega) (by omega) ?_
              intro g3 cap3 WX14 H'
              replace H := Lib.hid H'
              clear H'
              refine hK.out _ _ (HSS.out _ H.out.bel) (fun hHeld => ?_)
              clear hK; try clear KK
              try simp only [Act.put, List.setIfInBounds_toArray, List.set_cons_zero, List.set_cons_succ]
              refine wpAnyH_take (i := 22) (oi := ⟨some 3, _, _, _, _, _⟩) (v := ?_) rfl (by kernel_rfl) (by kernel_rfl) (by kernel_rfl) (fun _ _ _ h => h) (Or.inl ⟨by rfl, ?_⟩) (by assumption) ?_
              rotate_left
              · (intro w hSw; (try dsimp only at hSw); go_simp; (try with_reducible rfl))
              simp only [Act.put, List.setIfInBounds_toArray, List.set_cons_zero, List.set_cons_succ]
              refine wpAnyH_done (by kernel_rfl) ?_ _
              replace H := Lib.hid (HOS.out.grown (HN0.out ▸ H.out) HLEN.out HROW.out HNE.out)
              clear HOS
              go_wp2_with fail
              go_roundw
              case rel => exact ⟨i + 1, by omega, by go_num, by rw [HN.out, HIN.out]; exact H.out⟩
              case measure => simp [intOf]; omega
          · obtain rfl : k = S.length := by omega
            clear hhit hex
            by_cases hS : S = []
            · subst hS
              have hv := H.out.nil rfl
              injection hv with e1 e2 e3
              subst e1 e3
              dsimp only [List.length_nil] at *
              go_wp2_with fail
              go_quiet (fail)
              replace H := Lib.hid (H.out.drewN nq)
              replace o3 : (wr.drewN nq).cell? ⟨gl, i * 7 + 3, none⟩ = some (.int .i64 o.price) := o3
              replace o4 : (wr.drewN nq).cell? ⟨gl, i * 7 + 4, none⟩ = some (.int .i64 o.qty) := o4
              generalize wr.drewN nq = w2 at H o3 o4 ⊢
              clear q2
              replace H := Lib.hid H.out.drew
              go_upto_region 13 with fail
              refine wp_region_held_drew (S := (fun w' => w'.cell? ⟨gl, i * 7 + 3, none⟩ = some (.int .i64 o.price) ∧ w'.cell? ⟨gl, i * 7 + 4, none⟩ = some (.int .i64 o.qty))) (by kernel_rfl) ⟨o3, o4⟩ (fun hHeld => ?_)
              generalize w2.drew = w3 at H hHeld ⊢
              have HOS := Lib.hid H.out
              obtain ⟨n0, hn0⟩ : ∃ n, n = w3.heap.size := ⟨_, rfl⟩
              have HSS := Lib.hid (show ∀ W, Below n0 w3 W → W.cell? ⟨gl, i * 7 + 3, none⟩ = some (.int .i64 o.price) ∧ W.cell? ⟨gl, i * 7 + 4, none⟩ = some (.int .i64 o.qty) from fun W hb => by
                have hlt : gl < n0 := by rw [hn0]; exact Nat.lt_of_lt_of_le hgl HOS.out.le
                rw [hb.cell (p := ⟨gl, _, none⟩) hlt, hb.cell (p := ⟨gl, _, none⟩) hlt]; exact hHeld)
              replace H := Lib.hid (show GA n0 94 3 w3 w3 none none from GA.start (Below.refl _ _) (by rw [hn0]; exact Nat.le_refl _))
              have HTL := Lib.hid (show (rowsL (([] : List Lvl).take 0)).length = 0 * 3 by rw [rowsL, flat_size Lvl.cells 3 lvl_size, List.length_take]; first | (rw [Nat.min_eq_left (by omega)]; done) | simp)
              have HDL := Lib.hid (show (rowsL (([] : List Lvl).drop 0)).length = (0) * 3 by rw [rowsL, flat_size Lvl.cells 3 lvl_size, List.length_drop]; try simp)
              have HT1 := Lib.hid (rowsL_one (([] : List Lvl).take 0))
              have HD1 := Lib.hid (rowsL_one (([] : List Lvl).drop 0))
              have HLEN := Lib.hid (show 0 + 1 + (0) = (([] : List Lvl).take 0 ++ [(⟨o.price, o.qty, 1⟩ : Lvl)] ++ ([] : List Lvl).drop 0).length by simp; try omega)
              have HROW := Lib.hid (show rowsL (([] : List Lvl).take 0) ++ (Lvl.cells ⟨o.price, o.qty, 1⟩).toList ++ rowsL (([] : List Lvl).drop 0) = rowsL (([] : List Lvl).take 0 ++ [(⟨o.price, o.qty, 1⟩ : Lvl)] ++ ([] : List Lvl).drop 0) by simp [rowsL])
              have HNE := Lib.hid (show ([] : List Lvl).take 0 ++ [(⟨o.price, o.qty, 1⟩ : Lvl)] ++ ([] : List Lvl).drop 0 ≠ [] by simp)
              have HN0 := Lib.hid hn0
              clear hn0
              have HTS := Lib.hid (show ∀ W, 0 < 0 → Below n0 w3 W → ∃ ad : Addr, (none : Option Addr) = some ad ∧ ∀ j u, (rowsL (([] : List Lvl).take 0))[j]? = some u → W.cell? (ad.add j) = some u from fun W h => absurd h (by omega))
              have HDS := Lib.hid (show ∀ W, 0 < 0 → Below n0 w3 W → ∃ ad : Addr, (none : Option Addr) = some ad ∧ ∀ j u, (rowsL (([] : List Lvl).drop 0))[j]? = some u → W.cell? (ad.add j) = some u from fun W h => absurd h (by omega))
              refine wpAnyH_take (i := 1) (oi := ⟨some 93, _, _, _, _, _⟩) (v := ?_) rfl (by kernel_rfl) (by kernel_rfl) (by kernel_rfl) (fun _ _ _ h => h) (Or.inl ⟨by rfl, ?_⟩) (by assumption) ?_
              rotate_left
              · (intro w hSw; (try dsimp only at hSw); go_simp; (try with_reducible rfl))
              simp only [Act.put, List.setIfInBounds_toArray, List.set_cons_zero, List.set_cons_succ]
              refine wpAnyH_take (i := 2) (oi := ⟨some 94, _, _, _, _, _⟩) (v := ?_) rfl (by kernel_rfl) (by kernel_rfl) (by kernel_rfl) (fun _ _ _ h => h) (Or.inl ⟨by rfl, ?_⟩) (by assumption) ?_
              rotate_left
              · (intro w hSw; (try dsimp only at hSw); go_simp; (try with_reducible rfl))
              simp only [Act.put, List.setIfInBounds_toArray, List.set_cons_zero, List.set_cons_succ]
              refine wpAnyH_take (i := 3) (oi := ⟨some 95, _, _, _, _, _⟩) (v := ?_) rfl (by kernel_rfl) (by kernel_rfl) (by kernel_rfl) (fun _ _ _ h => h) (Or.inl ⟨by rfl, ?_⟩) (by assumption) ?_
              rotate_left
              · (intro w hSw; (try dsimp only at hSw); go_simp; (try with_reducible rfl))
              simp only [Act.put, List.setIfInBounds_toArray, List.set_cons_zero, List.set_cons_succ]
              refine wpAnyH_take (i := 5) (oi := ⟨some 97, _, _, _, _, _⟩) (v := ?_) rfl (by kernel_rfl) (by kernel_rfl) (by kernel_rfl) (fun _ _ _ h => h) (Or.inl ⟨by rfl, ?_⟩) (by assumption) ?_
              rotate_left
              · (intro w hSw; (try dsimp only at hSw); go_simp; (try with_reducible rfl))
              simp only [Act.put, List.setIfInBounds_toArray, List.set_cons_zero, List.set_cons_succ]
              refine wpAnyH_take (i := 6) (oi := ⟨some 98, _, _, _, _, _⟩) (v := ?_) rfl (by kernel_rfl) (by kernel_rfl) (by kernel_rfl) (fun _ _ _ h => h) (Or.inl ⟨by rfl, ?_⟩) (by assumption) ?_
              rotate_left
              · (intro w hSw; (try dsimp only at hSw); go_simp; (try with_reducible rfl))
              simp only [Act.put, List.setIfInBounds_toArray, List.set_cons_zero, List.set_cons_succ]
              refine wpAnyH_take (i := 7) (oi := ⟨some 99, _, _, _, _, _⟩) (v := ?_) rfl (by kernel_rfl) (by kernel_rfl) (by kernel_rfl) (fun _ _ _ h => h) (Or.inl ⟨by rfl, ?_⟩) (by assumption) ?_
              rotate_left
              · (intro w hSw; (try dsimp only at hSw); go_simp; (try with_reducible rfl))
              simp only [Act.put, List.setIfInBounds_toArray, List.set_cons_zero, List.set_cons_succ]
              refine wpAnyH_take (i := 8) (oi := ⟨some 100, _, _, _, _, _⟩) (v := ?_) rfl (by kernel_rfl) (by kernel_rfl) (by kernel_rfl) (fun _ _ _ h => h) (Or.inl ⟨by rfl, ?_⟩) (by assumption) ?_
              rotate_left
              · (intro w hSw; (try dsimp only at hSw); go_simp; (try with_reducible rfl))
              simp only [Act.put, List.setIfInBounds_toArray, List.set_cons_zero, List.set_cons_succ]
              refine wpAnyH_take (i := 9) (oi := ⟨some 101, _, _, _, _, _⟩) (v := ?_) rfl (by kernel_rfl) (by kernel_rfl) (by kernel_rfl) (fun _ _ _ h => h) (Or.inl ⟨by rfl, ?_⟩) (by assumption) ?_
              rotate_left
              · (intro w hSw; (try dsimp only at hSw); go_simp; (try with_reducible rfl))
              simp only [Act.put, List.setIfInBounds_toArray, List.set_cons_zero, List.set_cons_succ]
              refine wpAnyH_take (i := 10) (oi := ⟨some 102, _, _, _, _, _⟩) (v := ?_) rfl (by kernel_rfl) (by kernel_rfl) (by kernel_rfl) (fun _ _ _ h => h) (Or.inl ⟨by rfl, ?_⟩) (by assumption) ?_
              rotate_left
              · (intro w hSw; (try dsimp only at hSw); go_simp; (try with_reducible rfl))
              simp only [Act.put, List.setIfInBounds_toArray, List.set_cons_zero, List.set_cons_succ]
              refine wpAnyH_take (i := 11) (oi := ⟨some 103, _, _, _, _, _⟩) (v := ?_) rfl (by kernel_rfl) (by kernel_rfl) (by kernel_rfl) (fun _ _ _ h => h) (Or.inl ⟨by rfl, ?_⟩) (by assumption) ?_
              rotate_left
              · (intro w hSw; (try dsimp only at hSw); go_simp; (try with_reducible rfl))
              simp only [Act.put, List.setIfInBounds_toArray, List.set_cons_zero, List.set_cons_succ]
              refine wpAnyH_take (i := 12) (oi := ⟨some 104, _, _, _, _, _⟩) (v := ?_) rfl (by kernel_rfl) (by kernel_rfl) (by kernel_rfl) (fun _ _ _ h => h) (Or.inl ⟨by rfl, ?_⟩) (by assumption) ?_
              rotate_left
              · (intro w hSw; (try dsimp only at hSw); go_simp; (try with_reducible rfl))
              simp only [Act.put, List.setIfInBounds_toArray, List.set_cons_zero, List.set_cons_succ]
              refine wpAnyH_take (i := 13) (oi := ⟨some 105, _, _, _, _, _⟩) (v := ?_) rfl (by kernel_rfl) (by kernel_rfl) (by kernel_rfl) (fun _ _ _ h => h) (Or.inl ⟨by rfl, ?_⟩) (by assumption) ?_
              rotate_left
              · (intro w hSw; (try dsimp only at hSw); go_simp; (try with_reducible rfl))
              simp only [Act.put, List.setIfInBounds_toArray, List.set_cons_zero, List.set_cons_succ]
              refine wpAnyH_take (i := 14) (oi := ⟨some 106, _, _, _, _, _⟩) (v := ?_) rfl (by kernel_rfl) (by kernel_rfl) (by kernel_rfl) (fun _ _ _ h => h) (Or.inl ⟨by rfl, ?_⟩) (by assumption) ?_
              rotate_left
              · (intro w hSw; (try dsimp only at hSw); go_simp; (try with_reducible rfl))
              simp only [Act.put, List.setIfInBounds_toArray, List.set_cons_zero, List.set_cons_succ]
              refine wpAnyH_take (i := 15) (oi := ⟨some 107, _, _, _, _, _⟩) (v := ?_) rfl (by kernel_rfl) (by kernel_rfl) (by kernel_rfl) (fun _ _ _ h => h) (Or.inl ⟨by rfl, ?_⟩) (by assumption) ?_
              rotate_left
              · (intro w hSw; (try dsimp only at hSw); go_simp; (try with_reducible rfl))
              simp only [Act.put, List.setIfInBounds_toArray, List.set_cons_zero, List.set_cons_succ]
              refine wpAnyH_take (i := 18) (oi := ⟨some 110, _, _, _, _, _⟩) (v := ?_) rfl (by kernel_rfl) (by kernel_rfl) (by kernel_rfl) (fun _ _ _ h => h) (Or.inl ⟨by rfl, ?_⟩) (by assumption) ?_
              rotate_left
              · (intro w hSw; (try dsimp only at hSw); go_simp; (try with_reducible rfl))
              simp only [Act.put, List.setIfInBounds_toArray, List.set_cons_zero, List.set_cons_succ]
              refine wpAnyH_take (i := 19) (oi := ⟨some 111, _, _, _, _, _⟩) (v := ?_) rfl (by kernel_rfl) (by kernel_rfl) (by kernel_rfl) (fun _ _ _ h => h) (Or.inl ⟨by rfl, ?_⟩) (by assumption) ?_
              rotate_left
              · (intro w hSw; (try dsimp only at hSw); go_simp; (try with_reducible rfl))
              simp only [Act.put, List.setIfInBounds_toArray, List.set_cons_zero, List.set_cons_succ]
              refine wpAnyH_take (i := 20) (oi := ⟨some 112, _, _, _, _, _⟩) (v := ?_) rfl (by kernel_rfl) (by kernel_rfl) (by kernel_rfl) (fun _ _ _ h => h) (Or.inl ⟨by rfl, ?_⟩) (by assumption) ?_
              rotate_left
              · (intro w hSw; (try dsimp only at hSw); go_simp; (try with_reducible rfl))
              simp only [Act.put, List.setIfInBounds_toArray, List.set_cons_zero, List.set_cons_succ]
              refine wpAnyH_ready (rs := [0, 16]) (by kernel_rfl) (by simp) ?_
              refine AllReadyH.cons (o := ⟨some 92, _, _, _, _, _⟩) rfl (fun KK hK => ?_) (AllReadyH.cons (o := ⟨some 108, _, _, _, _, _⟩) rfl (fun KK hK => ?_) (AllReadyH.nil))
              · go_simp
                change KK _ (w3.alloc (.cells #[] 94))
                replace H := Lib.hid H.out.empty
                generalize w3.alloc (.cells #[] 94) = WX1 at H ⊢
                generalize w3.heap.size = e1 at H ⊢
                refine hK.out _ _ (HSS.out _ H.out.bel) (fun hHeld => ?_)
                clear hK; try clear KK
                try simp only [Act.put, List.setIfInBounds_toArray, List.set_cons_zero, List.set_cons_succ]
                refine wpAnyH_ready (rs := [4, 16]) (by kernel_rfl) (by simp) ?_
                refine AllReadyH.cons (o := ⟨some 96, _, _, _, _, _⟩) rfl (fun KK hK => ?_) (AllReadyH.cons (o := ⟨some 108, _, _, _, _, _⟩) rfl (fun KK hK => ?_) (AllReadyH.nil))
                · refine GA.src H.out (by rfl) _ _ _ (by rfl) i0 (.agg #[.int .i64 0, .int .i64 0, .int .i64 0]) 24 Try.underlying77 hi0 hz0 hz1 hz2 (by rfl) (by decide) (by rfl) _ _ _ _ (by rfl) HTL.out (fun hm => HTS.out _ hm H.out.bel) HT1.out (by unfold maxLen; omega) (by omega) ?_
                  intro g1 cap1 WX2 H'
                  rw [Nat.zero_add, List.nil_append] at H'
                  rw [Nat.zero_add]
                  replace H := Lib.hid H'
                  clear H'
                  refine hK.out _ _ (HSS.out _ H.out.bel) (fun hHeld => ?_)
                  clear hK; try clear KK
                  try simp only [Act.put, List.setIfInBounds_toArray, List.set_cons_zero, List.set_cons_succ]
                  refine wpAnyH_ready (rs := [16]) (by kernel_rfl) (by simp) ?_
                  refine AllReadyH.cons (o := ⟨some 108, _, _, _, _, _⟩) rfl (fun KK hK => ?_) AllReadyH.nil
                  go_simp
                  change KK _ (WX2.alloc (.cells (Lvl.cells ⟨o.price, o.qty, 1⟩) 94))
                  replace H := Lib.hid (H.out.new (Lvl.cells ⟨o.price, o.qty, 1⟩))
                  generalize WX2.alloc (.cells (Lvl.cells ⟨o.price, o.qty, 1⟩) 94) = WX3 at H ⊢
                  generalize WX2.heap.size = nb1 at H ⊢
                  refine hK.out _ _ (HSS.out _ H.out.bel) (fun hHeld => ?_)
                  clear hK; try clear KK
                  try simp only [Act.put, List.setIfInBounds_toArray, List.set_cons_zero, List.set_cons_succ]
                  refine wpAnyH_ready (rs := [17]) (by kernel_rfl) (by simp) ?_
                  refine AllReadyH.cons (o := ⟨some 109, _, _, _, _, _⟩) rfl (fun KK hK => ?_) AllReadyH.nil
                  refine GA.app H.out (by rfl) _ _ _ (by rfl) i0 (.agg #[.int .i64 0, .int .i64 0, .int .i64 0]) 24 Try.underlying77 hi0 hz0 hz1 hz2 (by rfl) (by decide) (by rfl) (by rfl) (lvl_size _) (one_mem (one_lvl _)) (by unfold maxLen; omega) (by omega) ?_
                  intro g2 cap2 WX4 H'
                  replace H := Lib.hid H'
                  clear H'
                  refine hK.out _ _ (HSS.out _ H.out.bel) (fun hHeld => ?_)
                  clear hK; try clear KK
                  try simp only [Act.put, List.setIfInBounds_toArray, List.set_cons_zero, List.set_cons_succ]
                  refine wpAnyH_ready (rs := [21]) (by kernel_rfl) (by simp) ?_
                  refine AllReadyH.cons (o := ⟨some 113, _, _, _, _, _⟩) rfl (fun KK hK => ?_) AllReadyH.nil
                  refine GA.src H.out (by rfl) _ _ _ (by rfl) i0 (.agg #[.int .i64 0, .int .i64 0, .int .i64 0]) 24 Try.underlying77 hi0 hz0 hz1 hz2 (by rfl) (by decide) (by rfl) _ _ _ _ (by rfl) HDL.out (fun hm => HDS.out _ hm H.out.bel) HD1.out (by unfold maxLen; omega) (by omega) ?_
                  intro g3 cap3 WX5 H'
                  replace H := Lib.hid H'
                  clear H'
                  refine hK.out _ _ (HSS.out _ H.out.bel) (fun hHeld => ?_)
                  clear hK; try clear KK
                  try simp only [Act.put, List.setIfInBounds_toArray, List.set_cons_zero, List.set_cons_succ]
                  refine wpAnyH_take (i := 22) (oi := ⟨some 3, _, _, _, _, _⟩) (v := ?_) rfl (by kernel_rfl) (by kernel_rfl) (by kernel_rfl) (fun _ _ _ h => h) (Or.inl ⟨by rfl, ?_⟩) (by assumption) ?_
                  rotate_left
                  · (intro w hSw; (try dsimp only at hSw); go_simp; (try with_reducible rfl))
                  simp only [Act.put, List.setIfInBounds_toArray, List.set_cons_zero, List.set_cons_succ]
                  refine wpAnyH_done (by kernel_rfl) ?_ _
                  replace H := Lib.hid (HOS.out.grown (HN0.out ▸ H.out) HLEN.out HROW.out HNE.out)
                  clear HOS
                  go_wp2_with fail
                  go_roundw
                  case rel => exact ⟨i + 1, by omega, by go_num, by rw [HN.out, HIN.out]; exact H.out⟩
                  case measure => simp [intOf]; omega
                · go_simp
                  change KK _ (WX1.alloc (.cells (Lvl.cells ⟨o.price, o.qty, 1⟩) 94))
                  replace H := Lib.hid (H.out.new (Lvl.cells ⟨o.price, o.qty, 1⟩))
                  generalize WX1.alloc (.cells (Lvl.cells ⟨o.price, o.qty, 1⟩) 94) = WX6 at H ⊢
                  generalize WX1.heap.size = nb1 at H ⊢
                  refine hK.out _ _ (HSS.out _ H.out.bel) (fun hHeld => ?_)
                  clear hK; try clear KK
                  try simp only [Act.put, List.setIfInBounds_toArray, List.set_cons_zero, List.set_cons_succ]
                  refine wpAnyH_ready (rs := [4]) (by kernel_rfl) (by simp) ?_
                  refine AllReadyH.cons (o := ⟨some 96, _, _, _, _, _⟩) rfl (fun KK hK => ?_) AllReadyH.nil
                  refine GA.src H.out (by rfl) _ _ _ (by rfl) i0 (.agg #[.int .i64 0, .int .i64 0, .int .i64 0]) 24 Try.underlying77 hi0 hz0 hz1 hz2 (by rfl) (by decide) (by rfl) _ _ _ _ (by rfl) HTL.out (fun hm => HTS.out _ hm H.out.bel) HT1.out (by unfold maxLen; omega) (by omega) ?_
                  intro g1 cap1 WX7 H'
                  rw [Nat.zero_add, List.nil_append] at H'
                  rw [Nat.zero_add]
                  replace H := Lib.hid H'
                  clear H'
                  refine hK.out _ _ (HSS.out _ H.out.bel) (fun hHeld => ?_)
                  clear hK; try clear KK
                  try simp only [Act.put, List.setIfInBounds_toArray, List.set_cons_zero, List.set_cons_succ]
                  refine wpAnyH_ready (rs := [17]) (by kernel_rfl) (by simp) ?_
                  refine AllReadyH.cons (o := ⟨some 109, _, _, _, _, _⟩) rfl (fun KK hK => ?_) AllReadyH.nil
                  refine GA.app H.out (by rfl) _ _ _ (by rfl) i0 (.agg #[.int .i64 0, .int .i64 0, .int .i64 0]) 24 Try.underlying77 hi0 hz0 hz1 hz2 (by rfl) (by decide) (by rfl) (by rfl) (lvl_size _) (one_mem (one_lvl _)) (by unfold maxLen; omega) (by omega) ?_
                  intro g2 cap2 WX8 H'
                  replace H := Lib.hid H'
                  clear H'
                  refine hK.out _ _ (HSS.out _ H.out.bel) (fun hHeld => ?_)
                  clear hK; try clear KK
                  try simp only [Act.put, List.setIfInBounds_toArray, List.set_cons_zero, List.set_cons_succ]
                  refine wpAnyH_ready (rs := [21]) (by kernel_rfl) (by simp) ?_
                  refine AllReadyH.cons (o := ⟨some 113, _, _, _, _, _⟩) rfl (fun KK hK => ?_) AllReadyH.nil
                  refine GA.src H.out (by rfl) _ _ _ (by rfl) i0 (.agg #[.int .i64 0, .int .i64 0, .int .i64 0]) 24 Try.underlying77 hi0 hz0 hz1 hz2 (by rfl) (by decide) (by rfl) _ _ _ _ (by rfl) HDL.out (fun hm => HDS.out _ hm H.out.bel) HD1.out (by unfold maxLen; omega) (by omega) ?_
                  intro g3 cap3 WX9 H'
                  replace H := Lib.hid H'
                  clear H'
                  refine hK.out _ _ (HSS.out _ H.out.bel) (fun hHeld => ?_)
                  clear hK; try clear KK
                  try simp only [Act.put, List.setIfInBounds_toArray, List.set_cons_zero, List.set_cons_succ]
                  refine wpAnyH_take (i := 22) (oi := ⟨some 3, _, _, _, _, _⟩) (v := ?_) rfl (by kernel_rfl) (by kernel_rfl) (by kernel_rfl) (fun _ _ _ h => h) (Or.inl ⟨by rfl, ?_⟩) (by assumption) ?_
                  rotate_left
                  · (intro w hSw; (try dsimp only at hSw); go_simp; (try with_reducible rfl))
                  simp only [Act.put, List.setIfInBounds_toArray, List.set_cons_zero, List.set_cons_succ]
                  refine wpAnyH_done (by kernel_rfl) ?_ _
                  replace H := Lib.hid (HOS.out.grown (HN0.out ▸ H.out) HLEN.out HROW.out HNE.out)
                  clear HOS
                  go_wp2_with fail
                  go_roundw
                  case rel => exact ⟨i + 1, by omega, by go_num, by rw [HN.out, HIN.out]; exact H.out⟩
                  case measure => simp [intOf]; omega
              · go_simp
                change KK _ (w3.alloc (.cells (Lvl.cells ⟨o.price, o.qty, 1⟩) 94))
                replace H := Lib.hid (H.out.new (Lvl.cells ⟨o.price, o.qty, 1⟩))
                generalize w3.alloc (.cells (Lvl.cells ⟨o.price, o.qty, 1⟩) 94) = WX10 at H ⊢
                generalize w3.heap.size = nb1 at H ⊢
                refine hK.out _ _ (HSS.out _ H.out.bel) (fun hHeld => ?_)
                clear hK; try clear KK
                try simp only [Act.put, List.setIfInBounds_toArray, List.set_cons_zero, List.set_cons_succ]
                refine wpAnyH_ready (rs := [0]) (by kernel_rfl) (by simp) ?_
                refine AllReadyH.cons (o := ⟨some 92, _, _, _, _, _⟩) rfl (fun KK hK => ?_) AllReadyH.nil
                go_simp
                change KK _ (WX10.alloc (.cells #[] 94))
                replace H := Lib.hid H.out.empty
                generalize WX10.alloc (.cells #[] 94) = WX11 at H ⊢
                generalize WX10.heap.size = e1 at H ⊢
                refine hK.out _ _ (HSS.out _ H.out.bel) (fun hHeld => ?_)
                clear hK; try clear KK
                try simp only [Act.put, List.setIfInBounds_toArray, List.set_cons_zero, List.set_cons_succ]
                refine wpAnyH_ready (rs := [4]) (by kernel_rfl) (by simp) ?_
                refine AllReadyH.cons (o := ⟨some 96, _, _, _, _, _⟩) rfl (fun KK hK => ?_) AllReadyH.nil
                refine GA.src H.out (by rfl) _ _ _ (by rfl) i0 (.agg #[.int .i64 0, .int .i64 0, .int .i64 0]) 24 Try.underlying77 hi0 hz0 hz1 hz2 (by rfl) (by decide) (by rfl) _ _ _ _ (by rfl) HTL.out (fun hm => HTS.out _ hm H.out.bel) HT1.out (by unfold maxLen; omega) (by omega) ?_
                intro g1 cap1 WX12 H'
                rw [Nat.zero_add, List.nil_append] at H'
                rw [Nat.zero_add]
                replace H := Lib.hid H'
                clear H'
                refine hK.out _ _ (HSS.out _ H.out.bel) (fun hHeld => ?_)
                clear hK; try clear KK
                try simp only [Act.put, List.setIfInBounds_toArray, List.set_cons_zero, List.set_cons_succ]
                refine wpAnyH_ready (rs := [17]) (by kernel_rfl) (by simp) ?_
                refine AllReadyH.cons (o := ⟨some 109, _, _, _, _, _⟩) rfl (fun KK hK => ?_) AllReadyH.nil
                refine GA.app H.out (by rfl) _ _ _ (by rfl) i0 (.agg #[.int .i64 0, .int .i64 0, .int .i64 0]) 24 Try.underlying77 hi0 hz0 hz1 hz2 (by rfl) (by decide) (by rfl) (by rfl) (lvl_size _) (one_mem (one_lvl _)) (by unfold maxLen; omega) (by omega) ?_
                intro g2 cap2 WX13 H'
                replace H := Lib.hid H'
                clear H'
                refine hK.out _ _ (HSS.out _ H.out.bel) (fun hHeld => ?_)
                clear hK; try clear KK
                try simp only [Act.put, List.setIfInBounds_toArray, List.set_cons_zero, List.set_cons_succ]
                refine wpAnyH_ready (rs := [21]) (by kernel_rfl) (by simp) ?_
                refine AllReadyH.cons (o := ⟨some 113, _, _, _, _, _⟩) rfl (fun KK hK => ?_) AllReadyH.nil
                refine GA.src H.out (by rfl) _ _ _ (by rfl) i0 (.agg #[.int .i64 0, .int .i64 0, .int .i64 0]) 24 Try.underlying77 hi0 hz0 hz1 hz2 (by rfl) (by decide) (by rfl) _ _ _ _ (by rfl) HDL.out (fun hm => HDS.out _ hm H.out.bel) HD1.out (by unfold maxLen; omega) (by omega) ?_
                intro g3 cap3 WX14 H'
                replace H := Lib.hid H'
                clear H'
                refine hK.out _ _ (HSS.out _ H.out.bel) (fun hHeld => ?_)
                clear hK; try clear KK
                try simp only [Act.put, List.setIfInBounds_toArray, List.set_cons_zero, List.set_cons_succ]
                refine wpAnyH_take (i := 22) (oi := ⟨some 3, _, _, _, _, _⟩) (v := ?_) rfl (by kernel_rfl) (by kernel_rfl) (by kernel_rfl) (fun _ _ _ h => h) (Or.inl ⟨by rfl, ?_⟩) (by assumption) ?_
                rotate_left
                · (intro w hSw; (try dsimp only at hSw); go_simp; (try with_reducible rfl))
                simp only [Act.put, List.setIfInBounds_toArray, List.set_cons_zero, List.set_cons_succ]
                refine wpAnyH_done (by kernel_rfl) ?_ _
                replace H := Lib.hid (HOS.out.grown (HN0.out ▸ H.out) HLEN.out HROW.out HNE.out)
                clear HOS
                go_wp2_with fail
                go_roundw
                case rel => exact ⟨i + 1, by omega, by go_num, by rw [HN.out, HIN.out]; exact H.out⟩
                case measure => simp [intOf]; omega
            · have hpos : 0 < S.length := List.length_pos_iff.2 hS
              obtain ⟨g, rfl, hgn, hgw, -⟩ := H.out.row 0 hpos
              have k2 : (S.length : Int) ≤ (vc : Int) := by omega
              clear hS
              go_wp2_with fail
              go_quiet (fail)
              replace H := Lib.hid (H.out.drewN nq)
              replace o3 : (wr.drewN nq).cell? ⟨gl, i * 7 + 3, none⟩ = some (.int .i64 o.price) := o3
              replace o4 : (wr.drewN nq).cell? ⟨gl, i * 7 + 4, none⟩ = some (.int .i64 o.qty) := o4
              generalize wr.drewN nq = w2 at H o3 o4 ⊢
              clear q2
              by_cases hck : vc = S.length
              · subst hck
                replace H := Lib.hid H.out.drew
                go_upto_region 13 with fail
                refine wp_region_held_drew (S := (fun w' => w'.cell? ⟨gl, i * 7 + 3, none⟩ = some (.int .i64 o.price) ∧ w'.cell? ⟨gl, i * 7 + 4, none⟩ = some (.int .i64 o.qty))) (by kernel_rfl) ⟨o3, o4⟩ (fun hHeld => ?_)
                generalize w2.drew = w3 at H hHeld ⊢
                have HOS := Lib.hid H.out
                obtain ⟨n0, hn0⟩ : ∃ n, n = w3.heap.size := ⟨_, rfl⟩
                have HSS := Lib.hid (show ∀ W, Below n0 w3 W → W.cell? ⟨gl, i * 7 + 3, none⟩ = some (.int .i64 o.price) ∧ W.cell? ⟨gl, i * 7 + 4, none⟩ = some (.int .i64 o.qty) from fun W hb => by
                  have hlt : gl < n0 := by rw [hn0]; exact Nat.lt_of_lt_of_le hgl HOS.out.le
                  rw [hb.cell (p := ⟨gl, _, none⟩) hlt, hb.cell (p := ⟨gl, _, none⟩) hlt]; exact hHeld)
                replace H := Lib.hid (show GA n0 94 3 w3 w3 none none from GA.start (Below.refl _ _) (by rw [hn0]; exact Nat.le_refl _))
                have HTL := Lib.hid (show (rowsL (S.take S.length)).length = S.length * 3 by rw [rowsL, flat_size Lvl.cells 3 lvl_size, List.length_take]; first | (rw [Nat.min_eq_left (by omega)]; done) | simp)
                have HDL := Lib.hid (show (rowsL (S.drop S.length)).length = (0) * 3 by rw [rowsL, flat_size Lvl.cells 3 lvl_size, List.length_drop]; try simp)
                have HT1 := Lib.hid (rowsL_one (S.take S.length))
                have HD1 := Lib.hid (rowsL_one (S.drop S.length))
                have HLEN := Lib.hid (show S.length + 1 + (0) = (S.take S.length ++ [(⟨o.price, o.qty, 1⟩ : Lvl)] ++ S.drop S.length).length by simp; try omega)
                have HROW := Lib.hid (show rowsL (S.take S.length) ++ (Lvl.cells ⟨o.price, o.qty, 1⟩).toList ++ rowsL (S.drop S.length) = rowsL (S.take S.length ++ [(⟨o.price, o.qty, 1⟩ : Lvl)] ++ S.drop S.length) by simp [rowsL])
                have HNE := Lib.hid (show S.take S.length ++ [(⟨o.price, o.qty, 1⟩ : Lvl)] ++ S.drop S.length ≠ [] by simp)
                have HN0 := Lib.hid hn0
                clear hn0
                have HTS := Lib.hid (show ∀ W, 0 < S.length → Below n0 w3 W → ∃ ad : Addr, some (⟨g, 0, none⟩ : Addr) = some ad ∧ ∀ j u, (rowsL (S.take S.length))[j]? = some u → W.cell? (ad.add j) = some u from fun W _ hb => ⟨_, rfl, row_take Lvl.cells 3 lvl_size HOS.out.own (HN0.out ▸ hb) S.length⟩)
                have HDS := Lib.hid (show ∀ W, 0 < 0 → Below n0 w3 W → ∃ ad : Addr, some (⟨g, 0, none⟩ : Addr) = some ad ∧ ∀ j u, (rowsL (S.drop S.length))[j]? = some u → W.cell? (ad.add j) = some u from fun W h => absurd h (by omega))
                refine wpAnyH_take (i := 1) (oi := ⟨some 93, _, _, _, _, _⟩) (v := ?_) rfl (by kernel_rfl) (by kernel_rfl) (by kernel_rfl) (fun _ _ _ h => h) (Or.inl ⟨by rfl, ?_⟩) (by assumption) ?_
                rotate_left
                · (intro w hSw; (try dsimp only at hSw); go_simp; (try with_reducible rfl))
                simp only [Act.put, List.setIfInBounds_toArray, List.set_cons_zero, List.set_cons_succ]
                refine wpAnyH_take (i := 2) (oi := ⟨some 94, _, _, _, _, _⟩) (v := ?_) rfl (by kernel_rfl) (by kernel_rfl) (by kernel_rfl) (fun _ _ _ h => h) (Or.inl ⟨by rfl, ?_⟩) (by assumption) ?_
                rotate_left
                · (intro w hSw; (try dsimp only at hSw); go_simp; (try with_reducible rfl))
                simp only [Act.put, List.setIfInBounds_toArray, List.set_cons_zero, List.set_cons_succ]
                refine wpAnyH_take (i := 3) (oi := ⟨some 95, _, _, _, _, _⟩) (v := ?_) rfl (by kernel_rfl) (by kernel_rfl) (by kernel_rfl) (fun _ _ _ h => h) (Or.inl ⟨by rfl, ?_⟩) (by assumption) ?_
                rotate_left
                · (intro w hSw; (try dsimp only at hSw); go_simp; (try with_reducible rfl))
                simp only [Act.put, List.setIfInBounds_toArray, List.set_cons_zero, List.set_cons_succ]
                refine wpAnyH_take (i := 5) (oi := ⟨some 97, _, _, _, _, _⟩) (v := ?_) rfl (by kernel_rfl) (by kernel_rfl) (by kernel_rfl) (fun _ _ _ h => h) (Or.inl ⟨by rfl, ?_⟩) (by assumption) ?_
                rotate_left
                · (intro w hSw; (try dsimp only at hSw); go_simp; (try with_reducible rfl))
                simp only [Act.put, List.setIfInBounds_toArray, List.set_cons_zero, List.set_cons_succ]
                refine wpAnyH_take (i := 6) (oi := ⟨some 98, _, _, _, _, _⟩) (v := ?_) rfl (by kernel_rfl) (by kernel_rfl) (by kernel_rfl) (fun _ _ _ h => h) (Or.inl ⟨by rfl, ?_⟩) (by assumption) ?_
                rotate_left
                · (intro w hSw; (try dsimp only at hSw); go_simp; (try with_reducible rfl))
                simp only [Act.put, List.setIfInBounds_toArray, List.set_cons_zero, List.set_cons_succ]
                refine wpAnyH_take (i := 7) (oi := ⟨some 99, _, _, _, _, _⟩) (v := ?_) rfl (by kernel_rfl) (by kernel_rfl) (by kernel_rfl) (fun _ _ _ h => h) (Or.inl ⟨by rfl, ?_⟩) (by assumption) ?_
                rotate_left
                · (intro w hSw; (try dsimp only at hSw); go_simp; (try with_reducible rfl))
                simp only [Act.put, List.setIfInBounds_toArray, List.set_cons_zero, List.set_cons_succ]
                refine wpAnyH_take (i := 8) (oi := ⟨some 100, _, _, _, _, _⟩) (v := ?_) rfl (by kernel_rfl) (by kernel_rfl) (by kernel_rfl) (fun _ _ _ h => h) (Or.inl ⟨by rfl, ?_⟩) (by assumption) ?_
                rotate_left
                · (intro w hSw; (try dsimp only at hSw); go_simp; (try with_reducible rfl))
                simp only [Act.put, List.setIfInBounds_toArray, List.set_cons_zero, List.set_cons_succ]
                refine wpAnyH_take (i := 9) (oi := ⟨some 101, _, _, _, _, _⟩) (v := ?_) rfl (by kernel_rfl) (by kernel_rfl) (by kernel_rfl) (fun _ _ _ h => h) (Or.inl ⟨by rfl, ?_⟩) (by assumption) ?_
                rotate_left
                · (intro w hSw; (try dsimp only at hSw); go_simp; (try with_reducible rfl))
                simp only [Act.put, List.setIfInBounds_toArray, List.set_cons_zero, List.set_cons_succ]
                refine wpAnyH_take (i := 10) (oi := ⟨some 102, _, _, _, _, _⟩) (v := ?_) rfl (by kernel_rfl) (by kernel_rfl) (by kernel_rfl) (fun _ _ _ h => h) (Or.inl ⟨by rfl, ?_⟩) (by assumption) ?_
                rotate_left
                · (intro w hSw; (try dsimp only at hSw); go_simp; (try with_reducible rfl))
                simp only [Act.put, List.setIfInBounds_toArray, List.set_cons_zero, List.set_cons_succ]
                refine wpAnyH_take (i := 11) (oi := ⟨some 103, _, _, _, _, _⟩) (v := ?_) rfl (by kernel_rfl) (by kernel_rfl) (by kernel_rfl) (fun _ _ _ h => h) (Or.inl ⟨by rfl, ?_⟩) (by assumption) ?_
                rotate_left
                · (intro w hSw; (try dsimp only at hSw); go_simp; (try with_reducible rfl))
                simp only [Act.put, List.setIfInBounds_toArray, List.set_cons_zero, List.set_cons_succ]
                refine wpAnyH_take (i := 12) (oi := ⟨some 104, _, _, _, _, _⟩) (v := ?_) rfl (by kernel_rfl) (by kernel_rfl) (by kernel_rfl) (fun _ _ _ h => h) (Or.inl ⟨by rfl, ?_⟩) (by assumption) ?_
                rotate_left
                · (intro w hSw; (try dsimp only at hSw); go_simp; (try with_reducible rfl))
                simp only [Act.put, List.setIfInBounds_toArray, List.set_cons_zero, List.set_cons_succ]
                refine wpAnyH_take (i := 13) (oi := ⟨some 105, _, _, _, _, _⟩) (v := ?_) rfl (by kernel_rfl) (by kernel_rfl) (by kernel_rfl) (fun _ _ _ h => h) (Or.inl ⟨by rfl, ?_⟩) (by assumption) ?_
                rotate_left
                · (intro w hSw; (try dsimp only at hSw); go_simp; (try with_reducible rfl))
                simp only [Act.put, List.setIfInBounds_toArray, List.set_cons_zero, List.set_cons_succ]
                refine wpAnyH_take (i := 14) (oi := ⟨some 106, _, _, _, _, _⟩) (v := ?_) rfl (by kernel_rfl) (by kernel_rfl) (by kernel_rfl) (fun _ _ _ h => h) (Or.inl ⟨by rfl, ?_⟩) (by assumption) ?_
                rotate_left
                · (intro w hSw; (try dsimp only at hSw); go_simp; (try with_reducible rfl))
                simp only [Act.put, List.setIfInBounds_toArray, List.set_cons_zero, List.set_cons_succ]
                refine wpAnyH_take (i := 15) (oi := ⟨some 107, _, _, _, _, _⟩) (v := ?_) rfl (by kernel_rfl) (by kernel_rfl) (by kernel_rfl) (fun _ _ _ h => h) (Or.inl ⟨by rfl, ?_⟩) (by assumption) ?_
                rotate_left
                · (intro w hSw; (try dsimp only at hSw); go_simp; (try with_reducible rfl))
                simp only [Act.put, List.setIfInBounds_toArray, List.set_cons_zero, List.set_cons_succ]
                refine wpAnyH_take (i := 18) (oi := ⟨some 110, _, _, _, _, _⟩) (v := ?_) rfl (by kernel_rfl) (by kernel_rfl) (by kernel_rfl) (fun _ _ _ h => h) (Or.inl ⟨by rfl, ?_⟩) (by assumption) ?_
                rotate_left
                · (intro w hSw; (try dsimp only at hSw); go_simp; (try with_reducible rfl))
                simp only [Act.put, List.setIfInBounds_toArray, List.set_cons_zero, List.set_cons_succ]
                refine wpAnyH_take (i := 19) (oi := ⟨some 111, _, _, _, _, _⟩) (v := ?_) rfl (by kernel_rfl) (by kernel_rfl) (by kernel_rfl) (fun _ _ _ h => h) (Or.inl ⟨by rfl, ?_⟩) (by assumption) ?_
                rotate_left
                · (intro w hSw; (try dsimp only at hSw); go_simp; (try with_reducible rfl))
                simp only [Act.put, List.setIfInBounds_toArray, List.set_cons_zero, List.set_cons_succ]
                refine wpAnyH_take (i := 20) (oi := ⟨some 112, _, _, _, _, _⟩) (v := ?_) rfl (by kernel_rfl) (by kernel_rfl) (by kernel_rfl) (fun _ _ _ h => h) (Or.inl ⟨by rfl, ?_⟩) (by assumption) ?_
                rotate_left
                · (intro w hSw; (try dsimp only at hSw); go_simp; (try with_reducible rfl))
                simp only [Act.put, List.setIfInBounds_toArray, List.set_cons_zero, List.set_cons_succ]
                refine wpAnyH_ready (rs := [0, 16]) (by kernel_rfl) (by simp) ?_
                refine AllReadyH.cons (o := ⟨some 92, _, _, _, _, _⟩) rfl (fun KK hK => ?_) (AllReadyH.cons (o := ⟨some 108, _, _, _, _, _⟩) rfl (fun KK hK => ?_) (AllReadyH.nil))
                · go_simp
                  change KK _ (w3.alloc (.cells #[] 94))
                  replace H := Lib.hid H.out.empty
                  generalize w3.alloc (.cells #[] 94) = WX1 at H ⊢
                  generalize w3.heap.size = e1 at H ⊢
                  refine hK.out _ _ (HSS.out _ H.out.bel) (fun hHeld => ?_)
                  clear hK; try clear KK
                  try simp only [Act.put, List.setIfInBounds_toArray, List.set_cons_zero, List.set_cons_succ]
                  refine wpAnyH_ready (rs := [4, 16]) (by kernel_rfl) (by simp) ?_
                  refine AllReadyH.cons (o := ⟨some 96, _, _, _, _, _⟩) rfl (fun KK hK => ?_) (AllReadyH.cons (o := ⟨some 108, _, _, _, _, _⟩) rfl (fun KK hK => ?_) (AllReadyH.nil))
                  · refine GA.src H.out (by rfl) _ _ _ (by rfl) i0 (.agg #[.int .i64 0, .int .i64 0, .int .i64 0]) 24 Try.underlying77 hi0 hz0 hz1 hz2 (by rfl) (by decide) (by rfl) _ _ _ _ (by rfl) HTL.out (fun hm => HTS.out _ hm H.out.bel) HT1.out (by unfold maxLen; omega) (by omega) ?_
                    intro g1 cap1 WX2 H'
                    rw [Nat.zero_add, List.nil_append] at H'
                    rw [Nat.zero_add]
                    replace H := Lib.hid H'
                    clear H'
                    refine hK.out _ _ (HSS.out _ H.out.bel) (fun hHeld => ?_)
                    clear hK; try clear KK
                    try simp only [Act.put, List.setIfInBounds_toArray, List.set_cons_zero, List.set_cons_succ]
                    refine wpAnyH_ready (rs := [16]) (by kernel_rfl) (by simp) ?_
                    refine AllReadyH.cons (o := ⟨some 108, _, _, _, _, _⟩) rfl (fun KK hK => ?_) AllReadyH.nil
                    go_simp
                    change KK _ (WX2.alloc (.cells (Lvl.cells ⟨o.price, o.qty, 1⟩) 94))
                    replace H := Lib.hid (H.out.new (Lvl.cells ⟨o.price, o.qty, 1⟩))
                    generalize WX2.alloc (.cells (Lvl.cells ⟨o.price, o.qty, 1⟩) 94) = WX3 at H ⊢
                    generalize WX2.heap.size = nb1 at H ⊢
                    refine hK.out _ _ (HSS.out _ H.out.bel) (fun hHeld => ?_)
                    clear hK; try clear KK
                    try simp only [Act.put, List.setIfInBounds_toArray, List.set_cons_zero, List.set_cons_succ]
                    refine wpAnyH_ready (rs := [17]) (by kernel_rfl) (by simp) ?_
                    refine AllReadyH.cons (o := ⟨some 109, _, _, _, _, _⟩) rfl (fun KK hK => ?_) AllReadyH.nil
                    refine GA.app H.out (by rfl) _ _ _ (by rfl) i0 (.agg #[.int .i64 0, .int .i64 0, .int .i64 0]) 24 Try.underlying77 hi0 hz0 hz1 hz2 (by rfl) (by decide) (by rfl) (by rfl) (lvl_size _) (one_mem (one_lvl _)) (by unfold maxLen; omega) (by omega) ?_
                    intro g2 cap2 WX4 H'
                    replace H := Lib.hid H'
                    clear H'
                    refine hK.out _ _ (HSS.out _ H.out.bel) (fun hHeld => ?_)
                    clear hK; try clear KK
                    try simp only [Act.put, List.setIfInBounds_toArray, List.set_cons_zero, List.set_cons_succ]
                    refine wpAnyH_ready (rs := [21]) (by kernel_rfl) (by simp) ?_
                    refine AllReadyH.cons (o := ⟨some 113, _, _, _, _, _⟩) rfl (fun KK hK => ?_) AllReadyH.nil
                    refine GA.src H.out (by rfl) _ _ _ (by rfl) i0 (.agg #[.int .i64 0, .int .i64 0, .int .i64 0]) 24 Try.underlying77 hi0 hz0 hz1 hz2 (by rfl) (by decide) (by rfl) _ _ _ _ (by rfl) HDL.out (fun hm => HDS.out _ hm H.out.bel) HD1.out (by unfold maxLen; omega) (by omega) ?_
                    intro g3 cap3 WX5 H'
                    replace H := Lib.hid H'
                    clear H'
                    refine hK.out _ _ (HSS.out _ H.out.bel) (fun hHeld => ?_)
                    clear hK; try clear KK
                    try simp only [Act.put, List.setIfInBounds_toArray, List.set_cons_zero, List.set_cons_succ]
                    refine wpAnyH_take (i := 22) (oi := ⟨some 3, _, _, _, _, _⟩) (v := ?_) rfl (by kernel_rfl) (by kernel_rfl) (by kernel_rfl) (fun _ _ _ h => h) (Or.inl ⟨by rfl, ?_⟩) (by assumption) ?_
                    rotate_left
                    · (intro w hSw; (try dsimp only at hSw); go_simp; (try with_reducible rfl))
                    simp only [Act.put, List.setIfInBounds_toArray, List.set_cons_zero, List.set_cons_succ]
                    refine wpAnyH_done (by kernel_rfl) ?_ _
                    replace H := Lib.hid (HOS.out.grown (HN0.out ▸ H.out) HLEN.out HROW.out HNE.out)
                    clear HOS
                    go_wp2_with fail
                    go_roundw
                    case rel => exact ⟨i + 1, by omega, by go_num, by rw [HN.out, HIN.out]; exact H.out⟩
                    case measure => simp [intOf]; omega
                  · go_simp
                    change KK _ (WX1.alloc (.cells (Lvl.cells ⟨o.price, o.qty, 1⟩) 94))
                    replace H := Lib.hid (H.out.new (Lvl.cells ⟨o.price, o.qty, 1⟩))
                    generalize WX1.alloc (.cells (Lvl.cells ⟨o.price, o.qty, 1⟩) 94) = WX6 at H ⊢
                    generalize WX1.heap.size = nb1 at H ⊢
                    refine hK.out _ _ (HSS.out _ H.out.bel) (fun hHeld => ?_)
                    clear hK; try clear KK
                    try simp only [Act.put, List.setIfInBounds_toArray, List.set_cons_zero, List.set_cons_succ]
                    refine wpAnyH_ready (rs := [4]) (by kernel_rfl) (by simp) ?_
                    refine AllReadyH.cons (o := ⟨some 96, _, _, _, _, _⟩) rfl (fun KK hK => ?_) AllReadyH.nil
                    refine GA.src H.out (by rfl) _ _ _ (by rfl) i0 (.agg #[.int .i64 0, .int .i64 0, .int .i64 0]) 24 Try.underlying77 hi0 hz0 hz1 hz2 (by rfl) (by decide) (by rfl) _ _ _ _ (by rfl) HTL.out (fun hm => HTS.out _ hm H.out.bel) HT1.out (by unfold maxLen; omega) (by omega) ?_
                    intro g1 cap1 WX7 H'
                    rw [Nat.zero_add, List.nil_append] at H'
                    rw [Nat.zero_add]
                    replace H := Lib.hid H'
                    clear H'
                    refine hK.out _ _ (HSS.out _ H.out.bel) (fun hHeld => ?_)
                    clear hK; try clear KK
                    try simp only [Act.put, List.setIfInBounds_toArray, List.set_cons_zero, List.set_cons_succ]
                    refine wpAnyH_ready (rs := [17]) (by kernel_rfl) (by simp) ?_
                    refine AllReadyH.cons (o := ⟨some 109, _, _, _, _, _⟩) rfl (fun KK hK => ?_) AllReadyH.nil
                    refine GA.app H.out (by rfl) _ _ _ (by rfl) i0 (.agg #[.int .i64 0, .int .i64 0, .int .i64 0]) 24 Try.underlying77 hi0 hz0 hz1 hz2 (by rfl) (by decide) (by rfl) (by rfl) (lvl_size _) (one_mem (one_lvl _)) (by unfold maxLen; omega) (by omega) ?_
                    intro g2 cap2 WX8 H'
                    replace H := Lib.hid H'
                    clear H'
                    refine hK.out _ _ (HSS.out _ H.out.bel) (fun hHeld => ?_)
                    clear hK; try clear KK
                    try simp only [Act.put, List.setIfInBounds_toArray, List.set_cons_zero, List.set_cons_succ]
                    refine wpAnyH_ready (rs := [21]) (by kernel_rfl) (by simp) ?_
                    refine AllReadyH.cons (o := ⟨some 113, _, _, _, _, _⟩) rfl (fun KK hK => ?_) AllReadyH.nil
                    refine GA.src H.out (by rfl) _ _ _ (by rfl) i0 (.agg #[.int .i64 0, .int .i64 0, .int .i64 0]) 24 Try.underlying77 hi0 hz0 hz1 hz2 (by rfl) (by decide) (by rfl) _ _ _ _ (by rfl) HDL.out (fun hm => HDS.out _ hm H.out.bel) HD1.out (by unfold maxLen; omega) (by omega) ?_
                    intro g3 cap3 WX9 H'
                    replace H := Lib.hid H'
                    clear H'
                    refine hK.out _ _ (HSS.out _ H.out.bel) (fun hHeld => ?_)
                    clear hK; try clear KK
                    try simp only [Act.put, List.setIfInBounds_toArray, List.set_cons_zero, List.set_cons_succ]
                    refine wpAnyH_take (i := 22) (oi := ⟨some 3, _, _, _, _, _⟩) (v := ?_) rfl (by kernel_rfl) (by kernel_rfl) (by kernel_rfl) (fun _ _ _ h => h) (Or.inl ⟨by rfl, ?_⟩) (by assumption) ?_
                    rotate_left
                    · (intro w hSw; (try dsimp only at hSw); go_simp; (try with_reducible rfl))
                    simp only [Act.put, List.setIfInBounds_toArray, List.set_cons_zero, List.set_cons_succ]
                    refine wpAnyH_done (by kernel_rfl) ?_ _
                    replace H := Lib.hid (HOS.out.grown (HN0.out ▸ H.out) HLEN.out HROW.out HNE.out)
                    clear HOS
                    go_wp2_with fail
                    go_roundw
                    case rel => exact ⟨i + 1, by omega, by go_num, by rw [HN.out, HIN.out]; exact H.out⟩
                    case measure => simp [intOf]; omega
                · go_simp
                  change KK _ (w3.alloc (.cells (Lvl.cells ⟨o.price, o.qty, 1⟩) 94))
                  replace H := Lib.hid (H.out.new (Lvl.cells ⟨o.price, o.qty, 1⟩))
                  generalize w3.alloc (.cells (Lvl.cells ⟨o.price, o.qty, 1⟩) 94) = WX10 at H ⊢
                  generalize w3.heap.size = nb1 at H ⊢
                  refine hK.out _ _ (HSS.out _ H.out.bel) (fun hHeld => ?_)
                  clear hK; try clear KK
                  try simp only [Act.put, List.setIfInBounds_toArray, List.set_cons_zero, List.set_cons_succ]
                  refine wpAnyH_ready (rs := [0]) (by kernel_rfl) (by simp) ?_
                  refine AllReadyH.cons (o := ⟨some 92, _, _, _, _, _⟩) rfl (fun KK hK => ?_) AllReadyH.nil
                  go_simp
                  change KK _ (WX10.alloc (.cells #[] 94))
                  replace H := Lib.hid H.out.empty
                  generalize WX10.alloc (.cells #[] 94) = WX11 at H ⊢
                  generalize WX10.heap.size = e1 at H ⊢
                  refine hK.out _ _ (HSS.out _ H.out.bel) (fun hHeld => ?_)
                  clear hK; try clear KK
                  try simp only [Act.put, List.setIfInBounds_toArray, List.set_cons_zero, List.set_cons_succ]
                  refine wpAnyH_ready (rs := [4]) (by kernel_rfl) (by simp) ?_
                  refine AllReadyH.cons (o := ⟨some 96, _, _, _, _, _⟩) rfl (fun KK hK => ?_) AllReadyH.nil
                  refine GA.src H.out (by rfl) _ _ _ (by rfl) i0 (.agg #[.int .i64 0, .int .i64 0, .int .i64 0]) 24 Try.underlying77 hi0 hz0 hz1 hz2 (by rfl) (by decide) (by rfl) _ _ _ _ (by rfl) HTL.out (fun hm => HTS.out _ hm H.out.bel) HT1.out (by unfold maxLen; omega) (by omega) ?_
                  intro g1 cap1 WX12 H'
                  rw [Nat.zero_add, List.nil_append] at H'
                  rw [Nat.zero_add]
                  replace H := Lib.hid H'
                  clear H'
                  refine hK.out _ _ (HSS.out _ H.out.bel) (fun hHeld => ?_)
                  clear hK; try clear KK
                  try simp only [Act.put, List.setIfInBounds_toArray, List.set_cons_zero, List.set_cons_succ]
                  refine wpAnyH_ready (rs := [17]) (by kernel_rfl) (by simp) ?_
                  refine AllReadyH.cons (o := ⟨some 109, _, _, _, _, _⟩) rfl (fun KK hK => ?_) AllReadyH.nil
                  refine GA.app H.out (by rfl) _ _ _ (by rfl) i0 (.agg #[.int .i64 0, .int .i64 0, .int .i64 0]) 24 Try.underlying77 hi0 hz0 hz1 hz2 (by rfl) (by decide) (by rfl) (by rfl) (lvl_size _) (one_mem (one_lvl _)) (by unfold maxLen; omega) (by omega) ?_
                  intro g2 cap2 WX13 H'
                  replace H := Lib.hid H'
                  clear H'
                  refine hK.out _ _ (HSS.out _ H.out.bel) (fun hHeld => ?_)
                  clear hK; try clear KK
                  try simp only [Act.put, List.setIfInBounds_toArray, List.set_cons_zero, List.set_cons_succ]
                  refine wpAnyH_ready (rs := [21]) (by kernel_rfl) (by simp) ?_
                  refine AllReadyH.cons (o := ⟨some 113, _, _, _, _, _⟩) rfl (fun KK hK => ?_) AllReadyH.nil
                  refine GA.src H.out (by rfl) _ _ _ (by rfl) i0 (.agg #[.int .i64 0, .int .i64 0, .int .i64 0]) 24 Try.underlying77 hi0 hz0 hz1 hz2 (by rfl) (by decide) (by rfl) _ _ _ _ (by rfl) HDL.out (fun hm => HDS.out _ hm H.out.bel) HD1.out (by unfold maxLen; omega) (by omega) ?_
                  intro g3 cap3 WX14 H'
                  replace H := Lib.hid H'
                  clear H'
                  refine hK.out _ _ (HSS.out _ H.out.bel) (fun hHeld => ?_)
                  clear hK; try clear KK
                  try simp only [Act.put, List.setIfInBounds_toArray, List.set_cons_zero, List.set_cons_succ]
                  refine wpAnyH_take (i := 22) (oi := ⟨some 3, _, _, _, _, _⟩) (v := ?_) rfl (by kernel_rfl) (by kernel_rfl) (by kernel_rfl) (fun _ _ _ h => h) (Or.inl ⟨by rfl, ?_⟩) (by assumption) ?_
                  rotate_left
                  · (intro w hSw; (try dsimp only at hSw); go_simp; (try with_reducible rfl))
                  simp only [Act.put, List.setIfInBounds_toArray, List.set_cons_zero, List.set_cons_succ]
                  refine wpAnyH_done (by kernel_rfl) ?_ _
                  replace H := Lib.hid (HOS.out.grown (HN0.out ▸ H.out) HLEN.out HROW.out HNE.out)
                  clear HOS
                  go_wp2_with fail
                  go_roundw
                  case rel => exact ⟨i + 1, by omega, by go_num, by rw [HN.out, HIN.out]; exact H.out⟩
                  case measure => simp [intOf]; omega
              · have hck' : ¬ ((vc : Int) = (S.length : Int)) := by omega
                replace H := Lib.hid H.out.drew
                go_upto_region 13 with fail
                refine wp_region_held_drew (S := (fun w' => w'.cell? ⟨gl, i * 7 + 3, none⟩ = some (.int .i64 o.price) ∧ w'.cell? ⟨gl, i * 7 + 4, none⟩ = some (.int .i64 o.qty))) (by kernel_rfl) ⟨o3, o4⟩ (fun hHeld => ?_)
                generalize w2.drew = w3 at H hHeld ⊢
                have HOS := Lib.hid H.out
                obtain ⟨n0, hn0⟩ : ∃ n, n = w3.heap.size := ⟨_, rfl⟩
                have HSS := Lib.hid (show ∀ W, Below n0 w3 W → W.cell? ⟨gl, i * 7 + 3, none⟩ = some (.int .i64 o.price) ∧ W.cell? ⟨gl, i * 7 + 4, none⟩ = some (.int .i64 o.qty) from fun W hb => by
                  have hlt : gl < n0 := by rw [hn0]; exact Nat.lt_of_lt_of_le hgl HOS.out.le
                  rw [hb.cell (p := ⟨gl, _, none⟩) hlt, hb.cell (p := ⟨gl, _, none⟩) hlt]; exact hHeld)
                replace H := Lib.hid (show GA n0 94 3 w3 w3 none none from GA.start (Below.refl _ _) (by rw [hn0]; exact Nat.le_refl _))
                have HTL := Lib.hid (show (rowsL (S.take S.length)).length = S.length * 3 by rw [rowsL, flat_size Lvl.cells 3 lvl_size, List.length_take]; first | (rw [Nat.min_eq_left (by omega)]; done) | simp)
                have HDL := Lib.hid (show (rowsL (S.drop S.length)).length = (0) * 3 by rw [rowsL, flat_size Lvl.cells 3 lvl_size, List.length_drop]; try simp)
                have HT1 := Lib.hid (rowsL_one (S.take S.length))
                have HD1 := Lib.hid (rowsL_one (S.drop S.length))
                have HLEN := Lib.hid (show S.length + 1 + (0) = (S.take S.length ++ [(⟨o.price, o.qty, 1⟩ : Lvl)] ++ S.drop S.length).length by simp; try omega)
                have HROW := Lib.hid (show rowsL (S.take S.length) ++ (Lvl.cells ⟨o.price, o.qty, 1⟩).toList ++ rowsL (S.drop S.length) = rowsL (S.take S.length ++ [(⟨o.price, o.qty, 1⟩ : Lvl)] ++ S.drop S.length) by simp [rowsL])
                have HNE := Lib.hid (show S.take S.length ++ [(⟨o.price, o.qty, 1⟩ : Lvl)] ++ S.drop S.length ≠ [] by simp)
                have HN0 := Lib.hid hn0
                clear hn0
                have HTS := Lib.hid (show ∀ W, 0 < S.length → Below n0 w3 W → ∃ ad : Addr, some (⟨g, 0, none⟩ : Addr) = some ad ∧ ∀ j u, (rowsL (S.take S.length))[j]? = some u → W.cell? (ad.add j) = some u from fun W _ hb => ⟨_, rfl, row_take Lvl.cells 3 lvl_size HOS.out.own (HN0.out ▸ hb) S.length⟩)
                have HDS := Lib.hid (show ∀ W, 0 < 0 → Below n0 w3 W → ∃ ad : Addr, some (⟨g, S.length * 3, none⟩ : Addr) = some ad ∧ ∀ j u, (rowsL (S.drop S.length))[j]? = some u → W.cell? (ad.add j) = some u from fun W h => absurd h (by omega))
                refine wpAnyH_take (i := 1) (oi := ⟨some 93, _, _, _, _, _⟩) (v := ?_) rfl (by kernel_rfl) (by kernel_rfl) (by kernel_rfl) (fun _ _ _ h => h) (Or.inl ⟨by rfl, ?_⟩) (by assumption) ?_
                rotate_left
                · (intro w hSw; (try dsimp only at hSw); go_simp; (try with_reducible rfl))
                simp only [Act.put, List.setIfInBounds_toArray, List.set_cons_zero, List.set_cons_succ]
                refine wpAnyH_take (i := 2) (oi := ⟨some 94, _, _, _, _, _⟩) (v := ?_) rfl (by kernel_rfl) (by kernel_rfl) (by kernel_rfl) (fun _ _ _ h => h) (Or.inl ⟨by rfl, ?_⟩) (by assumption) ?_
                rotate_left
                · (intro w hSw; (try dsimp only at hSw); go_simp; (try with_reducible rfl))
                simp only [Act.put, List.setIfInBounds_toArray, List.set_cons_zero, List.set_cons_succ]
                refine wpAnyH_take (i := 3) (oi := ⟨some 95, _, _, _, _, _⟩) (v := ?_) rfl (by kernel_rfl) (by kernel_rfl) (by kernel_rfl) (fun _ _ _ h => h) (Or.inl ⟨by rfl, ?_⟩) (by assumption) ?_
                rotate_left
                · (intro w hSw; (try dsimp only at hSw); go_simp; (try with_reducible rfl))
                simp only [Act.put, List.setIfInBounds_toArray, List.set_cons_zero, List.set_cons_succ]
                refine wpAnyH_take (i := 5) (oi := ⟨some 97, _, _, _, _, _⟩) (v := ?_) rfl (by kernel_rfl) (by kernel_rfl) (by kernel_rfl) (fun _ _ _ h => h) (Or.inl ⟨by rfl, ?_⟩) (by assumption) ?_
                rotate_left
                · (intro w hSw; (try dsimp only at hSw); go_simp; (try with_reducible rfl))
                simp only [Act.put, List.setIfInBounds_toArray, List.set_cons_zero, List.set_cons_succ]
                refine wpAnyH_take (i := 6) (oi := ⟨some 98, _, _, _, _, _⟩) (v := ?_) rfl (by kernel_rfl) (by kernel_rfl) (by kernel_rfl) (fun _ _ _ h => h) (Or.inl ⟨by rfl, ?_⟩) (by assumption) ?_
                rotate_left
                · (intro w hSw; (try dsimp only at hSw); go_simp; (try with_reducible rfl))
                simp only [Act.put, List.setIfInBounds_toArray, List.set_cons_zero, List.set_cons_succ]
                refine wpAnyH_take (i := 7) (oi := ⟨some 99, _, _, _, _, _⟩) (v := ?_) rfl (by kernel_rfl) (by kernel_rfl) (by kernel_rfl) (fun _ _ _ h => h) (Or.inl ⟨by rfl, ?_⟩) (by assumption) ?_
                rotate_left
                · (intro w hSw; (try dsimp only at hSw); go_simp; (try with_reducible rfl))
                simp only [Act.put, List.setIfInBounds_toArray, List.set_cons_zero, List.set_cons_succ]
                refine wpAnyH_take (i := 8) (oi := ⟨some 100, _, _, _, _, _⟩) (v := ?_) rfl (by kernel_rfl) (by kernel_rfl) (by kernel_rfl) (fun _ _ _ h => h) (Or.inl ⟨by rfl, ?_⟩) (by assumption) ?_
                rotate_left
                · (intro w hSw; (try dsimp only at hSw); go_simp; (try with_reducible rfl))
                simp only [Act.put, List.setIfInBounds_toArray, List.set_cons_zero, List.set_cons_succ]
                refine wpAnyH_take (i := 9) (oi := ⟨some 101, _, _, _, _, _⟩) (v := ?_) rfl (by kernel_rfl) (by kernel_rfl) (by kernel_rfl) (fun _ _ _ h => h) (Or.inl ⟨by rfl, ?_⟩) (by assumption) ?_
                rotate_left
                · (intro w hSw; (try dsimp only at hSw); go_simp; (try with_reducible rfl))
                simp only [Act.put, List.setIfInBounds_toArray, List.set_cons_zero, List.set_cons_succ]
                refine wpAnyH_take (i := 10) (oi := ⟨some 102, _, _, _, _, _⟩) (v := ?_) rfl (by kernel_rfl) (by kernel_rfl) (by kernel_rfl) (fun _ _ _ h => h) (Or.inl ⟨by rfl, ?_⟩) (by assumption) ?_
                rotate_left
                · (intro w hSw; (try dsimp only at hSw); go_simp; (try with_reducible rfl))
                simp only [Act.put, List.setIfInBounds_toArray, List.set_cons_zero, List.set_cons_succ]
                refine wpAnyH_take (i := 11) (oi := ⟨some 103, _, _, _, _, _⟩) (v := ?_) rfl (by kernel_rfl) (by kernel_rfl) (by kernel_rfl) (fun _ _ _ h => h) (Or.inl ⟨by rfl, ?_⟩) (by assumption) ?_
                rotate_left
                · (intro w hSw; (try dsimp only at hSw); go_simp; (try with_reducible rfl))
                simp only [Act.put, List.setIfInBounds_toArray, List.set_cons_zero, List.set_cons_succ]
                refine wpAnyH_take (i := 12) (oi := ⟨some 104, _, _, _, _, _⟩) (v := ?_) rfl (by kernel_rfl) (by kernel_rfl) (by kernel_rfl) (fun _ _ _ h => h) (Or.inl ⟨by rfl, ?_⟩) (by assumption) ?_
                rotate_left
                · (intro w hSw; (try dsimp only at hSw); go_simp; (try with_reducible rfl))
                simp only [Act.put, List.setIfInBounds_toArray, List.set_cons_zero, List.set_cons_succ]
                refine wpAnyH_take (i := 13) (oi := ⟨some 105, _, _, _, _, _⟩) (v := ?_) rfl (by kernel_rfl) (by kernel_rfl) (by kernel_rfl) (fun _ _ _ h => h) (Or.inl ⟨by rfl, ?_⟩) (by assumption) ?_
                rotate_left
                · (intro w hSw; (try dsimp only at hSw); go_simp; (try with_reducible rfl))
                simp only [Act.put, List.setIfInBounds_toArray, List.set_cons_zero, List.set_cons_succ]
                refine wpAnyH_take (i := 14) (oi := ⟨some 106, _, _, _, _, _⟩) (v := ?_) rfl (by kernel_rfl) (by kernel_rfl) (by kernel_rfl) (fun _ _ _ h => h) (Or.inl ⟨by rfl, ?_⟩) (by assumption) ?_
                rotate_left
                · (intro w hSw; (try dsimp only at hSw); go_simp; (try with_reducible rfl))
                simp only [Act.put, List.setIfInBounds_toArray, List.set_cons_zero, List.set_cons_succ]
                refine wpAnyH_take (i := 15) (oi := ⟨some 107, _, _, _, _, _⟩) (v := ?_) rfl (by kernel_rfl) (by kernel_rfl) (by kernel_rfl) (fun _ _ _ h => h) (Or.inl ⟨by rfl, ?_⟩) (by assumption) ?_
                rotate_left
                · (intro w hSw; (try dsimp only at hSw); go_simp; (try with_reducible rfl))
                simp only [Act.put, List.setIfInBounds_toArray, List.set_cons_zero, List.set_cons_succ]
                refine wpAnyH_take (i := 18) (oi := ⟨some 110, _, _, _, _, _⟩) (v := ?_) rfl (by kernel_rfl) (by kernel_rfl) (by kernel_rfl) (fun _ _ _ h => h) (Or.inl ⟨by rfl, ?_⟩) (by assumption) ?_
                rotate_left
                · (intro w hSw; (try dsimp only at hSw); go_simp; (try with_reducible rfl))
                simp only [Act.put, List.setIfInBounds_toArray, List.set_cons_zero, List.set_cons_succ]
                refine wpAnyH_take (i := 19) (oi := ⟨some 111, _, _, _, _, _⟩) (v := ?_) rfl (by kernel_rfl) (by kernel_rfl) (by kernel_rfl) (fun _ _ _ h => h) (Or.inl ⟨by rfl, ?_⟩) (by assumption) ?_
                rotate_left
                · (intro w hSw; (try dsimp only at hSw); go_simp; (try with_reducible rfl))
                simp only [Act.put, List.setIfInBounds_toArray, List.set_cons_zero, List.set_cons_succ]
                refine wpAnyH_take (i := 20) (oi := ⟨some 112, _, _, _, _, _⟩) (v := ?_) rfl (by kernel_rfl) (by kernel_rfl) (by kernel_rfl) (fun _ _ _ h => h) (Or.inl ⟨by rfl, ?_⟩) (by assumption) ?_
                rotate_left
                · (intro w hSw; (try dsimp only at hSw); go_simp; (try with_reducible rfl))
                simp only [Act.put, List.setIfInBounds_toArray, List.set_cons_zero, List.set_cons_succ]
                refine wpAnyH_ready (rs := [0, 16]) (by kernel_rfl) (by simp) ?_
                refine AllReadyH.cons (o := ⟨some 92, _, _, _, _, _⟩) rfl (fun KK hK => ?_) (AllReadyH.cons (o := ⟨some 108, _, _, _, _, _⟩) rfl (fun KK hK => ?_) (AllReadyH.nil))
                · go_simp
                  change KK _ (w3.alloc (.cells #[] 94))
                  replace H := Lib.hid H.out.empty
                  generalize w3.alloc (.cells #[] 94) = WX1 at H ⊢
                  generalize w3.heap.size = e1 at H ⊢
                  refine hK.out _ _ (HSS.out _ H.out.bel) (fun hHeld => ?_)
                  clear hK; try clear KK
                  try simp only [Act.put, List.setIfInBounds_toArray, List.set_cons_zero, List.set_cons_succ]
                  refine wpAnyH_ready (rs := [4, 16]) (by kernel_rfl) (by simp) ?_
                  refine AllReadyH.cons (o := ⟨some 96, _, _, _, _, _⟩) rfl (fun KK hK => ?_) (AllReadyH.cons (o := ⟨some 108, _, _, _, _, _⟩) rfl (fun KK hK => ?_) (AllReadyH.nil))
                  · refine GA.src H.out (by rfl) _ _ _ (by rfl) i0 (.agg #[.int .i64 0, .int .i64 0, .int .i64 0]) 24 Try.underlying77 hi0 hz0 hz1 hz2 (by rfl) (by decide) (by rfl) _ _ _ _ (by rfl) HTL.out (fun hm => HTS.out _ hm H.out.bel) HT1.out (by unfold maxLen; omega) (by omega) ?_
                    intro g1 cap1 WX2 H'
                    rw [Nat.zero_add, List.nil_append] at H'
                    rw [Nat.zero_add]
                    replace H := Lib.hid H'
                    clear H'
                    refine hK.out _ _ (HSS.out _ H.out.bel) (fun hHeld => ?_)
                    clear hK; try clear KK
                    try simp only [Act.put, List.setIfInBounds_toArray, List.set_cons_zero, List.set_cons_succ]
                    refine wpAnyH_ready (rs := [16]) (by kernel_rfl) (by simp) ?_
                    refine AllReadyH.cons (o := ⟨some 108, _, _, _, _, _⟩) rfl (fun KK hK => ?_) AllReadyH.nil
                    go_simp
                    change KK _ (WX2.alloc (.cells (Lvl.cells ⟨o.price, o.qty, 1⟩) 94))
                    replace H := Lib.hid (H.out.new (Lvl.cells ⟨o.price, o.qty, 1⟩))
                    generalize WX2.alloc (.cells (Lvl.cells ⟨o.price, o.qty, 1⟩) 94) = WX3 at H ⊢
                    generalize WX2.heap.size = nb1 at H ⊢
                    refine hK.out _ _ (HSS.out _ H.out.bel) (fun hHeld => ?_)
                    clear hK; try clear KK
                    try simp only [Act.put, List.setIfInBounds_toArray, List.set_cons_zero, List.set_cons_succ]
                    refine wpAnyH_ready (rs := [17]) (by kernel_rfl) (by simp) ?_
                    refine AllReadyH.cons (o := ⟨some 109, _, _, _, _, _⟩) rfl (fun KK hK => ?_) AllReadyH.nil
                    refine GA.app H.out (by rfl) _ _ _ (by rfl) i0 (.agg #[.int .i64 0, .int .i64 0, .int .i64 0]) 24 Try.underlying77 hi0 hz0 hz1 hz2 (by rfl) (by decide) (by rfl) (by rfl) (lvl_size _) (one_mem (one_lvl _)) (by unfold maxLen; omega) (by omega) ?_
                    intro g2 cap2 WX4 H'
                    replace H := Lib.hid H'
                    clear H'
                    refine hK.out _ _ (HSS.out _ H.out.bel) (fun hHeld => ?_)
                    clear hK; try clear KK
                    try simp only [Act.put, List.setIfInBounds_toArray, List.set_cons_zero, List.set_cons_succ]
                    refine wpAnyH_ready (rs := [21]) (by kernel_rfl) (by simp) ?_
                    refine AllReadyH.cons (o := ⟨some 113, _, _, _, _, _⟩) rfl (fun KK hK => ?_) AllReadyH.nil
                    refine GA.src H.out (by rfl) _ _ _ (by rfl) i0 (.agg #[.int .i64 0, .int .i64 0, .int .i64 0]) 24 Try.underlying77 hi0 hz0 hz1 hz2 (by rfl) (by decide) (by rfl) _ _ _ _ (by rfl) HDL.out (fun hm => HDS.out _ hm H.out.bel) HD1.out (by unfold maxLen; omega) (by omega) ?_
                    intro g3 cap3 WX5 H'
                    replace H := Lib.hid H'
                    clear H'
                    refine hK.out _ _ (HSS.out _ H.out.bel) (fun hHeld => ?_)
                    clear hK; try clear KK
                    try simp only [Act.put, List.setIfInBounds_toArray, List.set_cons_zero, List.set_cons_succ]
                    refine wpAnyH_take (i := 22) (oi := ⟨some 3, _, _, _, _, _⟩) (v := ?_) rfl (by kernel_rfl) (by kernel_rfl) (by kernel_rfl) (fun _ _ _ h => h) (Or.inl ⟨by rfl, ?_⟩) (by assumption) ?_
                    rotate_left
                    · (intro w hSw; (try dsimp only at hSw); go_simp; (try with_reducible rfl))
                    simp only [Act.put, List.setIfInBounds_toArray, List.set_cons_zero, List.set_cons_succ]
                    refine wpAnyH_done (by kernel_rfl) ?_ _
                    replace H := Lib.hid (HOS.out.grown (HN0.out ▸ H.out) HLEN.out HROW.out HNE.out)
                    clear HOS
                    go_wp2_with fail
                    go_roundw
                    case rel => exact ⟨i + 1, by omega, by go_num, by rw [HN.out, HIN.out]; exact H.out⟩
                    case measure => simp [intOf]; omega
                  · go_simp
                    change KK _ (WX1.alloc (.cells (Lvl.cells ⟨o.price, o.qty, 1⟩) 94))
                    replace H := Lib.hid (H.out.new (Lvl.cells ⟨o.price, o.qty, 1⟩))
                    generalize WX1.alloc (.cells (Lvl.cells ⟨o.price, o.qty, 1⟩) 94) = WX6 at H ⊢
                    generalize WX1.heap.size = nb1 at H ⊢
                    refine hK.out _ _ (HSS.out _ H.out.bel) (fun hHeld => ?_)
                    clear hK; try clear KK
                    try simp only [Act.put, List.setIfInBounds_toArray, List.set_cons_zero, List.set_cons_succ]
                    refine wpAnyH_ready (rs := [4]) (by kernel_rfl) (by simp) ?_
                    refine AllReadyH.cons (o := ⟨some 96, _, _, _, _, _⟩) rfl (fun KK hK => ?_) AllReadyH.nil
                    refine GA.src H.out (by rfl) _ _ _ (by rfl) i0 (.agg #[.int .i64 0, .int .i64 0, .int .i64 0]) 24 Try.underlying77 hi0 hz0 hz1 hz2 (by rfl) (by decide) (by rfl) _ _ _ _ (by rfl) HTL.out (fun hm => HTS.out _ hm H.out.bel) HT1.out (by unfold maxLen; omega) (by omega) ?_
                    intro g1 cap1 WX7 H'
                    rw [Nat.zero_add, List.nil_append] at H'
                    rw [Nat.zero_add]
                    replace H := Lib.hid H'
                    clear H'
                    refine hK.out _ _ (HSS.out _ H.out.bel) (fun hHeld => ?_)
                    clear hK; try clear KK
                    try simp only [Act.put, List.setIfInBounds_toArray, List.set_cons_zero, List.set_cons_succ]
                    refine wpAnyH_ready (rs := [17]) (by kernel_rfl) (by simp) ?_
                    refine AllReadyH.cons (o := ⟨some 109, _, _, _, _, _⟩) rfl (fun KK hK => ?_) AllReadyH.nil
                    refine GA.app H.out (by rfl) _ _ _ (by rfl) i0 (.agg #[.int .i64 0, .int .i64 0, .int .i64 0]) 24 Try.underlying77 hi0 hz0 hz1 hz2 (by rfl) (by decide) (by rfl) (by rfl) (lvl_size _) (one_mem (one_lvl _)) (by unfold maxLen; omega) (by omega) ?_
                    intro g2 cap2 WX8 H'
                    replace H := Lib.hid H'
                    clear H'
                    refine hK.out _ _ (HSS.out _ H.out.bel) (fun hHeld => ?_)
                    clear hK; try clear KK
                    try simp only [Act.put, List.setIfInBounds_toArray, List.set_cons_zero, List.set_cons_succ]
                    refine wpAnyH_ready (rs := [21]) (by kernel_rfl) (by simp) ?_
                    refine AllReadyH.cons (o := ⟨some 113, _, _, _, _, _⟩) rfl (fun KK hK => ?_) AllReadyH.nil
                    refine GA.src H.out (by rfl) _ _ _ (by rfl) i0 (.agg #[.int .i64 0, .int .i64 0, .int .i64 0]) 24 Try.underlying77 hi0 hz0 hz1 hz2 (by rfl) (by decide) (by rfl) _ _ _ _ (by rfl) HDL.out (fun hm => HDS.out _ hm H.out.bel) HD1.out (by unfold maxLen; omega) (by omega) ?_
                    intro g3 cap3 WX9 H'
                    replace H := Lib.hid H'
                    clear H'
                    refine hK.out _ _ (HSS.out _ H.out.bel) (fun hHeld => ?_)
                    clear hK; try clear KK
                    try simp only [Act.put, List.setIfInBounds_toArray, List.set_cons_zero, List.set_cons_succ]
                    refine wpAnyH_take (i := 22) (oi := ⟨some 3, _, _, _, _, _⟩) (v := ?_) rfl (by kernel_rfl) (by kernel_rfl) (by kernel_rfl) (fun _ _ _ h => h) (Or.inl ⟨by rfl, ?_⟩) (by assumption) ?_
                    rotate_left
                    · (intro w hSw; (try dsimp only at hSw); go_simp; (try with_reducible rfl))
                    simp only [Act.put, List.setIfInBounds_toArray, List.set_cons_zero, List.set_cons_succ]
                    refine wpAnyH_done (by kernel_rfl) ?_ _
                    replace H := Lib.hid (HOS.out.grown (HN0.out ▸ H.out) HLEN.out HROW.out HNE.out)
                    clear HOS
                    go_wp2_with fail
                    go_roundw
                    case rel => exact ⟨i + 1, by omega, by go_num, by rw [HN.out, HIN.out]; exact H.out⟩
                    case measure => simp [intOf]; omega
                · go_simp
                  change KK _ (w3.alloc (.cells (Lvl.cells ⟨o.price, o.qty, 1⟩) 94))
                  replace H := Lib.hid (H.out.new (Lvl.cells ⟨o.price, o.qty, 1⟩))
                  generalize w3.alloc (.cells (Lvl.cells ⟨o.price, o.qty, 1⟩) 94) = WX10 at H ⊢
                  generalize w3.heap.size = nb1 at H ⊢
                  refine hK.out _ _ (HSS.out _ H.out.bel) (fun hHeld => ?_)
                  clear hK; try clear KK
                  try simp only [Act.put, List.setIfInBounds_toArray, List.set_cons_zero, List.set_cons_succ]
                  refine wpAnyH_ready (rs := [0]) (by kernel_rfl) (by simp) ?_
                  refine AllReadyH.cons (o := ⟨some 92, _, _, _, _, _⟩) rfl (fun KK hK => ?_) AllReadyH.nil
                  go_simp
                  change KK _ (WX10.alloc (.cells #[] 94))
                  replace H := Lib.hid H.out.empty
                  generalize WX10.alloc (.cells #[] 94) = WX11 at H ⊢
                  generalize WX10.heap.size = e1 at H ⊢
                  refine hK.out _ _ (HSS.out _ H.out.bel) (fun hHeld => ?_)
                  clear hK; try clear KK
                  try simp only [Act.put, List.setIfInBounds_toArray, List.set_cons_zero, List.set_cons_succ]
                  refine wpAnyH_ready (rs := [4]) (by kernel_rfl) (by simp) ?_
                  refine AllReadyH.cons (o := ⟨some 96, _, _, _, _, _⟩) rfl (fun KK hK => ?_) AllReadyH.nil
                  refine GA.src H.out (by rfl) _ _ _ (by rfl) i0 (.agg #[.int .i64 0, .int .i64 0, .int .i64 0]) 24 Try.underlying77 hi0 hz0 hz1 hz2 (by rfl) (by decide) (by rfl) _ _ _ _ (by rfl) HTL.out (fun hm => HTS.out _ hm H.out.bel) HT1.out (by unfold maxLen; omega) (by omega) ?_
                  intro g1 cap1 WX12 H'
                  rw [Nat.zero_add, List.nil_append] at H'
                  rw [Nat.zero_add]
                  replace H := Lib.hid H'
                  clear H'
                  refine hK.out _ _ (HSS.out _ H.out.bel) (fun hHeld => ?_)
                  clear hK; try clear KK
                  try simp only [Act.put, List.setIfInBounds_toArray, List.set_cons_zero, List.set_cons_succ]
                  refine wpAnyH_ready (rs := [17]) (by kernel_rfl) (by simp) ?_
                  refine AllReadyH.cons (o := ⟨some 109, _, _, _, _, _⟩) rfl (fun KK hK => ?_) AllReadyH.nil
                  refine GA.app H.out (by rfl) _ _ _ (by rfl) i0 (.agg #[.int .i64 0, .int .i64 0, .int .i64 0]) 24 Try.underlying77 hi0 hz0 hz1 hz2 (by rfl) (by decide) (by rfl) (by rfl) (lvl_size _) (one_mem (one_lvl _)) (by unfold maxLen; omega) (by omega) ?_
                  intro g2 cap2 WX13 H'
                  replace H := Lib.hid H'
                  clear H'
                  refine hK.out _ _ (HSS.out _ H.out.bel) (fun hHeld => ?_)
                  clear hK; try clear KK
                  try simp only [Act.put, List.setIfInBounds_toArray, List.set_cons_zero, List.set_cons_succ]
                  refine wpAnyH_ready (rs := [21]) (by kernel_rfl) (by simp) ?_
                  refine AllReadyH.cons (o := ⟨some 113, _, _, _, _, _⟩) rfl (fun KK hK => ?_) AllReadyH.nil
                  refine GA.src H.out (by rfl) _ _ _ (by rfl) i0 (.agg #[.int .i64 0, .int .i64 0, .int .i64 0]) 24 Try.underlying77 hi0 hz0 hz1 hz2 (by rfl) (by decide) (by rfl) _ _ _ _ (by rfl) HDL.out (fun hm => HDS.out _ hm H.out.bel) HD1.out (by unfold maxLen; omega) (by omega) ?_
                  intro g3 cap3 WX14 H'
                  replace H := Lib.hid H'
                  clear H'
                  refine hK.out _ _ (HSS.out _ H.out.bel) (fun hHeld => ?_)
                  clear hK; try clear KK
                  try simp only [Act.put, List.setIfInBounds_toArray, List.set_cons_zero, List.set_cons_succ]
                  refine wpAnyH_take (i := 22) (oi := ⟨some 3, _, _, _, _, _⟩) (v := ?_) rfl (by kernel_rfl) (by kernel_rfl) (by kernel_rfl) (fun _ _ _ h => h) (Or.inl ⟨by rfl, ?_⟩) (by assumption) ?_
                  rotate_left
                  · (intro w hSw; (try dsimp only at hSw); go_simp; (try with_reducible rfl))
                  simp only [Act.put, List.setIfInBounds_toArray, List.set_cons_zero, List.set_cons_succ]
                  refine wpAnyH_done (by kernel_rfl) ?_ _
                  replace H := Lib.hid (HOS.out.grown (HN0.out ▸ H.out) HLEN.out HROW.out HNE.out)
                  clear HOS
                  go_wp2_with fail
                  go_roundw
                  case rel => exact ⟨i + 1, by omega, by go_num, by rw [HN.out, HIN.out]; exact H.out⟩
                  case measure => simp [intOf]; omega
    · obtain rfl : i = l.length := by omega
      rw [List.take_length] at hos
      have H := Lib.hid hos
      clear hos
      go_wp2_with fail
      go_ret
      exact ⟨_, rfl, H.out⟩
end Go.Proofs.Ytogjgpiddjmpiaa.Depth
