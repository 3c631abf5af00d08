/- Parts of the proof: DecW, DecB, RPart, RRd05, RDec05. -/
import Derived.Test.YtmkcooamgojbpaaDoorPart25
import Derived.Deep.QuietTactic
import Derived.BigQuiet
import Derived.Deep.DeepCutAuto
import Derived.Deep.CutBlock
import Derived.Test.YtmkcooamgojbpaaDoorPart13
import Derived.Test.YtmkcooamgojbpaaDoorPart5
import Derived.Test.YtmkcooamgojbpaaDoorPart9
import Derived.IntWalk
import Derived.StillTailTactics
import Derived.Deep.RegionHeld3
import Derived.Deep.DrawnRows

/- command.Decode: the walk. -/
namespace Go.Proofs.YtmkcooamgojbpaaDoor.Cmds
open Go.RowKit Go.Proofs.YtmkcooamgojbpaaDoor.Kit Go.Proofs.YtmkcooamgojbpaaDoor.Blk Go.Proofs.YtmkcooamgojbpaaDoor.Octets
attribute [local go_sem ↓] Go.wp_at_zero Go.wp_at_succ
set_option linter.unusedVariables false

def zero9 : Array Value := #[.int .i64 0, .int .i64 0, .int .i64 0, .int .i64 0, .int .i64 0, .int .i64 0, .int .i64 0, .int .i64 0, .int .i64 0]
theorem dcs_start {w w1 : World} {P : Nat} {l : List Nat} (h1 : w.heap.size + 1 ≤ P) (h2 : RdS (w.heap.size + 1) P (.inr l) w1) (h3 : Below (w.heap.size + 1) (w.alloc (.cells zero9 164)) w1) :
    DcS w (w1.alloc (.cells #[.pointer (some ⟨P, 0, none⟩)] 204)) (w.heap.size + 1) w.heap.size w1.heap.size P zero9 (.inr l) := by
  have hc : Blk w1 w.heap.size zero9 164 := (Blk.new w zero9 164 w.heap.size rfl).below h3 (by omega)
  have hb : Below w.heap.size w w1 := ((Below.refl w.heap.size w).alloc (Nat.le_refl _) _).trans (h3.mono (by omega))
  exact ⟨hc.old _, Blk.new _ _ _ _ rfl, h2.below h2.lt ((Below.refl _ _).alloc (Nat.le_refl _) _), hb.alloc hb.size _, Nat.le_refl _, by omega, h1, h2.lt⟩
theorem one_cm (c : Cmd) : c.cells.all (·.oneCell') = true := by simp [Cmd.cells, Value.oneCell']
theorem dec_two (s : Nat) (st1 : Int ⊕ List Nat) (l : List Nat) (i : Nat) (st2 : Int ⊕ List Nat) (h1 : one2 (.inr l) = (s, st1)) (h2 : num2 st1 = (i, st2)) :
    decF (2 :: l) = onR st2 (fun rest => endR 2 s i ⟨0, 0, 0, 0⟩ (0, 0) rest) := by
  have e : decF (2 :: l) = onR (.inr l) (fun l => Rd.bind (byteR l) fun s l => Rd.bind (numR 0 0 l) fun i l => Rd.bind (partN 2 l) fun x l => Rd.bind (partP 2 l) fun y l => endR 2 s i x y l) := rfl
  rw [e, on_one, h1]
  dsimp only
  rw [on_num, h2]
  dsimp only
  congr 1
theorem dec_three (s : Nat) (st1 : Int ⊕ List Nat) (l : List Nat) (i : Nat) (st2 st3 st4 : Int ⊕ List Nat) (p q : Int) (h1 : one2 (.inr l) = (s, st1)) (h2 : num2 st1 = (i, st2)) (h3 : int2 st2 = (p, st3)) (h4 : int2 st3 = (q, st4)) :
    decF (3 :: l) = onR st4 (fun rest => endR 3 s i ⟨0, 0, 0, 0⟩ (p, q) rest) := by
  have e : decF (3 :: l) = onR (.inr l) (fun l => Rd.bind (byteR l) fun s l => Rd.bind (numR 0 0 l) fun i l => Rd.bind (partN 3 l) fun x l => Rd.bind (partP 3 l) fun y l => endR 3 s i x y l) := rfl
  rw [e, on_one, h1]
  dsimp only
  rw [on_num, h2]
  dsimp only
  have e2 : (fun l => Rd.bind (partN 3 l) fun x l => Rd.bind (partP 3 l) fun y l => endR 3 s i x y l) = fun l => Rd.bind (pqR l) fun y l => endR 3 s i ⟨0, 0, 0, 0⟩ y l := rfl
  rw [e2, on_pq]
  dsimp only
  rw [h3]
  dsimp only
  rw [h4]
theorem dec_one (s : Nat) (st1 : Int ⊕ List Nat) (l : List Nat) (i a b t f : Nat) (st2 st3 st4 st5 st6 st7 st8 : Int ⊕ List Nat) (p q : Int) (h1 : one2 (.inr l) = (s, st1)) (h2 : num2 st1 = (i, st2)) (h3 : num2 st2 = (a, st3)) (h4 : one2 st3 = (b, st4)) (h5 : one2 st4 = (t, st5)) (h6 : one2 st5 = (f, st6)) (h7 : int2 st6 = (p, st7)) (h8 : int2 st7 = (q, st8)) :
    decF (1 :: l) = onR st8 (fun rest => endR 1 s i ⟨a, b, t, f⟩ (p, q) rest) := by
  have e : decF (1 :: l) = onR (.inr l) (fun l => Rd.bind (byteR l) fun s l => Rd.bind (numR 0 0 l) fun i l => Rd.bind (partN 1 l) fun x l => Rd.bind (partP 1 l) fun y l => endR 1 s i x y l) := rfl
  rw [e, on_one, h1]
  dsimp only
  rw [on_num, h2]
  dsimp only
  have e2 : (fun l => Rd.bind (partN 1 l) fun x l => Rd.bind (partP 1 l) fun y l => endR 1 s i x y l) = fun l => Rd.bind (newR l) fun x l => Rd.bind (pqR l) fun y l => endR 1 s i x y l := rfl
  rw [e2, on_new]
  dsimp only
  rw [h3]
  dsimp only
  rw [h4]
  dsimp only
  rw [h5]
  dsimp only
  rw [h6]
  dsimp only
  rw [on_pq]
  dsimp only
  rw [h7]
  dsimp only
  rw [h8]
/-- What the end gives, the numbers cut. -/
theorem end_cut (k s i : Nat) (x : NewP) (y : Int × Int) (hk : k = 1 ∨ x.a = 0) (rest : List Nat) :
    decV (endR k s i x y rest) = if 0 < rest.length ∨ rightC (mkC k s (min i 4611686018427387905) { x with a := min x.a 1073741825 } y) = false then (zeroC, 4) else (mkC k s (min i 4611686018427387905) { x with a := min x.a 1073741825 } y, 0) := by
  unfold endR
  by_cases h1 : 4611686018427387904 < i
  · have hr : rightC (mkC k s (min i 4611686018427387905) { x with a := min x.a 1073741825 } y) = false := by
      cases h : rightC (mkC k s (min i 4611686018427387905) { x with a := min x.a 1073741825 } y) with
      | false => rfl
      | true =>
        have := (right_in h).2.2.1.2
        simp only [mkC] at this
        omega
    rw [if_pos (.inl h1), if_pos (.inr hr)]; rfl
  by_cases h2 : 1073741824 < x.a
  · have hr : rightC (mkC k s (min i 4611686018427387905) { x with a := min x.a 1073741825 } y) = false := by
      cases h : rightC (mkC k s (min i 4611686018427387905) { x with a := min x.a 1073741825 } y) with
      | false => rfl
      | true =>
        have hk1 : k = 1 := by omega
        have := ((right_in h).2.2.2 (by simp only [mkC]; omega)).1.2
        simp only [mkC] at this
        omega
    rw [if_pos (.inr (.inl h2)), if_pos (.inr hr)]; rfl
  · have e1 : min i 4611686018427387905 = i := by omega
    have e2 : min x.a 1073741825 = x.a := by omega
    rw [e1, e2]
    by_cases h3 : rest = []
    · subst h3
      by_cases h4 : rightC (mkC k s i x y) = false
      · rw [if_pos (.inr (.inr (.inr h4))), if_pos (.inr h4)]; rfl
      · rw [if_neg (by simp_all), if_neg (by simp_all)]; rfl
    · rw [if_pos (.inr (.inr (.inl h3))), if_pos (.inl (List.length_pos_iff.2 h3))]; rfl
theorem end_cut' (k s i : Nat) (x : NewP) (y : Int × Int) (hk : k = 1 ∨ x.a = 0) (rest : List Nat) :
    decV (endR k s i x y rest) = if 0 < rest.length ∨ rightC ⟨k, s, min (i : Int) 4611686018427387905, min (x.a : Int) 1073741825, x.b, x.t, y.1, y.2, x.f⟩ = false then (zeroC, 4) else (⟨k, s, min (i : Int) 4611686018427387905, min (x.a : Int) 1073741825, x.b, x.t, y.1, y.2, x.f⟩, 0) := by
  have h := end_cut k s i x y hk rest
  have e1 : ((min i 4611686018427387905 : Nat) : Int) = min (i : Int) 4611686018427387905 := by omega
  have e2 : ((min x.a 1073741825 : Nat) : Int) = min (x.a : Int) 1073741825 := by omega
  unfold mkC at h
  rw [e1] at h
  dsimp only at h
  rw [e2] at h
  exact h
set_option maxRecDepth 20000 in
set_option maxHeartbeats 4000000 in
theorem decode_two (M : Nat) (l : List Nat) (hl : (2 :: l).length ≤ 100000) (hby : ∀ b ∈ (2 :: l), b < 256) (v : Value) (w : World) (h : AtB 0 M (2 :: l) v w) (hM : M ≤ w.heap.size) :
    Calls Tryd.prog 111 #[v] w (DecIs (2 :: l) w) := by
  have HN := Lib.hid (newReader_any M _ hl hby v (w.alloc (.cells zero9 164)) (h.below hM ((Below.refl _ _).alloc (Nat.le_refl _) _)) (by simp; omega))
  clear h hby
  go_enter Tryd.func111, Tryd.ntmps111
  go_wp2_with fail
  refine HN.out.mono ?_
  rintro e w1 ⟨P, rfl, h1, h2, h3⟩
  simp at h1 h2 h3
  have H := Lib.hid (dcs_start h1 h2 h3)
  clear h1 h2 h3 HN
  go_wp2_with fail
  generalize w1.alloc (.cells #[.pointer (some ⟨P, 0, none⟩)] 204) = w2 at H ⊢
  generalize w1.heap.size = B at H ⊢
  generalize hN : w.heap.size + 1 = N at H
  generalize hC : w.heap.size = C at H ⊢
  have c0 := H.out.cell
  go_quiet (fail)
  replace H := Lib.hid (H.out.drewN nq)
  clear c0
  generalize w2.drewN nq = w3 at H ⊢
  have c0 := H.out.cell
  have nBC : ¬ B = C := by have := H.out.CN; have := H.out.NP; have := H.out.PB; omega
  have nCB : ¬ C = B := fun e => nBC e.symm
  go_wp2_with fail
  refine (one_eq H.out ((one_cons 2 l))).mono ?_
  rintro e w4 ⟨rfl, h2⟩
  replace H := Lib.hid h2
  clear h2 c0
  have c0 := H.out.cell
  have f0 := H.out.c.free 0
  have k0 : w4.cell? ⟨C, 0, none⟩ = some (.int .i64 0) := H.out.c.cell 0 rfl
  go_wp2_with fail
  replace H := Lib.hid (H.out.store 0 (.int .i64 2))
  generalize w4.setCell ⟨C, 0, none⟩ (.int .i64 2) = w5 at H ⊢
  clear c0
  have c0 := H.out.cell
  clear f0 k0
  have k0 : w5.cell? ⟨C, 0, none⟩ = some (.int .i64 2) := H.out.c.cell 0 rfl
  go_wp2_with fail
  refine (fault_any N P _ _ H.out.r).mono ?_
  rintro e w' ⟨rfl, rfl⟩
  unfold faultR
  dsimp only
  generalize h1 : one2 (.inr l) = r1
  obtain ⟨s, st1⟩ := r1
  generalize h2 : num2 st1 = r2
  obtain ⟨i, st2⟩ := r2
  have HD := Lib.hid (dec_two s st1 l i st2 h1 h2)
  go_wp2_with fail
  refine (one_eq H.out (h1)).mono ?_
  rintro e w6 ⟨rfl, h2⟩
  replace H := Lib.hid h2
  clear h2 c0
  have c0 := H.out.cell
  have f1 := H.out.c.free 1
  have k1 : w6.cell? ⟨C, 1, none⟩ = some (.int .i64 0) := H.out.c.cell 1 rfl
  go_wp2_with fail
  replace H := Lib.hid (H.out.store 1 (.int .i64 (s : Int)))
  generalize w6.setCell ⟨C, 1, none⟩ (.int .i64 (s : Int)) = w7 at H ⊢
  clear c0
  have c0 := H.out.cell
  clear f1 k1 k0
  go_wp2_with fail
  refine (num_eq H.out (h2)).mono ?_
  rintro e w8 ⟨rfl, h2⟩
  replace H := Lib.hid h2
  clear h2 c0
  have c0 := H.out.cell
  have k0 : w8.cell? ⟨C, 0, none⟩ = some (.int .i64 2) := H.out.c.cell 0 rfl
  go_wp2_with fail
  refine (fault_any N P _ _ H.out.r).mono ?_
  rintro e w' ⟨rfl, rfl⟩
  cases st2 with
  | inl f =>
    have hf : (f != 0) = true := by have := H.out.r.1; simpa using this
    have HV := Lib.hid (show decV (decF (2 :: l)) = (zeroC, f) by rw [HD.out]; rfl)
    clear HD
    unfold faultR
    dsimp only
    go_wp2_with (refine store_blk (by rfl) 164 _ _ (by rfl) C (by rfl) _ zero9 164 H.out.c (by rfl) rfl (by kernel_rfl) (one_cm zeroC) ?_)
    refine bodyPost_ret (results_blk_tmp (cs := zero9) rfl rfl (H.out.c.setCells zero9 rfl) Tryd.underlying164 rfl (by kernel_rfl)) rfl ⟨by rw [HV.out]; rfl, Below.setCells _ _ _ H.out.bel H.out.geC⟩
  | inr rest =>
    have HV := Lib.hid (show decV (decF (2 :: l)) = if 0 < rest.length ∨ rightC (Cmd.mk 2 (s : Int) (min (i : Int) 4611686018427387905) (min 0 1073741825) 0 0 0 0 0) = false then (zeroC, 4) else ((Cmd.mk 2 (s : Int) (min (i : Int) 4611686018427387905) (min 0 1073741825) 0 0 0 0 0), 0) by rw [HD.out]; exact end_cut' _ _ _ _ _ (by first | exact .inl rfl | exact .inr rfl) rest)
    clear HD
    unfold faultR
    dsimp only
    have c2 : w8.cell? ⟨C, 2, none⟩ = some (.int .i64 0) := H.out.c.cell 2 rfl
    have c3 : w8.cell? ⟨C, 3, none⟩ = some (.int .i64 0) := H.out.c.cell 3 rfl
    have f2 := H.out.c.free 2
    have f3 := H.out.c.free 3
    have H2 := Lib.hid ((H.out.store 2 (.int .i64 (min (i : Int) 4611686018427387905))).store 3 (.int .i64 (min 0 1073741825)))
    go_upto_region 18 with fail
    generalize (w8.setCell ⟨C, 2, none⟩ (.int .i64 (min (i : Int) 4611686018427387905))).setCell ⟨C, 3, none⟩ (.int .i64 (min 0 1073741825)) = w9 at H2 ⊢
    clear c0 c2 c3 f2 f3 k0 H
    have c0 := H2.out.cell
    have HC := Lib.hid (show Blk w9 C (Cmd.cells (Cmd.mk 2 (s : Int) (min (i : Int) 4611686018427387905) (min 0 1073741825) 0 0 0 0 0)) 164 from H2.out.c)
    go_wp2_with fail
    refine (left_any N P rest w9 H2.out.r).mono ?_
    rintro e w' ⟨rfl, rfl⟩
    by_cases hrest : 0 < rest.length
    · have hr : (0 : Int) < (rest.length : Int) := by omega
      rw [if_pos (.inl hrest)] at HV
      go_wp2_with (refine store_blk (by rfl) 164 _ _ (by rfl) C (by rfl) _ zero9 164 HC.out (by rfl) rfl (by kernel_rfl) (one_cm zeroC) ?_)
      refine bodyPost_ret (results_blk_tmp (cs := zero9) rfl rfl (HC.out.setCells zero9 rfl) Tryd.underlying164 rfl (by kernel_rfl)) rfl ⟨by rw [HV.out]; rfl, Below.setCells _ _ _ H2.out.bel H2.out.geC⟩
    have hr : ¬ (0 : Int) < (rest.length : Int) := by omega
    have e0 := HC.out.cell 0 rfl
    have e1 := HC.out.cell 1 rfl
    have e2 := HC.out.cell 2 rfl
    have e3 := HC.out.cell 3 rfl
    have e4 := HC.out.cell 4 rfl
    have e5 := HC.out.cell 5 rfl
    have e6 := HC.out.cell 6 rfl
    have e7 := HC.out.cell 7 rfl
    have e8 := HC.out.cell 8 rfl
    simp only [Cmd.cells, List.getElem_toArray, List.getElem_cons_zero, List.getElem_cons_succ] at e0 e1 e2 e3 e4 e5 e6 e7 e8
    go_wp2_with fail
    clear e0 e1 e2 e3 e4 e5 e6 e7 e8
    refine (right_any (Cmd.mk 2 (s : Int) (min (i : Int) 4611686018427387905) (min 0 1073741825) 0 0 0 0 0) w9).mono ?_
    rintro e w10 ⟨rfl, hb10⟩
    replace HC := Lib.hid (HC.out.below hb10 HC.out.lt)
    have HB := Lib.hid (H2.out.bel.trans (hb10.mono H2.out.bel.size))
    have hge := H2.out.geC
    clear hb10 H2 c0
    cases hrc : rightC (Cmd.mk 2 (s : Int) (min (i : Int) 4611686018427387905) (min 0 1073741825) 0 0 0 0 0) with
    | false =>
      rw [if_pos (.inr hrc)] at HV
      go_wp2_with (refine store_blk (by rfl) 164 _ _ (by rfl) C (by rfl) _ zero9 164 HC.out (by rfl) rfl (by kernel_rfl) (one_cm zeroC) ?_)
      refine bodyPost_ret (results_blk_tmp (cs := zero9) rfl rfl (HC.out.setCells zero9 rfl) Tryd.underlying164 rfl (by kernel_rfl)) rfl ⟨by rw [HV.out]; rfl, Below.setCells _ _ _ HB.out hge⟩
    | true =>
      rw [if_neg (by rw [hrc]; simp [hrest])] at HV
      go_wp2_with (first
        | (refine load_blk (by rfl) 164 _ (by rfl) C (by rfl) _ _ HC.out _ Tryd.underlying164 rfl (by kernel_rfl) ?_)
        | (refine store_blk (by rfl) 164 _ _ (by rfl) C (by rfl) _ (Cmd.cells (Cmd.mk 2 (s : Int) (min (i : Int) 4611686018427387905) (min 0 1073741825) 0 0 0 0 0)) 164 HC.out (by rfl) rfl (by kernel_rfl) (one_cm _) ?_))
      refine bodyPost_ret (results_blk_tmp (cs := Cmd.cells (Cmd.mk 2 (s : Int) (min (i : Int) 4611686018427387905) (min 0 1073741825) 0 0 0 0 0)) rfl rfl (HC.out.setCells (Cmd.cells (Cmd.mk 2 (s : Int) (min (i : Int) 4611686018427387905) (min 0 1073741825) 0 0 0 0 0)) rfl) Tryd.underlying164 rfl (by kernel_rfl)) rfl ⟨by rw [HV.out]; rfl, Below.setCells _ _ _ HB.out hge⟩
set_option maxRecDepth 20000 in
set_option maxHeartbeats 4000000 in
theorem decode_three (M : Nat) (l : List Nat) (hl : (3 :: l).length ≤ 100000) (hby : ∀ b ∈ (3 :: l), b < 256) (v : Value) (w : World) (h : AtB 0 M (3 :: l) v w) (hM : M ≤ w.heap.size) :
    Calls Tryd.prog 111 #[v] w (DecIs (3 :: l) w) := by
  have HN := Lib.hid (newReader_any M _ hl hby v (w.alloc (.cells zero9 164)) (h.below hM ((Below.refl _ _).alloc (Nat.le_refl _) _)) (by simp; omega))
  clear h hby
  go_enter Tryd.func111, Tryd.ntmps111
  go_wp2_with fail
  refine HN.out.mono ?_
  rintro e w1 ⟨P, rfl, h1, h2, h3⟩
  simp at h1 h2 h3
  have H := Lib.hid (dcs_start h1 h2 h3)
  clear h1 h2 h3 HN
  go_wp2_with fail
  generalize w1.alloc (.cells #[.pointer (some ⟨P, 0, none⟩)] 204) = w2 at H ⊢
  generalize w1.heap.size = B at H ⊢
  generalize hN : w.heap.size + 1 = N at H
  generalize hC : w.heap.size = C at H ⊢
  have c0 := H.out.cell
  go_quiet (fail)
  replace H := Lib.hid (H.out.drewN nq)
  clear c0
  generalize w2.drewN nq = w3 at H ⊢
  have c0 := H.out.cell
  have nBC : ¬ B = C := by have := H.out.CN; have := H.out.NP; have := H.out.PB; omega
  have nCB : ¬ C = B := fun e => nBC e.symm
  go_wp2_with fail
  refine (one_eq H.out ((one_cons 3 l))).mono ?_
  rintro e w4 ⟨rfl, h2⟩
  replace H := Lib.hid h2
  clear h2 c0
  have c0 := H.out.cell
  have f0 := H.out.c.free 0
  have k0 : w4.cell? ⟨C, 0, none⟩ = some (.int .i64 0) := H.out.c.cell 0 rfl
  go_wp2_with fail
  replace H := Lib.hid (H.out.store 0 (.int .i64 3))
  generalize w4.setCell ⟨C, 0, none⟩ (.int .i64 3) = w5 at H ⊢
  clear c0
  have c0 := H.out.cell
  clear f0 k0
  have k0 : w5.cell? ⟨C, 0, none⟩ = some (.int .i64 3) := H.out.c.cell 0 rfl
  go_wp2_with fail
  refine (fault_any N P _ _ H.out.r).mono ?_
  rintro e w' ⟨rfl, rfl⟩
  unfold faultR
  dsimp only
  generalize h1 : one2 (.inr l) = r1
  obtain ⟨s, st1⟩ := r1
  generalize h2 : num2 st1 = r2
  obtain ⟨i, st2⟩ := r2
  generalize h3 : int2 st2 = r3
  obtain ⟨p, st3⟩ := r3
  generalize h4 : int2 st3 = r4
  obtain ⟨q, st4⟩ := r4
  have HD := Lib.hid (dec_three s st1 l i st2 st3 st4 p q h1 h2 h3 h4)
  go_wp2_with fail
  refine (one_eq H.out (h1)).mono ?_
  rintro e w6 ⟨rfl, h2⟩
  replace H := Lib.hid h2
  clear h2 c0
  have c0 := H.out.cell
  have f1 := H.out.c.free 1
  have k1 : w6.cell? ⟨C, 1, none⟩ = some (.int .i64 0) := H.out.c.cell 1 rfl
  go_wp2_with fail
  replace H := Lib.hid (H.out.store 1 (.int .i64 (s : Int)))
  generalize w6.setCell ⟨C, 1, none⟩ (.int .i64 (s : Int)) = w7 at H ⊢
  clear c0
  have c0 := H.out.cell
  clear f1 k1 k0
  go_wp2_with fail
  refine (num_eq H.out (h2)).mono ?_
  rintro e w8 ⟨rfl, h2⟩
  replace H := Lib.hid h2
  clear h2 c0
  have c0 := H.out.cell
  have k0 : w8.cell? ⟨C, 0, none⟩ = some (.int .i64 3) := H.out.c.cell 0 rfl
  go_wp2_with fail
  refine (int_eq H.out (h3)).mono ?_
  rintro e w9' ⟨rfl, h2⟩
  replace H := Lib.hid h2
  clear h2 c0
  have c0 := H.out.cell
  clear k0
  go_wp2_with fail
  refine (int_eq H.out (h4)).mono ?_
  rintro e w10' ⟨rfl, h2⟩
  replace H := Lib.hid h2
  clear h2 c0
  have c0 := H.out.cell
  have f6 := H.out.c.free 6
  have f7 := H.out.c.free 7
  have k6 : w10'.cell? ⟨C, 6, none⟩ = some (.int .i64 0) := H.out.c.cell 6 rfl
  have k7 : w10'.cell? ⟨C, 7, none⟩ = some (.int .i64 0) := H.out.c.cell 7 rfl
  replace H := Lib.hid ((H.out.store 6 (.int .i64 p)).store 7 (.int .i64 q))
  go_upto_region 14 with fail
  generalize (w10'.setCell ⟨C, 6, none⟩ (.int .i64 p)).setCell ⟨C, 7, none⟩ (.int .i64 q) = w11 at H ⊢
  clear k6 k7 f6 f7 c0
  have c0 := H.out.cell
  have k0 : w11.cell? ⟨C, 0, none⟩ = some (.int .i64 3) := H.out.c.cell 0 rfl
  go_wp2_with fail
  refine (fault_any N P _ _ H.out.r).mono ?_
  rintro e w' ⟨rfl, rfl⟩
  cases st4 with
  | inl f =>
    have hf : (f != 0) = true := by have := H.out.r.1; simpa using this
    have HV := Lib.hid (show decV (decF (3 :: l)) = (zeroC, f) by rw [HD.out]; rfl)
    clear HD
    unfold faultR
    dsimp only
    go_wp2_with (refine store_blk (by rfl) 164 _ _ (by rfl) C (by rfl) _ zero9 164 H.out.c (by rfl) rfl (by kernel_rfl) (one_cm zeroC) ?_)
    refine bodyPost_ret (results_blk_tmp (cs := zero9) rfl rfl (H.out.c.setCells zero9 rfl) Tryd.underlying164 rfl (by kernel_rfl)) rfl ⟨by rw [HV.out]; rfl, Below.setCells _ _ _ H.out.bel H.out.geC⟩
  | inr rest =>
    have HV := Lib.hid (show decV (decF (3 :: l)) = if 0 < rest.length ∨ rightC (Cmd.mk 3 (s : Int) (min (i : Int) 4611686018427387905) (min 0 1073741825) 0 0 p q 0) = false then (zeroC, 4) else ((Cmd.mk 3 (s : Int) (min (i : Int) 4611686018427387905) (min 0 1073741825) 0 0 p q 0), 0) by rw [HD.out]; exact end_cut' _ _ _ _ _ (by first | exact .inl rfl | exact .inr rfl) rest)
    clear HD
    unfold faultR
    dsimp only
    have c2 : w11.cell? ⟨C, 2, none⟩ = some (.int .i64 0) := H.out.c.cell 2 rfl
    have c3 : w11.cell? ⟨C, 3, none⟩ = some (.int .i64 0) := H.out.c.cell 3 rfl
    have f2 := H.out.c.free 2
    have f3 := H.out.c.free 3
    have H2 := Lib.hid ((H.out.store 2 (.int .i64 (min (i : Int) 4611686018427387905))).store 3 (.int .i64 (min 0 1073741825)))
    go_upto_region 18 with fail
    generalize (w11.setCell ⟨C, 2, none⟩ (.int .i64 (min (i : Int) 4611686018427387905))).setCell ⟨C, 3, none⟩ (.int .i64 (min 0 1073741825)) = w9 at H2 ⊢
    clear c0 c2 c3 f2 f3 k0 H
    have c0 := H2.out.cell
    have HC := Lib.hid (show Blk w9 C (Cmd.cells (Cmd.mk 3 (s : Int) (min (i : Int) 4611686018427387905) (min 0 1073741825) 0 0 p q 0)) 164 from H2.out.c)
    go_wp2_with fail
    refine (left_any N P rest w9 H2.out.r).mono ?_
    rintro e w' ⟨rfl, rfl⟩
    by_cases hrest : 0 < rest.length
    · have hr : (0 : Int) < (rest.length : Int) := by omega
      rw [if_pos (.inl hrest)] at HV
      go_wp2_with (refine store_blk (by rfl) 164 _ _ (by rfl) C (by rfl) _ zero9 164 HC.out (by rfl) rfl (by kernel_rfl) (one_cm zeroC) ?_)
      refine bodyPost_ret (results_blk_tmp (cs := zero9) rfl rfl (HC.out.setCells zero9 rfl) Tryd.underlying164 rfl (by kernel_rfl)) rfl ⟨by rw [HV.out]; rfl, Below.setCells _ _ _ H2.out.bel H2.out.geC⟩
    have hr : ¬ (0 : Int) < (rest.length : Int) := by omega
    have e0 := HC.out.cell 0 rfl
    have e1 := HC.out.cell 1 rfl
    have e2 := HC.out.cell 2 rfl
    have e3 := HC.out.cell 3 rfl
    have e4 := HC.out.cell 4 rfl
    have e5 := HC.out.cell 5 rfl
    have e6 := HC.out.cell 6 rfl
    have e7 := HC.out.cell 7 rfl
    have e8 := HC.out.cell 8 rfl
    simp only [Cmd.cells, List.getElem_toArray, List.getElem_cons_zero, List.getElem_cons_succ] at e0 e1 e2 e3 e4 e5 e6 e7 e8
    go_wp2_with fail
    clear e0 e1 e2 e3 e4 e5 e6 e7 e8
    refine (right_any (Cmd.mk 3 (s : Int) (min (i : Int) 4611686018427387905) (min 0 1073741825) 0 0 p q 0) w9).mono ?_
    rintro e w10 ⟨rfl, hb10⟩
    replace HC := Lib.hid (HC.out.below hb10 HC.out.lt)
    have HB := Lib.hid (H2.out.bel.trans (hb10.mono H2.out.bel.size))
    have hge := H2.out.geC
    clear hb10 H2 c0
    cases hrc : rightC (Cmd.mk 3 (s : Int) (min (i : Int) 4611686018427387905) (min 0 1073741825) 0 0 p q 0) with
    | false =>
      rw [if_pos (.inr hrc)] at HV
      go_wp2_with (refine store_blk (by rfl) 164 _ _ (by rfl) C (by rfl) _ zero9 164 HC.out (by rfl) rfl (by kernel_rfl) (one_cm zeroC) ?_)
      refine bodyPost_ret (results_blk_tmp (cs := zero9) rfl rfl (HC.out.setCells zero9 rfl) Tryd.underlying164 rfl (by kernel_rfl)) rfl ⟨by rw [HV.out]; rfl, Below.setCells _ _ _ HB.out hge⟩
    | true =>
      rw [if_neg (by rw [hrc]; simp [hrest])] at HV
      go_wp2_with (first
        | (refine load_blk (by rfl) 164 _ (by rfl) C (by rfl) _ _ HC.out _ Tryd.underlying164 rfl (by kernel_rfl) ?_)
        | (refine store_blk (by rfl) 164 _ _ (by rfl) C (by rfl) _ (Cmd.cells (Cmd.mk 3 (s : Int) (min (i : Int) 4611686018427387905) (min 0 1073741825) 0 0 p q 0)) 164 HC.out (by rfl) rfl (by kernel_rfl) (one_cm _) ?_))
      refine bodyPost_ret (results_blk_tmp (cs := Cmd.cells (Cmd.mk 3 (s : Int) (min (i : Int) 4611686018427387905) (min 0 1073741825) 0 0 p q 0)) rfl rfl (HC.out.setCells (Cmd.cells (Cmd.mk 3 (s : Int) (min (i : Int) 4611686018427387905) (min 0 1073741825) 0 0 p q 0)) rfl) Tryd.underlying164 rfl (by kernel_rfl)) rfl ⟨by rw [HV.out]; rfl, Below.setCells _ _ _ HB.out hge⟩
set_option maxRecDepth 20000 in
set_option maxHeartbeats 4000000 in
theorem decode_one (M : Nat) (l : List Nat) (hl : (1 :: l).length ≤ 100000) (hby : ∀ b ∈ (1 :: l), b < 256) (v : Value) (w : World) (h : AtB 0 M (1 :: l) v w) (hM : M ≤ w.heap.size) :
    Calls Tryd.prog 111 #[v] w (DecIs (1 :: l) w) := by
  have HN := Lib.hid (newReader_any M _ hl hby v (w.alloc (.cells zero9 164)) (h.below hM ((Below.refl _ _).alloc (Nat.le_refl _) _)) (by simp; omega))
  clear h hby
  go_enter Tryd.func111, Tryd.ntmps111
  go_wp2_with fail
  refine HN.out.mono ?_
  rintro e w1 ⟨P, rfl, h1, h2, h3⟩
  simp at h1 h2 h3
  have H := Lib.hid (dcs_start h1 h2 h3)
  clear h1 h2 h3 HN
  go_wp2_with fail
  generalize w1.alloc (.cells #[.pointer (some ⟨P, 0, none⟩)] 204) = w2 at H ⊢
  generalize w1.heap.size = B at H ⊢
  generalize hN : w.heap.size + 1 = N at H
  generalize hC : w.heap.size = C at H ⊢
  have c0 := H.out.cell
  go_quiet (fail)
  replace H := Lib.hid (H.out.drewN nq)
  clear c0
  generalize w2.drewN nq = w3 at H ⊢
  have c0 := H.out.cell
  have nBC : ¬ B = C := by have := H.out.CN; have := H.out.NP; have := H.out.PB; omega
  have nCB : ¬ C = B := fun e => nBC e.symm
  go_wp2_with fail
  refine (one_eq H.out ((one_cons 1 l))).mono ?_
  rintro e w4 ⟨rfl, h2⟩
  replace H := Lib.hid h2
  clear h2 c0
  have c0 := H.out.cell
  have f0 := H.out.c.free 0
  have k0 : w4.cell? ⟨C, 0, none⟩ = some (.int .i64 0) := H.out.c.cell 0 rfl
  go_wp2_with fail
  replace H := Lib.hid (H.out.store 0 (.int .i64 1))
  generalize w4.setCell ⟨C, 0, none⟩ (.int .i64 1) = w5 at H ⊢
  clear c0
  have c0 := H.out.cell
  clear f0 k0
  have k0 : w5.cell? ⟨C, 0, none⟩ = some (.int .i64 1) := H.out.c.cell 0 rfl
  go_wp2_with fail
  refine (fault_any N P _ _ H.out.r).mono ?_
  rintro e w' ⟨rfl, rfl⟩
  unfold faultR
  dsimp only
  generalize h1 : one2 (.inr l) = r1
  obtain ⟨s, st1⟩ := r1
  generalize h2 : num2 st1 = r2
  obtain ⟨i, st2⟩ := r2
  generalize h3 : num2 st2 = r3
  obtain ⟨a, st3⟩ := r3
  generalize h4 : one2 st3 = r4
  obtain ⟨b, st4⟩ := r4
  generalize h5 : one2 st4 = r5
  obtain ⟨t, st5⟩ := r5
  generalize h6 : one2 st5 = r6
  obtain ⟨f, st6⟩ := r6
  generalize h7 : int2 st6 = r7
  obtain ⟨p, st7⟩ := r7
  generalize h8 : int2 st7 = r8
  obtain ⟨q, st8⟩ := r8
  have HD := Lib.hid (dec_one s st1 l i a b t f st2 st3 st4 st5 st6 st7 st8 p q h1 h2 h3 h4 h5 h6 h7 h8)
  go_wp2_with fail
  refine (one_eq H.out (h1)).mono ?_
  rintro e w6 ⟨rfl, h2⟩
  replace H := Lib.hid h2
  clear h2 c0
  have c0 := H.out.cell
  have f1 := H.out.c.free 1
  have k1 : w6.cell? ⟨C, 1, none⟩ = some (.int .i64 0) := H.out.c.cell 1 rfl
  go_wp2_with fail
  replace H := Lib.hid (H.out.store 1 (.int .i64 (s : Int)))
  generalize w6.setCell ⟨C, 1, none⟩ (.int .i64 (s : Int)) = w7 at H ⊢
  clear c0
  have c0 := H.out.cell
  clear f1 k1 k0
  go_wp2_with fail
  refine (num_eq H.out (h2)).mono ?_
  rintro e w8 ⟨rfl, h2⟩
  replace H := Lib.hid h2
  clear h2 c0
  have c0 := H.out.cell
  have k0 : w8.cell? ⟨C, 0, none⟩ = some (.int .i64 1) := H.out.c.cell 0 rfl
  go_wp2_with fail
  refine (num_eq H.out (h3)).mono ?_
  rintro e w9' ⟨rfl, h2⟩
  replace H := Lib.hid h2
  clear h2 c0
  have c0 := H.out.cell
  clear k0
  go_wp2_with fail
  refine (one_eq H.out (h4)).mono ?_
  rintro e w10' ⟨rfl, h2⟩
  replace H := Lib.hid h2
  clear h2 c0
  have c0 := H.out.cell
  go_wp2_with fail
  refine (one_eq H.out (h5)).mono ?_
  rintro e w11' ⟨rfl, h2⟩
  replace H := Lib.hid h2
  clear h2 c0
  have c0 := H.out.cell
  go_wp2_with fail
  refine (one_eq H.out (h6)).mono ?_
  rintro e w12' ⟨rfl, h2⟩
  replace H := Lib.hid h2
  clear h2 c0
  have c0 := H.out.cell
  have f4 := H.out.c.free 4
  have f5 := H.out.c.free 5
  have f8 := H.out.c.free 8
  have k4 : w12'.cell? ⟨C, 4, none⟩ = some (.int .i64 0) := H.out.c.cell 4 rfl
  have k5 : w12'.cell? ⟨C, 5, none⟩ = some (.int .i64 0) := H.out.c.cell 5 rfl
  have k8 : w12'.cell? ⟨C, 8, none⟩ = some (.int .i64 0) := H.out.c.cell 8 rfl
  replace H := Lib.hid (((H.out.store 4 (.int .i64 (b : Int))).store 5 (.int .i64 (t : Int))).store 8 (.int .i64 (f : Int)))
  go_upto_region 12 with fail
  generalize ((w12'.setCell ⟨C, 4, none⟩ (.int .i64 (b : Int))).setCell ⟨C, 5, none⟩ (.int .i64 (t : Int))).setCell ⟨C, 8, none⟩ (.int .i64 (f : Int)) = w13' at H ⊢
  clear k4 k5 k8 f4 f5 f8 c0
  have c0 := H.out.cell
  have k0 : w13'.cell? ⟨C, 0, none⟩ = some (.int .i64 1) := H.out.c.cell 0 rfl
  go_wp2_with fail
  refine (int_eq H.out (h7)).mono ?_
  rintro e w14' ⟨rfl, h2⟩
  replace H := Lib.hid h2
  clear h2 c0
  have c0 := H.out.cell
  clear k0
  go_wp2_with fail
  refine (int_eq H.out (h8)).mono ?_
  rintro e w15' ⟨rfl, h2⟩
  replace H := Lib.hid h2
  clear h2 c0
  have c0 := H.out.cell
  have f6 := H.out.c.free 6
  have f7 := H.out.c.free 7
  have k6 : w15'.cell? ⟨C, 6, none⟩ = some (.int .i64 0) := H.out.c.cell 6 rfl
  have k7 : w15'.cell? ⟨C, 7, none⟩ = some (.int .i64 0) := H.out.c.cell 7 rfl
  replace H := Lib.hid ((H.out.store 6 (.int .i64 p)).store 7 (.int .i64 q))
  go_upto_region 14 with fail
  generalize (w15'.setCell ⟨C, 6, none⟩ (.int .i64 p)).setCell ⟨C, 7, none⟩ (.int .i64 q) = w16' at H ⊢
  clear k6 k7 f6 f7 c0
  have c0 := H.out.cell
  have k0 : w16'.cell? ⟨C, 0, none⟩ = some (.int .i64 1) := H.out.c.cell 0 rfl
  go_wp2_with fail
  refine (fault_any N P _ _ H.out.r).mono ?_
  rintro e w' ⟨rfl, rfl⟩
  cases st8 with
  | inl f =>
    have hf : (f != 0) = true := by have := H.out.r.1; simpa using this
    have HV := Lib.hid (show decV (decF (1 :: l)) = (zeroC, f) by rw [HD.out]; rfl)
    clear HD
    unfold faultR
    dsimp only
    go_wp2_with (refine store_blk (by rfl) 164 _ _ (by rfl) C (by rfl) _ zero9 164 H.out.c (by rfl) rfl (by kernel_rfl) (one_cm zeroC) ?_)
    refine bodyPost_ret (results_blk_tmp (cs := zero9) rfl rfl (H.out.c.setCells zero9 rfl) Tryd.underlying164 rfl (by kernel_rfl)) rfl ⟨by rw [HV.out]; rfl, Below.setCells _ _ _ H.out.bel H.out.geC⟩
  | inr rest =>
    have HV := Lib.hid (show decV (decF (1 :: l)) = if 0 < rest.length ∨ rightC (Cmd.mk 1 (s : Int) (min (i : Int) 4611686018427387905) (min (a : Int) 1073741825) b t p q f) = false then (zeroC, 4) else ((Cmd.mk 1 (s : Int) (min (i : Int) 4611686018427387905) (min (a : Int) 1073741825) b t p q f), 0) by rw [HD.out]; exact end_cut' _ _ _ _ _ (by first | exact .inl rfl | exact .inr rfl) rest)
    clear HD
    unfold faultR
    dsimp only
    have c2 : w16'.cell? ⟨C, 2, none⟩ = some (.int .i64 0) := H.out.c.cell 2 rfl
    have c3 : w16'.cell? ⟨C, 3, none⟩ = some (.int .i64 0) := H.out.c.cell 3 rfl
    have f2 := H.out.c.free 2
    have f3 := H.out.c.free 3
    have H2 := Lib.hid ((H.out.store 2 (.int .i64 (min (i : Int) 4611686018427387905))).store 3 (.int .i64 (min (a : Int) 1073741825)))
    go_upto_region 18 with fail
    generalize (w16'.setCell ⟨C, 2, none⟩ (.int .i64 (min (i : Int) 4611686018427387905))).setCell ⟨C, 3, none⟩ (.int .i64 (min (a : Int) 1073741825)) = w9 at H2 ⊢
    clear c0 c2 c3 f2 f3 k0 H
    have c0 := H2.out.cell
    have HC := Lib.hid (show Blk w9 C (Cmd.cells (Cmd.mk 1 (s : Int) (min (i : Int) 4611686018427387905) (min (a : Int) 1073741825) b t p q f)) 164 from H2.out.c)
    go_wp2_with fail
    refine (left_any N P rest w9 H2.out.r).mono ?_
    rintro e w' ⟨rfl, rfl⟩
    by_cases hrest : 0 < rest.length
    · have hr : (0 : Int) < (rest.length : Int) := by omega
      rw [if_pos (.inl hrest)] at HV
      go_wp2_with (refine store_blk (by rfl) 164 _ _ (by rfl) C (by rfl) _ zero9 164 HC.out (by rfl) rfl (by kernel_rfl) (one_cm zeroC) ?_)
      refine bodyPost_ret (results_blk_tmp (cs := zero9) rfl rfl (HC.out.setCells zero9 rfl) Tryd.underlying164 rfl (by kernel_rfl)) rfl ⟨by rw [HV.out]; rfl, Below.setCells _ _ _ H2.out.bel H2.out.geC⟩
    have hr : ¬ (0 : Int) < (rest.length : Int) := by omega
    have e0 := HC.out.cell 0 rfl
    have e1 := HC.out.cell 1 rfl
    have e2 := HC.out.cell 2 rfl
    have e3 := HC.out.cell 3 rfl
    have e4 := HC.out.cell 4 rfl
    have e5 := HC.out.cell 5 rfl
    have e6 := HC.out.cell 6 rfl
    have e7 := HC.out.cell 7 rfl
    have e8 := HC.out.cell 8 rfl
    simp only [Cmd.cells, List.getElem_toArray, List.getElem_cons_zero, List.getElem_cons_succ] at e0 e1 e2 e3 e4 e5 e6 e7 e8
    go_wp2_with fail
    clear e0 e1 e2 e3 e4 e5 e6 e7 e8
    refine (right_any (Cmd.mk 1 (s : Int) (min (i : Int) 4611686018427387905) (min (a : Int) 1073741825) b t p q f) w9).mono ?_
    rintro e w10 ⟨rfl, hb10⟩
    replace HC := Lib.hid (HC.out.below hb10 HC.out.lt)
    have HB := Lib.hid (H2.out.bel.trans (hb10.mono H2.out.bel.size))
    have hge := H2.out.geC
    clear hb10 H2 c0
    cases hrc : rightC (Cmd.mk 1 (s : Int) (min (i : Int) 4611686018427387905) (min (a : Int) 1073741825) b t p q f) with
    | false =>
      rw [if_pos (.inr hrc)] at HV
      go_wp2_with (refine store_blk (by rfl) 164 _ _ (by rfl) C (by rfl) _ zero9 164 HC.out (by rfl) rfl (by kernel_rfl) (one_cm zeroC) ?_)
      refine bodyPost_ret (results_blk_tmp (cs := zero9) rfl rfl (HC.out.setCells zero9 rfl) Tryd.underlying164 rfl (by kernel_rfl)) rfl ⟨by rw [HV.out]; rfl, Below.setCells _ _ _ HB.out hge⟩
    | true =>
      rw [if_neg (by rw [hrc]; simp [hrest])] at HV
      go_wp2_with (first
        | (refine load_blk (by rfl) 164 _ (by rfl) C (by rfl) _ _ HC.out _ Tryd.underlying164 rfl (by kernel_rfl) ?_)
        | (refine store_blk (by rfl) 164 _ _ (by rfl) C (by rfl) _ (Cmd.cells (Cmd.mk 1 (s : Int) (min (i : Int) 4611686018427387905) (min (a : Int) 1073741825) b t p q f)) 164 HC.out (by rfl) rfl (by kernel_rfl) (one_cm _) ?_))
      refine bodyPost_ret (results_blk_tmp (cs := Cmd.cells (Cmd.mk 1 (s : Int) (min (i : Int) 4611686018427387905) (min (a : Int) 1073741825) b t p q f)) rfl rfl (HC.out.setCells (Cmd.cells (Cmd.mk 1 (s : Int) (min (i : Int) 4611686018427387905) (min (a : Int) 1073741825) b t p q f)) rfl) Tryd.underlying164 rfl (by kernel_rfl)) rfl ⟨by rw [HV.out]; rfl, Below.setCells _ _ _ HB.out hge⟩
end Go.Proofs.YtmkcooamgojbpaaDoor.Cmds

/- command.Decode: any bytes. -/
namespace Go.Proofs.YtmkcooamgojbpaaDoor.Cmds
open Go.RowKit Go.Proofs.YtmkcooamgojbpaaDoor.Kit Go.Proofs.YtmkcooamgojbpaaDoor.Blk Go.Proofs.YtmkcooamgojbpaaDoor.Octets
attribute [local go_sem ↓] Go.wp_at_zero Go.wp_at_succ
set_option linter.unusedVariables false

set_option maxRecDepth 20000 in
set_option maxHeartbeats 4000000 in
theorem decode_bad (M : Nat) (k : Nat) (l : List Nat) (hk : k < 1 ∨ 3 < k) (hl : (k :: l).length ≤ 100000) (hby : ∀ b ∈ (k :: l), b < 256) (v : Value) (w : World) (h : AtB 0 M (k :: l) v w) (hM : M ≤ w.heap.size) :
    Calls Tryd.prog 111 #[v] w (DecIs (k :: l) w) := by
  have HV := Lib.hid (show decV (decF (k :: l)) = (zeroC, 4) by unfold decF; dsimp only; rw [if_pos hk]; rfl)
  have hk2 : (k : Int) < 1 ∨ ¬ (k : Int) < 1 ∧ 3 < (k : Int) := by omega
  have HN := Lib.hid (newReader_any M _ hl hby v (w.alloc (.cells zero9 164)) (h.below hM ((Below.refl _ _).alloc (Nat.le_refl _) _)) (by simp; omega))
  clear h hby
  go_enter Tryd.func111, Tryd.ntmps111
  go_wp2_with fail
  refine HN.out.mono ?_
  rintro e w1 ⟨P, rfl, h1, h2, h3⟩
  simp at h1 h2 h3
  have H := Lib.hid (dcs_start h1 h2 h3)
  clear h1 h2 h3 HN
  go_wp2_with fail
  generalize w1.alloc (.cells #[.pointer (some ⟨P, 0, none⟩)] 204) = w2 at H ⊢
  generalize w1.heap.size = B at H ⊢
  generalize hN : w.heap.size + 1 = N at H
  generalize hC : w.heap.size = C at H ⊢
  have c0 := H.out.cell
  go_quiet (fail)
  replace H := Lib.hid (H.out.drewN nq)
  clear c0
  generalize w2.drewN nq = w3 at H ⊢
  have c0 := H.out.cell
  have nBC : ¬ B = C := by have := H.out.CN; have := H.out.NP; have := H.out.PB; omega
  have nCB : ¬ C = B := fun e => nBC e.symm
  go_wp2_with fail
  refine (one_eq H.out ((one_cons k l))).mono ?_
  rintro e w4 ⟨rfl, h2⟩
  replace H := Lib.hid h2
  clear h2 c0
  have c0 := H.out.cell
  have f0 := H.out.c.free 0
  have k0 : w4.cell? ⟨C, 0, none⟩ = some (.int .i64 0) := H.out.c.cell 0 rfl
  go_wp2_with fail
  replace H := Lib.hid (H.out.store 0 (.int .i64 (k : Int)))
  generalize w4.setCell ⟨C, 0, none⟩ (.int .i64 (k : Int)) = w5 at H ⊢
  clear c0
  have c0 := H.out.cell
  clear f0 k0
  have k0 : w5.cell? ⟨C, 0, none⟩ = some (.int .i64 (k : Int)) := H.out.c.cell 0 rfl
  go_wp2_with fail
  refine (fault_any N P _ _ H.out.r).mono ?_
  rintro e w' ⟨rfl, rfl⟩
  unfold faultR
  dsimp only
  rcases hk2 with g1 | ⟨g1, g2⟩
  all_goals
    go_wp2_with (refine store_blk (by rfl) 164 _ _ (by rfl) C (by rfl) _ zero9 164 H.out.c (by rfl) rfl (by kernel_rfl) (one_cm zeroC) ?_)
    refine bodyPost_ret (results_blk_tmp (cs := zero9) rfl rfl (H.out.c.setCells zero9 rfl) Tryd.underlying164 rfl (by kernel_rfl)) rfl ⟨by rw [HV.out]; rfl, Below.setCells _ _ _ H.out.bel H.out.geC⟩
set_option maxRecDepth 20000 in
set_option maxHeartbeats 4000000 in
theorem decode_nil (M : Nat) (hl : ([] : List Nat).length ≤ 100000) (hby : ∀ b ∈ ([] : List Nat), b < 256) (v : Value) (w : World) (h : AtB 0 M [] v w) (hM : M ≤ w.heap.size) :
    Calls Tryd.prog 111 #[v] w (DecIs [] w) := by
  have HN := Lib.hid (newReader_any M _ hl hby v (w.alloc (.cells zero9 164)) (h.below hM ((Below.refl _ _).alloc (Nat.le_refl _) _)) (by simp; omega))
  clear h hby
  go_enter Tryd.func111, Tryd.ntmps111
  go_wp2_with fail
  refine HN.out.mono ?_
  rintro e w1 ⟨P, rfl, h1, h2, h3⟩
  simp at h1 h2 h3
  have H := Lib.hid (dcs_start h1 h2 h3)
  clear h1 h2 h3 HN
  go_wp2_with fail
  generalize w1.alloc (.cells #[.pointer (some ⟨P, 0, none⟩)] 204) = w2 at H ⊢
  generalize w1.heap.size = B at H ⊢
  generalize hN : w.heap.size + 1 = N at H
  generalize hC : w.heap.size = C at H ⊢
  have c0 := H.out.cell
  go_quiet (fail)
  replace H := Lib.hid (H.out.drewN nq)
  clear c0
  generalize w2.drewN nq = w3 at H ⊢
  have c0 := H.out.cell
  have nBC : ¬ B = C := by have := H.out.CN; have := H.out.NP; have := H.out.PB; omega
  have nCB : ¬ C = B := fun e => nBC e.symm
  go_wp2_with fail
  refine (one_eq H.out (one_nil)).mono ?_
  rintro e w4 ⟨rfl, h2⟩
  replace H := Lib.hid h2
  clear h2 c0
  have c0 := H.out.cell
  have f0 := H.out.c.free 0
  have k0 : w4.cell? ⟨C, 0, none⟩ = some (.int .i64 0) := H.out.c.cell 0 rfl
  go_wp2_with fail
  replace H := Lib.hid (H.out.store 0 (.int .i64 0))
  generalize w4.setCell ⟨C, 0, none⟩ (.int .i64 0) = w5 at H ⊢
  clear c0
  have c0 := H.out.cell
  clear f0 k0
  have k0 : w5.cell? ⟨C, 0, none⟩ = some (.int .i64 0) := H.out.c.cell 0 rfl
  go_wp2_with fail
  refine (fault_any N P _ _ H.out.r).mono ?_
  rintro e w' ⟨rfl, rfl⟩
  unfold faultR
  dsimp only
  go_wp2_with fail
  refine (one_eq H.out ((one_inl 3))).mono ?_
  rintro e w6 ⟨rfl, h2⟩
  replace H := Lib.hid h2
  clear h2 c0
  have c0 := H.out.cell
  have f1 := H.out.c.free 1
  have k1 : w6.cell? ⟨C, 1, none⟩ = some (.int .i64 0) := H.out.c.cell 1 rfl
  go_wp2_with fail
  replace H := Lib.hid (H.out.store 1 (.int .i64 0))
  generalize w6.setCell ⟨C, 1, none⟩ (.int .i64 0) = w7 at H ⊢
  clear c0
  have c0 := H.out.cell
  clear f1 k1 k0
  go_wp2_with fail
  refine (num_eq H.out ((num_inl 3))).mono ?_
  rintro e w8 ⟨rfl, h2⟩
  replace H := Lib.hid h2
  clear h2 c0
  have c0 := H.out.cell
  have k0 : w8.cell? ⟨C, 0, none⟩ = some (.int .i64 0) := H.out.c.cell 0 rfl
  go_wp2_with fail
  refine (int_eq H.out ((int_inl 3))).mono ?_
  rintro e w9' ⟨rfl, h2⟩
  replace H := Lib.hid h2
  clear h2 c0
  have c0 := H.out.cell
  clear k0
  go_wp2_with fail
  refine (int_eq H.out ((int_inl 3))).mono ?_
  rintro e w10' ⟨rfl, h2⟩
  replace H := Lib.hid h2
  clear h2 c0
  have c0 := H.out.cell
  have f6 := H.out.c.free 6
  have f7 := H.out.c.free 7
  have k6 : w10'.cell? ⟨C, 6, none⟩ = some (.int .i64 0) := H.out.c.cell 6 rfl
  have k7 : w10'.cell? ⟨C, 7, none⟩ = some (.int .i64 0) := H.out.c.cell 7 rfl
  replace H := Lib.hid ((H.out.store 6 (.int .i64 0)).store 7 (.int .i64 0))
  go_upto_region 14 with fail
  generalize (w10'.setCell ⟨C, 6, none⟩ (.int .i64 0)).setCell ⟨C, 7, none⟩ (.int .i64 0) = w11 at H ⊢
  clear k6 k7 f6 f7 c0
  have c0 := H.out.cell
  go_wp2_with fail
  refine (fault_any N P _ _ H.out.r).mono ?_
  rintro e w' ⟨rfl, rfl⟩
  unfold faultR
  dsimp only
  go_wp2_with (refine store_blk (by rfl) 164 _ _ (by rfl) C (by rfl) _ zero9 164 H.out.c (by rfl) rfl (by kernel_rfl) (one_cm zeroC) ?_)
  refine bodyPost_ret (results_blk_tmp (cs := zero9) rfl rfl (H.out.c.setCells zero9 rfl) Tryd.underlying164 rfl (by kernel_rfl)) rfl ⟨rfl, Below.setCells _ _ _ H.out.bel H.out.geC⟩
/-- command.Decode, of any bytes. -/
theorem decode_any (M : Nat) (l : List Nat) (hl : l.length ≤ 100000) (hby : ∀ b ∈ l, b < 256) (v : Value) (w : World) (h : AtB 0 M l v w) (hM : M ≤ w.heap.size) :
    Calls Tryd.prog 111 #[v] w (DecIs l w) := by
  cases l with
  | nil => exact decode_nil M hl hby v w h hM
  | cons k l =>
    by_cases h1 : k = 1
    · subst h1; exact decode_one M l hl hby v w h hM
    by_cases h2 : k = 2
    · subst h2; exact decode_two M l hl hby v w h hM
    by_cases h3 : k = 3
    · subst h3; exact decode_three M l hl hby v w h hM
    · exact decode_bad M k l (by omega) hl hby v w h hM
end Go.Proofs.YtmkcooamgojbpaaDoor.Cmds

/- damperref03: ReadUint, ReadInt, ReadNum. -/
namespace Go.Proofs.YtmkcooamgojbpaaDoor.Octets
open Go.RowKit Go.Proofs.YtmkcooamgojbpaaDoor.Kit Go.Proofs.YtmkcooamgojbpaaDoor.Blk Go.Proofs.YtmkcooamgojbpaaDoor.Cmds
attribute [local go_sem ↓] Go.wp_at_zero Go.wp_at_succ
set_option linter.unusedVariables false

/-- What a reading of octets tells: a number, a signed one, how many bytes, a fault. -/
def partC (n : Nat) (s : Int) (z : Nat) (f : Int) : Array Value := #[.int .u64 (n : Int), .int .i64 s, .slice none 0 0, .int .i64 (z : Int), .int .i64 f]
theorem one_part (n : Nat) (s : Int) (z : Nat) (f : Int) : (partC n s z f).all (·.oneCell') = true := by simp [partC, Value.oneCell']
def uintP (k : Nat) (l : List Nat) : Array Value := match uintR k l with
  | .bad f => partC 0 0 0 f
  | .ok n _ => partC n 0 k 0
def intP (l : List Nat) : Array Value := match uintR 8 l with
  | .bad f => partC 0 0 0 f
  | .ok n _ => partC 0 (zag n) 8 0
def numP (l : List Nat) : Array Value := match numR 0 0 l with
  | .bad f => partC 0 0 0 f
  | .ok n m => partC n 0 (l.length - m.length) 0
def PartIs (c : Array Value) (w : World) (e : Ending) (w' : World) : Prop := e = .returned (.agg c) ∧ Below w.heap.size w w'
set_option maxRecDepth 20000 in
theorem readUint_any (N M k : Nat) (h1 : 1 ≤ k) (h8 : k ≤ 8) (l : List Nat) (hl : l.length ≤ 100000) (hby : ∀ b ∈ l, b < 256) (v : Value) (w : World) (h : AtB N M l v w) (hM : M ≤ w.heap.size) :
    Calls Tryd.prog 207 #[v, .int .i64 (k : Int)] w (PartIs (uintP k l) w) := by
  have g1 : ¬ (k : Int) < 1 := by omega
  have g2 : ¬ 8 < (k : Int) := by omega
  have HX := Lib.hid (Blk.new w (partC 0 0 0 0) 243 w.heap.size rfl)
  have HB := Lib.hid ((Below.refl w.heap.size w).alloc (Nat.le_refl _) (.cells (partC 0 0 0 0) 243))
  have HA := Lib.hid (h.below hM ((Below.refl w.heap.size w).alloc (Nat.le_refl _) (.cells (partC 0 0 0 0) 243)))
  obtain ⟨a, c, rfl, hc1, hc2⟩ := h.len
  have HBY := Lib.hid hby
  clear h hby hc2
  by_cases hn : l.length < k
  · have g3 : (l.length : Int) < (k : Int) := by omega
    have HE := Lib.hid (show uintP k l = partC 0 0 0 3 by unfold uintP uintR; rw [if_pos hn])
    go_enter Tryd.func207, Tryd.ntmps207
    go_upto_region 1 with fail
    change Code.wp _ _ _ _ (w.alloc (.cells (partC 0 0 0 0) 243))
    generalize w.alloc (.cells (partC 0 0 0 0) 243) = w1 at HX HA HB ⊢
    clear HA HBY
    go_wp2_with (refine store_blk (by rfl) 243 _ _ (by rfl) w.heap.size (by rfl) _ (partC 0 0 0 3) 243 HX.out (by rfl) rfl (by kernel_rfl) (one_part _ _ _ _) ?_)
    refine bodyPost_ret (results_cell_row rfl _ _ _ _ _ (0, 0) _ rfl (HX.out.setCells (partC 0 0 0 3) rfl) Tryd.underlying243 rfl (by kernel_rfl)) rfl ?_
    exact ⟨by rw [HE.out], Blk.Below.setCells _ _ _ HB.out (Nat.le_refl _)⟩
  · have g3 : ¬ (l.length : Int) < (k : Int) := by omega
    have HE := Lib.hid (show uintP k l = partC (beV (l.take k)) 0 k 0 by unfold uintP uintR; rw [if_neg hn])
    go_enter Tryd.func207, Tryd.ntmps207
    go_upto_region 1 with fail
    change Code.wp _ _ _ _ (w.alloc (.cells (partC 0 0 0 0) 243))
    generalize w.alloc (.cells (partC 0 0 0 0) 243) = w1 at HX HA HB ⊢
    obtain ⟨g, o, c', he, -, -, -, -, hcell⟩ := HA.out.resolve_left (fun h => by rw [h.1] at hn; simp at hn; omega)
    injection he with he1 he2 he3
    subst he1 he3
    have HC := Lib.hid hcell
    clear hcell HA
    go_wp2_with fail
    go_loop [5, 6] (fun n i => ∃ j : Nat, j ≤ k ∧ i = .int .i64 j ∧ n = .int .u64 (beV (l.take j))) (fun _ i => k - (intOf i).toNat)
    case atStart => exact ⟨0, by omega, rfl, rfl⟩
    case round =>
      obtain ⟨j, hj, rfl, rfl⟩ := hrel
      by_cases hlt : j < k
      · have c1 : w1.cell? ⟨g, o + j, none⟩ = some (.int .u8 (l[j] : Int)) := HC.out j (by omega)
        have hb := HBY.out l[j] (List.getElem_mem (by omega))
        have hp := beV_pow (l := l.take j) (n := 7) (fun b hm => HBY.out b (List.mem_of_mem_take hm)) (by rw [List.length_take]; omega)
        have HN := Lib.hid (beV_next (l := l) (k := j) (by omega))
        generalize l[j] = b at c1 hb HN
        generalize beV (l.take j) = m at HN hp ⊢
        have hp2 : m < 72057594037927936 := hp
        clear hp
        go_wp2_with fail
        go_round
        case rel => exact ⟨j + 1, by omega, by go_num, by rw [HN.out]; go_num⟩
        case measure => simp [intOf]; omega
      · obtain rfl : j = k := by omega
        generalize beV (l.take j) = m at HE ⊢
        go_wp2_with (refine store_blk (by rfl) 243 _ _ (by rfl) w.heap.size (by rfl) _ (partC m 0 j 0) 243 HX.out (by rfl) rfl (by kernel_rfl) (one_part _ _ _ _) ?_)
        refine bodyPost_ret (results_cell_row rfl _ _ _ _ _ (0, 0) _ rfl (HX.out.setCells (partC m 0 j 0) rfl) Tryd.underlying243 rfl (by kernel_rfl)) rfl ?_
        exact ⟨by rw [HE.out], Blk.Below.setCells _ _ _ HB.out (Nat.le_refl _)⟩
theorem int_of (l : List Nat) (hby : ∀ b ∈ l, b < 256) : ∃ n z f, uintP 8 l = partC n 0 z f ∧ intP l = partC 0 (zag n) z f ∧ n < 18446744073709551616 := by
  unfold uintP intP
  cases e : uintR 8 l with
  | bad f => exact ⟨0, 0, f, rfl, rfl, by decide⟩
  | ok n m => exact ⟨n, 8, 0, rfl, rfl, by have := (uintR_of hby e).2; rwa [pow8] at this⟩
set_option maxRecDepth 20000 in
set_option maxHeartbeats 1000000 in
theorem readInt_any (N M : Nat) (l : List Nat) (hl : l.length ≤ 100000) (hby : ∀ b ∈ l, b < 256) (v : Value) (w : World) (h : AtB N M l v w) (hM : M ≤ w.heap.size) :
    Calls Tryd.prog 209 #[v] w (PartIs (intP l) w) := by
  have HX := Lib.hid (Blk.new w (partC 0 0 0 0) 243 w.heap.size rfl)
  have HU := Lib.hid (readUint_any N M 8 (by omega) (by omega) l hl hby v _ (h.below hM ((Below.refl w.heap.size w).alloc (Nat.le_refl _) (.cells (partC 0 0 0 0) 243))) (by simp; omega))
  obtain ⟨n, z, f, hu, hi, hn⟩ := int_of l hby
  rw [hu] at HU
  have HE := Lib.hid hi
  clear h hby hu hi
  go_enter Tryd.func209, Tryd.ntmps209
  go_wp2_with fail
  refine HU.out.mono ?_
  rintro e w1 ⟨rfl, hb⟩
  replace HX := Lib.hid (HX.out.below hb (by simp))
  have HB := Lib.hid (((Below.refl w.heap.size w).alloc (Nat.le_refl _) (.cells (partC 0 0 0 0) 243)).trans (hb.mono (by simp)))
  clear hb HU
  go_upto_region 2 with (refine store_blk (by rfl) 243 _ _ (by rfl) w1.heap.size (by rfl) _ (partC n 0 z f) 243 (Blk.new w1 (partC 0 0 0 0) 243 w1.heap.size rfl) (by rfl) rfl (by kernel_rfl) (one_part _ _ _ _) ?_)
  have HP := Lib.hid ((Blk.new w1 (partC 0 0 0 0) 243 w1.heap.size rfl).setCells (partC n 0 z f) rfl)
  have hsz := HB.out.size
  have hlt := HX.out.lt
  have HX1 := Lib.hid (Blk.Blk.apartAll (partC n 0 z f).toList 0 _ (HX.out.old (.cells (partC 0 0 0 0) 243)) (B := w1.heap.size) (by omega))
  replace HB := Lib.hid (Blk.Below.setCells (partC n 0 z f).toList 0 _ (HB.out.alloc hsz (.cells (partC 0 0 0 0) 243)) (B := w1.heap.size) (by omega))
  clear HX
  have HX := HX1
  clear HX1
  change Code.wp _ _ _ _ ((w1.alloc (.cells (partC 0 0 0 0) 243)).setCells w1.heap.size 0 (partC n 0 z f).toList)
  generalize (w1.alloc (.cells (partC 0 0 0 0) 243)).setCells w1.heap.size 0 (partC n 0 z f).toList = w3 at HP HX HB ⊢
  generalize w1.heap.size = B at HP HX HB hsz hlt ⊢
  have c0 : w3.cell? ⟨B, 0, none⟩ = some (.int .u64 n) := HP.out.cell 0 rfl
  obtain ⟨q, hq⟩ : ∃ q, q = n / 2 := ⟨_, rfl⟩
  have hd : (n : Int) / 2 = (q : Int) := by omega
  have hh : (q : Int) ≤ 9223372036854775807 := by omega
  by_cases h2 : n % 2 = 0
  · have HZG := Lib.hid (show zag n = (q : Int) by unfold zag; rw [if_pos h2, hq])
    have hm : (n : Int) % 2 = 0 := by omega
    clear hq h2
    have f1 := HP.out.free 1
    have f0 := HP.out.free 0
    have k1 : w3.cell? ⟨B, 1, none⟩ = some (.int .i64 0) := HP.out.cell 1 rfl
    go_upto_region 6 with fail
    have HQ := Lib.hid (show Blk ((w3.setCell ⟨B, 1, none⟩ (.int .i64 (zag n))).setCell ⟨B, 0, none⟩ (.int .u64 0)) B (partC 0 (zag n) z f) 243 from (HP.out.set 1 _).set 0 _)
    rw [HZG.out] at HQ
    have hBw := HX.out.lt
    replace HX := Lib.hid ((HX.out.apart ⟨B, 1, none⟩ (.int .i64 ((q : Int))) (by show B ≠ _; omega)).apart ⟨B, 0, none⟩ (.int .u64 0) (by show B ≠ _; omega))
    replace HB := Lib.hid ((HB.out.setCell (p := ⟨B, 1, none⟩) (by show _ ≤ B; omega) (.int .i64 ((q : Int)))).setCell (p := ⟨B, 0, none⟩) (by show _ ≤ B; omega) (.int .u64 0))
    generalize (w3.setCell ⟨B, 1, none⟩ (.int .i64 ((q : Int)))).setCell ⟨B, 0, none⟩ (.int .u64 0) = w4 at HQ HX HB ⊢
    go_wp2_with (first
      | (refine load_blk (by rfl) 243 _ (by rfl) B (by rfl) _ _ HQ.out _ Tryd.underlying243 rfl (by kernel_rfl) ?_)
      | (refine store_blk (by rfl) 243 _ _ (by rfl) w.heap.size (by rfl) _ (partC 0 ((q : Int)) z f) 243 HX.out (by rfl) rfl (by kernel_rfl) (one_part _ _ _ _) ?_))
    refine bodyPost_ret (results_cell_row rfl _ _ _ _ _ (0, 0) _ rfl (HX.out.setCells (partC 0 ((q : Int)) z f) rfl) Tryd.underlying243 rfl (by kernel_rfl)) rfl ?_
    exact ⟨by rw [HE.out, HZG.out], Blk.Below.setCells _ _ _ HB.out (Nat.le_refl _)⟩
  · have HZG := Lib.hid (show zag n = -(q : Int) - 1 by unfold zag; rw [if_neg h2, hq])
    have hm : (n : Int) % 2 = 1 := by omega
    clear hq h2
    have f1 := HP.out.free 1
    have f0 := HP.out.free 0
    have k1 : w3.cell? ⟨B, 1, none⟩ = some (.int .i64 0) := HP.out.cell 1 rfl
    go_upto_region 6 with fail
    have HQ := Lib.hid (show Blk ((w3.setCell ⟨B, 1, none⟩ (.int .i64 (zag n))).setCell ⟨B, 0, none⟩ (.int .u64 0)) B (partC 0 (zag n) z f) 243 from (HP.out.set 1 _).set 0 _)
    rw [HZG.out] at HQ
    have hBw := HX.out.lt
    replace HX := Lib.hid ((HX.out.apart ⟨B, 1, none⟩ (.int .i64 ((-(q : Int) - 1))) (by show B ≠ _; omega)).apart ⟨B, 0, none⟩ (.int .u64 0) (by show B ≠ _; omega))
    replace HB := Lib.hid ((HB.out.setCell (p := ⟨B, 1, none⟩) (by show _ ≤ B; omega) (.int .i64 ((-(q : Int) - 1)))).setCell (p := ⟨B, 0, none⟩) (by show _ ≤ B; omega) (.int .u64 0))
    generalize (w3.setCell ⟨B, 1, none⟩ (.int .i64 ((-(q : Int) - 1)))).setCell ⟨B, 0, none⟩ (.int .u64 0) = w4 at HQ HX HB ⊢
    go_wp2_with (first
      | (refine load_blk (by rfl) 243 _ (by rfl) B (by rfl) _ _ HQ.out _ Tryd.underlying243 rfl (by kernel_rfl) ?_)
      | (refine store_blk (by rfl) 243 _ _ (by rfl) w.heap.size (by rfl) _ (partC 0 ((-(q : Int) - 1)) z f) 243 HX.out (by rfl) rfl (by kernel_rfl) (one_part _ _ _ _) ?_))
    refine bodyPost_ret (results_cell_row rfl _ _ _ _ _ (0, 0) _ rfl (HX.out.setCells (partC 0 ((-(q : Int) - 1)) z f) rfl) Tryd.underlying243 rfl (by kernel_rfl)) rfl ?_
    exact ⟨by rw [HE.out, HZG.out], Blk.Below.setCells _ _ _ HB.out (Nat.le_refl _)⟩
theorem numR_ten (m : Nat) (l : List Nat) : numR 10 m l = .bad 4 := by cases l <;> simp [numR]
theorem grp_lt' {j c : Nat} (hj : j ≤ 9) (hc : c < 128) (h9 : j = 9 → c ≤ 1) : c * 128 ^ j < 18446744073709551616 := by
  rcases ten j hj with rfl | rfl | rfl | rfl | rfl | rfl | rfl | rfl | rfl | rfl
  all_goals first | omega | (have := h9 rfl; omega)
theorem grp_sum {j c m : Nat} (hj : j ≤ 9) (hc : c < 128) (h9 : j = 9 → c ≤ 1) (hm : m < 128 ^ j) : m + c * 128 ^ j < 18446744073709551616 := by
  rcases ten j hj with rfl | rfl | rfl | rfl | rfl | rfl | rfl | rfl | rfl | rfl
  all_goals first | omega | (have := h9 rfl; omega)
theorem grp_next' {j m c : Nat} (hc : c < 128) (hm : m < 128 ^ j) : m + c * 128 ^ j < 128 ^ (j + 1) := by
  rw [Nat.pow_succ]
  have : c * 128 ^ j ≤ 127 * 128 ^ j := Nat.mul_le_mul_right _ (by omega)
  omega
theorem grp_by {j : Nat} (hj : j ≤ 8) : 128 ^ j * 128 < 18446744073709551616 := by
  rcases ten j (by omega) with rfl | rfl | rfl | rfl | rfl | rfl | rfl | rfl | rfl | rfl <;> first | omega | decide
set_option maxRecDepth 20000 in
set_option maxHeartbeats 1000000 in
theorem readNum_any (N M : Nat) (l : List Nat) (hl : l.length ≤ 100000) (hby : ∀ b ∈ l, b < 256) (v : Value) (w : World) (h : AtB N M l v w) (hM : M ≤ w.heap.size) :
    Calls Tryd.prog 208 #[v] w (PartIs (numP l) w) := by
  have HX := Lib.hid (Blk.new w (partC 0 0 0 0) 243 w.heap.size rfl)
  have HB := Lib.hid ((Below.refl w.heap.size w).alloc (Nat.le_refl _) (.cells (partC 0 0 0 0) 243))
  have HA := Lib.hid (h.below hM ((Below.refl w.heap.size w).alloc (Nat.le_refl _) (.cells (partC 0 0 0 0) 243)))
  obtain ⟨a, c, rfl, hc1, hc2⟩ := h.len
  have HBY := Lib.hid hby
  clear h hby hc2
  go_enter Tryd.func208, Tryd.ntmps208
  go_upto_region 1 with fail
  change Code.wp _ _ _ _ (w.alloc (.cells (partC 0 0 0 0) 243))
  generalize w.alloc (.cells (partC 0 0 0 0) 243) = w1 at HX HA HB ⊢
  go_wp2_with fail
  go_loop [3, 4, 5] (fun n by' i => ∃ (j m : Nat) (p : Int), j ≤ 10 ∧ j ≤ l.length ∧ i = .int .i64 j ∧ n = .int .u64 m ∧ by' = .int .u64 p ∧ (j ≤ 9 → p = ((128 ^ j : Nat) : Int)) ∧ Hid (numR 0 0 l = numR j m (l.drop j)) ∧ Hid (m < 128 ^ j)) (fun _ _ i => 10 - (intOf i).toNat)
  case atStart => exact ⟨0, 0, 1, by omega, by omega, rfl, rfl, rfl, fun _ => rfl, Lib.hid rfl, Lib.hid (by decide)⟩
  case round =>
    obtain ⟨j, m, p, hj, hjl, rfl, rfl, rfl, hp, HN, HM⟩ := hrel
    by_cases h10 : j = 10
    · subst h10
      have HE := Lib.hid (show numP l = partC 0 0 0 4 by unfold numP; rw [HN.out, numR_ten])
      clear hp
      go_wp2_with (refine store_blk (by rfl) 243 _ _ (by rfl) w.heap.size (by rfl) _ (partC 0 0 0 4) 243 HX.out (by rfl) rfl (by kernel_rfl) (one_part _ _ _ _) ?_)
      refine bodyPost_ret (results_cell_row rfl _ _ _ _ _ (0, 0) _ rfl (HX.out.setCells (partC 0 0 0 4) rfl) Tryd.underlying243 rfl (by kernel_rfl)) rfl ?_
      exact ⟨by rw [HE.out], Blk.Below.setCells _ _ _ HB.out (Nat.le_refl _)⟩
    · have j10 : (j : Int) < 10 := by omega
      obtain rfl := hp (by omega)
      clear hp
      by_cases hlt : j < l.length
      · have g1 : ¬ (l.length : Int) ≤ (j : Int) := by omega
        have cj : ∃ g o, a = some ⟨g, o, none⟩ ∧ w1.cell? ⟨g, o + j, none⟩ = some (.int .u8 (l[j] : Int)) := by
          rcases HA.out with ⟨h1, -⟩ | ⟨g, o, c', he, -, -, -, -, hcell⟩
          · rw [h1] at hlt; simp at hlt
          · injection he with he1 he2 he3
            exact ⟨g, o, he1, hcell j hlt⟩
        obtain ⟨g, o, rfl, cj⟩ := cj
        have hb := HBY.out l[j] (List.getElem_mem hlt)
        have HD := Lib.hid (show numR 0 0 l = numR j m (l[j] :: l.drop (j + 1)) by rw [HN.out, List.drop_eq_getElem_cons hlt])
        generalize l[j] = b at cj hb HD
        obtain ⟨c2, hcc⟩ : ∃ c, c = b % 128 := ⟨_, rfl⟩
        have e1 : (b : Int) % 128 = (c2 : Int) := by omega
        have hc128 : c2 < 128 := by omega
        have c00 : (0 : Int) ≤ (c2 : Int) := by omega
        by_cases hbad : j = 9 ∧ 1 < c2
        · obtain ⟨h9, hc1⟩ := hbad
          have HE := Lib.hid (show numP l = partC 0 0 0 4 by unfold numP; rw [HD.out, numR, if_neg (by omega), if_pos (by omega)])
          subst h9
          have hc1' : (c2 : Int) > 1 := by omega
          clear HN HD hcc
          go_wp2_with (refine store_blk (by rfl) 243 _ _ (by rfl) w.heap.size (by rfl) _ (partC 0 0 0 4) 243 HX.out (by rfl) rfl (by kernel_rfl) (one_part _ _ _ _) ?_)
          refine bodyPost_ret (results_cell_row rfl _ _ _ _ _ (0, 0) _ rfl (HX.out.setCells (partC 0 0 0 4) rfl) Tryd.underlying243 rfl (by kernel_rfl)) rfl ?_
          exact ⟨by rw [HE.out], Blk.Below.setCells _ _ _ HB.out (Nat.le_refl _)⟩
        · have h9 : j = 9 → c2 ≤ 1 := by omega
          have hs := grp_sum (c := c2) (by omega) hc128 h9 HM.out
          have hmul := grp_lt' (c := c2) (by omega) hc128 h9
          obtain ⟨mm, hmm⟩ : ∃ mm, m + c2 * 128 ^ j = mm := ⟨_, rfl⟩
          have HEQ := Lib.hid (show m + b % 128 * 128 ^ j = mm by rw [← hcc, hmm])
          rw [hmm] at hs
          obtain ⟨P, hP⟩ : ∃ P, 128 ^ j = P := ⟨_, rfl⟩
          rw [hP] at hmul hmm HM ⊢
          have HP := Lib.hid hP
          clear hP
          have e2 : (c2 : Int) * (P : Int) = ((c2 * P : Nat) : Int) := by simp
          generalize c2 * P = cP at e2 hmm hmul
          have e3 : (m : Int) + (cP : Int) = (mm : Int) := by omega
          clear hmm
          have h4 : (cP : Int) < 18446744073709551616 := by omega
          have h5 : (mm : Int) < 18446744073709551616 := by omega
          have h6 : (0 : Int) ≤ (cP : Int) := by omega
          have h7 : (0 : Int) ≤ (mm : Int) := by omega
          by_cases hj9' : j = 9
          · have hc1' : ¬ (c2 : Int) > 1 := by omega
            have j9 : ((j : Int) == 9) = true := beq_iff_eq.2 (by omega)
            by_cases hb128 : b < 128
            · have t1 : (b : Int) < 128 := by omega
              by_cases hz : c2 = 0 ∧ 0 < j
              · obtain ⟨hz0, hj0⟩ := hz
                have HE := Lib.hid (show numP l = partC 0 0 0 4 by unfold numP; rw [HD.out, numR, if_neg (by omega), if_neg (by omega), if_pos (by omega), if_pos (by omega)])
                have z0 : ((c2 : Int) == 0) = true := beq_iff_eq.2 (by omega)
                clear HN HD HEQ hcc
                try clear hz0
                try clear hz
                try clear h9
                try clear hbad
                try clear hj9'
                go_wp2_with (refine store_blk (by rfl) 243 _ _ (by rfl) w.heap.size (by rfl) _ (partC 0 0 0 4) 243 HX.out (by rfl) rfl (by kernel_rfl) (one_part _ _ _ _) ?_)
                refine bodyPost_ret (results_cell_row rfl _ _ _ _ _ (0, 0) _ rfl (HX.out.setCells (partC 0 0 0 4) rfl) Tryd.underlying243 rfl (by kernel_rfl)) rfl ?_
                exact ⟨by rw [HE.out], Blk.Below.setCells _ _ _ HB.out (Nat.le_refl _)⟩
              · have hj1 : (j : Int) + 1 ≤ 11 := by omega
                have HE := Lib.hid (show numP l = partC mm 0 (j + 1) 0 by
                  unfold numP
                  rw [HD.out, numR, if_neg (by omega), if_neg (by omega), if_pos (by omega), if_neg (by omega), HEQ.out]
                  dsimp only
                  congr 1
                  rw [List.length_drop]; omega)
                by_cases hz0 : c2 = 0
                · exfalso
                  omega
                · have z0 : ((c2 : Int) == 0) = false := beq_eq_false_iff_ne.2 (by omega)
                  clear HN HD HEQ hcc
                  try clear hz0
                  try clear hz
                  try clear h9
                  try clear hbad
                  try clear hj9'
                  go_wp2_with (refine store_blk (by rfl) 243 _ _ (by rfl) w.heap.size (by rfl) _ (partC mm 0 (j + 1) 0) 243 HX.out (by rfl) rfl (by kernel_rfl) (one_part _ _ _ _) ?_)
                  refine bodyPost_ret (results_cell_row rfl _ _ _ _ _ (0, 0) _ rfl (HX.out.setCells (partC mm 0 (j + 1) 0) rfl) Tryd.underlying243 rfl (by kernel_rfl)) rfl ?_
                  exact ⟨by rw [HE.out], Blk.Below.setCells _ _ _ HB.out (Nat.le_refl _)⟩
            · have t1 : ¬ (b : Int) < 128 := by omega
              have HN2 := Lib.hid (show numR 0 0 l = numR (j + 1) mm (l.drop (j + 1)) by rw [HD.out, numR, if_neg (by omega), if_neg (by omega), if_neg (by omega), HEQ.out])
              have HM2 := Lib.hid (show mm < 128 ^ (j + 1) by rw [← HEQ.out]; have := HM.out; rw [← HP.out] at this; exact grp_next' (c := b % 128) (by omega) this)
              clear HN HD HEQ HM hcc
              try clear h9
              try clear hbad
              try clear hj9'
              by_cases hj9 : j = 9
              · have HJ := Lib.hid hj9
                clear hj9
                go_wp2_with fail
                go_round
                case rel => exact ⟨j + 1, mm, _, by omega, by omega, by go_num, rfl, rfl, fun h => by have := HJ.out; omega, HN2, HM2⟩
                case measure => simp [intOf]; omega
              · have hq := grp_by (j := j) (by omega)
                rw [HP.out] at hq
                have hq2 : (P : Int) * 128 < 18446744073709551616 := by omega
                have HQ := Lib.hid (show (P : Int) * 128 = ((128 ^ (j + 1) : Nat) : Int) by rw [← HP.out, Nat.pow_succ]; simp)
                go_wp2_with fail
                go_round
                case rel => exact ⟨j + 1, mm, _, by omega, by omega, by go_num, rfl, rfl, fun _ => by rw [← HQ.out], HN2, HM2⟩
                case measure => simp [intOf]; omega
          · have j9 : ((j : Int) == 9) = false := beq_eq_false_iff_ne.2 (by omega)
            by_cases hb128 : b < 128
            · have t1 : (b : Int) < 128 := by omega
              by_cases hz : c2 = 0 ∧ 0 < j
              · obtain ⟨hz0, hj0⟩ := hz
                have HE := Lib.hid (show numP l = partC 0 0 0 4 by unfold numP; rw [HD.out, numR, if_neg (by omega), if_neg (by omega), if_pos (by omega), if_pos (by omega)])
                have z0 : ((c2 : Int) == 0) = true := beq_iff_eq.2 (by omega)
                clear HN HD HEQ hcc
                try clear hz0
                try clear hz
                try clear h9
                try clear hbad
                try clear hj9'
                go_wp2_with (refine store_blk (by rfl) 243 _ _ (by rfl) w.heap.size (by rfl) _ (partC 0 0 0 4) 243 HX.out (by rfl) rfl (by kernel_rfl) (one_part _ _ _ _) ?_)
                refine bodyPost_ret (results_cell_row rfl _ _ _ _ _ (0, 0) _ rfl (HX.out.setCells (partC 0 0 0 4) rfl) Tryd.underlying243 rfl (by kernel_rfl)) rfl ?_
                exact ⟨by rw [HE.out], Blk.Below.setCells _ _ _ HB.out (Nat.le_refl _)⟩
              · have hj1 : (j : Int) + 1 ≤ 11 := by omega
                have HE := Lib.hid (show numP l = partC mm 0 (j + 1) 0 by
                  unfold numP
                  rw [HD.out, numR, if_neg (by omega), if_neg (by omega), if_pos (by omega), if_neg (by omega), HEQ.out]
                  dsimp only
                  congr 1
                  rw [List.length_drop]; omega)
                by_cases hz0 : c2 = 0
                · have HZ0 := Lib.hid (show c2 = 0 ∧ ¬ 0 < j by omega)
                  clear HN HD HEQ hcc hz0
                  try clear hz
                  try clear h9
                  try clear hbad
                  try clear hj9'
                  go_upto_region 13 with fail
                  have z0 : ((c2 : Int) == 0) = true := beq_iff_eq.2 (by have := HZ0.out; omega)
                  have z1 : decide (0 < j) = false := by have := HZ0.out; simp; omega
                  clear e1 e2 e3 cj h10 hjl hlt g1 hj hl hc1 hb hb128 hc128 c00 hmul h4 h6
                  go_upto_region 15 with fail
                  clear z0 z1
                  go_wp2_with (refine store_blk (by rfl) 243 _ _ (by rfl) w.heap.size (by rfl) _ (partC mm 0 (j + 1) 0) 243 HX.out (by rfl) rfl (by kernel_rfl) (one_part _ _ _ _) ?_)
                  refine bodyPost_ret (results_cell_row rfl _ _ _ _ _ (0, 0) _ rfl (HX.out.setCells (partC mm 0 (j + 1) 0) rfl) Tryd.underlying243 rfl (by kernel_rfl)) rfl ?_
                  exact ⟨by rw [HE.out], Blk.Below.setCells _ _ _ HB.out (Nat.le_refl _)⟩
                · have z0 : ((c2 : Int) == 0) = false := beq_eq_false_iff_ne.2 (by omega)
                  clear HN HD HEQ hcc
                  try clear hz0
                  try clear hz
                  try clear h9
                  try clear hbad
                  try clear hj9'
                  go_wp2_with (refine store_blk (by rfl) 243 _ _ (by rfl) w.heap.size (by rfl) _ (partC mm 0 (j + 1) 0) 243 HX.out (by rfl) rfl (by kernel_rfl) (one_part _ _ _ _) ?_)
                  refine bodyPost_ret (results_cell_row rfl _ _ _ _ _ (0, 0) _ rfl (HX.out.setCells (partC mm 0 (j + 1) 0) rfl) Tryd.underlying243 rfl (by kernel_rfl)) rfl ?_
                  exact ⟨by rw [HE.out], Blk.Below.setCells _ _ _ HB.out (Nat.le_refl _)⟩
            · have t1 : ¬ (b : Int) < 128 := by omega
              have HN2 := Lib.hid (show numR 0 0 l = numR (j + 1) mm (l.drop (j + 1)) by rw [HD.out, numR, if_neg (by omega), if_neg (by omega), if_neg (by omega), HEQ.out])
              have HM2 := Lib.hid (show mm < 128 ^ (j + 1) by rw [← HEQ.out]; have := HM.out; rw [← HP.out] at this; exact grp_next' (c := b % 128) (by omega) this)
              clear HN HD HEQ HM hcc
              try clear h9
              try clear hbad
              try clear hj9'
              by_cases hj9 : j = 9
              · have HJ := Lib.hid hj9
                clear hj9
                go_wp2_with fail
                go_round
                case rel => exact ⟨j + 1, mm, _, by omega, by omega, by go_num, rfl, rfl, fun h => by have := HJ.out; omega, HN2, HM2⟩
                case measure => simp [intOf]; omega
              · have hq := grp_by (j := j) (by omega)
                rw [HP.out] at hq
                have hq2 : (P : Int) * 128 < 18446744073709551616 := by omega
                have HQ := Lib.hid (show (P : Int) * 128 = ((128 ^ (j + 1) : Nat) : Int) by rw [← HP.out, Nat.pow_succ]; simp)
                go_wp2_with fail
                go_round
                case rel => exact ⟨j + 1, mm, _, by omega, by omega, by go_num, rfl, rfl, fun _ => by rw [← HQ.out], HN2, HM2⟩
                case measure => simp [intOf]; omega
      · have g1 : (l.length : Int) ≤ (j : Int) := by omega
        have HE := Lib.hid (show numP l = partC 0 0 0 3 by unfold numP; rw [HN.out, List.drop_of_length_le (by omega), numR, if_neg (by omega)])
        go_wp2_with (refine store_blk (by rfl) 243 _ _ (by rfl) w.heap.size (by rfl) _ (partC 0 0 0 3) 243 HX.out (by rfl) rfl (by kernel_rfl) (one_part _ _ _ _) ?_)
        refine bodyPost_ret (results_cell_row rfl _ _ _ _ _ (0, 0) _ rfl (HX.out.setCells (partC 0 0 0 3) rfl) Tryd.underlying243 rfl (by kernel_rfl)) rfl ?_
        exact ⟨by rw [HE.out], Blk.Below.setCells _ _ _ HB.out (Nat.le_refl _)⟩
end Go.Proofs.YtmkcooamgojbpaaDoor.Octets

/- damperref05's reader: take, one, num, signed. -/
namespace Go.Proofs.YtmkcooamgojbpaaDoor.Octets
open Go.RowKit Go.Proofs.YtmkcooamgojbpaaDoor.Kit Go.Proofs.YtmkcooamgojbpaaDoor.Blk Go.Proofs.YtmkcooamgojbpaaDoor.Cmds
attribute [local go_sem ↓] Go.wp_at_zero Go.wp_at_succ
set_option linter.unusedVariables false

/-- The document's reader at P, its bytes below it: a fault, or what is left. -/
def RdD (P : Nat) (st : Int ⊕ List Nat) (W : World) : Prop :=
  ∃ l v, (∀ b ∈ l, b < 256) ∧ l.length ≤ 100000 ∧ Blk W P #[v, .int .i64 (faultR st)] 218 ∧ AtB 0 P l v W ∧ (st = .inr l ∨ ∃ f, f ≠ 0 ∧ st = .inl f)
theorem RdD.below {P n : Nat} {st : Int ⊕ List Nat} {W W' : World} (h : RdD P st W) (hP : P < n) (hb : Below n W W') : RdD P st W' := by
  obtain ⟨l, v, h1, h2, h3, h4, h5⟩ := h
  exact ⟨l, v, h1, h2, h3.below hb hP, h4.below (by omega) hb, h5⟩
theorem RdD.lt {P : Nat} {st : Int ⊕ List Nat} {W : World} (h : RdD P st W) : P < W.heap.size := by obtain ⟨l, v, h1, h2, h3, h4, h5⟩ := h; exact h3.lt
theorem RdD.chg {P n d : Nat} {st : Int ⊕ List Nat} {W W' : World} (h : RdD P st W) (hP : P < n) (hd : P < d) (hc : Chg n d W W') : RdD P st W' := by
  obtain ⟨l, v, h1, h2, h3, h4, h5⟩ := h
  exact ⟨l, v, h1, h2, hc.blk hP (by omega) h3, h4.chg (by omega) (by omega) hc, h5⟩
def RdDIs (P : Nat) (st : Int ⊕ List Nat) (v : Value) (w : World) (e : Ending) (w' : World) : Prop := e = .returned v ∧ RdD P st w' ∧ Chg w.heap.size P w w'
theorem take_fault (P : Nat) (f : Int) (n : Nat) (s : Int) (z : Nat) (g : Int) (w : World) (h : RdD P (.inl f) w) :
    Calls Tryd.prog 206 #[.pointer (some ⟨P, 0, none⟩), .agg (partC n s z g)] w (RdDIs P (.inl f) (.agg (partC 0 0 0 0)) w) := by
  have hP := h.lt
  have HR := Lib.hid (h.below hP ((((Below.refl w.heap.size w).alloc (Nat.le_refl _) (.cells (partC n s z g) 243))).alloc (by simp) (.cells (partC 0 0 0 0) 243)))
  obtain ⟨l, v, hby, hl, hb, hat, hst⟩ := h
  have hf : f ≠ 0 := by
    rcases hst with e | ⟨g, hg, e⟩
    · cases e
    · injection e with e; subst e; exact hg
  have b1 : (f != 0) = true := by simpa using hf
  have HX := Lib.hid (Blk.new (w.alloc (.cells (partC n s z g) 243)) (partC 0 0 0 0) 243 (w.heap.size + 1) (by simp))
  have c1 : w.cell? ⟨P, 1, none⟩ = some (.int .i64 f) := hb.cell 1 rfl
  clear hb hat hst hf
  go_enter Tryd.func206, Tryd.ntmps206
  go_wp2_with (refine store_blk (by rfl) 243 _ _ (by rfl) (w.heap.size + 1) (by rfl) _ (partC 0 0 0 0) 243 HX.out (by rfl) rfl (by kernel_rfl) (one_part _ _ _ _) ?_)
  refine bodyPost_ret (results_cell_row rfl _ _ _ _ _ (0, 0) _ rfl (HX.out.setCells (partC 0 0 0 0) rfl) Tryd.underlying243 rfl (by kernel_rfl)) rfl ?_
  have hbel := Blk.Below.setCells (partC 0 0 0 0).toList 0 _ (Below.refl (w.heap.size + 1) ((w.alloc (.cells (partC n s z g) 243)).alloc (.cells (partC 0 0 0 0) 243))) (B := w.heap.size + 1) (Nat.le_refl _)
  exact ⟨rfl, HR.out.below (by omega) hbel, ((((Chg.refl w.heap.size P w).alloc (Nat.le_refl _) _).alloc (by simp) _).step (hbel.mono (by omega)))⟩
/-- What is left behind a reading. -/
def leftD (f : Int) (z : Nat) (l : List Nat) : Int ⊕ List Nat := if f = 0 then .inr (l.drop z) else .inl f
theorem left_fault (f : Int) (z : Nat) (l : List Nat) : faultR (leftD f z l) = f := by
  unfold leftD
  split
  · rename_i h; exact h.symm
  · rfl
set_option maxRecDepth 20000 in
set_option maxHeartbeats 1000000 in
theorem take_good (P : Nat) (l : List Nat) (n : Nat) (s : Int) (z : Nat) (f : Int) (hz : z ≤ l.length) (hf : f ≠ 0 → z = 0) (w : World) (h : RdD P (.inr l) w) :
    Calls Tryd.prog 206 #[.pointer (some ⟨P, 0, none⟩), .agg (partC n s z f)] w (RdDIs P (leftD f z l) (.agg (partC n s z f)) w) := by
  have hP := h.lt
  have H := Lib.hid (h.below hP ((((Below.refl w.heap.size w).alloc (Nat.le_refl _) (.cells (partC n s z f) 243))).alloc (by simp) (.cells (partC 0 0 0 0) 243)))
  have HC := Lib.hid (((Chg.refl w.heap.size P w).alloc (Nat.le_refl _) (.cells (partC n s z f) 243)).alloc (by simp) (.cells (partC 0 0 0 0) 243))
  have HX := Lib.hid (Blk.new (w.alloc (.cells (partC n s z f) 243)) (partC 0 0 0 0) 243 (w.heap.size + 1) (by simp))
  have HP := Lib.hid ((Blk.new w (partC n s z f) 243 w.heap.size rfl).old (.cells (partC 0 0 0 0) 243))
  clear h
  go_enter Tryd.func206, Tryd.ntmps206
  go_upto_region 1 with fail
  change Code.wp _ _ _ _ ((w.alloc (.cells (partC n s z f) 243)).alloc (.cells (partC 0 0 0 0) 243))
  generalize (w.alloc (.cells (partC n s z f) 243)).alloc (.cells (partC 0 0 0 0) 243) = w1 at H HC HX HP ⊢
  obtain ⟨l', v, hby, hl, hb, hat, hst⟩ := H.out
  have hll : l = l' := by
    rcases hst with e | ⟨g, -, e⟩
    · injection e
    · cases e
  subst hll
  obtain ⟨a, c, rfl, hc1, hc2⟩ := hat.len
  have HBY := Lib.hid hby
  have HBL := Lib.hid hb
  have HAT := Lib.hid hat
  clear H hby hb hat hst
  have c0 : w1.cell? ⟨P, 0, none⟩ = some (.slice a l.length c) := HBL.out.cell 0 rfl
  have c1 : w1.cell? ⟨P, 1, none⟩ = some (.int .i64 0) := HBL.out.cell 1 rfl
  have f1 := HBL.out.free 1
  have k4 : w1.cell? ⟨w.heap.size, 4, none⟩ = some (.int .i64 f) := HP.out.cell 4 rfl
  have HFL := Lib.hid (left_fault f z l)
  have HST := Lib.hid (show leftD f z l = .inr (l.drop z) ∨ ∃ g, g ≠ 0 ∧ leftD f z l = .inl g by
    unfold leftD
    split
    · exact .inl rfl
    · rename_i h; exact .inr ⟨f, h, rfl⟩)
  have HBD := Lib.hid (show ∀ b ∈ l.drop z, b < 256 from fun b hm => HBY.out b (List.mem_of_mem_drop hm))
  have hPw : ¬ w.heap.size + 1 = P := by omega
  have hPw0 : ¬ w.heap.size = P := by omega
  go_upto_region 4 with fail
  have HBL2 := Lib.hid (show Blk (w1.setCell ⟨P, 1, none⟩ (.int .i64 f)) P #[.slice a l.length c, .int .i64 f] 218 from HBL.out.set 1 _)
  replace HX := Lib.hid (HX.out.apart ⟨P, 1, none⟩ (.int .i64 f) (by show P ≠ _; omega))
  replace HP := Lib.hid (HP.out.apart ⟨P, 1, none⟩ (.int .i64 f) (by show P ≠ _; omega))
  replace HC := Lib.hid (HC.out.setCell ⟨P, 1, none⟩ (.int .i64 f) (.inl rfl))
  replace HAT := Lib.hid (HAT.out.chg (n := w1.heap.size) (P := P) (by have := HBL.out.lt; omega) (.inr (Nat.le_refl _)) ((Chg.refl _ _ _).setCell ⟨P, 1, none⟩ (.int .i64 f) (.inl rfl)))
  clear c0 c1 f1 k4 HBL
  generalize w1.setCell ⟨P, 1, none⟩ (.int .i64 f) = w2 at HBL2 HX HP HC HAT ⊢
  have c0 : w2.cell? ⟨P, 0, none⟩ = some (.slice a l.length c) := HBL2.out.cell 0 rfl
  have f0 : w2.drew.frozen? ⟨P, 0, none⟩ = false := HBL2.out.drew.free 0
  have d0 : w2.drew.cell? ⟨P, 0, none⟩ = some (.slice a l.length c) := HBL2.out.drew.cell 0 rfl
  have k3 : w2.cell? ⟨w.heap.size, 3, none⟩ = some (.int .i64 (z : Int)) := HP.out.cell 3 rfl
  unfold maxLen at hc2
  have g1 : (z : Int) ≤ (l.length : Int) := by omega
  have g2 : (z : Int) ≤ (c : Int) := by omega
  have g3 : (l.length : Int) ≤ (c : Int) := by omega
  rcases HAT.out with ⟨h1, h2⟩ | ⟨g, o, c', he, -, -, h4, h5, h6⟩
  · injection h2 with h2 h3 h7
    subst h2 h1
    obtain rfl : z = 0 := by simpa using hz
    obtain rfl : c = 0 := h7
    refine wp_region_still_tail 10 (by kernel_rfl) (by kernel_rfl) ?_
    simp only [List.take_succ_cons, List.take_zero, List.drop_succ_cons, List.drop_zero]
    repeat still_step
    refine wpStill_nil ?_
    change wpList _ _ _ _ _ w2.drew
    go_upto_region 5 with fail
    have HBL3 := Lib.hid (show Blk (w2.drew.setCell ⟨P, 0, none⟩ (.slice none 0 0)) P #[(.slice none 0 0), .int .i64 f] 218 from HBL2.out.drew.set 0 _)
    replace HX := Lib.hid (HX.out.drew.apart ⟨P, 0, none⟩ (.slice none 0 0) (by show P ≠ _; omega))
    replace HP := Lib.hid (HP.out.drew.apart ⟨P, 0, none⟩ (.slice none 0 0) (by show P ≠ _; omega))
    replace HC := Lib.hid (HC.out.drew.setCell ⟨P, 0, none⟩ (.slice none 0 0) (.inl rfl))
    have HA3 := Lib.hid (show AtB 0 P (([] : List Nat).drop 0) (.slice none 0 0) (w2.drew.setCell ⟨P, 0, none⟩ (.slice none 0 0)) from AtB.chg (n := w2.heap.size) (P := P) (W := w2.drew) (.inl ⟨rfl, rfl⟩) (by have := HBL2.out.lt; omega) (.inr (Nat.le_refl _)) ((Chg.refl _ _ _).setCell ⟨P, 0, none⟩ (.slice none 0 0) (.inl rfl)))
    change Code.wp _ _ _ _ (w2.drew.setCell ⟨P, 0, none⟩ (.slice none 0 0))
    generalize w2.drew.setCell ⟨P, 0, none⟩ (.slice none 0 0) = w3 at HBL3 HX HP HC HA3 ⊢
    go_wp2_with (first
      | (refine load_blk (by rfl) 243 _ (by rfl) w.heap.size (by rfl) _ _ HP.out _ Tryd.underlying243 rfl (by kernel_rfl) ?_)
      | (refine store_blk (by rfl) 243 _ _ (by rfl) (w.heap.size + 1) (by rfl) _ (partC n s 0 f) 243 HX.out (by rfl) rfl (by kernel_rfl) (one_part _ _ _ _) ?_))
    refine bodyPost_ret (results_cell_row rfl _ _ _ _ _ (0, 0) _ rfl (HX.out.setCells (partC n s 0 f) rfl) Tryd.underlying243 rfl (by kernel_rfl)) rfl ?_
    have hbel := Blk.Below.setCells (partC n s 0 f).toList 0 _ (Below.refl (w.heap.size + 1) w3) (B := w.heap.size + 1) (Nat.le_refl _)
    exact ⟨rfl, RdD.below ⟨([] : List Nat).drop 0, _, HBD.out, by rw [List.length_drop]; omega, by rw [HFL.out]; exact HBL3.out, HA3.out, HST.out⟩ (by omega) hbel, HC.out.step (hbel.mono (by omega))⟩
  · injection he with he1 he2 he3
    subst he1 he3
    have HC6 := Lib.hid h6
    clear h6
    by_cases hc : z = c
    · obtain rfl : l.length = z := by omega
      subst hc
      have hd : l.drop l.length = [] := List.drop_length
      refine wp_region_still_tail 10 (by kernel_rfl) (by kernel_rfl) ?_
      simp only [List.take_succ_cons, List.take_zero, List.drop_succ_cons, List.drop_zero]
      repeat still_step
      refine wpStill_nil ?_
      change wpList _ _ _ _ _ w2.drew
      go_upto_region 5 with fail
      have HBL3 := Lib.hid (show Blk (w2.drew.setCell ⟨P, 0, none⟩ (.slice (some ⟨g, o, none⟩) 0 0)) P #[(.slice (some ⟨g, o, none⟩) 0 0), .int .i64 f] 218 from HBL2.out.drew.set 0 _)
      replace HX := Lib.hid (HX.out.drew.apart ⟨P, 0, none⟩ (.slice (some ⟨g, o, none⟩) 0 0) (by show P ≠ _; omega))
      replace HP := Lib.hid (HP.out.drew.apart ⟨P, 0, none⟩ (.slice (some ⟨g, o, none⟩) 0 0) (by show P ≠ _; omega))
      replace HC := Lib.hid (HC.out.drew.setCell ⟨P, 0, none⟩ (.slice (some ⟨g, o, none⟩) 0 0) (.inl rfl))
      have HA3 := Lib.hid (show AtB 0 P ((l : List Nat).drop l.length) (.slice (some ⟨g, o, none⟩) 0 0) (w2.drew.setCell ⟨P, 0, none⟩ (.slice (some ⟨g, o, none⟩) 0 0)) from AtB.chg (n := w2.heap.size) (P := P) (W := w2.drew) (by rw [hd]; exact .inr ⟨g, o, 0, rfl, Nat.le_refl _, Nat.zero_le _, h4, h5, fun i hi => absurd hi (by simp)⟩) (by have := HBL2.out.lt; omega) (.inr (Nat.le_refl _)) ((Chg.refl _ _ _).setCell ⟨P, 0, none⟩ (.slice (some ⟨g, o, none⟩) 0 0) (.inl rfl)))
      change Code.wp _ _ _ _ (w2.drew.setCell ⟨P, 0, none⟩ (.slice (some ⟨g, o, none⟩) 0 0))
      generalize w2.drew.setCell ⟨P, 0, none⟩ (.slice (some ⟨g, o, none⟩) 0 0) = w3 at HBL3 HX HP HC HA3 ⊢
      go_wp2_with (first
        | (refine load_blk (by rfl) 243 _ (by rfl) w.heap.size (by rfl) _ _ HP.out _ Tryd.underlying243 rfl (by kernel_rfl) ?_)
        | (refine store_blk (by rfl) 243 _ _ (by rfl) (w.heap.size + 1) (by rfl) _ (partC n s l.length f) 243 HX.out (by rfl) rfl (by kernel_rfl) (one_part _ _ _ _) ?_))
      refine bodyPost_ret (results_cell_row rfl _ _ _ _ _ (0, 0) _ rfl (HX.out.setCells (partC n s l.length f) rfl) Tryd.underlying243 rfl (by kernel_rfl)) rfl ?_
      have hbel := Blk.Below.setCells (partC n s l.length f).toList 0 _ (Below.refl (w.heap.size + 1) w3) (B := w.heap.size + 1) (Nat.le_refl _)
      exact ⟨rfl, RdD.below ⟨(l : List Nat).drop l.length, _, HBD.out, by rw [List.length_drop]; omega, by rw [HFL.out]; exact HBL3.out, HA3.out, HST.out⟩ (by omega) hbel, HC.out.step (hbel.mono (by omega))⟩
    · have hz' : z < c := by omega
      refine wp_region_still_tail 10 (by kernel_rfl) (by kernel_rfl) ?_
      simp only [List.take_succ_cons, List.take_zero, List.drop_succ_cons, List.drop_zero]
      repeat still_step
      refine wpStill_nil ?_
      change wpList _ _ _ _ _ w2.drew
      go_upto_region 5 with fail
      have HBL3 := Lib.hid (show Blk (w2.drew.setCell ⟨P, 0, none⟩ (.slice (some ⟨g, o + z, none⟩) (l.length - z) (c - z))) P #[(.slice (some ⟨g, o + z, none⟩) (l.length - z) (c - z)), .int .i64 f] 218 from HBL2.out.drew.set 0 _)
      replace HX := Lib.hid (HX.out.drew.apart ⟨P, 0, none⟩ (.slice (some ⟨g, o + z, none⟩) (l.length - z) (c - z)) (by show P ≠ _; omega))
      replace HP := Lib.hid (HP.out.drew.apart ⟨P, 0, none⟩ (.slice (some ⟨g, o + z, none⟩) (l.length - z) (c - z)) (by show P ≠ _; omega))
      replace HC := Lib.hid (HC.out.drew.setCell ⟨P, 0, none⟩ (.slice (some ⟨g, o + z, none⟩) (l.length - z) (c - z)) (.inl rfl))
      have HA3 := Lib.hid (show AtB 0 P ((l : List Nat).drop z) (.slice (some ⟨g, o + z, none⟩) (l.length - z) (c - z)) (w2.drew.setCell ⟨P, 0, none⟩ (.slice (some ⟨g, o + z, none⟩) (l.length - z) (c - z))) from AtB.chg (n := w2.heap.size) (P := P) (W := w2.drew) (atB_drop hz hc1 (by unfold maxLen; omega) h4 h5 HC6.out) (by have := HBL2.out.lt; omega) (.inr (Nat.le_refl _)) ((Chg.refl _ _ _).setCell ⟨P, 0, none⟩ (.slice (some ⟨g, o + z, none⟩) (l.length - z) (c - z)) (.inl rfl)))
      change Code.wp _ _ _ _ (w2.drew.setCell ⟨P, 0, none⟩ (.slice (some ⟨g, o + z, none⟩) (l.length - z) (c - z)))
      generalize w2.drew.setCell ⟨P, 0, none⟩ (.slice (some ⟨g, o + z, none⟩) (l.length - z) (c - z)) = w3 at HBL3 HX HP HC HA3 ⊢
      go_wp2_with (first
        | (refine load_blk (by rfl) 243 _ (by rfl) w.heap.size (by rfl) _ _ HP.out _ Tryd.underlying243 rfl (by kernel_rfl) ?_)
        | (refine store_blk (by rfl) 243 _ _ (by rfl) (w.heap.size + 1) (by rfl) _ (partC n s z f) 243 HX.out (by rfl) rfl (by kernel_rfl) (one_part _ _ _ _) ?_))
      refine bodyPost_ret (results_cell_row rfl _ _ _ _ _ (0, 0) _ rfl (HX.out.setCells (partC n s z f) rfl) Tryd.underlying243 rfl (by kernel_rfl)) rfl ?_
      have hbel := Blk.Below.setCells (partC n s z f).toList 0 _ (Below.refl (w.heap.size + 1) w3) (B := w.heap.size + 1) (Nat.le_refl _)
      exact ⟨rfl, RdD.below ⟨(l : List Nat).drop z, _, HBD.out, by rw [List.length_drop]; omega, by rw [HFL.out]; exact HBL3.out, HA3.out, HST.out⟩ (by omega) hbel, HC.out.step (hbel.mono (by omega))⟩
theorem part_field0 (n : Nat) (s : Int) (z : Nat) (f : Int) (w : World) : (Instr.field 243 (.agg (partC n s z f)) 0).run Tryd.prog w = .ok (.int .u64 (n : Int)) w := by kernel_rfl
theorem part_field1 (n : Nat) (s : Int) (z : Nat) (f : Int) (w : World) : (Instr.field 243 (.agg (partC n s z f)) 1).run Tryd.prog w = .ok (.int .i64 s) w := by kernel_rfl
theorem rd_bad {α : Type} {r : List Nat → Rd α} {z : α} {l : List Nat} {f : Int} (e : r l = .bad f) (hf : f ≠ 0) : rdF r z (.inr l : Int ⊕ List Nat) = (z, leftD f 0 l) := by
  unfold rdF leftD
  dsimp only
  rw [e, if_neg hf]
theorem rd_ok {α : Type} {r : List Nat → Rd α} {z x : α} {l m : List Nat} {k : Nat} (e : r l = .ok x m) (hm : l.drop k = m) : rdF r z (.inr l : Int ⊕ List Nat) = (x, leftD 0 k l) := by
  unfold rdF leftD
  dsimp only
  rw [e, if_pos rfl, hm]
theorem uint_ok {k : Nat} {l m : List Nat} {n : Nat} (e : uintR k l = .ok n m) : k ≤ l.length ∧ l.drop k = m := by
  unfold uintR at e
  split at e
  · cases e
  · injection e with e1 e2
    exact ⟨by omega, e2⟩
theorem one_part_of (l : List Nat) (hby : ∀ b ∈ l, b < 256) : ∃ n z f, uintP 1 l = partC n 0 z f ∧ z ≤ l.length ∧ (f ≠ 0 → z = 0) ∧ one2 (.inr l) = (n, leftD f z l) ∧ n < 256 := by
  unfold one2 uintP
  cases e : uintR 1 l with
  | bad f => exact ⟨0, 0, f, rfl, Nat.zero_le _, fun _ => rfl, rd_bad e (uint_bad_ne _ _ _ e), by decide⟩
  | ok n m => exact ⟨n, 1, 0, rfl, (uint_ok e).1, fun h => absurd rfl h, rd_ok e (uint_ok e).2, by simpa using (uintR_of hby e).2⟩
theorem num_part_of (l : List Nat) (hby : ∀ b ∈ l, b < 256) : ∃ n z f, numP l = partC n 0 z f ∧ z ≤ l.length ∧ (f ≠ 0 → z = 0) ∧ num2 (.inr l) = (n, leftD f z l) ∧ n < 18446744073709551616 := by
  unfold num2 numP
  cases e : numR 0 0 l with
  | bad f => exact ⟨0, 0, f, rfl, Nat.zero_le _, fun _ => rfl, rd_bad e (num_bad_ne _ _ _ _ e), by decide⟩
  | ok n m =>
    obtain ⟨h1, h2⟩ := numR_of hby e
    refine ⟨n, l.length - m.length, 0, rfl, by omega, fun h => absurd rfl h, rd_ok e ?_, h2⟩
    rw [h1, List.length_append, Nat.add_sub_cancel, List.drop_left]
theorem int_part_of (l : List Nat) (hby : ∀ b ∈ l, b < 256) : ∃ s z f, intP l = partC 0 s z f ∧ z ≤ l.length ∧ (f ≠ 0 → z = 0) ∧ int2 (.inr l) = (s, leftD f z l) := by
  unfold int2 intP
  cases e : uintR 8 l with
  | bad f => exact ⟨0, 0, f, rfl, Nat.zero_le _, fun _ => rfl, rd_bad (by unfold intR; rw [e]) (uint_bad_ne _ _ _ e)⟩
  | ok n m => exact ⟨zag n, 8, 0, rfl, (uint_ok e).1, fun h => absurd rfl h, rd_ok (by unfold intR; rw [e]) (uint_ok e).2⟩
set_option maxRecDepth 20000 in
theorem rone_any (P : Nat) (st : Int ⊕ List Nat) (w : World) (h : RdD P st w) :
    Calls Tryd.prog 174 #[.pointer (some ⟨P, 0, none⟩)] w (RdDIs P (one2 st).2 (.int .i64 ((one2 st).1 : Nat)) w) := by
  have hfd := part_field0
  have H := Lib.hid h
  obtain ⟨l, v, hby, hl, hb, hat, hst⟩ := h
  obtain ⟨n, z, f, hp, hz, hf, he, hn⟩ := one_part_of l hby
  have HU := Lib.hid (readUint_any 0 P 1 (by omega) (by omega) l hl hby v w hat (Nat.le_of_lt hb.lt))
  rw [hp] at HU
  obtain ⟨a, c, rfl, -, -⟩ := hat.len
  have c0 : w.cell? ⟨P, 0, none⟩ = some (.slice a l.length c) := hb.cell 0 rfl
  have HZ := Lib.hid hz
  have HF := Lib.hid hf
  have HV := Lib.hid he
  clear hb hby hp hz hf he hat
  go_enter Tryd.func174, Tryd.ntmps174
  go_wp2_with fail
  refine HU.out.mono ?_
  rintro e w1 ⟨rfl, hb1⟩
  replace H := Lib.hid (H.out.below H.out.lt hb1)
  have HC := Lib.hid (show Chg w.heap.size P w w1 from Chg.of hb1)
  clear hb1 HU c0
  rcases hst with rfl | ⟨g, hg, rfl⟩
  · have HT := Lib.hid (fun n s => take_good P l n s z f HZ.out HF.out w1 H.out)
    go_wp2_with fail
    refine (HT.out _ _).mono ?_
    rintro e w2 ⟨rfl, hr, hc⟩
    have HR := Lib.hid hr
    replace HC := Lib.hid (HC.out.trans (hc.mono HC.out.size))
    clear hr hc HT H
    go_wp2_with fail
    go_ret
    rw [HV.out]
    exact ⟨rfl, HR.out, HC.out⟩
  · have HT := Lib.hid (fun n s z f => take_fault P g n s z f w1 H.out)
    go_wp2_with fail
    refine (HT.out _ _ _ _).mono ?_
    rintro e w2 ⟨rfl, hr, hc⟩
    have HR := Lib.hid hr
    replace HC := Lib.hid (HC.out.trans (hc.mono HC.out.size))
    clear hr hc HT H
    go_wp2_with fail
    go_ret
    exact ⟨rfl, HR.out, HC.out⟩
set_option maxRecDepth 20000 in
theorem rnum2_any (P : Nat) (st : Int ⊕ List Nat) (w : World) (h : RdD P st w) :
    Calls Tryd.prog 175 #[.pointer (some ⟨P, 0, none⟩)] w (RdDIs P (num2 st).2 (.int .u64 ((num2 st).1 : Nat)) w) := by
  have hfd := part_field0
  have H := Lib.hid h
  obtain ⟨l, v, hby, hl, hb, hat, hst⟩ := h
  obtain ⟨n, z, f, hp, hz, hf, he, hn⟩ := num_part_of l hby
  have HU := Lib.hid (readNum_any 0 P l hl hby v w hat (Nat.le_of_lt hb.lt))
  rw [hp] at HU
  obtain ⟨a, c, rfl, -, -⟩ := hat.len
  have c0 : w.cell? ⟨P, 0, none⟩ = some (.slice a l.length c) := hb.cell 0 rfl
  have HZ := Lib.hid hz
  have HF := Lib.hid hf
  have HV := Lib.hid he
  clear hb hby hp hz hf he hat
  go_enter Tryd.func175, Tryd.ntmps175
  go_wp2_with fail
  refine HU.out.mono ?_
  rintro e w1 ⟨rfl, hb1⟩
  replace H := Lib.hid (H.out.below H.out.lt hb1)
  have HC := Lib.hid (show Chg w.heap.size P w w1 from Chg.of hb1)
  clear hb1 HU c0
  rcases hst with rfl | ⟨g, hg, rfl⟩
  · have HT := Lib.hid (fun n s => take_good P l n s z f HZ.out HF.out w1 H.out)
    go_wp2_with fail
    refine (HT.out _ _).mono ?_
    rintro e w2 ⟨rfl, hr, hc⟩
    have HR := Lib.hid hr
    replace HC := Lib.hid (HC.out.trans (hc.mono HC.out.size))
    clear hr hc HT H
    go_wp2_with fail
    go_ret
    rw [HV.out]
    exact ⟨rfl, HR.out, HC.out⟩
  · have HT := Lib.hid (fun n s z f => take_fault P g n s z f w1 H.out)
    go_wp2_with fail
    refine (HT.out _ _ _ _).mono ?_
    rintro e w2 ⟨rfl, hr, hc⟩
    have HR := Lib.hid hr
    replace HC := Lib.hid (HC.out.trans (hc.mono HC.out.size))
    clear hr hc HT H
    go_wp2_with fail
    go_ret
    exact ⟨rfl, HR.out, HC.out⟩
set_option maxRecDepth 20000 in
theorem rsigned_any (P : Nat) (st : Int ⊕ List Nat) (w : World) (h : RdD P st w) :
    Calls Tryd.prog 176 #[.pointer (some ⟨P, 0, none⟩)] w (RdDIs P (int2 st).2 (.int .i64 (int2 st).1) w) := by
  have hfd := part_field1
  have H := Lib.hid h
  obtain ⟨l, v, hby, hl, hb, hat, hst⟩ := h
  obtain ⟨n, z, f, hp, hz, hf, he⟩ := int_part_of l hby
  have HU := Lib.hid (readInt_any 0 P l hl hby v w hat (Nat.le_of_lt hb.lt))
  rw [hp] at HU
  obtain ⟨a, c, rfl, -, -⟩ := hat.len
  have c0 : w.cell? ⟨P, 0, none⟩ = some (.slice a l.length c) := hb.cell 0 rfl
  have HZ := Lib.hid hz
  have HF := Lib.hid hf
  have HV := Lib.hid he
  clear hb hby hp hz hf he hat
  go_enter Tryd.func176, Tryd.ntmps176
  go_wp2_with fail
  refine HU.out.mono ?_
  rintro e w1 ⟨rfl, hb1⟩
  replace H := Lib.hid (H.out.below H.out.lt hb1)
  have HC := Lib.hid (show Chg w.heap.size P w w1 from Chg.of hb1)
  clear hb1 HU c0
  rcases hst with rfl | ⟨g, hg, rfl⟩
  · have HT := Lib.hid (fun n s => take_good P l n s z f HZ.out HF.out w1 H.out)
    go_wp2_with fail
    refine (HT.out _ _).mono ?_
    rintro e w2 ⟨rfl, hr, hc⟩
    have HR := Lib.hid hr
    replace HC := Lib.hid (HC.out.trans (hc.mono HC.out.size))
    clear hr hc HT H
    go_wp2_with fail
    go_ret
    rw [HV.out]
    exact ⟨rfl, HR.out, HC.out⟩
  · have HT := Lib.hid (fun n s z f => take_fault P g n s z f w1 H.out)
    go_wp2_with fail
    refine (HT.out _ _ _ _).mono ?_
    rintro e w2 ⟨rfl, hr, hc⟩
    have HR := Lib.hid hr
    replace HC := Lib.hid (HC.out.trans (hc.mono HC.out.size))
    clear hr hc HT H
    go_wp2_with fail
    go_ret
    exact ⟨rfl, HR.out, HC.out⟩
end Go.Proofs.YtmkcooamgojbpaaDoor.Octets

/- damperref05.Decode. -/
namespace Go.Proofs.YtmkcooamgojbpaaDoor.Cmds
open Go.RowKit Go.Proofs.YtmkcooamgojbpaaDoor.Kit Go.Proofs.YtmkcooamgojbpaaDoor.Blk Go.Proofs.YtmkcooamgojbpaaDoor.Octets
attribute [local go_sem ↓] Go.wp_at_zero Go.wp_at_succ
set_option linter.unusedVariables false

/-- Where the document's Decode stands: its answer's block, the reader, the command. -/
structure DdS (w W : World) (C P : Nat) (cs : Array Value) (st : Int ⊕ List Nat) : Prop where
  z : Blk W w.heap.size zero9 164
  c : Blk W C cs 164
  r : RdD P st W
  bel : Below w.heap.size w W
  zP : w.heap.size < P
  PC : P < C
section
variable {w W W' : World} {C P : Nat} {cs : Array Value} {st st' : Int ⊕ List Nat}
theorem DdS.read (h : DdS w W C P cs st) (hr : RdD P st' W') (hc : Chg W.heap.size P W W') : DdS w W' C P cs st' :=
  ⟨hc.blk h.z.lt (by have := h.zP; omega) h.z, hc.blk h.c.lt (by have := h.PC; omega) h.c, hr, h.bel.trans (hc.below' (m := w.heap.size) (by have := h.zP; omega) h.bel.size), h.zP, h.PC⟩
theorem DdS.store (h : DdS w W C P cs st) (j : Nat) (v : Value) : DdS w (W.setCell ⟨C, j, none⟩ v) C P (cs.setIfInBounds j v) st := by
  have hc : Chg W.heap.size C W (W.setCell ⟨C, j, none⟩ v) := (Chg.refl _ _ _).setCell _ _ (.inl rfl)
  have h1 := h.zP
  have h2 := h.PC
  exact ⟨hc.blk h.z.lt (by omega) h.z, h.c.set j v, h.r.chg h.r.lt h2 hc, h.bel.trans (hc.below' (m := w.heap.size) (by omega) h.bel.size), h1, h2⟩
theorem DdS.below (h : DdS w W C P cs st) (hb : Below W.heap.size W W') : DdS w W' C P cs st := ⟨h.z.below hb h.z.lt, h.c.below hb h.c.lt, h.r.below h.r.lt hb, h.bel.trans (hb.mono h.bel.size), h.zP, h.PC⟩
theorem DdS.drew (h : DdS w W C P cs st) : DdS w W.drew C P cs st := h.below (Below.refl _ _).drew
theorem DdS.fault (h : DdS w W C P cs st) : W.cell? ⟨P, 1, none⟩ = some (.int .i64 (faultR st)) := by obtain ⟨l, v, h1, h2, h3, h4, h5⟩ := h.r; exact h3.cell 1 rfl
theorem DdS.rblk (h : DdS w W C P cs st) : ∃ v, Blk W P #[v, .int .i64 (faultR st)] 218 := by obtain ⟨l, v, h1, h2, h3, h4, h5⟩ := h.r; exact ⟨v, h3⟩
theorem DdS.left {l : List Nat} (h : DdS w W C P cs (.inr l)) : ∃ a c, W.cell? ⟨P, 0, none⟩ = some (.slice a l.length c) := by
  obtain ⟨l', v, h1, h2, h3, h4, h5⟩ := h.r
  have e : l = l' := by
    rcases h5 with e | ⟨g, -, e⟩
    · injection e
    · cases e
  subst e
  obtain ⟨a, c, rfl, -, -⟩ := h4.len
  exact ⟨a, c, h3.cell 0 rfl⟩
theorem done_eq {n : Nat} (h : DdS w W C P cs st) (he : one2 st = (n, st')) : Calls Tryd.prog 174 #[.pointer (some ⟨P, 0, none⟩)] W fun e W' => e = .returned (.int .i64 (n : Nat)) ∧ DdS w W' C P cs st' := by
  have := rone_any P st W h.r
  rw [he] at this
  exact this.mono fun e W' ⟨h1, h2, h3⟩ => ⟨h1, h.read h2 h3⟩
theorem dnum_eq {n : Nat} (h : DdS w W C P cs st) (he : num2 st = (n, st')) : Calls Tryd.prog 175 #[.pointer (some ⟨P, 0, none⟩)] W fun e W' => e = .returned (.int .u64 (n : Nat)) ∧ DdS w W' C P cs st' := by
  have := rnum2_any P st W h.r
  rw [he] at this
  exact this.mono fun e W' ⟨h1, h2, h3⟩ => ⟨h1, h.read h2 h3⟩
theorem dint_eq {n : Int} (h : DdS w W C P cs st) (he : int2 st = (n, st')) : Calls Tryd.prog 176 #[.pointer (some ⟨P, 0, none⟩)] W fun e W' => e = .returned (.int .i64 n) ∧ DdS w W' C P cs st' := by
  have := rsigned_any P st W h.r
  rw [he] at this
  exact this.mono fun e W' ⟨h1, h2, h3⟩ => ⟨h1, h.read h2 h3⟩
end
theorem end_bad {k s i : Nat} {x : NewP} {y : Int × Int} {rest : List Nat} (h : 4611686018427387904 < i ∨ 1073741824 < x.a ∨ rest ≠ [] ∨ rightC (mkC k s i x y) = false) : decV (endR k s i x y rest) = (zeroC, 4) := by
  unfold endR
  rw [if_pos h]
  rfl
theorem end_good {k s i : Nat} {x : NewP} {y : Int × Int} (h1 : ¬ 4611686018427387904 < i) (h2 : ¬ 1073741824 < x.a) (h4 : rightC (mkC k s i x y) = true) : decV (endR k s i x y []) = (mkC k s i x y, 0) := by
  unfold endR
  rw [if_neg]
  · rfl
  · rintro (h | h | h | h)
    · exact h1 h
    · exact h2 h
    · exact h rfl
    · rw [h4] at h; cases h
set_option maxRecDepth 20000 in
set_option maxHeartbeats 4000000 in
theorem rdecode_nil (M : Nat) (hl : ([] : List Nat).length ≤ 100000) (hby : ∀ b ∈ ([] : List Nat), b < 256) (v : Value) (w : World) (h : AtB 0 M [] v w) (hM : M ≤ w.heap.size) :
    Calls Tryd.prog 115 #[v] w (DecIs [] w) := by
  obtain ⟨a, c, rfl, -, -⟩ := h.len
  have HV := Lib.hid (show decV (decF []) = (zeroC, 3) from rfl)
  have HZ0 := Lib.hid (Blk.new w zero9 164 w.heap.size rfl)
  have HA := Lib.hid (h.below hM ((Below.refl w.heap.size w).alloc (Nat.le_refl _) (.cells zero9 164)))
  have HB0 := Lib.hid ((Below.refl w.heap.size w).alloc (Nat.le_refl _) (.cells zero9 164))
  have hsz : (w.alloc (.cells zero9 164)).heap.size = w.heap.size + 1 := by simp
  have HSZ := Lib.hid hsz
  have HBY := Lib.hid hby
  clear h hby hsz
  go_enter Tryd.func115, Tryd.ntmps115
  go_upto_region 1 with fail
  change Code.wp _ _ _ _ (w.alloc (.cells zero9 164))
  generalize w.alloc (.cells zero9 164) = w1 at HZ0 HA HB0 HSZ ⊢
  go_wp2_with (refine store_blk (by rfl) 164 _ _ (by rfl) w.heap.size (by rfl) _ zero9 164 (HZ0).out (by rfl) rfl (by kernel_rfl) (one_cm zeroC) ?_)
  refine bodyPost_ret (results_blk_tmp (cs := zero9) rfl rfl ((HZ0).out.setCells zero9 rfl) Tryd.underlying164 rfl (by kernel_rfl)) rfl ⟨by rw [HV.out]; rfl, Below.setCells _ _ _ (HB0).out (Nat.le_refl _)⟩
set_option maxRecDepth 20000 in
set_option maxHeartbeats 4000000 in
theorem rdecode_bad (M : Nat) (k : Nat) (l : List Nat) (hk : k < 1 ∨ 3 < k) (hl : (k :: l).length ≤ 100000) (hby : ∀ b ∈ (k :: l), b < 256) (v : Value) (w : World) (h : AtB 0 M (k :: l) v w) (hM : M ≤ w.heap.size) :
    Calls Tryd.prog 115 #[v] w (DecIs (k :: l) w) := by
  have HV := Lib.hid (show decV (decF (k :: l)) = (zeroC, 4) by rw [decF, if_pos hk]; rfl)
  have hlp : ((l.length : Int) + 1 == 0) = false := by rw [beq_eq_false_iff_ne]; omega
  rcases h with ⟨h, _⟩ | ⟨g, o, c, rfl, h2, h3, h4, h5, h6⟩
  · cases h
  have h : AtB 0 M (k :: l) (.slice (some ⟨g, o, none⟩) (k :: l).length c) w := .inr ⟨g, o, c, rfl, h2, h3, h4, h5, h6⟩
  clear h6
  have HZ0 := Lib.hid (Blk.new w zero9 164 w.heap.size rfl)
  have HA := Lib.hid (h.below hM ((Below.refl w.heap.size w).alloc (Nat.le_refl _) (.cells zero9 164)))
  have HB0 := Lib.hid ((Below.refl w.heap.size w).alloc (Nat.le_refl _) (.cells zero9 164))
  have hsz : (w.alloc (.cells zero9 164)).heap.size = w.heap.size + 1 := by simp
  have HSZ := Lib.hid hsz
  have HBY := Lib.hid hby
  clear h hby hsz
  go_enter Tryd.func115, Tryd.ntmps115
  go_upto_region 1 with fail
  change Code.wp _ _ _ _ (w.alloc (.cells zero9 164))
  generalize w.alloc (.cells zero9 164) = w1 at HZ0 HA HB0 HSZ ⊢
  have HA2 := HA.out
  rcases HA2 with ⟨h, _⟩ | ⟨g', o', c', he, -, -, -, -, h6⟩
  · cases h
  injection he with he1 he2 he3
  injection he1 with he1
  injection he1 with he4 he5
  subst he4 he5 he3
  have ck : w1.cell? ⟨g, o, none⟩ = some (.int .u8 (k : Int)) := h6 0 (by simp)
  clear h6
  rcases hk with hk | hk
  · have k1 : (k : Int) < 1 := by omega
    go_wp2_with (refine store_blk (by rfl) 164 _ _ (by rfl) w.heap.size (by rfl) _ zero9 164 (HZ0).out (by rfl) rfl (by kernel_rfl) (one_cm zeroC) ?_)
    refine bodyPost_ret (results_blk_tmp (cs := zero9) rfl rfl ((HZ0).out.setCells zero9 rfl) Tryd.underlying164 rfl (by kernel_rfl)) rfl ⟨by rw [HV.out]; rfl, Below.setCells _ _ _ (HB0).out (Nat.le_refl _)⟩
  · have k1 : ¬ (k : Int) < 1 := by omega
    have k2 : (3 : Int) < (k : Int) := by omega
    go_wp2_with (refine store_blk (by rfl) 164 _ _ (by rfl) w.heap.size (by rfl) _ zero9 164 (HZ0).out (by rfl) rfl (by kernel_rfl) (one_cm zeroC) ?_)
    refine bodyPost_ret (results_blk_tmp (cs := zero9) rfl rfl ((HZ0).out.setCells zero9 rfl) Tryd.underlying164 rfl (by kernel_rfl)) rfl ⟨by rw [HV.out]; rfl, Below.setCells _ _ _ (HB0).out (Nat.le_refl _)⟩
set_option maxRecDepth 20000 in
set_option maxHeartbeats 4000000 in
theorem rdecode_two (M : Nat) (l : List Nat) (hl : (2 :: l).length ≤ 100000) (hby : ∀ b ∈ (2 :: l), b < 256) (v : Value) (w : World) (h : AtB 0 M (2 :: l) v w) (hM : M ≤ w.heap.size) :
    Calls Tryd.prog 115 #[v] w (DecIs (2 :: l) w) := by
  have hlp : ((l.length : Int) + 1 == 0) = false := by rw [beq_eq_false_iff_ne]; omega
  rcases h with ⟨h, _⟩ | ⟨g, o, c, rfl, h2, h3, h4, h5, h6⟩
  · cases h
  have h : AtB 0 M (2 :: l) (.slice (some ⟨g, o, none⟩) (2 :: l).length c) w := .inr ⟨g, o, c, rfl, h2, h3, h4, h5, h6⟩
  clear h6
  have HZ0 := Lib.hid (Blk.new w zero9 164 w.heap.size rfl)
  have HA := Lib.hid (h.below hM ((Below.refl w.heap.size w).alloc (Nat.le_refl _) (.cells zero9 164)))
  have HB0 := Lib.hid ((Below.refl w.heap.size w).alloc (Nat.le_refl _) (.cells zero9 164))
  have hsz : (w.alloc (.cells zero9 164)).heap.size = w.heap.size + 1 := by simp
  have HSZ := Lib.hid hsz
  have HBY := Lib.hid hby
  clear h hby hsz
  go_enter Tryd.func115, Tryd.ntmps115
  go_upto_region 1 with fail
  change Code.wp _ _ _ _ (w.alloc (.cells zero9 164))
  generalize w.alloc (.cells zero9 164) = w1 at HZ0 HA HB0 HSZ ⊢
  have HA2 := HA.out
  rcases HA2 with ⟨h, _⟩ | ⟨g', o', c', he, -, -, -, -, h6⟩
  · cases h
  injection he with he1 he2 he3
  injection he1 with he1
  injection he1 with he4 he5
  subst he4 he5 he3
  have ck : w1.cell? ⟨g, o, none⟩ = some (.int .u8 (2 : Int)) := h6 0 (by simp)
  clear h6
  have hsz := HSZ.out
  have HR := Lib.hid (show RdD w1.heap.size (.inr (2 :: l)) (w1.alloc (.cells #[.slice (some ⟨g, o, none⟩) (2 :: l).length c, .int .i64 0] 218)) from
    ⟨_, _, HBY.out, hl, Blk.new _ _ _ _ rfl, (HA.out.below (n := w1.heap.size) (by omega) ((Below.refl _ _).alloc (Nat.le_refl _) _)).mono (Nat.zero_le _) (by omega), .inl rfl⟩)
  have HZ := Lib.hid (HZ0.out.old (.cells #[.slice (some ⟨g, o, none⟩) (2 :: l).length c, .int .i64 0] 218))
  have HB := Lib.hid (HB0.out.alloc (by omega) (.cells #[.slice (some ⟨g, o, none⟩) (2 :: l).length c, .int .i64 0] 218))
  have hzp : w.heap.size < w1.heap.size := by omega
  clear hsz HSZ HA HZ0 HB0 HBY
  go_upto_region 6 with fail
  change Code.wp _ _ _ _ (w1.alloc (.cells #[.slice (some ⟨g, o, none⟩) (2 :: l).length c, .int .i64 0] 218))
  generalize w1.alloc (.cells #[.slice (some ⟨g, o, none⟩) (2 :: l).length c, .int .i64 0] 218) = w2 at HR HZ HB ⊢
  generalize w1.heap.size = P at HR hzp ⊢
  clear ck
  go_wp2_with fail
  refine (rone_any P _ _ HR.out).mono ?_
  rintro e w3 ⟨rfl, hr3, hc3⟩
  rw [one_cons] at hr3 ⊢
  dsimp only at hr3 ⊢
  replace HZ := Lib.hid (hc3.blk HZ.out.lt (by omega) HZ.out)
  replace HB := Lib.hid (HB.out.trans (hc3.below' (m := w.heap.size) (by omega) HB.out.size))
  clear hc3
  go_wp2_with fail
  refine (rone_any P _ _ hr3).mono ?_
  rintro e w4 ⟨rfl, hr4, hc4⟩
  generalize h1 : one2 (.inr l : Int ⊕ List Nat) = r1 at hr4 ⊢
  obtain ⟨s, st1⟩ := r1
  dsimp only at hr4 ⊢
  have H := Lib.hid (show DdS w (w4.alloc (.cells (Cmd.cells ⟨2, s, 0, 0, 0, 0, 0, 0, 0⟩) 164)) w4.heap.size P (Cmd.cells ⟨2, s, 0, 0, 0, 0, 0, 0, 0⟩) st1 from
    ⟨(hc4.blk HZ.out.lt (by omega) HZ.out).old _, Blk.new _ _ _ _ rfl, hr4.below (n := w4.heap.size) hr4.lt ((Below.refl _ _).alloc (Nat.le_refl _) _), (HB.out.trans (hc4.below' (m := w.heap.size) (by omega) HB.out.size)).alloc (Nat.le_trans HB.out.size hc4.size) _, hzp, hr4.lt⟩)
  clear hc4 hr4 hr3 HZ HB HR
  go_upto_region 7 with fail
  change Code.wp _ _ _ _ (w4.alloc (.cells (Cmd.cells ⟨2, s, 0, 0, 0, 0, 0, 0, 0⟩) 164))
  generalize w4.alloc (.cells (Cmd.cells ⟨2, s, 0, 0, 0, 0, 0, 0, 0⟩) 164) = w5 at H ⊢
  generalize w4.heap.size = C at H ⊢
  generalize h2 : num2 st1 = r2
  obtain ⟨i, st2⟩ := r2
  have HD := Lib.hid (dec_two s st1 l i st2 h1 h2)
  go_wp2_with fail
  refine (dnum_eq H.out (h2)).mono ?_
  rintro e w6 ⟨rfl, hx⟩
  replace H := Lib.hid hx
  clear hx
  have k0 : w6.cell? ⟨C, 0, none⟩ = some (.int .i64 2) := H.out.c.cell 0 rfl
  have k1 := H.out.fault
  cases st2 with
  | inl f =>
    have hf : (f != 0) = true := by obtain ⟨l', v', -, -, -, -, h5⟩ := H.out.r; rcases h5 with h5 | ⟨g, hg, h5⟩; exact absurd h5 (by simp); injection h5 with h5; subst h5; simpa using hg
    have HV := Lib.hid (show decV (decF (2 :: l)) = (zeroC, f) by rw [HD.out]; rfl)
    have k1' : w6.cell? ⟨P, 1, none⟩ = some (.int .i64 f) := k1
    clear HD k1
    go_upto_region 18 with fail
    refine wp_region_held_drew (S := (fun w' => w'.cell? ⟨P, 1, none⟩ = some (.int .i64 f))) (by kernel_rfl) k1' (fun hHeld => ?_)
    replace H := Lib.hid H.out.drew
    clear k1'
    generalize w6.drew = wd at H hHeld ⊢
    refine wpAnyH_take (i := 0) (oi := ⟨some 61, _, _, _, _, _⟩) (v := ?_) rfl (by kernel_rfl) (by kernel_rfl) (by kernel_rfl) (fun _ _ _ h => h) (Or.inl ⟨by rfl, ?_⟩) (by assumption) ?_
    rotate_left
    · (intro w hSw; (try dsimp only at hSw); go_simp; (try with_reducible rfl))
    simp only [Act.put, List.setIfInBounds_toArray, List.set_cons_zero, List.set_cons_succ]
    refine wpAnyH_take (i := 1) (oi := ⟨some 62, _, _, _, _, _⟩) (v := ?_) rfl (by kernel_rfl) (by kernel_rfl) (by kernel_rfl) (fun _ _ _ h => h) (Or.inl ⟨by rfl, ?_⟩) (by assumption) ?_
    rotate_left
    · (intro w hSw; (try dsimp only at hSw); go_simp; (try with_reducible rfl))
    simp only [Act.put, List.setIfInBounds_toArray, List.set_cons_zero, List.set_cons_succ]
    refine wpAnyH_take (i := 2) (oi := ⟨some 63, _, _, _, _, _⟩) (v := ?_) rfl (by kernel_rfl) (by kernel_rfl) (by kernel_rfl) (fun _ _ _ h => h) (Or.inl ⟨by rfl, ?_⟩) (by assumption) ?_
    rotate_left
    · (intro w hSw; (try dsimp only at hSw); go_simp; (try with_reducible rfl))
    simp only [Act.put, List.setIfInBounds_toArray, List.set_cons_zero, List.set_cons_succ]
    refine wpAnyH_take (i := 3) (oi := ⟨some 64, _, _, _, _, _⟩) (v := ?_) rfl (by kernel_rfl) (by kernel_rfl) (by kernel_rfl) (fun _ _ _ h => h) (Or.inl ⟨by rfl, ?_⟩) (by assumption) ?_
    rotate_left
    · (intro w hSw; (try dsimp only at hSw); go_simp; (try with_reducible rfl))
    simp only [Act.put, List.setIfInBounds_toArray, List.set_cons_zero, List.set_cons_succ]
    refine wpAnyH_take (i := 4) (oi := ⟨some 65, _, _, _, _, _⟩) (v := ?_) rfl (by kernel_rfl) (by kernel_rfl) (by kernel_rfl) (fun _ _ _ h => h) (Or.inl ⟨by rfl, ?_⟩) (by assumption) ?_
    rotate_left
    · (intro w hSw; (try dsimp only at hSw); go_simp; (try with_reducible rfl))
    simp only [Act.put, List.setIfInBounds_toArray, List.set_cons_zero, List.set_cons_succ]
    refine wpAnyH_ready (rs := [5]) (by kernel_rfl) (by simp) ?_
    refine AllReadyH.cons (o := ⟨none, _, _, _, _, _⟩) rfl (fun KK hK => ?_) AllReadyH.nil
    refine step_store_blk (by rfl) 164 _ _ (by rfl) w.heap.size (by rfl) _ zero9 164 H.out.z (by rfl) rfl (by kernel_rfl) (one_cm zeroC) ?_
    have hz2 := H.out.z.setCells zero9 rfl
    have hbel := Below.setCells zero9.toList 0 _ H.out.bel (Nat.le_refl _) (B := w.heap.size)
    have k1'' : (wd.setCells w.heap.size 0 zero9.toList).cell? ⟨P, 1, none⟩ = some (.int .i64 f) := by obtain ⟨v', hv'⟩ := H.out.rblk; exact (Blk.apartAll zero9.toList 0 _ hv' (by have := H.out.zP; omega)).cell 1 rfl
    refine hK.out _ _ k1'' (fun hHeld => ?_)
    clear hK; try clear KK
    refine wpAnyH_take (i := 6) (oi := ⟨some 3, _, _, _, _, _⟩) (v := ?_) rfl (by kernel_rfl) (by kernel_rfl) (by kernel_rfl) (fun _ _ _ h => h) (Or.inl ⟨by rfl, ?_⟩) (by assumption) ?_
    rotate_left
    · (intro w hSw; (try dsimp only at hSw); go_simp; (try with_reducible rfl))
    simp only [Act.put, List.setIfInBounds_toArray, List.set_cons_zero, List.set_cons_succ]
    refine wpAnyH_done (by kernel_rfl) ?_ _
    go_wp2_with fail
    refine bodyPost_ret (results_blk_tmp (cs := zero9) rfl rfl hz2 Tryd.underlying164 rfl (by kernel_rfl)) rfl ⟨by rw [HV.out]; rfl, hbel⟩
  | inr rest =>
    have k1' : w6.cell? ⟨P, 1, none⟩ = some (.int .i64 0) := k1
    obtain ⟨ra, rc, k9⟩ := H.out.left
    have HX := Lib.hid (show decV (decF (2 :: l)) = decV (endR 2 s i ⟨0, 0, 0, 0⟩ (0, 0) rest) by rw [HD.out]; rfl)
    have HZ := Lib.hid H.out.z
    have HB := Lib.hid H.out.bel
    clear HD k1
    by_cases g1 : 4611686018427387904 < i
    · have g1' : (4611686018427387904 : Int) < (i : Int) := by omega
      have HV := Lib.hid (show decV (decF (2 :: l)) = (zeroC, 4) by rw [HX.out]; exact end_bad (.inl g1))
      go_wp2_with (refine store_blk (by rfl) 164 _ _ (by rfl) w.heap.size (by rfl) _ zero9 164 (HZ).out (by rfl) rfl (by kernel_rfl) (one_cm zeroC) ?_)
      refine bodyPost_ret (results_blk_tmp (cs := zero9) rfl rfl ((HZ).out.setCells zero9 rfl) Tryd.underlying164 rfl (by kernel_rfl)) rfl ⟨by rw [HV.out]; rfl, Below.setCells _ _ _ (HB).out (Nat.le_refl _)⟩
    have g1' : ¬ (4611686018427387904 : Int) < (i : Int) := by omega
    have gx : (0 : Nat) ≤ 0 := Nat.le_refl _
    by_cases hrest : 0 < rest.length
    · have hr : (0 : Int) < (rest.length : Int) := by omega
      have HV := Lib.hid (show decV (decF (2 :: l)) = (zeroC, 4) by rw [HX.out]; exact end_bad (.inr (.inr (.inl (List.length_pos_iff.1 hrest)))))
      go_wp2_with (refine store_blk (by rfl) 164 _ _ (by rfl) w.heap.size (by rfl) _ zero9 164 (HZ).out (by rfl) rfl (by kernel_rfl) (one_cm zeroC) ?_)
      refine bodyPost_ret (results_blk_tmp (cs := zero9) rfl rfl ((HZ).out.setCells zero9 rfl) Tryd.underlying164 rfl (by kernel_rfl)) rfl ⟨by rw [HV.out]; rfl, Below.setCells _ _ _ (HB).out (Nat.le_refl _)⟩
    obtain rfl : rest = [] := List.eq_nil_of_length_eq_zero (by omega)
    have i0 : (0 : Int) ≤ (i : Int) := by omega
    have i1 : (i : Int) ≤ 4611686018427387904 := by omega
    have c2 : w6.cell? ⟨C, 2, none⟩ = some (.int .i64 0) := H.out.c.cell 2 rfl
    have c3 : w6.cell? ⟨C, 3, none⟩ = some (.int .i64 0) := H.out.c.cell 3 rfl
    have f2 := H.out.c.free 2
    have f3 := H.out.c.free 3
    have H2 := Lib.hid ((H.out.store 2 (.int .i64 (i : Int))).store 3 (.int .i64 (0)))
    go_upto_region 23 with fail
    change Code.wp _ _ _ _ ((w6.setCell ⟨C, 2, none⟩ (.int .i64 (i : Int))).setCell ⟨C, 3, none⟩ (.int .i64 (0)))
    generalize (w6.setCell ⟨C, 2, none⟩ (.int .i64 (i : Int))).setCell ⟨C, 3, none⟩ (.int .i64 (0)) = w9 at H2 ⊢
    clear c2 c3 f2 f3 k0 H k9 k1' HZ HB
    have HC := Lib.hid (show Blk w9 C (Cmd.cells (mkC 2 s i ⟨0, 0, 0, 0⟩ (0, 0))) 164 from H2.out.c)
    go_wp2_with (refine load_blk (by rfl) 164 _ (by rfl) C (by rfl) _ _ HC.out _ Tryd.underlying164 rfl (by kernel_rfl) ?_)
    refine (rright_any (mkC 2 s i ⟨0, 0, 0, 0⟩ (0, 0)) w9).mono ?_
    rintro e w10 ⟨rfl, hb10⟩
    replace HC := Lib.hid (HC.out.below hb10 HC.out.lt)
    replace H2 := Lib.hid (H2.out.below hb10)
    have HZ := Lib.hid H2.out.z
    have HB := Lib.hid H2.out.bel
    clear hb10
    cases hrc : rightC (mkC 2 s i ⟨0, 0, 0, 0⟩ (0, 0)) with
    | false =>
      have HV := Lib.hid (show decV (decF (2 :: l)) = (zeroC, 4) by rw [HX.out]; exact end_bad (.inr (.inr (.inr hrc))))
      go_wp2_with (refine store_blk (by rfl) 164 _ _ (by rfl) w.heap.size (by rfl) _ zero9 164 (HZ).out (by rfl) rfl (by kernel_rfl) (one_cm zeroC) ?_)
      refine bodyPost_ret (results_blk_tmp (cs := zero9) rfl rfl ((HZ).out.setCells zero9 rfl) Tryd.underlying164 rfl (by kernel_rfl)) rfl ⟨by rw [HV.out]; rfl, Below.setCells _ _ _ (HB).out (Nat.le_refl _)⟩
    | true =>
      have HV := Lib.hid (show decV (decF (2 :: l)) = (mkC 2 s i ⟨0, 0, 0, 0⟩ (0, 0), 0) by rw [HX.out]; exact end_good (by omega) (by first | omega | (show ¬ 1073741824 < (0 : Nat); omega)) hrc)
      go_wp2_with (first
        | (refine load_blk (by rfl) 164 _ (by rfl) C (by rfl) _ _ HC.out _ Tryd.underlying164 rfl (by kernel_rfl) ?_)
        | (refine store_blk (by rfl) 164 _ _ (by rfl) w.heap.size (by rfl) _ (Cmd.cells (mkC 2 s i ⟨0, 0, 0, 0⟩ (0, 0))) 164 HZ.out (by rfl) rfl (by kernel_rfl) (one_cm _) ?_))
      refine bodyPost_ret (results_blk_tmp (cs := Cmd.cells (mkC 2 s i ⟨0, 0, 0, 0⟩ (0, 0))) rfl rfl (HZ.out.setCells (Cmd.cells (mkC 2 s i ⟨0, 0, 0, 0⟩ (0, 0))) rfl) Tryd.underlying164 rfl (by kernel_rfl)) rfl ⟨by rw [HV.out]; rfl, Below.setCells _ _ _ HB.out (Nat.le_refl _)⟩
set_option maxRecDepth 20000 in
set_option maxHeartbeats 4000000 in
theorem rdecode_three (M : Nat) (l : List Nat) (hl : (3 :: l).length ≤ 100000) (hby : ∀ b ∈ (3 :: l), b < 256) (v : Value) (w : World) (h : AtB 0 M (3 :: l) v w) (hM : M ≤ w.heap.size) :
    Calls Tryd.prog 115 #[v] w (DecIs (3 :: l) w) := by
  have hlp : ((l.length : Int) + 1 == 0) = false := by rw [beq_eq_false_iff_ne]; omega
  rcases h with ⟨h, _⟩ | ⟨g, o, c, rfl, h2, h3, h4, h5, h6⟩
  · cases h
  have h : AtB 0 M (3 :: l) (.slice (some ⟨g, o, none⟩) (3 :: l).length c) w := .inr ⟨g, o, c, rfl, h2, h3, h4, h5, h6⟩
  clear h6
  have HZ0 := Lib.hid (Blk.new w zero9 164 w.heap.size rfl)
  have HA := Lib.hid (h.below hM ((Below.refl w.heap.size w).alloc (Nat.le_refl _) (.cells zero9 164)))
  have HB0 := Lib.hid ((Below.refl w.heap.size w).alloc (Nat.le_refl _) (.cells zero9 164))
  have hsz : (w.alloc (.cells zero9 164)).heap.size = w.heap.size + 1 := by simp
  have HSZ := Lib.hid hsz
  have HBY := Lib.hid hby
  clear h hby hsz
  go_enter Tryd.func115, Tryd.ntmps115
  go_upto_region 1 with fail
  change Code.wp _ _ _ _ (w.alloc (.cells zero9 164))
  generalize w.alloc (.cells zero9 164) = w1 at HZ0 HA HB0 HSZ ⊢
  have HA2 := HA.out
  rcases HA2 with ⟨h, _⟩ | ⟨g', o', c', he, -, -, -, -, h6⟩
  · cases h
  injection he with he1 he2 he3
  injection he1 with he1
  injection he1 with he4 he5
  subst he4 he5 he3
  have ck : w1.cell? ⟨g, o, none⟩ = some (.int .u8 (3 : Int)) := h6 0 (by simp)
  clear h6
  have hsz := HSZ.out
  have HR := Lib.hid (show RdD w1.heap.size (.inr (3 :: l)) (w1.alloc (.cells #[.slice (some ⟨g, o, none⟩) (3 :: l).length c, .int .i64 0] 218)) from
    ⟨_, _, HBY.out, hl, Blk.new _ _ _ _ rfl, (HA.out.below (n := w1.heap.size) (by omega) ((Below.refl _ _).alloc (Nat.le_refl _) _)).mono (Nat.zero_le _) (by omega), .inl rfl⟩)
  have HZ := Lib.hid (HZ0.out.old (.cells #[.slice (some ⟨g, o, none⟩) (3 :: l).length c, .int .i64 0] 218))
  have HB := Lib.hid (HB0.out.alloc (by omega) (.cells #[.slice (some ⟨g, o, none⟩) (3 :: l).length c, .int .i64 0] 218))
  have hzp : w.heap.size < w1.heap.size := by omega
  clear hsz HSZ HA HZ0 HB0 HBY
  go_upto_region 6 with fail
  change Code.wp _ _ _ _ (w1.alloc (.cells #[.slice (some ⟨g, o, none⟩) (3 :: l).length c, .int .i64 0] 218))
  generalize w1.alloc (.cells #[.slice (some ⟨g, o, none⟩) (3 :: l).length c, .int .i64 0] 218) = w2 at HR HZ HB ⊢
  generalize w1.heap.size = P at HR hzp ⊢
  clear ck
  go_wp2_with fail
  refine (rone_any P _ _ HR.out).mono ?_
  rintro e w3 ⟨rfl, hr3, hc3⟩
  rw [one_cons] at hr3 ⊢
  dsimp only at hr3 ⊢
  replace HZ := Lib.hid (hc3.blk HZ.out.lt (by omega) HZ.out)
  replace HB := Lib.hid (HB.out.trans (hc3.below' (m := w.heap.size) (by omega) HB.out.size))
  clear hc3
  go_wp2_with fail
  refine (rone_any P _ _ hr3).mono ?_
  rintro e w4 ⟨rfl, hr4, hc4⟩
  generalize h1 : one2 (.inr l : Int ⊕ List Nat) = r1 at hr4 ⊢
  obtain ⟨s, st1⟩ := r1
  dsimp only at hr4 ⊢
  have H := Lib.hid (show DdS w (w4.alloc (.cells (Cmd.cells ⟨3, s, 0, 0, 0, 0, 0, 0, 0⟩) 164)) w4.heap.size P (Cmd.cells ⟨3, s, 0, 0, 0, 0, 0, 0, 0⟩) st1 from
    ⟨(hc4.blk HZ.out.lt (by omega) HZ.out).old _, Blk.new _ _ _ _ rfl, hr4.below (n := w4.heap.size) hr4.lt ((Below.refl _ _).alloc (Nat.le_refl _) _), (HB.out.trans (hc4.below' (m := w.heap.size) (by omega) HB.out.size)).alloc (Nat.le_trans HB.out.size hc4.size) _, hzp, hr4.lt⟩)
  clear hc4 hr4 hr3 HZ HB HR
  go_upto_region 7 with fail
  change Code.wp _ _ _ _ (w4.alloc (.cells (Cmd.cells ⟨3, s, 0, 0, 0, 0, 0, 0, 0⟩) 164))
  generalize w4.alloc (.cells (Cmd.cells ⟨3, s, 0, 0, 0, 0, 0, 0, 0⟩) 164) = w5 at H ⊢
  generalize w4.heap.size = C at H ⊢
  generalize h2 : num2 st1 = r2
  obtain ⟨i, st2⟩ := r2
  generalize h3 : int2 st2 = r3
  obtain ⟨p, st3⟩ := r3
  generalize h4 : int2 st3 = r4
  obtain ⟨q, st4⟩ := r4
  have HD := Lib.hid (dec_three s st1 l i st2 st3 st4 p q h1 h2 h3 h4)
  go_wp2_with fail
  refine (dnum_eq H.out (h2)).mono ?_
  rintro e w6 ⟨rfl, hx⟩
  replace H := Lib.hid hx
  clear hx
  have k0 : w6.cell? ⟨C, 0, none⟩ = some (.int .i64 3) := H.out.c.cell 0 rfl
  go_wp2_with fail
  refine (dint_eq H.out (h3)).mono ?_
  rintro e w7 ⟨rfl, hx⟩
  replace H := Lib.hid hx
  clear hx
  have k0 : w7.cell? ⟨C, 0, none⟩ = some (.int .i64 3) := H.out.c.cell 0 rfl
  have f6 := H.out.c.free 6
  have k6 : w7.cell? ⟨C, 6, none⟩ = some (.int .i64 0) := H.out.c.cell 6 rfl
  replace H := Lib.hid (H.out.store 6 (.int .i64 p))
  go_upto_region 16 with fail
  change Code.wp _ _ _ _ (w7.setCell ⟨C, 6, none⟩ (.int .i64 p))
  generalize w7.setCell ⟨C, 6, none⟩ (.int .i64 p) = w8 at H ⊢
  clear f6 k6 k0
  have k0 : w8.cell? ⟨C, 0, none⟩ = some (.int .i64 3) := H.out.c.cell 0 rfl
  go_wp2_with fail
  refine (dint_eq H.out (h4)).mono ?_
  rintro e w9' ⟨rfl, hx⟩
  replace H := Lib.hid hx
  clear hx
  have k0 : w9'.cell? ⟨C, 0, none⟩ = some (.int .i64 3) := H.out.c.cell 0 rfl
  have f7 := H.out.c.free 7
  have k7 : w9'.cell? ⟨C, 7, none⟩ = some (.int .i64 0) := H.out.c.cell 7 rfl
  replace H := Lib.hid (H.out.store 7 (.int .i64 q))
  go_upto_region 17 with fail
  change Code.wp _ _ _ _ (w9'.setCell ⟨C, 7, none⟩ (.int .i64 q))
  generalize w9'.setCell ⟨C, 7, none⟩ (.int .i64 q) = w10' at H ⊢
  clear f7 k7 k0
  have k0 : w10'.cell? ⟨C, 0, none⟩ = some (.int .i64 3) := H.out.c.cell 0 rfl
  have k1 := H.out.fault
  cases st4 with
  | inl f =>
    have hf : (f != 0) = true := by obtain ⟨l', v', -, -, -, -, h5⟩ := H.out.r; rcases h5 with h5 | ⟨g, hg, h5⟩; exact absurd h5 (by simp); injection h5 with h5; subst h5; simpa using hg
    have HV := Lib.hid (show decV (decF (3 :: l)) = (zeroC, f) by rw [HD.out]; rfl)
    have k1' : w10'.cell? ⟨P, 1, none⟩ = some (.int .i64 f) := k1
    clear HD k1
    go_upto_region 18 with fail
    refine wp_region_held_drew (S := (fun w' => w'.cell? ⟨P, 1, none⟩ = some (.int .i64 f))) (by kernel_rfl) k1' (fun hHeld => ?_)
    replace H := Lib.hid H.out.drew
    clear k1'
    generalize w10'.drew = wd at H hHeld ⊢
    refine wpAnyH_take (i := 0) (oi := ⟨some 61, _, _, _, _, _⟩) (v := ?_) rfl (by kernel_rfl) (by kernel_rfl) (by kernel_rfl) (fun _ _ _ h => h) (Or.inl ⟨by rfl, ?_⟩) (by assumption) ?_
    rotate_left
    · (intro w hSw; (try dsimp only at hSw); go_simp; (try with_reducible rfl))
    simp only [Act.put, List.setIfInBounds_toArray, List.set_cons_zero, List.set_cons_succ]
    refine wpAnyH_take (i := 1) (oi := ⟨some 62, _, _, _, _, _⟩) (v := ?_) rfl (by kernel_rfl) (by kernel_rfl) (by kernel_rfl) (fun _ _ _ h => h) (Or.inl ⟨by rfl, ?_⟩) (by assumption) ?_
    rotate_left
    · (intro w hSw; (try dsimp only at hSw); go_simp; (try with_reducible rfl))
    simp only [Act.put, List.setIfInBounds_toArray, List.set_cons_zero, List.set_cons_succ]
    refine wpAnyH_take (i := 2) (oi := ⟨some 63, _, _, _, _, _⟩) (v := ?_) rfl (by kernel_rfl) (by kernel_rfl) (by kernel_rfl) (fun _ _ _ h => h) (Or.inl ⟨by rfl, ?_⟩) (by assumption) ?_
    rotate_left
    · (intro w hSw; (try dsimp only at hSw); go_simp; (try with_reducible rfl))
    simp only [Act.put, List.setIfInBounds_toArray, List.set_cons_zero, List.set_cons_succ]
    refine wpAnyH_take (i := 3) (oi := ⟨some 64, _, _, _, _, _⟩) (v := ?_) rfl (by kernel_rfl) (by kernel_rfl) (by kernel_rfl) (fun _ _ _ h => h) (Or.inl ⟨by rfl, ?_⟩) (by assumption) ?_
    rotate_left
    · (intro w hSw; (try dsimp only at hSw); go_simp; (try with_reducible rfl))
    simp only [Act.put, List.setIfInBounds_toArray, List.set_cons_zero, List.set_cons_succ]
    refine wpAnyH_take (i := 4) (oi := ⟨some 65, _, _, _, _, _⟩) (v := ?_) rfl (by kernel_rfl) (by kernel_rfl) (by kernel_rfl) (fun _ _ _ h => h) (Or.inl ⟨by rfl, ?_⟩) (by assumption) ?_
    rotate_left
    · (intro w hSw; (try dsimp only at hSw); go_simp; (try with_reducible rfl))
    simp only [Act.put, List.setIfInBounds_toArray, List.set_cons_zero, List.set_cons_succ]
    refine wpAnyH_ready (rs := [5]) (by kernel_rfl) (by simp) ?_
    refine AllReadyH.cons (o := ⟨none, _, _, _, _, _⟩) rfl (fun KK hK => ?_) AllReadyH.nil
    refine step_store_blk (by rfl) 164 _ _ (by rfl) w.heap.size (by rfl) _ zero9 164 H.out.z (by rfl) rfl (by kernel_rfl) (one_cm zeroC) ?_
    have hz2 := H.out.z.setCells zero9 rfl
    have hbel := Below.setCells zero9.toList 0 _ H.out.bel (Nat.le_refl _) (B := w.heap.size)
    have k1'' : (wd.setCells w.heap.size 0 zero9.toList).cell? ⟨P, 1, none⟩ = some (.int .i64 f) := by obtain ⟨v', hv'⟩ := H.out.rblk; exact (Blk.apartAll zero9.toList 0 _ hv' (by have := H.out.zP; omega)).cell 1 rfl
    refine hK.out _ _ k1'' (fun hHeld => ?_)
    clear hK; try clear KK
    refine wpAnyH_take (i := 6) (oi := ⟨some 3, _, _, _, _, _⟩) (v := ?_) rfl (by kernel_rfl) (by kernel_rfl) (by kernel_rfl) (fun _ _ _ h => h) (Or.inl ⟨by rfl, ?_⟩) (by assumption) ?_
    rotate_left
    · (intro w hSw; (try dsimp only at hSw); go_simp; (try with_reducible rfl))
    simp only [Act.put, List.setIfInBounds_toArray, List.set_cons_zero, List.set_cons_succ]
    refine wpAnyH_done (by kernel_rfl) ?_ _
    go_wp2_with fail
    refine bodyPost_ret (results_blk_tmp (cs := zero9) rfl rfl hz2 Tryd.underlying164 rfl (by kernel_rfl)) rfl ⟨by rw [HV.out]; rfl, hbel⟩
  | inr rest =>
    have k1' : w10'.cell? ⟨P, 1, none⟩ = some (.int .i64 0) := k1
    obtain ⟨ra, rc, k9⟩ := H.out.left
    have HX := Lib.hid (show decV (decF (3 :: l)) = decV (endR 3 s i ⟨0, 0, 0, 0⟩ (p, q) rest) by rw [HD.out]; rfl)
    have HZ := Lib.hid H.out.z
    have HB := Lib.hid H.out.bel
    clear HD k1
    by_cases g1 : 4611686018427387904 < i
    · have g1' : (4611686018427387904 : Int) < (i : Int) := by omega
      have HV := Lib.hid (show decV (decF (3 :: l)) = (zeroC, 4) by rw [HX.out]; exact end_bad (.inl g1))
      go_wp2_with (refine store_blk (by rfl) 164 _ _ (by rfl) w.heap.size (by rfl) _ zero9 164 (HZ).out (by rfl) rfl (by kernel_rfl) (one_cm zeroC) ?_)
      refine bodyPost_ret (results_blk_tmp (cs := zero9) rfl rfl ((HZ).out.setCells zero9 rfl) Tryd.underlying164 rfl (by kernel_rfl)) rfl ⟨by rw [HV.out]; rfl, Below.setCells _ _ _ (HB).out (Nat.le_refl _)⟩
    have g1' : ¬ (4611686018427387904 : Int) < (i : Int) := by omega
    have gx : (0 : Nat) ≤ 0 := Nat.le_refl _
    by_cases hrest : 0 < rest.length
    · have hr : (0 : Int) < (rest.length : Int) := by omega
      have HV := Lib.hid (show decV (decF (3 :: l)) = (zeroC, 4) by rw [HX.out]; exact end_bad (.inr (.inr (.inl (List.length_pos_iff.1 hrest)))))
      go_wp2_with (refine store_blk (by rfl) 164 _ _ (by rfl) w.heap.size (by rfl) _ zero9 164 (HZ).out (by rfl) rfl (by kernel_rfl) (one_cm zeroC) ?_)
      refine bodyPost_ret (results_blk_tmp (cs := zero9) rfl rfl ((HZ).out.setCells zero9 rfl) Tryd.underlying164 rfl (by kernel_rfl)) rfl ⟨by rw [HV.out]; rfl, Below.setCells _ _ _ (HB).out (Nat.le_refl _)⟩
    obtain rfl : rest = [] := List.eq_nil_of_length_eq_zero (by omega)
    have i0 : (0 : Int) ≤ (i : Int) := by omega
    have i1 : (i : Int) ≤ 4611686018427387904 := by omega
    have c2 : w10'.cell? ⟨C, 2, none⟩ = some (.int .i64 0) := H.out.c.cell 2 rfl
    have c3 : w10'.cell? ⟨C, 3, none⟩ = some (.int .i64 0) := H.out.c.cell 3 rfl
    have f2 := H.out.c.free 2
    have f3 := H.out.c.free 3
    have H2 := Lib.hid ((H.out.store 2 (.int .i64 (i : Int))).store 3 (.int .i64 (0)))
    go_upto_region 23 with fail
    change Code.wp _ _ _ _ ((w10'.setCell ⟨C, 2, none⟩ (.int .i64 (i : Int))).setCell ⟨C, 3, none⟩ (.int .i64 (0)))
    generalize (w10'.setCell ⟨C, 2, none⟩ (.int .i64 (i : Int))).setCell ⟨C, 3, none⟩ (.int .i64 (0)) = w9 at H2 ⊢
    clear c2 c3 f2 f3 k0 H k9 k1' HZ HB
    have HC := Lib.hid (show Blk w9 C (Cmd.cells (mkC 3 s i ⟨0, 0, 0, 0⟩ (p, q))) 164 from H2.out.c)
    go_wp2_with (refine load_blk (by rfl) 164 _ (by rfl) C (by rfl) _ _ HC.out _ Tryd.underlying164 rfl (by kernel_rfl) ?_)
    refine (rright_any (mkC 3 s i ⟨0, 0, 0, 0⟩ (p, q)) w9).mono ?_
    rintro e w10 ⟨rfl, hb10⟩
    replace HC := Lib.hid (HC.out.below hb10 HC.out.lt)
    replace H2 := Lib.hid (H2.out.below hb10)
    have HZ := Lib.hid H2.out.z
    have HB := Lib.hid H2.out.bel
    clear hb10
    cases hrc : rightC (mkC 3 s i ⟨0, 0, 0, 0⟩ (p, q)) with
    | false =>
      have HV := Lib.hid (show decV (decF (3 :: l)) = (zeroC, 4) by rw [HX.out]; exact end_bad (.inr (.inr (.inr hrc))))
      go_wp2_with (refine store_blk (by rfl) 164 _ _ (by rfl) w.heap.size (by rfl) _ zero9 164 (HZ).out (by rfl) rfl (by kernel_rfl) (one_cm zeroC) ?_)
      refine bodyPost_ret (results_blk_tmp (cs := zero9) rfl rfl ((HZ).out.setCells zero9 rfl) Tryd.underlying164 rfl (by kernel_rfl)) rfl ⟨by rw [HV.out]; rfl, Below.setCells _ _ _ (HB).out (Nat.le_refl _)⟩
    | true =>
      have HV := Lib.hid (show decV (decF (3 :: l)) = (mkC 3 s i ⟨0, 0, 0, 0⟩ (p, q), 0) by rw [HX.out]; exact end_good (by omega) (by first | omega | (show ¬ 1073741824 < (0 : Nat); omega)) hrc)
      go_wp2_with (first
        | (refine load_blk (by rfl) 164 _ (by rfl) C (by rfl) _ _ HC.out _ Tryd.underlying164 rfl (by kernel_rfl) ?_)
        | (refine store_blk (by rfl) 164 _ _ (by rfl) w.heap.size (by rfl) _ (Cmd.cells (mkC 3 s i ⟨0, 0, 0, 0⟩ (p, q))) 164 HZ.out (by rfl) rfl (by kernel_rfl) (one_cm _) ?_))
      refine bodyPost_ret (results_blk_tmp (cs := Cmd.cells (mkC 3 s i ⟨0, 0, 0, 0⟩ (p, q))) rfl rfl (HZ.out.setCells (Cmd.cells (mkC 3 s i ⟨0, 0, 0, 0⟩ (p, q))) rfl) Tryd.underlying164 rfl (by kernel_rfl)) rfl ⟨by rw [HV.out]; rfl, Below.setCells _ _ _ HB.out (Nat.le_refl _)⟩
set_option maxRecDepth 20000 in
set_option maxHeartbeats 4000000 in
theorem rdecode_one (M : Nat) (l : List Nat) (hl : (1 :: l).length ≤ 100000) (hby : ∀ b ∈ (1 :: l), b < 256) (v : Value) (w : World) (h : AtB 0 M (1 :: l) v w) (hM : M ≤ w.heap.size) :
    Calls Tryd.prog 115 #[v] w (DecIs (1 :: l) w) := by
  have hlp : ((l.length : Int) + 1 == 0) = false := by rw [beq_eq_false_iff_ne]; omega
  rcases h with ⟨h, _⟩ | ⟨g, o, c, rfl, h2, h3, h4, h5, h6⟩
  · cases h
  have h : AtB 0 M (1 :: l) (.slice (some ⟨g, o, none⟩) (1 :: l).length c) w := .inr ⟨g, o, c, rfl, h2, h3, h4, h5, h6⟩
  clear h6
  have HZ0 := Lib.hid (Blk.new w zero9 164 w.heap.size rfl)
  have HA := Lib.hid (h.below hM ((Below.refl w.heap.size w).alloc (Nat.le_refl _) (.cells zero9 164)))
  have HB0 := Lib.hid ((Below.refl w.heap.size w).alloc (Nat.le_refl _) (.cells zero9 164))
  have hsz : (w.alloc (.cells zero9 164)).heap.size = w.heap.size + 1 := by simp
  have HSZ := Lib.hid hsz
  have HBY := Lib.hid hby
  clear h hby hsz
  go_enter Tryd.func115, Tryd.ntmps115
  go_upto_region 1 with fail
  change Code.wp _ _ _ _ (w.alloc (.cells zero9 164))
  generalize w.alloc (.cells zero9 164) = w1 at HZ0 HA HB0 HSZ ⊢
  have HA2 := HA.out
  rcases HA2 with ⟨h, _⟩ | ⟨g', o', c', he, -, -, -, -, h6⟩
  · cases h
  injection he with he1 he2 he3
  injection he1 with he1
  injection he1 with he4 he5
  subst he4 he5 he3
  have ck : w1.cell? ⟨g, o, none⟩ = some (.int .u8 (1 : Int)) := h6 0 (by simp)
  clear h6
  have hsz := HSZ.out
  have HR := Lib.hid (show RdD w1.heap.size (.inr (1 :: l)) (w1.alloc (.cells #[.slice (some ⟨g, o, none⟩) (1 :: l).length c, .int .i64 0] 218)) from
    ⟨_, _, HBY.out, hl, Blk.new _ _ _ _ rfl, (HA.out.below (n := w1.heap.size) (by omega) ((Below.refl _ _).alloc (Nat.le_refl _) _)).mono (Nat.zero_le _) (by omega), .inl rfl⟩)
  have HZ := Lib.hid (HZ0.out.old (.cells #[.slice (some ⟨g, o, none⟩) (1 :: l).length c, .int .i64 0] 218))
  have HB := Lib.hid (HB0.out.alloc (by omega) (.cells #[.slice (some ⟨g, o, none⟩) (1 :: l).length c, .int .i64 0] 218))
  have hzp : w.heap.size < w1.heap.size := by omega
  clear hsz HSZ HA HZ0 HB0 HBY
  go_upto_region 6 with fail
  change Code.wp _ _ _ _ (w1.alloc (.cells #[.slice (some ⟨g, o, none⟩) (1 :: l).length c, .int .i64 0] 218))
  generalize w1.alloc (.cells #[.slice (some ⟨g, o, none⟩) (1 :: l).length c, .int .i64 0] 218) = w2 at HR HZ HB ⊢
  generalize w1.heap.size = P at HR hzp ⊢
  clear ck
  go_wp2_with fail
  refine (rone_any P _ _ HR.out).mono ?_
  rintro e w3 ⟨rfl, hr3, hc3⟩
  rw [one_cons] at hr3 ⊢
  dsimp only at hr3 ⊢
  replace HZ := Lib.hid (hc3.blk HZ.out.lt (by omega) HZ.out)
  replace HB := Lib.hid (HB.out.trans (hc3.below' (m := w.heap.size) (by omega) HB.out.size))
  clear hc3
  go_wp2_with fail
  refine (rone_any P _ _ hr3).mono ?_
  rintro e w4 ⟨rfl, hr4, hc4⟩
  generalize h1 : one2 (.inr l : Int ⊕ List Nat) = r1 at hr4 ⊢
  obtain ⟨s, st1⟩ := r1
  dsimp only at hr4 ⊢
  have H := Lib.hid (show DdS w (w4.alloc (.cells (Cmd.cells ⟨1, s, 0, 0, 0, 0, 0, 0, 0⟩) 164)) w4.heap.size P (Cmd.cells ⟨1, s, 0, 0, 0, 0, 0, 0, 0⟩) st1 from
    ⟨(hc4.blk HZ.out.lt (by omega) HZ.out).old _, Blk.new _ _ _ _ rfl, hr4.below (n := w4.heap.size) hr4.lt ((Below.refl _ _).alloc (Nat.le_refl _) _), (HB.out.trans (hc4.below' (m := w.heap.size) (by omega) HB.out.size)).alloc (Nat.le_trans HB.out.size hc4.size) _, hzp, hr4.lt⟩)
  clear hc4 hr4 hr3 HZ HB HR
  go_upto_region 7 with fail
  change Code.wp _ _ _ _ (w4.alloc (.cells (Cmd.cells ⟨1, s, 0, 0, 0, 0, 0, 0, 0⟩) 164))
  generalize w4.alloc (.cells (Cmd.cells ⟨1, s, 0, 0, 0, 0, 0, 0, 0⟩) 164) = w5 at H ⊢
  generalize w4.heap.size = C at H ⊢
  generalize h2 : num2 st1 = r2
  obtain ⟨i, st2⟩ := r2
  generalize h3 : num2 st2 = r3
  obtain ⟨a, st3⟩ := r3
  generalize h4 : one2 st3 = r4
  obtain ⟨b, st4⟩ := r4
  generalize h5 : one2 st4 = r5
  obtain ⟨t, st5⟩ := r5
  generalize h6 : one2 st5 = r6
  obtain ⟨f, st6⟩ := r6
  generalize h7 : int2 st6 = r7
  obtain ⟨p, st7⟩ := r7
  generalize h8 : int2 st7 = r8
  obtain ⟨q, st8⟩ := r8
  have HD := Lib.hid (dec_one s st1 l i a b t f st2 st3 st4 st5 st6 st7 st8 p q h1 h2 h3 h4 h5 h6 h7 h8)
  go_wp2_with fail
  refine (dnum_eq H.out (h2)).mono ?_
  rintro e w6 ⟨rfl, hx⟩
  replace H := Lib.hid hx
  clear hx
  have k0 : w6.cell? ⟨C, 0, none⟩ = some (.int .i64 1) := H.out.c.cell 0 rfl
  go_wp2_with fail
  refine (dnum_eq H.out (h3)).mono ?_
  rintro e w7 ⟨rfl, hx⟩
  replace H := Lib.hid hx
  clear hx
  go_wp2_with fail
  refine (done_eq H.out (h4)).mono ?_
  rintro e w8 ⟨rfl, hx⟩
  replace H := Lib.hid hx
  clear hx
  have k0 : w8.cell? ⟨C, 0, none⟩ = some (.int .i64 1) := H.out.c.cell 0 rfl
  have f4 := H.out.c.free 4
  have k4 : w8.cell? ⟨C, 4, none⟩ = some (.int .i64 0) := H.out.c.cell 4 rfl
  replace H := Lib.hid (H.out.store 4 (.int .i64 (b : Int)))
  go_upto_region 12 with fail
  change Code.wp _ _ _ _ (w8.setCell ⟨C, 4, none⟩ (.int .i64 (b : Int)))
  generalize w8.setCell ⟨C, 4, none⟩ (.int .i64 (b : Int)) = w11 at H ⊢
  clear f4 k4 k0
  have k0 : w11.cell? ⟨C, 0, none⟩ = some (.int .i64 1) := H.out.c.cell 0 rfl
  go_wp2_with fail
  refine (done_eq H.out (h5)).mono ?_
  rintro e w12 ⟨rfl, hx⟩
  replace H := Lib.hid hx
  clear hx
  have k0 : w12.cell? ⟨C, 0, none⟩ = some (.int .i64 1) := H.out.c.cell 0 rfl
  have f5 := H.out.c.free 5
  have k5 : w12.cell? ⟨C, 5, none⟩ = some (.int .i64 0) := H.out.c.cell 5 rfl
  replace H := Lib.hid (H.out.store 5 (.int .i64 (t : Int)))
  go_upto_region 13 with fail
  change Code.wp _ _ _ _ (w12.setCell ⟨C, 5, none⟩ (.int .i64 (t : Int)))
  generalize w12.setCell ⟨C, 5, none⟩ (.int .i64 (t : Int)) = w13 at H ⊢
  clear f5 k5 k0
  have k0 : w13.cell? ⟨C, 0, none⟩ = some (.int .i64 1) := H.out.c.cell 0 rfl
  go_wp2_with fail
  refine (done_eq H.out (h6)).mono ?_
  rintro e w14 ⟨rfl, hx⟩
  replace H := Lib.hid hx
  clear hx
  have k0 : w14.cell? ⟨C, 0, none⟩ = some (.int .i64 1) := H.out.c.cell 0 rfl
  have f8 := H.out.c.free 8
  have k8 : w14.cell? ⟨C, 8, none⟩ = some (.int .i64 0) := H.out.c.cell 8 rfl
  replace H := Lib.hid (H.out.store 8 (.int .i64 (f : Int)))
  go_upto_region 14 with fail
  change Code.wp _ _ _ _ (w14.setCell ⟨C, 8, none⟩ (.int .i64 (f : Int)))
  generalize w14.setCell ⟨C, 8, none⟩ (.int .i64 (f : Int)) = w15 at H ⊢
  clear f8 k8 k0
  have k0 : w15.cell? ⟨C, 0, none⟩ = some (.int .i64 1) := H.out.c.cell 0 rfl
  go_wp2_with fail
  refine (dint_eq H.out (h7)).mono ?_
  rintro e w16 ⟨rfl, hx⟩
  replace H := Lib.hid hx
  clear hx
  have k0 : w16.cell? ⟨C, 0, none⟩ = some (.int .i64 1) := H.out.c.cell 0 rfl
  have f6 := H.out.c.free 6
  have k6 : w16.cell? ⟨C, 6, none⟩ = some (.int .i64 0) := H.out.c.cell 6 rfl
  replace H := Lib.hid (H.out.store 6 (.int .i64 p))
  go_upto_region 16 with fail
  change Code.wp _ _ _ _ (w16.setCell ⟨C, 6, none⟩ (.int .i64 p))
  generalize w16.setCell ⟨C, 6, none⟩ (.int .i64 p) = w17 at H ⊢
  clear f6 k6 k0
  have k0 : w17.cell? ⟨C, 0, none⟩ = some (.int .i64 1) := H.out.c.cell 0 rfl
  go_wp2_with fail
  refine (dint_eq H.out (h8)).mono ?_
  rintro e w18 ⟨rfl, hx⟩
  replace H := Lib.hid hx
  clear hx
  have k0 : w18.cell? ⟨C, 0, none⟩ = some (.int .i64 1) := H.out.c.cell 0 rfl
  have f7 := H.out.c.free 7
  have k7 : w18.cell? ⟨C, 7, none⟩ = some (.int .i64 0) := H.out.c.cell 7 rfl
  replace H := Lib.hid (H.out.store 7 (.int .i64 q))
  go_upto_region 17 with fail
  change Code.wp _ _ _ _ (w18.setCell ⟨C, 7, none⟩ (.int .i64 q))
  generalize w18.setCell ⟨C, 7, none⟩ (.int .i64 q) = w19 at H ⊢
  clear f7 k7 k0
  have k0 : w19.cell? ⟨C, 0, none⟩ = some (.int .i64 1) := H.out.c.cell 0 rfl
  have k1 := H.out.fault
  cases st8 with
  | inl f =>
    have hf : (f != 0) = true := by obtain ⟨l', v', -, -, -, -, h5⟩ := H.out.r; rcases h5 with h5 | ⟨g, hg, h5⟩; exact absurd h5 (by simp); injection h5 with h5; subst h5; simpa using hg
    have HV := Lib.hid (show decV (decF (1 :: l)) = (zeroC, f) by rw [HD.out]; rfl)
    have k1' : w19.cell? ⟨P, 1, none⟩ = some (.int .i64 f) := k1
    clear HD k1
    go_upto_region 18 with fail
    refine wp_region_held_drew (S := (fun w' => w'.cell? ⟨P, 1, none⟩ = some (.int .i64 f))) (by kernel_rfl) k1' (fun hHeld => ?_)
    replace H := Lib.hid H.out.drew
    clear k1'
    generalize w19.drew = wd at H hHeld ⊢
    refine wpAnyH_take (i := 0) (oi := ⟨some 61, _, _, _, _, _⟩) (v := ?_) rfl (by kernel_rfl) (by kernel_rfl) (by kernel_rfl) (fun _ _ _ h => h) (Or.inl ⟨by rfl, ?_⟩) (by assumption) ?_
    rotate_left
    · (intro w hSw; (try dsimp only at hSw); go_simp; (try with_reducible rfl))
    simp only [Act.put, List.setIfInBounds_toArray, List.set_cons_zero, List.set_cons_succ]
    refine wpAnyH_take (i := 1) (oi := ⟨some 62, _, _, _, _, _⟩) (v := ?_) rfl (by kernel_rfl) (by kernel_rfl) (by kernel_rfl) (fun _ _ _ h => h) (Or.inl ⟨by rfl, ?_⟩) (by assumption) ?_
    rotate_left
    · (intro w hSw; (try dsimp only at hSw); go_simp; (try with_reducible rfl))
    simp only [Act.put, List.setIfInBounds_toArray, List.set_cons_zero, List.set_cons_succ]
    refine wpAnyH_take (i := 2) (oi := ⟨some 63, _, _, _, _, _⟩) (v := ?_) rfl (by kernel_rfl) (by kernel_rfl) (by kernel_rfl) (fun _ _ _ h => h) (Or.inl ⟨by rfl, ?_⟩) (by assumption) ?_
    rotate_left
    · (intro w hSw; (try dsimp only at hSw); go_simp; (try with_reducible rfl))
    simp only [Act.put, List.setIfInBounds_toArray, List.set_cons_zero, List.set_cons_succ]
    refine wpAnyH_take (i := 3) (oi := ⟨some 64, _, _, _, _, _⟩) (v := ?_) rfl (by kernel_rfl) (by kernel_rfl) (by kernel_rfl) (fun _ _ _ h => h) (Or.inl ⟨by rfl, ?_⟩) (by assumption) ?_
    rotate_left
    · (intro w hSw; (try dsimp only at hSw); go_simp; (try with_reducible rfl))
    simp only [Act.put, List.setIfInBounds_toArray, List.set_cons_zero, List.set_cons_succ]
    refine wpAnyH_take (i := 4) (oi := ⟨some 65, _, _, _, _, _⟩) (v := ?_) rfl (by kernel_rfl) (by kernel_rfl) (by kernel_rfl) (fun _ _ _ h => h) (Or.inl ⟨by rfl, ?_⟩) (by assumption) ?_
    rotate_left
    · (intro w hSw; (try dsimp only at hSw); go_simp; (try with_reducible rfl))
    simp only [Act.put, List.setIfInBounds_toArray, List.set_cons_zero, List.set_cons_succ]
    refine wpAnyH_ready (rs := [5]) (by kernel_rfl) (by simp) ?_
    refine AllReadyH.cons (o := ⟨none, _, _, _, _, _⟩) rfl (fun KK hK => ?_) AllReadyH.nil
    refine step_store_blk (by rfl) 164 _ _ (by rfl) w.heap.size (by rfl) _ zero9 164 H.out.z (by rfl) rfl (by kernel_rfl) (one_cm zeroC) ?_
    have hz2 := H.out.z.setCells zero9 rfl
    have hbel := Below.setCells zero9.toList 0 _ H.out.bel (Nat.le_refl _) (B := w.heap.size)
    have k1'' : (wd.setCells w.heap.size 0 zero9.toList).cell? ⟨P, 1, none⟩ = some (.int .i64 f) := by obtain ⟨v', hv'⟩ := H.out.rblk; exact (Blk.apartAll zero9.toList 0 _ hv' (by have := H.out.zP; omega)).cell 1 rfl
    refine hK.out _ _ k1'' (fun hHeld => ?_)
    clear hK; try clear KK
    refine wpAnyH_take (i := 6) (oi := ⟨some 3, _, _, _, _, _⟩) (v := ?_) rfl (by kernel_rfl) (by kernel_rfl) (by kernel_rfl) (fun _ _ _ h => h) (Or.inl ⟨by rfl, ?_⟩) (by assumption) ?_
    rotate_left
    · (intro w hSw; (try dsimp only at hSw); go_simp; (try with_reducible rfl))
    simp only [Act.put, List.setIfInBounds_toArray, List.set_cons_zero, List.set_cons_succ]
    refine wpAnyH_done (by kernel_rfl) ?_ _
    go_wp2_with fail
    refine bodyPost_ret (results_blk_tmp (cs := zero9) rfl rfl hz2 Tryd.underlying164 rfl (by kernel_rfl)) rfl ⟨by rw [HV.out]; rfl, hbel⟩
  | inr rest =>
    have k1' : w19.cell? ⟨P, 1, none⟩ = some (.int .i64 0) := k1
    obtain ⟨ra, rc, k9⟩ := H.out.left
    have HX := Lib.hid (show decV (decF (1 :: l)) = decV (endR 1 s i ⟨a, b, t, f⟩ (p, q) rest) by rw [HD.out]; rfl)
    have HZ := Lib.hid H.out.z
    have HB := Lib.hid H.out.bel
    clear HD k1
    by_cases g1 : 4611686018427387904 < i
    · have g1' : (4611686018427387904 : Int) < (i : Int) := by omega
      have HV := Lib.hid (show decV (decF (1 :: l)) = (zeroC, 4) by rw [HX.out]; exact end_bad (.inl g1))
      go_wp2_with (refine store_blk (by rfl) 164 _ _ (by rfl) w.heap.size (by rfl) _ zero9 164 (HZ).out (by rfl) rfl (by kernel_rfl) (one_cm zeroC) ?_)
      refine bodyPost_ret (results_blk_tmp (cs := zero9) rfl rfl ((HZ).out.setCells zero9 rfl) Tryd.underlying164 rfl (by kernel_rfl)) rfl ⟨by rw [HV.out]; rfl, Below.setCells _ _ _ (HB).out (Nat.le_refl _)⟩
    have g1' : ¬ (4611686018427387904 : Int) < (i : Int) := by omega
    by_cases g2 : 1073741824 < a
    · have g2' : (1073741824 : Int) < (a : Int) := by omega
      have HV := Lib.hid (show decV (decF (1 :: l)) = (zeroC, 4) by rw [HX.out]; exact end_bad (.inr (.inl g2)))
      go_wp2_with (refine store_blk (by rfl) 164 _ _ (by rfl) w.heap.size (by rfl) _ zero9 164 (HZ).out (by rfl) rfl (by kernel_rfl) (one_cm zeroC) ?_)
      refine bodyPost_ret (results_blk_tmp (cs := zero9) rfl rfl ((HZ).out.setCells zero9 rfl) Tryd.underlying164 rfl (by kernel_rfl)) rfl ⟨by rw [HV.out]; rfl, Below.setCells _ _ _ (HB).out (Nat.le_refl _)⟩
    have g2' : ¬ (1073741824 : Int) < (a : Int) := by omega
    have a0 : (0 : Int) ≤ (a : Int) := by omega
    have a1 : (a : Int) ≤ 1073741824 := by omega
    by_cases hrest : 0 < rest.length
    · have hr : (0 : Int) < (rest.length : Int) := by omega
      have HV := Lib.hid (show decV (decF (1 :: l)) = (zeroC, 4) by rw [HX.out]; exact end_bad (.inr (.inr (.inl (List.length_pos_iff.1 hrest)))))
      go_wp2_with (refine store_blk (by rfl) 164 _ _ (by rfl) w.heap.size (by rfl) _ zero9 164 (HZ).out (by rfl) rfl (by kernel_rfl) (one_cm zeroC) ?_)
      refine bodyPost_ret (results_blk_tmp (cs := zero9) rfl rfl ((HZ).out.setCells zero9 rfl) Tryd.underlying164 rfl (by kernel_rfl)) rfl ⟨by rw [HV.out]; rfl, Below.setCells _ _ _ (HB).out (Nat.le_refl _)⟩
    obtain rfl : rest = [] := List.eq_nil_of_length_eq_zero (by omega)
    have i0 : (0 : Int) ≤ (i : Int) := by omega
    have i1 : (i : Int) ≤ 4611686018427387904 := by omega
    have c2 : w19.cell? ⟨C, 2, none⟩ = some (.int .i64 0) := H.out.c.cell 2 rfl
    have c3 : w19.cell? ⟨C, 3, none⟩ = some (.int .i64 0) := H.out.c.cell 3 rfl
    have f2 := H.out.c.free 2
    have f3 := H.out.c.free 3
    have H2 := Lib.hid ((H.out.store 2 (.int .i64 (i : Int))).store 3 (.int .i64 ((a : Int))))
    go_upto_region 23 with fail
    change Code.wp _ _ _ _ ((w19.setCell ⟨C, 2, none⟩ (.int .i64 (i : Int))).setCell ⟨C, 3, none⟩ (.int .i64 ((a : Int))))
    generalize (w19.setCell ⟨C, 2, none⟩ (.int .i64 (i : Int))).setCell ⟨C, 3, none⟩ (.int .i64 ((a : Int))) = w9 at H2 ⊢
    clear c2 c3 f2 f3 k0 H k9 k1' HZ HB
    have HC := Lib.hid (show Blk w9 C (Cmd.cells (mkC 1 s i ⟨a, b, t, f⟩ (p, q))) 164 from H2.out.c)
    go_wp2_with (refine load_blk (by rfl) 164 _ (by rfl) C (by rfl) _ _ HC.out _ Tryd.underlying164 rfl (by kernel_rfl) ?_)
    refine (rright_any (mkC 1 s i ⟨a, b, t, f⟩ (p, q)) w9).mono ?_
    rintro e w10 ⟨rfl, hb10⟩
    replace HC := Lib.hid (HC.out.below hb10 HC.out.lt)
    replace H2 := Lib.hid (H2.out.below hb10)
    have HZ := Lib.hid H2.out.z
    have HB := Lib.hid H2.out.bel
    clear hb10
    cases hrc : rightC (mkC 1 s i ⟨a, b, t, f⟩ (p, q)) with
    | false =>
      have HV := Lib.hid (show decV (decF (1 :: l)) = (zeroC, 4) by rw [HX.out]; exact end_bad (.inr (.inr (.inr hrc))))
      go_wp2_with (refine store_blk (by rfl) 164 _ _ (by rfl) w.heap.size (by rfl) _ zero9 164 (HZ).out (by rfl) rfl (by kernel_rfl) (one_cm zeroC) ?_)
      refine bodyPost_ret (results_blk_tmp (cs := zero9) rfl rfl ((HZ).out.setCells zero9 rfl) Tryd.underlying164 rfl (by kernel_rfl)) rfl ⟨by rw [HV.out]; rfl, Below.setCells _ _ _ (HB).out (Nat.le_refl _)⟩
    | true =>
      have HV := Lib.hid (show decV (decF (1 :: l)) = (mkC 1 s i ⟨a, b, t, f⟩ (p, q), 0) by rw [HX.out]; exact end_good (by omega) (by first | omega | (show ¬ 1073741824 < (0 : Nat); omega)) hrc)
      go_wp2_with (first
        | (refine load_blk (by rfl) 164 _ (by rfl) C (by rfl) _ _ HC.out _ Tryd.underlying164 rfl (by kernel_rfl) ?_)
        | (refine store_blk (by rfl) 164 _ _ (by rfl) w.heap.size (by rfl) _ (Cmd.cells (mkC 1 s i ⟨a, b, t, f⟩ (p, q))) 164 HZ.out (by rfl) rfl (by kernel_rfl) (one_cm _) ?_))
      refine bodyPost_ret (results_blk_tmp (cs := Cmd.cells (mkC 1 s i ⟨a, b, t, f⟩ (p, q))) rfl rfl (HZ.out.setCells (Cmd.cells (mkC 1 s i ⟨a, b, t, f⟩ (p, q))) rfl) Tryd.underlying164 rfl (by kernel_rfl)) rfl ⟨by rw [HV.out]; rfl, Below.setCells _ _ _ HB.out (Nat.le_refl _)⟩
/-- damperref05.Decode, of any bytes. -/
theorem rdecode_any (M : Nat) (l : List Nat) (hl : l.length ≤ 100000) (hby : ∀ b ∈ l, b < 256) (v : Value) (w : World) (h : AtB 0 M l v w) (hM : M ≤ w.heap.size) :
    Calls Tryd.prog 115 #[v] w (DecIs l w) := by
  cases l with
  | nil => exact rdecode_nil M hl hby v w h hM
  | cons k l =>
    by_cases h1 : k = 1
    · subst h1; exact rdecode_one M l hl hby v w h hM
    by_cases h2 : k = 2
    · subst h2; exact rdecode_two M l hl hby v w h hM
    by_cases h3 : k = 3
    · subst h3; exact rdecode_three M l hl hby v w h hM
    · exact rdecode_bad M k l (by omega) hl hby v w h hM
end Go.Proofs.YtmkcooamgojbpaaDoor.Cmds
