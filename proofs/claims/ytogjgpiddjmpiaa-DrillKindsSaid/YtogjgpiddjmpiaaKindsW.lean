/- The walk of damperlaw37.DrillKinds. -/
import Derived.Test.YtogjgpiddjmpiaaKinds
import Derived.Deep.DrawnRows
namespace Go.Proofs.Ytogjgpiddjmpiaa.Kinds
set_option linter.unusedVariables false
open Go.RowKit Go.Shelf Go.Proofs.Ytogjgpiddjmpiaa.Kit Go.Proofs.Ytogjgpiddjmpiaa.Blk Go.Proofs.Ytogjgpiddjmpiaa.Iter
attribute [local go_sem] Oper.semAt_some wide_fn
attribute [local go_sem ↓] Go.wp_at_zero Go.wp_at_succ

theorem results_cell_row_one {P : Program} {fn : Func} {p : Tmp} {ty T : TypeId} {tmps : Array Value} {w : World} {B : Nat} {b : Bool} (hb : Blk w B #[.bool b] T) (h : fn.results = #[.cell p ty]) (hp : tmps.getD p undef = .pointer (some ⟨B, 0, none⟩) := by rfl)
    (hu : P.underlying ty = some .bool := by exact Try.underlying4) : (results fn tmps).run P w = .ok (.bool b) w := by
  have hc : w.cell? ⟨B, 0, none⟩ = some (.bool b) := hb.cell 0 rfl
  have hp' : tmps[p]?.getD undef = .pointer (some ⟨B, 0, none⟩) := by simpa using hp
  have hag := run_isAgg_plain hu rfl w
  simp [results, h, hp', asAddr, loadVar, hag, hc, go_sem]
structure KI (D : Nat) (stop : Int) (A B C : Nat) (pre : List (Nat × ByteArray)) (W : World) : Prop where
  good : pre <+: full
  none : ¬ (1 ≤ stop ∧ stop ≤ pre.length)
  stop : Blk W A #[.int .i64 stop] 3
  res : Blk W B #[.bool false] 4
  cnt : Blk W C #[.int .i64 (pre.length : Nat)] 3
  dl : D < W.heap.size
structure KX (D : Nat) (stop : Int) (A B C : Nat) (c : Code) (pre : List (Nat × ByteArray)) (W : World) : Prop where
  how : (c = .ret ∧ ¬ pre <+: full) ∨ (c = .exit 0 ∧ stop = pre.length ∧ 1 ≤ stop)
  stop : Blk W A #[.int .i64 stop] 3
  res : Blk W B #[.bool false] 4
  cnt : c = .exit 0 → Blk W C #[.int .i64 (pre.length : Nat)] 3

theorem beq_bytes (s t : ByteArray) (h : ¬ s = t) : (s == t) = false := by
  have hd : ¬ s.data = t.data := fun e => h (by cases s; cases t; simp at e; rw [e])
  show (s.data == t.data) = false
  simpa using hd
theorem bne_bytes (s t : ByteArray) (h : ¬ s = t) : (s != t) = true := by unfold bne; rw [beq_bytes s t h]; rfl
theorem bne_list (s t : ByteArray) (h : ¬ s = t) : (s.toList == t.toList) = false := by
  rw [ByteArray.toList_eq, ByteArray.toList_eq]
  have : ¬ s.data.toList = t.data.toList := fun e => h (Go.WideShapes.bytes_inj e)
  simpa using this
theorem good_snoc (pre : List (Nat × ByteArray)) (x : Nat × ByteArray) (h : pre <+: full) : (pre ++ [x] <+: full) ↔ full[pre.length]? = some x := by
  obtain ⟨t, ht⟩ := h
  rw [← ht, List.getElem?_append_right (Nat.le_refl _), Nat.sub_self]
  cases t with
  | nil =>
    simp only [List.append_nil, List.getElem?_nil, reduceCtorEq, iff_false]
    intro h
    have := h.length_le
    simp at this
    omega
  | cons y t =>
    constructor
    · intro h
      rw [List.prefix_append_right_inj] at h
      obtain ⟨s, hs⟩ := h
      simp at hs ⊢
      exact hs.1.symm
    · intro h
      simp at h
      subst h
      rw [List.prefix_append_right_inj]
      exact ⟨t, rfl⟩

theorem leave_no {w W V : World} {stop : Int} {C N D : Nat} {pre : List (Nat × ByteArray)} {x : Nat × ByteArray} (hv : KeepsFrom N W V) (hI : KI D stop w.heap.size (w.heap.size + 1) C pre V) (hB : Below w.heap.size w V) (hn : ¬ pre ++ [x] <+: full) :
    KeepsFrom N W ((V.setCell ⟨w.heap.size + 1, 0, none⟩ (.bool false)).drew) ∧ (KX D stop w.heap.size (w.heap.size + 1) C .ret (pre ++ [x]) ((V.setCell ⟨w.heap.size + 1, 0, none⟩ (.bool false)).drew) ∧ Below w.heap.size w ((V.setCell ⟨w.heap.size + 1, 0, none⟩ (.bool false)).drew)) :=
  ⟨hv.trans (((KeepsOthers.setCell _ _ _).trans (KeepsOthers.drew _)).from _), ⟨.inl ⟨rfl, hn⟩, (hI.stop.apart _ _ (by show w.heap.size + 1 ≠ w.heap.size; omega)), by have := hI.res.set 0 (.bool false); exact this, fun h => by cases h⟩, (hB.setCell (p := ⟨w.heap.size + 1, 0, none⟩) (by show w.heap.size ≤ w.heap.size + 1; omega) _).drew⟩
theorem leave_no2 {w W : World} {stop : Int} {C N D : Nat} {pre : List (Nat × ByteArray)} {x : Nat × ByteArray} (hC : w.heap.size + 1 < C) (hI : KI D stop w.heap.size (w.heap.size + 1) C pre W) (hB : Below w.heap.size w W) (hn : ¬ pre ++ [x] <+: full) :
    KeepsFrom N W (((W.setCell ⟨w.heap.size + 1, 0, none⟩ (.bool false)).alloc (.cells cells 9)).drew) ∧ (KX D stop w.heap.size (w.heap.size + 1) C .ret (pre ++ [x]) (((W.setCell ⟨w.heap.size + 1, 0, none⟩ (.bool false)).alloc (.cells cells 9)).drew) ∧ Below w.heap.size w (((W.setCell ⟨w.heap.size + 1, 0, none⟩ (.bool false)).alloc (.cells cells 9)).drew)) :=
  ⟨(((KeepsOthers.setCell _ _ _).trans (KeepsOthers.alloc _ _)).trans (KeepsOthers.drew _)).from _, ⟨.inl ⟨rfl, hn⟩, (hI.stop.apart _ _ (by show w.heap.size + 1 ≠ w.heap.size; omega)).old _, by have := (hI.res.set 0 (.bool false)).old (.cells cells 9); exact this, fun h => by cases h⟩,
    ((hB.setCell (p := ⟨w.heap.size + 1, 0, none⟩) (by show w.heap.size ≤ w.heap.size + 1; omega) _).alloc (by have := hB.size; simpa [World.setCell] using this) _).drew⟩
theorem ki_old {V : World} {stop : Int} {A B C D : Nat} {pre : List (Nat × ByteArray)} (hI : KI D stop A B C pre V) (o : Obj) : KI D stop A B C pre (V.alloc o) := ⟨hI.good, hI.none, hI.stop.old o, hI.res.old o, hI.cnt.old o, by have := hI.dl; simp; omega⟩
theorem cnt_set {V : World} {C : Nat} {pre : List (Nat × ByteArray)} {x : Nat × ByteArray} (h : Blk V C #[.int .i64 (pre.length : Nat)] 3) : Blk (V.setCell ⟨C, 0, none⟩ (.int .i64 ((pre.length : Int) + 1))) C #[.int .i64 ((pre ++ [x]).length : Nat)] 3 := by
  have e : (((pre ++ [x]).length : Nat) : Int) = (pre.length : Int) + 1 := by simp
  rw [e]
  have := h.set 0 (.int .i64 ((pre.length : Int) + 1))
  exact this
theorem ki_next {w V : World} {stop : Int} {C D : Nat} {pre : List (Nat × ByteArray)} {x : Nat × ByteArray} (hI : KI D stop w.heap.size (w.heap.size + 1) C pre V) (hC : w.heap.size + 1 < C) (hn : pre ++ [x] <+: full) (hs : ¬ stop = (pre.length : Int) + 1) :
    KI D stop w.heap.size (w.heap.size + 1) C (pre ++ [x]) (V.setCell ⟨C, 0, none⟩ (.int .i64 ((pre.length : Int) + 1))) :=
  ⟨hn, by have := hI.none; simp at *; omega, hI.stop.apart _ _ (by show C ≠ w.heap.size; omega), hI.res.apart _ _ (by show C ≠ w.heap.size + 1; omega), cnt_set hI.cnt, by have := hI.dl; simpa [World.setCell] using this⟩
theorem kx_next {w V : World} {stop : Int} {C D : Nat} {pre : List (Nat × ByteArray)} {x : Nat × ByteArray} (hI : KI D stop w.heap.size (w.heap.size + 1) C pre V) (hC : w.heap.size + 1 < C) (hs : stop = (pre.length : Int) + 1) (o : Obj) :
    KX D stop w.heap.size (w.heap.size + 1) C (.exit 0) (pre ++ [x]) (((V.setCell ⟨C, 0, none⟩ (.int .i64 ((pre.length : Int) + 1))).alloc o).drew) :=
  ⟨.inr ⟨rfl, by simp; omega, by omega⟩, (hI.stop.apart _ _ (by show C ≠ w.heap.size; omega)).old o, (hI.res.apart _ _ (by show C ≠ w.heap.size + 1; omega)).old o, fun _ => (cnt_set hI.cnt).old o⟩
theorem ki_drew {V : World} {stop : Int} {A B C D : Nat} {pre : List (Nat × ByteArray)} (hI : KI D stop A B C pre V) : KI D stop A B C pre V.drew := ⟨hI.good, hI.none, hI.stop, hI.res, hI.cnt, hI.dl⟩

set_option maxRecDepth 100000 in
set_option maxHeartbeats 4000000 in
theorem kinds (stop : Int) (w : World) : Calls Try.prog 3 #[.int .i64 stop] w fun e w' => e = .returned (.bool true) ∧ Below w.heap.size w w' := by
  refine of_wide (n := 9) ?_
  refine callsIn_of_wp_marks Try.func3 rfl trivial ?_ rfl
  simp only [Try.ntmps3, List.size_toArray, List.length_cons, List.length_nil, Nat.reduceAdd, Nat.reduceSub, Array.replicate_succ, Array.replicate_zero, List.push_toArray, List.append_toArray, List.nil_append, List.cons_append]
  have hb0 : Below w.heap.size w ((w.alloc (.cells #[.int .i64 stop] 3)).alloc (.cells #[.bool false] 4)) := ((Below.refl _ _).alloc (Nat.le_refl _) _).alloc (by simp) _
  have hA0 := (Blk.new w #[.int .i64 stop] 3 w.heap.size rfl).old (.cells #[.bool false] 4)
  have hB0 := Blk.new (w.alloc (.cells #[.int .i64 stop] 3)) #[.bool false] 4 (w.heap.size + 1) (by simp)
  have HA := Lib.hid hA0
  have HB := Lib.hid hB0
  have HL := Lib.hid hb0
  clear hA0 hB0 hb0
  gi_wp2_with fail
  generalize (w.alloc (.cells #[.int .i64 stop] 3)).alloc (.cells #[.bool false] 4) = W0 at HA HB HL ⊢
  refine (to_wide (Alive37.alive _)).mono ?_
  rintro e w1 ⟨rfl, hb1⟩
  replace HA := Lib.hid (HA.out.below hb1 HA.out.lt)
  replace HB := Lib.hid (HB.out.below hb1 HB.out.lt)
  replace HL := Lib.hid (HL.out.trans (hb1.mono HL.out.size))
  clear hb1
  have HC := Lib.hid (Blk.new w1 #[.int .i64 0] 3 w1.heap.size rfl)
  replace HA := Lib.hid (HA.out.old (.cells #[.int .i64 0] 3))
  replace HB := Lib.hid (HB.out.old (.cells #[.int .i64 0] 3))
  replace HL := Lib.hid (HL.out.alloc HL.out.size (.cells #[.int .i64 0] 3))
  have hC : w.heap.size + 1 < w1.heap.size := by have := HB.out.lt; have hne := HB.out; simp at this; rcases Nat.lt_or_ge (w.heap.size + 1) w1.heap.size with h | h; exact h; exfalso; have e : w.heap.size + 1 = w1.heap.size := by omega
                                                 rw [e] at hne; have := hne.symm.trans HC.out; injection this with this; injection this with h1 _ _; cases h1
  gi_wp2_with fail
  generalize w1.alloc (.cells #[.int .i64 0] 3) = W1 at HA HB HL HC ⊢
  refine (to_wide (each_any _)).mono ?_
  rintro e w2 ⟨rfl, rfl⟩
  have HN := Lib.hid ((Blk.new W1 cells 9 W1.heap.size rfl).old (.cells #[.slice (some ⟨W1.heap.size, 0, none⟩) 5 5] 26))
  have HS := Lib.hid (Blk.new (W1.alloc (.cells cells 9)) #[.slice (some ⟨W1.heap.size, 0, none⟩) 5 5] 26 (W1.heap.size + 1) (by simp))
  have HW1 := Lib.hid HC.out.lt
  replace HA := Lib.hid ((HA.out.old (.cells cells 9)).old (.cells #[.slice (some ⟨W1.heap.size, 0, none⟩) 5 5] 26))
  replace HB := Lib.hid ((HB.out.old (.cells cells 9)).old (.cells #[.slice (some ⟨W1.heap.size, 0, none⟩) 5 5] 26))
  replace HC := Lib.hid ((HC.out.old (.cells cells 9)).old (.cells #[.slice (some ⟨W1.heap.size, 0, none⟩) 5 5] 26))
  replace HL := Lib.hid ((HL.out.alloc HL.out.size (.cells cells 9)).alloc (by have := HL.out.size; simp; omega) (.cells #[.slice (some ⟨W1.heap.size, 0, none⟩) 5 5] 26))
  gi_wp2_with fail
  generalize (W1.alloc (.cells cells 9)).alloc (.cells #[.slice (some ⟨W1.heap.size, 0, none⟩) 5 5] 26) = W2 at HA HB HC HN HS HL ⊢
  generalize w1.heap.size = C at HC hC HW1 ⊢
  generalize W1.heap.size = D at HN HS HW1 ⊢
  have hS := HS.out.cell 0 rfl
  have hDs := HS.out.lt
  have hCs := HC.out.lt
  refine wpIn_rangeFunc_ownG (w0 := W2) rfl (by decide) (gf := 102) (lb := #[.pointer (some ⟨D + 1, 0, none⟩)]) rfl trivial (enters_of Try.func102 (by kernel_rfl) rfl)
    (all_stops Fence.wide 8 trivial rfl (by decide) (D + 1) D W2 hDs hS HN.out) ks_t (ks_b (fun b hb => by omega)) (Below.refl _ _) (fun _ => rfl)
    (fun pre W => KI D stop w.heap.size (w.heap.size + 1) C pre W ∧ Below w.heap.size w W)
    (fun c pre W => KX D stop w.heap.size (w.heap.size + 1) C c pre W ∧ Below w.heap.size w W)
    (OwnFrom.and (Own.from (own_ck fun s X Y h hk => ⟨h.good, h.none, ck_blk h.stop hk, ck_blk h.res hk, ck_blk h.cnt hk, Nat.lt_of_lt_of_le h.dl hk.size⟩) _) (ownFrom_below (Nat.le_refl _) HL.out.size))
    (fun c => OwnFrom.and (Own.from (own_ck fun s X Y h hk => ⟨h.how, ck_blk h.stop hk, ck_blk h.res hk, fun e => ck_blk (h.cnt e) hk⟩) _) (ownFrom_below (Nat.le_refl _) HL.out.size))
    ⟨⟨List.nil_prefix, by simp; omega, HA.out, HB.out, HC.out, by omega⟩, HL.out⟩
    (fun x => { tmps := #[.int .i64 stop, .pointer (some ⟨w.heap.size, 0, none⟩), .pointer (some ⟨w.heap.size + 1, 0, none⟩), .pointer (some ⟨C, 0, none⟩), .int .i64 (x.1 : Int), .string x.2, .bool true, .bool false, .func (.func 102) #[] #[.pointer (some ⟨D + 1, 0, none⟩)], .int .i64 (x.1 : Int), .string x.2,
      undef, undef, undef, undef, undef, undef, undef, undef, undef, undef, undef, undef, undef, undef, undef, undef, undef, undef, undef, undef, undef, undef, undef, undef, undef, undef, undef, undef, undef, undef, undef], defers := [] }) ?assign ?body ?done ?stop
  case assign =>
    intro l x W K hK
    gi_wp2
    exact hK
  case body =>
    rintro l pre x W ⟨hI, hB⟩ hlen
    have HI := Lib.hid hI
    have HBW := Lib.hid hB
    have c1 : W.cell? ⟨C, 0, none⟩ = some (.int .i64 (pre.length : Nat)) := hI.cnt.cell 0 rfl
    have c2 : W.cell? ⟨w.heap.size, 0, none⟩ = some (.int .i64 stop) := hI.stop.cell 0 rfl
    have c3 : W.cell? ⟨w.heap.size + 1, 0, none⟩ = some (.bool false) := hI.res.cell 0 rfl
    have f1 : W.frozen? ⟨C, 0, none⟩ = false := hI.cnt.free 0
    have f3 : W.frozen? ⟨w.heap.size + 1, 0, none⟩ = false := hI.res.free 0
    have hl1 := HI.out.cnt.lt
    have hl2 := HI.out.stop.lt
    have hl3 := HI.out.res.lt
    have hmx : Try.prog.follows .mixedOrders = true := by kernel_rfl
    clear hI hB
    obtain ⟨k, s⟩ := x
    dsimp only
    by_cases hk : k = pre.length
    · subst hk
      have g0 : (0 : Int) ≤ (pre.length : Int) := by omega
      have g1 : (pre.length : Int) < 5 := by omega
      have b6 : decide ((5 : Int) ≤ (pre.length : Int)) = false := by simp; omega
      obtain ⟨nm, hnm, hfull⟩ : ∃ nm, cells[pre.length]? = some (.string nm) ∧ full[pre.length]? = some (pre.length, nm) := by
        have : pre.length = 0 ∨ pre.length = 1 ∨ pre.length = 2 ∨ pre.length = 3 ∨ pre.length = 4 := by omega
        rcases this with h | h | h | h | h <;> rw [h] <;> exact ⟨_, rfl, rfl⟩
      have hcn : ∀ X : World, (X.alloc (.cells cells 9)).cell? ⟨X.heap.size, pre.length, none⟩ = some (.string nm) := fun X => (Blk.new X cells 9 X.heap.size rfl).cell _ hnm
      by_cases hs : s = nm
      · subst hs
        have HG := Lib.hid ((good_snoc pre (pre.length, s) HI.out.good).2 hfull)
        have HD2 := Lib.hid (show C ≠ D by have := HW1.out; omega)
        clear hfull hnm
        have b2 : (s != s) = false := by show (!(s.data == s.data)) = false; simp
        have b3 : (s == s) = true := by show (s.data == s.data) = true; simp
        have g2 : (pre.length : Int) + 1 ≤ 5 := by omega
        have HEND := Lib.hid (show KeepsFrom W2.heap.size W (((W.setCell ⟨C, 0, none⟩ (.int .i64 ((pre.length : Int) + 1))).alloc (.cells cells 9)).drew) ∧ Below w.heap.size w (((W.setCell ⟨C, 0, none⟩ (.int .i64 ((pre.length : Int) + 1))).alloc (.cells cells 9)).drew) ∧ KS (· = D) W (((W.setCell ⟨C, 0, none⟩ (.int .i64 ((pre.length : Int) + 1))).alloc (.cells cells 9)).drew) from
          ⟨(((KeepsOthers.setCell W ⟨C, 0, none⟩ (.int .i64 ((pre.length : Int) + 1))).trans (KeepsOthers.alloc _ _)).trans (KeepsOthers.drew _)).from _,
            ((HBW.out.setCell (p := ⟨C, 0, none⟩) (by show w.heap.size ≤ C; omega) _).alloc (by have := HBW.out.size; simpa [World.setCell] using this) _).drew,
            fun b hb => by
              subst hb
              have h1 := Below.heap_setCell W ⟨C, 0, none⟩ (.int .i64 ((pre.length : Int) + 1)) b (Ne.symm HD2.out)
              exact (Below.heap_alloc (W.setCell ⟨C, 0, none⟩ (.int .i64 ((pre.length : Int) + 1))) _ b (by have := HI.out.dl; simpa [World.setCell] using this)).trans h1⟩)
        by_cases hst : stop = (pre.length : Int) + 1
        · have b4 : (((pre.length : Int) + 1) == stop) = true := by rw [hst]; simp
          have HX := Lib.hid (kx_next (x := (pre.length, s)) HI.out hC hst (.cells cells 9))
          clear hst
          gi_wp2
          gi_region_with_o (gi_at_call 16; refine (CallsIn.inRound l (to_wide (names_any _))).mono ?_; rintro e w' ⟨rfl, rfl⟩)
          all_goals gi_wp2
          all_goals exact ⟨HEND.out.1, HX.out, HEND.out.2.1⟩
        · have b4 : (((pre.length : Int) + 1) == stop) = false := by simpa using fun h => hst h.symm
          have HX := Lib.hid (ki_drew (ki_old (ki_next (x := (pre.length, s)) HI.out hC HG.out hst) (.cells cells 9)))
          clear hst
          gi_wp2
          gi_region_with_o (gi_at_call 16; refine (CallsIn.inRound l (to_wide (names_any _))).mono ?_; rintro e w' ⟨rfl, rfl⟩)
          all_goals gi_wp2
          all_goals exact ⟨HEND.out.1, HEND.out.2.2, HX.out, HEND.out.2.1⟩
      · have b2 := bne_list _ _ hs
        have HN2 := Lib.hid (leave_no2 (N := W2.heap.size) hC HI.out HBW.out (show ¬ pre ++ [(pre.length, s)] <+: full by rw [good_snoc _ _ HI.out.good, hfull]; simp; exact fun h => hs h.symm))
        clear hs hfull hnm
        gi_wp2
        gi_region_with_o (gi_at_call 16; refine (CallsIn.inRound l (to_wide (names_any _))).mono ?_; rintro e w' ⟨rfl, rfl⟩)
        all_goals gi_wp2
        all_goals exact HN2.out
    · have b1 : ((k : Int) != (pre.length : Nat)) = true := by simp; omega
      have HN2 := Lib.hid (leave_no (KeepsFrom.refl W2.heap.size W) HI.out HBW.out (show ¬ pre ++ [(k, s)] <+: full by
        rw [good_snoc _ _ HI.out.good]
        intro e
        have : pre.length = 0 ∨ pre.length = 1 ∨ pre.length = 2 ∨ pre.length = 3 ∨ pre.length = 4 := by omega
        rcases this with h | h | h | h | h <;> rw [h] at e <;> (injection e with e; injection e with e _; omega)))
      gi_wp2
      gi_region_with_o (fail)
      all_goals gi_wp2
      all_goals exact HN2.out
  case done =>
    rintro E xs W hE rfl ⟨hI, hB⟩ hK
    have c1 : W.cell? ⟨C, 0, none⟩ = some (.int .i64 5) := hI.cnt.cell 0 rfl
    have c2 : W.cell? ⟨w.heap.size, 0, none⟩ = some (.int .i64 stop) := hI.stop.cell 0 rfl
    have c3 : W.cell? ⟨w.heap.size + 1, 0, none⟩ = some (.bool false) := hI.res.cell 0 rfl
    have f3 : W.frozen? ⟨w.heap.size + 1, 0, none⟩ = false := hI.res.free 0
    have hns : ¬ (1 ≤ stop ∧ stop ≤ 5) := hI.none
    have HRES := Lib.hid (hI.res.set 0 (.bool true))
    have HBB := Lib.hid (hB.setCell (p := ⟨w.heap.size + 1, 0, none⟩) (by show w.heap.size ≤ w.heap.size + 1; omega) (.bool true))
    have HK := Lib.hid hK
    have HE := Lib.hid hE
    have HWL := Lib.hid HL.out.size
    clear hI hB hK hE
    have HK2 := Lib.hid ((KeepsOthers.setCell W ⟨w.heap.size + 1, 0, none⟩ (.bool true)).same E _ HK.out rfl)
    have HEND := Lib.hid (HBB.out.trans (belowK_b (w := w) (Nat.le_refl _) _ E _ (.deferred none) (by have := HE.out; have := HWL.out; omega) HK2.out rfl rfl))
    have HR := Lib.hid (ck_blk HRES.out (ck_of_put (o := .deferred none) HK2.out))
    by_cases h0 : 0 < stop
    · have h5 : ¬ stop < 5 := by omega
      have b5 : decide (stop < 5) = false := by simpa using h5
      gi_wp2
      refine ⟨by simp, .inl ⟨_, _, rfl, run_takeDeferred HK2.out, ?_⟩⟩
      exact ⟨_, results_cell_row_one HR.out rfl, rfl, HEND.out⟩
    · gi_wp2
      refine ⟨by simp, .inl ⟨_, _, rfl, run_takeDeferred HK2.out, ?_⟩⟩
      exact ⟨_, results_cell_row_one HR.out rfl, rfl, HEND.out⟩
  case stop =>
    rintro E c pre W hE hpre ⟨hX, hB⟩ hK
    rcases hX.how with ⟨rfl, hn⟩ | ⟨rfl, hs, h1⟩
    · exact absurd hpre hn
    have hn5 : pre.length ≤ 5 := by have := hpre.length_le; exact this
    have c1 : W.cell? ⟨C, 0, none⟩ = some (.int .i64 (pre.length : Nat)) := (hX.cnt rfl).cell 0 rfl
    have c2 : W.cell? ⟨w.heap.size, 0, none⟩ = some (.int .i64 stop) := hX.stop.cell 0 rfl
    have c3 : W.cell? ⟨w.heap.size + 1, 0, none⟩ = some (.bool false) := hX.res.cell 0 rfl
    have f3 : W.frozen? ⟨w.heap.size + 1, 0, none⟩ = false := hX.res.free 0
    have HRES := Lib.hid (hX.res.set 0 (.bool true))
    have HBB := Lib.hid (hB.setCell (p := ⟨w.heap.size + 1, 0, none⟩) (by show w.heap.size ≤ w.heap.size + 1; omega) (.bool true))
    have HK := Lib.hid hK
    have HE := Lib.hid hE
    have HWL := Lib.hid HL.out.size
    have HK2 := Lib.hid ((KeepsOthers.setCell W ⟨w.heap.size + 1, 0, none⟩ (.bool true)).same E _ HK.out rfl)
    have HEND := Lib.hid (HBB.out.trans (belowK_b (w := w) (Nat.le_refl _) _ E _ (.deferred none) (by have := HE.out; have := HWL.out; omega) HK2.out rfl rfl))
    have HR := Lib.hid (ck_blk HRES.out (ck_of_put (o := .deferred none) HK2.out))
    clear hX hB hK hE hpre
    subst hs
    by_cases h5 : (pre.length : Int) < 5
    · gi_wp2
      refine ⟨by simp, .inl ⟨_, _, rfl, run_takeDeferred HK2.out, ?_⟩⟩
      exact ⟨_, results_cell_row_one HR.out rfl, rfl, HEND.out⟩
    · have e5 : pre.length = 5 := by omega
      rw [e5] at c1
      have b5 : decide ((pre.length : Int) < 5) = false := by simpa using h5
      gi_wp2
      refine ⟨by simp, .inl ⟨_, _, rfl, run_takeDeferred HK2.out, ?_⟩⟩
      exact ⟨_, results_cell_row_one HR.out rfl, rfl, HEND.out⟩
end Go.Proofs.Ytogjgpiddjmpiaa.Kinds
