/- damperref34.mean. -/
import Derived.Test.YtogjgpiddjmpiaaRef01H
import Derived.Test.YtogjgpiddjmpiaaRef01M
namespace Go.Proofs.Ytogjgpiddjmpiaa.Ref01
set_option linter.unusedVariables false
open Go.RowKit Go.Proofs.Ytogjgpiddjmpiaa.Kit Go.Proofs.Ytogjgpiddjmpiaa.Blk Go.Proofs.Ytogjgpiddjmpiaa.B128
attribute [local go_sem ↓] Go.wp_at_zero Go.wp_at_succ

/-- The worth and the volume of the first n of a row of prices and quantities. -/
def worth : List (Nat × Nat) → Nat
  | [] => 0
  | x :: l => x.1 * x.2 + worth l
def volume : List (Nat × Nat) → Nat
  | [] => 0
  | x :: l => x.2 + volume l
theorem worth_app (l m : List (Nat × Nat)) : worth (l ++ m) = worth l + worth m := by
  induction l with
  | nil => simp [worth]
  | cons x l ih => simp [worth, ih, Nat.add_assoc]
theorem volume_app (l m : List (Nat × Nat)) : volume (l ++ m) = volume l + volume m := by
  induction l with
  | nil => simp [volume]
  | cons x l ih => simp [volume, ih, Nat.add_assoc]
theorem worth_next (l : List (Nat × Nat)) (i : Nat) (h : i < l.length) : worth (l.take (i + 1)) = worth (l.take i) + l[i].1 * l[i].2 := by
  rw [List.take_succ_eq_append_getElem h, worth_app]; simp [worth]
theorem volume_next (l : List (Nat × Nat)) (i : Nat) (h : i < l.length) : volume (l.take (i + 1)) = volume (l.take i) + l[i].2 := by
  rw [List.take_succ_eq_append_getElem h, volume_app]; simp [volume]
theorem volume_le (l : List (Nat × Nat)) (M : Nat) (h : ∀ x ∈ l, x.2 ≤ M) : volume l ≤ l.length * M := by
  induction l with
  | nil => simp [volume]
  | cons x l ih =>
    have h1 := ih (fun y hy => h y (List.mem_cons_of_mem _ hy))
    have h2 := h x List.mem_cons_self
    rw [List.length_cons, Nat.add_mul, Nat.one_mul]
    simp only [volume]
    omega
theorem worth_le (l : List (Nat × Nat)) (M : Nat) (h : ∀ x ∈ l, x.1 * x.2 ≤ M) : worth l ≤ l.length * M := by
  induction l with
  | nil => simp [worth]
  | cons x l ih =>
    have h1 := ih (fun y hy => h y (List.mem_cons_of_mem _ hy))
    have h2 := h x List.mem_cons_self
    rw [List.length_cons, Nat.add_mul, Nat.one_mul]
    simp only [worth]
    omega
/-- Two rows in memory. -/
structure Rows (w : World) (P Q : Nat) (l : List (Nat × Nat)) : Prop where
  p : ∀ i (h : i < l.length), w.cell? ⟨P, i, none⟩ = some (.int .i64 (l[i].1 : Int))
  q : ∀ i (h : i < l.length), w.cell? ⟨Q, i, none⟩ = some (.int .i64 (l[i].2 : Int))
theorem Rows.p' {w : World} {P Q : Nat} {l : List (Nat × Nat)} (h : Rows w P Q l) (i : Nat) (hi : i < l.length) {a : Nat} (ha : l[i].1 = a) : w.cell? ⟨P, i, none⟩ = some (.int .i64 (a : Int)) := by rw [← ha]; exact h.p i hi
theorem Rows.q' {w : World} {P Q : Nat} {l : List (Nat × Nat)} (h : Rows w P Q l) (i : Nat) (hi : i < l.length) {a : Nat} (ha : l[i].2 = a) : w.cell? ⟨Q, i, none⟩ = some (.int .i64 (a : Int)) := by rw [← ha]; exact h.q i hi
theorem Rows.below {w w' : World} {P Q n : Nat} {l : List (Nat × Nat)} (h : Rows w P Q l) (hb : Below n w w') (hP : P < n) (hQ : Q < n) : Rows w' P Q l :=
  ⟨fun i hi => by rw [World.cell?_of_block (hb.block P hP)]; exact h.p i hi, fun i hi => by rw [World.cell?_of_block (hb.block Q hQ)]; exact h.q i hi⟩

set_option maxRecDepth 20000 in
set_option maxHeartbeats 4000000 in
theorem mean_any (P Q cp cq : Nat) (l : List (Nat × Nat)) (hl : l.length ≤ 1000) (hpq : ∀ x ∈ l, x.1 < 2 ^ 63 ∧ x.2 < 2 ^ 33) (hv : 0 < volume l) (hm : worth l / volume l < 2 ^ 63) (w : World) (hP : P < w.heap.size) (hQ : Q < w.heap.size) (hR : Rows w P Q l) :
    Calls Try.prog 115 #[.slice (some ⟨P, 0, none⟩) l.length cp, .slice (some ⟨Q, 0, none⟩) l.length cq] w fun e w' => e = .returned (.int .i64 ((worth l / volume l : Nat) : Int)) ∧ Below w.heap.size w w' := by
  obtain ⟨i0, hi0, hz0, hz1, -⟩ := info_parts infoB
  go_enter Try.func115, Try.ntmps115
  go_upto_region 2 with (refine alloc_big rfl 239 rfl i0 hi0 _ hz0 ?_)
  have HS := Lib.hid (Blk.new w zero128 239 w.heap.size rfl)
  have HL := Lib.hid ((Below.refl w.heap.size w).alloc (Nat.le_refl _) (.cells zero128 239))
  change Code.wp _ _ _ _ (w.alloc (.cells zero128 239))
  generalize w.alloc (.cells zero128 239) = W at HS HL ⊢
  go_wp2_with fail
  go_loopw [6, 7] (fun n i wr => ∃ k : Nat, k ≤ l.length ∧ i = .int .i64 k ∧ n = .int .u64 ((volume (l.take k) : Nat) : Int) ∧ Blk wr w.heap.size (bitsB (BitVec.ofNat 128 (worth (l.take k)))) 239 ∧ Below w.heap.size w wr) (fun _ i _ => l.length - (intOf i).toNat)
  case atStart => exact ⟨0, by omega, rfl, rfl, by rw [List.take_zero]; have h := HS.out; have e : zero128 = bitsB (BitVec.ofNat 128 (worth [])) := bits_zero.symm; rw [← e]; exact h, HL.out⟩
  case round =>
    clear HS HL
    obtain ⟨k, hk, rfl, rfl, hs, hw⟩ := hrel
    have HS := Lib.hid hs
    have HL := Lib.hid hw
    clear hs hw
    by_cases hlt : k < l.length
    · have g0 : (0 : Int) ≤ (k : Int) := by omega
      have g1 : (k : Int) < (l.length : Int) := by omega
      go_upto_region 6 with fail
      have hx := hpq l[k] (List.getElem_mem hlt)
      have hc : wr.drew.cell? ⟨P, k, none⟩ = some (.int .i64 (l[k].1 : Int)) ∧ wr.drew.cell? ⟨Q, k, none⟩ = some (.int .i64 (l[k].2 : Int)) :=
        ⟨(hR.below HL.out hP hQ).p k hlt, (hR.below HL.out hP hQ).q k hlt⟩
      have hPr : P < wr.drew.heap.size := Nat.lt_of_lt_of_le hP HL.out.size
      have hQr : Q < wr.drew.heap.size := Nat.lt_of_lt_of_le hQ HL.out.size
      have HWN := Lib.hid (worth_next l k hlt)
      have HVN := Lib.hid (volume_next l k hlt)
      have HMUL := Lib.hid (fun w => mul_any l[k].1 l[k].2 (by omega) (by omega) w)
      have ea : IntKind.u64.wrap (l[k].1 : Int) = (l[k].1 : Int) := IntWalk.u64_in _ ⟨by omega, by omega⟩
      have eb : IntKind.u64.wrap (l[k].2 : Int) = (l[k].2 : Int) := IntWalk.u64_in _ ⟨by omega, by omega⟩
      have hvk := volume_le (l.take k) (2 ^ 33) (fun x hx => Nat.le_of_lt (hpq x (List.mem_of_mem_take hx)).2)
      have hvb : (l.take k).length * 2 ^ 33 ≤ 1000 * 2 ^ 33 := Nat.mul_le_mul_right _ (by rw [List.length_take]; omega)
      have ev : IntKind.u64.wrap ((volume (l.take k) : Nat) + (l[k].2 : Int)) = ((volume (l.take k) + l[k].2 : Nat) : Int) := by
        rw [IntWalk.u64_in _ ⟨by omega, by omega⟩]; rfl
      clear hvk hvb
      generalize hla : l[k].1 = a at *
      generalize hlb : l[k].2 = b at *
      have HA := Lib.hid hla
      have HB := Lib.hid hlb
      clear hla hlb
      replace HS := Lib.hid (show Blk wr.drew w.heap.size (bitsB (BitVec.ofNat 128 (worth (l.take k)))) 239 from HS.out)
      replace HL := Lib.hid (show Below w.heap.size w wr.drew from HL.out.drew)
      have HC := Lib.hid hc
      clear hc
      refine wp_region_held_drew (S := (fun w' => w'.cell? ⟨P, k, none⟩ = some (.int .i64 (a : Int)) ∧ w'.cell? ⟨Q, k, none⟩ = some (.int .i64 (b : Int)))) (by kernel_rfl) HC.out (fun hHeld => ?_)
      refine wpAnyH_take (i := 1) (oi := ⟨some 20, _, _, _, _, _⟩) (v := (.slice (some ⟨P, 0, none⟩) l.length cp)) rfl (by kernel_rfl) (by kernel_rfl) (by kernel_rfl) (fun _ _ _ h => h) (Or.inl ⟨by rfl, fun w hSw => by (try dsimp only at hSw); go_simp⟩) (by assumption) ?_
      simp only [Act.put, List.setIfInBounds_toArray, List.set_cons_zero, List.set_cons_succ]
      refine wpAnyH_take (i := 2) (oi := ⟨some 21, _, _, _, _, _⟩) (v := (.int .i64 k)) rfl (by kernel_rfl) (by kernel_rfl) (by kernel_rfl) (fun _ _ _ h => h) (Or.inl ⟨by rfl, fun w hSw => by (try dsimp only at hSw); go_simp⟩) (by assumption) ?_
      simp only [Act.put, List.setIfInBounds_toArray, List.set_cons_zero, List.set_cons_succ]
      refine wpAnyH_take (i := 3) (oi := ⟨some 22, _, _, _, _, _⟩) (v := (.pointer (some ⟨P, k, none⟩))) rfl (by kernel_rfl) (by kernel_rfl) (by kernel_rfl) (fun _ _ _ h => h) (Or.inl ⟨by rfl, fun w hSw => by (try dsimp only at hSw); go_simp⟩) (by assumption) ?_
      simp only [Act.put, List.setIfInBounds_toArray, List.set_cons_zero, List.set_cons_succ]
      refine wpAnyH_take (i := 4) (oi := ⟨some 23, _, _, _, _, _⟩) (v := (.int .i64 a)) rfl (by kernel_rfl) (by kernel_rfl) (by kernel_rfl) (fun _ _ _ h => h) (Or.inl ⟨by rfl, fun w hSw => by (try dsimp only at hSw); go_simp⟩) (by assumption) ?_
      simp only [Act.put, List.setIfInBounds_toArray, List.set_cons_zero, List.set_cons_succ]
      refine wpAnyH_take (i := 5) (oi := ⟨some 24, _, _, _, _, _⟩) (v := (.int .u64 a)) rfl (by kernel_rfl) (by kernel_rfl) (by kernel_rfl) (fun _ _ _ h => h) (Or.inl ⟨by rfl, fun w hSw => by (try dsimp only at hSw); go_simp⟩) (by assumption) ?_
      simp only [Act.put, List.setIfInBounds_toArray, List.set_cons_zero, List.set_cons_succ]
      refine wpAnyH_take (i := 6) (oi := ⟨some 25, _, _, _, _, _⟩) (v := (.slice (some ⟨Q, 0, none⟩) l.length cq)) rfl (by kernel_rfl) (by kernel_rfl) (by kernel_rfl) (fun _ _ _ h => h) (Or.inl ⟨by rfl, fun w hSw => by (try dsimp only at hSw); go_simp⟩) (by assumption) ?_
      simp only [Act.put, List.setIfInBounds_toArray, List.set_cons_zero, List.set_cons_succ]
      refine wpAnyH_take (i := 7) (oi := ⟨some 26, _, _, _, _, _⟩) (v := (.int .i64 k)) rfl (by kernel_rfl) (by kernel_rfl) (by kernel_rfl) (fun _ _ _ h => h) (Or.inl ⟨by rfl, fun w hSw => by (try dsimp only at hSw); go_simp⟩) (by assumption) ?_
      simp only [Act.put, List.setIfInBounds_toArray, List.set_cons_zero, List.set_cons_succ]
      refine wpAnyH_take (i := 8) (oi := ⟨some 27, _, _, _, _, _⟩) (v := (.pointer (some ⟨Q, k, none⟩))) rfl (by kernel_rfl) (by kernel_rfl) (by kernel_rfl) (fun _ _ _ h => h) (Or.inl ⟨by rfl, fun w hSw => by (try dsimp only at hSw); go_simp⟩) (by assumption) ?_
      simp only [Act.put, List.setIfInBounds_toArray, List.set_cons_zero, List.set_cons_succ]
      refine wpAnyH_take (i := 9) (oi := ⟨some 28, _, _, _, _, _⟩) (v := (.int .i64 b)) rfl (by kernel_rfl) (by kernel_rfl) (by kernel_rfl) (fun _ _ _ h => h) (Or.inl ⟨by rfl, fun w hSw => by (try dsimp only at hSw); go_simp⟩) (by assumption) ?_
      simp only [Act.put, List.setIfInBounds_toArray, List.set_cons_zero, List.set_cons_succ]
      refine wpAnyH_take (i := 10) (oi := ⟨some 29, _, _, _, _, _⟩) (v := (.int .u64 b)) rfl (by kernel_rfl) (by kernel_rfl) (by kernel_rfl) (fun _ _ _ h => h) (Or.inl ⟨by rfl, fun w hSw => by (try dsimp only at hSw); go_simp⟩) (by assumption) ?_
      simp only [Act.put, List.setIfInBounds_toArray, List.set_cons_zero, List.set_cons_succ]
      refine wpAnyH_ready (rs := [0, 11]) (by kernel_rfl) (by simp) ?_
      refine AllReadyH.cons (o := ⟨some 19, .load 239 (.tmp 5), _, _, _, _⟩) rfl (fun K hK => ?_) (AllReadyH.cons (o := ⟨some 30, _, _, _, _, _⟩) rfl (fun K hK => ?_) AllReadyH.nil)
      ·
        refine step_load_blk (by rfl) 239 _ (by rfl) w.heap.size (by rfl) _ _ HS.out _ Try.underlying239 rfl (by kernel_rfl) ?_
        refine hK.out _ _ HC.out (fun hHeld => ?_)
        clear hK; try clear KK
        try simp only [Act.put, List.setIfInBounds_toArray, List.set_cons_zero, List.set_cons_succ]
        refine wpAnyH_ready (rs := [11]) (by kernel_rfl) (by simp) ?_
        refine AllReadyH.cons (o := ⟨some 30, _, _, _, _, _⟩) rfl (fun KK hK => ?_) AllReadyH.nil
        go_simp
        refine (HMUL.out _).mono ?_
        rintro e w2 ⟨rfl, hb⟩
        replace HS := Lib.hid (HS.out.below hb HS.out.lt)
        replace HC := Lib.hid (And.intro ((World.cell?_of_block (a := ⟨P, k, none⟩) (hb.block P hPr)).trans HC.out.1) ((World.cell?_of_block (a := ⟨Q, k, none⟩) (hb.block Q hQr)).trans HC.out.2))
        replace HL := Lib.hid (HL.out.trans (hb.mono HL.out.size))
        replace hPr := Nat.lt_of_lt_of_le hPr hb.size
        replace hQr := Nat.lt_of_lt_of_le hQr hb.size
        clear hb
        go_wp2_with fail
        refine hK.out _ _ HC.out (fun hHeld => ?_)
        clear hK; try clear KK
        try simp only [Act.put, List.setIfInBounds_toArray, List.set_cons_zero, List.set_cons_succ]
        refine wpAnyH_ready (rs := [12]) (by kernel_rfl) (by simp) ?_
        refine AllReadyH.cons (o := ⟨some 31, _, _, _, _, _⟩) rfl (fun KK hK => ?_) AllReadyH.nil
        go_simp
        refine (add_any _ _ _).mono ?_
        rintro e w3 ⟨rfl, hb⟩
        rw [← BitVec.ofNat_add, ← HWN.out]
        replace HS := Lib.hid (HS.out.below hb HS.out.lt)
        replace HC := Lib.hid (And.intro ((World.cell?_of_block (a := ⟨P, k, none⟩) (hb.block P hPr)).trans HC.out.1) ((World.cell?_of_block (a := ⟨Q, k, none⟩) (hb.block Q hQr)).trans HC.out.2))
        replace HL := Lib.hid (HL.out.trans (hb.mono HL.out.size))
        replace hPr := Nat.lt_of_lt_of_le hPr hb.size
        replace hQr := Nat.lt_of_lt_of_le hQr hb.size
        clear hb
        generalize (!BitVec.carry 128 _ _ false) = cc
        generalize hY : BitVec.ofNat 128 (worth (List.take (k + 1) l)) = Y
        have HY := Lib.hid hY
        clear hY
        go_wp2_with fail
        refine hK.out _ _ HC.out (fun hHeld => ?_)
        clear hK; try clear KK
        try simp only [Act.put, List.setIfInBounds_toArray, List.set_cons_zero, List.set_cons_succ]
        refine wpAnyH_take (i := 13) (oi := ⟨some 18, _, _, _, _, _⟩) (v := (.tuple #[.agg (bitsB Y), .bool cc])) rfl (by kernel_rfl) (by kernel_rfl) (by kernel_rfl) (fun _ _ _ h => h) (Or.inl ⟨by rfl, fun w hSw => by (try dsimp only at hSw); go_simp⟩) (by assumption) ?_
        simp only [Act.put, List.setIfInBounds_toArray, List.set_cons_zero, List.set_cons_succ]
        refine wpAnyH_take (i := 14) (oi := ⟨some 32, _, _, _, _, _⟩) (v := (.agg (bitsB Y))) rfl (by kernel_rfl) (by kernel_rfl) (by kernel_rfl) (fun _ _ _ h => h) (Or.inl ⟨by rfl, fun w hSw => by (try dsimp only at hSw); go_simp⟩) (by assumption) ?_
        simp only [Act.put, List.setIfInBounds_toArray, List.set_cons_zero, List.set_cons_succ]
        refine wpAnyH_take (i := 15) (oi := ⟨some 33, _, _, _, _, _⟩) (v := (.bool cc)) rfl (by kernel_rfl) (by kernel_rfl) (by kernel_rfl) (fun _ _ _ h => h) (Or.inl ⟨by rfl, fun w hSw => by (try dsimp only at hSw); go_simp⟩) (by assumption) ?_
        simp only [Act.put, List.setIfInBounds_toArray, List.set_cons_zero, List.set_cons_succ]
        refine wpAnyH_ready (rs := [16]) (by kernel_rfl) (by simp) ?_
        refine AllReadyH.cons (o := ⟨none, _, _, _, _, _⟩) rfl (fun KK hK => ?_) AllReadyH.nil
        refine step_store_blk (by rfl) 239 _ _ (by rfl) w.heap.size (by rfl) _ (bitsB Y) 239 HS.out (by rfl) (by rw [bits_size, bits_size]) (by kernel_rfl) (row_one _) ?_
        replace HL := Lib.hid (Blk.Below.setCells (B := w.heap.size) (bitsB Y).toList 0 _ HL.out (by omega))
        replace HS := Lib.hid (HS.out.setCells (bitsB Y) (by rw [bits_size, bits_size]))
        refine hK.out _ _ ⟨(hR.below HL.out hP hQ).p' k hlt HA.out, (hR.below HL.out hP hQ).q' k hlt HB.out⟩ (fun hHeld => ?_)
        clear hK; try clear KK
        refine wpAnyH_done (by kernel_rfl) ?_ _
        go_wp2
        go_roundw
        case rel => exact ⟨k + 1, by omega, by go_num, by rw [HVN.out]; rfl, by rw [HY.out]; exact HS.out, HL.out⟩
        case measure => simp [intOf]; omega
      ·
        go_simp
        refine (HMUL.out _).mono ?_
        rintro e w2 ⟨rfl, hb⟩
        replace HS := Lib.hid (HS.out.below hb HS.out.lt)
        replace HC := Lib.hid (And.intro ((World.cell?_of_block (a := ⟨P, k, none⟩) (hb.block P hPr)).trans HC.out.1) ((World.cell?_of_block (a := ⟨Q, k, none⟩) (hb.block Q hQr)).trans HC.out.2))
        replace HL := Lib.hid (HL.out.trans (hb.mono HL.out.size))
        replace hPr := Nat.lt_of_lt_of_le hPr hb.size
        replace hQr := Nat.lt_of_lt_of_le hQr hb.size
        clear hb
        go_wp2_with fail
        refine hK.out _ _ HC.out (fun hHeld => ?_)
        clear hK; try clear KK
        try simp only [Act.put, List.setIfInBounds_toArray, List.set_cons_zero, List.set_cons_succ]
        refine wpAnyH_ready (rs := [0]) (by kernel_rfl) (by simp) ?_
        refine AllReadyH.cons (o := ⟨some 19, .load 239 (.tmp 5), _, _, _, _⟩) rfl (fun K hK => ?_) AllReadyH.nil
        refine step_load_blk (by rfl) 239 _ (by rfl) w.heap.size (by rfl) _ _ HS.out _ Try.underlying239 rfl (by kernel_rfl) ?_
        refine hK.out _ _ HC.out (fun hHeld => ?_)
        clear hK; try clear KK
        try simp only [Act.put, List.setIfInBounds_toArray, List.set_cons_zero, List.set_cons_succ]
        refine wpAnyH_ready (rs := [12]) (by kernel_rfl) (by simp) ?_
        refine AllReadyH.cons (o := ⟨some 31, _, _, _, _, _⟩) rfl (fun KK hK => ?_) AllReadyH.nil
        go_simp
        refine (add_any _ _ _).mono ?_
        rintro e w3 ⟨rfl, hb⟩
        rw [← BitVec.ofNat_add, ← HWN.out]
        replace HS := Lib.hid (HS.out.below hb HS.out.lt)
        replace HC := Lib.hid (And.intro ((World.cell?_of_block (a := ⟨P, k, none⟩) (hb.block P hPr)).trans HC.out.1) ((World.cell?_of_block (a := ⟨Q, k, none⟩) (hb.block Q hQr)).trans HC.out.2))
        replace HL := Lib.hid (HL.out.trans (hb.mono HL.out.size))
        replace hPr := Nat.lt_of_lt_of_le hPr hb.size
        replace hQr := Nat.lt_of_lt_of_le hQr hb.size
        clear hb
        generalize (!BitVec.carry 128 _ _ false) = cc
        generalize hY : BitVec.ofNat 128 (worth (List.take (k + 1) l)) = Y
        have HY := Lib.hid hY
        clear hY
        go_wp2_with fail
        refine hK.out _ _ HC.out (fun hHeld => ?_)
        clear hK; try clear KK
        try simp only [Act.put, List.setIfInBounds_toArray, List.set_cons_zero, List.set_cons_succ]
        refine wpAnyH_take (i := 13) (oi := ⟨some 18, _, _, _, _, _⟩) (v := (.tuple #[.agg (bitsB Y), .bool cc])) rfl (by kernel_rfl) (by kernel_rfl) (by kernel_rfl) (fun _ _ _ h => h) (Or.inl ⟨by rfl, fun w hSw => by (try dsimp only at hSw); go_simp⟩) (by assumption) ?_
        simp only [Act.put, List.setIfInBounds_toArray, List.set_cons_zero, List.set_cons_succ]
        refine wpAnyH_take (i := 14) (oi := ⟨some 32, _, _, _, _, _⟩) (v := (.agg (bitsB Y))) rfl (by kernel_rfl) (by kernel_rfl) (by kernel_rfl) (fun _ _ _ h => h) (Or.inl ⟨by rfl, fun w hSw => by (try dsimp only at hSw); go_simp⟩) (by assumption) ?_
        simp only [Act.put, List.setIfInBounds_toArray, List.set_cons_zero, List.set_cons_succ]
        refine wpAnyH_take (i := 15) (oi := ⟨some 33, _, _, _, _, _⟩) (v := (.bool cc)) rfl (by kernel_rfl) (by kernel_rfl) (by kernel_rfl) (fun _ _ _ h => h) (Or.inl ⟨by rfl, fun w hSw => by (try dsimp only at hSw); go_simp⟩) (by assumption) ?_
        simp only [Act.put, List.setIfInBounds_toArray, List.set_cons_zero, List.set_cons_succ]
        refine wpAnyH_ready (rs := [16]) (by kernel_rfl) (by simp) ?_
        refine AllReadyH.cons (o := ⟨none, _, _, _, _, _⟩) rfl (fun KK hK => ?_) AllReadyH.nil
        refine step_store_blk (by rfl) 239 _ _ (by rfl) w.heap.size (by rfl) _ (bitsB Y) 239 HS.out (by rfl) (by rw [bits_size, bits_size]) (by kernel_rfl) (row_one _) ?_
        replace HL := Lib.hid (Blk.Below.setCells (B := w.heap.size) (bitsB Y).toList 0 _ HL.out (by omega))
        replace HS := Lib.hid (HS.out.setCells (bitsB Y) (by rw [bits_size, bits_size]))
        refine hK.out _ _ ⟨(hR.below HL.out hP hQ).p' k hlt HA.out, (hR.below HL.out hP hQ).q' k hlt HB.out⟩ (fun hHeld => ?_)
        clear hK; try clear KK
        refine wpAnyH_done (by kernel_rfl) ?_ _
        go_wp2
        go_roundw
        case rel => exact ⟨k + 1, by omega, by go_num, by rw [HVN.out]; rfl, by rw [HY.out]; exact HS.out, HL.out⟩
        case measure => simp [intOf]; omega
    · obtain rfl : k = l.length := by omega
      rw [List.take_length] at HS
      rw [List.take_length]
      have g1 : (l.length : Int) ≤ (l.length : Int) := by omega
      have hA : worth l < 2 ^ 128 := by
        have h := worth_le l (2 ^ 63 * 2 ^ 33) (fun x hx => Nat.mul_le_mul (Nat.le_of_lt (hpq x hx).1) (Nat.le_of_lt (hpq x hx).2))
        have h2 : l.length * (2 ^ 63 * 2 ^ 33) ≤ 1000 * (2 ^ 63 * 2 ^ 33) := Nat.mul_le_mul_right _ hl
        exact Nat.lt_of_le_of_lt (Nat.le_trans h h2) (by decide)
      have hV : volume l < 2 ^ 64 := by
        have h := volume_le l (2 ^ 33) (fun x hx => Nat.le_of_lt (hpq x hx).2)
        have h2 : l.length * 2 ^ 33 ≤ 1000 * 2 ^ 33 := Nat.mul_le_mul_right _ hl
        exact Nat.lt_of_le_of_lt (Nat.le_trans h h2) (by decide)
      have HDIV := Lib.hid (fun w => div_any (worth l) (volume l) hA hv hV w)
      have HHALF := Lib.hid (fun w => halves_any (worth l / volume l) w)
      have hm2 : worth l / volume l % 2 ^ 64 = worth l / volume l := Nat.mod_eq_of_lt (Nat.lt_trans hm (by decide))
      rw [hm2] at HHALF
      have ei : IntKind.i64.wrap ((worth l / volume l : Nat) : Int) = ((worth l / volume l : Nat) : Int) := IntWalk.i64_in _ ⟨by omega, by omega⟩
      clear hpq hR hA hV hm2 hm hv
      generalize BitVec.ofNat 128 (worth l % volume l) = xl at *
      generalize worth l / volume l / 2 ^ 64 % 2 ^ 64 = qh at *
      generalize hqq : worth l / volume l = q at *
      have HQ := Lib.hid hqq
      clear hqq
      generalize BitVec.ofNat 128 (worth l) = xw at *
      generalize BitVec.ofNat 128 q = xq at *
      generalize hvv : volume l = vv at *
      have HVV := Lib.hid hvv
      clear hvv
      go_wp2_with (refine load_blk rfl 239 _ rfl _ rfl _ _ HS.out _ Try.underlying239 rfl (by kernel_rfl) ?_)
      refine (HDIV.out _).mono ?_
      rintro e w1 ⟨rfl, hb⟩
      replace HL := Lib.hid (HL.out.trans (hb.mono HL.out.size))
      clear hb HS HDIV
      have B1 : Blk ((w1.alloc (.cells (row fun _ => false) 239)).alloc (.cells (row fun _ => false) 239)) w1.heap.size (row fun _ => false) 239 := (Blk.new w1 (row fun _ => false) 239 w1.heap.size rfl).old (.cells (row fun _ => false) 239)
      have B2 : Blk ((w1.alloc (.cells (row fun _ => false) 239)).alloc (.cells (row fun _ => false) 239)) (w1.heap.size + 1) (row fun _ => false) 239 := Blk.new (w1.alloc (.cells (row fun _ => false) 239)) (row fun _ => false) 239 (w1.heap.size + 1) (by simp)
      have B3 : Blk (World.setCells ((w1.alloc (.cells (row fun _ => false) 239)).alloc (.cells (row fun _ => false) 239)) w1.heap.size 0 (bitsB xq).toList) (w1.heap.size + 1) (row fun _ => false) 239 := Blk.apartAll (B := w1.heap.size) (bitsB xq).toList 0 _ B2 (by omega)
      have B4 := (B1.setCells (bitsB xq) (by rw [bits_size, row_size]))
      have HB1 := Lib.hid B1
      have HB3 := Lib.hid B3
      have HB4 := Lib.hid (Blk.apartAll (B := w1.heap.size + 1) (bitsB xl).toList 0 _ B4 (by omega))
      have HW := Lib.hid (Blk.Below.setCells (B := w1.heap.size + 1) (bitsB xl).toList 0 _ (Blk.Below.setCells (B := w1.heap.size) (bitsB xq).toList 0 _ (((HL.out.alloc HL.out.size (.cells (row fun _ => false) 239)).alloc (Nat.le_trans HL.out.size (by simp)) (.cells (row fun _ => false) 239))) HL.out.size) (Nat.le_trans HL.out.size (by omega)))
      clear B1 B2 B3 B4
      go_upto_region 9 with (first
        | (refine alloc_big rfl 239 rfl i0 hi0 _ hz0 ?_)
        | (refine store_blk (by rfl) 239 _ _ (by rfl) w1.heap.size (by rfl) (row fun _ => false) (bitsB xq) 239 HB1.out (by rfl) (by rw [bits_size, row_size]) (by kernel_rfl) (row_one _) ?_; change wpList _ _ _ _ _ (World.setCells ((w1.alloc (.cells (row fun _ => false) 239)).alloc (.cells (row fun _ => false) 239)) w1.heap.size 0 (bitsB xq).toList); generalize World.setCells ((w1.alloc (.cells (row fun _ => false) 239)).alloc (.cells (row fun _ => false) 239)) w1.heap.size 0 (bitsB xq).toList = w5 at HB3 HB4 HW ⊢; clear HB1)
        | (refine store_blk (by rfl) 239 _ _ (by rfl) (w1.heap.size + 1) (by show Value.pointer (some ⟨(w1.alloc (.cells (Value.agg (row fun _ => false)).cells 239)).heap.size, 0, none⟩) = _; rw [World.size_alloc]) (row fun _ => false) (bitsB xl) 239 HB3.out (by rfl) (by rw [bits_size, row_size]) (by kernel_rfl) (row_one _) ?_; generalize World.setCells w5 (w1.heap.size + 1) 0 (bitsB xl).toList = w2 at HB4 HW ⊢; clear HB3))
      go_wp2_with (refine load_blk rfl 239 _ rfl _ rfl _ _ HB4.out _ Try.underlying239 rfl (by kernel_rfl) ?_)
      refine (HHALF.out _).mono ?_
      rintro e w3 ⟨rfl, hb⟩
      replace HW := Lib.hid (HW.out.trans (hb.mono HW.out.size))
      clear hb HB4 HHALF
      go_wp2
      refine bodyPost_ret (v := .int .i64 q) (by simp [results, Try.results115, go_sem]) rfl ?_
      exact ⟨by rw [HVV.out, HQ.out], HW.out⟩
end Go.Proofs.Ytogjgpiddjmpiaa.Ref01
