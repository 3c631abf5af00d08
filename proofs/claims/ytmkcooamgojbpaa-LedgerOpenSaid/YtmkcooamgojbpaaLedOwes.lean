/- (*ledger.Ledger).Owes. -/
import Derived.Test.YtmkcooamgojbpaaLedNew
namespace Go.Proofs.Ytmkcooamgojbpaa.Ledger
open Go.RowKit Go.ChangeMaps Go.Proofs.Ytmkcooamgojbpaa.Kit Go.Proofs.Ytmkcooamgojbpaa.Blk Go.Proofs.Ytmkcooamgojbpaa.Mp Go.Proofs.Ytmkcooamgojbpaa.Qty Go.Proofs.Ytmkcooamgojbpaa.Msgs
attribute [local go_sem ↓] Go.wp_at_zero Go.wp_at_succ
set_option linter.unusedVariables false

/-- How many have yet to come. -/
def leftM (r b : Nat) (w : World) : Nat :=
  match w.heap[b]?, w.heap[r]? with
  | some (.map es _), some (.mapIter _ _ seen _) => (leftOf es seen).size
  | _, _ => 0
theorem leftM_of {κ ν : Type} {w : World} {r b : Nat} {ke : κ → Value} {ve : ν → Value} {l left : List (κ × ν)} (h : IterIs w r b ke ve l left) : leftM r b w = left.length := by
  obtain ⟨es, clock, seen, h1, h2, h3, h4, h5, h6⟩ := h
  unfold leftM
  rw [h1, h5]
  dsimp only
  have := congrArg List.length h6
  simpa using this
def owes1 (sym : Int) (p : Key × Acc) : Bool := p.1.1 == sym && owesA p.2 != 0
def owes2 (now : List (Key × Acc)) (sym : Int) (p : Key × Int) : Bool := (p.1.1 == sym && p.2 != 0) && owesA ((mget p.1 now).getD acc0) == 0
/-- How many accounts, and early fills, are owed. -/
def owesN (L : Led) (sym : Int) : Nat := L.now.countP (owes1 sym) + L.early.countP (owes2 L.now sym)
theorem count_snoc {α : Type} (f : α → Bool) (l : List α) (x : α) : (l ++ [x]).countP f = l.countP f + (if f x = true then 1 else 0) := by
  rw [List.countP_append]
  congr 1
  by_cases h : f x = true <;> simp [h]
theorem perm_step {α : Type} {vis l1 l2 L : List α} {p : α} (h : (vis ++ (l1 ++ p :: l2)).Perm L) : ((vis ++ [p]) ++ (l1 ++ l2)).Perm L := by
  refine List.Perm.trans ?_ h
  rw [List.append_assoc]
  exact List.Perm.append_left _ (List.perm_middle (a := p) (l₁ := l1) (l₂ := l2)).symm
def OwesIs (k : Nat) (w : World) (e : Ending) (w' : World) : Prop := e = .returned (.int .i64 (k : Int)) ∧ Below w.heap.size w w'
/-- Between two rounds. -/
structure At1 (L : Led) (D b1 b2 b3 r : Nat) (sym : Int) (w : World) (vis left : List (Key × Acc)) (W : World) : Prop where
  pm : (vis ++ left).Perm L.now
  it : IterIs W r b1 ke va L.now left
  ls : LS W D b1 b2 b3 L
  bel : Below w.heap.size w W
  ge : w.heap.size ≤ r
structure At2 (L : Led) (D b1 b2 b3 r : Nat) (sym : Int) (w : World) (vis left : List (Key × Int)) (W : World) : Prop where
  pm : (vis ++ left).Perm L.early
  it : IterIs W r b2 ke vi L.early left
  ls : LS W D b1 b2 b3 L
  bel : Below w.heap.size w W
  ge : w.heap.size ≤ r
section
variable {L : Led} {D b1 b2 b3 r : Nat} {sym : Int} {w W W' : World}
theorem LS.apart (h : LS W D b1 b2 b3 L) {n d : Nat} (hc : Chg n d W W') (hn : W.heap.size ≤ n) (h0 : d ≠ D) (h1 : d ≠ b1) (h2 : d ≠ b2) (h3 : d ≠ b3) : LS W' D b1 b2 b3 L :=
  ⟨hc.blk (Nat.lt_of_lt_of_le h.box.lt hn) h0.symm h.box, h.m1.chg hc (Nat.lt_of_lt_of_le h.m1.lt hn) h1.symm, h.m2.chg hc (Nat.lt_of_lt_of_le h.m2.lt hn) h2.symm, h.m3.chg hc (Nat.lt_of_lt_of_le h.m3.lt hn) h3.symm, h.ne⟩
end
section
variable {L : Led} {D b1 b2 b3 r : Nat} {sym : Int} {w W W' : World}
theorem At1.below {vis left : List (Key × Acc)} (h : At1 L D b1 b2 b3 r sym w vis left W) (hb : Below W.heap.size W W') : At1 L D b1 b2 b3 r sym w vis left W' := ⟨h.pm, h.it.below hb, h.ls.below hb, h.bel.trans (hb.mono h.bel.size), h.ge⟩
theorem At2.below {vis left : List (Key × Int)} (h : At2 L D b1 b2 b3 r sym w vis left W) (hb : Below W.heap.size W W') : At2 L D b1 b2 b3 r sym w vis left W' := ⟨h.pm, h.it.below hb, h.ls.below hb, h.bel.trans (hb.mono h.bel.size), h.ge⟩
theorem At1.next {vis l1 l2 : List (Key × Acc)} {p : Key × Acc} (h : At1 L D b1 b2 b3 r sym w vis (l1 ++ p :: l2) W) (ho : D < w.heap.size ∧ b1 < w.heap.size ∧ b2 < w.heap.size ∧ b3 < w.heap.size) (hi : IterIs W' r b1 ke va L.now (l1 ++ l2)) (hc : Chg W.heap.size r W W') :
    At1 L D b1 b2 b3 r sym w (vis ++ [p]) (l1 ++ l2) W' :=
  have hg := h.ge
  ⟨perm_step h.pm, hi, h.ls.apart hc (Nat.le_refl _) (by omega) (by omega) (by omega) (by omega), h.bel.trans (hc.below' hg h.bel.size), hg⟩
theorem At2.next {vis l1 l2 : List (Key × Int)} {p : Key × Int} (h : At2 L D b1 b2 b3 r sym w vis (l1 ++ p :: l2) W) (ho : D < w.heap.size ∧ b1 < w.heap.size ∧ b2 < w.heap.size ∧ b3 < w.heap.size) (hi : IterIs W' r b2 ke vi L.early (l1 ++ l2)) (hc : Chg W.heap.size r W W') :
    At2 L D b1 b2 b3 r sym w (vis ++ [p]) (l1 ++ l2) W' :=
  have hg := h.ge
  ⟨perm_step h.pm, hi, h.ls.apart hc (Nat.le_refl _) (by omega) (by omega) (by omega) (by omega), h.bel.trans (hc.below' hg h.bel.size), hg⟩
end
set_option maxRecDepth 20000 in
set_option maxHeartbeats 2000000 in
theorem owes_led (L : Led) (hb : ∀ k, AccIn 1125899906842624 ((mget k L.now).getD acc0)) (hm : ∀ p ∈ L.now, AccIn 1125899906842624 p.2) (hl : L.now.length ≤ 100000 ∧ L.early.length ≤ 100000) (D b1 b2 b3 : Nat) (sym : Int) (w : World) (h : LS w D b1 b2 b3 L) :
    Calls Try.prog 13 #[.pointer (some ⟨D, 0, none⟩), .int .i64 sym] w (OwesIs (owesN L sym) w) := by
  obtain ⟨o, hrange, hit⟩ := run_range (P := Try.prog) h.m1 (T := 47) Try.underlying47
  have HO := Lib.hid (And.intro h.box.lt (And.intro h.m1.lt (And.intro h.m2.lt h.m3.lt)))
  have HA0 := Lib.hid (show At1 L D b1 b2 b3 w.heap.size sym w [] L.now (w.alloc o) from ⟨List.Perm.refl _, hit, h.alloc o, (Below.refl _ _).alloc (Nat.le_refl _) o, Nat.le_refl _⟩)
  have cD : w.cell? ⟨D, 0, none⟩ = some (.map (some b1)) := h.box.cell 0 rfl
  have HBD := Lib.hid hb
  have HMB := Lib.hid hm
  have HLN := Lib.hid hl
  clear h hit hb hm hl
  go_enter Try.func13, Try.ntmps13
  go_wp2_with fail
  go_loopw [4] (fun v wr => ∃ vis left, v = .int .i64 ((vis.countP (owes1 sym) : Nat) : Int) ∧ At1 L D b1 b2 b3 w.heap.size sym w vis left wr) (fun _ wr => leftM w.heap.size b1 wr)
  case atStart => exact ⟨[], L.now, rfl, HA0.out⟩
  case round =>
    obtain ⟨vis, left, rfl, hA⟩ := hrel
    have HI0 := Lib.hid hA.it
    have HA := Lib.hid hA
    have hcl : vis.countP (owes1 sym) ≤ 100000 := by
      have h1 := List.countP_le_length (p := owes1 sym) (l := vis)
      have h2 := hA.pm.length_eq
      have := HLN.out.1
      simp at h2
      omega
    clear hA HA0 hrange cD
    generalize hcnt : vis.countP (owes1 sym) = c at hcl ⊢
    have HCNT := Lib.hid hcnt
    clear hcnt
    rcases run_next (P := Try.prog) HI0.out 0 with ⟨rfl, hnext⟩ | ⟨l1, p, l2, W2, rfl, hnext, hent, hi2, hc2, hs2⟩
    · have hc1 : L.now.countP (owes1 sym) = c := by
        have h1 := HA.out.pm
        rw [List.append_nil] at h1
        rw [← h1.countP_eq]
        exact HCNT.out
      obtain ⟨o2, hrange, hit⟩ := run_range (P := Try.prog) HA.out.ls.m2 (T := 48) Try.underlying48
      have HB0 := Lib.hid (show At2 L D b1 b2 b3 wr.heap.size sym w [] L.early (wr.alloc o2) from ⟨List.Perm.refl _, hit, HA.out.ls.alloc o2, HA.out.bel.alloc HA.out.bel.size o2, HA.out.bel.size⟩)
      have cD : wr.cell? ⟨D, 1, none⟩ = some (.map (some b2)) := HA.out.ls.box.cell 1 rfl
      have HFN := Lib.hid (show owesN L sym = c + L.early.countP (owes2 L.now sym) by unfold owesN; rw [hc1])
      clear hit hc1 HCNT HA HI0
      go_wp2_with fail
      clear hnext
      obtain ⟨wo, rfl⟩ : ∃ wo : World, wo = wr := ⟨_, rfl⟩
      go_loopw [4] (fun v wr => ∃ vis left, v = .int .i64 ((c + vis.countP (owes2 L.now sym) : Nat) : Int) ∧ At2 L D b1 b2 b3 wo.heap.size sym w vis left wr) (fun _ wr => leftM wo.heap.size b2 wr)
      case atStart => exact ⟨[], L.early, rfl, HB0.out⟩
      case round =>
        obtain ⟨vis, left, rfl, hA⟩ := hrel
        have HI0 := Lib.hid hA.it
        have HA := Lib.hid hA
        have hcl2 : vis.countP (owes2 L.now sym) ≤ 100000 := by
          have h1 := List.countP_le_length (p := owes2 L.now sym) (l := vis)
          have h2 := hA.pm.length_eq
          have := HLN.out.2
          simp at h2
          omega
        clear hA HB0 hrange cD
        generalize hcnt : vis.countP (owes2 L.now sym) = d at hcl2 ⊢
        have HCNT := Lib.hid hcnt
        clear hcnt
        rcases run_next (P := Try.prog) HI0.out 0 with ⟨rfl, hnext⟩ | ⟨l1, p, l2, W2, rfl, hnext, hent, hi2, hc2, hs2⟩
        · have HE := Lib.hid (show owesN L sym = c + d by
            have h1 := HA.out.pm
            rw [List.append_nil] at h1
            rw [HFN.out, ← h1.countP_eq, HCNT.out])
          have HBE := Lib.hid HA.out.bel
          clear HCNT HI0 HA
          go_wp2_with fail
          go_ret
          exact ⟨by rw [HE.out]; rfl, HBE.out⟩
        · have HA2 := Lib.hid (HA.out.next HO.out hi2 hc2)
          obtain ⟨⟨k1, k2⟩, x⟩ := p
          change (Instr.next _ false 0).run Try.prog wr = .ok (.tuple #[.bool true, .agg #[.int .i64 k1, .int .i64 k2], .int .i64 x]) W2 at hnext
          change (Instr.entry _).run Try.prog W2 = .ok (.tuple #[.agg #[.int .i64 k1, .int .i64 k2], .int .i64 x]) W2 at hent
          have HA3 := Lib.hid (HA2.out.below ((Below.refl W2.heap.size W2).alloc (Nat.le_refl _) (.cells #[.int .i64 k1, .int .i64 k2] 60)))
          have HK3 := Lib.hid (Blk.new W2 #[.int .i64 k1, .int .i64 k2] 60 W2.heap.size rfl)
          have HOW := Lib.hid (owes_any ((mget (k1, k2) L.now).getD acc0) (HBD.out (k1, k2)))
          have HLK := Lib.hid (fun W (hw : LS W D b1 b2 b3 L) => look1' hw.m1 k1 k2)
          have HO2 := Lib.hid (show owes2 L.now sym ((k1, k2), x) = ((k1 == sym && x != 0) && owesA ((mget (k1, k2) L.now).getD acc0) == 0) from rfl)
          generalize (mget (k1, k2) L.now).getD acc0 = ac at HOW HLK HO2
          clear hi2 hc2 hs2 HA HA2
          go_upto_region 11 with fail
          change Code.wp _ _ _ _ (W2.alloc (.cells #[.int .i64 k1, .int .i64 k2] 60))
          generalize W2.alloc (.cells #[.int .i64 k1, .int .i64 k2] 60) = W3 at HA3 HK3 ⊢
          generalize W2.heap.size = B at HK3 ⊢
          clear hnext hent
          refine wp_region_held_drew (S := (fun w' => w'.cell? ⟨B, 0, none⟩ = some (.int .i64 k1) ∧ w'.cell? ⟨B, 1, none⟩ = some (.int .i64 k2) ∧ w'.cell? ⟨D, 0, none⟩ = some (.map (some b1)) ∧ (Instr.lookup 47 (.map (some b1)) (.agg #[.int .i64 k1, .int .i64 k2]) false).run Try.prog w' = .ok (.agg ac.cells) w')) (by kernel_rfl) (⟨HK3.out.cell 0 rfl, HK3.out.cell 1 rfl, HA3.out.ls.box.cell 0 rfl, HLK.out _ HA3.out.ls.drew⟩) (fun hHeld => ?_)
          replace HA3 := Lib.hid (HA3.out.below (Below.refl _ _).drew)
          replace HK3 := Lib.hid HK3.out.drew
          generalize W3.drew = W4 at HA3 HK3 hHeld ⊢
          refine wpAnyH_take (i := 0) (oi := ⟨some 42, _, _, _, _, _⟩) (v := (.pointer (some ⟨B, 0, none⟩))) rfl (by kernel_rfl) (by kernel_rfl) (by kernel_rfl) (fun _ _ _ h => h) (Or.inl ⟨by rfl, fun w hSw => by (try dsimp only at hSw); go_simp⟩) (by assumption) ?_
          simp only [Act.put, List.setIfInBounds_toArray, List.set_cons_zero, List.set_cons_succ]
          refine wpAnyH_take (i := 1) (oi := ⟨some 43, _, _, _, _, _⟩) (v := (.int .i64 k1)) rfl (by kernel_rfl) (by kernel_rfl) (by kernel_rfl) (fun _ _ _ h => h) (Or.inl ⟨by rfl, fun w hSw => by (try dsimp only at hSw); go_simp⟩) (by assumption) ?_
          simp only [Act.put, List.setIfInBounds_toArray, List.set_cons_zero, List.set_cons_succ]
          refine wpAnyH_take (i := 2) (oi := ⟨some 44, _, _, _, _, _⟩) (v := (.int .i64 sym)) rfl (by kernel_rfl) (by kernel_rfl) (by kernel_rfl) (fun _ _ _ h => h) (Or.inl ⟨by rfl, fun w hSw => by (try dsimp only at hSw); go_simp⟩) (by assumption) ?_
          simp only [Act.put, List.setIfInBounds_toArray, List.set_cons_zero, List.set_cons_succ]
          by_cases hk : k1 = sym
          · have g1 : (k1 == sym) = true := by simpa using hk
            rw [g1] at HO2
            clear hk
            refine wpAnyH_take (i := 3) (oi := ⟨some 45, _, _, _, _, _⟩) (v := (.bool true)) rfl (by kernel_rfl) (by kernel_rfl) (by kernel_rfl) (fun _ _ _ h => h) (Or.inl ⟨by rfl, fun w hSw => by (try dsimp only at hSw); go_simp⟩) (by assumption) ?_
            simp only [Act.put, List.setIfInBounds_toArray, List.set_cons_zero, List.set_cons_succ]
            refine wpAnyH_take (i := 4) (oi := ⟨some 46, _, _, _, _, _⟩) (v := (.bool true)) rfl (by kernel_rfl) (by kernel_rfl) (by kernel_rfl) (fun _ _ _ h => h) (Or.inl ⟨by rfl, fun w hSw => by (try dsimp only at hSw); go_simp⟩) (by assumption) ?_
            simp only [Act.put, List.setIfInBounds_toArray, List.set_cons_zero, List.set_cons_succ]
            refine wpAnyH_take (i := 5) (oi := ⟨some 47, _, _, _, _, _⟩) (v := (.int .i64 x)) rfl (by kernel_rfl) (by kernel_rfl) (by kernel_rfl) (fun _ _ _ h => h) (Or.inl ⟨by rfl, fun w hSw => by (try dsimp only at hSw); go_simp⟩) (by assumption) ?_
            simp only [Act.put, List.setIfInBounds_toArray, List.set_cons_zero, List.set_cons_succ]
            by_cases hx : x = 0
            · have g2 : (x != 0) = false := by simpa using hx
              rw [g2] at HO2
              clear hx
              refine wpAnyH_take (i := 6) (oi := ⟨some 48, _, _, _, _, _⟩) (v := (.bool false)) rfl (by kernel_rfl) (by kernel_rfl) (by kernel_rfl) (fun _ _ _ h => h) (Or.inl ⟨by rfl, fun w hSw => by (try dsimp only at hSw); go_simp⟩) (by assumption) ?_
              simp only [Act.put, List.setIfInBounds_toArray, List.set_cons_zero, List.set_cons_succ]
              refine wpAnyH_take (i := 7) (oi := ⟨some 49, _, _, _, _, _⟩) (v := (.bool false)) rfl (by kernel_rfl) (by kernel_rfl) (by kernel_rfl) (fun _ _ _ h => h) (Or.inl ⟨by rfl, fun w hSw => by (try dsimp only at hSw); go_simp⟩) (by assumption) ?_
              simp only [Act.put, List.setIfInBounds_toArray, List.set_cons_zero, List.set_cons_succ]
              refine wpAnyH_take (i := 8) (oi := ⟨some 50, _, _, _, _, _⟩) (v := (.bool false)) rfl (by kernel_rfl) (by kernel_rfl) (by kernel_rfl) (fun _ _ _ h => h) (Or.inl ⟨by rfl, fun w hSw => by (try dsimp only at hSw); go_simp⟩) (by assumption) ?_
              simp only [Act.put, List.setIfInBounds_toArray, List.set_cons_zero, List.set_cons_succ]
              refine wpAnyH_take (i := 9) (oi := ⟨some 51, _, _, _, _, _⟩) (v := undef) rfl (by kernel_rfl) (by kernel_rfl) (by kernel_rfl) (fun _ _ _ h => h) (Or.inr ⟨by rfl, rfl⟩) (by assumption) ?_
              simp only [Act.put, List.setIfInBounds_toArray, List.set_cons_zero, List.set_cons_succ]
              refine wpAnyH_take (i := 10) (oi := ⟨some 52, _, _, _, _, _⟩) (v := undef) rfl (by kernel_rfl) (by kernel_rfl) (by kernel_rfl) (fun _ _ _ h => h) (Or.inr ⟨by rfl, rfl⟩) (by assumption) ?_
              simp only [Act.put, List.setIfInBounds_toArray, List.set_cons_zero, List.set_cons_succ]
              refine wpAnyH_take (i := 11) (oi := ⟨some 53, _, _, _, _, _⟩) (v := undef) rfl (by kernel_rfl) (by kernel_rfl) (by kernel_rfl) (fun _ _ _ h => h) (Or.inr ⟨by rfl, rfl⟩) (by assumption) ?_
              simp only [Act.put, List.setIfInBounds_toArray, List.set_cons_zero, List.set_cons_succ]
              refine wpAnyH_take (i := 12) (oi := ⟨some 54, _, _, _, _, _⟩) (v := undef) rfl (by kernel_rfl) (by kernel_rfl) (by kernel_rfl) (fun _ _ _ h => h) (Or.inr ⟨by rfl, rfl⟩) (by assumption) ?_
              simp only [Act.put, List.setIfInBounds_toArray, List.set_cons_zero, List.set_cons_succ]
              refine wpAnyH_take (i := 13) (oi := ⟨some 55, _, _, _, _, _⟩) (v := undef) rfl (by kernel_rfl) (by kernel_rfl) (by kernel_rfl) (fun _ _ _ h => h) (Or.inr ⟨by rfl, rfl⟩) (by assumption) ?_
              simp only [Act.put, List.setIfInBounds_toArray, List.set_cons_zero, List.set_cons_succ]
              refine wpAnyH_take (i := 14) (oi := ⟨some 56, _, _, _, _, _⟩) (v := undef) rfl (by kernel_rfl) (by kernel_rfl) (by kernel_rfl) (fun _ _ _ h => h) (Or.inr ⟨by rfl, rfl⟩) (by assumption) ?_
              simp only [Act.put, List.setIfInBounds_toArray, List.set_cons_zero, List.set_cons_succ]
              refine wpAnyH_take (i := 15) (oi := ⟨some 57, _, _, _, _, _⟩) (v := undef) rfl (by kernel_rfl) (by kernel_rfl) (by kernel_rfl) (fun _ _ _ h => h) (Or.inr ⟨by rfl, rfl⟩) (by assumption) ?_
              simp only [Act.put, List.setIfInBounds_toArray, List.set_cons_zero, List.set_cons_succ]
              refine wpAnyH_take (i := 16) (oi := ⟨some 58, _, _, _, _, _⟩) (v := undef) rfl (by kernel_rfl) (by kernel_rfl) (by kernel_rfl) (fun _ _ _ h => h) (Or.inr ⟨by rfl, rfl⟩) (by assumption) ?_
              simp only [Act.put, List.setIfInBounds_toArray, List.set_cons_zero, List.set_cons_succ]
              refine wpAnyH_take (i := 17) (oi := ⟨some 59, _, _, _, _, _⟩) (v := (.bool false)) rfl (by kernel_rfl) (by kernel_rfl) (by kernel_rfl) (fun _ _ _ h => h) (Or.inl ⟨by rfl, fun w hSw => by (try dsimp only at hSw); go_simp⟩) (by assumption) ?_
              simp only [Act.put, List.setIfInBounds_toArray, List.set_cons_zero, List.set_cons_succ]
              refine wpAnyH_done (by kernel_rfl) ?_ _
              clear hHeld
              have g3 : owes2 L.now sym ((k1, k2), x) = false := by rw [HO2.out]; rfl
              go_wp2_with fail
              go_roundw
              case rel => exact ⟨vis ++ [((k1, k2), x)], l1 ++ l2, by rw [count_snoc, g3, HCNT.out]; simp, HA3.out⟩
              case measure => rw [leftM_of HA3.out.it, leftM_of HI0.out]; simp
            · have g2 : (x != 0) = true := by simpa using hx
              rw [g2] at HO2
              clear hx
              refine wpAnyH_take (i := 6) (oi := ⟨some 48, _, _, _, _, _⟩) (v := (.bool true)) rfl (by kernel_rfl) (by kernel_rfl) (by kernel_rfl) (fun _ _ _ h => h) (Or.inl ⟨by rfl, fun w hSw => by (try dsimp only at hSw); go_simp⟩) (by assumption) ?_
              simp only [Act.put, List.setIfInBounds_toArray, List.set_cons_zero, List.set_cons_succ]
              refine wpAnyH_take (i := 7) (oi := ⟨some 49, _, _, _, _, _⟩) (v := (.bool true)) rfl (by kernel_rfl) (by kernel_rfl) (by kernel_rfl) (fun _ _ _ h => h) (Or.inl ⟨by rfl, fun w hSw => by (try dsimp only at hSw); go_simp⟩) (by assumption) ?_
              simp only [Act.put, List.setIfInBounds_toArray, List.set_cons_zero, List.set_cons_succ]
              refine wpAnyH_take (i := 8) (oi := ⟨some 50, _, _, _, _, _⟩) (v := (.bool true)) rfl (by kernel_rfl) (by kernel_rfl) (by kernel_rfl) (fun _ _ _ h => h) (Or.inl ⟨by rfl, fun w hSw => by (try dsimp only at hSw); go_simp⟩) (by assumption) ?_
              simp only [Act.put, List.setIfInBounds_toArray, List.set_cons_zero, List.set_cons_succ]
              refine wpAnyH_take (i := 9) (oi := ⟨some 51, _, _, _, _, _⟩) (v := (.pointer (some ⟨D, 0, none⟩))) rfl (by kernel_rfl) (by kernel_rfl) (by kernel_rfl) (fun _ _ _ h => h) (Or.inl ⟨by rfl, fun w hSw => by (try dsimp only at hSw); go_simp⟩) (by assumption) ?_
              simp only [Act.put, List.setIfInBounds_toArray, List.set_cons_zero, List.set_cons_succ]
              refine wpAnyH_take (i := 10) (oi := ⟨some 52, _, _, _, _, _⟩) (v := (.pointer (some ⟨D, 0, none⟩))) rfl (by kernel_rfl) (by kernel_rfl) (by kernel_rfl) (fun _ _ _ h => h) (Or.inl ⟨by rfl, fun w hSw => by (try dsimp only at hSw); go_simp⟩) (by assumption) ?_
              simp only [Act.put, List.setIfInBounds_toArray, List.set_cons_zero, List.set_cons_succ]
              refine wpAnyH_take (i := 11) (oi := ⟨some 53, _, _, _, _, _⟩) (v := (.pointer (some ⟨D, 0, none⟩))) rfl (by kernel_rfl) (by kernel_rfl) (by kernel_rfl) (fun _ _ _ h => h) (Or.inl ⟨by rfl, fun w hSw => by (try dsimp only at hSw); go_simp⟩) (by assumption) ?_
              simp only [Act.put, List.setIfInBounds_toArray, List.set_cons_zero, List.set_cons_succ]
              refine wpAnyH_take (i := 12) (oi := ⟨some 54, _, _, _, _, _⟩) (v := (.map (some b1))) rfl (by kernel_rfl) (by kernel_rfl) (by kernel_rfl) (fun _ _ _ h => h) (Or.inl ⟨by rfl, fun w hSw => by (try dsimp only at hSw); go_simp⟩) (by assumption) ?_
              simp only [Act.put, List.setIfInBounds_toArray, List.set_cons_zero, List.set_cons_succ]
              refine wpAnyH_take (i := 13) (oi := ⟨some 55, _, _, _, _, _⟩) (v := (.agg #[.int .i64 k1, .int .i64 k2])) rfl (by kernel_rfl) (by kernel_rfl) (by kernel_rfl) (fun _ _ _ h => h) (Or.inl ⟨by rfl, fun w hSw => by (try dsimp only at hSw); go_simp⟩) (by assumption) ?_
              simp only [Act.put, List.setIfInBounds_toArray, List.set_cons_zero, List.set_cons_succ]
              refine wpAnyH_take (i := 14) (oi := ⟨some 56, _, _, _, _, _⟩) (v := (.agg ac.cells)) rfl (by kernel_rfl) (by kernel_rfl) (by kernel_rfl) (fun _ _ _ h => h) (Or.inl ⟨by rfl, fun w hSw => by (try dsimp only at hSw); go_simp⟩) (by assumption) ?_
              simp only [Act.put, List.setIfInBounds_toArray, List.set_cons_zero, List.set_cons_succ]
              refine wpAnyH_ready (rs := [15]) (by kernel_rfl) (by simp) ?_
              refine AllReadyH.cons (o := ⟨some 57, _, _, _, _, _⟩) rfl (fun KK hK => ?_) AllReadyH.nil
              go_simp
              refine (HOW.out W4).mono ?_
              rintro e W5 ⟨rfl, hb5⟩
              have HA5 := Lib.hid (HA3.out.below hb5)
              have HK5 := Lib.hid (HK3.out.below hb5 HK3.out.lt)
              clear hb5 HA3 HK3 hHeld
              dsimp only
              refine hK.out _ _ ⟨HK5.out.cell 0 rfl, HK5.out.cell 1 rfl, HA5.out.ls.box.cell 0 rfl, HLK.out _ HA5.out.ls⟩ (fun hHeld => ?_)
              clear hK; try clear KK
              try simp only [Act.put, List.setIfInBounds_toArray, List.set_cons_zero, List.set_cons_succ]
              by_cases how : owesA ac = 0
              · have g4 : (owesA ac == 0) = true := by simpa using how
                rw [g4] at HO2
                clear how
                refine wpAnyH_take (i := 16) (oi := ⟨some 58, _, _, _, _, _⟩) (v := (.bool true)) rfl (by kernel_rfl) (by kernel_rfl) (by kernel_rfl) (fun _ _ _ h => h) (Or.inl ⟨by rfl, fun w hSw => by (try dsimp only at hSw); go_simp⟩) (by assumption) ?_
                simp only [Act.put, List.setIfInBounds_toArray, List.set_cons_zero, List.set_cons_succ]
                refine wpAnyH_take (i := 17) (oi := ⟨some 59, _, _, _, _, _⟩) (v := (.bool true)) rfl (by kernel_rfl) (by kernel_rfl) (by kernel_rfl) (fun _ _ _ h => h) (Or.inl ⟨by rfl, fun w hSw => by (try dsimp only at hSw); go_simp⟩) (by assumption) ?_
                simp only [Act.put, List.setIfInBounds_toArray, List.set_cons_zero, List.set_cons_succ]
                refine wpAnyH_done (by kernel_rfl) ?_ _
                clear hHeld
                have g3 : owes2 L.now sym ((k1, k2), x) = true := by rw [HO2.out]; rfl
                go_wp2_with fail
                go_roundw
                case rel => exact ⟨vis ++ [((k1, k2), x)], l1 ++ l2, by rw [count_snoc, g3, HCNT.out]; simp; omega, HA5.out⟩
                case measure => rw [leftM_of HA5.out.it, leftM_of HI0.out]; simp
              · have g4 : (owesA ac == 0) = false := by simpa using how
                rw [g4] at HO2
                clear how
                refine wpAnyH_take (i := 16) (oi := ⟨some 58, _, _, _, _, _⟩) (v := (.bool false)) rfl (by kernel_rfl) (by kernel_rfl) (by kernel_rfl) (fun _ _ _ h => h) (Or.inl ⟨by rfl, fun w hSw => by (try dsimp only at hSw); go_simp⟩) (by assumption) ?_
                simp only [Act.put, List.setIfInBounds_toArray, List.set_cons_zero, List.set_cons_succ]
                refine wpAnyH_take (i := 17) (oi := ⟨some 59, _, _, _, _, _⟩) (v := (.bool false)) rfl (by kernel_rfl) (by kernel_rfl) (by kernel_rfl) (fun _ _ _ h => h) (Or.inl ⟨by rfl, fun w hSw => by (try dsimp only at hSw); go_simp⟩) (by assumption) ?_
                simp only [Act.put, List.setIfInBounds_toArray, List.set_cons_zero, List.set_cons_succ]
                refine wpAnyH_done (by kernel_rfl) ?_ _
                clear hHeld
                have g3 : owes2 L.now sym ((k1, k2), x) = false := by rw [HO2.out]; rfl
                go_wp2_with fail
                go_roundw
                case rel => exact ⟨vis ++ [((k1, k2), x)], l1 ++ l2, by rw [count_snoc, g3, HCNT.out]; simp, HA5.out⟩
                case measure => rw [leftM_of HA5.out.it, leftM_of HI0.out]; simp
          · have g1 : (k1 == sym) = false := by simpa using hk
            rw [g1] at HO2
            clear hk
            refine wpAnyH_take (i := 3) (oi := ⟨some 45, _, _, _, _, _⟩) (v := (.bool false)) rfl (by kernel_rfl) (by kernel_rfl) (by kernel_rfl) (fun _ _ _ h => h) (Or.inl ⟨by rfl, fun w hSw => by (try dsimp only at hSw); go_simp⟩) (by assumption) ?_
            simp only [Act.put, List.setIfInBounds_toArray, List.set_cons_zero, List.set_cons_succ]
            refine wpAnyH_take (i := 4) (oi := ⟨some 46, _, _, _, _, _⟩) (v := (.bool false)) rfl (by kernel_rfl) (by kernel_rfl) (by kernel_rfl) (fun _ _ _ h => h) (Or.inl ⟨by rfl, fun w hSw => by (try dsimp only at hSw); go_simp⟩) (by assumption) ?_
            simp only [Act.put, List.setIfInBounds_toArray, List.set_cons_zero, List.set_cons_succ]
            refine wpAnyH_take (i := 5) (oi := ⟨some 47, _, _, _, _, _⟩) (v := undef) rfl (by kernel_rfl) (by kernel_rfl) (by kernel_rfl) (fun _ _ _ h => h) (Or.inr ⟨by rfl, rfl⟩) (by assumption) ?_
            simp only [Act.put, List.setIfInBounds_toArray, List.set_cons_zero, List.set_cons_succ]
            refine wpAnyH_take (i := 6) (oi := ⟨some 48, _, _, _, _, _⟩) (v := undef) rfl (by kernel_rfl) (by kernel_rfl) (by kernel_rfl) (fun _ _ _ h => h) (Or.inr ⟨by rfl, rfl⟩) (by assumption) ?_
            simp only [Act.put, List.setIfInBounds_toArray, List.set_cons_zero, List.set_cons_succ]
            refine wpAnyH_take (i := 7) (oi := ⟨some 49, _, _, _, _, _⟩) (v := (.bool false)) rfl (by kernel_rfl) (by kernel_rfl) (by kernel_rfl) (fun _ _ _ h => h) (Or.inl ⟨by rfl, fun w hSw => by (try dsimp only at hSw); go_simp⟩) (by assumption) ?_
            simp only [Act.put, List.setIfInBounds_toArray, List.set_cons_zero, List.set_cons_succ]
            refine wpAnyH_take (i := 8) (oi := ⟨some 50, _, _, _, _, _⟩) (v := (.bool false)) rfl (by kernel_rfl) (by kernel_rfl) (by kernel_rfl) (fun _ _ _ h => h) (Or.inl ⟨by rfl, fun w hSw => by (try dsimp only at hSw); go_simp⟩) (by assumption) ?_
            simp only [Act.put, List.setIfInBounds_toArray, List.set_cons_zero, List.set_cons_succ]
            refine wpAnyH_take (i := 9) (oi := ⟨some 51, _, _, _, _, _⟩) (v := undef) rfl (by kernel_rfl) (by kernel_rfl) (by kernel_rfl) (fun _ _ _ h => h) (Or.inr ⟨by rfl, rfl⟩) (by assumption) ?_
            simp only [Act.put, List.setIfInBounds_toArray, List.set_cons_zero, List.set_cons_succ]
            refine wpAnyH_take (i := 10) (oi := ⟨some 52, _, _, _, _, _⟩) (v := undef) rfl (by kernel_rfl) (by kernel_rfl) (by kernel_rfl) (fun _ _ _ h => h) (Or.inr ⟨by rfl, rfl⟩) (by assumption) ?_
            simp only [Act.put, List.setIfInBounds_toArray, List.set_cons_zero, List.set_cons_succ]
            refine wpAnyH_take (i := 11) (oi := ⟨some 53, _, _, _, _, _⟩) (v := undef) rfl (by kernel_rfl) (by kernel_rfl) (by kernel_rfl) (fun _ _ _ h => h) (Or.inr ⟨by rfl, rfl⟩) (by assumption) ?_
            simp only [Act.put, List.setIfInBounds_toArray, List.set_cons_zero, List.set_cons_succ]
            refine wpAnyH_take (i := 12) (oi := ⟨some 54, _, _, _, _, _⟩) (v := undef) rfl (by kernel_rfl) (by kernel_rfl) (by kernel_rfl) (fun _ _ _ h => h) (Or.inr ⟨by rfl, rfl⟩) (by assumption) ?_
            simp only [Act.put, List.setIfInBounds_toArray, List.set_cons_zero, List.set_cons_succ]
            refine wpAnyH_take (i := 13) (oi := ⟨some 55, _, _, _, _, _⟩) (v := undef) rfl (by kernel_rfl) (by kernel_rfl) (by kernel_rfl) (fun _ _ _ h => h) (Or.inr ⟨by rfl, rfl⟩) (by assumption) ?_
            simp only [Act.put, List.setIfInBounds_toArray, List.set_cons_zero, List.set_cons_succ]
            refine wpAnyH_take (i := 14) (oi := ⟨some 56, _, _, _, _, _⟩) (v := undef) rfl (by kernel_rfl) (by kernel_rfl) (by kernel_rfl) (fun _ _ _ h => h) (Or.inr ⟨by rfl, rfl⟩) (by assumption) ?_
            simp only [Act.put, List.setIfInBounds_toArray, List.set_cons_zero, List.set_cons_succ]
            refine wpAnyH_take (i := 15) (oi := ⟨some 57, _, _, _, _, _⟩) (v := undef) rfl (by kernel_rfl) (by kernel_rfl) (by kernel_rfl) (fun _ _ _ h => h) (Or.inr ⟨by rfl, rfl⟩) (by assumption) ?_
            simp only [Act.put, List.setIfInBounds_toArray, List.set_cons_zero, List.set_cons_succ]
            refine wpAnyH_take (i := 16) (oi := ⟨some 58, _, _, _, _, _⟩) (v := undef) rfl (by kernel_rfl) (by kernel_rfl) (by kernel_rfl) (fun _ _ _ h => h) (Or.inr ⟨by rfl, rfl⟩) (by assumption) ?_
            simp only [Act.put, List.setIfInBounds_toArray, List.set_cons_zero, List.set_cons_succ]
            refine wpAnyH_take (i := 17) (oi := ⟨some 59, _, _, _, _, _⟩) (v := (.bool false)) rfl (by kernel_rfl) (by kernel_rfl) (by kernel_rfl) (fun _ _ _ h => h) (Or.inl ⟨by rfl, fun w hSw => by (try dsimp only at hSw); go_simp⟩) (by assumption) ?_
            simp only [Act.put, List.setIfInBounds_toArray, List.set_cons_zero, List.set_cons_succ]
            refine wpAnyH_done (by kernel_rfl) ?_ _
            clear hHeld
            have g3 : owes2 L.now sym ((k1, k2), x) = false := by rw [HO2.out]; rfl
            go_wp2_with fail
            go_roundw
            case rel => exact ⟨vis ++ [((k1, k2), x)], l1 ++ l2, by rw [count_snoc, g3, HCNT.out]; simp, HA3.out⟩
            case measure => rw [leftM_of HA3.out.it, leftM_of HI0.out]; simp
    · have HA2 := Lib.hid (HA.out.next HO.out hi2 hc2)
      have hin := HMB.out p (HA.out.pm.mem_iff.1 (by simp))
      obtain ⟨⟨k1, k2⟩, x, y, z, t⟩ := p
      change (Instr.next _ false 0).run Try.prog wr = .ok (.tuple #[.bool true, .agg #[.int .i64 k1, .int .i64 k2], .agg #[.int .i64 x, .int .i64 y, .int .i64 z, .int .i64 t]]) W2 at hnext
      change (Instr.entry _).run Try.prog W2 = .ok (.tuple #[.agg #[.int .i64 k1, .int .i64 k2], .agg #[.int .i64 x, .int .i64 y, .int .i64 z, .int .i64 t]]) W2 at hent
      have HA3 := Lib.hid (HA2.out.below (((Below.refl W2.heap.size W2).alloc (Nat.le_refl _) (.cells #[.int .i64 k1, .int .i64 k2] 60)).trans ((Below.refl W2.heap.size _).alloc (by simp) (.cells #[.int .i64 x, .int .i64 y, .int .i64 z, .int .i64 t] 41))))
      have HOW := Lib.hid (fun W => show Calls Try.prog 26 #[.agg #[.int .i64 x, .int .i64 y, .int .i64 z, .int .i64 t]] W _ from owes_any ⟨x, y, z, t⟩ hin W)
      clear hin hi2 hc2 hs2 HA HA2
      by_cases hk : k1 = sym
      · have g1 : (k1 == sym) = true := by simpa using hk
        clear hk
        go_wp2_with fail
        refine (HOW.out _).mono ?_
        rintro e W4 ⟨rfl, hb4⟩
        have HA4 := Lib.hid (HA3.out.below hb4)
        clear hb4 HA3 HOW hnext hent
        by_cases how : owesA ⟨x, y, z, t⟩ = 0
        · have g2 : (owesA ⟨x, y, z, t⟩ != 0) = false := by simpa using how
          have g3 : owes1 sym ((k1, k2), ⟨x, y, z, t⟩) = false := by unfold owes1; dsimp only; rw [g1, g2]; rfl
          clear how
          go_wp2_with fail
          go_roundw
          case rel => exact ⟨vis ++ [((k1, k2), ⟨x, y, z, t⟩)], l1 ++ l2, by rw [count_snoc, g3]; rw [HCNT.out]; simp, HA4.out⟩
          case measure => rw [leftM_of HA4.out.it, leftM_of HI0.out]; simp
        · have g2 : (owesA ⟨x, y, z, t⟩ != 0) = true := by simpa using how
          have g3 : owes1 sym ((k1, k2), ⟨x, y, z, t⟩) = true := by unfold owes1; dsimp only; rw [g1, g2]; rfl
          clear how
          go_wp2_with fail
          go_roundw
          case rel => exact ⟨vis ++ [((k1, k2), ⟨x, y, z, t⟩)], l1 ++ l2, by rw [count_snoc, g3]; rw [HCNT.out]; simp, HA4.out⟩
          case measure => rw [leftM_of HA4.out.it, leftM_of HI0.out]; simp
      · have g1 : (k1 == sym) = false := by simpa using hk
        have g3 : owes1 sym ((k1, k2), ⟨x, y, z, t⟩) = false := by unfold owes1; dsimp only; rw [g1]; rfl
        clear hk
        go_wp2_with fail
        go_roundw
        case rel => exact ⟨vis ++ [((k1, k2), ⟨x, y, z, t⟩)], l1 ++ l2, by rw [count_snoc, g3]; rw [HCNT.out]; simp, HA3.out⟩
        case measure => rw [leftM_of HA3.out.it, leftM_of HI0.out]; simp
end Go.Proofs.Ytmkcooamgojbpaa.Ledger
