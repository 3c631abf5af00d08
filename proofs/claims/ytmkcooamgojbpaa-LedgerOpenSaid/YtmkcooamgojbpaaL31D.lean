/- The document's ledger: Put, of an order that is done (under way). -/
import Derived.Test.YtmkcooamgojbpaaL31R
namespace Go.Proofs.Ytmkcooamgojbpaa.Ledger
open Go.RowKit Go.Proofs.Ytmkcooamgojbpaa.Kit Go.Proofs.Ytmkcooamgojbpaa.Blk Go.Proofs.Ytmkcooamgojbpaa.Mp Go.Proofs.Ytmkcooamgojbpaa.Msgs Go.Proofs.Ytmkcooamgojbpaa.Own
attribute [local go_sem ↓] Go.wp_at_zero Go.wp_at_succ
set_option linter.unusedVariables false

def setA (f : Acc → Acc) (r : DRow) : DRow := ⟨r.sym, r.id, f r.a, r.old⟩
def doneD (l : List DRow) (m : Msg) : List DRow := match accD (keyM m) l with
  | none => l
  | some a => if owesA a = m.qty then modD (keyM m) (setA (goneA m.qty)) l
    else if a.rest = m.qty then modD (keyM m) (setA fun a => goneA m.qty (restA a)) l else l
def rputD (l es : List DRow) (m : Msg) : List DRow × List DRow :=
  if m.kind = 3 then (if takenB m.qty = true then tradeD l es m else (l, es))
  else if m.kind = 4 then (if takenB m.qty = true then (doneD l m, es) else (l, es))
  else if m.kind = 1 then (if takenB m.qty = true ∧ takenB m.wth = true then ackD l es m else (l, es))
  else (l, es)
section
variable {N R g cap n : Nat} {l es : List DRow} {u : Value} {W : World}
/-- A whole account is stored. -/
theorem RS.acc (h : RS N W R l es (.slice (some ⟨g, 0, none⟩) n cap) u) (i : Nat) (hi : i < l.length) (a : Acc) :
    RS N (W.setCells g (i * 7 + 2) [.int .i64 a.asked, .int .i64 a.filled, .int .i64 a.gone, .int .i64 a.rest]) R (l.set i ⟨l[i].sym, l[i].id, a, l[i].old⟩) es (.slice (some ⟨g, 0, none⟩) n cap) u := by
  have h1 := h.set1 i hi 2 (by decide) (.int .i64 a.asked) ⟨l[i].sym, l[i].id, ⟨a.asked, l[i].a.filled, l[i].a.gone, l[i].a.rest⟩, l[i].old⟩ rfl
  have h2 := h1.set1 i (by simpa using hi) 3 (by decide) (.int .i64 a.filled) ⟨l[i].sym, l[i].id, ⟨a.asked, a.filled, l[i].a.gone, l[i].a.rest⟩, l[i].old⟩ (by simp [DRow.cells])
  have h3 := h2.set1 i (by simpa using hi) 4 (by decide) (.int .i64 a.gone) ⟨l[i].sym, l[i].id, ⟨a.asked, a.filled, a.gone, l[i].a.rest⟩, l[i].old⟩ (by simp [DRow.cells])
  have h4 := h3.set1 i (by simpa using hi) 5 (by decide) (.int .i64 a.rest) ⟨l[i].sym, l[i].id, a, l[i].old⟩ (by simp [DRow.cells])
  rw [List.set_set, List.set_set, List.set_set] at h4
  exact h4
end
set_option maxRecDepth 20000 in
set_option maxHeartbeats 4000000 in
theorem rdone_any (N R : Nat) (l es : List DRow) (v u : Value) (m : Msg) (hk : m.kind = 4) (w : World) (h : RS N w R l es v u) (hN : N ≤ w.heap.size) (hq : 0 ≤ m.qty ∧ m.qty ≤ 4294967296) (hl : FineL 562949953421312 l) :
    Calls Try.prog 8 #[.pointer (some ⟨R, 0, none⟩), .agg m.cells] w (RPutIs N R (doneD l m, es) w) := by
  have HMB := Lib.hid (Blk.new w m.cells 33 w.heap.size rfl)
  have HS0 := Lib.hid (h.below ((Below.refl w.heap.size w).alloc (Nat.le_refl _) (.cells m.cells 33)))
  have HB0 := Lib.hid ((Below.refl w.heap.size w).alloc (Nat.le_refl _) (.cells m.cells 33))
  have HVB := Lib.hid (show v.ownBlock ≠ some w.heap.size from fun e => by have := (h.row.lt _ e).2; omega)
  have HFI := Lib.hid (fun W (hW : RS N W R l es v u) => findr_any N R l es v u m.sym m.id W hW)
  have HTK := Lib.hid (fun W => rtaken_any m.qty W)
  have htk : takenB m.qty = true := by unfold takenB; simp [hq.1, hq.2]
  rw [htk] at HTK
  have HNN := Lib.hid hN
  have HHL := Lib.hid hl
  obtain ⟨q1, q2⟩ := hq
  have hBR : R < w.heap.size := h.box.lt
  clear h hl htk
  unfold Msg.cells at *
  rw [hk] at HMB HS0 HB0 ⊢
  have c0 : (w.alloc (.cells #[.int .i64 4, .int .i64 m.sym, .int .i64 m.seq, .int .i64 m.tick, .int .i64 m.id, .int .i64 m.wth, .int .i64 m.price, .int .i64 m.qty, .int .i64 m.code] 33)).cell? ⟨w.heap.size, 0, none⟩ = some (.int .i64 4) := HMB.out.cell 0 rfl
  have c1 : (w.alloc (.cells #[.int .i64 4, .int .i64 m.sym, .int .i64 m.seq, .int .i64 m.tick, .int .i64 m.id, .int .i64 m.wth, .int .i64 m.price, .int .i64 m.qty, .int .i64 m.code] 33)).cell? ⟨w.heap.size, 1, none⟩ = some (.int .i64 m.sym) := HMB.out.cell 1 rfl
  have c4 : (w.alloc (.cells #[.int .i64 4, .int .i64 m.sym, .int .i64 m.seq, .int .i64 m.tick, .int .i64 m.id, .int .i64 m.wth, .int .i64 m.price, .int .i64 m.qty, .int .i64 m.code] 33)).cell? ⟨w.heap.size, 4, none⟩ = some (.int .i64 m.id) := HMB.out.cell 4 rfl
  have c7 : (w.alloc (.cells #[.int .i64 4, .int .i64 m.sym, .int .i64 m.seq, .int .i64 m.tick, .int .i64 m.id, .int .i64 m.wth, .int .i64 m.price, .int .i64 m.qty, .int .i64 m.code] 33)).cell? ⟨w.heap.size, 7, none⟩ = some (.int .i64 m.qty) := HMB.out.cell 7 rfl
  have HDD := Lib.hid (show doneD l m = (match accD (m.sym, m.id) l with
    | none => l
    | some a => if owesA a = m.qty then modD (m.sym, m.id) (setA (goneA m.qty)) l
      else if a.rest = m.qty then modD (m.sym, m.id) (setA fun a => goneA m.qty (restA a)) l else l) from rfl)
  clear hk
  go_enter Try.func8, Try.ntmps8
  go_wp2_with fail
  generalize w.alloc (.cells #[.int .i64 4, .int .i64 m.sym, .int .i64 m.seq, .int .i64 m.tick, .int .i64 m.id, .int .i64 m.wth, .int .i64 m.price, .int .i64 m.qty, .int .i64 m.code] 33) = W0 at HMB HS0 HB0 c0 c1 c4 c7 ⊢
  refine (HTK.out _).mono ?_
  rintro e w1 ⟨rfl, rfl⟩
  go_wp2_with fail
  refine (HFI.out _ HS0.out).mono ?_
  rintro e w1 ⟨rfl, rfl⟩
  rcases find_acc (k := (m.sym, m.id)) (l := l) with ⟨i, hi, hn, hfd, hac, hlv⟩ | ⟨hfd, hac⟩
  · rw [hfd]
    obtain ⟨g, cap, hv, hgN, hgl, hc2⟩ := HS0.out.form (by omega)
    subst hv
    unfold maxLen at hc2
    have HAI := Lib.hid ((HHL.out _ (List.getElem_mem hi)))
    have HACC := Lib.hid (fun W (hW : RS N W R l es (.slice (some ⟨g, 0, none⟩) l.length cap) u) a => hW.acc i hi a)
    have HMOD := Lib.hid (fun f => show modD (m.sym, m.id) (setA f) l = l.set i (setA f l[i]) by
      rw [← mod_set]
      subst hn
      rw [dif_pos hi])
    have cR : W0.cell? ⟨R, 0, none⟩ = some (.slice (some ⟨g, 0, none⟩) l.length cap) := HS0.out.box.cell 0 rfl
    have r2 : W0.cell? ⟨g, i * 7 + 2, none⟩ = some (.int .i64 l[i].a.asked) := HS0.out.cell i hi 2 _ rfl
    have r3 : W0.cell? ⟨g, i * 7 + 3, none⟩ = some (.int .i64 l[i].a.filled) := HS0.out.cell i hi 3 _ rfl
    have r4 : W0.cell? ⟨g, i * 7 + 4, none⟩ = some (.int .i64 l[i].a.gone) := HS0.out.cell i hi 4 _ rfl
    have r5 : W0.cell? ⟨g, i * 7 + 5, none⟩ = some (.int .i64 l[i].a.rest) := HS0.out.cell i hi 5 _ rfl
    have g0 : (0 : Int) ≤ (i : Int) := by omega
    have g1 : (i : Int) < (l.length : Int) := by omega
    clear hfd hn hlv
    go_upto_region 15 with fail
    change Code.wp _ _ _ _ (W0.alloc (.cells #[.int .i64 l[i].a.asked, .int .i64 l[i].a.filled, .int .i64 l[i].a.gone, .int .i64 l[i].a.rest] 55))
    have HA3 := Lib.hid (Blk.new W0 #[.int .i64 l[i].a.asked, .int .i64 l[i].a.filled, .int .i64 l[i].a.gone, .int .i64 l[i].a.rest] 55 W0.heap.size rfl)
    have HS3 := Lib.hid (HS0.out.below ((Below.refl W0.heap.size W0).alloc (Nat.le_refl _) (.cells #[.int .i64 l[i].a.asked, .int .i64 l[i].a.filled, .int .i64 l[i].a.gone, .int .i64 l[i].a.rest] 55)))
    have HM3 := Lib.hid (HMB.out.old (.cells #[.int .i64 l[i].a.asked, .int .i64 l[i].a.filled, .int .i64 l[i].a.gone, .int .i64 l[i].a.rest] 55))
    have HB3 := Lib.hid ((HB0.out.mono HNN.out).alloc (Nat.le_trans HNN.out HB0.out.size) (.cells #[.int .i64 l[i].a.asked, .int .i64 l[i].a.filled, .int .i64 l[i].a.gone, .int .i64 l[i].a.rest] 55))
    have HOW := Lib.hid (fun W => owed_any l[i].a (HAI.out.mono (by omega)) W)
    clear r2 r3 r4 r5 cR c0 c1 c4 c7
    generalize W0.alloc (.cells #[.int .i64 l[i].a.asked, .int .i64 l[i].a.filled, .int .i64 l[i].a.gone, .int .i64 l[i].a.rest] 55) = W3 at HA3 HS3 HM3 HB3 ⊢
    have HUB := Lib.hid (show u.ownBlock ≠ some W0.heap.size from fun e => by have := (HS0.out.ear.lt _ e).2; omega)
    have HNB := Lib.hid (Nat.le_trans HNN.out HB0.out.size)
    generalize W0.heap.size = B at HA3 hgl HUB HNB ⊢
    generalize hla : l[i].a = a at HA3 HOW hac HAI ⊢
    obtain ⟨x, y, z, t⟩ := a
    unfold Acc.cells at HOW
    dsimp only at HA3 HOW ⊢
    refine wp_region_held_drew (S := (fun w' => w'.cell? ⟨B, 0, none⟩ = some (.int .i64 x) ∧ w'.cell? ⟨B, 1, none⟩ = some (.int .i64 y) ∧ w'.cell? ⟨B, 2, none⟩ = some (.int .i64 z) ∧ w'.cell? ⟨B, 3, none⟩ = some (.int .i64 t) ∧ w'.cell? ⟨w.heap.size, 7, none⟩ = some (.int .i64 m.qty))) (by kernel_rfl) ⟨HA3.out.cell 0 rfl, HA3.out.cell 1 rfl, HA3.out.cell 2 rfl, HA3.out.cell 3 rfl, HM3.out.cell 7 rfl⟩ (fun hHeld => ?_)
    replace HA3 := Lib.hid HA3.out.drew
    replace HS3 := Lib.hid HS3.out.drew
    replace HM3 := Lib.hid HM3.out.drew
    replace HB3 := Lib.hid HB3.out.drew
    generalize W3.drew = W4 at HA3 HS3 HM3 HB3 hHeld ⊢
    refine wpAnyH_take (i := 0) (oi := ⟨some 64, _, _, _, _, _⟩) (v := (.agg #[.int .i64 x, .int .i64 y, .int .i64 z, .int .i64 t])) rfl (by kernel_rfl) (by kernel_rfl) (by kernel_rfl) (fun _ _ _ h => h) (Or.inl ⟨by rfl, fun w hSw => by (try dsimp only at hSw); go_simp⟩) (by assumption) ?_
    simp only [Act.put, List.setIfInBounds_toArray, List.set_cons_zero, List.set_cons_succ]
    refine wpAnyH_take (i := 2) (oi := ⟨some 66, _, _, _, _, _⟩) (v := (.pointer (some ⟨w.heap.size, 7, none⟩))) rfl (by kernel_rfl) (by kernel_rfl) (by kernel_rfl) (fun _ _ _ h => h) (Or.inl ⟨by rfl, fun w hSw => by (try dsimp only at hSw); go_simp⟩) (by assumption) ?_
    simp only [Act.put, List.setIfInBounds_toArray, List.set_cons_zero, List.set_cons_succ]
    refine wpAnyH_take (i := 3) (oi := ⟨some 67, _, _, _, _, _⟩) (v := (.int .i64 m.qty)) rfl (by kernel_rfl) (by kernel_rfl) (by kernel_rfl) (fun _ _ _ h => h) (Or.inl ⟨by rfl, fun w hSw => by (try dsimp only at hSw); go_simp⟩) (by assumption) ?_
    simp only [Act.put, List.setIfInBounds_toArray, List.set_cons_zero, List.set_cons_succ]
    refine wpAnyH_ready (rs := [1]) (by kernel_rfl) (by simp) ?_
    refine AllReadyH.cons (o := ⟨some 65, _, _, _, _, _⟩) rfl (fun KK hK => ?_) AllReadyH.nil
    go_simp
    refine (HOW.out W4).mono ?_
    rintro e W5 ⟨rfl, hb5⟩
    have HA5 := Lib.hid (HA3.out.below hb5 HA3.out.lt)
    have HS5 := Lib.hid (HS3.out.below hb5)
    have HM5 := Lib.hid (HM3.out.below hb5 HM3.out.lt)
    have HB5 := Lib.hid (HB3.out.trans (hb5.mono (Nat.le_trans HNN.out (by have := HM3.out.lt; omega))))
    clear hb5 HA3 HS3 HM3 HB3 hHeld
    dsimp only
    refine hK.out _ _ ⟨HA5.out.cell 0 rfl, HA5.out.cell 1 rfl, HA5.out.cell 2 rfl, HA5.out.cell 3 rfl, HM5.out.cell 7 rfl⟩ (fun hHeld => ?_)
    clear hK; try clear KK
    try simp only [Act.put, List.setIfInBounds_toArray, List.set_cons_zero, List.set_cons_succ]
    obtain ⟨⟨_, _⟩, ⟨_, _⟩, ⟨z1, z2⟩, t1, t2⟩ := HAI.out
    dsimp only at z1 z2 t1 t2
    by_cases how : owesA ⟨x, y, z, t⟩ = m.qty
    · have g4 : (owesA ⟨x, y, z, t⟩ == m.qty) = true := by simpa using how
      clear how
      refine wpAnyH_take (i := 4) (oi := ⟨some 68, _, _, _, _, _⟩) (v := (.bool true)) rfl (by kernel_rfl) (by kernel_rfl) (by kernel_rfl) (fun _ _ _ h => h) (Or.inl ⟨by rfl, fun w hSw => by (try dsimp only at hSw); go_simp⟩) (by assumption) ?_
      simp only [Act.put, List.setIfInBounds_toArray, List.set_cons_zero, List.set_cons_succ]
      refine wpAnyH_take (i := 5) (oi := ⟨some 63, _, _, _, _, _⟩) (v := (.bool true)) rfl (by kernel_rfl) (by kernel_rfl) (by kernel_rfl) (fun _ _ _ h => h) (Or.inl ⟨by rfl, fun w hSw => by (try dsimp only at hSw); go_simp⟩) (by assumption) ?_
      simp only [Act.put, List.setIfInBounds_toArray, List.set_cons_zero, List.set_cons_succ]
      refine wpAnyH_done (by kernel_rfl) ?_ _
      clear hHeld
      have e2 : W5.cell? ⟨B, 2, none⟩ = some (.int .i64 z) := HA5.out.cell 2 rfl
      have e3 : W5.cell? ⟨B, 3, none⟩ = some (.int .i64 t) := HA5.out.cell 3 rfl
      have e7 : W5.cell? ⟨w.heap.size, 7, none⟩ = some (.int .i64 m.qty) := HM5.out.cell 7 rfl
      have fe2 : W5.frozen? ⟨B, 2, none⟩ = false := HA5.out.free 2
      have fe3 : W5.frozen? ⟨B, 3, none⟩ = false := HA5.out.free 3
      go_upto_region 19 with fail
      have HT := Lib.hid (show doneD l m = l.set i ⟨l[i].sym, l[i].id, goneA m.qty ⟨x, y, z, t⟩, l[i].old⟩ by
        rw [HDD.out, hac]
        dsimp only
        rw [if_pos (by simpa using g4), HMOD.out]
        unfold setA
        rw [hla])
      change Code.wp _ _ _ _ (W5.setCell ⟨B, 2, none⟩ (.int .i64 (z + m.qty)))
      have HS7 := Lib.hid (show RS N (W5.setCell ⟨B, 2, none⟩ (.int .i64 (z + m.qty))) R l es (.slice (some ⟨g, 0, none⟩) l.length cap) u from HS5.out.kept (cell_grown W5 B 2 _) (fun e => by injection e with e; have := HS5.out.lt; have := HNB.out; omega) (.inr (fun e => by have e2 : g = B := (by simpa [Value.ownBlock] using e); omega)) (.inr HUB.out))
      have HA7 := Lib.hid (show Blk (W5.setCell ⟨B, 2, none⟩ (.int .i64 (z + m.qty))) B (Acc.cells (goneA m.qty ⟨x, y, z, t⟩)) 55 from HA5.out.set 2 _)
      have HB7 := Lib.hid (show Below N w (W5.setCell ⟨B, 2, none⟩ (.int .i64 (z + m.qty))) from HB5.out.setCell (p := ⟨B, 2, none⟩) HNB.out _)
      generalize W5.setCell ⟨B, 2, none⟩ (.int .i64 (z + m.qty)) = W7 at HS7 HA7 HB7 ⊢
      clear HS5 HA5 HM5 HB5 e2 e3 e7 fe2 fe3
      have HS8 := Lib.hid (HACC.out _ HS7.out.drew (goneA m.qty ⟨x, y, z, t⟩))
      have HTH := Lib.hid (show W7.drew.there g (i * 7 + 2) 4 from fun j hj => by
        have hj' : j = 0 ∨ j = 1 ∨ j = 2 ∨ j = 3 := by omega
        refine ⟨?_, HS7.out.drew.free _⟩
        rcases hj' with rfl | rfl | rfl | rfl
        · rw [HS7.out.drew.cell i hi 2 _ rfl]; rfl
        · rw [HS7.out.drew.cell i hi 3 _ rfl]; rfl
        · rw [HS7.out.drew.cell i hi 4 _ rfl]; rfl
        · rw [HS7.out.drew.cell i hi 5 _ rfl]; rfl)
      have HB8 := Lib.hid (show Below N w (W7.drew.setCells g (i * 7 + 2) (Acc.cells (goneA m.qty ⟨x, y, z, t⟩)).toList) from Blk.Below.setCells _ _ _ HB7.out.drew hgN)
      have cR : W7.drew.cell? ⟨R, 0, none⟩ = some (.slice (some ⟨g, 0, none⟩) l.length cap) := HS7.out.drew.box.cell 0 rfl
      unfold Acc.cells goneA at HA7 HB8
      dsimp only at HA7 HB8
      have ca0 := HA7.out.drew.cell 0 rfl
      have ca1 := HA7.out.drew.cell 1 rfl
      have ca2 := HA7.out.drew.cell 2 rfl
      have ca3 := HA7.out.drew.cell 3 rfl
      refine Go.Proofs.Ytmkcooamgojbpaa.Veil.start 8 (by kernel_rfl) (by kernel_rfl) ?_
      simp only [List.take_succ_cons, List.take_zero, List.drop_succ_cons, List.drop_zero]
      (refine Go.Proofs.Ytmkcooamgojbpaa.Veil.step (fun K hK => ?_); go_simp; refine hK _ ?_; clear hK K)
      (refine Go.Proofs.Ytmkcooamgojbpaa.Veil.step (fun K hK => ?_); go_simp; refine hK _ ?_; clear hK K)
      (refine Go.Proofs.Ytmkcooamgojbpaa.Veil.step (fun K hK => ?_); go_simp; refine hK _ ?_; clear hK K)
      (refine Go.Proofs.Ytmkcooamgojbpaa.Veil.step (fun K hK => ?_); go_simp; refine hK _ ?_; clear hK K)
      (refine Go.Proofs.Ytmkcooamgojbpaa.Veil.step (fun K hK => ?_); go_simp; refine hK _ ?_; clear hK K)
      (refine Go.Proofs.Ytmkcooamgojbpaa.Veil.step (fun K hK => ?_); go_simp; refine hK _ ?_; clear hK K)
      (refine Go.Proofs.Ytmkcooamgojbpaa.Veil.step (fun K hK => ?_); go_simp; refine hK _ ?_; clear hK K)
      (refine Go.Proofs.Ytmkcooamgojbpaa.Veil.step (fun K hK => ?_); go_simp; refine hK _ ?_; clear hK K)
      refine Go.Proofs.Ytmkcooamgojbpaa.Veil.nil ?_
      change wpList _ _ _ _ _ W7.drew
      refine wpList_store_mid (by rfl) 55 _ _ (by rfl) g (i * 7 + 2) #[.int .i64 x, .int .i64 y, .int .i64 (z + m.qty), .int .i64 t] (by rfl) (by rfl) HTH.out (by kernel_rfl) (by simp [Value.oneCell']) ?_
      clear cR ca0 ca1 ca2 ca3
      have HS9 := HS8
      unfold goneA at HS9
      go_wp2_with fail
      go_ret
      exact ⟨⟨_, rfl⟩, ⟨_, _, by rw [HT.out]; exact HS9.out⟩, Chg.of HB8.out⟩
    · have g4 : (owesA ⟨x, y, z, t⟩ == m.qty) = false := by simpa using how
      refine wpAnyH_take (i := 4) (oi := ⟨some 68, _, _, _, _, _⟩) (v := (.bool false)) rfl (by kernel_rfl) (by kernel_rfl) (by kernel_rfl) (fun _ _ _ h => h) (Or.inl ⟨by rfl, fun w hSw => by (try dsimp only at hSw); go_simp⟩) (by assumption) ?_
      simp only [Act.put, List.setIfInBounds_toArray, List.set_cons_zero, List.set_cons_succ]
      refine wpAnyH_take (i := 5) (oi := ⟨some 63, _, _, _, _, _⟩) (v := (.bool false)) rfl (by kernel_rfl) (by kernel_rfl) (by kernel_rfl) (fun _ _ _ h => h) (Or.inl ⟨by rfl, fun w hSw => by (try dsimp only at hSw); go_simp⟩) (by assumption) ?_
      simp only [Act.put, List.setIfInBounds_toArray, List.set_cons_zero, List.set_cons_succ]
      refine wpAnyH_done (by kernel_rfl) ?_ _
      clear hHeld
      have e2 : W5.cell? ⟨B, 2, none⟩ = some (.int .i64 z) := HA5.out.cell 2 rfl
      have e3 : W5.cell? ⟨B, 3, none⟩ = some (.int .i64 t) := HA5.out.cell 3 rfl
      have e7 : W5.cell? ⟨w.heap.size, 7, none⟩ = some (.int .i64 m.qty) := HM5.out.cell 7 rfl
      have fe2 : W5.frozen? ⟨B, 2, none⟩ = false := HA5.out.free 2
      have fe3 : W5.frozen? ⟨B, 3, none⟩ = false := HA5.out.free 3
      by_cases hrq : t = m.qty
      · have b5 : (t == m.qty) = true := by simpa using hrq
        have HT := Lib.hid (show doneD l m = l.set i ⟨l[i].sym, l[i].id, goneA m.qty (restA ⟨x, y, z, t⟩), l[i].old⟩ by
          rw [HDD.out, hac]
          dsimp only
          rw [if_neg how, if_pos hrq, HMOD.out]
          unfold setA
          rw [hla])
        clear how hrq
        go_upto_region 19 with fail
        change Code.wp _ _ _ _ ((W5.setCell ⟨B, 3, none⟩ (.int .i64 0)).setCell ⟨B, 2, none⟩ (.int .i64 (z + m.qty)))
        have HS7 := Lib.hid (show RS N ((W5.setCell ⟨B, 3, none⟩ (.int .i64 0)).setCell ⟨B, 2, none⟩ (.int .i64 (z + m.qty))) R l es (.slice (some ⟨g, 0, none⟩) l.length cap) u from (HS5.out.kept (cell_grown W5 B 3 _) (fun e => by injection e with e; have := HS5.out.lt; have := HNB.out; omega) (.inr (fun e => by have e2 : g = B := (by simpa [Value.ownBlock] using e); omega)) (.inr HUB.out) : RS N (W5.setCell ⟨B, 3, none⟩ (.int .i64 0)) R l es (.slice (some ⟨g, 0, none⟩) l.length cap) u).kept (cell_grown (W5.setCell ⟨B, 3, none⟩ (.int .i64 0)) B 2 _) (fun e => by injection e with e; have := HS5.out.lt; have := HNB.out; omega) (.inr (fun e => by have e2 : g = B := (by simpa [Value.ownBlock] using e); omega)) (.inr HUB.out))
        have HA7 := Lib.hid (show Blk ((W5.setCell ⟨B, 3, none⟩ (.int .i64 0)).setCell ⟨B, 2, none⟩ (.int .i64 (z + m.qty))) B (Acc.cells (goneA m.qty (restA ⟨x, y, z, t⟩))) 55 from (HA5.out.set 3 (.int .i64 0)).set 2 _)
        have HB7 := Lib.hid (show Below N w ((W5.setCell ⟨B, 3, none⟩ (.int .i64 0)).setCell ⟨B, 2, none⟩ (.int .i64 (z + m.qty))) from (HB5.out.setCell (p := ⟨B, 3, none⟩) HNB.out (.int .i64 0)).setCell (p := ⟨B, 2, none⟩) HNB.out _)
        generalize (W5.setCell ⟨B, 3, none⟩ (.int .i64 0)).setCell ⟨B, 2, none⟩ (.int .i64 (z + m.qty)) = W7 at HS7 HA7 HB7 ⊢
        clear HS5 HA5 HM5 HB5 e2 e3 e7 fe2 fe3
        have HS8 := Lib.hid (HACC.out _ HS7.out.drew (goneA m.qty (restA ⟨x, y, z, t⟩)))
        have HTH := Lib.hid (show W7.drew.there g (i * 7 + 2) 4 from fun j hj => by
          have hj' : j = 0 ∨ j = 1 ∨ j = 2 ∨ j = 3 := by omega
          refine ⟨?_, HS7.out.drew.free _⟩
          rcases hj' with rfl | rfl | rfl | rfl
          · rw [HS7.out.drew.cell i hi 2 _ rfl]; rfl
          · rw [HS7.out.drew.cell i hi 3 _ rfl]; rfl
          · rw [HS7.out.drew.cell i hi 4 _ rfl]; rfl
          · rw [HS7.out.drew.cell i hi 5 _ rfl]; rfl)
        have HB8 := Lib.hid (show Below N w (W7.drew.setCells g (i * 7 + 2) (Acc.cells (goneA m.qty (restA ⟨x, y, z, t⟩))).toList) from Blk.Below.setCells _ _ _ HB7.out.drew hgN)
        have cR : W7.drew.cell? ⟨R, 0, none⟩ = some (.slice (some ⟨g, 0, none⟩) l.length cap) := HS7.out.drew.box.cell 0 rfl
        unfold Acc.cells goneA restA at HA7 HB8
        dsimp only at HA7 HB8
        have ca0 := HA7.out.drew.cell 0 rfl
        have ca1 := HA7.out.drew.cell 1 rfl
        have ca2 := HA7.out.drew.cell 2 rfl
        have ca3 := HA7.out.drew.cell 3 rfl
        refine Go.Proofs.Ytmkcooamgojbpaa.Veil.start 8 (by kernel_rfl) (by kernel_rfl) ?_
        simp only [List.take_succ_cons, List.take_zero, List.drop_succ_cons, List.drop_zero]
        (refine Go.Proofs.Ytmkcooamgojbpaa.Veil.step (fun K hK => ?_); go_simp; refine hK _ ?_; clear hK K)
        (refine Go.Proofs.Ytmkcooamgojbpaa.Veil.step (fun K hK => ?_); go_simp; refine hK _ ?_; clear hK K)
        (refine Go.Proofs.Ytmkcooamgojbpaa.Veil.step (fun K hK => ?_); go_simp; refine hK _ ?_; clear hK K)
        (refine Go.Proofs.Ytmkcooamgojbpaa.Veil.step (fun K hK => ?_); go_simp; refine hK _ ?_; clear hK K)
        (refine Go.Proofs.Ytmkcooamgojbpaa.Veil.step (fun K hK => ?_); go_simp; refine hK _ ?_; clear hK K)
        (refine Go.Proofs.Ytmkcooamgojbpaa.Veil.step (fun K hK => ?_); go_simp; refine hK _ ?_; clear hK K)
        (refine Go.Proofs.Ytmkcooamgojbpaa.Veil.step (fun K hK => ?_); go_simp; refine hK _ ?_; clear hK K)
        (refine Go.Proofs.Ytmkcooamgojbpaa.Veil.step (fun K hK => ?_); go_simp; refine hK _ ?_; clear hK K)
        refine Go.Proofs.Ytmkcooamgojbpaa.Veil.nil ?_
        change wpList _ _ _ _ _ W7.drew
        refine wpList_store_mid (by rfl) 55 _ _ (by rfl) g (i * 7 + 2) #[.int .i64 x, .int .i64 y, .int .i64 (z + m.qty), .int .i64 0] (by rfl) (by rfl) HTH.out (by kernel_rfl) (by simp [Value.oneCell']) ?_
        clear cR ca0 ca1 ca2 ca3
        have HS9 := HS8
        unfold goneA restA at HS9
        go_wp2_with fail
        go_ret
        exact ⟨⟨_, rfl⟩, ⟨_, _, by rw [HT.out]; exact HS9.out⟩, Chg.of HB8.out⟩
      · have b5 : (t == m.qty) = false := by simpa using hrq
        have HT := Lib.hid (show doneD l m = l by rw [HDD.out, hac]; dsimp only; rw [if_neg how, if_neg hrq])
        clear how hrq
        go_wp2_with fail
        go_ret
        exact ⟨⟨_, rfl⟩, ⟨_, _, by rw [HT.out]; exact HS5.out⟩, Chg.of HB5.out⟩
  · rw [hfd]
    rw [hac] at HDD
    clear hfd hac
    go_wp2_with fail
    go_ret
    exact ⟨⟨_, rfl⟩, ⟨_, _, by rw [HDD.out]; exact HS0.out⟩, Chg.of (HB0.out.mono HNN.out)⟩
end Go.Proofs.Ytmkcooamgojbpaa.Ledger
