/- Parts of the proof: ShRead. -/
import Derived.Test.YtmkcooamgojbpaaGreatDoorPart23
import Derived.Test.YtmkcooamgojbpaaGreatDoorPart22
import Derived.Test.YtmkcooamgojbpaaGreatDoorPart24
import Derived.Test.YtmkcooamgojbpaaGreatDoorPart17
import Derived.Test.YtmkcooamgojbpaaGreatDoorPart8
import Derived.Test.YtmkcooamgojbpaaGreatDoorPart25

/- (sheet.part).read: a part's numbers of a line. -/
namespace Go.Proofs.YtmkcooamgojbpaaGreatDoor.Sheet
open Go.RowKit Go.Proofs.YtmkcooamgojbpaaGreatDoor.Kit Go.Proofs.YtmkcooamgojbpaaGreatDoor.Blk Go.Proofs.YtmkcooamgojbpaaGreatDoor.Words Go.Proofs.YtmkcooamgojbpaaGreatDoor.Octets Go.Proofs.YtmkcooamgojbpaaGreatDoor.Lines Go.Proofs.YtmkcooamgojbpaaGreatDoor.Dec
attribute [local go_sem ↓] Go.wp_at_zero Go.wp_at_succ
set_option linter.unusedVariables false

/-- Cells that are numbers, or slices. -/
def PlainC (cs : Array Value) : Prop := ∀ (j : Nat) (u : Value), cs[j]? = some u → (∃ n, u = .int .i64 n) ∨ ∃ a n c, u = .slice a n c
def setL (cs : Array Value) : List Nat → List Int → Array Value
  | j :: js, n :: ns => setL (cs.setIfInBounds j (.int .i64 n)) js ns
  | _, _ => cs
theorem set_next : ∀ (js : List Nat) (ns : List Int) (cs : Array Value) (k : Nat) (h1 : k < js.length) (h2 : k < ns.length), setL cs (js.take (k + 1)) (ns.take (k + 1)) = (setL cs (js.take k) (ns.take k)).setIfInBounds js[k] (.int .i64 ns[k])
  | j :: js, n :: ns, cs, 0, _, _ => rfl
  | j :: js, n :: ns, cs, k + 1, h1, h2 => set_next js ns (cs.setIfInBounds j (.int .i64 n)) k (by simpa using h1) (by simpa using h2)
theorem set_int : ∀ (js : List Nat) (ns : List Int) (cs : Array Value) (i : Nat), (∃ n, cs[i]? = some (Value.int .i64 n)) → ∃ n, (setL cs js ns)[i]? = some (Value.int .i64 n)
  | [], _, cs, i, h => by simpa [setL] using h
  | _ :: _, [], cs, i, h => by simpa [setL] using h
  | j :: js, n :: ns, cs, i, h => set_int js ns _ i (by
    obtain ⟨m, hm⟩ := h
    rw [Array.getElem?_setIfInBounds]
    by_cases e : j = i
    · subst e
      have := (Array.getElem?_eq_some_iff.1 hm).1
      exact ⟨n, by simp [this]⟩
    · exact ⟨m, by rw [if_neg e]; exact hm⟩)
/-- A part's numbers, as they lie. -/
def atB (B : Nat) (q : List (Bool × Nat)) : List (Bool × Addr) := q.map fun x => (x.1, ⟨B, x.2, none⟩)
def ReadP (o : Option (List Int)) (B : Nat) (cs : Array Value) (js : List Nat) (T : TypeId) (w : World) (e : Ending) (w' : World) : Prop :=
  Chg w.heap.size B w w' ∧ ((o = none ∧ e = badE) ∨ ∃ ns, o = some ns ∧ e = .returned (.tuple #[]) ∧ Blk w' B (setL cs js ns) T)
theorem blk_first {w : World} {B : Nat} {cs : Array Value} {T : TypeId} {u : Value} (hb : Blk w B cs T) (h : w.cell? ⟨B, 0, none⟩ = some u) (h0 : 0 < cs.size) : cs[0]? = some u := by
  rw [← h, hb.cell 0 (Array.getElem?_eq_getElem h0)]
  exact Array.getElem?_eq_getElem h0
theorem plain_no {cs : Array Value} (h : PlainC cs) {j : Nat} {u : Value} (hu : cs[j]? = some u) : (∀ z, u ≠ .pointer z) ∧ ∀ s, u ≠ .string s := by
  rcases h j u hu with ⟨n, rfl⟩ | ⟨a, n, c, rfl⟩ <;> exact ⟨fun z h => (by cases h), fun s h => (by cases h)⟩
theorem nums_at {w : World} {g : Nat} {l : List (Bool × Addr)} (h : ∀ j u, (numL l)[j]? = some u → w.cell? ⟨g, j, none⟩ = some u) (k : Nat) (hk : k < l.length) : w.rangeAt g (k * 2) (numC l[k]).toList := fun j v hv => by
  refine h _ _ ?_
  have hsz : ∀ x : Bool × Addr, (numC x).toList.length = 2 := fun x => by unfold numC; split <;> rfl
  have hj : j < 2 := by
    have := (List.getElem?_eq_some_iff.1 hv).1
    rwa [hsz] at this
  have gen : ∀ (l : List (Bool × Addr)) (k : Nat) (hk : k < l.length), (numL l)[k * 2 + j]? = (numC l[k]).toList[j]? := by
    intro l
    induction l with
    | nil => intro k hk; simp at hk
    | cons x l ih =>
      intro k hk
      rw [numL, List.flatMap_cons]
      cases k with
      | zero => rw [Nat.zero_mul, Nat.zero_add, List.getElem?_append_left (by rw [hsz]; exact hj)]; rfl
      | succ k =>
        rw [List.getElem?_append_right (by rw [hsz]; omega), hsz, show (k + 1) * 2 + j - 2 = k * 2 + j by omega]
        exact ih k (by simpa using hk)
  rw [gen l k hk]
  exact hv
set_option maxRecDepth 20000 in
set_option maxHeartbeats 4000000 in
theorem read_any (x line : Txt) (hl : line.length ≤ 100000) (B : Nat) (cs : Array Value) (T : TypeId) (q : List (Bool × Nat)) (v : Value) (w : World) (hm : MX w) (hb : Blk w B cs T) (hcs : PlainC cs)
    (hq : ∀ y ∈ q, ∃ n, cs[y.2]? = some (Value.int .i64 n)) (h0 : 0 < q.length) (h1 : q.length ≤ 1000) (hn : NAt w.heap.size v (atB B q) w) :
    Calls Tryz.prog 39 #[.agg #[.string (strB x), v], .string (strB line)] w (ReadP (partF x q.length line) B cs (q.map (·.2)) T w) := by
  obtain ⟨g, c, rfl, hg, hcells⟩ := hn
  have hql : (atB B q).length = q.length := by simp [atB]
  rw [hql]
  have hgB : g ≠ B := by
    rintro rfl
    cases q with
    | nil => simp at h0
    | cons y q =>
      obtain ⟨u, hu, hp⟩ : ∃ u, (numL (atB g (y :: q)))[0]? = some u ∧ ∃ z, u = .pointer z := by
        simp only [atB, List.map_cons, numL, List.flatMap_cons, numC]
        split <;> exact ⟨_, rfl, _, rfl⟩
      obtain ⟨z, rfl⟩ := hp
      have h2 := hcells 0 _ hu
      have h3 : w.cell? ⟨g, 0, none⟩ = cs[0]? := by
        cases e : cs[0]? with
        | some z => exact hb.cell 0 e
        | none =>
          have : cs.size = 0 := by simpa using e
          obtain ⟨n, hn⟩ := hq y List.mem_cons_self
          simp [Array.getElem?_eq_none (show cs.size ≤ y.2 by omega)] at hn
      rw [h3] at h2
      rcases hcs 0 _ h2 with ⟨n, h⟩ | ⟨a, n, c, h⟩ <;> cases h
  have HX := Lib.hid (Blk.new w #[.string (strB x), .slice (some ⟨g, 0, none⟩) q.length c] 62 w.heap.size rfl)
  have HBE := Lib.hid ((Below.refl w.heap.size w).alloc (Nat.le_refl _) (.cells #[.string (strB x), .slice (some ⟨g, 0, none⟩) q.length c] 62))
  have HB := Lib.hid hb
  have HQ := Lib.hid hq
  have HCE := Lib.hid hcells
  have HCS := Lib.hid hcs
  have HSP := Lib.hid (split_any line hl _ (hm.below (n := w.heap.size) HBE.out))
  have HWL := Lib.hid (split_bytes line)
  have HH := Lib.hid (And.intro hg (And.intro hgB hb.lt))
  clear hb hq hcells hcs hm hql hg hgB
  go_enter Tryz.func39, Tryz.ntmps39
  go_wp2_with fail
  refine HSP.out.mono ?_
  clear HSP
  rintro e w2 ⟨v, rfl, hrow, hb2⟩
  have HX2 := Lib.hid (HX.out.below hb2 HX.out.lt)
  have HBE2 := Lib.hid (HBE.out.trans (hb2.mono HBE.out.size))
  have HROW := Lib.hid hrow
  clear hrow hb2 HX HBE
  have HB2 := Lib.hid (HB.out.below (HBE2.out) HB.out.lt)
  have HCH := Lib.hid (show Chg w.heap.size B w w2 from Chg.of HBE2.out)
  have c0 : w2.cell? ⟨w.heap.size, 0, none⟩ = some (.string (strB x)) := HX2.out.cell 0 rfl
  have c1 : w2.cell? ⟨w.heap.size, 1, none⟩ = some (.slice (some ⟨g, 0, none⟩) q.length c) := HX2.out.cell 1 rfl
  rcases HROW.out with ⟨he, rfl⟩ | ⟨hpos, b, c2, rfl, hcap, hlt, hws⟩
  · have HN := Lib.hid (part_no (x := x) (n := q.length) (l := line) (by rw [he]; simp))
    have g1 : ((0 : Int) == (q.length : Int) + 1) = false := by rw [beq_eq_false_iff_ne]; omega
    clear he HROW
    have v1 : IntKind.i64.wrap ((q.length : Int) + 1) = (q.length : Int) + 1 := IntWalk.i64_in _ (by omega)
    go_upto_region 2 with fail
    refine Go.Proofs.YtmkcooamgojbpaaGreatDoor.Veil.start 15 (by kernel_rfl) (by kernel_rfl) ?_
    simp only [List.take_succ_cons, List.take_zero, List.drop_succ_cons, List.drop_zero]
    (refine Go.Proofs.YtmkcooamgojbpaaGreatDoor.Veil.step (fun K hK => ?_); go_simp; refine hK _ ?_; clear hK K)
    (refine Go.Proofs.YtmkcooamgojbpaaGreatDoor.Veil.step (fun K hK => ?_); go_simp; refine hK _ ?_; clear hK K)
    (refine Go.Proofs.YtmkcooamgojbpaaGreatDoor.Veil.step (fun K hK => ?_); go_simp; refine hK _ ?_; clear hK K)
    (refine Go.Proofs.YtmkcooamgojbpaaGreatDoor.Veil.step (fun K hK => ?_); go_simp; refine hK _ ?_; clear hK K)
    (refine Go.Proofs.YtmkcooamgojbpaaGreatDoor.Veil.step (fun K hK => ?_); go_simp; refine hK _ ?_; clear hK K)
    (refine Go.Proofs.YtmkcooamgojbpaaGreatDoor.Veil.step (fun K hK => ?_); go_simp; refine hK _ ?_; clear hK K)
    (refine Go.Proofs.YtmkcooamgojbpaaGreatDoor.Veil.step (fun K hK => ?_); go_simp; refine hK _ ?_; clear hK K)
    (refine Go.Proofs.YtmkcooamgojbpaaGreatDoor.Veil.step (fun K hK => ?_); go_simp; refine hK _ ?_; clear hK K)
    (refine Go.Proofs.YtmkcooamgojbpaaGreatDoor.Veil.step (fun K hK => ?_); go_simp; refine hK _ ?_; clear hK K)
    (refine Go.Proofs.YtmkcooamgojbpaaGreatDoor.Veil.step (fun K hK => ?_); go_simp; refine hK _ ?_; clear hK K)
    (refine Go.Proofs.YtmkcooamgojbpaaGreatDoor.Veil.step (fun K hK => ?_); go_simp; refine hK _ ?_; clear hK K)
    (refine Go.Proofs.YtmkcooamgojbpaaGreatDoor.Veil.step (fun K hK => ?_); go_simp; refine hK _ ?_; clear hK K)
    (refine Go.Proofs.YtmkcooamgojbpaaGreatDoor.Veil.step (fun K hK => ?_); go_simp; refine hK _ ?_; clear hK K)
    (refine Go.Proofs.YtmkcooamgojbpaaGreatDoor.Veil.step (fun K hK => ?_); go_simp; refine hK _ ?_; clear hK K)
    (refine Go.Proofs.YtmkcooamgojbpaaGreatDoor.Veil.step (fun K hK => ?_); go_simp; refine hK _ ?_; clear hK K)
    refine Go.Proofs.YtmkcooamgojbpaaGreatDoor.Veil.nil ?_
    change wpList _ _ _ _ _ w2.drew
    clear v1
    go_wp2_with fail
    with_reducible refine (must_false _).mono ?_
    rintro e w9 ⟨rfl, rfl⟩
    go_wp2_with fail
    exact ⟨rfl, HCH.out.drew, .inl ⟨HN.out, rfl⟩⟩
  · by_cases hlen : (splitW line).length = q.length + 1
    · obtain ⟨y, r, hyr⟩ : ∃ y r, splitW line = y :: r := by
        cases h : splitW line with
        | nil => rw [h] at hpos; simp at hpos
        | cons y r => exact ⟨y, r, rfl⟩
      have HE := Lib.hid hyr
      have hr : r.length = q.length := by rw [hyr] at hlen; simpa using hlen
      have HRQ := Lib.hid hr
      rw [hyr] at hws
      have k0 : w2.cell? ⟨b, 0, none⟩ = some (.string (strB y)) := hws 0 (by simp)
      have HWS := Lib.hid hws
      have HLT := Lib.hid hlt
      rw [hlen]
      have g1 : (((q.length : Int) + 1) == (q.length : Int) + 1) = true := by simp
      have g2 : (0 : Int) < (q.length : Int) + 1 := by omega
      clear hlen hyr hpos hws hlt hr HROW hcap
      by_cases hxy : y = x
      · subst hxy
        have g4 : ((strB y).toList == (strB y).toList) = true := by simp
        have v1 : IntKind.i64.wrap ((q.length : Int) + 1) = (q.length : Int) + 1 := IntWalk.i64_in _ (by omega)
        go_upto_region 2 with fail
        refine Go.Proofs.YtmkcooamgojbpaaGreatDoor.Veil.start 15 (by kernel_rfl) (by kernel_rfl) ?_
        simp only [List.take_succ_cons, List.take_zero, List.drop_succ_cons, List.drop_zero]
        (refine Go.Proofs.YtmkcooamgojbpaaGreatDoor.Veil.step (fun K hK => ?_); go_simp; refine hK _ ?_; clear hK K)
        (refine Go.Proofs.YtmkcooamgojbpaaGreatDoor.Veil.step (fun K hK => ?_); go_simp; refine hK _ ?_; clear hK K)
        (refine Go.Proofs.YtmkcooamgojbpaaGreatDoor.Veil.step (fun K hK => ?_); go_simp; refine hK _ ?_; clear hK K)
        (refine Go.Proofs.YtmkcooamgojbpaaGreatDoor.Veil.step (fun K hK => ?_); go_simp; refine hK _ ?_; clear hK K)
        (refine Go.Proofs.YtmkcooamgojbpaaGreatDoor.Veil.step (fun K hK => ?_); go_simp; refine hK _ ?_; clear hK K)
        (refine Go.Proofs.YtmkcooamgojbpaaGreatDoor.Veil.step (fun K hK => ?_); go_simp; refine hK _ ?_; clear hK K)
        (refine Go.Proofs.YtmkcooamgojbpaaGreatDoor.Veil.step (fun K hK => ?_); go_simp; refine hK _ ?_; clear hK K)
        (refine Go.Proofs.YtmkcooamgojbpaaGreatDoor.Veil.step (fun K hK => ?_); go_simp; refine hK _ ?_; clear hK K)
        (refine Go.Proofs.YtmkcooamgojbpaaGreatDoor.Veil.step (fun K hK => ?_); go_simp; refine hK _ ?_; clear hK K)
        (refine Go.Proofs.YtmkcooamgojbpaaGreatDoor.Veil.step (fun K hK => ?_); go_simp; refine hK _ ?_; clear hK K)
        (refine Go.Proofs.YtmkcooamgojbpaaGreatDoor.Veil.step (fun K hK => ?_); go_simp; refine hK _ ?_; clear hK K)
        (refine Go.Proofs.YtmkcooamgojbpaaGreatDoor.Veil.step (fun K hK => ?_); go_simp; refine hK _ ?_; clear hK K)
        (refine Go.Proofs.YtmkcooamgojbpaaGreatDoor.Veil.step (fun K hK => ?_); go_simp; refine hK _ ?_; clear hK K)
        (refine Go.Proofs.YtmkcooamgojbpaaGreatDoor.Veil.step (fun K hK => ?_); go_simp; refine hK _ ?_; clear hK K)
        (refine Go.Proofs.YtmkcooamgojbpaaGreatDoor.Veil.step (fun K hK => ?_); go_simp; refine hK _ ?_; clear hK K)
        refine Go.Proofs.YtmkcooamgojbpaaGreatDoor.Veil.nil ?_
        change wpList _ _ _ _ _ w2.drew
        clear v1
        go_wp2_with fail
        with_reducible refine (must_true _).mono ?_
        rintro e w9 ⟨rfl, rfl⟩
        have hbB : b ≠ B := by
          rintro rfl
          have h9 : 0 < cs.size := by
            obtain ⟨z, hz⟩ : ∃ z, z ∈ q := ⟨q[0], List.getElem_mem h0⟩
            obtain ⟨n, hn⟩ := HQ.out z hz
            have := (Array.getElem?_eq_some_iff.1 hn).1
            omega
          exact (plain_no HCS.out (blk_first HB2.out k0 h9)).2 _ rfl
        have HHB := Lib.hid hbB
        have HB3 := Lib.hid HB2.out.drew
        have HCH3 := Lib.hid HCH.out.drew
        have HWS3 := Lib.hid (show ∀ j, (h : j < (y :: r).length) → w2.drew.cell? ⟨b, j, none⟩ = some (.string (strB (y :: r)[j])) from HWS.out)
        have HGC3 := Lib.hid (show ∀ j u, (numL (atB B q))[j]? = some u → w2.drew.cell? ⟨g, j, none⟩ = some u from fun j u hu => by
          show w2.cell? ⟨g, j, none⟩ = some u
          rw [HBE2.out.cell (p := ⟨g, j, none⟩) HH.out.1]
          exact HCE.out j u hu)
        have HG3 := Lib.hid (show g < w2.drew.heap.size from Nat.lt_of_lt_of_le HH.out.1 HBE2.out.size)
        have HL3 := Lib.hid (show b < w2.drew.heap.size from HLT.out)
        have c1 : w2.drew.cell? ⟨w.heap.size, 1, none⟩ = some (.slice (some ⟨g, 0, none⟩) q.length c) := c1
        clear hbB k0 c0 HB2 HCH HWS HCE HX2 HLT HB
        generalize w2.drew = w3 at HB3 HCH3 HWS3 HGC3 HG3 HL3 c1 ⊢
        go_wp2_with fail
        go_loopw [30] (fun i wr => ∃ k : Nat, k ≤ q.length ∧ i = .int .i64 (k : Int) ∧ (∀ j, (hj : j < r.length) → j < k → posW r[j] = true) ∧ Blk wr B (setL cs ((q.map (·.2)).take k) ((r.map valW).take k)) T ∧ Chg w3.heap.size B w3 wr) (fun i _ => q.length - (intOf i).toNat)
        case atStart => exact ⟨0, by omega, rfl, fun _ _ h => absurd h (by omega), HB3.out, Chg.refl _ _ _⟩
        case round =>
          obtain ⟨k, hk, rfl, hpos, hblk, hchg⟩ := hrel
          have HP := Lib.hid hpos
          have HBK := Lib.hid hblk
          have HCK := Lib.hid hchg
          clear hpos hblk hchg
          by_cases hlt : k < q.length
          · have hkl : (k : Int) < (q.length : Int) := by omega
            have hkr : k < r.length := by rw [HRQ.out]; exact hlt
            have ck : wr.cell? ⟨b, k + 1, none⟩ = some (.string (strB r[k])) := by
              rw [HCK.out.cell (p := ⟨b, k + 1, none⟩) HL3.out HHB.out]
              exact HWS3.out (k + 1) (by simp; omega)
            have H1 := Lib.hid (show wr.rangeAt g (k * 2) (numC (q[k].1, ⟨B, q[k].2, none⟩)).toList from by
              have h9 := nums_at HGC3.out k (by simpa [atB] using hlt)
              have h8 : (atB B q)[k]'(by simpa [atB] using hlt) = (q[k].1, ⟨B, q[k].2, none⟩) := by simp [atB]
              rw [h8] at h9
              intro j v hv
              rw [HCK.out.cell (p := ⟨g, k * 2 + j, none⟩) HG3.out HH.out.2.1]
              exact h9 j v hv)
            have HZL := Lib.hid (show r[k].length ≤ 100000 from Nat.le_trans (HWL.out _ (by rw [HE.out]; exact List.mem_cons_of_mem _ (List.getElem_mem hkr))) hl)
            have HB1 := Lib.hid (fun h => part_bad (x := y) (n := q.length) HE.out k hkr h)
            have HS := Lib.hid (fun (h : posW r[k] = true) j (hj : j < r.length) (hjk : j < k + 1) => show posW r[j] = true from if e : j = k then (by subst e; exact h) else HP.out j hj (by omega))
            have HU := Lib.hid (set_int ((q.map (·.2)).take k) ((r.map valW).take k) cs q[k].2 (HQ.out _ (List.getElem_mem hlt)))
            have HNX := Lib.hid (set_next (q.map (·.2)) (r.map valW) cs k (by simpa using hlt) (by simpa using hkr))
            rw [List.getElem_map, List.getElem_map] at HNX
            generalize r[k] = z at ck HZL HB1 HS HNX
            obtain ⟨lg, off, hqk⟩ : ∃ lg off, q[k] = (lg, off) := ⟨_, _, rfl⟩
            rw [hqk] at H1 HU HNX
            generalize setL cs ((q.map (·.2)).take k) ((r.map valW).take k) = ck0 at HBK HU HNX
            cases lg with
            | true =>
              replace H1 := Lib.hid (show wr.rangeAt g (k * 2) (#[.pointer (some ⟨B, off, none⟩), .pointer none] : Array Value).toList from H1.out)
              have HSET := Lib.hid (fun (W : World) (v u : Int) (cs : Array Value) (hb : Blk W B cs T) (hu : cs[off]? = some (.int .i64 u)) => show Calls Tryz.prog 78 #[.agg #[.pointer (some ⟨B, off, none⟩), .pointer none], .int .i64 v] W _ from set_any true B off v u cs T W hb hu)
              have HNB := Lib.hid (Blk.new wr #[.pointer (some ⟨B, off, none⟩), .pointer none] 107 wr.heap.size rfl)
              have HA := Lib.hid ((Below.refl wr.heap.size wr).alloc (Nat.le_refl _) (.cells #[.pointer (some ⟨B, off, none⟩), .pointer none] 107))
              have HNU := Lib.hid (wnumber_any z HZL.out (wr.alloc (.cells #[.pointer (some ⟨B, off, none⟩), .pointer none] 107)))
              have hbl : b < wr.heap.size := Nat.lt_of_lt_of_le HL3.out HCK.out.size
              have ck2 : (wr.alloc (.cells #[.pointer (some ⟨B, off, none⟩), .pointer none] 107)).cell? ⟨b, k + 1, none⟩ = some (.string (strB z)) := by rw [HA.out.cell (p := ⟨b, k + 1, none⟩) hbl]; exact ck
              have k1 : ((k : Int) + 1).toNat = k + 1 := by omega
              have k2 : (k : Int) + 1 < (q.length : Int) + 1 := by omega
              have k3 : (0 : Int) ≤ (k : Int) + 1 := by omega
              clear ck hbl
              go_wp2_with (refine wpList_load_mid rfl 107 _ rfl _ _ rfl _ _ H1.out Tryz.underlying107 rfl (by kernel_rfl) ?_)
              refine HNU.out.mono ?_
              clear HNU
              rintro e w5 ⟨rfl, hb5⟩
              have HB5 := Lib.hid ((HBK.out.old (.cells #[.pointer (some ⟨B, off, none⟩), .pointer none] 107)).below hb5 (by simp; have := HBK.out.lt; omega))
              have HC5 := Lib.hid ((HCK.out.alloc HCK.out.size (.cells #[.pointer (some ⟨B, off, none⟩), .pointer none] 107)).step (hb5.mono (by simp; have := HCK.out.size; omega)))
              have HN5 := Lib.hid (HNB.out.below hb5 (by simp))
              clear hb5 HBK HCK HNB HA ck2
              cases hz : numF z with
              | none =>
                have HN := Lib.hid (HB1.out (pos_none hz))
                simp only [Option.getD_none, Option.isSome_none]
                clear hz
                go_wp2_with fail
                with_reducible refine (must_false _).mono ?_
                rintro e w9 ⟨rfl, rfl⟩
                go_wp2_with fail
                exact ⟨rfl, HCH3.out.trans (HC5.out.mono HCH3.out.size), .inl ⟨HN.out, rfl⟩⟩
              | some m =>
                simp only [Option.getD_some, Option.isSome_some]
                by_cases hm0 : m < 0
                · have HN := Lib.hid (HB1.out (pos_neg hz hm0))
                  have g5 : decide (0 ≤ m) = false := by simpa using hm0
                  clear hz hm0
                  go_wp2_with fail
                  with_reducible refine (must_false _).mono ?_
                  rintro e w9 ⟨rfl, rfl⟩
                  go_wp2_with fail
                  exact ⟨rfl, HCH3.out.trans (HC5.out.mono HCH3.out.size), .inl ⟨HN.out, rfl⟩⟩
                · obtain ⟨h1, h2⟩ := pos_yes hz (by omega)
                  have HS2 := Lib.hid (HS.out h1)
                  rw [h2] at HNX
                  have g5 : decide (0 ≤ m) = true := by simpa using hm0
                  clear hz h1 h2 HS hm0
                  go_wp2_with fail
                  with_reducible refine (must_true _).mono ?_
                  rintro e w9 ⟨rfl, rfl⟩
                  go_wp2_with (refine load_blk (by rfl) 107 _ (by rfl) wr.heap.size (by rfl) _ _ HN5.out _ Tryz.underlying107 rfl (by kernel_rfl) ?_)
                  obtain ⟨u, hu⟩ := HU.out
                  refine (HSET.out _ m u _ HB5.out hu).mono ?_
                  rintro e w6 ⟨rfl, hb6, hc6⟩
                  have HB6 := Lib.hid hb6
                  have HC6 := Lib.hid (HC5.out.trans (hc6.mono HC5.out.size))
                  clear hb6 hc6 hu HSET
                  go_wp2_with fail
                  go_roundw
                  case rel => exact ⟨k + 1, by omega, by go_num, fun j hj hjk => HS2.out j hj hjk, by rw [HNX.out]; exact HB6.out, HC6.out⟩
                  case measure => simp [intOf]; omega
            | false =>
              replace H1 := Lib.hid (show wr.rangeAt g (k * 2) (#[.pointer none, .pointer (some ⟨B, off, none⟩)] : Array Value).toList from H1.out)
              have HSET := Lib.hid (fun (W : World) (v u : Int) (cs : Array Value) (hb : Blk W B cs T) (hu : cs[off]? = some (.int .i64 u)) => show Calls Tryz.prog 78 #[.agg #[.pointer none, .pointer (some ⟨B, off, none⟩)], .int .i64 v] W _ from set_any false B off v u cs T W hb hu)
              have HNB := Lib.hid (Blk.new wr #[.pointer none, .pointer (some ⟨B, off, none⟩)] 107 wr.heap.size rfl)
              have HA := Lib.hid ((Below.refl wr.heap.size wr).alloc (Nat.le_refl _) (.cells #[.pointer none, .pointer (some ⟨B, off, none⟩)] 107))
              have HNU := Lib.hid (wnumber_any z HZL.out (wr.alloc (.cells #[.pointer none, .pointer (some ⟨B, off, none⟩)] 107)))
              have hbl : b < wr.heap.size := Nat.lt_of_lt_of_le HL3.out HCK.out.size
              have ck2 : (wr.alloc (.cells #[.pointer none, .pointer (some ⟨B, off, none⟩)] 107)).cell? ⟨b, k + 1, none⟩ = some (.string (strB z)) := by rw [HA.out.cell (p := ⟨b, k + 1, none⟩) hbl]; exact ck
              have k1 : ((k : Int) + 1).toNat = k + 1 := by omega
              have k2 : (k : Int) + 1 < (q.length : Int) + 1 := by omega
              have k3 : (0 : Int) ≤ (k : Int) + 1 := by omega
              clear ck hbl
              go_wp2_with (refine wpList_load_mid rfl 107 _ rfl _ _ rfl _ _ H1.out Tryz.underlying107 rfl (by kernel_rfl) ?_)
              refine HNU.out.mono ?_
              clear HNU
              rintro e w5 ⟨rfl, hb5⟩
              have HB5 := Lib.hid ((HBK.out.old (.cells #[.pointer none, .pointer (some ⟨B, off, none⟩)] 107)).below hb5 (by simp; have := HBK.out.lt; omega))
              have HC5 := Lib.hid ((HCK.out.alloc HCK.out.size (.cells #[.pointer none, .pointer (some ⟨B, off, none⟩)] 107)).step (hb5.mono (by simp; have := HCK.out.size; omega)))
              have HN5 := Lib.hid (HNB.out.below hb5 (by simp))
              clear hb5 HBK HCK HNB HA ck2
              cases hz : numF z with
              | none =>
                have HN := Lib.hid (HB1.out (pos_none hz))
                simp only [Option.getD_none, Option.isSome_none]
                clear hz
                go_wp2_with fail
                with_reducible refine (must_false _).mono ?_
                rintro e w9 ⟨rfl, rfl⟩
                go_wp2_with fail
                exact ⟨rfl, HCH3.out.trans (HC5.out.mono HCH3.out.size), .inl ⟨HN.out, rfl⟩⟩
              | some m =>
                simp only [Option.getD_some, Option.isSome_some]
                by_cases hm0 : m < 0
                · have HN := Lib.hid (HB1.out (pos_neg hz hm0))
                  have g5 : decide (0 ≤ m) = false := by simpa using hm0
                  clear hz hm0
                  go_wp2_with fail
                  with_reducible refine (must_false _).mono ?_
                  rintro e w9 ⟨rfl, rfl⟩
                  go_wp2_with fail
                  exact ⟨rfl, HCH3.out.trans (HC5.out.mono HCH3.out.size), .inl ⟨HN.out, rfl⟩⟩
                · obtain ⟨h1, h2⟩ := pos_yes hz (by omega)
                  have HS2 := Lib.hid (HS.out h1)
                  rw [h2] at HNX
                  have g5 : decide (0 ≤ m) = true := by simpa using hm0
                  clear hz h1 h2 HS hm0
                  go_wp2_with fail
                  with_reducible refine (must_true _).mono ?_
                  rintro e w9 ⟨rfl, rfl⟩
                  go_wp2_with (refine load_blk (by rfl) 107 _ (by rfl) wr.heap.size (by rfl) _ _ HN5.out _ Tryz.underlying107 rfl (by kernel_rfl) ?_)
                  obtain ⟨u, hu⟩ := HU.out
                  refine (HSET.out _ m u _ HB5.out hu).mono ?_
                  rintro e w6 ⟨rfl, hb6, hc6⟩
                  have HB6 := Lib.hid hb6
                  have HC6 := Lib.hid (HC5.out.trans (hc6.mono HC5.out.size))
                  clear hb6 hc6 hu HSET
                  go_wp2_with fail
                  go_roundw
                  case rel => exact ⟨k + 1, by omega, by go_num, fun j hj hjk => HS2.out j hj hjk, by rw [HNX.out]; exact HB6.out, HC6.out⟩
                  case measure => simp [intOf]; omega
          · obtain rfl : k = q.length := by omega
            have HN := Lib.hid (part_all (x := y) (n := q.length) HE.out HRQ.out (fun k hk => HP.out k hk (by rw [← HRQ.out]; exact hk)))
            go_wp2_with fail
            go_end0
            refine ⟨HCH3.out.trans (HCK.out.mono (HCH3.out.size)), .inr ⟨_, HN.out, rfl, ?_⟩⟩
            have h9 := HBK.out
            rw [List.take_of_length_le (by simp), List.take_of_length_le (by rw [List.length_map, HRQ.out]; exact Nat.le_refl _)] at h9
            exact h9
      · have g4 : ((strB y).toList == (strB x).toList) = false := by
          rw [ByteArray.toList_eq, ByteArray.toList_eq, strB_list, strB_list]; simpa using hxy
        have HN := Lib.hid (part_word (x := x) (n := q.length) HE.out hxy)
        clear hxy
        have v1 : IntKind.i64.wrap ((q.length : Int) + 1) = (q.length : Int) + 1 := IntWalk.i64_in _ (by omega)
        go_upto_region 2 with fail
        refine Go.Proofs.YtmkcooamgojbpaaGreatDoor.Veil.start 15 (by kernel_rfl) (by kernel_rfl) ?_
        simp only [List.take_succ_cons, List.take_zero, List.drop_succ_cons, List.drop_zero]
        (refine Go.Proofs.YtmkcooamgojbpaaGreatDoor.Veil.step (fun K hK => ?_); go_simp; refine hK _ ?_; clear hK K)
        (refine Go.Proofs.YtmkcooamgojbpaaGreatDoor.Veil.step (fun K hK => ?_); go_simp; refine hK _ ?_; clear hK K)
        (refine Go.Proofs.YtmkcooamgojbpaaGreatDoor.Veil.step (fun K hK => ?_); go_simp; refine hK _ ?_; clear hK K)
        (refine Go.Proofs.YtmkcooamgojbpaaGreatDoor.Veil.step (fun K hK => ?_); go_simp; refine hK _ ?_; clear hK K)
        (refine Go.Proofs.YtmkcooamgojbpaaGreatDoor.Veil.step (fun K hK => ?_); go_simp; refine hK _ ?_; clear hK K)
        (refine Go.Proofs.YtmkcooamgojbpaaGreatDoor.Veil.step (fun K hK => ?_); go_simp; refine hK _ ?_; clear hK K)
        (refine Go.Proofs.YtmkcooamgojbpaaGreatDoor.Veil.step (fun K hK => ?_); go_simp; refine hK _ ?_; clear hK K)
        (refine Go.Proofs.YtmkcooamgojbpaaGreatDoor.Veil.step (fun K hK => ?_); go_simp; refine hK _ ?_; clear hK K)
        (refine Go.Proofs.YtmkcooamgojbpaaGreatDoor.Veil.step (fun K hK => ?_); go_simp; refine hK _ ?_; clear hK K)
        (refine Go.Proofs.YtmkcooamgojbpaaGreatDoor.Veil.step (fun K hK => ?_); go_simp; refine hK _ ?_; clear hK K)
        (refine Go.Proofs.YtmkcooamgojbpaaGreatDoor.Veil.step (fun K hK => ?_); go_simp; refine hK _ ?_; clear hK K)
        (refine Go.Proofs.YtmkcooamgojbpaaGreatDoor.Veil.step (fun K hK => ?_); go_simp; refine hK _ ?_; clear hK K)
        (refine Go.Proofs.YtmkcooamgojbpaaGreatDoor.Veil.step (fun K hK => ?_); go_simp; refine hK _ ?_; clear hK K)
        (refine Go.Proofs.YtmkcooamgojbpaaGreatDoor.Veil.step (fun K hK => ?_); go_simp; refine hK _ ?_; clear hK K)
        (refine Go.Proofs.YtmkcooamgojbpaaGreatDoor.Veil.step (fun K hK => ?_); go_simp; refine hK _ ?_; clear hK K)
        refine Go.Proofs.YtmkcooamgojbpaaGreatDoor.Veil.nil ?_
        change wpList _ _ _ _ _ w2.drew
        clear v1
        go_wp2_with fail
        with_reducible refine (must_false _).mono ?_
        rintro e w9 ⟨rfl, rfl⟩
        go_wp2_with fail
        exact ⟨rfl, HCH.out.drew, .inl ⟨HN.out, rfl⟩⟩
    · have HN := Lib.hid (part_no (x := x) (n := q.length) hlen)
      have g1 : (((splitW line).length : Int) == (q.length : Int) + 1) = false := by rw [beq_eq_false_iff_ne]; omega
      generalize (splitW line).length = m at g1
      clear hws hlen HROW
      have v1 : IntKind.i64.wrap ((q.length : Int) + 1) = (q.length : Int) + 1 := IntWalk.i64_in _ (by omega)
      go_upto_region 2 with fail
      refine Go.Proofs.YtmkcooamgojbpaaGreatDoor.Veil.start 15 (by kernel_rfl) (by kernel_rfl) ?_
      simp only [List.take_succ_cons, List.take_zero, List.drop_succ_cons, List.drop_zero]
      (refine Go.Proofs.YtmkcooamgojbpaaGreatDoor.Veil.step (fun K hK => ?_); go_simp; refine hK _ ?_; clear hK K)
      (refine Go.Proofs.YtmkcooamgojbpaaGreatDoor.Veil.step (fun K hK => ?_); go_simp; refine hK _ ?_; clear hK K)
      (refine Go.Proofs.YtmkcooamgojbpaaGreatDoor.Veil.step (fun K hK => ?_); go_simp; refine hK _ ?_; clear hK K)
      (refine Go.Proofs.YtmkcooamgojbpaaGreatDoor.Veil.step (fun K hK => ?_); go_simp; refine hK _ ?_; clear hK K)
      (refine Go.Proofs.YtmkcooamgojbpaaGreatDoor.Veil.step (fun K hK => ?_); go_simp; refine hK _ ?_; clear hK K)
      (refine Go.Proofs.YtmkcooamgojbpaaGreatDoor.Veil.step (fun K hK => ?_); go_simp; refine hK _ ?_; clear hK K)
      (refine Go.Proofs.YtmkcooamgojbpaaGreatDoor.Veil.step (fun K hK => ?_); go_simp; refine hK _ ?_; clear hK K)
      (refine Go.Proofs.YtmkcooamgojbpaaGreatDoor.Veil.step (fun K hK => ?_); go_simp; refine hK _ ?_; clear hK K)
      (refine Go.Proofs.YtmkcooamgojbpaaGreatDoor.Veil.step (fun K hK => ?_); go_simp; refine hK _ ?_; clear hK K)
      (refine Go.Proofs.YtmkcooamgojbpaaGreatDoor.Veil.step (fun K hK => ?_); go_simp; refine hK _ ?_; clear hK K)
      (refine Go.Proofs.YtmkcooamgojbpaaGreatDoor.Veil.step (fun K hK => ?_); go_simp; refine hK _ ?_; clear hK K)
      (refine Go.Proofs.YtmkcooamgojbpaaGreatDoor.Veil.step (fun K hK => ?_); go_simp; refine hK _ ?_; clear hK K)
      (refine Go.Proofs.YtmkcooamgojbpaaGreatDoor.Veil.step (fun K hK => ?_); go_simp; refine hK _ ?_; clear hK K)
      (refine Go.Proofs.YtmkcooamgojbpaaGreatDoor.Veil.step (fun K hK => ?_); go_simp; refine hK _ ?_; clear hK K)
      (refine Go.Proofs.YtmkcooamgojbpaaGreatDoor.Veil.step (fun K hK => ?_); go_simp; refine hK _ ?_; clear hK K)
      refine Go.Proofs.YtmkcooamgojbpaaGreatDoor.Veil.nil ?_
      change wpList _ _ _ _ _ w2.drew
      clear v1
      go_wp2_with fail
      with_reducible refine (must_false _).mono ?_
      rintro e w9 ⟨rfl, rfl⟩
      go_wp2_with fail
      exact ⟨rfl, HCH.out.drew, .inl ⟨HN.out, rfl⟩⟩
end Go.Proofs.YtmkcooamgojbpaaGreatDoor.Sheet
