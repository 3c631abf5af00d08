/- The document's ledger: Open. -/
import Derived.Test.YtmkcooamgojbpaaL31O
import Derived.Test.YtmkcooamgojbpaaL31E
namespace Go.Proofs.Ytmkcooamgojbpaa.Ledger
open Go.RowKit Go.Proofs.Ytmkcooamgojbpaa.Kit Go.Proofs.Ytmkcooamgojbpaa.Blk Go.Proofs.Ytmkcooamgojbpaa.Mp Go.Proofs.Ytmkcooamgojbpaa.Msgs Go.Proofs.Ytmkcooamgojbpaa.Own
attribute [local go_sem ↓] Go.wp_at_zero Go.wp_at_succ
set_option linter.unusedVariables false

def c1 (x : Int) : Array Value := #[.int .i64 x]
theorem c1_size (x : Int) : (c1 x).size = 1 := rfl
theorem vals_flat (S : List Int) : vals S = S.flatMap fun x => (c1 x).toList := by
  induction S with
  | nil => rfl
  | cons x S ih => rw [List.flatMap_cons, ← ih]; rfl
/-- The ids so far in v. -/
structure IS (n0 : Nat) (w : World) (W : World) (v : Value) (S : List Int) : Prop where
  own : W.ownsRow n0 2 1 v S.length (vals S)
  bel : Below n0 w W
  le : n0 ≤ W.heap.size
  nil : S = [] → v = .slice none 0 0
section
variable {n0 : Nat} {w W W' : World} {v v' : Value} {S S' : List Int}
theorem IS.below (h : IS n0 w W v S) (hb : Below W.heap.size W W') : IS n0 w W' v S :=
  ⟨h.own.kept (row := none) ⟨hb.os, hb.tape, hb.output, hb.size, fun k hk _ => hb.block k hk⟩ (by cases v.ownBlock; exact .inl rfl; exact .inr (by simp)), h.bel.trans (hb.mono h.le), Nat.le_trans h.le hb.size, h.nil⟩
theorem IS.drewN (h : IS n0 w W v S) (n : Nat) : IS n0 w (W.drewN n) v S := h.below ((Below.refl _ _).drewN n)
theorem IS.drew (h : IS n0 w W v S) : IS n0 w W.drew v S := ⟨h.own.drew, h.bel.drew, h.le, h.nil⟩
theorem IS.at (h : IS n0 w W v S) : ∃ a cap, v = .slice a S.length cap ∧ S.length ≤ cap ∧ cap ≤ maxLen ∧ ∀ i, (hi : i < S.length) → ∃ g, a = some ⟨g, 0, none⟩ ∧ n0 ≤ g ∧ g < W.heap.size ∧ W.cell? ⟨g, i, none⟩ = some (.int .i64 S[i]) := by
  have h1 := h.own
  rw [vals_flat] at h1
  obtain ⟨a, cap, e1, e2, e3, e4⟩ := owned_at c1 1 c1_size h1
  refine ⟨a, cap, e1, e2, e3, fun i hi => ?_⟩
  obtain ⟨g, f1, f2, f3, f4⟩ := e4 i hi
  refine ⟨g, f1, f2, f3, ?_⟩
  have := f4 0 (.int .i64 S[i]) rfl
  simpa using this
theorem IS.row {a : Option Addr} {n cap : Nat} (h : IS n0 w W (.slice a n cap) S) : ∀ i, (hi : i < S.length) → ∃ g, a = some ⟨g, 0, none⟩ ∧ n0 ≤ g ∧ g < W.heap.size ∧ W.cell? ⟨g, i, none⟩ = some (.int .i64 S[i]) := by
  obtain ⟨a', cap', e, _, _, hh⟩ := h.at
  injection e with e1 e2 e3
  subst e1
  exact hh
theorem IS.grown {n : Nat} {xs : List Value} {nb : Option (Nat × Array Value)} (h : IS n0 w W v S)
    (hg : GA W.heap.size 2 1 W W' (some (v', n, xs)) nb) (hn : n = S'.length) (hx : xs = vals S') (h0 : S' ≠ []) : IS n0 w W' v' S' := by
  have := hg.own _ _ _ rfl
  subst hn hx
  exact ⟨owns_mono this h.le, h.bel.trans (hg.bel.mono h.le), Nat.le_trans h.le hg.le, fun e => absurd e h0⟩
theorem IS.take {g n cap : Nat} (h : IS n0 w W (.slice (some ⟨g, 0, none⟩) n cap) S) (hb : Below W.heap.size W W') (k : Nat) : ∀ j u, (vals (S.take k))[j]? = some u → W'.cell? ((⟨g, 0, none⟩ : Addr).add j) = some u := by
  rw [vals_flat]
  have h1 := h.own
  have hS : n = S.length := by obtain ⟨a', cap', e, _⟩ := h.at; injection e
  subst hS
  rw [vals_flat] at h1
  exact row_take c1 1 c1_size h1 hb k
theorem IS.drop {g n cap : Nat} (h : IS n0 w W (.slice (some ⟨g, 0, none⟩) n cap) S) (hb : Below W.heap.size W W') (k : Nat) : ∀ j u, (vals (S.drop k))[j]? = some u → W'.cell? ((⟨g, k, none⟩ : Addr).add j) = some u := by
  rw [vals_flat]
  have h1 := h.own
  have hS : n = S.length := by obtain ⟨a', cap', e, _⟩ := h.at; injection e
  subst hS
  rw [vals_flat] at h1
  have := row_drop c1 1 c1_size h1 hb k
  rwa [Nat.mul_one] at this
end
/-- Where an id stands. -/
def AheadD (S : List Int) (x : Int) (k : Nat) : Prop := ∀ j, (hj : j < S.length) → j < k → S[j] < x
theorem ahead_zero (S : List Int) (x : Int) : AheadD S x 0 := fun j _ h => absurd h (by omega)
theorem ahead_next {S : List Int} {x : Int} {k : Nat} (h : AheadD S x k) (hk : k < S.length) (h1 : S[k] < x) : AheadD S x (k + 1) := fun j hj hjk => by
  by_cases h3 : j < k
  · exact h j hj h3
  · obtain rfl : j = k := by omega
    exact h1
theorem ins_at {x : Int} : ∀ {S : List Int} {k : Nat}, AheadD S x k → k ≤ S.length → (k = S.length ∨ ∃ h : k < S.length, ¬ S[k] < x) → insD x S = S.take k ++ [x] ++ S.drop k := by
  intro S
  induction S with
  | nil => intro k _ h _; simp at h; subst h; rfl
  | cons y S ih =>
    intro k hp hk he
    rw [ins_cons]
    cases k with
    | zero =>
      have : ¬ y < x := by
        rcases he with he | ⟨h, h1⟩
        · simp at he
        · simpa using h1
      rw [if_neg this]; rfl
    | succ k =>
      have h0 := hp 0 (by simp) (by omega)
      rw [List.getElem_cons_zero] at h0
      rw [if_pos h0, ih (k := k) (fun j hj hjk => by have := hp (j + 1) (by simpa using hj) (by omega); simpa using this) (by simpa using hk) (by
        rcases he with he | ⟨h, h1⟩
        · exact .inl (by simpa using he)
        · exact .inr ⟨by simpa using h, by simpa using h1⟩)]
      rfl
theorem ins_len (x : Int) (S : List Int) : (insD x S).length = S.length + 1 := by have := (ins_perm x S).length_eq; simpa using this
theorem openD_snoc (sym : Int) (l : List DRow) (r : DRow) : openD sym (l ++ [r]) = if openB sym r = true then insD r.id (openD sym l) else openD sym l := by
  unfold openD
  rw [List.filter_append, List.foldl_append]
  cases h : openB sym r <;> simp [h]
theorem openD_len (sym : Int) (l : List DRow) : (openD sym l).length ≤ l.length := by
  rw [open_rising, rising_len, List.length_map]
  exact List.length_filter_le _ _
def skipTo (sym : Int) (l : List DRow) (i : Nat) : Prop := openD sym (l.take (i + 1)) = openD sym (l.take i)
theorem vals_one (S : List Int) : ∀ u ∈ vals S, u.oneCell' = true := fun u hu => by
  obtain ⟨x, _, rfl⟩ := List.mem_map.1 hu
  rfl
set_option maxRecDepth 20000 in
set_option maxHeartbeats 4000000 in
theorem ropen_any (N R : Nat) (l es : List DRow) (v u : Value) (k1 : Int) (w : World) (h : RS N w R l es v u) (hls : l.length ≤ 1000) :
    Calls Try.prog 9 #[.pointer (some ⟨R, 0, none⟩), .int .i64 k1] w fun e w' => ∃ x, e = .returned x ∧ IS w.heap.size w w' x (openD k1 l) := by
  have HLT0 := Lib.hid h.box.lt
  obtain ⟨a, lcap, rfl, hc1, hc2, hat⟩ := owned_at DRow.cells 7 cells_size h.row
  have HC := Lib.hid (show ∀ W, Below w.heap.size w W → W.cell? ⟨R, 0, none⟩ = some (.slice a l.length lcap) ∧ ∀ i, (hi : i < l.length) → ∃ g, a = some ⟨g, 0, none⟩ ∧ g < w.heap.size ∧ W.rangeAt g (i * 7) l[i].cells.toList from fun W hb => by
    refine ⟨by rw [hb.cell (p := ⟨R, 0, none⟩) h.box.lt]; exact h.box.cell 0 rfl, fun i hi => ?_⟩
    obtain ⟨g, e1, e2, e3, e4⟩ := hat i hi
    exact ⟨g, e1, e3, fun j u hu => by rw [hb.cell (p := ⟨g, _, none⟩) e3]; exact e4 j u hu⟩)
  clear hat h
  unfold maxLen at hc2
  obtain ⟨i0, hi0, hz0, hz1, hz2⟩ : ∃ i0, Try.prog.info? 2 = some i0 ∧ i0.zero = some (.int .i64 0) ∧ i0.size = 1 ∧ i0.bytes = 8 := by
    have := infoI64
    cases h : Try.prog.info? 2 with
    | none => rw [h] at this; simp at this
    | some i => rw [h] at this; simp at this; exact ⟨i, rfl, this.1, this.2.1, this.2.2⟩
  go_enter Try.func9, Try.ntmps9
  go_wp2_with fail
  go_loopw [5, 6] (fun v i wr => ∃ k : Nat, k ≤ l.length ∧ i = .int .i64 k ∧ IS w.heap.size w wr v (openD k1 (l.take k))) (fun _ i _ => l.length - (intOf i).toNat)
  case atStart => exact ⟨0, by omega, rfl, ⟨World.ownsRow_nil _ _ _ _, Below.refl _ _, Nat.le_refl _, fun _ => rfl⟩⟩
  case round =>
    obtain ⟨i, hi, rfl, hos⟩ := hrel
    have H := Lib.hid hos
    clear hos
    obtain ⟨o0, hrows⟩ := HC.out wr H.out.bel
    by_cases hlt : i < l.length
    · obtain ⟨gl, rfl, hgl, hg⟩ := hrows i hlt
      have HLT := Lib.hid (And.intro hgl HLT0.out)
      have HO := Lib.hid (show ∀ W, Below w.heap.size w W → W.cell? ⟨R, 0, none⟩ = some (.slice (some ⟨gl, 0, none⟩) l.length lcap) ∧ W.cell? ⟨gl, i * 7 + 1, none⟩ = some (.int .i64 l[i].id) from fun W hb => by
        obtain ⟨e1, e2⟩ := HC.out W hb
        obtain ⟨g2, e3, e4, e5⟩ := e2 i hlt
        injection e3 with e3
        injection e3 with e3
        subst e3
        exact ⟨e1, e5 1 _ rfl⟩)
      have HT := Lib.hid (List.take_succ_eq_append_getElem hlt)
      have c0 : wr.cell? ⟨gl, i * 7, none⟩ = some (.int .i64 l[i].sym) := hg 0 _ rfl
      have o1 : wr.cell? ⟨gl, i * 7 + 1, none⟩ = some (.int .i64 l[i].id) := hg 1 _ rfl
      have c5 : wr.cell? ⟨gl, i * 7 + 5, none⟩ = some (.int .i64 l[i].a.rest) := hg 5 _ rfl
      have c6 : wr.cell? ⟨gl, i * 7 + 6, none⟩ = some (.bool l[i].old) := hg 6 _ rfl
      clear hrows hg hgl
      have hSL := openD_len k1 (l.take i)
      rw [List.length_take] at hSL
      generalize hx : l[i] = r at *
      clear hx
      obtain ⟨x1, x, ⟨y1, y2, y3, xr⟩, xo⟩ := r
      dsimp only at c0 o1 c5 c6
      have HL := Lib.hid (show openB k1 ⟨x1, x, ⟨y1, y2, y3, xr⟩, xo⟩ = ((x1 == k1 && !xo) && xr != 0) from rfl)
      have g0 : (0 : Int) ≤ (i : Int) := by omega
      have g1 : (i : Int) < (l.length : Int) := by omega
      by_cases h1 : x1 = k1
      · have b1 : (x1 != k1) = false := by simp [h1]
        have b1' : (x1 == k1) = true := by simp [h1]
        clear h1
        cases xo with
        | true =>
          have HN := Lib.hid (show openD k1 (l.take (i + 1)) = openD k1 (l.take i) by rw [HT.out, openD_snoc, HL.out]; rw [b1']; rfl)
          go_wp2_with fail
          go_roundw
          case rel => exact ⟨i + 1, by omega, by go_num, by rw [HN.out]; exact H.out⟩
          case measure => simp [intOf]; omega
        | false =>
          by_cases h2 : xr = 0
          · have b2 : (xr == 0) = true := by simp [h2]
            have b2' : (xr != 0) = false := by simp [h2]
            clear h2
            have HN := Lib.hid (show openD k1 (l.take (i + 1)) = openD k1 (l.take i) by rw [HT.out, openD_snoc, HL.out]; rw [b2', Bool.and_false]; rfl)
            go_wp2_with fail
            go_roundw
            case rel => exact ⟨i + 1, by omega, by go_num, by rw [HN.out]; exact H.out⟩
            case measure => simp [intOf]; omega
          · have b2 : (xr == 0) = false := by simp [h2]
            have b2' : (xr != 0) = true := by simp [h2]
            clear h2
            have HN := Lib.hid (show openD k1 (l.take (i + 1)) = insD x (openD k1 (l.take i)) by rw [HT.out, openD_snoc, HL.out, b1', b2']; rfl)
            generalize openD k1 (l.take i) = S at H HN hSL
            obtain ⟨va, vc, rfl, hvc, hvm, -⟩ := H.out.at
            unfold maxLen at hvm
            go_upto_block 2 with fail
            go_cut [7] (fun kv wx => ∃ k : Nat, kv = .int .i64 k ∧ k ≤ S.length ∧ AheadD S x k ∧ (k = S.length ∨ ∃ h : k < S.length, ¬ S[k] < x) ∧ IS w.heap.size w wx (.slice va S.length vc) S)
            case first =>
              go_wp2_with fail
              go_loopw [7] (fun kv wx => ∃ k : Nat, kv = .int .i64 k ∧ k ≤ S.length ∧ AheadD S x k ∧ IS w.heap.size w wx (.slice va S.length vc) S) (fun kv _ => S.length - (intOf kv).toNat)
              case atStart => exact ⟨0, rfl, by omega, ahead_zero _ _, H.out⟩
              case round =>
                clear H o0 o1 c0 c5 c6
                obtain ⟨k, rfl, hk, hp, hos⟩ := hrel
                have H := Lib.hid hos
                have HP := Lib.hid hp
                clear hos hp
                by_cases hlk : k < S.length
                · obtain ⟨g, rfl, hgn, hgw, hcell⟩ := H.out.row k hlk
                  obtain ⟨o0, o1⟩ := HO.out wr H.out.bel
                  have k0 : (0 : Int) ≤ (k : Int) := by omega
                  have k1 : (k : Int) < (S.length : Int) := by omega
                  have HNX := Lib.hid (ahead_next HP.out hlk)
                  have HEX := Lib.hid (show ¬ S[k] < x → (k = S.length ∨ ∃ h : k < S.length, ¬ S[k] < x) from fun h => .inr ⟨hlk, h⟩)
                  generalize S[k] = y at hcell HNX HEX
                  by_cases h1 : y < x
                  · have b3 : decide (y < x) = true := by simpa using h1
                    have HE := Lib.hid (HNX.out h1)
                    clear h1 HEX HNX
                    go_wp2_with fail
                    go_quiet (fail)
                    replace H := Lib.hid (H.out.drewN nq)
                    generalize wr.drewN nq = w2 at H ⊢
                    go_wp2_with fail
                    go_roundw
                    case rel => exact ⟨k + 1, by go_num, by omega, HE.out, H.out⟩
                    case measure => simp [intOf]; omega
                  · have b3 : decide (y < x) = false := by simpa using h1
                    have HE := Lib.hid (HEX.out h1)
                    clear h1 HEX HNX
                    go_wp2_with fail
                    go_quiet (fail)
                    replace H := Lib.hid (H.out.drewN nq)
                    generalize wr.drewN nq = w2 at H ⊢
                    go_wp2_with fail
                    go_meet
                    exact ⟨k, rfl, hk, HP.out, HE.out, H.out⟩
                · obtain rfl : k = S.length := by omega
                  go_wp2_with fail
                  go_quiet (fail)
                  replace H := Lib.hid (H.out.drewN nq)
                  generalize wr.drewN nq = w2 at H ⊢
                  go_wp2_with fail
                  go_meet
                  exact ⟨S.length, rfl, by omega, HP.out, .inl rfl, H.out⟩
            case rest =>
              clear H o0 o1 c0 c5 c6
              obtain ⟨k, rfl, hk, hp, hex, hos⟩ := hcut
              have H := Lib.hid hos
              have HIN := Lib.hid (ins_at hp hk hex)
              clear hos hp
              generalize wc = w2 at H ⊢
              by_cases hlk : k < S.length
              · obtain ⟨g, rfl, hgn, hgw, -⟩ := H.out.row k hlk
                have k0 : (0 : Int) ≤ (k : Int) := by omega
                have k1' : (k : Int) < (S.length : Int) := by omega
                have k2 : (k : Int) ≤ (vc : Int) := by omega
                have k3 : ¬ (vc = k) := by omega
                have k4 : ¬ ((vc : Int) = (k : Int)) := by omega
                clear hex
                obtain ⟨o0, o1⟩ := HO.out w2 H.out.bel
                replace H := Lib.hid H.out.drew
                go_upto_region 9 with fail
                refine wp_region_held_drew (S := (fun w' => w'.cell? ⟨R, 0, none⟩ = some (.slice (some ⟨gl, 0, none⟩) l.length lcap) ∧ w'.cell? ⟨gl, i * 7 + 1, none⟩ = some (.int .i64 x))) (by kernel_rfl) ⟨o0, o1⟩ (fun hHeld => ?_)
                generalize w2.drew = w3 at H hHeld ⊢
                have HOS := Lib.hid H.out
                obtain ⟨n0, hn0⟩ : ∃ n, n = w3.heap.size := ⟨_, rfl⟩
                have HSS := Lib.hid (show ∀ W, Below n0 w3 W → W.cell? ⟨R, 0, none⟩ = some (.slice (some ⟨gl, 0, none⟩) l.length lcap) ∧ W.cell? ⟨gl, i * 7 + 1, none⟩ = some (.int .i64 x) from fun W hb => by
                  have hlt : gl < n0 := by rw [hn0]; exact Nat.lt_of_lt_of_le HLT.out.1 HOS.out.le
                  have hlR : R < n0 := by rw [hn0]; exact Nat.lt_of_lt_of_le HLT.out.2 HOS.out.le
                  rw [hb.cell (p := ⟨R, _, none⟩) hlR, hb.cell (p := ⟨gl, _, none⟩) hlt]; exact hHeld)
                replace H := Lib.hid (show GA n0 2 1 w3 w3 none none from GA.start (Below.refl _ _) (by rw [hn0]; exact Nat.le_refl _))
                have HTL := Lib.hid (show (vals (S.take k)).length = k * 1 by rw [vals_len, List.length_take]; first | (rw [Nat.min_eq_left (by omega)]; omega) | simp)
                have HDL := Lib.hid (show (vals (S.drop k)).length = (S.length - k) * 1 by rw [vals_len, List.length_drop]; try simp)
                have HT1 := Lib.hid (vals_one (S.take k))
                have HD1 := Lib.hid (vals_one (S.drop k))
                have HLEN := Lib.hid (show k + 1 + (S.length - k) = (S.take k ++ [x] ++ S.drop k).length by simp; try omega)
                have HROW := Lib.hid (show vals (S.take k) ++ (c1 x).toList ++ vals (S.drop k) = vals (S.take k ++ [x] ++ S.drop k) by simp [vals, c1])
                have HNE := Lib.hid (show S.take k ++ [x] ++ S.drop k ≠ [] by simp)
                have HN0 := Lib.hid hn0
                clear hn0
                have HTS := Lib.hid (show ∀ W, 0 < k → Below n0 w3 W → ∃ ad : Addr, some (⟨g, 0, none⟩ : Addr) = some ad ∧ ∀ j u, (vals (S.take k))[j]? = some u → W.cell? (ad.add j) = some u from fun W _ hb => ⟨_, rfl, HOS.out.take (HN0.out ▸ hb) k⟩)
                have HDS := Lib.hid (show ∀ W, 0 < S.length - k → Below n0 w3 W → ∃ ad : Addr, some (⟨g, k, none⟩ : Addr) = some ad ∧ ∀ j u, (vals (S.drop k))[j]? = some u → W.cell? (ad.add j) = some u from fun W _ hb => ⟨_, rfl, HOS.out.drop (HN0.out ▸ hb) k⟩)
                refine wpAnyH_take (i := 1) (oi := ⟨some 71, _, _, _, _, _⟩) (v := ?_) rfl (by kernel_rfl) (by kernel_rfl) (by kernel_rfl) (fun _ _ _ h => h) (Or.inl ⟨by rfl, ?_⟩) (by assumption) ?_
                rotate_left
                · (intro w hSw; (try dsimp only at hSw); go_simp; (try with_reducible rfl))
                simp only [Act.put, List.setIfInBounds_toArray, List.set_cons_zero, List.set_cons_succ]
                refine wpAnyH_take (i := 2) (oi := ⟨some 72, _, _, _, _, _⟩) (v := ?_) rfl (by kernel_rfl) (by kernel_rfl) (by kernel_rfl) (fun _ _ _ h => h) (Or.inl ⟨by rfl, ?_⟩) (by assumption) ?_
                rotate_left
                · (intro w hSw; (try dsimp only at hSw); go_simp; (try with_reducible rfl))
                simp only [Act.put, List.setIfInBounds_toArray, List.set_cons_zero, List.set_cons_succ]
                refine wpAnyH_take (i := 3) (oi := ⟨some 73, _, _, _, _, _⟩) (v := ?_) rfl (by kernel_rfl) (by kernel_rfl) (by kernel_rfl) (fun _ _ _ h => h) (Or.inl ⟨by rfl, ?_⟩) (by assumption) ?_
                rotate_left
                · (intro w hSw; (try dsimp only at hSw); go_simp; (try with_reducible rfl))
                simp only [Act.put, List.setIfInBounds_toArray, List.set_cons_zero, List.set_cons_succ]
                refine wpAnyH_take (i := 5) (oi := ⟨some 75, _, _, _, _, _⟩) (v := ?_) rfl (by kernel_rfl) (by kernel_rfl) (by kernel_rfl) (fun _ _ _ h => h) (Or.inl ⟨by rfl, ?_⟩) (by assumption) ?_
                rotate_left
                · (intro w hSw; (try dsimp only at hSw); go_simp; (try with_reducible rfl))
                simp only [Act.put, List.setIfInBounds_toArray, List.set_cons_zero, List.set_cons_succ]
                refine wpAnyH_take (i := 6) (oi := ⟨some 76, _, _, _, _, _⟩) (v := ?_) rfl (by kernel_rfl) (by kernel_rfl) (by kernel_rfl) (fun _ _ _ h => h) (Or.inl ⟨by rfl, ?_⟩) (by assumption) ?_
                rotate_left
                · (intro w hSw; (try dsimp only at hSw); go_simp; (try with_reducible rfl))
                simp only [Act.put, List.setIfInBounds_toArray, List.set_cons_zero, List.set_cons_succ]
                refine wpAnyH_take (i := 7) (oi := ⟨some 77, _, _, _, _, _⟩) (v := ?_) rfl (by kernel_rfl) (by kernel_rfl) (by kernel_rfl) (fun _ _ _ h => h) (Or.inl ⟨by rfl, ?_⟩) (by assumption) ?_
                rotate_left
                · (intro w hSw; (try dsimp only at hSw); go_simp; (try with_reducible rfl))
                simp only [Act.put, List.setIfInBounds_toArray, List.set_cons_zero, List.set_cons_succ]
                refine wpAnyH_take (i := 8) (oi := ⟨some 78, _, _, _, _, _⟩) (v := ?_) rfl (by kernel_rfl) (by kernel_rfl) (by kernel_rfl) (fun _ _ _ h => h) (Or.inl ⟨by rfl, ?_⟩) (by assumption) ?_
                rotate_left
                · (intro w hSw; (try dsimp only at hSw); go_simp; (try with_reducible rfl))
                simp only [Act.put, List.setIfInBounds_toArray, List.set_cons_zero, List.set_cons_succ]
                refine wpAnyH_take (i := 9) (oi := ⟨some 79, _, _, _, _, _⟩) (v := ?_) rfl (by kernel_rfl) (by kernel_rfl) (by kernel_rfl) (fun _ _ _ h => h) (Or.inl ⟨by rfl, ?_⟩) (by assumption) ?_
                rotate_left
                · (intro w hSw; (try dsimp only at hSw); go_simp; (try with_reducible rfl))
                simp only [Act.put, List.setIfInBounds_toArray, List.set_cons_zero, List.set_cons_succ]
                refine wpAnyH_take (i := 10) (oi := ⟨some 80, _, _, _, _, _⟩) (v := ?_) rfl (by kernel_rfl) (by kernel_rfl) (by kernel_rfl) (fun _ _ _ h => h) (Or.inl ⟨by rfl, ?_⟩) (by assumption) ?_
                rotate_left
                · (intro w hSw; (try dsimp only at hSw); go_simp; (try with_reducible rfl))
                simp only [Act.put, List.setIfInBounds_toArray, List.set_cons_zero, List.set_cons_succ]
                refine wpAnyH_take (i := 11) (oi := ⟨some 81, _, _, _, _, _⟩) (v := ?_) rfl (by kernel_rfl) (by kernel_rfl) (by kernel_rfl) (fun _ _ _ h => h) (Or.inl ⟨by rfl, ?_⟩) (by assumption) ?_
                rotate_left
                · (intro w hSw; (try dsimp only at hSw); go_simp; (try with_reducible rfl))
                simp only [Act.put, List.setIfInBounds_toArray, List.set_cons_zero, List.set_cons_succ]
                refine wpAnyH_take (i := 12) (oi := ⟨some 82, _, _, _, _, _⟩) (v := ?_) rfl (by kernel_rfl) (by kernel_rfl) (by kernel_rfl) (fun _ _ _ h => h) (Or.inl ⟨by rfl, ?_⟩) (by assumption) ?_
                rotate_left
                · (intro w hSw; (try dsimp only at hSw); go_simp; (try with_reducible rfl))
                simp only [Act.put, List.setIfInBounds_toArray, List.set_cons_zero, List.set_cons_succ]
                refine wpAnyH_take (i := 15) (oi := ⟨some 85, _, _, _, _, _⟩) (v := ?_) rfl (by kernel_rfl) (by kernel_rfl) (by kernel_rfl) (fun _ _ _ h => h) (Or.inl ⟨by rfl, ?_⟩) (by assumption) ?_
                rotate_left
                · (intro w hSw; (try dsimp only at hSw); go_simp; (try with_reducible rfl))
                simp only [Act.put, List.setIfInBounds_toArray, List.set_cons_zero, List.set_cons_succ]
                refine wpAnyH_take (i := 16) (oi := ⟨some 86, _, _, _, _, _⟩) (v := ?_) rfl (by kernel_rfl) (by kernel_rfl) (by kernel_rfl) (fun _ _ _ h => h) (Or.inl ⟨by rfl, ?_⟩) (by assumption) ?_
                rotate_left
                · (intro w hSw; (try dsimp only at hSw); go_simp; (try with_reducible rfl))
                simp only [Act.put, List.setIfInBounds_toArray, List.set_cons_zero, List.set_cons_succ]
                refine wpAnyH_take (i := 17) (oi := ⟨some 87, _, _, _, _, _⟩) (v := ?_) rfl (by kernel_rfl) (by kernel_rfl) (by kernel_rfl) (fun _ _ _ h => h) (Or.inl ⟨by rfl, ?_⟩) (by assumption) ?_
                rotate_left
                · (intro w hSw; (try dsimp only at hSw); go_simp; (try with_reducible rfl))
                simp only [Act.put, List.setIfInBounds_toArray, List.set_cons_zero, List.set_cons_succ]
                refine wpAnyH_ready (rs := [0, 13]) (by kernel_rfl) (by simp) ?_
                refine AllReadyH.cons (o := ⟨some 70, _, _, _, _, _⟩) rfl (fun KK hK => ?_) (AllReadyH.cons (o := ⟨some 83, _, _, _, _, _⟩) rfl (fun KK hK => ?_) (AllReadyH.nil))
                · go_simp
                  change KK _ (w3.alloc (.cells #[] 2))
                  replace H := Lib.hid H.out.empty
                  generalize w3.alloc (.cells #[] 2) = WX1 at H ⊢
                  generalize w3.heap.size = e1 at H ⊢
                  refine hK.out _ _ (HSS.out _ H.out.bel) (fun hHeld => ?_)
                  clear hK; try clear KK
                  try simp only [Act.put, List.setIfInBounds_toArray, List.set_cons_zero, List.set_cons_succ]
                  refine wpAnyH_ready (rs := [4, 13]) (by kernel_rfl) (by simp) ?_
                  refine AllReadyH.cons (o := ⟨some 74, _, _, _, _, _⟩) rfl (fun KK hK => ?_) (AllReadyH.cons (o := ⟨some 83, _, _, _, _, _⟩) rfl (fun KK hK => ?_) (AllReadyH.nil))
                  · refine GA.src H.out (by rfl) _ _ _ (by rfl) i0 (.int .i64 0) 8 Try.underlying34 hi0 hz0 hz1 hz2 (by rfl) (by decide) (by rfl) _ _ _ _ (by rfl) HTL.out (fun hm => HTS.out _ hm H.out.bel) HT1.out (by unfold maxLen; omega) (by omega) ?_
                    intro g1 cap1 WX2 H'
                    rw [Nat.zero_add, List.nil_append] at H'
                    rw [Nat.zero_add]
                    replace H := Lib.hid H'
                    clear H'
                    refine hK.out _ _ (HSS.out _ H.out.bel) (fun hHeld => ?_)
                    clear hK; try clear KK
                    try simp only [Act.put, List.setIfInBounds_toArray, List.set_cons_zero, List.set_cons_succ]
                    refine wpAnyH_ready (rs := [13]) (by kernel_rfl) (by simp) ?_
                    refine AllReadyH.cons (o := ⟨some 83, _, _, _, _, _⟩) rfl (fun KK hK => ?_) AllReadyH.nil
                    go_simp
                    change KK _ (WX2.alloc (.cells (c1 x) 2))
                    replace H := Lib.hid (H.out.new (c1 x))
                    generalize WX2.alloc (.cells (c1 x) 2) = WX3 at H ⊢
                    generalize WX2.heap.size = nb1 at H ⊢
                    refine hK.out _ _ (HSS.out _ H.out.bel) (fun hHeld => ?_)
                    clear hK; try clear KK
                    try simp only [Act.put, List.setIfInBounds_toArray, List.set_cons_zero, List.set_cons_succ]
                    refine wpAnyH_ready (rs := [14]) (by kernel_rfl) (by simp) ?_
                    refine AllReadyH.cons (o := ⟨some 84, _, _, _, _, _⟩) rfl (fun KK hK => ?_) AllReadyH.nil
                    refine GA.app H.out (by rfl) _ _ _ (by rfl) i0 (.int .i64 0) 8 Try.underlying34 hi0 hz0 hz1 hz2 (by rfl) (by decide) (by rfl) (by rfl) (c1_size _) (one_i64 x) (by unfold maxLen; omega) (by omega) ?_
                    intro g2 cap2 WX4 H'
                    replace H := Lib.hid H'
                    clear H'
                    refine hK.out _ _ (HSS.out _ H.out.bel) (fun hHeld => ?_)
                    clear hK; try clear KK
                    try simp only [Act.put, List.setIfInBounds_toArray, List.set_cons_zero, List.set_cons_succ]
                    refine wpAnyH_ready (rs := [18]) (by kernel_rfl) (by simp) ?_
                    refine AllReadyH.cons (o := ⟨some 88, _, _, _, _, _⟩) rfl (fun KK hK => ?_) AllReadyH.nil
                    refine GA.src H.out (by rfl) _ _ _ (by rfl) i0 (.int .i64 0) 8 Try.underlying34 hi0 hz0 hz1 hz2 (by rfl) (by decide) (by rfl) _ _ _ _ (by rfl) HDL.out (fun hm => HDS.out _ hm H.out.bel) HD1.out (by unfold maxLen; omega) (by omega) ?_
                    intro g3 cap3 WX5 H'
                    replace H := Lib.hid H'
                    clear H'
                    refine hK.out _ _ (HSS.out _ H.out.bel) (fun hHeld => ?_)
                    clear hK; try clear KK
                    try simp only [Act.put, List.setIfInBounds_toArray, List.set_cons_zero, List.set_cons_succ]
                    refine wpAnyH_take (i := 19) (oi := ⟨some 5, _, _, _, _, _⟩) (v := ?_) rfl (by kernel_rfl) (by kernel_rfl) (by kernel_rfl) (fun _ _ _ h => h) (Or.inl ⟨by rfl, ?_⟩) (by assumption) ?_
                    rotate_left
                    · (intro w hSw; (try dsimp only at hSw); go_simp; (try with_reducible rfl))
                    simp only [Act.put, List.setIfInBounds_toArray, List.set_cons_zero, List.set_cons_succ]
                    refine wpAnyH_done (by kernel_rfl) ?_ _
                    replace H := Lib.hid (HOS.out.grown (HN0.out ▸ H.out) HLEN.out HROW.out HNE.out)
                    clear HOS
                    go_wp2_with fail
                    go_roundw
                    case rel => exact ⟨i + 1, by omega, by go_num, by rw [HN.out, HIN.out]; exact H.out⟩
                    case measure => simp [intOf]; omega
                  · go_simp
                    change KK _ (WX1.alloc (.cells (c1 x) 2))
                    replace H := Lib.hid (H.out.new (c1 x))
                    generalize WX1.alloc (.cells (c1 x) 2) = WX6 at H ⊢
                    generalize WX1.heap.size = nb1 at H ⊢
                    refine hK.out _ _ (HSS.out _ H.out.bel) (fun hHeld => ?_)
                    clear hK; try clear KK
                    try simp only [Act.put, List.setIfInBounds_toArray, List.set_cons_zero, List.set_cons_succ]
                    refine wpAnyH_ready (rs := [4]) (by kernel_rfl) (by simp) ?_
                    refine AllReadyH.cons (o := ⟨some 74, _, _, _, _, _⟩) rfl (fun KK hK => ?_) AllReadyH.nil
                    refine GA.src H.out (by rfl) _ _ _ (by rfl) i0 (.int .i64 0) 8 Try.underlying34 hi0 hz0 hz1 hz2 (by rfl) (by decide) (by rfl) _ _ _ _ (by rfl) HTL.out (fun hm => HTS.out _ hm H.out.bel) HT1.out (by unfold maxLen; omega) (by omega) ?_
                    intro g1 cap1 WX7 H'
                    rw [Nat.zero_add, List.nil_append] at H'
                    rw [Nat.zero_add]
                    replace H := Lib.hid H'
                    clear H'
                    refine hK.out _ _ (HSS.out _ H.out.bel) (fun hHeld => ?_)
                    clear hK; try clear KK
                    try simp only [Act.put, List.setIfInBounds_toArray, List.set_cons_zero, List.set_cons_succ]
                    refine wpAnyH_ready (rs := [14]) (by kernel_rfl) (by simp) ?_
                    refine AllReadyH.cons (o := ⟨some 84, _, _, _, _, _⟩) rfl (fun KK hK => ?_) AllReadyH.nil
                    refine GA.app H.out (by rfl) _ _ _ (by rfl) i0 (.int .i64 0) 8 Try.underlying34 hi0 hz0 hz1 hz2 (by rfl) (by decide) (by rfl) (by rfl) (c1_size _) (one_i64 x) (by unfold maxLen; omega) (by omega) ?_
                    intro g2 cap2 WX8 H'
                    replace H := Lib.hid H'
                    clear H'
                    refine hK.out _ _ (HSS.out _ H.out.bel) (fun hHeld => ?_)
                    clear hK; try clear KK
                    try simp only [Act.put, List.setIfInBounds_toArray, List.set_cons_zero, List.set_cons_succ]
                    refine wpAnyH_ready (rs := [18]) (by kernel_rfl) (by simp) ?_
                    refine AllReadyH.cons (o := ⟨some 88, _, _, _, _, _⟩) rfl (fun KK hK => ?_) AllReadyH.nil
                    refine GA.src H.out (by rfl) _ _ _ (by rfl) i0 (.int .i64 0) 8 Try.underlying34 hi0 hz0 hz1 hz2 (by rfl) (by decide) (by rfl) _ _ _ _ (by rfl) HDL.out (fun hm => HDS.out _ hm H.out.bel) HD1.out (by unfold maxLen; omega) (by omega) ?_
                    intro g3 cap3 WX9 H'
                    replace H := Lib.hid H'
                    clear H'
                    refine hK.out _ _ (HSS.out _ H.out.bel) (fun hHeld => ?_)
                    clear hK; try clear KK
                    try simp only [Act.put, List.setIfInBounds_toArray, List.set_cons_zero, List.set_cons_succ]
                    refine wpAnyH_take (i := 19) (oi := ⟨some 5, _, _, _, _, _⟩) (v := ?_) rfl (by kernel_rfl) (by kernel_rfl) (by kernel_rfl) (fun _ _ _ h => h) (Or.inl ⟨by rfl, ?_⟩) (by assumption) ?_
                    rotate_left
                    · (intro w hSw; (try dsimp only at hSw); go_simp; (try with_reducible rfl))
                    simp only [Act.put, List.setIfInBounds_toArray, List.set_cons_zero, List.set_cons_succ]
                    refine wpAnyH_done (by kernel_rfl) ?_ _
                    replace H := Lib.hid (HOS.out.grown (HN0.out ▸ H.out) HLEN.out HROW.out HNE.out)
                    clear HOS
                    go_wp2_with fail
                    go_roundw
                    case rel => exact ⟨i + 1, by omega, by go_num, by rw [HN.out, HIN.out]; exact H.out⟩
                    case measure => simp [intOf]; omega
                · go_simp
                  change KK _ (w3.alloc (.cells (c1 x) 2))
                  replace H := Lib.hid (H.out.new (c1 x))
                  generalize w3.alloc (.cells (c1 x) 2) = WX10 at H ⊢
                  generalize w3.heap.size = nb1 at H ⊢
                  refine hK.out _ _ (HSS.out _ H.out.bel) (fun hHeld => ?_)
                  clear hK; try clear KK
                  try simp only [Act.put, List.setIfInBounds_toArray, List.set_cons_zero, List.set_cons_succ]
                  refine wpAnyH_ready (rs := [0]) (by kernel_rfl) (by simp) ?_
                  refine AllReadyH.cons (o := ⟨some 70, _, _, _, _, _⟩) rfl (fun KK hK => ?_) AllReadyH.nil
                  go_simp
                  change KK _ (WX10.alloc (.cells #[] 2))
                  replace H := Lib.hid H.out.empty
                  generalize WX10.alloc (.cells #[] 2) = WX11 at H ⊢
                  generalize WX10.heap.size = e1 at H ⊢
                  refine hK.out _ _ (HSS.out _ H.out.bel) (fun hHeld => ?_)
                  clear hK; try clear KK
                  try simp only [Act.put, List.setIfInBounds_toArray, List.set_cons_zero, List.set_cons_succ]
                  refine wpAnyH_ready (rs := [4]) (by kernel_rfl) (by simp) ?_
                  refine AllReadyH.cons (o := ⟨some 74, _, _, _, _, _⟩) rfl (fun KK hK => ?_) AllReadyH.nil
                  refine GA.src H.out (by rfl) _ _ _ (by rfl) i0 (.int .i64 0) 8 Try.underlying34 hi0 hz0 hz1 hz2 (by rfl) (by decide) (by rfl) _ _ _ _ (by rfl) HTL.out (fun hm => HTS.out _ hm H.out.bel) HT1.out (by unfold maxLen; omega) (by omega) ?_
                  intro g1 cap1 WX12 H'
                  rw [Nat.zero_add, List.nil_append] at H'
                  rw [Nat.zero_add]
                  replace H := Lib.hid H'
                  clear H'
                  refine hK.out _ _ (HSS.out _ H.out.bel) (fun hHeld => ?_)
                  clear hK; try clear KK
                  try simp only [Act.put, List.setIfInBounds_toArray, List.set_cons_zero, List.set_cons_succ]
                  refine wpAnyH_ready (rs := [14]) (by kernel_rfl) (by simp) ?_
                  refine AllReadyH.cons (o := ⟨some 84, _, _, _, _, _⟩) rfl (fun KK hK => ?_) AllReadyH.nil
                  refine GA.app H.out (by rfl) _ _ _ (by rfl) i0 (.int .i64 0) 8 Try.underlying34 hi0 hz0 hz1 hz2 (by rfl) (by decide) (by rfl) (by rfl) (c1_size _) (one_i64 x) (by unfold maxLen; omega) (by omega) ?_
                  intro g2 cap2 WX13 H'
                  replace H := Lib.hid H'
                  clear H'
                  refine hK.out _ _ (HSS.out _ H.out.bel) (fun hHeld => ?_)
                  clear hK; try clear KK
                  try simp only [Act.put, List.setIfInBounds_toArray, List.set_cons_zero, List.set_cons_succ]
                  refine wpAnyH_ready (rs := [18]) (by kernel_rfl) (by simp) ?_
                  refine AllReadyH.cons (o := ⟨some 88, _, _, _, _, _⟩) rfl (fun KK hK => ?_) AllReadyH.nil
                  refine GA.src H.out (by rfl) _ _ _ (by rfl) i0 (.int .i64 0) 8 Try.underlying34 hi0 hz0 hz1 hz2 (by rfl) (by decide) (by rfl) _ _ _ _ (by rfl) HDL.out (fun hm => HDS.out _ hm H.out.bel) HD1.out (by unfold maxLen; omega) (by omega) ?_
                  intro g3 cap3 WX14 H'
                  replace H := Lib.hid H'
                  clear H'
                  refine hK.out _ _ (HSS.out _ H.out.bel) (fun hHeld => ?_)
                  clear hK; try clear KK
                  try simp only [Act.put, List.setIfInBounds_toArray, List.set_cons_zero, List.set_cons_succ]
                  refine wpAnyH_take (i := 19) (oi := ⟨some 5, _, _, _, _, _⟩) (v := ?_) rfl (by kernel_rfl) (by kernel_rfl) (by kernel_rfl) (fun _ _ _ h => h) (Or.inl ⟨by rfl, ?_⟩) (by assumption) ?_
                  rotate_left
                  · (intro w hSw; (try dsimp only at hSw); go_simp; (try with_reducible rfl))
                  simp only [Act.put, List.setIfInBounds_toArray, List.set_cons_zero, List.set_cons_succ]
                  refine wpAnyH_done (by kernel_rfl) ?_ _
                  replace H := Lib.hid (HOS.out.grown (HN0.out ▸ H.out) HLEN.out HROW.out HNE.out)
                  clear HOS
                  go_wp2_with fail
                  go_roundw
                  case rel => exact ⟨i + 1, by omega, by go_num, by rw [HN.out, HIN.out]; exact H.out⟩
                  case measure => simp [intOf]; omega
              · obtain rfl : k = S.length := by omega
                clear hex
                by_cases hS : S = []
                · subst hS
                  have hv := H.out.nil rfl
                  injection hv with e1 e2 e3
                  subst e1 e3
                  dsimp only [List.length_nil] at *
                  obtain ⟨o0, o1⟩ := HO.out w2 H.out.bel
                  replace H := Lib.hid H.out.drew
                  go_upto_region 9 with fail
                  refine wp_region_held_drew (S := (fun w' => w'.cell? ⟨R, 0, none⟩ = some (.slice (some ⟨gl, 0, none⟩) l.length lcap) ∧ w'.cell? ⟨gl, i * 7 + 1, none⟩ = some (.int .i64 x))) (by kernel_rfl) ⟨o0, o1⟩ (fun hHeld => ?_)
                  generalize w2.drew = w3 at H hHeld ⊢
                  have HOS := Lib.hid H.out
                  obtain ⟨n0, hn0⟩ : ∃ n, n = w3.heap.size := ⟨_, rfl⟩
                  have HSS := Lib.hid (show ∀ W, Below n0 w3 W → W.cell? ⟨R, 0, none⟩ = some (.slice (some ⟨gl, 0, none⟩) l.length lcap) ∧ W.cell? ⟨gl, i * 7 + 1, none⟩ = some (.int .i64 x) from fun W hb => by
                    have hlt : gl < n0 := by rw [hn0]; exact Nat.lt_of_lt_of_le HLT.out.1 HOS.out.le
                    have hlR : R < n0 := by rw [hn0]; exact Nat.lt_of_lt_of_le HLT.out.2 HOS.out.le
                    rw [hb.cell (p := ⟨R, _, none⟩) hlR, hb.cell (p := ⟨gl, _, none⟩) hlt]; exact hHeld)
                  replace H := Lib.hid (show GA n0 2 1 w3 w3 none none from GA.start (Below.refl _ _) (by rw [hn0]; exact Nat.le_refl _))
                  have HTL := Lib.hid (show (vals (([] : List Int).take 0)).length = 0 * 1 by rw [vals_len, List.length_take]; first | (rw [Nat.min_eq_left (by omega)]; omega) | simp)
                  have HDL := Lib.hid (show (vals (([] : List Int).drop 0)).length = (0) * 1 by rw [vals_len, List.length_drop]; try simp)
                  have HT1 := Lib.hid (vals_one (([] : List Int).take 0))
                  have HD1 := Lib.hid (vals_one (([] : List Int).drop 0))
                  have HLEN := Lib.hid (show 0 + 1 + (0) = (([] : List Int).take 0 ++ [x] ++ ([] : List Int).drop 0).length by simp; try omega)
                  have HROW := Lib.hid (show vals (([] : List Int).take 0) ++ (c1 x).toList ++ vals (([] : List Int).drop 0) = vals (([] : List Int).take 0 ++ [x] ++ ([] : List Int).drop 0) by simp [vals, c1])
                  have HNE := Lib.hid (show ([] : List Int).take 0 ++ [x] ++ ([] : List Int).drop 0 ≠ [] by simp)
                  have HN0 := Lib.hid hn0
                  clear hn0
                  have HTS := Lib.hid (show ∀ W, 0 < 0 → Below n0 w3 W → ∃ ad : Addr, (none : Option Addr) = some ad ∧ ∀ j u, (vals (([] : List Int).take 0))[j]? = some u → W.cell? (ad.add j) = some u from fun W h => absurd h (by omega))
                  have HDS := Lib.hid (show ∀ W, 0 < 0 → Below n0 w3 W → ∃ ad : Addr, (none : Option Addr) = some ad ∧ ∀ j u, (vals (([] : List Int).drop 0))[j]? = some u → W.cell? (ad.add j) = some u from fun W h => absurd h (by omega))
                  refine wpAnyH_take (i := 1) (oi := ⟨some 71, _, _, _, _, _⟩) (v := ?_) rfl (by kernel_rfl) (by kernel_rfl) (by kernel_rfl) (fun _ _ _ h => h) (Or.inl ⟨by rfl, ?_⟩) (by assumption) ?_
                  rotate_left
                  · (intro w hSw; (try dsimp only at hSw); go_simp; (try with_reducible rfl))
                  simp only [Act.put, List.setIfInBounds_toArray, List.set_cons_zero, List.set_cons_succ]
                  refine wpAnyH_take (i := 2) (oi := ⟨some 72, _, _, _, _, _⟩) (v := ?_) rfl (by kernel_rfl) (by kernel_rfl) (by kernel_rfl) (fun _ _ _ h => h) (Or.inl ⟨by rfl, ?_⟩) (by assumption) ?_
                  rotate_left
                  · (intro w hSw; (try dsimp only at hSw); go_simp; (try with_reducible rfl))
                  simp only [Act.put, List.setIfInBounds_toArray, List.set_cons_zero, List.set_cons_succ]
                  refine wpAnyH_take (i := 3) (oi := ⟨some 73, _, _, _, _, _⟩) (v := ?_) rfl (by kernel_rfl) (by kernel_rfl) (by kernel_rfl) (fun _ _ _ h => h) (Or.inl ⟨by rfl, ?_⟩) (by assumption) ?_
                  rotate_left
                  · (intro w hSw; (try dsimp only at hSw); go_simp; (try with_reducible rfl))
                  simp only [Act.put, List.setIfInBounds_toArray, List.set_cons_zero, List.set_cons_succ]
                  refine wpAnyH_take (i := 5) (oi := ⟨some 75, _, _, _, _, _⟩) (v := ?_) rfl (by kernel_rfl) (by kernel_rfl) (by kernel_rfl) (fun _ _ _ h => h) (Or.inl ⟨by rfl, ?_⟩) (by assumption) ?_
                  rotate_left
                  · (intro w hSw; (try dsimp only at hSw); go_simp; (try with_reducible rfl))
                  simp only [Act.put, List.setIfInBounds_toArray, List.set_cons_zero, List.set_cons_succ]
                  refine wpAnyH_take (i := 6) (oi := ⟨some 76, _, _, _, _, _⟩) (v := ?_) rfl (by kernel_rfl) (by kernel_rfl) (by kernel_rfl) (fun _ _ _ h => h) (Or.inl ⟨by rfl, ?_⟩) (by assumption) ?_
                  rotate_left
                  · (intro w hSw; (try dsimp only at hSw); go_simp; (try with_reducible rfl))
                  simp only [Act.put, List.setIfInBounds_toArray, List.set_cons_zero, List.set_cons_succ]
                  refine wpAnyH_take (i := 7) (oi := ⟨some 77, _, _, _, _, _⟩) (v := ?_) rfl (by kernel_rfl) (by kernel_rfl) (by kernel_rfl) (fun _ _ _ h => h) (Or.inl ⟨by rfl, ?_⟩) (by assumption) ?_
                  rotate_left
                  · (intro w hSw; (try dsimp only at hSw); go_simp; (try with_reducible rfl))
                  simp only [Act.put, List.setIfInBounds_toArray, List.set_cons_zero, List.set_cons_succ]
                  refine wpAnyH_take (i := 8) (oi := ⟨some 78, _, _, _, _, _⟩) (v := ?_) rfl (by kernel_rfl) (by kernel_rfl) (by kernel_rfl) (fun _ _ _ h => h) (Or.inl ⟨by rfl, ?_⟩) (by assumption) ?_
                  rotate_left
                  · (intro w hSw; (try dsimp only at hSw); go_simp; (try with_reducible rfl))
                  simp only [Act.put, List.setIfInBounds_toArray, List.set_cons_zero, List.set_cons_succ]
                  refine wpAnyH_take (i := 9) (oi := ⟨some 79, _, _, _, _, _⟩) (v := ?_) rfl (by kernel_rfl) (by kernel_rfl) (by kernel_rfl) (fun _ _ _ h => h) (Or.inl ⟨by rfl, ?_⟩) (by assumption) ?_
                  rotate_left
                  · (intro w hSw; (try dsimp only at hSw); go_simp; (try with_reducible rfl))
                  simp only [Act.put, List.setIfInBounds_toArray, List.set_cons_zero, List.set_cons_succ]
                  refine wpAnyH_take (i := 10) (oi := ⟨some 80, _, _, _, _, _⟩) (v := ?_) rfl (by kernel_rfl) (by kernel_rfl) (by kernel_rfl) (fun _ _ _ h => h) (Or.inl ⟨by rfl, ?_⟩) (by assumption) ?_
                  rotate_left
                  · (intro w hSw; (try dsimp only at hSw); go_simp; (try with_reducible rfl))
                  simp only [Act.put, List.setIfInBounds_toArray, List.set_cons_zero, List.set_cons_succ]
                  refine wpAnyH_take (i := 11) (oi := ⟨some 81, _, _, _, _, _⟩) (v := ?_) rfl (by kernel_rfl) (by kernel_rfl) (by kernel_rfl) (fun _ _ _ h => h) (Or.inl ⟨by rfl, ?_⟩) (by assumption) ?_
                  rotate_left
                  · (intro w hSw; (try dsimp only at hSw); go_simp; (try with_reducible rfl))
                  simp only [Act.put, List.setIfInBounds_toArray, List.set_cons_zero, List.set_cons_succ]
                  refine wpAnyH_take (i := 12) (oi := ⟨some 82, _, _, _, _, _⟩) (v := ?_) rfl (by kernel_rfl) (by kernel_rfl) (by kernel_rfl) (fun _ _ _ h => h) (Or.inl ⟨by rfl, ?_⟩) (by assumption) ?_
                  rotate_left
                  · (intro w hSw; (try dsimp only at hSw); go_simp; (try with_reducible rfl))
                  simp only [Act.put, List.setIfInBounds_toArray, List.set_cons_zero, List.set_cons_succ]
                  refine wpAnyH_take (i := 15) (oi := ⟨some 85, _, _, _, _, _⟩) (v := ?_) rfl (by kernel_rfl) (by kernel_rfl) (by kernel_rfl) (fun _ _ _ h => h) (Or.inl ⟨by rfl, ?_⟩) (by assumption) ?_
                  rotate_left
                  · (intro w hSw; (try dsimp only at hSw); go_simp; (try with_reducible rfl))
                  simp only [Act.put, List.setIfInBounds_toArray, List.set_cons_zero, List.set_cons_succ]
                  refine wpAnyH_take (i := 16) (oi := ⟨some 86, _, _, _, _, _⟩) (v := ?_) rfl (by kernel_rfl) (by kernel_rfl) (by kernel_rfl) (fun _ _ _ h => h) (Or.inl ⟨by rfl, ?_⟩) (by assumption) ?_
                  rotate_left
                  · (intro w hSw; (try dsimp only at hSw); go_simp; (try with_reducible rfl))
                  simp only [Act.put, List.setIfInBounds_toArray, List.set_cons_zero, List.set_cons_succ]
                  refine wpAnyH_take (i := 17) (oi := ⟨some 87, _, _, _, _, _⟩) (v := ?_) rfl (by kernel_rfl) (by kernel_rfl) (by kernel_rfl) (fun _ _ _ h => h) (Or.inl ⟨by rfl, ?_⟩) (by assumption) ?_
                  rotate_left
                  · (intro w hSw; (try dsimp only at hSw); go_simp; (try with_reducible rfl))
                  simp only [Act.put, List.setIfInBounds_toArray, List.set_cons_zero, List.set_cons_succ]
                  refine wpAnyH_ready (rs := [0, 13]) (by kernel_rfl) (by simp) ?_
                  refine AllReadyH.cons (o := ⟨some 70, _, _, _, _, _⟩) rfl (fun KK hK => ?_) (AllReadyH.cons (o := ⟨some 83, _, _, _, _, _⟩) rfl (fun KK hK => ?_) (AllReadyH.nil))
                  · go_simp
                    change KK _ (w3.alloc (.cells #[] 2))
                    replace H := Lib.hid H.out.empty
                    generalize w3.alloc (.cells #[] 2) = WX1 at H ⊢
                    generalize w3.heap.size = e1 at H ⊢
                    refine hK.out _ _ (HSS.out _ H.out.bel) (fun hHeld => ?_)
                    clear hK; try clear KK
                    try simp only [Act.put, List.setIfInBounds_toArray, List.set_cons_zero, List.set_cons_succ]
                    refine wpAnyH_ready (rs := [4, 13]) (by kernel_rfl) (by simp) ?_
                    refine AllReadyH.cons (o := ⟨some 74, _, _, _, _, _⟩) rfl (fun KK hK => ?_) (AllReadyH.cons (o := ⟨some 83, _, _, _, _, _⟩) rfl (fun KK hK => ?_) (AllReadyH.nil))
                    · refine GA.src H.out (by rfl) _ _ _ (by rfl) i0 (.int .i64 0) 8 Try.underlying34 hi0 hz0 hz1 hz2 (by rfl) (by decide) (by rfl) _ _ _ _ (by rfl) HTL.out (fun hm => HTS.out _ hm H.out.bel) HT1.out (by unfold maxLen; omega) (by omega) ?_
                      intro g1 cap1 WX2 H'
                      rw [Nat.zero_add, List.nil_append] at H'
                      rw [Nat.zero_add]
                      replace H := Lib.hid H'
                      clear H'
                      refine hK.out _ _ (HSS.out _ H.out.bel) (fun hHeld => ?_)
                      clear hK; try clear KK
                      try simp only [Act.put, List.setIfInBounds_toArray, List.set_cons_zero, List.set_cons_succ]
                      refine wpAnyH_ready (rs := [13]) (by kernel_rfl) (by simp) ?_
                      refine AllReadyH.cons (o := ⟨some 83, _, _, _, _, _⟩) rfl (fun KK hK => ?_) AllReadyH.nil
                      go_simp
                      change KK _ (WX2.alloc (.cells (c1 x) 2))
                      replace H := Lib.hid (H.out.new (c1 x))
                      generalize WX2.alloc (.cells (c1 x) 2) = WX3 at H ⊢
                      generalize WX2.heap.size = nb1 at H ⊢
                      refine hK.out _ _ (HSS.out _ H.out.bel) (fun hHeld => ?_)
                      clear hK; try clear KK
                      try simp only [Act.put, List.setIfInBounds_toArray, List.set_cons_zero, List.set_cons_succ]
                      refine wpAnyH_ready (rs := [14]) (by kernel_rfl) (by simp) ?_
                      refine AllReadyH.cons (o := ⟨some 84, _, _, _, _, _⟩) rfl (fun KK hK => ?_) AllReadyH.nil
                      refine GA.app H.out (by rfl) _ _ _ (by rfl) i0 (.int .i64 0) 8 Try.underlying34 hi0 hz0 hz1 hz2 (by rfl) (by decide) (by rfl) (by rfl) (c1_size _) (one_i64 x) (by unfold maxLen; omega) (by omega) ?_
                      intro g2 cap2 WX4 H'
                      replace H := Lib.hid H'
                      clear H'
                      refine hK.out _ _ (HSS.out _ H.out.bel) (fun hHeld => ?_)
                      clear hK; try clear KK
                      try simp only [Act.put, List.setIfInBounds_toArray, List.set_cons_zero, List.set_cons_succ]
                      refine wpAnyH_ready (rs := [18]) (by kernel_rfl) (by simp) ?_
                      refine AllReadyH.cons (o := ⟨some 88, _, _, _, _, _⟩) rfl (fun KK hK => ?_) AllReadyH.nil
                      refine GA.src H.out (by rfl) _ _ _ (by rfl) i0 (.int .i64 0) 8 Try.underlying34 hi0 hz0 hz1 hz2 (by rfl) (by decide) (by rfl) _ _ _ _ (by rfl) HDL.out (fun hm => HDS.out _ hm H.out.bel) HD1.out (by unfold maxLen; omega) (by omega) ?_
                      intro g3 cap3 WX5 H'
                      replace H := Lib.hid H'
                      clear H'
                      refine hK.out _ _ (HSS.out _ H.out.bel) (fun hHeld => ?_)
                      clear hK; try clear KK
                      try simp only [Act.put, List.setIfInBounds_toArray, List.set_cons_zero, List.set_cons_succ]
                      refine wpAnyH_take (i := 19) (oi := ⟨some 5, _, _, _, _, _⟩) (v := ?_) rfl (by kernel_rfl) (by kernel_rfl) (by kernel_rfl) (fun _ _ _ h => h) (Or.inl ⟨by rfl, ?_⟩) (by assumption) ?_
                      rotate_left
                      · (intro w hSw; (try dsimp only at hSw); go_simp; (try with_reducible rfl))
                      simp only [Act.put, List.setIfInBounds_toArray, List.set_cons_zero, List.set_cons_succ]
                      refine wpAnyH_done (by kernel_rfl) ?_ _
                      replace H := Lib.hid (HOS.out.grown (HN0.out ▸ H.out) HLEN.out HROW.out HNE.out)
                      clear HOS
                      go_wp2_with fail
                      go_roundw
                      case rel => exact ⟨i + 1, by omega, by go_num, by rw [HN.out, HIN.out]; exact H.out⟩
                      case measure => simp [intOf]; omega
                    · go_simp
                      change KK _ (WX1.alloc (.cells (c1 x) 2))
                      replace H := Lib.hid (H.out.new (c1 x))
                      generalize WX1.alloc (.cells (c1 x) 2) = WX6 at H ⊢
                      generalize WX1.heap.size = nb1 at H ⊢
                      refine hK.out _ _ (HSS.out _ H.out.bel) (fun hHeld => ?_)
                      clear hK; try clear KK
                      try simp only [Act.put, List.setIfInBounds_toArray, List.set_cons_zero, List.set_cons_succ]
                      refine wpAnyH_ready (rs := [4]) (by kernel_rfl) (by simp) ?_
                      refine AllReadyH.cons (o := ⟨some 74, _, _, _, _, _⟩) rfl (fun KK hK => ?_) AllReadyH.nil
                      refine GA.src H.out (by rfl) _ _ _ (by rfl) i0 (.int .i64 0) 8 Try.underlying34 hi0 hz0 hz1 hz2 (by rfl) (by decide) (by rfl) _ _ _ _ (by rfl) HTL.out (fun hm => HTS.out _ hm H.out.bel) HT1.out (by unfold maxLen; omega) (by omega) ?_
                      intro g1 cap1 WX7 H'
                      rw [Nat.zero_add, List.nil_append] at H'
                      rw [Nat.zero_add]
                      replace H := Lib.hid H'
                      clear H'
                      refine hK.out _ _ (HSS.out _ H.out.bel) (fun hHeld => ?_)
                      clear hK; try clear KK
                      try simp only [Act.put, List.setIfInBounds_toArray, List.set_cons_zero, List.set_cons_succ]
                      refine wpAnyH_ready (rs := [14]) (by kernel_rfl) (by simp) ?_
                      refine AllReadyH.cons (o := ⟨some 84, _, _, _, _, _⟩) rfl (fun KK hK => ?_) AllReadyH.nil
                      refine GA.app H.out (by rfl) _ _ _ (by rfl) i0 (.int .i64 0) 8 Try.underlying34 hi0 hz0 hz1 hz2 (by rfl) (by decide) (by rfl) (by rfl) (c1_size _) (one_i64 x) (by unfold maxLen; omega) (by omega) ?_
                      intro g2 cap2 WX8 H'
                      replace H := Lib.hid H'
                      clear H'
                      refine hK.out _ _ (HSS.out _ H.out.bel) (fun hHeld => ?_)
                      clear hK; try clear KK
                      try simp only [Act.put, List.setIfInBounds_toArray, List.set_cons_zero, List.set_cons_succ]
                      refine wpAnyH_ready (rs := [18]) (by kernel_rfl) (by simp) ?_
                      refine AllReadyH.cons (o := ⟨some 88, _, _, _, _, _⟩) rfl (fun KK hK => ?_) AllReadyH.nil
                      refine GA.src H.out (by rfl) _ _ _ (by rfl) i0 (.int .i64 0) 8 Try.underlying34 hi0 hz0 hz1 hz2 (by rfl) (by decide) (by rfl) _ _ _ _ (by rfl) HDL.out (fun hm => HDS.out _ hm H.out.bel) HD1.out (by unfold maxLen; omega) (by omega) ?_
                      intro g3 cap3 WX9 H'
                      replace H := Lib.hid H'
                      clear H'
                      refine hK.out _ _ (HSS.out _ H.out.bel) (fun hHeld => ?_)
                      clear hK; try clear KK
                      try simp only [Act.put, List.setIfInBounds_toArray, List.set_cons_zero, List.set_cons_succ]
                      refine wpAnyH_take (i := 19) (oi := ⟨some 5, _, _, _, _, _⟩) (v := ?_) rfl (by kernel_rfl) (by kernel_rfl) (by kernel_rfl) (fun _ _ _ h => h) (Or.inl ⟨by rfl, ?_⟩) (by assumption) ?_
                      rotate_left
                      · (intro w hSw; (try dsimp only at hSw); go_simp; (try with_reducible rfl))
                      simp only [Act.put, List.setIfInBounds_toArray, List.set_cons_zero, List.set_cons_succ]
                      refine wpAnyH_done (by kernel_rfl) ?_ _
                      replace H := Lib.hid (HOS.out.grown (HN0.out ▸ H.out) HLEN.out HROW.out HNE.out)
                      clear HOS
                      go_wp2_with fail
                      go_roundw
                      case rel => exact ⟨i + 1, by omega, by go_num, by rw [HN.out, HIN.out]; exact H.out⟩
                      case measure => simp [intOf]; omega
                  · go_simp
                    change KK _ (w3.alloc (.cells (c1 x) 2))
                    replace H := Lib.hid (H.out.new (c1 x))
                    generalize w3.alloc (.cells (c1 x) 2) = WX10 at H ⊢
                    generalize w3.heap.size = nb1 at H ⊢
                    refine hK.out _ _ (HSS.out _ H.out.bel) (fun hHeld => ?_)
                    clear hK; try clear KK
                    try simp only [Act.put, List.setIfInBounds_toArray, List.set_cons_zero, List.set_cons_succ]
                    refine wpAnyH_ready (rs := [0]) (by kernel_rfl) (by simp) ?_
                    refine AllReadyH.cons (o := ⟨some 70, _, _, _, _, _⟩) rfl (fun KK hK => ?_) AllReadyH.nil
                    go_simp
                    change KK _ (WX10.alloc (.cells #[] 2))
                    replace H := Lib.hid H.out.empty
                    generalize WX10.alloc (.cells #[] 2) = WX11 at H ⊢
                    generalize WX10.heap.size = e1 at H ⊢
                    refine hK.out _ _ (HSS.out _ H.out.bel) (fun hHeld => ?_)
                    clear hK; try clear KK
                    try simp only [Act.put, List.setIfInBounds_toArray, List.set_cons_zero, List.set_cons_succ]
                    refine wpAnyH_ready (rs := [4]) (by kernel_rfl) (by simp) ?_
                    refine AllReadyH.cons (o := ⟨some 74, _, _, _, _, _⟩) rfl (fun KK hK => ?_) AllReadyH.nil
                    refine GA.src H.out (by rfl) _ _ _ (by rfl) i0 (.int .i64 0) 8 Try.underlying34 hi0 hz0 hz1 hz2 (by rfl) (by decide) (by rfl) _ _ _ _ (by rfl) HTL.out (fun hm => HTS.out _ hm H.out.bel) HT1.out (by unfold maxLen; omega) (by omega) ?_
                    intro g1 cap1 WX12 H'
                    rw [Nat.zero_add, List.nil_append] at H'
                    rw [Nat.zero_add]
                    replace H := Lib.hid H'
                    clear H'
                    refine hK.out _ _ (HSS.out _ H.out.bel) (fun hHeld => ?_)
                    clear hK; try clear KK
                    try simp only [Act.put, List.setIfInBounds_toArray, List.set_cons_zero, List.set_cons_succ]
                    refine wpAnyH_ready (rs := [14]) (by kernel_rfl) (by simp) ?_
                    refine AllReadyH.cons (o := ⟨some 84, _, _, _, _, _⟩) rfl (fun KK hK => ?_) AllReadyH.nil
                    refine GA.app H.out (by rfl) _ _ _ (by rfl) i0 (.int .i64 0) 8 Try.underlying34 hi0 hz0 hz1 hz2 (by rfl) (by decide) (by rfl) (by rfl) (c1_size _) (one_i64 x) (by unfold maxLen; omega) (by omega) ?_
                    intro g2 cap2 WX13 H'
                    replace H := Lib.hid H'
                    clear H'
                    refine hK.out _ _ (HSS.out _ H.out.bel) (fun hHeld => ?_)
                    clear hK; try clear KK
                    try simp only [Act.put, List.setIfInBounds_toArray, List.set_cons_zero, List.set_cons_succ]
                    refine wpAnyH_ready (rs := [18]) (by kernel_rfl) (by simp) ?_
                    refine AllReadyH.cons (o := ⟨some 88, _, _, _, _, _⟩) rfl (fun KK hK => ?_) AllReadyH.nil
                    refine GA.src H.out (by rfl) _ _ _ (by rfl) i0 (.int .i64 0) 8 Try.underlying34 hi0 hz0 hz1 hz2 (by rfl) (by decide) (by rfl) _ _ _ _ (by rfl) HDL.out (fun hm => HDS.out _ hm H.out.bel) HD1.out (by unfold maxLen; omega) (by omega) ?_
                    intro g3 cap3 WX14 H'
                    replace H := Lib.hid H'
                    clear H'
                    refine hK.out _ _ (HSS.out _ H.out.bel) (fun hHeld => ?_)
                    clear hK; try clear KK
                    try simp only [Act.put, List.setIfInBounds_toArray, List.set_cons_zero, List.set_cons_succ]
                    refine wpAnyH_take (i := 19) (oi := ⟨some 5, _, _, _, _, _⟩) (v := ?_) rfl (by kernel_rfl) (by kernel_rfl) (by kernel_rfl) (fun _ _ _ h => h) (Or.inl ⟨by rfl, ?_⟩) (by assumption) ?_
                    rotate_left
                    · (intro w hSw; (try dsimp only at hSw); go_simp; (try with_reducible rfl))
                    simp only [Act.put, List.setIfInBounds_toArray, List.set_cons_zero, List.set_cons_succ]
                    refine wpAnyH_done (by kernel_rfl) ?_ _
                    replace H := Lib.hid (HOS.out.grown (HN0.out ▸ H.out) HLEN.out HROW.out HNE.out)
                    clear HOS
                    go_wp2_with fail
                    go_roundw
                    case rel => exact ⟨i + 1, by omega, by go_num, by rw [HN.out, HIN.out]; exact H.out⟩
                    case measure => simp [intOf]; omega
                · have hpos : 0 < S.length := List.length_pos_iff.2 hS
                  obtain ⟨g, rfl, hgn, hgw, -⟩ := H.out.row 0 hpos
                  have k2 : (S.length : Int) ≤ (vc : Int) := by omega
                  clear hS
                  by_cases hck : vc = S.length
                  · subst hck
                    obtain ⟨o0, o1⟩ := HO.out w2 H.out.bel
                    replace H := Lib.hid H.out.drew
                    go_upto_region 9 with fail
                    refine wp_region_held_drew (S := (fun w' => w'.cell? ⟨R, 0, none⟩ = some (.slice (some ⟨gl, 0, none⟩) l.length lcap) ∧ w'.cell? ⟨gl, i * 7 + 1, none⟩ = some (.int .i64 x))) (by kernel_rfl) ⟨o0, o1⟩ (fun hHeld => ?_)
                    generalize w2.drew = w3 at H hHeld ⊢
                    have HOS := Lib.hid H.out
                    obtain ⟨n0, hn0⟩ : ∃ n, n = w3.heap.size := ⟨_, rfl⟩
                    have HSS := Lib.hid (show ∀ W, Below n0 w3 W → W.cell? ⟨R, 0, none⟩ = some (.slice (some ⟨gl, 0, none⟩) l.length lcap) ∧ W.cell? ⟨gl, i * 7 + 1, none⟩ = some (.int .i64 x) from fun W hb => by
                      have hlt : gl < n0 := by rw [hn0]; exact Nat.lt_of_lt_of_le HLT.out.1 HOS.out.le
                      have hlR : R < n0 := by rw [hn0]; exact Nat.lt_of_lt_of_le HLT.out.2 HOS.out.le
                      rw [hb.cell (p := ⟨R, _, none⟩) hlR, hb.cell (p := ⟨gl, _, none⟩) hlt]; exact hHeld)
                    replace H := Lib.hid (show GA n0 2 1 w3 w3 none none from GA.start (Below.refl _ _) (by rw [hn0]; exact Nat.le_refl _))
                    have HTL := Lib.hid (show (vals (S.take S.length)).length = S.length * 1 by rw [vals_len, List.length_take]; first | (rw [Nat.min_eq_left (by omega)]; omega) | simp)
                    have HDL := Lib.hid (show (vals (S.drop S.length)).length = (0) * 1 by rw [vals_len, List.length_drop]; try simp)
                    have HT1 := Lib.hid (vals_one (S.take S.length))
                    have HD1 := Lib.hid (vals_one (S.drop S.length))
                    have HLEN := Lib.hid (show S.length + 1 + (0) = (S.take S.length ++ [x] ++ S.drop S.length).length by simp; try omega)
                    have HROW := Lib.hid (show vals (S.take S.length) ++ (c1 x).toList ++ vals (S.drop S.length) = vals (S.take S.length ++ [x] ++ S.drop S.length) by simp [vals, c1])
                    have HNE := Lib.hid (show S.take S.length ++ [x] ++ S.drop S.length ≠ [] by simp)
                    have HN0 := Lib.hid hn0
                    clear hn0
                    have HTS := Lib.hid (show ∀ W, 0 < S.length → Below n0 w3 W → ∃ ad : Addr, some (⟨g, 0, none⟩ : Addr) = some ad ∧ ∀ j u, (vals (S.take S.length))[j]? = some u → W.cell? (ad.add j) = some u from fun W _ hb => ⟨_, rfl, HOS.out.take (HN0.out ▸ hb) S.length⟩)
                    have HDS := Lib.hid (show ∀ W, 0 < 0 → Below n0 w3 W → ∃ ad : Addr, some (⟨g, 0, none⟩ : Addr) = some ad ∧ ∀ j u, (vals (S.drop S.length))[j]? = some u → W.cell? (ad.add j) = some u from fun W h => absurd h (by omega))
                    refine wpAnyH_take (i := 1) (oi := ⟨some 71, _, _, _, _, _⟩) (v := ?_) rfl (by kernel_rfl) (by kernel_rfl) (by kernel_rfl) (fun _ _ _ h => h) (Or.inl ⟨by rfl, ?_⟩) (by assumption) ?_
                    rotate_left
                    · (intro w hSw; (try dsimp only at hSw); go_simp; (try with_reducible rfl))
                    simp only [Act.put, List.setIfInBounds_toArray, List.set_cons_zero, List.set_cons_succ]
                    refine wpAnyH_take (i := 2) (oi := ⟨some 72, _, _, _, _, _⟩) (v := ?_) rfl (by kernel_rfl) (by kernel_rfl) (by kernel_rfl) (fun _ _ _ h => h) (Or.inl ⟨by rfl, ?_⟩) (by assumption) ?_
                    rotate_left
                    · (intro w hSw; (try dsimp only at hSw); go_simp; (try with_reducible rfl))
                    simp only [Act.put, List.setIfInBounds_toArray, List.set_cons_zero, List.set_cons_succ]
                    refine wpAnyH_take (i := 3) (oi := ⟨some 73, _, _, _, _, _⟩) (v := ?_) rfl (by kernel_rfl) (by kernel_rfl) (by kernel_rfl) (fun _ _ _ h => h) (Or.inl ⟨by rfl, ?_⟩) (by assumption) ?_
                    rotate_left
                    · (intro w hSw; (try dsimp only at hSw); go_simp; (try with_reducible rfl))
                    simp only [Act.put, List.setIfInBounds_toArray, List.set_cons_zero, List.set_cons_succ]
                    refine wpAnyH_take (i := 5) (oi := ⟨some 75, _, _, _, _, _⟩) (v := ?_) rfl (by kernel_rfl) (by kernel_rfl) (by kernel_rfl) (fun _ _ _ h => h) (Or.inl ⟨by rfl, ?_⟩) (by assumption) ?_
                    rotate_left
                    · (intro w hSw; (try dsimp only at hSw); go_simp; (try with_reducible rfl))
                    simp only [Act.put, List.setIfInBounds_toArray, List.set_cons_zero, List.set_cons_succ]
                    refine wpAnyH_take (i := 6) (oi := ⟨some 76, _, _, _, _, _⟩) (v := ?_) rfl (by kernel_rfl) (by kernel_rfl) (by kernel_rfl) (fun _ _ _ h => h) (Or.inl ⟨by rfl, ?_⟩) (by assumption) ?_
                    rotate_left
                    · (intro w hSw; (try dsimp only at hSw); go_simp; (try with_reducible rfl))
                    simp only [Act.put, List.setIfInBounds_toArray, List.set_cons_zero, List.set_cons_succ]
                    refine wpAnyH_take (i := 7) (oi := ⟨some 77, _, _, _, _, _⟩) (v := ?_) rfl (by kernel_rfl) (by kernel_rfl) (by kernel_rfl) (fun _ _ _ h => h) (Or.inl ⟨by rfl, ?_⟩) (by assumption) ?_
                    rotate_left
                    · (intro w hSw; (try dsimp only at hSw); go_simp; (try with_reducible rfl))
                    simp only [Act.put, List.setIfInBounds_toArray, List.set_cons_zero, List.set_cons_succ]
                    refine wpAnyH_take (i := 8) (oi := ⟨some 78, _, _, _, _, _⟩) (v := ?_) rfl (by kernel_rfl) (by kernel_rfl) (by kernel_rfl) (fun _ _ _ h => h) (Or.inl ⟨by rfl, ?_⟩) (by assumption) ?_
                    rotate_left
                    · (intro w hSw; (try dsimp only at hSw); go_simp; (try with_reducible rfl))
                    simp only [Act.put, List.setIfInBounds_toArray, List.set_cons_zero, List.set_cons_succ]
                    refine wpAnyH_take (i := 9) (oi := ⟨some 79, _, _, _, _, _⟩) (v := ?_) rfl (by kernel_rfl) (by kernel_rfl) (by kernel_rfl) (fun _ _ _ h => h) (Or.inl ⟨by rfl, ?_⟩) (by assumption) ?_
                    rotate_left
                    · (intro w hSw; (try dsimp only at hSw); go_simp; (try with_reducible rfl))
                    simp only [Act.put, List.setIfInBounds_toArray, List.set_cons_zero, List.set_cons_succ]
                    refine wpAnyH_take (i := 10) (oi := ⟨some 80, _, _, _, _, _⟩) (v := ?_) rfl (by kernel_rfl) (by kernel_rfl) (by kernel_rfl) (fun _ _ _ h => h) (Or.inl ⟨by rfl, ?_⟩) (by assumption) ?_
                    rotate_left
                    · (intro w hSw; (try dsimp only at hSw); go_simp; (try with_reducible rfl))
                    simp only [Act.put, List.setIfInBounds_toArray, List.set_cons_zero, List.set_cons_succ]
                    refine wpAnyH_take (i := 11) (oi := ⟨some 81, _, _, _, _, _⟩) (v := ?_) rfl (by kernel_rfl) (by kernel_rfl) (by kernel_rfl) (fun _ _ _ h => h) (Or.inl ⟨by rfl, ?_⟩) (by assumption) ?_
                    rotate_left
                    · (intro w hSw; (try dsimp only at hSw); go_simp; (try with_reducible rfl))
                    simp only [Act.put, List.setIfInBounds_toArray, List.set_cons_zero, List.set_cons_succ]
                    refine wpAnyH_take (i := 12) (oi := ⟨some 82, _, _, _, _, _⟩) (v := ?_) rfl (by kernel_rfl) (by kernel_rfl) (by kernel_rfl) (fun _ _ _ h => h) (Or.inl ⟨by rfl, ?_⟩) (by assumption) ?_
                    rotate_left
                    · (intro w hSw; (try dsimp only at hSw); go_simp; (try with_reducible rfl))
                    simp only [Act.put, List.setIfInBounds_toArray, List.set_cons_zero, List.set_cons_succ]
                    refine wpAnyH_take (i := 15) (oi := ⟨some 85, _, _, _, _, _⟩) (v := ?_) rfl (by kernel_rfl) (by kernel_rfl) (by kernel_rfl) (fun _ _ _ h => h) (Or.inl ⟨by rfl, ?_⟩) (by assumption) ?_
                    rotate_left
                    · (intro w hSw; (try dsimp only at hSw); go_simp; (try with_reducible rfl))
                    simp only [Act.put, List.setIfInBounds_toArray, List.set_cons_zero, List.set_cons_succ]
                    refine wpAnyH_take (i := 16) (oi := ⟨some 86, _, _, _, _, _⟩) (v := ?_) rfl (by kernel_rfl) (by kernel_rfl) (by kernel_rfl) (fun _ _ _ h => h) (Or.inl ⟨by rfl, ?_⟩) (by assumption) ?_
                    rotate_left
                    · (intro w hSw; (try dsimp only at hSw); go_simp; (try with_reducible rfl))
                    simp only [Act.put, List.setIfInBounds_toArray, List.set_cons_zero, List.set_cons_succ]
                    refine wpAnyH_take (i := 17) (oi := ⟨some 87, _, _, _, _, _⟩) (v := ?_) rfl (by kernel_rfl) (by kernel_rfl) (by kernel_rfl) (fun _ _ _ h => h) (Or.inl ⟨by rfl, ?_⟩) (by assumption) ?_
                    rotate_left
                    · (intro w hSw; (try dsimp only at hSw); go_simp; (try with_reducible rfl))
                    simp only [Act.put, List.setIfInBounds_toArray, List.set_cons_zero, List.set_cons_succ]
                    refine wpAnyH_ready (rs := [0, 13]) (by kernel_rfl) (by simp) ?_
                    refine AllReadyH.cons (o := ⟨some 70, _, _, _, _, _⟩) rfl (fun KK hK => ?_) (AllReadyH.cons (o := ⟨some 83, _, _, _, _, _⟩) rfl (fun KK hK => ?_) (AllReadyH.nil))
                    · go_simp
                      change KK _ (w3.alloc (.cells #[] 2))
                      replace H := Lib.hid H.out.empty
                      generalize w3.alloc (.cells #[] 2) = WX1 at H ⊢
                      generalize w3.heap.size = e1 at H ⊢
                      refine hK.out _ _ (HSS.out _ H.out.bel) (fun hHeld => ?_)
                      clear hK; try clear KK
                      try simp only [Act.put, List.setIfInBounds_toArray, List.set_cons_zero, List.set_cons_succ]
                      refine wpAnyH_ready (rs := [4, 13]) (by kernel_rfl) (by simp) ?_
                      refine AllReadyH.cons (o := ⟨some 74, _, _, _, _, _⟩) rfl (fun KK hK => ?_) (AllReadyH.cons (o := ⟨some 83, _, _, _, _, _⟩) rfl (fun KK hK => ?_) (AllReadyH.nil))
                      · refine GA.src H.out (by rfl) _ _ _ (by rfl) i0 (.int .i64 0) 8 Try.underlying34 hi0 hz0 hz1 hz2 (by rfl) (by decide) (by rfl) _ _ _ _ (by rfl) HTL.out (fun hm => HTS.out _ hm H.out.bel) HT1.out (by unfold maxLen; omega) (by omega) ?_
                        intro g1 cap1 WX2 H'
                        rw [Nat.zero_add, List.nil_append] at H'
                        rw [Nat.zero_add]
                        replace H := Lib.hid H'
                        clear H'
                        refine hK.out _ _ (HSS.out _ H.out.bel) (fun hHeld => ?_)
                        clear hK; try clear KK
                        try simp only [Act.put, List.setIfInBounds_toArray, List.set_cons_zero, List.set_cons_succ]
                        refine wpAnyH_ready (rs := [13]) (by kernel_rfl) (by simp) ?_
                        refine AllReadyH.cons (o := ⟨some 83, _, _, _, _, _⟩) rfl (fun KK hK => ?_) AllReadyH.nil
                        go_simp
                        change KK _ (WX2.alloc (.cells (c1 x) 2))
                        replace H := Lib.hid (H.out.new (c1 x))
                        generalize WX2.alloc (.cells (c1 x) 2) = WX3 at H ⊢
                        generalize WX2.heap.size = nb1 at H ⊢
                        refine hK.out _ _ (HSS.out _ H.out.bel) (fun hHeld => ?_)
                        clear hK; try clear KK
                        try simp only [Act.put, List.setIfInBounds_toArray, List.set_cons_zero, List.set_cons_succ]
                        refine wpAnyH_ready (rs := [14]) (by kernel_rfl) (by simp) ?_
                        refine AllReadyH.cons (o := ⟨some 84, _, _, _, _, _⟩) rfl (fun KK hK => ?_) AllReadyH.nil
                        refine GA.app H.out (by rfl) _ _ _ (by rfl) i0 (.int .i64 0) 8 Try.underlying34 hi0 hz0 hz1 hz2 (by rfl) (by decide) (by rfl) (by rfl) (c1_size _) (one_i64 x) (by unfold maxLen; omega) (by omega) ?_
                        intro g2 cap2 WX4 H'
                        replace H := Lib.hid H'
                        clear H'
                        refine hK.out _ _ (HSS.out _ H.out.bel) (fun hHeld => ?_)
                        clear hK; try clear KK
                        try simp only [Act.put, List.setIfInBounds_toArray, List.set_cons_zero, List.set_cons_succ]
                        refine wpAnyH_ready (rs := [18]) (by kernel_rfl) (by simp) ?_
                        refine AllReadyH.cons (o := ⟨some 88, _, _, _, _, _⟩) rfl (fun KK hK => ?_) AllReadyH.nil
                        refine GA.src H.out (by rfl) _ _ _ (by rfl) i0 (.int .i64 0) 8 Try.underlying34 hi0 hz0 hz1 hz2 (by rfl) (by decide) (by rfl) _ _ _ _ (by rfl) HDL.out (fun hm => HDS.out _ hm H.out.bel) HD1.out (by unfold maxLen; omega) (by omega) ?_
                        intro g3 cap3 WX5 H'
                        replace H := Lib.hid H'
                        clear H'
                        refine hK.out _ _ (HSS.out _ H.out.bel) (fun hHeld => ?_)
                        clear hK; try clear KK
                        try simp only [Act.put, List.setIfInBounds_toArray, List.set_cons_zero, List.set_cons_succ]
                        refine wpAnyH_take (i := 19) (oi := ⟨some 5, _, _, _, _, _⟩) (v := ?_) rfl (by kernel_rfl) (by kernel_rfl) (by kernel_rfl) (fun _ _ _ h => h) (Or.inl ⟨by rfl, ?_⟩) (by assumption) ?_
                        rotate_left
                        · (intro w hSw; (try dsimp only at hSw); go_simp; (try with_reducible rfl))
                        simp only [Act.put, List.setIfInBounds_toArray, List.set_cons_zero, List.set_cons_succ]
                        refine wpAnyH_done (by kernel_rfl) ?_ _
                        replace H := Lib.hid (HOS.out.grown (HN0.out ▸ H.out) HLEN.out HROW.out HNE.out)
                        clear HOS
                        go_wp2_with fail
                        go_roundw
                        case rel => exact ⟨i + 1, by omega, by go_num, by rw [HN.out, HIN.out]; exact H.out⟩
                        case measure => simp [intOf]; omega
                      · go_simp
                        change KK _ (WX1.alloc (.cells (c1 x) 2))
                        replace H := Lib.hid (H.out.new (c1 x))
                        generalize WX1.alloc (.cells (c1 x) 2) = WX6 at H ⊢
                        generalize WX1.heap.size = nb1 at H ⊢
                        refine hK.out _ _ (HSS.out _ H.out.bel) (fun hHeld => ?_)
                        clear hK; try clear KK
                        try simp only [Act.put, List.setIfInBounds_toArray, List.set_cons_zero, List.set_cons_succ]
                        refine wpAnyH_ready (rs := [4]) (by kernel_rfl) (by simp) ?_
                        refine AllReadyH.cons (o := ⟨some 74, _, _, _, _, _⟩) rfl (fun KK hK => ?_) AllReadyH.nil
                        refine GA.src H.out (by rfl) _ _ _ (by rfl) i0 (.int .i64 0) 8 Try.underlying34 hi0 hz0 hz1 hz2 (by rfl) (by decide) (by rfl) _ _ _ _ (by rfl) HTL.out (fun hm => HTS.out _ hm H.out.bel) HT1.out (by unfold maxLen; omega) (by omega) ?_
                        intro g1 cap1 WX7 H'
                        rw [Nat.zero_add, List.nil_append] at H'
                        rw [Nat.zero_add]
                        replace H := Lib.hid H'
                        clear H'
                        refine hK.out _ _ (HSS.out _ H.out.bel) (fun hHeld => ?_)
                        clear hK; try clear KK
                        try simp only [Act.put, List.setIfInBounds_toArray, List.set_cons_zero, List.set_cons_succ]
                        refine wpAnyH_ready (rs := [14]) (by kernel_rfl) (by simp) ?_
                        refine AllReadyH.cons (o := ⟨some 84, _, _, _, _, _⟩) rfl (fun KK hK => ?_) AllReadyH.nil
                        refine GA.app H.out (by rfl) _ _ _ (by rfl) i0 (.int .i64 0) 8 Try.underlying34 hi0 hz0 hz1 hz2 (by rfl) (by decide) (by rfl) (by rfl) (c1_size _) (one_i64 x) (by unfold maxLen; omega) (by omega) ?_
                        intro g2 cap2 WX8 H'
                        replace H := Lib.hid H'
                        clear H'
                        refine hK.out _ _ (HSS.out _ H.out.bel) (fun hHeld => ?_)
                        clear hK; try clear KK
                        try simp only [Act.put, List.setIfInBounds_toArray, List.set_cons_zero, List.set_cons_succ]
                        refine wpAnyH_ready (rs := [18]) (by kernel_rfl) (by simp) ?_
                        refine AllReadyH.cons (o := ⟨some 88, _, _, _, _, _⟩) rfl (fun KK hK => ?_) AllReadyH.nil
                        refine GA.src H.out (by rfl) _ _ _ (by rfl) i0 (.int .i64 0) 8 Try.underlying34 hi0 hz0 hz1 hz2 (by rfl) (by decide) (by rfl) _ _ _ _ (by rfl) HDL.out (fun hm => HDS.out _ hm H.out.bel) HD1.out (by unfold maxLen; omega) (by omega) ?_
                        intro g3 cap3 WX9 H'
                        replace H := Lib.hid H'
                        clear H'
                        refine hK.out _ _ (HSS.out _ H.out.bel) (fun hHeld => ?_)
                        clear hK; try clear KK
                        try simp only [Act.put, List.setIfInBounds_toArray, List.set_cons_zero, List.set_cons_succ]
                        refine wpAnyH_take (i := 19) (oi := ⟨some 5, _, _, _, _, _⟩) (v := ?_) rfl (by kernel_rfl) (by kernel_rfl) (by kernel_rfl) (fun _ _ _ h => h) (Or.inl ⟨by rfl, ?_⟩) (by assumption) ?_
                        rotate_left
                        · (intro w hSw; (try dsimp only at hSw); go_simp; (try with_reducible rfl))
                        simp only [Act.put, List.setIfInBounds_toArray, List.set_cons_zero, List.set_cons_succ]
                        refine wpAnyH_done (by kernel_rfl) ?_ _
                        replace H := Lib.hid (HOS.out.grown (HN0.out ▸ H.out) HLEN.out HROW.out HNE.out)
                        clear HOS
                        go_wp2_with fail
                        go_roundw
                        case rel => exact ⟨i + 1, by omega, by go_num, by rw [HN.out, HIN.out]; exact H.out⟩
                        case measure => simp [intOf]; omega
                    · go_simp
                      change KK _ (w3.alloc (.cells (c1 x) 2))
                      replace H := Lib.hid (H.out.new (c1 x))
                      generalize w3.alloc (.cells (c1 x) 2) = WX10 at H ⊢
                      generalize w3.heap.size = nb1 at H ⊢
                      refine hK.out _ _ (HSS.out _ H.out.bel) (fun hHeld => ?_)
                      clear hK; try clear KK
                      try simp only [Act.put, List.setIfInBounds_toArray, List.set_cons_zero, List.set_cons_succ]
                      refine wpAnyH_ready (rs := [0]) (by kernel_rfl) (by simp) ?_
                      refine AllReadyH.cons (o := ⟨some 70, _, _, _, _, _⟩) rfl (fun KK hK => ?_) AllReadyH.nil
                      go_simp
                      change KK _ (WX10.alloc (.cells #[] 2))
                      replace H := Lib.hid H.out.empty
                      generalize WX10.alloc (.cells #[] 2) = WX11 at H ⊢
                      generalize WX10.heap.size = e1 at H ⊢
                      refine hK.out _ _ (HSS.out _ H.out.bel) (fun hHeld => ?_)
                      clear hK; try clear KK
                      try simp only [Act.put, List.setIfInBounds_toArray, List.set_cons_zero, List.set_cons_succ]
                      refine wpAnyH_ready (rs := [4]) (by kernel_rfl) (by simp) ?_
                      refine AllReadyH.cons (o := ⟨some 74, _, _, _, _, _⟩) rfl (fun KK hK => ?_) AllReadyH.nil
                      refine GA.src H.out (by rfl) _ _ _ (by rfl) i0 (.int .i64 0) 8 Try.underlying34 hi0 hz0 hz1 hz2 (by rfl) (by decide) (by rfl) _ _ _ _ (by rfl) HTL.out (fun hm => HTS.out _ hm H.out.bel) HT1.out (by unfold maxLen; omega) (by omega) ?_
                      intro g1 cap1 WX12 H'
                      rw [Nat.zero_add, List.nil_append] at H'
                      rw [Nat.zero_add]
                      replace H := Lib.hid H'
                      clear H'
                      refine hK.out _ _ (HSS.out _ H.out.bel) (fun hHeld => ?_)
                      clear hK; try clear KK
                      try simp only [Act.put, List.setIfInBounds_toArray, List.set_cons_zero, List.set_cons_succ]
                      refine wpAnyH_ready (rs := [14]) (by kernel_rfl) (by simp) ?_
                      refine AllReadyH.cons (o := ⟨some 84, _, _, _, _, _⟩) rfl (fun KK hK => ?_) AllReadyH.nil
                      refine GA.app H.out (by rfl) _ _ _ (by rfl) i0 (.int .i64 0) 8 Try.underlying34 hi0 hz0 hz1 hz2 (by rfl) (by decide) (by rfl) (by rfl) (c1_size _) (one_i64 x) (by unfold maxLen; omega) (by omega) ?_
                      intro g2 cap2 WX13 H'
                      replace H := Lib.hid H'
                      clear H'
                      refine hK.out _ _ (HSS.out _ H.out.bel) (fun hHeld => ?_)
                      clear hK; try clear KK
                      try simp only [Act.put, List.setIfInBounds_toArray, List.set_cons_zero, List.set_cons_succ]
                      refine wpAnyH_ready (rs := [18]) (by kernel_rfl) (by simp) ?_
                      refine AllReadyH.cons (o := ⟨some 88, _, _, _, _, _⟩) rfl (fun KK hK => ?_) AllReadyH.nil
                      refine GA.src H.out (by rfl) _ _ _ (by rfl) i0 (.int .i64 0) 8 Try.underlying34 hi0 hz0 hz1 hz2 (by rfl) (by decide) (by rfl) _ _ _ _ (by rfl) HDL.out (fun hm => HDS.out _ hm H.out.bel) HD1.out (by unfold maxLen; omega) (by omega) ?_
                      intro g3 cap3 WX14 H'
                      replace H := Lib.hid H'
                      clear H'
                      refine hK.out _ _ (HSS.out _ H.out.bel) (fun hHeld => ?_)
                      clear hK; try clear KK
                      try simp only [Act.put, List.setIfInBounds_toArray, List.set_cons_zero, List.set_cons_succ]
                      refine wpAnyH_take (i := 19) (oi := ⟨some 5, _, _, _, _, _⟩) (v := ?_) rfl (by kernel_rfl) (by kernel_rfl) (by kernel_rfl) (fun _ _ _ h => h) (Or.inl ⟨by rfl, ?_⟩) (by assumption) ?_
                      rotate_left
                      · (intro w hSw; (try dsimp only at hSw); go_simp; (try with_reducible rfl))
                      simp only [Act.put, List.setIfInBounds_toArray, List.set_cons_zero, List.set_cons_succ]
                      refine wpAnyH_done (by kernel_rfl) ?_ _
                      replace H := Lib.hid (HOS.out.grown (HN0.out ▸ H.out) HLEN.out HROW.out HNE.out)
                      clear HOS
                      go_wp2_with fail
                      go_roundw
                      case rel => exact ⟨i + 1, by omega, by go_num, by rw [HN.out, HIN.out]; exact H.out⟩
                      case measure => simp [intOf]; omega
                  · have hck' : ¬ ((vc : Int) = (S.length : Int)) := by omega
                    obtain ⟨o0, o1⟩ := HO.out w2 H.out.bel
                    replace H := Lib.hid H.out.drew
                    go_upto_region 9 with fail
                    refine wp_region_held_drew (S := (fun w' => w'.cell? ⟨R, 0, none⟩ = some (.slice (some ⟨gl, 0, none⟩) l.length lcap) ∧ w'.cell? ⟨gl, i * 7 + 1, none⟩ = some (.int .i64 x))) (by kernel_rfl) ⟨o0, o1⟩ (fun hHeld => ?_)
                    generalize w2.drew = w3 at H hHeld ⊢
                    have HOS := Lib.hid H.out
                    obtain ⟨n0, hn0⟩ : ∃ n, n = w3.heap.size := ⟨_, rfl⟩
                    have HSS := Lib.hid (show ∀ W, Below n0 w3 W → W.cell? ⟨R, 0, none⟩ = some (.slice (some ⟨gl, 0, none⟩) l.length lcap) ∧ W.cell? ⟨gl, i * 7 + 1, none⟩ = some (.int .i64 x) from fun W hb => by
                      have hlt : gl < n0 := by rw [hn0]; exact Nat.lt_of_lt_of_le HLT.out.1 HOS.out.le
                      have hlR : R < n0 := by rw [hn0]; exact Nat.lt_of_lt_of_le HLT.out.2 HOS.out.le
                      rw [hb.cell (p := ⟨R, _, none⟩) hlR, hb.cell (p := ⟨gl, _, none⟩) hlt]; exact hHeld)
                    replace H := Lib.hid (show GA n0 2 1 w3 w3 none none from GA.start (Below.refl _ _) (by rw [hn0]; exact Nat.le_refl _))
                    have HTL := Lib.hid (show (vals (S.take S.length)).length = S.length * 1 by rw [vals_len, List.length_take]; first | (rw [Nat.min_eq_left (by omega)]; omega) | simp)
                    have HDL := Lib.hid (show (vals (S.drop S.length)).length = (0) * 1 by rw [vals_len, List.length_drop]; try simp)
                    have HT1 := Lib.hid (vals_one (S.take S.length))
                    have HD1 := Lib.hid (vals_one (S.drop S.length))
                    have HLEN := Lib.hid (show S.length + 1 + (0) = (S.take S.length ++ [x] ++ S.drop S.length).length by simp; try omega)
                    have HROW := Lib.hid (show vals (S.take S.length) ++ (c1 x).toList ++ vals (S.drop S.length) = vals (S.take S.length ++ [x] ++ S.drop S.length) by simp [vals, c1])
                    have HNE := Lib.hid (show S.take S.length ++ [x] ++ S.drop S.length ≠ [] by simp)
                    have HN0 := Lib.hid hn0
                    clear hn0
                    have HTS := Lib.hid (show ∀ W, 0 < S.length → Below n0 w3 W → ∃ ad : Addr, some (⟨g, 0, none⟩ : Addr) = some ad ∧ ∀ j u, (vals (S.take S.length))[j]? = some u → W.cell? (ad.add j) = some u from fun W _ hb => ⟨_, rfl, HOS.out.take (HN0.out ▸ hb) S.length⟩)
                    have HDS := Lib.hid (show ∀ W, 0 < 0 → Below n0 w3 W → ∃ ad : Addr, some (⟨g, S.length, none⟩ : Addr) = some ad ∧ ∀ j u, (vals (S.drop S.length))[j]? = some u → W.cell? (ad.add j) = some u from fun W h => absurd h (by omega))
                    refine wpAnyH_take (i := 1) (oi := ⟨some 71, _, _, _, _, _⟩) (v := ?_) rfl (by kernel_rfl) (by kernel_rfl) (by kernel_rfl) (fun _ _ _ h => h) (Or.inl ⟨by rfl, ?_⟩) (by assumption) ?_
                    rotate_left
                    · (intro w hSw; (try dsimp only at hSw); go_simp; (try with_reducible rfl))
                    simp only [Act.put, List.setIfInBounds_toArray, List.set_cons_zero, List.set_cons_succ]
                    refine wpAnyH_take (i := 2) (oi := ⟨some 72, _, _, _, _, _⟩) (v := ?_) rfl (by kernel_rfl) (by kernel_rfl) (by kernel_rfl) (fun _ _ _ h => h) (Or.inl ⟨by rfl, ?_⟩) (by assumption) ?_
                    rotate_left
                    · (intro w hSw; (try dsimp only at hSw); go_simp; (try with_reducible rfl))
                    simp only [Act.put, List.setIfInBounds_toArray, List.set_cons_zero, List.set_cons_succ]
                    refine wpAnyH_take (i := 3) (oi := ⟨some 73, _, _, _, _, _⟩) (v := ?_) rfl (by kernel_rfl) (by kernel_rfl) (by kernel_rfl) (fun _ _ _ h => h) (Or.inl ⟨by rfl, ?_⟩) (by assumption) ?_
                    rotate_left
                    · (intro w hSw; (try dsimp only at hSw); go_simp; (try with_reducible rfl))
                    simp only [Act.put, List.setIfInBounds_toArray, List.set_cons_zero, List.set_cons_succ]
                    refine wpAnyH_take (i := 5) (oi := ⟨some 75, _, _, _, _, _⟩) (v := ?_) rfl (by kernel_rfl) (by kernel_rfl) (by kernel_rfl) (fun _ _ _ h => h) (Or.inl ⟨by rfl, ?_⟩) (by assumption) ?_
                    rotate_left
                    · (intro w hSw; (try dsimp only at hSw); go_simp; (try with_reducible rfl))
                    simp only [Act.put, List.setIfInBounds_toArray, List.set_cons_zero, List.set_cons_succ]
                    refine wpAnyH_take (i := 6) (oi := ⟨some 76, _, _, _, _, _⟩) (v := ?_) rfl (by kernel_rfl) (by kernel_rfl) (by kernel_rfl) (fun _ _ _ h => h) (Or.inl ⟨by rfl, ?_⟩) (by assumption) ?_
                    rotate_left
                    · (intro w hSw; (try dsimp only at hSw); go_simp; (try with_reducible rfl))
                    simp only [Act.put, List.setIfInBounds_toArray, List.set_cons_zero, List.set_cons_succ]
                    refine wpAnyH_take (i := 7) (oi := ⟨some 77, _, _, _, _, _⟩) (v := ?_) rfl (by kernel_rfl) (by kernel_rfl) (by kernel_rfl) (fun _ _ _ h => h) (Or.inl ⟨by rfl, ?_⟩) (by assumption) ?_
                    rotate_left
                    · (intro w hSw; (try dsimp only at hSw); go_simp; (try with_reducible rfl))
                    simp only [Act.put, List.setIfInBounds_toArray, List.set_cons_zero, List.set_cons_succ]
                    refine wpAnyH_take (i := 8) (oi := ⟨some 78, _, _, _, _, _⟩) (v := ?_) rfl (by kernel_rfl) (by kernel_rfl) (by kernel_rfl) (fun _ _ _ h => h) (Or.inl ⟨by rfl, ?_⟩) (by assumption) ?_
                    rotate_left
                    · (intro w hSw; (try dsimp only at hSw); go_simp; (try with_reducible rfl))
                    simp only [Act.put, List.setIfInBounds_toArray, List.set_cons_zero, List.set_cons_succ]
                    refine wpAnyH_take (i := 9) (oi := ⟨some 79, _, _, _, _, _⟩) (v := ?_) rfl (by kernel_rfl) (by kernel_rfl) (by kernel_rfl) (fun _ _ _ h => h) (Or.inl ⟨by rfl, ?_⟩) (by assumption) ?_
                    rotate_left
                    · (intro w hSw; (try dsimp only at hSw); go_simp; (try with_reducible rfl))
                    simp only [Act.put, List.setIfInBounds_toArray, List.set_cons_zero, List.set_cons_succ]
                    refine wpAnyH_take (i := 10) (oi := ⟨some 80, _, _, _, _, _⟩) (v := ?_) rfl (by kernel_rfl) (by kernel_rfl) (by kernel_rfl) (fun _ _ _ h => h) (Or.inl ⟨by rfl, ?_⟩) (by assumption) ?_
                    rotate_left
                    · (intro w hSw; (try dsimp only at hSw); go_simp; (try with_reducible rfl))
                    simp only [Act.put, List.setIfInBounds_toArray, List.set_cons_zero, List.set_cons_succ]
                    refine wpAnyH_take (i := 11) (oi := ⟨some 81, _, _, _, _, _⟩) (v := ?_) rfl (by kernel_rfl) (by kernel_rfl) (by kernel_rfl) (fun _ _ _ h => h) (Or.inl ⟨by rfl, ?_⟩) (by assumption) ?_
                    rotate_left
                    · (intro w hSw; (try dsimp only at hSw); go_simp; (try with_reducible rfl))
                    simp only [Act.put, List.setIfInBounds_toArray, List.set_cons_zero, List.set_cons_succ]
                    refine wpAnyH_take (i := 12) (oi := ⟨some 82, _, _, _, _, _⟩) (v := ?_) rfl (by kernel_rfl) (by kernel_rfl) (by kernel_rfl) (fun _ _ _ h => h) (Or.inl ⟨by rfl, ?_⟩) (by assumption) ?_
                    rotate_left
                    · (intro w hSw; (try dsimp only at hSw); go_simp; (try with_reducible rfl))
                    simp only [Act.put, List.setIfInBounds_toArray, List.set_cons_zero, List.set_cons_succ]
                    refine wpAnyH_take (i := 15) (oi := ⟨some 85, _, _, _, _, _⟩) (v := ?_) rfl (by kernel_rfl) (by kernel_rfl) (by kernel_rfl) (fun _ _ _ h => h) (Or.inl ⟨by rfl, ?_⟩) (by assumption) ?_
                    rotate_left
                    · (intro w hSw; (try dsimp only at hSw); go_simp; (try with_reducible rfl))
                    simp only [Act.put, List.setIfInBounds_toArray, List.set_cons_zero, List.set_cons_succ]
                    refine wpAnyH_take (i := 16) (oi := ⟨some 86, _, _, _, _, _⟩) (v := ?_) rfl (by kernel_rfl) (by kernel_rfl) (by kernel_rfl) (fun _ _ _ h => h) (Or.inl ⟨by rfl, ?_⟩) (by assumption) ?_
                    rotate_left
                    · (intro w hSw; (try dsimp only at hSw); go_simp; (try with_reducible rfl))
                    simp only [Act.put, List.setIfInBounds_toArray, List.set_cons_zero, List.set_cons_succ]
                    refine wpAnyH_take (i := 17) (oi := ⟨some 87, _, _, _, _, _⟩) (v := ?_) rfl (by kernel_rfl) (by kernel_rfl) (by kernel_rfl) (fun _ _ _ h => h) (Or.inl ⟨by rfl, ?_⟩) (by assumption) ?_
                    rotate_left
                    · (intro w hSw; (try dsimp only at hSw); go_simp; (try with_reducible rfl))
                    simp only [Act.put, List.setIfInBounds_toArray, List.set_cons_zero, List.set_cons_succ]
                    refine wpAnyH_ready (rs := [0, 13]) (by kernel_rfl) (by simp) ?_
                    refine AllReadyH.cons (o := ⟨some 70, _, _, _, _, _⟩) rfl (fun KK hK => ?_) (AllReadyH.cons (o := ⟨some 83, _, _, _, _, _⟩) rfl (fun KK hK => ?_) (AllReadyH.nil))
                    · go_simp
                      change KK _ (w3.alloc (.cells #[] 2))
                      replace H := Lib.hid H.out.empty
                      generalize w3.alloc (.cells #[] 2) = WX1 at H ⊢
                      generalize w3.heap.size = e1 at H ⊢
                      refine hK.out _ _ (HSS.out _ H.out.bel) (fun hHeld => ?_)
                      clear hK; try clear KK
                      try simp only [Act.put, List.setIfInBounds_toArray, List.set_cons_zero, List.set_cons_succ]
                      refine wpAnyH_ready (rs := [4, 13]) (by kernel_rfl) (by simp) ?_
                      refine AllReadyH.cons (o := ⟨some 74, _, _, _, _, _⟩) rfl (fun KK hK => ?_) (AllReadyH.cons (o := ⟨some 83, _, _, _, _, _⟩) rfl (fun KK hK => ?_) (AllReadyH.nil))
                      · refine GA.src H.out (by rfl) _ _ _ (by rfl) i0 (.int .i64 0) 8 Try.underlying34 hi0 hz0 hz1 hz2 (by rfl) (by decide) (by rfl) _ _ _ _ (by rfl) HTL.out (fun hm => HTS.out _ hm H.out.bel) HT1.out (by unfold maxLen; omega) (by omega) ?_
                        intro g1 cap1 WX2 H'
                        rw [Nat.zero_add, List.nil_append] at H'
                        rw [Nat.zero_add]
                        replace H := Lib.hid H'
                        clear H'
                        refine hK.out _ _ (HSS.out _ H.out.bel) (fun hHeld => ?_)
                        clear hK; try clear KK
                        try simp only [Act.put, List.setIfInBounds_toArray, List.set_cons_zero, List.set_cons_succ]
                        refine wpAnyH_ready (rs := [13]) (by kernel_rfl) (by simp) ?_
                        refine AllReadyH.cons (o := ⟨some 83, _, _, _, _, _⟩) rfl (fun KK hK => ?_) AllReadyH.nil
                        go_simp
                        change KK _ (WX2.alloc (.cells (c1 x) 2))
                        replace H := Lib.hid (H.out.new (c1 x))
                        generalize WX2.alloc (.cells (c1 x) 2) = WX3 at H ⊢
                        generalize WX2.heap.size = nb1 at H ⊢
                        refine hK.out _ _ (HSS.out _ H.out.bel) (fun hHeld => ?_)
                        clear hK; try clear KK
                        try simp only [Act.put, List.setIfInBounds_toArray, List.set_cons_zero, List.set_cons_succ]
                        refine wpAnyH_ready (rs := [14]) (by kernel_rfl) (by simp) ?_
                        refine AllReadyH.cons (o := ⟨some 84, _, _, _, _, _⟩) rfl (fun KK hK => ?_) AllReadyH.nil
                        refine GA.app H.out (by rfl) _ _ _ (by rfl) i0 (.int .i64 0) 8 Try.underlying34 hi0 hz0 hz1 hz2 (by rfl) (by decide) (by rfl) (by rfl) (c1_size _) (one_i64 x) (by unfold maxLen; omega) (by omega) ?_
                        intro g2 cap2 WX4 H'
                        replace H := Lib.hid H'
                        clear H'
                        refine hK.out _ _ (HSS.out _ H.out.bel) (fun hHeld => ?_)
                        clear hK; try clear KK
                        try simp only [Act.put, List.setIfInBounds_toArray, List.set_cons_zero, List.set_cons_succ]
                        refine wpAnyH_ready (rs := [18]) (by kernel_rfl) (by simp) ?_
                        refine AllReadyH.cons (o := ⟨some 88, _, _, _, _, _⟩) rfl (fun KK hK => ?_) AllReadyH.nil
                        refine GA.src H.out (by rfl) _ _ _ (by rfl) i0 (.int .i64 0) 8 Try.underlying34 hi0 hz0 hz1 hz2 (by rfl) (by decide) (by rfl) _ _ _ _ (by rfl) HDL.out (fun hm => HDS.out _ hm H.out.bel) HD1.out (by unfold maxLen; omega) (by omega) ?_
                        intro g3 cap3 WX5 H'
                        replace H := Lib.hid H'
                        clear H'
                        refine hK.out _ _ (HSS.out _ H.out.bel) (fun hHeld => ?_)
                        clear hK; try clear KK
                        try simp only [Act.put, List.setIfInBounds_toArray, List.set_cons_zero, List.set_cons_succ]
                        refine wpAnyH_take (i := 19) (oi := ⟨some 5, _, _, _, _, _⟩) (v := ?_) rfl (by kernel_rfl) (by kernel_rfl) (by kernel_rfl) (fun _ _ _ h => h) (Or.inl ⟨by rfl, ?_⟩) (by assumption) ?_
                        rotate_left
                        · (intro w hSw; (try dsimp only at hSw); go_simp; (try with_reducible rfl))
                        simp only [Act.put, List.setIfInBounds_toArray, List.set_cons_zero, List.set_cons_succ]
                        refine wpAnyH_done (by kernel_rfl) ?_ _
                        replace H := Lib.hid (HOS.out.grown (HN0.out ▸ H.out) HLEN.out HROW.out HNE.out)
                        clear HOS
                        go_wp2_with fail
                        go_roundw
                        case rel => exact ⟨i + 1, by omega, by go_num, by rw [HN.out, HIN.out]; exact H.out⟩
                        case measure => simp [intOf]; omega
                      · go_simp
                        change KK _ (WX1.alloc (.cells (c1 x) 2))
                        replace H := Lib.hid (H.out.new (c1 x))
                        generalize WX1.alloc (.cells (c1 x) 2) = WX6 at H ⊢
                        generalize WX1.heap.size = nb1 at H ⊢
                        refine hK.out _ _ (HSS.out _ H.out.bel) (fun hHeld => ?_)
                        clear hK; try clear KK
                        try simp only [Act.put, List.setIfInBounds_toArray, List.set_cons_zero, List.set_cons_succ]
                        refine wpAnyH_ready (rs := [4]) (by kernel_rfl) (by simp) ?_
                        refine AllReadyH.cons (o := ⟨some 74, _, _, _, _, _⟩) rfl (fun KK hK => ?_) AllReadyH.nil
                        refine GA.src H.out (by rfl) _ _ _ (by rfl) i0 (.int .i64 0) 8 Try.underlying34 hi0 hz0 hz1 hz2 (by rfl) (by decide) (by rfl) _ _ _ _ (by rfl) HTL.out (fun hm => HTS.out _ hm H.out.bel) HT1.out (by unfold maxLen; omega) (by omega) ?_
                        intro g1 cap1 WX7 H'
                        rw [Nat.zero_add, List.nil_append] at H'
                        rw [Nat.zero_add]
                        replace H := Lib.hid H'
                        clear H'
                        refine hK.out _ _ (HSS.out _ H.out.bel) (fun hHeld => ?_)
                        clear hK; try clear KK
                        try simp only [Act.put, List.setIfInBounds_toArray, List.set_cons_zero, List.set_cons_succ]
                        refine wpAnyH_ready (rs := [14]) (by kernel_rfl) (by simp) ?_
                        refine AllReadyH.cons (o := ⟨some 84, _, _, _, _, _⟩) rfl (fun KK hK => ?_) AllReadyH.nil
                        refine GA.app H.out (by rfl) _ _ _ (by rfl) i0 (.int .i64 0) 8 Try.underlying34 hi0 hz0 hz1 hz2 (by rfl) (by decide) (by rfl) (by rfl) (c1_size _) (one_i64 x) (by unfold maxLen; omega) (by omega) ?_
                        intro g2 cap2 WX8 H'
                        replace H := Lib.hid H'
                        clear H'
                        refine hK.out _ _ (HSS.out _ H.out.bel) (fun hHeld => ?_)
                        clear hK; try clear KK
                        try simp only [Act.put, List.setIfInBounds_toArray, List.set_cons_zero, List.set_cons_succ]
                        refine wpAnyH_ready (rs := [18]) (by kernel_rfl) (by simp) ?_
                        refine AllReadyH.cons (o := ⟨some 88, _, _, _, _, _⟩) rfl (fun KK hK => ?_) AllReadyH.nil
                        refine GA.src H.out (by rfl) _ _ _ (by rfl) i0 (.int .i64 0) 8 Try.underlying34 hi0 hz0 hz1 hz2 (by rfl) (by decide) (by rfl) _ _ _ _ (by rfl) HDL.out (fun hm => HDS.out _ hm H.out.bel) HD1.out (by unfold maxLen; omega) (by omega) ?_
                        intro g3 cap3 WX9 H'
                        replace H := Lib.hid H'
                        clear H'
                        refine hK.out _ _ (HSS.out _ H.out.bel) (fun hHeld => ?_)
                        clear hK; try clear KK
                        try simp only [Act.put, List.setIfInBounds_toArray, List.set_cons_zero, List.set_cons_succ]
                        refine wpAnyH_take (i := 19) (oi := ⟨some 5, _, _, _, _, _⟩) (v := ?_) rfl (by kernel_rfl) (by kernel_rfl) (by kernel_rfl) (fun _ _ _ h => h) (Or.inl ⟨by rfl, ?_⟩) (by assumption) ?_
                        rotate_left
                        · (intro w hSw; (try dsimp only at hSw); go_simp; (try with_reducible rfl))
                        simp only [Act.put, List.setIfInBounds_toArray, List.set_cons_zero, List.set_cons_succ]
                        refine wpAnyH_done (by kernel_rfl) ?_ _
                        replace H := Lib.hid (HOS.out.grown (HN0.out ▸ H.out) HLEN.out HROW.out HNE.out)
                        clear HOS
                        go_wp2_with fail
                        go_roundw
                        case rel => exact ⟨i + 1, by omega, by go_num, by rw [HN.out, HIN.out]; exact H.out⟩
                        case measure => simp [intOf]; omega
                    · go_simp
                      change KK _ (w3.alloc (.cells (c1 x) 2))
                      replace H := Lib.hid (H.out.new (c1 x))
                      generalize w3.alloc (.cells (c1 x) 2) = WX10 at H ⊢
                      generalize w3.heap.size = nb1 at H ⊢
                      refine hK.out _ _ (HSS.out _ H.out.bel) (fun hHeld => ?_)
                      clear hK; try clear KK
                      try simp only [Act.put, List.setIfInBounds_toArray, List.set_cons_zero, List.set_cons_succ]
                      refine wpAnyH_ready (rs := [0]) (by kernel_rfl) (by simp) ?_
                      refine AllReadyH.cons (o := ⟨some 70, _, _, _, _, _⟩) rfl (fun KK hK => ?_) AllReadyH.nil
                      go_simp
                      change KK _ (WX10.alloc (.cells #[] 2))
                      replace H := Lib.hid H.out.empty
                      generalize WX10.alloc (.cells #[] 2) = WX11 at H ⊢
                      generalize WX10.heap.size = e1 at H ⊢
                      refine hK.out _ _ (HSS.out _ H.out.bel) (fun hHeld => ?_)
                      clear hK; try clear KK
                      try simp only [Act.put, List.setIfInBounds_toArray, List.set_cons_zero, List.set_cons_succ]
                      refine wpAnyH_ready (rs := [4]) (by kernel_rfl) (by simp) ?_
                      refine AllReadyH.cons (o := ⟨some 74, _, _, _, _, _⟩) rfl (fun KK hK => ?_) AllReadyH.nil
                      refine GA.src H.out (by rfl) _ _ _ (by rfl) i0 (.int .i64 0) 8 Try.underlying34 hi0 hz0 hz1 hz2 (by rfl) (by decide) (by rfl) _ _ _ _ (by rfl) HTL.out (fun hm => HTS.out _ hm H.out.bel) HT1.out (by unfold maxLen; omega) (by omega) ?_
                      intro g1 cap1 WX12 H'
                      rw [Nat.zero_add, List.nil_append] at H'
                      rw [Nat.zero_add]
                      replace H := Lib.hid H'
                      clear H'
                      refine hK.out _ _ (HSS.out _ H.out.bel) (fun hHeld => ?_)
                      clear hK; try clear KK
                      try simp only [Act.put, List.setIfInBounds_toArray, List.set_cons_zero, List.set_cons_succ]
                      refine wpAnyH_ready (rs := [14]) (by kernel_rfl) (by simp) ?_
                      refine AllReadyH.cons (o := ⟨some 84, _, _, _, _, _⟩) rfl (fun KK hK => ?_) AllReadyH.nil
                      refine GA.app H.out (by rfl) _ _ _ (by rfl) i0 (.int .i64 0) 8 Try.underlying34 hi0 hz0 hz1 hz2 (by rfl) (by decide) (by rfl) (by rfl) (c1_size _) (one_i64 x) (by unfold maxLen; omega) (by omega) ?_
                      intro g2 cap2 WX13 H'
                      replace H := Lib.hid H'
                      clear H'
                      refine hK.out _ _ (HSS.out _ H.out.bel) (fun hHeld => ?_)
                      clear hK; try clear KK
                      try simp only [Act.put, List.setIfInBounds_toArray, List.set_cons_zero, List.set_cons_succ]
                      refine wpAnyH_ready (rs := [18]) (by kernel_rfl) (by simp) ?_
                      refine AllReadyH.cons (o := ⟨some 88, _, _, _, _, _⟩) rfl (fun KK hK => ?_) AllReadyH.nil
                      refine GA.src H.out (by rfl) _ _ _ (by rfl) i0 (.int .i64 0) 8 Try.underlying34 hi0 hz0 hz1 hz2 (by rfl) (by decide) (by rfl) _ _ _ _ (by rfl) HDL.out (fun hm => HDS.out _ hm H.out.bel) HD1.out (by unfold maxLen; omega) (by omega) ?_
                      intro g3 cap3 WX14 H'
                      replace H := Lib.hid H'
                      clear H'
                      refine hK.out _ _ (HSS.out _ H.out.bel) (fun hHeld => ?_)
                      clear hK; try clear KK
                      try simp only [Act.put, List.setIfInBounds_toArray, List.set_cons_zero, List.set_cons_succ]
                      refine wpAnyH_take (i := 19) (oi := ⟨some 5, _, _, _, _, _⟩) (v := ?_) rfl (by kernel_rfl) (by kernel_rfl) (by kernel_rfl) (fun _ _ _ h => h) (Or.inl ⟨by rfl, ?_⟩) (by assumption) ?_
                      rotate_left
                      · (intro w hSw; (try dsimp only at hSw); go_simp; (try with_reducible rfl))
                      simp only [Act.put, List.setIfInBounds_toArray, List.set_cons_zero, List.set_cons_succ]
                      refine wpAnyH_done (by kernel_rfl) ?_ _
                      replace H := Lib.hid (HOS.out.grown (HN0.out ▸ H.out) HLEN.out HROW.out HNE.out)
                      clear HOS
                      go_wp2_with fail
                      go_roundw
                      case rel => exact ⟨i + 1, by omega, by go_num, by rw [HN.out, HIN.out]; exact H.out⟩
                      case measure => simp [intOf]; omega
      · have b1 : (x1 != k1) = true := by simpa using h1
        have b1' : (x1 == k1) = false := by simpa using h1
        clear h1
        have HN := Lib.hid (show openD k1 (l.take (i + 1)) = openD k1 (l.take i) by rw [HT.out, openD_snoc, HL.out]; rw [b1']; rfl)
        go_wp2_with fail
        go_roundw
        case rel => exact ⟨i + 1, by omega, by go_num, by rw [HN.out]; exact H.out⟩
        case measure => simp [intOf]; omega
    · obtain rfl : i = l.length := by omega
      clear hrows
      rw [List.take_length] at H
      go_wp2_with fail
      go_ret
      exact ⟨_, rfl, H.out⟩
end Go.Proofs.Ytmkcooamgojbpaa.Ledger
