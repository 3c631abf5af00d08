/- Parts of the proof: ShText, ShLineP, ShTextR. -/
import Derived.Test.YtmkcooamgojbpaaGreatDoorPart22
import Derived.Test.YtmkcooamgojbpaaGreatDoorPart26
import Derived.Test.YtmkcooamgojbpaaGreatDoorPart24
import Derived.Test.YtmkcooamgojbpaaGreatDoorPart13
import Derived.Test.YtmkcooamgojbpaaGreatDoorPart27
import Derived.Test.YtmkcooamgojbpaaGreatDoorPart17

/- sheet.text, and a part's line. -/
namespace Go.Proofs.YtmkcooamgojbpaaGreatDoor.Sheet
open Go.RowKit Go.Proofs.YtmkcooamgojbpaaGreatDoor.Kit Go.Proofs.YtmkcooamgojbpaaGreatDoor.Blk Go.Proofs.YtmkcooamgojbpaaGreatDoor.Words Go.Proofs.YtmkcooamgojbpaaGreatDoor.Octets Go.Proofs.YtmkcooamgojbpaaGreatDoor.Lines Go.Proofs.YtmkcooamgojbpaaGreatDoor.Dec
attribute [local go_sem ↓] Go.wp_at_zero Go.wp_at_succ
set_option linter.unusedVariables false

def pTick : Txt := [116, 105, 99, 107, 32]
theorem trim_tick (t : Txt) : Lib.trimPrefix ([116, 105, 99, 107] ++ 32 :: t) pTick = t := by
  unfold Lib.trimPrefix
  rw [if_pos (by simp [Lib.hasPrefix, pTick])]
  rfl
theorem trim_any (l : Txt) (w : World) : Calls Tryz.prog 49 #[.string (strB l), .string ⟨#[116, 105, 99, 107, 32]⟩] w fun e w' => e = .returned (.string (strB (Lib.trimPrefix l pTick))) ∧ w' = w := by
  have h := Shelf.strings_TrimPrefix (strB l) ⟨#[116, 105, 99, 107, 32]⟩ w
  rw [strB_list] at h
  exact h
theorem text_any (n : Int) (hn : nat64 n) (w : World) : Calls Tryz.prog 21 #[.int .i64 n] w fun e w' => e = .returned (.string (strB (decB n))) ∧ Below w.heap.size w w' := by
  have HL := Lib.hid (line_tick n (by have := hn.1; omega) hn.2 w)
  have HT := Lib.hid (fun W => trim_any ([116, 105, 99, 107] ++ 32 :: decB n) W)
  rw [trim_tick] at HT
  unfold LineIs at HL
  simp only [Option.getD_some, Option.isSome_some, if_true] at HL
  unfold stepV at HL
  generalize strB ([116, 105, 99, 107] ++ 32 :: decB n) = x at HL HT
  generalize strB (decB n) = y at HT ⊢
  go_enter Tryz.func21, Tryz.ntmps21
  go_wp2_with fail
  refine HL.out.mono ?_
  rintro e w1 ⟨rfl, hb⟩
  have HB := Lib.hid hb
  clear hb
  go_wp2_with fail
  refine (HT.out w1).mono ?_
  rintro e w2 ⟨rfl, rfl⟩
  go_wp2_with fail
  go_ret
  exact ⟨rfl, HB.out⟩
theorem join_len : ∀ (ws : List Txt) (x : Txt), (∀ y ∈ ws, y.length ≤ 20) → (joinW 32 (x :: ws)).length ≤ x.length + 21 * ws.length
  | [], x, _ => by simp [joinW]
  | y :: ws, x, h => by
    have h1 := join_len ws y fun z hz => h z (List.mem_cons_of_mem _ hz)
    have h2 := h y List.mem_cons_self
    rw [join_cons (by simp)]
    simp at h1 ⊢
    omega
theorem lineP_len (x : Txt) (ns : List Int) (h : ∀ n ∈ ns, nat64 n) : (lineP x ns).length ≤ x.length + 21 * ns.length := by
  have := join_len (ns.map decB) x (by
    intro y hy
    obtain ⟨n, hn, rfl⟩ := List.mem_map.1 hy
    exact dec_len (by have := (h n hn).1; omega) (h n hn).2)
  rw [List.length_map] at this
  exact this
end Go.Proofs.YtmkcooamgojbpaaGreatDoor.Sheet

/- (sheet.part).line: a word, and numbers. -/
namespace Go.Proofs.YtmkcooamgojbpaaGreatDoor.Sheet
open Go.RowKit Go.Proofs.YtmkcooamgojbpaaGreatDoor.Kit Go.Proofs.YtmkcooamgojbpaaGreatDoor.Blk Go.Proofs.YtmkcooamgojbpaaGreatDoor.Words Go.Proofs.YtmkcooamgojbpaaGreatDoor.Octets Go.Proofs.YtmkcooamgojbpaaGreatDoor.Lines Go.Proofs.YtmkcooamgojbpaaGreatDoor.Dec
attribute [local go_sem ↓] Go.wp_at_zero Go.wp_at_succ
set_option linter.unusedVariables false

theorem strs_row {w W : World} {g cap : Nat} {ws : List Txt} {n : Nat} (hn : n = ws.length) (h : W.ownsRow w.heap.size 9 1 (.slice (some ⟨g, 0, none⟩) n cap) n (strs ws)) : n ≤ cap ∧ g < W.heap.size ∧ ∀ j x, (ws.map strB)[j]? = some x → W.cell? ⟨g, 0 + j, none⟩ = some (.string x) := by
  refine ⟨?_, (World.ownsRow.lt h g rfl).2, fun j x hx => ?_⟩
  · rcases h.2 with ⟨e, -⟩ | ⟨g', cap', cur, e, _, _, hc, _⟩
    · cases e
    · injection e with _ _ e3; omega
  · have hc := World.ownsRow.cells h rfl
    rw [Nat.zero_add]
    have := hc j (.string x) (by
      simp only [strs, List.getElem?_map] at hx ⊢
      cases hw : ws[j]? with
      | none => rw [hw] at hx; cases hx
      | some y => rw [hw] at hx; simp at hx ⊢; exact hx)
    rwa [Addr.add_mid, Nat.zero_add] at this
def LinePIs (x : Txt) (ns : List Int) (w : World) (e : Ending) (w' : World) : Prop := e = .returned (.string (strB (lineP x ns))) ∧ Below w.heap.size w w'
set_option maxRecDepth 20000 in
set_option maxHeartbeats 2000000 in
theorem line_any (x : Txt) (hxl : x.length ≤ 1000) (B : Nat) (q : List (Bool × Nat)) (ns : List Int) (hq : q.length = ns.length) (hql : q.length ≤ 100) (v : Value) (w : World) (hn : NAt w.heap.size v (atB B q) w)
    (hc : ∀ k, (h : k < q.length) → w.cell? ⟨B, (q[k]).2, none⟩ = some (.int .i64 (ns.getD k 0))) (hnat : ∀ n ∈ ns, nat64 n) :
    Calls Tryz.prog 20 #[.agg #[.string (strB x), v]] w (LinePIs x ns w) := by
  obtain ⟨i0, hi0, hz0, hz1, hz2⟩ := info_parts infoStr
  obtain ⟨g, c, rfl, hg, hcells⟩ := hn
  have hlq : (atB B q).length = q.length := by simp [atB]
  rw [hlq]
  have HLN := Lib.hid (lineP_len x ns hnat)
  have HB1 := Lib.hid (show Below w.heap.size w ((w.alloc (.cells #[.string (strB x), .slice (some ⟨g, 0, none⟩) q.length c] 62)).alloc (.cells #[.string (strB x)] 9)) from ((Below.refl _ _).alloc (Nat.le_refl _) _).alloc (by simp) _)
  have HX1 := Lib.hid ((Blk.new w #[.string (strB x), .slice (some ⟨g, 0, none⟩) q.length c] 62 w.heap.size rfl).old (.cells #[.string (strB x)] 9))
  have HGL0 := Lib.hid (show GL w.heap.size 9 1 w ((w.alloc (.cells #[.string (strB x), .slice (some ⟨g, 0, none⟩) q.length c] 62)).alloc (.cells #[.string (strB x)] 9)) (.slice (some ⟨w.heap.size + 1, 0, none⟩) 1 1) 1 (strs ([x] ++ (ns.take 0).map decB)) from
    ⟨by
      have := World.ownsRow_lit (base := w.heap.size) (e := 9) (size := 1) (w.alloc (.cells #[.string (strB x), .slice (some ⟨g, 0, none⟩) q.length c] 62)) #[.string (strB x)] 1 (by simp) (by simp [maxLen]) rfl
      simpa [strs] using this, HB1.out, by simp; omega, fun e => by cases e⟩)
  have HAT := Lib.hid (fun k (hk : k < q.length) => show w.rangeAt g (k * 2) (numC ((q[k]).1, ⟨B, (q[k]).2, none⟩)).toList from by
    have h := nums_at hcells k (by rw [hlq]; exact hk)
    have e : (atB B q)[k]'(by rw [hlq]; exact hk) = ((q[k]).1, ⟨B, (q[k]).2, none⟩) := by simp [atB]
    rwa [e] at h)
  have HCC := Lib.hid hc
  have HG := Lib.hid hg
  have HNT := Lib.hid hnat
  have HQ := Lib.hid hq
  clear hcells hc hg hnat hq hlq
  go_enter Tryz.func20, Tryz.ntmps20
  go_upto_region 2 with fail
  change Code.wp _ _ _ _ ((w.alloc (.cells #[.string (strB x), .slice (some ⟨g, 0, none⟩) q.length c] 62)).alloc (.cells #[.string (strB x)] 9))
  generalize (w.alloc (.cells #[.string (strB x), .slice (some ⟨g, 0, none⟩) q.length c] 62)).alloc (.cells #[.string (strB x)] 9) = w1 at HB1 HX1 HGL0 ⊢
  have c1 : w1.cell? ⟨w.heap.size, 1, none⟩ = some (.slice (some ⟨g, 0, none⟩) q.length c) := HX1.out.cell 1 rfl
  go_wp2_with fail
  clear c1
  go_loopw [3, 12] (fun o i wr => ∃ k : Nat, k ≤ q.length ∧ i = .int .i64 ((k : Nat) : Int) ∧ GL w.heap.size 9 1 w wr o (k + 1) (strs ([x] ++ (ns.take k).map decB))) (fun _ i _ => q.length - (intOf i).toNat)
  case atStart => exact ⟨0, by omega, rfl, HGL0.out⟩
  case round =>
    obtain ⟨k, hk, rfl, hgl⟩ := hrel
    have HGL := Lib.hid hgl
    obtain ⟨ga, cp, rfl⟩ : ∃ a c, u3 = .slice (some ⟨a, 0, none⟩) (k + 1) c := by
      obtain ⟨g', cap, e, -⟩ := World.ownsRow.form hgl.own (by omega)
      exact ⟨_, _, e⟩
    clear hgl HGL0 HB1 HX1
    by_cases hlt : k < q.length
    · have hkl : (k : Int) < (q.length : Int) := by omega
      have hkn : k < ns.length := by have := HQ.out; omega
      have hat : wr.rangeAt g (k * 2) (numC ((q[k]).1, ⟨B, (q[k]).2, none⟩)).toList := fun j v hv => (HGL.out.bel.cell (p := ⟨g, _, none⟩) HG.out).trans (HAT.out k hlt j v hv)
      have HCJ := Lib.hid (show wr.cell? ⟨B, (q[k]).2, none⟩ = some (.int .i64 ns[k]) by rw [HGL.out.bel.cell (p := ⟨B, _, none⟩) (World.block_lt_of_cell? w _ (HCC.out k hlt))]; rw [HCC.out k hlt]; simp [hkn])
      have HSA := Lib.hid (show strs ([x] ++ (ns.take (k + 1)).map decB) = strs ([x] ++ (ns.take k).map decB) ++ [.string (strB (decB ns[k]))] by
        rw [List.take_succ_eq_append_getElem hkn, List.map_append, ← List.append_assoc]
        exact strs_app _ _)
      have HTX := Lib.hid (text_any ns[k] (HNT.out _ (List.getElem_mem hkn)))
      generalize ns[k] = nn at HCJ HSA HTX
      generalize q[k] = y at hat HCJ
      obtain ⟨fl, jj⟩ := y
      dsimp only at hat HCJ
      cases fl with
      | true =>
        have hx : numC (true, ⟨B, jj, none⟩) = #[.pointer (some ⟨B, jj, none⟩), .pointer none] := rfl
        have H1 := Lib.hid (show wr.rangeAt g (k * 2) (#[.pointer (some ⟨B, jj, none⟩), .pointer none] : Array Value).toList from by have := hat; rw [hx] at this; exact this)
        clear hat
        have HA := Lib.hid ((Below.refl wr.heap.size wr).alloc (Nat.le_refl _) (.cells #[.pointer (some ⟨B, jj, none⟩), .pointer none] 107))
        have HX := Lib.hid (Blk.new wr #[.pointer (some ⟨B, jj, none⟩), .pointer none] 107 wr.heap.size rfl)
        have HG := Lib.hid (fun W (hc : W.cell? ⟨B, jj, none⟩ = some (.int .i64 nn)) => show Calls Tryz.prog 55 #[.agg #[.pointer (some ⟨B, jj, none⟩), .pointer none]] W _ from get_any true B jj nn W hc)
        go_upto_region 5 with (refine wpList_load_mid rfl 107 _ rfl _ _ rfl _ _ H1.out Tryz.underlying107 rfl (by kernel_rfl) ?_)
        change Code.wp _ _ _ _ (wr.alloc (.cells #[.pointer (some ⟨B, jj, none⟩), .pointer none] 107))
        have HC5 := Lib.hid (show (wr.alloc (.cells #[.pointer (some ⟨B, jj, none⟩), .pointer none] 107)).cell? ⟨B, jj, none⟩ = some (.int .i64 nn) by rw [HA.out.cell (p := ⟨B, jj, none⟩) (World.block_lt_of_cell? wr _ HCJ.out)]; exact HCJ.out)
        have HL5 := Lib.hid (HGL.out.below HA.out)
        clear H1 HA HGL
        generalize wr.alloc (.cells #[.pointer (some ⟨B, jj, none⟩), .pointer none] 107) = w5 at HX HC5 HL5 ⊢
        go_wp2_with (refine load_blk (by rfl) 107 _ (by rfl) wr.heap.size (by rfl) _ _ HX.out _ Tryz.underlying107 rfl (by kernel_rfl) ?_)
        refine (HG.out w5 HC5.out).mono ?_
        rintro e w6 ⟨rfl, hb6⟩
        have HL6 := Lib.hid (HL5.out.below hb6)
        clear hb6 HX HC5 HL5 HG
        go_wp2_with fail
        refine (HTX.out w6).mono ?_
        rintro e w7 ⟨rfl, hb7⟩
        have HL7 := Lib.hid (HL6.out.below hb7)
        have HNB := Lib.hid (HL7.out.new #[.string (strB (decB nn))])
        clear hb7 HL6 HTX
        generalize strB (decB nn) = zz at HNB HSA ⊢
        go_wp2_with (at_builtin; refine GN.wp HNB.out rfl _ _ 52 (by rfl) i0 (.string ByteArray.empty) 16 Tryz.underlying52 hi0 hz0 hz1 hz2 rfl (by decide) (by rfl) (by rfl) rfl (by simp [Value.oneCell']) (by unfold maxLen; omega) (by omega) ?_; intro g5 cap5 w9 H9; replace H9 := Lib.hid H9)
        go_roundw
        case rel => exact ⟨k + 1, by omega, by go_num, by rw [HSA.out]; exact H9.out⟩
        case measure => simp [intOf]; omega
      | false =>
        have hx : numC (false, ⟨B, jj, none⟩) = #[.pointer none, .pointer (some ⟨B, jj, none⟩)] := rfl
        have H1 := Lib.hid (show wr.rangeAt g (k * 2) (#[.pointer none, .pointer (some ⟨B, jj, none⟩)] : Array Value).toList from by have := hat; rw [hx] at this; exact this)
        clear hat
        have HA := Lib.hid ((Below.refl wr.heap.size wr).alloc (Nat.le_refl _) (.cells #[.pointer none, .pointer (some ⟨B, jj, none⟩)] 107))
        have HX := Lib.hid (Blk.new wr #[.pointer none, .pointer (some ⟨B, jj, none⟩)] 107 wr.heap.size rfl)
        have HG := Lib.hid (fun W (hc : W.cell? ⟨B, jj, none⟩ = some (.int .i64 nn)) => show Calls Tryz.prog 55 #[.agg #[.pointer none, .pointer (some ⟨B, jj, none⟩)]] W _ from get_any false B jj nn W hc)
        go_upto_region 5 with (refine wpList_load_mid rfl 107 _ rfl _ _ rfl _ _ H1.out Tryz.underlying107 rfl (by kernel_rfl) ?_)
        change Code.wp _ _ _ _ (wr.alloc (.cells #[.pointer none, .pointer (some ⟨B, jj, none⟩)] 107))
        have HC5 := Lib.hid (show (wr.alloc (.cells #[.pointer none, .pointer (some ⟨B, jj, none⟩)] 107)).cell? ⟨B, jj, none⟩ = some (.int .i64 nn) by rw [HA.out.cell (p := ⟨B, jj, none⟩) (World.block_lt_of_cell? wr _ HCJ.out)]; exact HCJ.out)
        have HL5 := Lib.hid (HGL.out.below HA.out)
        clear H1 HA HGL
        generalize wr.alloc (.cells #[.pointer none, .pointer (some ⟨B, jj, none⟩)] 107) = w5 at HX HC5 HL5 ⊢
        go_wp2_with (refine load_blk (by rfl) 107 _ (by rfl) wr.heap.size (by rfl) _ _ HX.out _ Tryz.underlying107 rfl (by kernel_rfl) ?_)
        refine (HG.out w5 HC5.out).mono ?_
        rintro e w6 ⟨rfl, hb6⟩
        have HL6 := Lib.hid (HL5.out.below hb6)
        clear hb6 HX HC5 HL5 HG
        go_wp2_with fail
        refine (HTX.out w6).mono ?_
        rintro e w7 ⟨rfl, hb7⟩
        have HL7 := Lib.hid (HL6.out.below hb7)
        have HNB := Lib.hid (HL7.out.new #[.string (strB (decB nn))])
        clear hb7 HL6 HTX
        generalize strB (decB nn) = zz at HNB HSA ⊢
        go_wp2_with (at_builtin; refine GN.wp HNB.out rfl _ _ 52 (by rfl) i0 (.string ByteArray.empty) 16 Tryz.underlying52 hi0 hz0 hz1 hz2 rfl (by decide) (by rfl) (by rfl) rfl (by simp [Value.oneCell']) (by unfold maxLen; omega) (by omega) ?_; intro g5 cap5 w9 H9; replace H9 := Lib.hid H9)
        go_roundw
        case rel => exact ⟨k + 1, by omega, by go_num, by rw [HSA.out]; exact H9.out⟩
        case measure => simp [intOf]; omega
    · obtain rfl : k = q.length := by omega
      obtain ⟨h1, h2, h3⟩ := strs_row (ws := [x] ++ (ns.take q.length).map decB) (by have := HQ.out; simp; omega) HGL.out.own
      have e1 : [x] ++ (ns.take q.length).map decB = x :: ns.map decB := by rw [HQ.out, List.take_length]; rfl
      rw [e1] at h3
      have HJ := Lib.hid (join_any ga cp (x :: ns.map decB) wr h2 (by have := HQ.out; simp; omega) (by have := HQ.out; simp; omega) (by have := HLN.out; unfold lineP at this; have := HQ.out; omega) h3)
      have HE := Lib.hid (show (x :: ns.map decB).length = q.length + 1 by have := HQ.out; simp; omega)
      have HBL := Lib.hid HGL.out.bel
      rw [HE.out] at HJ
      clear h1 h2 h3 e1 HGL
      go_wp2_with fail
      refine HJ.out.mono ?_
      rintro e w2 ⟨rfl, hb2⟩
      have HB2 := Lib.hid (HBL.out.trans (hb2.mono HBL.out.size))
      clear hb2
      go_wp2_with fail
      go_ret
      exact ⟨rfl, HB2.out⟩
end Go.Proofs.YtmkcooamgojbpaaGreatDoor.Sheet

/- damperref40.text, and line. -/
namespace Go.Proofs.YtmkcooamgojbpaaGreatDoor.Sheet
open Go.RowKit Go.Proofs.YtmkcooamgojbpaaGreatDoor.Kit Go.Proofs.YtmkcooamgojbpaaGreatDoor.Blk Go.Proofs.YtmkcooamgojbpaaGreatDoor.Words Go.Proofs.YtmkcooamgojbpaaGreatDoor.Octets Go.Proofs.YtmkcooamgojbpaaGreatDoor.Lines Go.Proofs.YtmkcooamgojbpaaGreatDoor.Dec
attribute [local go_sem ↓] Go.wp_at_zero Go.wp_at_succ
set_option linter.unusedVariables false

set_option maxRecDepth 20000 in
set_option maxHeartbeats 2000000 in
theorem rtext_any (n : Int) (hn : nat64 n) (w : World) : Calls Tryz.prog 64 #[.int .i64 n] w fun e w' => e = .returned (.string (strB (decB n))) ∧ Below w.heap.size w w' := by
  have h0 : -9223372036854775808 ≤ n := by have := hn.1; omega
  have hl := dec_len h0 hn.2
  have HT := Lib.hid (rline_tick n h0 hn.2 w)
  clear hn
  go_enter Tryz.func64, Tryz.ntmps64
  go_wp2_with fail
  refine HT.out.mono ?_
  rintro e w1 ⟨rfl, hb⟩
  have HB := Lib.hid hb
  clear hb
  have z1 : (strB ([116, 105, 99, 107] ++ 32 :: decB n)).size = (decB n).length + 5 := by rw [strB_size]; simp
  have z2 : (strB ([116, 105, 99, 107] ++ 32 :: decB n)).extract 5 ((decB n).length + 5) = strB (decB n) := by
    apply ByteArray.ext
    simp [strB]
  simp only [Option.getD_some]
  generalize strB ([116, 105, 99, 107] ++ 32 :: decB n) = S at z1 z2 ⊢
  go_wp2_with fail
  go_ret
  exact ⟨rfl, HB.out⟩
theorem join_snoc : ∀ (l : List Txt) (x y : Txt), joinW 32 (x :: (l ++ [y])) = joinW 32 (x :: l) ++ 32 :: y
  | [], x, y => by rw [List.nil_append, join_cons (by simp)]; rfl
  | z :: l, x, y => by
    have e1 : joinW 32 (x :: (z :: l ++ [y])) = x ++ 32 :: joinW 32 (z :: (l ++ [y])) := join_cons (by simp)
    have e2 : joinW 32 (x :: z :: l) = x ++ 32 :: joinW 32 (z :: l) := join_cons (by simp)
    rw [e1, e2, join_snoc l z y]
    simp
set_option maxRecDepth 20000 in
set_option maxHeartbeats 2000000 in
theorem rline_part (x : Txt) (hx : x.length ≤ 1000) (ns : List Int) (hl : ns.length ≤ 100) (hnat : ∀ n ∈ ns, nat64 n) (a : Option Addr) (c : Nat) (w : World) (hr : Nums w a ns) :
    Calls Tryz.prog 26 #[.string (strB x), .slice a ns.length c] w (LinePIs x ns w) := by
  have HR := Lib.hid hr
  have HN := Lib.hid hnat
  clear hr hnat
  go_enter Tryz.func26, Tryz.ntmps26
  go_wp2_with fail
  go_loopw [0, 5] (fun o i wr => ∃ k : Nat, k ≤ ns.length ∧ i = .int .i64 ((k : Nat) : Int) ∧ o = .string (strB (joinW 32 (x :: (ns.take k).map decB))) ∧ Below w.heap.size w wr) (fun _ i _ => ns.length - (intOf i).toNat)
  case atStart => exact ⟨0, by omega, rfl, rfl, Below.refl _ _⟩
  case round =>
    obtain ⟨k, hk, rfl, rfl, hb⟩ := hrel
    have HB := Lib.hid hb
    clear hb
    by_cases hlt : k < ns.length
    · have hkl : (k : Int) < (ns.length : Int) := by omega
      obtain ⟨b, off, rfl, hbl, hc⟩ := (HR.out.below HB.out) k hlt
      have HTX := Lib.hid (rtext_any ns[k] (HN.out _ (List.getElem_mem hlt)) wr)
      have HNX := Lib.hid (show joinW 32 (x :: (ns.take (k + 1)).map decB) = joinW 32 (x :: (ns.take k).map decB) ++ 32 :: decB ns[k] by
        rw [List.take_succ_eq_append_getElem hlt, List.map_append]
        exact join_snoc _ _ _)
      have hdl : (decB ns[k]).length ≤ 20 := dec_len (by have := (HN.out _ (List.getElem_mem hlt)).1; omega) (HN.out _ (List.getElem_mem hlt)).2
      have hjl : (joinW 32 (x :: (ns.take k).map decB)).length ≤ 3100 := by
        have h1 := join_len ((ns.take k).map decB) x (by
          intro y hy
          obtain ⟨n, hn, rfl⟩ := List.mem_map.1 hy
          have := HN.out n (List.mem_of_mem_take hn)
          exact dec_len (by have := this.1; omega) this.2)
        rw [List.length_map, List.length_take] at h1
        omega
      generalize ns[k] = nn at HTX HNX hdl hc
      obtain ⟨A, hA⟩ : ∃ A, strB (joinW 32 (x :: (ns.take k).map decB)) = A := ⟨_, rfl⟩
      obtain ⟨D, hD⟩ : ∃ D, strB (decB nn) = D := ⟨_, rfl⟩
      have sA : A.size ≤ 3100 := by rw [← hA, strB_size]; exact hjl
      have sD : D.size ≤ 20 := by rw [← hD, strB_size]; exact hdl
      have HE := Lib.hid (show A ++ ⟨#[32]⟩ ++ D = strB (joinW 32 (x :: (ns.take (k + 1)).map decB)) by rw [← hA, ← hD, HNX.out, show (⟨#[32]⟩ : ByteArray) = strB [32] from rfl, strB_app, strB_app, List.append_assoc]; rfl)
      rw [hD] at HTX
      rw [hA]
      obtain ⟨C, hC⟩ : ∃ C, A ++ ⟨#[32]⟩ = C := ⟨_, rfl⟩
      have sC : C.size ≤ 3101 := by rw [← hC, ByteArray.size_append]; show A.size + 1 ≤ _; omega
      have g1 : ¬ 9223372036854775807 < A.size + 1 := by omega
      have g2 : ¬ 9223372036854775807 < C.size + D.size := by omega
      rw [hC] at HE
      clear hA hD sA sD sC hjl hdl hbl HNX
      go_wp2_with fail
      refine HTX.out.mono ?_
      rintro e w2 ⟨rfl, hb2⟩
      have HB2 := Lib.hid (HB.out.trans (hb2.mono HB.out.size))
      clear hb2 HTX HB
      go_wp2_with fail
      go_roundw
      case rel => exact ⟨k + 1, by omega, by go_num, by rw [← HE.out], HB2.out⟩
      case measure => simp [intOf]; omega
    · obtain rfl : k = ns.length := by omega
      rw [List.take_length]
      go_wp2_with fail
      go_ret
      exact ⟨rfl, HB.out⟩
end Go.Proofs.YtmkcooamgojbpaaGreatDoor.Sheet
