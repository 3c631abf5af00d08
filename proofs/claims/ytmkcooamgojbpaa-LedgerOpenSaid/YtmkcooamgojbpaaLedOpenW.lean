/- damperlaw31.LedgerOpen: the walk. -/
import Derived.Test.YtmkcooamgojbpaaL31Q
import Derived.Test.YtmkcooamgojbpaaL31L
import Derived.Test.YtmkcooamgojbpaaLedOpenI
import Derived.Deep.DrawnRows
namespace Go.Proofs.Ytmkcooamgojbpaa.Ledger
open Go.RowKit Go.Shelf Go.ChangeMaps Go.Proofs.Ytmkcooamgojbpaa.Kit Go.Proofs.Ytmkcooamgojbpaa.Blk Go.Proofs.Ytmkcooamgojbpaa.Mp Go.Proofs.Ytmkcooamgojbpaa.Qty Go.Proofs.Ytmkcooamgojbpaa.Msgs Go.Proofs.Ytmkcooamgojbpaa.Iter Go.Proofs.Ytmkcooamgojbpaa.Own
attribute [local go_sem] Oper.semAt_some wide_fn
attribute [local go_sem ↓] Go.wp_at_zero Go.wp_at_succ
set_option linter.unusedVariables false

theorem owns_same {N T s n : Nat} {v : Value} {xs : List Value} {W W' : World} (h : W.ownsRow N T s v n xs) (hs : ∀ g, v.ownBlock = some g → W'.heap[g]? = W.heap[g]?) : W'.ownsRow N T s v n xs :=
  ⟨h.1, by
    rcases h.2 with ⟨e, h0⟩ | ⟨g, cap, cur, e, h1, h2, h3⟩
    · exact .inl ⟨e, h0⟩
    · exact .inr ⟨g, cap, cur, e, h1, (hs g (by subst e; rfl)).trans h2, h3⟩⟩
/-- Both ledgers. -/
structure PL (w W : World) (D b1 b2 b3 N R : Nat) (L : Led) (l es : List DRow) : Prop where
  ls : LS W D b1 b2 b3 L
  rs : ∃ v u, RS N W R l es v u
  bel : Below w.heap.size w W
  ge : w.heap.size ≤ D ∧ w.heap.size ≤ b1 ∧ w.heap.size ≤ b2 ∧ w.heap.size ≤ b3 ∧ w.heap.size ≤ R
  lt : D < N ∧ b1 < N ∧ b2 < N ∧ b3 < N
  ne : R ≠ D ∧ R ≠ b1 ∧ R ≠ b2 ∧ R ≠ b3
  le : N ≤ W.heap.size
section
variable {w W W' : World} {D b1 b2 b3 N R : Nat} {L L' : Led} {l es l' es' : List DRow}
theorem PL.below (h : PL w W D b1 b2 b3 N R L l es) (hb : Below W.heap.size W W') : PL w W' D b1 b2 b3 N R L l es :=
  ⟨h.ls.below hb, by obtain ⟨v, u, hr⟩ := h.rs; exact ⟨v, u, hr.below hb⟩, h.bel.trans (hb.mono h.bel.size), h.ge, h.lt, h.ne, Nat.le_trans h.le hb.size⟩
theorem PL.drew (h : PL w W D b1 b2 b3 N R L l es) : PL w W.drew D b1 b2 b3 N R L l es := h.below (Below.refl _ _).drew
theorem PL.put (h : PL w W D b1 b2 b3 N R L l es) (hl : LS W' D b1 b2 b3 L') (hc : Chg3 W.heap.size b1 b2 b3 W W') : PL w W' D b1 b2 b3 N R L' l es := by
  obtain ⟨g1, g2, g3, g4, g5⟩ := h.ge
  obtain ⟨t1, t2, t3, t4⟩ := h.lt
  obtain ⟨n1, n2, n3, n4⟩ := h.ne
  refine ⟨hl, ?_, h.bel.trans ⟨hc.os, hc.tape, hc.output, hc.size, fun k hk => hc.block k (Nat.lt_of_lt_of_le hk h.bel.size) (by omega) (by omega) (by omega)⟩, h.ge, h.lt, h.ne, Nat.le_trans h.le hc.size⟩
  obtain ⟨v, u, hr⟩ := h.rs
  have hrow : ∀ {v n xs}, W.ownsRow N 57 7 v n xs → W'.ownsRow N 57 7 v n xs := fun {v n xs} ho => owns_same ho fun g e => by
    have := ho.lt g e
    exact hc.block g this.2 (by omega) (by omega) (by omega)
  exact ⟨v, u, hc.blk hr.box.lt n2 n3 n4 hr.box, hr.lt, hrow hr.row, hrow hr.ear, hr.ne⟩
theorem PL.rput (h : PL w W D b1 b2 b3 N R L l es) (hr : ∃ v u, RS N W' R l' es' v u) (hc : Chg N R W W') : PL w W' D b1 b2 b3 N R L l' es' := by
  obtain ⟨g1, g2, g3, g4, g5⟩ := h.ge
  obtain ⟨t1, t2, t3, t4⟩ := h.lt
  obtain ⟨n1, n2, n3, n4⟩ := h.ne
  have hle := h.le
  have hsz := h.bel.size
  refine ⟨h.ls.same (fun k hk => hc.block k (by rcases hk with rfl | rfl | rfl | rfl <;> omega) (by rcases hk with rfl | rfl | rfl | rfl <;> omega)), hr, h.bel.trans ⟨hc.os, hc.tape, hc.output, hc.size, fun k hk => hc.block k (by omega) (by omega)⟩, h.ge, h.lt, h.ne, Nat.le_trans h.le hc.size⟩
end
/-- What is known in a round: of the stop, of the answer, of what is wanted, and of how many there were. -/
structure KI (stop : Int) (S : List Int) (A B T C : Nat) (a : Option Addr) (cap : Nat) (pre : List Int) (W : World) : Prop where
  good : pre <+: S
  nst : ¬ (1 ≤ stop ∧ stop ≤ pre.length)
  stop : Blk W A #[.int .i64 stop] 3
  res : Blk W B #[.bool false] 4
  want : Blk W T #[.slice a S.length cap] 34
  cnt : Blk W C #[.int .i64 (pre.length : Nat)] 3
  row : ∀ (i : Nat) (x : Int), S[i]? = some x → ∃ (g : Nat) (cs : Array Value), a = some ⟨g, 0, none⟩ ∧ Blk W g cs 2 ∧ cs[i]? = some (Value.int .i64 x)
structure KX (stop : Int) (S : List Int) (A B T C : Nat) (a : Option Addr) (cap : Nat) (c : Code) (pre : List Int) (W : World) : Prop where
  how : (c = .ret ∧ ¬ pre <+: S) ∨ (c = .exit 2 ∧ stop = pre.length ∧ 1 ≤ stop)
  stop : Blk W A #[.int .i64 stop] 3
  res : Blk W B #[.bool false] 4
  want : Blk W T #[.slice a S.length cap] 34
  cnt : c = .exit 2 → Blk W C #[.int .i64 (pre.length : Nat)] 3
theorem blk_diff {W : World} {g C : Nat} {cs cs' : Array Value} {T T' : TypeId} (h : Blk W g cs T) (h' : Blk W C cs' T') (hne : T ≠ T') : C ≠ g := fun e => by
  subst e
  have := h.symm.trans h'
  injection this with this
  injection this with _ e _
  exact hne e
theorem kc_set {B C o : Nat} (W : World) (v : Value) (hC : C < B) : KC B W (W.setCell ⟨C, o, none⟩ v) := ⟨by simp [World.setCell], fun k cs T fr hk e => (Below.heap_setCell _ _ _ k (by show k ≠ C; omega)).trans e⟩
theorem good_snoc {S pre : List Int} {x : Int} (h : pre <+: S) : (pre ++ [x] <+: S) ↔ S[pre.length]? = some x := by
  obtain ⟨t, ht⟩ := h
  rw [← ht, List.getElem?_append_right (Nat.le_refl _), Nat.sub_self]
  cases t with
  | nil =>
    simp only [List.append_nil, List.getElem?_nil, reduceCtorEq, iff_false]
    intro h
    have := h.length_le
    simp at this
    omega
  | cons y t =>
    constructor
    · intro h
      rw [List.prefix_append_right_inj] at h
      obtain ⟨s, hs⟩ := h
      simp at hs ⊢
      exact hs.1.symm
    · intro h
      simp at h
      subst h
      rw [List.prefix_append_right_inj]
      exact ⟨t, rfl⟩

theorem cnt_set {V : World} {C : Nat} {pre : List Int} {x : Int} (h : Blk V C #[.int .i64 (pre.length : Nat)] 3) : Blk (V.setCell ⟨C, 0, none⟩ (.int .i64 ((pre.length : Int) + 1))) C #[.int .i64 ((pre ++ [x]).length : Nat)] 3 := by
  have e : (((pre ++ [x]).length : Nat) : Int) = (pre.length : Int) + 1 := by simp
  rw [e]
  have := h.set 0 (.int .i64 ((pre.length : Int) + 1))
  exact this
section
variable {stop : Int} {S pre : List Int} {A B T C : Nat} {a : Option Addr} {cap : Nat} {x : Int} {V : World}
theorem ki_next (hI : KI stop S A B T C a cap pre V) (hne : C ≠ A ∧ C ≠ B ∧ C ≠ T) (hn : pre ++ [x] <+: S) (hs : ¬ stop = (pre.length : Int) + 1) :
    KI stop S A B T C a cap (pre ++ [x]) (V.setCell ⟨C, 0, none⟩ (.int .i64 ((pre.length : Int) + 1))) :=
  ⟨hn, by have := hI.nst; simp at *; omega, hI.stop.apart _ _ hne.1, hI.res.apart _ _ hne.2.1, hI.want.apart _ _ hne.2.2, cnt_set hI.cnt, fun i y hy => by
    obtain ⟨g, cs, e1, e2, e3⟩ := hI.row i y hy
    exact ⟨g, cs, e1, e2.apart _ _ (blk_diff e2 hI.cnt (by decide)), e3⟩⟩
theorem kx_next (hI : KI stop S A B T C a cap pre V) (hne : C ≠ A ∧ C ≠ B ∧ C ≠ T) (hs : stop = (pre.length : Int) + 1) :
    KX stop S A B T C a cap (.exit 2) (pre ++ [x]) (V.setCell ⟨C, 0, none⟩ (.int .i64 ((pre.length : Int) + 1))) :=
  ⟨.inr ⟨rfl, by simp; omega, by omega⟩, hI.stop.apart _ _ hne.1, hI.res.apart _ _ hne.2.1, hI.want.apart _ _ hne.2.2, fun _ => cnt_set hI.cnt⟩
theorem kx_ret (hI : KI stop S A B T C a cap pre V) (hne : B ≠ A ∧ B ≠ T) (hn : ¬ pre ++ [x] <+: S) :
    KX stop S A B T C a cap .ret (pre ++ [x]) (V.setCell ⟨B, 0, none⟩ (.bool false)) :=
  ⟨.inl ⟨rfl, hn⟩, hI.stop.apart _ _ hne.1, by have := hI.res.set 0 (.bool false); exact this, hI.want.apart _ _ hne.2, fun h => by cases h⟩
end
theorem pl_start {w1 w2 : World} (hls : LS w2 (w1.heap.size + 3) w1.heap.size (w1.heap.size + 1) (w1.heap.size + 2) led0) (hb : Below w1.heap.size w1 w2) :
    PL w1 (w2.alloc (.cells #[.slice none 0 0, .slice none 0 0] 29)) (w1.heap.size + 3) w1.heap.size (w1.heap.size + 1) (w1.heap.size + 2) (w2.heap.size + 1) w2.heap.size led0 [] [] := by
  have h1 := hls.box.lt
  exact ⟨hls.alloc _, ⟨.slice none 0 0, .slice none 0 0, Blk.new _ _ _ _ rfl, by omega, World.ownsRow_nil _ _ _ _, World.ownsRow_nil _ _ _ _, fun _ h => (by cases h)⟩, hb.alloc hb.size _,
    ⟨by omega, by omega, by omega, by omega, hb.size⟩, ⟨by omega, by omega, by omega, by omega⟩, ⟨by omega, by omega, by omega, by omega⟩, by simp⟩
set_option maxRecDepth 100000 in
set_option maxHeartbeats 4000000 in
theorem open_law (a : Option Addr) (cap : Nat) (l : List Msg) (sym stop : Int) (w : World) (hr : MsgRow w a l) (hmx : l.length ≤ maxLen) :
    Calls Try.prog 3 #[.slice a l.length cap, .int .i64 sym, .int .i64 stop] w fun e w' => e = .returned (.bool true) ∧ Below w.heap.size w w' := by
  refine of_wide (n := 9) ?_
  refine callsIn_of_wp_marks Try.func3 rfl trivial ?_ rfl
  simp only [Try.ntmps3, List.size_toArray, List.length_cons, List.length_nil, Nat.reduceAdd, Nat.reduceSub, Array.replicate_succ, Array.replicate_zero, List.push_toArray, List.append_toArray, List.nil_append, List.cons_append]
  have HB0 := Lib.hid (show Below w.heap.size w ((w.alloc (.cells #[.int .i64 stop] 3)).alloc (.cells #[.bool false] 4)) from ((Below.refl _ _).alloc (Nat.le_refl _) _).alloc (by simp) _)
  have HA0 := Lib.hid ((Blk.new w #[.int .i64 stop] 3 w.heap.size rfl).old (.cells #[.bool false] 4))
  have HR0 := Lib.hid (Blk.new (w.alloc (.cells #[.int .i64 stop] 3)) #[.bool false] 4 (w.heap.size + 1) (by simp))
  unfold maxLen at hmx
  gi_wp2_with fail
  generalize (w.alloc (.cells #[.int .i64 stop] 3)).alloc (.cells #[.bool false] 4) = W0 at HB0 HA0 HR0 ⊢
  refine (to_wide (alive_any _)).mono ?_
  rintro e w1 ⟨rfl, hb1⟩
  have HA1 := Lib.hid (HA0.out.below hb1 HA0.out.lt)
  have HR1 := Lib.hid (HR0.out.below hb1 HR0.out.lt)
  have HB1 := Lib.hid (HB0.out.trans (hb1.mono HB0.out.size))
  clear hb1 HA0 HR0 HB0
  by_cases hl : l.length ≤ 120
  · have g0 : ¬ (120 : Int) < (l.length : Int) := by omega
    gi_wp2_with fail
    refine (to_wide (new_any _)).mono ?_
    rintro e w2 ⟨rfl, hls, hb2⟩
    have HP := Lib.hid (pl_start hls hb2)
    have HROW := Lib.hid (fun k hk => msgRow_at hr k hk)
    have HLN := Lib.hid hls.box.lt
    clear hls hb2 hr
    gi_wp2_with fail
    generalize w2.alloc (.cells #[.slice none 0 0, .slice none 0 0] 29) = W2 at HP ⊢
    gi_loopw [9] (fun i wr => ∃ k : Nat, k ≤ l.length ∧ i = .int .i64 k ∧ ∃ L ld es, PL w1 wr (w1.heap.size + 3) w1.heap.size (w1.heap.size + 1) (w1.heap.size + 2) (w2.heap.size + 1) w2.heap.size L ld es ∧ OkL k L ∧ OkD k ld es ∧ Rel L ld es) (fun i _ => l.length - (intOf i).toNat)
    case atStart => exact ⟨0, by omega, rfl, led0, [], [], HP.out, ok_zero, okd_zero, rel_zero⟩
    case round =>
      clear HP
      obtain ⟨k, hk, rfl, L, ld, es, hp, hok, hod, hre⟩ := hrel
      have HP := Lib.hid hp
      have HOK := Lib.hid hok
      have HOD := Lib.hid hod
      have HRE := Lib.hid hre
      clear hp hok hod hre
      by_cases hlt : k < l.length
      · obtain ⟨b, off, rfl, hbl, hcell⟩ := HROW.out k hlt
        have HM := Lib.hid (show ∀ W, Below w1.heap.size w1 W → W.rangeAt b (off + k * 9) l[k].cells.toList from fun W hb j u hu => by
          have h2 := HB1.out.trans (hb.mono HB1.out.size)
          rw [h2.cell (p := ⟨b, _, none⟩) hbl]; exact hcell j u hu)
        have g0 : (0 : Int) ≤ (k : Int) := by omega
        have g1 : (k : Int) < (l.length : Int) := by omega
        clear hcell
        generalize l[k] = m at HM
        have HPT := Lib.hid (fun W hW => put_any L k HOK.out (by omega) m (w1.heap.size + 3) w1.heap.size (w1.heap.size + 1) (w1.heap.size + 2) W hW)
        have hcs := HM.out wr HP.out.bel
        have c0 : wr.cell? ⟨b, off + k * 9, none⟩ = some (.int .i64 m.kind) := hcs 0 _ rfl
        have c1 : wr.cell? ⟨b, off + k * 9 + 1, none⟩ = some (.int .i64 m.sym) := hcs 1 _ rfl
        have c2 : wr.cell? ⟨b, off + k * 9 + 2, none⟩ = some (.int .i64 m.seq) := hcs 2 _ rfl
        have c3 : wr.cell? ⟨b, off + k * 9 + 3, none⟩ = some (.int .i64 m.tick) := hcs 3 _ rfl
        have c4 : wr.cell? ⟨b, off + k * 9 + 4, none⟩ = some (.int .i64 m.id) := hcs 4 _ rfl
        have c5 : wr.cell? ⟨b, off + k * 9 + 5, none⟩ = some (.int .i64 m.wth) := hcs 5 _ rfl
        have c6 : wr.cell? ⟨b, off + k * 9 + 6, none⟩ = some (.int .i64 m.price) := hcs 6 _ rfl
        have c7 : wr.cell? ⟨b, off + k * 9 + 7, none⟩ = some (.int .i64 m.qty) := hcs 7 _ rfl
        have c8 : wr.cell? ⟨b, off + k * 9 + 8, none⟩ = some (.int .i64 m.code) := hcs 8 _ rfl
        clear hcs
        gi_wp2_with fail
        refine (to_wide (HPT.out _ HP.out.ls)).mono ?_
        rintro e w3 ⟨rfl, hls3, hc3⟩
        have HP3 := Lib.hid (HP.out.put hls3 hc3)
        clear hls3 hc3 c0 c1 c2 c3 c4 c5 c6 c7 c8 HPT
        obtain ⟨v, u, hrs⟩ := HP3.out.rs
        have HRP := Lib.hid (rput_any (w2.heap.size + 1) w2.heap.size ld es v u m w3 hrs HP3.out.le (fun r hr => (HOD.out.fine r hr).mono (by omega)) HOD.out.early (by have := HOD.out.l2; omega) (by have := HOD.out.l1; omega))
        have hcs := HM.out w3 HP3.out.bel
        have c0 : w3.cell? ⟨b, off + k * 9, none⟩ = some (.int .i64 m.kind) := hcs 0 _ rfl
        have c1 : w3.cell? ⟨b, off + k * 9 + 1, none⟩ = some (.int .i64 m.sym) := hcs 1 _ rfl
        have c2 : w3.cell? ⟨b, off + k * 9 + 2, none⟩ = some (.int .i64 m.seq) := hcs 2 _ rfl
        have c3 : w3.cell? ⟨b, off + k * 9 + 3, none⟩ = some (.int .i64 m.tick) := hcs 3 _ rfl
        have c4 : w3.cell? ⟨b, off + k * 9 + 4, none⟩ = some (.int .i64 m.id) := hcs 4 _ rfl
        have c5 : w3.cell? ⟨b, off + k * 9 + 5, none⟩ = some (.int .i64 m.wth) := hcs 5 _ rfl
        have c6 : w3.cell? ⟨b, off + k * 9 + 6, none⟩ = some (.int .i64 m.price) := hcs 6 _ rfl
        have c7 : w3.cell? ⟨b, off + k * 9 + 7, none⟩ = some (.int .i64 m.qty) := hcs 7 _ rfl
        have c8 : w3.cell? ⟨b, off + k * 9 + 8, none⟩ = some (.int .i64 m.code) := hcs 8 _ rfl
        clear hcs hrs HP
        gi_wp2_with fail
        refine (to_wide HRP.out).mono ?_
        rintro e w4 ⟨⟨cc, rfl⟩, hrs4, hc4⟩
        have HP4 := Lib.hid (HP3.out.rput hrs4 hc4)
        have HRE4 := Lib.hid (rel_put HRE.out HOD.out HOK.out.nd2 m)
        have HOK4 := Lib.hid (ok_put HOK.out (by omega) m)
        clear hrs4 hc4 c0 c1 c2 c3 c4 c5 c6 c7 c8 HRP HP3
        gi_wp2_with fail
        go_roundw
        case rel => exact ⟨k + 1, by omega, by go_num, _, _, _, HP4.out, by simpa using HOK4.out, HRE4.out.2, HRE4.out.1⟩
        case measure => simp [intOf]; omega
      · have hke : k = l.length := by omega
        obtain ⟨v, u, hrs⟩ := HP.out.rs
        have HS := Lib.hid (open_same HRE.out HOK.out.nd1 sym)
        have HRO := Lib.hid (ropen_any (w2.heap.size + 1) w2.heap.size ld es v u sym wr hrs (by have := HOD.out.l1; omega))
        have hSl := openD_len sym ld
        have hll : L.now.length ≤ 100000 := by
          have h1 := (same_get_perm HOK.out.nd1 (by rw [accs_keys]; exact HRE.out.live) (fun j => by rw [HRE.out.now j, accs_get])).length_eq
          have h2 : (accs ld).length ≤ ld.length := by unfold accs; rw [List.length_map]; exact List.length_filter_le _ _
          have := HOD.out.l1
          omega
        have g1 : ¬ (k : Int) < (l.length : Int) := by omega
        clear hrs
        gi_wp2_with fail
        refine (to_wide HRO.out).mono ?_
        rintro e w5 ⟨x, rfl, his⟩
        have HSL := Lib.hid (show (openD sym ld).length ≤ 120 by have := HOD.out.l1; omega)
        have hbw : Below wr.heap.size wr w5 := his.bel
        have HLS5 := Lib.hid (HP.out.ls.below hbw)
        have HB5 := Lib.hid (HB1.out.trans ((HP.out.bel.trans (hbw.mono HP.out.bel.size)).mono HB1.out.size))
        have HA5 := Lib.hid (HA1.out.below (HP.out.bel.trans (hbw.mono HP.out.bel.size)) HA1.out.lt)
        have HR5 := Lib.hid (HR1.out.below (HP.out.bel.trans (hbw.mono HP.out.bel.size)) HR1.out.lt)
        have HS2 := Lib.hid (show openF L sym = openD sym ld from HS.out)
        have HLL := Lib.hid hll
        generalize openD sym ld = S at his HSL HS2
        obtain ⟨xa, xc, rfl, hxc, hxm, hxr⟩ := his.at
        have HXR := Lib.hid (show ∀ (i : Nat) (x : Int), S[i]? = some x → ∃ (g : Nat) (cs : Array Value), xa = some ⟨g, 0, none⟩ ∧ Blk w5 g cs 2 ∧ cs[i]? = some (Value.int .i64 x) from by
          intro i y hy
          have hi : i < S.length := (List.getElem?_eq_some_iff.1 hy).1
          rcases his.own.2 with ⟨hv, h0⟩ | ⟨g, cap2, cur, hv, h1, h2, h3, h4, h5, h6⟩
          · omega
          · injection hv with hv _ _
            refine ⟨g, cur, hv, h2, ?_⟩
            have h7 : (cur.toList.take (S.length * 1))[i]? = (vals S)[i]? := by rw [h6]
            rw [List.getElem?_take_of_lt (by omega)] at h7
            rw [← Array.getElem?_toList, h7]
            simp [vals, hy])
        have hw5 : w.heap.size + 1 < w5.heap.size := by
          have h1 := HR5.out.lt
          exact h1
        clear his hxr HS hbw HP HOK HOD HRE HA1 HR1 HRO hSl hll
        gi_wp2_with fail
        refine (to_wide (open_any _ (.inr ⟨_, rfl⟩) sym _)).mono ?_
        rintro e w6 ⟨rfl, rfl⟩
        have hb6 : Below w5.heap.size w5 ((((w5.alloc (.cells #[.slice xa S.length xc] 34)).alloc (.cells #[.int .i64 0] 3)).alloc (.cells #[.pointer (some ⟨w1.heap.size + 3, 0, none⟩)] 24)).alloc (.cells #[.int .i64 sym] 3)) :=
          ((((Below.refl _ _).alloc (Nat.le_refl _) _).alloc (by simp) _).alloc (by simp; omega) _).alloc (by simp; omega) _
        have HWA := Lib.hid ((((Blk.new w5 #[.slice xa S.length xc] 34 w5.heap.size rfl).old (.cells #[.int .i64 0] 3)).old (.cells #[.pointer (some ⟨w1.heap.size + 3, 0, none⟩)] 24)).old (.cells #[.int .i64 sym] 3))
        have HCN := Lib.hid (((Blk.new (w5.alloc (.cells #[.slice xa S.length xc] 34)) #[.int .i64 0] 3 (w5.heap.size + 1) (by simp)).old (.cells #[.pointer (some ⟨w1.heap.size + 3, 0, none⟩)] 24)).old (.cells #[.int .i64 sym] 3))
        have HBs := Lib.hid ((Blk.new ((w5.alloc (.cells #[.slice xa S.length xc] 34)).alloc (.cells #[.int .i64 0] 3)) #[.pointer (some ⟨w1.heap.size + 3, 0, none⟩)] 24 (w5.heap.size + 1 + 1) (by simp)).old (.cells #[.int .i64 sym] 3))
        have HBy := Lib.hid (Blk.new (((w5.alloc (.cells #[.slice xa S.length xc] 34)).alloc (.cells #[.int .i64 0] 3)).alloc (.cells #[.pointer (some ⟨w1.heap.size + 3, 0, none⟩)] 24)) #[.int .i64 sym] 3 (w5.heap.size + 1 + 1 + 1) (by simp))
        have HLS6 := Lib.hid (HLS5.out.below hb6)
        have HA6 := Lib.hid (HA5.out.below hb6 HA5.out.lt)
        have HR6 := Lib.hid (HR5.out.below hb6 HR5.out.lt)
        have HB6 := Lib.hid (HB5.out.trans (hb6.mono HB5.out.size))
        have HXR6 := Lib.hid (show ∀ (i : Nat) (x : Int), S[i]? = some x → ∃ (g : Nat) (cs : Array Value), xa = some ⟨g, 0, none⟩ ∧ Blk _ g cs 2 ∧ cs[i]? = some (Value.int .i64 x) from fun i y hy => by
          obtain ⟨g, cs, e1, e2, e3⟩ := HXR.out i y hy
          exact ⟨g, cs, e1, e2.below hb6 e2.lt, e3⟩)
        clear hb6 HLS5 HA5 HR5 HB5 HXR
        gi_wp2_with fail
        generalize (((w5.alloc (.cells #[.slice xa S.length xc] 34)).alloc (.cells #[.int .i64 0] 3)).alloc (.cells #[.pointer (some ⟨w1.heap.size + 3, 0, none⟩)] 24)).alloc (.cells #[.int .i64 sym] 3) = W6 at HWA HCN HBs HBy HLS6 HA6 HR6 HB6 HXR6 ⊢
        have hA6 := HA6.out.lt
        have hR6 := HR6.out.lt
        have hT6 := HWA.out.lt
        have hC6 := HCN.out.lt
        have HNE := Lib.hid (show (w5.heap.size + 1 ≠ w.heap.size ∧ w5.heap.size + 1 ≠ w.heap.size + 1 ∧ w5.heap.size + 1 ≠ w5.heap.size) ∧ w.heap.size + 1 ≠ w.heap.size ∧ w.heap.size + 1 ≠ w5.heap.size by omega)
        refine wpIn_rangeFunc_ownG (w0 := W6) rfl (by decide) (gf := 23) (lb := #[.pointer (some ⟨w5.heap.size + 1 + 1, 0, none⟩), .pointer (some ⟨w5.heap.size + 1 + 1 + 1, 0, none⟩)]) rfl trivial (enters_of Try.func23 (by kernel_rfl) rfl)
          (open_stops 8 (by decide) L HLL.out (w1.heap.size + 3) w1.heap.size (w1.heap.size + 1) (w1.heap.size + 2) sym (w5.heap.size + 1 + 1) (w5.heap.size + 1 + 1 + 1) W6 HBs.out HBy.out HLS6.out) kc_t (fun W l o o' _ h1 h2 _ => kc_b W l o o' h1 h2) (Below.refl _ _) (fun _ => rfl)
          (fun pre W => KI stop S w.heap.size (w.heap.size + 1) w5.heap.size (w5.heap.size + 1) xa xc pre W ∧ Below w.heap.size w W)
          (fun c pre W => KX stop S w.heap.size (w.heap.size + 1) w5.heap.size (w5.heap.size + 1) xa xc c pre W ∧ Below w.heap.size w W)
          (OwnFrom.and (Own.from (own_ck fun s X Y h hk => ⟨h.good, h.nst, ck_blk h.stop hk, ck_blk h.res hk, ck_blk h.want hk, ck_blk h.cnt hk, fun i x hx => by obtain ⟨g, cs, e1, e2, e3⟩ := h.row i x hx; exact ⟨g, cs, e1, ck_blk e2 hk, e3⟩⟩) _) (ownFrom_below (Nat.le_refl _) HB6.out.size))
          (fun c => OwnFrom.and (Own.from (own_ck fun s X Y h hk => ⟨h.how, ck_blk h.stop hk, ck_blk h.res hk, ck_blk h.want hk, fun e => ck_blk (h.cnt e) hk⟩) _) (ownFrom_below (Nat.le_refl _) HB6.out.size))
          ⟨⟨List.nil_prefix, by simp; omega, HA6.out, HR6.out, HWA.out, HCN.out, HXR6.out⟩, HB6.out⟩
          ?fr ?assign ?body ?done ?stop
        case assign =>
          intro l x W K hK
          gi_wp2
          exact hK
        case body =>
          rintro ly pre x W ⟨hI, hB⟩ hlen
          have HI := Lib.hid hI
          have HBW := Lib.hid hB
          have hlen2 : pre.length < S.length := by rw [← HS2.out]; exact hlen
          obtain ⟨g, cs, rfl, hgb, hgc⟩ := hI.row pre.length _ (List.getElem?_eq_getElem hlen2)
          have HGD := Lib.hid (good_snoc (x := x) hI.good)
          have hSy : S[pre.length]? = some S[pre.length] := List.getElem?_eq_getElem hlen2
          generalize S[pre.length] = y at hgc hSy
          have cw : W.cell? ⟨w5.heap.size, 0, none⟩ = some (.slice (some ⟨g, 0, none⟩) S.length xc) := hI.want.cell 0 rfl
          have cc : W.cell? ⟨w5.heap.size + 1, 0, none⟩ = some (.int .i64 (pre.length : Nat)) := hI.cnt.cell 0 rfl
          have cst : W.cell? ⟨w.heap.size, 0, none⟩ = some (.int .i64 stop) := hI.stop.cell 0 rfl
          have cr : W.cell? ⟨w.heap.size + 1, 0, none⟩ = some (.bool false) := hI.res.cell 0 rfl
          have cy : W.cell? ⟨g, pre.length, none⟩ = some (.int .i64 y) := hgb.cell _ hgc
          have f1 : W.frozen? ⟨w5.heap.size + 1, 0, none⟩ = false := hI.cnt.free 0
          have f3 : W.frozen? ⟨w.heap.size + 1, 0, none⟩ = false := hI.res.free 0
          have HGC := Lib.hid (And.intro hgb (blk_diff hgb hI.cnt (by decide)))
          have g0 : (0 : Int) ≤ (pre.length : Int) := by omega
          have g1 : (pre.length : Int) < (S.length : Int) := by omega
          have g2 : ¬ (S.length : Int) ≤ (pre.length : Int) := by omega
          have g3 : (pre.length : Int) < 1000 := by have := HSL.out; omega
          clear hI hB hlen hlen2 hgb hgc
          by_cases hx : x = y
          · subst hx
            have HG := Lib.hid (HGD.out.2 hSy)
            have b0 : (x != x) = false := by simp
            clear hSy HGD
            by_cases hst : stop = (pre.length : Int) + 1
            · have b4 : (((pre.length : Int) + 1) == stop) = true := by rw [hst]; simp
              have HX := Lib.hid (kx_next (x := x) HI.out HNE.out.1 hst)
              clear hst
              gi_wp2
              exact ⟨(KeepsOthers.setCell _ _ _).from _, HX.out, HBW.out.setCell (p := ⟨w5.heap.size + 1, 0, none⟩) (by show w.heap.size ≤ w5.heap.size + 1; omega) _⟩
            · have b4 : (((pre.length : Int) + 1) == stop) = false := by simpa using fun h => hst h.symm
              have HX := Lib.hid (ki_next (x := x) HI.out HNE.out.1 HG.out hst)
              clear hst
              gi_wp2
              exact ⟨(KeepsOthers.setCell _ _ _).from _, kc_set _ _ hC6, HX.out, HBW.out.setCell (p := ⟨w5.heap.size + 1, 0, none⟩) (by show w.heap.size ≤ w5.heap.size + 1; omega) _⟩
          · have b0 : (x != y) = true := by simpa using hx
            have HN2 := Lib.hid (show ¬ pre ++ [x] <+: S by rw [HGD.out, hSy]; simpa using fun h => hx h.symm)
            clear hSy HGD hx
            gi_wp2
            exact ⟨(KeepsOthers.setCell _ _ _).from _, kx_ret HI.out HNE.out.2 HN2.out, HBW.out.setCell (p := ⟨w.heap.size + 1, 0, none⟩) (by show w.heap.size ≤ w.heap.size + 1; omega) _⟩
        case done =>
          rintro E xs W hE hxs ⟨hI, hB⟩ hK
          rw [HS2.out] at hxs
          rw [hxs] at hI
          clear hxs
          have cc : W.cell? ⟨w5.heap.size + 1, 0, none⟩ = some (.int .i64 (S.length : Nat)) := hI.cnt.cell 0 rfl
          have cst : W.cell? ⟨w.heap.size, 0, none⟩ = some (.int .i64 stop) := hI.stop.cell 0 rfl
          have cr : W.cell? ⟨w.heap.size + 1, 0, none⟩ = some (.bool false) := hI.res.cell 0 rfl
          have cw : W.cell? ⟨w5.heap.size, 0, none⟩ = some (.slice xa S.length xc) := hI.want.cell 0 rfl
          have f3 : W.frozen? ⟨w.heap.size + 1, 0, none⟩ = false := hI.res.free 0
          have hns : ¬ (1 ≤ stop ∧ stop ≤ S.length) := hI.nst
          have HRES := Lib.hid (hI.res.set 0 (.bool true))
          have HBB := Lib.hid (hB.setCell (p := ⟨w.heap.size + 1, 0, none⟩) (by show w.heap.size ≤ w.heap.size + 1; omega) (.bool true))
          have HE := Lib.hid hE
          have HWL := Lib.hid HB6.out.size
          have HK2 := Lib.hid ((KeepsOthers.setCell W ⟨w.heap.size + 1, 0, none⟩ (.bool true)).same E _ hK rfl)
          have HEND := Lib.hid (HBB.out.trans (belowK_b (w := w) (Nat.le_refl _) _ E _ (.deferred none) (by have := HE.out; have := HWL.out; omega) HK2.out rfl rfl))
          have HRR := Lib.hid (ck_blk HRES.out (ck_of_put (o := .deferred none) HK2.out))
          clear hI hB hK hE
          by_cases h0 : 0 < stop
          · have h5 : ¬ stop < (S.length : Int) := by omega
            gi_wp2
            refine ⟨by simp, .inl ⟨_, _, rfl, run_takeDeferred HK2.out, ?_⟩⟩
            exact ⟨_, results_bool HRR.out rfl Try.underlying4, rfl, HEND.out⟩
          · gi_wp2
            refine ⟨by simp, .inl ⟨_, _, rfl, run_takeDeferred HK2.out, ?_⟩⟩
            exact ⟨_, results_bool HRR.out rfl Try.underlying4, rfl, HEND.out⟩
        case stop =>
          rintro E c pre W hE hpre ⟨hX, hB⟩ hK
          rw [HS2.out] at hpre
          rcases hX.how with ⟨rfl, hn⟩ | ⟨rfl, hs, h1⟩
          · exact absurd hpre hn
          have hple : pre.length ≤ S.length := hpre.length_le
          have cc : W.cell? ⟨w5.heap.size + 1, 0, none⟩ = some (.int .i64 (pre.length : Nat)) := (hX.cnt rfl).cell 0 rfl
          have cst : W.cell? ⟨w.heap.size, 0, none⟩ = some (.int .i64 stop) := hX.stop.cell 0 rfl
          have cr : W.cell? ⟨w.heap.size + 1, 0, none⟩ = some (.bool false) := hX.res.cell 0 rfl
          have cw : W.cell? ⟨w5.heap.size, 0, none⟩ = some (.slice xa S.length xc) := hX.want.cell 0 rfl
          have f3 : W.frozen? ⟨w.heap.size + 1, 0, none⟩ = false := hX.res.free 0
          have HRES := Lib.hid (hX.res.set 0 (.bool true))
          have HBB := Lib.hid (hB.setCell (p := ⟨w.heap.size + 1, 0, none⟩) (by show w.heap.size ≤ w.heap.size + 1; omega) (.bool true))
          have HE := Lib.hid hE
          have HWL := Lib.hid HB6.out.size
          have HK2 := Lib.hid ((KeepsOthers.setCell W ⟨w.heap.size + 1, 0, none⟩ (.bool true)).same E _ hK rfl)
          have HEND := Lib.hid (HBB.out.trans (belowK_b (w := w) (Nat.le_refl _) _ E _ (.deferred none) (by have := HE.out; have := HWL.out; omega) HK2.out rfl rfl))
          have HRR := Lib.hid (ck_blk HRES.out (ck_of_put (o := .deferred none) HK2.out))
          clear hX hB hK hE hpre
          subst hs
          by_cases h5 : (pre.length : Int) < (S.length : Int)
          · gi_wp2
            refine ⟨by simp, .inl ⟨_, _, rfl, run_takeDeferred HK2.out, ?_⟩⟩
            exact ⟨_, results_bool HRR.out rfl Try.underlying4, rfl, HEND.out⟩
          · have e5 : pre.length = S.length := by omega
            rw [e5] at cc
            gi_wp2
            refine ⟨by simp, .inl ⟨_, _, rfl, run_takeDeferred HK2.out, ?_⟩⟩
            exact ⟨_, results_bool HRR.out rfl Try.underlying4, rfl, HEND.out⟩
  · have g0 : (120 : Int) < (l.length : Int) := by omega
    have f0 := HR1.out.free 0
    have c0 : w1.cell? ⟨w.heap.size + 1, 0, none⟩ = some (.bool false) := HR1.out.cell 0 rfl
    have HR2 := Lib.hid (HR1.out.set 0 (.bool true))
    have HB2 := Lib.hid (HB1.out.setCell (p := ⟨w.heap.size + 1, 0, none⟩) (by show w.heap.size ≤ w.heap.size + 1; omega) (.bool true))
    gi_wp2_with fail
    exact ⟨_, results_bool HR2.out rfl Try.underlying4, rfl, HB2.out⟩
end Go.Proofs.Ytmkcooamgojbpaa.Ledger
