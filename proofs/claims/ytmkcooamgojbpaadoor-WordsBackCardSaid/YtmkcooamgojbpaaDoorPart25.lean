/- Parts of the proof: RdC, DecP. -/
import Derived.Test.YtmkcooamgojbpaaDoorPart13
import Derived.Test.YtmkcooamgojbpaaDoorPart22

/- bytes.Clone of any bytes; octets.NewReader. -/
namespace Go.Proofs.YtmkcooamgojbpaaDoor.Octets
open Go.RowKit Go.Proofs.YtmkcooamgojbpaaDoor.Kit Go.Proofs.YtmkcooamgojbpaaDoor.Blk Go.Proofs.YtmkcooamgojbpaaDoor.Cmds
attribute [local go_sem ↓] Go.wp_at_zero Go.wp_at_succ
set_option linter.unusedVariables false

theorem own_atB {N : Nat} {l : List Nat} {v : Value} {w : World} (h : Own N l v w) : AtB N w.heap.size l v w := by
  rcases Nat.eq_zero_or_pos l.length with h0 | h0
  · rcases h.2 with ⟨rfl, h2⟩ | ⟨g, cap, cur, rfl, hg, hgb, hn, hc, hsz, htk⟩
    · exact .inl ⟨List.eq_nil_of_length_eq_zero h0, rfl⟩
    · exact .inr ⟨g, 0, cap, rfl, hn, hc, hg, (Array.getElem?_eq_some_iff.1 hgb).1, fun i hi => absurd hi (by omega)⟩
  · rcases h.2 with ⟨rfl, h2⟩ | ⟨g, cap, cur, rfl, hg, hgb, hn, hcp, hsz, htk⟩
    · omega
    have hc := World.ownsRow.cells h rfl
    refine .inr ⟨g, 0, cap, rfl, hn, hcp, (h.lt g rfl).1, (h.lt g rfl).2, fun i hi => ?_⟩
    have := hc i (.int .u8 (l[i] : Int)) (by simp [vals, hi])
    rwa [Addr.add_mid] at this
theorem wpList_append_zero {P : Program} {ops : Array Oper} {rest : List Oper} {o : Oper} {a : Act} {Q : Exit → Act → World → Prop} {w : World} (hgd : o.guard = none) (s x : Operand) (t : TypeId)
    (ho : o.op = .call { callee := .builtin .append, args := #[s, x], argTypes := #[t, t] }) (base : Nat) (e : TypeId) (i : TypeInfo) (size : Nat) (ht : P.underlying t = some (.slice e)) (hi : P.info? e = some i) (hsize : i.size = size)
    (v : Value) (n : Nat) (xs : List Value) (hs : a.eval s = v) (hown : w.ownsRow base e size v n xs) (ax : Option Addr) (c : Nat) (hx : a.eval x = .slice ax 0 c)
    (h : wpList P ops Q rest (a.put o.dst v) w) : wpList P ops Q (o :: rest) a w :=
  wpList_plain hgd fun K hK => by
    have hrun := run_append_zero (P := P) w base t o.type e i size ht hi hsize v n xs hown ax c
    unfold Oper.wp execOp
    simp only [ho, resolve, invoke, builtin, Sem.run_bind, Sem.run_pure, Result.andThen_ok, List.map_toArray, List.map_cons, List.map_nil, hs, hx, hrun]
    exact hK _ _ h
/-- What a copy is. -/
def ClIs (l : List Nat) (w : World) (e : Ending) (w' : World) : Prop := ∃ v, e = .returned v ∧ AtB w.heap.size w'.heap.size l v w' ∧ Below w.heap.size w w'
set_option maxRecDepth 20000 in
theorem bclone_any (M : Nat) (l : List Nat) (hl : l.length ≤ 100000) (v : Value) (w : World) (h : AtB 0 M l v w) (hM : M ≤ w.heap.size) :
    Calls Tryd.prog 202 #[v] w (ClIs l w) := by
  rcases h with ⟨rfl, rfl⟩ | ⟨g, o, c, rfl, h2, h3, h4, h5, h6⟩
  · have hnil : ∀ W : World, (binOp .eql 40 (.slice none 0 0) (.slice none 0 0)).run Tryd.prog W = .ok (.bool true) W := fun _ => by kernel_rfl
    go_enter Tryd.func202, Tryd.ntmps202
    go_wp2_with fail
    go_ret
    exact ⟨_, rfl, .inl ⟨rfl, rfl⟩, Below.refl _ _⟩
  · have hnil : ∀ (n : Nat) (W : World), (binOp .eql 40 (.slice (some ⟨g, o, none⟩) n c) (.slice none 0 0)).run Tryd.prog W = .ok (.bool false) W := fun _ _ => by kernel_rfl
    rcases Nat.eq_zero_or_pos l.length with h0 | h0
    · obtain rfl := List.eq_nil_of_length_eq_zero h0
      obtain ⟨i0, hi0, hz0, hz1, hz2⟩ := info_parts infoU8
      have HE := Lib.hid (show (w.alloc (.cells #[] 5)).ownsRow w.heap.size 5 1 (.slice (some ⟨w.heap.size, 0, none⟩) 0 0) 0 [] from World.ownsRow_made w #[] 0 (Nat.le_refl _) (by decide) rfl)
      clear h0
      go_enter Tryd.func202, Tryd.ntmps202
      go_wp2_with (at_builtin; refine wpList_append_zero (by rfl) _ _ _ (by rfl) w.heap.size 5 i0 1 Tryd.underlying40 hi0 hz1 _ 0 [] (by rfl) HE.out (some ⟨g, o, none⟩) c (by rfl) ?_)
      go_ret
      refine ⟨_, rfl, .inr ⟨w.heap.size, 0, 0, rfl, Nat.le_refl _, Nat.zero_le _, Nat.le_refl _, by simp, fun i hi => absurd hi (by simp)⟩, (Below.refl _ _).alloc (Nat.le_refl _) _⟩
    · obtain ⟨i0, hi0, hz0, hz1, hz2⟩ := info_parts infoU8
      have HL := Lib.hid (vals_len l)
      have HE := Lib.hid (show (w.alloc (.cells #[] 5)).ownsRow w.heap.size 5 1 (.slice (some ⟨w.heap.size, 0, none⟩) 0 0) 0 [] from World.ownsRow_made w #[] 0 (Nat.le_refl _) (by decide) rfl)
      have HN := Lib.hid (show ∀ j u, (vals l)[j]? = some u → (w.alloc (.cells #[] 5)).cell? ((⟨g, o, none⟩ : Addr).add j) = some u from fun j u hu => by
        have hj : j < l.length := by
          have := (List.getElem?_eq_some_iff.1 hu).1
          rwa [vals_len] at this
        have e : u = .int .u8 (l[j] : Int) := by
          simp [vals, hj] at hu
          exact hu.symm
        rw [e, Addr.add_mid, Below.cell ((Below.refl w.heap.size w).alloc (Nat.le_refl _) _) (p := ⟨g, o + j, none⟩) (by show g < _; omega)]
        exact h6 j hj)
      clear h6
      go_enter Tryd.func202, Tryd.ntmps202
      go_wp2_with (at_builtin; refine wpList_append_lies _ (by rfl) _ _ _ (by rfl) w.heap.size 5 i0 (.int .u8 0) 1 1 Tryd.underlying40 hi0 hz0 hz1 hz2 (by rfl) (by decide) _ 0 [] (by rfl) HE.out ⟨g, o, none⟩ l.length c (vals l) (by rfl) (by rw [HL.out, Nat.mul_one]) HN.out (one_vals l) h0 (by unfold maxLen; omega) (by omega) (by simp) (w.heap.size + 1) (by simp) ?_; intro ga ca w5 hown hgrow hat hlt5; have HOWN := Lib.hid hown; have HGR := Lib.hid hgrow; clear hown hgrow hat hlt5)
      go_ret
      refine ⟨_, rfl, own_atB (by have h := HOWN.out; rw [Nat.zero_add, List.nil_append] at h; exact h), ?_⟩
      exact ((Below.refl _ _).alloc (Nat.le_refl _) _).grown HGR.out (by simp) (fun k e => by have e : some w.heap.size = some k := e; injection e with e; omega)
/-- What NewReader answers. -/
def NewIs (l : List Nat) (w : World) (e : Ending) (w' : World) : Prop := ∃ P, e = .returned (.pointer (some ⟨P, 0, none⟩)) ∧ w.heap.size ≤ P ∧ RdS w.heap.size P (.inr l) w' ∧ Below w.heap.size w w'
theorem newReader_any (M : Nat) (l : List Nat) (hl : l.length ≤ 100000) (hby : ∀ b ∈ l, b < 256) (v : Value) (w : World) (h : AtB 0 M l v w) (hM : M ≤ w.heap.size) :
    Calls Tryd.prog 163 #[v] w (NewIs l w) := by
  have HC := Lib.hid (bclone_any M l hl v w h hM)
  have HBY := Lib.hid hby
  clear h hby
  go_enter Tryd.func163, Tryd.ntmps163
  go_wp2_with fail
  refine HC.out.mono ?_
  rintro e w1 ⟨v', rfl, h1, h2⟩
  obtain ⟨a', c', rfl, -, -⟩ := h1.len
  have HR := Lib.hid (show RdS w.heap.size w1.heap.size (.inr l) (w1.alloc (.cells #[.slice a' l.length c', .int .i64 0] 238)) from ⟨HBY.out, _, Blk.new _ _ _ _ rfl, (h1.below (Nat.le_refl _) ((Below.refl _ _).alloc (Nat.le_refl _) _)).mono (Nat.le_refl _) (Nat.le_refl _)⟩)
  have HB := Lib.hid (h2.alloc h2.size (.cells #[.slice a' l.length c', .int .i64 0] 238))
  have hsz := h2.size
  clear h1 h2 HC
  go_wp2_with fail
  go_ret
  exact ⟨_, rfl, hsz, HR.out, HB.out⟩
end Go.Proofs.YtmkcooamgojbpaaDoor.Octets

/- command.Decode. -/
namespace Go.Proofs.YtmkcooamgojbpaaDoor.Cmds
open Go.RowKit Go.Proofs.YtmkcooamgojbpaaDoor.Kit Go.Proofs.YtmkcooamgojbpaaDoor.Blk Go.Proofs.YtmkcooamgojbpaaDoor.Octets
attribute [local go_sem ↓] Go.wp_at_zero Go.wp_at_succ
set_option linter.unusedVariables false

/-- What follows, of a reader's state. -/
def onR {β : Type} (st : Int ⊕ List Nat) (g : List Nat → Rd β) : Rd β := match st with
  | .inl f => .bad f
  | .inr l => g l
theorem on_bind {α β : Type} (r : List Nat → Rd α) (z : α) (g : α → List Nat → Rd β) (st : Int ⊕ List Nat) : onR st (fun l => Rd.bind (r l) g) = onR (rdF r z st).2 (g (rdF r z st).1) := by
  cases st with
  | inl f => rfl
  | inr l =>
    unfold onR rdF
    dsimp only
    cases r l <;> rfl
theorem bind_bind {α β γ : Type} (r : Rd α) (f : α → List Nat → Rd β) (g : β → List Nat → Rd γ) : Rd.bind (Rd.bind r f) g = Rd.bind r (fun x l => Rd.bind (f x l) g) := by cases r <;> rfl
theorem byte_uint (l : List Nat) : byteR l = uintR 1 l := by
  cases l with
  | nil => rfl
  | cons b l => simp [byteR, uintR, beV]
theorem bind_map {α β γ : Type} (r : Rd α) (f : α → β) (g : β → List Nat → Rd γ) : Rd.bind (Rd.bind r fun x l => .ok (f x) l) g = Rd.bind r fun x l => g (f x) l := by cases r <;> rfl
theorem int_bind (l : List Nat) : intR l = Rd.bind (uintR 8 l) fun n l => .ok (zag n) l := by unfold intR; cases uintR 8 l <;> rfl
def one2 (st : Int ⊕ List Nat) : Nat × (Int ⊕ List Nat) := rdF (uintR 1) 0 st
def num2 (st : Int ⊕ List Nat) : Nat × (Int ⊕ List Nat) := rdF (numR 0 0) 0 st
def int2 (st : Int ⊕ List Nat) : Int × (Int ⊕ List Nat) := rdF intR 0 st
theorem on_one {β : Type} (g : Nat → List Nat → Rd β) (st : Int ⊕ List Nat) : onR st (fun l => Rd.bind (byteR l) g) = onR (one2 st).2 (g (one2 st).1) := by
  have : (fun l => Rd.bind (byteR l) g) = fun l => Rd.bind (uintR 1 l) g := funext fun l => by rw [byte_uint]
  rw [this]
  exact on_bind _ _ _ _
theorem on_num {β : Type} (g : Nat → List Nat → Rd β) (st : Int ⊕ List Nat) : onR st (fun l => Rd.bind (numR 0 0 l) g) = onR (num2 st).2 (g (num2 st).1) := on_bind _ _ _ _
theorem on_new {β : Type} (g : NewP → List Nat → Rd β) (st : Int ⊕ List Nat) : onR st (fun l => Rd.bind (newR l) g) =
    (let a := num2 st; let b := one2 a.2; let t := one2 b.2; let f := one2 t.2; onR f.2 (g ⟨a.1, b.1, t.1, f.1⟩)) := by
  dsimp only
  unfold newR
  simp only [bind_bind]
  rw [on_num, on_one, on_one, on_one]
  rfl
theorem on_pq {β : Type} (g : Int × Int → List Nat → Rd β) (st : Int ⊕ List Nat) : onR st (fun l => Rd.bind (pqR l) g) =
    (let p := int2 st; let q := int2 p.2; onR q.2 (g (p.1, q.1))) := by
  dsimp only
  have e : (fun l => Rd.bind (pqR l) g) = fun l => Rd.bind (intR l) fun p l => Rd.bind (intR l) fun q l => g (p, q) l := funext fun l => by
    unfold pqR
    rw [int_bind, bind_map, bind_bind]
    congr 1
    funext p l
    rw [int_bind, bind_map, bind_bind]
    rfl
  rw [e, on_bind intR 0, on_bind intR 0]
  rfl
/-- What Decode answers. -/
def decV (r : Rd Cmd) : Cmd × Int := match r with
  | .bad f => (zeroC, f)
  | .ok c _ => (c, 0)
def DecIs (l : List Nat) (w : World) (e : Ending) (w' : World) : Prop := e = .returned (.tuple #[.agg (decV (decF l)).1.cells, .int .i64 (decV (decF l)).2]) ∧ Below w.heap.size w w'
/-- Where it stands. -/
structure DcS (w W : World) (N C B P : Nat) (cs : Array Value) (st : Int ⊕ List Nat) : Prop where
  c : Blk W C cs 164
  b : Blk W B #[.pointer (some ⟨P, 0, none⟩)] 204
  r : RdS N P st W
  bel : Below w.heap.size w W
  geC : w.heap.size ≤ C
  CN : C < N
  NP : N ≤ P
  PB : P < B
section
variable {w W W' : World} {N C B P : Nat} {cs : Array Value} {st st' : Int ⊕ List Nat}
theorem DcS.read (h : DcS w W N C B P cs st) (hr : RdS N P st' W') (hc : Chg W.heap.size P W W') : DcS w W' N C B P cs st' :=
  ⟨hc.blk h.c.lt (by have := h.CN; have := h.NP; omega) h.c, hc.blk h.b.lt (by have := h.PB; omega) h.b, hr, h.bel.trans (hc.below' (m := w.heap.size) (by have := h.geC; have := h.CN; have := h.NP; omega) h.bel.size), h.geC, h.CN, h.NP, h.PB⟩
theorem DcS.store (h : DcS w W N C B P cs st) (j : Nat) (v : Value) : DcS w (W.setCell ⟨C, j, none⟩ v) N C B P (cs.setIfInBounds j v) st := by
  have hc : Chg W.heap.size C W (W.setCell ⟨C, j, none⟩ v) := (Chg.refl _ _ _).setCell _ _ (.inl rfl)
  exact ⟨h.c.set j v, hc.blk h.b.lt (by have := h.PB; have := h.CN; have := h.NP; omega) h.b, h.r.chg h.r.lt (.inl h.CN) h.NP hc, h.bel.trans (hc.below' (m := w.heap.size) h.geC h.bel.size), h.geC, h.CN, h.NP, h.PB⟩
theorem DcS.drewN (h : DcS w W N C B P cs st) (n : Nat) : DcS w (W.drewN n) N C B P cs st := ⟨h.c.drewN n, h.b.drewN n, h.r.below (Nat.lt_succ_self _) ((Below.refl _ _).drewN n), h.bel.drewN n, h.geC, h.CN, h.NP, h.PB⟩
theorem DcS.cell (h : DcS w W N C B P cs st) : W.cell? ⟨B, 0, none⟩ = some (.pointer (some ⟨P, 0, none⟩)) := h.b.cell 0 rfl
end
theorem byte_lt {N P : Nat} {st : Int ⊕ List Nat} {W : World} (h : RdS N P st W) : (one2 st).1 < 256 := rd_lt 1 (by omega) N P st W h
theorem num_lt {N P : Nat} {st : Int ⊕ List Nat} {W : World} (h : RdS N P st W) : (num2 st).1 < 18446744073709551616 := by
  cases st with
  | inl f => exact (by decide : 0 < 18446744073709551616)
  | inr l =>
    unfold num2 rdF
    dsimp only
    split
    · show (0 : Nat) < _; decide
    · rename_i x l' he
      exact (numR_of h.1 he).2
theorem int_in {N P : Nat} {st : Int ⊕ List Nat} {W : World} (h : RdS N P st W) : -9223372036854775808 ≤ (int2 st).1 ∧ (int2 st).1 ≤ 9223372036854775807 := by
  unfold int2
  rw [rd_int]
  have := rd_lt 8 (by omega) N P st W h
  rw [pow8] at this
  exact zag_in this
theorem one_any (w W : World) (N C B P : Nat) (cs : Array Value) (st : Int ⊕ List Nat) (h : DcS w W N C B P cs st) :
    Calls Tryd.prog 164 #[.pointer (some ⟨B, 0, none⟩)] W fun e W' => e = .returned (.int .i64 ((one2 st).1 : Nat)) ∧ DcS w W' N C B P cs (one2 st).2 := by
  have HU := Lib.hid (rdUint_any N P 1 (by omega) (by omega) st W h.r)
  have hlt := byte_lt h.r
  have H := Lib.hid h
  have c0 := h.cell
  clear h
  unfold one2 at *
  generalize rdF (uintR 1) 0 st = r at HU hlt ⊢
  obtain ⟨n, st'⟩ := r
  dsimp only at *
  have g0 : (n : Int) < 256 := by omega
  go_enter Tryd.func164, Tryd.ntmps164
  go_wp2_with fail
  refine HU.out.mono ?_
  rintro e w1 ⟨rfl, h2, h3⟩
  have H2 := Lib.hid (H.out.read h2 h3)
  clear h2 h3 HU H
  go_wp2_with fail
  go_ret
  exact ⟨rfl, H2.out⟩
theorem dnum_any (w W : World) (N C B P : Nat) (cs : Array Value) (st : Int ⊕ List Nat) (h : DcS w W N C B P cs st) :
    Calls Tryd.prog 166 #[.pointer (some ⟨P, 0, none⟩)] W fun e W' => e = .returned (.int .u64 ((num2 st).1 : Nat)) ∧ DcS w W' N C B P cs (num2 st).2 :=
  (rdNum_any N P st W h.r).mono fun e W' ⟨h1, h2, h3⟩ => ⟨h1, h.read h2 h3⟩
theorem dint_any (w W : World) (N C B P : Nat) (cs : Array Value) (st : Int ⊕ List Nat) (h : DcS w W N C B P cs st) :
    Calls Tryd.prog 167 #[.pointer (some ⟨P, 0, none⟩)] W fun e W' => e = .returned (.int .i64 (int2 st).1) ∧ DcS w W' N C B P cs (int2 st).2 :=
  (rdInt_any N P st W h.r).mono fun e W' ⟨h1, h2, h3⟩ => ⟨h1, h.read h2 h3⟩
theorem one_eq {w W : World} {N C B P : Nat} {cs : Array Value} {st st' : Int ⊕ List Nat} {n : Nat} (h : DcS w W N C B P cs st) (hE : one2 st = (n, st')) :
    Calls Tryd.prog 164 #[.pointer (some ⟨B, 0, none⟩)] W fun e W' => e = .returned (.int .i64 (n : Nat)) ∧ DcS w W' N C B P cs st' := by
  have := one_any w W N C B P cs st h
  rwa [hE] at this
theorem num_eq {w W : World} {N C B P : Nat} {cs : Array Value} {st st' : Int ⊕ List Nat} {n : Nat} (h : DcS w W N C B P cs st) (hE : num2 st = (n, st')) :
    Calls Tryd.prog 166 #[.pointer (some ⟨P, 0, none⟩)] W fun e W' => e = .returned (.int .u64 (n : Nat)) ∧ DcS w W' N C B P cs st' := by
  have := dnum_any w W N C B P cs st h
  rwa [hE] at this
theorem int_eq {w W : World} {N C B P : Nat} {cs : Array Value} {st st' : Int ⊕ List Nat} {n : Int} (h : DcS w W N C B P cs st) (hE : int2 st = (n, st')) :
    Calls Tryd.prog 167 #[.pointer (some ⟨P, 0, none⟩)] W fun e W' => e = .returned (.int .i64 n) ∧ DcS w W' N C B P cs st' := by
  have := dint_any w W N C B P cs st h
  rwa [hE] at this
theorem one_cons (b : Nat) (l : List Nat) : one2 (.inr (b :: l)) = (b, .inr l) := by simp [one2, rdF, uintR, beV]
theorem one_nil : one2 (.inr []) = (0, .inl 3) := rfl
theorem one_inl (f : Int) : one2 (.inl f) = (0, .inl f) := rfl
theorem num_inl (f : Int) : num2 (.inl f) = (0, .inl f) := rfl
theorem int_inl (f : Int) : int2 (.inl f) = (0, .inl f) := rfl
end Go.Proofs.YtmkcooamgojbpaaDoor.Cmds
