/- Parts of the proof: WordF, GuessF. -/
import Derived.Test.YtmkcooamgojbpaaGreatDoorPart5
import Derived.Test.YtmkcooamgojbpaaGreatDoorPart6
import Derived.Test.YtmkcooamgojbpaaGreatDoorPart20

/- The words of a step, and the step of words: plain. -/
namespace Go.Proofs.YtmkcooamgojbpaaGreatDoor.Words
open Go.Proofs.YtmkcooamgojbpaaGreatDoor.Dec Go.Proofs.YtmkcooamgojbpaaGreatDoor.Steps Go.Proofs.YtmkcooamgojbpaaGreatDoor.Cmds Go.Proofs.YtmkcooamgojbpaaGreatDoor.Octets
set_option linter.unusedVariables false

abbrev Tok := List UInt8
def tTick : Tok := [116, 105, 99, 107]
def tIndex : Tok := [105, 110, 100, 101, 120]
def tBid : Tok := [98, 105, 100]
def tNew : Tok := [110, 101, 119]
def tCancel : Tok := [99, 97, 110, 99, 101, 108]
def tReplace : Tok := [114, 101, 112, 108, 97, 99, 101]
def tRaw : Tok := [114, 97, 119]
def sidesF : List Tok := [[98, 117, 121], [115, 101, 108, 108]]
def typesF : List Tok := [[108, 105, 109, 105, 116], [109, 97, 114, 107, 101, 116], [110, 111, 119], [97, 108, 108], [112, 111, 115, 116]]
def tShort : Tok := [115, 104, 111, 114, 116]
def tExempt : Tok := [101, 120, 101, 109, 112, 116]
def tReprice : Tok := [114, 101, 112, 114, 105, 99, 101]
def flagW (f : Nat) : List Tok := (if f % 2 = 1 then [tShort] else []) ++ ((if f / 2 % 2 = 1 then [tExempt] else []) ++ (if f / 4 % 2 = 1 then [tReprice] else []))
def sideW (b : Nat) : Tok := (sidesF[b]?).getD []
def typeW (t : Nat) : Tok := (typesF[t]?).getD []
def wordsC (c : Cmd) : List Tok :=
  if c.k = 1 then [tNew, decB c.s, decB c.i, decB c.a, sideW c.b.toNat, typeW (c.t.toNat - 1), decB c.p, decB c.q] ++ flagW c.f.toNat
  else if c.k = 3 then [tReplace, decB c.s, decB c.i, decB c.p, decB c.q]
  else [tCancel, decB c.s, decB c.i]
def hx (d : Nat) : UInt8 := if d < 10 then UInt8.ofNat (48 + d) else UInt8.ofNat (87 + d)
def hexF (l : List Nat) : Tok := l.flatMap fun b => [hx (b / 16), hx (b % 16)]
def wordsF (s : Stp) : List Tok :=
  if s.k = 2 then [tTick, decB s.v]
  else if s.k = 3 then [tIndex, decB s.v]
  else if s.k = 4 then [tBid, decB s.y, decB s.v]
  else match decF s.l with
    | .ok c _ => wordsC c
    | .bad _ => if s.l = [] then [tRaw] else [tRaw, hexF s.l]
def rightS (s : Stp) : Bool :=
  if s.k = 1 then s.y == 0 && (s.v == 0 && decide (s.l.length ≤ 64))
  else if s.k = 2 ∨ s.k = 3 then s.l.isEmpty && s.y == 0
  else if s.k = 4 then s.l.isEmpty && (decide (0 ≤ s.y) && decide (s.y ≤ 255))
  else false
def lineF (s : Stp) : Option Tok := if rightS s = true then some (joinW 32 (wordsF s)) else none

/- Reading. -/
def wordP : List Tok → Option (Tok × List Tok)
  | [] => none
  | w :: l => some (w, l)
def numP (l : List Tok) : Option (Int × List Tok) := (wordP l).bind fun x => (numF x.1).map fun n => (n, x.2)
def inP (most : Int) (l : List Tok) : Option (Int × List Tok) := (numP l).bind fun x => if 0 ≤ x.1 ∧ x.1 ≤ most then some x else none
def placeF : List Tok → Tok → Option Nat
  | [], _ => none
  | x :: l, w => if x = w then some 0 else (placeF l w).map (· + 1)
def oneP (ws : List Tok) (l : List Tok) : Option (Nat × List Tok) := (wordP l).bind fun x => (placeF ws x.1).map fun k => (k, x.2)
def flagP (t : Tok) (bit : Nat) (x : Nat × List Tok) : Nat × List Tok := match x.2 with
  | w :: l => if w = t then (x.1 + bit, l) else x
  | [] => x
def flagsP (l : List Tok) : Nat × List Tok := flagP tReprice 4 (flagP tExempt 2 (flagP tShort 1 (0, l)))
def newC (s i : Int) (l : List Tok) : Option (Cmd × List Tok) :=
  (inP 1073741824 l).bind fun a => (oneP sidesF a.2).bind fun b => (oneP typesF b.2).bind fun t => (numP t.2).bind fun p => (numP p.2).bind fun q =>
    some (⟨1, s, i, a.1, b.1, t.1 + 1, p.1, q.1, (flagsP q.2).1⟩, (flagsP q.2).2)
def repC (s i : Int) (l : List Tok) : Option (Cmd × List Tok) := (numP l).bind fun p => (numP p.2).bind fun q => some (⟨3, s, i, 0, 0, 0, p.1, q.1, 0⟩, q.2)
def cmdP (k : Int) (l : List Tok) : Option (Stp × List Tok) :=
  (inP 255 l).bind fun s => (inP 4611686018427387904 s.2).bind fun i =>
    (if k = 1 then newC s.1 i.1 i.2 else if k = 3 then repC s.1 i.1 i.2 else some (⟨k, s.1, i.1, 0, 0, 0, 0, 0, 0⟩, i.2)).bind fun c =>
      if rightC c.1 = true then some (⟨1, 0, 0, formC c.1⟩, c.2) else none
def uh (c : UInt8) : Option Nat := if 48 ≤ c.toNat ∧ c.toNat ≤ 57 then some (c.toNat - 48) else if 97 ≤ c.toNat ∧ c.toNat ≤ 102 then some (c.toNat - 87) else none
def unhexF : Tok → Option (List Nat)
  | a :: b :: l => (uh a).bind fun x => (uh b).bind fun y => (unhexF l).map fun r => (x * 16 + y) :: r
  | [] => some []
  | [_] => none
def rawW (w : Tok) : Option Stp :=
  if 0 < w.length ∧ w.length % 2 = 0 ∧ w.length ≤ 128 then (unhexF w).bind fun b => match decF b with
    | .bad _ => some ⟨1, 0, 0, b⟩
    | .ok _ _ => none
  else none
def rawP (l : List Tok) : Option (Stp × List Tok) := match l with
  | [] => some (⟨1, 0, 0, []⟩, [])
  | w :: l => (rawW w).map fun s => (s, l)
def bodyP (w : Tok) (l : List Tok) : Option (Stp × List Tok) :=
  if w = tTick then (numP l).map fun x => (⟨2, 0, x.1, []⟩, x.2)
  else if w = tIndex then (numP l).map fun x => (⟨3, 0, x.1, []⟩, x.2)
  else if w = tBid then (inP 255 l).bind fun y => (numP y.2).map fun x => (⟨4, y.1, x.1, []⟩, x.2)
  else if w = tNew then cmdP 1 l
  else if w = tCancel then cmdP 2 l
  else if w = tReplace then cmdP 3 l
  else if w = tRaw then rawP l
  else none
def stepP (toks : List Tok) : Option Stp := (wordP toks).bind fun x => (bodyP x.1 x.2).bind fun y => if y.2 = [] then some y.1 else none

section sound
theorem word_ok {l l' : List Tok} {w : Tok} (h : wordP l = some (w, l')) : l = w :: l' := by
  cases l with
  | nil => cases h
  | cons a l => injection h with h; injection h with h1 h2; rw [h1, h2]
theorem num_ok {l l' : List Tok} {n : Int} (h : numP l = some (n, l')) : l = decB n :: l' ∧ -9223372036854775808 ≤ n ∧ n ≤ 9223372036854775807 := by
  unfold numP at h
  obtain ⟨⟨w, m⟩, h1, h2⟩ := Option.bind_eq_some_iff.1 h
  obtain ⟨k, h3, h4⟩ := Option.map_eq_some_iff.1 h2
  injection h4 with h5 h6
  subst h5
  dsimp only at h3 h6
  subst h6
  obtain ⟨rfl, h7⟩ := (numF_iff _ _).1 h3
  exact ⟨word_ok h1, h7⟩
theorem in_ok {l l' : List Tok} {n most : Int} (h : inP most l = some (n, l')) : l = decB n :: l' ∧ 0 ≤ n ∧ n ≤ most := by
  unfold inP at h
  obtain ⟨⟨w, m⟩, h1, h2⟩ := Option.bind_eq_some_iff.1 h
  split at h2
  · rename_i hc
    injection h2 with h2
    injection h2 with h3 h4
    subst h3 h4
    exact ⟨(num_ok h1).1, hc⟩
  · cases h2
theorem place_ok : ∀ {l : List Tok} {w : Tok} {k : Nat}, placeF l w = some k → l[k]? = some w := by
  intro l
  induction l with
  | nil => intro w k h; cases h
  | cons x l ih =>
    intro w k h
    unfold placeF at h
    split at h
    · rename_i e
      injection h with h
      subst h e
      rfl
    · obtain ⟨j, h1, rfl⟩ := Option.map_eq_some_iff.1 h
      simpa using ih h1
theorem one_ok {ws l l' : List Tok} {k : Nat} (h : oneP ws l = some (k, l')) : ∃ w, ws[k]? = some w ∧ l = w :: l' := by
  unfold oneP at h
  obtain ⟨⟨w, m⟩, h1, h2⟩ := Option.bind_eq_some_iff.1 h
  obtain ⟨j, h3, h4⟩ := Option.map_eq_some_iff.1 h2
  injection h4 with h5 h6
  subst h5
  dsimp only at h3 h6
  subst h6
  exact ⟨w, place_ok h3, word_ok h1⟩
theorem flag_ok (t : Tok) (bit : Nat) (x : Nat × List Tok) : (flagP t bit x = x) ∨ (x.2 = t :: (flagP t bit x).2 ∧ (flagP t bit x).1 = x.1 + bit) := by
  obtain ⟨n, l⟩ := x
  cases l with
  | nil => exact .inl rfl
  | cons w l =>
    unfold flagP
    dsimp only
    split
    · rename_i e; subst e; exact .inr ⟨rfl, rfl⟩
    · exact .inl rfl
theorem flags_ok (l : List Tok) : l = flagW (flagsP l).1 ++ (flagsP l).2 ∧ (flagsP l).1 ≤ 7 := by
  unfold flagsP
  generalize h1 : flagP tShort 1 (0, l) = x1
  generalize h2 : flagP tExempt 2 x1 = x2
  generalize h3 : flagP tReprice 4 x2 = x3
  have g1 := flag_ok tShort 1 (0, l)
  have g2 := flag_ok tExempt 2 x1
  have g3 := flag_ok tReprice 4 x2
  rw [h1] at g1
  rw [h2] at g2
  rw [h3] at g3
  rcases g1 with g1 | ⟨e1, f1⟩ <;> rcases g2 with g2 | ⟨e2, f2⟩ <;> rcases g3 with g3 | ⟨e3, f3⟩ <;> simp_all [flagW]
theorem cmd_ok {k : Int} {t : Tok} (hk : k = 1 ∧ t = tNew ∨ k = 2 ∧ t = tCancel ∨ k = 3 ∧ t = tReplace) {l l' : List Tok} {s : Stp} (h : cmdP k l = some (s, l')) :
    ∃ c, rightC c = true ∧ s = ⟨1, 0, 0, formC c⟩ ∧ (-9223372036854775808 ≤ c.p ∧ c.p ≤ 9223372036854775807) ∧ (-9223372036854775808 ≤ c.q ∧ c.q ≤ 9223372036854775807) ∧ t :: l = wordsC c ++ l' := by
  unfold cmdP at h
  obtain ⟨⟨sy, l1⟩, h1, h⟩ := Option.bind_eq_some_iff.1 h
  obtain ⟨⟨i, l2⟩, h2, h⟩ := Option.bind_eq_some_iff.1 h
  obtain ⟨⟨c, l3⟩, h3, h⟩ := Option.bind_eq_some_iff.1 h
  dsimp only at h1 h2 h3 h
  obtain ⟨e1, b1⟩ := in_ok h1
  obtain ⟨e2, b2⟩ := in_ok h2
  split at h
  · rename_i hr
    injection h with h
    injection h with h4 h5
    subst h4 h5
    refine ⟨c, hr, rfl, ?_⟩
    split at h3
    · rename_i hk1
      have ht : t = tNew := by rcases hk with h | h | h; exact h.2; omega; omega
      unfold newC at h3
      obtain ⟨⟨a, m1⟩, g1, h3⟩ := Option.bind_eq_some_iff.1 h3
      obtain ⟨⟨b, m2⟩, g2, h3⟩ := Option.bind_eq_some_iff.1 h3
      obtain ⟨⟨ty, m3⟩, g3, h3⟩ := Option.bind_eq_some_iff.1 h3
      obtain ⟨⟨p, m4⟩, g4, h3⟩ := Option.bind_eq_some_iff.1 h3
      obtain ⟨⟨q, m5⟩, g5, h3⟩ := Option.bind_eq_some_iff.1 h3
      dsimp only at g1 g2 g3 g4 g5 h3
      injection h3 with h3
      injection h3 with h6 h7
      subst h6 h7
      obtain ⟨f1, -⟩ := in_ok g1
      obtain ⟨w2, f2, f2'⟩ := one_ok g2
      obtain ⟨w3, f3, f3'⟩ := one_ok g3
      obtain ⟨f4, i4⟩ := num_ok g4
      obtain ⟨f5, i5⟩ := num_ok g5
      have f6 := (flags_ok m5).1
      refine ⟨i4, i5, ?_⟩
      unfold wordsC sideW typeW
      dsimp only
      rw [if_pos rfl]
      have e3 : ((ty : Int) + 1).toNat - 1 = ty := by omega
      rw [Int.toNat_natCast, e3, f2, f3, ht, e1, e2, f1, f2', f3', f4, f5]
      simp only [Option.getD_some, Int.toNat_natCast, List.cons_append, List.nil_append]
      rw [← f6]
    · rename_i hk1
      split at h3
      · rename_i hk3
        have ht : t = tReplace := by rcases hk with h | h | h; omega; omega; exact h.2
        unfold repC at h3
        obtain ⟨⟨p, m4⟩, g4, h3⟩ := Option.bind_eq_some_iff.1 h3
        obtain ⟨⟨q, m5⟩, g5, h3⟩ := Option.bind_eq_some_iff.1 h3
        dsimp only at g4 g5 h3
        injection h3 with h3
        injection h3 with h6 h7
        subst h6 h7
        obtain ⟨f4, i4⟩ := num_ok g4
        obtain ⟨f5, i5⟩ := num_ok g5
        refine ⟨i4, i5, ?_⟩
        unfold wordsC
        dsimp only
        rw [if_neg (by decide), if_pos rfl, ht, e1, e2, f4, f5]
        rfl
      · rename_i hk3
        have ht : k = 2 ∧ t = tCancel := by rcases hk with h | h | h; omega; exact h; omega
        obtain ⟨rfl, rfl⟩ := ht
        injection h3 with h3
        injection h3 with h6 h7
        subst h6 h7
        refine ⟨⟨(by decide : (-9223372036854775808 : Int) ≤ 0), (by decide : (0 : Int) ≤ 9223372036854775807)⟩, ⟨(by decide : (-9223372036854775808 : Int) ≤ 0), (by decide : (0 : Int) ≤ 9223372036854775807)⟩, ?_⟩
        unfold wordsC
        dsimp only
        rw [if_neg (by decide), if_neg (by decide), e1, e2]
        rfl
  · cases h
theorem uh_ok {c : UInt8} {d : Nat} (h : uh c = some d) : d < 16 ∧ c = hx d := by
  unfold uh at h
  split at h
  · rename_i hc
    injection h with h
    subst h
    refine ⟨by omega, ?_⟩
    unfold hx
    rw [if_pos (by omega)]
    apply UInt8.toNat_inj.1
    rw [UInt8.toNat_ofNat']
    omega
  · split at h
    · rename_i hc
      injection h with h
      subst h
      refine ⟨by omega, ?_⟩
      unfold hx
      rw [if_neg (by omega)]
      apply UInt8.toNat_inj.1
      rw [UInt8.toNat_ofNat']
      omega
    · cases h
theorem uh_hx {d : Nat} (h : d < 16) : uh (hx d) = some d := by
  have e : (hx d).toNat = if d < 10 then 48 + d else 87 + d := by
    unfold hx
    split
    · rw [UInt8.toNat_ofNat']; omega
    · rw [UInt8.toNat_ofNat']; omega
  unfold uh
  rw [e]
  split <;> split <;> first | (congr 1; omega) | omega | skip
  · split
    · congr 1; omega
    · omega
theorem unhex_ok : ∀ {w : Tok} {l : List Nat}, unhexF w = some l → w = hexF l ∧ (∀ b ∈ l, b < 256) ∧ w.length = 2 * l.length
  | [], l, h => by injection h with h; subst h; exact ⟨rfl, by simp, rfl⟩
  | [_], l, h => by cases h
  | a :: b :: w, l, h => by
    unfold unhexF at h
    obtain ⟨x, h1, h⟩ := Option.bind_eq_some_iff.1 h
    obtain ⟨y, h2, h⟩ := Option.bind_eq_some_iff.1 h
    obtain ⟨r, h3, rfl⟩ := Option.map_eq_some_iff.1 h
    obtain ⟨e1, e2, e3⟩ := unhex_ok h3
    obtain ⟨hx1, ha⟩ := uh_ok h1
    obtain ⟨hy1, hb⟩ := uh_ok h2
    refine ⟨?_, fun c hc => ?_, by simp [e3]; omega⟩
    · rw [ha, hb, e1, hexF, hexF, List.flatMap_cons, show (x * 16 + y) / 16 = x by omega, show (x * 16 + y) % 16 = y by omega]
      rfl
    · rcases List.mem_cons.1 hc with rfl | hc
      · omega
      · exact e2 c hc
theorem unhex_hex : ∀ {l : List Nat}, (∀ b ∈ l, b < 256) → unhexF (hexF l) = some l := by
  intro l
  induction l with
  | nil => intro _; rfl
  | cons b l ih =>
    intro h
    have hb := h b List.mem_cons_self
    have := ih (fun c hc => h c (List.mem_cons_of_mem _ hc))
    rw [hexF, List.flatMap_cons]
    show unhexF (hx (b / 16) :: hx (b % 16) :: hexF l) = _
    rw [unhexF, uh_hx (by omega), uh_hx (by omega), this]
    simp
    omega
theorem hex_len (l : List Nat) : (hexF l).length = 2 * l.length := by
  induction l with
  | nil => rfl
  | cons b l ih => rw [hexF, List.flatMap_cons]; show (hx (b / 16) :: hx (b % 16) :: hexF l).length = _; simp [ih]; omega
/-- The words of bytes that are a command's. -/
theorem words_cmd {c : Cmd} (h : rightC c = true) (hp : -9223372036854775808 ≤ c.p ∧ c.p ≤ 9223372036854775807) (hq : -9223372036854775808 ≤ c.q ∧ c.q ≤ 9223372036854775807) : wordsF ⟨1, 0, 0, formC c⟩ = wordsC c := by
  unfold wordsF
  dsimp only
  rw [if_neg (by decide), if_neg (by decide), if_neg (by decide), dec_form h hp hq]
theorem form_len (c : Cmd) : (formC c).length ≤ 64 := by
  have h1 := numB_len c.i.toNat
  have h2 := numB_len c.a.toNat
  unfold formC
  simp only [List.length_append, List.length_cons, List.length_nil]
  split <;> split <;> simp [beB_len] <;> omega
/-- What is read has just these words. -/
theorem step_sound {toks : List Tok} {s : Stp} (h : stepP toks = some s) : rightS s = true ∧ wordsF s = toks := by
  unfold stepP at h
  obtain ⟨⟨w, l⟩, h1, h⟩ := Option.bind_eq_some_iff.1 h
  obtain ⟨⟨s', l'⟩, h2, h⟩ := Option.bind_eq_some_iff.1 h
  dsimp only at h2 h
  split at h
  · rename_i hl
    injection h with h
    subst h hl
    have e1 := word_ok h1
    subst e1
    have hcmd : ∀ {k : Int} {t : Tok}, (k = 1 ∧ t = tNew ∨ k = 2 ∧ t = tCancel ∨ k = 3 ∧ t = tReplace) → cmdP k l = some (s', []) → rightS s' = true ∧ wordsF s' = t :: l := fun hk hc => by
      obtain ⟨c, g1, rfl, g2, g3, g4⟩ := cmd_ok hk hc
      rw [List.append_nil] at g4
      refine ⟨?_, by rw [words_cmd g1 g2 g3, g4]⟩
      have := form_len c
      simp [rightS, this]
    unfold bodyP at h2
    split at h2
    · rename_i e; subst e
      obtain ⟨⟨n, m⟩, g1, g2⟩ := Option.map_eq_some_iff.1 h2
      injection g2 with g2 g3
      dsimp only at g2 g3
      subst g2 g3
      obtain ⟨e, -⟩ := num_ok g1
      subst e
      exact ⟨rfl, rfl⟩
    · split at h2
      · rename_i e; subst e
        obtain ⟨⟨n, m⟩, g1, g2⟩ := Option.map_eq_some_iff.1 h2
        injection g2 with g2 g3
        dsimp only at g2 g3
        subst g2 g3
        obtain ⟨e, -⟩ := num_ok g1
        subst e
        exact ⟨rfl, rfl⟩
      · split at h2
        · rename_i e; subst e
          obtain ⟨⟨y, m1⟩, g0, h2⟩ := Option.bind_eq_some_iff.1 h2
          obtain ⟨⟨n, m⟩, g1, g2⟩ := Option.map_eq_some_iff.1 h2
          injection g2 with g2 g3
          dsimp only at g1 g2 g3
          subst g2 g3
          obtain ⟨e, -⟩ := num_ok g1
          obtain ⟨e0, e2⟩ := in_ok g0
          subst e e0
          refine ⟨?_, rfl⟩
          simp [rightS, e2.1, e2.2]
        · split at h2
          · rename_i e; subst e; exact hcmd (.inl ⟨rfl, rfl⟩) h2
          · split at h2
            · rename_i e; subst e; exact hcmd (.inr (.inl ⟨rfl, rfl⟩)) h2
            · split at h2
              · rename_i e; subst e; exact hcmd (.inr (.inr ⟨rfl, rfl⟩)) h2
              · split at h2
                · rename_i e; subst e
                  unfold rawP at h2
                  split at h2
                  · injection h2 with h2
                    injection h2 with h2
                    subst h2
                    exact ⟨rfl, rfl⟩
                  · rename_i v m
                    obtain ⟨t, g1, g2⟩ := Option.map_eq_some_iff.1 h2
                    injection g2 with g2 g3
                    subst g2 g3
                    unfold rawW at g1
                    split at g1
                    · rename_i hlen
                      obtain ⟨b, g4, g5⟩ := Option.bind_eq_some_iff.1 g1
                      split at g5
                      · rename_i hd
                        injection g5 with g5
                        subst g5
                        obtain ⟨q1, q2, q3⟩ := unhex_ok g4
                        have hne : b ≠ [] := fun e => by subst e; have := hlen.1; rw [q3] at this; simp at this
                        refine ⟨by simp [rightS]; omega, ?_⟩
                        unfold wordsF
                        dsimp only
                        rw [if_neg (by decide), if_neg (by decide), if_neg (by decide), hd]
                        dsimp only
                        rw [if_neg hne, q1]
                      · cases g5
                    · cases g1
                · cases h2
  · cases h
end sound

section complete
theorem numP_dec {n : Int} (h : -9223372036854775808 ≤ n ∧ n ≤ 9223372036854775807) (l : List Tok) : numP (decB n :: l) = some (n, l) := by
  simp [numP, wordP, numF_dec h.1 h.2]
theorem inP_dec {n most : Int} (h0 : 0 ≤ n) (h1 : n ≤ most) (hm : most ≤ 9223372036854775807) (l : List Tok) : inP most (decB n :: l) = some (n, l) := by
  unfold inP
  rw [numP_dec ⟨by omega, by omega⟩]
  simp [h0, h1]
theorem flags_flag (f : Nat) (h : f ≤ 7) : flagsP (flagW f) = (f, []) := by
  have : f = 0 ∨ f = 1 ∨ f = 2 ∨ f = 3 ∨ f = 4 ∨ f = 5 ∨ f = 6 ∨ f = 7 := by omega
  rcases this with rfl | rfl | rfl | rfl | rfl | rfl | rfl | rfl <;> decide
theorem cmd_words {c : Cmd} (h : rightC c = true) (hp : -9223372036854775808 ≤ c.p ∧ c.p ≤ 9223372036854775807) (hq : -9223372036854775808 ≤ c.q ∧ c.q ≤ 9223372036854775807) : stepP (wordsC c) = some ⟨1, 0, 0, formC c⟩ := by
  obtain ⟨hk, hs, hi, hn⟩ := right_in h
  obtain ⟨hz, hz2⟩ := right_zero h
  obtain ⟨k, s, i, a, b, t, p, q, f⟩ := c
  dsimp only at *
  rcases hk with rfl | rfl | rfl
  · obtain ⟨ha, hb, ht, hf⟩ := hn rfl
    obtain ⟨f, rfl⟩ := Int.eq_ofNat_of_zero_le hf.1
    have hb' : b = 0 ∨ b = 1 := by omega
    have ht' : t = 1 ∨ t = 2 ∨ t = 3 ∨ t = 4 ∨ t = 5 := by omega
    have hside : ∀ l, oneP sidesF (sideW b.toNat :: l) = some (b.toNat, l) := fun l => by rcases hb' with rfl | rfl <;> rfl
    have htype : ∀ l, oneP typesF (typeW (t.toNat - 1) :: l) = some (t.toNat - 1, l) := fun l => by rcases ht' with rfl | rfl | rfl | rfl | rfl <;> rfl
    have eb : ((b.toNat : Nat) : Int) = b := by omega
    have et : (((t.toNat - 1 : Nat)) : Int) + 1 = t := by omega
    unfold wordsC
    dsimp only
    rw [if_pos rfl]
    have hnew : newC s i (decB a :: sideW b.toNat :: typeW (t.toNat - 1) :: decB p :: decB q :: flagW f) = some (⟨1, s, i, a, b, t, p, q, f⟩, []) := by
      unfold newC
      rw [inP_dec ha.1 ha.2 (by decide)]
      simp only [Option.bind_some]
      rw [hside]
      simp only [Option.bind_some]
      rw [htype]
      simp only [Option.bind_some]
      rw [numP_dec hp]
      simp only [Option.bind_some]
      rw [numP_dec hq]
      simp only [Option.bind_some]
      rw [flags_flag f (by omega), eb, et]
    have hc : cmdP 1 (decB s :: decB i :: decB a :: sideW b.toNat :: typeW (t.toNat - 1) :: decB p :: decB q :: flagW f) = some (⟨1, 0, 0, formC ⟨1, s, i, a, b, t, p, q, f⟩⟩, []) := by
      unfold cmdP
      rw [inP_dec hs.1 hs.2 (by decide)]
      simp only [Option.bind_some]
      rw [inP_dec hi.1 hi.2 (by decide)]
      simp only [Option.bind_some, if_true]
      rw [hnew]
      simp only [Option.bind_some]
      rw [if_pos h]
    simp only [List.cons_append, List.nil_append, Int.toNat_natCast]
    unfold stepP wordP bodyP
    simp only [Option.bind_some]
    rw [if_neg (by decide), if_neg (by decide), if_neg (by decide), if_pos (by trivial), hc]
    rfl
  · obtain ⟨rfl, rfl, rfl, rfl⟩ := hz (.inl rfl)
    obtain ⟨rfl, rfl⟩ := hz2 rfl
    unfold wordsC
    dsimp only
    rw [if_neg (by decide), if_neg (by decide)]
    have hc : cmdP 2 [decB s, decB i] = some (⟨1, 0, 0, formC ⟨2, s, i, 0, 0, 0, 0, 0, 0⟩⟩, []) := by
      unfold cmdP
      rw [inP_dec hs.1 hs.2 (by decide)]
      simp only [Option.bind_some]
      rw [inP_dec hi.1 hi.2 (by decide)]
      simp only [Option.bind_some]
      rw [if_neg (by decide), if_neg (by decide)]
      simp only [Option.bind_some]
      rw [if_pos h]
    unfold stepP wordP bodyP
    simp only [Option.bind_some]
    rw [if_neg (by decide), if_neg (by decide), if_neg (by decide), if_neg (by decide), if_pos (by trivial), hc]
    rfl
  · obtain ⟨rfl, rfl, rfl, rfl⟩ := hz (.inr rfl)
    unfold wordsC
    dsimp only
    rw [if_neg (by decide), if_pos rfl]
    have hc : cmdP 3 [decB s, decB i, decB p, decB q] = some (⟨1, 0, 0, formC ⟨3, s, i, 0, 0, 0, p, q, 0⟩⟩, []) := by
      unfold cmdP
      rw [inP_dec hs.1 hs.2 (by decide)]
      simp only [Option.bind_some]
      rw [inP_dec hi.1 hi.2 (by decide)]
      simp only [Option.bind_some]
      rw [if_neg (by decide), if_pos (by trivial)]
      unfold repC
      rw [numP_dec hp]
      simp only [Option.bind_some]
      rw [numP_dec hq]
      simp only [Option.bind_some]
      rw [if_pos h]
    unfold stepP wordP bodyP
    simp only [Option.bind_some]
    rw [if_neg (by decide), if_neg (by decide), if_neg (by decide), if_neg (by decide), if_neg (by decide), if_pos (by trivial), hc]
    rfl
/-- A step whose numbers, and bytes, are such. -/
structure StpIn (s : Stp) : Prop where
  v : -9223372036854775808 ≤ s.v ∧ s.v ≤ 9223372036854775807
  l : ∀ b ∈ s.l, b < 256
/-- The words of a step that is right are read as it. -/
theorem step_words {s : Stp} (h : rightS s = true) (hin : StpIn s) : stepP (wordsF s) = some s := by
  obtain ⟨k, y, v, l⟩ := s
  obtain ⟨hv, hb⟩ := hin
  dsimp only at hv hb
  unfold rightS at h
  dsimp only at h
  split at h
  · rename_i hk
    subst hk
    simp only [Bool.and_eq_true, beq_iff_eq, decide_eq_true_eq] at h
    obtain ⟨rfl, rfl, hl⟩ := h
    unfold wordsF
    dsimp only
    rw [if_neg (by decide), if_neg (by decide), if_neg (by decide)]
    cases hd : decF l with
    | ok c l' =>
      obtain ⟨rfl, hr, hf, hp, hq⟩ := dec_ok hb hd
      dsimp only
      rw [cmd_words hr hp hq, hf]
    | bad e =>
      dsimp only
      by_cases hl0 : l = []
      · subst hl0
        rfl
      · rw [if_neg hl0]
        have hw : rawW (hexF l) = some ⟨1, 0, 0, l⟩ := by
          unfold rawW
          have := hex_len l
          have h0 : 0 < l.length := List.length_pos_iff.2 hl0
          rw [if_pos ⟨by omega, by omega, by omega⟩, unhex_hex hb]
          simp only [Option.bind_some]
          rw [hd]
        unfold stepP wordP bodyP
        simp only [Option.bind_some]
        rw [if_neg (by decide), if_neg (by decide), if_neg (by decide), if_neg (by decide), if_neg (by decide), if_neg (by decide), if_pos (by trivial)]
        unfold rawP
        dsimp only
        rw [hw]
        rfl
  · rename_i hk1
    split at h
    · rename_i hk
      simp only [Bool.and_eq_true, beq_iff_eq, List.isEmpty_iff] at h
      obtain ⟨rfl, rfl⟩ := h
      rcases hk with rfl | rfl
      · unfold wordsF
        dsimp only
        rw [if_pos rfl]
        unfold stepP wordP bodyP
        simp only [Option.bind_some]
        rw [if_pos (by trivial), numP_dec hv]
        rfl
      · unfold wordsF
        dsimp only
        rw [if_neg (by decide), if_pos rfl]
        unfold stepP wordP bodyP
        simp only [Option.bind_some]
        rw [if_neg (by decide), if_pos (by trivial), numP_dec hv]
        rfl
    · split at h
      · rename_i hk
        subst hk
        simp only [Bool.and_eq_true, List.isEmpty_iff, decide_eq_true_eq] at h
        obtain ⟨rfl, hy⟩ := h
        unfold wordsF
        dsimp only
        rw [if_neg (by decide), if_neg (by decide), if_pos rfl]
        unfold stepP wordP bodyP
        simp only [Option.bind_some]
        rw [if_neg (by decide), if_neg (by decide), if_pos (by trivial), inP_dec hy.1 hy.2 (by decide)]
        simp only [Option.bind_some]
        rw [numP_dec hv]
        rfl
      · cases h
end complete
end Go.Proofs.YtmkcooamgojbpaaGreatDoor.Words

/- The document's reading of a line (a guess, whose line is compared) is the program's: plain. -/
namespace Go.Proofs.YtmkcooamgojbpaaGreatDoor.Words
open Go.Proofs.YtmkcooamgojbpaaGreatDoor.Dec Go.Proofs.YtmkcooamgojbpaaGreatDoor.Steps Go.Proofs.YtmkcooamgojbpaaGreatDoor.Cmds Go.Proofs.YtmkcooamgojbpaaGreatDoor.Octets
set_option linter.unusedVariables false

/-- A word's number; 0 where there is none. -/
def nAt (ws : List Tok) (j : Nat) : Int := (numF ((ws[j]?).getD [])).getD 0
def uhd (c : UInt8) : Nat := (uh c).getD 0
def hexG : Tok → List Nat
  | a :: b :: l => (uhd a * 16 + uhd b) :: hexG l
  | _ => []
def ofG (c : Cmd) : Stp := if rightC c = true then ⟨1, 0, 0, formC c⟩ else ⟨0, 0, 0, []⟩
def placeD (l : List Tok) (w : Tok) : Int := match placeF l w with
  | some k => (k : Int)
  | none => -1
def flagsD : List Tok := [tShort, tExempt, tReprice]
def flagG (f : Nat) (w : Tok) : Nat := match placeF flagsD w with
  | some k => f ||| 2 ^ k
  | none => f
def flagsG (l : List Tok) : Nat := l.foldl flagG 0
def cmdG (ws : List Tok) (k : Int) : Cmd :=
  if k = 1 then ⟨1, nAt ws 1, nAt ws 2, nAt ws 3, placeD sidesF ((ws[4]?).getD []), placeD typesF ((ws[5]?).getD []) + 1, nAt ws 6, nAt ws 7, flagsG (ws.drop 8)⟩
  else if k = 3 then ⟨3, nAt ws 1, nAt ws 2, 0, 0, 0, nAt ws 3, nAt ws 4, 0⟩
  else ⟨k, nAt ws 1, nAt ws 2, 0, 0, 0, 0, 0, 0⟩
def guessF (ws : List Tok) : Stp :=
  if (ws[0]?).getD [] = tTick then ⟨2, 0, nAt ws 1, []⟩
  else if (ws[0]?).getD [] = tIndex then ⟨3, 0, nAt ws 1, []⟩
  else if (ws[0]?).getD [] = tBid then ⟨4, nAt ws 1, nAt ws 2, []⟩
  else if (ws[0]?).getD [] = tRaw then ⟨1, 0, 0, hexG ((ws[1]?).getD [])⟩
  else if (ws[0]?).getD [] = tCancel then ofG (cmdG ws 2)
  else if (ws[0]?).getD [] = tReplace then ofG (cmdG ws 3)
  else if (ws[0]?).getD [] = tNew then if ws.length < 8 then ⟨0, 0, 0, []⟩ else ofG (cmdG ws 1)
  else ofG (cmdG ws 0)
/-- The document's Parse. -/
def rparseF (l : Tok) : Option Stp := if l = [] then none else if rightS (guessF (cutW 32 l)) = true ∧ joinW 32 (wordsF (guessF (cutW 32 l))) = l then some (guessF (cutW 32 l)) else none

theorem nAt_in (ws : List Tok) (j : Nat) : -9223372036854775808 ≤ nAt ws j ∧ nAt ws j ≤ 9223372036854775807 := by
  unfold nAt
  cases e : numF ((ws[j]?).getD []) with
  | none => simp
  | some n => have := (numF_iff _ n).1 e; simp; omega
theorem nAt_dec {ws : List Tok} {j : Nat} {n : Int} (h : ws[j]? = some (decB n)) (hn : -9223372036854775808 ≤ n ∧ n ≤ 9223372036854775807) : nAt ws j = n := by
  unfold nAt
  rw [h]
  simp [numF_dec hn.1 hn.2]
theorem uhd_lt (c : UInt8) : uhd c < 16 := by
  unfold uhd
  cases e : uh c with
  | none => decide
  | some d => exact (uh_ok e).1
theorem hexG_lt : ∀ (w : Tok), ∀ b ∈ hexG w, b < 256
  | [] => by simp [hexG]
  | [_] => by simp [hexG]
  | a :: b :: w => by
    intro x hx
    rw [hexG] at hx
    rcases List.mem_cons.1 hx with rfl | hx
    · have h1 := uhd_lt a; have h2 := uhd_lt b; omega
    · exact hexG_lt w x hx
theorem hexG_of : ∀ {w : Tok} {l : List Nat}, unhexF w = some l → hexG w = l
  | [], l, h => by injection h with h
  | [_], l, h => by cases h
  | a :: b :: w, l, h => by
    unfold unhexF at h
    obtain ⟨x, h1, h⟩ := Option.bind_eq_some_iff.1 h
    obtain ⟨y, h2, h⟩ := Option.bind_eq_some_iff.1 h
    obtain ⟨r, h3, rfl⟩ := Option.map_eq_some_iff.1 h
    rw [hexG, hexG_of h3]
    unfold uhd
    rw [h1, h2]
    rfl
theorem flagsG_flag (f : Nat) (h : f ≤ 7) : flagsG (flagW f) = f := by
  have : f = 0 ∨ f = 1 ∨ f = 2 ∨ f = 3 ∨ f = 4 ∨ f = 5 ∨ f = 6 ∨ f = 7 := by omega
  rcases this with rfl | rfl | rfl | rfl | rfl | rfl | rfl | rfl <;> decide
/-- The words of a command that is right are guessed to it. -/
theorem guess_cmd {c : Cmd} (h : rightC c = true) (hp : -9223372036854775808 ≤ c.p ∧ c.p ≤ 9223372036854775807) (hq : -9223372036854775808 ≤ c.q ∧ c.q ≤ 9223372036854775807) : guessF (wordsC c) = ⟨1, 0, 0, formC c⟩ := by
  have key : ∀ k, cmdG (wordsC c) k = c → ofG (cmdG (wordsC c) k) = ⟨1, 0, 0, formC c⟩ := fun k e => by rw [e]; unfold ofG; rw [if_pos h]
  obtain ⟨hk, hs, hi, hn⟩ := right_in h
  obtain ⟨hz, hz2⟩ := right_zero h
  obtain ⟨k, s, i, a, b, t, p, q, f⟩ := c
  dsimp only at *
  rcases hk with rfl | rfl | rfl
  · obtain ⟨ha, hb, ht, hf⟩ := hn rfl
    obtain ⟨f, rfl⟩ := Int.eq_ofNat_of_zero_le hf.1
    have hb' : b = 0 ∨ b = 1 := by omega
    have ht' : t = 1 ∨ t = 2 ∨ t = 3 ∨ t = 4 ∨ t = 5 := by omega
    have hside : placeD sidesF (sideW b.toNat) = b := by rcases hb' with rfl | rfl <;> rfl
    have htype : placeD typesF (typeW (t.toNat - 1)) + 1 = t := by rcases ht' with rfl | rfl | rfl | rfl | rfl <;> rfl
    have he : wordsC ⟨1, s, i, a, b, t, p, q, (f : Int)⟩ = [tNew, decB s, decB i, decB a, sideW b.toNat, typeW (t.toNat - 1), decB p, decB q] ++ flagW f := by
      unfold wordsC
      dsimp only
      rw [if_pos rfl, Int.toNat_natCast]
    rw [he] at key ⊢
    have hc : cmdG ([tNew, decB s, decB i, decB a, sideW b.toNat, typeW (t.toNat - 1), decB p, decB q] ++ flagW f) 1 = ⟨1, s, i, a, b, t, p, q, (f : Int)⟩ := by
      unfold cmdG
      rw [if_pos rfl, nAt_dec (j := 1) (n := s) rfl (by omega), nAt_dec (j := 2) (n := i) rfl (by omega), nAt_dec (j := 3) (n := a) rfl (by omega), nAt_dec (j := 6) (n := p) rfl hp, nAt_dec (j := 7) (n := q) rfl hq]
      have e4 : ((([tNew, decB s, decB i, decB a, sideW b.toNat, typeW (t.toNat - 1), decB p, decB q] ++ flagW f)[4]?).getD []) = sideW b.toNat := rfl
      have e5 : ((([tNew, decB s, decB i, decB a, sideW b.toNat, typeW (t.toNat - 1), decB p, decB q] ++ flagW f)[5]?).getD []) = typeW (t.toNat - 1) := rfl
      have e8 : ([tNew, decB s, decB i, decB a, sideW b.toNat, typeW (t.toNat - 1), decB p, decB q] ++ flagW f).drop 8 = flagW f := rfl
      rw [e4, e5, e8, hside, htype, flagsG_flag f (by omega)]
    have := key 1 hc
    unfold guessF
    have e0 : ((([tNew, decB s, decB i, decB a, sideW b.toNat, typeW (t.toNat - 1), decB p, decB q] ++ flagW f)[0]?).getD []) = tNew := rfl
    rw [e0, if_neg (by decide), if_neg (by decide), if_neg (by decide), if_neg (by decide), if_neg (by decide), if_neg (by decide), if_pos rfl, if_neg (by simp), this]
  · obtain ⟨rfl, rfl, rfl, rfl⟩ := hz (.inl rfl)
    obtain ⟨rfl, rfl⟩ := hz2 rfl
    have he : wordsC ⟨2, s, i, 0, 0, 0, 0, 0, 0⟩ = [tCancel, decB s, decB i] := by
      unfold wordsC
      dsimp only
      rw [if_neg (by decide), if_neg (by decide)]
    rw [he] at key ⊢
    have := key 2 (by
      unfold cmdG
      rw [if_neg (by decide), if_neg (by decide), nAt_dec (j := 1) (n := s) rfl (by omega), nAt_dec (j := 2) (n := i) rfl (by omega)])
    unfold guessF
    have e0 : (([tCancel, decB s, decB i][0]?).getD []) = tCancel := rfl
    rw [e0, if_neg (by decide), if_neg (by decide), if_neg (by decide), if_neg (by decide), if_pos rfl, this]
  · obtain ⟨rfl, rfl, rfl, rfl⟩ := hz (.inr rfl)
    have he : wordsC ⟨3, s, i, 0, 0, 0, p, q, 0⟩ = [tReplace, decB s, decB i, decB p, decB q] := by
      unfold wordsC
      dsimp only
      rw [if_neg (by decide), if_pos rfl]
    rw [he] at key ⊢
    have := key 3 (by
      unfold cmdG
      rw [if_neg (by decide), if_pos rfl, nAt_dec (j := 1) (n := s) rfl (by omega), nAt_dec (j := 2) (n := i) rfl (by omega), nAt_dec (j := 3) (n := p) rfl hp, nAt_dec (j := 4) (n := q) rfl hq])
    unfold guessF
    have e0 : (([tReplace, decB s, decB i, decB p, decB q][0]?).getD []) = tReplace := rfl
    rw [e0, if_neg (by decide), if_neg (by decide), if_neg (by decide), if_neg (by decide), if_neg (by decide), if_pos rfl, this]
/-- What is read is guessed. -/
theorem guess_of {toks : List Tok} {s : Stp} (h : stepP toks = some s) : guessF toks = s := by
  unfold stepP at h
  obtain ⟨⟨w, l⟩, h1, h⟩ := Option.bind_eq_some_iff.1 h
  obtain ⟨⟨s', l'⟩, h2, h⟩ := Option.bind_eq_some_iff.1 h
  dsimp only at h2 h
  split at h
  · rename_i hl
    injection h with h
    subst h hl
    have e1 := word_ok h1
    subst e1
    have hcmd : ∀ {k : Int} {t : Tok}, (k = 1 ∧ t = tNew ∨ k = 2 ∧ t = tCancel ∨ k = 3 ∧ t = tReplace) → cmdP k l = some (s', []) → guessF (t :: l) = s' := fun hk hc => by
      obtain ⟨c, g1, rfl, g2, g3, g4⟩ := cmd_ok hk hc
      rw [List.append_nil] at g4
      rw [g4, guess_cmd g1 g2 g3]
    unfold bodyP at h2
    split at h2
    · rename_i e; subst e
      obtain ⟨⟨n, m⟩, g1, g2⟩ := Option.map_eq_some_iff.1 h2
      injection g2 with g2 g3
      dsimp only at g2 g3
      subst g2 g3
      obtain ⟨e, hn⟩ := num_ok g1
      subst e
      unfold guessF
      rw [if_pos (show ([tTick, decB n][0]?).getD [] = tTick from rfl), nAt_dec (j := 1) (n := n) rfl hn]
    · split at h2
      · rename_i e; subst e
        obtain ⟨⟨n, m⟩, g1, g2⟩ := Option.map_eq_some_iff.1 h2
        injection g2 with g2 g3
        dsimp only at g2 g3
        subst g2 g3
        obtain ⟨e, hn⟩ := num_ok g1
        subst e
        unfold guessF
        rw [if_neg (by simp [tIndex, tTick]), if_pos (show ([tIndex, decB n][0]?).getD [] = tIndex from rfl), nAt_dec (j := 1) (n := n) rfl hn]
      · split at h2
        · rename_i e; subst e
          obtain ⟨⟨y, m1⟩, g0, h2⟩ := Option.bind_eq_some_iff.1 h2
          obtain ⟨⟨n, m⟩, g1, g2⟩ := Option.map_eq_some_iff.1 h2
          injection g2 with g2 g3
          dsimp only at g1 g2 g3
          subst g2 g3
          obtain ⟨e, hn⟩ := num_ok g1
          obtain ⟨e0, e2⟩ := in_ok g0
          subst e e0
          unfold guessF
          rw [if_neg (by simp [tBid, tTick]), if_neg (by simp [tBid, tIndex]), if_pos (show ([tBid, decB y, decB n][0]?).getD [] = tBid from rfl), nAt_dec (j := 1) (n := y) rfl (by omega), nAt_dec (j := 2) (n := n) rfl hn]
        · split at h2
          · rename_i e; subst e; exact hcmd (.inl ⟨rfl, rfl⟩) h2
          · split at h2
            · rename_i e; subst e; exact hcmd (.inr (.inl ⟨rfl, rfl⟩)) h2
            · split at h2
              · rename_i e; subst e; exact hcmd (.inr (.inr ⟨rfl, rfl⟩)) h2
              · split at h2
                · rename_i e; subst e
                  unfold rawP at h2
                  split at h2
                  · injection h2 with h2
                    injection h2 with h2
                  · rename_i v m
                    obtain ⟨t, g1, g2⟩ := Option.map_eq_some_iff.1 h2
                    injection g2 with g2 g3
                    subst g2 g3
                    unfold rawW at g1
                    split at g1
                    · rename_i hlen
                      obtain ⟨b, g4, g5⟩ := Option.bind_eq_some_iff.1 g1
                      split at g5
                      · injection g5 with g5
                        subst g5
                        have := hexG_of g4
                        subst this
                        rfl
                      · cases g5
                    · cases g1
                · cases h2
  · cases h
theorem numG_byte : ∀ (k n : Nat), n < 256 * 128 ^ k → ∀ b ∈ numG k n, b < 256 := by
  intro k
  induction k with
  | zero => intro n h b hb; simp [numG] at hb; subst hb; simpa using h
  | succ k ih =>
    intro n h b hb
    unfold numG at hb
    split at hb
    · simp at hb; omega
    · rcases List.mem_cons.1 hb with rfl | hb
      · omega
      · exact ih _ (Nat.div_lt_of_lt_mul (by rw [Nat.pow_succ] at h; rw [Nat.mul_comm 128, Nat.mul_assoc]; exact h)) b hb
theorem numB_byte {n : Nat} (h : n < 18446744073709551616) : ∀ b ∈ numB n, b < 256 := numG_byte 10 n (Nat.lt_trans h (by decide))
theorem formC_byte {c : Cmd} (h : rightC c = true) : ∀ b ∈ formC c, b < 256 := by
  obtain ⟨hk, hs, hi, hn⟩ := right_in h
  intro b hb
  unfold formC at hb
  simp only [List.mem_append, List.mem_cons, List.not_mem_nil, or_false] at hb
  rcases hb with hb | hb
  · rcases hb with hb | hb
    · rcases hb with hb | hb
      · omega
      · exact numB_byte (by omega) b hb
    · split at hb
      · rename_i hk1
        obtain ⟨ha, hb', ht, hf⟩ := hn hk1
        simp only [List.mem_append, List.mem_cons, List.not_mem_nil, or_false] at hb
        rcases hb with hb | hb
        · exact numB_byte (by omega) b hb
        · omega
      · cases hb
  · split at hb
    · cases hb
    · simp only [List.mem_append] at hb
      rcases hb with hb | hb <;> exact beB_byte _ _ b hb
theorem guess_in (ws : List Tok) : StpIn (guessF ws) := by
  have h0 : (-9223372036854775808 : Int) ≤ 0 ∧ (0 : Int) ≤ 9223372036854775807 := by decide
  have hz : StpIn ⟨0, 0, 0, []⟩ := ⟨h0, by simp⟩
  have ho : ∀ c, StpIn (ofG c) := fun c => by
    unfold ofG
    split
    · rename_i h; exact ⟨h0, formC_byte h⟩
    · exact hz
  unfold guessF
  split
  · exact ⟨nAt_in _ _, by simp⟩
  split
  · exact ⟨nAt_in _ _, by simp⟩
  split
  · exact ⟨nAt_in _ _, by simp⟩
  split
  · exact ⟨h0, hexG_lt _⟩
  split
  · exact ho _
  split
  · exact ho _
  split
  · split
    · exact hz
    · exact ho _
  · exact ho _
theorem hx_free (d : Nat) (h : d < 16) : hx d ≠ 32 ∧ hx d ≠ 10 := by
  have : ∀ d : Fin 16, hx d.1 ≠ 32 ∧ hx d.1 ≠ 10 := by decide
  exact this ⟨d, h⟩
theorem hexF_free {l : List Nat} (h : ∀ b ∈ l, b < 256) : (32 : UInt8) ∉ hexF l ∧ (10 : UInt8) ∉ hexF l := by
  constructor <;>
  · intro hm
    unfold hexF at hm
    obtain ⟨b, hb, hm⟩ := List.mem_flatMap.1 hm
    have := h b hb
    have h1 := hx_free (b / 16) (by omega)
    have h2 := hx_free (b % 16) (by omega)
    simp only [List.mem_cons, List.not_mem_nil, or_false] at hm
    rcases hm with hm | hm
    · first | exact h1.1 hm.symm | exact h1.2 hm.symm
    · first | exact h2.1 hm.symm | exact h2.2 hm.symm
theorem flagW_free (f : Nat) : ∀ w ∈ flagW f, (32 : UInt8) ∉ w ∧ (10 : UInt8) ∉ w := by
  intro w hw
  unfold flagW at hw
  simp only [List.mem_append] at hw
  have k1 : (32 : UInt8) ∉ tShort ∧ (10 : UInt8) ∉ tShort := by decide
  have k2 : (32 : UInt8) ∉ tExempt ∧ (10 : UInt8) ∉ tExempt := by decide
  have k3 : (32 : UInt8) ∉ tReprice ∧ (10 : UInt8) ∉ tReprice := by decide
  rcases hw with hw | hw | hw <;> split at hw <;> simp at hw <;> subst hw <;> assumption
theorem sideW_free (k : Nat) : (32 : UInt8) ∉ sideW k ∧ (10 : UInt8) ∉ sideW k := by
  unfold sideW
  match k with
  | 0 => decide
  | 1 => decide
  | k + 2 => simp [sidesF]
theorem typeW_free (k : Nat) : (32 : UInt8) ∉ typeW k ∧ (10 : UInt8) ∉ typeW k := by
  unfold typeW
  match k with
  | 0 => decide
  | 1 => decide
  | 2 => decide
  | 3 => decide
  | 4 => decide
  | k + 5 => simp [typesF]
theorem wordsC_free (c : Cmd) : ∀ w ∈ wordsC c, (32 : UInt8) ∉ w ∧ (10 : UInt8) ∉ w := by
  have k1 : (32 : UInt8) ∉ tNew ∧ (10 : UInt8) ∉ tNew := by decide
  have k2 : (32 : UInt8) ∉ tReplace ∧ (10 : UInt8) ∉ tReplace := by decide
  have k3 : (32 : UInt8) ∉ tCancel ∧ (10 : UInt8) ∉ tCancel := by decide
  intro w hw
  unfold wordsC at hw
  split at hw
  · rcases List.mem_append.1 hw with hw | hw
    · simp only [List.mem_cons, List.not_mem_nil, or_false] at hw
      rcases hw with rfl | rfl | rfl | rfl | rfl | rfl | rfl | rfl <;> first | exact k1 | exact ⟨dec_32 _, dec_10 _⟩ | exact sideW_free _ | exact typeW_free _
    · exact flagW_free _ w hw
  · split at hw
    · simp only [List.mem_cons, List.not_mem_nil, or_false] at hw
      rcases hw with rfl | rfl | rfl | rfl | rfl <;> first | exact k2 | exact ⟨dec_32 _, dec_10 _⟩
    · simp only [List.mem_cons, List.not_mem_nil, or_false] at hw
      rcases hw with rfl | rfl | rfl <;> first | exact k3 | exact ⟨dec_32 _, dec_10 _⟩
theorem wordsF_free {s : Stp} (h : ∀ b ∈ s.l, b < 256) : ∀ w ∈ wordsF s, (32 : UInt8) ∉ w ∧ (10 : UInt8) ∉ w := by
  have k1 : (32 : UInt8) ∉ tTick ∧ (10 : UInt8) ∉ tTick := by decide
  have k2 : (32 : UInt8) ∉ tIndex ∧ (10 : UInt8) ∉ tIndex := by decide
  have k3 : (32 : UInt8) ∉ tBid ∧ (10 : UInt8) ∉ tBid := by decide
  have k4 : (32 : UInt8) ∉ tRaw ∧ (10 : UInt8) ∉ tRaw := by decide
  intro w hw
  unfold wordsF at hw
  split at hw
  · simp only [List.mem_cons, List.not_mem_nil, or_false] at hw
    rcases hw with rfl | rfl <;> first | exact k1 | exact ⟨dec_32 _, dec_10 _⟩
  split at hw
  · simp only [List.mem_cons, List.not_mem_nil, or_false] at hw
    rcases hw with rfl | rfl <;> first | exact k2 | exact ⟨dec_32 _, dec_10 _⟩
  split at hw
  · simp only [List.mem_cons, List.not_mem_nil, or_false] at hw
    rcases hw with rfl | rfl | rfl <;> first | exact k3 | exact ⟨dec_32 _, dec_10 _⟩
  split at hw
  · exact wordsC_free _ w hw
  · split at hw
    · simp only [List.mem_cons, List.not_mem_nil, or_false] at hw
      subst hw; exact k4
    · simp only [List.mem_cons, List.not_mem_nil, or_false] at hw
      rcases hw with rfl | rfl
      · exact k4
      · exact hexF_free h
theorem wordsF_ne (s : Stp) : wordsF s ≠ [] := by
  unfold wordsF wordsC
  split
  · simp
  split
  · simp
  split
  · simp
  split
  · split
    · simp
    · split <;> simp
  · split <;> simp
/-- Both readings are one. -/
theorem rparse_eq (l : Tok) : rparseF l = stepP (splitW l) := by
  unfold rparseF splitW
  by_cases h : l = []
  · rw [if_pos h, if_pos h]; rfl
  rw [if_neg h, if_neg h]
  cases e : stepP (cutW 32 l) with
  | some s =>
    obtain ⟨h1, h2⟩ := step_sound e
    rw [guess_of e, if_pos ⟨h1, by rw [h2, join_cut]⟩]
  | none =>
    rw [if_neg]
    rintro ⟨h1, h2⟩
    have hin := guess_in (cutW 32 l)
    have h3 := step_words h1 hin
    have h4 : cutW 32 l = wordsF (guessF (cutW 32 l)) := by
      conv => lhs; rw [← h2]
      exact cut_join (wordsF_ne _) (fun w hw => (wordsF_free hin.l w hw).1)
    rw [← h4, e] at h3
    cases h3
end Go.Proofs.YtmkcooamgojbpaaGreatDoor.Words
