/- Frames, in plain Lean: a record's bytes tell it alone. No condition. -/
import Derived.Test.YthlfolpcmcejkaaTakePlain
import Derived.Test.YthlfolpcmcejkaaRec5
set_option linter.unusedSimpArgs false
set_option linter.unusedVariables false
set_option maxRecDepth 100000
namespace Silo
open Go Go.Eng
theorem be_snoc : ∀ (s : Nat) (n : Int), be (s + 1) n = be s (n / 256) ++ [u8I n]
  | 0, n => by simp [be]
  | s + 1, n => by
    have e : n / 256 / 256 ^ s = n / 256 ^ (s + 1) := by
      rw [Int.ediv_ediv_of_nonneg (by decide), Int.pow_succ, Int.mul_comm]
    show u8I (n / 256 ^ (s + 1)) :: be (s + 1) n = (u8I (n / 256 / 256 ^ s) :: be s (n / 256)) ++ [u8I n]
    rw [be_snoc s n, e]; rfl
theorem u8I_snoc (m : Nat) (b : UInt8) : u8I (((m * 256 + b.toNat : Nat)) : Int) = b := by
  rw [u8I_mod]
  have h : (((m * 256 + b.toNat : Nat)) : Int) % 256 = (b.toNat : Int) := by
    have := b.toNat_lt
    omega
  rw [h]
  have h2 : ((b.toNat : Int) % 256).toNat = b.toNat := by have := b.toNat_lt; omega
  unfold u8I
  rw [h2]
  exact UInt8.ofNat_toNat
theorem be_beNat (l : List UInt8) : be l.length (beNat l : Nat) = l := by
  obtain ⟨r, hr⟩ : ∃ r, r = l.reverse := ⟨_, rfl⟩
  induction r generalizing l with
  | nil => have : l = [] := by simpa using hr.symm
           subst this; rfl
  | cons b r ih =>
    have hl : l = r.reverse ++ [b] := by rw [← List.reverse_reverse l, ← hr, List.reverse_cons]
    subst hl
    have h := ih r.reverse (by simp)
    rw [List.length_append, List.length_singleton, be_snoc, beNat_snoc, u8I_snoc]
    have e : ((beNat r.reverse * 256 + b.toNat : Nat) : Int) / 256 = (beNat r.reverse : Nat) := by
      have := b.toNat_lt
      omega
    rw [e, h]
theorem pTake_some {n : Nat} {s a b : List UInt8} (h : pTake n s = some (a, b)) : s = a ++ b ∧ a.length = n := by
  unfold pTake at h
  split at h
  · rename_i hl
    simp only [Option.some.injEq, Prod.mk.injEq] at h
    obtain ⟨rfl, rfl⟩ := h
    exact ⟨(List.take_append_drop n s).symm, by rw [List.length_take]; omega⟩
  · cases h
theorem pNum_some {s t : List UInt8} {n : Int} (h : pNum plain s = some (n, t)) : s = be 4 n ++ t := by
  unfold pNum at h
  cases hp : pTake 4 s with
  | none => rw [hp] at h; cases h
  | some x =>
    obtain ⟨a, b⟩ := x
    rw [hp] at h
    simp only [Option.map_some, Option.some.injEq, Prod.mk.injEq] at h
    obtain ⟨rfl, rfl⟩ := h
    obtain ⟨e, hl⟩ := pTake_some hp
    rw [e]
    have := be_beNat a
    rw [hl] at this
    show a ++ b = be 4 (plain (beNat a)) ++ b
    rw [show plain (beNat a) = ((beNat a : Nat) : Int) from rfl, this]
theorem pNum_minus {s t : List UInt8} {n : Int} (h : pNum minus s = some (n, t)) : s = be 4 n ++ t := by
  rw [pNum_m] at h
  cases hp : pNum plain s with
  | none => rw [hp] at h; cases h
  | some x =>
    obtain ⟨m, b⟩ := x
    rw [hp] at h
    simp only [Option.map_some, Option.some.injEq, Prod.mk.injEq] at h
    obtain ⟨rfl, rfl⟩ := h
    rw [pNum_some hp]
    congr 1
    unfold mI
    split
    · rename_i e; subst e; exact be_congr 4 _ _ (by decide)
    · rfl
theorem pList_some : ∀ (n : Nat) {s t : List UInt8} {l : List Int}, pList plain n s = some (l, t) → s = l.flatMap (be 4) ++ t ∧ l.length = n
  | 0, s, t, l, h => by
    simp only [pList, Option.some.injEq, Prod.mk.injEq] at h
    obtain ⟨rfl, rfl⟩ := h
    exact ⟨rfl, rfl⟩
  | n + 1, s, t, l, h => by
    simp only [pList] at h
    cases hp : pNum plain s with
    | none => rw [hp] at h; cases h
    | some x =>
      obtain ⟨m, b⟩ := x
      rw [hp] at h
      simp only [Option.bind_some] at h
      cases hq : pList plain n b with
      | none => rw [hq] at h; cases h
      | some y =>
        obtain ⟨l', t'⟩ := y
        rw [hq] at h
        simp only [Option.map_some, Option.some.injEq, Prod.mk.injEq] at h
        obtain ⟨rfl, rfl⟩ := h
        obtain ⟨e, hl⟩ := pList_some n hq
        rw [pNum_some hp, e]
        exact ⟨by simp [List.flatMap_cons], by simp [hl]⟩
theorem pSlots_some : ∀ (n : Nat) {s t : List UInt8} {l : List (Int × Int)}, pSlots plain minus n s = some (l, t) → s = l.flatMap be44 ++ t ∧ l.length = n
  | 0, s, t, l, h => by
    simp only [pSlots, Option.some.injEq, Prod.mk.injEq] at h
    obtain ⟨rfl, rfl⟩ := h
    exact ⟨rfl, rfl⟩
  | n + 1, s, t, l, h => by
    simp only [pSlots] at h
    cases hp : pNum minus s with
    | none => rw [hp] at h; cases h
    | some x =>
      obtain ⟨m, b⟩ := x
      rw [hp] at h
      simp only [Option.bind_some] at h
      cases hp2 : pNum plain b with
      | none => rw [hp2] at h; cases h
      | some x2 =>
        obtain ⟨m2, b2⟩ := x2
        rw [hp2] at h
        simp only [Option.bind_some] at h
        cases hq : pSlots plain minus n b2 with
        | none => rw [hq] at h; cases h
        | some y =>
          obtain ⟨l', t'⟩ := y
          rw [hq] at h
          simp only [Option.map_some, Option.some.injEq, Prod.mk.injEq] at h
          obtain ⟨rfl, rfl⟩ := h
          obtain ⟨e, hl⟩ := pSlots_some n hq
          rw [pNum_minus hp, pNum_some hp2, e]
          exact ⟨by simp [List.flatMap_cons, be44], by simp [hl]⟩
theorem be_one {a : List UInt8} (h : a.length = 1) : a = be 1 ((beNat a : Nat) : Int) := by
  have := be_beNat a
  rw [h] at this
  exact this.symm
/-- One field, read. -/
theorem pField_some {c : Nat} {r r' : Rec} {s t : List UInt8} (h : pField plain c (r, s) = some (r', t)) (hl : r.list = []) (hs : r.slots = []) :
    (c = 105 ∧ r' = { r with id := r'.id } ∧ s = be 4 r'.id ++ t) ∨
    (c = 110 ∧ r' = { r with name := r'.name } ∧ s = be 1 r'.name.length ++ r'.name ++ t) ∨
    (c = 100 ∧ r' = { r with digest := r'.digest } ∧ s = r'.digest ++ t) ∨
    (c = 108 ∧ r' = { r with list := r'.list } ∧ s = be 4 r'.list.length ++ r'.list.flatMap (be 4) ++ t) ∨
    (c = 115 ∧ r' = { r with slots := r'.slots } ∧ s = be 1 r'.slots.length ++ r'.slots.flatMap be44 ++ t) ∨
    (c ≠ 105 ∧ c ≠ 110 ∧ c ≠ 100 ∧ c ≠ 108 ∧ c ≠ 115) := by
  unfold pField at h
  split at h
  · left
    cases hp : pNum plain s with
    | none => rw [hp] at h; cases h
    | some x =>
      rw [hp] at h
      simp only [Option.map_some, Option.some.injEq, Prod.mk.injEq] at h
      obtain ⟨rfl, rfl⟩ := h
      exact ⟨rfl, rfl, pNum_some hp⟩
  · right; left
    cases hp : pTake 1 s with
    | none => rw [hp] at h; cases h
    | some x =>
      rw [hp] at h
      simp only [Option.bind_some] at h
      cases hq : pTake (beNat x.1) x.2 with
      | none => rw [hq] at h; cases h
      | some y =>
        rw [hq] at h
        simp only [Option.map_some, Option.some.injEq, Prod.mk.injEq] at h
        obtain ⟨rfl, rfl⟩ := h
        obtain ⟨e1, l1⟩ := pTake_some hp
        obtain ⟨e2, l2⟩ := pTake_some hq
        refine ⟨rfl, rfl, ?_⟩
        show s = be 1 ((y.1.length : Nat) : Int) ++ y.1 ++ y.2
        rw [l2, ← be_one l1, e1, List.append_assoc, ← e2]
  · right; right; left
    cases hp : pTake 32 s with
    | none => rw [hp] at h; cases h
    | some x =>
      rw [hp] at h
      simp only [Option.map_some, Option.some.injEq, Prod.mk.injEq] at h
      obtain ⟨rfl, rfl⟩ := h
      exact ⟨rfl, rfl, (pTake_some hp).1⟩
  · right; right; right; left
    cases hp : pTake 4 s with
    | none => rw [hp] at h; cases h
    | some x =>
      rw [hp] at h
      simp only [Option.bind_some] at h
      cases hq : pList plain (beNat x.1) x.2 with
      | none => rw [hq] at h; cases h
      | some y =>
        rw [hq] at h
        simp only [Option.map_some, Option.some.injEq, Prod.mk.injEq] at h
        obtain ⟨rfl, rfl⟩ := h
        obtain ⟨e1, l1⟩ := pTake_some hp
        obtain ⟨e2, l2⟩ := pList_some _ hq
        refine ⟨rfl, by simp [hl], ?_⟩
        simp only [hl, List.nil_append]
        have e3 := be_beNat x.1
        rw [l1] at e3
        rw [l2, e3, e1, List.append_assoc, ← e2]
  · right; right; right; right; left
    cases hp : pTake 1 s with
    | none => rw [hp] at h; cases h
    | some x =>
      rw [hp] at h
      simp only [Option.bind_some] at h
      cases hq : pSlots plain minus (beNat x.1) x.2 with
      | none => rw [hq] at h; cases h
      | some y =>
        rw [hq] at h
        simp only [Option.map_some, Option.some.injEq, Prod.mk.injEq] at h
        obtain ⟨rfl, rfl⟩ := h
        obtain ⟨e1, l1⟩ := pTake_some hp
        obtain ⟨e2, l2⟩ := pSlots_some _ hq
        refine ⟨rfl, by simp [hs], ?_⟩
        simp only [hs, List.nil_append]
        rw [l2, ← be_one l1, e1, List.append_assoc, ← e2]
  · rename_i h1 h2 h3 h4 h5
    right; right; right; right; right
    exact ⟨h1, h2, h3, h4, h5⟩
theorem pF1 {φ : Nat → Int} {c : UInt8} {x y : Rec × List UInt8} (h : pFields φ [c] x = some y) : pField φ c.toNat x = some y := by
  simpa [pFields] using h
theorem pF2 {φ : Nat → Int} {c d : UInt8} {x y : Rec × List UInt8} (h : pFields φ [c, d] x = some y) : ∃ z, pField φ c.toNat x = some z ∧ pField φ d.toNat z = some y := by
  simpa [pFields, Option.bind_eq_some_iff] using h
theorem pF3 {φ : Nat → Int} {c d e : UInt8} {x y : Rec × List UInt8} (h : pFields φ [c, d, e] x = some y) : ∃ z, pField φ c.toNat x = some z ∧ ∃ u, pField φ d.toNat z = some u ∧ pField φ e.toNat u = some y := by
  simpa [pFields, Option.bind_eq_some_iff] using h
theorem fI {r r' : Rec} {s t : List UInt8} (h : pField plain 105 (r, s) = some (r', t)) (hl : r.list = []) (hs : r.slots = []) : r' = { r with id := r'.id } ∧ s = be 4 r'.id ++ t := by
  rcases pField_some h hl hs with ⟨_, a, b⟩ | ⟨e, _⟩ | ⟨e, _⟩ | ⟨e, _⟩ | ⟨e, _⟩ | ⟨e, _⟩
  · exact ⟨a, b⟩
  all_goals exact absurd e (by decide)
theorem fN {r r' : Rec} {s t : List UInt8} (h : pField plain 110 (r, s) = some (r', t)) (hl : r.list = []) (hs : r.slots = []) : r' = { r with name := r'.name } ∧ s = be 1 r'.name.length ++ r'.name ++ t := by
  rcases pField_some h hl hs with ⟨e, _⟩ | ⟨_, a, b⟩ | ⟨e, _⟩ | ⟨e, _⟩ | ⟨e, _⟩ | ⟨_, e, _⟩
  · exact absurd e (by decide)
  · exact ⟨a, b⟩
  all_goals exact absurd e (by decide)
theorem fD {r r' : Rec} {s t : List UInt8} (h : pField plain 100 (r, s) = some (r', t)) (hl : r.list = []) (hs : r.slots = []) : r' = { r with digest := r'.digest } ∧ s = r'.digest ++ t := by
  rcases pField_some h hl hs with ⟨e, _⟩ | ⟨e, _⟩ | ⟨_, a, b⟩ | ⟨e, _⟩ | ⟨e, _⟩ | ⟨_, _, e, _⟩
  · exact absurd e (by decide)
  · exact absurd e (by decide)
  · exact ⟨a, b⟩
  all_goals exact absurd e (by decide)
theorem fL {r r' : Rec} {s t : List UInt8} (h : pField plain 108 (r, s) = some (r', t)) (hl : r.list = []) (hs : r.slots = []) : r' = { r with list := r'.list } ∧ s = be 4 r'.list.length ++ r'.list.flatMap (be 4) ++ t := by
  rcases pField_some h hl hs with ⟨e, _⟩ | ⟨e, _⟩ | ⟨e, _⟩ | ⟨_, a, b⟩ | ⟨e, _⟩ | ⟨_, _, _, e, _⟩
  · exact absurd e (by decide)
  · exact absurd e (by decide)
  · exact absurd e (by decide)
  · exact ⟨a, b⟩
  all_goals exact absurd e (by decide)
theorem fS {r r' : Rec} {s t : List UInt8} (h : pField plain 115 (r, s) = some (r', t)) (hs : r.slots = []) : r' = { r with slots := r'.slots } ∧ s = be 1 r'.slots.length ++ r'.slots.flatMap be44 ++ t := by
  unfold pField at h
  cases hp : pTake 1 s with
  | none => rw [show (115 : Nat) = 115 from rfl] at h; simp [hp] at h
  | some x =>
    simp only [hp, Option.bind_some] at h
    cases hq : pSlots plain minus (beNat x.1) x.2 with
    | none => rw [hq] at h; cases h
    | some y =>
      rw [hq] at h
      simp only [Option.map_some, Option.some.injEq, Prod.mk.injEq] at h
      obtain ⟨rfl, rfl⟩ := h
      obtain ⟨e1, l1⟩ := pTake_some hp
      obtain ⟨e2, l2⟩ := pSlots_some _ hq
      refine ⟨rfl, ?_⟩
      simp only [hs, List.nil_append]
      rw [l2, ← be_one l1, e1, List.append_assoc, ← e2]
/-- What a record is read from is its bytes. -/
theorem take_bytes {s : List UInt8} {r : Rec} (h : takeSpec plain s = some r) : bytesOf r = s ∧ mayB r = true := by
  cases s with
  | nil => cases h
  | cons k s =>
    simp only [takeSpec] at h
    obtain ⟨⟨r', t⟩, hf, he⟩ := Option.bind_eq_some_iff.1 h
    unfold pEnd at he
    split at he
    · rename_i hc
      obtain ⟨ht, hm⟩ := hc
      dsimp only at ht hm
      subst ht
      simp only [Option.some.injEq] at he
      subst he
      refine ⟨?_, hm⟩
      have hk1 : be 1 (k.toNat : Int) = [k] := by
        have := u8I_snoc 0 k
        simp only [Nat.zero_mul, Nat.zero_add] at this
        simp [be, this]
      have sorted : (k.toNat : Int) = 1 ∨ (k.toNat : Int) = 2 ∨ (k.toNat : Int) = 3 ∨ (k.toNat : Int) = 4 ∨ (k.toNat : Int) = 5 ∨ (k.toNat : Int) = 6 ∨ (k.toNat : Int) = 7 ∨ (k.toNat : Int) = 8 ∨ (k.toNat : Int) = 0 ∨ 8 < (k.toNat : Int) := by omega
      have hkk : ∀ {a b : Rec}, a = b → a.kind = b.kind := fun h => by rw [h]
      clear hkk
      have ek : ∀ t : List UInt8, k :: t = [k] ++ t := fun _ => rfl
      rcases sorted with h | h | h | h | h | h | h | h | h | h
      · rw [h] at hf hk1
        obtain ⟨⟨r1, s1⟩, e1, e2⟩ := pF2 hf
        obtain ⟨a1, b1⟩ := fI e1 rfl rfl
        generalize r1.id = x1 at a1 b1
        subst a1
        obtain ⟨a2, b2⟩ := fS e2 rfl
        generalize r'.slots = x2 at a2 b2
        subst a2
        subst b2
        subst b1
        rw [ek, ← hk1]
        simp [bytesOf, A4, A3, A2, A1, bI, bN, bL, bS, rec0, hasB, fieldsB, List.append_assoc]
      · rw [h] at hf hk1
        obtain ⟨⟨r1, s1⟩, e1, ⟨r2, s2⟩, e2, e3⟩ := pF3 hf
        obtain ⟨a1, b1⟩ := fI e1 rfl rfl
        generalize r1.id = x1 at a1 b1
        subst a1
        obtain ⟨a2, b2⟩ := fL e2 rfl rfl
        generalize r2.list = x2 at a2 b2
        subst a2
        obtain ⟨a3, b3⟩ := fS e3 rfl
        generalize r'.slots = x3 at a3 b3
        subst a3
        subst b3
        subst b2
        subst b1
        rw [ek, ← hk1]
        simp [bytesOf, A4, A3, A2, A1, bI, bN, bL, bS, rec0, hasB, fieldsB, List.append_assoc]
      · rw [h] at hf hk1
        have e1 := pF1 hf
        obtain ⟨a1, b1⟩ := fI e1 rfl rfl
        generalize r'.id = x1 at a1 b1
        subst a1
        subst b1
        rw [ek, ← hk1]
        simp [bytesOf, A4, A3, A2, A1, bI, bN, bL, bS, rec0, hasB, fieldsB, List.append_assoc]
      · rw [h] at hf hk1
        obtain ⟨⟨r1, s1⟩, e1, ⟨r2, s2⟩, e2, e3⟩ := pF3 hf
        obtain ⟨a1, b1⟩ := fI e1 rfl rfl
        generalize r1.id = x1 at a1 b1
        subst a1
        obtain ⟨a2, b2⟩ := fD e2 rfl rfl
        generalize r2.digest = x2 at a2 b2
        subst a2
        obtain ⟨a3, b3⟩ := fL e3 rfl rfl
        generalize r'.list = x3 at a3 b3
        subst a3
        subst b3
        subst b2
        subst b1
        rw [ek, ← hk1]
        simp [bytesOf, A4, A3, A2, A1, bI, bN, bL, bS, rec0, hasB, fieldsB, List.append_assoc]
      · rw [h] at hf hk1
        obtain ⟨⟨r1, s1⟩, e1, ⟨r2, s2⟩, e2, e3⟩ := pF3 hf
        obtain ⟨a1, b1⟩ := fI e1 rfl rfl
        generalize r1.id = x1 at a1 b1
        subst a1
        obtain ⟨a2, b2⟩ := fD e2 rfl rfl
        generalize r2.digest = x2 at a2 b2
        subst a2
        obtain ⟨a3, b3⟩ := fL e3 rfl rfl
        generalize r'.list = x3 at a3 b3
        subst a3
        subst b3
        subst b2
        subst b1
        rw [ek, ← hk1]
        simp [bytesOf, A4, A3, A2, A1, bI, bN, bL, bS, rec0, hasB, fieldsB, List.append_assoc]
      · rw [h] at hf hk1
        have e1 := pF1 hf
        obtain ⟨a1, b1⟩ := fD e1 rfl rfl
        generalize r'.digest = x1 at a1 b1
        subst a1
        subst b1
        rw [ek, ← hk1]
        simp [bytesOf, A4, A3, A2, A1, bI, bN, bL, bS, rec0, hasB, fieldsB, List.append_assoc]
      · rw [h] at hf hk1
        obtain ⟨⟨r1, s1⟩, e1, e2⟩ := pF2 hf
        obtain ⟨a1, b1⟩ := fN e1 rfl rfl
        generalize r1.name = x1 at a1 b1
        subst a1
        obtain ⟨a2, b2⟩ := fD e2 rfl rfl
        generalize r'.digest = x2 at a2 b2
        subst a2
        subst b2
        subst b1
        rw [ek, ← hk1]
        simp [bytesOf, A4, A3, A2, A1, bI, bN, bL, bS, rec0, hasB, fieldsB, List.append_assoc]
      · rw [h] at hf hk1
        have e1 := pF1 hf
        obtain ⟨a1, b1⟩ := fN e1 rfl rfl
        generalize r'.name = x1 at a1 b1
        subst a1
        subst b1
        rw [ek, ← hk1]
        simp [bytesOf, A4, A3, A2, A1, bI, bN, bL, bS, rec0, hasB, fieldsB, List.append_assoc]
      · rw [h] at hf
        have e : r' = rec0 0 := by
          have h2 : some (rec0 0, s) = some (r', ([] : List UInt8)) := hf
          injection h2 with h2
          injection h2 with h2 _
          exact h2.symm
        subst e
        exact absurd hm (by decide)
      · have e0 : fieldsB (k.toNat : Int) = [] := by
          unfold fieldsB
          repeat rw [if_neg (by omega)]
        rw [e0] at hf
        have e : r' = rec0 k.toNat := by
          have h2 : some (rec0 k.toNat, s) = some (r', ([] : List UInt8)) := hf
          injection h2 with h2
          injection h2 with h2 _
          exact h2.symm
        subst e
        have := ((mayB_iff _).1 hm).1
        have h9 : kindBad (rec0 (k.toNat : Int)) = true := by
          show (decide ((k.toNat : Int) < 1) || decide ((8 : Int) < (k.toNat : Int))) = true
          rw [Bool.or_eq_true, decide_eq_true_eq, decide_eq_true_eq]; omega
        rw [h9] at this; cases this
    · cases he
/-! ### Frames -/
/-- A frame's head and record. -/
def frameH (r : Rec) (n : Int) : List UInt8 := be 3 (bytesOf r).length ++ be 4 n ++ bytesOf r
end Silo
