/- How readers' states follow the parsing. No condition. -/
import Derived.Test.YthlfolpcmcejkaaTakePlain
set_option linter.unusedSimpArgs false
set_option linter.unusedVariables false
namespace Silo
open Go Go.Eng

/-- A reader's state and the record so far: what the parsing has told. -/
def Rel (o : Option (Rec × List UInt8)) (s : List UInt8) (bad : Bool) (p : Rec) : Prop := (bad = true ∧ o = none) ∨ (bad = false ∧ o = some (p, s))
theorem tkBad_true (s : List UInt8) (n : Int) : tkBad s true n = true := rfl
theorem tk_cases (s : List UInt8) (n : Nat) : (tkBad s false n = true ∧ pTake n s = none) ∨ (tkBad s false n = false ∧ pTake n s = some (tkT s false n, tkS s false n) ∧ n ≤ s.length ∧ (tkS s false n).length + n = s.length) := by
  unfold tkT tkS pTake
  rcases Nat.lt_or_ge s.length n with h | h
  · have e : tkBad s false n = true := by simp [tkBad]; omega
    exact .inl ⟨e, by rw [if_neg (by omega)]⟩
  · have e : tkBad s false n = false := by simp [tkBad]; omega
    refine .inr ⟨e, by rw [if_pos h, e]; rfl, h, ?_⟩
    rw [e]; simp; omega
theorem tk_num (φ : Nat → Int) (s : List UInt8) : (tkBad s false 4 = true ∧ pNum φ s = none) ∨ (tkBad s false 4 = false ∧ pNum φ s = some (φ (beNat (tkT s false 4)), tkS s false 4) ∧ (tkS s false 4).length + 4 = s.length) := by
  unfold pNum
  rcases tk_cases s 4 with ⟨h1, h2⟩ | ⟨h1, h2, _, h3⟩
  · exact .inl ⟨h1, by rw [h2]; rfl⟩
  · exact .inr ⟨h1, by rw [h2]; rfl, h3⟩

theorem rel_id {φ : Nat → Int} {o : Option (Rec × List UInt8)} {s : List UInt8} {bad : Bool} {p : Rec} (h : Rel o s bad p) : Rel (o.bind (pField φ 105)) (tkS s bad 4) (tkBad s bad 4) { p with id := φ (beNat (tkT s bad 4)) } := by
  rcases h with ⟨rfl, rfl⟩ | ⟨rfl, rfl⟩
  · exact .inl ⟨rfl, rfl⟩
  · rcases tk_num φ s with ⟨h1, h2⟩ | ⟨h1, h2, _⟩
    · exact .inl ⟨h1, by simp [pField, h2]⟩
    · exact .inr ⟨h1, by simp [pField, h2]⟩
theorem rel_dig {φ : Nat → Int} {o : Option (Rec × List UInt8)} {s : List UInt8} {bad : Bool} {p : Rec} (h : Rel o s bad p) : Rel (o.bind (pField φ 100)) (tkS s bad 32) (tkBad s bad 32) { p with digest := tkT s bad 32 } := by
  rcases h with ⟨rfl, rfl⟩ | ⟨rfl, rfl⟩
  · exact .inl ⟨rfl, rfl⟩
  · rcases tk_cases s 32 with ⟨h1, h2⟩ | ⟨h1, h2, _⟩
    · exact .inl ⟨h1, by simp [pField, h2]⟩
    · exact .inr ⟨h1, by simp only [Option.bind_some, pField, h2, Option.map_some]; rfl⟩
theorem rel_name {φ : Nat → Int} {o : Option (Rec × List UInt8)} {s : List UInt8} {bad : Bool} {p : Rec} (h : Rel o s bad p) :
    Rel (o.bind (pField φ 110)) (tkS (tkS s bad 1) (tkBad s bad 1) (beNat (tkT s bad 1))) (tkBad (tkS s bad 1) (tkBad s bad 1) (beNat (tkT s bad 1))) { p with name := tkT (tkS s bad 1) (tkBad s bad 1) (beNat (tkT s bad 1)) } := by
  rcases h with ⟨rfl, rfl⟩ | ⟨rfl, rfl⟩
  · exact .inl ⟨rfl, rfl⟩
  · rcases tk_cases s 1 with ⟨h1, h2⟩ | ⟨h1, h2, _⟩
    · have h1' : tkBad s false 1 = true := h1
      exact .inl ⟨by rw [h1']; rfl, by simp [pField, h2]⟩
    · have h1' : tkBad s false 1 = false := h1
      have h2' : pTake 1 s = some (tkT s false 1, tkS s false 1) := h2
      rw [h1']
      rcases tk_cases (tkS s false 1) (beNat (tkT s false 1)) with ⟨h3, h4⟩ | ⟨h3, h4, _⟩
      · exact .inl ⟨h3, by simp [pField, h2', h4]⟩
      · exact .inr ⟨h3, by simp [pField, h2', h4]⟩

/-! ### Lists -/
def LJ (φ : Nat → Int) (T : Option (Rec × List UInt8)) (N : Nat) (s : List UInt8) (bad : Bool) (p : Rec) : Prop :=
  (bad = true ∧ T = none) ∨ (bad = false ∧ T = (pList φ N s).map fun z => ({ p with list := p.list ++ z.1 }, z.2))
theorem lj_init {φ : Nat → Int} {o : Option (Rec × List UInt8)} {s : List UInt8} {bad : Bool} {p : Rec} (h : Rel o s bad p) : LJ φ (o.bind (pField φ 108)) (beNat (tkT s bad 4)) (tkS s bad 4) (tkBad s bad 4) p := by
  rcases h with ⟨rfl, rfl⟩ | ⟨rfl, rfl⟩
  · exact .inl ⟨rfl, rfl⟩
  · rcases tk_cases s 4 with ⟨h1, h2⟩ | ⟨h1, h2, _⟩
    · exact .inl ⟨h1, by simp [pField, h2]⟩
    · exact .inr ⟨h1, by simp only [Option.bind_some, pField, h2]; rfl⟩
theorem lj_step {φ : Nat → Int} {T : Option (Rec × List UInt8)} {N : Nat} {s : List UInt8} {p : Rec} (h : LJ φ T (N + 1) s false p) :
    LJ φ T N (tkS s false 4) (tkBad s false 4) { p with list := p.list ++ [φ (beNat (tkT s false 4))] } := by
  rcases h with ⟨h, _⟩ | ⟨_, h⟩
  · cases h
  · rcases tk_num φ s with ⟨h1, h2⟩ | ⟨h1, h2, _⟩
    · exact .inl ⟨h1, by rw [h]; simp [pList, h2]⟩
    · refine .inr ⟨h1, ?_⟩
      rw [h]
      simp only [pList, h2, Option.bind_some, Option.map_map]
      congr 1
      funext z; simp
theorem lj_exit {φ : Nat → Int} {T : Option (Rec × List UInt8)} {s : List UInt8} {bad : Bool} {p : Rec} {N : Nat} (h : LJ φ T N s bad p) (h0 : bad = false → N = 0) : Rel T s bad p := by
  rcases h with ⟨h, h'⟩ | ⟨h, h'⟩
  · exact .inl ⟨h, h'⟩
  · refine .inr ⟨h, ?_⟩
    rw [h', h0 h]; simp [pList]

/-! ### Slots -/
def SJ (φ : Nat → Int) (T : Option (Rec × List UInt8)) (N : Nat) (s : List UInt8) (bad : Bool) (p : Rec) : Prop :=
  (bad = true ∧ T = none) ∨ (bad = false ∧ T = (pSlots φ minus N s).map fun z => ({ p with slots := p.slots ++ z.1 }, z.2))
theorem sj_init {φ : Nat → Int} {o : Option (Rec × List UInt8)} {s : List UInt8} {bad : Bool} {p : Rec} (h : Rel o s bad p) : SJ φ (o.bind (pField φ 115)) (beNat (tkT s bad 1)) (tkS s bad 1) (tkBad s bad 1) p := by
  rcases h with ⟨rfl, rfl⟩ | ⟨rfl, rfl⟩
  · exact .inl ⟨rfl, rfl⟩
  · rcases tk_cases s 1 with ⟨h1, h2⟩ | ⟨h1, h2, _⟩
    · exact .inl ⟨h1, by simp [pField, h2]⟩
    · exact .inr ⟨h1, by simp only [Option.bind_some, pField, h2]; rfl⟩
theorem sj_step {φ : Nat → Int} {T : Option (Rec × List UInt8)} {N : Nat} {s : List UInt8} {p : Rec} (h : SJ φ T (N + 1) s false p) :
    SJ φ T N (tkS (tkS s false 4) (tkBad s false 4) 4) (tkBad (tkS s false 4) (tkBad s false 4) 4) { p with slots := p.slots ++ [(minus (beNat (tkT s false 4)), φ (beNat (tkT (tkS s false 4) (tkBad s false 4) 4)))] } := by
  rcases h with ⟨h, _⟩ | ⟨_, h⟩
  · cases h
  · rcases tk_num minus s with ⟨h1, h2⟩ | ⟨h1, h2, _⟩
    · exact .inl ⟨by rw [h1]; rfl, by rw [h]; simp [pSlots, h2]⟩
    · rw [h1]
      rcases tk_num φ (tkS s false 4) with ⟨h3, h4⟩ | ⟨h3, h4, _⟩
      · exact .inl ⟨h3, by rw [h]; simp [pSlots, h2, h4]⟩
      · refine .inr ⟨h3, ?_⟩
        rw [h]
        simp only [pSlots, h2, h4, Option.bind_some, Option.map_map]
        congr 1
        funext z; simp
theorem sj_exit {φ : Nat → Int} {T : Option (Rec × List UInt8)} {s : List UInt8} {bad : Bool} {p : Rec} {N : Nat} (h : SJ φ T N s bad p) (h0 : bad = false → N = 0) : Rel T s bad p := by
  rcases h with ⟨h, h'⟩ | ⟨h, h'⟩
  · exact .inl ⟨h, h'⟩
  · refine .inr ⟨h, ?_⟩
    rw [h', h0 h]; simp [pSlots]
theorem tk4_len {s : List UInt8} (h : tkBad s false 4 = false) : (tkS s false 4).length + 4 = s.length := by
  rcases tk_cases s 4 with ⟨h1, _⟩ | ⟨_, _, _, h2⟩
  · rw [show tkBad s false 4 = true from h1] at h; cases h
  · exact h2
theorem minus_lt {n : Nat} (h : n < 4294967296) : minus n = n ∨ (minus n = -1 ∧ n = 4294967295) := by
  unfold minus; split
  · exact .inr ⟨rfl, by assumption⟩
  · exact .inl rfl
theorem minus_small {n : Nat} (h : n < 256) : minus n = n := by unfold minus; rw [if_neg (by omega)]
theorem beNat4 (s : List UInt8) (bad : Bool) : beNat (tkT s bad 4) < 4294967296 := by
  have h1 := beNat_lt (tkT s bad 4)
  have h2 := tkT_len s bad 4
  have : 256 ^ (tkT s bad 4).length ≤ 256 ^ 4 := Nat.pow_le_pow_right (by decide) (by omega)
  omega
theorem beNat1 (s : List UInt8) (bad : Bool) : beNat (tkT s bad 1) < 256 := by
  have h1 := beNat_lt (tkT s bad 1)
  have h2 := tkT_len s bad 1
  have : 256 ^ (tkT s bad 1).length ≤ 256 ^ 1 := Nat.pow_le_pow_right (by decide) (by omega)
  omega
theorem pFields_step (φ : Nat → Int) (l : List UInt8) (x : Rec × List UInt8) (j : Nat) (hj : j < l.length) : pFields φ (l.take (j + 1)) x = (pFields φ (l.take j) x).bind (pField φ l[j].toNat) := by
  rw [List.take_succ_eq_append_getElem hj]
  simp only [pFields, List.foldlM_append, List.foldlM_cons, List.foldlM_nil]
  cases List.foldlM (fun x c => pField φ c.toNat x) x (List.take j l) with
  | none => rfl
  | some y =>
    show ((pField φ l[j].toNat y).bind fun z => some z) = pField φ l[j].toNat y
    cases pField φ l[j].toNat y <;> rfl
theorem take_end {o : Option (Rec × List UInt8)} {s : List UInt8} {bad : Bool} {p : Rec} (h : Rel o s bad p) : o.bind pEnd = if bad = false ∧ s = [] ∧ mayB p = true then some p else none := by
  rcases h with ⟨rfl, rfl⟩ | ⟨rfl, rfl⟩
  · simp
  · simp [pEnd]
theorem fieldsB_len (k : Int) : (fieldsB k).length ≤ 3 := by
  unfold fieldsB
  repeat' split
  all_goals decide
/-! ### The page's order of the fields -/
def q0 (k : Int) (s : List UInt8) : Option (Rec × List UInt8) := some (rec0 k, s)
def qStep (φ : Nat → Int) (k : Int) (c : Nat) (o : Option (Rec × List UInt8)) : Option (Rec × List UInt8) := if hasB k c then o.bind (pField φ c) else o
theorem qStep_T {φ : Nat → Int} {k : Int} {c : Nat} {o : Option (Rec × List UInt8)} (h : hasB k c = true) : qStep φ k c o = o.bind (pField φ c) := by rw [qStep, h]; rfl
theorem qStep_F {φ : Nat → Int} {k : Int} {c : Nat} {o : Option (Rec × List UInt8)} (h : hasB k c = false) : qStep φ k c o = o := by rw [qStep, h]; rfl
def q5 (φ : Nat → Int) (k : Int) (s : List UInt8) : Option (Rec × List UInt8) := qStep φ k 115 (qStep φ k 108 (qStep φ k 100 (qStep φ k 110 (qStep φ k 105 (q0 k s)))))
theorem q5_eq (φ : Nat → Int) {k : Int} (h : 1 ≤ k ∧ k ≤ 8) (s : List UInt8) : pFields φ (fieldsB k) (rec0 k, s) = q5 φ k s := by
  have : k = 1 ∨ k = 2 ∨ k = 3 ∨ k = 4 ∨ k = 5 ∨ k = 6 ∨ k = 7 ∨ k = 8 := by omega
  have bs : ∀ o : Option (Rec × List UInt8), (o.bind fun z => some z) = o := fun o => by cases o <;> rfl
  rcases this with rfl | rfl | rfl | rfl | rfl | rfl | rfl | rfl <;>
    simp [pFields, q5, qStep, q0, fieldsB, hasB, bs, Option.bind_assoc]
theorem beNat_one (k : UInt8) : beNat [k] = k.toNat := by simp [beNat]
theorem takeSpec_kind {φ : Nat → Int} {k : UInt8} {s : List UInt8} (h : ¬ (1 ≤ (k.toNat : Int) ∧ (k.toNat : Int) ≤ 8)) : takeSpec φ (k :: s) = none := by
  have e : fieldsB (k.toNat : Int) = [] := by
    unfold fieldsB
    repeat' split
    all_goals first | rfl | (exfalso; omega)
  have hm : mayB (rec0 (k.toNat : Int)) = false := by
    have : kindBad (rec0 (k.toNat : Int)) = true := by
      have h' : ((k.toNat : Int) < 1) ∨ 8 < (k.toNat : Int) := by omega
      unfold kindBad; simp only [Bool.or_eq_true]; exact h'.imp decide_eq_true decide_eq_true
    simp [mayB, this]
  simp [takeSpec, e, pFields, pEnd, hm]
end Silo
