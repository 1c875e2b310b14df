/- Which record bytes are, in plain Lean. No condition. -/
import Derived.Test.YthlfolpcmcejkaaMayPlain
set_option linter.unusedSimpArgs false
set_option linter.unusedVariables false
namespace Silo
open Go Go.Eng

/-- What a reader does. -/
def tkBad (s : List UInt8) (bad : Bool) (n : Int) : Bool := bad || decide ((s.length : Int) < n)
def tkS (s : List UInt8) (bad : Bool) (n : Int) : List UInt8 := bif tkBad s bad n then s else s.drop n.toNat
def tkT (s : List UInt8) (bad : Bool) (n : Int) : List UInt8 := bif tkBad s bad n then [] else s.take n.toNat
theorem tkT_len (s : List UInt8) (bad : Bool) (n : Int) : (tkT s bad n).length ≤ n.toNat := by
  unfold tkT; cases tkBad s bad n <;> simp; omega
theorem tkS_len (s : List UInt8) (bad : Bool) (n : Int) : (tkS s bad n).length ≤ s.length := by
  unfold tkS; cases tkBad s bad n <;> simp
theorem tkT_len2 (s : List UInt8) (bad : Bool) (n : Int) : (tkT s bad n).length ≤ s.length := by
  unfold tkT; cases tkBad s bad n <;> simp; omega

/-- Parsing: nothing once there is too little. -/
def pTake (n : Nat) (s : List UInt8) : Option (List UInt8 × List UInt8) := if n ≤ s.length then some (s.take n, s.drop n) else none
def pNum (φ : Nat → Int) (s : List UInt8) : Option (Int × List UInt8) := (pTake 4 s).map fun x => (φ (beNat x.1), x.2)
def pList (φ : Nat → Int) : Nat → List UInt8 → Option (List Int × List UInt8)
  | 0, s => some ([], s)
  | n + 1, s => (pNum φ s).bind fun x => (pList φ n x.2).map fun y => (x.1 :: y.1, y.2)
def pSlots (φ : Nat → Int) (ψ : Nat → Int) : Nat → List UInt8 → Option (List (Int × Int) × List UInt8)
  | 0, s => some ([], s)
  | n + 1, s => (pNum ψ s).bind fun x => (pNum φ x.2).bind fun y => (pSlots φ ψ n y.2).map fun z => ((x.1, y.1) :: z.1, z.2)
/-- minus one, where all bits are set -/
def minus (n : Nat) : Int := if n = 4294967295 then -1 else n
def plain (n : Nat) : Int := n

def pField (φ : Nat → Int) (c : Nat) (x : Rec × List UInt8) : Option (Rec × List UInt8) :=
  match c with
  | 105 => (pNum φ x.2).map fun y => ({ x.1 with id := y.1 }, y.2)
  | 110 => (pTake 1 x.2).bind fun y => (pTake (beNat y.1) y.2).map fun z => ({ x.1 with name := z.1 }, z.2)
  | 100 => (pTake 32 x.2).map fun y => ({ x.1 with digest := y.1 }, y.2)
  | 108 => (pTake 4 x.2).bind fun y => (pList φ (beNat y.1) y.2).map fun z => ({ x.1 with list := x.1.list ++ z.1 }, z.2)
  | 115 => (pTake 1 x.2).bind fun y => (pSlots φ minus (beNat y.1) y.2).map fun z => ({ x.1 with slots := x.1.slots ++ z.1 }, z.2)
  | _ => some x
def rec0 (k : Int) : Rec := ⟨k, 0, [], [], [], []⟩
def pFields (φ : Nat → Int) (l : List UInt8) (x : Rec × List UInt8) : Option (Rec × List UInt8) := l.foldlM (fun x c => pField φ c.toNat x) x
def pEnd (x : Rec × List UInt8) : Option Rec := if x.2 = [] ∧ mayB x.1 = true then some x.1 else none
/-- Which record bytes are, if they are one's. -/
def takeSpec (φ : Nat → Int) : List UInt8 → Option Rec
  | [] => none
  | k :: s => (pFields φ (fieldsB k.toNat) (rec0 k.toNat, s)).bind pEnd

/-! ### Both ways to read a number tell the same records -/
def mI (n : Int) : Int := if n = 4294967295 then -1 else n
def mRec (r : Rec) : Rec := { r with id := mI r.id, list := r.list.map mI, slots := r.slots.map fun p => (p.1, mI p.2) }
def mX (x : Rec × List UInt8) : Rec × List UInt8 := (mRec x.1, x.2)
theorem mI_plain (n : Nat) : mI (plain n) = minus n := by unfold mI plain minus; split <;> split <;> omega
theorem pNum_m (s : List UInt8) : pNum minus s = (pNum plain s).map fun x => (mI x.1, x.2) := by
  unfold pNum
  cases pTake 4 s <;> simp [mI_plain]
theorem pList_m : ∀ (n : Nat) (s : List UInt8), pList minus n s = (pList plain n s).map fun x => (x.1.map mI, x.2)
  | 0, s => rfl
  | n + 1, s => by
    simp only [pList, pNum_m]
    cases pNum plain s with
    | none => rfl
    | some x =>
      simp only [Option.map_some, Option.bind_some, pList_m n]
      cases pList plain n x.2 <;> simp
theorem pSlots_m : ∀ (n : Nat) (s : List UInt8), pSlots minus minus n s = (pSlots plain minus n s).map fun x => (x.1.map fun p => (p.1, mI p.2), x.2)
  | 0, s => rfl
  | n + 1, s => by
    simp only [pSlots]
    cases pNum minus s with
    | none => rfl
    | some x =>
      simp only [Option.bind_some, pNum_m x.2]
      cases pNum plain x.2 with
      | none => rfl
      | some y =>
        simp only [Option.map_some, Option.bind_some, pSlots_m n]
        cases pSlots plain minus n y.2 <;> simp
theorem pField_m (c : Nat) (x : Rec × List UInt8) : pField minus c (mX x) = (pField plain c x).map mX := by
  unfold pField
  split
  · simp only [mX, pNum_m]; cases pNum plain x.2 <;> simp [mRec, mX]
  · simp only [mX]; cases pTake 1 x.2 with
    | none => rfl
    | some y => simp only [Option.bind_some]; cases pTake (beNat y.1) y.2 <;> simp [mRec, mX]
  · simp only [mX]; cases pTake 32 x.2 <;> simp [mRec, mX]
  · simp only [mX]; cases pTake 4 x.2 with
    | none => rfl
    | some y => simp only [Option.bind_some, pList_m]; cases pList plain (beNat y.1) y.2 <;> simp [mRec, mX]
  · simp only [mX]; cases pTake 1 x.2 with
    | none => rfl
    | some y => simp only [Option.bind_some, pSlots_m]; cases pSlots plain minus (beNat y.1) y.2 <;> simp [mRec, mX]
  · simp [mX]
theorem pFields_m : ∀ (l : List UInt8) (x : Rec × List UInt8), pFields minus l (mX x) = (pFields plain l x).map mX
  | [], x => rfl
  | c :: l, x => by
    simp only [pFields, List.foldlM_cons, pField_m]
    cases h : pField plain c.toNat x with
    | none => rfl
    | some y => simpa [pFields] using pFields_m l y
theorem mI_num {n : Int} (h : numB n = true) : mI n = n := by
  simp only [numB, Bool.and_eq_true, decide_eq_true_eq] at h
  unfold mI; split <;> omega
theorem num_mI {n : Int} (h : numB (mI n) = true) : mI n = n := by
  unfold mI at h ⊢; split <;> rename_i e
  · simp [e, numB] at h
  · rfl
theorem mI_slot {p : Int × Int} (h : slotBad p = false) : mI p.2 = p.2 := by
  simp only [slotBad, Bool.or_eq_false_iff, decide_eq_false_iff_not] at h
  unfold mI; split <;> omega
theorem slot_mI {p : Int × Int} (h : slotBad (p.1, mI p.2) = false) : mI p.2 = p.2 := by
  unfold mI at h ⊢; split <;> rename_i e
  · simp [e, slotBad] at h
  · rfl
theorem mRec_may {r : Rec} (h : mayB r = true) : mRec r = r := by
  obtain ⟨_, _, h1, _, _, _, _, _, h2, h3⟩ := (mayB_iff r).1 h
  cases r with
  | mk k i n d l s =>
    simp only [mRec, Rec.mk.injEq, true_and, and_true]
    refine ⟨mI_num h1, ?_, ?_⟩
    · exact (List.map_congr_left (g := id) fun x hx => mI_num (h2 x hx)).trans (List.map_id _)
    · exact (List.map_congr_left (g := id) fun x hx => by show (x.1, mI x.2) = x; rw [mI_slot (h3 x hx)]).trans (List.map_id _)
theorem may_mRec {r : Rec} (h : mayB (mRec r) = true) : mRec r = r := by
  obtain ⟨_, _, h1, _, _, _, _, _, h2, h3⟩ := (mayB_iff _).1 h
  cases r with
  | mk k i n d l s =>
    simp only [mRec] at h1 h2 h3
    simp only [mRec, Rec.mk.injEq, true_and, and_true]
    refine ⟨num_mI h1, ?_, ?_⟩
    · exact (List.map_congr_left (g := id) fun x hx => num_mI (h2 _ (List.mem_map.2 ⟨x, hx, rfl⟩))).trans (List.map_id _)
    · exact (List.map_congr_left (g := id) fun x hx => by show (x.1, mI x.2) = x; rw [slot_mI (h3 _ (List.mem_map.2 ⟨x, hx, rfl⟩))]).trans (List.map_id _)
theorem pEnd_m (x : Rec × List UInt8) : pEnd (mX x) = pEnd x := by
  obtain ⟨r, s⟩ := x
  show pEnd (mRec r, s) = pEnd (r, s)
  by_cases h : mayB r = true
  · rw [mRec_may h]
  · have h' : ¬ mayB (mRec r) = true := fun e => h (by rw [← may_mRec e]; exact e)
    simp [pEnd, h, h']
theorem takeSpec_same (s : List UInt8) : takeSpec minus s = takeSpec plain s := by
  cases s with
  | nil => rfl
  | cons k s =>
    have h0 : (rec0 (k.toNat : Int), s) = mX (rec0 k.toNat, s) := by simp [mX, mRec, rec0, mI]
    show (pFields minus (fieldsB k.toNat) (rec0 k.toNat, s)).bind pEnd = (pFields plain (fieldsB k.toNat) (rec0 k.toNat, s)).bind pEnd
    rw [show pFields minus (fieldsB k.toNat) (rec0 k.toNat, s) = pFields minus (fieldsB k.toNat) (mX (rec0 k.toNat, s)) by rw [← h0], pFields_m]
    cases pFields plain (fieldsB k.toNat) (rec0 k.toNat, s) with
    | none => rfl
    | some x => exact pEnd_m x
end Silo
