/- Disks in plain Lean. No condition. -/
import Derived.Test.YtjddnaefmikccaaAr2
set_option linter.unusedSimpArgs false
set_option linter.unusedVariables false
namespace Silo
open Go.Eng
structure Dsk where
  live : Bool
  l : List Txt
  cache : List Txt
structure Arr where
  d : List Dsk
  sectors : Nat
  off : Bool
  left : Int
  changes : Nat
abbrev zT : Txt := List.replicate 64 0
def freshD (n : Nat) : Dsk := ⟨true, List.replicate n zT, List.replicate n []⟩
def newA (disks sectors : Nat) : Arr := ⟨List.replicate disks (freshD sectors), sectors, false, -1, 0⟩
def isA (A : Arr) (d : Int) : Bool := decide (0 ≤ d) && decide (d < A.d.length)
def dskA (A : Arr) (k : Nat) : Dsk := A.d.getD k ⟨false, [], []⟩
def mayA (A : Arr) (k : Nat) : Int := if A.off then 9 else if (dskA A k).live then 0 else 8
def changedA (A : Arr) : Arr := { A with changes := A.changes + 1, left := if 0 < A.left then A.left - 1 else A.left, off := if 0 < A.left then decide (A.left - 1 = 0) else A.off }
def inA (A : Arr) (d s : Int) : Bool := isA A d && (decide (0 ≤ s) && decide (s < A.sectors))
def readA (A : Arr) (d s : Int) : Txt × Int :=
  if inA A d s then if mayA A d.toNat = 0 then (if tx (dskA A d.toNat).cache s.toNat = [] then tx (dskA A d.toNat).l s.toNat else tx (dskA A d.toNat).cache s.toNat, 0) else ([], mayA A d.toNat) else ([], 3)
def setD (A : Arr) (k : Nat) (x : Dsk) : Arr := { A with d := A.d.set k x }
def writeA (A : Arr) (d s : Int) (t : Txt) : Arr × Int :=
  if inA A d s then if t.length = 64 then if mayA A d.toNat = 0 then (changedA (setD A d.toNat { dskA A d.toNat with cache := (dskA A d.toNat).cache.set s.toNat t }), 0) else (A, mayA A d.toNat) else (A, 1) else (A, 3)
/-- What a cache is brought to. -/
def over (l cache : List Txt) : List Txt := (List.range l.length).map fun j => if tx cache j = [] then tx l j else tx cache j
def flushD (x : Dsk) : Dsk := { x with l := over x.l x.cache, cache := List.replicate x.cache.length [] }
def flushA (A : Arr) (d : Int) : Arr × Int :=
  if isA A d then if mayA A d.toNat = 0 then (changedA (setD A d.toNat (flushD (dskA A d.toNat))), 0) else (A, mayA A d.toNat) else (A, 3)
def offA (A : Arr) (n : Int) : Arr := { A with left := max (-1) n, off := A.off || decide (n = 0) }
def liveA (A : Arr) (d : Int) : Bool := isA A d && (dskA A d.toNat).live
def dirtyA (A : Arr) : Nat := (A.d.map fun x => (keysT x.cache).length).sum
def loseA (A : Arr) (d : Int) : Arr × Int := if isA A d then (setD A d.toNat { freshD A.sectors with live := false }, 0) else (A, 3)
def replaceA (A : Arr) (d : Int) : Arr × Int := if isA A d then (setD A d.toNat (freshD A.sectors), 0) else (A, 3)
/-- A bit turned. -/
def xorB (b : UInt8) (n : Nat) : UInt8 := u8I (((BitVec.ofInt 8 (b.toNat : Int)) ^^^ (BitVec.ofInt 8 (Go.IntKind.u8.wrap (1 * 2 ^ n)))).toNat : Int)
def flipT (t : Txt) (n : Nat) : Txt := t.set (n / 8 % 64) (xorB (t.getD (n / 8 % 64) 0) (n % 8))
def flipA (A : Arr) (d n : Int) : Arr × Int :=
  if isA A d then if 0 ≤ n then if (dskA A d.toNat).live then
    let m := (n % (512 * A.sectors)).toNat
    (setD A d.toNat { dskA A d.toNat with l := (dskA A d.toNat).l.set (m / 512) (flipT (tx (dskA A d.toNat).l (m / 512)) m) }, 0)
  else (A, 8) else (A, 1) else (A, 3)
/-- What lies in caches, in order, kept as it is picked. -/
def pick (L : List Int) (at_ : Nat) : Bool := decide (0 < L.length) && decide (L.getD (at_ % L.length) 0 % 2 = 1)
def keepS (L : List Int) (cache : List Txt) (l : List Txt) : Nat → List Nat → List Txt
  | _, [] => l
  | at_, k :: ks => keepS L cache (if pick L at_ then l.set k (tx cache k) else l) (at_ + 1) ks
def crashD (L : List Int) : Nat → List Dsk → List Dsk
  | _, [] => []
  | at_, x :: xs => { x with l := keepS L x.cache x.l at_ (keysT x.cache), cache := List.replicate x.cache.length [] } :: crashD L (at_ + (keysT x.cache).length) xs
def crashA (A : Arr) (L : List Int) : Arr := { A with d := crashD L 0 A.d, off := false, left := -1 }

/-- What disks may be. -/
structure WfD (n : Nat) (x : Dsk) : Prop where
  ll : x.l.length = n
  lc : x.cache.length = n
  tl : ∀ k, k < n → (tx x.l k).length = 64
  tc : ∀ k, tx x.cache k = [] ∨ (tx x.cache k).length = 64
structure WfA (A : Arr) : Prop where
  many : 0 < A.d.length ∧ A.d.length ≤ 12
  sec : 0 < A.sectors ∧ A.sectors ≤ 2048
  each : ∀ x ∈ A.d, WfD A.sectors x
  left : -1 ≤ A.left ∧ A.left ≤ 9223372036854775807
  chg : A.changes ≤ 4611686018427387904
end Silo
