/- Sums: in plain Lean, and as the program and the page reckon them. No condition. -/
import Derived.Test.YthlfolpcmcejkaaCom
import Derived.Test.YthlfolpcmcejkaaRec5
set_option linter.unusedSimpArgs false
set_option linter.unusedVariables false
set_option maxRecDepth 100000
namespace Silo
open Go Go.Eng
/-- One bit of a sum. -/
def crcT (x : Nat) : Nat := if x % 2 = 1 then (x / 2) ^^^ 14514072000185962306 else x / 2
def crcN : Nat → Nat → Nat
  | 0, x => x
  | k + 1, x => crcT (crcN k x)
def crcB (x : Nat) (b : UInt8) : Nat := crcN 8 (x ^^^ b.toNat)
def crcL (x : Nat) (s : List UInt8) : Nat := s.foldl crcB x
def inv64 (x : Nat) : Nat := 18446744073709551615 - x
/-- A text's sum. -/
def crc (s : List UInt8) : Nat := inv64 (crcL (inv64 0) s)
theorem crcT_lt {x : Nat} (h : x < 18446744073709551616) : crcT x < 18446744073709551616 := by
  unfold crcT
  split
  · exact Nat.xor_lt_two_pow (n := 64) (by omega) (by decide)
  · omega
theorem crcN_lt : ∀ (k : Nat) {x : Nat}, x < 18446744073709551616 → crcN k x < 18446744073709551616
  | 0, _, h => h
  | k + 1, _, h => crcT_lt (crcN_lt k h)
theorem xor_byte_lt {x : Nat} (b : UInt8) (h : x < 18446744073709551616) : x ^^^ b.toNat < 18446744073709551616 := Nat.xor_lt_two_pow (n := 64) h (by have := b.toNat_lt; omega)
theorem crcB_lt {x : Nat} (b : UInt8) (h : x < 18446744073709551616) : crcB x b < 18446744073709551616 := crcN_lt 8 (xor_byte_lt b h)
theorem crcL_lt : ∀ (s : List UInt8) {x : Nat}, x < 18446744073709551616 → crcL x s < 18446744073709551616
  | [], _, h => h
  | b :: s, _, h => crcL_lt s (crcB_lt b h)
theorem inv64_lt (x : Nat) : inv64 x < 18446744073709551616 := by unfold inv64; omega
theorem crcL_take {x : Nat} {s : List UInt8} {k : Nat} (hk : k < s.length) : crcL x (s.take (k + 1)) = crcB (crcL x (s.take k)) s[k] := by
  rw [List.take_succ_eq_append_getElem hk, crcL, List.foldl_append]; rfl
end Silo
namespace Go.Eng
open Go Go.RowKit Silo
abbrev U64 (n : Nat) : Value := .int .u64 (n : Int)
theorem wrap_u64n {n : Nat} (h : n < 18446744073709551616) : IntKind.u64.wrap (n : Int) = n := by
  simp [IntKind.wrap, IntKind.signed, IntKind.bits]; omega
section
variable {P : Program} {env : Env} {w : World} {ty ty2 t : TypeId} {x y : Operand} {m n : Nat}
theorem Val.and1U64 (hx : evO env x = some (U64 m)) (hy : evO env y = some (.int .u64 1)) (hm : m < 18446744073709551616) : Val P env w (.binOp .and t x y ty2) ty (U64 (m % 2)) := by
  have := Val.bitop (P := P) (w := w) (ty := ty) (t := t) (ty2 := ty2) (op := .and) (k := .u64) hx hy (.inr (.inl ⟨rfl, rfl⟩))
  have e : ((BitVec.ofInt IntKind.u64.bits (m : Int) &&& BitVec.ofInt IntKind.u64.bits 1).toNat) = m % 2 := by
    rw [BitVec.toNat_and, ofInt_nat _ m (by exact hm), show (BitVec.ofInt IntKind.u64.bits 1).toNat = 1 from by decide, Nat.and_one_is_mod]
  rw [e, wrap_u64n (by omega)] at this
  exact this
theorem Val.xorU64 (hx : evO env x = some (U64 m)) (hy : evO env y = some (U64 n)) (hm : m < 18446744073709551616) (hn : n < 18446744073709551616) : Val P env w (.binOp .xor t x y ty2) ty (U64 (m ^^^ n)) := by
  have := Val.bitop (P := P) (w := w) (ty := ty) (t := t) (ty2 := ty2) (op := .xor) (k := .u64) hx hy (.inr (.inr ⟨rfl, rfl⟩))
  have e : ((BitVec.ofInt IntKind.u64.bits (m : Int) ^^^ BitVec.ofInt IntKind.u64.bits (n : Int)).toNat) = m ^^^ n := by
    rw [BitVec.toNat_xor, ofInt_nat _ m (by exact hm), ofInt_nat _ n (by exact hn)]
  rw [e, wrap_u64n (Nat.xor_lt_two_pow (n := 64) hm hn)] at this
  exact this
theorem Val.shr1U64 (hx : evO env x = some (U64 m)) (hy : evO env y = some (.int .u64 1)) : Val P env w (.binOp .shr t x y ty2) ty (U64 (m / 2)) := by
  have := Val.shr (P := P) (w := w) (ty := ty) (t := t) (ty2 := ty2) hx hy (by decide) (by decide)
  have e : ((m : Int) / 2 ^ (1 : Int).toNat) = ((m / 2 : Nat) : Int) := by
    have h2 : (2 : Int) ^ (1 : Int).toNat = 2 := by decide
    rw [h2]; omega
  rw [e] at this
  exact this
theorem Val.invU64 (hx : evO env x = some (U64 m)) (hm : m < 18446744073709551616) : Val P env w (.unOp .xor t x) ty (U64 (inv64 m)) := fun _ a ho d pos after g => by
  have e0 : (BitVec.ofInt 64 18446744073709551615 ^^^ BitVec.ofInt 64 (m : Int)).toNat = inv64 m := by
    have e1 : BitVec.ofInt 64 18446744073709551615 = BitVec.allOnes 64 := by decide
    rw [e1, BitVec.allOnes_xor, BitVec.toNat_not, ofInt_nat 64 m (by exact hm)]
    rfl
  have h : (Op.intBits .xor .u64 18446744073709551615 (m : Int) : Sem Value) = pure (U64 (inv64 m)) := by
    have e : IntKind.u64.wrap ((BitVec.ofInt IntKind.u64.bits 18446744073709551615 ^^^ BitVec.ofInt IntKind.u64.bits (m : Int)).toNat : Int) = inv64 m := by
      have e2 : ((BitVec.ofInt IntKind.u64.bits 18446744073709551615 ^^^ BitVec.ofInt IntKind.u64.bits (m : Int)).toNat) = inv64 m := e0
      rw [e2, wrap_u64n (inv64_lt m)]
    simp only [Op.intBits]
    rw [e]
  simp only [execOp, ho.eval hx, Op.unary]
  simp [IntKind.signed, IntKind.max, IntKind.bits, h]
end
end Go.Eng
namespace Go.Proofs.Ythlfolpcmcejkaa
open Go Go.Eng Go.RowKit Silo TryT

theorem cturned_ok {w : World} {x : Nat} (hx : x < 18446744073709551616) : Calls Try.prog 79 #[U64 x] w (Ret fun v w' => Below w.heap.size w w' ∧ v = U64 (crcT x)) := by
  refine enter (n := 11) (res := #[.tmp 2]) Try.func79 rfl rfl rfl rfl ?_
  refine cseq <| cg <| za rfl <| cnil <| cseq <| cseq <| cg <| zm rfl <| vq (Val.and1U64 rfl rfl hx) ?_
  refine vq (Val.eql rfl rfl) <| cnil ?_
  refine WC.cond rfl (fun hc1 => ?_) (fun hc1 => ?_)
  ·try simp only [tstS] at hc1
   have h1 : x % 2 = 1 := by omega
   refine cseq <| cg <| zm rfl <| vq (Val.shr1U64 rfl rfl) <| vq (Val.xorU64 (n := 14514072000185962306) rfl rfl (by omega) (by decide)) <| za rfl <| cnil ?_
   refine WC.ret1 rfl rfl ?_
   exact ⟨Below.refl _ _, by rw [crcT, if_pos h1]⟩
  ·try simp only [tstS] at hc1
   refine cskip <| cseq <| cg <| zm rfl <| vq (Val.shr1U64 rfl rfl) <| za rfl <| cnil ?_
   refine WC.ret1 rfl rfl ?_
   exact ⟨Below.refl _ _, by rw [crcT, if_neg (by omega)]⟩
theorem cmore_ok {w : World} {x : Nat} {s : List UInt8} (hx : x < 18446744073709551616) (hs : s.length ≤ 140737488355328) : Calls Try.prog 76 #[U64 x, St s] w (Ret fun v w' => Below w.heap.size w w' ∧ v = U64 (inv64 (crcL (inv64 x) s))) := by
  have hK : Old w w := Old.refl w
  refine enter (n := 28) (res := #[.tmp 4]) Try.func76 rfl rfl rfl rfl ?_
  refine cseq <| cg <| za rfl <| cnil <| cseq <| cg <| zm rfl <| vq (Val.invU64 rfl hx) <| za rfl ?_
  refine cnil <| cseq <| cseq <| cg <| zm rfl <| vq (Val.slen Try.underlying9 rfl) <| zm rfl <| cnil <| cblock ?_
  refine WC.loop (σ := Nat) (fun k => [(1, St s), (5, U64 (crcL (inv64 x) (s.take k))), (10, I s.length), (11, I k)]) (fun k w' => Old w w' ∧ k ≤ s.length) (fun k => s.length - k) 0 subs ⟨hK, by omega⟩ ?_
  clear hK
  rintro k wl ⟨hK, hk⟩
  have hl := crcL_lt (s.take k) (inv64_lt x)
  refine cseq <| cg <| vq (Val.lss rfl rfl) <| cnil <| cseq ?_
  refine WC.cond rfl (fun hc3 => ?_) (fun hc3 => ?_)
  ·try simp only [tstS] at hc3
   have ka : k < s.length := by omega
   have ht := crcL_take (x := inv64 x) ka
   have hxb := xor_byte_lt s[k] hl
   refine cskip <| cseq <| cblock <| cseq <| cg <| zm rfl <| za rfl <| cnil <| cseq ?_
   refine cg <| zm rfl <| zm rfl <| zm rfl <| vq (Val.sindex Try.underlying9 rfl rfl (by omega) (show s[((k : Nat) : Int).toNat]? = some s[k] by rw [Int.toNat_natCast]; exact List.getElem?_eq_getElem ka)) <| vq (Val.convU8u64 Try.underlying5 Try.underlying94 rfl) <| vq (Val.xorU64 (n := s[k].toNat) rfl rfl hl (by have := s[k].toNat_lt; omega)) <| za rfl <| cnil ?_
   refine cseq <| cg <| zm rfl <| cnil <| cblock ?_
   refine WC.loop (σ := Nat) (fun j => [(1, St s), (5, U64 (crcN j (crcL (inv64 x) (s.take k) ^^^ s[k].toNat))), (10, I s.length), (11, I k), (20, I j)]) (fun j w' => Old w w' ∧ j ≤ 8) (fun j => 8 - j) 0 subs ⟨hK, by omega⟩ ?_
   clear hK
   rintro j wm ⟨hK, hj⟩
   have hjl := crcN_lt j hxb
   refine cseq <| cg <| vq (Val.lss rfl rfl) <| cnil <| cseq ?_
   refine WC.cond rfl (fun hc7 => ?_) (fun hc7 => ?_)
   ·try simp only [tstS] at hc7
    refine cskip <| cseq <| cblock <| cg <| zm rfl ?_
    refine ve (Eff.call pf79 rfl (cturned_ok hjl)) ?_
    rintro v23 w1 ⟨hk1, rfl⟩
    replace hK := hK.up hk1
    refine za rfl <| cnil <| cg <| vq (Val.addI rfl rfl side side) <| zm rfl <| cnil ?_
    exact ⟨j + 1, subs, ⟨hK, by omega⟩, by omega⟩
   ·try simp only [tstS] at hc7
    have hj8 : j = 8 := by omega
    subst hj8
    refine WC.exit rfl ?_
    refine cg <| vq (Val.addI rfl rfl side side) <| zm rfl <| cnil ?_
    refine ⟨k + 1, ?_, ⟨hK, ka⟩, by omega⟩
    rw [ht]
    exact subs
  ·try simp only [tstS] at hc3
   have hks : k = s.length := by omega
   subst hks
   rw [List.take_length] at hl ⊢
   refine WC.exit rfl ?_
   refine cseq <| cg <| zm rfl <| vq (Val.invU64 rfl hl) <| za rfl <| cnil ?_
   refine WC.ret1 rfl rfl ?_
   exact ⟨hK, rfl⟩
theorem cof_ok {w : World} {s : List UInt8} (hs : s.length ≤ 140737488355328) : Calls Try.prog 67 #[St s] w (Ret fun v w' => Below w.heap.size w w' ∧ v = U64 (crc s)) := by
  have hK : Old w w := Old.refl w
  refine enter (n := 5) (res := #[.tmp 2]) Try.func67 rfl rfl rfl rfl ?_
  refine cseq <| cg <| za rfl <| cnil <| cseq <| cg <| zm rfl ?_
  refine ve (Eff.call pf76 rfl (cmore_ok (x := 0) (by decide) hs)) ?_
  rintro v4 w1 ⟨hk1, rfl⟩
  replace hK := hK.up hk1
  refine za rfl <| cnil ?_
  refine WC.ret1 rfl rfl ?_
  exact ⟨hK, rfl⟩
set_option maxHeartbeats 1000000 in
theorem qsum_ok {w : World} {s : List UInt8} (hs : s.length ≤ 140737488355328) : Calls Try.prog 68 #[.int .u64 0, St s] w (Ret fun v w' => Below w.heap.size w w' ∧ v = U64 (crc s)) := by
  have hK : Old w w := Old.refl w
  refine enter (n := 35) (res := #[.tmp 4]) Try.func68 rfl rfl rfl rfl ?_
  refine cseq <| cg <| za rfl <| cnil <| cseq <| cg <| zm rfl <| vq (Val.invU64 (m := 0) rfl (by decide)) <| za rfl ?_
  refine cnil <| cseq <| cseq <| cg <| za rfl <| cnil <| cblock ?_
  refine WC.loop (σ := Nat) (fun k => [(0, U64 (crcL (inv64 0) (s.take k))), (1, St s), (5, I k)]) (fun k w' => Old w w' ∧ k ≤ s.length) (fun k => s.length - k) 0 subs ⟨hK, by omega⟩ ?_
  clear hK
  rintro k wl ⟨hK, hk⟩
  have hl := crcL_lt (s.take k) (inv64_lt 0)
  refine cseq <| cseq <| cg <| zm rfl <| zm rfl <| vq (Val.slen Try.underlying9 rfl) <| vq (Val.lss rfl rfl) <| cnil ?_
  refine WC.cond rfl (fun hc3 => ?_) (fun hc3 => ?_)
  ·try simp only [tstS] at hc3
   have ka : k < s.length := by omega
   have ht := crcL_take (x := inv64 0) ka
   have hxb := xor_byte_lt s[k] hl
   refine cskip <| cseq <| cblock <| cseq <| cg <| zm rfl <| zm rfl <| zm rfl <| vq (Val.sindex Try.underlying9 rfl rfl (by omega) (show s[((k : Nat) : Int).toNat]? = some s[k] by rw [Int.toNat_natCast]; exact List.getElem?_eq_getElem ka)) ?_
   refine vq (Val.convU8u64 Try.underlying5 Try.underlying94 rfl) <| vq (Val.xorU64 (n := s[k].toNat) rfl rfl hl (by have := s[k].toNat_lt; omega)) <| za rfl <| cnil <| cseq <| cg <| za rfl <| cnil <| cblock ?_
   refine WC.loop (σ := Nat) (fun j => [(0, U64 (crcN j (crcL (inv64 0) (s.take k) ^^^ s[k].toNat))), (1, St s), (5, I k), (6, I j)]) (fun j w' => Old w w' ∧ j ≤ 8) (fun j => 8 - j) 0 subs ⟨hK, by omega⟩ ?_
   clear hK
   rintro j wm ⟨hK, hj⟩
   have hjl := crcN_lt j hxb
   refine cseq <| cseq <| cg <| zm rfl <| vq (Val.lss rfl rfl) <| cnil ?_
   refine WC.cond rfl (fun hc7 => ?_) (fun hc7 => ?_)
   ·try simp only [tstS] at hc7
    obtain ⟨y, hy⟩ : ∃ y, y = crcN j (crcL (inv64 0) (s.take k) ^^^ s[k].toNat) := ⟨_, rfl⟩
    have hst : crcN (j + 1) (crcL (inv64 0) (s.take k) ^^^ s[k].toNat) = crcT y := by rw [hy]; rfl
    rw [← hy] at hjl ⊢
    refine cskip <| cseq <| cblock <| cseq <| cg <| zm rfl <| vq (Val.and1U64 rfl rfl hjl) <| vq (Val.eql rfl rfl) <| cnil ?_
    refine WC.cond rfl (fun hc9 => ?_) (fun hc9 => ?_)
    ·try simp only [tstS] at hc9
     refine cg <| zm rfl <| vq (Val.shr1U64 rfl rfl) <| vq (Val.xorU64 (n := 14514072000185962306) rfl rfl (by omega) (by decide)) <| za rfl <| cnil <| cg <| zm rfl <| vq (Val.addI rfl rfl side side) ?_
     refine za rfl <| cnil ?_
     first
     | (have h1 : y % 2 = 1 := by omega); rw [crcT, if_pos h1] at hst; exact ⟨j + 1, by rw [hst]; exact subs, ⟨hK, by omega⟩, by omega⟩
     | (have h1 : ¬ y % 2 = 1 := by omega); rw [crcT, if_neg h1] at hst; exact ⟨j + 1, by rw [hst]; exact subs, ⟨hK, by omega⟩, by omega⟩
    ·try simp only [tstS] at hc9
     refine cg <| zm rfl <| vq (Val.shr1U64 rfl rfl) <| za rfl <| cnil <| cg <| zm rfl <| vq (Val.addI rfl rfl side side) <| za rfl ?_
     refine cnil ?_
     first
     | (have h1 : y % 2 = 1 := by omega); rw [crcT, if_pos h1] at hst; exact ⟨j + 1, by rw [hst]; exact subs, ⟨hK, by omega⟩, by omega⟩
     | (have h1 : ¬ y % 2 = 1 := by omega); rw [crcT, if_neg h1] at hst; exact ⟨j + 1, by rw [hst]; exact subs, ⟨hK, by omega⟩, by omega⟩
   ·try simp only [tstS] at hc7
    have hj8 : j = 8 := by omega
    subst hj8
    refine WC.exit rfl ?_
    refine cg <| zm rfl <| vq (Val.addI rfl rfl side side) <| za rfl <| cnil ?_
    refine ⟨k + 1, ?_, ⟨hK, ka⟩, by omega⟩
    rw [ht]
    exact subs
  ·try simp only [tstS] at hc3
   have hks : k = s.length := by omega
   subst hks
   rw [List.take_length] at hl ⊢
   refine WC.exit rfl ?_
   refine cseq <| cg <| zm rfl <| vq (Val.invU64 rfl hl) <| za rfl <| cnil ?_
   refine WC.ret1 rfl rfl ?_
   exact ⟨hK, rfl⟩
theorem be_u64 {n : Nat} (h : n < 18446744073709551616) : be 8 (IntKind.i64.wrap (n : Int)) = be 8 (n : Int) := be_congr 8 _ _ (by
  simp only [IntKind.wrap, IntKind.signed, IntKind.bits]
  simp
  split <;> omega)
theorem ssum_ok {w : World} {s : List UInt8} (hs : s.length ≤ 140737488355328) : Calls Try.prog 56 #[St s] w (Ret fun v w' => Below w.heap.size w w' ∧ v = St (be 8 (crc s : Nat))) := by
  have hK : Old w w := Old.refl w
  refine enter (n := 7) (res := #[.tmp 2]) Try.func56 rfl rfl rfl rfl ?_
  refine cseq <| cg <| za rfl <| cnil <| cseq <| cg <| zm rfl ?_
  refine ve (Eff.call pf68 rfl (qsum_ok hs)) ?_
  rintro v4 w1 ⟨hk1, rfl⟩
  replace hK := hK.up hk1
  refine vq (Val.convInt Try.underlying94 Try.underlying3 rfl) ?_
  refine ve (Eff.call pf46 rfl (high_ok (IntKind.i64.wrap (crc s : Nat)) 8 (by decide))) ?_
  rintro v6 w2 ⟨hk2, rfl⟩
  replace hK := hK.up hk2
  refine za rfl <| cnil ?_
  refine WC.ret1 rfl rfl ?_
  exact ⟨hK, by rw [be_u64 (n := crc s) (inv64_lt _)]⟩
end Go.Proofs.Ythlfolpcmcejkaa
