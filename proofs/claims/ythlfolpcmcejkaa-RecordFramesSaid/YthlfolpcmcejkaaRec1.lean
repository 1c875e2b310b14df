/- Walks of the small functions of the records' layer. No condition. -/
import Derived.Test.YthlfolpcmcejkaaTypes
import Derived.Test.YthlfolpcmcejkaaDraw
import Derived.Test.YthlfolpcmcejkaaRecSpec
set_option linter.unusedSimpArgs false
set_option linter.unusedVariables false
set_option maxRecDepth 100000
namespace Go.Proofs.Ythlfolpcmcejkaa
open Go Go.Eng Go.RowKit Silo TryT

theorem num_ok {w : World} (n most : Int) : Calls Try.prog 30 #[I n, I most] w (Ret fun v w' => Below w.heap.size w w' ∧ v = .bool (decide (0 ≤ n) && decide (n ≤ most))) := by
  refine enter (n := 12) (res := #[.tmp 4]) Try.func30 rfl rfl rfl rfl ?_
  refine cseq <| cg <| za rfl <| cnil <| cseq <| cg <| zm rfl <| vq (Val.geq rfl rfl) <| zm rfl ?_
  apply WR.sc true 3 _ (fun w' => w = w')
  case hl | hg | hu | hv | hs | hoff | hd => rfl
  case hF => exact fun _ => rfl
  case hT =>
   intro hq6
   try simp only [tstS] at hq6
   simp only [List.take_succ_cons, List.take_zero]
   refine WR.on rfl rfl ?_
   refine zm rfl ?_
   refine WR.on rfl rfl ?_
   refine zm rfl ?_
   refine WR.on rfl rfl ?_
   refine vq (Val.leq rfl rfl) ?_
   exact WR.nil ⟨rfl, Sub.drop _ 3 _ rfl rfl, rfl⟩
  rintro _ rfl
  refine za rfl <| cnil ?_
  refine WC.ret1 rfl rfl ?_
  exact ⟨Below.refl _ _, rfl⟩

theorem between_ok {w : World} (n low high : Int) : Calls Try.prog 41 #[I n, I low, I high] w (Ret fun v w' => Below w.heap.size w w' ∧ v = .bool (decide (low ≤ n) && decide (n ≤ high))) := by
  refine enter (n := 15) (res := #[.tmp 6]) Try.func41 rfl rfl rfl rfl ?_
  refine cseq <| cg <| za rfl <| cnil <| cseq <| cg <| zm rfl <| zm rfl <| vq (Val.geq rfl rfl) ?_
  refine zm rfl ?_
  apply WR.sc true 3 _ (fun w' => w = w')
  case hl | hg | hu | hv | hs | hoff | hd => rfl
  case hF => exact fun _ => rfl
  case hT =>
   intro hq7
   try simp only [tstS] at hq7
   simp only [List.take_succ_cons, List.take_zero]
   refine WR.on rfl rfl ?_
   refine zm rfl ?_
   refine WR.on rfl rfl ?_
   refine zm rfl ?_
   refine WR.on rfl rfl ?_
   refine vq (Val.leq rfl rfl) ?_
   exact WR.nil ⟨rfl, Sub.drop _ 3 _ rfl rfl, rfl⟩
  rintro _ rfl
  refine za rfl <| cnil ?_
  refine WC.ret1 rfl rfl ?_
  exact ⟨Below.refl _ _, rfl⟩

theorem errnum_ok {w : World} (n : Int) : Calls Try.prog 20 #[I n] w (Ret fun v w' => Below w.heap.size w w' ∧ v = I n) := by
  refine enter (n := 4) (res := #[.tmp 2]) Try.func20 rfl rfl rfl rfl ?_
  refine cseq <| cg <| za rfl <| cnil <| cseq <| cg <| zm rfl <| za rfl <| cnil ?_
  refine WC.ret1 rfl rfl ?_
  exact ⟨Below.refl _ _, rfl⟩

theorem number_ok {w : World} (n : Int) : Calls Try.prog 54 #[I n] w (Ret fun v w' => Below w.heap.size w w' ∧ v = .bool (decide (0 ≤ n) && decide (n ≤ 1073741824))) := by
  refine enter (n := 9) (res := #[.tmp 2]) Try.func54 rfl rfl rfl rfl ?_
  refine cseq <| cg <| za rfl <| cnil <| cseq <| cg <| zm rfl <| vq (Val.geq rfl rfl) <| zm rfl ?_
  apply WR.sc true 2 _ (fun w' => w = w')
  case hl | hg | hu | hv | hs | hoff | hd => rfl
  case hF => exact fun _ => rfl
  case hT =>
   intro hq5
   try simp only [tstS] at hq5
   simp only [List.take_succ_cons, List.take_zero]
   refine WR.on rfl rfl ?_
   refine zm rfl ?_
   refine WR.on rfl rfl ?_
   refine vq (Val.leq rfl rfl) ?_
   exact WR.nil ⟨rfl, Sub.drop _ 2 _ rfl rfl, rfl⟩
  rintro _ rfl
  refine za rfl <| cnil ?_
  refine WC.ret1 rfl rfl ?_
  exact ⟨Below.refl _ _, rfl⟩

theorem put_ok {w : World} {base m : Nat} {v : Value} {l : List UInt8} (hown : Own w base 5 1 v m (bytesV l)) (hBw : base ≤ w.heap.size) (n size : Int) (h0 : 0 ≤ size) (h8 : size ≤ 8) (hm : m ≤ 1099511627776) :
    Calls Try.prog 66 #[v, .int .u64 n, I size] w (Ret fun v' w' => Below base w w' ∧ Own w' base 5 1 v' (m + size.toNat) (bytesV (l ++ be size.toNat n))) := by
  obtain ⟨s, rfl⟩ := Int.eq_ofNat_of_zero_le h0
  have hs : s ≤ 8 := by omega
  have hK : Below base w w := Below.refl _ _
  refine enter (n := 23) (res := #[.tmp 6]) Try.func66 rfl rfl rfl rfl ?_
  refine cseq <| cg <| za rfl <| cnil <| cseq <| cseq <| cg <| zm rfl <| vq (Val.subI rfl rfl side side) ?_
  refine za rfl <| cnil <| cblock ?_
  refine WC.loop (σ := Nat × Value) (fun st => [(0, st.2), (1, .int .u64 n), (2, I s), (7, I ((st.1 : Int) - 1))]) (fun st w' => Own w' base 5 1 st.2 (m + (s - st.1)) (bytesV (l ++ (be s n).take (s - st.1))) ∧ st.1 ≤ s ∧ Below base w w' ∧ base ≤ w'.heap.size) (fun st => st.1) (s, v) subs ⟨by simpa using hown, Nat.le_refl _, hK, hBw⟩ ?_
  rintro ⟨k, v⟩ wl ⟨ho, hk, hK, hBw⟩
  dsimp only at ho hk ⊢
  refine cseq <| cseq <| cg <| zm rfl <| vq (Val.geq rfl rfl) <| cnil ?_
  refine WC.cond rfl (fun hc2 => ?_) (fun hc2 => ?_)
  ·try simp only [tstS] at hc2
   obtain ⟨j, rfl⟩ : ∃ j, k = j + 1 := ⟨k - 1, by omega⟩
   have ej : ((j + 1 : Nat) : Int) - 1 = (j : Int) := by omega
   rw [ej]
   refine cskip <| cseq <| cblock <| cg <| zm rfl <| zm rfl <| zm rfl <| vq (Val.mulI rfl rfl side side) <| vq (Val.shr rfl rfl side (by simp [IntKind.bits] <;> omega)) ?_
   refine vq (Val.convToU8I Try.underlying94 Try.underlying5 rfl) ?_
   refine ve (Eff.build1 sl38 rfl rfl rfl rfl rfl) ?_
   rintro _ w1 ⟨b20, rfl, hn20⟩
   have hk1 := hn20.below
   replace hK := hK.upB (hk1.mono hBw); replace ho := ho.up hk1; replace hBw := Nat.le_trans hBw hk1.size
   refine ve (Eff.append sl38 rfl rfl ho (Src.cellsAt Try.underlying38 hn20.blk.cellsAt rfl ones) mxl oms hBw) ?_
   intro v21 w2 hA21
   have hk2 := hA21.belowB ho hBw
   replace hK := hK.upB hk2; replace hBw := Nat.le_trans hBw hk2.size
   replace ho := hA21.own
   have e1 : bytesV (l ++ (be s n).take (s - (j + 1))) ++ [Value.int .u8 (u8I (n / 2 ^ (8 * (j : Int)).toNat)).toNat] = bytesV (l ++ (be s n).take (s - j)) := by
     have : (8 * (j : Int)).toNat = 8 * j := by omega
     rw [be_take_step s j n hk, this, pow8]; simp [bytesV]
   rw [e1, show m + (s - (j + 1)) + 1 = m + (s - j) by omega] at ho
   refine za rfl <| cnil <| cg <| zm rfl <| vq (Val.subI rfl rfl side side) <| za rfl <| cnil ?_
   exact ⟨(j, v21), subs, ⟨ho, by omega, hK, hBw⟩, by simp⟩
  ·try simp only [tstS] at hc2
   refine WC.exit rfl ?_
   refine cseq <| cg <| zm rfl <| za rfl <| cnil ?_
   refine WC.ret1 rfl rfl ?_
   have : k = 0 := by omega
   subst this
   refine ⟨hK, ?_⟩
   rw [Nat.sub_zero, be_take_all] at ho
   simpa using ho

theorem rput_ok {w : World} {base m : Nat} {v : Value} {l : List UInt8} (hown : Own w base 5 1 v m (bytesV l)) (hBw : base ≤ w.heap.size) (n : Int) (hm : m ≤ 1099511627776) :
    Calls Try.prog 63 #[v, I n] w (Ret fun v' w' => Below base w w' ∧ Own w' base 5 1 v' (m + 4) (bytesV (l ++ be 4 n))) := by
  have h1 : 0 ≤ n % 4294967296 := Int.emod_nonneg _ (by decide)
  have h2 : n % 4294967296 < 4294967296 := Int.emod_lt_of_pos _ (by decide)
  have e1 : be 4 (n % 4294967296) = be 4 n := be_congr 4 _ _ (by show n % 4294967296 % 4294967296 = n % 4294967296; exact Int.emod_emod_of_dvd _ ⟨1, rfl⟩)
  refine enter (n := 10) (res := #[.tmp 4]) Try.func63 rfl rfl rfl rfl ?_
  refine cseq <| cg <| za rfl <| cnil <| cseq <| cg <| zm rfl <| zm rfl <| vq (Val.convToU32 Try.underlying3 Try.underlying103 rfl) ?_
  refine vq (Val.convToU64 Try.underlying103 Try.underlying94 rfl side side) ?_
  refine ve (Eff.call pf66 rfl (put_ok hown hBw (n % 4294967296) 4 (by decide) (by decide) hm)) ?_
  rintro v9 w1 ⟨hk, ho⟩
  refine za rfl <| cnil ?_
  refine WC.ret1 rfl rfl ?_
  rw [← e1]
  exact ⟨hk, ho⟩

theorem number_ok' {w : World} (l : List UInt8) (hl : l.length ≤ 7) :
    Calls Try.prog 75 #[St l] w (Ret fun v' w' => Below w.heap.size w w' ∧ v' = .int .u64 (beNat l : Nat)) := by
  refine enter (n := 18) (res := #[.tmp 2]) Try.func75 rfl rfl rfl rfl ?_
  refine cseq <| cg <| za rfl <| cnil <| cseq <| cseq <| cg <| zm rfl <| vq (Val.slen Try.underlying9 rfl) ?_
  refine zm rfl <| cnil <| cblock ?_
  refine WC.loop (σ := Nat) (fun k => [(0, St l), (5, I l.length), (6, I k), (2, .int .u64 (beNat (l.take k) : Nat))]) (fun k w' => k ≤ l.length ∧ w' = w) (fun k => l.length - k) 0 subs ⟨by omega, rfl⟩ ?_
  rintro k wl ⟨hk, rfl⟩
  refine cseq <| cg <| vq (Val.lss rfl rfl) <| cnil <| cseq ?_
  refine WC.cond rfl (fun hc2 => ?_) (fun hc2 => ?_)
  ·try simp only [tstS] at hc2
   have hkl : k < l.length := by omega
   have hlt := beNat_lt (l.take k)
   have hlt2 : beNat (l.take k) < 72057594037927936 := by
     rw [take_len hk] at hlt
     have : 256 ^ k ≤ 256 ^ 7 := Nat.pow_le_pow_right (by decide) (by omega)
     omega
   refine cskip <| cseq <| cblock <| cseq <| cg <| zm rfl <| za rfl <| cnil <| cg ?_
   refine zm rfl <| vq (Val.shl8_u64 rfl rfl hlt2) <| zm rfl <| zm rfl <| vq (Val.sindex Try.underlying9 rfl rfl (by omega) (List.getElem?_eq_getElem hkl)) <| vq (Val.convU8u64 Try.underlying5 Try.underlying94 rfl) <| vq (Val.or256_u64 rfl rfl hlt2 l[k].toNat_lt) <| za rfl <| cnil ?_
   refine cg <| vq (Val.addI rfl rfl side side) <| zm rfl <| cnil ?_
   have e1 : beNat (l.take (k + 1)) = beNat (l.take k) * 256 + l[k].toNat := by rw [List.take_succ_eq_append_getElem hkl, beNat_snoc]
   refine ⟨k + 1, ?_, ⟨hkl, rfl⟩, by omega⟩
   rw [e1]
   repeat (first | exact Sub.nil _ | refine Sub.cons rfl ?_ | refine Sub.consM rfl ?_)
  ·try simp only [tstS] at hc2
   refine WC.exit rfl ?_
   refine cseq <| cg <| zm rfl <| za rfl <| cnil ?_
   refine WC.ret1 rfl rfl ?_
   exact ⟨Below.refl _ _, by rw [List.take_of_length_le (by omega)]⟩

end Go.Proofs.Ythlfolpcmcejkaa
