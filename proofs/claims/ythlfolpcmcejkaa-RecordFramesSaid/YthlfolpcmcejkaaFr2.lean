/- The frame that a text begins with: the program. No condition. -/
import Derived.Test.YthlfolpcmcejkaaFrPlain2
import Derived.Test.YthlfolpcmcejkaaRec12
set_option linter.unusedSimpArgs false
set_option linter.unusedVariables false
set_option maxRecDepth 100000
namespace Silo
open Go Go.Eng
theorem beNat_le3 {l : List UInt8} (h : l.length ≤ 3) : beNat l < 16777216 := by
  have := beNat_lt l
  have : 256 ^ l.length ≤ 256 ^ 3 := Nat.pow_le_pow_right (by decide) h
  omega
theorem beNat_le4 {l : List UInt8} (h : l.length ≤ 4) : beNat l < 4294967296 := by
  have := beNat_lt l
  have : 256 ^ l.length ≤ 256 ^ 4 := Nat.pow_le_pow_right (by decide) h
  omega
end Silo
namespace Go.Eng
open Go Go.RowKit
theorem OwnC.fromOldQ {c : Nat → Nat} {w w' : World} {i n size : Nat} {e : TypeId} {u : Value} {xs : List Value} (hO : OldC w c w') (h : OwnC c w' i e size u n xs) (hi : i ≠ 0) : Own w' w.heap.size e size u n xs := by
  obtain ⟨hl, h1⟩ := h.own
  refine ⟨hl, ?_⟩
  rcases h1 with h1 | ⟨g, cap, cur, fz, rfl, hb, h2, h3, h4, h5, h6, h7, h8⟩
  · exact .inl h1
  · refine .inr ⟨g, cap, cur, fz, rfl, ?_, h2, h3, h4, h5, h6, h7, h8⟩
    rcases Nat.lt_or_ge g w.heap.size with hg | hg
    · have h9 := hO.col g hg
      rw [h.col g (rowOf_slice h8)] at h9
      exact (hi h9).elim
    · exact hg
end Go.Eng
namespace Go.Proofs.Ythlfolpcmcejkaa
open Go Go.Eng Go.RowKit Silo TryT

theorem number8_ok {w : World} (l : List UInt8) (hl : l.length ≤ 8) :
    Calls Try.prog 75 #[St l] w (Ret fun v' w' => Below w.heap.size w w' ∧ v' = U64 (beNat l)) := by
  refine enter (n := 18) (res := #[.tmp 2]) Try.func75 rfl rfl rfl rfl ?_
  refine cseq <| cg <| za rfl <| cnil <| cseq <| cseq <| cg <| zm rfl <| vq (Val.slen Try.underlying9 rfl) ?_
  refine zm rfl <| cnil <| cblock ?_
  refine WC.loop (σ := Nat) (fun k => [(0, St l), (2, U64 (beNat (l.take k))), (5, I l.length), (6, I k)]) (fun k w' => k ≤ l.length ∧ w' = w) (fun k => l.length - k) 0 subs ⟨by omega, rfl⟩ ?_
  rintro k wl ⟨hk, rfl⟩
  refine cseq <| cg <| vq (Val.lss rfl rfl) <| cnil <| cseq ?_
  refine WC.cond rfl (fun hc2 => ?_) (fun hc2 => ?_)
  ·try simp only [tstS] at hc2
   have hkl : k < l.length := by omega
   have hlt := beNat_lt (l.take k)
   have hlt2 : beNat (l.take k) < 72057594037927936 := by
     rw [take_len hk] at hlt
     have : 256 ^ k ≤ 256 ^ 7 := Nat.pow_le_pow_right (by decide) (by omega)
     omega
   refine cskip <| cseq <| cblock <| cseq <| cg <| zm rfl <| za rfl <| cnil <| cg ?_
   refine zm rfl <| vq (Val.shl8_u64 rfl rfl hlt2) <| zm rfl <| zm rfl <| vq (Val.sindex Try.underlying9 rfl rfl (by omega) (show l[((k : Nat) : Int).toNat]? = some l[k] by rw [Int.toNat_natCast]; exact List.getElem?_eq_getElem hkl)) <| vq (Val.convU8u64 Try.underlying5 Try.underlying94 rfl) <| vq (Val.or256_u64 rfl rfl hlt2 l[k].toNat_lt) <| za rfl <| cnil ?_
   refine cg <| vq (Val.addI rfl rfl side side) <| zm rfl <| cnil ?_
   have e1 : beNat (l.take (k + 1)) = beNat (l.take k) * 256 + l[k].toNat := by rw [List.take_succ_eq_append_getElem hkl, beNat_snoc]
   refine ⟨k + 1, ?_, ⟨hkl, rfl⟩, by omega⟩
   rw [e1]
   repeat (first | exact Sub.nil _ | refine Sub.cons rfl ?_ | refine Sub.consM rfl ?_)
  ·try simp only [tstS] at hc2
   refine WC.exit rfl ?_
   refine cseq <| cg <| zm rfl <| za rfl <| cnil ?_
   refine WC.ret1 rfl rfl ?_
   exact ⟨Below.refl _ _, by rw [List.take_of_length_le (by omega)]⟩

set_option maxHeartbeats 1000000 in
theorem ftaken_ok {w : World} {s : List UInt8} (hs : s.length ≤ 1073741824) : Calls Try.prog 70 #[St s] w (Ret fun v w' => Below w.heap.size w w' ∧ ∃ cs r' f1 f2, v = .tuple #[.agg cs.toArray, .agg #[I f1, I f2], .bool (takeF s).isSome] ∧ RecO w' w.heap.size cs r' ∧ ∀ r (k z : Nat), takeF s = some (r, k, z) → r' = r ∧ f1 = k ∧ f2 = z) := by
  obtain ⟨c, hO, hc⟩ := OldC.start w
  clear hc
  have hn3 := beNat_le3 (l := s.take 3) (by rw [List.length_take]; omega)
  have hk4 := beNat_le4 (l := (s.drop 3).take 4) (by rw [List.length_take]; omega)
  obtain ⟨n, hn⟩ : ∃ n, n = beNat (s.take 3) := ⟨_, rfl⟩
  obtain ⟨k, hkk⟩ : ∃ k, k = beNat ((s.drop 3).take 4) := ⟨_, rfl⟩
  rw [← hn] at hn3
  rw [← hkk] at hk4
  refine enter (n := 65) (res := #[.cell 2 31, .cell 3 86, .tmp 4]) Try.func70 rfl rfl rfl rfl ?_
  refine cseq <| cg ?_
  refine ve (Eff.allocC c 102 zero31) ?_
  rintro _ w1 ⟨b2, c1, rfl, hM1, hb2⟩
  replace hO := hO.mv hM1
  refine ve (Eff.allocC c1 103 zero86) ?_
  rintro _ w2 ⟨b3, c2, rfl, hM2, hb3⟩
  replace hO := hO.mv hM2; replace hb2 := hb2.mv hM2
  refine za rfl <| cnil <| cseq <| cseq <| cg <| zm rfl <| vq (Val.slen Try.underlying9 rfl) <| vq (Val.lss rfl rfl) <| cnil ?_
  refine WC.cond rfl (fun hc1 => ?_) (fun hc1 => ?_)
  ·try simp only [tstS] at hc1
   refine cseq ?_
   refine WC.regionD (Kp c2 w2 [102]) [2, 1, 2, 3, 0] [1, 0, 2, 3, 4] mixed (by kernel_rfl) ?_
   have hM3 := Mv.drew c2 w2 []
   have hCw := Mv.drew c2 w2 [102]
   generalize w2.drew = w3 at hM3 hCw ⊢
   have hb20 := hb2
   have hb30 := hb3
   replace hO := hO.mv hM3; replace hb2 := hb2.mv hM3; replace hb3 := hb3.mv hM3
   refine vc rfl hCw.kp (fun W hW => Val.loadBN agg86 rfl (hb30.kp hW rfl).blk rfl) ?_
   refine WD.eff rfl rfl rfl (Eff.val (Val.loadBN agg31 rfl hb2.blk rfl)) rfl ?_
   rintro _ _ ⟨rfl, rfl⟩
   refine ⟨id, ?_⟩
   refine WD.eff_ rfl rfl rfl (Eff.storeNC agg31 rfl rfl hb2 rfl rfl ones) ?_
   rintro _ w4 ⟨hS, hM4⟩
   refine ⟨fun hC => hC.step hCw hM4 rfl, ?_⟩
   replace hCw := hCw.tr hM4 rfl
   replace hO := hO.mv hM4; replace hb3 := hb3.mv hM4
   replace hb2 := hS
   refine WD.wild rfl rfl rfl (Eff.storeNC agg86 rfl rfl hb3 rfl rfl ones) ?_
   rintro _ w5 ⟨hS, hM5⟩
   try replace hCw := hCw.tr hM5 rfl
   replace hO := hO.mv hM5; replace hb2 := hb2.mv hM5
   replace hb3 := hS
   refine zda rfl rfl ?_
   refine WD.nil ?_
   clear hb20 hb30
   clear hCw
   refine WC.retR3 rfl (RVal.cellN agg31 rfl hb2.blk rfl) (RVal.cellN agg86 rfl hb3.blk rfl) (RVal.tmp rfl) ?_
   have e : takeF s = none := by rw [takeF, if_pos (by omega)]
   rw [e]
   exact ⟨hO.below, _, rec0 0, 0, 0, rfl, recO0 _ _, fun _ _ _ h => by cases h⟩
  ·try simp only [tstS] at hc1
   have h15 : 15 ≤ s.length := by omega
   refine cskip <| cseq <| cg <| zm rfl <| vq (Val.ssliceTo Try.underlying9 rfl rfl side side) ?_
   refine ve (Eff.pureC c2 1 (Eff.call pf75 rfl (number8_ok (s.take 3) (by rw [List.length_take]; omega)))) ?_
   rintro v14 w6 ⟨c6, hM6, hx6, rfl⟩
   replace hO := hO.mv hM6; replace hb2 := hb2.mv hM6; replace hb3 := hb3.mv hM6
   rw [← hn]
   refine vq (Val.convTo64 Try.underlying94 Try.underlying3 rfl (by omega) (by omega)) <| za rfl <| cnil <| cseq <| cseq ?_
   obtain ⟨x, hx⟩ : ∃ x, x = crc (s.take (7 + n)) := ⟨_, rfl⟩
   obtain ⟨y, hy⟩ : ∃ y, y = beNat ((s.drop (7 + n)).take 8) := ⟨_, rfl⟩
   refine WC.regionD (Kp c6 w6 []) [0, 0, 0, 0, 0, 0, 0, 0, 0, 0, 0, 0, 0, 0, 2, 0, 0, 0, 0, 2, 0, 0] [0, 1, 2, 3, 4, 5, 6, 7, 8, 9, 10, 11, 12, 13, 15, 16, 17, 18, 14, 19, 20, 21] mixed (by kernel_rfl) ?_
   have hM7 := Mv.drew c6 w6 []
   have hCw := Mv.drew c6 w6 []
   generalize w6.drew = w7 at hM7 hCw ⊢
   have hb20 := hb2
   have hb30 := hb3
   replace hO := hO.mv hM7; replace hb2 := hb2.mv hM7; replace hb3 := hb3.mv hM7
   refine zdm rfl rfl <| vd rfl (fun _ => Val.slen Try.underlying9 rfl) <| zdm rfl rfl <| vd rfl (fun _ => Val.addI rfl rfl side side) <| vd rfl (fun _ => Val.addI rfl rfl side side) <| vd rfl (fun _ => Val.lss rfl rfl) <| zdm rfl rfl ?_
   apply WD.sc false 14 (!decide ((y : Int) = (x : Int))) (fun w' => ∃ c', Acc c6 w7 [] c' w')
   case hl | hi | hk | hg | hu | hv | hs | hoff | hd => rfl
   case hC => exact hCw.kp
   case hF => exact fun _ => ⟨_, Acc.refl _ _ _⟩
   case hT =>
    intro hq21
    try simp only [tstS] at hq21
    simp only [List.take_succ_cons, List.take_zero]
    have hKsc21 := Acc.refl c6 w7 []
    refine zdm rfl rfl <| zdm rfl rfl <| vd rfl (fun _ => Val.addI rfl rfl side side) <| zdm rfl rfl <| vd rfl (fun _ => Val.addI rfl rfl side side) <| vd rfl (fun _ => Val.addI rfl rfl side side) <| vd rfl (fun _ => Val.sslice Try.underlying9 rfl rfl rfl (by omega) (by omega) (by omega)) ?_
    rw [show ((7 : Int) + (n : Int)).toNat = 7 + n by omega, show ((7 : Int) + (n : Int) + 8).toNat - (7 + n) = 8 by omega]
    refine zdm rfl rfl <| zdm rfl rfl <| vd rfl (fun _ => Val.addI rfl rfl side side) <| vd rfl (fun _ => Val.ssliceTo Try.underlying9 rfl rfl (by omega) (by omega)) ?_
    rw [show ((7 : Int) + (n : Int)).toNat = 7 + n by omega]
    refine WD.eff rfl rfl rfl (Eff.pureC c6 1 (Eff.call pf75 rfl (number8_ok ((s.drop (7 + n)).take 8) (by rw [List.length_take]; omega)))) rfl ?_
    rintro v30 w8 ⟨c8, hM8, hx8, rfl⟩
    refine ⟨fun hC => hC.step hCw hM8 rfl, ?_⟩
    replace hCw := hCw.tr hM8 rfl
    replace hO := hO.mv hM8; replace hb2 := hb2.mv hM8; replace hb3 := hb3.mv hM8; replace hKsc21 := hKsc21.mv hM8
    rw [← hy]
    refine WD.eff rfl rfl rfl (Eff.pureC c8 1 (Eff.call pf67 rfl (cof_ok (s := s.take (7 + n)) (by rw [List.length_take]; omega)))) rfl ?_
    rintro v35 w9 ⟨c9, hM9, hx9, rfl⟩
    refine ⟨fun hC => hC.step hCw hM9 rfl, ?_⟩
    replace hCw := hCw.tr hM9 rfl
    replace hO := hO.mv hM9; replace hb2 := hb2.mv hM9; replace hb3 := hb3.mv hM9; replace hKsc21 := hKsc21.mv hM9
    rw [← hx]
    refine vd rfl (fun _ => Val.neq rfl rfl) ?_
    exact WD.nil ⟨rfl, Sub.drop _ 14 _ rfl rfl, _, hKsc21⟩
   rintro w10 ⟨c10, ⟨hM10⟩⟩
   replace hCw := hCw.tr hM10 rfl
   replace hO := hO.mv hM10; replace hb2 := hb2.mv hM10; replace hb3 := hb3.mv hM10
   refine WD.nil ?_
   clear hb20 hb30
   clear hCw
   refine WC.cond rfl (fun hc4 => ?_) (fun hc4 => ?_)
   ·try simp only [tstS] at hc4
    refine cseq ?_
    refine WC.regionD (Kp c10 w10 [102]) [2, 1, 2, 3, 0] [1, 0, 2, 3, 4] mixed (by kernel_rfl) ?_
    have hM11 := Mv.drew c10 w10 []
    have hCw := Mv.drew c10 w10 [102]
    generalize w10.drew = w11 at hM11 hCw ⊢
    have hb20 := hb2
    have hb30 := hb3
    replace hO := hO.mv hM11; replace hb2 := hb2.mv hM11; replace hb3 := hb3.mv hM11
    refine vc rfl hCw.kp (fun W hW => Val.loadBN agg86 rfl (hb30.kp hW rfl).blk rfl) ?_
    refine WD.eff rfl rfl rfl (Eff.val (Val.loadBN agg31 rfl hb2.blk rfl)) rfl ?_
    rintro _ _ ⟨rfl, rfl⟩
    refine ⟨id, ?_⟩
    refine WD.eff_ rfl rfl rfl (Eff.storeNC agg31 rfl rfl hb2 rfl rfl ones) ?_
    rintro _ w12 ⟨hS, hM12⟩
    refine ⟨fun hC => hC.step hCw hM12 rfl, ?_⟩
    replace hCw := hCw.tr hM12 rfl
    replace hO := hO.mv hM12; replace hb3 := hb3.mv hM12
    replace hb2 := hS
    refine WD.wild rfl rfl rfl (Eff.storeNC agg86 rfl rfl hb3 rfl rfl ones) ?_
    rintro _ w13 ⟨hS, hM13⟩
    try replace hCw := hCw.tr hM13 rfl
    replace hO := hO.mv hM13; replace hb2 := hb2.mv hM13
    replace hb3 := hS
    refine zda rfl rfl ?_
    refine WD.nil ?_
    clear hb20 hb30
    clear hCw
    refine WC.retR3 rfl (RVal.cellN agg31 rfl hb2.blk rfl) (RVal.cellN agg86 rfl hb3.blk rfl) (RVal.tmp rfl) ?_
    have e : takeF s = none := by
      rw [takeF, if_neg (by omega)]
      by_cases h1 : s.length < 15 + beNat (s.take 3)
      · rw [if_pos h1]
      · rw [if_neg h1, if_neg]
        rw [← hn] at h1 ⊢
        rw [← hx, ← hy]
        intro h2
        simp [h2] at hc4
        omega
    rw [e]
    exact ⟨hO.below, _, rec0 0, 0, 0, rfl, recO0 _ _, fun _ _ _ h => by cases h⟩
   ·try simp only [tstS] at hc4
    have hzl : 15 + n ≤ s.length := by simp at hc4; omega
    have hxy : y = x := by simp at hc4; omega
    clear hc4
    refine cskip <| cseq <| cg <| zm rfl <| vq (Val.sslice Try.underlying9 rfl rfl rfl (by omega) (by omega) (by omega)) ?_
    rw [show (7 : Int).toNat - (3 : Int).toNat = 4 from rfl, show (3 : Int).toNat = 3 from rfl]
    refine ve (Eff.pureC c10 1 (Eff.call pf75 rfl (number8_ok ((s.drop 3).take 4) (by rw [List.length_take]; omega)))) ?_
    rintro v42 w14 ⟨c14, hM14, hx14, rfl⟩
    replace hO := hO.mv hM14; replace hb2 := hb2.mv hM14; replace hb3 := hb3.mv hM14
    rw [← hkk]
    refine vq (Val.convTo64 Try.underlying94 Try.underlying3 rfl (by omega) (by omega)) <| zm rfl <| vq (Val.addI rfl rfl side side) <| vq (Val.addI rfl rfl side side) <| vq (Val.build (cells := #[I k, I ((7 : Int) + (n : Int) + 8)]) rfl (by kernel_rfl)) ?_
    refine WR.eff_ (Eff.storeNC agg86 rfl rfl hb3 rfl rfl ones) ?_
    rintro _ w15 ⟨hS, hM15⟩
    replace hO := hO.mv hM15; replace hb2 := hb2.mv hM15
    replace hb3 := hS
    refine cnil <| cseq <| cg <| zm rfl <| zm rfl <| vq (Val.addI rfl rfl side side) <| vq (Val.sslice Try.underlying9 rfl rfl rfl (by omega) (by omega) (by omega)) ?_
    rw [show ((7 : Int) + (n : Int)).toNat - (7 : Int).toNat = n by omega, show (7 : Int).toNat = 7 from rfl]
    refine ve (Eff.pureC c14 5 (Eff.call pf23 rfl (take_own ((s.drop 7).take n) (by rw [List.length_take, List.length_drop]; omega)))) ?_
    rintro v53 w16 ⟨c16, hM16, hx16, ⟨cs, rfl, vl, vs, rfl, ol, os, ok1, ok2, ok3, ok4, ok5⟩⟩
    replace hO := hO.mv hM16; replace hb2 := hb2.mv hM16; replace hb3 := hb3.mv hM16
    replace ol := ol.toC hx16
    replace os := os.toC hx16
    have p1 := ol.oneC; have p2 := os.oneC
    rw [takeSpec_same] at ol os ok1 ok2 ok3 ok4 ok5 ⊢
    have hf : takeF s = match takeSpec plain ((s.drop 7).take n) with | none => none | some r => if k ≤ 1073741824 then some (r, k, 15 + n) else none := by
      rw [takeF, if_neg (by omega), ← hn, if_neg (by omega), ← hx, ← hy, if_pos hxy, ← hkk]
      cases takeSpec plain ((s.drop 7).take n) <;> rfl
    generalize takeSpec plain ((s.drop 7).take n) = T at ol os ok1 ok2 ok3 ok4 ok5 hf ⊢
    refine zm rfl <| vq (Val.extract rfl rfl) <| vq (Val.extract rfl rfl) ?_
    refine WR.eff_ (Eff.storeNC agg31 rfl rfl hb2 rfl rfl ones) ?_
    rintro _ w17 ⟨hS, hM17⟩
    replace hO := hO.mv hM17; replace hb3 := hb3.mv hM17; replace ol := ol.mv hM17; replace os := os.mv hM17
    replace hb2 := hS
    refine za rfl <| cnil <| cseq ?_
    obtain ⟨q, hq⟩ : ∃ q, q = T.getD (rec0 0) := ⟨_, rfl⟩
    rw [← hq] at hb2 ol os ok1 ok2 ok3 ok4 ok5 ⊢
    have hM18 := Mv.drew c16 w17 []
    refine WC.regionD (fun W => Blk W b2 [I q.kind, I q.id, St q.name, St q.digest, vl, vs] 31 ∧ Blk W b3 [I k, I ((7 : Int) + (n : Int) + 8)] 86) [1, 1, 0, 0, 0, 0, 1, 2, 0, 2, 3, 0] [0, 1, 2, 3, 4, 5, 6, 7, 8, 9, 10, 11] mixed (by kernel_rfl) ?_
    replace hO := hO.mv hM18; replace hb2 := hb2.mv hM18; replace hb3 := hb3.mv hM18; replace ol := ol.mv hM18; replace os := os.mv hM18
    generalize w17.drew = w18 at hM18 hO hb2 hb3 ol os ⊢
    refine vc rfl ⟨hb2.blk, hb3.blk⟩ (fun W hW => Val.loadBN agg31 rfl hW.1 rfl) ?_
    refine vc rfl ⟨hb2.blk, hb3.blk⟩ (fun W hW => Val.loadBN agg86 rfl hW.2 rfl) ?_
    refine zdm rfl rfl ?_
    refine vd rfl (fun _ => Val.eql rfl rfl) ?_
    refine zdm rfl rfl ?_
    apply WD.sc true 3 (numB (k : Int)) (fun w' => ∃ c', Acc c16 w18 [] c' w')
    case hl | hi | hk | hg | hu | hv | hs | hoff | hd => rfl
    case hC => exact ⟨hb2.blk, hb3.blk⟩
    case hF => exact fun _ => ⟨_, Acc.refl _ _ _⟩
    case hT =>
      intro hq8
      simp only [List.take_succ_cons, List.take_zero]
      have hA := Acc.refl c16 w18 []
      refine vd rfl (fun _ => Val.fieldAddr fld86_0 rfl) ?_
      refine vc rfl ⟨hb2.blk, hb3.blk⟩ (fun W hW => Val.loadB scl3 rfl hW.2 rfl) ?_
      refine WD.eff rfl rfl rfl (Eff.pureC c16 1 (Eff.call pf54 rfl (rnumber_ok (k : Int)))) rfl ?_
      rintro v63 w19 ⟨c19, hM19, hx19, rfl⟩
      refine ⟨fun _ => ⟨(hb2.mv hM19).blk, (hb3.mv hM19).blk⟩, ?_⟩
      exact WD.nil ⟨rfl, Sub.drop _ 3 _ rfl rfl, _, hA.mv hM19⟩
    rintro w20 ⟨c20, ⟨hM20⟩⟩
    replace hO := hO.mv hM20; replace hb2 := hb2.mv hM20; replace hb3 := hb3.mv hM20; replace ol := ol.mv hM20; replace os := os.mv hM20
    refine WD.eff_ rfl rfl rfl (Eff.storeNC agg31 rfl rfl hb2 rfl rfl ones) ?_
    rintro _ w21 ⟨hS, hM21⟩
    replace hO := hO.mv hM21; replace hb3 := hb3.mv hM21; replace ol := ol.mv hM21; replace os := os.mv hM21
    replace hb2 := hS
    refine ⟨fun _ => ⟨hb2.blk, hb3.blk⟩, ?_⟩
    refine WD.wild rfl rfl rfl (Eff.storeNC agg86 rfl rfl hb3 rfl rfl ones) ?_
    rintro _ w22 ⟨hS3, hM22⟩
    replace hO := hO.mv hM22; replace hb2 := hb2.mv hM22; replace ol := ol.mv hM22; replace os := os.mv hM22
    replace hb3 := hS3
    refine zda rfl rfl ?_
    refine WD.nil ?_
    refine WC.retR3 rfl (RVal.cellN agg31 rfl hb2.blk rfl) (RVal.cellN agg86 rfl hb3.blk rfl) (RVal.tmp rfl) ?_
    have hnb : numB (k : Int) = decide (k ≤ 1073741824) := by
      unfold numB
      rw [Bool.eq_iff_iff, Bool.and_eq_true, decide_eq_true_eq, decide_eq_true_eq, decide_eq_true_eq]; omega
    have hv : (takeF s).isSome = (T.isSome && decide (k ≤ 1073741824)) := by
      rw [hf]
      cases T with
      | none => rfl
      | some r => dsimp only; by_cases h : k ≤ 1073741824 <;> simp [h]
    rw [hv]
    refine ⟨hO.below, _, q, (k : Int), (7 : Int) + (n : Int) + 8, ?_, ⟨vl, vs, rfl, ol.fromOldQ hO (by decide), os.fromOldQ hO (by decide), ok1, ok2, ok3, ok4, ok5⟩, ?_⟩
    · rw [hnb]
      cases T <;> rfl
    · intro r k' z h
      rw [hf] at h
      cases T with
      | none => cases h
      | some r' =>
        dsimp only at h
        split at h
        · simp only [Option.some.injEq, Prod.mk.injEq] at h
          obtain ⟨rfl, rfl, rfl⟩ := h
          exact ⟨hq, rfl, by omega⟩
        · cases h
end Go.Proofs.Ythlfolpcmcejkaa
