/- Frames: how both sides spell one. No condition. -/
import Derived.Test.YthlfolpcmcejkaaFrPlain
import Derived.Test.YthlfolpcmcejkaaCrc1
import Derived.Test.YthlfolpcmcejkaaRec7
import Derived.Test.YthlfolpcmcejkaaTail
set_option linter.unusedSimpArgs false
set_option linter.unusedVariables false
set_option maxRecDepth 100000
namespace Silo
open Go Go.Eng
def frameS (r : Rec) (n : Int) : List UInt8 := frameH r n ++ be 8 (crc (frameH r n) : Nat)
theorem bytes_len {r : Rec} (h : mayB r = true) : 1 ≤ (bytesOf r).length ∧ (bytesOf r).length ≤ 9000 := by
  obtain ⟨_, _, s1, s2, s3, s4, _⟩ := may_small h
  have h1 := A1_len r
  have h0 : 1 ≤ (A1 r).length := by simp [A1, be_length]
  have h2 : (bN r).length ≤ 41 := by unfold bN; split <;> simp [be_length]; omega
  have h3 : (bL r).length ≤ 8004 := by unfold bL; split <;> simp only [List.length_append, be_length, flat4_len, List.length_nil] <;> omega
  have h4 : (bS r).length ≤ 113 := by unfold bS; split <;> simp only [List.length_append, be_length, flat44_len, List.length_nil] <;> omega
  simp only [bytesOf, A4, A3, A2, List.length_append]
  omega
theorem frameH_len (r : Rec) (n : Int) : (frameH r n).length = 7 + (bytesOf r).length := by simp [frameH, be_length]; omega
theorem frameS_len (r : Rec) (n : Int) : (frameS r n).length = 15 + (bytesOf r).length := by simp [frameS, frameH_len, be_length]; omega
end Silo
namespace Go.Proofs.Ythlfolpcmcejkaa
open Go Go.Eng Go.RowKit Silo TryT

theorem qframe_ok {w : World} {cs : List Value} {r : Rec} {n : Int} (h : RdRec w cs r) (hm : mayB r = true) : Calls Try.prog 31 #[.agg cs.toArray, I n] w (Ret fun v w' => Below w.heap.size w w' ∧ v = St (frameS r n)) := by
  obtain ⟨vl, vs, rfl, hl, hs, hq⟩ := h
  have hK : Old w w := Old.refl w
  have o1 := hl.oneC
  have o2 := hs.oneC
  have hbl := bytes_len hm
  have hhl := frameH_len r n
  obtain ⟨k1, k8, _⟩ := may_small hm
  refine enter (n := 21) (res := #[.tmp 4]) Try.func31 rfl rfl rfl rfl ?_
  refine cseq <| cg ?_
  refine ve (Eff.box rfl) ?_
  rintro _ w1 ⟨b2, rfl, hn2⟩
  have hk1 := hn2.below
  replace hl := hl.up hk1; replace hs := hs.up hk1; replace hK := hK.up hk1
  have hb2 := hn2.blk
  refine za rfl <| cnil <| cseq <| cg <| vq (Val.loadBN agg31 rfl hb2 rfl) ?_
  refine ve (Eff.call pf19 rfl (bytes_ok (r := r) (cs := [I r.kind, I r.id, St r.name, St r.digest, vl, vs]) ⟨vl, vs, rfl, hl, hs, hq⟩ ⟨k1, k8⟩)) ?_
  rintro v8 w2 ⟨hk2, rfl⟩
  replace hl := hl.up hk2; replace hs := hs.up hk2; replace hK := hK.up hk2; replace hb2 := hb2.up hk2
  refine za rfl <| cnil <| cseq <| cg <| zm rfl <| vq (Val.slen Try.underlying9 rfl) ?_
  refine ve (Eff.call pf46 rfl (high_ok ((bytesOf r).length : Nat) 3 (by decide))) ?_
  rintro v11 w3 ⟨hk3, rfl⟩
  replace hl := hl.up hk3; replace hs := hs.up hk3; replace hK := hK.up hk3; replace hb2 := hb2.up hk3
  refine zm rfl ?_
  refine ve (Eff.call pf47 rfl (number4_ok n)) ?_
  rintro v13 w4 ⟨hk4, rfl⟩
  replace hl := hl.up hk4; replace hs := hs.up hk4; replace hK := hK.up hk4; replace hb2 := hb2.up hk4
  refine vq (Val.sadd rfl rfl (by simp [be_length])) <| zm rfl <| vq (Val.sadd rfl rfl (by simp [be_length]; omega)) <| za rfl <| cnil <| cseq ?_
  rw [show be 3 ((bytesOf r).length : Nat) ++ be 4 n ++ bytesOf r = frameH r n from rfl]
  refine cg <| zm rfl <| zm rfl ?_
  refine ve (Eff.call pf56 rfl (ssum_ok (s := frameH r n) (by omega))) ?_
  rintro v19 w5 ⟨hk5, rfl⟩
  replace hl := hl.up hk5; replace hs := hs.up hk5; replace hK := hK.up hk5; replace hb2 := hb2.up hk5
  refine vq (Val.sadd rfl rfl (by simp [be_length]; omega)) <| za rfl <| cnil ?_
  refine WC.ret1 rfl rfl ?_
  exact ⟨hK, rfl⟩

theorem put_c {c : Nat → Nat} {w : World} {i m : Nat} {v : Value} {l : List UInt8} (ho : OwnC c w i 5 1 v m (bytesV l)) (n size : Int) (h0 : 0 ≤ size) (h8 : size ≤ 8) (hm : m ≤ 1099511627776) :
    Calls Try.prog 66 #[v, .int .u64 n, I size] w (Ret fun v' w' => ∃ c', Mv c w c' w' [i] ∧ OwnC c' w' i 5 1 v' (m + size.toNat) (bytesV (l ++ be size.toNat n))) := by
  refine (put_g ho.own (Nat.zero_le _) n size h0 h8 hm).mono fun e w' he => ?_
  obtain ⟨v', rfl, hk, ho'⟩ := he
  obtain ⟨c', hm', hx⟩ := Mv.grown c i hk.grown ho.col
  refine ⟨_, rfl, c', hm', ho', fun k hk' => ?_⟩
  rcases hk.at_ with e | ⟨j, e, hj⟩
  · rw [e] at hk'
    rw [hm'.col k (ho.own.lt k hk').2]
    exact ho.col k hk'
  · rw [e] at hk'
    cases hk'
    exact hx _ hj
theorem rput_c {c : Nat → Nat} {w : World} {i m : Nat} {v : Value} {l : List UInt8} (ho : OwnC c w i 5 1 v m (bytesV l)) (n : Int) (hm : m ≤ 1099511627776) :
    Calls Try.prog 63 #[v, I n] w (Ret fun v' w' => ∃ c', Mv c w c' w' [i] ∧ OwnC c' w' i 5 1 v' (m + 4) (bytesV (l ++ be 4 n))) := by
  refine (rput_g ho.own (Nat.zero_le _) n hm).mono fun e w' he => ?_
  obtain ⟨v', rfl, hk, ho'⟩ := he
  obtain ⟨c', hm', hx⟩ := Mv.grown c i hk.grown ho.col
  refine ⟨_, rfl, c', hm', ho', fun k hk' => ?_⟩
  rcases hk.at_ with e | ⟨j, e, hj⟩
  · rw [e] at hk'
    rw [hm'.col k (ho.own.lt k hk').2]
    exact ho.col k hk'
  · rw [e] at hk'
    cases hk'
    exact hx _ hj

theorem framed_ok {w : World} {cs : List Value} {r : Rec} {n : Int} (h : RdRec w cs r) (hm : mayB r = true) : Calls Try.prog 55 #[.agg cs.toArray, I n] w (Ret fun v w' => Below w.heap.size w w' ∧ v = St (frameS r n)) := by
  obtain ⟨vl, vs, rfl, hl, hs, hq⟩ := h
  have o1 := hl.oneC
  have o2 := hs.oneC
  have hbl := bytes_len hm
  have hhl := frameH_len r n
  obtain ⟨_, _, s1, s2, s3, s4, s5, s6⟩ := may_small hm
  obtain ⟨c, hO, hc⟩ := OldC.start w
  replace hl : RdC intS c w [0] vl r.list := Rd.toC hl (fun k hk => by simp [hc, hasC])
  replace hs : RdC slotS c w [0] vs r.slots := Rd.toC hs (fun k hk => by simp [hc, hasC])
  clear hc
  refine enter (n := 23) (res := #[.tmp 4]) Try.func55 rfl rfl rfl rfl ?_
  refine cseq <| cg ?_
  refine ve (Eff.boxC c 102 rfl) ?_
  rintro _ w1 ⟨b2, c1, rfl, hM1, hb2⟩
  replace hO := hO.mv hM1; replace hl := hl.mv hM1; replace hs := hs.mv hM1
  refine za rfl <| cnil <| cseq <| cg <| vq (Val.loadBN agg31 rfl hb2.blk rfl) ?_
  refine ve (Eff.pureC c1 1 (Eff.call pf45 rfl (spelt_ok (r := r) (cs := [I r.kind, I r.id, St r.name, St r.digest, vl, vs]) ⟨vl, vs, rfl, hl.now, hs.now, hq⟩ (by omega) (by omega) (by omega) (by omega) s5 s6))) ?_
  rintro v8 w2 ⟨c2, hM2, hx2, rfl⟩
  replace hO := hO.mv hM2; replace hl := hl.mv hM2; replace hs := hs.mv hM2; replace hb2 := hb2.mv hM2
  refine za rfl <| cnil <| cseq <| cg <| zm rfl <| vq (Val.slen Try.underlying9 rfl) <| vq (Val.convToU64 Try.underlying3 Try.underlying94 rfl (by omega) (by omega)) ?_
  refine ve (Eff.call pf66 rfl (put_c (i := 9) (l := []) (OwnC.nil c2 w2 9 5 1) ((bytesOf r).length : Nat) 3 (by decide) (by decide) (by decide))) ?_
  rintro v12 w3 ⟨c3, hM3, ho⟩
  replace hO := hO.mv hM3; replace hl := hl.mv hM3; replace hs := hs.mv hM3; replace hb2 := hb2.mv hM3
  refine zm rfl ?_
  refine ve (Eff.call pf63 rfl (rput_c ho n (by simp))) ?_
  rintro v14 w4 ⟨c4, hM4, ho⟩
  replace hO := hO.mv hM4; replace hl := hl.mv hM4; replace hs := hs.mv hM4; replace hb2 := hb2.mv hM4
  refine zm rfl ?_
  refine ve (Eff.appendC sl38 rfl rfl ho (Src.str Try.underlying9) mxl oms) ?_
  rintro v16 w5 ⟨c5, hM5, hOq⟩
  replace hO := hO.mv hM5; replace hl := hl.mv hM5; replace hs := hs.mv hM5; replace hb2 := hb2.mv hM5
  replace ho := hOq
  rw [show ((bytesOf r).map fun b => Value.int .u8 b.toNat) = bytesV (bytesOf r) from rfl, ← bytesV_append] at ho
  rw [show [] ++ be (3 : Int).toNat ((bytesOf r).length : Nat) ++ be 4 n ++ bytesOf r = frameH r n from rfl] at ho
  refine za rfl <| cnil <| cseq <| cg <| zm rfl <| zm rfl <| vq (Val.ofBytes Try.underlying38 Try.underlying9 Try.underlying5 rfl ho.own) ?_
  refine ve (Eff.pureC c5 1 (Eff.call pf67 rfl (cof_ok (s := frameH r n) (by omega)))) ?_
  rintro v20 w6 ⟨c6, hM6, hx6, rfl⟩
  replace hO := hO.mv hM6; replace hl := hl.mv hM6; replace hs := hs.mv hM6; replace hb2 := hb2.mv hM6; replace ho := ho.mv hM6
  refine ve (Eff.call pf66 rfl (put_c ho (crc (frameH r n) : Nat) 8 (by decide) (by decide) (by simp; omega))) ?_
  rintro v21 w7 ⟨c7, hM7, ho⟩
  replace hO := hO.mv hM7; replace hl := hl.mv hM7; replace hs := hs.mv hM7; replace hb2 := hb2.mv hM7
  refine vq (Val.ofBytes Try.underlying38 Try.underlying9 Try.underlying5 rfl ho.own) <| za rfl <| cnil ?_
  refine WC.ret1 rfl rfl ?_
  exact ⟨hO.below, rfl⟩

theorem rnumber_ok {w : World} (n : Int) : Calls Try.prog 54 #[I n] w (Ret fun v w' => Below w.heap.size w w' ∧ v = .bool (numB n)) := by
  have hK : Old w w := Old.refl w
  refine enter (n := 9) (res := #[.tmp 2]) Try.func54 rfl rfl rfl rfl ?_
  refine cseq <| cg <| za rfl <| cnil <| cseq <| cg <| zm rfl <| vq (Val.geq rfl rfl) <| zm rfl ?_
  apply WR.sc true 2 _ (fun w' => w = w')
  case hl | hg | hu | hv | hs | hoff | hd => rfl
  case hF => exact fun _ => rfl
  case hT =>
   intro hq5
   try simp only [tstS] at hq5
   simp only [List.take_succ_cons, List.take_zero]
   refine WR.on rfl rfl ?_
   refine zm rfl ?_
   refine WR.on rfl rfl ?_
   refine vq (Val.leq rfl rfl) ?_
   exact WR.nil ⟨rfl, Sub.drop _ 2 _ rfl rfl, rfl⟩
  rintro _ rfl
  refine za rfl <| cnil ?_
  refine WC.ret1 rfl rfl ?_
  exact ⟨hK, rfl⟩
theorem rframe_ok {w : World} {cs : List Value} {r : Rec} {n : Int} (h : RdRec w cs r) : Calls Try.prog 29 #[.agg cs.toArray, I n] w (Ret fun v w' => Below w.heap.size w w' ∧ v = .tuple #[St (if mayB r && numB n then frameS r n else []), I (if mayB r && numB n then 0 else 1)]) := by
  obtain ⟨vl, vs, rfl, hl, hs, hq⟩ := h
  have hK : Old w w := Old.refl w
  have o1 := hl.oneC
  have o2 := hs.oneC
  refine enter (n := 17) (res := #[.tmp 4, .tmp 5]) Try.func29 rfl rfl rfl rfl ?_
  refine cseq <| cg ?_
  refine ve (Eff.box rfl) ?_
  rintro _ w1 ⟨b2, rfl, hn2⟩
  have hk1 := hn2.below
  replace hl := hl.up hk1; replace hs := hs.up hk1; replace hK := hK.up hk1
  have hb2 := hn2.blk
  refine za rfl <| za rfl <| cnil <| cseq <| cseq <| cg <| vq (Val.loadBN agg31 rfl hb2 rfl) ?_
  refine ve (Eff.call pf44 rfl (may_ok (r := r) (cs := [I r.kind, I r.id, St r.name, St r.digest, vl, vs]) ⟨vl, vs, rfl, hl, hs, hq⟩)) ?_
  rintro v7 w2 ⟨hk2, rfl⟩
  replace hl := hl.up hk2; replace hs := hs.up hk2; replace hK := hK.up hk2; replace hb2 := hb2.up hk2
  refine vq (Val.not rfl) <| zm rfl ?_
  apply WR.sc false 3 (!numB n) (fun w' => Below w2.heap.size w2 w')
  case hl | hg | hu | hv | hs | hoff | hd => rfl
  case hF => exact fun _ => Below.refl _ _
  case hT =>
   intro hq7
   try simp only [tstS] at hq7
   simp only [List.take_succ_cons, List.take_zero]
   have hKsc7 : Old w2 w2 := Old.refl _
   refine WR.on rfl rfl ?_
   refine zm rfl ?_
   refine WR.on rfl rfl ?_
   refine ve (Eff.call pf54 rfl (rnumber_ok n)) ?_
   rintro v11 w3 ⟨hk3, rfl⟩
   replace hl := hl.up hk3; replace hs := hs.up hk3; replace hK := hK.up hk3; replace hb2 := hb2.up hk3; replace hKsc7 := hKsc7.up hk3
   refine WR.on rfl rfl ?_
   refine vq (Val.not rfl) ?_
   exact WR.nil ⟨rfl, Sub.drop _ 3 _ rfl rfl, hKsc7⟩
  intro w4 hk4
  replace hl := hl.up hk4; replace hs := hs.up hk4; replace hK := hK.up hk4; replace hb2 := hb2.up hk4
  refine cnil ?_
  refine WC.cond rfl (fun hc1 => ?_) (fun hc1 => ?_)
  ·try simp only [tstS] at hc1
   refine cseq <| cg <| za rfl <| za rfl <| cnil ?_
   refine WC.ret2 rfl rfl rfl ?_
   have e : (mayB r && numB n) = false := by
     cases h1 : mayB r <;> cases h2 : numB n <;> simp [h1, h2] at hc1 ⊢
   exact ⟨hK, by rw [e]; rfl⟩
  ·try simp only [tstS] at hc1
   refine cskip <| cseq ?_
   have e : (mayB r && numB n) = true := by
     cases h1 : mayB r <;> cases h2 : numB n <;> simp [h1, h2] at hc1 ⊢
   have hm : mayB r = true := by rw [Bool.and_eq_true] at e; exact e.1
   refine cg <| vq (Val.loadBN agg31 rfl hb2 rfl) <| zm rfl ?_
   refine ve (Eff.call pf55 rfl (framed_ok (r := r) (cs := [I r.kind, I r.id, St r.name, St r.digest, vl, vs]) ⟨vl, vs, rfl, hl, hs, hq⟩ hm)) ?_
   rintro v16 w5 ⟨hk5, rfl⟩
   replace hl := hl.up hk5; replace hs := hs.up hk5; replace hK := hK.up hk5; replace hb2 := hb2.up hk5
   refine za rfl <| za rfl <| cnil ?_
   refine WC.ret2 rfl rfl rfl ?_
   exact ⟨hK, by rw [e]; rfl⟩
end Go.Proofs.Ythlfolpcmcejkaa
