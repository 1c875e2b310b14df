/- The disks' law: weights, sectors, what wakes. No condition. -/
import Derived.Test.YtjddnaefmikccaaAl0
set_option linter.unusedSimpArgs false
set_option linter.unusedVariables false
set_option maxRecDepth 100000
namespace Silo
open Go.Eng
def sectorT (t : Txt) : Txt := (t ++ List.replicate 64 0).take 64
theorem sectorT_len (t : Txt) : (sectorT t).length = 64 := by simp [sectorT]
end Silo
namespace Go.Proofs.Ytjddnaefmikccaa
open Go Go.Eng Go.RowKit Silo TryT

theorem num10_ok {w : World} (n : Int) : Calls Try.prog 10 #[I n] w (Ret fun v w' => Below w.heap.size w w' ∧ v = I n) := by
  refine enter (n := 4) (res := #[.tmp 2]) Try.func10 rfl rfl rfl rfl ?_
  refine cseq <| cg <| za rfl <| cnil <| cseq <| cg <| zm rfl <| za rfl <| cnil ?_
  refine WC.ret1 rfl rfl ?_
  exact ⟨Below.refl _ _, rfl⟩

theorem sector_ok {w : World} {t : Txt} (ht : t.length ≤ 1099511627776) : Calls Try.prog 11 #[St t] w (Ret fun v w' => Below w.heap.size w w' ∧ v = St (sectorT t)) := by
  obtain ⟨c, hO, hc⟩ := OldC.start w
  clear hc
  refine enter (n := 9) (res := #[.tmp 2]) Try.func11 rfl rfl rfl rfl ?_
  refine cseq <| cg <| za rfl <| cnil <| cseq <| cg <| zm rfl ?_
  refine ve (Eff.makeC c 104 sl64 rfl rfl side side side) ?_
  rintro v4 w1 ⟨c1, hM1, ho4⟩
  replace hO := hO.mv hM1
  rw [show (64 : Int).toNat = 64 from rfl, bytesV_zero] at ho4
  refine vq (Val.ofBytes Try.underlying64 Try.underlying9 Try.underlying5 rfl ho4.own) <| vq (Val.sadd rfl rfl (by simp; omega)) <| za rfl <| cnil <| cseq <| cg <| zm rfl <| vq (Val.ssliceTo Try.underlying9 rfl rfl (by omega) (by simp; omega)) <| za rfl ?_
  refine cnil ?_
  refine WC.ret1 rfl rfl ?_
  exact ⟨hO.below, rfl⟩

set_option maxHeartbeats 1000000 in
theorem heavy10_ok {w : World} {disks sectors : Int} {vL : Value} {L : List Act10} (h0 : Rd actS w vL L) : Calls Try.prog 8 #[.agg #[I disks, I sectors, vL]] w (Ret fun v w' => Below w.heap.size w w' ∧ ∃ b, v = .bool b ∧ (b = false → L.length + (L.map actW).sum ≤ 5000)) := by
  obtain ⟨c, hO, hc⟩ := OldC.start w
  have hL : RdC actS c w [0] vL L := Rd.toC h0 (fun k hk => by simp [hc, hasC])
  have hlen := h0.small
  have q1 := h0.oneC
  clear hc h0
  refine enter (n := 38) (res := #[.tmp 2]) Try.func8 rfl rfl rfl rfl ?_
  refine cseq <| cg ?_
  refine ve (Eff.boxC c 101 rfl) ?_
  rintro _ w1 ⟨b1, c1, rfl, hM1, hb1⟩
  replace hO := hO.mv hM1; replace hL := hL.mv hM1
  refine za rfl <| cnil <| cseq <| cg <| vq (Val.fieldAddr fld24_2 rfl) <| vq (Val.loadB scl22 rfl hb1.blk rfl) <| vq (Val.rdlen sl22 hL.now rfl) <| za rfl <| cnil ?_
  refine cseq <| cseq <| cg <| za rfl <| cnil <| cblock ?_
  refine WC.loop (σ := Nat) (fun i => [(1, .pointer (some ⟨b1, 0, none⟩)), (3, I (L.length + ((L.take i).map actW).sum : Nat)), (4, I i)]) (fun i w' => i ≤ L.length ∧ ∃ c', OldC w c' w' ∧ RdC actS c' w' [0] vL L ∧ BlkC c' w' 101 b1 [I disks, I sectors, vL] 24) (fun i => L.length - i) 0 subs ⟨by omega, _, hO, hL, hb1⟩ ?_
  clear hO hL hb1
  rintro i wl ⟨hi, cl, hO, hL, hb1⟩
  refine cseq <| cseq <| cg <| zm rfl <| vq (Val.fieldAddr fld24_2 rfl) <| vq (Val.loadB scl22 rfl hb1.blk rfl) <| vq (Val.rdlen sl22 hL.now rfl) <| vq (Val.lss rfl rfl) <| zm rfl ?_
  apply WR.sc true 2 _ (fun w' => wl = w')
  case hl | hg | hu | hv | hs | hoff | hd => rfl
  case hF => exact fun _ => rfl
  case hT =>
   intro hq8
   try simp only [tstS] at hq8
   simp only [List.take_succ_cons, List.take_zero]
   refine WR.on rfl rfl ?_
   refine zm rfl ?_
   refine WR.on rfl rfl ?_
   refine vq (Val.lss rfl rfl) ?_
   exact WR.nil ⟨rfl, Sub.drop _ 2 _ rfl rfl, rfl⟩
  rintro _ rfl
  refine cnil ?_
  refine WC.cond rfl (fun hc3 => ?_) (fun hc3 => ?_)
  ·try simp only [tstS] at hc3
   have hi' : i < L.length := by omega
   obtain ⟨n, hn⟩ : ∃ n, n = L.length + ((L.take i).map actW).sum := ⟨_, rfl⟩
   have hn2 : L.length + ((L.take (i + 1)).map actW).sum = n + L[i].t.length + L[i].l.length := by rw [Silo.sum_take_succ actW hi', hn]; simp only [actW]; omega
   rw [← hn] at hc3 ⊢
   obtain ⟨cs, hc23, _, hf⟩ := RdC.el hL hi' (by decide)
   obtain ⟨vl, rfl, hl, hok⟩ := hf.now
   have z1 := hl.small; have z2 := hok.2
   have hc31 := hc23
   refine cskip <| cseq <| cblock ?_
   refine WC.regionD (Kp cl wl []) [0, 0, 1, 0, 0, 0, 1, 0, 0, 0, 1, 0, 0, 0, 1, 0, 0, 0] [0, 1, 2, 3, 4, 5, 6, 7, 8, 9, 10, 11, 12, 13, 14, 15, 16, 17] mixed (by kernel_rfl) ?_
   have hM2 := Mv.drew cl wl []
   have hCw := Mv.drew cl wl []
   generalize wl.drew = w2 at hM2 hCw ⊢
   have hb10 := hb1
   have hc230 := hc23
   have hc310 := hc31
   replace hO := hO.mv hM2; replace hL := hL.mv hM2; replace hb1 := hb1.mv hM2; replace hc23 := hc23.mv hM2; replace hc31 := hc31.mv hM2
   refine zdm rfl rfl <| vd rfl (fun _ => Val.fieldAddr fld24_2 rfl) <| vc rfl hCw.kp (fun W hW => Val.loadB scl22 rfl (hb10.kp hW rfl).blk rfl) <| zdm rfl rfl <| vd rfl (fun _ => Val.indexAddr sl22 hL.now rfl rfl rfl (by omega) (by omega)) <| vd rfl (fun _ => Val.fieldAddrP fld34_4 rfl) <| vc rfl hCw.kp (fun W hW => Val.loadEf scl9 rfl (hc230.kp hW rfl).cel rfl) <| vd rfl (fun _ => Val.slen Try.underlying9 rfl) <| vd rfl (fun _ => Val.addI rfl rfl side side) ?_
   refine vd rfl (fun _ => Val.fieldAddr fld24_2 rfl) <| vc rfl hCw.kp (fun W hW => Val.loadB scl22 rfl (hb10.kp hW rfl).blk rfl) <| zdm rfl rfl <| vd rfl (fun _ => Val.indexAddr sl22 hL.now rfl rfl rfl (by omega) (by omega)) <| vd rfl (fun _ => Val.fieldAddrP fld34_5 rfl) <| vc rfl hCw.kp (fun W hW => Val.loadEf scl32 rfl (hc310.kp hW rfl).cel rfl) <| vd rfl (fun _ => Val.rdlen sl32 hl rfl) <| vd rfl (fun _ => Val.addI rfl rfl side side) <| zda rfl rfl ?_
   refine WD.nil ?_
   clear hb10 hc230 hc310
   clear hCw
   refine cg <| zm rfl <| vq (Val.addI rfl rfl side side) <| za rfl <| cnil ?_
   refine ⟨i + 1, ?_, ⟨by omega, _, hO, hL, hb1⟩, by omega⟩
   rw [hn2]
   exact subs
  ·try simp only [tstS] at hc3
   refine WC.exit rfl ?_
   refine cseq <| cg <| zm rfl <| vq (Val.gtr rfl rfl) <| za rfl <| cnil ?_
   refine WC.ret1 rfl rfl ?_
   refine ⟨hO.below, _, rfl, fun hb => ?_⟩
   have h5 : ¬ ((5000 : Int) < ((L.length + ((L.take i).map actW).sum : Nat) : Int)) := by simpa using hb
   have e : i = L.length := by
     rcases Nat.lt_or_ge i L.length with h9 | h9
     · exfalso
       rw [decide_eq_true (show (i : Int) < (L.length : Int) by omega), decide_eq_true (show ((L.length + ((L.take i).map actW).sum : Nat) : Int) < 1048576 by omega)] at hc3
       cases hc3
     · omega
   rw [e, List.take_of_length_le (Nat.le_refl _)] at h5
   omega
end Go.Proofs.Ytjddnaefmikccaa
