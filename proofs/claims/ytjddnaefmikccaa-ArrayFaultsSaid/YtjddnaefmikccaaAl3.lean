/- The disks' law: are both alike? No condition. -/
import Derived.Test.YtjddnaefmikccaaAl2
set_option linter.unusedSimpArgs false
set_option linter.unusedVariables false
set_option maxRecDepth 100000
namespace Go.Proofs.Ytjddnaefmikccaa
open Go Go.Eng Go.RowKit Silo TryT
set_option maxHeartbeats 1000000 in
theorem holds10_ok {c : Nat → Nat} {w : World} {pa pb : Nat} {A B : Arr} (hA : ArrC c w pa A) (hB : PgC c w pb B) (hr : RelA A B) (hc9 : A.changes ≤ 4611686018427387904) : Calls Try.prog 23 #[.pointer (some ⟨pa, 0, none⟩), .pointer (some ⟨pb, 0, none⟩)] w (Ret fun u w' => Below w.heap.size w w' ∧ u = .bool true) := by
  have hR := OldR.start c w colAP
  replace hA := hA.innJ (J := colAP)
  replace hB := hB.innJ (J := colAP)
  generalize mask c colAP = c0 at hR hA hB
  have wa := hr.wa.wf hc9
  have wb : WfB B := ⟨hr.wb.wf (by rw [← hr.chg]; exact hc9), hr.bo⟩
  have e1 := hr.len; have e2 := hr.sec; have e3 := hr.chg; have e4 := hr.dirty
  have z1 := wb.wf.many
  refine enter (n := 53) (res := #[.tmp 4]) Try.func23 rfl rfl rfl rfl ?_
  refine cseq <| cg <| za rfl <| cnil <| cseq <| cseq <| cg <| za rfl <| cnil ?_
  refine cblock ?_
  refine WC.loop (σ := Nat) (fun i => [(0, .pointer (some ⟨pa, 0, none⟩)), (1, .pointer (some ⟨pb, 0, none⟩)), (5, I ((i : Int) - 1))]) (fun i w' => i ≤ B.d.length + 2 ∧ ∃ c', OldR c w colAP c' w' ∧ ArrC c' w' pa A ∧ PgC c' w' pb B) (fun i => B.d.length + 2 - i) 0 subs ⟨by omega, _, hR, hA, hB⟩ ?_
  clear hR hA hB
  rintro i wl ⟨hi, cl, hR, hA, hB⟩
  obtain ⟨vL, vD, vC, ds, cs, hX⟩ := hB
  have hb0 := hX.hbp
  have hB := hX.shut
  clear hX
  refine cseq <| cseq <| cg <| zm rfl <| zm rfl <| vq (Val.nilCheck rfl) <| vq (Val.fieldAddr fld52_0 rfl) <| vq (Val.loadB scl3 rfl hb0.blk rfl) <| vq (Val.leq rfl rfl) ?_
  refine cnil ?_
  refine WC.cond rfl (fun hc2 => ?_) (fun hc2 => ?_)
  ·try simp only [tstS] at hc2
   have hi2 : (i : Int) - 1 ≤ B.d.length := hc2
   refine cskip <| cseq <| cblock <| cseq <| cg <| zm rfl <| zm rfl ?_
   refine ve (Eff.pureC cl 1 (Eff.call pf45 rfl (alive_ok (d := (i : Int) - 1) hA))) ?_
   rintro v16 w1 ⟨c1, hM1, hx1, rfl⟩
   replace hR := hR.mv hM1; replace hA := hA.mv hM1; replace hB := hB.mv hM1; replace hb0 := hb0.mv hM1
   refine zm rfl <| zm rfl ?_
   refine ve (Eff.pureC c1 1 (Eff.call pf46 rfl (pis_ok (d := (i : Int) - 1) hB wb))) ?_
   rintro v19 w2 ⟨c2, hM2, hx2, rfl⟩
   replace hR := hR.mv hM2; replace hA := hA.mv hM2; replace hB := hB.mv hM2; replace hb0 := hb0.mv hM2
   rw [hr.lives]
   refine vq (Val.bneq Try.underlying4 rfl rfl) <| cnil ?_
   refine WC.cond rfl (fun hc4 => ?_) (fun hc4 => ?_)
   ·exact absurd hc4 (by simp)
   ·try simp only [tstS] at hc4
    refine cskip <| cg <| zm rfl <| vq (Val.addI rfl rfl side side) <| za rfl <| cnil ?_
    refine ⟨i + 1, ?_, ⟨by omega, _, hR, hA, hB⟩, by omega⟩
    rw [show (((i + 1 : Nat) : Int) - 1) = ((i : Int) - 1 + 1) by omega]
    exact subs
  ·try simp only [tstS] at hc2
   refine WC.exit rfl ?_
   refine cseq ?_
   refine WC.regionD (Kp cl wl []) [0, 2, 0, 0, 0, 1, 0, 0, 0, 2, 0, 0, 0, 1, 0, 0, 0, 0, 2, 0, 0, 0, 1, 0, 0, 0, 0, 2, 0, 2, 0, 0, 0] [0, 2, 3, 4, 5, 1, 6, 7, 8, 10, 11, 12, 13, 9, 14, 15, 16, 17, 19, 20, 21, 22, 18, 23, 24, 25, 26, 28, 27, 29, 30, 31, 32] mixed (by kernel_rfl) ?_
   have hM3 := Mv.drew cl wl []
   have hCw := Mv.drew cl wl []
   generalize wl.drew = w3 at hM3 hCw ⊢
   have hb00 := hb0
   replace hR := hR.mv hM3; replace hA := hA.mv hM3; replace hB := hB.mv hM3; replace hb0 := hb0.mv hM3
   refine zdm rfl rfl <| zdm rfl rfl <| vd rfl (fun _ => Val.nilCheck rfl) <| vd rfl (fun _ => Val.fieldAddr fld52_0 rfl) <| vc rfl hCw.kp (fun W hW => Val.loadB scl3 rfl (hb00.kp hW rfl).blk rfl) ?_
   refine WD.eff rfl rfl rfl (Eff.pureC cl 1 (Eff.call pf47 rfl (adisks_ok hA))) rfl ?_
   rintro v22 w4 ⟨c4, hM4, hx4, rfl⟩
   refine ⟨fun hC => hC.step hCw hM4 rfl, ?_⟩
   replace hCw := hCw.tr hM4 rfl
   replace hR := hR.mv hM4; replace hA := hA.mv hM4; replace hB := hB.mv hM4; replace hb0 := hb0.mv hM4
   rw [e1]
   refine vd rfl (fun _ => Val.eql rfl rfl) <| zdm rfl rfl ?_
   apply WD.sc true 7 _ (fun w' => ∃ c', Acc c4 w4 [] c' w')
   case hl | hi | hk | hg | hu | hv | hs | hoff | hd => rfl
   case hC => exact hCw.kp
   case hF => exact fun _ => ⟨_, Acc.refl _ _ _⟩
   case hT =>
    intro hq15
    try simp only [tstS] at hq15
    simp only [List.take_succ_cons, List.take_zero]
    have hKsc15 := Acc.refl c4 w4 []
    refine zdm rfl rfl <| zdm rfl rfl <| vd rfl (fun _ => Val.nilCheck rfl) <| vd rfl (fun _ => Val.fieldAddr fld52_1 rfl) <| vc rfl hCw.kp (fun W hW => Val.loadB scl3 rfl (hb00.kp hW rfl).blk rfl) ?_
    refine WD.eff rfl rfl rfl (Eff.pureC c4 1 (Eff.call pf48 rfl (asectors_ok hA))) rfl ?_
    rintro v30 w5 ⟨c5, hM5, hx5, rfl⟩
    refine ⟨fun hC => hC.step hCw hM5 rfl, ?_⟩
    replace hCw := hCw.tr hM5 rfl
    replace hR := hR.mv hM5; replace hA := hA.mv hM5; replace hB := hB.mv hM5; replace hb0 := hb0.mv hM5; replace hKsc15 := hKsc15.mv hM5
    rw [e2]
    refine vd rfl (fun _ => Val.eql rfl rfl) ?_
    exact WD.nil ⟨rfl, Sub.drop _ 7 _ rfl rfl, _, hKsc15⟩
   rintro w6 ⟨c6, ⟨hM6⟩⟩
   replace hCw := hCw.tr hM6 rfl
   replace hR := hR.mv hM6; replace hA := hA.mv hM6; replace hB := hB.mv hM6; replace hb0 := hb0.mv hM6
   refine zdm rfl rfl ?_
   apply WD.sc true 7 _ (fun w' => ∃ c', Acc c6 w6 [] c' w')
   case hl | hi | hk | hg | hu | hv | hs | hoff | hd => rfl
   case hC => exact hCw.kp
   case hF => exact fun _ => ⟨_, Acc.refl _ _ _⟩
   case hT =>
    intro hq24
    try simp only [tstS] at hq24
    simp only [List.take_succ_cons, List.take_zero]
    have hKsc24 := Acc.refl c6 w6 []
    refine zdm rfl rfl <| zdm rfl rfl <| vd rfl (fun _ => Val.nilCheck rfl) <| vd rfl (fun _ => Val.fieldAddr fld52_6 rfl) <| vc rfl hCw.kp (fun W hW => Val.loadB scl3 rfl (hb00.kp hW rfl).blk rfl) ?_
    refine WD.eff rfl rfl rfl (Eff.pureC c6 1 (Eff.call pf32 rfl (achanges_ok hA))) rfl ?_
    rintro v39 w7 ⟨c7, hM7, hx7, rfl⟩
    refine ⟨fun hC => hC.step hCw hM7 rfl, ?_⟩
    replace hCw := hCw.tr hM7 rfl
    replace hR := hR.mv hM7; replace hA := hA.mv hM7; replace hB := hB.mv hM7; replace hb0 := hb0.mv hM7; replace hKsc24 := hKsc24.mv hM7
    rw [e3]
    refine vd rfl (fun _ => Val.eql rfl rfl) ?_
    exact WD.nil ⟨rfl, Sub.drop _ 7 _ rfl rfl, _, hKsc24⟩
   rintro w8 ⟨c8, ⟨hM8⟩⟩
   replace hCw := hCw.tr hM8 rfl
   replace hR := hR.mv hM8; replace hA := hA.mv hM8; replace hB := hB.mv hM8; replace hb0 := hb0.mv hM8
   refine zdm rfl rfl ?_
   apply WD.sc true 5 _ (fun w' => ∃ c', Acc c8 w8 [] c' w')
   case hl | hi | hk | hg | hu | hv | hs | hoff | hd => rfl
   case hC => exact hCw.kp
   case hF => exact fun _ => ⟨_, Acc.refl _ _ _⟩
   case hT =>
    intro hq31
    try simp only [tstS] at hq31
    simp only [List.take_succ_cons, List.take_zero]
    have hKsc31 := Acc.refl c8 w8 []
    refine zdm rfl rfl <| zdm rfl rfl ?_
    refine WD.eff rfl rfl rfl (Eff.pureC c8 1 (Eff.call pf14 rfl (adirty_ok hA wa))) rfl ?_
    rintro v48 w9 ⟨c9, hM9, hx9, rfl⟩
    refine ⟨fun hC => hC.step hCw hM9 rfl, ?_⟩
    replace hCw := hCw.tr hM9 rfl
    replace hR := hR.mv hM9; replace hA := hA.mv hM9; replace hB := hB.mv hM9; replace hb0 := hb0.mv hM9; replace hKsc31 := hKsc31.mv hM9
    rw [e4]
    refine WD.eff rfl rfl rfl (Eff.pureC c9 1 (Eff.call pf49 rfl (pdirty_ok hB wb))) rfl ?_
    rintro v50 w10 ⟨c10, hM10, hx10, rfl⟩
    refine ⟨fun hC => hC.step hCw hM10 rfl, ?_⟩
    replace hCw := hCw.tr hM10 rfl
    replace hR := hR.mv hM10; replace hA := hA.mv hM10; replace hB := hB.mv hM10; replace hb0 := hb0.mv hM10; replace hKsc31 := hKsc31.mv hM10
    refine vd rfl (fun _ => Val.eql rfl rfl) ?_
    exact WD.nil ⟨rfl, Sub.drop _ 5 _ rfl rfl, _, hKsc31⟩
   rintro w11 ⟨c11, ⟨hM11⟩⟩
   replace hCw := hCw.tr hM11 rfl
   replace hR := hR.mv hM11; replace hA := hA.mv hM11; replace hB := hB.mv hM11; replace hb0 := hb0.mv hM11
   refine zda rfl rfl ?_
   refine WD.nil ?_
   clear hb00
   clear hCw
   refine WC.ret1 rfl rfl ?_
   exact ⟨hR.below, by simp⟩
end Go.Proofs.Ytjddnaefmikccaa
