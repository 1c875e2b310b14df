/- The disks' law: an act on both. No condition. -/
import Derived.Test.YtjddnaefmikccaaAl3
set_option linter.unusedSimpArgs false
set_option linter.unusedVariables false
set_option maxRecDepth 100000
namespace Go.Eng
open Go Go.RowKit Silo
/-- Both, alike. -/
structure Both (c : Nat → Nat) (w : World) (pa pb : Nat) (A B : Arr) (n : Nat) : Prop where
  hA : ArrC c w pa A
  hB : PgC c w pb B
  hr : RelA A B
  chg : A.changes ≤ n
theorem Both.mv {c c' : Nat → Nat} {w w' : World} {pa pb n : Nat} {A B : Arr} {I : List Nat} (h : Both c w pa pb A B n) (m : Mv c w c' w' I) (hi : apartC colAP I = true := by rfl) : Both c' w' pa pb A B n := by
  have hk : ∀ i ∈ colAP, hasC I i = false := fun i h => apart_of hi h
  exact ⟨h.hA.mv m (hk 60 (by simp)) (hk 61 (by simp)) (hk 62 (by simp)) (hk 63 (by simp)), h.hB.mv m (apart_sub hi (by simp)), h.hr, h.chg⟩
end Go.Eng
namespace Go.Proofs.Ytjddnaefmikccaa
open Go Go.Eng Go.RowKit Silo TryT
set_option maxHeartbeats 4000000 in
theorem does10_ok {c : Nat → Nat} {w : World} {pa pb n : Nat} {A B : Arr} (h : Both c w pa pb A B n) (hn : n ≤ 1000) {x : Act10} {vl : Value} {K : List Nat} (hL : RdC intS c w K vl x.l) (hK : apartC K colAP = true) (hl : x.l.length ≤ 1048576) (hx : x.ok) (ht : x.t.length ≤ 1048576) :
    Calls Try.prog 22 #[.pointer (some ⟨pa, 0, none⟩), .pointer (some ⟨pb, 0, none⟩), .agg #[I x.act, I x.d, I x.s, I x.n, St x.t, vl]] w (Ret fun u w' => ∃ c', Mv c w c' w' colAP ∧ (∃ A' B', Both c' w' pa pb A' B' (n + 1)) ∧ u = .bool true) := by
  obtain ⟨hA, hB, hr, hchg⟩ := h
  obtain ⟨⟨x1, x2, x3, x4⟩, _⟩ := hx
  obtain ⟨x1a, x1b⟩ := x1; obtain ⟨x4a, x4b⟩ := x4
  have hJ := OldJ.start c w colAP
  replace hA := hA.innJ (J := colAP)
  replace hB := hB.innJ (J := colAP)
  replace hL := hL.inn hK
  have q1 := hL.now.oneC
  generalize mask c colAP = c0 at hJ hA hB hL
  have wa := hr.wa.wf (by omega)
  have wb : WfB B := ⟨hr.wb.wf (by rw [← hr.chg]; omega), hr.bo⟩
  obtain ⟨m, hm⟩ : ∃ m, m = within x.act 15 := ⟨_, rfl⟩
  have hm0 : 0 ≤ m := by rw [hm]; exact within_lo _ _ (by omega)
  have hm1 : m < 15 := by rw [hm]; exact within_hi _ _ (by omega)
  refine enter (n := 157) (res := #[.tmp 6]) Try.func22 rfl rfl rfl rfl ?_
  refine cseq <| cg ?_
  refine ve (Eff.boxC c0 105 rfl) ?_
  rintro _ w1 ⟨b5, c1, rfl, hM1, hb5⟩
  replace hJ := hJ.mv hM1; replace hA := hA.mv hM1; replace hB := hB.mv hM1; replace hL := hL.mv hM1
  refine za rfl <| cnil <| cseq <| cseq <| cg <| vq (Val.fieldAddr fld34_0 rfl) <| vq (Val.loadB scl3 rfl hb5.blk rfl) ?_
  refine ve (Eff.pureC c1 1 (Eff.call pf20 rfl (within_ok x.act 15 ⟨x1a, x1b⟩ (by omega) (by omega)))) ?_
  rintro v16 w2 ⟨c2, hM2, hx2, rfl⟩
  replace hJ := hJ.mv hM2; replace hA := hA.mv hM2; replace hB := hB.mv hM2; replace hL := hL.mv hM2; replace hb5 := hb5.mv hM2
  rw [← hm]
  refine cnil <| cblock <| cseq <| cseq <| cg <| vq (Val.eql rfl rfl) <| za rfl <| cnil ?_
  refine WC.mono (N := (fun e w' => w2 = w' ∧ ∃ b : Bool, Sub [(4000000, .tuple #[]), (0, .pointer (some ⟨pa, 0, none⟩)), (1, .pointer (some ⟨pb, 0, none⟩)), (5, .pointer (some ⟨b5, 0, none⟩)), (16, I m), (31, .bool b)] e ∧ (b = true ↔ m = 0 ∨ m = 1 ∨ m = 2))) ?_ ?_
  ·refine WC.cond rfl (fun hc3 => ?_) (fun hc3 => ?_)
   ·try simp only [tstS] at hc3
    refine cskip ?_
    exact ⟨rfl, _, subs, by simp only [decide_eq_true_eq]; omega⟩
   ·try simp only [tstS] at hc3
    refine cseq <| cg <| vq (Val.eql rfl rfl) <| za rfl <| cnil ?_
    refine WC.cond rfl (fun hc4 => ?_) (fun hc4 => ?_)
    ·try simp only [tstS] at hc4
     refine cskip ?_
     exact ⟨rfl, _, subs, by simp only [decide_eq_true_eq]; omega⟩
    ·try simp only [tstS] at hc4
     refine cg <| vq (Val.eql rfl rfl) <| za rfl <| cnil ?_
     exact ⟨rfl, _, subs, by simp only [decide_eq_true_eq]; omega⟩
  ·skip
   rintro e8 w8 ⟨rfl, b, hsub, hbm⟩
   refine WC.sub hsub ?_
   clear hsub e8
   refine WC.cond rfl (fun hc3 => ?_) (fun hc3 => ?_)
   ·try simp only [tstS] at hc3
    refine cseq <| cg <| zm rfl <| vq (Val.fieldAddr fld34_1 rfl) <| vq (Val.loadB scl3 rfl hb5.blk rfl) <| vq (Val.fieldAddr fld34_2 rfl) <| vq (Val.loadB scl3 rfl hb5.blk rfl) ?_
    refine ve (Eff.pureC c2 1 (Eff.call pf16 rfl (aread_ok hA wa))) ?_
    rintro v41 w3 ⟨c3, hM3, hx3, rfl⟩
    replace hJ := hJ.mv hM3; replace hA := hA.mv hM3; replace hB := hB.mv hM3; replace hL := hL.mv hM3; replace hb5 := hb5.mv hM3
    rw [hr.read]
    refine zm rfl <| vq (Val.extract rfl rfl) <| vq (Val.extract rfl rfl) <| za rfl <| za rfl <| cnil <| cseq <| cg <| zm rfl ?_
    refine vq (Val.fieldAddr fld34_1 rfl) <| vq (Val.loadB scl3 rfl hb5.blk rfl) <| vq (Val.fieldAddr fld34_2 rfl) <| vq (Val.loadB scl3 rfl hb5.blk rfl) ?_
    refine ve (Eff.pureC c3 1 (Eff.call pf25 rfl (pread_ok hB wb))) ?_
    rintro v50 w4 ⟨c4, hM4, hx4, rfl⟩
    replace hJ := hJ.mv hM4; replace hA := hA.mv hM4; replace hB := hB.mv hM4; replace hL := hL.mv hM4; replace hb5 := hb5.mv hM4
    refine zm rfl <| vq (Val.extract rfl rfl) <| vq (Val.extract rfl rfl) <| za rfl <| za rfl <| cnil <| cseq <| cg <| zm rfl ?_
    refine ve (Eff.pureC c4 1 (Eff.call pf10 rfl (num10_ok _))) ?_
    rintro v54 w5 ⟨c5, hM5, hx5, rfl⟩
    replace hJ := hJ.mv hM5; replace hA := hA.mv hM5; replace hB := hB.mv hM5; replace hL := hL.mv hM5; replace hb5 := hb5.mv hM5
    refine zm rfl <| vq (Val.eql rfl rfl) <| zm rfl ?_
    apply WR.sc true 3 _ (fun w' => w5 = w')
    case hl | hg | hu | hv | hs | hoff | hd => rfl
    case hF => exact fun _ => rfl
    case hT =>
     intro hq8
     try simp only [tstS] at hq8
     simp only [List.take_succ_cons, List.take_zero]
     refine WR.on rfl rfl ?_
     refine zm rfl ?_
     refine WR.on rfl rfl ?_
     refine zm rfl ?_
     refine WR.on rfl rfl ?_
     refine vq (Val.seq_ rfl rfl) ?_
     exact WR.nil ⟨rfl, Sub.drop _ 3 _ rfl rfl, rfl⟩
    rintro _ rfl
    refine za rfl <| cnil ?_
    refine WC.ret1 rfl rfl ?_
    exact ⟨_, hJ.out, ⟨A, B, hA.outJ hJ, hB.outJ hJ, hr, by omega⟩, by simp⟩
   ·try simp only [tstS] at hc3
    refine cseq <| cseq <| cg <| vq (Val.eql rfl rfl) <| za rfl <| cnil ?_
    refine WC.mono (N := (fun e w' => w2 = w' ∧ ∃ b : Bool, Sub [(4000000, .tuple #[]), (0, .pointer (some ⟨pa, 0, none⟩)), (1, .pointer (some ⟨pb, 0, none⟩)), (5, .pointer (some ⟨b5, 0, none⟩)), (16, I m), (62, .bool b)] e ∧ (b = true ↔ m = 3 ∨ m = 4 ∨ m = 5 ∨ m = 6))) ?_ ?_
    ·refine WC.cond rfl (fun hc9 => ?_) (fun hc9 => ?_)
     ·try simp only [tstS] at hc9
      refine cskip ?_
      exact ⟨rfl, _, subs, by simp only [decide_eq_true_eq]; omega⟩
     ·try simp only [tstS] at hc9
      refine cseq <| cg <| vq (Val.eql rfl rfl) <| za rfl <| cnil ?_
      refine WC.cond rfl (fun hc10 => ?_) (fun hc10 => ?_)
      ·try simp only [tstS] at hc10
       refine cskip ?_
       exact ⟨rfl, _, subs, by simp only [decide_eq_true_eq]; omega⟩
      ·try simp only [tstS] at hc10
       refine cseq <| cg <| vq (Val.eql rfl rfl) <| za rfl <| cnil ?_
       refine WC.cond rfl (fun hc11 => ?_) (fun hc11 => ?_)
       ·try simp only [tstS] at hc11
        refine cskip ?_
        exact ⟨rfl, _, subs, by simp only [decide_eq_true_eq]; omega⟩
       ·try simp only [tstS] at hc11
        refine cg <| vq (Val.eql rfl rfl) <| za rfl <| cnil ?_
        exact ⟨rfl, _, subs, by simp only [decide_eq_true_eq]; omega⟩
    ·skip
     rintro e8 w8 ⟨rfl, b2, hsub, hbm2⟩
     refine WC.sub hsub ?_
     clear hsub e8
     refine WC.cond rfl (fun hc9 => ?_) (fun hc9 => ?_)
     ·try simp only [tstS] at hc9
      refine cseq <| cg <| vq (Val.fieldAddr fld34_4 rfl) <| vq (Val.loadB scl9 rfl hb5.blk rfl) <| za rfl <| cnil <| cseq <| cseq <| cg ?_
      refine vq (Val.fieldAddr fld34_3 rfl) <| vq (Val.loadB scl3 rfl hb5.blk rfl) <| vq (Val.and_i64A rfl rfl) <| vq (Val.gtr rfl rfl) <| cnil ?_
      refine WC.mono (N := (fun e w' => ∃ (c' : Nat → Nat) (t : Txt), Sub [(4000000, .tuple #[]), (0, .pointer (some ⟨pa, 0, none⟩)), (1, .pointer (some ⟨pb, 0, none⟩)), (5, .pointer (some ⟨b5, 0, none⟩)), (16, I m), (11, St t)] e ∧ OldJ c w colAP c' w' ∧ ArrC c' w' pa A ∧ PgC c' w' pb B ∧ BlkC c' w' 105 b5 [I x.act, I x.d, I x.s, I x.n, St x.t, vl] 34)) ?_ ?_
      ·refine WC.cond rfl (fun hc14 => ?_) (fun hc14 => ?_)
       ·skip
        refine cg <| zm rfl ?_
        refine ve (Eff.pureC c2 1 (Eff.call pf11 rfl (sector_ok (t := x.t) (by omega)))) ?_
        rintro v74 w6 ⟨c6, hM6, hx6, rfl⟩
        replace hJ := hJ.mv hM6; replace hA := hA.mv hM6; replace hB := hB.mv hM6; replace hL := hL.mv hM6; replace hb5 := hb5.mv hM6
        refine za rfl <| cnil ?_
        exact ⟨_, _, subs, hJ, hA, hB, hb5⟩
       ·skip
        refine cskip ?_
        exact ⟨_, _, subs, hJ, hA, hB, hb5⟩
      ·skip
       clear hJ hA hB hb5 hL
       rintro e8 w8 ⟨c8, t, hsub, hJ, hA, hB, hb5⟩
       refine WC.sub hsub ?_
       clear hsub e8
       have hrw := hr.write x.d x.s t
       have hch := write_chg A x.d x.s t
       refine cseq ?_
       refine WC.regionD (Kp c8 w8 [60, 61, 62, 63, 80, 81, 82, 83, 84, 85]) [0, 0, 1, 0, 1, 0, 2, 2, 0, 0, 1, 0, 1, 0, 2, 0, 0] [0, 1, 2, 3, 4, 5, 8, 9, 10, 11, 12, 13, 6, 7, 14, 15, 16] mixed (by kernel_rfl) ?_
       have hM7 := Mv.drew c8 w8 []
       have hCw := Mv.drew c8 w8 [60, 61, 62, 63, 80, 81, 82, 83, 84, 85]
       generalize w8.drew = w7 at hM7 hCw ⊢
       have hb50 := hb5
       replace hJ := hJ.mv hM7; replace hA := hA.mv hM7; replace hB := hB.mv hM7; replace hb5 := hb5.mv hM7
       refine zdm rfl rfl <| vd rfl (fun _ => Val.fieldAddr fld34_1 rfl) <| vc rfl hCw.kp (fun W hW => Val.loadB scl3 rfl (hb50.kp hW rfl).blk rfl) <| vd rfl (fun _ => Val.fieldAddr fld34_2 rfl) <| vc rfl hCw.kp (fun W hW => Val.loadB scl3 rfl (hb50.kp hW rfl).blk rfl) <| zdm rfl rfl <| zdm rfl rfl <| vd rfl (fun _ => Val.fieldAddr fld34_1 rfl) <| vc rfl hCw.kp (fun W hW => Val.loadB scl3 rfl (hb50.kp hW rfl).blk rfl) ?_
       refine vd rfl (fun _ => Val.fieldAddr fld34_2 rfl) <| vc rfl hCw.kp (fun W hW => Val.loadB scl3 rfl (hb50.kp hW rfl).blk rfl) <| zdm rfl rfl ?_
       refine WD.eff rfl rfl rfl (Eff.call pf12 rfl (awrite_ok hA wa)) rfl ?_
       rintro v81 w8 ⟨c8, hM8, ⟨hA, rfl⟩⟩
       refine ⟨fun hC => hC.step hCw hM8 rfl, ?_⟩
       replace hCw := hCw.tr hM8 rfl
       replace hJ := hJ.mv hM8; replace hB := hB.mv hM8; replace hb5 := hb5.mv hM8
       rw [hrw.2]
       refine WD.eff rfl rfl rfl (Eff.pureC c8 1 (Eff.call pf10 rfl (num10_ok _))) rfl ?_
       rintro v82 w9 ⟨c9, hM9, hx9, rfl⟩
       refine ⟨fun hC => hC.step hCw hM9 rfl, ?_⟩
       replace hCw := hCw.tr hM9 rfl
       replace hJ := hJ.mv hM9; replace hA := hA.mv hM9; replace hB := hB.mv hM9; replace hb5 := hb5.mv hM9
       refine WD.eff rfl rfl rfl (Eff.call pf34 rfl (pwrite_ok hB wb)) rfl ?_
       rintro v89 w10 ⟨c10, hM10, ⟨hB, rfl⟩⟩
       refine ⟨fun hC => hC.step hCw hM10 rfl, ?_⟩
       replace hCw := hCw.tr hM10 rfl
       replace hJ := hJ.mv hM10; replace hA := hA.mv hM10; replace hb5 := hb5.mv hM10
       refine vd rfl (fun _ => Val.eql rfl rfl) <| zda rfl rfl ?_
       refine WD.nil ?_
       clear hb50
       clear hCw
       refine WC.ret1 rfl rfl ?_
       exact ⟨_, hJ.out, ⟨_, _, hA.outJ hJ, hB.outJ hJ, hrw.1, by omega⟩, by simp⟩
     ·try simp only [tstS] at hc9
      refine cseq <| cseq <| cg <| vq (Val.eql rfl rfl) <| za rfl <| cnil ?_
      refine WC.mono (N := (fun e w' => w2 = w' ∧ ∃ b : Bool, Sub [(4000000, .tuple #[]), (0, .pointer (some ⟨pa, 0, none⟩)), (1, .pointer (some ⟨pb, 0, none⟩)), (5, .pointer (some ⟨b5, 0, none⟩)), (16, I m), (91, .bool b)] e ∧ (b = true ↔ m = 7 ∨ m = 8))) ?_ ?_
      ·refine WC.cond rfl (fun hc17 => ?_) (fun hc17 => ?_)
       ·try simp only [tstS] at hc17
        refine cskip ?_
        exact ⟨rfl, _, subs, by simp only [decide_eq_true_eq]; omega⟩
       ·try simp only [tstS] at hc17
        refine cg <| vq (Val.eql rfl rfl) <| za rfl <| cnil ?_
        exact ⟨rfl, _, subs, by simp only [decide_eq_true_eq]; omega⟩
      ·skip
       rintro e8 w8 ⟨rfl, b3, hsub, hbm3⟩
       refine WC.sub hsub ?_
       clear hsub e8
       refine WC.cond rfl (fun hc17 => ?_) (fun hc17 => ?_)
       ·try simp only [tstS] at hc17
        refine cseq ?_
        have hrw := hr.flush x.d
        have hch := flush_chg A x.d
        refine WC.regionD (Kp c2 w2 [60, 61, 62, 63, 80, 81, 82, 83, 84, 85]) [0, 0, 1, 2, 2, 0, 0, 1, 2, 0, 0] [0, 1, 2, 5, 6, 7, 3, 4, 8, 9, 10] mixed (by kernel_rfl) ?_
        have hM11 := Mv.drew c2 w2 []
        have hCw := Mv.drew c2 w2 [60, 61, 62, 63, 80, 81, 82, 83, 84, 85]
        generalize w2.drew = w11 at hM11 hCw ⊢
        have hb50 := hb5
        replace hJ := hJ.mv hM11; replace hA := hA.mv hM11; replace hB := hB.mv hM11; replace hL := hL.mv hM11; replace hb5 := hb5.mv hM11
        refine zdm rfl rfl <| vd rfl (fun _ => Val.fieldAddr fld34_1 rfl) <| vc rfl hCw.kp (fun W hW => Val.loadB scl3 rfl (hb50.kp hW rfl).blk rfl) <| zdm rfl rfl <| vd rfl (fun _ => Val.fieldAddr fld34_1 rfl) <| vc rfl hCw.kp (fun W hW => Val.loadB scl3 rfl (hb50.kp hW rfl).blk rfl) ?_
        refine WD.eff rfl rfl rfl (Eff.call pf13 rfl (aflush_ok hA wa)) rfl ?_
        rintro v97 w12 ⟨c12, hM12, ⟨hA, rfl⟩⟩
        refine ⟨fun hC => hC.step hCw hM12 rfl, ?_⟩
        replace hCw := hCw.tr hM12 rfl
        replace hJ := hJ.mv hM12; replace hB := hB.mv hM12; replace hL := hL.mv hM12; replace hb5 := hb5.mv hM12
        rw [hrw.2]
        refine WD.eff rfl rfl rfl (Eff.pureC c12 1 (Eff.call pf10 rfl (num10_ok _))) rfl ?_
        rintro v98 w13 ⟨c13, hM13, hx13, rfl⟩
        refine ⟨fun hC => hC.step hCw hM13 rfl, ?_⟩
        replace hCw := hCw.tr hM13 rfl
        replace hJ := hJ.mv hM13; replace hA := hA.mv hM13; replace hB := hB.mv hM13; replace hL := hL.mv hM13; replace hb5 := hb5.mv hM13
        refine WD.eff rfl rfl rfl (Eff.call pf35 rfl (pflush_ok hB wb)) rfl ?_
        rintro v102 w14 ⟨c14, hM14, ⟨hB, rfl⟩⟩
        refine ⟨fun hC => hC.step hCw hM14 rfl, ?_⟩
        replace hCw := hCw.tr hM14 rfl
        replace hJ := hJ.mv hM14; replace hA := hA.mv hM14; replace hL := hL.mv hM14; replace hb5 := hb5.mv hM14
        refine vd rfl (fun _ => Val.eql rfl rfl) <| zda rfl rfl ?_
        refine WD.nil ?_
        clear hb50
        clear hCw
        refine WC.ret1 rfl rfl ?_
        exact ⟨_, hJ.out, ⟨_, _, hA.outJ hJ, hB.outJ hJ, hrw.1, by omega⟩, by simp⟩
       ·try simp only [tstS] at hc17
        refine cseq <| cg <| vq (Val.eql rfl rfl) <| za rfl <| cnil ?_
        refine WC.cond rfl (fun hc20 => ?_) (fun hc20 => ?_)
        ·try simp only [tstS] at hc20
         refine cseq <| cg <| vq (Val.fieldAddr fld34_3 rfl) <| vq (Val.loadB scl3 rfl hb5.blk rfl) ?_
         refine ve (Eff.pureC c2 1 (Eff.call pf20 rfl (within_ok x.n 6 ⟨x4a, x4b⟩ (by omega) (by omega)))) ?_
         rintro v108 w15 ⟨c15, hM15, hx15, rfl⟩
         replace hJ := hJ.mv hM15; replace hA := hA.mv hM15; replace hB := hB.mv hM15; replace hL := hL.mv hM15; replace hb5 := hb5.mv hM15
         have hw0 := within_lo x.n 6 (by omega)
         have hw1 := within_hi x.n 6 (by omega)
         refine vq (Val.subI rfl rfl side side) <| za rfl <| cnil <| cseq <| cg <| zm rfl <| zm rfl ?_
         refine ve (Eff.call pf36 rfl (aoff_ok hA)) ?_
         rintro v112 w16 ⟨c16, hM16, hA⟩
         replace hJ := hJ.mv hM16; replace hB := hB.mv hM16; replace hL := hL.mv hM16; replace hb5 := hb5.mv hM16
         refine cnil <| cg <| zm rfl <| zm rfl ?_
         refine ve (Eff.call pf37 rfl (poff_ok hB)) ?_
         rintro v115 w17 ⟨c17, hM17, hB⟩
         replace hJ := hJ.mv hM17; replace hA := hA.mv hM17; replace hL := hL.mv hM17; replace hb5 := hb5.mv hM17
         refine cnil <| cseq <| cg <| za rfl <| cnil ?_
         refine WC.ret1 rfl rfl ?_
         exact ⟨_, hJ.out, ⟨_, _, hA.outJ hJ, hB.outJ hJ, hr.offs _ (by omega), by have : (offA A (within x.n 6 - 1)).changes = A.changes := rfl; omega⟩, rfl⟩
        ·try simp only [tstS] at hc20
         refine cseq <| cseq <| cg <| vq (Val.eql rfl rfl) <| za rfl <| cnil ?_
         refine WC.mono (N := (fun e w' => w2 = w' ∧ ∃ b : Bool, Sub [(4000000, .tuple #[]), (0, .pointer (some ⟨pa, 0, none⟩)), (1, .pointer (some ⟨pb, 0, none⟩)), (5, .pointer (some ⟨b5, 0, none⟩)), (16, I m), (116, .bool b)] e ∧ (b = true ↔ m = 10 ∨ m = 11))) ?_ ?_
         ·refine WC.cond rfl (fun hc24 => ?_) (fun hc24 => ?_)
          ·try simp only [tstS] at hc24
           refine cskip ?_
           exact ⟨rfl, _, subs, by simp only [decide_eq_true_eq]; omega⟩
          ·try simp only [tstS] at hc24
           refine cg <| vq (Val.eql rfl rfl) <| za rfl <| cnil ?_
           exact ⟨rfl, _, subs, by simp only [decide_eq_true_eq]; omega⟩
         ·skip
          rintro e8 w8 ⟨rfl, b4, hsub, hbm4⟩
          refine WC.sub hsub ?_
          clear hsub e8
          refine WC.cond rfl (fun hc24 => ?_) (fun hc24 => ?_)
          ·try simp only [tstS] at hc24
           refine cseq <| cg <| vq (Val.fieldAddr fld34_5 rfl) <| vq (Val.loadB scl32 rfl hb5.blk rfl) ?_
           refine ve (Eff.pureC c2 7 (Eff.call pf38 rfl (copyNumbers_ok hL.now hl))) ?_
           rintro v121 w18 ⟨c18, hM18, hx18, hin⟩
           replace hJ := hJ.mv hM18; replace hA := hA.mv hM18; replace hB := hB.mv hM18; replace hL := hL.mv hM18; replace hb5 := hb5.mv hM18
           replace hin := hin.toC hx18
           have hi1 := hin.oneC
           refine za rfl <| cnil <| cseq ?_
           have hR7 : RdC intS _ _ [7] v121 x.l := hin.rdFlat (by omega) hL.now.okFlat
           refine cg <| zm rfl <| zm rfl ?_
           refine ve (Eff.call pf15 rfl (acrash_ok hA wa hR7 rfl hl)) ?_
           rintro v124 w19 ⟨c19, hM19, hA⟩
           replace hJ := hJ.mv hM19; replace hB := hB.mv hM19; replace hL := hL.mv hM19; replace hb5 := hb5.mv hM19; replace hin := hin.mv hM19; replace hR7 := hR7.mv hM19
           refine cnil <| cseq <| cg <| zm rfl <| vq (Val.fieldAddr fld34_5 rfl) <| vq (Val.loadB scl32 rfl hb5.blk rfl) ?_
           refine ve (Eff.call pf24 rfl (pcrash_ok hB wb hL rfl hl)) ?_
           rintro v128 w20 ⟨c20, hM20, hB⟩
           replace hJ := hJ.mv hM20; replace hA := hA.mv hM20; replace hL := hL.mv hM20; replace hb5 := hb5.mv hM20; replace hin := hin.mv hM20; replace hR7 := hR7.mv hM20
           refine cnil <| cseq <| cg <| zm rfl <| vq (Val.fieldAddr fld34_5 rfl) <| vq (Val.loadB scl32 rfl hb5.blk rfl) ?_
           refine ve (Eff.pureC c20 1 (Eff.call pf39 rfl (eqNumbers_ok hR7.now hL.now))) ?_
           rintro v132 w21 ⟨c21, hM21, hx21, rfl⟩
           replace hJ := hJ.mv hM21; replace hA := hA.mv hM21; replace hB := hB.mv hM21; replace hL := hL.mv hM21; replace hb5 := hb5.mv hM21; replace hin := hin.mv hM21; replace hR7 := hR7.mv hM21
           refine za rfl <| cnil ?_
           refine WC.ret1 rfl rfl ?_
           exact ⟨_, hJ.out, ⟨_, _, hA.outJ hJ, hB.outJ hJ, hr.crash x.l, by have : (crashA A x.l).changes = A.changes := rfl; omega⟩, by simp⟩
          ·try simp only [tstS] at hc24
           refine cseq <| cg <| vq (Val.eql rfl rfl) <| za rfl <| cnil ?_
           refine WC.cond rfl (fun hc30 => ?_) (fun hc30 => ?_)
           ·try simp only [tstS] at hc30
            refine cseq ?_
            have hrw := hr.lose x.d
            have hch := lose_chg A x.d
            refine WC.regionD (Kp c2 w2 [60, 61, 62, 63, 80, 81, 82, 83, 84, 85]) [0, 0, 1, 2, 2, 0, 0, 1, 2, 0, 0] [0, 1, 2, 5, 6, 7, 3, 4, 8, 9, 10] mixed (by kernel_rfl) ?_
            have hM22 := Mv.drew c2 w2 []
            have hCw := Mv.drew c2 w2 [60, 61, 62, 63, 80, 81, 82, 83, 84, 85]
            generalize w2.drew = w22 at hM22 hCw ⊢
            have hb50 := hb5
            replace hJ := hJ.mv hM22; replace hA := hA.mv hM22; replace hB := hB.mv hM22; replace hL := hL.mv hM22; replace hb5 := hb5.mv hM22
            refine zdm rfl rfl <| vd rfl (fun _ => Val.fieldAddr fld34_1 rfl) <| vc rfl hCw.kp (fun W hW => Val.loadB scl3 rfl (hb50.kp hW rfl).blk rfl) <| zdm rfl rfl <| vd rfl (fun _ => Val.fieldAddr fld34_1 rfl) <| vc rfl hCw.kp (fun W hW => Val.loadB scl3 rfl (hb50.kp hW rfl).blk rfl) ?_
            refine WD.eff rfl rfl rfl (Eff.call pf40 rfl (alose_ok hA wa)) rfl ?_
            rintro v138 w23 ⟨c23, hM23, ⟨hA, rfl⟩⟩
            refine ⟨fun hC => hC.step hCw hM23 rfl, ?_⟩
            replace hCw := hCw.tr hM23 rfl
            replace hJ := hJ.mv hM23; replace hB := hB.mv hM23; replace hL := hL.mv hM23; replace hb5 := hb5.mv hM23
            rw [hrw.2]
            refine WD.eff rfl rfl rfl (Eff.pureC c23 1 (Eff.call pf10 rfl (num10_ok _))) rfl ?_
            rintro v139 w24 ⟨c24, hM24, hx24, rfl⟩
            refine ⟨fun hC => hC.step hCw hM24 rfl, ?_⟩
            replace hCw := hCw.tr hM24 rfl
            replace hJ := hJ.mv hM24; replace hA := hA.mv hM24; replace hB := hB.mv hM24; replace hL := hL.mv hM24; replace hb5 := hb5.mv hM24
            refine WD.eff rfl rfl rfl (Eff.call pf41 rfl (plose_ok hB wb)) rfl ?_
            rintro v143 w25 ⟨c25, hM25, ⟨hB, rfl⟩⟩
            refine ⟨fun hC => hC.step hCw hM25 rfl, ?_⟩
            replace hCw := hCw.tr hM25 rfl
            replace hJ := hJ.mv hM25; replace hA := hA.mv hM25; replace hL := hL.mv hM25; replace hb5 := hb5.mv hM25
            refine vd rfl (fun _ => Val.eql rfl rfl) <| zda rfl rfl ?_
            refine WD.nil ?_
            clear hb50
            clear hCw
            refine WC.ret1 rfl rfl ?_
            exact ⟨_, hJ.out, ⟨_, _, hA.outJ hJ, hB.outJ hJ, hrw.1, by omega⟩, by simp⟩
           ·try simp only [tstS] at hc30
            refine cseq <| cg <| vq (Val.eql rfl rfl) <| za rfl <| cnil ?_
            refine WC.cond rfl (fun hc32 => ?_) (fun hc32 => ?_)
            ·try simp only [tstS] at hc32
             refine cseq ?_
             have hrw := hr.replace x.d
             have hch := replace_chg A x.d
             refine WC.regionD (Kp c2 w2 [60, 61, 62, 63, 80, 81, 82, 83, 84, 85]) [0, 0, 1, 2, 2, 0, 0, 1, 2, 0, 0] [0, 1, 2, 5, 6, 7, 3, 4, 8, 9, 10] mixed (by kernel_rfl) ?_
             have hM26 := Mv.drew c2 w2 []
             have hCw := Mv.drew c2 w2 [60, 61, 62, 63, 80, 81, 82, 83, 84, 85]
             generalize w2.drew = w26 at hM26 hCw ⊢
             have hb50 := hb5
             replace hJ := hJ.mv hM26; replace hA := hA.mv hM26; replace hB := hB.mv hM26; replace hL := hL.mv hM26; replace hb5 := hb5.mv hM26
             refine zdm rfl rfl <| vd rfl (fun _ => Val.fieldAddr fld34_1 rfl) <| vc rfl hCw.kp (fun W hW => Val.loadB scl3 rfl (hb50.kp hW rfl).blk rfl) <| zdm rfl rfl <| vd rfl (fun _ => Val.fieldAddr fld34_1 rfl) <| vc rfl hCw.kp (fun W hW => Val.loadB scl3 rfl (hb50.kp hW rfl).blk rfl) ?_
             refine WD.eff rfl rfl rfl (Eff.call pf42 rfl (areplace_ok hA wa)) rfl ?_
             rintro v150 w27 ⟨c27, hM27, ⟨hA, rfl⟩⟩
             refine ⟨fun hC => hC.step hCw hM27 rfl, ?_⟩
             replace hCw := hCw.tr hM27 rfl
             replace hJ := hJ.mv hM27; replace hB := hB.mv hM27; replace hL := hL.mv hM27; replace hb5 := hb5.mv hM27
             rw [hrw.2]
             refine WD.eff rfl rfl rfl (Eff.pureC c27 1 (Eff.call pf10 rfl (num10_ok _))) rfl ?_
             rintro v151 w28 ⟨c28, hM28, hx28, rfl⟩
             refine ⟨fun hC => hC.step hCw hM28 rfl, ?_⟩
             replace hCw := hCw.tr hM28 rfl
             replace hJ := hJ.mv hM28; replace hA := hA.mv hM28; replace hB := hB.mv hM28; replace hL := hL.mv hM28; replace hb5 := hb5.mv hM28
             refine WD.eff rfl rfl rfl (Eff.call pf43 rfl (preplace_ok hB wb)) rfl ?_
             rintro v155 w29 ⟨c29, hM29, ⟨hB, rfl⟩⟩
             refine ⟨fun hC => hC.step hCw hM29 rfl, ?_⟩
             replace hCw := hCw.tr hM29 rfl
             replace hJ := hJ.mv hM29; replace hA := hA.mv hM29; replace hL := hL.mv hM29; replace hb5 := hb5.mv hM29
             refine vd rfl (fun _ => Val.eql rfl rfl) <| zda rfl rfl ?_
             refine WD.nil ?_
             clear hb50
             clear hCw
             refine WC.ret1 rfl rfl ?_
             exact ⟨_, hJ.out, ⟨_, _, hA.outJ hJ, hB.outJ hJ, hrw.1, by omega⟩, by simp⟩
            ·try simp only [tstS] at hc32
             refine cseq ?_
             have hrw := hr.flip x.d x.n
             have hch := flip_chg A x.d x.n
             refine WC.regionD (Kp c2 w2 [60, 61, 62, 63, 80, 81, 82, 83, 84, 85]) [0, 0, 1, 0, 1, 2, 2, 0, 0, 1, 0, 1, 2, 0, 0] [0, 1, 2, 3, 4, 7, 8, 9, 10, 11, 5, 6, 12, 13, 14] mixed (by kernel_rfl) ?_
             have hM30 := Mv.drew c2 w2 []
             have hCw := Mv.drew c2 w2 [60, 61, 62, 63, 80, 81, 82, 83, 84, 85]
             generalize w2.drew = w30 at hM30 hCw ⊢
             have hb50 := hb5
             replace hJ := hJ.mv hM30; replace hA := hA.mv hM30; replace hB := hB.mv hM30; replace hL := hL.mv hM30; replace hb5 := hb5.mv hM30
             refine zdm rfl rfl <| vd rfl (fun _ => Val.fieldAddr fld34_1 rfl) <| vc rfl hCw.kp (fun W hW => Val.loadB scl3 rfl (hb50.kp hW rfl).blk rfl) <| vd rfl (fun _ => Val.fieldAddr fld34_3 rfl) <| vc rfl hCw.kp (fun W hW => Val.loadB scl3 rfl (hb50.kp hW rfl).blk rfl) <| zdm rfl rfl <| vd rfl (fun _ => Val.fieldAddr fld34_1 rfl) <| vc rfl hCw.kp (fun W hW => Val.loadB scl3 rfl (hb50.kp hW rfl).blk rfl) <| vd rfl (fun _ => Val.fieldAddr fld34_3 rfl) ?_
             refine vc rfl hCw.kp (fun W hW => Val.loadB scl3 rfl (hb50.kp hW rfl).blk rfl) ?_
             refine WD.eff rfl rfl rfl (Eff.call pf17 rfl (aflip_ok hA wa x4b)) rfl ?_
             rintro v22 w31 ⟨c31, hM31, ⟨hA, rfl⟩⟩
             refine ⟨fun hC => hC.step hCw hM31 rfl, ?_⟩
             replace hCw := hCw.tr hM31 rfl
             replace hJ := hJ.mv hM31; replace hB := hB.mv hM31; replace hL := hL.mv hM31; replace hb5 := hb5.mv hM31
             rw [hrw.2]
             refine WD.eff rfl rfl rfl (Eff.pureC c31 1 (Eff.call pf10 rfl (num10_ok _))) rfl ?_
             rintro v23 w32 ⟨c32, hM32, hx32, rfl⟩
             refine ⟨fun hC => hC.step hCw hM32 rfl, ?_⟩
             replace hCw := hCw.tr hM32 rfl
             replace hJ := hJ.mv hM32; replace hA := hA.mv hM32; replace hB := hB.mv hM32; replace hL := hL.mv hM32; replace hb5 := hb5.mv hM32
             refine WD.eff rfl rfl rfl (Eff.call pf44 rfl (pflip_ok hB wb x4b)) rfl ?_
             rintro v29 w33 ⟨c33, hM33, ⟨hB, rfl⟩⟩
             refine ⟨fun hC => hC.step hCw hM33 rfl, ?_⟩
             replace hCw := hCw.tr hM33 rfl
             replace hJ := hJ.mv hM33; replace hA := hA.mv hM33; replace hL := hL.mv hM33; replace hb5 := hb5.mv hM33
             refine vd rfl (fun _ => Val.eql rfl rfl) <| zda rfl rfl ?_
             refine WD.nil ?_
             clear hb50
             clear hCw
             refine WC.ret1 rfl rfl ?_
             exact ⟨_, hJ.out, ⟨_, _, hA.outJ hJ, hB.outJ hJ, hrw.1, by omega⟩, by simp⟩
end Go.Proofs.Ytjddnaefmikccaa
