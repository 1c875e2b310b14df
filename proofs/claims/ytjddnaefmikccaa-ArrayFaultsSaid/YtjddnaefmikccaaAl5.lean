/- The disks' law, whole. No condition. -/
import Derived.Test.YtjddnaefmikccaaAl4
set_option linter.unusedSimpArgs false
set_option linter.unusedVariables false
set_option maxRecDepth 100000
namespace Go.Proofs.Ytjddnaefmikccaa
open Go Go.Eng Go.RowKit Silo TryT
theorem anew_any {c : Nat → Nat} {w : World} {n s : Int} : Calls Try.prog 9 #[I n, I s] w (Ret fun u w' => ∃ c', Mv c w c' w' [] ∧ ∃ q e, u = .tuple #[.pointer q, I e] ∧ (((1 ≤ n ∧ n ≤ 12) ∧ 1 ≤ s ∧ s ≤ 2048) ∧ q.isNone = false ∧ e = 0 ∨ ¬ ((1 ≤ n ∧ n ≤ 12) ∧ 1 ≤ s ∧ s ≤ 2048) ∧ q.isNone = true ∧ e = 1)) :=
  (anew_ok (c := c)).mono fun _ _ ⟨u, hu, c', hm, ho⟩ => by
    refine ⟨u, hu, c', hm, ?_⟩
    rcases ho with ⟨k', j', p, e1, e2, e5, e3, e4⟩ | ⟨hn, e3⟩
    · exact ⟨_, _, e3, .inl ⟨by omega, rfl, rfl⟩⟩
    · exact ⟨_, _, e3, .inr ⟨by omega, rfl, rfl⟩⟩
theorem pnew_okO {c : Nat → Nat} {w0 w : World} {k j : Nat} (_ : OldC w0 c w) (hk : k ≤ 12) (hj : 0 < j ∧ j ≤ 2048) : Calls Try.prog 21 #[I k, I j] w (Ret fun u w' => ∃ c', Mv c w c' w' [] ∧ ∃ p, u = .pointer (some ⟨p, 0, none⟩) ∧ PgC c' w' p (newA k j)) := pnew_ok hk hj
theorem int64_small {n : Int} (h0 : 0 ≤ n) (h1 : n ≤ 100000) : Go.Eng.Int64 n := ⟨by omega, by omega⟩
set_option maxHeartbeats 4000000 in
theorem arrayExact_ok {w : World} {disks sectors : Int} {vL : Value} {L : List Act10} (h0 : Rd actS w vL L) (hd64 : Go.Eng.Int64 disks) (hs64 : Go.Eng.Int64 sectors) : Calls Try.prog 4 #[.agg #[I disks, I sectors, vL]] w (Ret fun v w' => Below w.heap.size w w' ∧ v = .bool true) := by
  obtain ⟨c, hO, hc⟩ := OldC.start w
  have hL : RdC actS c w [0] vL L := Rd.toC h0 (fun k hk => by simp [hc, hasC])
  have hlen := h0.small
  have q1 := h0.oneC
  clear hc h0
  have u1 := within_lo disks 4 (by omega); have u2 := within_hi disks 4 (by omega)
  have u3 := within_lo sectors 5 (by omega); have u4 := within_hi sectors 5 (by omega)
  obtain ⟨D, hD⟩ : ∃ D : Nat, 1 + within disks 4 = D := ⟨(1 + within disks 4).toNat, by omega⟩
  obtain ⟨S, hS⟩ : ∃ S : Nat, 1 + within sectors 5 = S := ⟨(1 + within sectors 5).toNat, by omega⟩
  refine enter (n := 159) (res := #[.tmp 2]) Try.func4 rfl rfl rfl rfl ?_
  refine cseq <| cg ?_
  refine ve (Eff.boxC c 101 rfl) ?_
  rintro _ w1 ⟨b1, c1, rfl, hM1, hb1⟩
  replace hO := hO.mv hM1; replace hL := hL.mv hM1
  refine za rfl <| cnil <| cseq <| cseq <| cg <| vq (Val.loadBN agg24 rfl hb1.blk rfl) ?_
  refine ve (Eff.pureC c1 1 (Eff.call pf8 rfl (heavy10_ok hL.now))) ?_
  rintro v19 w2 ⟨c2, hM2, hx2, ⟨hv, rfl, hhv⟩⟩
  replace hO := hO.mv hM2; replace hL := hL.mv hM2; replace hb1 := hb1.mv hM2
  refine cnil ?_
  refine WC.cond rfl (fun hc1 => ?_) (fun hc1 => ?_)
  ·try simp only [tstS] at hc1
   refine cseq <| cg <| za rfl <| cnil ?_
   refine WC.ret1 rfl rfl ?_
   exact ⟨hO.below, rfl⟩
  ·try simp only [tstS] at hc1
   have hw := hhv hc1
   clear hhv
   refine cskip <| cseq <| cg <| vq (Val.fieldAddr fld24_0 rfl) <| vq (Val.loadB scl3 rfl hb1.blk rfl) <| vq (Val.fieldAddr fld24_1 rfl) <| vq (Val.loadB scl3 rfl hb1.blk rfl) ?_
   refine ve (Eff.call pf9 rfl (anew_any (c := c2) (n := disks) (s := sectors))) ?_
   rintro v25 w3 ⟨c3, hM3, ⟨q, e, rfl, hq⟩⟩
   replace hO := hO.mv hM3; replace hL := hL.mv hM3; replace hb1 := hb1.mv hM3
   refine zm rfl <| vq (Val.extract rfl rfl) <| vq (Val.extract rfl rfl) <| za rfl <| za rfl <| cnil <| cseq <| cseq <| cg ?_
   refine vq (Val.fieldAddr fld24_0 rfl) <| vq (Val.loadB scl3 rfl hb1.blk rfl) ?_
   refine ve (Eff.pureC c3 1 (Eff.call pf19 rfl (between_ok _ _ _))) ?_
   rintro v30 w4 ⟨c4, hM4, hx4, rfl⟩
   replace hO := hO.mv hM4; replace hL := hL.mv hM4; replace hb1 := hb1.mv hM4
   refine vq (Val.not rfl) <| zm rfl ?_
   apply WR.sc false 4 _ (fun w' => ∃ c', Acc c4 w4 [] c' w')
   case hl | hg | hu | hv | hs | hoff | hd => rfl
   case hF => exact fun _ => ⟨_, Acc.refl _ _ _⟩
   case hT =>
    intro hq9
    try simp only [tstS] at hq9
    simp only [List.take_succ_cons, List.take_zero]
    have hKsc9 := Acc.refl c4 w4 []
    refine WR.on rfl rfl ?_
    refine vq (Val.fieldAddr fld24_1 rfl) ?_
    refine WR.on rfl rfl ?_
    refine vq (Val.loadB scl3 rfl hb1.blk rfl) ?_
    refine WR.on rfl rfl ?_
    refine ve (Eff.pureC c4 1 (Eff.call pf19 rfl (between_ok _ _ _))) ?_
    rintro v35 w5 ⟨c5, hM5, hx5, rfl⟩
    replace hO := hO.mv hM5; replace hL := hL.mv hM5; replace hb1 := hb1.mv hM5; replace hKsc9 := hKsc9.mv hM5
    refine WR.on rfl rfl ?_
    refine vq (Val.not rfl) ?_
    exact WR.nil ⟨rfl, Sub.drop _ 4 _ rfl rfl, _, hKsc9⟩
   rintro w6 ⟨c6, ⟨hM6⟩⟩
   replace hO := hO.mv hM6; replace hL := hL.mv hM6; replace hb1 := hb1.mv hM6
   refine cnil ?_
   refine WC.mono (N := (fun e w' => ∃ c', Sub [(4000000, .tuple #[]), (1, .pointer (some ⟨b1, 0, none⟩))] e ∧ OldC w c' w' ∧ RdC actS c' w' [0] vL L ∧ BlkC c' w' 101 b1 [I disks, I sectors, vL] 24)) ?_ ?_
   ·refine WC.cond rfl (fun hc4 => ?_) (fun hc4 => ?_)
    ·try simp only [tstS] at hc4
     have hq' : q.isNone = true ∧ e = 1 := by
       rcases hq with ⟨⟨⟨a1, a2⟩, a3, a4⟩, _⟩ | ⟨_, h⟩
       · exfalso
         rw [decide_eq_true a1, decide_eq_true a2, decide_eq_true a3, decide_eq_true a4] at hc4
         simp at hc4
       · exact h
     obtain ⟨hq1, rfl⟩ := hq'
     refine cseq <| cg <| zm rfl ?_
     refine ve (Eff.pureC c6 1 (Eff.call pf10 rfl (num10_ok _))) ?_
     rintro v39 w7 ⟨c7, hM7, hx7, rfl⟩
     replace hO := hO.mv hM7; replace hL := hL.mv hM7; replace hb1 := hb1.mv hM7
     refine vq (Val.neq rfl rfl) <| zm rfl ?_
     apply WR.sc false 2 _ (fun w' => w7 = w')
     case hl | hg | hu | hv | hs | hoff | hd => rfl
     case hF => exact fun _ => rfl
     case hT =>
      intro hq6
      try simp only [tstS] at hq6
      simp only [List.take_succ_cons, List.take_zero]
      refine WR.on rfl rfl ?_
      refine zm rfl ?_
      refine WR.on rfl rfl ?_
      refine vq (Val.pnenil Try.underlying26 rfl) ?_
      rw [hq1]
      exact WR.nil ⟨rfl, Sub.drop _ 2 _ rfl rfl, rfl⟩
     rintro _ rfl
     refine cnil ?_
     refine WC.cond rfl (fun hc5 => ?_) (fun hc5 => ?_)
     ·exact absurd hc5 (by simp)
     ·try simp only [tstS] at hc5
      refine cskip ?_
      exact ⟨_, subs, hO, hL, hb1⟩
    ·try simp only [tstS] at hc4
     have hq' : q.isNone = false ∧ e = 0 := by
       rcases hq with ⟨_, h⟩ | ⟨h, _⟩
       · exact h
       · exfalso
         omega
     obtain ⟨hq1, rfl⟩ := hq'
     refine cseq <| cg <| zm rfl ?_
     refine ve (Eff.pureC c6 1 (Eff.call pf10 rfl (num10_ok _))) ?_
     rintro v46 w8 ⟨c8, hM8, hx8, rfl⟩
     replace hO := hO.mv hM8; replace hL := hL.mv hM8; replace hb1 := hb1.mv hM8
     refine vq (Val.neq rfl rfl) <| zm rfl ?_
     apply WR.sc false 2 _ (fun w' => w8 = w')
     case hl | hg | hu | hv | hs | hoff | hd => rfl
     case hF => exact fun _ => rfl
     case hT =>
      intro hq6
      try simp only [tstS] at hq6
      simp only [List.take_succ_cons, List.take_zero]
      refine WR.on rfl rfl ?_
      refine zm rfl ?_
      refine WR.on rfl rfl ?_
      refine vq (Val.peqnil Try.underlying26 rfl) ?_
      rw [hq1]
      exact WR.nil ⟨rfl, Sub.drop _ 2 _ rfl rfl, rfl⟩
     rintro _ rfl
     refine cnil ?_
     refine WC.cond rfl (fun hc7 => ?_) (fun hc7 => ?_)
     ·exact absurd hc7 (by simp)
     ·try simp only [tstS] at hc7
      refine cskip ?_
      exact ⟨_, subs, hO, hL, hb1⟩
   ·skip
    clear hO hL hb1
    rintro e8 w8 ⟨c8, hsub, hO, hL, hb1⟩
    refine WC.sub hsub ?_
    clear hsub e8
    refine cseq ?_
    refine WC.regionD (Kp c8 w8 []) [0, 1, 2, 0, 0, 1, 2, 0, 0, 0] [0, 1, 4, 5, 2, 3, 6, 7, 8, 9] mixed (by kernel_rfl) ?_
    have hM9 := Mv.drew c8 w8 []
    have hCw := Mv.drew c8 w8 []
    generalize w8.drew = w9 at hM9 hCw ⊢
    have hb10 := hb1
    replace hO := hO.mv hM9; replace hL := hL.mv hM9; replace hb1 := hb1.mv hM9
    refine vd rfl (fun _ => Val.fieldAddr fld24_0 rfl) <| vc rfl hCw.kp (fun W hW => Val.loadB scl3 rfl (hb10.kp hW rfl).blk rfl) <| vd rfl (fun _ => Val.fieldAddr fld24_1 rfl) <| vc rfl hCw.kp (fun W hW => Val.loadB scl3 rfl (hb10.kp hW rfl).blk rfl) ?_
    refine WD.eff rfl rfl rfl (Eff.pureC c8 1 (Eff.call pf20 rfl (within_ok disks 4 hd64 (by omega) (by omega)))) rfl ?_
    rintro v54 w10 ⟨c10, hM10, hx10, rfl⟩
    refine ⟨fun hC => hC.step hCw hM10 rfl, ?_⟩
    replace hCw := hCw.tr hM10 rfl
    replace hO := hO.mv hM10; replace hL := hL.mv hM10; replace hb1 := hb1.mv hM10
    refine vd rfl (fun _ => Val.addI rfl rfl (by omega) (by omega)) ?_
    rw [hD]
    refine WD.eff rfl rfl rfl (Eff.pureC c10 1 (Eff.call pf20 rfl (within_ok sectors 5 hs64 (by omega) (by omega)))) rfl ?_
    rintro v58 w11 ⟨c11, hM11, hx11, rfl⟩
    refine ⟨fun hC => hC.step hCw hM11 rfl, ?_⟩
    replace hCw := hCw.tr hM11 rfl
    replace hO := hO.mv hM11; replace hL := hL.mv hM11; replace hb1 := hb1.mv hM11
    refine vd rfl (fun _ => Val.addI rfl rfl (by omega) (by omega)) ?_
    rw [hS]
    refine zda rfl rfl <| zda rfl rfl ?_
    refine WD.nil ?_
    clear hb10
    clear hCw
    refine cseq <| cg <| zm rfl <| zm rfl ?_
    refine ve (Eff.call pf9 rfl (anew_natO hO (by omega))) ?_
    rintro v63 w12 ⟨c12, hM12, ⟨pa, rfl, hA⟩⟩
    replace hO := hO.mv hM12; replace hL := hL.mv hM12; replace hb1 := hb1.mv hM12
    refine zm rfl <| vq (Val.extract rfl rfl) <| vq (Val.extract rfl rfl) <| za rfl <| za rfl <| cnil <| cseq <| cseq <| cg ?_
    refine zm rfl ?_
    refine ve (Eff.pureC c12 1 (Eff.call pf10 rfl (num10_ok _))) ?_
    rintro v67 w13 ⟨c13, hM13, hx13, rfl⟩
    replace hO := hO.mv hM13; replace hL := hL.mv hM13; replace hb1 := hb1.mv hM13; replace hA := hA.mv hM13
    refine vq (Val.neq rfl rfl) <| zm rfl ?_
    apply WR.sc false 2 _ (fun w' => w13 = w')
    case hl | hg | hu | hv | hs | hoff | hd => rfl
    case hF => exact fun _ => rfl
    case hT =>
     intro hq6
     try simp only [tstS] at hq6
     simp only [List.take_succ_cons, List.take_zero]
     refine WR.on rfl rfl ?_
     refine zm rfl ?_
     refine WR.on rfl rfl ?_
     refine vq (Val.peqnil Try.underlying26 rfl) ?_
     exact WR.nil ⟨rfl, Sub.drop _ 2 _ rfl rfl, rfl⟩
    rintro _ rfl
    refine cnil ?_
    refine WC.cond rfl (fun hc11 => ?_) (fun hc11 => ?_)
    ·exact absurd hc11 (by simp)
    ·try simp only [tstS] at hc11
     refine cskip <| cseq <| cg <| zm rfl <| zm rfl ?_
     refine ve (Eff.call pf21 rfl (pnew_okO hO (by omega) (by omega))) ?_
     rintro v75 w14 ⟨c14, hM14, ⟨pb, rfl, hB⟩⟩
     replace hO := hO.mv hM14; replace hL := hL.mv hM14; replace hb1 := hb1.mv hM14; replace hA := hA.mv hM14
     refine za rfl <| cnil <| cseq <| cseq <| cg <| za rfl <| cnil <| cblock ?_
     have hr0 : RelA (newA D S) (newA D S) := rel_new (by omega) (by omega)
     have hBo : Both _ _ pa pb (newA D S) (newA D S) 0 := ⟨hA, hB, hr0, Nat.le_refl _⟩
     refine WC.loop (σ := Nat) (fun i => [(1, .pointer (some ⟨b1, 0, none⟩)), (5, I D), (6, I S), (7, .pointer (some ⟨pa, 0, none⟩)), (9, .pointer (some ⟨pb, 0, none⟩)), (10, I i)]) (fun i w' => (i ≤ L.length ∧ i ≤ 40) ∧ ∃ c' A B, OldC w c' w' ∧ RdC actS c' w' [0] vL L ∧ BlkC c' w' 101 b1 [I disks, I sectors, vL] 24 ∧ Both c' w' pa pb A B i) (fun i => L.length - i) 0 subs ⟨by omega, _, _, _, hO, hL, hb1, hBo⟩ ?_
     clear hO hL hb1 hA hB hBo
     rintro i wl ⟨⟨hi, hi40⟩, cl, A, B, hO, hL, hb1, hBo⟩
     refine cseq <| cseq <| cg <| zm rfl <| vq (Val.fieldAddr fld24_2 rfl) <| vq (Val.loadB scl22 rfl hb1.blk rfl) <| vq (Val.rdlen sl22 hL.now rfl) <| vq (Val.lss rfl rfl) <| zm rfl ?_
     apply WR.sc true 2 _ (fun w' => wl = w')
     case hl | hg | hu | hv | hs | hoff | hd => rfl
     case hF => exact fun _ => rfl
     case hT =>
      intro hq8
      try simp only [tstS] at hq8
      simp only [List.take_succ_cons, List.take_zero]
      refine WR.on rfl rfl ?_
      refine zm rfl ?_
      refine WR.on rfl rfl ?_
      refine vq (Val.lss rfl rfl) ?_
      exact WR.nil ⟨rfl, Sub.drop _ 2 _ rfl rfl, rfl⟩
     rintro _ rfl
     refine cnil ?_
     refine WC.cond rfl (fun hc15 => ?_) (fun hc15 => ?_)
     ·try simp only [tstS] at hc15
      have hi' : i < L.length := by omega
      have hi2 : i < 40 := by omega
      obtain ⟨cs, hc90, _, hf⟩ := RdC.el hL hi' (by decide)
      obtain ⟨vl, rfl, hl, hok⟩ := hf.now
      have hl9 : RdC intS _ _ [0] vl L[i].l := hf.imp fun w' _ ⟨vl', e1, h2, _⟩ => by simp only [List.cons.injEq] at e1; rw [e1.2.2.2.2.2.1]; exact h2
      have hsm : L[i].t.length + L[i].l.length ≤ 5000 := by
        have := Silo.sum_mem_le actW (List.getElem_mem hi')
        simp only [actW] at this hw
        omega
      clear hf
      have q2 := hl.oneC
      clear hl
      refine cskip <| cseq <| cblock <| cseq <| cg <| vq (Val.fieldAddr fld24_2 rfl) <| vq (Val.loadB scl22 rfl hb1.blk rfl) <| zm rfl <| vq (Val.indexAddr sl22 hL.now rfl rfl rfl (by omega) (by omega)) ?_
      refine vq (Val.loadE agg34 rfl hc90.cel rfl) ?_
      refine ve (Eff.allocC cl 111 zero34) ?_
      rintro _ w15 ⟨b11, c15, rfl, hM15, hb11⟩
      replace hO := hO.mv hM15; replace hL := hL.mv hM15; replace hb1 := hb1.mv hM15; replace hBo := hBo.mv hM15; replace hc90 := hc90.mv hM15; replace hl9 := hl9.mv hM15
      refine WR.eff_ (Eff.storeNC agg34 rfl rfl hb11 rfl rfl ones) ?_
      rintro _ w16 ⟨hS, hM16⟩
      replace hO := hO.mv hM16; replace hL := hL.mv hM16; replace hb1 := hb1.mv hM16; replace hBo := hBo.mv hM16; replace hc90 := hc90.mv hM16; replace hl9 := hl9.mv hM16
      replace hb11 := hS
      refine cnil <| cseq <| cseq <| cg <| zm rfl <| vq (Val.remI rfl rfl (by omega) (by omega)) <| vq (Val.gtr rfl rfl) <| cnil ?_
      refine WC.mono (N := (fun e w' => ∃ (c' : Nat → Nat) (x9 : Act10), Sub [(4000000, .tuple #[]), (1, .pointer (some ⟨b1, 0, none⟩)), (5, I D), (6, I S), (7, .pointer (some ⟨pa, 0, none⟩)), (9, .pointer (some ⟨pb, 0, none⟩)), (10, I i), (11, .pointer (some ⟨b11, 0, none⟩))] e ∧ OldC w c' w' ∧ RdC actS c' w' [0] vL L ∧ BlkC c' w' 101 b1 [I disks, I sectors, vL] 24 ∧ Both c' w' pa pb A B i ∧ RdC intS c' w' [0] vl x9.l ∧ BlkC c' w' 111 b11 [I x9.act, I x9.d, I x9.s, I x9.n, St x9.t, vl] 34 ∧ x9.ok ∧ x9.t.length + x9.l.length ≤ 5000)) ?_ ?_
      ·refine WC.cond rfl (fun hc18 => ?_) (fun hc18 => ?_)
       ·try simp only [tstS] at hc18
        obtain ⟨⟨ok1, ok2, ok3, ok4⟩, ok5⟩ := hok
        have v1 := within_lo L[i].d D (by omega); have v2 := within_hi L[i].d D (by omega)
        have v3 := within_lo L[i].s S (by omega); have v4 := within_hi L[i].s S (by omega)
        have v5 := int64_small v1 (by omega); have v6 := int64_small v3 (by omega)
        refine WC.regionD (Kp c15 w16 []) [0, 1, 0, 2, 0, 1, 0, 2, 0, 3, 0, 3] [0, 1, 2, 4, 5, 6, 3, 8, 7, 9, 10, 11] mixed (by kernel_rfl) ?_
        have hM17 := Mv.drew c15 w16 []
        have hCw := Mv.drew c15 w16 []
        generalize w16.drew = w17 at hM17 hCw ⊢
        have hb10 := hb1
        have hb110 := hb11
        replace hO := hO.mv hM17; replace hL := hL.mv hM17; replace hb1 := hb1.mv hM17; replace hBo := hBo.mv hM17; replace hl9 := hl9.mv hM17; replace hb11 := hb11.mv hM17
        refine vd rfl (fun _ => Val.fieldAddr fld34_1 rfl) <| vc rfl hCw.kp (fun W hW => Val.loadB scl3 rfl (hb110.kp hW rfl).blk rfl) <| zdm rfl rfl <| vd rfl (fun _ => Val.fieldAddr fld34_2 rfl) <| vc rfl hCw.kp (fun W hW => Val.loadB scl3 rfl (hb110.kp hW rfl).blk rfl) <| zdm rfl rfl ?_
        refine WD.eff rfl rfl rfl (Eff.pureC c15 1 (Eff.call pf20 rfl (within_ok L[i].d D ok2 (by omega) (by omega)))) rfl ?_
        rintro v98 w18 ⟨c18, hM18, hx18, rfl⟩
        refine ⟨fun hC => hC.step hCw hM18 rfl, ?_⟩
        replace hCw := hCw.tr hM18 rfl
        replace hO := hO.mv hM18; replace hL := hL.mv hM18; replace hb1 := hb1.mv hM18; replace hBo := hBo.mv hM18; replace hl9 := hl9.mv hM18; replace hb11 := hb11.mv hM18
        refine vd rfl (fun _ => Val.fieldAddr fld34_1 rfl) ?_
        refine WD.eff rfl rfl rfl (Eff.pureC c18 1 (Eff.call pf20 rfl (within_ok L[i].s S ok3 (by omega) (by omega)))) rfl ?_
        rintro v102 w19 ⟨c19, hM19, hx19, rfl⟩
        refine ⟨fun hC => hC.step hCw hM19 rfl, ?_⟩
        replace hCw := hCw.tr hM19 rfl
        replace hO := hO.mv hM19; replace hL := hL.mv hM19; replace hb1 := hb1.mv hM19; replace hBo := hBo.mv hM19; replace hl9 := hl9.mv hM19; replace hb11 := hb11.mv hM19
        refine WD.wild rfl rfl rfl (Eff.storeC scl3 rfl rfl ra ra hb11 rfl) ?_
        rintro _ w20 ⟨hS, hM20⟩
        replace hO := hO.mv hM20; replace hL := hL.mv hM20; replace hb1 := hb1.mv hM20; replace hBo := hBo.mv hM20; replace hl9 := hl9.mv hM20
        replace hb11 := hS
        refine vd rfl (fun _ => Val.fieldAddr fld34_2 rfl) ?_
        refine WD.wild rfl rfl rfl (Eff.storeC scl3 rfl rfl ra ra hb11 rfl) ?_
        rintro _ w21 ⟨hS, hM21⟩
        replace hO := hO.mv hM21; replace hL := hL.mv hM21; replace hb1 := hb1.mv hM21; replace hBo := hBo.mv hM21; replace hl9 := hl9.mv hM21
        replace hb11 := hS
        refine WD.nil ?_
        clear hb10 hb110
        clear hCw
        exact ⟨_, { L[i] with d := within L[i].d D, s := within L[i].s S }, subs, hO, hL, hb1, hBo, hl9, hb11, ⟨⟨ok1, v5, v6, ok4⟩, ok5⟩, hsm⟩
       ·try simp only [tstS] at hc18
        refine cskip ?_
        exact ⟨_, L[i], subs, hO, hL, hb1, hBo, hl9, hb11, hok, hsm⟩
      ·skip
       clear hO hL hb1 hBo hl9 hb11
       rintro e8 w8 ⟨c8, x9, hsub, hO, hL, hb1, hBo, hl9, hb11, hok9, hsm9⟩
       refine WC.sub hsub ?_
       clear hsub e8
       refine cseq <| cg <| zm rfl <| zm rfl <| vq (Val.loadBN agg34 rfl hb11.blk rfl) ?_
       refine ve (Eff.call pf22 rfl (does10_ok (x := x9) hBo (by omega) hl9 rfl (by omega) hok9 (by omega))) ?_
       rintro v108 w22 ⟨c22, hM22, ⟨⟨A2, B2, hBo⟩, rfl⟩⟩
       replace hO := hO.mv hM22; replace hL := hL.mv hM22; replace hb1 := hb1.mv hM22; replace hl9 := hl9.mv hM22; replace hb11 := hb11.mv hM22
       refine vq (Val.not rfl) <| zm rfl ?_
       apply WR.sc false 4 _ (fun w' => ∃ c', Acc c22 w22 [] c' w')
       case hl | hg | hu | hv | hs | hoff | hd => rfl
       case hF => exact fun _ => ⟨_, Acc.refl _ _ _⟩
       case hT =>
        intro hq10
        try simp only [tstS] at hq10
        simp only [List.take_succ_cons, List.take_zero]
        have hKsc10 := Acc.refl c22 w22 []
        refine WR.on rfl rfl ?_
        refine zm rfl ?_
        refine WR.on rfl rfl ?_
        refine zm rfl ?_
        refine WR.on rfl rfl ?_
        refine ve (Eff.pureC c22 1 (Eff.call pf23 rfl (holds10_ok hBo.hA hBo.hB hBo.hr (by have := hBo.chg; omega)))) ?_
        rintro v113 w23 ⟨c23, hM23, hx23, rfl⟩
        replace hO := hO.mv hM23; replace hL := hL.mv hM23; replace hb1 := hb1.mv hM23; replace hBo := hBo.mv hM23; replace hl9 := hl9.mv hM23; replace hb11 := hb11.mv hM23; replace hKsc10 := hKsc10.mv hM23
        refine WR.on rfl rfl ?_
        refine vq (Val.not rfl) ?_
        exact WR.nil ⟨rfl, Sub.drop _ 4 _ rfl rfl, _, hKsc10⟩
       rintro w24 ⟨c24, ⟨hM24⟩⟩
       replace hO := hO.mv hM24; replace hL := hL.mv hM24; replace hb1 := hb1.mv hM24; replace hBo := hBo.mv hM24; replace hl9 := hl9.mv hM24; replace hb11 := hb11.mv hM24
       refine cnil ?_
       refine WC.cond rfl (fun hc20 => ?_) (fun hc20 => ?_)
       ·exact absurd hc20 (by simp)
       ·try simp only [tstS] at hc20
        refine cskip <| cg <| zm rfl <| vq (Val.addI rfl rfl side side) <| za rfl <| cnil ?_
        exact ⟨i + 1, subs, ⟨⟨by omega, by omega⟩, _, _, _, hO, hL, hb1, hBo⟩, by omega⟩
     ·try simp only [tstS] at hc15
      refine WC.exit rfl ?_
      refine cseq <| cseq ?_
      obtain ⟨hA, hB, hr, hch⟩ := hBo
      obtain ⟨yL, yD, yC, ds, cs, hX⟩ := hB
      have hb9 := hX.hbp
      have hB := hX.shut
      clear hX
      refine cg <| zm rfl <| vq (Val.nilCheck rfl) <| vq (Val.fieldAddr fld52_5 rfl) <| vq (Val.loadB scl3 rfl hb9.blk rfl) <| vq (Val.eql rfl rfl) <| cnil ?_
      refine WC.mono (N := (fun e w' => ∃ (c' : Nat → Nat) (A B : Arr), Sub [(4000000, .tuple #[]), (5, I D), (6, I S), (7, .pointer (some ⟨pa, 0, none⟩)), (9, .pointer (some ⟨pb, 0, none⟩))] e ∧ OldC w c' w' ∧ Both c' w' pa pb A B 40)) ?_ ?_
      ·refine WC.cond rfl (fun hc22 => ?_) (fun hc22 => ?_)
       ·try simp only [tstS] at hc22
        refine cseq <| cg <| zm rfl ?_
        refine ve (Eff.call pf15 rfl (acrash_ok hA (hr.wa.wf (by omega)) (rd_nil _ _ []) rfl (by decide))) ?_
        rintro v122 w25 ⟨c25, hM25, hA⟩
        replace hO := hO.mv hM25; replace hB := hB.mv hM25
        refine cnil <| cg <| zm rfl ?_
        refine ve (Eff.call pf24 rfl (pcrash_ok hB ⟨hr.wb.wf (by rw [← hr.chg]; omega), hr.bo⟩ (rd_nil _ _ []) rfl (by decide))) ?_
        rintro v124 w26 ⟨c26, hM26, hB⟩
        replace hO := hO.mv hM26; replace hA := hA.mv hM26
        refine cnil ?_
        exact ⟨_, _, _, subs, hO, hA, hB, hr.crash [], by have : (crashA A []).changes = A.changes := rfl; omega⟩
       ·try simp only [tstS] at hc22
        refine cskip ?_
        exact ⟨_, _, _, subs, hO, hA, hB, hr, by omega⟩
      ·skip
       clear hO hA hB hb9 hr hch
       rintro e8 w8 ⟨c8, A, B, hsub, hO, hBo⟩
       refine WC.sub hsub ?_
       clear hsub e8
       refine cseq <| cseq <| cg <| za rfl <| cnil <| cblock ?_
       refine WC.loop (σ := Nat) (fun d => [(5, I D), (6, I S), (7, .pointer (some ⟨pa, 0, none⟩)), (9, .pointer (some ⟨pb, 0, none⟩)), (12, I d)]) (fun d w' => d ≤ D ∧ ∃ c', OldC w c' w' ∧ Both c' w' pa pb A B 40) (fun d => D - d) 0 subs ⟨by omega, _, hO, hBo⟩ ?_
       clear hO hBo
       rintro d wl ⟨hd, cl, hO, hBo⟩
       refine cseq <| cseq <| cg <| zm rfl <| zm rfl <| vq (Val.lss rfl rfl) <| cnil ?_
       refine WC.cond rfl (fun hc26 => ?_) (fun hc26 => ?_)
       ·try simp only [tstS] at hc26
        refine cskip <| cseq <| cblock <| cseq <| cg <| za rfl <| cnil <| cblock ?_
        refine WC.loop (σ := Nat) (fun s => [(5, I D), (6, I S), (7, .pointer (some ⟨pa, 0, none⟩)), (9, .pointer (some ⟨pb, 0, none⟩)), (12, I d), (13, I s)]) (fun s w' => s ≤ S ∧ ∃ c', OldC w c' w' ∧ Both c' w' pa pb A B 40) (fun s => S - s) 0 subs ⟨by omega, _, hO, hBo⟩ ?_
        clear hO hBo
        rintro s wm ⟨hs, cm, hO, hBo⟩
        have hrr := hBo.hr
        have hch := hBo.chg
        refine cseq <| cseq <| cg <| zm rfl <| zm rfl <| vq (Val.lss rfl rfl) <| cnil ?_
        refine WC.cond rfl (fun hc29 => ?_) (fun hc29 => ?_)
        ·try simp only [tstS] at hc29
         refine cskip <| cseq <| cblock <| cseq <| cg <| zm rfl <| zm rfl <| zm rfl ?_
         refine ve (Eff.pureC cm 1 (Eff.call pf16 rfl (aread_ok (d := d) (s := s) hBo.hA (hrr.wa.wf (by omega))))) ?_
         rintro v139 w27 ⟨c27, hM27, hx27, rfl⟩
         replace hO := hO.mv hM27; replace hBo := hBo.mv hM27
         rw [hrr.read]
         refine zm rfl <| vq (Val.extract rfl rfl) <| vq (Val.extract rfl rfl) <| za rfl <| za rfl <| cnil <| cseq <| cg <| zm rfl ?_
         refine zm rfl <| zm rfl ?_
         refine ve (Eff.pureC c27 1 (Eff.call pf25 rfl (pread_ok (d := d) (s := s) hBo.hB ⟨hrr.wb.wf (by rw [← hrr.chg]; omega), hrr.bo⟩))) ?_
         rintro v146 w28 ⟨c28, hM28, hx28, rfl⟩
         replace hO := hO.mv hM28; replace hBo := hBo.mv hM28
         refine zm rfl <| vq (Val.extract rfl rfl) <| vq (Val.extract rfl rfl) <| za rfl <| za rfl <| cnil <| cseq <| cg <| zm rfl ?_
         refine ve (Eff.pureC c28 1 (Eff.call pf10 rfl (num10_ok _))) ?_
         rintro v150 w29 ⟨c29, hM29, hx29, rfl⟩
         replace hO := hO.mv hM29; replace hBo := hBo.mv hM29
         refine zm rfl <| vq (Val.neq rfl rfl) <| zm rfl ?_
         apply WR.sc false 3 _ (fun w' => w29 = w')
         case hl | hg | hu | hv | hs | hoff | hd => rfl
         case hF => exact fun _ => rfl
         case hT =>
          intro hq8
          try simp only [tstS] at hq8
          simp only [List.take_succ_cons, List.take_zero]
          refine WR.on rfl rfl ?_
          refine zm rfl ?_
          refine WR.on rfl rfl ?_
          refine zm rfl ?_
          refine WR.on rfl rfl ?_
          refine vq (Val.sne rfl rfl) ?_
          exact WR.nil ⟨rfl, Sub.drop _ 3 _ rfl rfl, rfl⟩
         rintro _ rfl
         refine cnil ?_
         refine WC.cond rfl (fun hc33 => ?_) (fun hc33 => ?_)
         ·exact absurd hc33 (by simp)
         ·try simp only [tstS] at hc33
          refine cskip <| cg <| zm rfl <| vq (Val.addI rfl rfl side side) <| za rfl <| cnil ?_
          exact ⟨s + 1, subs, ⟨by omega, _, hO, hBo⟩, by omega⟩
        ·try simp only [tstS] at hc29
         refine WC.exit rfl ?_
         refine cg <| zm rfl <| vq (Val.addI rfl rfl side side) <| za rfl <| cnil ?_
         exact ⟨d + 1, subs, ⟨by omega, _, hO, hBo⟩, by omega⟩
       ·try simp only [tstS] at hc26
        refine WC.exit rfl ?_
        refine cseq <| cg ?_
        refine ve (Eff.pureC cl 1 (Eff.call pf18 rfl (wakes10_ok))) ?_
        rintro v158 w30 ⟨c30, hM30, hx30, rfl⟩
        replace hO := hO.mv hM30; replace hBo := hBo.mv hM30
        refine za rfl <| cnil ?_
        refine WC.ret1 rfl rfl ?_
        exact ⟨hO.below, rfl⟩
end Go.Proofs.Ytjddnaefmikccaa
