/- Which record bytes are: the page. No condition. -/
import Derived.Test.YthlfolpcmcejkaaRec11
set_option linter.unusedSimpArgs false
set_option linter.unusedVariables false
set_option maxRecDepth 100000
namespace Go.Proofs.Ythlfolpcmcejkaa
open Go Go.Eng Go.RowKit Silo TryT

theorem qtake_own {w : World} (s0 : List UInt8) (hs : s0.length ≤ 1073741824) :
    Calls Try.prog 24 #[St s0] w (Ret fun v w' => Below w.heap.size w w' ∧ ∃ cs, v = .tuple #[.agg cs.toArray, .bool (takeSpec plain s0).isSome] ∧ RecO w' w.heap.size cs ((takeSpec plain s0).getD (rec0 0))) := by
  have hK : Old w w := Old.refl w
  refine enter (n := 124) (res := #[.cell 2 31, .tmp 3]) Try.func24 rfl rfl rfl rfl ?_
  refine cseq <| cg ?_
  refine ve (Eff.alloc zero31) ?_
  rintro _ w1 ⟨b2, rfl, hn2⟩
  have hk1 := hn2.below
  replace hK := hK.up hk1
  have hb2 := hn2.blk
  refine za rfl <| cnil <| cseq ?_
  have hb2e := hn2.at_
  obtain ⟨B, hB⟩ : ∃ B, B = w1.heap.size := ⟨_, rfl⟩
  have hBw : B ≤ w1.heap.size := Nat.le_of_eq hB
  replace hb2 := hb2.fix; replace hK := Old.fix hK
  rw [← hB] at hb2 hK
  refine cg <| zm rfl <| vq (Val.build (cells := #[St s0, .bool false]) rfl (by kernel_rfl)) ?_
  refine ve (Eff.box rfl) ?_
  rintro _ w2 ⟨b14, rfl, hn14⟩
  have hk2 := hn14.below
  have hge14 : B ≤ b14 := by rw [hn14.at_]; exact hBw
  replace hb2 := hb2.upB (hk2.mono hBw); replace hK := hK.upB (hk2.mono hBw); replace hBw := Nat.le_trans hBw hk2.size
  have hb14 := hn14.blk
  refine za rfl <| cnil <| cseq <| cg <| zm rfl ?_
  have hlt14 := hb14.lt
  refine ve (Eff.call pf52 rfl (qtake_ok hb14 1 (by decide) (by omega))) ?_
  rintro _ wa ⟨hg, rfl, hR⟩
  have hka : Below B _ wa := below_of_grown hg hBw (by simp; omega)
  replace hb2 := hb2.upB hka; replace hK := hK.upB hka; replace hBw := Nat.le_trans hBw hka.size
  clear hb14
  have hb14 := hR
  have hl1 := tkT_len s0 false 1
  have hl2 := tkS_len s0 false 1
  have hlt3_b14 := hb14.lt
  refine ve (Eff.call pf36 rfl (qNumber_ok _ (by omega))) ?_
  rintro v17 w3 ⟨hk3, rfl⟩
  replace hb2 := hb2.upB (hk3.mono hBw); replace hK := hK.upB (hk3.mono hBw); replace hb14 := hb14.up hk3; replace hBw := Nat.le_trans hBw hk3.size
  refine vq (Val.build (cells := #[I (beNat (tkT s0 false 1) : Nat), I 0, St [], St [], .slice none 0 0, .slice none 0 0]) rfl (by kernel_rfl)) ?_
  refine ve (Eff.alloc zero31) ?_
  rintro _ w4 ⟨b5, rfl, hn5⟩
  have hk4 := hn5.below
  have hge5 : B ≤ b5 := by rw [hn5.at_]; exact hBw
  have hne5_b14 : b14 ≠ b5 := by have := hb14.lt; have := hn5.at_; omega
  replace hb2 := hb2.upB (hk4.mono hBw); replace hK := hK.upB (hk4.mono hBw); replace hb14 := hb14.up hk4; replace hBw := Nat.le_trans hBw hk4.size
  have hb5 := hn5.blk
  refine WR.eff_ (Eff.storeBN agg31 rfl rfl hb5 rfl rfl ones) ?_
  intro _ w5 hS5
  have hk5 : Below B _ _ := Blk.store_below hS5 hge5 hBw
  replace hb14 := hb14.grown hS5.grown (by simp; omega)
  replace hb2 := hb2.upB hk5; replace hK := hK.upB hk5; replace hBw := Nat.le_trans hBw hk5.size
  replace hb5 := hS5.blk
  refine cnil <| cseq <| cseq <| cg <| zm rfl <| vq (Val.nilCheck rfl) <| vq (Val.fieldAddr fld77_1 rfl) <| vq (Val.loadB scl4 rfl hb14 rfl) <| zm rfl ?_
  apply WR.sc false 4 (!(decide ((1 : Int) ≤ (beNat (tkT s0 false 1) : Nat)) && decide (((beNat (tkT s0 false 1) : Nat) : Int) ≤ 8))) (fun w' => Below w5.heap.size w5 w')
  case hl | hg | hu | hv | hs | hoff | hd => rfl
  case hF => exact fun _ => Below.refl _ _
  case hT =>
   intro hq9
   try simp only [tstS] at hq9
   simp only [List.take_succ_cons, List.take_zero]
   have hKsc9 : Old w5 w5 := Old.refl _
   refine WR.on rfl rfl ?_
   refine vq (Val.fieldAddr fld31_0 rfl) ?_
   refine WR.on rfl rfl ?_
   refine vq (Val.loadB scl3 rfl hb5 rfl) ?_
   refine WR.on rfl rfl ?_
   have hlt6_b14 := hb14.lt
   have hlt6_b5 := hb5.lt
   refine ve (Eff.call pf41 rfl (between_ok _ _ _)) ?_
   rintro v26 w6 ⟨hk6, rfl⟩
   replace hb2 := hb2.upB (hk6.mono hBw); replace hK := hK.upB (hk6.mono hBw); replace hb14 := hb14.up hk6; replace hb5 := hb5.up hk6; replace hKsc9 := hKsc9.up hk6; replace hBw := Nat.le_trans hBw hk6.size
   refine WR.on rfl rfl ?_
   refine vq (Val.not rfl) ?_
   exact WR.nil ⟨rfl, Sub.drop _ 4 _ rfl rfl, hKsc9⟩
  intro w7 hk7
  replace hb2 := hb2.upB (hk7.mono hBw); replace hK := hK.upB (hk7.mono hBw); replace hb14 := hb14.up hk7; replace hb5 := hb5.up hk7; replace hBw := Nat.le_trans hBw hk7.size
  refine cnil ?_
  refine WC.cond rfl (fun hc3 => ?_) (fun hc3 => ?_)
  ·skip
   refine cseq <| cg <| vq (Val.build (cells := #[I 0, I 0, St [], St [], .slice none 0 0, .slice none 0 0]) rfl (by kernel_rfl)) ?_
   refine WR.eff_ (Eff.storeBN agg31 rfl rfl hb2.2 rfl rfl ones) ?_
   intro _ wz hS
   have hbz := hS.blk
   have hKz : Below w.heap.size w wz := hK.1.trans (Blk.store_below hS (by omega) hK.1.size)
   refine za rfl <| cnil ?_
   refine WC.retR2 rfl (RVal.cellN agg31 rfl hbz rfl) (RVal.tmp rfl) ?_
   have e : takeSpec plain s0 = none := by
     cases s0 with
     | nil => rfl
     | cons k s =>
       refine takeSpec_kind fun hk => ?_
       have e1 : tkBad (k :: s) false 1 = false := by simp [tkBad]; omega
       have e2 : tkT (k :: s) false 1 = [k] := by rw [tkT, e1]; rfl
       rw [e1, e2, beNat_one] at hc3
       simp [hk.1, hk.2] at hc3
   rw [e]
   exact ⟨hKz, _, rfl, recO0 _ _⟩
  ·skip
   obtain ⟨kb, rest, rfl, hk18, e1, e2, e3⟩ : ∃ k s, s0 = k :: s ∧ (1 ≤ (k.toNat : Int) ∧ (k.toNat : Int) ≤ 8) ∧ tkBad s0 false 1 = false ∧ tkT s0 false 1 = [k] ∧ tkS s0 false 1 = s := by
     cases s0 with
     | nil => simp [tkBad] at hc3
     | cons k s =>
       have e1 : tkBad (k :: s) false 1 = false := by simp [tkBad]; omega
       have e2 : tkT (k :: s) false 1 = [k] := by rw [tkT, e1]; rfl
       have e3 : tkS (k :: s) false 1 = s := by rw [tkS, e1]; rfl
       rw [e1, e2, beNat_one] at hc3
       simp only [cond_false, Bool.or_eq_false_iff, Bool.not_eq_false', Bool.and_eq_true, decide_eq_true_eq] at hc3
       exact ⟨k, s, rfl, hc3.2, e1, e2, e3⟩
   clear hc3
   rw [e1, e3] at hb14
   rw [e2, beNat_one] at hb5 ⊢
   have hsl0 : rest.length ≤ 1073741823 := by simp at hs; omega
   refine cskip <| cseq <| cg <| vq (Val.fieldAddr fld31_0 rfl) <| vq (Val.loadB scl3 rfl hb5 rfl) ?_
   have hlt8_b14 := hb14.lt
   have hlt8_b5 := hb5.lt
   refine ve (Eff.call pf42 rfl (fieldsU_ok _ (by omega) hk18.2)) ?_
   rintro v32 w8 ⟨hk8, rfl⟩
   replace hb2 := hb2.upB (hk8.mono hBw); replace hK := hK.upB (hk8.mono hBw); replace hb14 := hb14.up hk8; replace hb5 := hb5.up hk8; replace hBw := Nat.le_trans hBw hk8.size
   refine za rfl <| cnil <| cseq <| cseq ?_
   have h := XS.mk0 (TR := 77) hBw hge14 hge5 hne5_b14 hb14 hb5 ⟨by omega, by omega⟩
   have hrel : Rel (q0 kb.toNat rest) rest false (rec0 kb.toNat) := .inr ⟨rfl, rfl⟩
   obtain ⟨L, hLe⟩ : ∃ L, L = rest.length := ⟨_, rfl⟩
   have hL30 : L ≤ 1073741823 := by omega
   have hsl : rest.length ≤ L := by omega
   have hm1 : (rec0 kb.toNat).list.length ≤ 0 := by simp [rec0]
   have hm2 : (rec0 kb.toNat).slots.length ≤ 0 := by simp [rec0]
   clear hb14 hb5
   obtain ⟨s, hse⟩ : ∃ s, s = rest := ⟨_, rfl⟩
   obtain ⟨bad, hbade⟩ : ∃ bad, bad = false := ⟨_, rfl⟩
   obtain ⟨p, hpe⟩ : ∃ p, p = rec0 (kb.toNat : Int) := ⟨_, rfl⟩
   obtain ⟨vl, hvle⟩ : ∃ v, v = Value.slice none 0 0 := ⟨_, rfl⟩
   obtain ⟨vs, hvse⟩ : ∃ v, v = Value.slice none 0 0 := ⟨_, rfl⟩
   have h : XS 77 (fun _ => False) w8 w8 B b14 b5 s bad p vl vs := by subst hse hbade hpe hvle hvse; exact h
   have hrel : Rel (q0 kb.toNat rest) s bad p := by subst hse hbade hpe; exact hrel
   have hsl : s.length ≤ L := by subst hse; exact hsl
   have hm1 : p.list.length ≤ 0 := by subst hpe; exact hm1
   have hm2 : p.slots.length ≤ 0 := by subst hpe; exact hm2
   clear hse hbade hpe hvle hvse
   have hbR := h.R; have hbX := h.X
   refine cg <| zm rfl ?_
   refine ve (Eff.call pf43 rfl (hasI_ok kb.toNat)) ?_
   rintro v34 w9 ⟨hk9, rfl⟩
   replace h := h.up hk9; replace hbR := hbR.up hk9; replace hbX := hbX.up hk9
   refine cnil ?_
   refine WC.mono (N := fun e w' => ∃ s bad p vl vs, Sub [(4000000, .tuple #[]), (2, .pointer (some ⟨b2, 0, none⟩)), (4, .pointer (some ⟨b14, 0, none⟩)), (5, .pointer (some ⟨b5, 0, none⟩)), (6, St (fieldsU kb.toNat))] e ∧ XS 77 (fun _ => False) w8 w' B b14 b5 s bad p vl vs ∧ Rel (qStep plain kb.toNat 105 (q0 kb.toNat rest)) s bad p ∧ s.length ≤ L ∧ p.list.length ≤ 0 ∧ p.slots.length ≤ 0) ?_ ?_
   ·refine WC.cond rfl (fun hc6 => ?_) (fun hc6 => ?_)
    ·try simp only [tstS] at hc6
     refine cg <| zm rfl ?_
     refine ve (Eff.call pf53 rfl (qnumber_ok h.R (by omega))) ?_
     rintro _ wn ⟨hg, rfl, hR⟩
     replace h := h.rd hg hR; replace hbR := h.R; replace hbX := h.X
     refine vq (Val.fieldAddr fld31_1 rfl) ?_
     refine WR.eff_ (Eff.storeB scl3 rfl rfl rfl rfl h.X rfl) ?_
     rintro _ ws hS
     have hb4 := beNat4 s bad
     have h2 := h.upd (p' := { p with id := plain (beNat (tkT s bad 4)) }) hS rfl rfl ⟨by simp only [plain]; omega, by simp only [plain]; omega⟩ h.okK h.okN h.okD
     refine cnil ?_
     exact ⟨_, _, _, _, _, subs, h2, by rw [qStep_T (c := 105) hc6]; exact rel_id hrel, Nat.le_trans (tkS_len _ _ _) hsl, hm1, hm2⟩
    ·try simp only [tstS] at hc6
     refine cskip ?_
     exact ⟨s, bad, p, vl, vs, subs, h, by rw [qStep_F (c := 105) hc6]; exact hrel, hsl, (by omega), (by omega)⟩
   ·skip
    clear h hbR hbX hrel hsl hm1 hm2 s bad p vl vs
    rintro _ wc6 ⟨s, bad, p, vl, vs, hsub, h, hrel, hsl, hm1, hm2⟩
    refine WC.sub hsub ?_
    clear hsub
    have hbR := h.R; have hbX := h.X
    refine cseq <| cseq <| cg <| zm rfl ?_
    refine ve (Eff.call pf43 rfl (hasN_ok kb.toNat)) ?_
    rintro v39 w10 ⟨hk10, rfl⟩
    replace h := h.up hk10; replace hbR := hbR.up hk10; replace hbX := hbX.up hk10
    refine cnil ?_
    refine WC.mono (N := fun e w' => ∃ s bad p vl vs, Sub [(4000000, .tuple #[]), (2, .pointer (some ⟨b2, 0, none⟩)), (4, .pointer (some ⟨b14, 0, none⟩)), (5, .pointer (some ⟨b5, 0, none⟩)), (6, St (fieldsU kb.toNat))] e ∧ XS 77 (fun _ => False) w8 w' B b14 b5 s bad p vl vs ∧ Rel (qStep plain kb.toNat 110 (qStep plain kb.toNat 105 (q0 kb.toNat rest))) s bad p ∧ s.length ≤ L ∧ p.list.length ≤ 0 ∧ p.slots.length ≤ 0) ?_ ?_
    ·refine WC.cond rfl (fun hc8 => ?_) (fun hc8 => ?_)
     ·try simp only [tstS] at hc8
      refine cg <| zm rfl <| zm rfl ?_
      refine ve (Eff.call pf52 rfl (qtake_ok h.R 1 (by decide) (by omega))) ?_
      rintro _ wn ⟨hg, rfl, hR⟩
      replace h := h.rd hg hR; replace hbR := h.R; replace hbX := h.X
      have hl1 := tkT_len s bad 1
      have hl2 := tkS_len s bad 1
      refine ve (Eff.call pf36 rfl (qNumber_ok _ (by omega))) ?_
      rintro v43 w11 ⟨hk11, rfl⟩
      replace h := h.up hk11; replace hbR := hbR.up hk11; replace hbX := hbX.up hk11
      refine ve (Eff.call pf52 rfl (qtake_ok h.R _ (by omega) (by omega))) ?_
      rintro _ wm ⟨hg, rfl, hR⟩
      replace h := h.rd hg hR; replace hbR := h.R; replace hbX := h.X
      have hl3 := tkS_len (tkS s bad 1) (tkBad s bad 1) (beNat (tkT s bad 1))
      have hl4 := tkT_len2 (tkS s bad 1) (tkBad s bad 1) (beNat (tkT s bad 1))
      refine vq (Val.fieldAddr fld31_2 rfl) ?_
      refine WR.eff_ (Eff.storeB scl9 rfl rfl rfl rfl h.X rfl) ?_
      rintro _ ws hS
      have h2 := h.upd (p' := { p with name := tkT (tkS s bad 1) (tkBad s bad 1) (beNat (tkT s bad 1)) }) hS rfl rfl h.okI h.okK (by simp; omega) h.okD
      refine cnil ?_
      exact ⟨_, _, _, _, _, subs, h2, by rw [qStep_T (c := 110) hc8]; exact rel_name hrel, by omega, hm1, hm2⟩
     ·try simp only [tstS] at hc8
      refine cskip ?_
      exact ⟨s, bad, p, vl, vs, subs, h, by rw [qStep_F (c := 110) hc8]; exact hrel, hsl, (by omega), (by omega)⟩
    ·skip
     clear h hbR hbX hrel hsl hm1 hm2 s bad p vl vs
     rintro _ wc8 ⟨s, bad, p, vl, vs, hsub, h, hrel, hsl, hm1, hm2⟩
     refine WC.sub hsub ?_
     clear hsub
     have hbR := h.R; have hbX := h.X
     refine cseq <| cseq <| cg <| zm rfl ?_
     refine ve (Eff.call pf43 rfl (hasD_ok kb.toNat)) ?_
     rintro v47 w12 ⟨hk12, rfl⟩
     replace h := h.up hk12; replace hbR := hbR.up hk12; replace hbX := hbX.up hk12
     refine cnil ?_
     refine WC.mono (N := fun e w' => ∃ s bad p vl vs, Sub [(4000000, .tuple #[]), (2, .pointer (some ⟨b2, 0, none⟩)), (4, .pointer (some ⟨b14, 0, none⟩)), (5, .pointer (some ⟨b5, 0, none⟩)), (6, St (fieldsU kb.toNat))] e ∧ XS 77 (fun _ => False) w8 w' B b14 b5 s bad p vl vs ∧ Rel (qStep plain kb.toNat 100 (qStep plain kb.toNat 110 (qStep plain kb.toNat 105 (q0 kb.toNat rest)))) s bad p ∧ s.length ≤ L ∧ p.list.length ≤ 0 ∧ p.slots.length ≤ 0) ?_ ?_
     ·refine WC.cond rfl (fun hc10 => ?_) (fun hc10 => ?_)
      ·try simp only [tstS] at hc10
       refine cg <| zm rfl ?_
       refine ve (Eff.call pf52 rfl (qtake_ok h.R 32 (by decide) (by omega))) ?_
       rintro _ wn ⟨hg, rfl, hR⟩
       replace h := h.rd hg hR; replace hbR := h.R; replace hbX := h.X
       have hl1 := tkT_len2 s bad 32
       refine vq (Val.fieldAddr fld31_3 rfl) ?_
       refine WR.eff_ (Eff.storeB scl9 rfl rfl rfl rfl h.X rfl) ?_
       rintro _ ws hS
       have h2 := h.upd (p' := { p with digest := tkT s bad 32 }) hS rfl rfl h.okI h.okK h.okN (by simp; omega)
       refine cnil ?_
       exact ⟨_, _, _, _, _, subs, h2, by rw [qStep_T (c := 100) hc10]; exact rel_dig hrel, Nat.le_trans (tkS_len _ _ _) hsl, hm1, hm2⟩
      ·try simp only [tstS] at hc10
       refine cskip ?_
       exact ⟨s, bad, p, vl, vs, subs, h, by rw [qStep_F (c := 100) hc10]; exact hrel, hsl, (by omega), (by omega)⟩
     ·skip
      clear h hbR hbX hrel hsl hm1 hm2 s bad p vl vs
      rintro _ wc10 ⟨s, bad, p, vl, vs, hsub, h, hrel, hsl, hm1, hm2⟩
      refine WC.sub hsub ?_
      clear hsub
      have hbR := h.R; have hbX := h.X
      refine cseq <| cseq <| cg <| zm rfl ?_
      refine ve (Eff.call pf43 rfl (hasL_ok kb.toNat)) ?_
      rintro v52 w13 ⟨hk13, rfl⟩
      replace h := h.up hk13; replace hbR := hbR.up hk13; replace hbX := hbX.up hk13
      refine cnil ?_
      refine WC.mono (N := fun e w' => ∃ s bad p vl vs, Sub [(4000000, .tuple #[]), (2, .pointer (some ⟨b2, 0, none⟩)), (4, .pointer (some ⟨b14, 0, none⟩)), (5, .pointer (some ⟨b5, 0, none⟩)), (6, St (fieldsU kb.toNat))] e ∧ XS 77 (fun _ => False) w8 w' B b14 b5 s bad p vl vs ∧ Rel (qStep plain kb.toNat 108 (qStep plain kb.toNat 100 (qStep plain kb.toNat 110 (qStep plain kb.toNat 105 (q0 kb.toNat rest))))) s bad p ∧ s.length ≤ L ∧ p.list.length ≤ L + 1 ∧ p.slots.length ≤ 0) ?_ ?_
      ·refine WC.cond rfl (fun hc12 => ?_) (fun hc12 => ?_)
       ·try simp only [tstS] at hc12
        refine cseq <| cg <| zm rfl ?_
        refine ve (Eff.call pf53 rfl (qnumber_ok h.R (by omega))) ?_
        rintro _ wn ⟨hg, rfl, hR⟩
        replace h := h.rd hg hR; replace hbR := h.R; replace hbX := h.X
        have hl2 := tkS_len s bad 4
        have hb4 := beNat4 s bad
        refine za rfl <| cnil <| cseq <| cg <| za rfl <| cnil <| cblock ?_
        have hj0 := lj_init (φ := plain) hrel
        have hq : qStep plain kb.toNat 108 (qStep plain kb.toNat 100 (qStep plain kb.toNat 110 (qStep plain kb.toNat 105 (q0 kb.toNat rest)))) = (qStep plain kb.toNat 100 (qStep plain kb.toNat 110 (qStep plain kb.toNat 105 (q0 kb.toNat rest)))).bind (pField plain 108) := qStep_T (c := 108) hc12
        rw [← hq] at hj0
        clear hq
        generalize hT : qStep plain kb.toNat 108 (qStep plain kb.toNat 100 (qStep plain kb.toNat 110 (qStep plain kb.toNat 105 (q0 kb.toNat rest)))) = T at hj0
        generalize hNe : beNat (tkT s bad 4) = n0 at hj0 hb4 ⊢
        refine WC.loop (σ := Nat × List UInt8 × Bool × Rec × Value) (fun st => [(2, .pointer (some ⟨b2, 0, none⟩)), (4, .pointer (some ⟨b14, 0, none⟩)), (5, .pointer (some ⟨b5, 0, none⟩)), (6, St (fieldsU kb.toNat)), (7, I n0), (8, I st.1)]) (fun st w' => XS 77 (fun _ => False) w8 w' B b14 b5 st.2.1 st.2.2.1 st.2.2.2.1 st.2.2.2.2 vs ∧ LJ plain T (n0 - st.1) st.2.1 st.2.2.1 st.2.2.2.1 ∧ st.1 ≤ n0 ∧ st.2.1.length ≤ L ∧ (st.2.2.1 = false → st.2.2.2.1.list.length + st.2.1.length ≤ L) ∧ st.2.2.2.1.list.length ≤ L + 1 ∧ st.2.2.2.1.slots.length ≤ 0) (fun st => n0 - st.1) (0, tkS s bad 4, tkBad s bad 4, p, vl) subs ⟨h, hj0, by simp, by dsimp only; omega, fun _ => by dsimp only; omega, by dsimp only; omega, hm2⟩ ?_
        clear h hbR hbX hrel hsl hm1 hm2 hj0 hl2 hR hg hNe s bad p vl
        rintro ⟨i, s, bad, p, vl⟩ wl ⟨h, hj, hi, hsl, hJ, hm1, hm2⟩
        dsimp only at h hj hi hsl hJ hm1 hm2 ⊢
        have hbR := h.R; have hbX := h.X
        refine cseq <| cseq ?_
        skip
        refine cg <| zm rfl <| zm rfl <| vq (Val.lss rfl rfl) <| zm rfl ?_
        apply WR.sc true 5 _ (fun w' => wl = w')
        case hl | hg | hu | hv | hs | hoff | hd => rfl
        case hF => exact fun _ => rfl
        case hT =>
         intro hq9
         try simp only [tstS] at hq9
         simp only [List.take_succ_cons, List.take_zero]
         refine WR.on rfl rfl ?_
         refine zm rfl ?_
         refine WR.on rfl rfl ?_
         refine vq (Val.nilCheck rfl) ?_
         refine WR.on rfl rfl ?_
         refine vq (Val.fieldAddr fld77_1 rfl) ?_
         refine WR.on rfl rfl ?_
         refine vq (Val.loadB scl4 rfl hbR rfl) ?_
         refine WR.on rfl rfl ?_
         refine vq (Val.not rfl) ?_
         exact WR.nil ⟨rfl, Sub.drop _ 5 _ rfl rfl, rfl⟩
        rintro _ rfl
        refine cnil ?_
        refine WC.cond rfl (fun hc15 => ?_) (fun hc15 => ?_)
        ·try simp only [tstS] at hc15
         obtain ⟨hn0, hb0⟩ := hc15
         subst hb0
         replace hJ := hJ rfl
         clear hbR hbX
         refine cskip <| cseq <| cblock ?_
         refine WC.regionD (fun W => Blk W b5 (cellsX p vl vs) TX) [0, 1, 0, 2, 2, 2, 0, 3] [0, 1, 2, 3, 4, 5, 6, 7] mixed (by kernel_rfl) ?_
         replace h := h.up (Below.refl _ _).drew
         have hC := h.X
         generalize wl.drew = wd at h hC ⊢
         refine vd rfl (fun _ => Val.fieldAddr fld31_4 rfl) <| qc rfl rfl rfl hC (fun W hW => Val.loadB scl24 rfl hW rfl) rfl <| zdm rfl rfl ?_
         refine WD.eff rfl rfl rfl (Eff.call pf53 rfl (qnumber_ok h.R (by omega))) rfl ?_
         rintro _ wn2 ⟨hg, rfl, hR⟩
         refine ⟨fun hC => hC.grown hg (fun e => h.ne (by injection e)), ?_⟩
         replace h := h.rd hg hR
         refine WD.eff rfl rfl rfl (Eff.build1 sl24 rfl rfl rfl rfl rfl) rfl ?_
         rintro _ wb ⟨b55, rfl, hnb⟩
         refine ⟨fun hC => hC.up hnb.below, ?_⟩
         replace h := h.up hnb.below
         refine WD.eff rfl rfl rfl (Eff.append sl24 rfl rfl h.L (Src.cellsAt Try.underlying24 hnb.blk.cellsAt rfl ones) (by rw [maxLen_eq]; omega) (by omega) h.hBw) rfl ?_
         intro v56 wa2 hA
         refine ⟨fun hC => hC.grown hA.grown (fun e => (h.neL b5 e).2 rfl), ?_⟩
         have hXa := h.X.grown hA.grown (fun e => (h.neL b5 e).2 rfl)
         refine vd rfl (fun _ => Val.fieldAddr fld31_4 rfl) ?_
         refine WD.wild rfl rfl rfl (Eff.storeB scl24 rfl rfl hA.own.cellsV hA.own.oneC hXa rfl) ?_
         rintro _ ws hS
         have hb4' := beNat4 s false
         have h2 := h.appL (x := plain (beNat (tkT s false 4))) hA hS ⟨by simp only [plain]; omega, by simp only [plain]; omega⟩
         refine WD.nil ?_
         refine cg <| zm rfl <| vq (Val.addI rfl rfl side side) <| za rfl <| cnil ?_
         have hl2 := tkS_len s false 4
         rw [show n0 - i = (n0 - (i + 1)) + 1 by omega] at hj
         refine ⟨(i + 1, tkS s false 4, tkBad s false 4, { p with list := p.list ++ [plain (beNat (tkT s false 4))] }, v56), subs, ⟨h2, lj_step hj, ?_, ?_, ?_, ?_, hm2⟩, ?_⟩
         · dsimp only; omega
         · dsimp only; omega
         · intro hb; have := tk4_len hb; dsimp only at hb ⊢; simp only [List.length_append, List.length_singleton]; omega
         · dsimp only; simp only [List.length_append, List.length_singleton]; omega
         · dsimp only; omega
        ·try simp only [tstS] at hc15
         refine WC.exit rfl ?_
         rw [Bool.and_eq_false_iff] at hc15
         simp only [Bool.not_eq_false', decide_eq_false_iff_not] at hc15
         exact ⟨_, _, _, _, _, subs, h, lj_exit hj (fun hb => by subst hb; simp at hc15; omega), hsl, hm1, hm2⟩
       ·try simp only [tstS] at hc12
        refine cskip ?_
        exact ⟨s, bad, p, vl, vs, subs, h, by rw [qStep_F (c := 108) hc12]; exact hrel, hsl, (by omega), (by omega)⟩
      ·skip
       clear h hbR hbX hrel hsl hm1 hm2 s bad p vl vs
       rintro _ wc12 ⟨s, bad, p, vl, vs, hsub, h, hrel, hsl, hm1, hm2⟩
       refine WC.sub hsub ?_
       clear hsub
       have hbR := h.R; have hbX := h.X
       refine cseq <| cseq <| cg <| zm rfl ?_
       refine ve (Eff.call pf43 rfl (hasS_ok kb.toNat)) ?_
       rintro v75 w14 ⟨hk14, rfl⟩
       replace h := h.up hk14; replace hbR := hbR.up hk14; replace hbX := hbX.up hk14
       refine cnil ?_
       refine WC.mono (N := fun e w' => ∃ s bad p vl vs, Sub [(4000000, .tuple #[]), (2, .pointer (some ⟨b2, 0, none⟩)), (4, .pointer (some ⟨b14, 0, none⟩)), (5, .pointer (some ⟨b5, 0, none⟩)), (6, St (fieldsU kb.toNat))] e ∧ XS 77 (fun _ => False) w8 w' B b14 b5 s bad p vl vs ∧ Rel (qStep plain kb.toNat 115 (qStep plain kb.toNat 108 (qStep plain kb.toNat 100 (qStep plain kb.toNat 110 (qStep plain kb.toNat 105 (q0 kb.toNat rest)))))) s bad p ∧ s.length ≤ L ∧ p.list.length ≤ L + 1 ∧ p.slots.length ≤ L + 1) ?_ ?_
       ·refine WC.cond rfl (fun hc18 => ?_) (fun hc18 => ?_)
        ·try simp only [tstS] at hc18
         refine cseq <| cg <| zm rfl ?_
         refine ve (Eff.call pf52 rfl (qtake_ok h.R 1 (by decide) (by omega))) ?_
         rintro _ wn ⟨hg, rfl, hR⟩
         replace h := h.rd hg hR; replace hbR := h.R; replace hbX := h.X
         have hl1 := tkT_len s bad 1
         have hl2 := tkS_len s bad 1
         have hb4 := beNat1 s bad
         refine ve (Eff.call pf36 rfl (qNumber_ok _ (by omega))) ?_
         rintro v78 w15 ⟨hk15, rfl⟩
         replace h := h.up hk15; replace hbR := hbR.up hk15; replace hbX := hbX.up hk15
         refine za rfl <| cnil <| cseq <| cg <| za rfl <| cnil <| cblock ?_
         have hj0 := sj_init (φ := plain) hrel
         have hq : qStep plain kb.toNat 115 (qStep plain kb.toNat 108 (qStep plain kb.toNat 100 (qStep plain kb.toNat 110 (qStep plain kb.toNat 105 (q0 kb.toNat rest))))) = (qStep plain kb.toNat 108 (qStep plain kb.toNat 100 (qStep plain kb.toNat 110 (qStep plain kb.toNat 105 (q0 kb.toNat rest))))).bind (pField plain 115) := qStep_T (c := 115) hc18
         rw [← hq] at hj0
         clear hq
         generalize hT : qStep plain kb.toNat 115 (qStep plain kb.toNat 108 (qStep plain kb.toNat 100 (qStep plain kb.toNat 110 (qStep plain kb.toNat 105 (q0 kb.toNat rest))))) = T at hj0
         generalize hNe : beNat (tkT s bad 1) = n0 at hj0 hb4 ⊢
         refine WC.loop (σ := Nat × List UInt8 × Bool × Rec × Value) (fun st => [(2, .pointer (some ⟨b2, 0, none⟩)), (4, .pointer (some ⟨b14, 0, none⟩)), (5, .pointer (some ⟨b5, 0, none⟩)), (6, St (fieldsU kb.toNat)), (9, I n0), (10, I st.1)]) (fun st w' => XS 77 (fun _ => False) w8 w' B b14 b5 st.2.1 st.2.2.1 st.2.2.2.1 vl st.2.2.2.2 ∧ SJ plain T (n0 - st.1) st.2.1 st.2.2.1 st.2.2.2.1 ∧ st.1 ≤ n0 ∧ st.2.1.length ≤ L ∧ (st.2.2.1 = false → st.2.2.2.1.slots.length + st.2.1.length ≤ L) ∧ st.2.2.2.1.slots.length ≤ L + 1 ∧ st.2.2.2.1.list.length ≤ L + 1) (fun st => n0 - st.1) (0, tkS s bad 1, tkBad s bad 1, p, vs) subs ⟨h, hj0, by simp, by dsimp only; omega, fun _ => by dsimp only; omega, by dsimp only; omega, hm1⟩ ?_
         clear h hbR hbX hrel hsl hm1 hm2 hj0 hl1 hl2 hR hg hNe s bad p vs
         rintro ⟨i, s, bad, p, vs⟩ wl ⟨h, hj, hi, hsl, hJ, hm2, hm1⟩
         dsimp only at h hj hi hsl hJ hm1 hm2 ⊢
         have hbR := h.R; have hbX := h.X
         refine cseq <| cseq ?_
         skip
         refine cg <| zm rfl <| zm rfl <| vq (Val.lss rfl rfl) <| zm rfl ?_
         apply WR.sc true 5 _ (fun w' => wl = w')
         case hl | hg | hu | hv | hs | hoff | hd => rfl
         case hF => exact fun _ => rfl
         case hT =>
          intro hq9
          try simp only [tstS] at hq9
          simp only [List.take_succ_cons, List.take_zero]
          refine WR.on rfl rfl ?_
          refine zm rfl ?_
          refine WR.on rfl rfl ?_
          refine vq (Val.nilCheck rfl) ?_
          refine WR.on rfl rfl ?_
          refine vq (Val.fieldAddr fld77_1 rfl) ?_
          refine WR.on rfl rfl ?_
          refine vq (Val.loadB scl4 rfl hbR rfl) ?_
          refine WR.on rfl rfl ?_
          refine vq (Val.not rfl) ?_
          exact WR.nil ⟨rfl, Sub.drop _ 5 _ rfl rfl, rfl⟩
         rintro _ rfl
         refine cnil ?_
         refine WC.cond rfl (fun hc21 => ?_) (fun hc21 => ?_)
         ·try simp only [tstS] at hc21
          obtain ⟨hn0, hb0⟩ := hc21
          subst hb0
          replace hJ := hJ rfl
          clear hbR hbX
          have hl2 := tkS_len s false 4
          have hl3 := tkS_len (tkS s false 4) (tkBad s false 4) 4
          have hb4a := beNat4 s false
          have hb4b := beNat4 (tkS s false 4) (tkBad s false 4)
          refine cskip <| cseq <| cblock <| cseq <| cg <| zm rfl ?_
          refine ve (Eff.call pf53 rfl (qnumber_ok h.R (by omega))) ?_
          rintro _ w5 ⟨hg, rfl, hR⟩
          replace h := h.rd hg hR
          refine zm rfl ?_
          refine ve (Eff.call pf53 rfl (qnumber_ok h.R (by omega))) ?_
          rintro _ w6 ⟨hg, rfl, hR⟩
          replace h := h.rd hg hR
          refine vq (Val.build (cells := #[I (beNat (tkT s false 4) : Nat), I (beNat (tkT (tkS s false 4) (tkBad s false 4) 4) : Nat)]) rfl (by kernel_rfl)) ?_
          refine ve (Eff.alloc zero66) ?_
          rintro _ w7 ⟨b11, rfl, hn11⟩
          have hRlt := h.R.lt
          have hXlt := h.X.lt
          have hbse := h.hbR
          have h8e := hn11.at_
          have h8L : ∀ k, vl.rowOf = some k → k ≠ b11 := fun k hk => by have := (h.L.lt k hk).2; omega
          have h8S : ∀ k, vs.rowOf = some k → k ≠ b11 := fun k hk => by have := (h.S.lt k hk).2; omega
          replace h := h.up hn11.below
          have hb11 := hn11.blk
          refine WR.eff_ (Eff.storeBN agg66 rfl rfl hb11 rfl rfl ones) ?_
          intro _ w88 hS7
          replace h := h.other hS7 (by omega) (by omega) (fun k hk e => h8L k hk e) (fun k hk e => h8S k hk e) (by omega) id
          replace hb11 := hS7.blk
          refine cnil <| cseq <| cseq <| cg <| vq (Val.fieldAddr fld66_0 rfl) <| vq (Val.loadB scl3 rfl hb11 rfl) <| vq (Val.eql rfl rfl) <| cnil ?_
          refine WC.cond rfl (fun hc24 => ?_) (fun hc24 => ?_)
          ·try simp only [tstS] at hc24
           refine cg <| vq (Val.fieldAddr fld66_0 rfl) ?_
           refine WR.eff_ (Eff.storeB scl3 rfl rfl rfl rfl hb11 rfl) ?_
           rintro _ w9 hS9
           replace h := h.other hS9 (by omega) (by omega) (fun k hk e => h8L k hk e) (fun k hk e => h8S k hk e) (by omega) id
           replace hb11 : Blk w9 b11 [I (minus (beNat (tkT s false 4))), I (beNat (tkT (tkS s false 4) (tkBad s false 4) 4) : Nat)] 66 := by rw [show minus (beNat (tkT s false 4)) = -1 by rw [minus, if_pos (by omega)]]; exact hS9.blk
           refine cnil ?_
           have hbX := h.X
           refine cg <| vq (Val.fieldAddr fld31_5 rfl) <| vq (Val.loadB scl29 rfl hbX rfl) <| vq (Val.loadBN agg66 rfl hb11 rfl) ?_
           refine ve (Eff.build1 sl29 rfl rfl rfl rfl rfl) ?_
           rintro _ wb ⟨b55, rfl, hnb⟩
           replace h := h.up hnb.below
           refine ve (Eff.append sl29 rfl rfl h.S (Src.cellsAt Try.underlying29 hnb.blk.cellsAt rfl ones) (by rw [maxLen_eq]; omega) (by omega) h.hBw) ?_
           intro v56 wa2 hA
           have hXa := h.X.grown hA.grown (fun e => (h.neS b5 e).2 rfl)
           refine vq (Val.fieldAddr fld31_5 rfl) ?_
           refine WR.eff_ (Eff.storeB scl29 rfl rfl hA.own.cellsV hA.own.oneC hXa rfl) ?_
           rintro _ ws hS
           have h2 := h.appS (x := (minus (beNat (tkT s false 4)), plain (beNat (tkT (tkS s false 4) (tkBad s false 4) 4)))) hA hS ⟨minus_i64 (beNat4 _ _), ⟨by simp only [plain]; omega, by simp only [plain]; omega⟩⟩
           refine cnil <| cg <| zm rfl <| vq (Val.addI rfl rfl side side) <| za rfl <| cnil ?_
           rw [show n0 - i = (n0 - (i + 1)) + 1 by omega] at hj
           refine ⟨(i + 1, tkS (tkS s false 4) (tkBad s false 4) 4, tkBad (tkS s false 4) (tkBad s false 4) 4, { p with slots := p.slots ++ [(minus (beNat (tkT s false 4)), plain (beNat (tkT (tkS s false 4) (tkBad s false 4) 4)))] }, v56), subs, ⟨h2, sj_step hj, ?_, ?_, ?_, ?_, hm1⟩, ?_⟩
           · dsimp only; omega
           · dsimp only; omega
           · intro hb
             dsimp only at hb ⊢
             simp only [List.length_append, List.length_singleton]
             have e1 : tkBad s false 4 = false := by
               cases e : tkBad s false 4
               · rfl
               · rw [e] at hb; cases hb
             have := tk4_len e1; omega
           · dsimp only; simp only [List.length_append, List.length_singleton]; omega
           · dsimp only; omega
          ·try simp only [tstS] at hc24
           replace hb11 : Blk w88 b11 [I (minus (beNat (tkT s false 4))), I (beNat (tkT (tkS s false 4) (tkBad s false 4) 4) : Nat)] 66 := by rw [show minus (beNat (tkT s false 4)) = (beNat (tkT s false 4) : Nat) by rw [minus, if_neg (by omega)]]; exact hb11
           refine cskip ?_
           have hbX := h.X
           refine cg <| vq (Val.fieldAddr fld31_5 rfl) <| vq (Val.loadB scl29 rfl hbX rfl) <| vq (Val.loadBN agg66 rfl hb11 rfl) ?_
           refine ve (Eff.build1 sl29 rfl rfl rfl rfl rfl) ?_
           rintro _ wb ⟨b55, rfl, hnb⟩
           replace h := h.up hnb.below
           refine ve (Eff.append sl29 rfl rfl h.S (Src.cellsAt Try.underlying29 hnb.blk.cellsAt rfl ones) (by rw [maxLen_eq]; omega) (by omega) h.hBw) ?_
           intro v56 wa2 hA
           have hXa := h.X.grown hA.grown (fun e => (h.neS b5 e).2 rfl)
           refine vq (Val.fieldAddr fld31_5 rfl) ?_
           refine WR.eff_ (Eff.storeB scl29 rfl rfl hA.own.cellsV hA.own.oneC hXa rfl) ?_
           rintro _ ws hS
           have h2 := h.appS (x := (minus (beNat (tkT s false 4)), plain (beNat (tkT (tkS s false 4) (tkBad s false 4) 4)))) hA hS ⟨minus_i64 (beNat4 _ _), ⟨by simp only [plain]; omega, by simp only [plain]; omega⟩⟩
           refine cnil <| cg <| zm rfl <| vq (Val.addI rfl rfl side side) <| za rfl <| cnil ?_
           rw [show n0 - i = (n0 - (i + 1)) + 1 by omega] at hj
           refine ⟨(i + 1, tkS (tkS s false 4) (tkBad s false 4) 4, tkBad (tkS s false 4) (tkBad s false 4) 4, { p with slots := p.slots ++ [(minus (beNat (tkT s false 4)), plain (beNat (tkT (tkS s false 4) (tkBad s false 4) 4)))] }, v56), subs, ⟨h2, sj_step hj, ?_, ?_, ?_, ?_, hm1⟩, ?_⟩
           · dsimp only; omega
           · dsimp only; omega
           · intro hb
             dsimp only at hb ⊢
             simp only [List.length_append, List.length_singleton]
             have e1 : tkBad s false 4 = false := by
               cases e : tkBad s false 4
               · rfl
               · rw [e] at hb; cases hb
             have := tk4_len e1; omega
           · dsimp only; simp only [List.length_append, List.length_singleton]; omega
           · dsimp only; omega
         ·try simp only [tstS] at hc21
          refine WC.exit rfl ?_
          rw [Bool.and_eq_false_iff] at hc21
          simp only [Bool.not_eq_false', decide_eq_false_iff_not] at hc21
          exact ⟨_, _, _, _, _, subs, h, sj_exit hj (fun hb => by subst hb; simp at hc21; omega), hsl, hm1, hm2⟩
        ·try simp only [tstS] at hc18
         refine cskip ?_
         exact ⟨s, bad, p, vl, vs, subs, h, by rw [qStep_F (c := 115) hc18]; exact hrel, hsl, (by omega), (by omega)⟩
       ·skip
        clear h hbR hbX hrel hsl hm1 hm2 s bad p vl vs
        rintro _ wc18 ⟨s, bad, p, vl, vs, hsub, h, hrel, hsl, hm1, hm2⟩
        refine WC.sub hsub ?_
        clear hsub
        have hbR := h.R; have hbX := h.X
        refine cseq <| cseq ?_
        have hspec : takeSpec plain (kb :: rest) = if bad = false ∧ s = [] ∧ mayB p = true then some p else none := by
          rw [← take_end hrel]
          show (pFields plain (fieldsB kb.toNat) (rec0 kb.toNat, rest)).bind pEnd = _
          rw [q5_eq plain hk18]; rfl
        refine cg <| zm rfl <| vq (Val.nilCheck rfl) <| vq (Val.fieldAddr fld77_1 rfl) <| vq (Val.loadB scl4 rfl hbR rfl) <| zm rfl ?_
        apply WR.sc false 5 _ (fun w' => wc18 = w')
        case hl | hg | hu | hv | hs | hoff | hd => rfl
        case hF => exact fun _ => rfl
        case hT =>
         intro hq10
         try simp only [tstS] at hq10
         simp only [List.take_succ_cons, List.take_zero]
         refine WR.on rfl rfl ?_
         refine zm rfl ?_
         refine WR.on rfl rfl ?_
         refine vq (Val.nilCheck rfl) ?_
         refine WR.on rfl rfl ?_
         refine vq (Val.fieldAddr fld77_0 rfl) ?_
         refine WR.on rfl rfl ?_
         refine vq (Val.loadB scl9 rfl hbR rfl) ?_
         refine WR.on rfl rfl ?_
         refine vq (Val.sne rfl rfl) ?_
         exact WR.nil ⟨rfl, Sub.drop _ 5 _ rfl rfl, rfl⟩
        rintro _ rfl
        refine zm rfl ?_
        apply WR.sc false 3 (!mayB p) (fun w' => Below wc18.heap.size wc18 w')
        case hl | hg | hu | hv | hs | hoff | hd => rfl
        case hF => exact fun _ => Below.refl _ _
        case hT =>
         intro hq15
         try simp only [tstS] at hq15
         simp only [List.take_succ_cons, List.take_zero]
         have hKsc15 : Old wc18 wc18 := Old.refl _
         refine WR.on rfl rfl ?_
         refine vq (Val.loadBN agg31 rfl hbX rfl) ?_
         refine WR.on rfl rfl ?_
         refine ve (Eff.call pf17 rfl (record_ok (h.rdRec (by omega) (by omega)))) ?_
         rintro v119 w16 ⟨hk16, rfl⟩
         replace h := h.up hk16; replace hbR := hbR.up hk16; replace hbX := hbX.up hk16; replace hKsc15 := hKsc15.up hk16
         refine WR.on rfl rfl ?_
         refine vq (Val.not rfl) ?_
         exact WR.nil ⟨rfl, Sub.drop _ 3 _ rfl rfl, hKsc15⟩
        intro w17 hk17
        replace h := h.up hk17; replace hbR := hbR.up hk17; replace hbX := hbX.up hk17
        refine cnil ?_
        refine WC.cond rfl (fun hc27 => ?_) (fun hc27 => ?_)
        ·skip
         refine cseq <| cg <| vq (Val.build (cells := #[I 0, I 0, St [], St [], .slice none 0 0, .slice none 0 0]) rfl (by kernel_rfl)) ?_
         have hb2' := hb2.upB h.hK
         have hK' := hK.upB h.hK
         refine WR.eff_ (Eff.storeBN agg31 rfl rfl hb2'.2 rfl rfl ones) ?_
         intro _ wz hS
         have hbz := hS.blk
         have hKz : Below w.heap.size w wz := hK'.1.trans (Blk.store_below hS (by omega) hK'.1.size)
         refine za rfl <| cnil ?_
         refine WC.retR2 rfl (RVal.cellN agg31 rfl hbz rfl) (RVal.tmp rfl) ?_
         have e : takeSpec plain (kb :: rest) = none := by
           rw [hspec, if_neg]
           rintro ⟨rfl, rfl, e⟩
           rw [e] at hc27; simp at hc27
         rw [e]
         exact ⟨hKz, _, rfl, recO0 _ _⟩
        ·skip
         refine cskip <| cseq <| cg <| vq (Val.loadBN agg31 rfl hbX rfl) ?_
         have hb2' := hb2.upB h.hK
         have hK' := hK.upB h.hK
         have o1 := h.L.oneC
         have o2 := h.S.oneC
         refine WR.eff_ (Eff.storeBN agg31 rfl rfl hb2'.2 rfl rfl ones) ?_
         intro _ wz hS
         have hbz := hS.blk
         have hKz : Below w.heap.size w wz := hK'.1.trans (Blk.store_below hS (by omega) hK'.1.size)
         have hrd : RecO wz w.heap.size (cellsX p vl vs) p := ⟨vl, vs, rfl, (h.L.grown hS.grown (fun k hk e => by have := (h.L.lt k hk).1; have := hb2.1; injection e with e; omega)).base_le (by have := hk1.size; omega), (h.S.grown hS.grown (fun k hk e => by have := (h.S.lt k hk).1; have := hb2.1; injection e with e; omega)).base_le (by have := hk1.size; omega), ⟨h.okK, h.okI, by have := h.okN; omega, by have := h.okD; omega⟩, h.okL, h.okS, by omega, by omega⟩
         refine za rfl <| cnil ?_
         refine WC.retR2 rfl (RVal.cellN agg31 rfl hbz rfl) (RVal.tmp rfl) ?_
         have e : takeSpec plain (kb :: rest) = some p := by
           rw [hspec, if_pos]
           revert hc27
           cases bad <;> cases s <;> cases mayB p <;> simp
         rw [e]
         exact ⟨hKz, _, rfl, hrd⟩
theorem qtakeRec_ok {w : World} (s0 : List UInt8) (hs : s0.length ≤ 1073741824) :
    Calls Try.prog 24 #[St s0] w (Ret fun v w' => Below w.heap.size w w' ∧ ∃ cs, v = .tuple #[.agg cs.toArray, .bool (takeSpec plain s0).isSome] ∧ RdRec w' cs ((takeSpec plain s0).getD (rec0 0))) := by
  refine (qtake_own s0 hs).mono fun e w' he => ?_
  obtain ⟨v, rfl, hb, cs, rfl, h⟩ := he
  exact ⟨_, rfl, hb, cs, rfl, h.rd⟩
end Go.Proofs.Ythlfolpcmcejkaa
