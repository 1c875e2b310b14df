/- Whether a record may be: both sides. No condition. -/
import Derived.Test.YthlfolpcmcejkaaRec3
import Derived.Test.YthlfolpcmcejkaaMore
set_option linter.unusedSimpArgs false
set_option linter.unusedVariables false
set_option maxRecDepth 100000
namespace Go.Proofs.Ythlfolpcmcejkaa
open Go Go.Eng Go.RowKit Silo TryT

theorem may_ok {w : World} {cs : List Value} {r : Rec} (h : RdRec w cs r) : Calls Try.prog 44 #[.agg cs.toArray] w (Ret fun v w' => Below w.heap.size w w' ∧ v = .bool (mayB r)) := by
  obtain ⟨vl, vs, rfl, hl, hs, hq⟩ := h
  have hK : Old w w := Old.refl w
  have o1 := hl.oneC
  have o2 := hs.oneC
  refine enter (n := 108) (res := #[.tmp 2]) Try.func44 rfl rfl rfl rfl ?_
  refine cseq <| cg ?_
  refine ve (Eff.box rfl) ?_
  rintro _ w1 ⟨b1, rfl, hn1⟩
  have hk1 := hn1.below
  replace hl := hl.up hk1; replace hs := hs.up hk1; replace hK := hK.up hk1
  have hb1 := hn1.blk
  refine za rfl <| cnil <| cseq <| cg <| vq (Val.fieldAddr fld31_0 rfl) <| vq (Val.loadB scl3 rfl hb1 rfl) <| za rfl <| cnil <| cseq ?_
  refine cseq <| cg <| zm rfl <| vq (Val.lss rfl rfl) <| zm rfl ?_
  apply WR.sc false 2 _ (fun w' => w1 = w')
  case hl | hg | hu | hv | hs | hoff | hd => rfl
  case hF => exact fun _ => rfl
  case hT =>
   intro hq5
   try simp only [tstS] at hq5
   simp only [List.take_succ_cons, List.take_zero]
   refine WR.on rfl rfl ?_
   refine zm rfl ?_
   refine WR.on rfl rfl ?_
   refine vq (Val.gtr rfl rfl) ?_
   exact WR.nil ⟨rfl, Sub.drop _ 2 _ rfl rfl, rfl⟩
  rintro _ rfl
  refine cnil ?_
  refine WC.cond rfl (fun hc2 => ?_) (fun hc2 => ?_)
  ·skip
   refine cseq <| cg <| za rfl <| cnil ?_
   refine WC.ret1 rfl rfl ?_
   have e : kindBad r = true := hc2
   exact ⟨hK, by rw [mayB_prog, e]; rfl⟩
  ·skip
   refine cskip <| cseq <| cseq <| cg <| zm rfl ?_
   refine ve (Eff.call pf60 rfl (has_ok r.kind 105)) ?_
   rintro v13 w2 ⟨hk2, rfl⟩
   replace hl := hl.up hk2; replace hs := hs.up hk2; replace hK := hK.up hk2; replace hb1 := hb1.up hk2
   refine zm rfl ?_
   apply WR.sc true 4 (!numB r.id) (fun w' => Below w2.heap.size w2 w')
   case hl | hg | hu | hv | hs | hoff | hd => rfl
   case hF => exact fun _ => Below.refl _ _
   case hT =>
    intro hq7
    try simp only [tstS] at hq7
    simp only [List.take_succ_cons, List.take_zero]
    have hKsc7 : Old w2 w2 := Old.refl _
    refine WR.on rfl rfl ?_
    refine vq (Val.fieldAddr fld31_1 rfl) ?_
    refine WR.on rfl rfl ?_
    refine vq (Val.loadB scl3 rfl hb1 rfl) ?_
    refine WR.on rfl rfl ?_
    refine ve (Eff.call pf54 rfl (number_ok r.id)) ?_
    rintro v17 w3 ⟨hk3, rfl⟩
    replace hl := hl.up hk3; replace hs := hs.up hk3; replace hK := hK.up hk3; replace hb1 := hb1.up hk3; replace hKsc7 := hKsc7.up hk3
    refine WR.on rfl rfl ?_
    refine vq (Val.not rfl) ?_
    exact WR.nil ⟨rfl, Sub.drop _ 4 _ rfl rfl, hKsc7⟩
   intro w4 hk4
   replace hl := hl.up hk4; replace hs := hs.up hk4; replace hK := hK.up hk4; replace hb1 := hb1.up hk4
   refine zm rfl ?_
   apply WR.sc false 14 (hasB r.kind 110 && (decide ((r.name.length : Int) < 1) || decide (40 < (r.name.length : Int)))) (fun w' => Below w4.heap.size w4 w')
   case hl | hg | hu | hv | hs | hoff | hd => rfl
   case hF => exact fun _ => Below.refl _ _
   case hT =>
    intro hq23
    try simp only [tstS] at hq23
    simp only [List.take_succ_cons, List.take_zero]
    have hKsc23 : Old w4 w4 := Old.refl _
    refine WR.on rfl rfl ?_
    refine zm rfl ?_
    refine WR.on rfl rfl ?_
    refine ve (Eff.call pf60 rfl (has_ok r.kind 110)) ?_
    rintro v22 w5 ⟨hk5, rfl⟩
    replace hl := hl.up hk5; replace hs := hs.up hk5; replace hK := hK.up hk5; replace hb1 := hb1.up hk5; replace hKsc23 := hKsc23.up hk5
    refine WR.on rfl rfl ?_
    refine zm rfl ?_
    apply WR.sc true 10 _ (fun w' => w5 = w')
    case hl | hg | hu | hv | hs | hoff | hd => rfl
    case hF => exact fun _ => rfl
    case hT =>
     intro hq22
     try simp only [tstS] at hq22
     simp only [List.take_succ_cons, List.take_zero]
     refine WR.on rfl rfl ?_
     refine vq (Val.fieldAddr fld31_2 rfl) ?_
     refine WR.on rfl rfl ?_
     refine vq (Val.loadB scl9 rfl hb1 rfl) ?_
     refine WR.on rfl rfl ?_
     refine vq (Val.slen Try.underlying9 rfl) ?_
     refine WR.on rfl rfl ?_
     refine vq (Val.lss rfl rfl) ?_
     refine WR.on rfl rfl ?_
     refine zm rfl ?_
     apply WR.sc false 4 _ (fun w' => w5 = w')
     case hl | hg | hu | hv | hs | hoff | hd => rfl
     case hF => exact fun _ => rfl
     case hT =>
      intro hq21
      try simp only [tstS] at hq21
      simp only [List.take_succ_cons, List.take_zero]
      refine WR.on rfl rfl ?_
      refine vq (Val.fieldAddr fld31_2 rfl) ?_
      refine WR.on rfl rfl ?_
      refine vq (Val.loadB scl9 rfl hb1 rfl) ?_
      refine WR.on rfl rfl ?_
      refine vq (Val.slen Try.underlying9 rfl) ?_
      refine WR.on rfl rfl ?_
      refine vq (Val.gtr rfl rfl) ?_
      exact WR.nil ⟨rfl, Sub.drop _ 4 _ rfl rfl, rfl⟩
     rintro _ rfl
     exact WR.nil ⟨rfl, Sub.drop _ 6 _ rfl rfl, rfl⟩
    rintro _ rfl
    exact WR.nil ⟨rfl, Sub.drop _ 4 _ rfl rfl, hKsc23⟩
   intro w6 hk6
   replace hl := hl.up hk6; replace hs := hs.up hk6; replace hK := hK.up hk6; replace hb1 := hb1.up hk6
   refine zm rfl ?_
   apply WR.sc false 8 (hasB r.kind 100 && !decide ((r.digest.length : Int) = 32)) (fun w' => Below w6.heap.size w6 w')
   case hl | hg | hu | hv | hs | hoff | hd => rfl
   case hF => exact fun _ => Below.refl _ _
   case hT =>
    intro hq33
    try simp only [tstS] at hq33
    simp only [List.take_succ_cons, List.take_zero]
    have hKsc33 : Old w6 w6 := Old.refl _
    refine WR.on rfl rfl ?_
    refine zm rfl ?_
    refine WR.on rfl rfl ?_
    refine ve (Eff.call pf60 rfl (has_ok r.kind 100)) ?_
    rintro v38 w7 ⟨hk7, rfl⟩
    replace hl := hl.up hk7; replace hs := hs.up hk7; replace hK := hK.up hk7; replace hb1 := hb1.up hk7; replace hKsc33 := hKsc33.up hk7
    refine WR.on rfl rfl ?_
    refine zm rfl ?_
    apply WR.sc true 4 _ (fun w' => w7 = w')
    case hl | hg | hu | hv | hs | hoff | hd => rfl
    case hF => exact fun _ => rfl
    case hT =>
     intro hq32
     try simp only [tstS] at hq32
     simp only [List.take_succ_cons, List.take_zero]
     refine WR.on rfl rfl ?_
     refine vq (Val.fieldAddr fld31_3 rfl) ?_
     refine WR.on rfl rfl ?_
     refine vq (Val.loadB scl9 rfl hb1 rfl) ?_
     refine WR.on rfl rfl ?_
     refine vq (Val.slen Try.underlying9 rfl) ?_
     refine WR.on rfl rfl ?_
     refine vq (Val.neq rfl rfl) ?_
     exact WR.nil ⟨rfl, Sub.drop _ 4 _ rfl rfl, rfl⟩
    rintro _ rfl
    exact WR.nil ⟨rfl, Sub.drop _ 4 _ rfl rfl, hKsc33⟩
   intro w8 hk8
   replace hl := hl.up hk8; replace hs := hs.up hk8; replace hK := hK.up hk8; replace hb1 := hb1.up hk8
   refine cnil ?_
   refine WC.cond rfl (fun hc4 => ?_) (fun hc4 => ?_)
   ·skip
    refine cseq <| cg <| za rfl <| cnil ?_
    refine WC.ret1 rfl rfl ?_
    have e : progBad1 r = true := hc4
    exact ⟨hK, by rw [mayB_prog, e]; simp⟩
   ·skip
    refine cskip <| cseq <| cseq <| cg <| zm rfl ?_
    refine ve (Eff.call pf60 rfl (has_ok r.kind 108)) ?_
    rintro v47 w9 ⟨hk9, rfl⟩
    replace hl := hl.up hk9; replace hs := hs.up hk9; replace hK := hK.up hk9; replace hb1 := hb1.up hk9
    refine zm rfl ?_
    apply WR.sc true 3 (!listP r) (fun w' => Below w9.heap.size w9 w')
    case hl | hg | hu | hv | hs | hoff | hd => rfl
    case hF => exact fun _ => Below.refl _ _
    case hT =>
     intro hq6
     try simp only [tstS] at hq6
     simp only [List.take_succ_cons, List.take_zero]
     have hKsc6 : Old w9 w9 := Old.refl _
     refine WR.on rfl rfl ?_
     refine vq (Val.loadBN agg31 rfl hb1 rfl) ?_
     refine WR.on rfl rfl ?_
     refine ve (Eff.call pf61 rfl (list_ok (r := r) (cs := [I r.kind, I r.id, St r.name, St r.digest, vl, vs]) ⟨vl, vs, rfl, hl, hs, hq⟩)) ?_
     rintro v50 w10 ⟨hk10, rfl⟩
     replace hl := hl.up hk10; replace hs := hs.up hk10; replace hK := hK.up hk10; replace hb1 := hb1.up hk10; replace hKsc6 := hKsc6.up hk10
     refine WR.on rfl rfl ?_
     refine vq (Val.not rfl) ?_
     exact WR.nil ⟨rfl, Sub.drop _ 3 _ rfl rfl, hKsc6⟩
    intro w11 hk11
    replace hl := hl.up hk11; replace hs := hs.up hk11; replace hK := hK.up hk11; replace hb1 := hb1.up hk11
    refine zm rfl ?_
    apply WR.sc false 8 (hasB r.kind 115 && !placesP r.slots) (fun w' => Below w11.heap.size w11 w')
    case hl | hg | hu | hv | hs | hoff | hd => rfl
    case hF => exact fun _ => Below.refl _ _
    case hT =>
     intro hq16
     try simp only [tstS] at hq16
     simp only [List.take_succ_cons, List.take_zero]
     have hKsc16 : Old w11 w11 := Old.refl _
     refine WR.on rfl rfl ?_
     refine zm rfl ?_
     refine WR.on rfl rfl ?_
     refine ve (Eff.call pf60 rfl (has_ok r.kind 115)) ?_
     rintro v55 w12 ⟨hk12, rfl⟩
     replace hl := hl.up hk12; replace hs := hs.up hk12; replace hK := hK.up hk12; replace hb1 := hb1.up hk12; replace hKsc16 := hKsc16.up hk12
     refine WR.on rfl rfl ?_
     refine zm rfl ?_
     apply WR.sc true 4 (!placesP r.slots) (fun w' => Below w12.heap.size w12 w')
     case hl | hg | hu | hv | hs | hoff | hd => rfl
     case hF => exact fun _ => Below.refl _ _
     case hT =>
      intro hq15
      try simp only [tstS] at hq15
      simp only [List.take_succ_cons, List.take_zero]
      have hKsc15 : Old w12 w12 := Old.refl _
      refine WR.on rfl rfl ?_
      refine vq (Val.fieldAddr fld31_5 rfl) ?_
      refine WR.on rfl rfl ?_
      refine vq (Val.loadB scl29 rfl hb1 rfl) ?_
      refine WR.on rfl rfl ?_
      refine ve (Eff.call pf62 rfl (places_ok hs)) ?_
      rintro v59 w13 ⟨hk13, rfl⟩
      replace hl := hl.up hk13; replace hs := hs.up hk13; replace hK := hK.up hk13; replace hb1 := hb1.up hk13; replace hKsc16 := hKsc16.up hk13; replace hKsc15 := hKsc15.up hk13
      refine WR.on rfl rfl ?_
      refine vq (Val.not rfl) ?_
      exact WR.nil ⟨rfl, Sub.drop _ 4 _ rfl rfl, hKsc15⟩
     intro w14 hk14
     replace hl := hl.up hk14; replace hs := hs.up hk14; replace hK := hK.up hk14; replace hb1 := hb1.up hk14; replace hKsc16 := hKsc16.up hk14
     exact WR.nil ⟨rfl, Sub.drop _ 4 _ rfl rfl, hKsc16⟩
    intro w15 hk15
    replace hl := hl.up hk15; replace hs := hs.up hk15; replace hK := hK.up hk15; replace hb1 := hb1.up hk15
    refine cnil ?_
    refine WC.cond rfl (fun hc6 => ?_) (fun hc6 => ?_)
    ·skip
     refine cseq <| cg <| za rfl <| cnil ?_
     refine WC.ret1 rfl rfl ?_
     have e : progBad2 r = true := hc6
     exact ⟨hK, by rw [mayB_prog, e]; simp⟩
    ·skip
     refine cskip <| cseq <| cg <| zm rfl ?_
     refine ve (Eff.call pf60 rfl (has_ok r.kind 105)) ?_
     rintro v64 w16 ⟨hk16, rfl⟩
     replace hl := hl.up hk16; replace hs := hs.up hk16; replace hK := hK.up hk16; replace hb1 := hb1.up hk16
     refine zm rfl ?_
     apply WR.sc false 3 _ (fun w' => w16 = w')
     case hl | hg | hu | hv | hs | hoff | hd => rfl
     case hF => exact fun _ => rfl
     case hT =>
      intro hq6
      try simp only [tstS] at hq6
      simp only [List.take_succ_cons, List.take_zero]
      refine WR.on rfl rfl ?_
      refine vq (Val.fieldAddr fld31_1 rfl) ?_
      refine WR.on rfl rfl ?_
      refine vq (Val.loadB scl3 rfl hb1 rfl) ?_
      refine WR.on rfl rfl ?_
      refine vq (Val.eql rfl rfl) ?_
      exact WR.nil ⟨rfl, Sub.drop _ 3 _ rfl rfl, rfl⟩
     rintro _ rfl
     refine zm rfl ?_
     apply WR.sc true 7 (hasB r.kind 110 || (r.name == [])) (fun w' => Below w16.heap.size w16 w')
     case hl | hg | hu | hv | hs | hoff | hd => rfl
     case hF => exact fun _ => Below.refl _ _
     case hT =>
      intro hq15
      try simp only [tstS] at hq15
      simp only [List.take_succ_cons, List.take_zero]
      have hKsc15 : Old w16 w16 := Old.refl _
      refine WR.on rfl rfl ?_
      refine zm rfl ?_
      refine WR.on rfl rfl ?_
      refine ve (Eff.call pf60 rfl (has_ok r.kind 110)) ?_
      rintro v72 w17 ⟨hk17, rfl⟩
      replace hl := hl.up hk17; replace hs := hs.up hk17; replace hK := hK.up hk17; replace hb1 := hb1.up hk17; replace hKsc15 := hKsc15.up hk17
      refine WR.on rfl rfl ?_
      refine zm rfl ?_
      apply WR.sc false 3 _ (fun w' => w17 = w')
      case hl | hg | hu | hv | hs | hoff | hd => rfl
      case hF => exact fun _ => rfl
      case hT =>
       intro hq14
       try simp only [tstS] at hq14
       simp only [List.take_succ_cons, List.take_zero]
       refine WR.on rfl rfl ?_
       refine vq (Val.fieldAddr fld31_2 rfl) ?_
       refine WR.on rfl rfl ?_
       refine vq (Val.loadB scl9 rfl hb1 rfl) ?_
       refine WR.on rfl rfl ?_
       refine vq (Val.seq_ rfl rfl) ?_
       exact WR.nil ⟨rfl, Sub.drop _ 3 _ rfl rfl, rfl⟩
      rintro _ rfl
      exact WR.nil ⟨rfl, Sub.drop _ 4 _ rfl rfl, hKsc15⟩
     intro w18 hk18
     replace hl := hl.up hk18; replace hs := hs.up hk18; replace hK := hK.up hk18; replace hb1 := hb1.up hk18
     refine zm rfl ?_
     apply WR.sc true 7 (hasB r.kind 100 || (r.digest == [])) (fun w' => Below w18.heap.size w18 w')
     case hl | hg | hu | hv | hs | hoff | hd => rfl
     case hF => exact fun _ => Below.refl _ _
     case hT =>
      intro hq24
      try simp only [tstS] at hq24
      simp only [List.take_succ_cons, List.take_zero]
      have hKsc24 : Old w18 w18 := Old.refl _
      refine WR.on rfl rfl ?_
      refine zm rfl ?_
      refine WR.on rfl rfl ?_
      refine ve (Eff.call pf60 rfl (has_ok r.kind 100)) ?_
      rintro v81 w19 ⟨hk19, rfl⟩
      replace hl := hl.up hk19; replace hs := hs.up hk19; replace hK := hK.up hk19; replace hb1 := hb1.up hk19; replace hKsc24 := hKsc24.up hk19
      refine WR.on rfl rfl ?_
      refine zm rfl ?_
      apply WR.sc false 3 _ (fun w' => w19 = w')
      case hl | hg | hu | hv | hs | hoff | hd => rfl
      case hF => exact fun _ => rfl
      case hT =>
       intro hq23
       try simp only [tstS] at hq23
       simp only [List.take_succ_cons, List.take_zero]
       refine WR.on rfl rfl ?_
       refine vq (Val.fieldAddr fld31_3 rfl) ?_
       refine WR.on rfl rfl ?_
       refine vq (Val.loadB scl9 rfl hb1 rfl) ?_
       refine WR.on rfl rfl ?_
       refine vq (Val.seq_ rfl rfl) ?_
       exact WR.nil ⟨rfl, Sub.drop _ 3 _ rfl rfl, rfl⟩
      rintro _ rfl
      exact WR.nil ⟨rfl, Sub.drop _ 4 _ rfl rfl, hKsc24⟩
     intro w20 hk20
     replace hl := hl.up hk20; replace hs := hs.up hk20; replace hK := hK.up hk20; replace hb1 := hb1.up hk20
     refine zm rfl ?_
     apply WR.sc true 8 (hasB r.kind 108 || decide ((r.list.length : Int) = 0)) (fun w' => Below w20.heap.size w20 w')
     case hl | hg | hu | hv | hs | hoff | hd => rfl
     case hF => exact fun _ => Below.refl _ _
     case hT =>
      intro hq34
      try simp only [tstS] at hq34
      simp only [List.take_succ_cons, List.take_zero]
      have hKsc34 : Old w20 w20 := Old.refl _
      refine WR.on rfl rfl ?_
      refine zm rfl ?_
      refine WR.on rfl rfl ?_
      refine ve (Eff.call pf60 rfl (has_ok r.kind 108)) ?_
      rintro v90 w21 ⟨hk21, rfl⟩
      replace hl := hl.up hk21; replace hs := hs.up hk21; replace hK := hK.up hk21; replace hb1 := hb1.up hk21; replace hKsc34 := hKsc34.up hk21
      refine WR.on rfl rfl ?_
      refine zm rfl ?_
      apply WR.sc false 4 _ (fun w' => w21 = w')
      case hl | hg | hu | hv | hs | hoff | hd => rfl
      case hF => exact fun _ => rfl
      case hT =>
       intro hq33
       try simp only [tstS] at hq33
       simp only [List.take_succ_cons, List.take_zero]
       refine WR.on rfl rfl ?_
       refine vq (Val.fieldAddr fld31_4 rfl) ?_
       refine WR.on rfl rfl ?_
       refine vq (Val.loadB scl24 rfl hb1 rfl) ?_
       refine WR.on rfl rfl ?_
       first | refine vq (Val.rdlen sl24 (by assumption) rfl) ?_ | refine vq (Val.sllen Try.underlying24 rfl) ?_
       refine WR.on rfl rfl ?_
       refine vq (Val.eql rfl rfl) ?_
       exact WR.nil ⟨rfl, Sub.drop _ 4 _ rfl rfl, rfl⟩
      rintro _ rfl
      exact WR.nil ⟨rfl, Sub.drop _ 4 _ rfl rfl, hKsc34⟩
     intro w22 hk22
     replace hl := hl.up hk22; replace hs := hs.up hk22; replace hK := hK.up hk22; replace hb1 := hb1.up hk22
     refine zm rfl ?_
     apply WR.sc true 8 (hasB r.kind 115 || decide ((r.slots.length : Int) = 0)) (fun w' => Below w22.heap.size w22 w')
     case hl | hg | hu | hv | hs | hoff | hd => rfl
     case hF => exact fun _ => Below.refl _ _
     case hT =>
      intro hq44
      try simp only [tstS] at hq44
      simp only [List.take_succ_cons, List.take_zero]
      have hKsc44 : Old w22 w22 := Old.refl _
      refine WR.on rfl rfl ?_
      refine zm rfl ?_
      refine WR.on rfl rfl ?_
      refine ve (Eff.call pf60 rfl (has_ok r.kind 115)) ?_
      rintro v100 w23 ⟨hk23, rfl⟩
      replace hl := hl.up hk23; replace hs := hs.up hk23; replace hK := hK.up hk23; replace hb1 := hb1.up hk23; replace hKsc44 := hKsc44.up hk23
      refine WR.on rfl rfl ?_
      refine zm rfl ?_
      apply WR.sc false 4 _ (fun w' => w23 = w')
      case hl | hg | hu | hv | hs | hoff | hd => rfl
      case hF => exact fun _ => rfl
      case hT =>
       intro hq43
       try simp only [tstS] at hq43
       simp only [List.take_succ_cons, List.take_zero]
       refine WR.on rfl rfl ?_
       refine vq (Val.fieldAddr fld31_5 rfl) ?_
       refine WR.on rfl rfl ?_
       refine vq (Val.loadB scl29 rfl hb1 rfl) ?_
       refine WR.on rfl rfl ?_
       first | refine vq (Val.rdlen sl29 (by assumption) rfl) ?_ | refine vq (Val.sllen Try.underlying29 rfl) ?_
       refine WR.on rfl rfl ?_
       refine vq (Val.eql rfl rfl) ?_
       exact WR.nil ⟨rfl, Sub.drop _ 4 _ rfl rfl, rfl⟩
      rintro _ rfl
      exact WR.nil ⟨rfl, Sub.drop _ 4 _ rfl rfl, hKsc44⟩
     intro w24 hk24
     replace hl := hl.up hk24; replace hs := hs.up hk24; replace hK := hK.up hk24; replace hb1 := hb1.up hk24
     refine za rfl <| cnil ?_
     refine WC.ret1 rfl rfl ?_
     have e1 : kindBad r = false := hc2
     have e2 : progBad1 r = false := hc4
     have e3 : progBad2 r = false := hc6
     exact ⟨hK, by rw [mayB_prog, e1, e2, e3]; rfl⟩
theorem fieldsU_len (k : Int) : (fieldsU k).length ≤ 140737488355328 := by
  unfold fieldsU fieldsB
  repeat' split
  all_goals decide
theorem hasI_ok {w : World} (k : Int) : Calls Try.prog 43 #[St (fieldsU k), .int .u8 73] w (Ret fun v w' => Below w.heap.size w w' ∧ v = .bool (hasB k 105)) := by
  have := hasU_ok (w := w) (fieldsU k) 73 (fieldsU_len k)
  rwa [(hasU_fields k).1] at this
theorem hasN_ok {w : World} (k : Int) : Calls Try.prog 43 #[St (fieldsU k), .int .u8 78] w (Ret fun v w' => Below w.heap.size w w' ∧ v = .bool (hasB k 110)) := by
  have := hasU_ok (w := w) (fieldsU k) 78 (fieldsU_len k)
  rwa [(hasU_fields k).2.1] at this
theorem hasD_ok {w : World} (k : Int) : Calls Try.prog 43 #[St (fieldsU k), .int .u8 68] w (Ret fun v w' => Below w.heap.size w w' ∧ v = .bool (hasB k 100)) := by
  have := hasU_ok (w := w) (fieldsU k) 68 (fieldsU_len k)
  rwa [(hasU_fields k).2.2.1] at this
theorem hasL_ok {w : World} (k : Int) : Calls Try.prog 43 #[St (fieldsU k), .int .u8 76] w (Ret fun v w' => Below w.heap.size w w' ∧ v = .bool (hasB k 108)) := by
  have := hasU_ok (w := w) (fieldsU k) 76 (fieldsU_len k)
  rwa [(hasU_fields k).2.2.2.1] at this
theorem hasS_ok {w : World} (k : Int) : Calls Try.prog 43 #[St (fieldsU k), .int .u8 83] w (Ret fun v w' => Below w.heap.size w w' ∧ v = .bool (hasB k 115)) := by
  have := hasU_ok (w := w) (fieldsU k) 83 (fieldsU_len k)
  rwa [(hasU_fields k).2.2.2.2] at this

def wantLv (r : Rec) (v : Value) : Value := if hasB r.kind 108 then v else .slice none 0 0
def wantSv (r : Rec) (v : Value) : Value := if hasB r.kind 115 then v else .slice none 0 0
theorem rdNil {α : Type} (s : Shape α) (B : Nat) (w : World) : RdS s B w (.slice none 0 0) [] := RdS.nil s B w
theorem wantL_rd {B : Nat} {w : World} {v : Value} {r : Rec} (h : RdS intS B w v r.list) : RdS intS B w (wantLv r v) (wantL r) := by
  unfold wantLv wantL; split
  · exact h
  · exact rdNil _ _ _
theorem wantS_rd {B : Nat} {w : World} {v : Value} {r : Rec} (h : RdS slotS B w v r.slots) : RdS slotS B w (wantSv r v) (wantS r) := by
  unfold wantSv wantS; split
  · exact h
  · exact rdNil _ _ _

theorem want_i64 (r : Rec) (h : Go.Eng.Int64 r.id) : Go.Eng.Int64 (wantI r) := by
  unfold wantI; split
  · exact h
  · exact ⟨by decide, by decide⟩
theorem want_name (r : Rec) (h : r.name.length ≤ 140737488355328) : (wantN r).length ≤ 140737488355328 := by
  unfold wantN; split
  · exact h
  · simp
theorem want_dig (r : Rec) (h : r.digest.length ≤ 140737488355328) : (wantD r).length ≤ 140737488355328 := by
  unfold wantD; split
  · exact h
  · simp
theorem all_bad {α : Type} {q : α → Bool} {l : List α} {k : Nat} (h : k < l.length) (hq : q l[k] = false) : l.all q = false := by
  rw [List.all_eq_false]; exact ⟨_, List.getElem_mem h, by rw [hq]; decide⟩
theorem all_next {α : Type} {q : α → Bool} {l : List α} {k : Nat} (h : k < l.length) (h1 : (l.take k).all q = true) (hq : q l[k] = true) : (l.take (k + 1)).all q = true := by
  rw [List.take_succ_eq_append_getElem h, List.all_append, h1]; simp [hq]
def numB63 (n : Int) : Bool := decide (0 ≤ n) && decide (n ≤ 63)
theorem slot_bad {p : Int × Int} (h : (bif false then (!(decide (-1 ≤ p.1) && decide (p.1 ≤ 11))) && (!numB63 p.2) else (!(decide (-1 ≤ p.1) && decide (p.1 ≤ 11))) || (!numB63 p.2)) = true) : (!slotBad p) = false := by
  simp only [cond_false, numB63, Bool.or_eq_true, Bool.not_eq_true', Bool.and_eq_false_iff, decide_eq_false_iff_not] at h
  simp only [slotBad, Bool.not_eq_false', Bool.or_eq_true, decide_eq_true_eq]; omega
theorem slot_good {p : Int × Int} (h : (bif false then (!(decide (-1 ≤ p.1) && decide (p.1 ≤ 11))) && (!numB63 p.2) else (!(decide (-1 ≤ p.1) && decide (p.1 ≤ 11))) || (!numB63 p.2)) = false) : (!slotBad p) = true := by
  simp only [cond_false, numB63, Bool.or_eq_false_iff, Bool.not_eq_false', Bool.and_eq_true, decide_eq_true_eq] at h
  simp only [slotBad, Bool.not_eq_true', Bool.or_eq_false_iff, decide_eq_false_iff_not]; omega

theorem record_ok {w : World} {cs : List Value} {r : Rec} (h : RdRec w cs r) : Calls Try.prog 17 #[.agg cs.toArray] w (Ret fun v w' => Below w.heap.size w w' ∧ v = .bool (mayB r)) := by
  obtain ⟨vl, vs, rfl, hl, hs, hq⟩ := h
  have o1 := hl.oneC
  have o2 := hs.oneC
  have lsm := hl.small
  have cV1 : vl.cells = #[vl] := by obtain ⟨A, c, rfl, _⟩ := hl.form; rfl
  have cV2 : vs.cells = #[vs] := by obtain ⟨A, c, rfl, _⟩ := hs.form; rfl
  have ssm := hs.small
  obtain ⟨B, hB⟩ : ∃ B, B = w.heap.size := ⟨_, rfl⟩
  have hBw : B ≤ w.heap.size := Nat.le_of_eq hB
  have hK : Below B w w := Below.refl _ _
  rw [← hB] at hl hs ⊢
  refine enter (n := 140) (res := #[.tmp 2]) Try.func17 rfl rfl rfl rfl ?_
  refine cseq <| cg ?_
  refine ve (Eff.box rfl) ?_
  rintro _ w1 ⟨b1, rfl, hn1⟩
  have hk1 := hn1.below
  have hge1 : B ≤ b1 := by rw [hn1.at_]; exact hBw
  replace hl := hl.upB (hk1.mono hBw); replace hs := hs.upB (hk1.mono hBw); replace hK := hK.upB (hk1.mono hBw); replace hBw := Nat.le_trans hBw hk1.size
  have hb1 := hn1.blk
  refine za rfl <| cnil <| cseq <| cseq <| cg <| vq (Val.fieldAddr fld31_0 rfl) <| vq (Val.loadB scl3 rfl hb1 rfl) ?_
  have hlt2_b1 := hb1.lt
  refine ve (Eff.call pf41 rfl (between_ok r.kind 1 8)) ?_
  rintro v9 w2 ⟨hk2, rfl⟩
  replace hl := hl.upB (hk2.mono hBw); replace hs := hs.upB (hk2.mono hBw); replace hK := hK.upB (hk2.mono hBw); replace hb1 := hb1.up hk2; replace hBw := Nat.le_trans hBw hk2.size
  refine vq (Val.not rfl) <| cnil ?_
  refine WC.cond rfl (fun hc1 => ?_) (fun hc1 => ?_)
  ·skip
   refine cseq <| cg <| za rfl <| cnil ?_
   refine WC.ret1 rfl rfl ?_
   have e : kindBad r = true := by
     simp only [Bool.not_eq_true', Bool.and_eq_false_iff, decide_eq_false_iff_not] at hc1
     simp only [kindBad, Bool.or_eq_true, decide_eq_true_eq]; omega
   exact ⟨hK, by rw [mayB, e]; rfl⟩
  ·skip
   refine cskip <| cseq ?_
   have hkb : kindBad r = false := by
     simp only [Bool.not_eq_false', Bool.and_eq_true, decide_eq_true_eq] at hc1
     simp only [kindBad, Bool.or_eq_false_iff, decide_eq_false_iff_not]; omega
   have hk18 : 1 ≤ r.kind ∧ r.kind ≤ 8 := by
     simp only [Bool.not_eq_false', Bool.and_eq_true, decide_eq_true_eq] at hc1; exact hc1
   refine cg <| vq (Val.fieldAddr fld31_0 rfl) <| vq (Val.loadB scl3 rfl hb1 rfl) ?_
   have hlt3_b1 := hb1.lt
   refine ve (Eff.call pf42 rfl (fieldsU_ok r.kind (by omega) hk18.2)) ?_
   rintro v13 w3 ⟨hk3, rfl⟩
   replace hl := hl.upB (hk3.mono hBw); replace hs := hs.upB (hk3.mono hBw); replace hK := hK.upB (hk3.mono hBw); replace hb1 := hb1.up hk3; replace hBw := Nat.le_trans hBw hk3.size
   refine za rfl <| cnil <| cseq <| cg <| vq (Val.fieldAddr fld31_0 rfl) <| vq (Val.loadB scl3 rfl hb1 rfl) <| vq (Val.build (cells := #[I r.kind, I 0, St [], St [], .slice none 0 0, .slice none 0 0]) rfl (by kernel_rfl)) ?_
   refine ve (Eff.alloc zero31) ?_
   rintro _ w4 ⟨b4, rfl, hn4⟩
   have hk4 := hn4.below
   have hge4 : B ≤ b4 := by rw [hn4.at_]; exact hBw
   have hne4_b1 : b1 ≠ b4 := by have := hb1.lt; have := hn4.at_; omega
   replace hl := hl.upB (hk4.mono hBw); replace hs := hs.upB (hk4.mono hBw); replace hK := hK.upB (hk4.mono hBw); replace hb1 := hb1.up hk4; replace hBw := Nat.le_trans hBw hk4.size
   have hb4 := hn4.blk
   refine WR.eff_ (Eff.storeBN agg31 rfl rfl hb4 rfl rfl ones) ?_
   intro _ w5 hS5
   have hk5 : Below B _ _ := Blk.store_below hS5 hge4 hBw
   replace hb1 := hb1.grown hS5.grown (by simp; omega)
   replace hl := hl.upB hk5; replace hs := hs.upB hk5; replace hK := hK.upB hk5; replace hBw := Nat.le_trans hBw hk5.size
   replace hb4 := hS5.blk
   refine cnil <| cseq <| cseq <| cg <| zm rfl ?_
   have hlt6_b1 := hb1.lt
   have hlt6_b4 := hb4.lt
   refine ve (Eff.call pf43 rfl (hasI_ok r.kind)) ?_
   rintro v18 w6 ⟨hk6, rfl⟩
   replace hl := hl.upB (hk6.mono hBw); replace hs := hs.upB (hk6.mono hBw); replace hK := hK.upB (hk6.mono hBw); replace hb1 := hb1.up hk6; replace hb4 := hb4.up hk6; replace hBw := Nat.le_trans hBw hk6.size
   refine cnil ?_
   refine WC.mono (N := fun e w' => Sub [(4000000, .tuple #[]), (1, .pointer (some ⟨b1, 0, none⟩)), (3, St (fieldsU r.kind)), (4, .pointer (some ⟨b4, 0, none⟩))] e ∧ Blk w' b1 [I r.kind, I r.id, St r.name, St r.digest, vl, vs] 31 ∧ Blk w' b4 [I r.kind, I (wantI r), St [], St [], .slice none 0 0, .slice none 0 0] 31 ∧ RdS intS B w' vl r.list ∧ RdS slotS B w' vs r.slots ∧ Below B w w' ∧ B ≤ w'.heap.size) ?_ ?_
   ·refine WC.cond rfl (fun hc5 => ?_) (fun hc5 => ?_)
    ·try simp only [tstS] at hc5
     refine cg <| vq (Val.fieldAddr fld31_1 rfl) <| vq (Val.loadB scl3 rfl hb1 rfl) <| vq (Val.fieldAddr fld31_1 rfl) ?_
     refine WR.eff_ (Eff.storeB scl3 rfl rfl ra ra hb4 rfl) ?_
     intro _ w7 hS7
     have hk7 : Below B _ _ := Blk.store_below hS7 hge4 hBw
     replace hb1 := hb1.grown hS7.grown (by simp; omega)
     replace hl := hl.upB hk7; replace hs := hs.upB hk7; replace hK := hK.upB hk7; replace hBw := Nat.le_trans hBw hk7.size
     replace hb4 := hS7.blk
     refine cnil ?_
     exact ⟨subs, hb1, by simpa [wantI, hc5] using hb4, hl, hs, hK, hBw⟩
    ·try simp only [tstS] at hc5
     refine cskip ?_
     exact ⟨subs, hb1, by simpa [wantI, hc5] using hb4, hl, hs, hK, hBw⟩
   ·skip
    rintro _ wc5 ⟨hsub, hb1, hb4, hl, hs, hK, hBw⟩
    refine WC.sub hsub ?_
    clear hsub
    refine cseq <| cseq <| cg <| zm rfl ?_
    have hlt8_b1 := hb1.lt
    have hlt8_b4 := hb4.lt
    refine ve (Eff.call pf43 rfl (hasN_ok r.kind)) ?_
    rintro v23 w8 ⟨hk8, rfl⟩
    replace hl := hl.upB (hk8.mono hBw); replace hs := hs.upB (hk8.mono hBw); replace hK := hK.upB (hk8.mono hBw); replace hb1 := hb1.up hk8; replace hb4 := hb4.up hk8; replace hBw := Nat.le_trans hBw hk8.size
    refine cnil ?_
    refine WC.mono (N := fun e w' => Sub [(4000000, .tuple #[]), (1, .pointer (some ⟨b1, 0, none⟩)), (3, St (fieldsU r.kind)), (4, .pointer (some ⟨b4, 0, none⟩))] e ∧ Blk w' b1 [I r.kind, I r.id, St r.name, St r.digest, vl, vs] 31 ∧ Blk w' b4 [I r.kind, I (wantI r), St (wantN r), St [], .slice none 0 0, .slice none 0 0] 31 ∧ RdS intS B w' vl r.list ∧ RdS slotS B w' vs r.slots ∧ Below B w w' ∧ B ≤ w'.heap.size) ?_ ?_
    ·refine WC.cond rfl (fun hc7 => ?_) (fun hc7 => ?_)
     ·try simp only [tstS] at hc7
      refine cg <| vq (Val.fieldAddr fld31_2 rfl) <| vq (Val.loadB scl9 rfl hb1 rfl) <| vq (Val.fieldAddr fld31_2 rfl) ?_
      refine WR.eff_ (Eff.storeB scl9 rfl rfl ra ra hb4 rfl) ?_
      intro _ w9 hS9
      have hk9 : Below B _ _ := Blk.store_below hS9 hge4 hBw
      replace hb1 := hb1.grown hS9.grown (by simp; omega)
      replace hl := hl.upB hk9; replace hs := hs.upB hk9; replace hK := hK.upB hk9; replace hBw := Nat.le_trans hBw hk9.size
      replace hb4 := hS9.blk
      refine cnil ?_
      exact ⟨subs, hb1, by simpa [wantN, hc7] using hb4, hl, hs, hK, hBw⟩
     ·try simp only [tstS] at hc7
      refine cskip ?_
      exact ⟨subs, hb1, by simpa [wantN, hc7] using hb4, hl, hs, hK, hBw⟩
    ·skip
     rintro _ wc7 ⟨hsub, hb1, hb4, hl, hs, hK, hBw⟩
     refine WC.sub hsub ?_
     clear hsub
     refine cseq <| cseq <| cg <| zm rfl ?_
     have hlt10_b1 := hb1.lt
     have hlt10_b4 := hb4.lt
     refine ve (Eff.call pf43 rfl (hasD_ok r.kind)) ?_
     rintro v28 w10 ⟨hk10, rfl⟩
     replace hl := hl.upB (hk10.mono hBw); replace hs := hs.upB (hk10.mono hBw); replace hK := hK.upB (hk10.mono hBw); replace hb1 := hb1.up hk10; replace hb4 := hb4.up hk10; replace hBw := Nat.le_trans hBw hk10.size
     refine cnil ?_
     refine WC.mono (N := fun e w' => Sub [(4000000, .tuple #[]), (1, .pointer (some ⟨b1, 0, none⟩)), (3, St (fieldsU r.kind)), (4, .pointer (some ⟨b4, 0, none⟩))] e ∧ Blk w' b1 [I r.kind, I r.id, St r.name, St r.digest, vl, vs] 31 ∧ Blk w' b4 [I r.kind, I (wantI r), St (wantN r), St (wantD r), .slice none 0 0, .slice none 0 0] 31 ∧ RdS intS B w' vl r.list ∧ RdS slotS B w' vs r.slots ∧ Below B w w' ∧ B ≤ w'.heap.size) ?_ ?_
     ·refine WC.cond rfl (fun hc9 => ?_) (fun hc9 => ?_)
      ·try simp only [tstS] at hc9
       refine cg <| vq (Val.fieldAddr fld31_3 rfl) <| vq (Val.loadB scl9 rfl hb1 rfl) <| vq (Val.fieldAddr fld31_3 rfl) ?_
       refine WR.eff_ (Eff.storeB scl9 rfl rfl ra ra hb4 rfl) ?_
       intro _ w11 hS11
       have hk11 : Below B _ _ := Blk.store_below hS11 hge4 hBw
       replace hb1 := hb1.grown hS11.grown (by simp; omega)
       replace hl := hl.upB hk11; replace hs := hs.upB hk11; replace hK := hK.upB hk11; replace hBw := Nat.le_trans hBw hk11.size
       replace hb4 := hS11.blk
       refine cnil ?_
       exact ⟨subs, hb1, by simpa [wantD, hc9] using hb4, hl, hs, hK, hBw⟩
      ·try simp only [tstS] at hc9
       refine cskip ?_
       exact ⟨subs, hb1, by simpa [wantD, hc9] using hb4, hl, hs, hK, hBw⟩
     ·skip
      rintro _ wc9 ⟨hsub, hb1, hb4, hl, hs, hK, hBw⟩
      refine WC.sub hsub ?_
      clear hsub
      refine cseq <| cseq <| cg <| zm rfl ?_
      have hlt12_b1 := hb1.lt
      have hlt12_b4 := hb4.lt
      refine ve (Eff.call pf43 rfl (hasL_ok r.kind)) ?_
      rintro v33 w12 ⟨hk12, rfl⟩
      replace hl := hl.upB (hk12.mono hBw); replace hs := hs.upB (hk12.mono hBw); replace hK := hK.upB (hk12.mono hBw); replace hb1 := hb1.up hk12; replace hb4 := hb4.up hk12; replace hBw := Nat.le_trans hBw hk12.size
      refine cnil ?_
      refine WC.mono (N := fun e w' => Sub [(4000000, .tuple #[]), (1, .pointer (some ⟨b1, 0, none⟩)), (3, St (fieldsU r.kind)), (4, .pointer (some ⟨b4, 0, none⟩))] e ∧ Blk w' b1 [I r.kind, I r.id, St r.name, St r.digest, vl, vs] 31 ∧ Blk w' b4 [I r.kind, I (wantI r), St (wantN r), St (wantD r), (wantLv r vl), .slice none 0 0] 31 ∧ RdS intS B w' vl r.list ∧ RdS slotS B w' vs r.slots ∧ Below B w w' ∧ B ≤ w'.heap.size) ?_ ?_
      ·refine WC.cond rfl (fun hc11 => ?_) (fun hc11 => ?_)
       ·try simp only [tstS] at hc11
        refine cg <| vq (Val.fieldAddr fld31_4 rfl) <| vq (Val.loadB scl24 rfl hb1 rfl) <| vq (Val.fieldAddr fld31_4 rfl) ?_
        refine WR.eff_ (Eff.storeB scl24 rfl rfl ra ra hb4 rfl) ?_
        intro _ w13 hS13
        have hk13 : Below B _ _ := Blk.store_below hS13 hge4 hBw
        replace hb1 := hb1.grown hS13.grown (by simp; omega)
        replace hl := hl.upB hk13; replace hs := hs.upB hk13; replace hK := hK.upB hk13; replace hBw := Nat.le_trans hBw hk13.size
        replace hb4 := hS13.blk
        refine cnil ?_
        exact ⟨subs, hb1, by simpa [wantLv, hc11] using hb4, hl, hs, hK, hBw⟩
       ·try simp only [tstS] at hc11
        refine cskip ?_
        exact ⟨subs, hb1, by simpa [wantLv, hc11] using hb4, hl, hs, hK, hBw⟩
      ·skip
       rintro _ wc11 ⟨hsub, hb1, hb4, hl, hs, hK, hBw⟩
       refine WC.sub hsub ?_
       clear hsub
       refine cseq <| cseq <| cg <| zm rfl ?_
       have hlt14_b1 := hb1.lt
       have hlt14_b4 := hb4.lt
       refine ve (Eff.call pf43 rfl (hasS_ok r.kind)) ?_
       rintro v38 w14 ⟨hk14, rfl⟩
       replace hl := hl.upB (hk14.mono hBw); replace hs := hs.upB (hk14.mono hBw); replace hK := hK.upB (hk14.mono hBw); replace hb1 := hb1.up hk14; replace hb4 := hb4.up hk14; replace hBw := Nat.le_trans hBw hk14.size
       refine cnil ?_
       refine WC.mono (N := fun e w' => Sub [(4000000, .tuple #[]), (1, .pointer (some ⟨b1, 0, none⟩)), (3, St (fieldsU r.kind)), (4, .pointer (some ⟨b4, 0, none⟩))] e ∧ Blk w' b1 [I r.kind, I r.id, St r.name, St r.digest, vl, vs] 31 ∧ Blk w' b4 [I r.kind, I (wantI r), St (wantN r), St (wantD r), (wantLv r vl), (wantSv r vs)] 31 ∧ RdS intS B w' vl r.list ∧ RdS slotS B w' vs r.slots ∧ Below B w w' ∧ B ≤ w'.heap.size) ?_ ?_
       ·refine WC.cond rfl (fun hc13 => ?_) (fun hc13 => ?_)
        ·try simp only [tstS] at hc13
         refine cg <| vq (Val.fieldAddr fld31_5 rfl) <| vq (Val.loadB scl29 rfl hb1 rfl) <| vq (Val.fieldAddr fld31_5 rfl) ?_
         refine WR.eff_ (Eff.storeB scl29 rfl rfl ra ra hb4 rfl) ?_
         intro _ w15 hS15
         have hk15 : Below B _ _ := Blk.store_below hS15 hge4 hBw
         replace hb1 := hb1.grown hS15.grown (by simp; omega)
         replace hl := hl.upB hk15; replace hs := hs.upB hk15; replace hK := hK.upB hk15; replace hBw := Nat.le_trans hBw hk15.size
         replace hb4 := hS15.blk
         refine cnil ?_
         exact ⟨subs, hb1, by simpa [wantSv, hc13] using hb4, hl, hs, hK, hBw⟩
        ·try simp only [tstS] at hc13
         refine cskip ?_
         exact ⟨subs, hb1, by simpa [wantSv, hc13] using hb4, hl, hs, hK, hBw⟩
       ·skip
        rintro _ wc13 ⟨hsub, hb1, hb4, hl, hs, hK, hBw⟩
        refine WC.sub hsub ?_
        clear hsub
        refine cseq <| cseq ?_
        have oL := (wantL_rd hl).oneC
        have oS := (wantS_rd hs).oneC
        refine cg <| vq (Val.loadBN agg31 rfl hb1 rfl) <| vq (Val.loadBN agg31 rfl hb4 rfl) ?_
        have hlt16_b1 := hb1.lt
        have hlt16_b4 := hb4.lt
        refine ve (Eff.call pf22 rfl (eqRecord_ok (a := r) (b := want r) (ca := [I r.kind, I r.id, St r.name, St r.digest, vl, vs]) (cb := [I r.kind, I (wantI r), St (wantN r), St (wantD r), (wantLv r vl), (wantSv r vs)]) ⟨vl, vs, rfl, hl.mono hBw, hs.mono hBw, hq⟩ ⟨_, _, rfl, (wantL_rd hl).mono hBw, (wantS_rd hs).mono hBw, hq.1, want_i64 r hq.2.1, want_name r hq.2.2.1, want_dig r hq.2.2.2⟩)) ?_
        rintro v44 w16 ⟨hk16, rfl⟩
        replace hl := hl.upB (hk16.mono hBw); replace hs := hs.upB (hk16.mono hBw); replace hK := hK.upB (hk16.mono hBw); replace hb1 := hb1.up hk16; replace hb4 := hb4.up hk16; replace hBw := Nat.le_trans hBw hk16.size
        refine vq (Val.not rfl) <| zm rfl ?_
        apply WR.sc false 4 (!numB r.id) (fun w' => Below w16.heap.size w16 w')
        case hl | hg | hu | hv | hs | hoff | hd => rfl
        case hF => exact fun _ => Below.refl _ _
        case hT =>
         intro hq9
         try simp only [tstS] at hq9
         simp only [List.take_succ_cons, List.take_zero]
         have hKsc9 : Old w16 w16 := Old.refl _
         refine WR.on rfl rfl ?_
         refine vq (Val.fieldAddr fld31_1 rfl) ?_
         refine WR.on rfl rfl ?_
         refine vq (Val.loadB scl3 rfl hb1 rfl) ?_
         refine WR.on rfl rfl ?_
         have hlt17_b1 := hb1.lt
         have hlt17_b4 := hb4.lt
         refine ve (Eff.call pf30 rfl (num_ok r.id 1073741824)) ?_
         rintro v49 w17 ⟨hk17, rfl⟩
         replace hl := hl.upB (hk17.mono hBw); replace hs := hs.upB (hk17.mono hBw); replace hK := hK.upB (hk17.mono hBw); replace hb1 := hb1.up hk17; replace hb4 := hb4.up hk17; replace hKsc9 := hKsc9.up hk17; replace hBw := Nat.le_trans hBw hk17.size
         refine WR.on rfl rfl ?_
         refine vq (Val.not rfl) ?_
         exact WR.nil ⟨rfl, Sub.drop _ 4 _ rfl rfl, hKsc9⟩
        intro w18 hk18
        replace hl := hl.upB (hk18.mono hBw); replace hs := hs.upB (hk18.mono hBw); replace hK := hK.upB (hk18.mono hBw); replace hb1 := hb1.up hk18; replace hb4 := hb4.up hk18; replace hBw := Nat.le_trans hBw hk18.size
        refine zm rfl ?_
        apply WR.sc false 9 (hasB r.kind 110 && !(decide (1 ≤ (r.name.length : Int)) && decide ((r.name.length : Int) ≤ 40))) (fun w' => Below w18.heap.size w18 w')
        case hl | hg | hu | hv | hs | hoff | hd => rfl
        case hF => exact fun _ => Below.refl _ _
        case hT =>
         intro hq20
         try simp only [tstS] at hq20
         simp only [List.take_succ_cons, List.take_zero]
         have hKsc20 : Old w18 w18 := Old.refl _
         refine WR.on rfl rfl ?_
         refine zm rfl ?_
         refine WR.on rfl rfl ?_
         have hlt19_b1 := hb1.lt
         have hlt19_b4 := hb4.lt
         refine ve (Eff.call pf43 rfl (hasN_ok r.kind)) ?_
         rintro v54 w19 ⟨hk19, rfl⟩
         replace hl := hl.upB (hk19.mono hBw); replace hs := hs.upB (hk19.mono hBw); replace hK := hK.upB (hk19.mono hBw); replace hb1 := hb1.up hk19; replace hb4 := hb4.up hk19; replace hKsc20 := hKsc20.up hk19; replace hBw := Nat.le_trans hBw hk19.size
         refine WR.on rfl rfl ?_
         refine zm rfl ?_
         apply WR.sc true 5 (!(decide (1 ≤ (r.name.length : Int)) && decide ((r.name.length : Int) ≤ 40))) (fun w' => Below w19.heap.size w19 w')
         case hl | hg | hu | hv | hs | hoff | hd => rfl
         case hF => exact fun _ => Below.refl _ _
         case hT =>
          intro hq19
          try simp only [tstS] at hq19
          simp only [List.take_succ_cons, List.take_zero]
          have hKsc19 : Old w19 w19 := Old.refl _
          refine WR.on rfl rfl ?_
          refine vq (Val.fieldAddr fld31_2 rfl) ?_
          refine WR.on rfl rfl ?_
          refine vq (Val.loadB scl9 rfl hb1 rfl) ?_
          refine WR.on rfl rfl ?_
          refine vq (Val.slen Try.underlying9 rfl) ?_
          refine WR.on rfl rfl ?_
          have hlt20_b1 := hb1.lt
          have hlt20_b4 := hb4.lt
          refine ve (Eff.call pf41 rfl (between_ok r.name.length 1 40)) ?_
          rintro v59 w20 ⟨hk20, rfl⟩
          replace hl := hl.upB (hk20.mono hBw); replace hs := hs.upB (hk20.mono hBw); replace hK := hK.upB (hk20.mono hBw); replace hb1 := hb1.up hk20; replace hb4 := hb4.up hk20; replace hKsc20 := hKsc20.up hk20; replace hKsc19 := hKsc19.up hk20; replace hBw := Nat.le_trans hBw hk20.size
          refine WR.on rfl rfl ?_
          refine vq (Val.not rfl) ?_
          exact WR.nil ⟨rfl, Sub.drop _ 5 _ rfl rfl, hKsc19⟩
         intro w21 hk21
         replace hl := hl.upB (hk21.mono hBw); replace hs := hs.upB (hk21.mono hBw); replace hK := hK.upB (hk21.mono hBw); replace hb1 := hb1.up hk21; replace hb4 := hb4.up hk21; replace hKsc20 := hKsc20.up hk21; replace hBw := Nat.le_trans hBw hk21.size
         exact WR.nil ⟨rfl, Sub.drop _ 4 _ rfl rfl, hKsc20⟩
        intro w22 hk22
        replace hl := hl.upB (hk22.mono hBw); replace hs := hs.upB (hk22.mono hBw); replace hK := hK.upB (hk22.mono hBw); replace hb1 := hb1.up hk22; replace hb4 := hb4.up hk22; replace hBw := Nat.le_trans hBw hk22.size
        refine zm rfl ?_
        apply WR.sc false 8 (hasB r.kind 100 && !decide ((r.digest.length : Int) = 32)) (fun w' => Below w22.heap.size w22 w')
        case hl | hg | hu | hv | hs | hoff | hd => rfl
        case hF => exact fun _ => Below.refl _ _
        case hT =>
         intro hq30
         try simp only [tstS] at hq30
         simp only [List.take_succ_cons, List.take_zero]
         have hKsc30 : Old w22 w22 := Old.refl _
         refine WR.on rfl rfl ?_
         refine zm rfl ?_
         refine WR.on rfl rfl ?_
         have hlt23_b1 := hb1.lt
         have hlt23_b4 := hb4.lt
         refine ve (Eff.call pf43 rfl (hasD_ok r.kind)) ?_
         rintro v65 w23 ⟨hk23, rfl⟩
         replace hl := hl.upB (hk23.mono hBw); replace hs := hs.upB (hk23.mono hBw); replace hK := hK.upB (hk23.mono hBw); replace hb1 := hb1.up hk23; replace hb4 := hb4.up hk23; replace hKsc30 := hKsc30.up hk23; replace hBw := Nat.le_trans hBw hk23.size
         refine WR.on rfl rfl ?_
         refine zm rfl ?_
         apply WR.sc true 4 _ (fun w' => w23 = w')
         case hl | hg | hu | hv | hs | hoff | hd => rfl
         case hF => exact fun _ => rfl
         case hT =>
          intro hq29
          try simp only [tstS] at hq29
          simp only [List.take_succ_cons, List.take_zero]
          refine WR.on rfl rfl ?_
          refine vq (Val.fieldAddr fld31_3 rfl) ?_
          refine WR.on rfl rfl ?_
          refine vq (Val.loadB scl9 rfl hb1 rfl) ?_
          refine WR.on rfl rfl ?_
          refine vq (Val.slen Try.underlying9 rfl) ?_
          refine WR.on rfl rfl ?_
          refine vq (Val.neq rfl rfl) ?_
          exact WR.nil ⟨rfl, Sub.drop _ 4 _ rfl rfl, rfl⟩
         rintro _ rfl
         exact WR.nil ⟨rfl, Sub.drop _ 4 _ rfl rfl, hKsc30⟩
        intro w24 hk24
        replace hl := hl.upB (hk24.mono hBw); replace hs := hs.upB (hk24.mono hBw); replace hK := hK.upB (hk24.mono hBw); replace hb1 := hb1.up hk24; replace hb4 := hb4.up hk24; replace hBw := Nat.le_trans hBw hk24.size
        refine zm rfl ?_
        apply WR.sc false 4 _ (fun w' => w24 = w')
        case hl | hg | hu | hv | hs | hoff | hd => rfl
        case hF => exact fun _ => rfl
        case hT =>
         intro hq36
         try simp only [tstS] at hq36
         simp only [List.take_succ_cons, List.take_zero]
         refine WR.on rfl rfl ?_
         refine vq (Val.fieldAddr fld31_4 rfl) ?_
         refine WR.on rfl rfl ?_
         refine vq (Val.loadB scl24 rfl hb1 rfl) ?_
         refine WR.on rfl rfl ?_
         first | refine vq (Val.rdlen sl24 (by assumption) rfl) ?_ | refine vq (Val.sllen Try.underlying24 rfl) ?_
         refine WR.on rfl rfl ?_
         refine vq (Val.gtr rfl rfl) ?_
         exact WR.nil ⟨rfl, Sub.drop _ 4 _ rfl rfl, rfl⟩
        rintro _ rfl
        refine zm rfl ?_
        apply WR.sc false 9 _ (fun w' => w24 = w')
        case hl | hg | hu | hv | hs | hoff | hd => rfl
        case hF => exact fun _ => rfl
        case hT =>
         intro hq47
         try simp only [tstS] at hq47
         simp only [List.take_succ_cons, List.take_zero]
         refine WR.on rfl rfl ?_
         refine vq (Val.fieldAddr fld31_0 rfl) ?_
         refine WR.on rfl rfl ?_
         refine vq (Val.loadB scl3 rfl hb1 rfl) ?_
         refine WR.on rfl rfl ?_
         refine vq (Val.eql rfl rfl) ?_
         refine WR.on rfl rfl ?_
         refine zm rfl ?_
         apply WR.sc true 4 _ (fun w' => w24 = w')
         case hl | hg | hu | hv | hs | hoff | hd => rfl
         case hF => exact fun _ => rfl
         case hT =>
          intro hq46
          try simp only [tstS] at hq46
          simp only [List.take_succ_cons, List.take_zero]
          refine WR.on rfl rfl ?_
          refine vq (Val.fieldAddr fld31_4 rfl) ?_
          refine WR.on rfl rfl ?_
          refine vq (Val.loadB scl24 rfl hb1 rfl) ?_
          refine WR.on rfl rfl ?_
          first | refine vq (Val.rdlen sl24 (by assumption) rfl) ?_ | refine vq (Val.sllen Try.underlying24 rfl) ?_
          refine WR.on rfl rfl ?_
          refine vq (Val.neq rfl rfl) ?_
          exact WR.nil ⟨rfl, Sub.drop _ 4 _ rfl rfl, rfl⟩
         rintro _ rfl
         exact WR.nil ⟨rfl, Sub.drop _ 5 _ rfl rfl, rfl⟩
        rintro _ rfl
        refine zm rfl ?_
        apply WR.sc false 9 (hasB r.kind 115 && !(decide (1 ≤ (r.slots.length : Int)) && decide ((r.slots.length : Int) ≤ 14))) (fun w' => Below w24.heap.size w24 w')
        case hl | hg | hu | hv | hs | hoff | hd => rfl
        case hF => exact fun _ => Below.refl _ _
        case hT =>
         intro hq58
         try simp only [tstS] at hq58
         simp only [List.take_succ_cons, List.take_zero]
         have hKsc58 : Old w24 w24 := Old.refl _
         refine WR.on rfl rfl ?_
         refine zm rfl ?_
         refine WR.on rfl rfl ?_
         have hlt25_b1 := hb1.lt
         have hlt25_b4 := hb4.lt
         refine ve (Eff.call pf43 rfl (hasS_ok r.kind)) ?_
         rintro v92 w25 ⟨hk25, rfl⟩
         replace hl := hl.upB (hk25.mono hBw); replace hs := hs.upB (hk25.mono hBw); replace hK := hK.upB (hk25.mono hBw); replace hb1 := hb1.up hk25; replace hb4 := hb4.up hk25; replace hKsc58 := hKsc58.up hk25; replace hBw := Nat.le_trans hBw hk25.size
         refine WR.on rfl rfl ?_
         refine zm rfl ?_
         apply WR.sc true 5 (!(decide (1 ≤ (r.slots.length : Int)) && decide ((r.slots.length : Int) ≤ 14))) (fun w' => Below w25.heap.size w25 w')
         case hl | hg | hu | hv | hs | hoff | hd => rfl
         case hF => exact fun _ => Below.refl _ _
         case hT =>
          intro hq57
          try simp only [tstS] at hq57
          simp only [List.take_succ_cons, List.take_zero]
          have hKsc57 : Old w25 w25 := Old.refl _
          refine WR.on rfl rfl ?_
          refine vq (Val.fieldAddr fld31_5 rfl) ?_
          refine WR.on rfl rfl ?_
          refine vq (Val.loadB scl29 rfl hb1 rfl) ?_
          refine WR.on rfl rfl ?_
          first | refine vq (Val.rdlen sl29 (by assumption) rfl) ?_ | refine vq (Val.sllen Try.underlying29 rfl) ?_
          refine WR.on rfl rfl ?_
          have hlt26_b1 := hb1.lt
          have hlt26_b4 := hb4.lt
          refine ve (Eff.call pf41 rfl (between_ok r.slots.length 1 14)) ?_
          rintro v97 w26 ⟨hk26, rfl⟩
          replace hl := hl.upB (hk26.mono hBw); replace hs := hs.upB (hk26.mono hBw); replace hK := hK.upB (hk26.mono hBw); replace hb1 := hb1.up hk26; replace hb4 := hb4.up hk26; replace hKsc58 := hKsc58.up hk26; replace hKsc57 := hKsc57.up hk26; replace hBw := Nat.le_trans hBw hk26.size
          refine WR.on rfl rfl ?_
          refine vq (Val.not rfl) ?_
          exact WR.nil ⟨rfl, Sub.drop _ 5 _ rfl rfl, hKsc57⟩
         intro w27 hk27
         replace hl := hl.upB (hk27.mono hBw); replace hs := hs.upB (hk27.mono hBw); replace hK := hK.upB (hk27.mono hBw); replace hb1 := hb1.up hk27; replace hb4 := hb4.up hk27; replace hKsc58 := hKsc58.up hk27; replace hBw := Nat.le_trans hBw hk27.size
         exact WR.nil ⟨rfl, Sub.drop _ 4 _ rfl rfl, hKsc58⟩
        intro w28 hk28
        replace hl := hl.upB (hk28.mono hBw); replace hs := hs.upB (hk28.mono hBw); replace hK := hK.upB (hk28.mono hBw); replace hb1 := hb1.up hk28; replace hb4 := hb4.up hk28; replace hBw := Nat.le_trans hBw hk28.size
        refine cnil ?_
        refine WC.cond rfl (fun hc15 => ?_) (fun hc15 => ?_)
        ·skip
         refine cseq <| cg <| za rfl <| cnil ?_
         refine WC.ret1 rfl rfl ?_
         have e : refBad r = true := hc15
         exact ⟨hK, by rw [mayB, e]; simp⟩
        ·skip
         refine cskip <| cseq <| cseq ?_
         have hrb : refBad r = false := hc15
         clear hc15 hc1
         refine cg <| za rfl <| cnil <| cblock ?_
         refine WC.loop (σ := Nat) (fun k => [(1, .pointer (some ⟨b1, 0, none⟩)), (5, I k)]) (fun k w' => Blk w' b1 [I r.kind, I r.id, St r.name, St r.digest, vl, vs] 31 ∧ RdS intS B w' vl r.list ∧ RdS slotS B w' vs r.slots ∧ Below B w w' ∧ B ≤ w'.heap.size ∧ k ≤ r.list.length ∧ (r.list.take k).all numB = true) (fun k => r.list.length - k) 0 subs ⟨hb1, hl, hs, hK, hBw, by omega, by simp⟩ ?_
         rintro k wl ⟨hb1, hl, hs, hK, hBw, hk, hall⟩
         refine cseq <| cseq <| cg <| zm rfl <| vq (Val.fieldAddr fld31_4 rfl) <| vq (Val.loadB scl24 rfl hb1 rfl) ?_
         first | refine vq (Val.rdlen sl24 (by assumption) rfl) ?_ | refine vq (Val.sllen Try.underlying24 rfl) ?_
         refine vq (Val.lss rfl rfl) <| cnil ?_
         refine WC.cond rfl (fun hc18 => ?_) (fun hc18 => ?_)
         ·try simp only [tstS] at hc18
          have ka : k < r.list.length := by omega
          obtain ⟨cs1, hc111, rfl, ok1⟩ := hl.elB ka
          replace hc111 := hc111.toCel hBw
          refine cskip <| cseq <| cblock <| cseq <| cg <| vq (Val.fieldAddr fld31_4 rfl) <| vq (Val.loadB scl24 rfl hb1 rfl) <| zm rfl <| vq (Val.indexAddr sl24 (by assumption) rfl rfl rfl side side) ?_
          refine vq (Val.loadE1 scl3 rfl hc111) ?_
          have hlt29_b1 := hb1.lt
          refine ve (Eff.call pf30 rfl (num_ok _ _)) ?_
          rintro v113 w29 ⟨hk29, rfl⟩
          replace hl := hl.upB (hk29.mono hBw); replace hs := hs.upB (hk29.mono hBw); replace hK := hK.upB (hk29.mono hBw); replace hb1 := hb1.up hk29; replace hBw := Nat.le_trans hBw hk29.size
          refine vq (Val.not rfl) <| cnil ?_
          refine WC.cond rfl (fun hc20 => ?_) (fun hc20 => ?_)
          ·skip
           refine cseq <| cg <| za rfl <| cnil ?_
           refine WC.ret1 rfl rfl ?_
           exact ⟨hK, by rw [mayB, all_bad ka (show numB r.list[k] = false by rw [Bool.not_eq_true'] at hc20; exact hc20)]; simp⟩
          ·skip
           refine cskip <| cg <| zm rfl <| vq (Val.addI rfl rfl side side) <| za rfl <| cnil ?_
           exact ⟨k + 1, subs, ⟨hb1, hl, hs, hK, hBw, ka, all_next ka hall (by simpa [numB] using hc20)⟩, by omega⟩
         ·try simp only [tstS] at hc18
          refine WC.exit rfl ?_
          refine cseq <| cseq ?_
          have hlall : r.list.all numB = true := by rwa [List.take_of_length_le (by omega)] at hall
          refine cg <| za rfl <| cnil <| cblock ?_
          refine WC.loop (σ := Nat) (fun k => [(1, .pointer (some ⟨b1, 0, none⟩)), (6, I k)]) (fun k w' => Blk w' b1 [I r.kind, I r.id, St r.name, St r.digest, vl, vs] 31 ∧ RdS intS B w' vl r.list ∧ RdS slotS B w' vs r.slots ∧ Below B w w' ∧ B ≤ w'.heap.size ∧ k ≤ r.slots.length ∧ (r.slots.take k).all (fun p => !slotBad p) = true) (fun k => r.slots.length - k) 0 subs ⟨hb1, hl, hs, hK, hBw, by omega, by simp⟩ ?_
          rintro k wl ⟨hb1, hl, hs, hK, hBw, hk, hall⟩
          refine cseq <| cseq <| cg <| zm rfl <| vq (Val.fieldAddr fld31_5 rfl) <| vq (Val.loadB scl29 rfl hb1 rfl) ?_
          first | refine vq (Val.rdlen sl29 (by assumption) rfl) ?_ | refine vq (Val.sllen Try.underlying29 rfl) ?_
          refine vq (Val.lss rfl rfl) <| cnil ?_
          refine WC.cond rfl (fun hc23 => ?_) (fun hc23 => ?_)
          ·try simp only [tstS] at hc23
           have ka : k < r.slots.length := by omega
           obtain ⟨cs1, hc125, rfl, ok1⟩ := hs.elB ka
           replace hc125 := hc125.toCel hBw
           have hc134 := hc125
           refine cskip <| cseq <| cblock <| cseq <| cg <| vq (Val.fieldAddr fld31_5 rfl) <| vq (Val.loadB scl29 rfl hb1 rfl) <| zm rfl <| vq (Val.indexAddr sl29 (by assumption) rfl rfl rfl side side) ?_
           first | refine vq (Val.fieldAddr fld66_0 rfl) ?_ | refine vq (Val.fieldAddrP fld66_0 rfl) ?_
           refine vq (Val.loadEf scl3 rfl hc125 rfl) ?_
           have hlt30_b1 := hb1.lt
           refine ve (Eff.call pf41 rfl (between_ok _ _ _)) ?_
           rintro v128 w30 ⟨hk30, rfl⟩
           replace hl := hl.upB (hk30.mono hBw); replace hs := hs.upB (hk30.mono hBw); replace hK := hK.upB (hk30.mono hBw); replace hb1 := hb1.up hk30; replace hc125 := hc125.up hk30; replace hc134 := hc134.up hk30; replace hBw := Nat.le_trans hBw hk30.size
           refine vq (Val.not rfl) <| zm rfl ?_
           apply WR.sc false 8 (!numB63 r.slots[k].2) (fun w' => Below w30.heap.size w30 w')
           case hl | hg | hu | hv | hs | hoff | hd => rfl
           case hF => exact fun _ => Below.refl _ _
           case hT =>
            intro hq17
            try simp only [tstS] at hq17
            simp only [List.take_succ_cons, List.take_zero]
            have hKsc17 : Old w30 w30 := Old.refl _
            refine WR.on rfl rfl ?_
            refine vq (Val.fieldAddr fld31_5 rfl) ?_
            refine WR.on rfl rfl ?_
            refine vq (Val.loadB scl29 rfl hb1 rfl) ?_
            refine WR.on rfl rfl ?_
            refine zm rfl ?_
            refine WR.on rfl rfl ?_
            refine vq (Val.indexAddr sl29 (by assumption) rfl rfl rfl side side) ?_
            refine WR.on rfl rfl ?_
            first | refine vq (Val.fieldAddr fld66_1 rfl) ?_ | refine vq (Val.fieldAddrP fld66_1 rfl) ?_
            refine WR.on rfl rfl ?_
            refine vq (Val.loadEf scl3 rfl hc134 rfl) ?_
            refine WR.on rfl rfl ?_
            have hlt31_b1 := hb1.lt
            refine ve (Eff.call pf30 rfl (num_ok _ _)) ?_
            rintro v137 w31 ⟨hk31, rfl⟩
            replace hl := hl.upB (hk31.mono hBw); replace hs := hs.upB (hk31.mono hBw); replace hK := hK.upB (hk31.mono hBw); replace hb1 := hb1.up hk31; replace hc125 := hc125.up hk31; replace hc134 := hc134.up hk31; replace hKsc17 := hKsc17.up hk31; replace hBw := Nat.le_trans hBw hk31.size
            refine WR.on rfl rfl ?_
            refine vq (Val.not rfl) ?_
            exact WR.nil ⟨rfl, Sub.drop _ 8 _ rfl rfl, hKsc17⟩
           intro w32 hk32
           replace hl := hl.upB (hk32.mono hBw); replace hs := hs.upB (hk32.mono hBw); replace hK := hK.upB (hk32.mono hBw); replace hb1 := hb1.up hk32; replace hc125 := hc125.up hk32; replace hc134 := hc134.up hk32; replace hBw := Nat.le_trans hBw hk32.size
           refine cnil ?_
           refine WC.cond rfl (fun hc25 => ?_) (fun hc25 => ?_)
           ·skip
            refine cseq <| cg <| za rfl <| cnil ?_
            refine WC.ret1 rfl rfl ?_
            exact ⟨hK, by rw [mayB, all_bad (q := fun p => !slotBad p) ka (slot_bad hc25)]; simp⟩
           ·skip
            refine cskip <| cg <| zm rfl <| vq (Val.addI rfl rfl side side) <| za rfl <| cnil ?_
            exact ⟨k + 1, subs, ⟨hb1, hl, hs, hK, hBw, ka, all_next ka hall (slot_good hc25)⟩, by omega⟩
          ·try simp only [tstS] at hc23
           refine WC.exit rfl ?_
           refine cseq <| cg <| za rfl <| cnil ?_
           refine WC.ret1 rfl rfl ?_
           have hsall : r.slots.all (fun p => !slotBad p) = true := by rwa [List.take_of_length_le (by omega)] at hall
           exact ⟨hK, by rw [mayB, hkb, hrb, hlall, hsall]; rfl⟩
end Go.Proofs.Ythlfolpcmcejkaa
