/- The model: laws on top. No condition. -/
import Derived.Test.YtdlpibhecdfbcaaGreatDoorM6
set_option linter.unusedSimpArgs false
set_option linter.unusedVariables false
set_option maxRecDepth 100000
namespace Silo
open Go Go.Eng
abbrev swp : MOp := ⟨12, 0, 0, 0, [], [], []⟩
theorem doM_swp (S : Sta) : doM S swp = doSweep S := by
  rw [doM, if_neg (by decide), if_neg (by decide), if_neg (by decide), if_neg (by decide), if_neg (by decide)]
theorem sweep_again {S : Sta} (h : staMay S = true) : (doSweep (doSweep S).1).1 = (doSweep S).1 ∧ (doSweep (doSweep S).1).2.n = 0 := by
  have e := swept_twice (staMay_of.1 h)
  constructor
  · show ({ (doSweep S).1 with things := sweptT (doSweep S).1 } : Sta) = _
    rw [e]; rfl
  · show ((doSweep S).1.things.length : Int) - (sweptT (doSweep S).1).length = 0
    rw [e]
    show ((sweptT S).length : Int) - (sweptT S).length = 0
    omega
end Silo
namespace Go.Proofs.YtdlpibhecdfbcaaGreatDoor
open Go Go.Eng Go.RowKit Silo TryzT
theorem mdoW_ok {c : Nat → Nat} {w : World} {vT vG vS : Value} {S : Sta} {o : MOp} (h1 : RdC thgS c w [0, 4] vT S.things) (h2 : RdC tgS c w [0, 4] vG S.tags) (h3 : RdC sesS c w [0, 4] vS S.sessions) (hp1 : PlainV vT) (hp2 : PlainV vG) (hp3 : PlainV vS) (hm : staMay S = true) (ho : opOk o = true) (hO : SmallO o) : Calls Tryz.prog 19 #[.agg #[vT, vG, vS, I S.next], .agg (encOp o).toArray] w (Ret fun v w' => ∃ c', Mv c w c' w' [] ∧ ∃ uT uG uS, v = .tuple #[.agg #[uT, uG, uS, I (doM S o).1.next], .agg (encRep (doM S o).2).toArray, I 0] ∧ PlainV uT ∧ PlainV uG ∧ PlainV uS ∧ RdC thgS c' w' [0, 4] uT (doM S o).1.things ∧ RdC tgS c' w' [0, 4] uG (doM S o).1.tags ∧ RdC sesS c' w' [0, 4] uS (doM S o).1.sessions) := by
 refine (mdo_ok h1.now h2.now h3.now hp1 hp2 hp3 hO).mono fun e w' he => ?_
 obtain ⟨v, rfl, hb, uT, uG, uS, S', r, rfl, hS, hr, a, b, d⟩ := he
 rw [hm, ho] at hS hr
 simp only [Bool.and_self, if_true] at hS hr
 subst hS; subst hr
 have hB := may_bnd (staMay_of.2 (doM_may (o := o) (staMay_of.1 hm)))
 obtain ⟨c', m, hx⟩ := Mv.pure c 4 hb
 rw [hm, ho]
 exact ⟨_, rfl, c', m, uT, uG, uS, rfl, a.plainV, b.plainV, d.plainV, ((a.toC hx).rdT hB.l1 hB.r1).more rfl, ((b.toC hx).rdG hB.l2 hB.r2).more rfl, ((d.toC hx).rdS hB.l3 hB.r3).more rfl⟩
set_option maxHeartbeats 4000000 in
theorem modelWhole_ok {w : World} {vT vG vS vO : Value} {S : Sta} {O : List MOp} (h1 : Rd thgS w vT S.things) (h2 : Rd tgS w vG S.tags) (h3 : Rd sesS w vS S.sessions) (h4 : Rd opS w vO O) (hn : Go.Eng.Int64 S.next) (hp1 : PlainV vT) (hp2 : PlainV vG) (hp3 : PlainV vS) : Calls Tryz.prog 3 #[.agg #[vT, vG, vS, I S.next, vO]] w (Ret fun v w' => Below w.heap.size w w' ∧ v = .bool true) := by
 obtain ⟨c, hOl, hc⟩ := OldC.start w
 have q1 := h1.oneC; have q2 := h2.oneC; have q3 := h3.oneC; have q4 := h4.oneC
 have k3 := h3.okFlat; have k4 := h4.okFlat
 have hsw : SmallO swp := ⟨⟨⟨by decide, by decide⟩, ⟨by decide, by decide⟩, ⟨by decide, by decide⟩, ⟨by decide, by decide⟩⟩, by decide, by decide, by decide⟩
 replace h1 : RdC thgS c w [0] vT S.things := Rd.toC h1 (fun k hk => by simp [hc, hasC])
 replace h2 : RdC tgS c w [0] vG S.tags := Rd.toC h2 (fun k hk => by simp [hc, hasC])
 replace h3 : RdC sesS c w [0] vS S.sessions := Rd.toC h3 (fun k hk => by simp [hc, hasC])
 replace h4 : RdC opS c w [0] vO O := Rd.toC h4 (fun k hk => by simp [hc, hasC])
 clear hc
 refine enter (n := 128) (res := #[.tmp 2]) Tryz.func3 rfl rfl rfl rfl <| cseq <| cg <| ve (Eff.boxC c 101 rfl) ?_
 rintro _ w1 ⟨b1, c1, rfl, m, hb1⟩
 replace hOl := hOl.mv m; replace h1 := h1.mv m; replace h2 := h2.mv m; replace h3 := h3.mv m; replace h4 := h4.mv m
 refine za rfl <| cnil <| cseq <| cseq <| cg <| vq (Val.loadBN agg29 rfl hb1.blk rfl) <| ve (Eff.pureC c1 1 (Eff.call pf15 rfl (lheavy_ok h1.now h2.now h3.now h4.now))) ?_
 rintro v16 w2 ⟨c2, m, hx2, rfl⟩
 replace hOl := hOl.mv m; replace h1 := h1.mv m; replace h2 := h2.mv m; replace h3 := h3.mv m; replace h4 := h4.mv m; replace hb1 := hb1.mv m
 refine zm rfl ?_
 apply WR.sc false 4 (!staMay S) (fun w' => ∃ c', Acc c2 w2 [] c' w')
 case hl | hg | hu | hv | hs | hoff | hd => rfl
 case hF => exact fun _ => ⟨_, Acc.refl _ _ _⟩
 case hT =>
  intro hq7
  try simp only [tstS] at hq7
  simp only [List.take_succ_cons, List.take_zero]
  have hB : Bnd S := staW_light (by simp at hq7; omega) (fun t ht => (k3 t ht).1) hn
  have htS : ∀ t ∈ S.things, t.text.length ≤ 1048576 := fun t ht => (hB.r1 t ht).2
  have hKsc7 := Acc.refl c2 w2 []
  refine WR.on rfl rfl <| vq (Val.fieldAddr fld29_0 rfl) <| WR.on rfl rfl <| vq (Val.loadPre (ds := [vT, vG, vS, I S.next]) (r := [vO]) agg26 rfl hb1.blk rfl rfl) <| WR.on rfl rfl <| ve (Eff.pureC c2 1 (Eff.call pf16 rfl (pstate_ok h1.now h2.now h3.now htS))) ?_
  rintro v20 w3 ⟨c3, m, hx3, rfl⟩
  replace hKsc7 := hKsc7.mv m
  refine WR.on rfl rfl <| vq (Val.not rfl) ?_
  exact WR.nil ⟨rfl, Sub.drop _ 4 _ rfl rfl, _, hKsc7⟩
 rintro w4 ⟨c4, ⟨m⟩⟩
 replace hOl := hOl.mv m; replace h1 := h1.mv m; replace h2 := h2.mv m; replace h3 := h3.mv m; replace h4 := h4.mv m; replace hb1 := hb1.mv m
 refine cnil <| WC.cond rfl (fun hc1 => ?_) (fun hc1 => ?_)
 ·try simp only [tstS] at hc1
  refine cseq <| cg <| za rfl <| cnil <| WC.ret1 rfl rfl ?_
  exact ⟨hOl.below, rfl⟩
 try simp only [tstS] at hc1
 have hm : staMay S = true := by
   cases hx : staMay S with
   | true => rfl
   | false => simp [hx] at hc1
 have hov : opsW O ≤ 9000 := by simp [hm] at hc1; omega
 have hOs := op_small (O := O) hov k4
 refine cskip <| cseq <| cg <| vq (Val.fieldAddr fld29_0 rfl) <| vq (Val.loadPre (ds := [vT, vG, vS, I S.next]) (r := [vO]) agg26 rfl hb1.blk rfl rfl) <| ve (Eff.allocC c4 103 zero26) ?_
 rintro _ w5 ⟨b3, c5, rfl, m, hb3⟩
 replace hOl := hOl.mv m; replace h1 := h1.mv m; replace h2 := h2.mv m; replace h3 := h3.mv m; replace h4 := h4.mv m; replace hb1 := hb1.mv m
 refine WR.eff_ (Eff.storeNC agg26 rfl rfl hb3 rfl rfl ones) ?_
 rintro _ w6 ⟨hS, m⟩
 replace hOl := hOl.mv m; replace h1 := h1.mv m; replace h2 := h2.mv m; replace h3 := h3.mv m; replace h4 := h4.mv m; replace hb1 := hb1.mv m
 replace hb3 := hS
 refine cnil <| cseq <| cseq <| cg <| za rfl <| cnil <| cblock <| WC.loop (σ := Nat) (fun i => [(1, .pointer (some ⟨b1, 0, none⟩)), (2, .bool false), (3, .pointer (some ⟨b3, 0, none⟩)), (4, I i)]) (fun i w' => ∃ c' sT sG sS S', OldC w c' w' ∧ RdC opS c' w' [0] vO O ∧ BlkC c' w' 101 b1 [vT, vG, vS, I S.next, vO] 29 ∧ BlkC c' w' 103 b3 [sT, sG, sS, I S'.next] 26 ∧ RdC thgS c' w' [0, 4] sT S'.things ∧ RdC tgS c' w' [0, 4] sG S'.tags ∧ RdC sesS c' w' [0, 4] sS S'.sessions ∧ staMay S' = true ∧ PlainV sT ∧ PlainV sG ∧ PlainV sS ∧ i ≤ 12 ∧ i ≤ O.length) (fun i => 12 - i) 0 subs ⟨_, _, _, _, S, hOl, h4, hb1, hb3, h1.more rfl, h2.more rfl, h3.more rfl, hm, hp1, hp2, hp3, by omega, by omega⟩ ?_
 clear hOl h1 h2 h3 h4 hb1 hb3
 rintro i wl ⟨cl, sT, sG, sS, S', hOl, h4, hb1, hb3, x1, x2, x3, hmS, pT, pG, pS, hi, hiO⟩
 have hB' := may_bnd hmS
 have hsO := h4.now.small
 have p4 := x1.now.oneC; have p5 := x2.now.oneC; have p6 := x3.now.oneC
 refine cseq <| cseq <| cg <| zm rfl <| vq (Val.fieldAddr fld29_1 rfl) <| vq (Val.loadB scl27 rfl hb1.blk rfl) ?_
 first | refine vq (Val.rdlen sl27 (by assumption) rfl) ?_ | refine vq (Val.sllen Tryz.underlying27 rfl) ?_ | refine vq (Val.olen sl27 (by assumption) rfl) ?_ | refine vq (Val.rdlenC sl27 (by assumption) rfl) ?_
 refine vq (Val.lss rfl rfl) <| zm rfl ?_
 apply WR.sc true 2 _ (fun w' => wl = w')
 case hl | hg | hu | hv | hs | hoff | hd => rfl
 case hF => exact fun _ => rfl
 case hT =>
  intro hq8
  try simp only [tstS] at hq8
  simp only [List.take_succ_cons, List.take_zero]
  refine WR.on rfl rfl <| zm rfl <| WR.on rfl rfl <| vq (Val.lss rfl rfl) ?_
  exact WR.nil ⟨rfl, Sub.drop _ 2 _ rfl rfl, rfl⟩
 rintro _ rfl
 refine cnil <| WC.cond rfl (fun hc5 => ?_) (fun hc5 => ?_)
 ·try simp only [tstS] at hc5
  obtain ⟨hc5, hc5'⟩ := hc5
  have ka : i < O.length := by omega
  obtain ⟨hc40, _⟩ := RdC.elFlat h4 ka (by decide)
  have hsm := hOs _ (List.getElem_mem ka)
  refine cskip <| cseq <| cblock <| cseq <| WC.mono (N := (fun e w' => ∃ (c' : Nat → Nat) (b5 : Nat) (o' : MOp), Sub [(4000000, .tuple #[]), (1, .pointer (some ⟨b1, 0, none⟩)), (2, .bool false), (3, .pointer (some ⟨b3, 0, none⟩)), (4, I i), (5, .pointer (some ⟨b5, 0, none⟩))] e ∧ OldC w c' w' ∧ RdC opS c' w' [0] vO O ∧ BlkC c' w' 101 b1 [vT, vG, vS, I S.next, vO] 29 ∧ BlkC c' w' 103 b3 [sT, sG, sS, I S'.next] 26 ∧ BlkC c' w' 105 b5 (encOp o') 33 ∧ RdC thgS c' w' [0, 4] sT S'.things ∧ RdC tgS c' w' [0, 4] sG S'.tags ∧ RdC sesS c' w' [0, 4] sS S'.sessions ∧ SmallO o')) ?_ ?_
  ·refine WC.regionT (Kp cl wl []) [1, 0, 1, 0, 0, 1, 0, 2, 2, 3] (.quiet 0 (.quiet 1 (.quiet 2 (.quiet 3 (.quiet 4 (.quiet 5 (.quiet 6 (.two 7 (.one 8 (.one 9 .nil)) 8 (.one 7 (.one 9 .nil)))))))))) mixed (by kernel_rfl) ?_
   have m := Mv.drew cl wl []
   have hCw := Mv.drew cl wl []
   generalize wl.drew = w7 at m hCw ⊢
   have hb10 := hb1
   have hb30 := hb3
   have hc400 := hc40
   replace hOl := hOl.mv m; replace h4 := h4.mv m; replace hb1 := hb1.mv m; replace hb3 := hb3.mv m; replace x1 := x1.mv m; replace x2 := x2.mv m; replace x3 := x3.mv m
   refine WT.valC rfl rfl rfl hCw.kp (fun W hW => Val.loadBN agg26 rfl (hb30.kp hW rfl).blk rfl) rfl <| WT.val rfl rfl rfl (fun _ => Val.fieldAddr fld29_1 rfl) rfl <| WT.valC rfl rfl rfl hCw.kp (fun W hW => Val.loadB scl27 rfl (hb10.kp hW rfl).blk rfl) rfl <| WT.val rfl rfl rfl (fun _ => Val.move rfl) rfl ?_
   first | refine WT.val rfl rfl rfl (fun _ => Val.indexAddr sl27 (by assumption) rfl rfl rfl side side) rfl ?_ | refine WT.val rfl rfl rfl (fun _ => Val.indexC sl27 (by assumption) rfl rfl side side) rfl ?_ | refine WT.val rfl rfl rfl (fun _ => Val.indexO sl27 (by assumption) rfl rfl side side) rfl ?_
   refine WT.valC rfl rfl rfl hCw.kp (fun W hW => Val.loadE agg33 rfl (hc400.kp hW rfl).cel rfl) rfl <| WT.val rfl rfl rfl (fun _ => Val.move rfl) rfl <| WT.two ?_ ?_
   ·refine WS.eff rfl rfl rfl (Eff.pureC cl 1 (Eff.call pf17 rfl (aimed_ok x1.now x2.now x3.now hB' hsm ⟨by omega, by omega⟩))) rfl ?_
    rintro v43 w8 ⟨c8, m, hx8, ⟨o', hsm', rfl⟩⟩
    refine ⟨fun hC => hC.step hCw m rfl, ?_⟩
    replace hCw := hCw.tr m rfl
    replace hOl := hOl.mv m; replace h4 := h4.mv m; replace hb1 := hb1.mv m; replace hb3 := hb3.mv m; replace x1 := x1.mv m; replace x2 := x2.mv m; replace x3 := x3.mv m
    refine WT.one <| WS.eff rfl rfl rfl (Eff.allocC c8 105 zero33) rfl ?_
    rintro _ w9 ⟨b5, c9, rfl, m, hb5⟩
    refine ⟨fun hC => hC.step hCw m rfl, ?_⟩
    replace hCw := hCw.tr m rfl
    replace hOl := hOl.mv m; replace h4 := h4.mv m; replace hb1 := hb1.mv m; replace hb3 := hb3.mv m; replace x1 := x1.mv m; replace x2 := x2.mv m; replace x3 := x3.mv m
    refine WT.one <| WS.wild rfl rfl rfl (Eff.storeNC agg33 rfl rfl hb5 rfl rfl ones) ?_
    rintro _ w10 ⟨hS, m⟩
    replace hOl := hOl.mv m; replace h4 := h4.mv m; replace hb1 := hb1.mv m; replace hb3 := hb3.mv m; replace x1 := x1.mv m; replace x2 := x2.mv m; replace x3 := x3.mv m
    replace hb5 := hS
    refine WT.nil ?_
    exact ⟨_, _, o', subs, hOl, h4, hb1, hb3, hb5, x1, x2, x3, hsm'⟩
   refine WS.eff rfl rfl rfl (Eff.allocC cl 105 zero33) rfl ?_
   rintro _ w11 ⟨b5, c11, rfl, m, hb5⟩
   refine ⟨fun hC => hC.step hCw m rfl, ?_⟩
   replace hCw := hCw.tr m rfl
   replace hOl := hOl.mv m; replace h4 := h4.mv m; replace hb1 := hb1.mv m; replace hb3 := hb3.mv m; replace x1 := x1.mv m; replace x2 := x2.mv m; replace x3 := x3.mv m
   refine WT.one <| WS.eff rfl rfl rfl (Eff.pureC c11 1 (Eff.call pf17 rfl (aimed_ok x1.now x2.now x3.now hB' hsm ⟨by omega, by omega⟩))) rfl ?_
   rintro v43 w12 ⟨c12, m, hx12, ⟨o', hsm', rfl⟩⟩
   refine ⟨fun hC => hC.step hCw m rfl, ?_⟩
   replace hCw := hCw.tr m rfl
   replace hOl := hOl.mv m; replace h4 := h4.mv m; replace hb1 := hb1.mv m; replace hb3 := hb3.mv m; replace x1 := x1.mv m; replace x2 := x2.mv m; replace x3 := x3.mv m; replace hb5 := hb5.mv m
   refine WT.one <| WS.wild rfl rfl rfl (Eff.storeNC agg33 rfl rfl hb5 rfl rfl ones) ?_
   rintro _ w13 ⟨hS, m⟩
   replace hOl := hOl.mv m; replace h4 := h4.mv m; replace hb1 := hb1.mv m; replace hb3 := hb3.mv m; replace x1 := x1.mv m; replace x2 := x2.mv m; replace x3 := x3.mv m
   replace hb5 := hS
   refine WT.nil ?_
   exact ⟨_, _, o', subs, hOl, h4, hb1, hb3, hb5, x1, x2, x3, hsm'⟩
  clear hOl h4 hb1 hb3 x1 x2 x3 hc40
  rintro e9 w9 ⟨c9, b5, o', hsub, hOl, h4, hb1, hb3, hb5, x1, x2, x3, hsm'⟩
  refine WC.sub hsub ?_
  clear hsub e9
  refine cseq <| cseq <| cg <| vq (Val.loadBN agg33 rfl hb5.blk rfl) <| ve (Eff.pureC c9 1 (Eff.call pf18 rfl (popOk_ok o'))) ?_
  rintro v45 w14 ⟨c14, m, hx14, rfl⟩
  replace hOl := hOl.mv m; replace h4 := h4.mv m; replace hb1 := hb1.mv m; replace hb3 := hb3.mv m; replace hb5 := hb5.mv m; replace x1 := x1.mv m; replace x2 := x2.mv m; replace x3 := x3.mv m
  refine vq (Val.not rfl) <| cnil <| WC.cond rfl (fun hc8 => ?_) (fun hc8 => ?_)
  ·try simp only [tstS] at hc8
   refine WC.exit rfl <| cg <| zm rfl <| vq (Val.addI rfl rfl side side) <| za rfl <| cnil ?_
   first
   | exact ⟨i + 1, subs, ⟨_, uT, uG, uS, X, hOl, h4, hb1, hb3, y1, y2, y3, hmY, pT2, pG2, pS2, by omega, by omega⟩, by omega⟩
   | exact ⟨i + 1, subs, ⟨_, sT, sG, sS, S', hOl, h4, hb1, hb3, x1, x2, x3, hmS, pT, pG, pS, by omega, by omega⟩, by omega⟩
  try simp only [tstS] at hc8
  have hop : opOk o' = true := by simpa using hc8
  refine cskip <| cseq <| cg <| vq (Val.loadBN agg26 rfl hb3.blk rfl) <| vq (Val.loadBN agg33 rfl hb5.blk rfl) <| ve (Eff.call pf19 rfl (mdoW_ok x1 x2 x3 pT pG pS hmS hop hsm')) ?_
  rintro v50 w15 ⟨c15, m, ⟨uT, uG, uS, rfl, pT2, pG2, pS2, y1, y2, y3⟩⟩
  replace hOl := hOl.mv m; replace h4 := h4.mv m; replace hb1 := hb1.mv m; replace hb3 := hb3.mv m; replace x1 := x1.mv m; replace x2 := x2.mv m; replace x3 := x3.mv m
  have hmY : staMay (doM S' o').1 = true := staMay_of.2 (doM_may (staMay_of.1 hmS))
  have hsy := doM_stays S' o'
  generalize doM S' o' = D at y1 y2 y3 hmY hsy ⊢
  obtain ⟨X, r⟩ := D
  dsimp only [Stays] at y1 y2 y3 hmY hsy ⊢
  have hBY := may_bnd hmY
  have htY : ∀ t ∈ X.things, t.text.length ≤ 1048576 := fun t ht => (hBY.r1 t ht).2
  have p7 := y1.now.oneC; have p8 := y2.now.oneC; have p9 := y3.now.oneC
  refine zm rfl <| vq (Val.extract rfl rfl) <| vq (Val.extract rfl rfl) <| vq (Val.extract rfl rfl) <| ve (Eff.allocC c15 106 zero26) ?_
  rintro _ w16 ⟨b6, c16, rfl, m, hb6⟩
  replace hOl := hOl.mv m; replace h4 := h4.mv m; replace hb1 := hb1.mv m; replace hb3 := hb3.mv m; replace x1 := x1.mv m; replace x2 := x2.mv m; replace x3 := x3.mv m; replace y1 := y1.mv m; replace y2 := y2.mv m; replace y3 := y3.mv m
  refine ve (Eff.allocC c16 107 zero37) ?_
  rintro _ w17 ⟨b7, c17, rfl, m, hb7⟩
  replace hOl := hOl.mv m; replace h4 := h4.mv m; replace hb1 := hb1.mv m; replace hb3 := hb3.mv m; replace x1 := x1.mv m; replace x2 := x2.mv m; replace x3 := x3.mv m; replace y1 := y1.mv m; replace y2 := y2.mv m; replace y3 := y3.mv m; replace hb6 := hb6.mv m
  refine WR.eff_ (Eff.storeNC agg26 rfl rfl hb6 rfl rfl ones) ?_
  rintro _ w18 ⟨hS, m⟩
  replace hOl := hOl.mv m; replace h4 := h4.mv m; replace hb1 := hb1.mv m; replace hb3 := hb3.mv m; replace x1 := x1.mv m; replace x2 := x2.mv m; replace x3 := x3.mv m; replace y1 := y1.mv m; replace y2 := y2.mv m; replace y3 := y3.mv m; replace hb7 := hb7.mv m
  replace hb6 := hS
  refine WR.eff_ (Eff.storeNC agg37 rfl rfl hb7 rfl rfl ones) ?_
  rintro _ w19 ⟨hS, m⟩
  replace hOl := hOl.mv m; replace h4 := h4.mv m; replace hb1 := hb1.mv m; replace hb3 := hb3.mv m; replace x1 := x1.mv m; replace x2 := x2.mv m; replace x3 := x3.mv m; replace y1 := y1.mv m; replace y2 := y2.mv m; replace y3 := y3.mv m; replace hb6 := hb6.mv m
  replace hb7 := hS
  refine za rfl <| cnil <| cseq <| cseq <| cg <| zm rfl <| ve (Eff.pureC c17 1 (Eff.call pf20 rfl (lnum_ok _))) ?_
  rintro v55 w20 ⟨c20, m, hx20, rfl⟩
  replace hOl := hOl.mv m; replace h4 := h4.mv m; replace hb1 := hb1.mv m; replace hb3 := hb3.mv m; replace x1 := x1.mv m; replace x2 := x2.mv m; replace x3 := x3.mv m; replace y1 := y1.mv m; replace y2 := y2.mv m; replace y3 := y3.mv m; replace hb6 := hb6.mv m; replace hb7 := hb7.mv m
  refine vq (Val.neq rfl rfl) ?_
  rw [decide_eq_true rfl]
  refine zm rfl <| WR.onEq rfl rfl rfl <| vq (Val.loadBN agg26 rfl hb6.blk rfl) <| WR.onEq rfl rfl rfl <| ve (Eff.pureC c20 1 (Eff.call pf16 rfl (pstate_ok y1.now y2.now y3.now htY))) ?_
  rintro v59 w21 ⟨c21, m, hx21, rfl⟩
  replace hOl := hOl.mv m; replace h4 := h4.mv m; replace hb1 := hb1.mv m; replace hb3 := hb3.mv m; replace x1 := x1.mv m; replace x2 := x2.mv m; replace x3 := x3.mv m; replace y1 := y1.mv m; replace y2 := y2.mv m; replace y3 := y3.mv m; replace hb6 := hb6.mv m; replace hb7 := hb7.mv m
  rw [hmY]
  refine WR.onEq rfl rfl rfl <| vq (Val.not rfl) <| WR.pickOn (by rfl) rfl rfl rfl ?_
  refine zm rfl <| WR.onEq rfl rfl rfl <| vq (Val.fieldAddr fld37_2 rfl) <| WR.onEq rfl rfl rfl <| vq (Val.loadB scl3 rfl hb7.blk rfl) <| WR.onEq rfl rfl rfl <| vq (Val.neq rfl rfl) <| WR.onEq rfl rfl rfl <| zm rfl ?_
  apply WR.sc true 4 false (fun w' => ∃ c', Acc c21 w21 [] c' w')
  case hl | hg | hu | hv | hs | hoff | hd => rfl
  case hF => exact fun _ => ⟨_, Acc.refl _ _ _⟩
  case hT =>
   intro hq17
   try simp only [tstS] at hq17
   simp only [List.take_succ_cons, List.take_zero]
   have hKsc17 := Acc.refl c21 w21 []
   refine WR.on rfl rfl <| vq (Val.loadBN agg26 rfl hb6.blk rfl) <| WR.on rfl rfl <| vq (Val.loadBN agg26 rfl hb3.blk rfl) <| WR.on rfl rfl <| ve (Eff.pureC c21 1 (Eff.call pf21 rfl (eqState_ok y1.now y2.now y3.now x1.now x2.now x3.now))) ?_
   rintro v69 w22 ⟨c22, m, hx22, rfl⟩
   replace hKsc17 := hKsc17.mv m
   rw [decide_eq_true (show X = S' from hsy.resolve_left (by simpa using hq17))]
   refine WR.on rfl rfl <| vq (Val.not rfl) ?_
   exact WR.nil ⟨rfl, Sub.drop _ 4 _ rfl rfl, _, hKsc17⟩
  rintro w23 ⟨c23, ⟨m⟩⟩
  replace hOl := hOl.mv m; replace h4 := h4.mv m; replace hb1 := hb1.mv m; replace hb3 := hb3.mv m; replace x1 := x1.mv m; replace x2 := x2.mv m; replace x3 := x3.mv m; replace y1 := y1.mv m; replace y2 := y2.mv m; replace y3 := y3.mv m; replace hb6 := hb6.mv m
  refine WR.pickOn (by rfl) rfl rfl rfl ?_
  refine cnil <| WC.cond rfl (fun hc10 => ?_) (fun hc10 => ?_)
  ·exfalso; simp at hc10
  try simp only [tstS] at hc10
  refine cskip <| cseq <| cg <| vq (Val.loadBN agg26 rfl hb6.blk rfl) <| vq (Val.build (cells := #[I 12, I 0, I 0, I 0, St [], St [], St []]) rfl (by kernel_rfl)) ?_
  refine ve (Eff.call pf19 rfl (mdoW_ok (o := swp) y1 y2 y3 pT2 pG2 pS2 hmY (by decide) hsw)) ?_
  rintro v76 w24 ⟨c24, m, ⟨aT, aG, aS, rfl, pT3, pG3, pS3, a1, a2, a3⟩⟩
  replace hOl := hOl.mv m; replace h4 := h4.mv m; replace hb1 := hb1.mv m; replace hb3 := hb3.mv m; replace x1 := x1.mv m; replace x2 := x2.mv m; replace x3 := x3.mv m; replace y1 := y1.mv m; replace y2 := y2.mv m; replace y3 := y3.mv m; replace hb6 := hb6.mv m
  have hmA : staMay (doM X swp).1 = true := staMay_of.2 (doM_may (staMay_of.1 hmY))
  rw [doM_swp] at a1 a2 a3 hmA ⊢
  have hag := sweep_again hmY
  have hAn : (doSweep X).2.n = (X.things.length : Int) - ((doSweep X).1.things.length : Int) := rfl
  have hAt : (doSweep X).1.tags = X.tags := rfl
  have hAl : (doSweep X).1.things.length ≤ X.things.length := List.length_filter_le _ _
  have hBA := may_bnd hmA
  generalize doSweep X = A at a1 a2 a3 hmA hag hAn hAt hAl hBA ⊢
  have pa := a1.now.oneC; have pb := a2.now.oneC; have pc := a3.now.oneC
  refine zm rfl <| vq (Val.extract rfl rfl) <| vq (Val.extract rfl rfl) <| vq (Val.extract rfl rfl) <| ve (Eff.allocC c24 109 zero26) ?_
  rintro _ w25 ⟨b9, c25, rfl, m, hb9⟩
  replace hOl := hOl.mv m; replace h4 := h4.mv m; replace hb1 := hb1.mv m; replace hb3 := hb3.mv m; replace x1 := x1.mv m; replace x2 := x2.mv m; replace x3 := x3.mv m; replace y1 := y1.mv m; replace y2 := y2.mv m; replace y3 := y3.mv m; replace hb6 := hb6.mv m; replace a1 := a1.mv m; replace a2 := a2.mv m; replace a3 := a3.mv m
  refine ve (Eff.allocC c25 110 zero37) ?_
  rintro _ w26 ⟨b10, c26, rfl, m, hb10⟩
  replace hOl := hOl.mv m; replace h4 := h4.mv m; replace hb1 := hb1.mv m; replace hb3 := hb3.mv m; replace x1 := x1.mv m; replace x2 := x2.mv m; replace x3 := x3.mv m; replace y1 := y1.mv m; replace y2 := y2.mv m; replace y3 := y3.mv m; replace hb6 := hb6.mv m; replace a1 := a1.mv m; replace a2 := a2.mv m; replace a3 := a3.mv m; replace hb9 := hb9.mv m
  refine WR.eff_ (Eff.storeNC agg26 rfl rfl hb9 rfl rfl ones) ?_
  rintro _ w27 ⟨hS, m⟩
  replace hOl := hOl.mv m; replace h4 := h4.mv m; replace hb1 := hb1.mv m; replace hb3 := hb3.mv m; replace x1 := x1.mv m; replace x2 := x2.mv m; replace x3 := x3.mv m; replace y1 := y1.mv m; replace y2 := y2.mv m; replace y3 := y3.mv m; replace hb6 := hb6.mv m; replace a1 := a1.mv m; replace a2 := a2.mv m; replace a3 := a3.mv m; replace hb10 := hb10.mv m
  replace hb9 := hS
  refine WR.eff_ (Eff.storeNC agg37 rfl rfl hb10 rfl rfl ones) ?_
  rintro _ w28 ⟨hS, m⟩
  replace hOl := hOl.mv m; replace h4 := h4.mv m; replace hb1 := hb1.mv m; replace hb3 := hb3.mv m; replace x1 := x1.mv m; replace x2 := x2.mv m; replace x3 := x3.mv m; replace y1 := y1.mv m; replace y2 := y2.mv m; replace y3 := y3.mv m; replace hb6 := hb6.mv m; replace a1 := a1.mv m; replace a2 := a2.mv m; replace a3 := a3.mv m; replace hb9 := hb9.mv m
  replace hb10 := hS
  refine za rfl <| cnil <| cseq <| cg <| vq (Val.loadBN agg26 rfl hb9.blk rfl) <| vq (Val.build (cells := #[I 12, I 0, I 0, I 0, St [], St [], St []]) rfl (by kernel_rfl)) ?_
  refine ve (Eff.call pf19 rfl (mdoW_ok (o := swp) a1 a2 a3 pT3 pG3 pS3 hmA (by decide) hsw)) ?_
  rintro v83 w29 ⟨c29, m, ⟨zT, zG, zS, rfl, pT4, pG4, pS4, d1, d2, d3⟩⟩
  replace hOl := hOl.mv m; replace h4 := h4.mv m; replace hb1 := hb1.mv m; replace hb3 := hb3.mv m; replace x1 := x1.mv m; replace x2 := x2.mv m; replace x3 := x3.mv m; replace y1 := y1.mv m; replace y2 := y2.mv m; replace y3 := y3.mv m; replace hb6 := hb6.mv m; replace a1 := a1.mv m; replace a2 := a2.mv m; replace a3 := a3.mv m; replace hb9 := hb9.mv m; replace hb10 := hb10.mv m
  rw [doM_swp] at d1 d2 d3 ⊢
  rw [hag.1] at d1 d2 d3 ⊢
  generalize doSweep A.1 = Z at hag ⊢
  have pd := d1.now.oneC; have pe := d2.now.oneC; have pf := d3.now.oneC
  refine zm rfl <| vq (Val.extract rfl rfl) <| vq (Val.extract rfl rfl) <| vq (Val.extract rfl rfl) <| ve (Eff.allocC c29 112 zero26) ?_
  rintro _ w30 ⟨b12, c30, rfl, m, hb12⟩
  replace hOl := hOl.mv m; replace h4 := h4.mv m; replace hb1 := hb1.mv m; replace hb3 := hb3.mv m; replace x1 := x1.mv m; replace x2 := x2.mv m; replace x3 := x3.mv m; replace y1 := y1.mv m; replace y2 := y2.mv m; replace y3 := y3.mv m; replace hb6 := hb6.mv m; replace a1 := a1.mv m; replace a2 := a2.mv m; replace a3 := a3.mv m; replace hb9 := hb9.mv m; replace hb10 := hb10.mv m; replace d1 := d1.mv m; replace d2 := d2.mv m; replace d3 := d3.mv m
  refine ve (Eff.allocC c30 113 zero37) ?_
  rintro _ w31 ⟨b13, c31, rfl, m, hb13⟩
  replace hOl := hOl.mv m; replace h4 := h4.mv m; replace hb1 := hb1.mv m; replace hb3 := hb3.mv m; replace x1 := x1.mv m; replace x2 := x2.mv m; replace x3 := x3.mv m; replace y1 := y1.mv m; replace y2 := y2.mv m; replace y3 := y3.mv m; replace hb6 := hb6.mv m; replace a1 := a1.mv m; replace a2 := a2.mv m; replace a3 := a3.mv m; replace hb9 := hb9.mv m; replace hb10 := hb10.mv m; replace d1 := d1.mv m; replace d2 := d2.mv m; replace d3 := d3.mv m; replace hb12 := hb12.mv m
  refine WR.eff_ (Eff.storeNC agg26 rfl rfl hb12 rfl rfl ones) ?_
  rintro _ w32 ⟨hS, m⟩
  replace hOl := hOl.mv m; replace h4 := h4.mv m; replace hb1 := hb1.mv m; replace hb3 := hb3.mv m; replace x1 := x1.mv m; replace x2 := x2.mv m; replace x3 := x3.mv m; replace y1 := y1.mv m; replace y2 := y2.mv m; replace y3 := y3.mv m; replace hb6 := hb6.mv m; replace a1 := a1.mv m; replace a2 := a2.mv m; replace a3 := a3.mv m; replace hb9 := hb9.mv m; replace hb10 := hb10.mv m; replace d1 := d1.mv m; replace d2 := d2.mv m; replace d3 := d3.mv m; replace hb13 := hb13.mv m
  replace hb12 := hS
  refine WR.eff_ (Eff.storeNC agg37 rfl rfl hb13 rfl rfl ones) ?_
  rintro _ w33 ⟨hS, m⟩
  replace hOl := hOl.mv m; replace h4 := h4.mv m; replace hb1 := hb1.mv m; replace hb3 := hb3.mv m; replace x1 := x1.mv m; replace x2 := x2.mv m; replace x3 := x3.mv m; replace y1 := y1.mv m; replace y2 := y2.mv m; replace y3 := y3.mv m; replace hb6 := hb6.mv m; replace a1 := a1.mv m; replace a2 := a2.mv m; replace a3 := a3.mv m; replace hb9 := hb9.mv m; replace hb10 := hb10.mv m; replace d1 := d1.mv m; replace d2 := d2.mv m; replace d3 := d3.mv m; replace hb12 := hb12.mv m
  replace hb13 := hS
  refine za rfl <| cnil <| cseq <| cseq <| cg <| zm rfl <| ve (Eff.pureC c31 1 (Eff.call pf20 rfl (lnum_ok _))) ?_
  rintro v88 w34 ⟨c34, m, hx34, rfl⟩
  replace hOl := hOl.mv m; replace h4 := h4.mv m; replace hb1 := hb1.mv m; replace hb3 := hb3.mv m; replace x1 := x1.mv m; replace x2 := x2.mv m; replace x3 := x3.mv m; replace y1 := y1.mv m; replace y2 := y2.mv m; replace y3 := y3.mv m; replace hb6 := hb6.mv m; replace a1 := a1.mv m; replace a2 := a2.mv m; replace a3 := a3.mv m; replace hb9 := hb9.mv m; replace hb10 := hb10.mv m; replace d1 := d1.mv m; replace d2 := d2.mv m; replace d3 := d3.mv m; replace hb12 := hb12.mv m; replace hb13 := hb13.mv m
  refine vq (Val.neq rfl rfl) ?_
  rw [decide_eq_true rfl]
  refine zm rfl <| WR.onEq rfl rfl rfl <| zm rfl <| WR.onEq rfl rfl rfl <| ve (Eff.pureC c34 1 (Eff.call pf20 rfl (lnum_ok _))) ?_
  rintro v92 w35 ⟨c35, m, hx35, rfl⟩
  replace hOl := hOl.mv m; replace h4 := h4.mv m; replace hb1 := hb1.mv m; replace hb3 := hb3.mv m; replace x1 := x1.mv m; replace x2 := x2.mv m; replace x3 := x3.mv m; replace y1 := y1.mv m; replace y2 := y2.mv m; replace y3 := y3.mv m; replace hb6 := hb6.mv m; replace a1 := a1.mv m; replace a2 := a2.mv m; replace a3 := a3.mv m; replace hb9 := hb9.mv m; replace hb10 := hb10.mv m; replace d1 := d1.mv m; replace d2 := d2.mv m; replace d3 := d3.mv m; replace hb12 := hb12.mv m; replace hb13 := hb13.mv m
  refine WR.onEq rfl rfl rfl <| vq (Val.neq rfl rfl) ?_
  rw [decide_eq_true rfl]
  refine WR.pickOn (by rfl) rfl rfl rfl ?_
  refine zm rfl <| WR.onEq rfl rfl rfl <| vq (Val.fieldAddr fld37_0 rfl) <| WR.onEq rfl rfl rfl <| vq (Val.loadB scl3 rfl hb13.blk rfl) <| WR.onEq rfl rfl rfl <| vq (Val.neq rfl rfl) ?_
  rw [decide_eq_true hag.2]
  refine WR.pickOn (by rfl) rfl rfl rfl ?_
  refine zm rfl <| WR.onEq rfl rfl rfl <| vq (Val.loadBN agg26 rfl hb9.blk rfl) <| WR.onEq rfl rfl rfl <| vq (Val.loadBN agg26 rfl hb12.blk rfl) <| WR.onEq rfl rfl rfl <| ve (Eff.pureC c35 1 (Eff.call pf21 rfl (eqState_ok a1.now a2.now a3.now d1.now d2.now d3.now))) ?_
  rintro v103 w36 ⟨c36, m, hx36, rfl⟩
  replace hOl := hOl.mv m; replace h4 := h4.mv m; replace hb1 := hb1.mv m; replace hb3 := hb3.mv m; replace x1 := x1.mv m; replace x2 := x2.mv m; replace x3 := x3.mv m; replace y1 := y1.mv m; replace y2 := y2.mv m; replace y3 := y3.mv m; replace hb6 := hb6.mv m; replace a1 := a1.mv m; replace a2 := a2.mv m; replace hb9 := hb9.mv m; replace hb10 := hb10.mv m
  rw [decide_eq_true rfl]
  refine WR.onEq rfl rfl rfl <| vq (Val.not rfl) <| WR.pickOn (by rfl) rfl rfl rfl ?_
  refine zm rfl <| WR.onEq rfl rfl rfl <| vq (Val.fieldAddr fld37_0 rfl) <| WR.onEq rfl rfl rfl <| vq (Val.loadB scl3 rfl hb10.blk rfl) <| WR.onEq rfl rfl rfl <| vq (Val.fieldAddr fld26_0 rfl) <| WR.onEq rfl rfl rfl <| vq (Val.loadB scl22 rfl hb6.blk rfl) <| WR.onEq rfl rfl rfl <| vq (Val.rdlenC sl22 y1 rfl) <| WR.onEq rfl rfl rfl <| vq (Val.fieldAddr fld26_0 rfl) <| WR.onEq rfl rfl rfl <| vq (Val.loadB scl22 rfl hb9.blk rfl) <| WR.onEq rfl rfl rfl <| vq (Val.rdlenC sl22 a1 rfl) <| WR.onEq rfl rfl rfl ?_
  refine vq (Val.subI rfl rfl (by have := hBY.l1; omega) (by have := hBY.l1; omega)) ?_
  refine WR.onEq rfl rfl rfl <| vq (Val.neq rfl rfl) ?_
  rw [decide_eq_true hAn]
  refine WR.pickOn (by rfl) rfl rfl rfl ?_
  refine zm rfl <| WR.onEq rfl rfl rfl <| vq (Val.fieldAddr fld26_1 rfl) <| WR.onEq rfl rfl rfl <| vq (Val.loadB scl23 rfl hb9.blk rfl) <| WR.onEq rfl rfl rfl <| vq (Val.fieldAddr fld26_1 rfl) <| WR.onEq rfl rfl rfl <| vq (Val.loadB scl23 rfl hb6.blk rfl) <| WR.onEq rfl rfl rfl <| ve (Eff.pureC c36 1 (Eff.call pf22 rfl (eqTags_ok a2.now y2.now))) ?_
  rintro v123 w37 ⟨c37, m, hx37, rfl⟩
  replace hOl := hOl.mv m; replace h4 := h4.mv m; replace hb1 := hb1.mv m; replace hb3 := hb3.mv m; replace x1 := x1.mv m; replace x2 := x2.mv m; replace x3 := x3.mv m; replace y1 := y1.mv m; replace y2 := y2.mv m; replace y3 := y3.mv m; replace hb6 := hb6.mv m
  rw [decide_eq_true hAt]
  refine WR.onEq rfl rfl rfl <| vq (Val.not rfl) <| WR.pickOn (by rfl) rfl rfl rfl ?_
  refine cnil <| WC.cond_false rfl <| cskip <| cg <| vq (Val.loadBN agg26 rfl hb6.blk rfl) <| WR.eff_ (Eff.storeNC agg26 rfl rfl hb3 rfl rfl ones) ?_
  rintro _ w38 ⟨hS, m⟩
  replace hOl := hOl.mv m; replace h4 := h4.mv m; replace hb1 := hb1.mv m; replace x1 := x1.mv m; replace x2 := x2.mv m; replace x3 := x3.mv m; replace y1 := y1.mv m; replace y2 := y2.mv m; replace y3 := y3.mv m
  replace hb3 := hS
  refine cnil <| cg <| zm rfl <| vq (Val.addI rfl rfl side side) <| za rfl <| cnil ?_
  first
  | exact ⟨i + 1, subs, ⟨_, uT, uG, uS, X, hOl, h4, hb1, hb3, y1, y2, y3, hmY, pT2, pG2, pS2, by omega, by omega⟩, by omega⟩
  | exact ⟨i + 1, subs, ⟨_, sT, sG, sS, S', hOl, h4, hb1, hb3, x1, x2, x3, hmS, pT, pG, pS, by omega, by omega⟩, by omega⟩
 try simp only [tstS] at hc5
 skip
 refine WC.exit rfl <| cseq <| cg <| ve (Eff.pureC cl 1 (Eff.call pf23 rfl (lwakes_ok))) ?_
 rintro v127 w39 ⟨c39, m, hx39, rfl⟩
 replace hOl := hOl.mv m
 refine za rfl <| cnil <| WC.ret1 rfl rfl ?_
 exact ⟨hOl.below, rfl⟩
end Go.Proofs.YtdlpibhecdfbcaaGreatDoor
