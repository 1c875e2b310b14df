/- Manifests: the law of their bytes, walked. No condition. -/
import Derived.Test.YtnddlhjafkhdoaaMan6
set_option linter.unusedSimpArgs false
set_option linter.unusedVariables false
set_option maxRecDepth 100000
namespace Go.Proofs.Ytnddlhjafkhdoaa
open Go Go.Eng Go.RowKit Silo TryT

theorem mnum_ok {w : World} (e : Int) : Calls Try.prog 22 #[I e] w (Ret fun v w' => Below w.heap.size w w' ∧ v = I e) := by
  refine enter (n := 4) (res := #[.tmp 2]) Try.func22 rfl rfl rfl rfl ?_
  refine cseq <| cregion <| qq (Val.assign rfl) rfl <| cnil <| cseq <| cregion <| qq (Val.move rfl) rfl <| qq (Val.assign rfl) rfl <| cnil ?_
  refine WC.ret1 rfl rfl ?_
  exact ⟨Below.refl _ _, rfl⟩
theorem mwakes_ok {w : World} : Calls Try.prog 27 #[] w (Ret fun v w' => Below w.heap.size w w' ∧ v = .bool true) := by
  have hK : Old w w := Old.refl w
  refine enter (n := 15) (res := #[.tmp 0]) Try.func27 rfl rfl rfl rfl ?_
  refine cseq <| cregion <| qq (Val.assign rfl) rfl <| cnil <| cseq <| cregion <| qq (Val.build (cells := #[I 0, .slice none 0 0, .slice none 0 0]) rfl (by kernel_rfl)) rfl ?_
  refine WR.eff (Eff.call pf18 rfl (mbytes_ok (rdMan0 _))) rfl ?_
  rintro v5 w1 ⟨hk1, rfl⟩
  replace hK := hK.up hk1
  refine qq (Val.move rfl) rfl <| qq (Val.extract rfl rfl) rfl <| qq (Val.extract rfl rfl) rfl <| qq (Val.assign rfl) rfl <| qq (Val.assign rfl) rfl <| cnil ?_
  rw [show manMay man0 = true from rfl, show manBytes man0 = [77, 65, 78, 70, 0, 0, 0] from rfl]
  refine cseq <| cregion <| qq (Val.move rfl) rfl ?_
  refine WR.eff (Eff.call pf22 rfl (mnum_ok _)) rfl ?_
  rintro v9 w2 ⟨hk2, rfl⟩
  replace hK := hK.up hk2
  refine qq (Val.eql rfl rfl) rfl <| qq (Val.move rfl) rfl ?_
  apply WR.sc true 2 _ (fun w' => w2 = w')
  case hl => rfl
  case hg => rfl
  case hu => rfl
  case hv => rfl
  case hs => rfl
  case hoff => rfl
  case hd => rfl
  case hF => exact fun _ => rfl
  case hT =>
   intro hq6
   try simp only [tstS] at hq6
   simp only [List.take_succ_cons, List.take_zero]
   refine WR.on rfl rfl ?_
   refine qq (Val.move rfl) rfl ?_
   refine WR.on rfl rfl ?_
   refine qq (Val.seq_ rfl rfl) rfl ?_
   exact WR.nil ⟨rfl, Sub.drop _ 2 _ rfl rfl, rfl⟩
  rintro _ rfl
  refine qq (Val.assign rfl) rfl <| cnil ?_
  refine WC.ret1 rfl rfl ?_
  exact ⟨hK, rfl⟩

set_option maxHeartbeats 4000000 in
theorem manifestBytes_ok {w : World} {vM vT : Value} {L : List Man} {T : List (List UInt8)} (h1 : Rd manS w vM L) (h2 : Rd strS w vT T) :
    Calls Try.prog 3 #[.agg #[vM, vT]] w (Ret fun v w' => Below w.heap.size w w' ∧ v = .bool true) := by
  obtain ⟨A1, p1, rfl, _⟩ := h1.form
  obtain ⟨A2, p2, rfl, _⟩ := h2.form
  obtain ⟨vM, hvM⟩ : ∃ v, v = Value.slice A1 L.length p1 := ⟨_, rfl⟩
  obtain ⟨vT, hvT⟩ : ∃ v, v = Value.slice A2 T.length p2 := ⟨_, rfl⟩
  rw [← hvM] at h1 ⊢
  rw [← hvT] at h2 ⊢
  have o1 : vM.oneCell' = true := by rw [hvM]; rfl
  have o2 : vT.oneCell' = true := by rw [hvT]; rfl
  obtain ⟨c, hO, hc⟩ := OldC.start w
  replace h1 : RdC manS c w [0] vM L := Rd.toC h1 (fun k hk => by simp [hc, hasC])
  replace h2 : RdC strS c w [0] vT T := Rd.toC h2 (fun k hk => by simp [hc, hasC])
  clear hc hvM hvT
  refine enter (n := 158) (res := #[.tmp 2]) Try.func3 rfl rfl rfl rfl ?_
  refine cseq <| cregion ?_
  refine WR.eff (Eff.boxC c 101 rfl) rfl ?_
  rintro _ w1 ⟨b1, c1, rfl, hM1, hb1⟩
  replace hO := hO.mv hM1 rfl; replace h1 := h1.mv hM1 rfl; replace h2 := h2.mv hM1 rfl
  refine qq (Val.assign rfl) rfl <| cnil <| cseq <| cseq <| cregion <| qq (Val.loadBN agg25 rfl hb1.blk rfl) rfl ?_
  refine WR.eff (Eff.pureC c1 1 (Eff.call pf14 rfl (mheavy_ok h1.now h2.now))) rfl ?_
  rintro v20 w2 ⟨c2, hM2, hx2, rfl⟩
  replace hO := hO.mv hM2 rfl; replace h1 := h1.mv hM2 rfl; replace h2 := h2.mv hM2 rfl; replace hb1 := hb1.mv hM2 rfl
  refine cnil ?_
  refine WC.cond rfl (fun hc1 => ?_) (fun hc1 => ?_)
  ·try simp only [tstS] at hc1
   refine cseq <| cregion <| qq (Val.assign rfl) rfl <| cnil ?_
   refine WC.ret1 rfl rfl ?_
   exact ⟨hO.below, rfl⟩
  ·try simp only [tstS] at hc1
   obtain ⟨⟨ht1, ht2⟩, hlm⟩ := papers_light (L := L) (T := T) (by omega)
   refine cskip <| cseq <| cregion ?_
   first | refine WR.val (Val.fieldAddr fld25_1 rfl) rfl ?_ | refine WR.val (Val.fieldAddrP fld25_1 rfl) rfl ?_
   refine qq (Val.loadB scl23 rfl hb1.blk rfl) rfl ?_
   refine WR.eff (Eff.pureC c2 123 (Eff.call pf15 rfl (copyStrings_ok h2.now (by omega)))) rfl ?_
   rintro v23 w3 ⟨c3, hM3, hx3, ho23⟩
   replace hO := hO.mv hM3 rfl; replace h1 := h1.mv hM3 rfl; replace h2 := h2.mv hM3 rfl; replace hb1 := hb1.mv hM3 rfl
   replace ho23 := ho23.toC hx3
   refine qq (Val.assign rfl) rfl <| cnil <| cseq <| cseq <| cregion <| qq (Val.assign rfl) rfl <| cnil <| cblock ?_
   refine WC.loop (σ := Nat × Value × List (List UInt8)) (fun st => [(1, .pointer (some ⟨b1, 0, none⟩)), (3, st.2.1), (4, I st.1)]) (fun st w' => ∃ c', OldC w c' w' ∧ RdC manS c' w' [0] vM L ∧ BlkC c' w' 101 b1 [vM, vT] 25 ∧ OwnC c' w' 123 9 1 st.2.1 st.2.2.length (st.2.2.flatMap fun x => [St x]) ∧ st.1 ≤ L.length ∧ st.1 ≤ 6 ∧ st.2.2.length ≤ 6000 + 3 * st.1 ∧ ∀ x ∈ st.2.2, x.length ≤ 7000) (fun st => L.length - st.1) (0, v23, T) (by repeat (first | exact Sub.nil _ | refine Sub.cons rfl ?_ | refine Sub.consM rfl ?_)) ⟨_, hO, h1, hb1, ho23, by simp, by simp, by dsimp only; omega, fun x hx => by have := ht2 x hx; omega⟩ ?_
   clear hO h1 h2 hb1 ho23
   rintro ⟨i, vt, texts⟩ wl ⟨cl, hO, h1, hb1, ho, hi, hi6, htl, htx⟩
   dsimp only at hO h1 hb1 ho hi hi6 htl htx ⊢
   have hsm := h1.now.small
   refine cseq <| cseq <| cregion <| qq (Val.move rfl) rfl ?_
   first | refine WR.val (Val.fieldAddr fld25_0 rfl) rfl ?_ | refine WR.val (Val.fieldAddrP fld25_0 rfl) rfl ?_
   refine qq (Val.loadB scl22 rfl hb1.blk rfl) rfl ?_
   first | refine WR.val (Val.rdlen sl22 (by assumption) rfl) rfl ?_ | refine WR.val (Val.sllen Try.underlying22 rfl) rfl ?_ | refine WR.val (Val.olen sl22 (by assumption) rfl) rfl ?_ | refine WR.val (Val.rdlenC sl22 (by assumption) rfl) rfl ?_
   refine qq (Val.lss rfl rfl) rfl <| qq (Val.move rfl) rfl ?_
   apply WR.sc true 2 _ (fun w' => wl = w')
   case hl => rfl
   case hg => rfl
   case hu => rfl
   case hv => rfl
   case hs => rfl
   case hoff => rfl
   case hd => rfl
   case hF => exact fun _ => rfl
   case hT =>
    intro hq8
    try simp only [tstS] at hq8
    simp only [List.take_succ_cons, List.take_zero]
    refine WR.on rfl rfl ?_
    refine qq (Val.move rfl) rfl ?_
    refine WR.on rfl rfl ?_
    refine qq (Val.lss rfl rfl) rfl ?_
    exact WR.nil ⟨rfl, Sub.drop _ 2 _ rfl rfl, rfl⟩
   rintro _ rfl
   refine cnil ?_
   refine WC.cond rfl (fun hc5 => ?_) (fun hc5 => ?_)
   ·try simp only [tstS] at hc5
    obtain ⟨hc5, hc5'⟩ := hc5
    have ka : i < L.length := by omega
    obtain ⟨cs1, hc110, hl1, hf1⟩ := h1.el ka (by decide)
    obtain ⟨hlb, hls⟩ := hlm _ (List.getElem_mem ka)
    refine cskip <| cseq <| cblock <| cseq <| cregion ?_
    first | refine WR.val (Val.fieldAddr fld25_0 rfl) rfl ?_ | refine WR.val (Val.fieldAddrP fld25_0 rfl) rfl ?_
    refine qq (Val.loadB scl22 rfl hb1.blk rfl) rfl <| qq (Val.move rfl) rfl ?_
    first | refine WR.val (Val.indexAddr sl22 (by assumption) rfl rfl rfl (by first | omega | assumption | (simp; omega) | (simp; done)) (by first | omega | assumption | (simp; omega) | (simp; done))) rfl ?_ | refine WR.val (Val.indexC sl22 (by assumption) rfl rfl (by first | omega | assumption | (simp; omega) | (simp; done)) (by first | omega | assumption | (simp; omega) | (simp; done))) rfl ?_ | refine WR.val (Val.indexO sl22 (by assumption) rfl rfl (by first | omega | assumption | (simp; omega) | (simp; done)) (by first | omega | assumption | (simp; omega) | (simp; done))) rfl ?_
    refine qq (Val.loadE agg29 rfl hc110.cel hl1) rfl ?_
    refine WR.eff (Eff.pureC cl 7 (Eff.call pf16 rfl (copyManifest_ok hf1.now (by omega) (by omega)))) rfl ?_
    rintro v40 w4 ⟨c4, hM4, hx4, ⟨vl, vs, rfl, hol, hos⟩⟩
    replace hO := hO.mv hM4 rfl; replace h1 := h1.mv hM4 rfl; replace hb1 := hb1.mv hM4 rfl; replace ho := ho.mv hM4 rfl; replace hc110 := hc110.mv hM4 rfl; replace hf1 := hf1.mv hM4 rfl
    replace hol := hol.toC hx4
    replace hos := hos.toC hx4
    have cl' := hol.cellsV; have ol' := hol.oneC; have cs' := hos.cellsV; have os' := hos.oneC
    have hrm : ∀ (cc : Nat → Nat) (W : World), OwnC cc W 7 9 1 vl L[i].blobs.length (L[i].blobs.flatMap fun x => [St x]) → OwnC cc W 7 9 1 vs L[i].subs.length (L[i].subs.flatMap fun x => [St x]) → RdMan W [I L[i].kind, vl, vs] L[i] := by
      obtain ⟨_, _, _, hq1, hq2, hq3⟩ := hf1.now
      exact fun _ _ h3 h4 => ⟨vl, vs, rfl, h3.own.rdStrs hq1.okFlat hq1.small, h4.own.rdStrs hq2.okFlat hq2.small, hq3⟩
    refine WR.eff (Eff.allocC c4 105 zero29) rfl ?_
    rintro _ w5 ⟨b5, c5, rfl, hM5, hb5⟩
    replace hO := hO.mv hM5 rfl; replace h1 := h1.mv hM5 rfl; replace hb1 := hb1.mv hM5 rfl; replace ho := ho.mv hM5 rfl; replace hc110 := hc110.mv hM5 rfl; replace hf1 := hf1.mv hM5 rfl; replace hol := hol.mv hM5 rfl; replace hos := hos.mv hM5 rfl
    refine WR.eff_ (Eff.storeNC agg29 rfl rfl hb5 rfl rfl (by repeat (first | exact List.forall_mem_nil _ | refine List.forall_mem_cons.2 ⟨by first | rfl | assumption, ?_⟩))) ?_
    rintro _ w6 ⟨hS, hM6⟩
    replace hO := hO.mv hM6 rfl; replace h1 := h1.mv hM6 rfl; replace hb1 := hb1.mv hM6 rfl; replace ho := ho.mv hM6 rfl; replace hc110 := hc110.mv hM6 rfl; replace hf1 := hf1.mv hM6 rfl; replace hol := hol.mv hM6 rfl; replace hos := hos.mv hM6 rfl
    replace hb5 := hS
    refine cnil <| cseq <| cregion ?_
    first | refine WR.val (Val.fieldAddr fld25_0 rfl) rfl ?_ | refine WR.val (Val.fieldAddrP fld25_0 rfl) rfl ?_
    refine qq (Val.loadB scl22 rfl hb1.blk rfl) rfl <| qq (Val.move rfl) rfl ?_
    first | refine WR.val (Val.indexAddr sl22 (by assumption) rfl rfl rfl (by first | omega | assumption | (simp; omega) | (simp; done)) (by first | omega | assumption | (simp; omega) | (simp; done))) rfl ?_ | refine WR.val (Val.indexC sl22 (by assumption) rfl rfl (by first | omega | assumption | (simp; omega) | (simp; done)) (by first | omega | assumption | (simp; omega) | (simp; done))) rfl ?_ | refine WR.val (Val.indexO sl22 (by assumption) rfl rfl (by first | omega | assumption | (simp; omega) | (simp; done)) (by first | omega | assumption | (simp; omega) | (simp; done))) rfl ?_
    refine qq (Val.loadE agg29 rfl hc110.cel hl1) rfl ?_
    refine WR.eff (Eff.pureC c5 1 (Eff.call pf17 rfl (pman_ok hf1.now))) rfl ?_
    rintro v46 w7 ⟨c7, hM7, hx7, rfl⟩
    replace hO := hO.mv hM7 rfl; replace h1 := h1.mv hM7 rfl; replace hb1 := hb1.mv hM7 rfl; replace ho := ho.mv hM7 rfl; replace hc110 := hc110.mv hM7 rfl; replace hf1 := hf1.mv hM7 rfl; replace hol := hol.mv hM7 rfl; replace hos := hos.mv hM7 rfl; replace hb5 := hb5.mv hM7 rfl
    refine qq (Val.assign rfl) rfl <| cnil <| cseq <| cregion <| qq (Val.loadBN agg29 rfl hb5.blk rfl) rfl ?_
    refine WR.eff (Eff.pureC c7 1 (Eff.call pf18 rfl (mbytes_ok (hrm _ _ hol hos)))) rfl ?_
    rintro v49 w8 ⟨c8, hM8, hx8, rfl⟩
    replace hO := hO.mv hM8 rfl; replace h1 := h1.mv hM8 rfl; replace hb1 := hb1.mv hM8 rfl; replace ho := ho.mv hM8 rfl; replace hc110 := hc110.mv hM8 rfl; replace hf1 := hf1.mv hM8 rfl; replace hol := hol.mv hM8 rfl; replace hos := hos.mv hM8 rfl; replace hb5 := hb5.mv hM8 rfl
    refine qq (Val.move rfl) rfl <| qq (Val.extract rfl rfl) rfl <| qq (Val.extract rfl rfl) rfl <| qq (Val.assign rfl) rfl <| qq (Val.assign rfl) rfl <| cnil <| cseq <| cregion <| qq (Val.loadBN agg29 rfl hb5.blk rfl) rfl ?_
    refine WR.eff (Eff.pureC c8 1 (Eff.call pf19 rfl (mname_ok (hrm _ _ hol hos)))) rfl ?_
    rintro v54 w9 ⟨c9, hM9, hx9, rfl⟩
    replace hO := hO.mv hM9 rfl; replace h1 := h1.mv hM9 rfl; replace hb1 := hb1.mv hM9 rfl; replace ho := ho.mv hM9 rfl; replace hc110 := hc110.mv hM9 rfl; replace hf1 := hf1.mv hM9 rfl; replace hol := hol.mv hM9 rfl; replace hos := hos.mv hM9 rfl; replace hb5 := hb5.mv hM9 rfl
    refine qq (Val.move rfl) rfl <| qq (Val.extract rfl rfl) rfl <| qq (Val.extract rfl rfl) rfl <| qq (Val.assign rfl) rfl <| qq (Val.assign rfl) rfl <| cnil <| cseq <| cregion <| qq (Val.assign rfl) rfl ?_
    refine qq (Val.assign rfl) rfl <| qq (Val.assign rfl) rfl <| cnil <| cseq <| cseq <| cregion <| qq (Val.move rfl) rfl <| cnil ?_
    refine WC.cond rfl (fun hc12 => ?_) (fun hc12 => ?_)
    ·try simp only [tstS] at hc12
     have hml := manBytes_len hc12
     have hm20 := ((manMay_iff L[i]).1 hc12).2.1
     rw [hc12]
     rw [if_pos rfl, if_pos rfl, if_pos rfl]
     refine cseq <| cregion ?_
     first | refine WR.val (Val.fieldAddr fld25_0 rfl) rfl ?_ | refine WR.val (Val.fieldAddrP fld25_0 rfl) rfl ?_
     refine qq (Val.loadB scl22 rfl hb1.blk rfl) rfl <| qq (Val.move rfl) rfl ?_
     first | refine WR.val (Val.indexAddr sl22 (by assumption) rfl rfl rfl (by first | omega | assumption | (simp; omega) | (simp; done)) (by first | omega | assumption | (simp; omega) | (simp; done))) rfl ?_ | refine WR.val (Val.indexC sl22 (by assumption) rfl rfl (by first | omega | assumption | (simp; omega) | (simp; done)) (by first | omega | assumption | (simp; omega) | (simp; done))) rfl ?_ | refine WR.val (Val.indexO sl22 (by assumption) rfl rfl (by first | omega | assumption | (simp; omega) | (simp; done)) (by first | omega | assumption | (simp; omega) | (simp; done))) rfl ?_
     refine qq (Val.loadE agg29 rfl hc110.cel hl1) rfl ?_
     refine WR.eff (Eff.pureC c9 1 (Eff.call pf20 rfl (pmbytes_ok hf1.now hc12))) rfl ?_
     rintro v63 w10 ⟨c10, hM10, hx10, rfl⟩
     replace hO := hO.mv hM10 rfl; replace h1 := h1.mv hM10 rfl; replace hb1 := hb1.mv hM10 rfl; replace ho := ho.mv hM10 rfl; replace hc110 := hc110.mv hM10 rfl; replace hf1 := hf1.mv hM10 rfl; replace hol := hol.mv hM10 rfl; replace hos := hos.mv hM10 rfl; replace hb5 := hb5.mv hM10 rfl
     refine qq (Val.assign rfl) rfl <| qq (Val.assign rfl) rfl <| cnil <| cseq <| cregion <| qq (Val.move rfl) rfl ?_
     refine WR.eff (Eff.pureC c10 1 (Eff.call pf21 rfl (pdigest_ok (manBytes L[i]) (by omega)))) rfl ?_
     rintro v65 w11 ⟨c11, hM11, hx11, rfl⟩
     replace hO := hO.mv hM11 rfl; replace h1 := h1.mv hM11 rfl; replace hb1 := hb1.mv hM11 rfl; replace ho := ho.mv hM11 rfl; replace hc110 := hc110.mv hM11 rfl; replace hf1 := hf1.mv hM11 rfl; replace hol := hol.mv hM11 rfl; replace hos := hos.mv hM11 rfl; replace hb5 := hb5.mv hM11 rfl
     refine qq (Val.assign rfl) rfl <| cnil <| cregion <| qq (Val.move rfl) rfl <| qq (Val.move rfl) rfl <| qq (Val.move rfl) rfl <| qq (Val.sadd rfl rfl (by first | omega | assumption | (simp; omega) | (simp; done))) rfl <| qq (Val.move rfl) rfl <| qq (Val.move rfl) rfl ?_
     refine qq (Val.slen Try.underlying9 rfl) rfl <| qq (Val.subI rfl rfl (by first | omega | assumption | (simp; omega) | (simp; done)) (by first | omega | assumption | (simp; omega) | (simp; done))) rfl <| qq (Val.ssliceTo Try.underlying9 rfl rfl (by omega) (by omega)) rfl ?_
     refine WR.eff (Eff.buildC c11 175 sl23 rfl rfl rfl (by simp [Value.cells]) rfl rfl) rfl ?_
     rintro _ w12 ⟨b75, c12, rfl, hM12, hb75⟩
     replace hO := hO.mv hM12 rfl; replace h1 := h1.mv hM12 rfl; replace hb1 := hb1.mv hM12 rfl; replace ho := ho.mv hM12 rfl; replace hc110 := hc110.mv hM12 rfl; replace hf1 := hf1.mv hM12 rfl; replace hol := hol.mv hM12 rfl; replace hos := hos.mv hM12 rfl; replace hb5 := hb5.mv hM12 rfl
     refine WR.eff (Eff.appendC sl23 rfl rfl ho (Src.cellsAt Try.underlying23 hb75.blk.cellsAt rfl (by repeat (first | exact List.forall_mem_nil _ | refine List.forall_mem_cons.2 ⟨by first | rfl | assumption, ?_⟩))) (by rw [maxLen_eq]; first | omega | (simp; omega)) (by first | omega | (simp; omega))) rfl ?_
     rintro v76 w13 ⟨c13, hM13, hOq⟩
     clear hb75
     replace hO := hO.mv hM13 rfl; replace h1 := h1.mv hM13 rfl; replace hb1 := hb1.mv hM13 rfl; replace hc110 := hc110.mv hM13 rfl; replace hf1 := hf1.mv hM13 rfl; replace hol := hol.mv hM13 rfl; replace hos := hos.mv hM13 rfl; replace hb5 := hb5.mv hM13 rfl
     replace ho := hOq
     have e1 : texts.flatMap (fun x => [St x]) ++ [St (manBytes L[i]), St (manBytes L[i] ++ [120]), St ((manBytes L[i]).take (((manBytes L[i]).length : Int) - 1).toNat)] = (texts ++ [manBytes L[i], manBytes L[i] ++ [120], (manBytes L[i]).take (((manBytes L[i]).length : Int) - 1).toNat]).flatMap (fun x => [St x]) := by rw [List.flatMap_append]; rfl
     replace ho : OwnC _ _ 123 9 1 _ (texts.length + 3) (texts.flatMap (fun x => [St x]) ++ [St (manBytes L[i]), St (manBytes L[i] ++ [120]), St ((manBytes L[i]).take (((manBytes L[i]).length : Int) - 1).toNat)]) := ho
     have e2 : texts.length + 3 = (texts ++ [manBytes L[i], manBytes L[i] ++ [120], (manBytes L[i]).take (((manBytes L[i]).length : Int) - 1).toNat]).length := by simp
     rw [e1, e2] at ho
     have htx2 : ∀ x ∈ texts ++ [manBytes L[i], manBytes L[i] ++ [120], (manBytes L[i]).take (((manBytes L[i]).length : Int) - 1).toNat], x.length ≤ 7000 := fun x hx => by
       rcases List.mem_append.1 hx with hx | hx
       · exact htx x hx
       · simp at hx; rcases hx with rfl | rfl | rfl
         · omega
         · simp only [List.length_append, List.length_singleton]; omega
         · simp only [List.length_take]; omega
     clear e1
     generalize texts ++ [manBytes L[i], manBytes L[i] ++ [120], (manBytes L[i]).take (((manBytes L[i]).length : Int) - 1).toNat] = texts2 at ho e2 htx2
     refine qq (Val.assign rfl) rfl <| cnil <| cseq ?_
     refine WC.regionD (Kp c13 w13 []) [1, 2, 2, 0, 0, 0, 0, 0, 2, 0, 0, 0, 0, 0, 2, 0, 0, 0, 0, 0, 0, 0, 0, 0, 0, 0, 0, 0, 0, 1, 0, 1, 0, 0, 1, 2, 0, 0] [0, 4, 1, 2, 3, 5, 6, 7, 9, 8, 10, 11, 12, 13, 15, 14, 16, 17, 18, 19, 20, 21, 22, 23, 24, 25, 26, 27, 28, 29, 30, 31, 32, 33, 34, 35, 36, 37] mixed (by kernel_rfl) ?_
     have hM14 := Mv.drew c13 w13 []
     have hCw := Mv.drew c13 w13 []
     generalize w13.drew = w14 at hM14 hCw ⊢
     have hb10 := hb1
     have hb50 := hb5
     have hc1100 := hc110
     replace hO := hO.mv hM14 rfl; replace h1 := h1.mv hM14 rfl; replace hb1 := hb1.mv hM14 rfl; replace ho := ho.mv hM14 rfl; replace hc110 := hc110.mv hM14 rfl; replace hf1 := hf1.mv hM14 rfl; replace hol := hol.mv hM14 rfl; replace hos := hos.mv hM14 rfl; replace hb5 := hb5.mv hM14 rfl
     refine qc rfl rfl rfl hCw.kp (fun W hW => Val.loadBN agg29 rfl (hb50.kp hW rfl).blk rfl) rfl <| qd rfl rfl rfl (fun _ => Val.move rfl) rfl ?_
     refine WD.eff rfl rfl rfl (Eff.pureC c13 1 (Eff.call pf23 rfl (mcheck_ok (hrm _ _ hol hos)))) rfl ?_
     rintro v78 w15 ⟨c15, hM15, hx15, rfl⟩
     refine ⟨fun hC => hC.step hCw hM15 rfl, ?_⟩
     replace hCw := hCw.tr hM15 rfl
     replace hO := hO.mv hM15 rfl; replace h1 := h1.mv hM15 rfl; replace hb1 := hb1.mv hM15 rfl; replace ho := ho.mv hM15 rfl; replace hc110 := hc110.mv hM15 rfl; replace hf1 := hf1.mv hM15 rfl; replace hol := hol.mv hM15 rfl; replace hos := hos.mv hM15 rfl; replace hb5 := hb5.mv hM15 rfl
     rw [hc12]
     refine WD.eff rfl rfl rfl (Eff.pureC c15 1 (Eff.call pf22 rfl (mnum_ok _))) rfl ?_
     rintro v79 w16 ⟨c16, hM16, hx16, rfl⟩
     refine ⟨fun hC => hC.step hCw hM16 rfl, ?_⟩
     replace hCw := hCw.tr hM16 rfl
     replace hO := hO.mv hM16 rfl; replace h1 := h1.mv hM16 rfl; replace hb1 := hb1.mv hM16 rfl; replace ho := ho.mv hM16 rfl; replace hc110 := hc110.mv hM16 rfl; replace hf1 := hf1.mv hM16 rfl; replace hol := hol.mv hM16 rfl; replace hos := hos.mv hM16 rfl; replace hb5 := hb5.mv hM16 rfl
     refine qd rfl rfl rfl (fun _ => Val.eql rfl rfl) rfl <| qd rfl rfl rfl (fun _ => Val.bneq Try.underlying4 rfl rfl) rfl <| qd rfl rfl rfl (fun _ => Val.move rfl) rfl <| qd rfl rfl rfl (fun _ => Val.move rfl) rfl <| qd rfl rfl rfl (fun _ => Val.move rfl) rfl ?_
     refine WD.eff rfl rfl rfl (Eff.pureC c16 1 (Eff.call pf22 rfl (mnum_ok _))) rfl ?_
     rintro v85 w17 ⟨c17, hM17, hx17, rfl⟩
     refine ⟨fun hC => hC.step hCw hM17 rfl, ?_⟩
     replace hCw := hCw.tr hM17 rfl
     replace hO := hO.mv hM17 rfl; replace h1 := h1.mv hM17 rfl; replace hb1 := hb1.mv hM17 rfl; replace ho := ho.mv hM17 rfl; replace hc110 := hc110.mv hM17 rfl; replace hf1 := hf1.mv hM17 rfl; replace hol := hol.mv hM17 rfl; replace hos := hos.mv hM17 rfl; replace hb5 := hb5.mv hM17 rfl
     refine qd rfl rfl rfl (fun _ => Val.neq rfl rfl) rfl <| qd rfl rfl rfl (fun _ => Val.pick rfl rfl) rfl <| qd rfl rfl rfl (fun _ => Val.move rfl) rfl <| qd rfl rfl rfl (fun _ => Val.move rfl) rfl <| qd rfl rfl rfl (fun _ => Val.move rfl) rfl ?_
     refine WD.eff rfl rfl rfl (Eff.pureC c17 1 (Eff.call pf22 rfl (mnum_ok _))) rfl ?_
     rintro v91 w18 ⟨c18, hM18, hx18, rfl⟩
     refine ⟨fun hC => hC.step hCw hM18 rfl, ?_⟩
     replace hCw := hCw.tr hM18 rfl
     replace hO := hO.mv hM18 rfl; replace h1 := h1.mv hM18 rfl; replace hb1 := hb1.mv hM18 rfl; replace ho := ho.mv hM18 rfl; replace hc110 := hc110.mv hM18 rfl; replace hf1 := hf1.mv hM18 rfl; replace hol := hol.mv hM18 rfl; replace hos := hos.mv hM18 rfl; replace hb5 := hb5.mv hM18 rfl
     refine qd rfl rfl rfl (fun _ => Val.neq rfl rfl) rfl <| qd rfl rfl rfl (fun _ => Val.pick rfl rfl) rfl <| qd rfl rfl rfl (fun _ => Val.move rfl) rfl <| qd rfl rfl rfl (fun _ => Val.move rfl) rfl <| qd rfl rfl rfl (fun _ => Val.move rfl) rfl <| qd rfl rfl rfl (fun _ => Val.sne rfl rfl) rfl ?_
     try rw [sne_self]
     refine qd rfl rfl rfl (fun _ => Val.pick rfl rfl) rfl <| qd rfl rfl rfl (fun _ => Val.move rfl) rfl <| qd rfl rfl rfl (fun _ => Val.move rfl) rfl <| qd rfl rfl rfl (fun _ => Val.move rfl) rfl <| qd rfl rfl rfl (fun _ => Val.sne rfl rfl) rfl ?_
     try rw [sne_self]
     refine qd rfl rfl rfl (fun _ => Val.pick rfl rfl) rfl <| qd rfl rfl rfl (fun _ => Val.move rfl) rfl <| qc rfl rfl rfl hCw.kp (fun W hW => Val.loadBN agg29 rfl (hb50.kp hW rfl).blk rfl) rfl ?_
     first | refine WD.val rfl rfl rfl (fun _ => Val.fieldAddr fld25_0 rfl) rfl ?_ | refine WD.val rfl rfl rfl (fun _ => Val.fieldAddrP fld25_0 rfl) rfl ?_
     refine qc rfl rfl rfl hCw.kp (fun W hW => Val.loadB scl22 rfl (hb10.kp hW rfl).blk rfl) rfl <| qd rfl rfl rfl (fun _ => Val.move rfl) rfl <| qd rfl rfl rfl (fun _ => Val.indexAddr sl22 h1.now rfl rfl rfl (by omega) (by omega)) rfl <| qc rfl rfl rfl hCw.kp (fun W hW => Val.loadE agg29 rfl (hc1100.kp hW rfl).cel hl1) rfl ?_
     refine WD.eff rfl rfl rfl (Eff.pureC c18 1 (Eff.call pf24 rfl (eqManifest_ok (hrm _ _ hol hos) hf1.now))) rfl ?_
     rintro v112 w19 ⟨c19, hM19, hx19, rfl⟩
     refine ⟨fun hC => hC.step hCw hM19 rfl, ?_⟩
     replace hCw := hCw.tr hM19 rfl
     replace hO := hO.mv hM19 rfl; replace h1 := h1.mv hM19 rfl; replace hb1 := hb1.mv hM19 rfl; replace ho := ho.mv hM19 rfl; replace hc110 := hc110.mv hM19 rfl; replace hf1 := hf1.mv hM19 rfl; replace hol := hol.mv hM19 rfl; replace hos := hos.mv hM19 rfl; replace hb5 := hb5.mv hM19 rfl
     rw [decide_eq_true rfl]
     refine qd rfl rfl rfl (fun _ => Val.not rfl) rfl <| qd rfl rfl rfl (fun _ => Val.pick rfl rfl) rfl ?_
     refine WD.nil ?_
     clear hb10 hb50 hc1100
     clear hCw
     refine WC.cond_false rfl ?_
     refine cskip <| cregion <| qq (Val.move rfl) rfl <| qq (Val.addI rfl rfl (by first | omega | assumption | (simp; omega) | (simp; done)) (by first | omega | assumption | (simp; omega) | (simp; done))) rfl <| qq (Val.assign rfl) rfl <| cnil ?_
     first
     | exact ⟨(i + 1, _, texts2), (by repeat (first | exact Sub.nil _ | refine Sub.cons rfl ?_ | refine Sub.consM rfl ?_)), ⟨_, hO, h1, hb1, ho, ka, by dsimp only; omega, by dsimp only; omega, htx2⟩, by dsimp only; omega⟩
     | exact ⟨(i + 1, _, texts), (by repeat (first | exact Sub.nil _ | refine Sub.cons rfl ?_ | refine Sub.consM rfl ?_)), ⟨_, hO, h1, hb1, ho, ka, by dsimp only; omega, by dsimp only; omega, htx⟩, by dsimp only; omega⟩
    ·try simp only [tstS] at hc12
     rw [hc12]
     refine cskip <| cseq ?_
     refine WC.regionD (Kp c9 w9 []) [1, 2, 2, 0, 0, 0, 0, 0, 2, 0, 0, 0, 0, 0, 2, 0, 0, 0, 0, 0, 0, 0, 0, 0, 0, 0, 0, 0, 0, 1, 0, 1, 0, 0, 1, 2, 0, 0] [0, 4, 1, 2, 3, 5, 6, 7, 9, 8, 10, 11, 12, 13, 15, 14, 16, 17, 18, 19, 20, 21, 22, 23, 24, 25, 26, 27, 28, 29, 30, 31, 32, 33, 34, 35, 36, 37] mixed (by kernel_rfl) ?_
     have hM20 := Mv.drew c9 w9 []
     have hCw := Mv.drew c9 w9 []
     generalize w9.drew = w20 at hM20 hCw ⊢
     have hb10 := hb1
     have hb50 := hb5
     have hc1100 := hc110
     replace hO := hO.mv hM20 rfl; replace h1 := h1.mv hM20 rfl; replace hb1 := hb1.mv hM20 rfl; replace ho := ho.mv hM20 rfl; replace hc110 := hc110.mv hM20 rfl; replace hf1 := hf1.mv hM20 rfl; replace hol := hol.mv hM20 rfl; replace hos := hos.mv hM20 rfl; replace hb5 := hb5.mv hM20 rfl
     refine qc rfl rfl rfl hCw.kp (fun W hW => Val.loadBN agg29 rfl (hb50.kp hW rfl).blk rfl) rfl <| qd rfl rfl rfl (fun _ => Val.move rfl) rfl ?_
     refine WD.eff rfl rfl rfl (Eff.pureC c9 1 (Eff.call pf23 rfl (mcheck_ok (hrm _ _ hol hos)))) rfl ?_
     rintro v78 w21 ⟨c21, hM21, hx21, rfl⟩
     refine ⟨fun hC => hC.step hCw hM21 rfl, ?_⟩
     replace hCw := hCw.tr hM21 rfl
     replace hO := hO.mv hM21 rfl; replace h1 := h1.mv hM21 rfl; replace hb1 := hb1.mv hM21 rfl; replace ho := ho.mv hM21 rfl; replace hc110 := hc110.mv hM21 rfl; replace hf1 := hf1.mv hM21 rfl; replace hol := hol.mv hM21 rfl; replace hos := hos.mv hM21 rfl; replace hb5 := hb5.mv hM21 rfl
     rw [hc12]
     refine WD.eff rfl rfl rfl (Eff.pureC c21 1 (Eff.call pf22 rfl (mnum_ok _))) rfl ?_
     rintro v79 w22 ⟨c22, hM22, hx22, rfl⟩
     refine ⟨fun hC => hC.step hCw hM22 rfl, ?_⟩
     replace hCw := hCw.tr hM22 rfl
     replace hO := hO.mv hM22 rfl; replace h1 := h1.mv hM22 rfl; replace hb1 := hb1.mv hM22 rfl; replace ho := ho.mv hM22 rfl; replace hc110 := hc110.mv hM22 rfl; replace hf1 := hf1.mv hM22 rfl; replace hol := hol.mv hM22 rfl; replace hos := hos.mv hM22 rfl; replace hb5 := hb5.mv hM22 rfl
     refine qd rfl rfl rfl (fun _ => Val.eql rfl rfl) rfl <| qd rfl rfl rfl (fun _ => Val.bneq Try.underlying4 rfl rfl) rfl <| qd rfl rfl rfl (fun _ => Val.move rfl) rfl <| qd rfl rfl rfl (fun _ => Val.move rfl) rfl <| qd rfl rfl rfl (fun _ => Val.move rfl) rfl ?_
     refine WD.eff rfl rfl rfl (Eff.pureC c22 1 (Eff.call pf22 rfl (mnum_ok _))) rfl ?_
     rintro v85 w23 ⟨c23, hM23, hx23, rfl⟩
     refine ⟨fun hC => hC.step hCw hM23 rfl, ?_⟩
     replace hCw := hCw.tr hM23 rfl
     replace hO := hO.mv hM23 rfl; replace h1 := h1.mv hM23 rfl; replace hb1 := hb1.mv hM23 rfl; replace ho := ho.mv hM23 rfl; replace hc110 := hc110.mv hM23 rfl; replace hf1 := hf1.mv hM23 rfl; replace hol := hol.mv hM23 rfl; replace hos := hos.mv hM23 rfl; replace hb5 := hb5.mv hM23 rfl
     refine qd rfl rfl rfl (fun _ => Val.neq rfl rfl) rfl <| qd rfl rfl rfl (fun _ => Val.pick rfl rfl) rfl <| qd rfl rfl rfl (fun _ => Val.move rfl) rfl <| qd rfl rfl rfl (fun _ => Val.move rfl) rfl <| qd rfl rfl rfl (fun _ => Val.move rfl) rfl ?_
     refine WD.eff rfl rfl rfl (Eff.pureC c23 1 (Eff.call pf22 rfl (mnum_ok _))) rfl ?_
     rintro v91 w24 ⟨c24, hM24, hx24, rfl⟩
     refine ⟨fun hC => hC.step hCw hM24 rfl, ?_⟩
     replace hCw := hCw.tr hM24 rfl
     replace hO := hO.mv hM24 rfl; replace h1 := h1.mv hM24 rfl; replace hb1 := hb1.mv hM24 rfl; replace ho := ho.mv hM24 rfl; replace hc110 := hc110.mv hM24 rfl; replace hf1 := hf1.mv hM24 rfl; replace hol := hol.mv hM24 rfl; replace hos := hos.mv hM24 rfl; replace hb5 := hb5.mv hM24 rfl
     refine qd rfl rfl rfl (fun _ => Val.neq rfl rfl) rfl <| qd rfl rfl rfl (fun _ => Val.pick rfl rfl) rfl <| qd rfl rfl rfl (fun _ => Val.move rfl) rfl <| qd rfl rfl rfl (fun _ => Val.move rfl) rfl <| qd rfl rfl rfl (fun _ => Val.move rfl) rfl <| qd rfl rfl rfl (fun _ => Val.sne rfl rfl) rfl ?_
     try rw [sne_self]
     refine qd rfl rfl rfl (fun _ => Val.pick rfl rfl) rfl <| qd rfl rfl rfl (fun _ => Val.move rfl) rfl <| qd rfl rfl rfl (fun _ => Val.move rfl) rfl <| qd rfl rfl rfl (fun _ => Val.move rfl) rfl <| qd rfl rfl rfl (fun _ => Val.sne rfl rfl) rfl ?_
     try rw [sne_self]
     refine qd rfl rfl rfl (fun _ => Val.pick rfl rfl) rfl <| qd rfl rfl rfl (fun _ => Val.move rfl) rfl <| qc rfl rfl rfl hCw.kp (fun W hW => Val.loadBN agg29 rfl (hb50.kp hW rfl).blk rfl) rfl ?_
     first | refine WD.val rfl rfl rfl (fun _ => Val.fieldAddr fld25_0 rfl) rfl ?_ | refine WD.val rfl rfl rfl (fun _ => Val.fieldAddrP fld25_0 rfl) rfl ?_
     refine qc rfl rfl rfl hCw.kp (fun W hW => Val.loadB scl22 rfl (hb10.kp hW rfl).blk rfl) rfl <| qd rfl rfl rfl (fun _ => Val.move rfl) rfl <| qd rfl rfl rfl (fun _ => Val.indexAddr sl22 h1.now rfl rfl rfl (by omega) (by omega)) rfl <| qc rfl rfl rfl hCw.kp (fun W hW => Val.loadE agg29 rfl (hc1100.kp hW rfl).cel hl1) rfl ?_
     refine WD.eff rfl rfl rfl (Eff.pureC c24 1 (Eff.call pf24 rfl (eqManifest_ok (hrm _ _ hol hos) hf1.now))) rfl ?_
     rintro v112 w25 ⟨c25, hM25, hx25, rfl⟩
     refine ⟨fun hC => hC.step hCw hM25 rfl, ?_⟩
     replace hCw := hCw.tr hM25 rfl
     replace hO := hO.mv hM25 rfl; replace h1 := h1.mv hM25 rfl; replace hb1 := hb1.mv hM25 rfl; replace ho := ho.mv hM25 rfl; replace hc110 := hc110.mv hM25 rfl; replace hf1 := hf1.mv hM25 rfl; replace hol := hol.mv hM25 rfl; replace hos := hos.mv hM25 rfl; replace hb5 := hb5.mv hM25 rfl
     rw [decide_eq_true rfl]
     refine qd rfl rfl rfl (fun _ => Val.not rfl) rfl <| qd rfl rfl rfl (fun _ => Val.pick rfl rfl) rfl ?_
     refine WD.nil ?_
     clear hb10 hb50 hc1100
     clear hCw
     refine WC.cond_false rfl ?_
     refine cskip <| cregion <| qq (Val.move rfl) rfl <| qq (Val.addI rfl rfl (by first | omega | assumption | (simp; omega) | (simp; done)) (by first | omega | assumption | (simp; omega) | (simp; done))) rfl <| qq (Val.assign rfl) rfl <| cnil ?_
     first
     | exact ⟨(i + 1, _, texts2), (by repeat (first | exact Sub.nil _ | refine Sub.cons rfl ?_ | refine Sub.consM rfl ?_)), ⟨_, hO, h1, hb1, ho, ka, by dsimp only; omega, by dsimp only; omega, htx2⟩, by dsimp only; omega⟩
     | exact ⟨(i + 1, _, texts), (by repeat (first | exact Sub.nil _ | refine Sub.cons rfl ?_ | refine Sub.consM rfl ?_)), ⟨_, hO, h1, hb1, ho, ka, by dsimp only; omega, by dsimp only; omega, htx⟩, by dsimp only; omega⟩
   ·try simp only [tstS] at hc5
    have hrt : Rd strS wl vt texts := ho.own.rdStrs (fun x hx => by have := htx x hx; omega) (by omega)
    have htl2 : texts.length ≤ 6018 := by omega
    have hK : Old w wl := hO.below
    refine WC.exit rfl ?_
    refine cseq <| cseq <| cregion <| qq (Val.assign rfl) rfl <| cnil <| cblock ?_
    refine WC.loop (σ := Nat) (fun j => [(3, vt), (14, I j)]) (fun j w' => Rd strS w' vt texts ∧ Old w w' ∧ j ≤ texts.length) (fun j => texts.length - j) 0 (by repeat (first | exact Sub.nil _ | refine Sub.cons rfl ?_ | refine Sub.consM rfl ?_)) ⟨hrt, hK, by omega⟩ ?_
    clear hrt hK hO h1 hb1 ho
    rintro j wj ⟨hrt, hK, hj⟩
    refine cseq <| cseq <| cregion <| qq (Val.move rfl) rfl <| qq (Val.move rfl) rfl ?_
    first | refine WR.val (Val.rdlen sl23 (by assumption) rfl) rfl ?_ | refine WR.val (Val.sllen Try.underlying23 rfl) rfl ?_
    refine qq (Val.lss rfl rfl) rfl <| cnil ?_
    refine WC.cond rfl (fun hc19 => ?_) (fun hc19 => ?_)
    ·try simp only [tstS] at hc19
     have kj : j < texts.length := by omega
     obtain ⟨cs2, hc124, rfl, ok2⟩ := hrt.el kj
     have hc132 := hc124
     have hlt1 := htx _ (List.getElem_mem kj)
     refine cskip <| cseq <| cblock <| cseq <| cregion <| qq (Val.move rfl) rfl <| qq (Val.move rfl) rfl <| qq (Val.indexAddr sl23 (by assumption) rfl rfl rfl (by first | omega | assumption | (simp; omega) | (simp; done)) (by first | omega | assumption | (simp; omega) | (simp; done))) rfl <| qq (Val.loadE1 scl9 rfl hc124) rfl ?_
     refine WR.eff (Eff.call pf25 rfl (mtake_ok texts[j] (by omega))) rfl ?_
     rintro v126 w26 ⟨hk26, ⟨csA, rfl, hrA⟩⟩
     replace hrt := hrt.up hk26; replace hK := hK.up hk26; replace hc124 := hc124.up hk26; replace hc132 := hc132.up hk26
     refine qq (Val.move rfl) rfl <| qq (Val.extract rfl rfl) rfl <| qq (Val.extract rfl rfl) rfl ?_
     refine WR.eff (Eff.alloc zero29) rfl ?_
     rintro _ wal ⟨b15, rfl, hn15⟩
     refine WR.eff_ (Eff.storeBN agg29 rfl rfl hn15.blk rfl (manS.len hrA) (manS.one hrA)) ?_
     intro _ wst hS15
     have hkS := Below.trans hn15.below (Blk.store_below hS15 (Nat.le_of_eq hn15.at_.symm) hn15.below.size)
     replace hrt := hrt.up hkS; replace hc132 := hc132.up hkS; replace hrA := hrA.up hkS; replace hK := hK.up hkS
     have hb15 := hS15.blk
     refine qq (Val.assign rfl) rfl <| cnil <| cseq <| cregion <| qq (Val.move rfl) rfl <| qq (Val.move rfl) rfl <| qq (Val.indexAddr sl23 (by assumption) rfl rfl rfl (by first | omega | assumption | (simp; omega) | (simp; done)) (by first | omega | assumption | (simp; omega) | (simp; done))) rfl <| qq (Val.loadE1 scl9 rfl hc132) rfl ?_
     refine WR.eff (Eff.call pf26 rfl (pmtake_ok texts[j] (by omega))) rfl ?_
     rintro v134 w27 ⟨hk27, ⟨csB, rfl, hrB⟩⟩
     replace hrt := hrt.up hk27; replace hK := hK.up hk27; replace hc132 := hc132.up hk27; replace hrA := hrA.up hk27; replace hb15 := hb15.up hk27
     refine qq (Val.move rfl) rfl <| qq (Val.extract rfl rfl) rfl <| qq (Val.extract rfl rfl) rfl ?_
     refine WR.eff (Eff.alloc zero29) rfl ?_
     rintro _ wal2 ⟨b17, rfl, hn17⟩
     refine WR.eff_ (Eff.storeBN agg29 rfl rfl hn17.blk rfl (manS.len hrB) (manS.one hrB)) ?_
     intro _ wst2 hS17
     have hkS := Below.trans hn17.below (Blk.store_below hS17 (Nat.le_of_eq hn17.at_.symm) hn17.below.size)
     replace hrt := hrt.up hkS; replace hrA := hrA.up hkS; replace hrB := hrB.up hkS; replace hb15 := hb15.up hkS; replace hK := hK.up hkS
     have hb17 := hS17.blk
     refine qq (Val.assign rfl) rfl <| cnil <| cseq <| cregion <| qq (Val.move rfl) rfl <| qq (Val.move rfl) rfl ?_
     refine WR.eff (Eff.call pf22 rfl (mnum_ok _)) rfl ?_
     rintro v139 w28 ⟨hk28, rfl⟩
     replace hrt := hrt.up hk28; replace hK := hK.up hk28; replace hrA := hrA.up hk28; replace hrB := hrB.up hk28; replace hb15 := hb15.up hk28; replace hb17 := hb17.up hk28
     refine qq (Val.eql rfl rfl) rfl <| qq (Val.bneq Try.underlying4 rfl rfl) rfl ?_
     rw [eqc]
     refine qq (Val.move rfl) rfl ?_
     apply WR.sc false 7 (!(manTake texts[j]).isSome && !decide ((if (manTake texts[j]).isSome = true then (0 : Int) else 7) = 7)) (fun w' => Below w28.heap.size w28 w')
     case hl => rfl
     case hg => rfl
     case hu => rfl
     case hv => rfl
     case hs => rfl
     case hoff => rfl
     case hd => rfl
     case hF => exact fun _ => Below.refl _ _
     case hT =>
      intro hq13
      try simp only [tstS] at hq13
      simp only [List.take_succ_cons, List.take_zero]
      have hKsc13 : Old w28 w28 := Old.refl _
      refine WR.on rfl rfl ?_
      refine qq (Val.move rfl) rfl ?_
      refine WR.on rfl rfl ?_
      refine qq (Val.not rfl) rfl ?_
      refine WR.on rfl rfl ?_
      refine qq (Val.move rfl) rfl ?_
      apply WR.sc true 3 (!decide ((if (manTake texts[j]).isSome = true then (0 : Int) else 7) = 7)) (fun w' => Below w28.heap.size w28 w')
      case hl => rfl
      case hg => rfl
      case hu => rfl
      case hv => rfl
      case hs => rfl
      case hoff => rfl
      case hd => rfl
      case hF => exact fun _ => Below.refl _ _
      case hT =>
       intro hq12
       try simp only [tstS] at hq12
       simp only [List.take_succ_cons, List.take_zero]
       have hKsc12 : Old w28 w28 := Old.refl _
       refine WR.on rfl rfl ?_
       refine qq (Val.move rfl) rfl ?_
       refine WR.on rfl rfl ?_
       refine WR.eff (Eff.call pf22 rfl (mnum_ok _)) rfl ?_
       rintro v147 w29 ⟨hk29, rfl⟩
       replace hrt := hrt.up hk29; replace hK := hK.up hk29; replace hrA := hrA.up hk29; replace hrB := hrB.up hk29; replace hb15 := hb15.up hk29; replace hb17 := hb17.up hk29; replace hKsc13 := hKsc13.up hk29; replace hKsc12 := hKsc12.up hk29
       refine WR.on rfl rfl ?_
       refine qq (Val.neq rfl rfl) rfl ?_
       exact WR.nil ⟨rfl, Sub.drop _ 3 _ rfl rfl, hKsc12⟩
      intro w30 hk30
      replace hrt := hrt.up hk30; replace hK := hK.up hk30; replace hrA := hrA.up hk30; replace hrB := hrB.up hk30; replace hb15 := hb15.up hk30; replace hb17 := hb17.up hk30; replace hKsc13 := hKsc13.up hk30
      exact WR.nil ⟨rfl, Sub.drop _ 4 _ rfl rfl, hKsc13⟩
     intro w31 hk31
     replace hrt := hrt.up hk31; replace hK := hK.up hk31; replace hrA := hrA.up hk31; replace hrB := hrB.up hk31; replace hb15 := hb15.up hk31; replace hb17 := hb17.up hk31
     refine qq (Val.move rfl) rfl ?_
     apply WR.sc false 4 _ (fun w' => Below w31.heap.size w31 w')
     case hl => rfl
     case hg => rfl
     case hu => rfl
     case hv => rfl
     case hs => rfl
     case hoff => rfl
     case hd => rfl
     case hF => exact fun _ => Below.refl _ _
     case hT =>
      intro hq19
      try simp only [tstS] at hq19
      simp only [List.take_succ_cons, List.take_zero]
      have hKsc19 : Old w31 w31 := Old.refl _
      refine WR.on rfl rfl ?_
      refine qq (Val.loadBN agg29 rfl hb15 (manS.len hrA)) rfl ?_
      refine WR.on rfl rfl ?_
      refine qq (Val.loadBN agg29 rfl hb17 (manS.len hrB)) rfl ?_
      refine WR.on rfl rfl ?_
      refine WR.eff (Eff.call pf24 rfl (eqManifest_ok hrA hrB)) rfl ?_
      rintro v154 w32 ⟨hk32, rfl⟩
      replace hrt := hrt.up hk32; replace hK := hK.up hk32; replace hrA := hrA.up hk32; replace hrB := hrB.up hk32; replace hb15 := hb15.up hk32; replace hb17 := hb17.up hk32; replace hKsc19 := hKsc19.up hk32
      refine WR.on rfl rfl ?_
      refine qq (Val.not rfl) rfl ?_
      exact WR.nil ⟨rfl, Sub.drop _ 4 _ rfl rfl, hKsc19⟩
     intro w33 hk33
     replace hrt := hrt.up hk33; replace hK := hK.up hk33; replace hrA := hrA.up hk33; replace hrB := hrB.up hk33; replace hb15 := hb15.up hk33; replace hb17 := hb17.up hk33
     refine cnil ?_
     refine WC.cond rfl (fun hc23 => ?_) (fun hc23 => ?_)
     ·exfalso
      rw [eqd] at hc23
      simp at hc23
     ·skip
      refine cskip <| cregion <| qq (Val.move rfl) rfl <| qq (Val.addI rfl rfl (by first | omega | assumption | (simp; omega) | (simp; done)) (by first | omega | assumption | (simp; omega) | (simp; done))) rfl <| qq (Val.assign rfl) rfl <| cnil ?_
      exact ⟨j + 1, (by repeat (first | exact Sub.nil _ | refine Sub.cons rfl ?_ | refine Sub.consM rfl ?_)), ⟨hrt, hK, kj⟩, by omega⟩
    ·try simp only [tstS] at hc19
     refine WC.exit rfl ?_
     refine cseq <| cregion ?_
     refine WR.eff (Eff.call pf27 rfl (mwakes_ok)) rfl ?_
     rintro v157 w34 ⟨hk34, rfl⟩
     replace hrt := hrt.up hk34; replace hK := hK.up hk34
     refine qq (Val.assign rfl) rfl <| cnil ?_
     refine WC.ret1 rfl rfl ?_
     exact ⟨hK, rfl⟩
end Go.Proofs.Ytnddlhjafkhdoaa
