/- The law on records' bytes. No condition. -/
import Derived.Test.YthlfolpcmcejkaaRec14
set_option linter.unusedSimpArgs false
set_option linter.unusedVariables false
set_option maxRecDepth 100000
namespace Silo
open Go Go.Eng
theorem sne_self (l : List UInt8) : (!(l == l)) = false := by simp
theorem eqc (b : Bool) : (!(b == decide ((if b = true then (0 : Int) else 7) = 0))) = false := by cases b <;> decide
theorem eqd (b : Bool) : (!b && !decide ((if b = true then (0 : Int) else 7) = 7)) = false := by cases b <;> decide
theorem bytesOf_len {r : Rec} (h : mayB r = true) : 1 ≤ (bytesOf r).length ∧ (bytesOf r).length ≤ 20000 := by
  obtain ⟨_, _, h1, h2, h3, h4, _, _⟩ := may_small h
  have e1 : (bI r).length ≤ 4 := by unfold bI; split <;> simp [be_length]
  have e2 : (bN r).length ≤ 41 := by unfold bN; split <;> simp [be_length]; omega
  have e3 : (bL r).length ≤ 8004 := by unfold bL; split <;> simp only [List.length_append, be_length, flat4_len, List.length_nil] <;> omega
  have e4 : (bS r).length ≤ 113 := by unfold bS; split <;> simp only [List.length_append, be_length, flat44_len, List.length_nil] <;> omega
  simp only [bytesOf, A4, A3, A2, A1, List.length_append, be_length]
  omega
end Silo
namespace Go.Proofs.Ythlfolpcmcejkaa
open Go Go.Eng Go.RowKit Silo TryT

theorem IS.rdRec {w0 w w2 : World} {base b5 B : Nat} {a : Rec} {vl vs vt : Value} {texts : List (List UInt8)} {cs : List Value} (h : IS w0 w base b5 a vl vs vt texts) (hr : recS.rd B w2 cs a) : RdRec w (cellsX a vl vs) a := by
  obtain ⟨vl0, vs0, rfl, hl, hs, hq⟩ := hr
  exact ⟨vl, vs, rfl, h.L.rdInts hl.okFlat hl.small, rdSlots h.S hs.okFlat hs.small, hq⟩

theorem recordBytes_ok {w : World} {vR vS vN : Value} {R : List Rec} {S : List (List UInt8)} {N : List Int} (h1 : Rd recS w vR R) (h2 : Rd strS w vS S) (h3 : Rd intS w vN N) :
    Calls Try.prog 3 #[.agg #[vR, vS, vN]] w (Ret fun v w' => Below w.heap.size w w' ∧ v = .bool true) := by
  have hK : Old w w := Old.refl w
  have o1 := h1.oneC
  have o2 := h2.oneC
  have o3 := h3.oneC
  refine enter (n := 174) (res := #[.tmp 2]) Try.func3 rfl rfl rfl rfl ?_
  refine cseq <| cregion ?_
  refine WR.eff (Eff.box rfl) rfl ?_
  rintro _ w1 ⟨b1, rfl, hn1⟩
  have hk1 := hn1.below
  replace h1 := h1.up hk1; replace h2 := h2.up hk1; replace h3 := h3.up hk1; replace hK := hK.up hk1
  have hb1 := hn1.blk
  refine qq (Val.assign rfl) rfl <| cnil <| cseq <| cseq <| cregion <| qq (Val.loadBN agg26 rfl hb1 rfl) rfl ?_
  refine WR.eff (Eff.call pf14 rfl (heavy_ok h1 h2 h3)) rfl ?_
  rintro v20 w2 ⟨hk2, rfl⟩
  replace h1 := h1.up hk2; replace h2 := h2.up hk2; replace h3 := h3.up hk2; replace hK := hK.up hk2; replace hb1 := hb1.up hk2
  refine cnil ?_
  refine WC.cond rfl (fun hc1 => ?_) (fun hc1 => ?_)
  ·try simp only [tstS] at hc1
   refine cseq <| cregion <| qq (Val.assign rfl) rfl <| cnil ?_
   refine WC.ret1 rfl rfl ?_
   exact ⟨hK, rfl⟩
  ·try simp only [tstS] at hc1
   obtain ⟨⟨hw1, hw2⟩, hw3⟩ := hc1
   have hR := stopSum_small (R.map recW) R.length (by omega)
   have hSs := stopSum_small (S.map List.length) S.length (by omega)
   rw [hR] at hw1; rw [hSs] at hw2
   refine cskip <| cseq ?_
   unfold Rd at h1 h2 h3
   obtain ⟨B, hB⟩ : ∃ B, B = w2.heap.size := ⟨_, rfl⟩
   have hBw : B ≤ w2.heap.size := Nat.le_of_eq hB
   replace hb1 := hb1.fix; replace hK := Old.fix hK
   rw [← hB] at h1 h2 h3 hb1 hK
   refine cregion ?_
   first | refine WR.val (Val.fieldAddr fld26_1 rfl) rfl ?_ | refine WR.val (Val.fieldAddrP fld26_1 rfl) rfl ?_
   refine qq (Val.loadB scl23 rfl hb1.2 rfl) rfl ?_
   refine WR.eff (Eff.call pf15 rfl (copyStrings_ok (h2.mono hBw) (by omega))) rfl ?_
   rintro v23 w3 ⟨hk3, ho⟩
   replace h1 := h1.upB (hk3.mono hBw); replace h2 := h2.upB (hk3.mono hBw); replace h3 := h3.upB (hk3.mono hBw); replace hb1 := hb1.upB (hk3.mono hBw); replace hK := hK.upB (hk3.mono hBw); replace hBw := Nat.le_trans hBw hk3.size
   rw [← hB] at ho
   refine qq (Val.assign rfl) rfl <| cnil <| cseq <| cseq <| cregion <| qq (Val.assign rfl) rfl <| cnil <| cblock ?_
   have hsm0 : ∀ x ∈ S, x.length ≤ 1000000 := fun x hx => by have := sum_mem_le List.length hx; omega
   refine WC.loop (σ := Nat × Value × List (List UInt8)) (fun st => [(1, .pointer (some ⟨b1, 0, none⟩)), (3, st.2.1), (4, I st.1)]) (fun st w' => BlkB B w' b1 [vR, vS, vN] 26 ∧ RdS recS B w' vR R ∧ OldB B w w' ∧ B ≤ w'.heap.size ∧ st.1 ≤ R.length ∧ st.1 ≤ 8 ∧ Own w' B TStr 1 st.2.1 st.2.2.length (flatT st.2.2) ∧ (∀ x ∈ st.2.2, x.length ≤ 1000000) ∧ st.2.2.length ≤ S.length + 8 * st.1) (fun st => R.length - st.1) (0, _, S) (by repeat (first | exact Sub.nil _ | refine Sub.cons rfl ?_)) ⟨hb1, h1, hK, hBw, by simp, by simp, ho, hsm0, by simp⟩ ?_
   clear hb1 h1 h2 h3 hK hBw ho hsm0
   rintro ⟨i, vt, texts⟩ wl ⟨hb1, h1, hK, hBw, hi, hi8, ho, hsm, htl⟩
   dsimp only at hi hi8 ho hsm htl ⊢
   have hW : Below B wl wl := Below.refl _ _
   refine cseq <| cseq ?_
   skip
   refine cregion <| qq (Val.move rfl) rfl ?_
   first | refine WR.val (Val.fieldAddr fld26_0 rfl) rfl ?_ | refine WR.val (Val.fieldAddrP fld26_0 rfl) rfl ?_
   refine qq (Val.loadB scl22 rfl hb1.2 rfl) rfl ?_
   first | refine WR.val (Val.rdlen sl22 (by assumption) rfl) rfl ?_ | refine WR.val (Val.sllen Try.underlying22 rfl) rfl ?_
   refine qq (Val.lss rfl rfl) rfl <| qq (Val.move rfl) rfl ?_
   apply WR.sc true 2 _ (fun w' => wl = w')
   case hl => rfl
   case hg => rfl
   case hu => rfl
   case hv => rfl
   case hs => rfl
   case hoff => rfl
   case hd => rfl
   case hF => exact fun _ => rfl
   case hT =>
    intro hq8
    try simp only [tstS] at hq8
    simp only [List.take_succ_cons, List.take_zero]
    refine WR.on rfl rfl ?_
    refine qq (Val.move rfl) rfl ?_
    refine WR.on rfl rfl ?_
    refine qq (Val.lss rfl rfl) rfl ?_
    exact WR.nil ⟨rfl, Sub.drop _ 2 _ rfl rfl, rfl⟩
   rintro _ rfl
   refine cnil ?_
   refine WC.cond rfl (fun hc5 => ?_) (fun hc5 => ?_)
   ·try simp only [tstS] at hc5
    obtain ⟨hi1, hi2⟩ := hc5
    have ka : i < R.length := by omega
    have hwi : recW R[i] ≤ 3000 := by have := sum_mem_le recW (List.getElem_mem ka); omega
    have ewi : recW R[i] = R[i].name.length + R[i].digest.length + R[i].list.length + R[i].slots.length := rfl
    obtain ⟨cs1, hcL, hrL⟩ := h1.elB ka
    have hc38 := hcL.toCel hBw
    have hrc : RdRec wl cs1 R[i] := recS.mono hBw hrL
    have hb1L := hb1; have h1L := h1; have hKL := hK; have hBwL := hBw
    have hrowT : ∀ k, vt.ownBlock = some k → k < wl.heap.size := fun k hk => (ho.lt k hk).2
    refine cskip <| cseq <| cblock <| cseq <| cregion ?_
    first | refine WR.val (Val.fieldAddr fld26_0 rfl) rfl ?_ | refine WR.val (Val.fieldAddrP fld26_0 rfl) rfl ?_
    refine qq (Val.loadB scl22 rfl hb1.2 rfl) rfl <| qq (Val.move rfl) rfl <| qq (Val.indexAddr sl22 (by assumption) rfl rfl rfl (by first | omega | assumption | (simp; omega)) (by first | omega | assumption | (simp; omega))) rfl <| qq (Val.loadE agg31 rfl hc38 (recS.len hrL)) rfl ?_
    refine WR.eff (Eff.call pf16 rfl (copyRecord_g hrc (by omega) (by omega))) rfl ?_
    rintro v40 w4 ⟨hk4, vl, vs, rfl, hoL, hoS⟩
    replace h1 := h1.upB (hk4.mono hBw); replace hb1 := hb1.upB (hk4.mono hBw); replace hK := hK.upB (hk4.mono hBw); replace hW := hW.upB (hk4.mono hBw); replace ho := ho.up hk4; replace hBw := Nat.le_trans hBw hk4.size
    have hltL := hoL.lt
    have hszc := hW.size
    have hltS := hoS.lt
    refine WR.eff (Eff.alloc zero31) rfl ?_
    rintro _ w5 ⟨b5, rfl, hn5⟩
    have hk5 := hn5.below
    have hge5 : B ≤ b5 := by rw [hn5.at_]; exact hBw
    replace h1 := h1.upB (hk5.mono hBw); replace hb1 := hb1.upB (hk5.mono hBw); replace hK := hK.upB (hk5.mono hBw); replace hW := hW.upB (hk5.mono hBw); replace ho := ho.up hk5; replace hoL := hoL.up hk5; replace hoS := hoS.up hk5; replace hBw := Nat.le_trans hBw hk5.size
    have hb5 := hn5.blk
    have o7 := hoL.oneC; have o8 := hoS.oneC
    refine WR.eff_ (Eff.storeBN agg31 rfl rfl hb5 rfl rfl (by repeat (first | exact List.forall_mem_nil _ | refine List.forall_mem_cons.2 ⟨by first | rfl | assumption, ?_⟩))) ?_
    intro _ w99 hS5
    have hBl : B ≤ wl.heap.size := hBwL
    have e5 := hn5.at_
    have h : IS wl w99 B b5 R[i] vl vs vt texts := { hK := hW.trans (Blk.store_below hS5 hge5 hBw), hBw := Nat.le_trans hBw (Blk.store_below hS5 hge5 hBw).size, hb5 := hge5, X := hS5.blk, L := (hoL.base_le hBl).grown hS5.grown (fun k hk e => by have := (hltL k hk).2; injection e with e; omega), S := (hoS.base_le hBl).grown hS5.grown (fun k hk e => by have := (hltS k hk).2; injection e with e; omega), T := ho.grown hS5.grown (fun k hk e => by have := hrowT k hk; injection e with e; omega), neL := fun k hk => by have := (hltL k hk).2; omega, neS := fun k hk => by have := (hltS k hk).2; omega, neT := fun k hk => ⟨by have := hrowT k hk; omega, fun e => by have := (hltL k e).1; have := hrowT k hk; omega, fun e => by have := (hltS k e).1; have := hrowT k hk; omega⟩, small := hsm }
    have hbX := h.X
    replace hb1 := (hb1L.upB h.hK).2; replace hc38 := (hcL.upB h.hK).toCel h.hBw; replace hrc : RdRec _ cs1 R[i] := recS.mono h.hBw (recS.keep h.hK.block hrL)
    clear ho hoL hoS hb5 hBw h1 hK hW hltL hltS
    refine cnil <| cseq <| cregion ?_
    first | refine WR.val (Val.fieldAddr fld26_0 rfl) rfl ?_ | refine WR.val (Val.fieldAddrP fld26_0 rfl) rfl ?_
    refine qq (Val.loadB scl22 rfl hb1 rfl) rfl <| qq (Val.move rfl) rfl <| qq (Val.indexAddr sl22 (by assumption) rfl rfl rfl (by first | omega | assumption | (simp; omega)) (by first | omega | assumption | (simp; omega))) rfl <| qq (Val.loadE agg31 rfl hc38 (recS.len hrL)) rfl ?_
    refine WR.eff (Eff.call pf17 rfl (record_ok hrc)) rfl ?_
    rintro v46 w6 ⟨hk6, rfl⟩
    replace h := h.up hk6; replace hb1 := hb1.up hk6; replace hc38 := hc38.up hk6; replace hrc := hrc.up hk6; replace hbX := hbX.up hk6
    refine qq (Val.assign rfl) rfl <| cnil <| cseq <| cregion <| qq (Val.loadBN agg31 rfl hbX rfl) rfl ?_
    refine WR.eff (Eff.call pf18 rfl (rbytes_ok (h.rdRec hrL))) rfl ?_
    rintro v49 w7 ⟨hk7, rfl⟩
    replace h := h.up hk7; replace hb1 := hb1.up hk7; replace hc38 := hc38.up hk7; replace hrc := hrc.up hk7; replace hbX := hbX.up hk7
    refine qq (Val.move rfl) rfl <| qq (Val.extract rfl rfl) rfl <| qq (Val.extract rfl rfl) rfl <| qq (Val.assign rfl) rfl <| qq (Val.assign rfl) rfl <| cnil <| cseq <| cregion <| qq (Val.assign rfl) rfl ?_
    refine qq (Val.assign rfl) rfl <| cnil <| cseq <| cseq <| cregion <| qq (Val.move rfl) rfl <| cnil ?_
    refine WC.cond rfl (fun hc11 => ?_) (fun hc11 => ?_)
    ·try simp only [tstS] at hc11
     obtain ⟨hlo, hhi⟩ := bytesOf_len hc11
     rw [hc11]
     refine cseq <| cregion ?_
     first | refine WR.val (Val.fieldAddr fld26_0 rfl) rfl ?_ | refine WR.val (Val.fieldAddrP fld26_0 rfl) rfl ?_
     refine qq (Val.loadB scl22 rfl hb1 rfl) rfl <| qq (Val.move rfl) rfl <| qq (Val.indexAddr sl22 (by assumption) rfl rfl rfl (by first | omega | assumption | (simp; omega)) (by first | omega | assumption | (simp; omega))) rfl <| qq (Val.loadE agg31 rfl hc38 (recS.len hrL)) rfl ?_
     refine WR.eff (Eff.call pf19 rfl (bytes_ok hrc ⟨(may_small hc11).1, (may_small hc11).2.1⟩)) rfl ?_
     rintro v58 w8 ⟨hk8, rfl⟩
     replace h := h.up hk8; replace hb1 := hb1.up hk8; replace hc38 := hc38.up hk8; replace hrc := hrc.up hk8; replace hbX := hbX.up hk8
     refine qq (Val.assign rfl) rfl <| qq (Val.assign rfl) rfl <| cnil <| cseq <| cregion <| qq (Val.move rfl) rfl <| qq (Val.move rfl) rfl <| qq (Val.move rfl) rfl <| qq (Val.sadd rfl rfl (by first | omega | assumption | (simp; omega))) rfl ?_
     refine qq (Val.move rfl) rfl <| qq (Val.move rfl) rfl <| qq (Val.slen Try.underlying9 rfl) rfl <| qq (Val.subI rfl rfl (by first | omega | assumption | (simp; omega)) (by first | omega | assumption | (simp; omega))) rfl <| qq (Val.ssliceTo Try.underlying9 rfl rfl (by first | omega | assumption | (simp; omega)) (by first | omega | assumption | (simp; omega))) rfl ?_
     refine WR.eff (Eff.buildSlice sl23 rfl rfl rfl (by simp [Value.cells]) rfl rfl) rfl ?_
     rintro _ w9 ⟨b68, rfl, hn68⟩
     have hk9 := hn68.below
     replace h := h.up hk9; replace hb1 := hb1.up hk9; replace hc38 := hc38.up hk9; replace hrc := hrc.up hk9; replace hbX := hbX.up hk9
     have hb68 : Blk _ b68 [St (bytesOf R[i]), St (bytesOf R[i] ++ [0]), St ((bytesOf R[i]).take (((bytesOf R[i]).length : Int) - 1).toNat)] TStr := hn68.blk
     refine WR.eff (Eff.append sl23 rfl rfl h.T (Src.cellsAt Try.underlying23 hb68.cellsAt rfl (by repeat (first | exact List.forall_mem_nil _ | refine List.forall_mem_cons.2 ⟨by first | rfl | assumption, ?_⟩))) (by rw [maxLen_eq]; omega) (by omega) h.hBw) rfl ?_
     intro v69 wA hA
     replace h := h.app (new := [bytesOf R[i], bytesOf R[i] ++ [0], (bytesOf R[i]).take (((bytesOf R[i]).length : Int) - 1).toNat]) hA rfl (by intro x hx; simp at hx; rcases hx with rfl | rfl | rfl <;> (first | omega | (simp only [List.length_append, List.length_singleton]; omega) | (simp only [List.length_take]; omega)))
     replace hb1 := (hb1L.upB h.hK).2; replace hc38 := (hcL.upB h.hK).toCel h.hBw; replace hrc : RdRec _ cs1 R[i] := recS.mono h.hBw (recS.keep h.hK.block hrL); replace hbX := h.X
     refine qq (Val.assign rfl) rfl <| cnil <| cseq <| cregion <| qq (Val.assign rfl) rfl <| cnil <| cblock ?_
     refine WC.loop (σ := Nat × Value × List (List UInt8)) (fun st => [(1, .pointer (some ⟨b1, 0, none⟩)), (3, st.2.1), (4, I i), (5, .pointer (some ⟨b5, 0, none⟩)), (6, .bool true), (7, St (bytesOf R[i])), (8, I 0), (9, I 0), (10, St (bytesOf R[i])), (11, I st.1)]) (fun st w' => IS wl w' B b5 R[i] vl vs st.2.1 st.2.2 ∧ st.1 ≤ 5 ∧ st.2.2.length ≤ S.length + 8 * i + 3 + st.1) (fun st => 5 - st.1) (0, _, _) (by repeat (first | exact Sub.nil _ | refine Sub.cons rfl ?_)) ⟨h, by simp, by simp; omega⟩ ?_
     clear h hbX hb1 hc38 hrc hsm htl hrowT
     rintro ⟨k, vt, texts⟩ wk ⟨h, hk5, htl⟩
     dsimp only at h hk5 htl ⊢
     have hbX := h.X
     have hb1 := (hb1L.upB h.hK).2; have hc38 := (hcL.upB h.hK).toCel h.hBw; have hrc : RdRec wk cs1 R[i] := recS.mono h.hBw (recS.keep h.hK.block hrL)
     refine cseq <| cseq <| cregion <| qq (Val.move rfl) rfl <| qq (Val.lss rfl rfl) rfl <| cnil ?_
     refine WC.cond rfl (fun hc15 => ?_) (fun hc15 => ?_)
     ·try simp only [tstS] at hc15
      have hk4 : k < 5 := by omega
      refine cskip <| cseq <| cblock <| cseq <| cregion <| qq (Val.move rfl) rfl ?_
      have hXlt := h.X.lt
      have hLn : vl.ownBlock ≠ some wk.heap.size := fun e => by have := (h.L.lt _ e).2; omega
      have hSn : vs.ownBlock ≠ some wk.heap.size := fun e => by have := (h.S.lt _ e).2; omega
      have hTn : vt.ownBlock ≠ some wk.heap.size := fun e => by have := (h.T.lt _ e).2; omega
      have hBn := h.hBw
      refine WR.eff (Eff.toBytes Try.underlying9 Try.underlying38 Try.underlying5 rfl (by rw [maxLen_eq]; omega)) rfl ?_
      rintro v75 wb ⟨hob, hkb, _, hab⟩
      replace h := h.up hkb
      have hrb := hob.rdBytes (by omega)
      refine qq (Val.assign rfl) rfl <| cnil <| cseq ?_
      have hm0 : (0 : Int) ≤ (k : Int) * ((bytesOf R[i]).length : Int) := Int.mul_nonneg (by omega) (by omega)
      have hm1 : (k : Int) * ((bytesOf R[i]).length : Int) ≤ 5 * 20000 := Int.mul_le_mul (by omega) (by omega) (by omega) (by omega)
      refine cregion <| qq (Val.move rfl) rfl <| qq (Val.move rfl) rfl ?_
      first | refine WR.val (Val.rdlen sl38 (by assumption) rfl) rfl ?_ | refine WR.val (Val.sllen Try.underlying38 rfl) rfl ?_
      refine qq (Val.mulI rfl rfl (by first | omega | assumption | (simp; omega)) (by first | omega | assumption | (simp; omega))) rfl <| qq (Val.quoI rfl rfl (by first | omega | assumption | (simp; omega)) (by first | omega | assumption | (simp; omega)) (by first | omega | assumption | (simp; omega))) rfl <| qq (Val.move rfl) rfl <| qq (Val.addI rfl rfl (by first | omega | assumption | (simp; omega)) (by first | omega | assumption | (simp; omega))) rfl <| qq (Val.move rfl) rfl ?_
      first | refine WR.val (Val.rdlen sl38 (by assumption) rfl) rfl ?_ | refine WR.val (Val.sllen Try.underlying38 rfl) rfl ?_
      refine qq (Val.remI rfl rfl (by first | omega | assumption | (simp; omega)) (by first | omega | assumption | (simp; omega))) rfl <| qq (Val.assign rfl) rfl <| cnil ?_
      have ha0 : 0 ≤ ((k : Int) * ((bytesOf R[i]).length : Int) / 5 + (i : Int)) % ((bytesOf R[i]).length : Int) := Int.emod_nonneg _ (by omega)
      have ha1 : ((k : Int) * ((bytesOf R[i]).length : Int) / 5 + (i : Int)) % ((bytesOf R[i]).length : Int) < ((bytesOf R[i]).length : Int) := Int.emod_lt_of_pos _ (by omega)
      generalize ((k : Int) * ((bytesOf R[i]).length : Int) / 5 + (i : Int)) % ((bytesOf R[i]).length : Int) = zz at ha0 ha1 ⊢
      obtain ⟨at', rfl⟩ := Int.eq_ofNat_of_zero_le ha0
      have hat : at' < (bytesOf R[i]).length := by omega
      refine cseq ?_
      refine WC.regionD (fun W => Cel W (elemA v75 1 at') [.int .u8 (bytesOf R[i])[at'].toNat]) [0, 0, 0, 0, 0, 1, 0, 0, 0, 0, 0, 0, 0, 3] [0, 1, 2, 3, 4, 5, 6, 7, 8, 9, 10, 11, 12, 13] mixed (by kernel_rfl) ?_
      have hd : Below wb.heap.size wb wb.drew := (Below.refl _ _).drew
      replace h := h.up hd; replace hob := hob.up hd
      replace hrb := hob.rdBytes (by omega)
      obtain ⟨csb, hC, hcsb, _⟩ := hrb.el hat
      subst hcsb
      generalize wb.drew = wd at hd h hob hrb hC ⊢
      refine qd rfl rfl rfl (fun _ => Val.move rfl) rfl <| qd rfl rfl rfl (fun _ => Val.move rfl) rfl <| qd rfl rfl rfl (fun _ => Val.move rfl) rfl <| qd rfl rfl rfl (fun _ => Val.move rfl) rfl <| qd rfl rfl rfl (fun _ => Val.indexAddr sl38 hrb rfl rfl rfl (by omega) (by omega)) rfl <| qc rfl rfl rfl hC (fun W hW => Val.loadE1 scl5 rfl hW) rfl <| qd rfl rfl rfl (fun _ => Val.move rfl) rfl <| qd rfl rfl rfl (fun _ => Val.move rfl) rfl <| qd rfl rfl rfl (fun _ => Val.addI rfl rfl (by omega) (by omega)) rfl ?_
      refine qd rfl rfl rfl (fun _ => Val.remI rfl rfl (by omega) (by omega)) rfl <| qd rfl rfl rfl (fun _ => Val.shl rfl rfl (by omega) (by simp [IntKind.bits]; omega)) rfl <| qd rfl rfl rfl (fun _ => Val.xorU8 rfl rfl) rfl <| qd rfl rfl rfl (fun _ => Val.indexAddr sl38 hrb rfl rfl rfl (by omega) (by omega)) rfl ?_
      refine WD.wild rfl rfl rfl (Eff.storeOwn scl5 hob (i := at') (by omega) rfl rfl rfl rfl) ?_
      rintro _ ws ⟨hob, hg, _⟩
      rw [bytesV_set] at hob
      rw [hab] at hg
      replace h := h.other hg hBn (by omega) hLn hSn hTn
      refine WD.nil ?_
      generalize hnew : (bytesOf R[i]).set at' _ = newb at hob
      have hnl : newb.length = (bytesOf R[i]).length := by rw [← hnew]; simp
      refine cregion <| qq (Val.move rfl) rfl <| qq (Val.move rfl) rfl <| qq (Val.ofBytes Try.underlying38 Try.underlying9 Try.underlying5 rfl hob) rfl ?_
      refine WR.eff (Eff.build1 sl23 rfl rfl rfl rfl rfl) rfl ?_
      rintro _ w10 ⟨b102, rfl, hn102⟩
      have hk10 := hn102.below
      replace h := h.up hk10
      refine WR.eff (Eff.append sl23 rfl rfl h.T (Src.cellsAt Try.underlying23 hn102.blk.cellsAt rfl (by repeat (first | exact List.forall_mem_nil _ | refine List.forall_mem_cons.2 ⟨by first | rfl | assumption, ?_⟩))) (by rw [maxLen_eq]; omega) (by omega) h.hBw) rfl ?_
      intro v103 wA hA
      replace h := h.app (new := [newb]) hA rfl (by intro x hx; simp at hx; subst hx; omega)
      refine qq (Val.assign rfl) rfl <| cnil <| cregion <| qq (Val.move rfl) rfl <| qq (Val.addI rfl rfl (by first | omega | assumption | (simp; omega)) (by first | omega | assumption | (simp; omega))) rfl <| qq (Val.assign rfl) rfl <| cnil ?_
      exact ⟨(k + 1, _, _), (by repeat (first | exact Sub.nil _ | refine Sub.cons rfl ?_)), ⟨h, by dsimp only; omega, by simp; omega⟩, by dsimp only; omega⟩
     ·try simp only [tstS] at hc15
      refine WC.exit rfl ?_
      skip
      refine cseq ?_
      have hc126 := hc38
      refine WC.regionD (Below wk.heap.size wk) [1, 2, 2, 0, 0, 0, 0, 0, 2, 0, 0, 0, 0, 0, 0, 0, 0, 0, 1, 0, 1, 0, 0, 1, 2, 0, 0] [0, 4, 1, 2, 3, 5, 6, 7, 9, 8, 10, 11, 12, 13, 14, 15, 16, 17, 18, 19, 20, 21, 22, 23, 24, 25, 26] mixed (by kernel_rfl) ?_
      have hk11 : Below wk.heap.size wk wk.drew := (Below.refl _ _).drew
      have hCw : Below wk.heap.size wk wk.drew := (Below.refl _ _).drew
      generalize wk.drew = w11 at hk11 hCw ⊢
      have hb10 := hb1
      have hbX0 := hbX
      have hc1260 := hc126
      replace h := h.up hk11; replace hb1 := hb1.up hk11; replace hc126 := hc126.up hk11; replace hrc := hrc.up hk11; replace hbX := hbX.up hk11
      refine qc rfl rfl rfl hCw (fun W hW => Val.loadBN agg31 rfl (hbX0.up hW) rfl) rfl <| qd rfl rfl rfl (fun _ => Val.move rfl) rfl ?_
      refine WD.eff rfl rfl rfl (Eff.call pf21 rfl (check_ok (h.rdRec hrL))) rfl ?_
      rintro v105 w12 ⟨hk12, rfl⟩
      refine ⟨fun hC => Below.trans hC (hk12.mono hC.size), ?_⟩
      replace hCw := Below.trans hCw (hk12.mono hCw.size)
      replace h := h.up hk12; replace hb1 := hb1.up hk12; replace hc126 := hc126.up hk12; replace hrc := hrc.up hk12; replace hbX := hbX.up hk12
      rw [hc11]
      refine WD.eff rfl rfl rfl (Eff.call pf20 rfl (errnum_ok _)) rfl ?_
      rintro v106 w13 ⟨hk13, rfl⟩
      refine ⟨fun hC => Below.trans hC (hk13.mono hC.size), ?_⟩
      replace hCw := Below.trans hCw (hk13.mono hCw.size)
      replace h := h.up hk13; replace hb1 := hb1.up hk13; replace hc126 := hc126.up hk13; replace hrc := hrc.up hk13; replace hbX := hbX.up hk13
      refine qd rfl rfl rfl (fun _ => Val.eql rfl rfl) rfl <| qd rfl rfl rfl (fun _ => Val.bneq Try.underlying4 rfl rfl) rfl <| qd rfl rfl rfl (fun _ => Val.move rfl) rfl <| qd rfl rfl rfl (fun _ => Val.move rfl) rfl <| qd rfl rfl rfl (fun _ => Val.move rfl) rfl ?_
      refine WD.eff rfl rfl rfl (Eff.call pf20 rfl (errnum_ok _)) rfl ?_
      rintro v112 w14 ⟨hk14, rfl⟩
      refine ⟨fun hC => Below.trans hC (hk14.mono hC.size), ?_⟩
      replace hCw := Below.trans hCw (hk14.mono hCw.size)
      replace h := h.up hk14; replace hb1 := hb1.up hk14; replace hc126 := hc126.up hk14; replace hrc := hrc.up hk14; replace hbX := hbX.up hk14
      refine qd rfl rfl rfl (fun _ => Val.neq rfl rfl) rfl <| qd rfl rfl rfl (fun _ => Val.pick rfl rfl) rfl <| qd rfl rfl rfl (fun _ => Val.move rfl) rfl <| qd rfl rfl rfl (fun _ => Val.move rfl) rfl <| qd rfl rfl rfl (fun _ => Val.move rfl) rfl <| qd rfl rfl rfl (fun _ => Val.sne rfl rfl) rfl ?_
      try rw [sne_self]
      refine qd rfl rfl rfl (fun _ => Val.pick rfl rfl) rfl <| qd rfl rfl rfl (fun _ => Val.move rfl) rfl <| qc rfl rfl rfl hCw (fun W hW => Val.loadBN agg31 rfl (hbX0.up hW) rfl) rfl ?_
      first | refine WD.val rfl rfl rfl (fun _ => Val.fieldAddr fld26_0 rfl) rfl ?_ | refine WD.val rfl rfl rfl (fun _ => Val.fieldAddrP fld26_0 rfl) rfl ?_
      refine qc rfl rfl rfl hCw (fun W hW => Val.loadB scl22 rfl (hb10.up hW) rfl) rfl <| qd rfl rfl rfl (fun _ => Val.move rfl) rfl <| qd rfl rfl rfl (fun _ => Val.indexAddr sl22 (by assumption) rfl rfl rfl (by first | omega | assumption | (simp; omega)) (by first | omega | assumption | (simp; omega))) rfl <| qc rfl rfl rfl hCw (fun W hW => Val.loadE agg31 rfl (hc1260.up hW) (recS.len hrL)) rfl ?_
      refine WD.eff rfl rfl rfl (Eff.call pf22 rfl (eqRecord_ok (h.rdRec hrL) hrc)) rfl ?_
      rintro v128 w15 ⟨hk15, rfl⟩
      refine ⟨fun hC => Below.trans hC (hk15.mono hC.size), ?_⟩
      replace hCw := Below.trans hCw (hk15.mono hCw.size)
      replace h := h.up hk15; replace hb1 := hb1.up hk15; replace hc126 := hc126.up hk15; replace hrc := hrc.up hk15; replace hbX := hbX.up hk15
      rw [decide_eq_true rfl]
      refine qd rfl rfl rfl (fun _ => Val.not rfl) rfl <| qd rfl rfl rfl (fun _ => Val.pick rfl rfl) rfl ?_
      refine WD.nil ?_
      clear hb10 hbX0 hc1260
      clear hCw
      refine WC.cond_false rfl ?_
      refine cskip <| cregion <| qq (Val.move rfl) rfl <| qq (Val.addI rfl rfl (by first | omega | assumption | (simp; omega)) (by first | omega | assumption | (simp; omega))) rfl <| qq (Val.assign rfl) rfl <| cnil ?_
      exact ⟨(i + 1, _, _), (by repeat (first | exact Sub.nil _ | refine Sub.cons rfl ?_)), ⟨hb1L.upB h.hK, h1L.upB h.hK, hKL.upB h.hK, h.hBw, ka, by dsimp only; omega, h.T, h.small, by dsimp only; omega⟩, by dsimp only; omega⟩
    ·try simp only [tstS] at hc11
     rw [hc11]
     refine cskip <| cseq ?_
     have hc126 := hc38
     refine WC.regionD (Below w7.heap.size w7) [1, 2, 2, 0, 0, 0, 0, 0, 2, 0, 0, 0, 0, 0, 0, 0, 0, 0, 1, 0, 1, 0, 0, 1, 2, 0, 0] [0, 4, 1, 2, 3, 5, 6, 7, 9, 8, 10, 11, 12, 13, 14, 15, 16, 17, 18, 19, 20, 21, 22, 23, 24, 25, 26] mixed (by kernel_rfl) ?_
     have hk16 : Below w7.heap.size w7 w7.drew := (Below.refl _ _).drew
     have hCw : Below w7.heap.size w7 w7.drew := (Below.refl _ _).drew
     generalize w7.drew = w16 at hk16 hCw ⊢
     have hb10 := hb1
     have hbX0 := hbX
     have hc1260 := hc126
     replace h := h.up hk16; replace hb1 := hb1.up hk16; replace hc126 := hc126.up hk16; replace hrc := hrc.up hk16; replace hbX := hbX.up hk16
     refine qc rfl rfl rfl hCw (fun W hW => Val.loadBN agg31 rfl (hbX0.up hW) rfl) rfl <| qd rfl rfl rfl (fun _ => Val.move rfl) rfl ?_
     refine WD.eff rfl rfl rfl (Eff.call pf21 rfl (check_ok (h.rdRec hrL))) rfl ?_
     rintro v105 w17 ⟨hk17, rfl⟩
     refine ⟨fun hC => Below.trans hC (hk17.mono hC.size), ?_⟩
     replace hCw := Below.trans hCw (hk17.mono hCw.size)
     replace h := h.up hk17; replace hb1 := hb1.up hk17; replace hc126 := hc126.up hk17; replace hrc := hrc.up hk17; replace hbX := hbX.up hk17
     rw [hc11]
     refine WD.eff rfl rfl rfl (Eff.call pf20 rfl (errnum_ok _)) rfl ?_
     rintro v106 w18 ⟨hk18, rfl⟩
     refine ⟨fun hC => Below.trans hC (hk18.mono hC.size), ?_⟩
     replace hCw := Below.trans hCw (hk18.mono hCw.size)
     replace h := h.up hk18; replace hb1 := hb1.up hk18; replace hc126 := hc126.up hk18; replace hrc := hrc.up hk18; replace hbX := hbX.up hk18
     refine qd rfl rfl rfl (fun _ => Val.eql rfl rfl) rfl <| qd rfl rfl rfl (fun _ => Val.bneq Try.underlying4 rfl rfl) rfl <| qd rfl rfl rfl (fun _ => Val.move rfl) rfl <| qd rfl rfl rfl (fun _ => Val.move rfl) rfl <| qd rfl rfl rfl (fun _ => Val.move rfl) rfl ?_
     refine WD.eff rfl rfl rfl (Eff.call pf20 rfl (errnum_ok _)) rfl ?_
     rintro v112 w19 ⟨hk19, rfl⟩
     refine ⟨fun hC => Below.trans hC (hk19.mono hC.size), ?_⟩
     replace hCw := Below.trans hCw (hk19.mono hCw.size)
     replace h := h.up hk19; replace hb1 := hb1.up hk19; replace hc126 := hc126.up hk19; replace hrc := hrc.up hk19; replace hbX := hbX.up hk19
     refine qd rfl rfl rfl (fun _ => Val.neq rfl rfl) rfl <| qd rfl rfl rfl (fun _ => Val.pick rfl rfl) rfl <| qd rfl rfl rfl (fun _ => Val.move rfl) rfl <| qd rfl rfl rfl (fun _ => Val.move rfl) rfl <| qd rfl rfl rfl (fun _ => Val.move rfl) rfl <| qd rfl rfl rfl (fun _ => Val.sne rfl rfl) rfl ?_
     try rw [sne_self]
     refine qd rfl rfl rfl (fun _ => Val.pick rfl rfl) rfl <| qd rfl rfl rfl (fun _ => Val.move rfl) rfl <| qc rfl rfl rfl hCw (fun W hW => Val.loadBN agg31 rfl (hbX0.up hW) rfl) rfl ?_
     first | refine WD.val rfl rfl rfl (fun _ => Val.fieldAddr fld26_0 rfl) rfl ?_ | refine WD.val rfl rfl rfl (fun _ => Val.fieldAddrP fld26_0 rfl) rfl ?_
     refine qc rfl rfl rfl hCw (fun W hW => Val.loadB scl22 rfl (hb10.up hW) rfl) rfl <| qd rfl rfl rfl (fun _ => Val.move rfl) rfl <| qd rfl rfl rfl (fun _ => Val.indexAddr sl22 (by assumption) rfl rfl rfl (by first | omega | assumption | (simp; omega)) (by first | omega | assumption | (simp; omega))) rfl <| qc rfl rfl rfl hCw (fun W hW => Val.loadE agg31 rfl (hc1260.up hW) (recS.len hrL)) rfl ?_
     refine WD.eff rfl rfl rfl (Eff.call pf22 rfl (eqRecord_ok (h.rdRec hrL) hrc)) rfl ?_
     rintro v128 w20 ⟨hk20, rfl⟩
     refine ⟨fun hC => Below.trans hC (hk20.mono hC.size), ?_⟩
     replace hCw := Below.trans hCw (hk20.mono hCw.size)
     replace h := h.up hk20; replace hb1 := hb1.up hk20; replace hc126 := hc126.up hk20; replace hrc := hrc.up hk20; replace hbX := hbX.up hk20
     rw [decide_eq_true rfl]
     refine qd rfl rfl rfl (fun _ => Val.not rfl) rfl <| qd rfl rfl rfl (fun _ => Val.pick rfl rfl) rfl ?_
     refine WD.nil ?_
     clear hb10 hbX0 hc1260
     clear hCw
     refine WC.cond_false rfl ?_
     refine cskip <| cregion <| qq (Val.move rfl) rfl <| qq (Val.addI rfl rfl (by first | omega | assumption | (simp; omega)) (by first | omega | assumption | (simp; omega))) rfl <| qq (Val.assign rfl) rfl <| cnil ?_
     exact ⟨(i + 1, _, _), (by repeat (first | exact Sub.nil _ | refine Sub.cons rfl ?_)), ⟨hb1L.upB h.hK, h1L.upB h.hK, hKL.upB h.hK, h.hBw, ka, by dsimp only; omega, h.T, h.small, by dsimp only; omega⟩, by dsimp only; omega⟩
   ·try simp only [tstS] at hc5
    refine WC.exit rfl ?_
    refine cseq <| cseq <| cregion <| qq (Val.assign rfl) rfl <| cnil <| cblock ?_
    have htl2 : texts.length ≤ 4064 := by omega
    clear htl
    refine WC.loop (σ := Nat) (fun j => [(3, vt), (14, I j)]) (fun j w' => Own w' B TStr 1 vt texts.length (flatT texts) ∧ OldB B w w' ∧ B ≤ w'.heap.size ∧ j ≤ texts.length) (fun j => texts.length - j) 0 (by repeat (first | exact Sub.nil _ | refine Sub.cons rfl ?_)) ⟨ho, hK, hBw, by simp⟩ ?_
    clear ho hK hBw hb1 h1 hW
    rintro j wj ⟨ho, hK, hBw, hj⟩
    have hrt : Rd strS wj vt texts := ho.rdStrs (fun x hx => by have := hsm x hx; omega) (by omega)
    refine cseq <| cseq <| cregion <| qq (Val.move rfl) rfl <| qq (Val.move rfl) rfl ?_
    first | refine WR.val (Val.rdlen sl23 (by assumption) rfl) rfl ?_ | refine WR.val (Val.sllen Try.underlying23 rfl) rfl ?_
    refine qq (Val.lss rfl rfl) rfl <| cnil ?_
    refine WC.cond rfl (fun hc24 => ?_) (fun hc24 => ?_)
    ·try simp only [tstS] at hc24
     have kj : j < texts.length := by omega
     obtain ⟨cs2, hc140, hcs2, hok2⟩ := hrt.el kj
     subst hcs2
     have hc148 := hc140
     have hlt1 := hsm _ (List.getElem_mem kj)
     refine cskip <| cseq <| cblock <| cseq <| cregion <| qq (Val.move rfl) rfl <| qq (Val.move rfl) rfl <| qq (Val.indexAddr sl23 (by assumption) rfl rfl rfl (by first | omega | assumption | (simp; omega)) (by first | omega | assumption | (simp; omega))) rfl <| qq (Val.loadE1 scl9 rfl hc140) rfl ?_
     refine WR.eff (Eff.call pf23 rfl (take_ok texts[j] (by omega))) rfl ?_
     rintro v142 w21 ⟨hk21, ⟨csA, rfl, hrA⟩⟩
     replace hK := hK.upB (hk21.mono hBw); replace ho := ho.up hk21; replace hc148 := hc148.up hk21; replace hBw := Nat.le_trans hBw hk21.size
     refine qq (Val.move rfl) rfl <| qq (Val.extract rfl rfl) rfl <| qq (Val.extract rfl rfl) rfl ?_
     refine WR.eff (Eff.alloc zero31) rfl ?_
     rintro _ wal ⟨b15, rfl, hn15⟩
     refine WR.eff_ (Eff.storeBN agg31 rfl rfl hn15.blk rfl (recS.len hrA) (recS.one hrA)) ?_
     intro _ wst hS15
     have hkS := Below.trans hn15.below (Blk.store_below hS15 (Nat.le_of_eq hn15.at_.symm) hn15.below.size)
     replace ho := ho.up hkS; replace hc148 := hc148.up hkS; replace hrA := hrA.up hkS; replace hK := hK.upB (hkS.mono hBw); replace hBw := Nat.le_trans hBw hkS.size
     have hb15 := hS15.blk
     refine qq (Val.assign rfl) rfl <| cnil <| cseq <| cregion <| qq (Val.move rfl) rfl <| qq (Val.move rfl) rfl <| qq (Val.indexAddr sl23 (by assumption) rfl rfl rfl (by first | omega | assumption | (simp; omega)) (by first | omega | assumption | (simp; omega))) rfl <| qq (Val.loadE1 scl9 rfl hc148) rfl ?_
     refine WR.eff (Eff.call pf24 rfl (qtakeRec_ok texts[j] (by omega))) rfl ?_
     rintro v150 w22 ⟨hk22, ⟨csB, rfl, hrB⟩⟩
     replace hK := hK.upB (hk22.mono hBw); replace ho := ho.up hk22; replace hc148 := hc148.up hk22; replace hrA := hrA.up hk22; replace hb15 := hb15.up hk22; replace hBw := Nat.le_trans hBw hk22.size
     rw [← takeSpec_same] at hrB ⊢
     refine qq (Val.move rfl) rfl <| qq (Val.extract rfl rfl) rfl <| qq (Val.extract rfl rfl) rfl ?_
     refine WR.eff (Eff.alloc zero31) rfl ?_
     rintro _ wal2 ⟨b17, rfl, hn17⟩
     refine WR.eff_ (Eff.storeBN agg31 rfl rfl hn17.blk rfl (recS.len hrB) (recS.one hrB)) ?_
     intro _ wst2 hS17
     have hkS := Below.trans hn17.below (Blk.store_below hS17 (Nat.le_of_eq hn17.at_.symm) hn17.below.size)
     replace ho := ho.up hkS; replace hrA := hrA.up hkS; replace hrB := hrB.up hkS; replace hb15 := hb15.up hkS; replace hK := hK.upB (hkS.mono hBw); replace hBw := Nat.le_trans hBw hkS.size
     have hb17 := hS17.blk
     refine qq (Val.assign rfl) rfl <| cnil <| cseq <| cregion <| qq (Val.move rfl) rfl <| qq (Val.move rfl) rfl ?_
     refine WR.eff (Eff.call pf20 rfl (errnum_ok _)) rfl ?_
     rintro v155 w23 ⟨hk23, rfl⟩
     replace hK := hK.upB (hk23.mono hBw); replace ho := ho.up hk23; replace hrA := hrA.up hk23; replace hrB := hrB.up hk23; replace hb15 := hb15.up hk23; replace hb17 := hb17.up hk23; replace hBw := Nat.le_trans hBw hk23.size
     refine qq (Val.eql rfl rfl) rfl <| qq (Val.bneq Try.underlying4 rfl rfl) rfl ?_
     rw [eqc]
     refine qq (Val.move rfl) rfl ?_
     apply WR.sc false 7 (!(takeSpec minus texts[j]).isSome && !decide ((if (takeSpec minus texts[j]).isSome = true then (0 : Int) else 7) = 7)) (fun w' => Below w23.heap.size w23 w')
     case hl => rfl
     case hg => rfl
     case hu => rfl
     case hv => rfl
     case hs => rfl
     case hoff => rfl
     case hd => rfl
     case hF => exact fun _ => Below.refl _ _
     case hT =>
      intro hq13
      try simp only [tstS] at hq13
      simp only [List.take_succ_cons, List.take_zero]
      have hKsc13 : Old w23 w23 := Old.refl _
      refine WR.on rfl rfl ?_
      refine qq (Val.move rfl) rfl ?_
      refine WR.on rfl rfl ?_
      refine qq (Val.not rfl) rfl ?_
      refine WR.on rfl rfl ?_
      refine qq (Val.move rfl) rfl ?_
      apply WR.sc true 3 (!decide ((if (takeSpec minus texts[j]).isSome = true then (0 : Int) else 7) = 7)) (fun w' => Below w23.heap.size w23 w')
      case hl => rfl
      case hg => rfl
      case hu => rfl
      case hv => rfl
      case hs => rfl
      case hoff => rfl
      case hd => rfl
      case hF => exact fun _ => Below.refl _ _
      case hT =>
       intro hq12
       try simp only [tstS] at hq12
       simp only [List.take_succ_cons, List.take_zero]
       have hKsc12 : Old w23 w23 := Old.refl _
       refine WR.on rfl rfl ?_
       refine qq (Val.move rfl) rfl ?_
       refine WR.on rfl rfl ?_
       refine WR.eff (Eff.call pf20 rfl (errnum_ok _)) rfl ?_
       rintro v163 w24 ⟨hk24, rfl⟩
       replace hK := hK.upB (hk24.mono hBw); replace ho := ho.up hk24; replace hrA := hrA.up hk24; replace hrB := hrB.up hk24; replace hb15 := hb15.up hk24; replace hb17 := hb17.up hk24; replace hKsc13 := hKsc13.up hk24; replace hKsc12 := hKsc12.up hk24; replace hBw := Nat.le_trans hBw hk24.size
       refine WR.on rfl rfl ?_
       refine qq (Val.neq rfl rfl) rfl ?_
       exact WR.nil ⟨rfl, Sub.drop _ 3 _ rfl rfl, hKsc12⟩
      intro w25 hk25
      replace hK := hK.upB (hk25.mono hBw); replace ho := ho.up hk25; replace hrA := hrA.up hk25; replace hrB := hrB.up hk25; replace hb15 := hb15.up hk25; replace hb17 := hb17.up hk25; replace hKsc13 := hKsc13.up hk25; replace hBw := Nat.le_trans hBw hk25.size
      exact WR.nil ⟨rfl, Sub.drop _ 4 _ rfl rfl, hKsc13⟩
     intro w26 hk26
     replace hK := hK.upB (hk26.mono hBw); replace ho := ho.up hk26; replace hrA := hrA.up hk26; replace hrB := hrB.up hk26; replace hb15 := hb15.up hk26; replace hb17 := hb17.up hk26; replace hBw := Nat.le_trans hBw hk26.size
     refine qq (Val.move rfl) rfl ?_
     apply WR.sc false 4 _ (fun w' => Below w26.heap.size w26 w')
     case hl => rfl
     case hg => rfl
     case hu => rfl
     case hv => rfl
     case hs => rfl
     case hoff => rfl
     case hd => rfl
     case hF => exact fun _ => Below.refl _ _
     case hT =>
      intro hq19
      try simp only [tstS] at hq19
      simp only [List.take_succ_cons, List.take_zero]
      have hKsc19 : Old w26 w26 := Old.refl _
      refine WR.on rfl rfl ?_
      refine qq (Val.loadBN agg31 rfl hb15 (recS.len hrA)) rfl ?_
      refine WR.on rfl rfl ?_
      refine qq (Val.loadBN agg31 rfl hb17 (recS.len hrB)) rfl ?_
      refine WR.on rfl rfl ?_
      refine WR.eff (Eff.call pf22 rfl (eqRecord_ok hrA hrB)) rfl ?_
      rintro v170 w27 ⟨hk27, rfl⟩
      replace hK := hK.upB (hk27.mono hBw); replace ho := ho.up hk27; replace hrA := hrA.up hk27; replace hrB := hrB.up hk27; replace hb15 := hb15.up hk27; replace hb17 := hb17.up hk27; replace hKsc19 := hKsc19.up hk27; replace hBw := Nat.le_trans hBw hk27.size
      refine WR.on rfl rfl ?_
      refine qq (Val.not rfl) rfl ?_
      exact WR.nil ⟨rfl, Sub.drop _ 4 _ rfl rfl, hKsc19⟩
     intro w28 hk28
     replace hK := hK.upB (hk28.mono hBw); replace ho := ho.up hk28; replace hrA := hrA.up hk28; replace hrB := hrB.up hk28; replace hb15 := hb15.up hk28; replace hb17 := hb17.up hk28; replace hBw := Nat.le_trans hBw hk28.size
     refine cnil ?_
     refine WC.cond rfl (fun hc28 => ?_) (fun hc28 => ?_)
     ·exfalso
      rw [eqd] at hc28
      simp at hc28
     ·skip
      refine cskip <| cregion <| qq (Val.move rfl) rfl <| qq (Val.addI rfl rfl (by first | omega | assumption | (simp; omega)) (by first | omega | assumption | (simp; omega))) rfl <| qq (Val.assign rfl) rfl <| cnil ?_
      exact ⟨j + 1, (by repeat (first | exact Sub.nil _ | refine Sub.cons rfl ?_)), ⟨ho, hK, hBw, kj⟩, by omega⟩
    ·try simp only [tstS] at hc24
     refine WC.exit rfl ?_
     refine cseq <| cregion ?_
     refine WR.eff (Eff.call pf25 rfl wakes_ok) rfl ?_
     rintro v173 w29 ⟨hk29, rfl⟩
     replace hK := hK.upB (hk29.mono hBw); replace ho := ho.up hk29; replace hBw := Nat.le_trans hBw hk29.size
     refine qq (Val.assign rfl) rfl <| cnil ?_
     refine WC.ret1 rfl rfl ?_
     exact ⟨hK.1, rfl⟩
end Go.Proofs.Ythlfolpcmcejkaa
