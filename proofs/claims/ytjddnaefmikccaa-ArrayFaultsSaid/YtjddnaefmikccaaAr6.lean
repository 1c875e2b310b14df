/- Disks: lost, replaced, turned, new. No condition. -/
import Derived.Test.YtjddnaefmikccaaAr5
set_option linter.unusedSimpArgs false
set_option linter.unusedVariables false
set_option maxRecDepth 100000
namespace Go.Eng
open Go Go.RowKit Silo
/-- New blocks of two kinds. -/
theorem fresh_mv {c : Nat → Nat} {w w' : World} {e : TypeId} {lv : Value} {mb n : Nat} {xs : List Value} {C : List Txt} (i j : Nat) (h : Below w.heap.size w w') (ho : Own w' w.heap.size e 1 lv n xs) (hb : w.heap.size ≤ mb) (hm : MapW w' mb C) : ∃ c', Mv c w c' w' [] ∧ OwnC c' w' i e 1 lv n xs ∧ MapC c' w' j mb C := by
  refine ⟨fun k => if k < w.heap.size then c k else if k = mb then j else i, ⟨h.os, h.tape, h.output, h.size, fun k hk => by simp [hk], fun k hk _ => h.block k hk⟩, ⟨ho.base_le (Nat.zero_le _), fun k hk => ?_⟩, hm, ?_⟩
  · have h1 := (ho.lt k hk).1
    have h2 : k ≠ mb := fun e1 => by
      obtain ⟨es, clock, h3, _⟩ := hm
      rcases ho.2 with ⟨_, A, rfl⟩ | ⟨g, cap, cur, fz, rfl, _, hg, _, _, _, _, _, hcp⟩
      · rw [rowOf_zero] at hk; cases hk
      · rw [rowOf_slice hcp] at hk
        injection hk with hk
        have hk' : g = k := hk
        rw [hk', e1, h3] at hg; cases hg
    show (if k < w.heap.size then c k else if k = mb then j else i) = i
    rw [if_neg (by omega), if_neg h2]
  · show (if mb < w.heap.size then c mb else if mb = mb then j else i) = j
    rw [if_neg (by omega), if_pos rfl]
end Go.Eng
namespace Go.Proofs.Ytjddnaefmikccaa
open Go Go.Eng Go.RowKit Silo TryT
section
variable {c : Nat → Nat} {w : World} {p : Nat} {A : Arr} {d : Int}
theorem afresh_c {vs : List Value} {ms : List Nat} {L1 L2 : List (List Txt)} (hr : RowsC c w 62 9 vs L1) (hm : MapsC c w 63 ms L2) {n : Nat} (h0 : 0 < n) (hn : n ≤ 1048576) : Calls Try.prog 27 #[I n] w (Ret fun u w' => ∃ c', Mv c w c' w' [] ∧ ∃ lv mb, u = .agg #[.bool true, lv, .map (some mb)] ∧
    OwnC c' w' 62 9 1 lv (freshD n).l.length ((freshD n).l.map St) ∧ MapC c' w' 63 mb (freshD n).cache ∧ (∀ (k : Nat) (u : Value) (l : List Txt) (b : Nat), vs[k]? = some u → L1[k]? = some l → u.rowOf = some b → lv.rowOf ≠ some b) ∧ ∀ u ∈ ms, mb ≠ u) :=
  (fresh_ok h0 hn).mono fun e w' ⟨u, hu, hb, lv, mb, e1, hge, ho, hmw⟩ => by
    obtain ⟨c', hm', h1, h2⟩ := fresh_mv (c := c) 62 63 hb ho hge hmw
    refine ⟨u, hu, c', hm', lv, mb, e1, ?_, h2, hr.newRow fun k hk => (ho.lt k hk).1, hm.newMap hge⟩
    rw [show (freshD n).l.length = n from List.length_replicate, show (freshD n).l.map St = List.replicate n (St zeroT) from List.map_replicate]
    exact h1

theorem areplace_ok (h : ArrC c w p A) (hW : WfA A) : Calls Try.prog 42 #[.pointer (some ⟨p, 0, none⟩), I d] w (Ret fun u w' => ∃ c', Mv c w c' w' colA ∧ ArrC c' w' p (replaceA A d).1 ∧ u = I (replaceA A d).2) := by
  have hA := h
  obtain ⟨v, X, hb0, hD⟩ := h
  have hJ := OldJ.start c w colA
  replace hb0 := hb0.inn (J := colA) rfl
  replace hD := hD.inn
  replace hA := hA.inn
  obtain ⟨A0, cp, rfl, hl1, hl2⟩ := hD.form
  have hXl := hD.len
  generalize mask c colA = c0 at hJ hb0 hD hA
  refine enter (n := 20) (res := #[.tmp 4]) Try.func42 rfl rfl rfl rfl ?_
  refine cseq <| cg <| za rfl <| cnil <| cseq <| cseq <| cg <| zm rfl <| zm rfl ?_
  refine ve (Eff.pureC c0 1 (Eff.call pf28 rfl (ais_ok hA))) ?_
  rintro v7 w1 ⟨c1, hM1, hx1, rfl⟩
  replace hJ := hJ.mv hM1; replace hb0 := hb0.mv hM1; replace hD := hD.mv hM1; replace hA := hA.mv hM1
  refine vq (Val.not rfl) <| cnil ?_
  refine WC.cond rfl (fun hc1 => ?_) (fun hc1 => ?_)
  ·try simp only [tstS] at hc1
   refine cseq <| cg <| za rfl <| cnil ?_
   refine WC.ret1 rfl rfl ?_
   exact ⟨_, hJ.out, by simpa [replaceA, hc1] using hA.out hJ, by simp [replaceA, hc1]⟩
  ·try simp only [tstS] at hc1
   obtain ⟨k, rfl, hk⟩ := isA_nat hc1
   have z1 := hW.sec
   refine cskip <| cseq ?_
   refine WC.regionD (Kp c1 w1 [61]) [0, 0, 0, 1, 0, 0, 0, 0, 1, 2, 0, 3] [0, 1, 2, 3, 4, 5, 6, 7, 8, 9, 10, 11] mixed (by kernel_rfl) ?_
   have hM2 := Mv.drew c1 w1 []
   have hCw := Mv.drew c1 w1 [61]
   generalize w1.drew = w2 at hM2 hCw ⊢
   have hb00 := hb0
   replace hJ := hJ.mv hM2; replace hb0 := hb0.mv hM2; replace hD := hD.mv hM2
   refine zdm rfl rfl <| vd rfl (fun _ => Val.nilCheck rfl) <| vd rfl (fun _ => Val.fieldAddr fld58_0 rfl) <| vc rfl hCw.kp (fun W hW => Val.loadB scl56 rfl (hb00.kp hW rfl).blk rfl) <| zdm rfl rfl <| zdm rfl rfl <| vd rfl (fun _ => Val.nilCheck rfl) <| vd rfl (fun _ => Val.fieldAddr fld58_1 rfl) <| vc rfl hCw.kp (fun W hW => Val.loadB scl3 rfl (hb00.kp hW rfl).blk rfl) ?_
   refine WD.eff rfl rfl rfl (Eff.call pf27 rfl (afresh_c hD.rows hD.maps z1.1 (by omega))) rfl ?_
   rintro v18 w3 ⟨c3, hM3, ⟨lv, mb, rfl, ho, hm, hn1, hn2⟩⟩
   refine ⟨fun hC => hC.step hCw hM3 rfl, ?_⟩
   replace hCw := hCw.tr hM3 rfl
   replace hJ := hJ.mv hM3; replace hb0 := hb0.mv hM3; replace hD := hD.mv hM3
   refine vd rfl (fun _ => Val.indexO sl56 hD.own rfl rfl (by omega) (by omega)) ?_
   refine WD.wild rfl rfl rfl ((Eff.diskNew (k := k) (x1 := .tmp 19) (y := .tmp 18) (x' := freshD A.sectors) agg62 hD hk rfl rfl rfl ho hm hn1 hn2)) ?_
   rintro _ w4 ⟨c4, hM4, hD⟩
   try replace hCw := hCw.tr hM4 rfl
   replace hJ := hJ.mv hM4; replace hb0 := hb0.mv hM4; replace ho := ho.mv hM4; replace hm := hm.mv hM4
   refine WD.nil ?_
   clear hb00
   clear hCw
   refine cseq <| cg <| za rfl <| cnil ?_
   refine WC.ret1 rfl rfl ?_
   exact ⟨_, hJ.out, by simp only [replaceA, hc1, if_true]; exact ⟨_, _, hb0.out hJ rfl, hD.out hJ⟩, by simp [replaceA, hc1]⟩

theorem alose_ok (h : ArrC c w p A) (hW : WfA A) : Calls Try.prog 40 #[.pointer (some ⟨p, 0, none⟩), I d] w (Ret fun u w' => ∃ c', Mv c w c' w' colA ∧ ArrC c' w' p (loseA A d).1 ∧ u = I (loseA A d).2) := by
  have hA := h
  obtain ⟨v, X, hb0, hD⟩ := h
  have hJ := OldJ.start c w colA
  replace hb0 := hb0.inn (J := colA) rfl
  replace hD := hD.inn
  replace hA := hA.inn
  have hXl := hD.len
  have z0 := hW.many
  obtain ⟨g, cp, rfl, hl1, hl2⟩ := hD.own.posForm (by omega)
  generalize mask c colA = c0 at hJ hb0 hD hA
  refine enter (n := 27) (res := #[.tmp 4]) Try.func40 rfl rfl rfl rfl ?_
  refine cseq <| cg <| za rfl <| cnil <| cseq <| cseq <| cg <| zm rfl <| zm rfl ?_
  refine ve (Eff.pureC c0 1 (Eff.call pf28 rfl (ais_ok hA))) ?_
  rintro v7 w1 ⟨c1, hM1, hx1, rfl⟩
  replace hJ := hJ.mv hM1; replace hb0 := hb0.mv hM1; replace hD := hD.mv hM1; replace hA := hA.mv hM1
  refine vq (Val.not rfl) <| cnil ?_
  refine WC.cond rfl (fun hc1 => ?_) (fun hc1 => ?_)
  ·try simp only [tstS] at hc1
   refine cseq <| cg <| za rfl <| cnil ?_
   refine WC.ret1 rfl rfl ?_
   exact ⟨_, hJ.out, by simpa [loseA, hc1] using hA.out hJ, by simp [loseA, hc1]⟩
  ·try simp only [tstS] at hc1
   obtain ⟨k, rfl, hk⟩ := isA_nat hc1
   have z1 := hW.sec
   refine cskip <| cseq ?_
   refine WC.regionD (Kp c1 w1 [61]) [0, 0, 0, 1, 0, 0, 0, 0, 1, 2, 0, 3] [0, 1, 2, 3, 4, 5, 6, 7, 8, 9, 10, 11] mixed (by kernel_rfl) ?_
   have hM2 := Mv.drew c1 w1 []
   have hCw := Mv.drew c1 w1 [61]
   generalize w1.drew = w2 at hM2 hCw ⊢
   have hb00 := hb0
   replace hJ := hJ.mv hM2; replace hb0 := hb0.mv hM2; replace hD := hD.mv hM2
   refine zdm rfl rfl <| vd rfl (fun _ => Val.nilCheck rfl) <| vd rfl (fun _ => Val.fieldAddr fld58_0 rfl) <| vc rfl hCw.kp (fun W hW => Val.loadB scl56 rfl (hb00.kp hW rfl).blk rfl) <| zdm rfl rfl <| zdm rfl rfl <| vd rfl (fun _ => Val.nilCheck rfl) <| vd rfl (fun _ => Val.fieldAddr fld58_1 rfl) <| vc rfl hCw.kp (fun W hW => Val.loadB scl3 rfl (hb00.kp hW rfl).blk rfl) ?_
   refine WD.eff rfl rfl rfl (Eff.call pf27 rfl (afresh_c hD.rows hD.maps z1.1 (by omega))) rfl ?_
   rintro v18 w3 ⟨c3, hM3, ⟨lv, mb, rfl, ho, hm, hn1, hn2⟩⟩
   refine ⟨fun hC => hC.step hCw hM3 rfl, ?_⟩
   replace hCw := hCw.tr hM3 rfl
   replace hJ := hJ.mv hM3; replace hb0 := hb0.mv hM3; replace hD := hD.mv hM3
   refine vd rfl (fun _ => Val.indexO sl56 hD.own rfl rfl (by omega) (by omega)) ?_
   refine WD.wild rfl rfl rfl ((Eff.diskNew (k := k) (x1 := .tmp 19) (y := .tmp 18) (x' := freshD A.sectors) agg62 hD hk rfl rfl rfl ho hm hn1 hn2)) ?_
   rintro _ w4 ⟨c4, hM4, hD⟩
   try replace hCw := hCw.tr hM4 rfl
   replace hJ := hJ.mv hM4; replace hb0 := hb0.mv hM4; replace ho := ho.mv hM4; replace hm := hm.mv hM4
   refine WD.nil ?_
   clear hb00
   clear hCw
   refine cseq ?_
   have hXl2 : (X.set k (true, lv, mb)).length = X.length := List.length_set
   have hkx : k < X.length := by omega
   have hX2 := set_get (x := (true, lv, mb)) hkx
   have hD2 := set_get (x := freshD A.sectors) hk
   have e26 : (⟨g, k * 3, none⟩ : Addr) = (elemA (.slice (some ⟨g, 0, none⟩) X.length cp) 3 (k : Int).toNat).add 0 := by simp [elemA, add_lit]
   refine cg <| zm rfl <| vq (Val.nilCheck rfl) <| vq (Val.fieldAddr fld58_0 rfl) <| vq (Val.loadB scl56 rfl hb0.blk rfl) <| zm rfl <| vq (Val.indexO sl56 hD.own rfl rfl (by omega) (by omega)) ?_
   first | refine vq (Val.fieldAddr fld62_0 rfl) ?_ | refine vq (Val.fieldAddrP fld62_0 rfl) ?_
   refine WR.eff_ ((Eff.diskDie (x1 := .tmp 26) scl4 hD hX2 hD2 rfl (by rw [e26]; rfl) rfl)) ?_
   rintro _ w5 ⟨c5, hM5, hD⟩
   replace hJ := hJ.mv hM5; replace hb0 := hb0.mv hM5; replace ho := ho.mv hM5; replace hm := hm.mv hM5
   rw [List.set_set, List.set_set] at hD
   refine cnil <| cseq <| cg <| za rfl <| cnil ?_
   refine WC.ret1 rfl rfl ?_
   exact ⟨_, hJ.out, by simp only [loseA, hc1, if_true]; exact ⟨_, _, hb0.out hJ rfl, hD.out hJ⟩, by simp [loseA, hc1]⟩
end
end Go.Proofs.Ytjddnaefmikccaa
