/- Disks: flush, off, lost, replaced, turned. No condition. -/
import Derived.Test.YtjddnaefmikccaaAr4
set_option linter.unusedSimpArgs false
set_option linter.unusedVariables false
set_option maxRecDepth 100000
namespace Go.Eng
open Go Go.RowKit Silo
theorem Val.maxI {P : Program} {env : Env} {w : World} {ty : TypeId} {x y : Operand} {at_ : Array TypeId} {m n : Int} (hx : evO env x = some (I m)) (hy : evO env y = some (I n)) : Val P env w (.call ⟨.builtin .max, #[x, y], at_⟩) ty (I (max m n)) := fun _ a ho d pos after g => by
  have h : (if n > m then n else m) = max m n := by rw [Int.max_def]; split <;> split <;> omega
  simp [execOp, resolve, invoke, builtin, Builtin.max_, Builtin.max2, ho.eval hx, ho.eval hy, h]
theorem set_get {α : Type} {l : List α} {k : Nat} {x : α} (hk : k < l.length) : (l.set k x)[k]? = some x := by simp [hk]
end Go.Eng
namespace Go.Proofs.Ytjddnaefmikccaa
open Go Go.Eng Go.RowKit Silo TryT
section
variable {c : Nat → Nat} {w : World} {p : Nat} {A : Arr} {d : Int}
set_option maxHeartbeats 1000000 in
theorem aflush_ok (h : ArrC c w p A) (hW : WfA A) : Calls Try.prog 13 #[.pointer (some ⟨p, 0, none⟩), I d] w (Ret fun u w' => ∃ c', Mv c w c' w' colA ∧ ArrC c' w' p (flushA A d).1 ∧ u = I (flushA A d).2) := by
  have hA := h
  obtain ⟨v, X, hb0, hD⟩ := h
  have hJ := OldJ.start c w colA
  replace hb0 := hb0.inn (J := colA) rfl
  replace hD := hD.inn
  replace hA := hA.inn
  obtain ⟨A0, cp, rfl, hl1, hl2⟩ := hD.form
  have hXl := hD.len
  generalize mask c colA = c0 at hJ hb0 hD hA
  refine enter (n := 53) (res := #[.tmp 4]) Try.func13 rfl rfl rfl rfl ?_
  refine cseq <| cg <| za rfl <| cnil <| cseq <| cseq <| cg <| zm rfl <| zm rfl ?_
  refine ve (Eff.pureC c0 1 (Eff.call pf28 rfl (ais_ok hA))) ?_
  rintro v10 w1 ⟨c1, hM1, hx1, rfl⟩
  replace hJ := hJ.mv hM1; replace hb0 := hb0.mv hM1; replace hD := hD.mv hM1; replace hA := hA.mv hM1
  refine vq (Val.not rfl) <| cnil ?_
  refine WC.cond rfl (fun hc1 => ?_) (fun hc1 => ?_)
  ·try simp only [tstS] at hc1
   refine cseq <| cg <| za rfl <| cnil ?_
   refine WC.ret1 rfl rfl ?_
   exact ⟨_, hJ.out, by simpa [flushA, hc1] using hA.out hJ, by simp [flushA, hc1]⟩
  ·try simp only [tstS] at hc1
   obtain ⟨k, rfl, hk⟩ := isA_nat hc1
   have hx := hW.each _ (List.mem_of_getElem? (dskA_at hk))
   obtain ⟨lv, m, hX⟩ := hD.at_ (dskA_at hk)
   refine cskip <| cseq <| cseq <| cg <| zm rfl <| zm rfl ?_
   refine ve (Eff.pureC c1 1 (Eff.call pf29 rfl (amay_ok hA hk))) ?_
   rintro v14 w2 ⟨c2, hM2, hx2, rfl⟩
   replace hJ := hJ.mv hM2; replace hb0 := hb0.mv hM2; replace hD := hD.mv hM2; replace hA := hA.mv hM2
   refine za rfl <| cnil <| cseq <| cg <| zm rfl <| vq (Val.neq rfl rfl) <| cnil ?_
   refine WC.cond rfl (fun hc4 => ?_) (fun hc4 => ?_)
   ·try simp only [tstS] at hc4
    refine cseq <| cg <| zm rfl <| za rfl <| cnil ?_
    refine WC.ret1 rfl rfl ?_
    exact ⟨_, hJ.out, by simpa [flushA, hc1, hc4] using hA.out hJ, by simp [flushA, hc1, hc4]⟩
   ·try simp only [tstS] at hc4
    have hc23 := hD.cel hX
    have z1 := hW.sec; have z2 := hx.lc; have z3 := hW.chg; have z4 := hW.left; have z5 := hx.ll
    have hm := hD.map hX (dskA_at hk)
    refine cskip <| cseq <| cseq <| cg <| zm rfl <| vq (Val.nilCheck rfl) <| vq (Val.fieldAddr fld58_0 rfl) <| vq (Val.loadB scl56 rfl hb0.blk rfl) <| zm rfl ?_
    refine vq (Val.indexO sl56 hD.own rfl rfl (by omega) (by omega)) <| vq (Val.fieldAddrP fld62_2 rfl) <| vq (Val.loadEf scl60 rfl hc23.cel rfl) ?_
    refine ve (Eff.pureC c2 75 ((Eff.mrange mapT rfl hm.obj))) ?_
    rintro v26 w3 ⟨c3, hM3, hx3, ⟨rfl, hI0⟩⟩
    replace hJ := hJ.mv hM3; replace hb0 := hb0.mv hM3; replace hD := hD.mv hM3; replace hc23 := hc23.mv hM3; replace hm := hm.mv hM3
    have hI : ItC c3 w3 75 63 _ m (dskA A k).cache [] := ⟨hI0, hx3 _ (Nat.le_refl _), hm.col⟩
    generalize w2.heap.size = r at hI ⊢
    clear hx3 hI0
    refine cnil <| cblock ?_
    obtain ⟨x, hxd⟩ : ∃ x, x = dskA A k := ⟨_, rfl⟩
    rw [← hxd] at hx hX z2 z5 hI hc23
    have hDk := dskA_at hk
    rw [← hxd] at hDk
    refine WC.loop (σ := List Nat) (fun st => [(0, .pointer (some ⟨p, 0, none⟩)), (1, I k), (4, I 0), (26, .pointer (some ⟨r, 0, none⟩))]) (fun st w' => ∃ c', OldJ c w colA c' w' ∧ BlkC c' w' 60 p [.slice A0 A.d.length cp, I A.sectors, .bool A.off, I A.left, I A.changes] 58 ∧ DisksX c' w' (.slice A0 A.d.length cp) X (A.d.set k { x with l := overK x.l x.cache st }) ∧ ItC c' w' 75 63 r m x.cache st) (fun st => x.cache.length - st.length) [] subs ⟨_, hJ, hb0, by rw [show ({ x with l := overK x.l x.cache [] } : Dsk) = x from rfl, set_same hDk]; exact hD, hI⟩ ?_
    clear hJ hb0 hD hA hc23 hm hI
    rintro st wl ⟨cl, hJ, hb0, hD, hI⟩
    have hlen := hI.len
    have hol := overK_len x.cache st x.l
    refine cseq <| cg ?_
    refine ve ((Eff.mnextC rfl hI)) ?_
    rintro v27 w4 ⟨c4, hM4, ⟨o, rfl, hI, hn, hs⟩⟩
    replace hJ := hJ.mv hM4; replace hb0 := hb0.mv hM4; replace hD := hD.mv hM4
    refine vq (Val.extract rfl (mnextV0 x.cache o)) <| cnil <| cseq ?_
    refine WC.cond rfl (fun hc7 => ?_) (fun hc7 => ?_)
    ·try simp only [tstS] at hc7
     obtain ⟨j, rfl⟩ := Option.isSome_iff_exists.1 hc7
     obtain ⟨hj1, hj2⟩ := hs j rfl
     have hj3 := tx_lt hj2
     clear hn hs
     have hlen2 := hI.len
     have hc37 := hD.cel hX
     have hDk2 : (A.d.set k { x with l := overK x.l x.cache st })[k]? = some { x with l := overK x.l x.cache st } := set_get hk
     refine cskip <| cblock <| cseq <| cg <| vq (Val.mentry rfl hI.obj) <| vq (Val.extract rfl rfl) <| vq (Val.extract rfl rfl) <| za rfl <| za rfl ?_
     refine cnil ?_
     have hrw := hD.row hX hDk2
     dsimp only at hrw
     refine cg <| zm rfl <| vq (Val.nilCheck rfl) <| vq (Val.fieldAddr fld58_0 rfl) <| vq (Val.loadB scl56 rfl hb0.blk rfl) <| zm rfl <| vq (Val.indexO sl56 hD.own rfl rfl (by omega) (by omega)) <| vq (Val.fieldAddrP fld62_1 rfl) <| vq (Val.loadEf scl59 rfl hc37.cel rfl) ?_
     refine zm rfl <| zm rfl <| vq (Val.indexO sl59 hrw rfl rfl (by omega) (by omega)) ?_
     refine WR.eff_ ((Eff.diskStore scl9 hD hX hDk2 rfl rfl (show j < (overK x.l x.cache st).length by omega))) ?_
     rintro _ w5 ⟨c5, hM5, hD⟩
     replace hJ := hJ.mv hM5; replace hb0 := hb0.mv hM5; replace hI := hI.mv hM5; replace hc37 := hc37.mv hM5
     rw [List.set_set] at hD
     refine cnil ?_
     refine ⟨st ++ [j], subs, ⟨_, hJ, hb0, ?_, hI⟩, ?_⟩
     · rw [overK_snoc]; exact hD
     · have h9 : (st ++ [j]).length ≤ x.cache.length := hlen2.2.2
       rw [List.length_append] at h9 ⊢; simp at h9 ⊢; omega
    ·try simp only [tstS] at hc7
     have e : o = none := by simpa using hc7
     subst e
     have hov : overK x.l x.cache st = over x.l x.cache := overK_all (by omega) hlen.2.1 (hn rfl)
     rw [hov] at hD
     have hc48 := hD.cel hX
     have hDk2 : (A.d.set k { x with l := over x.l x.cache })[k]? = some { x with l := over x.l x.cache } := set_get hk
     refine WC.exit rfl ?_
     refine cseq <| cg <| zm rfl <| vq (Val.nilCheck rfl) <| vq (Val.fieldAddr fld58_0 rfl) <| vq (Val.loadB scl56 rfl hb0.blk rfl) <| zm rfl <| vq (Val.indexO sl56 hD.own rfl rfl (by omega) (by omega)) <| vq (Val.fieldAddrP fld62_2 rfl) ?_
     refine vq (Val.loadEf scl60 rfl hc48.cel rfl) ?_
     refine WR.eff_ ((Eff.diskClear mapT hD hX hDk2 rfl)) ?_
     rintro _ w6 ⟨c6, hM6, hD⟩
     replace hJ := hJ.mv hM6; replace hb0 := hb0.mv hM6; replace hc48 := hc48.mv hM6
     rw [List.set_set] at hD
     have hA2 : ArrC _ _ p (setD A k (flushD x)) := ⟨_, X, hb0, hD⟩
     refine cnil <| cseq <| cg <| zm rfl ?_
     refine ve (Eff.call pf30 rfl (achanged_ok hA2 z3 z4.1 z4.2)) ?_
     rintro v52 w7 ⟨c7, hM7, hA2⟩
     replace hJ := hJ.mv hM7
     refine cnil <| cseq <| cg <| za rfl <| cnil ?_
     refine WC.ret1 rfl rfl ?_
     subst hxd
     exact ⟨_, hJ.out, by simpa [flushA, hc1, hc4] using hA2.out hJ, by simp [flushA, hc1, hc4]⟩

theorem aoff_ok (h : ArrC c w p A) {n : Int} : Calls Try.prog 36 #[.pointer (some ⟨p, 0, none⟩), I n] w (Ret fun _ w' => ∃ c', Mv c w c' w' colA ∧ ArrC c' w' p (offA A n)) := by
  obtain ⟨v, X, hb0, hD⟩ := h
  have hJ := OldJ.start c w colA
  replace hb0 := hb0.inn (J := colA) rfl
  replace hD := hD.inn
  have q1 := hD.oneC; have q2 := hD.cellsV
  generalize mask c colA = c0 at hJ hb0 hD
  refine enter (n := 20) (res := #[]) Try.func36 rfl rfl rfl rfl ?_
  refine cseq <| cg <| zm rfl <| zm rfl <| vq (Val.maxI rfl rfl) <| vq (Val.nilCheck rfl) <| vq (Val.fieldAddr fld58_3 rfl) ?_
  refine WR.eff_ (Eff.storeC scl3 rfl rfl ra ra hb0 rfl) ?_
  rintro _ w1 ⟨hS, hM1⟩
  replace hJ := hJ.mv hM1; replace hD := hD.mv hM1
  replace hb0 := hS
  refine cnil <| cg <| zm rfl <| zm rfl <| vq (Val.nilCheck rfl) <| vq (Val.fieldAddr fld58_2 rfl) <| vq (Val.loadB scl4 rfl hb0.blk rfl) <| zm rfl ?_
  apply WR.sc false 2 _ (fun w' => w1 = w')
  case hl | hg | hu | hv | hs | hoff | hd => rfl
  case hF => exact fun _ => rfl
  case hT =>
   intro hq8
   try simp only [tstS] at hq8
   simp only [List.take_succ_cons, List.take_zero]
   refine WR.on rfl rfl ?_
   refine zm rfl ?_
   refine WR.on rfl rfl ?_
   refine vq (Val.eql rfl rfl) ?_
   exact WR.nil ⟨rfl, Sub.drop _ 2 _ rfl rfl, rfl⟩
  rintro _ rfl
  refine vq (Val.nilCheck rfl) <| vq (Val.fieldAddr fld58_2 rfl) ?_
  refine WR.eff_ (Eff.storeC scl4 rfl rfl ra ra hb0 rfl) ?_
  rintro _ w2 ⟨hS, hM2⟩
  replace hJ := hJ.mv hM2; replace hD := hD.mv hM2
  replace hb0 := hS
  refine cnil ?_
  refine ⟨_, _, rfl, rfl, ?_⟩
  refine ⟨rfl, _, hJ.out, v, X, ?_, hD.out hJ⟩
  exact hb0.out hJ rfl
end
end Go.Proofs.Ytjddnaefmikccaa
