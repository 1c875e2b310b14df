/- Things: what roots lead to. No condition. -/
import Derived.Test.YtnddlhjafkhdoaaRch3
import Derived.Test.YtnddlhjafkhdoaaMan8
set_option linter.unusedSimpArgs false
set_option linter.unusedVariables false
set_option maxRecDepth 100000
namespace Silo
open Go Go.Eng
theorem find_low {T : List Thg} (hr : RiseT T) {d : List UInt8} (h : (findT T d).isSome = true) : findT T d = some (lowT T d) ∧ lowT T d < T.length := by
  cases hf : findT T d with
  | none => rw [hf] at h; cases h
  | some i =>
    have := lowT_find hr hf
    exact ⟨by rw [this], by rw [this]; exact (findT_some hf).1⟩
theorem at_find {T : List Thg} {d : List UInt8} (h : 0 ≤ atT T d) : ∃ i : Nat, atT T d = i ∧ findT T d = some i ∧ i < T.length := by
  unfold atT at h ⊢
  cases hf : findT T d with
  | none => rw [hf] at h; exact absurd h (by decide)
  | some i => exact ⟨i, rfl, rfl, (findT_some hf).1⟩
theorem at_none {T : List Thg} {d : List UInt8} (h : ¬ 0 ≤ atT T d) : findT T d = none := by
  unfold atT at h
  cases hf : findT T d with
  | none => rfl
  | some i => rw [hf] at h; exact absurd (Int.natCast_nonneg i) h
theorem bools_set (l : List Bool) (i : Nat) (b : Bool) : (l.flatMap fun b => [Value.bool b]).set i (.bool b) = (l.set i b).flatMap fun b => [Value.bool b] := by
  have e : ∀ l : List Bool, (l.flatMap fun b => [Value.bool b]) = l.map Value.bool := fun l => by induction l with
    | nil => rfl
    | cons a r ih => simp [ih]
  rw [e, e, List.map_set]
theorem bools_zero (n : Nat) : (List.replicate n [Value.bool false]).flatten = (List.replicate n false).flatMap fun b => [Value.bool b] := by
  induction n with
  | zero => rfl
  | succ n ih => rw [List.replicate_succ, List.replicate_succ, List.flatten_cons, List.flatMap_cons, ih]
theorem dgOf_ok {T : List Thg} {ok : Nat} (h : ∀ t ∈ T, t.digest.length ≤ ok) (i : Nat) : (dgOf T i).length ≤ ok := by
  rcases Nat.lt_or_ge i T.length with hi | hi
  · rw [dgOf_lt hi]; exact h _ (List.getElem_mem hi)
  · rw [dgOf, List.getElem?_eq_none hi]; simp
theorem nmOf_texts {T : List Thg} {i : Nat} : ∀ x ∈ nmOf T i, x.length ≤ 140737488355328 := fun x hx => by
  rcases Nat.lt_or_ge i T.length with hi | hi
  · rw [nmOf_lt hi] at hx; exact namesT_texts x hx
  · rw [nmOf_ge hi] at hx; cases hx
end Silo
namespace Go.Proofs.Ytnddlhjafkhdoaa
open Go Go.Eng Go.RowKit Silo TryT

set_option maxHeartbeats 1000000 in
theorem reached_iter {w0 : World} {c0 : Nat → Nat} {b2 b3 : Nat} {v vR : Value} {T : List Thg} {R : List (List UInt8)} (hb2 : BlkC c0 w0 70 b2 [v] 52) (hb3 : BlkC c0 w0 70 b3 [vR] 23)
    (h1 : RdC thgS c0 w0 [0] v T) {JR : List Nat} (h2 : RdC strS c0 w0 JR vR R) (hp : PlainV vR) (hr : RiseT T) (ht : ∀ t ∈ T, t.text.length ≤ 1048576) (hl : T.length ≤ 100000) (hrl : R.length ≤ 1000000) :
    IterC Try.prog 138 [.pointer (some ⟨b2, 0, none⟩), .pointer (some ⟨b3, 0, none⟩)] (fun i : Nat => [I i]) [50, 51] ([0, 70] ++ JR) (ordR T R) c0 w0 := by
  intro l J Jx c1 W K hM hK hJi hJxi hy hJ0
  have hN : ∀ i ∈ [50, 51] ++ ([0, 70] ++ JR), hasC K i = false := fun i hi => apart_of hK hi
  replace hb2 := hb2.mv hM (hN 70 (by simp))
  replace hb3 := hb3.mv hM (hN 70 (by simp))
  replace h1 := h1.mv hM (apart_sub hK (by simp))
  replace h2 := h2.mv hM (apart_sub hK (by intro i hi; simp [hi]))
  have hJ : JC (J []) [50, 51] c1 W := ⟨hJ0, fun _ _ _ _ h m => hJi _ _ _ _ _ h m⟩
  have hro := h2.now.okFlat
  clear hM hN hK
  show Calls _ _ [_, _, _].toArray _ _
  refine enter (n := 48) (res := #[]) Try.func138 rfl rfl rfl rfl ?_
  have hR0 := h2
  refine cseq <| cregion <| qq (Val.loadB scl52 rfl hb2.blk rfl) rfl <| qq (Val.rdlenC sl52 h1 rfl) rfl ?_
  refine WR.eff (Eff.makeC c1 50 sl97 rfl rfl (by first | omega | assumption | (simp; omega) | (simp; done)) (by first | omega | assumption | (simp; omega) | (simp; done)) (by first | omega | assumption | (simp; omega) | (simp; done))) rfl ?_
  rintro v10 w1 ⟨c1, hM1, ho10⟩
  replace hb2 := hb2.mv hM1 rfl; replace hb3 := hb3.mv hM1 rfl; replace h1 := h1.mv hM1 rfl; replace hJ := hJ.mv hM1 rfl
  have hRd : RdS strS _ _ vR R := (hR0.mv hM1 (by simp [apartC, hasC])).now
  rw [Int.toNat_natCast, bools_zero] at ho10
  refine qq (Val.assign rfl) rfl <| cnil <| cseq <| cregion <| qq (Val.loadB scl23 rfl hb3.blk rfl) rfl ?_
  refine WR.eff (Eff.pureC c1 51 (Eff.call pf76 rfl (cloneStrs_ok hRd hp (by omega)))) rfl ?_
  rintro v12 w2 ⟨c2, hM2, hx2, ho12⟩
  replace hb2 := hb2.mv hM2 rfl; replace hb3 := hb3.mv hM2 rfl; replace h1 := h1.mv hM2 rfl; replace hJ := hJ.mv hM2 rfl; replace ho10 := ho10.mv hM2 rfl
  replace ho12 := ho12.toC hx2
  refine qq (Val.assign rfl) rfl <| cnil <| cblock ?_
  have hT := ho12.tail
  refine WC.loop (σ := List Bool × List (List UInt8) × Value × List Nat) (fun st => [(0, .func (.yield l) #[] #[]), (1, .pointer (some ⟨b2, 0, none⟩)), (2, .pointer (some ⟨b3, 0, none⟩)), (4, v10), (5, st.2.2.1)]) (fun st w' => ∃ c', BlkC c' w' 70 b2 [v] 52 ∧ BlkC c' w' 70 b3 [vR] 23 ∧ RdC thgS c' w' [0] v T ∧ OwnC c' w' 50 4 1 v10 T.length (st.1.flatMap fun b => [.bool b]) ∧ TailC c' w' 51 9 1 st.2.2.1 st.2.1.length (st.2.1.flatMap fun x => [St x]) ∧ JC (J st.2.2.2) [50, 51] c' w' ∧ st.1.length = T.length ∧ st.2.2.2 ++ bfsL T st.1 st.2.1 = ordR T R ∧ (∀ x ∈ st.2.1, x.length ≤ 140737488355328) ∧ bLeft st.1 st.2.1 ≤ R.length + 21 * T.length) (fun st => bLeft st.1 st.2.1) (List.replicate T.length false, R, v12, []) (by repeat (first | exact Sub.nil _ | refine Sub.cons rfl ?_ | refine Sub.consM rfl ?_)) ⟨_, hb2, hb3, h1, ho10, hT, hJ, by simp, rfl, hro, by simp [bLeft, List.count_replicate_self]⟩ ?_
  clear hb2 hb3 h1 ho10 hT hJ ho12 hR0 hRd
  rintro ⟨seen, todo, tv, pre⟩ wl ⟨cl, hb2, hb3, h1, ho10, hT, hJ, hsl, hpr, hto, hbl⟩
  dsimp only at hb2 hb3 h1 ho10 hT hJ hsl hpr hto hbl ⊢
  obtain ⟨A5, q5, rfl, hq5, _⟩ := hT.own.formA
  have htl : todo.length ≤ R.length + 21 * T.length := by unfold bLeft at hbl; omega
  refine cseq <| cseq <| cregion <| qq (Val.move rfl) rfl ?_
  first | refine WR.val (Val.rdlen sl23 (by assumption) rfl) rfl ?_ | refine WR.val (Val.sllen Try.underlying23 rfl) rfl ?_ | refine WR.val (Val.olen sl23 (by assumption) rfl) rfl ?_ | refine WR.val (Val.rdlenC sl23 (by assumption) rfl) rfl ?_
  refine qq (Val.gtr rfl rfl) rfl <| cnil ?_
  refine WC.cond rfl (fun hc2 => ?_) (fun hc2 => ?_)
  ·try simp only [tstS] at hc2
   obtain ⟨d, t, rfl⟩ : ∃ d t, todo = d :: t := by
     cases todo with
     | nil => simp at hc2
     | cons d t => exact ⟨d, t, rfl⟩
   have hX : RdC strS cl wl [51] _ (d :: t) := hT.rdFlat (by omega) hto
   have hlen1 : (d :: t).length = t.length + 1 := rfl
   obtain ⟨hc19, _⟩ := RdC.elFlat hX (k := 0) (by simp) (by decide)
   replace hc19 : CelC cl wl [51] (elemA (.slice A5 (d :: t).length q5) 1 0) [St d] := hc19
   refine cskip <| cblock <| cseq ?_
   refine WC.regionD (Kp cl wl []) [1, 0, 0, 1, 2, 0, 0, 0, 0, 0] [0, 1, 2, 3, 4, 5, 6, 7, 8, 9] mixed (by kernel_rfl) ?_
   have hM3 := Mv.drew cl wl []
   have hCw := Mv.drew cl wl []
   generalize wl.drew = w3 at hM3 hCw ⊢
   have hb20 := hb2
   have hb30 := hb3
   have hc190 := hc19
   replace hb2 := hb2.mv hM3 rfl; replace hb3 := hb3.mv hM3 rfl; replace h1 := h1.mv hM3 rfl; replace ho10 := ho10.mv hM3 rfl; replace hT := hT.mv hM3 rfl; replace hJ := hJ.mv hM3 rfl; replace hX := hX.mv hM3 rfl; replace hc19 := hc19.mv hM3 rfl
   refine qc rfl rfl rfl hCw.kp (fun W hW => Val.loadB scl52 rfl (hb20.kp hW rfl).blk rfl) rfl <| qd rfl rfl rfl (fun _ => Val.move rfl) rfl <| qd rfl rfl rfl (fun _ => Val.indexAddr sl23 hX.now rfl rfl rfl (by omega) (by omega)) rfl <| qc rfl rfl rfl hCw.kp (fun W hW => Val.loadE1 scl9 rfl (hc190.kp hW rfl).cel) rfl ?_
   refine WD.eff rfl rfl rfl (Eff.pureC cl 1 (Eff.call pf84 rfl (rfind_ok h1.now hr))) rfl ?_
   rintro v21 w4 ⟨c4, hM4, hx4, rfl⟩
   refine ⟨fun hC => hC.step hCw hM4 rfl, ?_⟩
   replace hCw := hCw.tr hM4 rfl
   replace hb2 := hb2.mv hM4 rfl; replace hb3 := hb3.mv hM4 rfl; replace h1 := h1.mv hM4 rfl; replace ho10 := ho10.mv hM4 rfl; replace hT := hT.mv hM4 rfl; replace hJ := hJ.mv hM4 rfl; replace hX := hX.mv hM4 rfl; replace hc19 := hc19.mv hM4 rfl
   refine qd rfl rfl rfl (fun _ => Val.move rfl) rfl <| qd rfl rfl rfl (fun _ => Val.extract rfl rfl) rfl <| qd rfl rfl rfl (fun _ => Val.extract rfl rfl) rfl <| qd rfl rfl rfl (fun _ => Val.assign rfl) rfl <| qd rfl rfl rfl (fun _ => Val.assign rfl) rfl ?_
   refine WD.nil ?_
   clear hb20 hb30 hc190
   clear hCw
   refine cseq ?_
   skip
   refine cregion <| qq (Val.move rfl) rfl <| qq (Val.partFrom sl23 rfl rfl (by omega) (by omega)) rfl ?_
   replace hT := TailC.rest (enc := fun x => [St x]) hT rfl
   generalize subV (.slice A5 (d :: t).length q5) (1 : Int).toNat (d :: t).length 1 = tw at hT ⊢
   have hto2 : ∀ x ∈ t, x.length ≤ 140737488355328 := fun x hx => hto x (by simp [hx])
   have hS := OwnC.rdFlat (n' := 1) (enc := fun b => [Value.bool b]) (ok := fun _ => True) (h0 := fun _ => rfl) (h1 := fun _ u hu => by simp at hu; subst hu; rfl) (l := seen) (by rw [hsl]; exact ho10) (by omega) (fun _ _ => trivial)
   refine qq (Val.assign rfl) rfl <| cnil <| cseq <| cseq <| cregion <| qq (Val.move rfl) rfl <| qq (Val.not rfl) rfl <| qq (Val.move rfl) rfl ?_
   apply WR.sc false 4 _ (fun w' => w4 = w')
   case hl => rfl
   case hg => rfl
   case hu => rfl
   case hv => rfl
   case hs => rfl
   case hoff => rfl
   case hd => rfl
   case hF => exact fun _ => rfl
   case hT =>
    intro hq7
    try simp only [tstS] at hq7
    simp only [List.take_succ_cons, List.take_zero]
    obtain ⟨hf, hil⟩ := find_low hr hq7
    have hil2 : lowT T d < seen.length := by omega
    obtain ⟨hc31, _⟩ := RdC.elFlat hS hil2 (by decide)
    have hv1 : ([Value.bool seen[lowT T d]] : List Value) = [.bool (seen[lowT T d]?.getD true)] := by rw [List.getElem?_eq_getElem hil2]; rfl
    rw [hv1] at hc31
    refine WR.on rfl rfl ?_
    refine qq (Val.move rfl) rfl ?_
    refine WR.on rfl rfl ?_
    refine qq (Val.move rfl) rfl ?_
    refine WR.on rfl rfl ?_
    refine qq (Val.indexO sl97 ho10 rfl rfl (by omega) (by omega)) rfl ?_
    refine WR.on rfl rfl ?_
    refine qq (Val.loadE1 scl4 rfl hc31.cel) rfl ?_
    exact WR.nil ⟨rfl, Sub.drop _ 4 _ rfl rfl, rfl⟩
   rintro _ rfl
   refine cnil ?_
   refine WC.cond rfl (fun hc5 => ?_) (fun hc5 => ?_)
   ·try simp only [tstS] at hc5
    have hsk : ∀ i, findT T d = some i → seen[i]?.getD true = true := fun i hi => by
      have hlo := lowT_find hr hi
      rcases hc5 with h | h
      · rw [hi] at h; cases h
      · rw [← hlo]; exact h
    rw [bfsL_skip hsk] at hpr
    have hbe : bLeft seen (d :: t) = bLeft seen t + 1 := by simp only [bLeft, List.length_cons]; omega
    refine WC.exit rfl ?_
    exact ⟨(seen, t, tw, pre), (by repeat (first | exact Sub.nil _ | refine Sub.cons rfl ?_ | refine Sub.consM rfl ?_)), ⟨_, hb2, hb3, h1, ho10, hT, hJ, hsl, hpr, hto2, by dsimp only; omega⟩, by dsimp only; omega⟩
   ·try simp only [tstS] at hc5
    obtain ⟨hc5a, hc5b⟩ := hc5
    obtain ⟨hf, hil⟩ := find_low hr hc5a
    generalize lowT T d = i at hf hil hc5b ⊢
    have hil2 : i < seen.length := by omega
    have h0 : seen[i] = false := by rw [List.getElem?_eq_getElem hil2] at hc5b; exact hc5b
    have hbv := bLeft_visit (T := T) (d := d) (t := t) hil2 h0
    rw [bfsL_visit hf hil2 h0] at hpr
    have hpre : pre ++ [i] <+: ordR T R := ⟨bfsL T (seen.set i true) (t ++ nmOf T i), by rw [← hpr]; simp⟩
    refine cskip <| cseq <| cregion <| qq (Val.move rfl) rfl <| qq (Val.move rfl) rfl <| qq (Val.indexO sl97 ho10 rfl rfl (by omega) (by omega)) rfl ?_
    refine WR.eff_ (Eff.storeOC scl4 ho10 (by first | omega | assumption | (simp; omega) | (simp; done)) rfl rfl (by first | rfl | assumption) (by first | rfl | assumption)) ?_
    rintro _ w5 ⟨hS, hM5⟩
    replace hb2 := hb2.mv hM5 rfl; replace hb3 := hb3.mv hM5 rfl; replace h1 := h1.mv hM5 rfl; replace hT := hT.mv hM5 rfl; replace hJ := hJ.mv hM5 rfl
    replace ho10 := hS
    rw [Int.toNat_natCast, bools_set] at ho10
    refine cnil <| cseq <| cseq <| cregion <| qq (Val.move rfl) rfl <| qq (Val.move rfl) rfl ?_
    obtain ⟨K2, hK2, hyA⟩ := hy pre i _ _ hJ.now hpre
    refine WR.eff (Eff.yieldB rfl rfl hyA) rfl ?_
    rintro _ wY ⟨b, cY, rfl, hMY, hyT, hyF⟩
    replace hb2 := hb2.mv hMY (apart_of hK2 (by simp)); replace hb3 := hb3.mv hMY (apart_of hK2 (by simp)); replace h1 := h1.mv hMY (apart_sub hK2 (by simp))
    replace ho10 := ho10.mv hMY (apart_of hK2 (by simp)); replace hT := hT.mv hMY (apart_of hK2 (by simp))
    clear hJ hyA
    refine qq (Val.not rfl) rfl <| cnil ?_
    refine WC.cond rfl (fun hc7 => ?_) (fun hc7 => ?_)
    ·try simp only [tstS] at hc7
     skip
     refine WC.ret0 rfl ?_
     exact ⟨_, .inr ⟨_, hyF hc7⟩⟩
    ·try simp only [tstS] at hc7
     have hJ : JC (J (pre ++ [i])) [50, 51] cY wY := ⟨hyT hc7, fun _ _ _ _ h m => hJi _ _ _ _ _ h m⟩
     clear hyT hyF hMY
     obtain ⟨hc44, _⟩ := RdC.elFlat h1 hil (by decide)
     have hnl := namesT_len T[i]
     have hne := nmOf_lt (T := T) hil
     refine cskip <| cregion <| qq (Val.move rfl) rfl <| qq (Val.loadB scl52 rfl hb2.blk rfl) rfl <| qq (Val.move rfl) rfl ?_
     first | refine WR.val (Val.indexAddr sl52 (by assumption) rfl rfl rfl (by first | omega | assumption | (simp; omega) | (simp; done)) (by first | omega | assumption | (simp; omega) | (simp; done))) rfl ?_ | refine WR.val (Val.indexC sl52 (by assumption) rfl rfl (by first | omega | assumption | (simp; omega) | (simp; done)) (by first | omega | assumption | (simp; omega) | (simp; done))) rfl ?_ | refine WR.val (Val.indexO sl52 (by assumption) rfl rfl (by first | omega | assumption | (simp; omega) | (simp; done)) (by first | omega | assumption | (simp; omega) | (simp; done))) rfl ?_
     refine qq (Val.loadE agg62 rfl hc44.cel rfl) rfl ?_
     refine WR.eff (Eff.pureC cY 52 (Eff.call pf83 rfl (rnames_ok T[i] (ht _ (List.getElem_mem hil))))) rfl ?_
     rintro v46 w6 ⟨c6, hM6, hx6, hn⟩
     replace hb2 := hb2.mv hM6 rfl; replace hb3 := hb3.mv hM6 rfl; replace h1 := h1.mv hM6 rfl; replace ho10 := ho10.mv hM6 rfl; replace hT := hT.mv hM6 rfl; replace hJ := hJ.mv hM6 rfl; replace hc44 := hc44.mv hM6 rfl
     replace hn := hn.toC hx6
     have hnr : RdS strS _ _ v46 (namesT T[i]) := hn.own.rdStrs namesT_texts (by omega)
     refine WR.eff (Eff.appendT sl23 rfl rfl hT (Src.flat Try.underlying23 hnr) (by rw [maxLen_eq]; first | omega | (simp; omega)) (by first | omega | (simp; omega))) rfl ?_
     rintro v47 w7 ⟨c7, hM7, hOq⟩
     replace hb2 := hb2.mv hM7 rfl; replace hb3 := hb3.mv hM7 rfl; replace h1 := h1.mv hM7 rfl; replace ho10 := ho10.mv hM7 rfl; replace hJ := hJ.mv hM7 rfl; replace hc44 := hc44.mv hM7 rfl; replace hn := hn.mv hM7 rfl
     replace hT := hOq
     refine qq (Val.assign rfl) rfl <| cnil ?_
     rw [← List.flatMap_append, ← List.length_append, ← hne] at hT
     refine ⟨(seen.set i true, t ++ nmOf T i, v47, pre ++ [i]), (by repeat (first | exact Sub.nil _ | refine Sub.cons rfl ?_ | refine Sub.consM rfl ?_)), ⟨_, hb2, hb3, h1, ho10, hT, hJ, by simpa using hsl, by rw [← hpr]; simp, fun x hx => (List.mem_append.1 hx).elim (hto2 x) (nmOf_texts x), by dsimp only; omega⟩, by dsimp only; omega⟩
  ·try simp only [tstS] at hc2
   have htn : todo = [] := by
     cases todo with
     | nil => rfl
     | cons d t => simp at hc2
   subst htn
   rw [bfsL_nil, List.append_nil] at hpr
   refine WC.exit rfl ?_
   refine ⟨_, _, rfl, rfl, ?_⟩
   exact ⟨rfl, _, .inl (by rw [← hpr]; exact hJ.now)⟩

theorem reached_ok {w : World} {v vR : Value} {T : List Thg} {R : List (List UInt8)} (h1 : Rd thgS w v T) (h2 : Rd strS w vR R) :
    Calls Try.prog 119 #[v, vR] w (Ret fun u w' => Below w.heap.size w w' ∧ ∃ b2 b3, u = .func (.func 138) #[] #[.pointer (some ⟨b2, 0, none⟩), .pointer (some ⟨b3, 0, none⟩)] ∧ w.heap.size ≤ b2 ∧ w.heap.size ≤ b3 ∧ Blk w' b2 [v] 52 ∧ Blk w' b3 [vR] 23) := by
  obtain ⟨c, hO, hc⟩ := OldC.start w
  have x1 := h1.cellsV; have x2 := h2.cellsV
  clear hc
  refine enter (n := 6) (res := #[.tmp 4]) Try.func119 rfl rfl rfl rfl ?_
  refine cseq <| cregion ?_
  refine WR.eff (Eff.box1C c 102 rfl (by first | rfl | assumption)) rfl ?_
  rintro _ w1 ⟨b2, c1, rfl, hM1, hb2⟩
  replace hO := hO.mv hM1 rfl
  refine WR.eff (Eff.box1C c1 103 rfl (by first | rfl | assumption)) rfl ?_
  rintro _ w2 ⟨b3, c2, rfl, hM2, hb3⟩
  replace hO := hO.mv hM2 rfl; replace hb2 := hb2.mv hM2 rfl
  refine qq (Val.assign rfl) rfl <| cnil <| cseq <| cregion <| qq (Val.makeFunc rfl) rfl <| qq (Val.assign rfl) rfl <| cnil ?_
  refine WC.ret1 rfl rfl ?_
  refine ⟨hO.below, _, _, rfl, ?_, ?_, hb2.blk, hb3.blk⟩
  · rcases Nat.lt_or_ge b2 w.heap.size with h | h
    · have := hO.col _ h; rw [hb2.col] at this; cases this
    · exact h
  · rcases Nat.lt_or_ge b3 w.heap.size with h | h
    · have := hO.col _ h; rw [hb3.col] at this; cases this
    · exact h
end Go.Proofs.Ytnddlhjafkhdoaa
