/- Disks: what lies in caches, in order. No condition. -/
import Derived.Test.YtjddnaefmikccaaAr7
set_option linter.unusedSimpArgs false
set_option linter.unusedVariables false
set_option maxRecDepth 100000
namespace Silo
open Go.Eng
/-- Of one disk. -/
def dirtyI (C : List (List Txt)) (i : Nat) : List (Nat × Nat) := (keysT (C.getD i [])).map fun s => (i, s)
def dirtyTo (C : List (List Txt)) (n : Nat) : List (Nat × Nat) := (List.range n).flatMap (dirtyI C)
def dirtyL (C : List (List Txt)) : List (Nat × Nat) := dirtyTo C C.length
theorem dirtyTo_succ (C : List (List Txt)) (n : Nat) : dirtyTo C (n + 1) = dirtyTo C n ++ dirtyI C n := by simp [dirtyTo, List.range_succ, List.flatMap_append]
theorem dirtyTo_pre (C : List (List Txt)) {n m : Nat} (h : n ≤ m) : dirtyTo C n <+: dirtyTo C m := by
  induction m with
  | zero => rw [show n = 0 by omega]; exact List.prefix_rfl
  | succ m ih =>
    rcases Nat.lt_or_ge n (m + 1) with h1 | h1
    · rw [dirtyTo_succ]; exact (ih (by omega)).trans (List.prefix_append _ _)
    · rw [show n = m + 1 by omega]; exact List.prefix_rfl
theorem dirty_step (C : List (List Txt)) {i j : Nat} {Ci : List Txt} (hg : C.getD i [] = Ci) (hi : i < C.length) (hj : j < (keysT Ci).length) : dirtyTo C i ++ (dirtyI C i).take j ++ [(i, (keysT Ci)[j])] <+: dirtyL C ∧ dirtyTo C i ++ (dirtyI C i).take (j + 1) = dirtyTo C i ++ (dirtyI C i).take j ++ [(i, (keysT Ci)[j])] := by
  subst hg
  have hjl : j < (dirtyI C i).length := by rw [dirtyI, List.length_map]; exact hj
  have e : (dirtyI C i).take (j + 1) = (dirtyI C i).take j ++ [(i, (keysT (C.getD i []))[j])] := by
    rw [List.take_succ_eq_append_getElem hjl]; simp [dirtyI]
  refine ⟨?_, by rw [e, List.append_assoc]⟩
  rw [List.append_assoc, ← e]
  refine List.IsPrefix.trans ?_ (dirtyTo_pre C (show i + 1 ≤ C.length from hi))
  rw [dirtyTo_succ]
  exact (List.prefix_append_right_inj _).2 (List.take_prefix _ _)
end Silo
namespace Go.Eng
open Go Go.RowKit Silo
theorem OwnC.elemN {c : Nat → Nat} {w : World} {v : Value} {e : TypeId} {i : Nat} {l : List Nat} (h : OwnC c w i e 1 v l.length (l.map fun (k : Nat) => I k)) {j : Nat} (hj : j < l.length) : CelC c w [i] (elemA v 1 j) [I (l[j] : Nat)] := by
  have h2 : OwnC c w i e 1 v l.length (l.flatMap fun (x : Nat) => [I x]) := by
    have e1 : ∀ l : List Nat, (l.flatMap fun (x : Nat) => [I x]) = l.map fun (k : Nat) => I k := fun l => by induction l with
      | nil => rfl
      | cons a r ih => rw [List.flatMap_cons, ih]; rfl
    rw [e1]; exact h
  exact h2.elem (fun _ => rfl) (by decide) hj
end Go.Eng
namespace Go.Proofs.Ytjddnaefmikccaa
open Go Go.Eng Go.RowKit Silo TryT
theorem adirtyF_ok {w : World} {p : Nat} : Calls Try.prog 31 #[.pointer (some ⟨p, 0, none⟩)] w (Ret fun u w' => Below w.heap.size w w' ∧ ∃ b1, u = .func (.func 54) #[] #[.pointer (some ⟨b1, 0, none⟩)] ∧ w.heap.size ≤ b1 ∧ Blk w' b1 [.pointer (some ⟨p, 0, none⟩)] 26) := by
  obtain ⟨c, hO, hc⟩ := OldC.start w
  clear hc
  refine enter (n := 4) (res := #[.tmp 2]) Try.func31 rfl rfl rfl rfl ?_
  refine cseq <| cg ?_
  refine ve (Eff.box1C c 101 rfl ra) ?_
  rintro _ w1 ⟨b1, c1, rfl, hM1, hb1⟩
  replace hO := hO.mv hM1
  refine za rfl <| cnil <| cseq <| cg <| vq (Val.makeFunc rfl) <| za rfl <| cnil ?_
  refine WC.ret1 rfl rfl ?_
  refine ⟨hO.below, _, rfl, ?_, hb1.blk⟩
  rcases Nat.lt_or_ge b1 w.heap.size with h | h
  · have := hO.col _ h; rw [hb1.col] at this; cases this
  · exact h

set_option maxHeartbeats 2000000 in
theorem dirty_iter {w0 : World} {c0 : Nat → Nat} {b1 p : Nat} {v : Value} {X : List DX} {C : List (List Txt)} {rest : List Value} (hb1 : BlkC c0 w0 76 b1 [.pointer (some ⟨p, 0, none⟩)] 26) (hbp : BlkC c0 w0 60 p (v :: rest) 58)
    (ho : OwnC c0 w0 61 62 3 v X.length (X.flatMap encD)) (hm : MapsC c0 w0 63 (X.map (·.2.2)) C) (hX : X.length ≤ 12) (hC : ∀ x ∈ C, x.length ≤ 2048) :
    IterC Try.prog 54 [.pointer (some ⟨b1, 0, none⟩)] (fun x : Nat × Nat => [.pointer (some (elemA v 3 x.1)), I x.2]) [77] [60, 61, 63, 76] (dirtyL C) c0 w0 := by
  intro l J Jx c1 W K hM hK hJi hJxi hy hJ0
  have hN : ∀ i ∈ [77, 60, 61, 63, 76], hasC K i = false := fun i hi => apart_of hK (by simpa using hi)
  replace hb1 := hb1.mv hM (hN 76 (by simp)); replace hbp := hbp.mv hM (hN 60 (by simp)); replace ho := ho.mv hM (hN 61 (by simp)); replace hm := hm.mv hM (hN 63 (by simp))
  have hJ : JC (J []) [77] c1 W := ⟨hJ0, fun _ _ _ _ h m => hJi _ _ _ _ _ h m⟩
  clear hM hN hK
  have hCl : C.length = X.length := by rw [← hm.len, List.length_map]
  obtain ⟨A0, cp, rfl, hl1, hl2⟩ := ho.own.len
  show Calls _ _ [_, _].toArray _ _
  refine enter (n := 41) (res := #[]) Try.func54 rfl rfl rfl rfl ?_
  refine cseq <| cg <| vq (Val.loadB scl26 rfl hb1.blk rfl) <| vq (Val.nilCheck rfl) <| vq (Val.fieldAddr fld58_0 rfl) <| vq (Val.loadB scl56 rfl hbp.blk rfl) ?_
  first | refine vq (Val.rdlen sl56 (by assumption) rfl) ?_ | refine vq (Val.sllen Try.underlying56 rfl) ?_ | refine vq (Val.olen sl56 (by assumption) rfl) ?_ | refine vq (Val.rdlenC sl56 (by assumption) rfl) ?_
  refine zm rfl <| cnil <| cblock ?_
  refine WC.loop (σ := Nat) (fun i => [(0, .func (.yield l) #[] #[]), (1, .pointer (some ⟨b1, 0, none⟩)), (10, I X.length), (11, I i)]) (fun i w' => i ≤ X.length ∧ ∃ c', BlkC c' w' 76 b1 [.pointer (some ⟨p, 0, none⟩)] 26 ∧ BlkC c' w' 60 p (.slice A0 X.length cp :: rest) 58 ∧ OwnC c' w' 61 62 3 (.slice A0 X.length cp) X.length (X.flatMap encD) ∧ MapsC c' w' 63 (X.map (·.2.2)) C ∧ JC (J (dirtyTo C i)) [77] c' w') (fun i => X.length - i) 0 subs ⟨by omega, _, hb1, hbp, ho, hm, hJ⟩ ?_
  clear hJ hb1 hbp ho hm
  rintro i wl ⟨hi, cl, hb1, hbp, ho, hm, hJ⟩
  refine cseq <| cg <| vq (Val.lss rfl rfl) <| cnil <| cseq ?_
  refine WC.cond rfl (fun hc1 => ?_) (fun hc1 => ?_)
  ·try simp only [tstS] at hc1
   have hi' : i < X.length := by omega
   have hc19 := ho.elem encD_len (by decide) hi'
   have hmi := hm.row i X[i].2.2 C[i] (by simp [hi']) (by simp)
   have hgd : C.getD i [] = C[i] := by simp [List.getD_eq_getElem?_getD, List.getElem?_eq_getElem (show i < C.length by omega)]
   have hCi := hC _ (List.getElem_mem (show i < C.length by omega))
   have hkl := keysT_len C[i]
   refine cskip <| cseq <| cblock <| cseq <| cg <| zm rfl <| za rfl <| cnil <| cseq ?_
   refine cg <| vq (Val.loadB scl26 rfl hb1.blk rfl) <| vq (Val.nilCheck rfl) <| vq (Val.fieldAddr fld58_0 rfl) <| vq (Val.loadB scl56 rfl hbp.blk rfl) <| zm rfl <| vq (Val.indexO sl56 ho rfl rfl (by omega) (by omega)) <| vq (Val.fieldAddrP fld62_2 rfl) <| vq (Val.loadEf scl60 rfl hc19.cel rfl) ?_
   refine ve (Eff.pureC cl 78 (Eff.call pf56 rfl (mapsKeys_ok))) ?_
   rintro v22 w1 ⟨c1, hM1, hx1, hk⟩
   replace hb1 := hb1.mv hM1; replace hbp := hbp.mv hM1; replace ho := ho.mv hM1; replace hm := hm.mv hM1; replace hJ := hJ.mv hM1; replace hc19 := hc19.mv hM1; replace hmi := hmi.mv hM1
   refine ve (Eff.pureC c1 77 (Eff.call pf55 rfl (sortedKeys_ok hk hmi.obj (by omega)))) ?_
   rintro v23 w2 ⟨c2, hM2, hx2, hS⟩
   replace hb1 := hb1.mv hM2; replace hbp := hbp.mv hM2; replace ho := ho.mv hM2; replace hm := hm.mv hM2; replace hJ := hJ.mv hM2; replace hc19 := hc19.mv hM2; replace hmi := hmi.mv hM2
   replace hS := hS.toC hx2
   refine vq (Val.olen sl32 hS rfl) <| zm rfl <| cnil <| cblock ?_
   refine WC.loop (σ := Nat) (fun j => [(0, .func (.yield l) #[] #[]), (1, .pointer (some ⟨b1, 0, none⟩)), (10, I X.length), (11, I i), (3, I i), (23, v23), (24, I (keysT C[i]).length), (25, I j)]) (fun j w' => j ≤ (keysT C[i]).length ∧ ∃ c', BlkC c' w' 76 b1 [.pointer (some ⟨p, 0, none⟩)] 26 ∧ BlkC c' w' 60 p (.slice A0 X.length cp :: rest) 58 ∧ OwnC c' w' 61 62 3 (.slice A0 X.length cp) X.length (X.flatMap encD) ∧ MapsC c' w' 63 (X.map (·.2.2)) C ∧ OwnC c' w' 77 3 1 v23 (keysT C[i]).length ((keysT C[i]).map fun (k : Nat) => I k) ∧ JC (J (dirtyTo C i ++ (dirtyI C i).take j)) [77] c' w') (fun j => (keysT C[i]).length - j) 0 subs ⟨by omega, _, hb1, hbp, ho, hm, hS, by simpa using hJ⟩ ?_
   clear hJ hb1 hbp ho hm hS hc19 hmi hk
   rintro j wm ⟨hj, cm, hb1, hbp, ho, hm, hS, hJ⟩
   refine cseq <| cg <| vq (Val.lss rfl rfl) <| cnil <| cseq ?_
   refine WC.cond rfl (fun hc4 => ?_) (fun hc4 => ?_)
   ·try simp only [tstS] at hc4
    have hj' : j < (keysT C[i]).length := by omega
    have hc27 := hS.elemN hj'
    obtain ⟨q1, q2⟩ := dirty_step C hgd (by omega) hj'
    refine cskip <| cseq <| cblock <| cseq <| cg <| vq (Val.indexO sl32 hS rfl rfl (by omega) (by omega)) <| vq (Val.loadE1 scl3 rfl hc27.cel) <| za rfl <| cnil ?_
    refine cseq <| cg <| zm rfl <| vq (Val.loadB scl26 rfl hb1.blk rfl) <| vq (Val.nilCheck rfl) <| vq (Val.fieldAddr fld58_0 rfl) <| vq (Val.loadB scl56 rfl hbp.blk rfl) <| zm rfl <| vq (Val.indexO sl56 ho rfl rfl (by omega) (by omega)) ?_
    refine zm rfl ?_
    obtain ⟨K2, hK2, hyA⟩ := hy _ _ _ _ hJ.now q1
    refine ve (Eff.yieldB rfl rfl hyA) ?_
    rintro _ wY ⟨b, cY, rfl, hMY, hyT, hyF⟩
    replace hb1 := hb1.mv hMY (apart_of hK2 (by simp)); replace hbp := hbp.mv hMY (apart_of hK2 (by simp)); replace ho := ho.mv hMY (apart_of hK2 (by simp)); replace hm := hm.mv hMY (apart_of hK2 (by simp)); replace hS := hS.mv hMY (apart_of hK2 (by simp))
    clear hJ hyA hc27
    refine vq (Val.not rfl) <| cnil ?_
    refine WC.cond rfl (fun hc6 => ?_) (fun hc6 => ?_)
    ·try simp only [tstS] at hc6
     skip
     refine WC.ret0 rfl ?_
     exact ⟨_, .inr ⟨_, hyF hc6⟩⟩
    ·try simp only [tstS] at hc6
     have hJ : JC (J (dirtyTo C i ++ (dirtyI C i).take (j + 1))) [77] cY wY := ⟨by rw [q2]; exact hyT hc6, fun _ _ _ _ h m => hJi _ _ _ _ _ h m⟩
     clear hyT hyF hMY
     refine cskip <| cg <| vq (Val.addI rfl rfl side side) <| zm rfl <| cnil ?_
     exact ⟨j + 1, subs, ⟨by omega, _, hb1, hbp, ho, hm, hS, hJ⟩, by omega⟩
   ·try simp only [tstS] at hc4
    have e : (dirtyI C i).take j = dirtyI C i := List.take_of_length_le (by rw [dirtyI, List.length_map, hgd]; omega)
    rw [e, ← dirtyTo_succ] at hJ
    refine WC.exit rfl ?_
    refine cg <| vq (Val.addI rfl rfl side side) <| zm rfl <| cnil ?_
    exact ⟨i + 1, subs, ⟨by omega, _, hb1, hbp, ho, hm, hJ⟩, by omega⟩
  ·try simp only [tstS] at hc1
   have e : dirtyTo C i = dirtyL C := by rw [dirtyL, show C.length = i by omega]
   rw [e] at hJ
   refine WC.exit rfl ?_
   refine ⟨_, _, rfl, rfl, ?_⟩
   exact ⟨rfl, _, .inl hJ.now⟩
end Go.Proofs.Ytjddnaefmikccaa
