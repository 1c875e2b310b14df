/- Manifests: the program's bytes. No condition. -/
import Derived.Test.YtnddlhjafkhdoaaMan2
set_option linter.unusedSimpArgs false
set_option linter.unusedVariables false
set_option maxRecDepth 100000
namespace Silo
open Go Go.Eng Go.RowKit
/-- A list of lists of texts, in memory. -/
def strsS : Shape (List (List UInt8)) where
  size := 1
  rd := fun B w cs l => ∃ v, cs = [v] ∧ RdS strS B w v l
  len := fun ⟨_, h, _⟩ => by rw [h]; rfl
  keep := fun hk ⟨v, h, h1⟩ => ⟨v, h, h1.keep hk⟩
  mono := fun hB ⟨v, h, h1⟩ => ⟨v, h, h1.mono hB⟩
  one := fun ⟨v, h, h1⟩ u hu => by
    obtain ⟨A, c, rfl, _⟩ := h1.form
    subst h
    simp at hu
    subst hu; rfl
theorem sum_take_le (l : List Nat) (k : Nat) : (l.take k).sum ≤ l.sum := by
  conv => rhs; rw [← List.take_append_drop k l, List.sum_append]
  omega
theorem flatten_length {α : Type} (l : List (List α)) : l.flatten.length = (l.map List.length).sum := List.length_flatten
end Silo
namespace Go.Proofs.Ytnddlhjafkhdoaa
open Go Go.Eng Go.RowKit Silo TryT

theorem grow0_ok {w : World} (n : Nat) (hn : n ≤ 1048576) : Calls Try.prog 130 #[.slice none 0 0, I n] w (Ret fun v w' => Below w.heap.size w w' ∧ Own w' w.heap.size 9 1 v 0 []) := by
  have hK : Below w.heap.size w w := Below.refl _ _
  refine enter (n := 27) (res := #[.tmp 4]) Try.func130 rfl rfl rfl rfl ?_
  refine cseq <| cregion <| qq (Val.assign rfl) rfl <| cnil <| cseq <| cseq <| cregion <| qq (Val.move rfl) rfl <| qq (Val.lss rfl rfl) rfl ?_
  refine cnil ?_
  refine WC.cond rfl (fun hc1 => ?_) (fun hc1 => ?_)
  ·exfalso
   simp only [tstS] at hc1
   omega
  ·try simp only [tstS] at hc1
   refine cskip <| cseq <| cseq <| cregion <| qq (Val.move rfl) rfl <| qq (Val.move rfl) rfl <| qq (Val.slcap Try.underlying23 rfl) rfl <| qq (Val.move rfl) rfl ?_
   first | refine WR.val (Val.rdlen sl23 (by assumption) rfl) rfl ?_ | refine WR.val (Val.sllen Try.underlying23 rfl) rfl ?_
   refine qq (Val.subI rfl rfl (by first | omega | assumption | (simp; omega) | (simp; done)) (by first | omega | assumption | (simp; omega) | (simp; done))) rfl <| qq (Val.subI rfl rfl (by first | omega | assumption | (simp; omega) | (simp; done)) (by first | omega | assumption | (simp; omega) | (simp; done))) rfl <| qq (Val.assign rfl) rfl <| cnil <| cseq <| cregion <| qq (Val.move rfl) rfl <| qq (Val.gtr rfl rfl) rfl <| cnil ?_
   refine WC.cond rfl (fun hc4 => ?_) (fun hc4 => ?_)
   ·try simp only [tstS] at hc4
    have hn0 : 0 < n := by omega
    refine cregion <| qq (Val.move rfl) rfl <| qq (Val.move rfl) rfl <| qq (Val.slcap Try.underlying23 rfl) rfl <| qq (Val.partTo sl23 rfl rfl (by omega) (by omega)) rfl <| qq (Val.move rfl) rfl ?_
    refine WR.eff (Eff.appendZeros0 sl23 Try.underlying3 rfl rfl (by omega) (by decide) (by omega) (by decide)) rfl ?_
    rintro _ wA ⟨G, rfl, hG, hown, hkA⟩
    refine qq (Val.move rfl) rfl ?_
    first | refine WR.val (Val.rdlen sl23 (by assumption) rfl) rfl ?_ | refine WR.val (Val.sllen Try.underlying23 rfl) rfl ?_
    refine qq (Val.partTo sl23 rfl rfl (by omega) (by omega)) rfl <| qq (Val.assign rfl) rfl <| cnil <| cseq <| cregion <| qq (Val.move rfl) rfl <| qq (Val.assign rfl) rfl <| cnil ?_
    refine WC.ret1 rfl rfl ?_
    first
    | exact ⟨hkA, by
        have e : ∀ m : Nat, subV (.slice (some ⟨w.heap.size, 0, none⟩) m G) 0 ((0 : Nat) : Int).toNat 1 = .slice (some ⟨w.heap.size, 0, none⟩) 0 G := fun m => by simp [subV, show ¬ G = 0 by omega, add_lit]
        rw [e]; exact hown⟩
    | exact ⟨hK, Own.nil _ _ _ _⟩
   ·try simp only [tstS] at hc4
    refine cskip <| cseq <| cregion <| qq (Val.move rfl) rfl <| qq (Val.assign rfl) rfl <| cnil ?_
    refine WC.ret1 rfl rfl ?_
    first
    | exact ⟨hkA, by
        have e : ∀ m : Nat, subV (.slice (some ⟨w.heap.size, 0, none⟩) m G) 0 ((0 : Nat) : Int).toNat 1 = .slice (some ⟨w.heap.size, 0, none⟩) 0 G := fun m => by simp [subV, show ¬ G = 0 by omega, add_lit]
        rw [e]; exact hown⟩
    | exact ⟨hK, Own.nil _ _ _ _⟩

theorem concat_ok {w : World} {v : Value} {L : List (List (List UInt8))} (h1 : Rd strsS w v L) (hT : (L.map List.length).sum ≤ 1048576) :
    Calls Try.prog 111 #[v] w (Ret fun v' w' => Below w.heap.size w w' ∧ Own w' w.heap.size 9 1 v' L.flatten.length (L.flatten.flatMap fun x => [St x])) := by
  have hlen := h1.small
  unfold Rd at h1
  obtain ⟨B, hB⟩ : ∃ B, B = w.heap.size := ⟨_, rfl⟩
  have hBw : B ≤ w.heap.size := Nat.le_of_eq hB
  have hK : Below B w w := Below.refl _ _
  rw [← hB] at h1 ⊢
  refine enter (n := 36) (res := #[.tmp 2]) Try.func111 rfl rfl rfl rfl ?_
  refine cseq <| cregion <| qq (Val.assign rfl) rfl <| cnil <| cseq <| cregion <| qq (Val.assign rfl) rfl <| cnil <| cseq ?_
  refine cseq <| cregion <| qq (Val.move rfl) rfl ?_
  first | refine WR.val (Val.rdlen sl98 (by assumption) rfl) rfl ?_ | refine WR.val (Val.sllen Try.underlying98 rfl) rfl ?_
  refine qq (Val.move rfl) rfl <| cnil <| cblock ?_
  refine WC.loop (σ := Nat) (fun k => [(0, v), (3, I (((L.take k).map List.length).sum : Nat)), (9, v), (10, I L.length), (11, I k)]) (fun k w' => RdS strsS B w' v L ∧ Below B w w' ∧ B ≤ w'.heap.size ∧ k ≤ L.length) (fun k => L.length - k) 0 (by simp only [List.take_zero, List.map_nil, List.sum_nil]; repeat (first | exact Sub.nil _ | refine Sub.cons rfl ?_ | refine Sub.consM rfl ?_)) ⟨h1, hK, hBw, by omega⟩ ?_
  clear hBw h1 hK
  rintro k wl ⟨h1, hK, hBw, hk⟩
  refine cseq <| cregion <| qq (Val.lss rfl rfl) rfl <| cnil <| cseq ?_
  refine WC.cond rfl (fun hc3 => ?_) (fun hc3 => ?_)
  ·try simp only [tstS] at hc3
   have ka : k < L.length := by omega
   obtain ⟨cs1, hc13, vi, rfl, hvi⟩ := h1.elB ka
   replace hc13 := hc13.toCel hBw
   have g1 : ((L.take k).map List.length).sum + L[k].length ≤ 1048576 := by
     rw [← sum_take_succ _ ka]; have := sum_take_le (L.map List.length) (k + 1); rw [← List.map_take] at this; omega
   have hli := hvi.small
   refine cskip <| cseq <| cblock <| cseq <| cregion <| qq (Val.indexAddr sl98 (by assumption) rfl rfl rfl (by first | omega | assumption | (simp; omega) | (simp; done)) (by first | omega | assumption | (simp; omega) | (simp; done))) rfl <| qq (Val.loadE1 scl23 rfl hc13) rfl <| qq (Val.assign rfl) rfl <| cnil ?_
   refine cseq <| cregion <| qq (Val.move rfl) rfl <| qq (Val.move rfl) rfl ?_
   first | refine WR.val (Val.rdlen sl23 (by assumption) rfl) rfl ?_ | refine WR.val (Val.sllen Try.underlying23 rfl) rfl ?_
   refine qq (Val.addI rfl rfl (by first | omega | assumption | (simp; omega) | (simp; done)) (by first | omega | assumption | (simp; omega) | (simp; done))) rfl <| qq (Val.assign rfl) rfl <| cnil <| cseq <| cregion <| qq (Val.move rfl) rfl <| qq (Val.lss rfl rfl) rfl <| cnil ?_
   refine WC.cond rfl (fun hc6 => ?_) (fun hc6 => ?_)
   ·exfalso
    simp only [tstS] at hc6
    omega
   ·try simp only [tstS] at hc6
    refine cskip <| cregion <| qq (Val.addI rfl rfl (by first | omega | assumption | (simp; omega) | (simp; done)) (by first | omega | assumption | (simp; omega) | (simp; done))) rfl <| qq (Val.move rfl) rfl <| cnil ?_
    exact ⟨k + 1, (by rw [sum_take_succ _ ka, Int.natCast_add]; repeat (first | exact Sub.nil _ | refine Sub.cons rfl ?_ | refine Sub.consM rfl ?_)), ⟨h1, hK, hBw, ka⟩, by omega⟩
  ·try simp only [tstS] at hc3
   have : k = L.length := by omega
   subst this
   rw [List.take_length]
   have hBl := hBw
   refine WC.exit rfl ?_
   refine cseq <| cregion <| qq (Val.move rfl) rfl ?_
   refine WR.eff (Eff.call pf130 rfl (grow0_ok (L.map List.length).sum hT)) rfl ?_
   rintro v24 w1 ⟨hk1, ho24⟩
   replace h1 := h1.upB (hk1.mono hBw); replace hK := hK.upB (hk1.mono hBw); replace hBw := Nat.le_trans hBw hk1.size
   replace ho24 := ho24.base_le hBl
   refine qq (Val.assign rfl) rfl <| cnil <| cseq <| cseq <| cregion <| qq (Val.move rfl) rfl ?_
   first | refine WR.val (Val.rdlen sl98 (by assumption) rfl) rfl ?_ | refine WR.val (Val.sllen Try.underlying98 rfl) rfl ?_
   refine qq (Val.move rfl) rfl <| cnil <| cblock ?_
   refine WC.loop (σ := Nat × Value) (fun st => [(6, st.2), (25, v), (26, I L.length), (27, I st.1)]) (fun st w' => RdS strsS B w' v L ∧ Below B w w' ∧ B ≤ w'.heap.size ∧ st.1 ≤ L.length ∧ Own w' B 9 1 st.2 (L.take st.1).flatten.length ((L.take st.1).flatten.flatMap fun x => [St x])) (fun st => L.length - st.1) (0, v24) (by repeat (first | exact Sub.nil _ | refine Sub.cons rfl ?_ | refine Sub.consM rfl ?_)) ⟨h1, hK, hBw, by simp, ho24⟩ ?_
   clear hBw h1 hK ho24
   rintro ⟨k, v2⟩ wm ⟨h1, hK, hBw, hk, ho⟩
   dsimp only at h1 hK hk ho ⊢
   refine cseq <| cregion <| qq (Val.lss rfl rfl) rfl <| cnil <| cseq ?_
   refine WC.cond rfl (fun hc11 => ?_) (fun hc11 => ?_)
   ·try simp only [tstS] at hc11
    have ka : k < L.length := by omega
    obtain ⟨cs1, hc29, vi, rfl, hvi⟩ := h1.elB ka
    replace hc29 := hc29.toCel hBw
    have g1 : ((L.take k).map List.length).sum + L[k].length ≤ 1048576 := by
      rw [← sum_take_succ _ ka]; have := sum_take_le (L.map List.length) (k + 1); rw [← List.map_take] at this; omega
    rw [← flatten_length] at g1
    have hli := hvi.small
    refine cskip <| cseq <| cblock <| cseq <| cregion <| qq (Val.indexAddr sl98 (by assumption) rfl rfl rfl (by first | omega | assumption | (simp; omega) | (simp; done)) (by first | omega | assumption | (simp; omega) | (simp; done))) rfl <| qq (Val.loadE1 scl23 rfl hc29) rfl <| qq (Val.assign rfl) rfl <| cnil ?_
    refine cregion <| qq (Val.move rfl) rfl <| qq (Val.move rfl) rfl ?_
    refine WR.eff (Eff.append sl23 rfl rfl ho (Src.flat Try.underlying23 hvi) (by rw [maxLen_eq]; first | omega | (simp; omega)) (by first | omega | (simp; omega)) hBw) rfl ?_
    intro v33 w2 hA33
    have hk2 := hA33.belowB ho hBw
    replace h1 := h1.upB hk2; replace hK := hK.upB hk2; replace hvi := hvi.upB hk2; replace hBw := Nat.le_trans hBw hk2.size
    replace ho := hA33.own
    refine qq (Val.assign rfl) rfl <| cnil <| cregion <| qq (Val.addI rfl rfl (by first | omega | assumption | (simp; omega) | (simp; done)) (by first | omega | assumption | (simp; omega) | (simp; done))) rfl <| qq (Val.move rfl) rfl <| cnil ?_
    rw [← List.flatMap_append, ← List.length_append, ← flatten_take ka] at ho
    exact ⟨(k + 1, _), (by repeat (first | exact Sub.nil _ | refine Sub.cons rfl ?_ | refine Sub.consM rfl ?_)), ⟨h1, hK, hBw, ka, ho⟩, by dsimp only; omega⟩
   ·try simp only [tstS] at hc11
    have : k = L.length := by omega
    subst this
    rw [List.take_length] at ho
    refine WC.exit rfl ?_
    refine cseq <| cregion <| qq (Val.move rfl) rfl <| qq (Val.assign rfl) rfl <| cnil ?_
    refine WC.ret1 rfl rfl ?_
    exact ⟨hK, ho⟩

theorem bytesV_append (a b : List UInt8) : bytesV (a ++ b) = bytesV a ++ bytesV b := by simp [bytesV]
theorem rdPair {w : World} {c : Nat → Nat} {i b : Nat} {va vb : Value} {x y : List (List UInt8)} {T : TypeId} (hb : BlkC c w i b [va, vb] T) (h1 : Rd strS w va x) (h2 : Rd strS w vb y) : Rd strsS w (.slice (some ⟨b, 0, none⟩) 2 2) [x, y] :=
  Own.rd (s := strsS) (css := [[va], [vb]]) (by simp) (hb.own (n := 2) (size := 1) rfl (by decide)).own rfl rfl fun k cs z h3 h4 => by
    rcases k with _ | _ | k
    · injection h3 with h3; injection h4 with h4; subst h3 h4; exact ⟨va, rfl, h1⟩
    · injection h3 with h3; injection h4 with h4; subst h3 h4; exact ⟨vb, rfl, h2⟩
    · cases h3

set_option maxHeartbeats 1000000 in
theorem mspelt_ok {w : World} {cs : List Value} {m : Man} (h : RdMan w cs m) (hm : manMay m = true) : Calls Try.prog 73 #[.agg cs.toArray] w (Ret fun v w' => Below w.heap.size w w' ∧ v = St (manBytes m)) := by
  obtain ⟨vb, vs, rfl, hb0, hs0, hq⟩ := h
  obtain ⟨⟨k0, k1⟩, hl20, hr1, hr2⟩ := (manMay_iff m).1 hm
  have f1 := risingB_len hr1; have f2 := risingB_len hr2
  obtain ⟨A1, p1, rfl, _⟩ := hb0.form
  obtain ⟨A2, p2, rfl, _⟩ := hs0.form
  obtain ⟨c, hO, hc⟩ := OldC.start w
  have hb : RdC strS c w [0] _ m.blobs := Rd.toC hb0 (fun k hk => by simp [hc, hasC])
  have hs : RdC strS c w [0] _ m.subs := Rd.toC hs0 (fun k hk => by simp [hc, hasC])
  clear hc hb0 hs0
  refine enter (n := 38) (res := #[.tmp 2]) Try.func73 rfl rfl rfl rfl ?_
  refine cseq <| cregion ?_
  refine WR.eff (Eff.boxC c 101 rfl) rfl ?_
  rintro _ w1 ⟨b1, c1, rfl, hM1, hb1⟩
  replace hO := hO.mv hM1 rfl; replace hb := hb.mv hM1 rfl; replace hs := hs.mv hM1 rfl
  refine qq (Val.assign rfl) rfl <| cnil <| cseq <| cregion ?_
  refine WR.eff (Eff.buildC c1 8 sl68 rfl rfl rfl (by simp [Value.cells]) rfl rfl) rfl ?_
  rintro _ w2 ⟨b6, c2, rfl, hM2, hb6⟩
  replace hO := hO.mv hM2 rfl; replace hb := hb.mv hM2 rfl; replace hs := hs.mv hM2 rfl; replace hb1 := hb1.mv hM2 rfl
  refine WR.eff ((Eff.convBytesC Try.underlying68 Try.underlying5 rfl hb6 rfl (by decide))) rfl ?_
  rintro v7 w3 ⟨c3, hM3, rfl, ho7⟩
  replace hO := hO.mv hM3 rfl; replace hb := hb.mv hM3 rfl; replace hs := hs.mv hM3 rfl; replace hb1 := hb1.mv hM3 rfl
  first | refine WR.val (Val.fieldAddr fld29_0 rfl) rfl ?_ | refine WR.val (Val.fieldAddrP fld29_0 rfl) rfl ?_
  refine qq (Val.loadB scl3 rfl hb1.blk rfl) rfl <| qq (Val.convToU8I Try.underlying3 Try.underlying5 rfl) rfl ?_
  first | refine WR.val (Val.fieldAddr fld29_1 rfl) rfl ?_ | refine WR.val (Val.fieldAddrP fld29_1 rfl) rfl ?_
  refine qq (Val.loadB scl23 rfl hb1.blk rfl) rfl <| qq (Val.rdlen sl23 hb.now rfl) rfl <| qq (Val.convToU8I Try.underlying3 Try.underlying5 rfl) rfl ?_
  first | refine WR.val (Val.fieldAddr fld29_2 rfl) rfl ?_ | refine WR.val (Val.fieldAddrP fld29_2 rfl) rfl ?_
  refine qq (Val.loadB scl23 rfl hb1.blk rfl) rfl <| qq (Val.rdlen sl23 hs.now rfl) rfl <| qq (Val.convToU8I Try.underlying3 Try.underlying5 rfl) rfl ?_
  refine WR.eff (Eff.buildC c3 119 sl68 rfl rfl rfl (by simp [Value.cells]) rfl rfl) rfl ?_
  rintro _ w4 ⟨b19, c4, rfl, hM4, hb19⟩
  replace hO := hO.mv hM4 rfl; replace hb := hb.mv hM4 rfl; replace hs := hs.mv hM4 rfl; replace hb1 := hb1.mv hM4 rfl; replace ho7 := ho7.mv hM4 rfl
  refine WR.eff (Eff.appendC sl68 rfl rfl ho7 (Src.cellsAt Try.underlying68 hb19.blk.cellsAt rfl (by repeat (first | exact List.forall_mem_nil _ | refine List.forall_mem_cons.2 ⟨by first | rfl | assumption, ?_⟩))) (by rw [maxLen_eq]; first | omega | (simp; omega)) (by first | omega | (simp; omega))) rfl ?_
  rintro v20 w5 ⟨c5, hM5, hOq⟩
  clear hb19
  replace hO := hO.mv hM5 rfl; replace hb := hb.mv hM5 rfl; replace hs := hs.mv hM5 rfl; replace hb1 := hb1.mv hM5 rfl
  replace ho7 := hOq
  refine qq (Val.assign rfl) rfl <| cnil <| cseq <| cseq ?_
  replace ho7 : OwnC _ _ 8 5 1 _ 7 (bytesV (manHead m)) := ho7
  refine cregion ?_
  first | refine WR.val (Val.fieldAddr fld29_1 rfl) rfl ?_ | refine WR.val (Val.fieldAddrP fld29_1 rfl) rfl ?_
  refine qq (Val.loadB scl23 rfl hb1.blk rfl) rfl ?_
  first | refine WR.val (Val.fieldAddr fld29_2 rfl) rfl ?_ | refine WR.val (Val.fieldAddrP fld29_2 rfl) rfl ?_
  refine qq (Val.loadB scl23 rfl hb1.blk rfl) rfl ?_
  refine WR.eff (Eff.buildC c5 125 sl98 rfl rfl rfl (by simp [Value.cells]) rfl rfl) rfl ?_
  rintro _ w6 ⟨b25, c6, rfl, hM6, hb25⟩
  replace hO := hO.mv hM6 rfl; replace hb := hb.mv hM6 rfl; replace hs := hs.mv hM6 rfl; replace hb1 := hb1.mv hM6 rfl; replace ho7 := ho7.mv hM6 rfl
  refine WR.eff (Eff.pureC c6 126 (Eff.call pf111 rfl (concat_ok (rdPair hb25 hb.now hs.now) (by simp; omega)))) rfl ?_
  rintro v26 w7 ⟨c7, hM7, hx7, ho26⟩
  replace hO := hO.mv hM7 rfl; replace hb := hb.mv hM7 rfl; replace hs := hs.mv hM7 rfl; replace hb1 := hb1.mv hM7 rfl; replace ho7 := ho7.mv hM7 rfl; replace hb25 := hb25.mv hM7 rfl
  replace ho26 := ho26.toC hx7
  first | refine WR.val (Val.rdlen sl23 (by assumption) rfl) rfl ?_ | refine WR.val (Val.sllen Try.underlying23 rfl) rfl ?_ | refine WR.val (Val.olen sl23 (by assumption) rfl) rfl ?_ | refine WR.val (Val.rdlenC sl23 (by assumption) rfl) rfl ?_
  refine qq (Val.move rfl) rfl <| cnil <| cblock ?_
  have hlen : [m.blobs, m.subs].flatten.length ≤ 20 := by simp; exact hl20
  have hok : ∀ x ∈ [m.blobs, m.subs].flatten, x.length = 32 := fun x hx => by
    simp at hx
    exact hx.elim (f1 x) (f2 x)
  have hfl : [m.blobs, m.subs].flatten.flatten = m.blobs.flatten ++ m.subs.flatten := by simp
  generalize [m.blobs, m.subs].flatten = D at hlen hok hfl ho26 ⊢
  have hD : RdC strS _ _ [126] v26 D := ho26.rdFlat (by omega) (fun x hx => by rw [hok x hx]; decide)
  refine WC.loop (σ := Nat × Value) (fun st => [(3, st.2), (26, v26), (27, I D.length), (28, I st.1)]) (fun st w' => ∃ c', OldC w c' w' ∧ RdC strS c' w' [126] v26 D ∧ OwnC c' w' 8 5 1 st.2 (manHead m ++ (D.take st.1).flatten).length (bytesV (manHead m ++ (D.take st.1).flatten)) ∧ st.1 ≤ D.length) (fun st => D.length - st.1) (0, v20) (by repeat (first | exact Sub.nil _ | refine Sub.cons rfl ?_ | refine Sub.consM rfl ?_)) ⟨_, hO, hD, by simp only [List.take_zero, List.flatten_nil, List.append_nil]; exact ho7, by simp⟩ ?_
  clear hO hb hs hb1 ho7 hb25 ho26 hD
  rintro ⟨k, vv⟩ wl ⟨cl, hO, hD, ho, hk⟩
  dsimp only at hO hD hk ho ⊢
  refine cseq ?_
  skip
  refine cregion <| qq (Val.lss rfl rfl) rfl <| cnil <| cseq ?_
  refine WC.cond rfl (fun hc3 => ?_) (fun hc3 => ?_)
  ·try simp only [tstS] at hc3
   have ka : k < D.length := by omega
   obtain ⟨hc30, ok1⟩ := RdC.elFlat hD ka (by decide)
   have g2 := hok _ (List.getElem_mem ka)
   have g1 : (manHead m ++ (D.take k).flatten).length = 7 + 32 * k := by
     rw [List.length_append, flat32 (fun x hx => hok x (List.mem_of_mem_take hx)), List.length_take]; simp [manHead]; omega
   refine cskip <| cseq <| cblock <| cseq <| cregion <| qq (Val.indexAddr sl23 hD.now rfl rfl rfl (by omega) (by omega)) rfl <| qq (Val.loadE1 scl9 rfl hc30.cel) rfl <| qq (Val.assign rfl) rfl <| cnil ?_
   refine cregion <| qq (Val.move rfl) rfl <| qq (Val.move rfl) rfl ?_
   refine WR.eff (Eff.appendC sl68 rfl rfl ho (Src.str Try.underlying9) (by rw [maxLen_eq]; first | omega | (simp; omega)) (by first | omega | (simp; omega))) rfl ?_
   rintro v34 w8 ⟨c8, hM8, hOq⟩
   replace hO := hO.mv hM8 rfl; replace hD := hD.mv hM8 rfl; replace hc30 := hc30.mv hM8 rfl
   replace ho := hOq
   refine qq (Val.assign rfl) rfl <| cnil <| cregion <| qq (Val.addI rfl rfl (by first | omega | assumption | (simp; omega) | (simp; done)) (by first | omega | assumption | (simp; omega) | (simp; done))) rfl <| qq (Val.move rfl) rfl <| cnil ?_
   rw [show (D[k].map fun b => Value.int .u8 b.toNat) = bytesV D[k] from rfl, ← bytesV_append, ← List.length_append, List.append_assoc, ← flatten_take ka] at ho
   exact ⟨(k + 1, _), (by repeat (first | exact Sub.nil _ | refine Sub.cons rfl ?_ | refine Sub.consM rfl ?_)), ⟨_, hO, hD, ho, ka⟩, by dsimp only; omega⟩
  ·try simp only [tstS] at hc3
   have : k = D.length := by omega
   subst this
   rw [List.take_length, hfl, ← List.append_assoc, ← manBytes_eq] at ho
   refine WC.exit rfl ?_
   refine cseq <| cregion <| qq (Val.move rfl) rfl <| qq (Val.ofBytes Try.underlying68 Try.underlying9 Try.underlying5 rfl ho.own) rfl <| qq (Val.assign rfl) rfl <| cnil ?_
   refine WC.ret1 rfl rfl ?_
   exact ⟨hO.below, rfl⟩

theorem mbytes_ok {w : World} {cs : List Value} {m : Man} (h : RdMan w cs m) : Calls Try.prog 18 #[.agg cs.toArray] w (Ret fun v w' => Below w.heap.size w w' ∧ v = .tuple #[St (if manMay m then manBytes m else []), I (if manMay m then 0 else 1)]) := by
  obtain ⟨vb, vs, rfl, hb, hs, hq⟩ := h
  have hK : Old w w := Old.refl w
  have o1 := hb.oneC; have o2 := hs.oneC
  replace hb : Rd strS w vb m.blobs := hb; replace hs : Rd strS w vs m.subs := hs
  refine enter (n := 9) (res := #[.tmp 2, .tmp 3]) Try.func18 rfl rfl rfl rfl ?_
  refine cseq <| cregion ?_
  refine WR.eff (Eff.box rfl) rfl ?_
  rintro _ w1 ⟨b1, rfl, hn1⟩
  have hk1 := hn1.below
  replace hb := hb.up hk1; replace hs := hs.up hk1; replace hK := hK.up hk1
  have hb1 := hn1.blk
  refine qq (Val.assign rfl) rfl <| qq (Val.assign rfl) rfl <| cnil <| cseq <| cseq <| cregion <| qq (Val.loadBN agg29 rfl hb1 rfl) rfl ?_
  refine WR.eff (Eff.call pf72 rfl (mmay_ok (m := m) ⟨vb, vs, rfl, hb, hs, hq⟩)) rfl ?_
  rintro v5 w2 ⟨hk2, rfl⟩
  replace hb := hb.up hk2; replace hs := hs.up hk2; replace hK := hK.up hk2; replace hb1 := hb1.up hk2
  refine qq (Val.not rfl) rfl <| cnil ?_
  refine WC.cond rfl (fun hc1 => ?_) (fun hc1 => ?_)
  ·try simp only [tstS] at hc1
   refine cseq <| cregion <| qq (Val.assign rfl) rfl <| qq (Val.assign rfl) rfl <| cnil ?_
   refine WC.ret2 rfl rfl rfl ?_
   exact ⟨hK, by rw [hc1]; rfl⟩
  ·try simp only [tstS] at hc1
   refine cskip <| cseq <| cregion <| qq (Val.loadBN agg29 rfl hb1 rfl) rfl ?_
   refine WR.eff (Eff.call pf73 rfl (mspelt_ok (m := m) ⟨vb, vs, rfl, hb, hs, hq⟩ hc1)) rfl ?_
   rintro v8 w3 ⟨hk3, rfl⟩
   replace hb := hb.up hk3; replace hs := hs.up hk3; replace hK := hK.up hk3; replace hb1 := hb1.up hk3
   refine qq (Val.assign rfl) rfl <| qq (Val.assign rfl) rfl <| cnil ?_
   refine WC.ret2 rfl rfl rfl ?_
   exact ⟨hK, by rw [hc1]; rfl⟩

theorem mname_ok {w : World} {cs : List Value} {m : Man} (h : RdMan w cs m) : Calls Try.prog 19 #[.agg cs.toArray] w (Ret fun v w' => Below w.heap.size w w' ∧ v = .tuple #[St (if manMay m then digestS (manBytes m) else []), I (if manMay m then 0 else 1)]) := by
  obtain ⟨vb, vs, rfl, hb, hs, hq⟩ := h
  have hK : Old w w := Old.refl w
  have o1 := hb.oneC; have o2 := hs.oneC
  replace hb : Rd strS w vb m.blobs := hb; replace hs : Rd strS w vs m.subs := hs
  refine enter (n := 16) (res := #[.tmp 2, .tmp 3]) Try.func19 rfl rfl rfl rfl ?_
  refine cseq <| cregion ?_
  refine WR.eff (Eff.box rfl) rfl ?_
  rintro _ w1 ⟨b1, rfl, hn1⟩
  have hk1 := hn1.below
  replace hb := hb.up hk1; replace hs := hs.up hk1; replace hK := hK.up hk1
  have hb1 := hn1.blk
  refine qq (Val.assign rfl) rfl <| qq (Val.assign rfl) rfl <| cnil <| cseq <| cregion <| qq (Val.loadBN agg29 rfl hb1 rfl) rfl ?_
  refine WR.eff (Eff.call pf18 rfl (mbytes_ok (m := m) ⟨vb, vs, rfl, hb, hs, hq⟩)) rfl ?_
  rintro v8 w2 ⟨hk2, rfl⟩
  replace hb := hb.up hk2; replace hs := hs.up hk2; replace hK := hK.up hk2; replace hb1 := hb1.up hk2
  refine qq (Val.move rfl) rfl <| qq (Val.extract rfl rfl) rfl <| qq (Val.extract rfl rfl) rfl <| qq (Val.assign rfl) rfl <| qq (Val.assign rfl) rfl <| cnil <| cseq <| cseq <| cregion ?_
  refine qq (Val.move rfl) rfl <| qq (Val.neq rfl rfl) rfl <| cnil ?_
  refine WC.cond rfl (fun hc2 => ?_) (fun hc2 => ?_)
  ·try simp only [tstS] at hc2
   have hm : manMay m = false := by cases hm : manMay m <;> simp [hm] at hc2 ⊢
   rw [hm]
   refine cseq <| cregion <| qq (Val.move rfl) rfl <| qq (Val.assign rfl) rfl <| qq (Val.assign rfl) rfl <| cnil ?_
   refine WC.ret2 rfl rfl rfl ?_
   exact ⟨hK, by first | rfl | (simp; rfl) | simp⟩
  ·try simp only [tstS] at hc2
   have hm : manMay m = true := by cases hm : manMay m <;> simp [hm] at hc2 ⊢
   rw [hm]
   refine cskip <| cseq <| cregion <| qq (Val.move rfl) rfl ?_
   refine WR.eff (Eff.call pf74 rfl (of_ok (manBytes m) (by rw [manBytes_len hm]; have := ((manMay_iff m).1 hm).2.1; omega))) rfl ?_
   rintro v15 w3 ⟨hk3, rfl⟩
   replace hb := hb.up hk3; replace hs := hs.up hk3; replace hK := hK.up hk3; replace hb1 := hb1.up hk3
   refine qq (Val.assign rfl) rfl <| qq (Val.assign rfl) rfl <| cnil ?_
   refine WC.ret2 rfl rfl rfl ?_
   exact ⟨hK, by first | rfl | (simp; rfl) | simp⟩
end Go.Proofs.Ytnddlhjafkhdoaa
