/- Manifests: which one bytes are, the page's word. No condition. -/
import Derived.Test.YtnddlhjafkhdoaaMan4
set_option linter.unusedSimpArgs false
set_option linter.unusedVariables false
set_option maxRecDepth 100000
namespace Silo
theorem getD_some {s : List UInt8} {i : Nat} (h : i < s.length) : s[i]? = some (s[i]?.getD 0) := by rw [List.getElem?_eq_getElem h]; rfl
end Silo
namespace Go.Proofs.Ytnddlhjafkhdoaa
open Go Go.Eng Go.RowKit Silo TryT

set_option maxHeartbeats 1000000 in
theorem pmtake_own {w : World} (s : List UInt8) (hs : s.length ≤ 1048576) :
    Calls Try.prog 26 #[St s] w (Ret fun v w' => Below w.heap.size w w' ∧ ∃ u1 u2, v = .tuple #[.agg #[I ((manTake s).getD man0).kind, u1, u2], .bool (manTake s).isSome] ∧ Own w' w.heap.size 9 1 u1 ((manTake s).getD man0).blobs.length (((manTake s).getD man0).blobs.flatMap fun x => [St x]) ∧ Own w' w.heap.size 9 1 u2 ((manTake s).getD man0).subs.length (((manTake s).getD man0).subs.flatMap fun x => [St x])) := by
  obtain ⟨c, hO, hc⟩ := OldC.start w
  clear hc
  refine enter (n := 75) (res := #[.cell 2 29, .tmp 3]) Try.func26 rfl rfl rfl rfl ?_
  refine cseq <| cregion ?_
  refine WR.eff (Eff.allocC c 102 zero29) rfl ?_
  rintro _ w1 ⟨b2, c1, rfl, hM1, hb2⟩
  replace hO := hO.mv hM1 rfl
  refine qq (Val.assign rfl) rfl <| cnil <| cseq <| cseq ?_
  refine WC.regionD (Kp c1 w1 []) [0, 0, 0, 0, 0, 0, 0, 0, 0, 0, 0, 0, 0, 0, 0, 0, 0, 0, 0, 0, 0, 0] [0, 1, 2, 3, 4, 5, 6, 7, 8, 9, 10, 11, 12, 13, 14, 15, 16, 17, 18, 19, 20, 21] mixed (by kernel_rfl) ?_
  have hM2 := Mv.drew c1 w1 []
  have hCw := Mv.drew c1 w1 []
  generalize w1.drew = w2 at hM2 hCw ⊢
  have hb20 := hb2
  replace hO := hO.mv hM2 rfl; replace hb2 := hb2.mv hM2 rfl
  refine qd rfl rfl rfl (fun _ => Val.move rfl) rfl <| qd rfl rfl rfl (fun _ => Val.slen Try.underlying9 rfl) rfl <| qd rfl rfl rfl (fun _ => Val.lss rfl rfl) rfl <| qd rfl rfl rfl (fun _ => Val.move rfl) rfl ?_
  apply WD.sc false 3 _ (fun w' => w2 = w')
  case hl => rfl
  case hi => rfl
  case hk => rfl
  case hg => rfl
  case hu => rfl
  case hv => rfl
  case hs => rfl
  case hoff => rfl
  case hd => rfl
  case hC => exact hCw.kp
  case hF => exact fun _ => rfl
  case hT =>
   intro hq7
   try simp only [tstS] at hq7
   simp only [List.take_succ_cons, List.take_zero]
   refine qd rfl rfl rfl (fun _ => Val.move rfl) rfl <| qd rfl rfl rfl (fun _ => Val.ssliceTo Try.underlying9 rfl rfl (by omega) (by omega)) rfl <| qd rfl rfl rfl (fun _ => Val.sne rfl rfl) rfl ?_
   exact WD.nil ⟨rfl, Sub.drop _ 3 _ rfl rfl, rfl⟩
  rintro _ rfl
  refine qd rfl rfl rfl (fun _ => Val.move rfl) rfl ?_
  apply WD.sc false 12 _ (fun w' => w2 = w')
  case hl => rfl
  case hi => rfl
  case hk => rfl
  case hg => rfl
  case hu => rfl
  case hv => rfl
  case hs => rfl
  case hoff => rfl
  case hd => rfl
  case hC => exact hCw.kp
  case hF => exact fun _ => rfl
  case hT =>
   intro hq21
   try simp only [tstS] at hq21
   simp only [List.take_succ_cons, List.take_zero]
   have hl5 : 5 < s.length := by omega
   have hl6 : 6 < s.length := by omega
   have hu5 : (s[5]?.getD 0).toNat < 256 := UInt8.toNat_lt _
   have hu6 : (s[6]?.getD 0).toNat < 256 := UInt8.toNat_lt _
   refine qd rfl rfl rfl (fun _ => Val.move rfl) rfl <| qd rfl rfl rfl (fun _ => Val.slen Try.underlying9 rfl) rfl <| qd rfl rfl rfl (fun _ => Val.move rfl) rfl <| qd rfl rfl rfl (fun _ => Val.sindex Try.underlying9 rfl rfl (by omega) (getD_some hl5)) rfl <| qd rfl rfl rfl (fun _ => Val.convU8 Try.underlying5 Try.underlying3 rfl) rfl <| qd rfl rfl rfl (fun _ => Val.move rfl) rfl <| qd rfl rfl rfl (fun _ => Val.sindex Try.underlying9 rfl rfl (by omega) (getD_some hl6)) rfl <| qd rfl rfl rfl (fun _ => Val.convU8 Try.underlying5 Try.underlying3 rfl) rfl <| qd rfl rfl rfl (fun _ => Val.addI rfl rfl (by first | omega | assumption | (simp; omega) | (simp; done)) (by first | omega | assumption | (simp; omega) | (simp; done))) rfl ?_
   refine qd rfl rfl rfl (fun _ => Val.mulI rfl rfl (by first | omega | assumption | (simp; omega) | (simp; done)) (by first | omega | assumption | (simp; omega) | (simp; done))) rfl <| qd rfl rfl rfl (fun _ => Val.addI rfl rfl (by first | omega | assumption | (simp; omega) | (simp; done)) (by first | omega | assumption | (simp; omega) | (simp; done))) rfl <| qd rfl rfl rfl (fun _ => Val.neq rfl rfl) rfl ?_
   exact WD.nil ⟨rfl, Sub.drop _ 12 _ rfl rfl, rfl⟩
  rintro _ rfl
  refine WD.nil ?_
  clear hb20
  clear hCw
  refine WC.cond rfl (fun hc1 => ?_) (fun hc1 => ?_)
  ·try simp only [tstS] at hc1
   replace hc1 : ((s.length : Int) < 7 ∨ (s.take 4 == [77, 65, 78, 70]) = false) ∨ ¬ (s.length : Int) = 7 + 32 * ((at_ s 5 : Nat) + (at_ s 6 : Nat)) := hc1
   have hno : manTake s = none := manTake_no (by
     rintro ⟨h1, h2, h3⟩
     rcases hc1 with (h | h) | h
     · omega
     · rw [h2] at h; simp at h
     · omega)
   refine cseq <| cregion <| qq (Val.build (cells := #[I 0, .slice none 0 0, .slice none 0 0]) rfl (by kernel_rfl)) rfl ?_
   refine WR.eff_ (Eff.storeNC agg29 rfl rfl hb2 rfl rfl (by repeat (first | exact List.forall_mem_nil _ | refine List.forall_mem_cons.2 ⟨by first | rfl | assumption, ?_⟩))) ?_
   rintro _ w3 ⟨hS, hM3⟩
   replace hO := hO.mv hM3 rfl
   replace hb2 := hS
   refine qq (Val.assign rfl) rfl <| cnil ?_
   refine WC.retR2 rfl (RVal.cellN agg29 rfl hb2.blk rfl) (RVal.tmp rfl) ?_
   exact ⟨hO.below, _, _, by rw [hno]; rfl, by rw [hno]; exact Own.nil _ _ _ _, by rw [hno]; exact Own.nil _ _ _ _⟩
  ·try simp only [tstS] at hc1
   replace hc1 : (¬ (s.length : Int) < 7 ∧ (s.take 4 == [77, 65, 78, 70]) = true) ∧ (s.length : Int) = 7 + 32 * ((at_ s 5 : Nat) + (at_ s 6 : Nat)) := hc1
   have hcond : 7 ≤ s.length ∧ s.take 4 = [77, 65, 78, 70] ∧ s.length = 7 + 32 * (at_ s 5 + at_ s 6) := ⟨by omega, by simpa using hc1.1.2, by omega⟩
   have hmk := manTake_may hcond
   have h7 := hcond.2.2
   have hl4 : 4 < s.length := by omega
   have hl5 : 5 < s.length := by omega
   have hl6 : 6 < s.length := by omega
   have hu4 := at_lt s 4; have hu5 := at_lt s 5; have hu6 := at_lt s 6
   have hat : ∀ i : Nat, ((s[i]?.getD 0).toNat : Int) = (at_ s i : Nat) := fun _ => rfl
   clear hc1
   refine cskip <| cseq <| cregion <| qq (Val.move rfl) rfl <| qq (Val.sindex Try.underlying9 rfl rfl (by omega) (getD_some hl4)) rfl <| qq (Val.convU8 Try.underlying5 Try.underlying3 rfl) rfl <| qq (Val.build (cells := #[I (at_ s 4 : Nat), .slice none 0 0, .slice none 0 0]) rfl (by kernel_rfl)) rfl ?_
   refine WR.eff (Eff.allocC c1 104 zero29) rfl ?_
   rintro _ w4 ⟨b4, c4, rfl, hM4, hb4⟩
   replace hO := hO.mv hM4 rfl; replace hb2 := hb2.mv hM4 rfl
   refine WR.eff_ (Eff.storeNC agg29 rfl rfl hb4 rfl rfl (by repeat (first | exact List.forall_mem_nil _ | refine List.forall_mem_cons.2 ⟨by first | rfl | assumption, ?_⟩))) ?_
   rintro _ w5 ⟨hS, hM5⟩
   replace hO := hO.mv hM5 rfl; replace hb2 := hb2.mv hM5 rfl
   replace hb4 := hS
   refine cnil <| cseq <| cseq <| cregion <| qq (Val.assign rfl) rfl <| cnil <| cblock ?_
   refine WC.loop (σ := Nat × Value × Value) (fun st => [(0, St s), (2, .pointer (some ⟨b2, 0, none⟩)), (4, .pointer (some ⟨b4, 0, none⟩)), (5, I st.1)]) (fun st w' => ∃ c', OldC w c' w' ∧ BlkC c' w' 102 b2 [I 0, .slice none 0 0, .slice none 0 0] 29 ∧ BlkC c' w' 104 b4 [I (at_ s 4 : Nat), st.2.1, st.2.2] 29 ∧ OwnC c' w' 5 9 1 st.2.1 (chunks (min st.1 (at_ s 5)) (s.drop 7)).length ((chunks (min st.1 (at_ s 5)) (s.drop 7)).flatMap fun x => [St x]) ∧ OwnC c' w' 6 9 1 st.2.2 (chunks (st.1 - at_ s 5) ((s.drop 7).drop (32 * at_ s 5))).length ((chunks (st.1 - at_ s 5) ((s.drop 7).drop (32 * at_ s 5))).flatMap fun x => [St x]) ∧ st.1 ≤ at_ s 5 + at_ s 6) (fun st => at_ s 5 + at_ s 6 - st.1) (0, .slice none 0 0, .slice none 0 0) (by repeat (first | exact Sub.nil _ | refine Sub.cons rfl ?_ | refine Sub.consM rfl ?_)) ⟨_, hO, hb2, hb4, by dsimp only; rw [Nat.zero_min]; exact OwnC.nil _ _ _ _ _, by dsimp only; rw [Nat.zero_sub]; exact OwnC.nil _ _ _ _ _, by dsimp only; omega⟩ ?_
   clear hO hb2 hb4
   rintro ⟨i, v1, v2⟩ wl ⟨cl, hO, hb2, hb4, ho1, ho2, hi⟩
   dsimp only at hO hb2 hb4 ho1 ho2 hi ⊢
   have hl1 := chunks_length (min i (at_ s 5)) (s.drop 7)
   have hl2 := chunks_length (i - at_ s 5) ((s.drop 7).drop (32 * at_ s 5))
   have c1' := ho1.cellsV; have o1' := ho1.oneC; have c2' := ho2.cellsV; have o2' := ho2.oneC
   refine cseq <| cseq ?_
   refine WC.regionD (Kp cl wl []) [0, 0, 0, 0, 0, 0, 0, 0, 0] [0, 1, 2, 3, 4, 5, 6, 7, 8] mixed (by kernel_rfl) ?_
   have hM6 := Mv.drew cl wl []
   have hCw := Mv.drew cl wl []
   generalize wl.drew = w6 at hM6 hCw ⊢
   have hb20 := hb2
   have hb40 := hb4
   replace hO := hO.mv hM6 rfl; replace hb2 := hb2.mv hM6 rfl; replace hb4 := hb4.mv hM6 rfl; replace ho1 := ho1.mv hM6 rfl; replace ho2 := ho2.mv hM6 rfl
   refine qd rfl rfl rfl (fun _ => Val.move rfl) rfl <| qd rfl rfl rfl (fun _ => Val.move rfl) rfl <| qd rfl rfl rfl (fun _ => Val.sindex Try.underlying9 rfl rfl (by omega) (getD_some hl5)) rfl <| qd rfl rfl rfl (fun _ => Val.convU8 Try.underlying5 Try.underlying3 rfl) rfl <| qd rfl rfl rfl (fun _ => Val.move rfl) rfl <| qd rfl rfl rfl (fun _ => Val.sindex Try.underlying9 rfl rfl (by omega) (getD_some hl6)) rfl <| qd rfl rfl rfl (fun _ => Val.convU8 Try.underlying5 Try.underlying3 rfl) rfl <| qd rfl rfl rfl (fun _ => Val.addI rfl rfl (by show _ ≤ ((at_ s 5 : Nat) : Int) + ((at_ s 6 : Nat) : Int); omega) (by show ((at_ s 5 : Nat) : Int) + ((at_ s 6 : Nat) : Int) ≤ _; omega)) rfl <| qd rfl rfl rfl (fun _ => Val.lss rfl rfl) rfl ?_
   refine WD.nil ?_
   clear hb20 hb40
   clear hCw
   refine WC.cond rfl (fun hc5 => ?_) (fun hc5 => ?_)
   ·try simp only [tstS] at hc5
    replace hc5 : (i : Int) < (at_ s 5 : Nat) + (at_ s 6 : Nat) := hc5
    have hi8 : i < at_ s 5 + at_ s 6 := by omega
    refine cskip <| cseq <| cblock <| cseq <| cregion <| qq (Val.move rfl) rfl <| qq (Val.move rfl) rfl <| qq (Val.mulI rfl rfl (by first | omega | assumption | (simp; omega) | (simp; done)) (by first | omega | assumption | (simp; omega) | (simp; done))) rfl <| qq (Val.addI rfl rfl (by first | omega | assumption | (simp; omega) | (simp; done)) (by first | omega | assumption | (simp; omega) | (simp; done))) rfl ?_
    refine qq (Val.move rfl) rfl <| qq (Val.mulI rfl rfl (by first | omega | assumption | (simp; omega) | (simp; done)) (by first | omega | assumption | (simp; omega) | (simp; done))) rfl <| qq (Val.addI rfl rfl (by first | omega | assumption | (simp; omega) | (simp; done)) (by first | omega | assumption | (simp; omega) | (simp; done))) rfl <| qq (Val.sslice Try.underlying9 rfl rfl rfl (by omega) (by omega) (by omega)) rfl <| qq (Val.assign rfl) rfl <| cnil ?_
    have et : (s.drop (7 + 32 * (i : Int)).toNat).take ((39 + 32 * (i : Int)).toNat - (7 + 32 * (i : Int)).toNat) = (s.drop (7 + 32 * i)).take 32 := by
      rw [show (39 + 32 * (i : Int)).toNat - (7 + 32 * (i : Int)).toNat = 32 by omega, show (7 + 32 * (i : Int)).toNat = 7 + 32 * i by omega]
    rw [et]
    refine cseq <| cregion <| qq (Val.move rfl) rfl <| qq (Val.move rfl) rfl <| qq (Val.sindex Try.underlying9 rfl rfl (by omega) (getD_some hl5)) rfl <| qq (Val.convU8 Try.underlying5 Try.underlying3 rfl) rfl <| qq (Val.lss rfl rfl) rfl <| cnil ?_
    refine WC.mono (N := fun e w' => ∃ c' v1 v2, Sub [(4000000, .tuple #[]), (0, St s), (2, .pointer (some ⟨b2, 0, none⟩)), (4, .pointer (some ⟨b4, 0, none⟩)), (5, I i)] e ∧ OldC w c' w' ∧ BlkC c' w' 102 b2 [I 0, .slice none 0 0, .slice none 0 0] 29 ∧ BlkC c' w' 104 b4 [I (at_ s 4 : Nat), v1, v2] 29 ∧ OwnC c' w' 5 9 1 v1 (chunks (min (i + 1) (at_ s 5)) (s.drop 7)).length ((chunks (min (i + 1) (at_ s 5)) (s.drop 7)).flatMap fun x => [St x]) ∧ OwnC c' w' 6 9 1 v2 (chunks (i + 1 - at_ s 5) ((s.drop 7).drop (32 * at_ s 5))).length ((chunks (i + 1 - at_ s 5) ((s.drop 7).drop (32 * at_ s 5))).flatMap fun x => [St x])) ?_ ?_
    ·refine WC.cond rfl (fun hc8 => ?_) (fun hc8 => ?_)
     ·try simp only [tstS] at hc8
      replace hc8 : (i : Int) < (at_ s 5 : Nat) := hc8
      refine cregion ?_
      first | refine WR.val (Val.fieldAddr fld29_1 rfl) rfl ?_ | refine WR.val (Val.fieldAddrP fld29_1 rfl) rfl ?_
      refine qq (Val.loadB scl23 rfl hb4.blk rfl) rfl <| qq (Val.move rfl) rfl ?_
      refine WR.eff (Eff.build1C cl 161 sl23 rfl rfl rfl rfl rfl) rfl ?_
      rintro _ w7 ⟨b61, c7, rfl, hM7, hb61⟩
      replace hO := hO.mv hM7 rfl; replace hb2 := hb2.mv hM7 rfl; replace hb4 := hb4.mv hM7 rfl; replace ho1 := ho1.mv hM7 rfl; replace ho2 := ho2.mv hM7 rfl
      refine WR.eff (Eff.appendC sl23 rfl rfl ho1 (Src.cellsAt Try.underlying23 hb61.blk.cellsAt rfl (by repeat (first | exact List.forall_mem_nil _ | refine List.forall_mem_cons.2 ⟨by first | rfl | assumption, ?_⟩))) (by rw [maxLen_eq]; first | omega | (simp; omega)) (by first | omega | (simp; omega))) rfl ?_
      rintro v62 w8 ⟨c8, hM8, hOq⟩
      clear hb61
      replace hO := hO.mv hM8 rfl; replace hb2 := hb2.mv hM8 rfl; replace hb4 := hb4.mv hM8 rfl; replace ho2 := ho2.mv hM8 rfl
      replace ho1 := hOq
      have cA := ho1.cellsV; have oA := ho1.oneC
      first | refine WR.val (Val.fieldAddr fld29_1 rfl) rfl ?_ | refine WR.val (Val.fieldAddrP fld29_1 rfl) rfl ?_
      refine WR.eff_ (Eff.storeC scl23 rfl rfl (by first | rfl | assumption) (by first | rfl | assumption) hb4 rfl) ?_
      rintro _ w9 ⟨hS, hM9⟩
      replace hO := hO.mv hM9 rfl; replace hb2 := hb2.mv hM9 rfl; replace ho1 := ho1.mv hM9 rfl; replace ho2 := ho2.mv hM9 rfl
      replace hb4 := hS
      refine cnil ?_
      have e1 : min (i + 1) (at_ s 5) = min i (at_ s 5) + 1 := by omega
      have e2 : i + 1 - at_ s 5 = i - at_ s 5 := by omega
      have e3 : (chunks (min i (at_ s 5)) (s.drop 7)).flatMap (fun x => [St x]) ++ [St ((s.drop (7 + 32 * i)).take 32)] = (chunks (min i (at_ s 5) + 1) (s.drop 7)).flatMap (fun x => [St x]) := by
        rw [chunks_snoc, List.flatMap_append, List.drop_drop, show min i (at_ s 5) = i by omega]; rfl
      have e4 : (chunks (min i (at_ s 5)) (s.drop 7)).length + 1 = (chunks (min i (at_ s 5) + 1) (s.drop 7)).length := by rw [chunks_length, chunks_length]
      refine ⟨_, _, _, (by repeat (first | exact Sub.nil _ | refine Sub.cons rfl ?_ | refine Sub.consM rfl ?_)), hO, hb2, hb4, ?_, ?_⟩
      · rw [e1, ← e3, ← e4]; exact ho1
      · rw [e2]; exact ho2
     ·try simp only [tstS] at hc8
      replace hc8 : ¬ (i : Int) < (at_ s 5 : Nat) := hc8
      refine cregion ?_
      first | refine WR.val (Val.fieldAddr fld29_2 rfl) rfl ?_ | refine WR.val (Val.fieldAddrP fld29_2 rfl) rfl ?_
      refine qq (Val.loadB scl23 rfl hb4.blk rfl) rfl <| qq (Val.move rfl) rfl ?_
      refine WR.eff (Eff.build1C cl 167 sl23 rfl rfl rfl rfl rfl) rfl ?_
      rintro _ w10 ⟨b67, c10, rfl, hM10, hb67⟩
      replace hO := hO.mv hM10 rfl; replace hb2 := hb2.mv hM10 rfl; replace hb4 := hb4.mv hM10 rfl; replace ho1 := ho1.mv hM10 rfl; replace ho2 := ho2.mv hM10 rfl
      refine WR.eff (Eff.appendC sl23 rfl rfl ho2 (Src.cellsAt Try.underlying23 hb67.blk.cellsAt rfl (by repeat (first | exact List.forall_mem_nil _ | refine List.forall_mem_cons.2 ⟨by first | rfl | assumption, ?_⟩))) (by rw [maxLen_eq]; first | omega | (simp; omega)) (by first | omega | (simp; omega))) rfl ?_
      rintro v68 w11 ⟨c11, hM11, hOq⟩
      clear hb67
      replace hO := hO.mv hM11 rfl; replace hb2 := hb2.mv hM11 rfl; replace hb4 := hb4.mv hM11 rfl; replace ho1 := ho1.mv hM11 rfl
      replace ho2 := hOq
      have cA := ho2.cellsV; have oA := ho2.oneC
      first | refine WR.val (Val.fieldAddr fld29_2 rfl) rfl ?_ | refine WR.val (Val.fieldAddrP fld29_2 rfl) rfl ?_
      refine WR.eff_ (Eff.storeC scl23 rfl rfl (by first | rfl | assumption) (by first | rfl | assumption) hb4 rfl) ?_
      rintro _ w12 ⟨hS, hM12⟩
      replace hO := hO.mv hM12 rfl; replace hb2 := hb2.mv hM12 rfl; replace ho1 := ho1.mv hM12 rfl; replace ho2 := ho2.mv hM12 rfl
      replace hb4 := hS
      refine cnil ?_
      have e1 : min (i + 1) (at_ s 5) = min i (at_ s 5) := by omega
      have e2 : i + 1 - at_ s 5 = i - at_ s 5 + 1 := by omega
      have e3 : (chunks (i - at_ s 5) ((s.drop 7).drop (32 * at_ s 5))).flatMap (fun x => [St x]) ++ [St ((s.drop (7 + 32 * i)).take 32)] = (chunks (i - at_ s 5 + 1) ((s.drop 7).drop (32 * at_ s 5))).flatMap (fun x => [St x]) := by
        rw [chunks_snoc, List.flatMap_append, List.drop_drop, List.drop_drop, show 7 + 32 * at_ s 5 + 32 * (i - at_ s 5) = 7 + 32 * i by omega]; rfl
      have e4 : (chunks (i - at_ s 5) ((s.drop 7).drop (32 * at_ s 5))).length + 1 = (chunks (i - at_ s 5 + 1) ((s.drop 7).drop (32 * at_ s 5))).length := by rw [chunks_length, chunks_length]
      refine ⟨_, _, _, (by repeat (first | exact Sub.nil _ | refine Sub.cons rfl ?_ | refine Sub.consM rfl ?_)), hO, hb2, hb4, ?_, ?_⟩
      · rw [e1]; exact ho1
      · rw [e2, ← e3, ← e4]; exact ho2
    ·skip
     rintro e9 w9 ⟨c9, u1, u2, hsub, hO, hb2, hb4, ho1, ho2⟩
     refine WC.sub hsub ?_
     clear hsub e9
     refine cregion <| qq (Val.move rfl) rfl <| qq (Val.addI rfl rfl (by first | omega | assumption | (simp; omega) | (simp; done)) (by first | omega | assumption | (simp; omega) | (simp; done))) rfl <| qq (Val.assign rfl) rfl <| cnil ?_
     exact ⟨(i + 1, _, _), (by repeat (first | exact Sub.nil _ | refine Sub.cons rfl ?_ | refine Sub.consM rfl ?_)), ⟨_, hO, hb2, hb4, ho1, ho2, hi8⟩, by dsimp only; omega⟩
   ·try simp only [tstS] at hc5
    replace hc5 : ¬ (i : Int) < (at_ s 5 : Nat) + (at_ s 6 : Nat) := hc5
    have : i = at_ s 5 + at_ s 6 := by omega
    subst this
    rw [show min (at_ s 5 + at_ s 6) (at_ s 5) = at_ s 5 by omega] at ho1
    rw [show at_ s 5 + at_ s 6 - at_ s 5 = at_ s 6 by omega] at ho2
    have hrm : ∀ (cc : Nat → Nat) (W : World), OwnC cc W 5 9 1 v1 (chunks (at_ s 5) (s.drop 7)).length ((chunks (at_ s 5) (s.drop 7)).flatMap fun x => [St x]) → OwnC cc W 6 9 1 v2 (chunks (at_ s 6) ((s.drop 7).drop (32 * at_ s 5))).length ((chunks (at_ s 6) ((s.drop 7).drop (32 * at_ s 5))).flatMap fun x => [St x]) → RdMan W [I (at_ s 4 : Nat), v1, v2] (manOf s) := fun _ _ ho56 ho60 =>
      ⟨v1, v2, rfl, ho56.own.rdStrs (fun x hx => by have := chunks_mem _ _ x hx; omega) (by rw [chunks_length]; omega), ho60.own.rdStrs (fun x hx => by have := chunks_mem _ _ x hx; omega) (by rw [chunks_length]; omega), by dsimp only [manOf]; omega, by dsimp only [manOf]; omega⟩
    refine WC.exit rfl ?_
    refine cseq <| cseq <| cregion <| qq (Val.loadBN agg29 rfl hb4.blk rfl) rfl ?_
    refine WR.eff (Eff.pureC cl 1 (Eff.call pf17 rfl (pman_ok (hrm _ _ ho1 ho2)))) rfl ?_
    rintro v71 w13 ⟨c13, hM13, hx13, rfl⟩
    replace hO := hO.mv hM13 rfl; replace hb2 := hb2.mv hM13 rfl; replace hb4 := hb4.mv hM13 rfl; replace ho1 := ho1.mv hM13 rfl; replace ho2 := ho2.mv hM13 rfl
    refine qq (Val.not rfl) rfl <| cnil ?_
    refine WC.cond rfl (fun hc11 => ?_) (fun hc11 => ?_)
    ·try simp only [tstS] at hc11
     have hno : manTake s = none := by rw [hmk, hc11]; rfl
     refine cseq <| cregion <| qq (Val.build (cells := #[I 0, .slice none 0 0, .slice none 0 0]) rfl (by kernel_rfl)) rfl ?_
     refine WR.eff_ (Eff.storeNC agg29 rfl rfl hb2 rfl rfl (by repeat (first | exact List.forall_mem_nil _ | refine List.forall_mem_cons.2 ⟨by first | rfl | assumption, ?_⟩))) ?_
     rintro _ w14 ⟨hS, hM14⟩
     replace hO := hO.mv hM14 rfl; replace hb4 := hb4.mv hM14 rfl; replace ho1 := ho1.mv hM14 rfl; replace ho2 := ho2.mv hM14 rfl
     replace hb2 := hS
     refine qq (Val.assign rfl) rfl <| cnil ?_
     refine WC.retR2 rfl (RVal.cellN agg29 rfl hb2.blk rfl) (RVal.tmp rfl) ?_
     exact ⟨hO.below, _, _, by rw [hno]; rfl, by rw [hno]; exact Own.nil _ _ _ _, by rw [hno]; exact Own.nil _ _ _ _⟩
    ·try simp only [tstS] at hc11
     have hye : manTake s = some (manOf s) := by rw [hmk, hc11]; rfl
     refine cskip <| cseq <| cregion <| qq (Val.loadBN agg29 rfl hb4.blk rfl) rfl ?_
     refine WR.eff_ (Eff.storeNC agg29 rfl rfl hb2 rfl rfl (by repeat (first | exact List.forall_mem_nil _ | refine List.forall_mem_cons.2 ⟨by first | rfl | assumption, ?_⟩))) ?_
     rintro _ w15 ⟨hS, hM15⟩
     replace hO := hO.mv hM15 rfl; replace hb4 := hb4.mv hM15 rfl; replace ho1 := ho1.mv hM15 rfl; replace ho2 := ho2.mv hM15 rfl
     replace hb2 := hS
     refine qq (Val.assign rfl) rfl <| cnil ?_
     refine WC.retR2 rfl (RVal.cellN agg29 rfl hb2.blk rfl) (RVal.tmp rfl) ?_
     exact ⟨hO.below, v1, v2, by rw [hye]; rfl, by rw [hye]; exact ho1.fromOld hO (by decide), by rw [hye]; exact ho2.fromOld hO (by decide)⟩
theorem pmtake_ok {w : World} (s : List UInt8) (hs : s.length ≤ 1048576) :
    Calls Try.prog 26 #[St s] w (Ret fun v w' => Below w.heap.size w w' ∧ ∃ cs, v = .tuple #[.agg cs.toArray, .bool (manTake s).isSome] ∧ RdMan w' cs ((manTake s).getD man0)) :=
  (pmtake_own s hs).mono fun e w' he => by
    obtain ⟨v, rfl, hb, u1, u2, rfl, h1, h2⟩ := he
    obtain ⟨a1, a2, a3, a4, a5⟩ := manTake_texts (s := s)
    exact ⟨_, rfl, hb, _, rfl, u1, u2, rfl, h1.rdStrs a1 a3, h2.rdStrs a2 a4, a5⟩
end Go.Proofs.Ytnddlhjafkhdoaa
