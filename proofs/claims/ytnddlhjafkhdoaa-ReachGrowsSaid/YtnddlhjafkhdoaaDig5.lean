/- Digests, of any text: the program's and the page's are one. No condition. -/
import Derived.Test.YtnddlhjafkhdoaaDig4
import Derived.Test.YtnddlhjafkhdoaaShelf
set_option linter.unusedSimpArgs false
set_option linter.unusedVariables false
set_option maxRecDepth 100000
namespace Silo
open Go Go.Eng
theorem blockS_length (h : List Int) (s : List UInt8) (n : Int) (last : Bool) : (blockS h s n last).length = 8 := by simp [blockS]
def firstH : List Int := beginsL.set 0 (x32 (gW beginsL 0) 16842784)
theorem absorb_step {h : List Int} {s : List UInt8} {n : Nat} (hl : 64 < s.length) : absorb h s n = absorb (blockS h (s.take 64) ((n + 64 : Nat) : Int) false) (s.drop 64) (n + 64) := by
  rw [absorb, dif_pos hl]
theorem absorb_last {h : List Int} {s : List UInt8} {n : Nat} (hl : ¬ 64 < s.length) : absorb h s n = blockS h s ((n + s.length : Nat) : Int) true := by
  rw [absorb, dif_neg hl]
theorem absorb_length : ∀ (k : Nat) (h : List Int) (s : List UInt8) (n : Nat), s.length ≤ k → (absorb h s n).length = 8 := by
  intro k
  induction k with
  | zero => intro h s n hs; rw [absorb_last (by omega)]; exact blockS_length _ _ _ _
  | succ k ih =>
    intro h s n hs
    by_cases hl : 64 < s.length
    · rw [absorb_step hl]; exact ih _ _ _ (by simp; omega)
    · rw [absorb_last hl]; exact blockS_length _ _ _ _
def outK (h : List Int) (k : Nat) : List UInt8 := (List.range k).map fun i => u8I (gW h (i / 4) / 2 ^ (8 * (i % 4)))
theorem outK_succ (h : List Int) (k : Nat) : outK h (k + 1) = outK h k ++ [u8I (gW h (k / 4) / 2 ^ (8 * (k % 4)))] := by simp [outK, List.range_succ]
theorem outK_length (h : List Int) (k : Nat) : (outK h k).length = k := by simp [outK]
end Silo
namespace Go.Proofs.Ytnddlhjafkhdoaa
open Go Go.Eng Go.RowKit Silo TryT
abbrev tHash : TypeId := 154

theorem sclone_ok {w : World} (s : List UInt8) (hs : s.length ≤ 140737488355328) : Calls Try.prog 153 #[St s] w (Ret fun v w' => Below w.heap.size w w' ∧ v = St s) :=
  (Try.stringslite_Clone ⟨s.toArray⟩ w (by rw [size_mk]; omega)).mono fun _ _ h => ⟨_, h.1, h.2, rfl⟩
theorem clone_ok {w : World} (s : List UInt8) (hs : s.length ≤ 140737488355328) : Calls Try.prog 133 #[St s] w (Ret fun v w' => Below w.heap.size w w' ∧ v = St s) := by
  have hK : Old w w := Old.refl w
  refine enter (n := 5) (res := #[.tmp 2]) Try.func133 rfl rfl rfl rfl ?_
  refine cseq <| cregion <| qq (Val.assign rfl) rfl <| cnil <| cseq <| cregion <| qq (Val.move rfl) rfl ?_
  refine WR.eff (Eff.call pf153 rfl (sclone_ok s hs)) rfl ?_
  rintro v4 w1 ⟨hk1, rfl⟩
  replace hK := hK.up hk1
  refine qq (Val.assign rfl) rfl <| cnil ?_
  refine WC.ret1 rfl rfl ?_
  exact ⟨hK, rfl⟩

theorem new_ok {w : World} : Calls Try.prog 112 #[] w (Ret fun v w' => Below w.heap.size w w' ∧ ∃ b, v = .pointer (some ⟨b, 0, none⟩) ∧ w.heap.size ≤ b ∧ Blk w' b (firstH.map W32 ++ [St [], I 0]) tHash) := by
  obtain ⟨c, hO, hc⟩ := OldC.start w
  refine enter (n := 15) (res := #[.tmp 0]) Try.func112 rfl rfl rfl rfl ?_
  refine cseq <| cregion <| qq (Val.assign rfl) rfl <| cnil <| cseq <| cregion ?_
  refine WR.eff (Eff.pureC c 1 (Eff.call pf131 rfl (begins_ok))) rfl ?_
  rintro v2 w1 ⟨c1, hM1, hx1, rfl⟩
  replace hO := hO.mv hM1 rfl
  refine qq (Val.build (cells := #[W32 1779033703, W32 3144134277, W32 1013904242, W32 2773480762, W32 1359893119, W32 2600822924, W32 528734635, W32 1541459225, St [], I 0]) rfl (by kernel_rfl)) rfl ?_
  refine WR.eff (Eff.boxC c1 104 rfl) rfl ?_
  rintro _ w2 ⟨b4, c2, rfl, hM2, hb4⟩
  replace hO := hO.mv hM2 rfl
  refine qq (Val.assign rfl) rfl <| cnil ?_
  have hge : w.heap.size ≤ b4 := by
    rcases Nat.lt_or_ge b4 w.heap.size with h | h
    · have h1 := hO.col b4 h; rw [hb4.col] at h1; cases h1
    · exact h
  refine cseq ?_
  refine WC.regionD (Kp c2 w2 []) [0, 0, 0, 0, 1, 0, 0, 0, 0, 3] [0, 1, 2, 3, 4, 5, 6, 7, 8, 9] mixed (by kernel_rfl) ?_
  have hM3 := Mv.drew c2 w2 []
  have hCw := Mv.drew c2 w2 []
  generalize w2.drew = w3 at hM3 hCw ⊢
  have hb40 := hb4
  replace hO := hO.mv hM3 rfl; replace hb4 := hb4.mv hM3 rfl
  refine qd rfl rfl rfl (fun _ => Val.move rfl) rfl <| qd rfl rfl rfl (fun _ => Val.nilCheck rfl) rfl ?_
  first | refine WD.val rfl rfl rfl (fun _ => Val.fieldAddr fld154_0 rfl) rfl ?_ | refine WD.val rfl rfl rfl (fun _ => Val.fieldAddrP fld154_0 rfl) rfl ?_
  refine qd rfl rfl rfl (fun _ => Val.indexArr arr137 rfl rfl (by first | omega | assumption | (simp; omega) | (simp; done)) (by first | omega | assumption | (simp; omega) | (simp; done))) rfl <| qc rfl rfl rfl hCw.kp (fun W hW => Val.loadB scl136 rfl (hb40.kp hW rfl).blk rfl) rfl <| qd rfl rfl rfl (fun _ => Val.xor_u32 rfl rfl) rfl <| qd rfl rfl rfl (fun _ => Val.nilCheck rfl) rfl ?_
  first | refine WD.val rfl rfl rfl (fun _ => Val.fieldAddr fld154_0 rfl) rfl ?_ | refine WD.val rfl rfl rfl (fun _ => Val.fieldAddrP fld154_0 rfl) rfl ?_
  refine qd rfl rfl rfl (fun _ => Val.indexArr arr137 rfl rfl (by first | omega | assumption | (simp; omega) | (simp; done)) (by first | omega | assumption | (simp; omega) | (simp; done))) rfl ?_
  refine WD.wild rfl rfl rfl (Eff.storeC scl136 rfl rfl (by first | rfl | assumption) (by first | rfl | assumption) hb4 rfl) ?_
  rintro _ w4 ⟨hS, hM4⟩
  replace hO := hO.mv hM4 rfl
  replace hb4 := hS
  refine WD.nil ?_
  clear hb40
  clear hCw
  refine cseq <| cregion <| qq (Val.move rfl) rfl <| qq (Val.assign rfl) rfl <| cnil ?_
  refine WC.ret1 rfl rfl ?_
  exact ⟨hO.below, b4, rfl, hge, hb4.blk⟩

/-- A hash's cells. -/
abbrev hashC (h : List Int) (rest : List UInt8) (n : Int) : List Value := h.map W32 ++ [St rest, I n]
set_option maxHeartbeats 1000000 in
theorem write_ok {w : World} {b : Nat} {h : List Int} (hb : Blk w b (hashC h [] 0) tHash) (hl : h.length = 8) (s : List UInt8) (hs : s.length ≤ 140737488355328) :
    Calls Try.prog 113 #[.pointer (some ⟨b, 0, none⟩), St s] w (Ret fun v w' => w.grownBy w' (some b) ∧ ∃ h' rest, h'.length = 8 ∧ rest.length ≤ 64 ∧ rest.length ≤ s.length ∧ Blk w' b (hashC h' rest s.length) tHash ∧ absorb h s 0 = blockS h' rest s.length true) := by
  obtain ⟨c, hc⟩ : ∃ c : Nat → Nat, c = oneC b := ⟨_, rfl⟩
  have hb0 : BlkC c w 2 b (hashC h [] 0) tHash := ⟨hb, by rw [hc, oneC_at]⟩
  have hA : Acc c w [2] c w := Acc.refl _ _ _
  clear hb
  obtain ⟨H, hH⟩ : ∃ H, H = h := ⟨h, rfl⟩
  rw [← hH]
  have hL := hl
  obtain ⟨a0, a1, a2, a3, a4, a5, a6, a7, rfl⟩ := eight hl
  refine enter (n := 62) (res := #[]) Try.func113 rfl rfl rfl rfl ?_
  refine cseq <| cregion <| qq (Val.move rfl) rfl <| qq (Val.nilCheck rfl) rfl ?_
  first | refine WR.val (Val.fieldAddr fld154_1 rfl) rfl ?_ | refine WR.val (Val.fieldAddrP fld154_1 rfl) rfl ?_
  refine qq (Val.loadB scl9 rfl hb0.blk rfl) rfl <| qq (Val.move rfl) rfl <| qq (Val.sadd rfl rfl (by first | omega | assumption | (simp; omega) | (simp; done))) rfl <| qq (Val.assign rfl) rfl <| cnil <| cseq ?_
  refine WC.regionD (Kp c w []) [0, 0, 0, 1, 0, 0, 0, 1, 0, 0, 0, 0, 3] [0, 1, 2, 3, 4, 5, 6, 7, 8, 9, 10, 11, 12] mixed (by kernel_rfl) ?_
  have hM1 := Mv.drew c w []
  have hCw := Mv.drew c w []
  generalize w.drew = w1 at hM1 hCw ⊢
  have hb00 := hb0
  replace hb0 := hb0.mv hM1 rfl; replace hA := hA.mv hM1 rfl
  refine qd rfl rfl rfl (fun _ => Val.move rfl) rfl <| qd rfl rfl rfl (fun _ => Val.nilCheck rfl) rfl ?_
  first | refine WD.val rfl rfl rfl (fun _ => Val.fieldAddr fld154_2 rfl) rfl ?_ | refine WD.val rfl rfl rfl (fun _ => Val.fieldAddrP fld154_2 rfl) rfl ?_
  refine qc rfl rfl rfl hCw.kp (fun W hW => Val.loadB scl3 rfl (hb00.kp hW rfl).blk rfl) rfl <| qd rfl rfl rfl (fun _ => Val.move rfl) rfl <| qd rfl rfl rfl (fun _ => Val.nilCheck rfl) rfl ?_
  first | refine WD.val rfl rfl rfl (fun _ => Val.fieldAddr fld154_1 rfl) rfl ?_ | refine WD.val rfl rfl rfl (fun _ => Val.fieldAddrP fld154_1 rfl) rfl ?_
  refine qc rfl rfl rfl hCw.kp (fun W hW => Val.loadB scl9 rfl (hb00.kp hW rfl).blk rfl) rfl <| qd rfl rfl rfl (fun _ => Val.slen Try.underlying9 rfl) rfl <| qd rfl rfl rfl (fun _ => Val.subI rfl rfl (by first | omega | assumption | (simp; omega) | (simp; done)) (by first | omega | assumption | (simp; omega) | (simp; done))) rfl <| qd rfl rfl rfl (fun _ => Val.nilCheck rfl) rfl ?_
  first | refine WD.val rfl rfl rfl (fun _ => Val.fieldAddr fld154_2 rfl) rfl ?_ | refine WD.val rfl rfl rfl (fun _ => Val.fieldAddrP fld154_2 rfl) rfl ?_
  refine WD.wild rfl rfl rfl (Eff.storeC scl3 rfl rfl (by first | rfl | assumption) (by first | rfl | assumption) hb0 rfl) ?_
  rintro _ w2 ⟨hS, hM2⟩
  replace hA := hA.mv hM2 rfl
  replace hb0 := hS
  refine WD.nil ?_
  clear hb00
  clear hCw
  refine cseq <| cblock ?_
  rw [← hH] at hL
  refine WC.loop (σ := List Int × List UInt8 × Nat) (fun st => [(0, .pointer (some ⟨b, 0, none⟩)), (1, St st.2.1)]) (fun st w' => ∃ c', BlkC c' w' 2 b (hashC st.1 [] st.2.2) tHash ∧ Acc c w [2] c' w' ∧ st.1.length = 8 ∧ st.2.2 + st.2.1.length = s.length ∧ absorb H s 0 = absorb st.1 st.2.1 st.2.2) (fun st => st.2.1.length) (H, s, 0) (by repeat (first | exact Sub.nil _ | refine Sub.cons rfl ?_ | refine Sub.consM rfl ?_)) ⟨_, by rw [hH]; exact hb0, hA, hL, by simp, rfl⟩ ?_
  clear hb0 hA hH
  clear hL hl
  rintro ⟨h, t, n⟩ wl ⟨cl, hb0, hA, hl, hn, hab⟩
  dsimp only at hb0 hA hl hn hab ⊢
  obtain ⟨a0, a1, a2, a3, a4, a5, a6, a7, rfl⟩ := eight hl
  refine cseq <| cseq <| cregion <| qq (Val.move rfl) rfl <| qq (Val.slen Try.underlying9 rfl) rfl <| qq (Val.gtr rfl rfl) rfl <| cnil ?_
  refine WC.cond rfl (fun hc2 => ?_) (fun hc2 => ?_)
  ·try simp only [tstS] at hc2
   have ht : 64 < t.length := by omega
   refine cskip <| cblock <| cseq <| cregion <| qq (Val.move rfl) rfl <| qq (Val.nilCheck rfl) rfl ?_
   first | refine WR.val (Val.fieldAddr fld154_2 rfl) rfl ?_ | refine WR.val (Val.fieldAddrP fld154_2 rfl) rfl ?_
   refine qq (Val.loadB scl3 rfl hb0.blk rfl) rfl <| qq (Val.addI rfl rfl (by first | omega | assumption | (simp; omega) | (simp; done)) (by first | omega | assumption | (simp; omega) | (simp; done))) rfl <| qq (Val.nilCheck rfl) rfl ?_
   first | refine WR.val (Val.fieldAddr fld154_2 rfl) rfl ?_ | refine WR.val (Val.fieldAddrP fld154_2 rfl) rfl ?_
   refine WR.eff_ (Eff.storeC scl3 rfl rfl (by first | rfl | assumption) (by first | rfl | assumption) hb0 rfl) ?_
   rintro _ w3 ⟨hS, hM3⟩
   replace hA := hA.mv hM3 rfl
   replace hb0 := hS
   refine cnil <| cseq ?_
   refine WC.regionD (Kp cl w3 []) [0, 0, 0, 0, 1, 0, 0, 0, 0, 0, 1, 2, 0, 0, 3] [0, 1, 2, 3, 4, 5, 6, 7, 8, 9, 10, 11, 12, 13, 14] mixed (by kernel_rfl) ?_
   have hM4 := Mv.drew cl w3 []
   have hCw := Mv.drew cl w3 []
   generalize w3.drew = w4 at hM4 hCw ⊢
   have hb00 := hb0
   replace hb0 := hb0.mv hM4 rfl; replace hA := hA.mv hM4 rfl
   refine qd rfl rfl rfl (fun _ => Val.move rfl) rfl <| qd rfl rfl rfl (fun _ => Val.move rfl) rfl <| qd rfl rfl rfl (fun _ => Val.nilCheck rfl) rfl ?_
   first | refine WD.val rfl rfl rfl (fun _ => Val.fieldAddr fld154_0 rfl) rfl ?_ | refine WD.val rfl rfl rfl (fun _ => Val.fieldAddrP fld154_0 rfl) rfl ?_
   refine qc rfl rfl rfl hCw.kp (fun W hW => Val.loadSub agg137 rfl (hb00.kp hW rfl).blk (by simp [hashC])) rfl <| qd rfl rfl rfl (fun _ => Val.move rfl) rfl <| qd rfl rfl rfl (fun _ => Val.ssliceTo Try.underlying9 rfl rfl (by omega) (by omega)) rfl <| qd rfl rfl rfl (fun _ => Val.move rfl) rfl <| qd rfl rfl rfl (fun _ => Val.nilCheck rfl) rfl ?_
   first | refine WD.val rfl rfl rfl (fun _ => Val.fieldAddr fld154_2 rfl) rfl ?_ | refine WD.val rfl rfl rfl (fun _ => Val.fieldAddrP fld154_2 rfl) rfl ?_
   refine qc rfl rfl rfl hCw.kp (fun W hW => Val.loadB scl3 rfl (hb00.kp hW rfl).blk rfl) rfl ?_
   refine WD.eff rfl rfl rfl (Eff.pureC cl 1 (Eff.call pf132 rfl (turned_ok (h := [a0, a1, a2, a3, a4, a5, a6, a7]) rfl (t.take 64) (by simp; omega) _ (by omega) (by omega) false))) rfl ?_
   rintro v43 w5 ⟨c5, hM5, hx5, rfl⟩
   refine ⟨fun hC => hC.step hCw hM5 rfl, ?_⟩
   replace hCw := hCw.tr hM5 rfl
   replace hb0 := hb0.mv hM5 rfl; replace hA := hA.mv hM5 rfl
   refine qd rfl rfl rfl (fun _ => Val.nilCheck rfl) rfl ?_
   first | refine WD.val rfl rfl rfl (fun _ => Val.fieldAddr fld154_0 rfl) rfl ?_ | refine WD.val rfl rfl rfl (fun _ => Val.fieldAddrP fld154_0 rfl) rfl ?_
   refine WD.wild rfl rfl rfl (Eff.storeSubC agg137 rfl rfl hb0 (by simp [blockS]) (by simp [hashC]) (fun v hv => by obtain ⟨n, _, rfl⟩ := List.mem_map.1 hv; rfl)) ?_
   rintro _ wA ⟨hS, hMA⟩
   replace hA := hA.mv hMA rfl
   replace hb0 : BlkC _ wA 2 b (hashC (blockS [a0, a1, a2, a3, a4, a5, a6, a7] (t.take 64) ((n : Int) + 64) false) [] ((n : Int) + 64)) tHash := hS
   refine WD.nil ?_
   clear hb00
   clear hCw
   refine cregion <| qq (Val.move rfl) rfl <| qq (Val.ssliceFrom Try.underlying9 rfl rfl (by first | omega | assumption | (simp; omega) | (simp; done)) (by first | omega | assumption | (simp; omega) | (simp; done))) rfl <| qq (Val.assign rfl) rfl <| cnil ?_
   have e64 : ((n : Int) + 64) = ((n + 64 : Nat) : Int) := by omega
   rw [e64] at hb0
   refine ⟨(blockS [a0, a1, a2, a3, a4, a5, a6, a7] (t.take 64) ((n + 64 : Nat) : Int) false, t.drop 64, n + 64), (by repeat (first | exact Sub.nil _ | refine Sub.cons rfl ?_ | refine Sub.consM rfl ?_)), ⟨_, hb0, hA, blockS_length _ _ _ _, by simp; omega, by rw [hab, absorb_step ht]⟩, by simp; omega⟩
  ·try simp only [tstS] at hc2
   have ht : ¬ 64 < t.length := by omega
   refine WC.exit rfl ?_
   refine cseq <| cregion <| qq (Val.move rfl) rfl <| qq (Val.move rfl) rfl ?_
   refine WR.eff (Eff.pureC cl 1 (Eff.call pf133 rfl (clone_ok t (by omega)))) rfl ?_
   rintro v50 w6 ⟨c6, hM6, hx6, rfl⟩
   replace hb0 := hb0.mv hM6 rfl; replace hA := hA.mv hM6 rfl
   refine qq (Val.nilCheck rfl) rfl ?_
   first | refine WR.val (Val.fieldAddr fld154_1 rfl) rfl ?_ | refine WR.val (Val.fieldAddrP fld154_1 rfl) rfl ?_
   refine WR.eff_ (Eff.storeC scl9 rfl rfl (by first | rfl | assumption) (by first | rfl | assumption) hb0 rfl) ?_
   rintro _ w7 ⟨hS, hM7⟩
   replace hA := hA.mv hM7 rfl
   replace hb0 := hS
   refine cnil <| cregion <| qq (Val.move rfl) rfl <| qq (Val.nilCheck rfl) rfl ?_
   first | refine WR.val (Val.fieldAddr fld154_2 rfl) rfl ?_ | refine WR.val (Val.fieldAddrP fld154_2 rfl) rfl ?_
   refine qq (Val.loadB scl3 rfl hb0.blk rfl) rfl <| qq (Val.move rfl) rfl <| qq (Val.slen Try.underlying9 rfl) rfl <| qq (Val.addI rfl rfl (by first | omega | assumption | (simp; omega) | (simp; done)) (by first | omega | assumption | (simp; omega) | (simp; done))) rfl <| qq (Val.nilCheck rfl) rfl ?_
   first | refine WR.val (Val.fieldAddr fld154_2 rfl) rfl ?_ | refine WR.val (Val.fieldAddrP fld154_2 rfl) rfl ?_
   refine WR.eff_ (Eff.storeC scl3 rfl rfl (by first | rfl | assumption) (by first | rfl | assumption) hb0 rfl) ?_
   rintro _ w8 ⟨hS, hM8⟩
   replace hA := hA.mv hM8 rfl
   replace hb0 := hS
   refine cnil ?_
   refine ⟨_, _, rfl, rfl, ?_⟩
   subst hc
   have e1 : ((n : Int) + (t.length : Int)) = ((s.length : Nat) : Int) := by omega
   have hb1 : BlkC _ _ 2 b (hashC [a0, a1, a2, a3, a4, a5, a6, a7] t ((n : Int) + (t.length : Int))) tHash := hb0
   rw [e1] at hb1
   refine ⟨rfl, hA.grownOne, _, t, rfl, by omega, by omega, hb1.blk, ?_⟩
   rw [hab, absorb_last ht, hn]
end Go.Proofs.Ytnddlhjafkhdoaa
