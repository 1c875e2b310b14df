/- Chains of manifests, made by the law's own code. | What leads where: the law that tells all, walked. | Chains of manifests: the two laws, walked. | The law ReachUsers, as its row says it. No condition. -/
import Derived.Test.YtnddlhjafkhdoaaU4
set_option linter.unusedSimpArgs false
set_option linter.unusedVariables false
set_option maxRecDepth 100000
namespace Silo
open Go Go.Eng
theorem u8_letter {i : Nat} (hi : i < 9) : u8I (97 + (i : Int)) = UInt8.ofNat (97 + i) := by
  unfold u8I
  congr 1
  omega
/-- The last manifest's digest, if there is one. -/
def nextC (s : UInt8) (i : Nat) : List UInt8 := if i = 0 then [] else dM s (i - 1)
theorem nextC_succ (s : UInt8) (i : Nat) : nextC s (i + 1) = dM s i := by simp [nextC]
theorem chainT_texts {s : UInt8} {n : Nat} (hn : n ≤ 9) : ∀ x ∈ chainT s n, x.digest.length ≤ 140737488355328 ∧ x.text.length ≤ 140737488355328 := fun x hx => by
  obtain ⟨i, hi, h | h⟩ := mem_chainT.1 hx
  · subst h; exact ⟨by rw [show (thgB s i).digest.length = 32 from digestS_length _]; decide, by simp [thgB, blobC]⟩
  · subst h
    have := manC_len s (i := i) (by omega)
    exact ⟨by rw [show (thgM s i).digest.length = 32 from digestS_length _]; decide, by simp only [thgM]; omega⟩
theorem putT_texts {T : List Thg} {t : Thg} {n m : Nat} (h : ∀ x ∈ T, x.digest.length ≤ n ∧ x.text.length ≤ m) (ht : t.digest.length ≤ n ∧ t.text.length ≤ m) : ∀ x ∈ putT T t, x.digest.length ≤ n ∧ x.text.length ≤ m := fun x hx => by
  rcases mem_putT.1 hx with h1 | h1
  · subst h1; exact ht
  · exact h x h1
theorem manC_kind (s : UInt8) (i : Nat) : (manC s i).kind = i := by cases i <;> simp [manC]
theorem manC_blobs (s : UInt8) (i : Nat) : (manC s i).blobs = [dB s i] := by cases i <;> rfl
theorem manC_subs (s : UInt8) (i : Nat) : (manC s i).subs = if i = 0 then [] else [dM s (i - 1)] := by cases i <;> simp [manC, dM]
end Silo
namespace Go.Proofs.Ytnddlhjafkhdoaa
open Go Go.Eng Go.RowKit Silo TryT

set_option maxHeartbeats 1000000 in
theorem put_ok {w : World} {v : Value} {T : List Thg} (h0 : Rd thgS w v T) (t : Thg) (hl : T.length ≤ 1048576) :
    Calls Try.prog 82 #[v, .agg (encThg t).toArray] w (Ret fun u w' => Below w.heap.size w w' ∧ Own w' w.heap.size 62 3 u (putT T t).length ((putT T t).flatMap encThg)) := by
  obtain ⟨c, hO, hc⟩ := OldC.start w
  have h1 : RdC thgS c w [0] v T := Rd.toC h0 (fun k hk => by simp [hc, hasC])
  obtain ⟨A0, q0, rfl, hq0, _⟩ := h0.form
  clear hc h0
  refine enter (n := 33) (res := #[.tmp 4]) Try.func82 rfl rfl rfl rfl ?_
  refine cseq <| cregion ?_
  refine WR.eff (Eff.boxC c 103 rfl) rfl ?_
  rintro _ w1 ⟨b3, c1, rfl, hM1, hb3⟩
  replace hO := hO.mv hM1 rfl; replace h1 := h1.mv hM1 rfl
  refine qq (Val.assign rfl) rfl <| cnil <| cseq <| cregion <| qq (Val.assign rfl) rfl <| cnil <| cseq <| cblock ?_
  refine WC.loop (σ := Nat) (fun k => [(0, .slice A0 T.length q0), (3, .pointer (some ⟨b3, 0, none⟩)), (5, I k)]) (fun k w' => ∃ c', OldC w c' w' ∧ RdC thgS c' w' [0] (.slice A0 T.length q0) T ∧ BlkC c' w' 103 b3 (encThg t) 62 ∧ k ≤ T.length ∧ ∀ j (hj : j < T.length), j < k → Op.bytesLess T[j].digest t.digest = true) (fun k => T.length - k) 0 (by repeat (first | exact Sub.nil _ | refine Sub.cons rfl ?_ | refine Sub.consM rfl ?_)) ⟨_, hO, h1, hb3, by omega, fun j _ h => absurd h (Nat.not_lt_zero _)⟩ ?_
  clear hO h1 hb3
  rintro k wk ⟨ck, hO, h1, hb3, hk, hlo⟩
  have hXw := h1
  refine cseq <| cseq ?_
  refine WC.regionD (Kp ck wk []) [0, 0, 0, 0, 0, 0, 0, 0, 0, 1, 0, 1, 0, 0] [0, 1, 2, 3, 4, 5, 6, 7, 8, 9, 10, 11, 12, 13] mixed (by kernel_rfl) ?_
  have hM2 := Mv.drew ck wk []
  have hCw := Mv.drew ck wk []
  generalize wk.drew = w2 at hM2 hCw ⊢
  have hb30 := hb3
  replace hO := hO.mv hM2 rfl; replace h1 := h1.mv hM2 rfl; replace hb3 := hb3.mv hM2 rfl
  refine qd rfl rfl rfl (fun _ => Val.move rfl) rfl <| qd rfl rfl rfl (fun _ => Val.move rfl) rfl ?_
  first | refine WD.val rfl rfl rfl (fun _ => Val.rdlen sl52 (by assumption) rfl) rfl ?_ | refine WD.val rfl rfl rfl (fun _ => Val.sllen Try.underlying52 rfl) rfl ?_ | refine WD.val rfl rfl rfl (fun _ => Val.olen sl52 (by assumption) rfl) rfl ?_ | refine WD.val rfl rfl rfl (fun _ => Val.rdlenC sl52 (by assumption) rfl) rfl ?_
  refine qd rfl rfl rfl (fun _ => Val.lss rfl rfl) rfl <| qd rfl rfl rfl (fun _ => Val.move rfl) rfl ?_
  apply WD.sc true 8 _ (fun w' => w2 = w')
  case hl => rfl
  case hi => rfl
  case hk => rfl
  case hg => rfl
  case hu => rfl
  case hv => rfl
  case hs => rfl
  case hoff => rfl
  case hd => rfl
  case hC => exact hCw.kp
  case hF => exact fun _ => rfl
  case hT =>
   intro hq13
   try simp only [tstS] at hq13
   simp only [List.take_succ_cons, List.take_zero]
   have hkx : k < T.length := by omega
   obtain ⟨hc130, _⟩ := RdC.elFlat hXw hkx (by decide)
   have hv1 : encThg T[k] = [St ((T[k]?.map Thg.digest).getD []), St T[k].text, .bool T[k].manifest] := by rw [List.getElem?_eq_getElem hkx]; rfl
   rw [hv1] at hc130
   refine qd rfl rfl rfl (fun _ => Val.move rfl) rfl <| qd rfl rfl rfl (fun _ => Val.move rfl) rfl <| qd rfl rfl rfl (fun _ => Val.indexAddr sl52 h1.now rfl rfl rfl (by omega) (by omega)) rfl ?_
   first | refine WD.val rfl rfl rfl (fun _ => Val.fieldAddr fld62_0 rfl) rfl ?_ | refine WD.val rfl rfl rfl (fun _ => Val.fieldAddrP fld62_0 rfl) rfl ?_
   refine qc rfl rfl rfl hCw.kp (fun W hW => Val.loadEf scl9 rfl (hc130.kp hW rfl).cel rfl) rfl ?_
   first | refine WD.val rfl rfl rfl (fun _ => Val.fieldAddr fld62_0 rfl) rfl ?_ | refine WD.val rfl rfl rfl (fun _ => Val.fieldAddrP fld62_0 rfl) rfl ?_
   refine qc rfl rfl rfl hCw.kp (fun W hW => Val.loadB scl9 rfl (hb30.kp hW rfl).blk rfl) rfl <| qd rfl rfl rfl (fun _ => Val.slss rfl rfl) rfl ?_
   exact WD.nil ⟨rfl, Sub.drop _ 8 _ rfl rfl, rfl⟩
  rintro _ rfl
  refine WD.nil ?_
  clear hb30
  clear hCw
  refine WC.cond rfl (fun hc2 => ?_) (fun hc2 => ?_)
  ·try simp only [tstS] at hc2
   obtain ⟨hc2a, hc2b⟩ := hc2
   have kx : k < T.length := by omega
   rw [List.getElem?_eq_getElem kx] at hc2b
   refine cskip <| cblock <| cregion <| qq (Val.move rfl) rfl <| qq (Val.addI rfl rfl (by first | omega | assumption | (simp; omega) | (simp; done)) (by first | omega | assumption | (simp; omega) | (simp; done))) rfl <| qq (Val.assign rfl) rfl <| cnil ?_
   exact ⟨k + 1, (by repeat (first | exact Sub.nil _ | refine Sub.cons rfl ?_ | refine Sub.consM rfl ?_)), ⟨_, hO, h1, hb3, kx, fun j hj h => by
     rcases Nat.lt_or_ge j k with h2 | h2
     · exact hlo j hj h2
     · have : j = k := by omega
       subst this; exact hc2b⟩, by omega⟩
  ·try simp only [tstS] at hc2
   have hlw : lowT T t.digest = k := lowBy_eq hk hlo (fun hi => by
     rw [List.getElem?_eq_getElem hi, decide_eq_true (show (k : Int) < (T.length : Int) by omega)] at hc2
     simpa using hc2)
   refine WC.exit rfl ?_
   refine cseq ?_
   refine WC.mono (N := fun e w' => ∃ c' v', Sub [(4000000, .tuple #[]), (4, v')] e ∧ OldC w c' w' ∧ OwnC c' w' 5 62 3 v' (k + 1 + (T.length - k)) ((T.take k).flatMap encThg ++ encThg t ++ (T.drop k).flatMap encThg)) ?_ ?_
   ·refine WC.regionT (Kp ck w2 [5]) [0, 0, 0, 2, 1, 2, 2, 0, 0, 0, 2, 0] (.quiet 0 (.quiet 1 (.quiet 2 (.quiet 4 (.quiet 7 (.quiet 8 (.quiet 9 (.two 3 (.one 5 (.one 6 (.one 10 (.quiet 11 .nil)))) 5 (.one 3 (.one 6 (.one 10 (.quiet 11 .nil)))))))))))) mixed (by kernel_rfl) ?_
    have hM3 := Mv.drew ck w2 []
    have hCw := Mv.drew ck w2 [5]
    generalize w2.drew = w3 at hM3 hCw ⊢
    have hb30 := hb3
    replace hO := hO.mv hM3 rfl; replace h1 := h1.mv hM3 rfl; replace hb3 := hb3.mv hM3 rfl
    refine WT.val rfl rfl rfl (fun _ => Val.move rfl) rfl ?_
    refine WT.val rfl rfl rfl (fun _ => Val.move rfl) rfl ?_
    refine WT.val rfl rfl rfl (fun _ => Val.partTo sl52 rfl rfl (by omega) (by omega)) rfl ?_
    refine WT.valC rfl rfl rfl hCw.kp (fun W hW => Val.loadBN agg62 rfl (hb30.kp hW rfl).blk rfl) rfl ?_
    refine WT.val rfl rfl rfl (fun _ => Val.move rfl) rfl ?_
    refine WT.val rfl rfl rfl (fun _ => Val.move rfl) rfl ?_
    refine WT.val rfl rfl rfl (fun _ => Val.partFrom sl52 rfl rfl (by omega) (by omega)) rfl ?_
    refine WT.two ?_ ?_
    ·refine WS.eff rfl rfl rfl (Eff.pureC ck 5 (Eff.call pf46 rfl (copyThings_ok (h1.now.to_ (hi := (k : Int).toNat) (by omega)) (by simp; omega)))) rfl ?_
     rintro v25 w4 ⟨c4, hM4, hx4, ho25⟩
     refine ⟨fun hC => hC.step hCw hM4 rfl, ?_⟩
     replace hCw := hCw.tr hM4 rfl
     replace hO := hO.mv hM4 rfl; replace h1 := h1.mv hM4 rfl; replace hb3 := hb3.mv hM4 rfl
     replace ho25 := ho25.toC hx4
     refine WT.one ?_
     refine WS.eff rfl rfl rfl (Eff.build1C c4 127 sl52 rfl rfl rfl rfl rfl) rfl ?_
     rintro _ w5 ⟨b27, c5, rfl, hM5, hb27⟩
     refine ⟨fun hC => hC.step hCw hM5 rfl, ?_⟩
     replace hCw := hCw.tr hM5 rfl
     replace hO := hO.mv hM5 rfl; replace h1 := h1.mv hM5 rfl; replace hb3 := hb3.mv hM5 rfl; replace ho25 := ho25.mv hM5 rfl
     refine WT.one ?_
     refine WS.eff rfl rfl rfl (Eff.appendC sl52 rfl rfl ho25 (Src.cellsAt Try.underlying52 hb27.blk.cellsAt rfl (by repeat (first | exact List.forall_mem_nil _ | refine List.forall_mem_cons.2 ⟨by first | rfl | assumption, ?_⟩))) (by rw [maxLen_eq]; first | omega | (simp; omega)) (by first | omega | (simp; omega))) rfl ?_
     rintro v28 w6 ⟨c6, hM6, hOq⟩
     refine ⟨fun hC => hC.step hCw hM6 rfl, ?_⟩
     replace hCw := hCw.tr hM6 rfl
     clear hb27
     replace hO := hO.mv hM6 rfl; replace h1 := h1.mv hM6 rfl; replace hb3 := hb3.mv hM6 rfl
     replace ho25 := hOq
     refine WT.one ?_
     refine WS.eff rfl rfl rfl (Eff.appendC sl52 rfl rfl ho25 (Src.flat Try.underlying52 (h1.now.from_ (lo := (k : Int).toNat) (by omega))) (by rw [maxLen_eq]; first | omega | (simp; omega)) (by first | omega | (simp; omega))) rfl ?_
     rintro v32 w7 ⟨c7, hM7, hOq⟩
     refine ⟨fun hC => hC.step hCw hM7 rfl, ?_⟩
     replace hCw := hCw.tr hM7 rfl
     replace hO := hO.mv hM7 rfl; replace h1 := h1.mv hM7 rfl; replace hb3 := hb3.mv hM7 rfl
     replace ho25 := hOq
     refine WT.val rfl rfl rfl (fun _ => Val.assign rfl) rfl ?_
     refine WT.nil ?_
     simp only [Int.toNat_natCast] at ho25
     have e1 : (T.take k).length + 1 + (T.drop k).length = k + 1 + (T.length - k) := by simp; omega
     rw [e1] at ho25
     exact ⟨_, _, (by repeat (first | exact Sub.nil _ | refine Sub.cons rfl ?_ | refine Sub.consM rfl ?_)), hO, ho25⟩
    ·refine WS.eff rfl rfl rfl (Eff.build1C ck 127 sl52 rfl rfl rfl rfl rfl) rfl ?_
     rintro _ w8 ⟨b27, c8, rfl, hM8, hb27⟩
     refine ⟨fun hC => hC.step hCw hM8 rfl, ?_⟩
     replace hCw := hCw.tr hM8 rfl
     replace hO := hO.mv hM8 rfl; replace h1 := h1.mv hM8 rfl; replace hb3 := hb3.mv hM8 rfl
     refine WT.one ?_
     refine WS.eff rfl rfl rfl (Eff.pureC c8 5 (Eff.call pf46 rfl (copyThings_ok (h1.now.to_ (hi := (k : Int).toNat) (by omega)) (by simp; omega)))) rfl ?_
     rintro v25 w9 ⟨c9, hM9, hx9, ho25⟩
     refine ⟨fun hC => hC.step hCw hM9 rfl, ?_⟩
     replace hCw := hCw.tr hM9 rfl
     replace hO := hO.mv hM9 rfl; replace h1 := h1.mv hM9 rfl; replace hb3 := hb3.mv hM9 rfl; replace hb27 := hb27.mv hM9 rfl
     replace ho25 := ho25.toC hx9
     refine WT.one ?_
     refine WS.eff rfl rfl rfl (Eff.appendC sl52 rfl rfl ho25 (Src.cellsAt Try.underlying52 hb27.blk.cellsAt rfl (by repeat (first | exact List.forall_mem_nil _ | refine List.forall_mem_cons.2 ⟨by first | rfl | assumption, ?_⟩))) (by rw [maxLen_eq]; first | omega | (simp; omega)) (by first | omega | (simp; omega))) rfl ?_
     rintro v28 w10 ⟨c10, hM10, hOq⟩
     refine ⟨fun hC => hC.step hCw hM10 rfl, ?_⟩
     replace hCw := hCw.tr hM10 rfl
     clear hb27
     replace hO := hO.mv hM10 rfl; replace h1 := h1.mv hM10 rfl; replace hb3 := hb3.mv hM10 rfl
     replace ho25 := hOq
     refine WT.one ?_
     refine WS.eff rfl rfl rfl (Eff.appendC sl52 rfl rfl ho25 (Src.flat Try.underlying52 (h1.now.from_ (lo := (k : Int).toNat) (by omega))) (by rw [maxLen_eq]; first | omega | (simp; omega)) (by first | omega | (simp; omega))) rfl ?_
     rintro v32 w11 ⟨c11, hM11, hOq⟩
     refine ⟨fun hC => hC.step hCw hM11 rfl, ?_⟩
     replace hCw := hCw.tr hM11 rfl
     replace hO := hO.mv hM11 rfl; replace h1 := h1.mv hM11 rfl; replace hb3 := hb3.mv hM11 rfl
     replace ho25 := hOq
     refine WT.val rfl rfl rfl (fun _ => Val.assign rfl) rfl ?_
     refine WT.nil ?_
     simp only [Int.toNat_natCast] at ho25
     have e1 : (T.take k).length + 1 + (T.drop k).length = k + 1 + (T.length - k) := by simp; omega
     rw [e1] at ho25
     exact ⟨_, _, (by repeat (first | exact Sub.nil _ | refine Sub.cons rfl ?_ | refine Sub.consM rfl ?_)), hO, ho25⟩
   ·skip
    rintro e9 w9 ⟨c9, v', hsub, hO, ho⟩
    refine WC.sub hsub ?_
    clear hsub e9
    have e1 : (T.take k).flatMap encThg ++ encThg t ++ (T.drop k).flatMap encThg = (putT T t).flatMap encThg := by rw [putT, hlw, List.flatMap_append, List.flatMap_cons, List.append_assoc]
    have e2 : k + 1 + (T.length - k) = (putT T t).length := by rw [putT_len]; omega
    rw [e1, e2] at ho
    refine WC.ret1 rfl rfl ?_
    exact ⟨hO.below, ho.fromOld hO (by decide)⟩

set_option maxHeartbeats 2000000 in
theorem chain_ok {w : World} {s : UInt8} {n : Nat} (hn : n ≤ 9) :
    Calls Try.prog 43 #[I n, St [s]] w (Ret fun v w' => Below w.heap.size w w' ∧ ∃ u1 u2, v = .tuple #[u1, u2] ∧ Own w' w.heap.size 62 3 u1 (chainT s n).length ((chainT s n).flatMap encThg) ∧ Own w' w.heap.size 9 1 u2 ((List.range n).map (dM s)).length (((List.range n).map (dM s)).flatMap fun x => [St x])) := by
  obtain ⟨c, hO, hc⟩ := OldC.start w
  clear hc
  refine enter (n := 58) (res := #[.tmp 4, .tmp 5]) Try.func43 rfl rfl rfl rfl ?_
  refine cseq <| cregion <| qq (Val.assign rfl) rfl <| qq (Val.assign rfl) rfl <| cnil <| cseq <| cregion <| qq (Val.assign rfl) rfl <| cnil ?_
  refine cseq <| cregion <| qq (Val.assign rfl) rfl <| cnil <| cseq <| cregion <| qq (Val.assign rfl) rfl <| cnil <| cseq ?_
  refine cseq <| cregion <| qq (Val.assign rfl) rfl <| cnil <| cblock ?_
  refine WC.loop (σ := Nat × Value × Value) (fun st => [(0, I n), (1, St [s]), (6, st.2.1), (7, st.2.2), (8, St (nextC s st.1)), (9, I st.1)]) (fun st w' => ∃ c', OldC w c' w' ∧ OwnC c' w' 6 62 3 st.2.1 (chainT s st.1).length ((chainT s st.1).flatMap encThg) ∧ OwnC c' w' 7 9 1 st.2.2 ((List.range st.1).map (dM s)).length (((List.range st.1).map (dM s)).flatMap fun x => [St x]) ∧ st.1 ≤ n) (fun st => n - st.1) (0, .slice none 0 0, .slice none 0 0) (by repeat (first | exact Sub.nil _ | refine Sub.cons rfl ?_ | refine Sub.consM rfl ?_)) ⟨_, hO, OwnC.nil _ _ _ _ _, OwnC.nil _ _ _ _ _, by simp⟩ ?_
  clear hO
  rintro ⟨i, lv, ov⟩ wl ⟨cl, hO, hl, ho, hi⟩
  dsimp only at hO hl ho hi ⊢
  have hol : ((List.range i).map (dM s)).length = i := by simp
  have hll := chainT_len s i
  have hok := chainT_texts (s := s) (n := i) (by omega)
  refine cseq <| cseq <| cregion <| qq (Val.move rfl) rfl <| qq (Val.move rfl) rfl <| qq (Val.lss rfl rfl) rfl <| cnil ?_
  refine WC.cond rfl (fun hc5 => ?_) (fun hc5 => ?_)
  ·try simp only [tstS] at hc5
   have ki : i < 9 := by omega
   have kn : i < n := by omega
   refine cskip <| cseq <| cblock <| cseq <| cregion <| qq (Val.move rfl) rfl <| qq (Val.sadd rfl rfl (by first | omega | assumption | (simp; omega) | (simp; done))) rfl <| qq (Val.move rfl) rfl <| qq (Val.addI rfl rfl (by first | omega | assumption | (simp; omega) | (simp; done)) (by first | omega | assumption | (simp; omega) | (simp; done))) rfl ?_
   refine qq (Val.convToU8I Try.underlying3 Try.underlying5 rfl) rfl ?_
   refine WR.eff (Eff.build1C cl 124 sl68 rfl rfl rfl rfl rfl) rfl ?_
   rintro _ w1 ⟨b24, c1, rfl, hM1, hb24⟩
   replace hO := hO.mv hM1 rfl; replace hl := hl.mv hM1 rfl; replace ho := ho.mv hM1 rfl
   refine qq (Val.ofBytes Try.underlying68 Try.underlying9 Try.underlying5 rfl (l := [u8I (97 + (i : Int))]) (hb24.own (n := 1) (size := 1) rfl (by decide)).own) rfl <| qq (Val.sadd rfl rfl (by first | omega | assumption | (simp; omega) | (simp; done))) rfl <| qq (Val.assign rfl) rfl <| cnil ?_
   have eb : ([98, 108, 111, 98, 32] ++ [s] ++ [u8I (97 + (i : Int))] : List UInt8) = blobC s i := by rw [u8_letter ki]; rfl
   rw [eb]
   refine cseq <| cregion <| qq (Val.move rfl) rfl ?_
   refine WR.eff (Eff.pureC c1 1 (Eff.call pf21 rfl (pdigest_ok (blobC s i) (by simp [blobC])))) rfl ?_
   rintro v28 w2 ⟨c2, hM2, hx2, rfl⟩
   replace hO := hO.mv hM2 rfl; replace hl := hl.mv hM2 rfl; replace ho := ho.mv hM2 rfl
   rw [show digestS (blobC s i) = dB s i from rfl]
   refine qq (Val.assign rfl) rfl <| cnil <| cseq <| cregion <| qq (Val.move rfl) rfl <| qq (Val.move rfl) rfl ?_
   refine WR.eff (Eff.build1C c2 131 sl23 rfl rfl rfl rfl rfl) rfl ?_
   rintro _ w3 ⟨b31, c3, rfl, hM3, hb31⟩
   replace hO := hO.mv hM3 rfl; replace hl := hl.mv hM3 rfl; replace ho := ho.mv hM3 rfl
   refine qq (Val.build (cells := #[I i, .slice (some ⟨b31, 0, none⟩) 1 1, .slice none 0 0]) rfl (by kernel_rfl)) rfl ?_
   refine WR.eff (Eff.allocC c3 112 zero29) rfl ?_
   rintro _ w4 ⟨b12, c4, rfl, hM4, hb12⟩
   replace hO := hO.mv hM4 rfl; replace hl := hl.mv hM4 rfl; replace ho := ho.mv hM4 rfl; replace hb31 := hb31.mv hM4 rfl
   refine WR.eff_ (Eff.storeNC agg29 rfl rfl hb12 rfl rfl (by repeat (first | exact List.forall_mem_nil _ | refine List.forall_mem_cons.2 ⟨by first | rfl | assumption, ?_⟩))) ?_
   rintro _ w5 ⟨hS, hM5⟩
   replace hO := hO.mv hM5 rfl; replace hl := hl.mv hM5 rfl; replace ho := ho.mv hM5 rfl; replace hb31 := hb31.mv hM5 rfl
   replace hb12 := hS
   refine cnil <| cseq <| cseq <| cregion <| qq (Val.move rfl) rfl <| qq (Val.sne rfl rfl) rfl <| cnil ?_
   refine WC.mono (N := fun e w' => ∃ c' vS, Sub [(4000000, .tuple #[]), (0, I n), (1, St [s]), (6, lv), (7, ov), (9, I i), (10, St (blobC s i)), (11, St (dB s i)), (12, .pointer (some ⟨b12, 0, none⟩))] e ∧ OldC w c' w' ∧ OwnC c' w' 6 62 3 lv (chainT s i).length ((chainT s i).flatMap encThg) ∧ OwnC c' w' 7 9 1 ov ((List.range i).map (dM s)).length (((List.range i).map (dM s)).flatMap fun x => [St x]) ∧ BlkC c' w' 131 b31 [St (dB s i)] 9 ∧ BlkC c' w' 112 b12 [I i, .slice (some ⟨b31, 0, none⟩) 1 1, vS] 29 ∧ RdC strS c' w' [136] vS (manC s i).subs ∧ vS.oneCell' = true) ?_ ?_
   ·refine WC.cond rfl (fun hc10 => ?_) (fun hc10 => ?_)
    ·try simp only [tstS] at hc10
     have h0 : i ≠ 0 := fun e => by subst e; simp [nextC] at hc10
     refine cregion <| qq (Val.move rfl) rfl ?_
     refine WR.eff (Eff.build1C c4 136 sl23 rfl rfl rfl rfl rfl) rfl ?_
     rintro _ w6 ⟨b36, c6, rfl, hM6, hb36⟩
     replace hO := hO.mv hM6 rfl; replace hl := hl.mv hM6 rfl; replace ho := ho.mv hM6 rfl; replace hb31 := hb31.mv hM6 rfl; replace hb12 := hb12.mv hM6 rfl
     first | refine WR.val (Val.fieldAddr fld29_2 rfl) rfl ?_ | refine WR.val (Val.fieldAddrP fld29_2 rfl) rfl ?_
     refine WR.eff_ (Eff.storeC scl23 rfl rfl (by first | rfl | assumption) (by first | rfl | assumption) hb12 rfl) ?_
     rintro _ w7 ⟨hS, hM7⟩
     replace hO := hO.mv hM7 rfl; replace hl := hl.mv hM7 rfl; replace ho := ho.mv hM7 rfl; replace hb31 := hb31.mv hM7 rfl; replace hb36 := hb36.mv hM7 rfl
     replace hb12 := hS
     refine cnil ?_
     refine ⟨_, _, (by repeat (first | exact Sub.nil _ | refine Sub.cons rfl ?_ | refine Sub.consM rfl ?_)), hO, hl, ho, hb31, hb12, ?_, rfl⟩
     rw [manC_subs, if_neg h0]
     have hnx : nextC s i = dM s (i - 1) := by rw [nextC, if_neg h0]
     rw [hnx] at hb36
     exact (hb36.own (n := 1) (size := 1) rfl (by decide)).rdFlat (l := [dM s (i - 1)]) (by simp) (by intro x hx; simp at hx; subst hx; rw [show (dM s (i - 1)).length = 32 from digestS_length _]; decide)
    ·try simp only [tstS] at hc10
     have h0 : i = 0 := by
       rcases Nat.eq_zero_or_pos i with h | h
       · exact h
       · have := digestS_length (manBytes (manC s (i - 1)))
         rw [nextC, if_neg (by omega)] at hc10
         have e : dM s (i - 1) = [] := by simpa using hc10
         rw [show digestS (manBytes (manC s (i - 1))) = dM s (i - 1) from rfl, e] at this
         cases this
     refine cskip ?_
     refine ⟨_, _, (by repeat (first | exact Sub.nil _ | refine Sub.cons rfl ?_ | refine Sub.consM rfl ?_)), hO, hl, ho, hb31, hb12, ?_, rfl⟩
     rw [manC_subs, if_pos h0]
     exact fun _ _ _ => RdS.nil _ _ _
   ·skip
    rintro e8 w8' ⟨c8', vS, hsub, hO, hl, ho, hb31, hb12, hS, oS⟩
    refine WC.sub hsub ?_
    clear hsub e8
    have hrm : ∀ (cc : Nat → Nat) (W : World), BlkC cc W 131 b31 [St (dB s i)] 9 → RdC strS cc W [136] vS (manC s i).subs → RdMan W [I i, .slice (some ⟨b31, 0, none⟩) 1 1, vS] (manC s i) := fun cc W g1 g2 => ⟨_, vS, by rw [manC_kind], by rw [manC_blobs]; exact Own.rdStrs (l := [dB s i]) (g1.own (n := 1) (size := 1) rfl (by decide)).own (by intro x hx; simp at hx; subst hx; rw [show (dB s i).length = 32 from digestS_length _]; decide) (by simp), g2.now, by rw [manC_kind]; exact ⟨by omega, by omega⟩⟩
    have hml := manC_len s ki
    refine cseq <| cregion <| qq (Val.loadBN agg29 rfl hb12.blk rfl) rfl ?_
    refine WR.eff (Eff.pureC c8' 1 (Eff.call pf20 rfl (pmbytes_ok (hrm _ _ hb31 hS) (manC_may s ki)))) rfl ?_
    rintro v39 w8 ⟨c8, hM8, hx8, rfl⟩
    replace hO := hO.mv hM8 rfl; replace hl := hl.mv hM8 rfl; replace ho := ho.mv hM8 rfl; replace hb31 := hb31.mv hM8 rfl; replace hb12 := hb12.mv hM8 rfl; replace hS := hS.mv hM8 rfl
    refine qq (Val.assign rfl) rfl <| cnil <| cseq <| cregion <| qq (Val.move rfl) rfl ?_
    refine WR.eff (Eff.pureC c8 1 (Eff.call pf21 rfl (pdigest_ok (manBytes (manC s i)) (by omega)))) rfl ?_
    rintro v41 w9 ⟨c9, hM9, hx9, rfl⟩
    replace hO := hO.mv hM9 rfl; replace hl := hl.mv hM9 rfl; replace ho := ho.mv hM9 rfl; replace hb31 := hb31.mv hM9 rfl; replace hb12 := hb12.mv hM9 rfl; replace hS := hS.mv hM9 rfl
    rw [show digestS (manBytes (manC s i)) = dM s i from rfl]
    refine qq (Val.assign rfl) rfl <| cnil <| cseq <| cregion <| qq (Val.move rfl) rfl <| qq (Val.move rfl) rfl <| qq (Val.move rfl) rfl <| qq (Val.build (cells := #[St (dB s i), St (blobC s i), .bool false]) rfl (by kernel_rfl)) rfl ?_
    refine WR.eff (Eff.pureC c9 6 (Eff.call pf82 rfl (put_ok (hl.own.rdThgs hok (by omega)) (thgB s i) (by omega)))) rfl ?_
    rintro v46 w10 ⟨c10, hM10, hx10, hl2⟩
    replace hO := hO.mv hM10 rfl; replace hl := hl.mv hM10 rfl; replace ho := ho.mv hM10 rfl
    replace hl2 := hl2.toC hx10
    have hok2 : ∀ x ∈ putT (chainT s i) (thgB s i), x.digest.length ≤ 140737488355328 ∧ x.text.length ≤ 140737488355328 := putT_texts hok ⟨by rw [show (thgB s i).digest.length = 32 from digestS_length _]; decide, by simp [thgB, blobC]⟩
    have hll2 := putT_len (chainT s i) (thgB s i)
    refine qq (Val.assign rfl) rfl <| cnil <| cseq <| cregion <| qq (Val.move rfl) rfl <| qq (Val.move rfl) rfl <| qq (Val.move rfl) rfl <| qq (Val.build (cells := #[St (dM s i), St (manBytes (manC s i)), .bool true]) rfl (by kernel_rfl)) rfl ?_
    refine WR.eff (Eff.pureC c10 6 (Eff.call pf82 rfl (put_ok (hl2.own.rdThgs hok2 (by omega)) (thgM s i) (by omega)))) rfl ?_
    rintro v51 w11 ⟨c11, hM11, hx11, hl3⟩
    replace hO := hO.mv hM11 rfl; replace ho := ho.mv hM11 rfl; replace hl2 := hl2.mv hM11 rfl
    replace hl3 := hl3.toC hx11
    refine qq (Val.assign rfl) rfl <| cnil <| cregion <| qq (Val.move rfl) rfl <| qq (Val.move rfl) rfl ?_
    refine WR.eff (Eff.build1C c11 154 sl23 rfl rfl rfl rfl rfl) rfl ?_
    rintro _ w12 ⟨b54, c12, rfl, hM12, hb54⟩
    replace hO := hO.mv hM12 rfl; replace ho := ho.mv hM12 rfl; replace hl3 := hl3.mv hM12 rfl
    refine WR.eff (Eff.appendC sl23 rfl rfl ho (Src.cellsAt Try.underlying23 hb54.blk.cellsAt rfl (by repeat (first | exact List.forall_mem_nil _ | refine List.forall_mem_cons.2 ⟨by first | rfl | assumption, ?_⟩))) (by rw [maxLen_eq]; first | omega | (simp; omega)) (by first | omega | (simp; omega))) rfl ?_
    rintro v55 w13 ⟨c13, hM13, hOq⟩
    clear hb54
    replace hO := hO.mv hM13 rfl; replace hl3 := hl3.mv hM13 rfl
    replace ho := hOq
    refine qq (Val.assign rfl) rfl <| cnil <| cregion <| qq (Val.move rfl) rfl <| qq (Val.addI rfl rfl (by first | omega | assumption | (simp; omega) | (simp; done)) (by first | omega | assumption | (simp; omega) | (simp; done))) rfl <| qq (Val.assign rfl) rfl <| cnil ?_
    have e5 : (((List.range i).map (dM s)).flatMap fun x => [St x]) ++ [St (dM s i)] = ((List.range (i + 1)).map (dM s)).flatMap fun x => [St x] := by rw [List.range_succ, List.map_append, List.flatMap_append]; rfl
    have e6 : ((List.range i).map (dM s)).length + 1 = ((List.range (i + 1)).map (dM s)).length := by simp
    rw [e5, e6] at ho
    exact ⟨(i + 1, v51, v55), (by rw [nextC_succ]; repeat (first | exact Sub.nil _ | refine Sub.cons rfl ?_ | refine Sub.consM rfl ?_)), ⟨_, hO, hl3, ho, kn⟩, by dsimp only; omega⟩
  ·try simp only [tstS] at hc5
   have : i = n := by omega
   subst this
   refine WC.exit rfl ?_
   refine cseq <| cregion <| qq (Val.move rfl) rfl <| qq (Val.move rfl) rfl <| qq (Val.assign rfl) rfl <| qq (Val.assign rfl) rfl <| cnil ?_
   refine WC.ret2 rfl rfl rfl ?_
   exact ⟨hO.below, _, _, rfl, hl.fromOld hO (by decide), ho.fromOld hO (by decide)⟩
end Go.Proofs.Ytnddlhjafkhdoaa

namespace Silo
open Go Go.Eng
theorem eqe (b : Bool) : (!(decide ((if b = true then (0 : Int) else 1) = 0) == b)) = false := by cases b <;> decide
def zero32 : List UInt8 := List.replicate 32 0
theorem may_wakes : thgsMay [⟨zero32, [], false⟩] = true := by decide
theorem from_wakes : fromT [⟨zero32, [], false⟩] [zero32, [120]] = [zero32] := by
  have h : reachB [⟨zero32, [], false⟩] [zero32, [120]] 0 = true := reachB_iff.2 (.root (d := zero32) (by simp) (by decide))
  show ((List.range 1).filter (reachB _ _)).map _ = _
  simp only [List.range_one, List.filter_cons, h, if_true, List.filter_nil, List.map_cons, List.map_nil]
  rfl
theorem rootsT_len (T : List Thg) (R : List (List UInt8)) (by_ : Nat) : (rootsT T R by_).length ≤ R.length + T.length := by
  rw [rootsT, List.length_append]; have := pickT_len T by_ T.length; omega
theorem rootsT_texts {T : List Thg} {R : List (List UInt8)} {by_ n : Nat} (h1 : ∀ t ∈ T, t.digest.length ≤ n) (h2 : ∀ x ∈ R, x.length ≤ n) : ∀ x ∈ rootsT T R by_, x.length ≤ n := fun x hx => by
  rcases List.mem_append.1 hx with h | h
  · exact h2 x h
  · obtain ⟨i, hi, rfl⟩ := pickT_mem h
    exact h1 _ (List.getElem_mem hi)
theorem fromT_texts {T : List Thg} {R : List (List UInt8)} {n : Nat} (h1 : ∀ t ∈ T, t.digest.length ≤ n) : ∀ x ∈ fromT T R, x.length ≤ n := fun x hx => by
  obtain ⟨i, _, rfl⟩ := mem_fromT.1 hx
  exact dgOf_ok h1 i
theorem usersT_texts {T : List Thg} {d : List UInt8} {n : Nat} (h1 : ∀ t ∈ T, t.digest.length ≤ n) : ∀ x ∈ usersT T d, x.length ≤ n := fun x hx => by
  simp only [usersT, List.mem_map, List.mem_filter] at hx
  obtain ⟨t, ⟨ht, _⟩, rfl⟩ := hx
  exact h1 t ht
theorem orderGo_texts {T : List Thg} {n : Nat} (h1 : ∀ t ∈ T, t.digest.length ≤ n) : ∀ x ∈ ordX T, x.length ≤ n := fun x hx => by
  unfold ordX at hx
  split at hx
  · unfold orderT at hx
    cases hg : orderGo T T.length [] with
    | none => rw [hg] at hx; simp at hx
    | some o =>
      rw [hg] at hx
      simp only [Option.map_some, Option.getD_some, List.mem_map] at hx
      obtain ⟨i, _, rfl⟩ := hx
      exact dgOf_ok h1 i
  · cases hx
theorem orderGo_len (T : List Thg) : ∀ (n : Nat) (o x : List Nat), orderGo T n o = some x → x.length = o.length + n
  | 0, o, x, h => by simp only [orderGo, Option.some.injEq] at h; subst h; rfl
  | n + 1, o, x, h => by
    unfold orderGo at h
    cases hx : nextT T o with
    | none => rw [hx] at h; cases h
    | some i =>
      rw [hx] at h
      have := orderGo_len T n _ _ h
      rw [List.length_append, List.length_singleton] at this; omega
theorem ordX_len (T : List Thg) : (ordX T).length ≤ T.length := by
  unfold ordX
  split
  · unfold orderT
    cases hg : orderGo T T.length [] with
    | none => simp
    | some o =>
      have := orderGo_len T _ _ _ hg
      simp at this ⊢; omega
  · simp
end Silo
namespace Go.Proofs.Ytnddlhjafkhdoaa
open Go Go.Eng Go.RowKit Silo TryT

theorem rnum_ok {w : World} (e : Int) : Calls Try.prog 36 #[I e] w (Ret fun v w' => Below w.heap.size w w' ∧ v = I e) := by
  refine enter (n := 4) (res := #[.tmp 2]) Try.func36 rfl rfl rfl rfl ?_
  refine cseq <| cregion <| qq (Val.assign rfl) rfl <| cnil <| cseq <| cregion <| qq (Val.move rfl) rfl <| qq (Val.assign rfl) rfl <| cnil ?_
  refine WC.ret1 rfl rfl ?_
  exact ⟨Below.refl _ _, rfl⟩
theorem rspoil_ok {w : World} {v : Value} {l : List (List UInt8)} (hown : Own w 0 9 1 v l.length (l.flatMap fun x => [St x])) (hl : l.length ≤ 1048576) : Calls Try.prog 31 #[v] w (Ret fun _ w' => w.grownBy w' v.rowOf ∧ True) :=
  (spoil_ok hown hl).mono fun _ _ ⟨v, h, hg⟩ => ⟨v, h, hg, trivial⟩
theorem plainAt (b n c : Nat) : PlainV (.slice (some ⟨b, 0, none⟩) n c) := ⟨_, _, _, rfl, fun _ => ⟨_, _, rfl⟩⟩
theorem nilC {c : Nat → Nat} {w : World} {J : List Nat} : RdC strS c w J (.slice none 0 0) [] := fun _ _ _ => RdS.nil _ _ _
theorem rwakes_ok {w : World} : Calls Try.prog 41 #[] w (Ret fun v w' => Below w.heap.size w w' ∧ v = .bool true) := by
  obtain ⟨c, hO, hc⟩ := OldC.start w
  clear hc
  refine enter (n := 24) (res := #[.tmp 0]) Try.func41 rfl rfl rfl rfl ?_
  refine cseq <| cregion <| qq (Val.assign rfl) rfl <| cnil <| cseq <| cregion ?_
  refine WR.eff (Eff.makeC c 50 sl68 rfl rfl (by first | omega | assumption | (simp; omega) | (simp; done)) (by first | omega | assumption | (simp; omega) | (simp; done)) (by first | omega | assumption | (simp; omega) | (simp; done))) rfl ?_
  rintro v4 w1 ⟨c1, hM1, ho4⟩
  replace hO := hO.mv hM1 rfl
  rw [bytesV_zero] at ho4
  refine qq (Val.ofBytes Try.underlying68 Try.underlying9 Try.underlying5 rfl ho4.own) rfl <| qq (Val.assign rfl) rfl <| cnil <| cseq <| cregion <| qq (Val.move rfl) rfl <| qq (Val.build (cells := #[St zero32, St [], .bool false]) rfl (by kernel_rfl)) rfl ?_
  refine WR.eff (Eff.build1C c1 109 sl52 rfl rfl rfl rfl rfl) rfl ?_
  rintro _ w2 ⟨b9, c2, rfl, hM2, hb9⟩
  replace hO := hO.mv hM2 rfl; replace ho4 := ho4.mv hM2 rfl
  refine qq (Val.move rfl) rfl ?_
  refine WR.eff (Eff.buildC c2 111 sl23 rfl rfl rfl (by simp [Value.cells]) rfl rfl) rfl ?_
  rintro _ w3 ⟨b11, c3, rfl, hM3, hb11⟩
  replace hO := hO.mv hM3 rfl; replace ho4 := ho4.mv hM3 rfl; replace hb9 := hb9.mv hM3 rfl
  refine WR.eff (Eff.pureC c3 7 (Eff.call pf35 rfl (rfrom_ok (T := [⟨zero32, [], false⟩]) (R := [zero32, [120]]) (Own.rdThgs (l := [⟨zero32, [], false⟩]) (hb9.own (n := 1) (size := 3) rfl (by decide)).own (by intro x hx; simp at hx; subst hx; exact ⟨by decide, by decide⟩) (by decide)) (Own.rdStrs (l := [zero32, [120]]) (hb11.own (n := 2) (size := 1) rfl (by decide)).own (by intro x hx; simp at hx; rcases hx with rfl | rfl <;> decide) (by decide)) (plainAt _ _ _) (by decide)))) rfl ?_
  rintro v12 w4 ⟨c4, hM4, hx4, ⟨u, rfl, hu⟩⟩
  replace hO := hO.mv hM4 rfl; replace ho4 := ho4.mv hM4 rfl; replace hb9 := hb9.mv hM4 rfl; replace hb11 := hb11.mv hM4 rfl
  replace hu := hu.toC hx4
  rw [may_wakes, if_pos rfl, from_wakes] at hu
  rw [may_wakes, if_pos rfl]
  refine qq (Val.move rfl) rfl <| qq (Val.extract rfl rfl) rfl <| qq (Val.extract rfl rfl) rfl <| qq (Val.assign rfl) rfl <| qq (Val.assign rfl) rfl <| cnil <| cseq <| cregion <| qq (Val.move rfl) rfl ?_
  refine WR.eff (Eff.pureC c4 1 (Eff.call pf36 rfl (rnum_ok _))) rfl ?_
  rintro v16 w5 ⟨c5, hM5, hx5, rfl⟩
  replace hO := hO.mv hM5 rfl; replace ho4 := ho4.mv hM5 rfl; replace hb9 := hb9.mv hM5 rfl; replace hb11 := hb11.mv hM5 rfl; replace hu := hu.mv hM5 rfl
  refine qq (Val.eql rfl rfl) rfl <| qq (Val.move rfl) rfl ?_
  apply WR.sc true 4 true (fun w' => ∃ c', Acc c5 w5 [] c' w')
  case hl => rfl
  case hg => rfl
  case hu => rfl
  case hv => rfl
  case hs => rfl
  case hoff => rfl
  case hd => rfl
  case hF => exact fun _ => ⟨_, Acc.refl _ _ _⟩
  case hT =>
   intro hq8
   try simp only [tstS] at hq8
   simp only [List.take_succ_cons, List.take_zero]
   have hKsc8 := Acc.refl c5 w5 []
   refine WR.on rfl rfl ?_
   refine qq (Val.move rfl) rfl ?_
   refine WR.on rfl rfl ?_
   refine qq (Val.move rfl) rfl ?_
   refine WR.on rfl rfl ?_
   refine WR.eff (Eff.build1C c5 121 sl23 rfl rfl rfl rfl rfl) rfl ?_
   rintro _ w6 ⟨b21, c6, rfl, hM6, hb21⟩
   replace hO := hO.mv hM6 rfl; replace ho4 := ho4.mv hM6 rfl; replace hb9 := hb9.mv hM6 rfl; replace hb11 := hb11.mv hM6 rfl; replace hu := hu.mv hM6 rfl; replace hKsc8 := hKsc8.mv hM6 rfl
   refine WR.on rfl rfl ?_
   refine WR.eff (Eff.pureC c6 1 (Eff.call pf37 rfl (eqStrings_ok (hu.own.rdStrs (by intro x hx; simp at hx; subst hx; decide) (by decide)) (Own.rdStrs (l := [zero32]) (hb21.own (n := 1) (size := 1) rfl (by decide)).own (by intro x hx; simp at hx; subst hx; decide) (by decide))))) rfl ?_
   rintro v22 w7 ⟨c7, hM7, hx7, rfl⟩
   replace hO := hO.mv hM7 rfl; replace ho4 := ho4.mv hM7 rfl; replace hb9 := hb9.mv hM7 rfl; replace hb11 := hb11.mv hM7 rfl; replace hu := hu.mv hM7 rfl; replace hKsc8 := hKsc8.mv hM7 rfl; replace hb21 := hb21.mv hM7 rfl
   exact WR.nil ⟨rfl, Sub.drop _ 4 _ rfl rfl, _, hKsc8⟩
  rintro w8 ⟨c8, ⟨hM8⟩⟩
  replace hO := hO.mv hM8 rfl; replace ho4 := ho4.mv hM8 rfl; replace hb9 := hb9.mv hM8 rfl; replace hb11 := hb11.mv hM8 rfl; replace hu := hu.mv hM8 rfl
  refine qq (Val.assign rfl) rfl <| cnil ?_
  refine WC.ret1 rfl rfl ?_
  exact ⟨hO.below, rfl⟩
end Go.Proofs.Ytnddlhjafkhdoaa

namespace Silo
open Go Go.Eng
theorem range_slice (f : Nat → List UInt8) {n i : Nat} (hi : i < n) : (((List.range n).map f).drop i).take (i + 1 - i) = [f i] := by
  rw [show i + 1 - i = 1 by omega]
  have hl : i < ((List.range n).map f).length := by simpa using hi
  rw [List.drop_eq_getElem_cons hl]
  simp
end Silo
namespace Go.Proofs.Ytnddlhjafkhdoaa
open Go Go.Eng Go.RowKit Silo TryT

theorem rwithin_ok {w : World} (i n : Int) (hi : Go.Eng.Int64 i) (h0 : 0 < n) (h1 : n ≤ 9223372036854775807) : Calls Try.prog 42 #[I i, I n] w (Ret fun v w' => Below w.heap.size w w' ∧ v = I (within i n)) := by
  have e1 : IntKind.u64.wrap i = i % 18446744073709551616 := by simp [IntKind.wrap, IntKind.signed, IntKind.bits]
  have e2 : 0 ≤ i % 18446744073709551616 := Int.emod_nonneg _ (by decide)
  have e3 := within_lo i n h0
  have e4 := within_hi i n h0
  refine enter (n := 11) (res := #[.tmp 4]) Try.func42 rfl rfl rfl rfl ?_
  refine cseq <| cregion <| qq (Val.assign rfl) rfl <| cnil <| cseq <| cregion <| qq (Val.move rfl) rfl <| qq (Val.convInt Try.underlying3 Try.underlying109 rfl) rfl <| qq (Val.move rfl) rfl ?_
  refine qq (Val.convToU64 Try.underlying3 Try.underlying109 rfl (by first | omega | assumption | (simp; omega) | (simp; done)) (by first | omega | assumption | (simp; omega) | (simp; done))) rfl <| qq (Val.rem rfl rfl (by omega)) rfl ?_
  have e5 : (IntKind.u64.wrap i).tmod n = within i n := by rw [e1, Int.tmod_eq_emod_of_nonneg e2]; rfl
  rw [e5]
  refine qq (Val.convTo64 Try.underlying109 Try.underlying3 rfl (by omega) (by omega)) rfl <| qq (Val.assign rfl) rfl <| cnil ?_
  refine WC.ret1 rfl rfl ?_
  exact ⟨Below.refl _ _, rfl⟩

set_option maxHeartbeats 4000000 in
theorem reachChains_ok {w : World} {vT vR : Value} {Ts : List (List Thg)} {R : List (List UInt8)} (h1 : Rd thgS.slice w vT Ts) (h2 : Rd strS w vR R) :
    Calls Try.prog 6 #[.agg #[vT, vR]] w (Ret fun v w' => Below w.heap.size w w' ∧ v = .bool true) := by
  have o1 := h1.oneC
  have o2 := h2.oneC
  have ha : Apart 120 := apart120
  obtain ⟨c, hO, hc⟩ := OldC.start w
  replace h1 : RdC thgS.slice c w [0] vT Ts := Rd.toC h1 (fun k hk => by simp [hc, hasC])
  replace h2 : RdC strS c w [0] vR R := Rd.toC h2 (fun k hk => by simp [hc, hasC])
  clear hc
  refine enter (n := 107) (res := #[.tmp 2]) Try.func6 rfl rfl rfl rfl ?_
  refine cseq <| cregion ?_
  refine WR.eff (Eff.boxC c 101 rfl) rfl ?_
  rintro _ w1 ⟨b1, c1, rfl, hM1, hb1⟩
  replace hO := hO.mv hM1 rfl; replace h1 := h1.mv hM1 rfl; replace h2 := h2.mv hM1 rfl
  refine qq (Val.assign rfl) rfl <| cnil <| cseq <| cseq <| cregion <| qq (Val.loadBN agg50 rfl hb1.blk rfl) rfl ?_
  refine WR.eff (Eff.pureC c1 1 (Eff.call pf32 rfl (rheavy_ok h1.now h2.now))) rfl ?_
  rintro v15 w2 ⟨c2, hM2, hx2, rfl⟩
  replace hO := hO.mv hM2 rfl; replace h1 := h1.mv hM2 rfl; replace h2 := h2.mv hM2 rfl; replace hb1 := hb1.mv hM2 rfl
  refine cnil ?_
  refine WC.cond rfl (fun hc1 => ?_) (fun hc1 => ?_)
  ·try simp only [tstS] at hc1
   refine cseq <| cregion <| qq (Val.assign rfl) rfl <| cnil ?_
   refine WC.ret1 rfl rfl ?_
   exact ⟨hO.below, rfl⟩
  ·try simp only [tstS] at hc1
   obtain ⟨⟨hRl, hRt⟩, hlm⟩ := thinks_light (Ts := Ts) (R := R) (by omega)
   have w1' := within_lo (R.length : Int) 8 (by omega)
   have w2' := within_hi (R.length : Int) 8 (by omega)
   refine cskip <| cseq <| cregion ?_
   first | refine WR.val (Val.fieldAddr fld50_1 rfl) rfl ?_ | refine WR.val (Val.fieldAddrP fld50_1 rfl) rfl ?_
   refine qq (Val.loadB scl23 rfl hb1.blk rfl) rfl <| qq (Val.rdlenC sl23 h2 rfl) rfl ?_
   refine WR.eff (Eff.pureC c2 1 (Eff.call pf42 rfl (rwithin_ok (R.length : Int) 8 ⟨by omega, by omega⟩ (by omega) (by omega)))) rfl ?_
   rintro v19 w3 ⟨c3, hM3, hx3, rfl⟩
   replace hO := hO.mv hM3 rfl; replace h1 := h1.mv hM3 rfl; replace h2 := h2.mv hM3 rfl; replace hb1 := hb1.mv hM3 rfl
   refine qq (Val.addI rfl rfl (by first | omega | assumption | (simp; omega) | (simp; done)) (by first | omega | assumption | (simp; omega) | (simp; done))) rfl <| qq (Val.assign rfl) rfl <| cnil ?_
   obtain ⟨n, hn⟩ : ∃ n : Nat, 2 + within (R.length : Int) 8 = n := ⟨(2 + within (R.length : Int) 8).toNat, by omega⟩
   rw [hn]
   have hn9 : n ≤ 9 := by omega
   have hlen : ((List.range n).map (dM 120)).length = n := by simp
   have hcl := chainT_len 120 n
   have hct := chainT_texts (s := 120) hn9
   have hrt : ∀ x ∈ (List.range n).map (dM 120), x.length ≤ 140737488355328 := fun x hx => by obtain ⟨i, _, rfl⟩ := List.mem_map.1 hx; rw [show (dM 120 i).length = 32 from digestS_length _]; decide
   have hmay := chainT_may ha hn9
   have hdx : ∀ t ∈ chainT 120 n, t.digest.length ≤ 140737488355328 := fun t ht => (hct t ht).1
   have hfx : ∀ R', ∀ x ∈ fromT (chainT 120 n) R', x.length ≤ 140737488355328 := fun R' => fromT_texts hdx
   refine cseq <| cregion <| qq (Val.move rfl) rfl ?_
   refine WR.eff (Eff.pureC c3 6 (Eff.call pf43 rfl (chain_ok (s := 120) hn9))) rfl ?_
   rintro v23 w4 ⟨c4, hM4, hx4, ⟨vl, vo, rfl, hl, ho⟩⟩
   replace hO := hO.mv hM4 rfl; replace h1 := h1.mv hM4 rfl; replace h2 := h2.mv hM4 rfl; replace hb1 := hb1.mv hM4 rfl
   replace hl := hl.toC hx4
   replace ho := ho.toC hx4
   obtain ⟨Ao, qo, rfl, hqo, hAo⟩ := ho.own.formA
   refine qq (Val.move rfl) rfl <| qq (Val.extract rfl rfl) rfl <| qq (Val.extract rfl rfl) rfl <| qq (Val.assign rfl) rfl <| qq (Val.assign rfl) rfl <| cnil <| cseq <| cseq <| cregion ?_
   refine qq (Val.assign rfl) rfl <| cnil <| cblock ?_
   refine WC.loop (σ := Nat) (fun i => [(3, I n), (4, vl), (5, .slice Ao ((List.range n).map (dM 120)).length qo), (6, I i)]) (fun i w' => ∃ c', OldC w c' w' ∧ OwnC c' w' 6 62 3 vl (chainT 120 n).length ((chainT 120 n).flatMap encThg) ∧ OwnC c' w' 6 9 1 (.slice Ao ((List.range n).map (dM 120)).length qo) ((List.range n).map (dM 120)).length (((List.range n).map (dM 120)).flatMap fun x => [St x]) ∧ i ≤ n) (fun i => n - i) 0 (by repeat (first | exact Sub.nil _ | refine Sub.cons rfl ?_ | refine Sub.consM rfl ?_)) ⟨_, hO, hl, ho, by omega⟩ ?_
   clear hO h1 h2 hb1 hl ho
   rintro i wl ⟨cl, hO, hl, ho, hi⟩
   refine cseq <| cseq <| cregion <| qq (Val.move rfl) rfl <| qq (Val.move rfl) rfl <| qq (Val.lss rfl rfl) rfl <| cnil ?_
   refine WC.cond rfl (fun hc6 => ?_) (fun hc6 => ?_)
   ·try simp only [tstS] at hc6
    have ki : i < n := by omega
    have hOr : RdC strS cl wl [6] _ ((List.range n).map (dM 120)) := ho.rdFlat (by omega) hrt
    have hPt := hOr.now.part (lo := i) (hi := i + 1) (by omega) (by omega)
    rw [range_slice _ ki] at hPt
    have hfl := chain_from_len ha hn9 ki
    have hPl : PlainV (subV (.slice Ao ((List.range n).map (dM 120)).length qo) i (i + 1) 1) := PlainV.sub hAo (by omega)
    refine cskip <| cseq <| cblock <| cseq <| cregion <| qq (Val.move rfl) rfl <| qq (Val.move rfl) rfl <| qq (Val.move rfl) rfl <| qq (Val.move rfl) rfl ?_
    refine qq (Val.addI rfl rfl (by first | omega | assumption | (simp; omega) | (simp; done)) (by first | omega | assumption | (simp; omega) | (simp; done))) rfl <| qq (Val.part sl23 rfl rfl rfl (by omega) (by omega) (by omega)) rfl ?_
    refine WR.eff (Eff.pureC cl 7 (Eff.call pf35 rfl (rfrom_ok (R := [dM 120 i]) (hl.own.rdThgs hct (by omega)) hPt hPl (by simp)))) rfl ?_
    rintro v38 w5 ⟨c5, hM5, hx5, ⟨vx, rfl, hx⟩⟩
    replace hO := hO.mv hM5 rfl; replace hl := hl.mv hM5 rfl; replace ho := ho.mv hM5 rfl; replace hOr := hOr.mv hM5 rfl
    replace hx := hx.toC hx5
    rw [hmay, if_pos rfl] at hx
    rw [hmay, if_pos rfl]
    refine qq (Val.move rfl) rfl <| qq (Val.extract rfl rfl) rfl <| qq (Val.extract rfl rfl) rfl <| qq (Val.assign rfl) rfl <| qq (Val.assign rfl) rfl <| cnil <| cseq <| cseq <| cregion ?_
    refine qq (Val.move rfl) rfl ?_
    refine WR.eff (Eff.pureC c5 1 (Eff.call pf36 rfl (rnum_ok _))) rfl ?_
    rintro v42 w6 ⟨c6, hM6, hx6, rfl⟩
    replace hO := hO.mv hM6 rfl; replace hl := hl.mv hM6 rfl; replace ho := ho.mv hM6 rfl; replace hOr := hOr.mv hM6 rfl; replace hx := hx.mv hM6 rfl
    refine qq (Val.neq rfl rfl) rfl ?_
    rw [decide_eq_true rfl]
    refine qq (Val.move rfl) rfl ?_
    refine WR.onEq rfl rfl rfl ?_
    refine qq (Val.move rfl) rfl ?_
    refine WR.onEq rfl rfl rfl ?_
    refine qq (Val.olen sl23 hx rfl) rfl ?_
    refine WR.onEq rfl rfl rfl ?_
    refine qq (Val.move rfl) rfl ?_
    refine WR.onEq rfl rfl rfl ?_
    refine qq (Val.addI rfl rfl (by first | omega | assumption | (simp; omega) | (simp; done)) (by first | omega | assumption | (simp; omega) | (simp; done))) rfl ?_
    refine WR.onEq rfl rfl rfl ?_
    refine qq (Val.mulI rfl rfl (by first | omega | assumption | (simp; omega) | (simp; done)) (by first | omega | assumption | (simp; omega) | (simp; done))) rfl ?_
    refine WR.onEq rfl rfl rfl ?_
    refine qq (Val.neq rfl rfl) rfl ?_
    rw [decide_eq_true (show ((fromT (chainT 120 n) [dM 120 i]).length : Int) = 2 * ((i : Int) + 1) by omega)]
    refine WR.pickOn (by rfl) rfl rfl rfl ?_
    refine cnil ?_
    refine WC.cond_false rfl ?_
    refine cskip <| cseq <| cregion <| qq (Val.assign rfl) rfl <| cnil <| cblock ?_
    refine WC.loop (σ := Nat) (fun k => [(3, I n), (4, vl), (5, .slice Ao ((List.range n).map (dM 120)).length qo), (6, I i), (7, vx), (9, I k)]) (fun k w' => ∃ c', OldC w c' w' ∧ OwnC c' w' 6 62 3 vl (chainT 120 n).length ((chainT 120 n).flatMap encThg) ∧ OwnC c' w' 6 9 1 (.slice Ao ((List.range n).map (dM 120)).length qo) ((List.range n).map (dM 120)).length (((List.range n).map (dM 120)).flatMap fun x => [St x]) ∧ OwnC c' w' 7 9 1 vx (fromT (chainT 120 n) [dM 120 i]).length ((fromT (chainT 120 n) [dM 120 i]).flatMap fun x => [St x]) ∧ k ≤ i + 1) (fun k => i + 1 - k) 0 (by repeat (first | exact Sub.nil _ | refine Sub.cons rfl ?_ | refine Sub.consM rfl ?_)) ⟨_, hO, hl, ho, hx, by omega⟩ ?_
    clear hO hl ho hx hOr hPt
    rintro k wk ⟨ck, hO, hl, ho, hx, hk⟩
    refine cseq <| cseq <| cregion <| qq (Val.move rfl) rfl <| qq (Val.move rfl) rfl <| qq (Val.leq rfl rfl) rfl <| cnil ?_
    refine WC.cond rfl (fun hc12 => ?_) (fun hc12 => ?_)
    ·try simp only [tstS] at hc12
     have kk : k < n := by omega
     have hOr : RdC strS ck wk [6] _ ((List.range n).map (dM 120)) := ho.rdFlat (by omega) hrt
     obtain ⟨hc60, _⟩ := RdC.elFlat hOr (k := k) (by omega) (by decide)
     have hhas : (fromT (chainT 120 n) [dM 120 i]).contains ((List.range n).map (dM 120))[k] = true := by
       rw [List.contains_iff_mem, chain_reach ha hn9 ki]
       exact ⟨k, by omega, .inr (by simp)⟩
     refine cskip <| cseq <| cblock <| cseq <| cregion <| qq (Val.move rfl) rfl <| qq (Val.move rfl) rfl <| qq (Val.move rfl) rfl <| qq (Val.indexAddr sl23 hOr.now rfl rfl rfl (by omega) (by omega)) rfl ?_
     refine qq (Val.loadE1 scl9 rfl hc60.cel) rfl ?_
     refine WR.eff (Eff.pureC ck 1 (Eff.call pf39 rfl (zhas_ok (hx.own.rdStrs (hfx _) (by omega))))) rfl ?_
     rintro v62 w7 ⟨c7, hM7, hx7, rfl⟩
     replace hO := hO.mv hM7 rfl; replace hl := hl.mv hM7 rfl; replace ho := ho.mv hM7 rfl; replace hx := hx.mv hM7 rfl; replace hOr := hOr.mv hM7 rfl; replace hc60 := hc60.mv hM7 rfl
     rw [hhas]
     refine qq (Val.not rfl) rfl <| cnil ?_
     refine WC.cond_false rfl ?_
     refine cskip <| cregion <| qq (Val.move rfl) rfl <| qq (Val.addI rfl rfl (by first | omega | assumption | (simp; omega) | (simp; done)) (by first | omega | assumption | (simp; omega) | (simp; done))) rfl <| qq (Val.assign rfl) rfl <| cnil ?_
     exact ⟨k + 1, (by repeat (first | exact Sub.nil _ | refine Sub.cons rfl ?_ | refine Sub.consM rfl ?_)), ⟨_, hO, hl, ho, hx, by omega⟩, by omega⟩
    ·try simp only [tstS] at hc12
     refine WC.exit rfl ?_
     refine cregion <| qq (Val.move rfl) rfl <| qq (Val.addI rfl rfl (by first | omega | assumption | (simp; omega) | (simp; done)) (by first | omega | assumption | (simp; omega) | (simp; done))) rfl <| qq (Val.assign rfl) rfl <| cnil ?_
     exact ⟨i + 1, (by repeat (first | exact Sub.nil _ | refine Sub.cons rfl ?_ | refine Sub.consM rfl ?_)), ⟨_, hO, hl, ho, ki⟩, by omega⟩
   ·try simp only [tstS] at hc6
    obtain ⟨o, hoT, htold, hol⟩ := chain_order ha hn9
    have hE : ordE (chainT 120 n) = 0 ∧ ordX (chainT 120 n) = o.map (dgOf (chainT 120 n)) := by rw [ordE, ordX, hmay, hoT]; exact ⟨rfl, rfl⟩
    have hol2 : (o.map (dgOf (chainT 120 n))).length = 2 * n := by rw [List.length_map, hol]
    have hox : ∀ x ∈ o.map (dgOf (chainT 120 n)), x.length ≤ 140737488355328 := fun x hx => by obtain ⟨i, _, rfl⟩ := List.mem_map.1 hx; exact dgOf_ok hdx i
    refine WC.exit rfl ?_
    refine cseq <| cregion <| qq (Val.move rfl) rfl ?_
    refine WR.eff (Eff.pureC cl 10 (Eff.call pf44 rfl (rorder_ok (hl.own.rdThgs hct (by omega))))) rfl ?_
    rintro v66 w8 ⟨c8, hM8, hx8, ⟨vt, rfl, ht⟩⟩
    replace hO := hO.mv hM8 rfl; replace hl := hl.mv hM8 rfl; replace ho := ho.mv hM8 rfl
    replace ht := ht.toC hx8
    rw [hE.2] at ht
    rw [hE.1]
    refine qq (Val.move rfl) rfl <| qq (Val.extract rfl rfl) rfl <| qq (Val.extract rfl rfl) rfl <| qq (Val.assign rfl) rfl <| qq (Val.assign rfl) rfl <| cnil <| cseq <| cseq <| cregion ?_
    refine qq (Val.move rfl) rfl ?_
    refine WR.eff (Eff.pureC c8 1 (Eff.call pf36 rfl (rnum_ok _))) rfl ?_
    rintro v70 w9 ⟨c9, hM9, hx9, rfl⟩
    replace hO := hO.mv hM9 rfl; replace hl := hl.mv hM9 rfl; replace ho := ho.mv hM9 rfl; replace ht := ht.mv hM9 rfl
    refine qq (Val.neq rfl rfl) rfl ?_
    rw [decide_eq_true rfl]
    refine qq (Val.move rfl) rfl ?_
    refine WR.onEq rfl rfl rfl ?_
    refine qq (Val.move rfl) rfl ?_
    refine WR.onEq rfl rfl rfl ?_
    refine qq (Val.olen sl23 ht rfl) rfl ?_
    refine WR.onEq rfl rfl rfl ?_
    refine qq (Val.move rfl) rfl ?_
    refine WR.onEq rfl rfl rfl ?_
    refine qq (Val.mulI rfl rfl (by first | omega | assumption | (simp; omega) | (simp; done)) (by first | omega | assumption | (simp; omega) | (simp; done))) rfl ?_
    refine WR.onEq rfl rfl rfl ?_
    refine qq (Val.neq rfl rfl) rfl ?_
    rw [decide_eq_true (show ((o.map (dgOf (chainT 120 n))).length : Int) = 2 * (n : Int) by omega)]
    refine WR.pickOn (by rfl) rfl rfl rfl ?_
    refine cnil ?_
    refine WC.cond_false rfl ?_
    refine cskip <| cseq <| cregion <| qq (Val.assign rfl) rfl <| cnil <| cseq <| cseq <| cregion <| qq (Val.assign rfl) rfl ?_
    refine cnil <| cblock ?_
    have hc0 : Come 120 n ((o.take 0).map (dgOf (chainT 120 n))) 0 := ⟨by omega, fun j h => absurd h (Nat.not_lt_zero _), fun j _ _ h => by simp at h⟩
    refine WC.loop (σ := Nat × Nat) (fun st => [(3, I n), (5, .slice Ao ((List.range n).map (dM 120)).length qo), (10, vt), (12, I st.2), (13, I st.1)]) (fun st w' => ∃ c', OldC w c' w' ∧ OwnC c' w' 6 9 1 (.slice Ao ((List.range n).map (dM 120)).length qo) ((List.range n).map (dM 120)).length (((List.range n).map (dM 120)).flatMap fun x => [St x]) ∧ OwnC c' w' 10 9 1 vt (o.map (dgOf (chainT 120 n))).length ((o.map (dgOf (chainT 120 n))).flatMap fun x => [St x]) ∧ st.1 ≤ 2 * n ∧ Come 120 n ((o.take st.1).map (dgOf (chainT 120 n))) st.2) (fun st => 2 * n - st.1) (0, 0) (by repeat (first | exact Sub.nil _ | refine Sub.cons rfl ?_ | refine Sub.consM rfl ?_)) ⟨_, hO, ho, ht, by simp, hc0⟩ ?_
    clear hO hl ho ht
    rintro ⟨p, k⟩ wp ⟨cp, hO, ho, ht, hp, hcm⟩
    dsimp only at hO ho ht hp hcm ⊢
    have hkn := hcm.le
    refine cseq <| cseq <| cregion <| qq (Val.move rfl) rfl <| qq (Val.move rfl) rfl <| qq (Val.olen sl23 ht rfl) rfl <| qq (Val.lss rfl rfl) rfl <| cnil ?_
    refine WC.cond rfl (fun hc21 => ?_) (fun hc21 => ?_)
    ·try simp only [tstS] at hc21
     have kp : p < o.length := by omega
     have kp2 : p < (o.map (dgOf (chainT 120 n))).length := by omega
     have hst := come_step ha hn9 htold kp hcm
     have hOr : RdC strS cp wp [6] _ ((List.range n).map (dM 120)) := ho.rdFlat (by omega) hrt
     have hTr : RdC strS cp wp [10] _ (o.map (dgOf (chainT 120 n))) := ht.rdFlat (by omega) hox
     obtain ⟨hc91, _⟩ := RdC.elFlat hTr kp2 (by decide)
     have hOr0 := hOr
     refine cskip <| cseq <| cblock <| cseq ?_
     refine WC.regionD (Kp cp wp []) [0, 0, 0, 0, 0, 0, 0, 1, 0, 0, 0, 1, 0, 0] [0, 1, 2, 3, 4, 5, 6, 7, 8, 9, 10, 11, 12, 13] mixed (by kernel_rfl) ?_
     have hM10 := Mv.drew cp wp []
     have hCw := Mv.drew cp wp []
     generalize wp.drew = w10 at hM10 hCw ⊢
     have hc910 := hc91
     replace hO := hO.mv hM10 rfl; replace ho := ho.mv hM10 rfl; replace ht := ht.mv hM10 rfl; replace hOr := hOr.mv hM10 rfl; replace hTr := hTr.mv hM10 rfl; replace hc91 := hc91.mv hM10 rfl
     refine qd rfl rfl rfl (fun _ => Val.move rfl) rfl <| qd rfl rfl rfl (fun _ => Val.move rfl) rfl <| qd rfl rfl rfl (fun _ => Val.lss rfl rfl) rfl <| qd rfl rfl rfl (fun _ => Val.move rfl) rfl ?_
     apply WD.sc true 9 _ (fun w' => w10 = w')
     case hl => rfl
     case hi => rfl
     case hk => rfl
     case hg => rfl
     case hu => rfl
     case hv => rfl
     case hs => rfl
     case hoff => rfl
     case hd => rfl
     case hC => exact hCw.kp
     case hF => exact fun _ => rfl
     case hT =>
      intro hq13
      try simp only [tstS] at hq13
      simp only [List.take_succ_cons, List.take_zero]
      have kk : k < ((List.range n).map (dM 120)).length := by omega
      obtain ⟨hc950, _⟩ := RdC.elFlat hOr0 kk (by decide)
      have hv1 : ([St ((List.range n).map (dM 120))[k]] : List Value) = [St (dM 120 k)] := by simp
      rw [hv1] at hc950
      refine qd rfl rfl rfl (fun _ => Val.move rfl) rfl <| qd rfl rfl rfl (fun _ => Val.move rfl) rfl <| qd rfl rfl rfl (fun _ => Val.indexAddr sl23 hTr.now rfl rfl rfl (by omega) (by omega)) rfl <| qc rfl rfl rfl hCw.kp (fun W hW => Val.loadE1 scl9 rfl (hc910.kp hW rfl).cel) rfl <| qd rfl rfl rfl (fun _ => Val.move rfl) rfl <| qd rfl rfl rfl (fun _ => Val.move rfl) rfl <| qd rfl rfl rfl (fun _ => Val.indexAddr sl23 hOr.now rfl rfl rfl (by omega) (by omega)) rfl <| qc rfl rfl rfl hCw.kp (fun W hW => Val.loadE1 scl9 rfl (hc950.kp hW rfl).cel) rfl <| qd rfl rfl rfl (fun _ => Val.seq_ rfl rfl) rfl ?_
      exact WD.nil ⟨rfl, Sub.drop _ 9 _ rfl rfl, rfl⟩
     rintro _ rfl
     refine WD.nil ?_
     clear hc910
     clear hCw
     refine WC.cond rfl (fun hc23 => ?_) (fun hc23 => ?_)
     ·try simp only [tstS] at hc23
      have hcd : k < n ∧ dgOf (chainT 120 n) o[p] = dM 120 k := ⟨by omega, by simpa using hc23.2⟩
      rw [if_pos hcd] at hst
      refine cregion <| qq (Val.move rfl) rfl <| qq (Val.addI rfl rfl (by first | omega | assumption | (simp; omega) | (simp; done)) (by first | omega | assumption | (simp; omega) | (simp; done))) rfl <| qq (Val.assign rfl) rfl <| cnil <| cregion <| qq (Val.move rfl) rfl <| qq (Val.addI rfl rfl (by first | omega | assumption | (simp; omega) | (simp; done)) (by first | omega | assumption | (simp; omega) | (simp; done))) rfl <| qq (Val.assign rfl) rfl ?_
      refine cnil ?_
      first
      | exact ⟨(p + 1, k), (by repeat (first | exact Sub.nil _ | refine Sub.cons rfl ?_ | refine Sub.consM rfl ?_)), ⟨_, hO, ho, ht, by dsimp only; omega, hst⟩, by dsimp only; omega⟩
      | exact ⟨(p + 1, k + 1), (by repeat (first | exact Sub.nil _ | refine Sub.cons rfl ?_ | refine Sub.consM rfl ?_)), ⟨_, hO, ho, ht, by dsimp only; omega, hst⟩, by dsimp only; omega⟩
     ·try simp only [tstS] at hc23
      have hcd : ¬ (k < n ∧ dgOf (chainT 120 n) o[p] = dM 120 k) := fun h => by
        rw [decide_eq_true (show (k : Int) < (n : Int) by omega)] at hc23
        simp at hc23
        exact hc23 h.2
      rw [if_neg hcd] at hst
      refine cskip <| cregion <| qq (Val.move rfl) rfl <| qq (Val.addI rfl rfl (by first | omega | assumption | (simp; omega) | (simp; done)) (by first | omega | assumption | (simp; omega) | (simp; done))) rfl <| qq (Val.assign rfl) rfl <| cnil ?_
      first
      | exact ⟨(p + 1, k), (by repeat (first | exact Sub.nil _ | refine Sub.cons rfl ?_ | refine Sub.consM rfl ?_)), ⟨_, hO, ho, ht, by dsimp only; omega, hst⟩, by dsimp only; omega⟩
      | exact ⟨(p + 1, k + 1), (by repeat (first | exact Sub.nil _ | refine Sub.cons rfl ?_ | refine Sub.consM rfl ?_)), ⟨_, hO, ho, ht, by dsimp only; omega, hst⟩, by dsimp only; omega⟩
    ·try simp only [tstS] at hc21
     have hpe : p = 2 * n := by omega
     subst hpe
     rw [← hol, List.take_length] at hcm
     have hke := come_end ha hn9 htold hol hcm
     subst hke
     refine WC.exit rfl ?_
     refine cseq <| cregion <| qq (Val.move rfl) rfl <| qq (Val.move rfl) rfl <| qq (Val.eql rfl rfl) rfl ?_
     rw [decide_eq_true rfl]
     refine qq (Val.move rfl) rfl ?_
     refine WR.onEq rfl rfl rfl ?_
     refine WR.eff (Eff.pureC cp 1 (Eff.call pf41 rfl (rwakes_ok))) rfl ?_
     rintro v105 w11 ⟨c11, hM11, hx11, rfl⟩
     replace hO := hO.mv hM11 rfl; replace ho := ho.mv hM11 rfl; replace ht := ht.mv hM11 rfl
     refine WR.pickOn (by rfl) rfl rfl rfl ?_
     refine qq (Val.assign rfl) rfl <| cnil ?_
     refine WC.ret1 rfl rfl ?_
     exact ⟨hO.below, rfl⟩

set_option maxHeartbeats 4000000 in
theorem reachUsers_ok {w : World} {vT vR : Value} {Ts : List (List Thg)} {R : List (List UInt8)} (h1 : Rd thgS.slice w vT Ts) (h2 : Rd strS w vR R) :
    Calls Try.prog 7 #[.agg #[vT, vR]] w (Ret fun v w' => Below w.heap.size w w' ∧ v = .bool true) := by
  have o1 := h1.oneC
  have o2 := h2.oneC
  have ha : Apart 121 := apart121
  obtain ⟨c, hO, hc⟩ := OldC.start w
  replace h1 : RdC thgS.slice c w [0] vT Ts := Rd.toC h1 (fun k hk => by simp [hc, hasC])
  replace h2 : RdC strS c w [0] vR R := Rd.toC h2 (fun k hk => by simp [hc, hasC])
  clear hc
  refine enter (n := 94) (res := #[.tmp 2]) Try.func7 rfl rfl rfl rfl ?_
  refine cseq <| cregion ?_
  refine WR.eff (Eff.boxC c 101 rfl) rfl ?_
  rintro _ w1 ⟨b1, c1, rfl, hM1, hb1⟩
  replace hO := hO.mv hM1 rfl; replace h1 := h1.mv hM1 rfl; replace h2 := h2.mv hM1 rfl
  refine qq (Val.assign rfl) rfl <| cnil <| cseq <| cseq <| cregion <| qq (Val.loadBN agg50 rfl hb1.blk rfl) rfl ?_
  refine WR.eff (Eff.pureC c1 1 (Eff.call pf32 rfl (rheavy_ok h1.now h2.now))) rfl ?_
  rintro v12 w2 ⟨c2, hM2, hx2, rfl⟩
  replace hO := hO.mv hM2 rfl; replace h1 := h1.mv hM2 rfl; replace h2 := h2.mv hM2 rfl; replace hb1 := hb1.mv hM2 rfl
  refine cnil ?_
  refine WC.cond rfl (fun hc1 => ?_) (fun hc1 => ?_)
  ·try simp only [tstS] at hc1
   refine cseq <| cregion <| qq (Val.assign rfl) rfl <| cnil ?_
   refine WC.ret1 rfl rfl ?_
   exact ⟨hO.below, rfl⟩
  ·try simp only [tstS] at hc1
   obtain ⟨⟨hRl, hRt⟩, hlm⟩ := thinks_light (Ts := Ts) (R := R) (by omega)
   have w1' := within_lo (R.length : Int) 8 (by omega)
   have w2' := within_hi (R.length : Int) 8 (by omega)
   refine cskip <| cseq <| cregion ?_
   first | refine WR.val (Val.fieldAddr fld50_1 rfl) rfl ?_ | refine WR.val (Val.fieldAddrP fld50_1 rfl) rfl ?_
   refine qq (Val.loadB scl23 rfl hb1.blk rfl) rfl <| qq (Val.rdlenC sl23 h2 rfl) rfl ?_
   refine WR.eff (Eff.pureC c2 1 (Eff.call pf42 rfl (rwithin_ok (R.length : Int) 8 ⟨by omega, by omega⟩ (by omega) (by omega)))) rfl ?_
   rintro v16 w3 ⟨c3, hM3, hx3, rfl⟩
   replace hO := hO.mv hM3 rfl; replace h1 := h1.mv hM3 rfl; replace h2 := h2.mv hM3 rfl; replace hb1 := hb1.mv hM3 rfl
   refine qq (Val.addI rfl rfl (by first | omega | assumption | (simp; omega) | (simp; done)) (by first | omega | assumption | (simp; omega) | (simp; done))) rfl <| qq (Val.assign rfl) rfl <| cnil ?_
   obtain ⟨n, hn⟩ : ∃ n : Nat, 2 + within (R.length : Int) 8 = n := ⟨(2 + within (R.length : Int) 8).toNat, by omega⟩
   rw [hn]
   have hn9 : n ≤ 9 := by omega
   have hlen : ((List.range n).map (dM 121)).length = n := by simp
   have hcl := chainT_len 121 n
   have hct := chainT_texts (s := 121) hn9
   have hrt : ∀ x ∈ (List.range n).map (dM 121), x.length ≤ 140737488355328 := fun x hx => by obtain ⟨i, _, rfl⟩ := List.mem_map.1 hx; rw [show (dM 121 i).length = 32 from digestS_length _]; decide
   have hmay := chainT_may ha hn9
   have hdx : ∀ t ∈ chainT 121 n, t.digest.length ≤ 140737488355328 := fun t ht => (hct t ht).1
   have hux : ∀ d, ∀ x ∈ usersT (chainT 121 n) d, x.length ≤ 140737488355328 := fun d => usersT_texts hdx
   refine cseq <| cregion <| qq (Val.move rfl) rfl ?_
   refine WR.eff (Eff.pureC c3 6 (Eff.call pf43 rfl (chain_ok (s := 121) hn9))) rfl ?_
   rintro v20 w4 ⟨c4, hM4, hx4, ⟨vl, vo, rfl, hl, ho⟩⟩
   replace hO := hO.mv hM4 rfl; replace h1 := h1.mv hM4 rfl; replace h2 := h2.mv hM4 rfl; replace hb1 := hb1.mv hM4 rfl
   replace hl := hl.toC hx4
   replace ho := ho.toC hx4
   obtain ⟨Ao, qo, rfl, hqo, hAo⟩ := ho.own.formA
   refine qq (Val.move rfl) rfl <| qq (Val.extract rfl rfl) rfl <| qq (Val.extract rfl rfl) rfl <| qq (Val.assign rfl) rfl <| qq (Val.assign rfl) rfl <| cnil <| cseq <| cseq <| cregion ?_
   refine qq (Val.assign rfl) rfl <| cnil <| cblock ?_
   refine WC.loop (σ := Nat) (fun i => [(3, I n), (4, vl), (5, .slice Ao ((List.range n).map (dM 121)).length qo), (6, I i)]) (fun i w' => ∃ c', OldC w c' w' ∧ OwnC c' w' 6 62 3 vl (chainT 121 n).length ((chainT 121 n).flatMap encThg) ∧ OwnC c' w' 6 9 1 (.slice Ao ((List.range n).map (dM 121)).length qo) ((List.range n).map (dM 121)).length (((List.range n).map (dM 121)).flatMap fun x => [St x]) ∧ i ≤ n) (fun i => n - i) 0 (by repeat (first | exact Sub.nil _ | refine Sub.cons rfl ?_ | refine Sub.consM rfl ?_)) ⟨_, hO, hl, ho, by omega⟩ ?_
   clear hO h1 h2 hb1 hl ho
   rintro i wl ⟨cl, hO, hl, ho, hi⟩
   refine cseq <| cseq <| cregion <| qq (Val.move rfl) rfl <| qq (Val.move rfl) rfl <| qq (Val.lss rfl rfl) rfl <| cnil ?_
   refine WC.cond rfl (fun hc6 => ?_) (fun hc6 => ?_)
   ·try simp only [tstS] at hc6
    have ki : i < n := by omega
    have ki9 : i < 9 := by omega
    have hOr : RdC strS cl wl [6] _ ((List.range n).map (dM 121)) := ho.rdFlat (by omega) hrt
    obtain ⟨hc32, _⟩ := RdC.elFlat hOr (k := i) (by omega) (by decide)
    have hv1 : ([St ((List.range n).map (dM 121))[i]] : List Value) = [St (dM 121 i)] := by simp
    rw [hv1] at hc32
    have hUM := chain_users_M ha hn9 ki
    have hUB := chain_users_B ha hn9 ki
    refine cskip <| cseq <| cblock <| cseq <| cregion <| qq (Val.move rfl) rfl <| qq (Val.move rfl) rfl <| qq (Val.move rfl) rfl <| qq (Val.indexAddr sl23 hOr.now rfl rfl rfl (by omega) (by omega)) rfl ?_
    refine qq (Val.loadE1 scl9 rfl hc32.cel) rfl ?_
    refine WR.eff (Eff.pureC cl 7 (Eff.call pf45 rfl (rusers_ok (d := dM 121 i) (hl.own.rdThgs hct (by omega))))) rfl ?_
    rintro v34 w5 ⟨c5, hM5, hx5, ⟨vu, rfl, hu⟩⟩
    replace hO := hO.mv hM5 rfl; replace hl := hl.mv hM5 rfl; replace ho := ho.mv hM5 rfl; replace hOr := hOr.mv hM5 rfl; replace hc32 := hc32.mv hM5 rfl
    replace hu := hu.toC hx5
    rw [hmay, if_pos rfl] at hu
    rw [hmay, if_pos rfl]
    refine qq (Val.move rfl) rfl <| qq (Val.extract rfl rfl) rfl <| qq (Val.extract rfl rfl) rfl <| qq (Val.assign rfl) rfl <| qq (Val.assign rfl) rfl <| cnil <| cseq <| cregion <| qq (Val.move rfl) rfl ?_
    refine qq (Val.move rfl) rfl <| qq (Val.addI rfl rfl (by first | omega | assumption | (simp; omega) | (simp; done)) (by first | omega | assumption | (simp; omega) | (simp; done))) rfl <| qq (Val.convToU8I Try.underlying3 Try.underlying5 rfl) rfl ?_
    refine WR.eff (Eff.build1C c5 142 sl68 rfl rfl rfl rfl rfl) rfl ?_
    rintro _ w6 ⟨b42, c6, rfl, hM6, hb42⟩
    replace hO := hO.mv hM6 rfl; replace hl := hl.mv hM6 rfl; replace ho := ho.mv hM6 rfl; replace hOr := hOr.mv hM6 rfl; replace hc32 := hc32.mv hM6 rfl; replace hu := hu.mv hM6 rfl
    refine qq (Val.ofBytes Try.underlying68 Try.underlying9 Try.underlying5 rfl (l := [u8I (97 + (i : Int))]) (hb42.own (n := 1) (size := 1) rfl (by decide)).own) rfl <| qq (Val.sadd rfl rfl (by simp)) rfl ?_
    have eb : ([98, 108, 111, 98, 32, 121] ++ [u8I (97 + (i : Int))] : List UInt8) = blobC 121 i := by rw [u8_letter ki9]; rfl
    rw [eb]
    refine WR.eff (Eff.pureC c6 1 (Eff.call pf21 rfl (pdigest_ok (blobC 121 i) (by simp [blobC])))) rfl ?_
    rintro v45 w7 ⟨c7, hM7, hx7, rfl⟩
    replace hO := hO.mv hM7 rfl; replace hl := hl.mv hM7 rfl; replace ho := ho.mv hM7 rfl; replace hOr := hOr.mv hM7 rfl; replace hc32 := hc32.mv hM7 rfl; replace hu := hu.mv hM7 rfl
    rw [show digestS (blobC 121 i) = dB 121 i from rfl]
    refine WR.eff (Eff.pureC c7 9 (Eff.call pf45 rfl (rusers_ok (d := dB 121 i) (hl.own.rdThgs hct (by omega))))) rfl ?_
    rintro v46 w8 ⟨c8, hM8, hx8, ⟨vb, rfl, hbu⟩⟩
    replace hO := hO.mv hM8 rfl; replace hl := hl.mv hM8 rfl; replace ho := ho.mv hM8 rfl; replace hOr := hOr.mv hM8 rfl; replace hc32 := hc32.mv hM8 rfl; replace hu := hu.mv hM8 rfl
    replace hbu := hbu.toC hx8
    rw [hmay, if_pos rfl, hUB] at hbu
    rw [hmay, if_pos rfl]
    refine qq (Val.move rfl) rfl <| qq (Val.extract rfl rfl) rfl <| qq (Val.extract rfl rfl) rfl <| qq (Val.assign rfl) rfl <| qq (Val.assign rfl) rfl <| cnil <| cseq <| cseq ?_
    have hOr : RdC strS _ _ [6] _ ((List.range n).map (dM 121)) := ho.rdFlat (by omega) hrt
    have hPt := hOr.now.part (lo := i) (hi := i + 1) (by omega) (by omega)
    rw [range_slice _ ki] at hPt
    refine cregion <| qq (Val.move rfl) rfl ?_
    refine WR.eff (Eff.pureC c8 1 (Eff.call pf36 rfl (rnum_ok _))) rfl ?_
    rintro v50 w9 ⟨c9, hM9, hx9, rfl⟩
    replace hO := hO.mv hM9 rfl; replace hl := hl.mv hM9 rfl; replace ho := ho.mv hM9 rfl; replace hOr := hOr.mv hM9 rfl; replace hc32 := hc32.mv hM9 rfl; replace hu := hu.mv hM9 rfl; replace hbu := hbu.mv hM9 rfl
    have hOr : RdC strS _ _ [6] _ ((List.range n).map (dM 121)) := ho.rdFlat (by omega) hrt
    refine qq (Val.neq rfl rfl) rfl ?_
    rw [decide_eq_true rfl]
    refine qq (Val.move rfl) rfl ?_
    refine WR.onEq rfl rfl rfl ?_
    refine qq (Val.move rfl) rfl ?_
    refine WR.onEq rfl rfl rfl ?_
    refine WR.eff (Eff.pureC c9 1 (Eff.call pf36 rfl (rnum_ok _))) rfl ?_
    rintro v54 w10 ⟨c10, hM10, hx10, rfl⟩
    replace hO := hO.mv hM10 rfl; replace hl := hl.mv hM10 rfl; replace ho := ho.mv hM10 rfl; replace hOr := hOr.mv hM10 rfl; replace hc32 := hc32.mv hM10 rfl; replace hu := hu.mv hM10 rfl; replace hbu := hbu.mv hM10 rfl
    refine WR.onEq rfl rfl rfl ?_
    refine qq (Val.neq rfl rfl) rfl ?_
    rw [decide_eq_true rfl]
    refine WR.pickOn (by rfl) rfl rfl rfl ?_
    refine qq (Val.move rfl) rfl ?_
    refine WR.onEq rfl rfl rfl ?_
    refine qq (Val.move rfl) rfl ?_
    refine WR.onEq rfl rfl rfl ?_
    refine qq (Val.move rfl) rfl ?_
    refine WR.onEq rfl rfl rfl ?_
    refine qq (Val.move rfl) rfl ?_
    refine WR.onEq rfl rfl rfl ?_
    refine qq (Val.move rfl) rfl ?_
    refine WR.onEq rfl rfl rfl ?_
    refine qq (Val.addI rfl rfl (by first | omega | assumption | (simp; omega) | (simp; done)) (by first | omega | assumption | (simp; omega) | (simp; done))) rfl ?_
    refine WR.onEq rfl rfl rfl ?_
    refine qq (Val.part sl23 rfl rfl rfl (by omega) (by omega) (by omega)) rfl ?_
    have hOr : RdC strS _ _ [6] _ ((List.range n).map (dM 121)) := ho.rdFlat (by omega) hrt
    have hPt := hOr.now.part (lo := i) (hi := i + 1) (by omega) (by omega)
    rw [range_slice _ ki] at hPt
    refine WR.onEq rfl rfl rfl ?_
    refine WR.eff (Eff.pureC c10 1 (Eff.call pf37 rfl (eqStrings_ok (hbu.own.rdStrs (l := [dM 121 i]) (by intro x hx; simp at hx; subst hx; rw [show (dM 121 i).length = 32 from digestS_length _]; decide) (by simp)) hPt))) rfl ?_
    rintro v64 w11 ⟨c11, hM11, hx11, rfl⟩
    replace hO := hO.mv hM11 rfl; replace hl := hl.mv hM11 rfl; replace ho := ho.mv hM11 rfl; replace hOr := hOr.mv hM11 rfl; replace hc32 := hc32.mv hM11 rfl; replace hu := hu.mv hM11 rfl; replace hbu := hbu.mv hM11 rfl
    rw [decide_eq_true rfl]
    refine WR.onEq rfl rfl rfl ?_
    refine qq (Val.not rfl) rfl ?_
    refine WR.pickOn (by rfl) rfl rfl rfl ?_
    refine cnil ?_
    refine WC.cond_false rfl ?_
    refine cskip <| cseq ?_
    rw [hUM] at hu
    refine cregion <| qq (Val.move rfl) rfl <| qq (Val.addI rfl rfl (by first | omega | assumption | (simp; omega) | (simp; done)) (by first | omega | assumption | (simp; omega) | (simp; done))) rfl <| qq (Val.move rfl) rfl <| qq (Val.lss rfl rfl) rfl <| qq (Val.move rfl) rfl ?_
    apply WR.sc true 9 false (fun w' => ∃ c', Acc c11 w11 [] c' w')
    case hl => rfl
    case hg => rfl
    case hu => rfl
    case hv => rfl
    case hs => rfl
    case hoff => rfl
    case hd => rfl
    case hF => exact fun _ => ⟨_, Acc.refl _ _ _⟩
    case hT =>
     intro hq14
     try simp only [tstS] at hq14
     simp only [List.take_succ_cons, List.take_zero]
     have hin : i + 1 < n := by omega
     rw [if_pos hin] at hu
     have hOr : RdC strS _ _ [6] _ ((List.range n).map (dM 121)) := ho.rdFlat (by omega) hrt
     have hPt := hOr.now.part (lo := i + 1) (hi := i + 1 + 1) (by omega) (by omega)
     rw [range_slice _ hin] at hPt
     have hKsc14 := Acc.refl c11 w11 []
     refine WR.on rfl rfl ?_
     refine qq (Val.move rfl) rfl ?_
     refine WR.on rfl rfl ?_
     refine qq (Val.move rfl) rfl ?_
     refine WR.on rfl rfl ?_
     refine qq (Val.move rfl) rfl ?_
     refine WR.on rfl rfl ?_
     refine qq (Val.addI rfl rfl (by first | omega | assumption | (simp; omega) | (simp; done)) (by first | omega | assumption | (simp; omega) | (simp; done))) rfl ?_
     refine WR.on rfl rfl ?_
     refine qq (Val.move rfl) rfl ?_
     refine WR.on rfl rfl ?_
     refine qq (Val.addI rfl rfl (by first | omega | assumption | (simp; omega) | (simp; done)) (by first | omega | assumption | (simp; omega) | (simp; done))) rfl ?_
     refine WR.on rfl rfl ?_
     refine qq (Val.part sl23 rfl rfl rfl (by omega) (by omega) (by omega)) rfl ?_
     refine WR.on rfl rfl ?_
     refine WR.eff (Eff.pureC c11 1 (Eff.call pf37 rfl (eqStrings_ok (hu.own.rdStrs (l := [dM 121 (i + 1)]) (by intro x hx; simp at hx; subst hx; rw [show (dM 121 (i + 1)).length = 32 from digestS_length _]; decide) (by simp)) hPt))) rfl ?_
     rintro v79 w12 ⟨c12, hM12, hx12, rfl⟩
     replace hO := hO.mv hM12 rfl; replace hl := hl.mv hM12 rfl; replace ho := ho.mv hM12 rfl; replace hOr := hOr.mv hM12 rfl; replace hc32 := hc32.mv hM12 rfl; replace hu := hu.mv hM12 rfl; replace hbu := hbu.mv hM12 rfl; replace hKsc14 := hKsc14.mv hM12 rfl
     rw [decide_eq_true rfl]
     refine WR.on rfl rfl ?_
     refine qq (Val.not rfl) rfl ?_
     exact WR.nil ⟨rfl, Sub.drop _ 9 _ rfl rfl, _, hKsc14⟩
    rintro w13 ⟨c13, ⟨hM13⟩⟩
    replace hO := hO.mv hM13 rfl; replace hl := hl.mv hM13 rfl; replace ho := ho.mv hM13 rfl; replace hOr := hOr.mv hM13 rfl; replace hc32 := hc32.mv hM13 rfl; replace hu := hu.mv hM13 rfl; replace hbu := hbu.mv hM13 rfl
    refine qq (Val.move rfl) rfl ?_
    apply WR.sc false 9 (decide ((i : Int) + 1 = (n : Int)) && false) (fun w' => ∃ c', Acc c13 w13 [] c' w')
    case hl => rfl
    case hg => rfl
    case hu => rfl
    case hv => rfl
    case hs => rfl
    case hoff => rfl
    case hd => rfl
    case hF => exact fun _ => ⟨_, Acc.refl _ _ _⟩
    case hT =>
     intro hq25
     try simp only [tstS] at hq25
     simp only [List.take_succ_cons, List.take_zero]
     have hKsc25 := Acc.refl c13 w13 []
     refine WR.on rfl rfl ?_
     refine qq (Val.move rfl) rfl ?_
     refine WR.on rfl rfl ?_
     refine qq (Val.addI rfl rfl (by first | omega | assumption | (simp; omega) | (simp; done)) (by first | omega | assumption | (simp; omega) | (simp; done))) rfl ?_
     refine WR.on rfl rfl ?_
     refine qq (Val.move rfl) rfl ?_
     refine WR.on rfl rfl ?_
     refine qq (Val.eql rfl rfl) rfl ?_
     refine WR.on rfl rfl ?_
     refine qq (Val.move rfl) rfl ?_
     apply WR.sc true 3 false (fun w' => ∃ c', Acc c13 w13 [] c' w')
     case hl => rfl
     case hg => rfl
     case hu => rfl
     case hv => rfl
     case hs => rfl
     case hoff => rfl
     case hd => rfl
     case hF => exact fun _ => ⟨_, Acc.refl _ _ _⟩
     case hT =>
      intro hq24
      try simp only [tstS] at hq24
      simp only [List.take_succ_cons, List.take_zero]
      have hin : ¬ i + 1 < n := by omega
      rw [if_neg hin] at hu
      have hKsc24 := Acc.refl c13 w13 []
      refine WR.on rfl rfl ?_
      refine qq (Val.move rfl) rfl ?_
      refine WR.on rfl rfl ?_
      refine qq (Val.olen sl23 hu rfl) rfl ?_
      refine WR.on rfl rfl ?_
      refine qq (Val.gtr rfl rfl) rfl ?_
      exact WR.nil ⟨rfl, Sub.drop _ 3 _ rfl rfl, _, hKsc24⟩
     rintro w14 ⟨c14, ⟨hM14⟩⟩
     replace hO := hO.mv hM14 rfl; replace hl := hl.mv hM14 rfl; replace ho := ho.mv hM14 rfl; replace hOr := hOr.mv hM14 rfl; replace hc32 := hc32.mv hM14 rfl; replace hu := hu.mv hM14 rfl; replace hbu := hbu.mv hM14 rfl; replace hKsc25 := hKsc25.mv hM14 rfl
     exact WR.nil ⟨rfl, Sub.drop _ 6 _ rfl rfl, _, hKsc25⟩
    rintro w15 ⟨c15, ⟨hM15⟩⟩
    replace hO := hO.mv hM15 rfl; replace hl := hl.mv hM15 rfl; replace ho := ho.mv hM15 rfl; replace hOr := hOr.mv hM15 rfl; replace hc32 := hc32.mv hM15 rfl; replace hu := hu.mv hM15 rfl; replace hbu := hbu.mv hM15 rfl
    refine cnil ?_
    refine WC.cond rfl (fun hc12 => ?_) (fun hc12 => ?_)
    ·exfalso; simp at hc12
    ·try simp only [tstS] at hc12
     refine cskip <| cregion <| qq (Val.move rfl) rfl <| qq (Val.addI rfl rfl (by first | omega | assumption | (simp; omega) | (simp; done)) (by first | omega | assumption | (simp; omega) | (simp; done))) rfl <| qq (Val.assign rfl) rfl <| cnil ?_
     exact ⟨i + 1, (by repeat (first | exact Sub.nil _ | refine Sub.cons rfl ?_ | refine Sub.consM rfl ?_)), ⟨_, hO, hl, ho, ki⟩, by omega⟩
   ·try simp only [tstS] at hc6
    skip
    refine WC.exit rfl ?_
    refine cseq <| cregion ?_
    refine WR.eff (Eff.pureC cl 1 (Eff.call pf41 rfl (rwakes_ok))) rfl ?_
    rintro v93 w16 ⟨c16, hM16, hx16, rfl⟩
    replace hO := hO.mv hM16 rfl
    refine qq (Val.assign rfl) rfl <| cnil ?_
    refine WC.ret1 rfl rfl ?_
    exact ⟨hO.below, rfl⟩
end Go.Proofs.Ytnddlhjafkhdoaa

namespace Go.Proofs.Ytnddlhjafkhdoaa
open Go Go.Eng Go.ChangeShapes Go.WideShapes Go.ChangeAt Go.RowKit

theorem reachUsers_lifted (os : Os) (started : os.Started) (H : Type) (enc : TypeId × Value → H) :
    ReturnsInHanded {} Try.checked os 7 .any (Rows.reachUsersSpec.pre6 enc Try.prog Try.f7 Rows.reachUsersRow.domain false) (Rows.reachUsersSpec.post enc Try.prog Try.f7 false true false false) := by
  refine returnsInHanded_of_change_sized (C := Try.checked) own started (by kernel_rfl) Try.func7
    (ChangeSpec.witness6 (enc := enc) (C := Try.checked) false ⟨#[], #[.agg #[.slice none 0 0, .slice none 0 0]], []⟩ 8 (by kernel_rfl) (by kernel_rfl) (by kernel_rfl) (by kernel_rfl)) ?_
  intro W base args ds gs before hval0 hW hcnd hsz0 _
  have hval : ∀ (j : Nat) t v, Try.f7.params[j]? = some t → args[j]? = some v → Value.okWide Try.prog W .any base t v := hval0
  have hsz : (DataW.weightsEach Try.prog (Try.f7.params.toList ++ Rows.reachUsersSpec.plain.varTypes Try.prog) (ds ++ gs)).all (· ≤ reachBytes) = true := hsz0
  have hW' := hW
  obtain ⟨p, q, hA0, hV, rfl, hfz, hnd⟩ := hW
  have hA : DataW.TrodAll enc Try.prog W 0 (fun _ => true) true Try.f7.params.toList args.toList ds p := hA0
  rw [Try.params7] at hA hval hsz
  obtain ⟨v0, d0, rfl, rfl, h0⟩ := trodAll_one hA
  obtain ⟨rfl, rfl⟩ := trodVars_none hV
  clear hA0 hval0 hsz0
  simp only [List.append_nil] at hW'
  have hw : ∀ x ∈ DataW.weights Try.prog 50 d0, x ≤ reachBytes := fun x hx => by
    have := List.all_eq_true.1 hsz x (DataW.weights_mem_each (j := 0) rfl rfl x hx)
    simpa using this
  have hlt : ∀ x ∈ p, x.block < W.heap.size := fun x hx => hW'.lt x hx
  obtain ⟨vM, vT, L, T, rfl, r0, r1, _⟩ := rask_open (base := 0) (hval 0 50 v0 rfl rfl) h0 hw
  refine (reachUsers_ok r0 r1).mono fun e W' he => ?_
  obtain ⟨v, rfl, hb, rfl⟩ := he
  exact ⟨_, rfl, post_of_below (pa := p) (pv := []) hW' (fun _ _ _ => trodAll_mk1 (shut_bool Try.underlying4 true)) (fun sp hs => trodAll_mk1 (WideElems.Trod_stays laidOut (by kernel_rfl) (of_decide_eq_true (by kernel_rfl)) h0 (fun x hx => hb.same (hlt x hx)) (fun x hx => hs x hx)))
    (fun _ _ => rfl) (by simp) hb (ok_one (by kernel_rfl) rfl (okWide_bool_mk Try.underlying4 true))⟩

theorem reachUsers_holds : Rows.ReachUsersSaid :=
  OpenClaim.holds_of_wide 7 Try.f7 rfl rfl rfl rfl rfl rfl rfl ⟨rfl, rfl, rfl, rfl, rfl⟩ rfl rfl rfl rfl rfl (by kernel_rfl) Try.func7 (by kernel_rfl)
    (of_decide_eq_true (by kernel_rfl)) (by unfold Func.isWrapper; first | (rw [if_pos (by decide +kernel)]; kernel_rfl) | (rw [if_neg (by decide +kernel)]; exact ⟨rfl, rfl⟩))
    (fun os started H enc _ => reachUsers_lifted os started H enc)
#print axioms reachUsers_holds
end Go.Proofs.Ytnddlhjafkhdoaa
