/- Digests, of any text: sums. No condition. -/
import Derived.Test.YtnddlhjafkhdoaaDig5
import Derived.Test.YtnddlhjafkhdoaaMore
set_option linter.unusedSimpArgs false
set_option linter.unusedVariables false
set_option maxRecDepth 100000
namespace Silo
open Go Go.Eng
theorem outK_four (h : List Int) (k : Nat) : outK h (4 * (k + 1)) = outK h (4 * k) ++ [u8I (gW h k), u8I (gW h k / 2 ^ 8), u8I (gW h k / 2 ^ 16), u8I (gW h k / 2 ^ 24)] := by
  rw [show 4 * (k + 1) = 4 * k + 1 + 1 + 1 + 1 by omega]
  simp only [outK_succ]
  rw [show 4 * k / 4 = k by omega, show (4 * k + 1) / 4 = k by omega, show (4 * k + 1 + 1) / 4 = k by omega, show (4 * k + 1 + 1 + 1) / 4 = k by omega,
    show 4 * k % 4 = 0 by omega, show (4 * k + 1) % 4 = 1 by omega, show (4 * k + 1 + 1) % 4 = 2 by omega, show (4 * k + 1 + 1 + 1) % 4 = 3 by omega]
  simp
theorem outK_set {h : List Int} {k : Nat} (hk : k < 32) : (outK h k ++ List.replicate (32 - k) 0).set k (u8I (gW h (k / 4) / 2 ^ (8 * (k % 4)))) = outK h (k + 1) ++ List.replicate (32 - (k + 1)) 0 := by
  rw [outK_succ, List.set_append_right _ _ (by rw [outK_length]; exact Nat.le_refl _), outK_length, Nat.sub_self, show 32 - k = (32 - (k + 1)) + 1 by omega, List.replicate_succ]
  simp
end Silo
namespace Go.Eng
open Go
theorem Eff.grownC {P : Program} {env : Env} {w : World} {ty : TypeId} {op : Op} {c : Nat → Nat} {i b : Nat} {R : Value → World → Prop} (hc : c b = i) (hb : b < w.heap.size) (h : Eff P env w op ty (fun v w' => w.grownBy w' (some b) ∧ R v w')) :
    Eff P env w op ty (fun v w' => ∃ c', Mv c w c' w' [i] ∧ c' b = i ∧ R v w') := h.mono fun v w' ⟨hg, hr⟩ => by
  obtain ⟨c', hm, _⟩ := Mv.grown c i hg (fun k hk => by injection hk with hk; subst hk; exact hc)
  exact ⟨c', hm, (hm.col b hb).trans hc, hr⟩
end Go.Eng
namespace Go.Proofs.Ytnddlhjafkhdoaa
open Go Go.Eng Go.RowKit Silo TryT

set_option maxHeartbeats 1000000 in
theorem sum_ok {w : World} {b : Nat} {h : List Int} {rest : List UInt8} {n : Int} (hb : Blk w b (hashC h rest n) tHash) (hl : h.length = 8) (hr : rest.length ≤ 64) (h0 : 0 ≤ n) (hn : n < 9223372036854775808) :
    Calls Try.prog 114 #[.pointer (some ⟨b, 0, none⟩)] w (Ret fun v w' => Below w.heap.size w w' ∧ v = St (outS (blockS h rest n true))) := by
  obtain ⟨c, hOl, hc⟩ := OldC.start w
  have hb0 : BlkC c w 0 b (hashC h rest n) tHash := ⟨hb, hc b⟩
  clear hb hc
  obtain ⟨a0, a1, a2, a3, a4, a5, a6, a7, rfl⟩ := eight hl
  refine enter (n := 39) (res := #[.tmp 2]) Try.func114 rfl rfl rfl rfl ?_
  refine cseq <| cregion <| qq (Val.assign rfl) rfl <| cnil <| cseq <| cregion <| qq (Val.assign rfl) rfl <| cnil <| cseq ?_
  refine cseq ?_
  refine WC.regionD (Kp c w []) [0, 0, 0, 1, 0, 0, 0, 1, 0, 0, 0, 1, 2, 0] [0, 1, 2, 3, 4, 5, 6, 7, 8, 9, 10, 11, 13, 12] mixed (by kernel_rfl) ?_
  have hM1 := Mv.drew c w []
  have hCw := Mv.drew c w []
  generalize w.drew = w1 at hM1 hCw ⊢
  have hb00 := hb0
  replace hOl := hOl.mv hM1 rfl; replace hb0 := hb0.mv hM1 rfl
  refine qd rfl rfl rfl (fun _ => Val.move rfl) rfl <| qd rfl rfl rfl (fun _ => Val.nilCheck rfl) rfl ?_
  first | refine WD.val rfl rfl rfl (fun _ => Val.fieldAddr fld154_0 rfl) rfl ?_ | refine WD.val rfl rfl rfl (fun _ => Val.fieldAddrP fld154_0 rfl) rfl ?_
  refine qc rfl rfl rfl hCw.kp (fun W hW => Val.loadSub agg137 rfl (hb00.kp hW rfl).blk (by simp [hashC])) rfl <| qd rfl rfl rfl (fun _ => Val.move rfl) rfl <| qd rfl rfl rfl (fun _ => Val.nilCheck rfl) rfl ?_
  first | refine WD.val rfl rfl rfl (fun _ => Val.fieldAddr fld154_1 rfl) rfl ?_ | refine WD.val rfl rfl rfl (fun _ => Val.fieldAddrP fld154_1 rfl) rfl ?_
  refine qc rfl rfl rfl hCw.kp (fun W hW => Val.loadB scl9 rfl (hb00.kp hW rfl).blk rfl) rfl <| qd rfl rfl rfl (fun _ => Val.move rfl) rfl <| qd rfl rfl rfl (fun _ => Val.nilCheck rfl) rfl ?_
  first | refine WD.val rfl rfl rfl (fun _ => Val.fieldAddr fld154_2 rfl) rfl ?_ | refine WD.val rfl rfl rfl (fun _ => Val.fieldAddrP fld154_2 rfl) rfl ?_
  refine qc rfl rfl rfl hCw.kp (fun W hW => Val.loadB scl3 rfl (hb00.kp hW rfl).blk rfl) rfl <| qd rfl rfl rfl (fun _ => Val.move rfl) rfl ?_
  refine WD.eff rfl rfl rfl (Eff.pureC c 1 (Eff.call pf132 rfl (turned_ok (h := [a0, a1, a2, a3, a4, a5, a6, a7]) rfl rest hr n h0 hn true))) rfl ?_
  rintro v18 w2 ⟨c2, hM2, hx2, rfl⟩
  refine ⟨fun hC => hC.step hCw hM2 rfl, ?_⟩
  replace hCw := hCw.tr hM2 rfl
  replace hOl := hOl.mv hM2 rfl; replace hb0 := hb0.mv hM2 rfl
  refine WD.nil ?_
  clear hb00
  clear hCw
  refine cblock ?_
  have hlH := blockS_length [a0, a1, a2, a3, a4, a5, a6, a7] rest n true
  generalize blockS [a0, a1, a2, a3, a4, a5, a6, a7] rest n true = H at hlH ⊢
  refine WC.loop (σ := Nat × Value) (fun st => [(3, st.2), (18, .agg (H.map W32).toArray), (19, I st.1)]) (fun st w' => ∃ c', OldC w c' w' ∧ OwnC c' w' 1 5 1 st.2 (4 * st.1) (bytesV (outK H (4 * st.1))) ∧ st.1 ≤ 8) (fun st => 8 - st.1) (0, .slice none 0 0) (by repeat (first | exact Sub.nil _ | refine Sub.cons rfl ?_ | refine Sub.consM rfl ?_)) ⟨_, hOl, OwnC.nil _ _ _ _ _, by simp⟩ ?_
  clear hOl hb0
  rintro ⟨k, v⟩ wl ⟨cl, hOl, ho, hk⟩
  dsimp only at hOl ho hk ⊢
  refine cseq <| cregion <| qq (Val.lss rfl rfl) rfl <| cnil <| cseq ?_
  refine WC.cond rfl (fun hc3 => ?_) (fun hc3 => ?_)
  ·try simp only [tstS] at hc3
   have hk8 : k < 8 := by omega
   refine cskip <| cseq <| cblock <| cseq <| cregion <| qq (Val.indexAgg1 arr137 scl136 rfl rfl (by omega) (by omega) (gW_get (by omega))) rfl <| qq (Val.assign rfl) rfl <| cnil <| cregion ?_
   refine qq (Val.move rfl) rfl <| qq (Val.move rfl) rfl <| qq (Val.convToU8I Try.underlying136 Try.underlying5 rfl) rfl <| qq (Val.move rfl) rfl <| qq (Val.shr rfl rfl (by first | omega | assumption | (simp; omega) | (simp; done)) (by simp [IntKind.bits] <;> omega)) rfl <| qq (Val.convToU8I Try.underlying136 Try.underlying5 rfl) rfl <| qq (Val.move rfl) rfl <| qq (Val.shr rfl rfl (by first | omega | assumption | (simp; omega) | (simp; done)) (by simp [IntKind.bits] <;> omega)) rfl <| qq (Val.convToU8I Try.underlying136 Try.underlying5 rfl) rfl ?_
   refine qq (Val.move rfl) rfl <| qq (Val.shr rfl rfl (by first | omega | assumption | (simp; omega) | (simp; done)) (by simp [IntKind.bits] <;> omega)) rfl <| qq (Val.convToU8I Try.underlying136 Try.underlying5 rfl) rfl ?_
   refine WR.eff (Eff.buildC cl 134 sl68 rfl rfl rfl (by simp [Value.cells]) rfl rfl) rfl ?_
   rintro _ w3 ⟨b34, c3, rfl, hM3, hb34⟩
   replace hOl := hOl.mv hM3 rfl; replace ho := ho.mv hM3 rfl
   refine WR.eff (Eff.appendC sl68 rfl rfl ho (Src.cellsAt Try.underlying68 hb34.blk.cellsAt rfl (by repeat (first | exact List.forall_mem_nil _ | refine List.forall_mem_cons.2 ⟨by first | rfl | assumption, ?_⟩))) (by rw [maxLen_eq]; first | omega | (simp; omega)) (by first | omega | (simp; omega))) rfl ?_
   rintro v35 w4 ⟨c4, hM4, hOq⟩
   clear hb34
   replace hOl := hOl.mv hM4 rfl
   replace ho := hOq
   have e1 : bytesV (outK H (4 * k)) ++ [Value.int .u8 (u8I (gW H (k : Int).toNat)).toNat, Value.int .u8 (u8I (gW H (k : Int).toNat / 2 ^ (8 : Int).toNat)).toNat, Value.int .u8 (u8I (gW H (k : Int).toNat / 2 ^ (16 : Int).toNat)).toNat, Value.int .u8 (u8I (gW H (k : Int).toNat / 2 ^ (24 : Int).toNat)).toNat] = bytesV (outK H (4 * (k + 1))) := by
     rw [outK_four]; simp [bytesV]
   replace ho : OwnC _ _ 1 5 1 v35 (4 * k + 4) (bytesV (outK H (4 * k)) ++ [Value.int .u8 (u8I (gW H (k : Int).toNat)).toNat, Value.int .u8 (u8I (gW H (k : Int).toNat / 2 ^ (8 : Int).toNat)).toNat, Value.int .u8 (u8I (gW H (k : Int).toNat / 2 ^ (16 : Int).toNat)).toNat, Value.int .u8 (u8I (gW H (k : Int).toNat / 2 ^ (24 : Int).toNat)).toNat]) := ho
   rw [e1, show 4 * k + 4 = 4 * (k + 1) by omega] at ho
   refine qq (Val.assign rfl) rfl <| cnil <| cregion <| qq (Val.addI rfl rfl (by first | omega | assumption | (simp; omega) | (simp; done)) (by first | omega | assumption | (simp; omega) | (simp; done))) rfl <| qq (Val.move rfl) rfl <| cnil ?_
   exact ⟨(k + 1, _), (by repeat (first | exact Sub.nil _ | refine Sub.cons rfl ?_ | refine Sub.consM rfl ?_)), ⟨_, hOl, ho, by dsimp only; omega⟩, by dsimp only; omega⟩
  ·try simp only [tstS] at hc3
   have : k = 8 := by omega
   subst this
   refine WC.exit rfl ?_
   refine cseq <| cregion <| qq (Val.move rfl) rfl <| qq (Val.ofBytes Try.underlying68 Try.underlying9 Try.underlying5 rfl ho.own) rfl <| qq (Val.assign rfl) rfl <| cnil ?_
   refine WC.ret1 rfl rfl ?_
   exact ⟨hOl.below, rfl⟩
theorem of_ok {w : World} (s : List UInt8) (hs : s.length ≤ 140737488355328) : Calls Try.prog 74 #[St s] w (Ret fun v w' => Below w.heap.size w w' ∧ v = St (digestS s)) := by
  obtain ⟨c, hO, hc⟩ := OldC.start w
  clear hc
  refine enter (n := 10) (res := #[.tmp 2]) Try.func74 rfl rfl rfl rfl ?_
  refine cseq <| cregion <| qq (Val.assign rfl) rfl <| cnil <| cseq <| cregion ?_
  refine WR.eff (Eff.pureC c 7 (Eff.call pf112 rfl (new_ok))) rfl ?_
  rintro v4 w1 ⟨c1, hM1, hx1, ⟨b4, rfl, hge4, hb4⟩⟩
  replace hO := hO.mv hM1 rfl
  have hbh : BlkC _ _ 7 b4 (hashC firstH [] 0) tHash := ⟨hb4, hx1 b4 hge4⟩
  clear hb4
  refine qq (Val.assign rfl) rfl <| cnil <| cseq <| cregion <| qq (Val.move rfl) rfl <| qq (Val.move rfl) rfl ?_
  refine WR.eff (Eff.grownC hbh.col hbh.blk.lt (Eff.call pf113 rfl (write_ok hbh.blk rfl s hs))) rfl ?_
  rintro v7 w2 ⟨c2, hM2, hcb, h', rest, hl', hr', hrs, hbk, hab⟩
  replace hO := hO.mv hM2 rfl
  replace hbh : BlkC _ _ 7 b4 _ tHash := ⟨hbk, hcb⟩
  refine cnil <| cseq <| cregion <| qq (Val.move rfl) rfl ?_
  refine WR.eff (Eff.pureC c2 1 (Eff.call pf114 rfl (sum_ok hbh.blk hl' hr' (by omega) (by omega)))) rfl ?_
  rintro v9 w3 ⟨c3, hM3, hx3, rfl⟩
  replace hO := hO.mv hM3 rfl; replace hbh := hbh.mv hM3 rfl
  refine qq (Val.assign rfl) rfl <| cnil ?_
  refine WC.ret1 rfl rfl ?_
  exact ⟨hO.below, by rw [digestS, show beginsL.set 0 (x32 (gW beginsL 0) 16842784) = firstH from rfl, hab]⟩

theorem rdigest_ok {w : World} (s : List UInt8) (hs : s.length ≤ 140737488355328) : Calls Try.prog 75 #[St s] w (Ret fun v w' => Below w.heap.size w w' ∧ v = St (digestS s)) := by
  obtain ⟨c, hOl, hc⟩ := OldC.start w
  clear hc
  refine enter (n := 54) (res := #[.tmp 2]) Try.func75 rfl rfl rfl rfl ?_
  refine cseq <| cregion <| qq (Val.assign rfl) rfl <| cnil <| cseq <| cregion ?_
  refine WR.eff (Eff.pureC c 1 (Eff.call pf115 rfl (rbegins_ok))) rfl ?_
  rintro v7 w1 ⟨c1, hM1, hx1, rfl⟩
  replace hOl := hOl.mv hM1 rfl
  refine WR.eff (Eff.allocC c1 103 zero137) rfl ?_
  rintro _ w2 ⟨b3, c2, rfl, hM2, hb3⟩
  replace hOl := hOl.mv hM2 rfl
  refine WR.eff_ (Eff.storeNC agg137 rfl rfl hb3 rfl rfl (by repeat (first | exact List.forall_mem_nil _ | refine List.forall_mem_cons.2 ⟨by first | rfl | assumption, ?_⟩))) ?_
  rintro _ w3 ⟨hS, hM3⟩
  replace hOl := hOl.mv hM3 rfl
  replace hb3 := hS
  refine cnil ?_
  replace hb3 := BlkC.words (l := beginsL) hb3
  have hlb : beginsL.length = 8 := rfl
  refine cseq <| cregion <| qq (Val.indexArr arr137 rfl rfl (by first | omega | assumption | (simp; omega) | (simp; done)) (by first | omega | assumption | (simp; omega) | (simp; done))) rfl <| qq (Val.loadW scl136 rfl hb3.blk (by first | omega | assumption | (simp; omega) | (simp; done))) rfl <| qq (Val.xor_u32 rfl rfl) rfl <| qq (Val.indexArr arr137 rfl rfl (by first | omega | assumption | (simp; omega) | (simp; done)) (by first | omega | assumption | (simp; omega) | (simp; done))) rfl ?_
  refine WR.eff_ (Eff.storeW scl136 rfl rfl hb3 (by first | omega | assumption | (simp; omega) | (simp; done))) ?_
  rintro _ w4 ⟨hS, hM4⟩
  replace hOl := hOl.mv hM4 rfl
  replace hb3 := hS
  refine cnil <| cseq <| cregion <| qq (Val.assign rfl) rfl <| cnil <| cseq <| cblock ?_
  replace hb3 : BlkC _ _ 103 b3 (firstH.map W32 ++ []) d8 := hb3
  refine WC.loop (σ := List Int × Nat) (fun st => [(0, St s), (3, .pointer (some ⟨b3, 0, none⟩)), (4, I st.2)]) (fun st w' => ∃ c', OldC w c' w' ∧ BlkC c' w' 103 b3 (st.1.map W32 ++ []) d8 ∧ st.1.length = 8 ∧ st.2 ≤ s.length ∧ absorb firstH s 0 = absorb st.1 (s.drop st.2) st.2) (fun st => s.length - st.2) (firstH, 0) (by repeat (first | exact Sub.nil _ | refine Sub.cons rfl ?_ | refine Sub.consM rfl ?_)) ⟨_, hOl, hb3, rfl, by simp, rfl⟩ ?_
  clear hOl hb3 hlb
  rintro ⟨h, n⟩ wl ⟨cl, hOl, hb3, hl, hn, hab⟩
  dsimp only at hOl hb3 hl hn hab ⊢
  refine cseq <| cseq <| cregion <| qq (Val.move rfl) rfl <| qq (Val.slen Try.underlying9 rfl) rfl <| qq (Val.move rfl) rfl <| qq (Val.subI rfl rfl (by first | omega | assumption | (simp; omega) | (simp; done)) (by first | omega | assumption | (simp; omega) | (simp; done))) rfl <| qq (Val.gtr rfl rfl) rfl <| cnil ?_
  refine WC.cond rfl (fun hc4 => ?_) (fun hc4 => ?_)
  ·try simp only [tstS] at hc4
   have ht : 64 < (s.drop n).length := by simp; omega
   refine cskip <| cblock <| cseq <| cregion <| qq (Val.move rfl) rfl <| qq (Val.move rfl) rfl <| qq (Val.move rfl) rfl <| qq (Val.addI rfl rfl (by first | omega | assumption | (simp; omega) | (simp; done)) (by first | omega | assumption | (simp; omega) | (simp; done))) rfl <| qq (Val.sslice Try.underlying9 rfl rfl rfl (by omega) (by omega) (by omega)) rfl ?_
   refine qq (Val.move rfl) rfl <| qq (Val.addI rfl rfl (by first | omega | assumption | (simp; omega) | (simp; done)) (by first | omega | assumption | (simp; omega) | (simp; done))) rfl <| qq (Val.convToU64 Try.underlying3 Try.underlying141 rfl (by first | omega | assumption | (simp; omega) | (simp; done)) (by first | omega | assumption | (simp; omega) | (simp; done))) rfl ?_
   refine WR.eff (Eff.turnC hb3 (Eff.call pf116 rfl (rblock_ok hb3.blk hl ((s.drop (n : Int).toNat).take ((((n : Int) + 64).toNat) - (n : Int).toNat)) (by simp; omega) ((n : Int) + 64) (by omega) (by omega) false))) rfl ?_
   rintro v25 w5 ⟨c5, hM5, hb3⟩
   replace hOl := hOl.mv hM5 rfl
   refine cnil <| cregion <| qq (Val.move rfl) rfl <| qq (Val.addI rfl rfl (by first | omega | assumption | (simp; omega) | (simp; done)) (by first | omega | assumption | (simp; omega) | (simp; done))) rfl <| qq (Val.assign rfl) rfl <| cnil ?_
   have e1 : ((n : Int) + 64).toNat - (n : Int).toNat = 64 := by omega
   rw [e1, Int.toNat_natCast, show ((n : Int) + 64) = ((n + 64 : Nat) : Int) by omega] at hb3
   have e2 : ((n : Int) + 64) = ((n + 64 : Nat) : Int) := by omega
   rw [e2]
   exact ⟨(blockS h ((s.drop n).take 64) ((n + 64 : Nat) : Int) false, n + 64), (by repeat (first | exact Sub.nil _ | refine Sub.cons rfl ?_ | refine Sub.consM rfl ?_)), ⟨_, hOl, hb3, blockS_length _ _ _ _, by simp at ht; dsimp only; omega, by rw [hab, absorb_step ht, List.drop_drop]⟩, by simp at ht; dsimp only; omega⟩
  ·try simp only [tstS] at hc4
   have ht : ¬ 64 < (s.drop n).length := by simp; omega
   refine WC.exit rfl ?_
   refine cseq <| cregion <| qq (Val.move rfl) rfl <| qq (Val.move rfl) rfl <| qq (Val.ssliceFrom Try.underlying9 rfl rfl (by omega) (by omega)) rfl <| qq (Val.move rfl) rfl <| qq (Val.slen Try.underlying9 rfl) rfl <| qq (Val.convToU64 Try.underlying3 Try.underlying141 rfl (by first | omega | assumption | (simp; omega) | (simp; done)) (by first | omega | assumption | (simp; omega) | (simp; done))) rfl ?_
   refine WR.eff (Eff.turnC hb3 (Eff.call pf116 rfl (rblock_ok hb3.blk hl (s.drop (n : Int).toNat) (by simp; omega) (s.length : Int) (by omega) (by omega) true))) rfl ?_
   rintro v34 w6 ⟨c6, hM6, hb3⟩
   replace hOl := hOl.mv hM6 rfl
   have e3 : blockS h (s.drop (n : Int).toNat) (s.length : Int) true = absorb firstH s 0 := by
     rw [hab, absorb_last ht, Int.toNat_natCast, List.length_drop, show n + (s.length - n) = s.length by omega]
   rw [e3] at hb3
   have hlA := absorb_length _ firstH s 0 (Nat.le_refl _)
   generalize hH : absorb firstH s 0 = H at hb3 hlA
   refine cnil <| cseq <| cregion ?_
   refine WR.eff (Eff.makeC c6 135 sl68 rfl rfl (by first | omega | assumption | (simp; omega) | (simp; done)) (by first | omega | assumption | (simp; omega) | (simp; done)) (by first | omega | assumption | (simp; omega) | (simp; done))) rfl ?_
   rintro v35 w7 ⟨c7, hM7, ho35⟩
   replace hOl := hOl.mv hM7 rfl; replace hb3 := hb3.mv hM7 rfl
   refine qq (Val.assign rfl) rfl <| cnil ?_
   simp only [show Int.toNat 32 = 32 from rfl, bytesV_zero] at ho35
   refine cseq <| cseq <| cregion <| qq (Val.assign rfl) rfl <| cnil <| cblock ?_
   refine WC.loop (σ := Nat) (fun k => [(3, .pointer (some ⟨b3, 0, none⟩)), (5, v35), (6, I k)]) (fun k w' => ∃ c', OldC w c' w' ∧ BlkC c' w' 103 b3 (H.map W32 ++ []) d8 ∧ OwnC c' w' 135 5 1 v35 32 (bytesV (outK H k ++ List.replicate (32 - k) 0)) ∧ k ≤ 32) (fun k => 32 - k) 0 (by repeat (first | exact Sub.nil _ | refine Sub.cons rfl ?_ | refine Sub.consM rfl ?_)) ⟨_, hOl, hb3, ho35, by omega⟩ ?_
   clear hOl hb3 ho35
   rintro k wk ⟨ck, hOl, hb3, ho, hk⟩
   refine cseq <| cseq <| cregion <| qq (Val.move rfl) rfl <| qq (Val.lss rfl rfl) rfl <| cnil ?_
   refine WC.cond rfl (fun hc10 => ?_) (fun hc10 => ?_)
   ·try simp only [tstS] at hc10
    have hk8 : k < 32 := by omega
    refine cskip <| cseq <| cblock <| cregion <| qq (Val.move rfl) rfl <| qq (Val.move rfl) rfl <| qq (Val.move rfl) rfl <| qq (Val.quoI rfl rfl (by first | omega | assumption | (simp; omega) | (simp; done)) (by first | omega | assumption | (simp; omega) | (simp; done)) (by first | omega | assumption | (simp; omega) | (simp; done))) rfl <| qq (Val.indexArr arr137 rfl rfl (by first | omega | assumption | (simp; omega) | (simp; done)) (by first | omega | assumption | (simp; omega) | (simp; done))) rfl ?_
    refine qq (Val.loadW scl136 rfl hb3.blk (by first | omega | assumption | (simp; omega) | (simp; done))) rfl <| qq (Val.move rfl) rfl <| qq (Val.remI rfl rfl (by first | omega | assumption | (simp; omega) | (simp; done)) (by first | omega | assumption | (simp; omega) | (simp; done))) rfl <| qq (Val.mulI rfl rfl (by first | omega | assumption | (simp; omega) | (simp; done)) (by first | omega | assumption | (simp; omega) | (simp; done))) rfl <| qq (Val.shr rfl rfl (by first | omega | assumption | (simp; omega) | (simp; done)) (by simp [IntKind.bits] <;> omega)) rfl <| qq (Val.convToU8I Try.underlying136 Try.underlying5 rfl) rfl <| qq (Val.indexO sl68 ho rfl rfl (by omega) (by omega)) rfl ?_
    refine WR.eff_ (Eff.storeOC scl5 ho (by first | omega | assumption | (simp; omega) | (simp; done)) rfl rfl (by first | rfl | assumption) (by first | rfl | assumption)) ?_
    rintro _ w8 ⟨hS, hM8⟩
    replace hOl := hOl.mv hM8 rfl; replace hb3 := hb3.mv hM8 rfl
    replace ho := hS
    simp only [Int.toNat_natCast] at ho
    have e4 : ((k : Int) / 4).toNat = k / 4 := by omega
    have e5 : (8 * ((k : Int) % 4)).toNat = 8 * (k % 4) := by omega
    rw [e4, e5, bytesV_set, outK_set hk8] at ho
    refine cnil <| cregion <| qq (Val.move rfl) rfl <| qq (Val.addI rfl rfl (by first | omega | assumption | (simp; omega) | (simp; done)) (by first | omega | assumption | (simp; omega) | (simp; done))) rfl <| qq (Val.assign rfl) rfl <| cnil ?_
    exact ⟨k + 1, (by repeat (first | exact Sub.nil _ | refine Sub.cons rfl ?_ | refine Sub.consM rfl ?_)), ⟨_, hOl, hb3, ho, by omega⟩, by omega⟩
   ·try simp only [tstS] at hc10
    have : k = 32 := by omega
    subst this
    refine WC.exit rfl ?_
    refine cseq <| cregion <| qq (Val.move rfl) rfl <| qq (Val.ofBytes Try.underlying68 Try.underlying9 Try.underlying5 rfl ho.own) rfl <| qq (Val.assign rfl) rfl <| cnil ?_
    refine WC.ret1 rfl rfl ?_
    have e6 : outK H 32 ++ List.replicate (32 - 32) 0 = digestS s := by rw [← hH]; simp [digestS, outS, outK, firstH]
    exact ⟨hOl.below, by rw [e6]⟩
theorem pdigest_ok {w : World} (s : List UInt8) (hs : s.length ≤ 140737488355328) : Calls Try.prog 21 #[St s] w (Ret fun v w' => Below w.heap.size w w' ∧ v = St (digestS s)) := by
  have hK : Old w w := Old.refl w
  refine enter (n := 5) (res := #[.tmp 2]) Try.func21 rfl rfl rfl rfl ?_
  refine cseq <| cregion <| qq (Val.assign rfl) rfl <| cnil <| cseq <| cregion <| qq (Val.move rfl) rfl ?_
  refine WR.eff (Eff.call pf75 rfl (rdigest_ok s hs)) rfl ?_
  rintro v4 w1 ⟨hk1, rfl⟩
  replace hK := hK.up hk1
  refine qq (Val.assign rfl) rfl <| cnil ?_
  refine WC.ret1 rfl rfl ?_
  exact ⟨hK, rfl⟩
end Go.Proofs.Ytnddlhjafkhdoaa
