/- The disks' law: what stays. No condition. -/
import Derived.Test.YtjddnaefmikccaaAl2
set_option linter.unusedSimpArgs false
set_option linter.unusedVariables false
set_option maxRecDepth 100000
namespace Silo
open Go.Eng
/-- Two disks, of which the first is as new. -/
def St8 (l C : List Txt) (n : Nat) : Arr := ⟨[freshD 8, ⟨true, l, C⟩], 8, false, -1, n⟩
theorem st8_new : newA 2 8 = St8 (List.replicate 8 zT) (List.replicate 8 []) 0 := rfl
theorem st8_in {l C : List Txt} {n s : Nat} (hs : s < 8) : inA (St8 l C n) 1 s = true := inA_true.2 ⟨by rfl, by omega, by show (s : Int) < (8 : Nat); omega⟩
theorem st8_may (l C : List Txt) (n : Nat) : mayA (St8 l C n) (Int.toNat 1) = 0 := rfl
theorem st8_write {l C : List Txt} {n s : Nat} {t : Txt} (hs : s < 8) (ht : t.length = 64) : writeA (St8 l C n) 1 s t = (St8 l (C.set s t) (n + 1), 0) := by
  rw [writeA, if_pos (st8_in hs), if_pos ht, if_pos (st8_may l C n)]; rfl
theorem st8_flush (l C : List Txt) (n : Nat) : flushA (St8 l C n) 1 = (St8 (over l C) (List.replicate C.length []) (n + 1), 0) := by
  rw [flushA, if_pos (by rfl), if_pos (st8_may l C n)]; rfl
theorem st8_read {l C : List Txt} {n s : Nat} (hs : s < 8) : readA (St8 l C n) 1 s = (if tx C s = [] then tx l s else tx C s, 0) := by
  rw [readA, if_pos (st8_in hs), if_pos (st8_may l C n)]; rfl
theorem st8_crash (l C : List Txt) (n : Nat) (L : List Int) : crashA (St8 l C n) L = St8 (keepS L C l 0 (keysT C)) (List.replicate C.length []) n := by
  have h1 : keysT (freshD 8).cache = [] := keys_none fun j => tx_rep 8 j
  simp only [crashA, St8, crashD, h1, List.length_nil, Nat.add_zero]
  rfl
theorem st8_dirty (l C : List Txt) (n : Nat) : dirtyA (St8 l C n) = (keysT C).length := by
  have h1 : keysT (freshD 8).cache = [] := keys_none fun j => tx_rep 8 j
  simp [dirtyA, St8, h1]
theorem st8_flip (l C : List Txt) (n : Nat) : flipA (St8 l C n) 1 517 = (St8 (l.set 1 (flipT (tx l 1) 517)) C n, 0) := by
  rw [flipA, if_pos (by rfl), if_pos (by decide), if_pos (by rfl)]
  have e : (517 % (512 * ((St8 l C n).sectors : Int))).toNat = 517 := show (517 % (512 * ((8 : Nat) : Int))).toNat = 517 by decide
  simp only [e]; rfl
theorem st8_wf {l C : List Txt} {n : Nat} (hl : l.length = 8) (hC : C.length = 8) (tl : ∀ k, k < 8 → (tx l k).length = 64) (tc : ∀ k, tx C k = [] ∨ (tx C k).length = 64) (hn : n ≤ 1000) : WfA (St8 l C n) := by
  refine WfA0.wf ⟨⟨show 0 < 2 by decide, show 2 ≤ 12 by decide⟩, ⟨show 0 < 8 by decide, show 8 ≤ 2048 by decide⟩, fun k hk => ?_, ⟨show (-1 : Int) ≤ -1 by decide, show (-1 : Int) ≤ 9223372036854775807 by decide⟩⟩ (show n ≤ 4611686018427387904 by omega)
  have h2 : k < 2 := hk
  rcases (show k = 0 ∨ k = 1 by omega) with rfl | rfl
  · exact wf_fresh 8
  · exact ⟨hl, hC, tl, tc⟩
theorem tx_repl {t : Txt} {n k : Nat} (h : k < n) : tx (List.replicate n t) k = t := by simp [tx, List.getD_eq_getElem?_getD, h]
/-- A cache of which the first s sectors are there. -/
def upTo (s : Nat) (t : Txt) : List Txt := mk 8 fun j => if j < s then t else []
theorem upTo_zero (t : Txt) : upTo 0 t = List.replicate 8 [] := tx_ext (by simp [upTo, mk_len]) fun k hk => by
  rw [upTo, mk_len] at hk
  rw [upTo, tx_mk hk, tx_rep]; simp
theorem upTo_succ {s : Nat} (t : Txt) (hs : s < 8) : (upTo s t).set s t = upTo (s + 1) t := by
  rw [upTo, mk_set hs]
  refine mk_congr fun k hk => ?_
  by_cases h : k = s
  · subst h; simp
  · simp only [if_neg h, show (k < s + 1) = (k < s) from propext ⟨fun _ => by omega, fun _ => by omega⟩]
theorem upTo_all (t : Txt) : upTo 8 t = List.replicate 8 t := tx_ext (by simp [upTo, mk_len]) fun k hk => by
  rw [upTo, mk_len] at hk
  rw [upTo, tx_mk hk, if_pos hk, tx_repl hk]
theorem upTo_len (s : Nat) (t : Txt) : (upTo s t).length = 8 := mk_len _ _
theorem upTo_tx {s k : Nat} {t : Txt} (ht : t.length = 64) : tx (upTo s t) k = [] ∨ (tx (upTo s t) k).length = 64 := by
  rcases Nat.lt_or_ge k 8 with h | h
  · rw [upTo, tx_mk h]
    split
    · exact .inr ht
    · exact .inl rfl
  · exact .inl (tx_ge (by rw [upTo_len]; exact h))
theorem over_rep (l : List Txt) (hl : l.length = 8) {t : Txt} (ht : t ≠ []) : over l (List.replicate 8 t) = List.replicate 8 t := tx_ext (by rw [over_len, hl, List.length_replicate]) fun k hk => by
  rw [over_len] at hk
  rw [over_tx hk, tx_repl (by omega), if_neg ht]
theorem keys_rep {t : Txt} (ht : t ≠ []) (n : Nat) : keysT (List.replicate n t) = List.range n := by
  rw [keysT, List.length_replicate]
  refine List.filter_eq_self.2 fun k hk => ?_
  rw [tx_repl (List.mem_range.1 hk)]
  simpa using ht
theorem keepS_range (L : List Int) (old now : Txt) : ∀ m, m ≤ 8 → ∀ s, s < 8 → tx (keepS L (List.replicate 8 now) (List.replicate 8 old) 0 (List.range m)) s = if s < m ∧ pick L s = true then now else old
  | 0, _, s, hs => by rw [List.range_zero, keepS, tx_repl hs]; simp
  | m + 1, hm, s, hs => by
    rw [List.range_succ, keepS_snoc, List.length_range, Nat.zero_add]
    have ih := keepS_range L old now m (by omega) s hs
    by_cases hp : pick L m = true
    · rw [if_pos hp, tx_set (by rw [keepS_len, List.length_replicate]; omega)]
      by_cases h : s = m
      · subst h; rw [if_pos rfl, tx_repl hs, if_pos ⟨by omega, hp⟩]
      · rw [if_neg h, ih]
        simp only [show (s < m + 1) = (s < m) from propext ⟨fun _ => by omega, fun _ => by omega⟩]
    · rw [if_neg hp, ih]
      by_cases h : s = m
      · subst h; simp [hp]
      · simp only [show (s < m + 1) = (s < m) from propext ⟨fun _ => by omega, fun _ => by omega⟩]
theorem keepS_none (L : List Int) (l : List Txt) (n : Nat) : keepS L (List.replicate n []) l 0 (keysT (List.replicate n ([] : Txt))) = l := by rw [keys_none (fun j => tx_rep n j)]; rfl
theorem flip_cons (a : UInt8) (r : Txt) : flipT (a :: r) 517 = xorB a 5 :: r := rfl
theorem xorB5 (a : UInt8) : (u8I (((BitVec.ofInt 8 (a.toNat : Int)) ^^^ (BitVec.ofInt 8 32)).toNat : Int)) = xorB a 5 := by
  unfold xorB
  rfl
end Silo
namespace Go.Proofs.Ytjddnaefmikccaa
open Go Go.Eng Go.RowKit Silo TryT
set_option maxHeartbeats 4000000 in
theorem arrayStays_ok {w : World} {disks sectors : Int} {vL : Value} {L : List Act10} (h0 : Rd actS w vL L) : Calls Try.prog 3 #[.agg #[I disks, I sectors, vL]] w (Ret fun v w' => Below w.heap.size w w' ∧ v = .bool true) := by
  obtain ⟨c, hO, hc⟩ := OldC.start w
  have hL : RdC actS c w [0] vL L := Rd.toC h0 (fun k hk => by simp [hc, hasC])
  have hlen := h0.small
  have q1 := h0.oneC
  clear hc h0
  refine enter (n := 201) (res := #[.tmp 2]) Try.func3 rfl rfl rfl rfl ?_
  refine cseq <| cg ?_
  refine ve (Eff.boxC c 101 rfl) ?_
  rintro _ w1 ⟨b1, c1, rfl, hM1, hb1⟩
  replace hO := hO.mv hM1; replace hL := hL.mv hM1
  refine za rfl <| cnil <| cseq <| cseq <| cg <| vq (Val.loadBN agg24 rfl hb1.blk rfl) ?_
  refine ve (Eff.pureC c1 1 (Eff.call pf8 rfl (heavy10_ok hL.now))) ?_
  rintro v20 w2 ⟨c2, hM2, hx2, ⟨hv, rfl, hhv⟩⟩
  replace hO := hO.mv hM2; replace hL := hL.mv hM2; replace hb1 := hb1.mv hM2
  refine cnil ?_
  refine WC.cond rfl (fun hc1 => ?_) (fun hc1 => ?_)
  ·try simp only [tstS] at hc1
   refine cseq <| cg <| za rfl <| cnil ?_
   refine WC.ret1 rfl rfl ?_
   exact ⟨hO.below, rfl⟩
  ·try simp only [tstS] at hc1
   have hw := hhv hc1
   clear hhv
   refine cskip <| cseq <| cseq <| cg <| za rfl <| cnil <| cblock ?_
   refine WC.loop (σ := Nat) (fun i => [(1, .pointer (some ⟨b1, 0, none⟩)), (3, I i)]) (fun i w' => i ≤ L.length ∧ ∃ c', OldC w c' w' ∧ RdC actS c' w' [0] vL L ∧ BlkC c' w' 101 b1 [I disks, I sectors, vL] 24) (fun i => L.length - i) 0 subs ⟨by omega, _, hO, hL, hb1⟩ ?_
   clear hO hL hb1
   rintro i wl ⟨hi, cl, hO, hL, hb1⟩
   refine cseq <| cseq <| cg <| zm rfl <| vq (Val.fieldAddr fld24_2 rfl) <| vq (Val.loadB scl22 rfl hb1.blk rfl) <| vq (Val.rdlen sl22 hL.now rfl) <| vq (Val.lss rfl rfl) <| zm rfl ?_
   apply WR.sc true 2 _ (fun w' => wl = w')
   case hl | hg | hu | hv | hs | hoff | hd => rfl
   case hF => exact fun _ => rfl
   case hT =>
    intro hq8
    try simp only [tstS] at hq8
    simp only [List.take_succ_cons, List.take_zero]
    refine WR.on rfl rfl ?_
    refine zm rfl ?_
    refine WR.on rfl rfl ?_
    refine vq (Val.lss rfl rfl) ?_
    exact WR.nil ⟨rfl, Sub.drop _ 2 _ rfl rfl, rfl⟩
   rintro _ rfl
   refine cnil ?_
   refine WC.cond rfl (fun hc4 => ?_) (fun hc4 => ?_)
   ·try simp only [tstS] at hc4
    have hi' : i < L.length := by omega
    obtain ⟨cs, hc46, _, hf⟩ := RdC.el hL hi' (by decide)
    obtain ⟨vl, rfl, hl, hok⟩ := hf.now
    have hl9 : RdC intS _ _ [0] vl L[i].l := hf.imp fun w' _ ⟨vl', e1, h2, _⟩ => by simp only [List.cons.injEq] at e1; rw [e1.2.2.2.2.2.1]; exact h2
    have hsm : L[i].t.length + L[i].l.length ≤ 5000 := by
      have := Silo.sum_mem_le actW (List.getElem_mem hi')
      simp only [actW] at this hw
      omega
    clear hf hl
    obtain ⟨x, hx⟩ : ∃ x, x = L[i] := ⟨_, rfl⟩
    rw [← hx] at hc46 hl9 hsm
    clear hok hx
    refine cskip <| cseq <| cblock <| cseq <| cg ?_
    refine ve (Eff.call pf9 rfl (anew_natO (k := 2) (j := 8) hO (by omega))) ?_
    rintro v33 w3 ⟨c3, hM3, ⟨pa, rfl, hA⟩⟩
    replace hO := hO.mv hM3; replace hL := hL.mv hM3; replace hb1 := hb1.mv hM3; replace hc46 := hc46.mv hM3; replace hl9 := hl9.mv hM3
    rw [st8_new] at hA
    refine zm rfl <| vq (Val.extract rfl rfl) <| vq (Val.extract rfl rfl) <| za rfl <| za rfl <| cnil <| cseq <| cseq <| cg ?_
    refine zm rfl ?_
    refine ve (Eff.pureC c3 1 (Eff.call pf10 rfl (num10_ok _))) ?_
    rintro v37 w4 ⟨c4, hM4, hx4, rfl⟩
    replace hO := hO.mv hM4; replace hL := hL.mv hM4; replace hb1 := hb1.mv hM4; replace hc46 := hc46.mv hM4; replace hl9 := hl9.mv hM4; replace hA := hA.mv hM4
    refine vq (Val.neq rfl rfl) <| zm rfl ?_
    apply WR.sc false 2 _ (fun w' => w4 = w')
    case hl | hg | hu | hv | hs | hoff | hd => rfl
    case hF => exact fun _ => rfl
    case hT =>
     intro hq6
     try simp only [tstS] at hq6
     simp only [List.take_succ_cons, List.take_zero]
     refine WR.on rfl rfl ?_
     refine zm rfl ?_
     refine WR.on rfl rfl ?_
     refine vq (Val.peqnil Try.underlying26 rfl) ?_
     exact WR.nil ⟨rfl, Sub.drop _ 2 _ rfl rfl, rfl⟩
    rintro _ rfl
    refine cnil ?_
    refine WC.cond rfl (fun hc7 => ?_) (fun hc7 => ?_)
    ·exact absurd hc7 (by simp)
    ·try simp only [tstS] at hc7
     refine cskip <| cseq ?_
     have hc53 := hc46
     refine WC.regionD (Kp c4 w4 []) [0, 1, 0, 0, 0, 1, 2, 0, 1, 0, 0, 0, 1, 0, 2, 0, 0] [0, 1, 2, 3, 4, 5, 7, 8, 9, 10, 11, 12, 13, 6, 14, 15, 16] mixed (by kernel_rfl) ?_
     have hM5 := Mv.drew c4 w4 []
     have hCw := Mv.drew c4 w4 []
     generalize w4.drew = w5 at hM5 hCw ⊢
     have hb10 := hb1
     have hc460 := hc46
     have hc530 := hc53
     replace hO := hO.mv hM5; replace hL := hL.mv hM5; replace hb1 := hb1.mv hM5; replace hc46 := hc46.mv hM5; replace hl9 := hl9.mv hM5; replace hA := hA.mv hM5; replace hc53 := hc53.mv hM5
     refine vd rfl (fun _ => Val.fieldAddr fld24_2 rfl) <| vc rfl hCw.kp (fun W hW => Val.loadB scl22 rfl (hb10.kp hW rfl).blk rfl) <| zdm rfl rfl <| vd rfl (fun _ => Val.indexAddr sl22 hL.now rfl rfl rfl (by omega) (by omega)) <| vd rfl (fun _ => Val.fieldAddrP fld34_4 rfl) <| vc rfl hCw.kp (fun W hW => Val.loadEf scl9 rfl (hc460.kp hW rfl).cel rfl) <| vd rfl (fun _ => Val.fieldAddr fld24_2 rfl) <| vc rfl hCw.kp (fun W hW => Val.loadB scl22 rfl (hb10.kp hW rfl).blk rfl) <| zdm rfl rfl ?_
     refine vd rfl (fun _ => Val.indexAddr sl22 hL.now rfl rfl rfl (by omega) (by omega)) <| vd rfl (fun _ => Val.fieldAddrP fld34_4 rfl) <| vc rfl hCw.kp (fun W hW => Val.loadEf scl9 rfl (hc530.kp hW rfl).cel rfl) <| vd rfl (fun _ => Val.sadd rfl rfl (by simp; omega)) ?_
     refine WD.eff rfl rfl rfl (Eff.pureC c4 1 (Eff.call pf11 rfl (sector_ok (t := x.t) (by omega)))) rfl ?_
     rintro v49 w6 ⟨c6, hM6, hx6, rfl⟩
     refine ⟨fun hC => hC.step hCw hM6 rfl, ?_⟩
     replace hCw := hCw.tr hM6 rfl
     replace hO := hO.mv hM6; replace hL := hL.mv hM6; replace hb1 := hb1.mv hM6; replace hc46 := hc46.mv hM6; replace hl9 := hl9.mv hM6; replace hA := hA.mv hM6; replace hc53 := hc53.mv hM6
     refine WD.eff rfl rfl rfl (Eff.pureC c6 1 (Eff.call pf11 rfl (sector_ok (t := [110, 101, 119] ++ x.t) (by simp; omega)))) rfl ?_
     rintro v57 w7 ⟨c7, hM7, hx7, rfl⟩
     refine ⟨fun hC => hC.step hCw hM7 rfl, ?_⟩
     replace hCw := hCw.tr hM7 rfl
     replace hO := hO.mv hM7; replace hL := hL.mv hM7; replace hb1 := hb1.mv hM7; replace hc46 := hc46.mv hM7; replace hl9 := hl9.mv hM7; replace hA := hA.mv hM7; replace hc53 := hc53.mv hM7
     refine zda rfl rfl <| zda rfl rfl ?_
     refine WD.nil ?_
     clear hb10 hc460 hc530
     clear hCw
     refine cseq <| cseq <| cg <| za rfl <| cnil <| cblock ?_
     obtain ⟨old, hold⟩ : ∃ old, old = sectorT x.t := ⟨_, rfl⟩
     obtain ⟨now, hnow⟩ : ∃ now, now = sectorT ([110, 101, 119] ++ x.t) := ⟨_, rfl⟩
     have ho64 : old.length = 64 := by rw [hold]; exact sectorT_len _
     have hn64 : now.length = 64 := by rw [hnow]; exact sectorT_len _
     have hone : old ≠ [] := fun e => by rw [e] at ho64; cases ho64
     have hnne : now ≠ [] := fun e => by rw [e] at hn64; cases hn64
     rw [← hold, ← hnow]
     rw [← upTo_zero old] at hA
     refine WC.loop (σ := Nat) (fun s => [(1, .pointer (some ⟨b1, 0, none⟩)), (3, I i), (4, .pointer (some ⟨pa, 0, none⟩)), (6, St old), (7, St now), (8, I s)]) (fun s w' => s ≤ 8 ∧ ∃ c', OldC w c' w' ∧ RdC actS c' w' [0] vL L ∧ BlkC c' w' 101 b1 [I disks, I sectors, vL] 24 ∧ RdC intS c' w' [0] vl x.l ∧ CelC c' w' [0] (elemA vL actS.size (i : Int).toNat) [I x.act, I x.d, I x.s, I x.n, St x.t, vl] ∧ ArrC c' w' pa (St8 (List.replicate 8 zT) (upTo s old) s)) (fun s => 8 - s) 0 subs ⟨by omega, _, hO, hL, hb1, hl9, hc46, hA⟩ ?_
     clear hO hL hb1 hl9 hc46 hc53 hA
     rintro s wm ⟨hs, cm, hO, hL, hb1, hl9, hcA, hA⟩
     refine cseq <| cseq <| cg <| zm rfl <| vq (Val.lss rfl rfl) <| cnil ?_
     refine WC.cond rfl (fun hc11 => ?_) (fun hc11 => ?_)
     ·try simp only [tstS] at hc11
      have hs' : s < 8 := by omega
      have hwr := st8_write (l := List.replicate 8 zT) (C := upTo s old) (n := s) hs' ho64
      have hwf := st8_wf (l := List.replicate 8 zT) (C := upTo s old) (n := s) (by simp) (upTo_len _ _) (fun k hk => by rw [tx_repl hk]; rfl) (fun k => upTo_tx ho64) (by omega)
      refine cskip <| cseq <| cblock <| cseq <| cg <| zm rfl <| zm rfl <| zm rfl ?_
      refine ve (Eff.call pf12 rfl (awrite_ok (d := 1) (s := s) hA hwf)) ?_
      rintro v65 w8 ⟨c8, hM8, ⟨hA, rfl⟩⟩
      replace hO := hO.mv hM8; replace hL := hL.mv hM8; replace hb1 := hb1.mv hM8; replace hl9 := hl9.mv hM8; replace hcA := hcA.mv hM8
      rw [hwr] at hA ⊢
      rw [upTo_succ old hs'] at hA
      refine ve (Eff.pureC c8 1 (Eff.call pf10 rfl (num10_ok _))) ?_
      rintro v66 w9 ⟨c9, hM9, hx9, rfl⟩
      replace hO := hO.mv hM9; replace hL := hL.mv hM9; replace hb1 := hb1.mv hM9; replace hl9 := hl9.mv hM9; replace hcA := hcA.mv hM9; replace hA := hA.mv hM9
      refine vq (Val.neq rfl rfl) <| cnil ?_
      refine WC.cond rfl (fun hc13 => ?_) (fun hc13 => ?_)
      ·exact absurd hc13 (by simp)
      ·try simp only [tstS] at hc13
       refine cskip <| cg <| zm rfl <| vq (Val.addI rfl rfl side side) <| za rfl <| cnil ?_
       exact ⟨s + 1, subs, ⟨by omega, _, hO, hL, hb1, hl9, hcA, hA⟩, by omega⟩
     ·try simp only [tstS] at hc11
      have e : s = 8 := by omega
      subst e
      rw [upTo_all] at hA
      have hwf := st8_wf (l := List.replicate 8 zT) (C := List.replicate 8 old) (n := 8) (by simp) (by simp) (fun k hk => by rw [tx_repl hk]; rfl) (fun k => by rw [← upTo_all]; exact upTo_tx ho64) (by omega)
      have hfl := st8_flush (List.replicate 8 zT) (List.replicate 8 old) 8
      refine WC.exit rfl ?_
      refine cseq <| cseq <| cg <| zm rfl ?_
      refine ve (Eff.call pf13 rfl (aflush_ok (d := 1) hA hwf)) ?_
      rintro v69 w10 ⟨c10, hM10, ⟨hA, rfl⟩⟩
      replace hO := hO.mv hM10; replace hL := hL.mv hM10; replace hb1 := hb1.mv hM10; replace hl9 := hl9.mv hM10; replace hcA := hcA.mv hM10
      rw [hfl] at hA ⊢
      rw [over_rep _ (by simp) hone, List.length_replicate] at hA
      refine ve (Eff.pureC c10 1 (Eff.call pf10 rfl (num10_ok _))) ?_
      rintro v70 w11 ⟨c11, hM11, hx11, rfl⟩
      replace hO := hO.mv hM11; replace hL := hL.mv hM11; replace hb1 := hb1.mv hM11; replace hl9 := hl9.mv hM11; replace hcA := hcA.mv hM11; replace hA := hA.mv hM11
      refine vq (Val.neq rfl rfl) <| cnil ?_
      refine WC.cond rfl (fun hc15 => ?_) (fun hc15 => ?_)
      ·exact absurd hc15 (by simp)
      ·try simp only [tstS] at hc15
       refine cskip <| cseq <| cseq <| cg <| za rfl <| cnil <| cblock ?_
       rw [← upTo_zero now] at hA
       refine WC.loop (σ := Nat) (fun s => [(1, .pointer (some ⟨b1, 0, none⟩)), (3, I i), (4, .pointer (some ⟨pa, 0, none⟩)), (6, St old), (7, St now), (9, I s)]) (fun s w' => s ≤ 8 ∧ ∃ c', OldC w c' w' ∧ RdC actS c' w' [0] vL L ∧ BlkC c' w' 101 b1 [I disks, I sectors, vL] 24 ∧ RdC intS c' w' [0] vl x.l ∧ CelC c' w' [0] (elemA vL actS.size (i : Int).toNat) [I x.act, I x.d, I x.s, I x.n, St x.t, vl] ∧ ArrC c' w' pa (St8 (List.replicate 8 old) (upTo s now) (9 + s))) (fun s => 8 - s) 0 subs ⟨by omega, _, hO, hL, hb1, hl9, hcA, hA⟩ ?_
       clear hO hL hb1 hl9 hcA hA
       rintro s wm ⟨hs, cm, hO, hL, hb1, hl9, hcA, hA⟩
       refine cseq <| cseq <| cg <| zm rfl <| vq (Val.lss rfl rfl) <| cnil ?_
       refine WC.cond rfl (fun hc18 => ?_) (fun hc18 => ?_)
       ·try simp only [tstS] at hc18
        have hs' : s < 8 := by omega
        have hwr := st8_write (l := List.replicate 8 old) (C := upTo s now) (n := 9 + s) hs' hn64
        have hwf := st8_wf (l := List.replicate 8 old) (C := upTo s now) (n := 9 + s) (by simp) (upTo_len _ _) (fun k hk => by rw [tx_repl hk]; exact ho64) (fun k => upTo_tx hn64) (by omega)
        refine cskip <| cseq <| cblock <| cseq <| cg <| zm rfl <| zm rfl <| zm rfl ?_
        refine ve (Eff.call pf12 rfl (awrite_ok (d := 1) (s := s) hA hwf)) ?_
        rintro v79 w12 ⟨c12, hM12, ⟨hA, rfl⟩⟩
        replace hO := hO.mv hM12; replace hL := hL.mv hM12; replace hb1 := hb1.mv hM12; replace hl9 := hl9.mv hM12; replace hcA := hcA.mv hM12
        rw [hwr] at hA ⊢
        rw [upTo_succ now hs'] at hA
        refine ve (Eff.pureC c12 1 (Eff.call pf10 rfl (num10_ok _))) ?_
        rintro v80 w13 ⟨c13, hM13, hx13, rfl⟩
        replace hO := hO.mv hM13; replace hL := hL.mv hM13; replace hb1 := hb1.mv hM13; replace hl9 := hl9.mv hM13; replace hcA := hcA.mv hM13; replace hA := hA.mv hM13
        refine vq (Val.neq rfl rfl) <| cnil ?_
        refine WC.cond rfl (fun hc20 => ?_) (fun hc20 => ?_)
        ·exact absurd hc20 (by simp)
        ·try simp only [tstS] at hc20
         refine cskip <| cg <| zm rfl <| vq (Val.addI rfl rfl side side) <| za rfl <| cnil ?_
         exact ⟨s + 1, subs, ⟨by omega, _, hO, hL, hb1, hl9, hcA, hA⟩, by omega⟩
       ·try simp only [tstS] at hc18
        have e : s = 8 := by omega
        subst e
        rw [upTo_all] at hA
        have hwf := st8_wf (l := List.replicate 8 old) (C := List.replicate 8 now) (n := 17) (by simp) (by simp) (fun k hk => by rw [tx_repl hk]; exact ho64) (fun k => by rw [← upTo_all]; exact upTo_tx hn64) (by omega)
        refine WC.exit rfl ?_
        refine cseq <| cseq <| cg <| zm rfl ?_
        refine ve (Eff.pureC cm 1 (Eff.call pf14 rfl (adirty_ok hA hwf))) ?_
        rintro v83 w14 ⟨c14, hM14, hx14, rfl⟩
        replace hO := hO.mv hM14; replace hL := hL.mv hM14; replace hb1 := hb1.mv hM14; replace hl9 := hl9.mv hM14; replace hcA := hcA.mv hM14; replace hA := hA.mv hM14
        rw [st8_dirty, keys_rep hnne, List.length_range]
        refine vq (Val.neq rfl rfl) <| cnil ?_
        refine WC.cond rfl (fun hc22 => ?_) (fun hc22 => ?_)
        ·exact absurd hc22 (by simp)
        ·try simp only [tstS] at hc22
         refine cskip <| cseq ?_
         have hc89 := hcA
         have hcr := st8_crash (List.replicate 8 old) (List.replicate 8 now) 17 x.l
         rw [keys_rep hnne, List.length_replicate] at hcr
         obtain ⟨K, hK⟩ : ∃ K, K = keepS x.l (List.replicate 8 now) (List.replicate 8 old) 0 (List.range 8) := ⟨_, rfl⟩
         have hKl : K.length = 8 := by rw [hK, keepS_len]; simp
         have hKt : ∀ s, s < 8 → tx K s = if pick x.l s = true then now else old := fun s hs => by
           have h9 := keepS_range x.l old now 8 (Nat.le_refl _) s hs
           rw [← hK] at h9
           rw [h9]; simp [hs]
         have hK64 : ∀ s, s < 8 → (tx K s).length = 64 := fun s hs => by rw [hKt s hs]; split <;> assumption
         rw [← hK] at hcr
         refine cg <| zm rfl <| vq (Val.fieldAddr fld24_2 rfl) <| vq (Val.loadB scl22 rfl hb1.blk rfl) <| zm rfl <| vq (Val.indexAddr sl22 hL.now rfl rfl rfl (by omega) (by omega)) <| vq (Val.fieldAddrP fld34_5 rfl) <| vq (Val.loadEf scl32 rfl hc89.cel rfl) ?_
         refine ve (Eff.call pf15 rfl (acrash_ok hA hwf hl9 rfl (by omega))) ?_
         rintro v92 w15 ⟨c15, hM15, hA⟩
         replace hO := hO.mv hM15; replace hL := hL.mv hM15; replace hb1 := hb1.mv hM15; replace hl9 := hl9.mv hM15; replace hcA := hcA.mv hM15; replace hc89 := hc89.mv hM15
         rw [hcr] at hA
         refine cnil <| cseq <| cseq <| cg <| za rfl <| cnil <| cblock ?_
         have hwf := st8_wf (l := K) (C := List.replicate 8 []) (n := 17) hKl (by simp) hK64 (fun k => .inl (tx_rep _ _)) (by omega)
         refine WC.loop (σ := Nat) (fun s => [(1, .pointer (some ⟨b1, 0, none⟩)), (3, I i), (4, .pointer (some ⟨pa, 0, none⟩)), (6, St old), (7, St now), (10, I s)]) (fun s w' => s ≤ 8 ∧ ∃ c', OldC w c' w' ∧ RdC actS c' w' [0] vL L ∧ BlkC c' w' 101 b1 [I disks, I sectors, vL] 24 ∧ RdC intS c' w' [0] vl x.l ∧ CelC c' w' [0] (elemA vL actS.size (i : Int).toNat) [I x.act, I x.d, I x.s, I x.n, St x.t, vl] ∧ ArrC c' w' pa (St8 K (List.replicate 8 []) 17)) (fun s => 8 - s) 0 subs ⟨by omega, _, hO, hL, hb1, hl9, hcA, hA⟩ ?_
         clear hO hL hb1 hl9 hcA hc89 hA
         rintro s wm ⟨hs, cm, hO, hL, hb1, hl9, hcA, hA⟩
         refine cseq <| cseq <| cg <| zm rfl <| vq (Val.lss rfl rfl) <| cnil ?_
         refine WC.cond rfl (fun hc26 => ?_) (fun hc26 => ?_)
         ·try simp only [tstS] at hc26
          have hs' : s < 8 := by omega
          have hrd := st8_read (l := K) (C := List.replicate 8 []) (n := 17) hs'
          rw [if_pos (tx_rep _ _)] at hrd
          refine cskip <| cseq <| cblock <| cseq <| cg <| zm rfl <| zm rfl ?_
          refine ve (Eff.pureC cm 1 (Eff.call pf16 rfl (aread_ok (d := 1) (s := s) hA hwf))) ?_
          rintro v100 w16 ⟨c16, hM16, hx16, rfl⟩
          replace hO := hO.mv hM16; replace hL := hL.mv hM16; replace hb1 := hb1.mv hM16; replace hl9 := hl9.mv hM16; replace hcA := hcA.mv hM16; replace hA := hA.mv hM16
          rw [hrd]
          refine zm rfl <| vq (Val.extract rfl rfl) <| vq (Val.extract rfl rfl) <| za rfl <| za rfl <| cnil <| cseq <| cg <| zm rfl ?_
          refine za rfl <| cnil <| cseq <| cseq ?_
          have hc107 := hcA; have hc116 := hcA; have hc123 := hcA
          have hq128 : 0 < x.l.length → CelC _ _ [0] (elemA vl 1 (s % x.l.length)) [I (x.l.getD (s % x.l.length) 0)] := fun h0 => by
            have hml := Nat.mod_lt s h0
            have h1 := (RdC.elFlat hl9 hml (by decide)).1
            rw [show x.l.getD (s % x.l.length) 0 = x.l[s % x.l.length] by simp [List.getD_eq_getElem?_getD, List.getElem?_eq_getElem hml]]
            exact h1
          refine WC.regionD (Kp c16 w16 []) [0, 1, 0, 0, 0, 1, 0, 0, 0, 0, 1, 0, 0, 0, 1, 0, 0, 1, 0, 0, 0, 1, 0, 0, 0, 1, 0, 0, 0] [0, 1, 2, 3, 4, 5, 6, 7, 8, 9, 10, 11, 12, 13, 14, 15, 16, 17, 18, 19, 20, 21, 22, 23, 24, 25, 26, 27, 28] mixed (by kernel_rfl) ?_
          have hM17 := Mv.drew c16 w16 []
          have hCw := Mv.drew c16 w16 []
          generalize w16.drew = w17 at hM17 hCw ⊢
          have hb10 := hb1
          have hc1070 := hc107
          have hc1160 := hc116
          have hc1230 := hc123
          replace hO := hO.mv hM17; replace hL := hL.mv hM17; replace hb1 := hb1.mv hM17; replace hl9 := hl9.mv hM17; replace hcA := hcA.mv hM17; replace hA := hA.mv hM17; replace hc107 := hc107.mv hM17; replace hc116 := hc116.mv hM17; replace hc123 := hc123.mv hM17
          refine vd rfl (fun _ => Val.fieldAddr fld24_2 rfl) <| vc rfl hCw.kp (fun W hW => Val.loadB scl22 rfl (hb10.kp hW rfl).blk rfl) <| zdm rfl rfl <| vd rfl (fun _ => Val.indexAddr sl22 hL.now rfl rfl rfl (by omega) (by omega)) <| vd rfl (fun _ => Val.fieldAddrP fld34_5 rfl) <| vc rfl hCw.kp (fun W hW => Val.loadEf scl32 rfl (hc1070.kp hW rfl).cel rfl) <| vd rfl (fun _ => Val.rdlen sl32 hl9.now rfl) <| vd rfl (fun _ => Val.gtr rfl rfl) <| zdm rfl rfl ?_
          apply WD.sc true 19 (decide (x.l.getD (s % x.l.length) 0 % 2 = 1)) (fun w' => w17 = w')
          case hl | hi | hk | hg | hu | hv | hs | hoff | hd => rfl
          case hC => exact hCw.kp
          case hF => exact fun _ => rfl
          case hT =>
           intro hq28
           try simp only [tstS] at hq28
           simp only [List.take_succ_cons, List.take_zero]
           have h0 : 0 < x.l.length := by omega
           have hml := Nat.mod_lt s h0
           refine vd rfl (fun _ => Val.fieldAddr fld24_2 rfl) <| vc rfl hCw.kp (fun W hW => Val.loadB scl22 rfl (hb10.kp hW rfl).blk rfl) <| zdm rfl rfl <| vd rfl (fun _ => Val.indexAddr sl22 hL.now rfl rfl rfl (by omega) (by omega)) <| vd rfl (fun _ => Val.fieldAddrP fld34_5 rfl) <| vc rfl hCw.kp (fun W hW => Val.loadEf scl32 rfl (hc1160.kp hW rfl).cel rfl) <| zdm rfl rfl <| vd rfl (fun _ => Val.fieldAddr fld24_2 rfl) <| vc rfl hCw.kp (fun W hW => Val.loadB scl22 rfl (hb10.kp hW rfl).blk rfl) ?_
           refine zdm rfl rfl <| vd rfl (fun _ => Val.indexAddr sl22 hL.now rfl rfl rfl (by omega) (by omega)) <| vd rfl (fun _ => Val.fieldAddrP fld34_5 rfl) <| vc rfl hCw.kp (fun W hW => Val.loadEf scl32 rfl (hc1230.kp hW rfl).cel rfl) <| vd rfl (fun _ => Val.rdlen sl32 hl9.now rfl) <| vd rfl (fun _ => Val.remI rfl rfl (by omega) (by omega)) ?_
           rw [show ((s : Int) % (x.l.length : Int)) = ((s % x.l.length : Nat) : Int) from rfl]
           refine vd rfl (fun _ => Val.indexAddr sl32 hl9.now rfl rfl rfl (by omega) (by omega)) ?_
           rw [Int.toNat_natCast]
           refine vc rfl hCw.kp (fun W hW => Val.loadE1 scl3 rfl ((hq128 h0).kp hW rfl).cel) <| vd rfl (fun _ => Val.and1_i64 rfl rfl) <| vd rfl (fun _ => Val.eql rfl rfl) ?_
           exact WD.nil ⟨rfl, Sub.drop _ 19 _ rfl rfl, rfl⟩
          rintro _ rfl
          refine WD.nil ?_
          clear hb10 hc1070 hc1160 hc1230
          clear hCw
          refine WC.cond rfl (fun hc30 => ?_) (fun hc30 => ?_)
          ·skip
           have hpk : pick x.l s = true := by rw [← hc30]; simp [pick]
           have hks : tx K s = now := by rw [hKt s hs', if_pos hpk]
           clear hq128
           refine cg <| zm rfl <| za rfl <| cnil <| cseq ?_
           rw [hks]
           refine cg <| zm rfl ?_
           refine ve (Eff.pureC c16 1 (Eff.call pf10 rfl (num10_ok _))) ?_
           rintro v135 w18 ⟨c18, hM18, hx18, rfl⟩
           replace hO := hO.mv hM18; replace hL := hL.mv hM18; replace hb1 := hb1.mv hM18; replace hl9 := hl9.mv hM18; replace hcA := hcA.mv hM18; replace hA := hA.mv hM18; replace hc107 := hc107.mv hM18; replace hc116 := hc116.mv hM18; replace hc123 := hc123.mv hM18
           refine vq (Val.neq rfl rfl) <| zm rfl ?_
           apply WR.sc false 3 _ (fun w' => w18 = w')
           case hl | hg | hu | hv | hs | hoff | hd => rfl
           case hF => exact fun _ => rfl
           case hT =>
            intro hq7
            try simp only [tstS] at hq7
            simp only [List.take_succ_cons, List.take_zero]
            refine WR.on rfl rfl ?_
            refine zm rfl ?_
            refine WR.on rfl rfl ?_
            refine zm rfl ?_
            refine WR.on rfl rfl ?_
            refine vq (Val.sne rfl rfl) ?_
            exact WR.nil ⟨rfl, Sub.drop _ 3 _ rfl rfl, rfl⟩
           rintro _ rfl
           refine cnil ?_
           refine WC.cond rfl (fun hc32 => ?_) (fun hc32 => ?_)
           ·exact absurd hc32 (by simp)
           ·try simp only [tstS] at hc32
            refine cskip <| cg <| zm rfl <| vq (Val.addI rfl rfl side side) <| za rfl <| cnil ?_
            exact ⟨s + 1, subs, ⟨by omega, _, hO, hL, hb1, hl9, hcA, hA⟩, by omega⟩
          ·skip
           have hpk : pick x.l s = false := by rw [← hc30]; simp [pick]
           have hks : tx K s = old := by rw [hKt s hs', if_neg (by rw [hpk]; decide)]
           clear hq128
           refine cskip <| cseq ?_
           rw [hks]
           refine cg <| zm rfl ?_
           refine ve (Eff.pureC c16 1 (Eff.call pf10 rfl (num10_ok _))) ?_
           rintro v135 w19 ⟨c19, hM19, hx19, rfl⟩
           replace hO := hO.mv hM19; replace hL := hL.mv hM19; replace hb1 := hb1.mv hM19; replace hl9 := hl9.mv hM19; replace hcA := hcA.mv hM19; replace hA := hA.mv hM19; replace hc107 := hc107.mv hM19; replace hc116 := hc116.mv hM19; replace hc123 := hc123.mv hM19
           refine vq (Val.neq rfl rfl) <| zm rfl ?_
           apply WR.sc false 3 _ (fun w' => w19 = w')
           case hl | hg | hu | hv | hs | hoff | hd => rfl
           case hF => exact fun _ => rfl
           case hT =>
            intro hq7
            try simp only [tstS] at hq7
            simp only [List.take_succ_cons, List.take_zero]
            refine WR.on rfl rfl ?_
            refine zm rfl ?_
            refine WR.on rfl rfl ?_
            refine zm rfl ?_
            refine WR.on rfl rfl ?_
            refine vq (Val.sne rfl rfl) ?_
            exact WR.nil ⟨rfl, Sub.drop _ 3 _ rfl rfl, rfl⟩
           rintro _ rfl
           refine cnil ?_
           refine WC.cond rfl (fun hc32 => ?_) (fun hc32 => ?_)
           ·exact absurd hc32 (by simp)
           ·try simp only [tstS] at hc32
            refine cskip <| cg <| zm rfl <| vq (Val.addI rfl rfl side side) <| za rfl <| cnil ?_
            exact ⟨s + 1, subs, ⟨by omega, _, hO, hL, hb1, hl9, hcA, hA⟩, by omega⟩
         ·try simp only [tstS] at hc26
          refine WC.exit rfl ?_
          refine cseq ?_
          have hcr1 := st8_crash K (List.replicate 8 []) 17 [1]
          rw [keepS_none, List.length_replicate] at hcr1
          have hok1 : ∀ x ∈ [(1 : Int)], Go.Eng.Int64 x := fun x hx => by simp at hx; subst hx; exact ⟨by decide, by decide⟩
          refine cg <| zm rfl ?_
          refine ve (Eff.build1C cm 243 sl32 rfl rfl rfl rfl rfl) ?_
          rintro _ w20 ⟨b143, c20, rfl, hM20, hb143⟩
          replace hO := hO.mv hM20; replace hL := hL.mv hM20; replace hb1 := hb1.mv hM20; replace hA := hA.mv hM20
          refine ve (Eff.call pf15 rfl (acrash_ok hA hwf ((hb143.own rfl (by omega)).rdFlat (l := [1]) (by decide) hok1) rfl (by decide))) ?_
          rintro v144 w21 ⟨c21, hM21, hA⟩
          replace hO := hO.mv hM21; replace hL := hL.mv hM21; replace hb1 := hb1.mv hM21; replace hb143 := hb143.mv hM21
          rw [hcr1] at hA
          have hrd1 := st8_read (l := K) (C := List.replicate 8 []) (n := 17) (s := 1) (by omega)
          rw [if_pos (tx_rep _ _)] at hrd1
          obtain ⟨W, hW⟩ : ∃ W, W = tx K 1 := ⟨_, rfl⟩
          have hW64 : W.length = 64 := by rw [hW]; exact hK64 1 (by omega)
          rw [← hW] at hrd1
          have hfl1 := st8_flip K (List.replicate 8 []) 17
          rw [← hW] at hfl1
          obtain ⟨a, r, rfl⟩ : ∃ a r, W = a :: r := by
            cases W with
            | nil => cases hW64
            | cons a r => exact ⟨a, r, rfl⟩
          rw [flip_cons] at hfl1
          have hr63 : r.length = 63 := by simpa using hW64
          have hwf1 := st8_wf (l := K.set 1 (xorB a 5 :: r)) (C := List.replicate 8 []) (n := 17) (by rw [List.length_set]; exact hKl) (by simp) (by intro k hk; rw [tx_set (by omega)]; split; exact hW64; exact hK64 k hk) (by intro k; exact .inl (tx_rep _ _)) (by omega)
          have hrd2 := st8_read (l := K.set 1 (xorB a 5 :: r)) (C := List.replicate 8 []) (n := 17) (s := 1) (by omega)
          rw [if_pos (tx_rep _ _), tx_set (by omega), if_pos rfl] at hrd2
          refine cnil <| cseq <| cg <| zm rfl ?_
          refine ve (Eff.pureC c21 1 (Eff.call pf16 rfl (aread_ok (d := 1) (s := 1) hA hwf))) ?_
          rintro v147 w22 ⟨c22, hM22, hx22, rfl⟩
          replace hO := hO.mv hM22; replace hL := hL.mv hM22; replace hb1 := hb1.mv hM22; replace hA := hA.mv hM22; replace hb143 := hb143.mv hM22
          rw [show readA (St8 K (List.replicate 8 []) 17) 1 1 = (a :: r, 0) from hrd1]
          refine zm rfl <| vq (Val.extract rfl rfl) <| vq (Val.extract rfl rfl) <| za rfl <| za rfl <| cnil <| cseq <| cg <| zm rfl ?_
          refine ve (Eff.call pf17 rfl (aflip_ok (d := 1) (n := 517) hA hwf (by omega))) ?_
          rintro v151 w23 ⟨c23, hM23, ⟨hA, rfl⟩⟩
          replace hO := hO.mv hM23; replace hL := hL.mv hM23; replace hb1 := hb1.mv hM23; replace hb143 := hb143.mv hM23
          rw [hfl1] at hA ⊢
          refine ve (Eff.pureC c23 1 (Eff.call pf10 rfl (num10_ok _))) ?_
          rintro v152 w24 ⟨c24, hM24, hx24, rfl⟩
          replace hO := hO.mv hM24; replace hL := hL.mv hM24; replace hb1 := hb1.mv hM24; replace hA := hA.mv hM24; replace hb143 := hb143.mv hM24
          refine za rfl <| cnil <| cseq <| cg <| zm rfl ?_
          refine ve (Eff.pureC c24 1 (Eff.call pf16 rfl (aread_ok (d := 1) (s := 1) hA hwf1))) ?_
          rintro v155 w25 ⟨c25, hM25, hx25, rfl⟩
          replace hO := hO.mv hM25; replace hL := hL.mv hM25; replace hb1 := hb1.mv hM25; replace hA := hA.mv hM25; replace hb143 := hb143.mv hM25
          rw [show readA (St8 (K.set 1 (xorB a 5 :: r)) (List.replicate 8 []) 17) 1 1 = (xorB a 5 :: r, 0) from hrd2]
          refine zm rfl <| vq (Val.extract rfl rfl) <| vq (Val.extract rfl rfl) <| za rfl <| za rfl <| cnil <| cseq ?_
          refine WC.regionD (Kp c25 w25 []) [0, 2, 0, 0, 0, 0, 0, 0, 0, 2, 0, 0, 0, 0, 0, 0, 0, 0, 0, 0, 0, 0, 0, 0, 0, 0, 0, 0, 0, 0, 0, 0, 0, 0, 0, 0, 0, 0, 0, 2, 0, 0] [0, 1, 2, 3, 4, 5, 6, 7, 8, 9, 10, 11, 12, 13, 14, 15, 16, 17, 18, 19, 20, 21, 22, 23, 24, 25, 26, 27, 28, 29, 30, 31, 32, 33, 34, 35, 36, 37, 38, 39, 40, 41] mixed (by kernel_rfl) ?_
          have hM26 := Mv.drew c25 w25 []
          have hCw := Mv.drew c25 w25 []
          generalize w25.drew = w26 at hM26 hCw ⊢
          have hb10 := hb1
          replace hO := hO.mv hM26; replace hL := hL.mv hM26; replace hb1 := hb1.mv hM26; replace hA := hA.mv hM26; replace hb143 := hb143.mv hM26
          refine zdm rfl rfl ?_
          refine WD.eff rfl rfl rfl (Eff.pureC c25 1 (Eff.call pf10 rfl (num10_ok _))) rfl ?_
          rintro v159 w27 ⟨c27, hM27, hx27, rfl⟩
          refine ⟨fun hC => hC.step hCw hM27 rfl, ?_⟩
          replace hCw := hCw.tr hM27 rfl
          replace hO := hO.mv hM27; replace hL := hL.mv hM27; replace hb1 := hb1.mv hM27; replace hA := hA.mv hM27; replace hb143 := hb143.mv hM27
          refine vd rfl (fun _ => Val.neq rfl rfl) <| zdm rfl rfl ?_
          apply WD.sc false 2 _ (fun w' => w27 = w')
          case hl | hi | hk | hg | hu | hv | hs | hoff | hd => rfl
          case hC => exact hCw.kp
          case hF => exact fun _ => rfl
          case hT =>
           intro hq6
           try simp only [tstS] at hq6
           simp only [List.take_succ_cons, List.take_zero]
           refine zdm rfl rfl <| vd rfl (fun _ => Val.neq rfl rfl) ?_
           exact WD.nil ⟨rfl, Sub.drop _ 2 _ rfl rfl, rfl⟩
          rintro _ rfl
          refine zdm rfl rfl ?_
          apply WD.sc false 3 _ (fun w' => ∃ c', Acc c27 w27 [] c' w')
          case hl | hi | hk | hg | hu | hv | hs | hoff | hd => rfl
          case hC => exact hCw.kp
          case hF => exact fun _ => ⟨_, Acc.refl _ _ _⟩
          case hT =>
           intro hq11
           try simp only [tstS] at hq11
           simp only [List.take_succ_cons, List.take_zero]
           have hKsc11 := Acc.refl c27 w27 []
           refine zdm rfl rfl ?_
           refine WD.eff rfl rfl rfl (Eff.pureC c27 1 (Eff.call pf10 rfl (num10_ok _))) rfl ?_
           rintro v167 w28 ⟨c28, hM28, hx28, rfl⟩
           refine ⟨fun hC => hC.step hCw hM28 rfl, ?_⟩
           replace hCw := hCw.tr hM28 rfl
           replace hO := hO.mv hM28; replace hL := hL.mv hM28; replace hb1 := hb1.mv hM28; replace hA := hA.mv hM28; replace hb143 := hb143.mv hM28; replace hKsc11 := hKsc11.mv hM28
           refine vd rfl (fun _ => Val.neq rfl rfl) ?_
           exact WD.nil ⟨rfl, Sub.drop _ 3 _ rfl rfl, _, hKsc11⟩
          rintro w29 ⟨c29, ⟨hM29⟩⟩
          replace hCw := hCw.tr hM29 rfl
          replace hO := hO.mv hM29; replace hL := hL.mv hM29; replace hb1 := hb1.mv hM29; replace hA := hA.mv hM29; replace hb143 := hb143.mv hM29
          refine zdm rfl rfl ?_
          apply WD.sc false 3 _ (fun w' => w29 = w')
          case hl | hi | hk | hg | hu | hv | hs | hoff | hd => rfl
          case hC => exact hCw.kp
          case hF => exact fun _ => rfl
          case hT =>
           intro hq16
           try simp only [tstS] at hq16
           simp only [List.take_succ_cons, List.take_zero]
           refine zdm rfl rfl <| vd rfl (fun _ => Val.slen Try.underlying9 rfl) <| vd rfl (fun _ => Val.neq rfl rfl) ?_
           exact WD.nil ⟨rfl, Sub.drop _ 3 _ rfl rfl, rfl⟩
          rintro _ rfl
          refine zdm rfl rfl ?_
          apply WD.sc false 3 _ (fun w' => w29 = w')
          case hl | hi | hk | hg | hu | hv | hs | hoff | hd => rfl
          case hC => exact hCw.kp
          case hF => exact fun _ => rfl
          case hT =>
           intro hq21
           try simp only [tstS] at hq21
           simp only [List.take_succ_cons, List.take_zero]
           refine zdm rfl rfl <| vd rfl (fun _ => Val.slen Try.underlying9 rfl) <| vd rfl (fun _ => Val.neq rfl rfl) ?_
           exact WD.nil ⟨rfl, Sub.drop _ 3 _ rfl rfl, rfl⟩
          rintro _ rfl
          refine zdm rfl rfl ?_
          apply WD.sc false 6 _ (fun w' => w29 = w')
          case hl | hi | hk | hg | hu | hv | hs | hoff | hd => rfl
          case hC => exact hCw.kp
          case hF => exact fun _ => rfl
          case hT =>
           intro hq29
           try simp only [tstS] at hq29
           simp only [List.take_succ_cons, List.take_zero]
           refine zdm rfl rfl <| vd rfl (fun _ => Val.sindex Try.underlying9 rfl rfl (by omega) rfl) <| zdm rfl rfl <| vd rfl (fun _ => Val.sindex Try.underlying9 rfl rfl (by omega) rfl) <| vd rfl (fun _ => Val.xorU8 rfl rfl) ?_
           rw [xorB5]
           refine vd rfl (fun _ => Val.neq rfl rfl) ?_
           exact WD.nil ⟨rfl, Sub.drop _ 6 _ rfl rfl, rfl⟩
          rintro _ rfl
          refine zdm rfl rfl ?_
          apply WD.sc false 5 _ (fun w' => w29 = w')
          case hl | hi | hk | hg | hu | hv | hs | hoff | hd => rfl
          case hC => exact hCw.kp
          case hF => exact fun _ => rfl
          case hT =>
           intro hq36
           try simp only [tstS] at hq36
           simp only [List.take_succ_cons, List.take_zero]
           refine zdm rfl rfl <| vd rfl (fun _ => Val.ssliceFrom Try.underlying9 rfl rfl (by omega) (by simp only [List.length_cons]; omega)) <| zdm rfl rfl <| vd rfl (fun _ => Val.ssliceFrom Try.underlying9 rfl rfl (by omega) (by simp only [List.length_cons]; omega)) <| vd rfl (fun _ => Val.sne rfl rfl) ?_
           exact WD.nil ⟨rfl, Sub.drop _ 5 _ rfl rfl, rfl⟩
          rintro _ rfl
          refine zdm rfl rfl ?_
          apply WD.sc false 3 _ (fun w' => ∃ c', Acc c29 w29 [] c' w')
          case hl | hi | hk | hg | hu | hv | hs | hoff | hd => rfl
          case hC => exact hCw.kp
          case hF => exact fun _ => ⟨_, Acc.refl _ _ _⟩
          case hT =>
           intro hq41
           try simp only [tstS] at hq41
           simp only [List.take_succ_cons, List.take_zero]
           have hKsc41 := Acc.refl c29 w29 []
           refine zdm rfl rfl ?_
           refine WD.eff rfl rfl rfl (Eff.pureC c29 1 (Eff.call pf14 rfl (adirty_ok hA hwf1))) rfl ?_
           rintro v197 w30 ⟨c30, hM30, hx30, rfl⟩
           refine ⟨fun hC => hC.step hCw hM30 rfl, ?_⟩
           replace hCw := hCw.tr hM30 rfl
           replace hO := hO.mv hM30; replace hL := hL.mv hM30; replace hb1 := hb1.mv hM30; replace hA := hA.mv hM30; replace hb143 := hb143.mv hM30; replace hKsc41 := hKsc41.mv hM30
           rw [st8_dirty, show keysT (List.replicate 8 ([] : Txt)) = [] from keys_none (tx_rep 8)]
           refine vd rfl (fun _ => Val.neq rfl rfl) ?_
           exact WD.nil ⟨rfl, Sub.drop _ 3 _ rfl rfl, _, hKsc41⟩
          rintro w31 ⟨c31, ⟨hM31⟩⟩
          replace hCw := hCw.tr hM31 rfl
          replace hO := hO.mv hM31; replace hL := hL.mv hM31; replace hb1 := hb1.mv hM31; replace hA := hA.mv hM31; replace hb143 := hb143.mv hM31
          refine WD.nil ?_
          clear hb10
          clear hCw
          refine WC.cond rfl (fun hc38 => ?_) (fun hc38 => ?_)
          ·exact absurd hc38 (by simp [hr63])
          ·try simp only [tstS] at hc38
           refine cskip <| cg <| zm rfl <| vq (Val.addI rfl rfl side side) <| za rfl <| cnil ?_
           exact ⟨i + 1, subs, ⟨by omega, _, hO, hL, hb1⟩, by omega⟩
   ·try simp only [tstS] at hc4
    refine WC.exit rfl ?_
    refine cseq <| cg ?_
    refine ve (Eff.pureC cl 1 (Eff.call pf18 rfl (wakes10_ok))) ?_
    rintro v200 w32 ⟨c32, hM32, hx32, rfl⟩
    replace hO := hO.mv hM32; replace hL := hL.mv hM32; replace hb1 := hb1.mv hM32
    refine za rfl <| cnil ?_
    refine WC.ret1 rfl rfl ?_
    exact ⟨hO.below, rfl⟩
end Go.Proofs.Ytjddnaefmikccaa
