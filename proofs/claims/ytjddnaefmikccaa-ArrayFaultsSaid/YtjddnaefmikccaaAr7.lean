/- Disks: turned, new. No condition. -/
import Derived.Test.YtjddnaefmikccaaAr6
set_option linter.unusedSimpArgs false
set_option linter.unusedVariables false
set_option maxRecDepth 100000
namespace Silo
open Go.Eng
theorem getD_get {l : Txt} {k : Nat} (h : k < l.length) : l.getD k 0 = l[k] := by simp [List.getD_eq_getElem?_getD, List.getElem?_eq_getElem h]
end Silo
namespace Go.Eng
open Go Go.RowKit
theorem OwnC.rdBA {c : Nat → Nat} {w : World} {i : Nat} {e : TypeId} {v : Value} {n : Nat} {l : List UInt8} (h : OwnC c w i e 1 v n (bytesV l)) (hl : l.length ≤ 140737488355328) : RdC byteS c w [i] v l := fun w' hs hk =>
  (h.foot w' hs hk).rdBytes hl
end Go.Eng
namespace Go.Proofs.Ytjddnaefmikccaa
open Go Go.Eng Go.RowKit Silo TryT
section
variable {c : Nat → Nat} {w : World} {p : Nat} {A : Arr} {d : Int}
set_option maxHeartbeats 1000000 in
theorem aflip_ok (h : ArrC c w p A) (hW : WfA A) {n : Int} (hn : n ≤ 9223372036854775807) : Calls Try.prog 17 #[.pointer (some ⟨p, 0, none⟩), I d, I n] w (Ret fun u w' => ∃ c', Mv c w c' w' colA ∧ ArrC c' w' p (flipA A d n).1 ∧ u = I (flipA A d n).2) := by
  have hA := h
  obtain ⟨v, X, hb0, hD⟩ := h
  have hJ := OldJ.start c w colA
  replace hb0 := hb0.inn (J := colA) rfl
  replace hD := hD.inn
  replace hA := hA.inn
  obtain ⟨A0, cp, rfl, hl1, hl2⟩ := hD.form
  have hXl := hD.len
  have z1 := hW.sec
  generalize mask c colA = c0 at hJ hb0 hD hA
  refine enter (n := 71) (res := #[.tmp 6]) Try.func17 rfl rfl rfl rfl ?_
  refine cseq <| cg <| za rfl <| cnil <| cseq <| cblock <| cseq <| cg <| zm rfl ?_
  refine zm rfl ?_
  refine ve (Eff.pureC c0 1 (Eff.call pf28 rfl (ais_ok hA))) ?_
  rintro v12 w1 ⟨c1, hM1, hx1, rfl⟩
  replace hJ := hJ.mv hM1; replace hb0 := hb0.mv hM1; replace hD := hD.mv hM1; replace hA := hA.mv hM1
  refine vq (Val.not rfl) <| za rfl <| cnil ?_
  refine WC.cond rfl (fun hc1 => ?_) (fun hc1 => ?_)
  ·try simp only [tstS] at hc1
   refine cseq <| cg <| za rfl <| cnil ?_
   refine WC.ret1 rfl rfl ?_
   exact ⟨_, hJ.out, by simpa [flipA, hc1] using hA.out hJ, by simp [flipA, hc1]⟩
  ·try simp only [tstS] at hc1
   obtain ⟨k, rfl, hk⟩ := isA_nat hc1
   have hx := hW.each _ (List.mem_of_getElem? (dskA_at hk))
   obtain ⟨lv, m, hX⟩ := hD.at_ (dskA_at hk)
   refine cseq <| cg <| zm rfl <| vq (Val.lss rfl rfl) <| za rfl <| cnil ?_
   refine WC.cond rfl (fun hc3 => ?_) (fun hc3 => ?_)
   ·try simp only [tstS] at hc3
    refine cseq <| cg <| za rfl <| cnil ?_
    refine WC.ret1 rfl rfl ?_
    exact ⟨_, hJ.out, by simpa [flipA, hc1, show ¬ 0 ≤ n by omega] using hA.out hJ, by simp [flipA, hc1, show ¬ 0 ≤ n by omega]⟩
   ·try simp only [tstS] at hc3
    have hc23 := hD.cel hX
    refine cseq <| cg <| zm rfl <| vq (Val.nilCheck rfl) <| vq (Val.fieldAddr fld58_0 rfl) <| vq (Val.loadB scl56 rfl hb0.blk rfl) <| zm rfl <| vq (Val.indexO sl56 hD.own rfl rfl (by omega) (by omega)) <| vq (Val.fieldAddrP fld62_0 rfl) ?_
    refine vq (Val.loadEf scl4 rfl hc23.cel rfl) <| vq (Val.not rfl) <| za rfl <| cnil ?_
    refine WC.cond rfl (fun hc5 => ?_) (fun hc5 => ?_)
    ·try simp only [tstS] at hc5
     refine cseq <| cg <| za rfl <| cnil ?_
     refine WC.ret1 rfl rfl ?_
     exact ⟨_, hJ.out, by simpa [flipA, hc1, hc5, show 0 ≤ n by omega] using hA.out hJ, by simp [flipA, hc1, hc5, show 0 ≤ n by omega]⟩
    ·try simp only [tstS] at hc5
     refine cskip <| cseq ?_
     have hc41 := hc23; have hc64 := hc23
     have hrw := hD.row hX (dskA_at hk)
     obtain ⟨q, hq⟩ : ∃ q : Nat, q = (n % (512 * A.sectors)).toNat := ⟨_, rfl⟩
     have hq1 : n % (512 * (A.sectors : Int)) = (q : Int) := by rw [hq]; exact (Int.toNat_of_nonneg (Int.emod_nonneg _ (by omega))).symm
     have hq2 : q < 512 * A.sectors := by have := Int.emod_lt_of_pos n (show (0 : Int) < 512 * A.sectors by omega); omega
     have hqs : q / 512 < A.sectors := by omega
     have z3 := hx.ll
     have hc45 := hrw.elemT (j := ((q / 512 : Nat) : Int).toNat) (by omega)
     obtain ⟨t, ht⟩ : ∃ t, t = tx (dskA A k).l (q / 512) := ⟨_, rfl⟩
     have htl : t.length = 64 := by rw [ht]; exact hx.tl _ hqs
     have e45 : tx (dskA A k).l ((q / 512 : Nat) : Int).toNat = t := ht.symm
     rw [e45] at hc45
     have hac : q / 8 % 64 < t.length := by omega
     refine cg <| zm rfl <| zm rfl <| vq (Val.nilCheck rfl) <| vq (Val.fieldAddr fld58_1 rfl) <| vq (Val.loadB scl3 rfl hb0.blk rfl) <| vq (Val.mulI rfl rfl side side) <| vq (Val.remI rfl rfl (by omega) (by omega)) ?_
     rw [hq1]
     refine za rfl <| cnil <| cseq <| cg <| zm rfl <| vq (Val.quoI rfl rfl (by omega) (by omega) (by omega)) ?_
     rw [show ((q : Int) / 512) = ((q / 512 : Nat) : Int) by omega]
     refine za rfl <| cnil <| cseq <| cg <| zm rfl <| vq (Val.nilCheck rfl) <| vq (Val.fieldAddr fld58_0 rfl) <| vq (Val.loadB scl56 rfl hb0.blk rfl) <| zm rfl ?_
     refine vq (Val.indexO sl56 hD.own rfl rfl (by omega) (by omega)) <| vq (Val.fieldAddrP fld62_1 rfl) <| vq (Val.loadEf scl59 rfl hc41.cel rfl) <| zm rfl <| vq (Val.indexO sl59 hrw rfl rfl (by omega) (by omega)) <| vq (Val.loadE1 scl9 rfl hc45.cel) ?_
     refine ve (Eff.toBytesC c1 147 Try.underlying9 Try.underlying64 Try.underlying5 rfl mxl) ?_
     rintro v47 w2 ⟨c2, hM2, ho47⟩
     replace hJ := hJ.mv hM2; replace hb0 := hb0.mv hM2; replace hD := hD.mv hM2; replace hc41 := hc41.mv hM2; replace hc64 := hc64.mv hM2; replace hrw := hrw.mv hM2; replace hc45 := hc45.mv hM2
     refine za rfl <| cnil <| cseq ?_
     rw [htl] at ho47
     have hB := ho47.rdBA (by omega)
     obtain ⟨hc52, _⟩ := RdC.elFlat (n := 1) (enc := fun b : UInt8 => [Value.int .u8 b.toNat]) (ok := fun _ => True) hB hac (by decide)
     refine WC.regionD (Kp c2 w2 []) [0, 0, 0, 0, 0, 1, 0, 0, 0, 0, 0, 3] [0, 1, 2, 3, 4, 5, 6, 7, 8, 9, 10, 11] mixed (by kernel_rfl) ?_
     have hM3 := Mv.drew c2 w2 []
     have hCw := Mv.drew c2 w2 []
     generalize w2.drew = w3 at hM3 hCw ⊢
     have hb00 := hb0
     have hc640 := hc64
     have hc520 := hc52
     replace hJ := hJ.mv hM3; replace hb0 := hb0.mv hM3; replace hD := hD.mv hM3; replace hc64 := hc64.mv hM3; replace hrw := hrw.mv hM3; replace ho47 := ho47.mv hM3; replace hc52 := hc52.mv hM3
     refine zdm rfl rfl <| zdm rfl rfl <| vd rfl (fun _ => Val.quoI rfl rfl (by omega) (by omega) (by omega)) <| vd rfl (fun _ => Val.remI rfl rfl (by omega) (by omega)) ?_
     rw [show ((q : Int) / 8 % 64) = ((q / 8 % 64 : Nat) : Int) by omega]
     refine vd rfl (fun _ => Val.indexO sl64 ho47 rfl rfl (by omega) (by omega)) ?_
     rw [Int.toNat_natCast]
     refine vc rfl hCw.kp (fun W hW => Val.loadE1 scl5 rfl (hc520.kp hW rfl).cel) <| zdm rfl rfl <| vd rfl (fun _ => Val.remI rfl rfl (by omega) (by omega)) ?_
     rw [show ((q : Int) % 8) = ((q % 8 : Nat) : Int) by omega]
     refine vd rfl (fun _ => Val.shl rfl rfl (by omega) (by simp [IntKind.bits]; omega)) ?_
     rw [Int.toNat_natCast]
     refine vd rfl (fun _ => Val.xorU8 rfl rfl) <| vd rfl (fun _ => Val.indexO sl64 ho47 rfl rfl (by omega) (by omega)) ?_
     rw [Int.toNat_natCast]
     refine WD.wild rfl rfl rfl (Eff.storeOC scl5 ho47 side rfl rfl ra ra) ?_
     rintro _ w4 ⟨hS, hM4⟩
     replace hJ := hJ.mv hM4; replace hb0 := hb0.mv hM4; replace hD := hD.mv hM4; replace hc64 := hc64.mv hM4; replace hrw := hrw.mv hM4
     replace ho47 := hS
     rw [bytesV_set] at ho47
     refine WD.nil ?_
     clear hb00 hc640 hc520
     clear hCw
     refine cseq ?_
     have hft : t.set (q / 8 % 64) (u8I (((BitVec.ofInt 8 (t[q / 8 % 64].toNat : Int)) ^^^ (BitVec.ofInt 8 (IntKind.u8.wrap (1 * 2 ^ (q % 8))))).toNat : Int)) = flipT t q := by rw [flipT, xorB, getD_get hac]
     rw [hft] at ho47
     refine WC.regionD (Kp c2 w4 []) [0, 0, 0, 1, 0, 0, 0, 1, 0, 0, 1, 0, 3] [0, 1, 2, 3, 4, 5, 6, 7, 8, 9, 10, 11, 12] mixed (by kernel_rfl) ?_
     have hM5 := Mv.drew c2 w4 []
     have hCw := Mv.drew c2 w4 []
     generalize w4.drew = w5 at hM5 hCw ⊢
     have hb00 := hb0
     have ho470 := ho47
     have hc640 := hc64
     replace hJ := hJ.mv hM5; replace hb0 := hb0.mv hM5; replace hD := hD.mv hM5; replace hc64 := hc64.mv hM5; replace hrw := hrw.mv hM5; replace ho47 := ho47.mv hM5
     refine zdm rfl rfl <| vd rfl (fun _ => Val.nilCheck rfl) <| vd rfl (fun _ => Val.fieldAddr fld58_0 rfl) <| vc rfl hCw.kp (fun W hW => Val.loadB scl56 rfl (hb00.kp hW rfl).blk rfl) <| zdm rfl rfl <| vd rfl (fun _ => Val.indexO sl56 hD.own rfl rfl (by omega) (by omega)) <| vd rfl (fun _ => Val.fieldAddrP fld62_1 rfl) <| vc rfl hCw.kp (fun W hW => Val.loadEf scl59 rfl (hc640.kp hW rfl).cel rfl) <| zdm rfl rfl ?_
     refine zdm rfl rfl <| vc rfl hCw.kp (fun W hW => Val.ofBytes Try.underlying64 Try.underlying9 Try.underlying5 rfl (ho470.kp hW rfl).own) <| vd rfl (fun _ => Val.indexO sl59 hrw rfl rfl (by omega) (by omega)) ?_
     refine WD.wild rfl rfl rfl ((Eff.diskStore (x1 := .tmp 70) (y := .tmp 69) scl9 hD hX (dskA_at hk) rfl rfl (by omega))) ?_
     rintro _ w6 ⟨c6, hM6, hD⟩
     replace hJ := hJ.mv hM6; replace hb0 := hb0.mv hM6; replace hc64 := hc64.mv hM6; replace ho47 := ho47.mv hM6
     refine WD.nil ?_
     clear hb00 ho470 hc640
     clear hCw
     refine cseq <| cg <| za rfl <| cnil ?_
     refine WC.ret1 rfl rfl ?_
     have e9 : flipA A k n = (setD A k { dskA A k with l := (dskA A k).l.set (q / 512) (flipT t q) }, 0) := by
       rw [flipA, if_pos hc1, if_pos (by omega), show ((k : Int)).toNat = k from rfl, if_pos hc5]
       dsimp only
       rw [← hq, ht]
     rw [e9]
     exact ⟨_, hJ.out, ⟨_, _, hb0.out hJ rfl, hD.out hJ⟩, rfl⟩
end
end Go.Proofs.Ytjddnaefmikccaa
namespace Go.Eng
open Go Go.RowKit Silo
section
variable {c c' : Nat → Nat} {w : World} (hc : ∀ k i, i ≠ 0 → c k = i → c' k = i)
include hc
theorem BlkC.re {i b : Nat} {cs : List Value} {t : TypeId} (h : BlkC c w i b cs t) (h0 : i ≠ 0 := by decide) : BlkC c' w i b cs t := ⟨h.blk, hc _ _ h0 h.col⟩
theorem OwnC.re {i : Nat} {e : TypeId} {size n : Nat} {v : Value} {xs : List Value} (h : OwnC c w i e size v n xs) (h0 : i ≠ 0 := by decide) : OwnC c' w i e size v n xs := ⟨h.own, fun k hk => hc _ _ h0 (h.col k hk)⟩
theorem MapC.re {i b : Nat} {C : List Txt} (h : MapC c w i b C) (h0 : i ≠ 0 := by decide) : MapC c' w i b C := ⟨h.obj, hc _ _ h0 h.col⟩
theorem RowsC.re {i : Nat} {t : TypeId} {vs : List Value} {L : List (List Txt)} (h : RowsC c w i t vs L) (h0 : i ≠ 0 := by decide) : RowsC c' w i t vs L := ⟨h.len, fun j v l h1 h2 => (h.row j v l h1 h2).re hc h0, h.apart⟩
theorem MapsC.re {i : Nat} {ms : List Nat} {L : List (List Txt)} (h : MapsC c w i ms L) (h0 : i ≠ 0 := by decide) : MapsC c' w i ms L := ⟨h.len, fun j v l h1 h2 => (h.row j v l h1 h2).re hc h0, h.apart⟩
theorem DisksX.re {v : Value} {X : List DX} {D : List Dsk} (h : DisksX c w v X D) : DisksX c' w v X D := ⟨h.live, h.own.re hc, h.rows.re hc, h.maps.re hc⟩
theorem ArrC.re {p : Nat} {A : Arr} (h : ArrC c w p A) : ArrC c' w p A := by
  obtain ⟨v, X, a, b⟩ := h
  exact ⟨v, X, a.re hc, b.re hc⟩
end
theorem OldJ.back0 {c0 c : Nat → Nat} {w0 w : World} (h : OldJ c0 w0 [] c w) : ∀ k i, i ≠ 0 → c k = i → back c0 w0 c k = i := fun k i h0 hk => by
  unfold back
  split
  · rename_i hlt
    rw [h.col k hlt] at hk
    exact absurd hk.symm h0
  · exact hk
theorem DisksX.snoc {c : Nat → Nat} {w : World} {v : Value} {X : List DX} {D : List Dsk} {x : Dsk} {lv : Value} {m : Nat} (h1 : X.map (·.1) = D.map (·.live)) (h2 : OwnC c w 61 62 3 v (X.length + 1) (X.flatMap encD ++ [.bool x.live, lv, .map (some m)]))
    (h3 : RowsC c w 62 9 (X.map (·.2.1)) (D.map (·.l))) (h4 : MapsC c w 63 (X.map (·.2.2)) (D.map (·.cache))) (ho : OwnC c w 62 9 1 lv x.l.length (x.l.map St)) (hm : MapC c w 63 m x.cache)
    (hn1 : ∀ (j : Nat) (u : Value) (l : List Txt) (b : Nat), (X.map (·.2.1))[j]? = some u → (D.map (·.l))[j]? = some l → u.rowOf = some b → lv.rowOf ≠ some b) (hn2 : ∀ u ∈ X.map (·.2.2), m ≠ u) : DisksX c w v (X ++ [(x.live, lv, m)]) (D ++ [x]) := by
  refine ⟨by simp [h1], ?_, ?_, ?_⟩
  · rw [List.length_append, List.flatMap_append]; exact h2
  · rw [List.map_append, List.map_append]; exact h3.snoc ho hn1
  · rw [List.map_append, List.map_append]; exact h4.snoc hm hn2
end Go.Eng
namespace Go.Proofs.Ytjddnaefmikccaa
open Go Go.Eng Go.RowKit Silo TryT
set_option maxHeartbeats 1000000 in
theorem anew_ok {c : Nat → Nat} {w : World} {n s : Int} : Calls Try.prog 9 #[I n, I s] w (Ret fun u w' => ∃ c', Mv c w c' w' [] ∧
    ((∃ k j p : Nat, n = k ∧ s = j ∧ (1 ≤ k ∧ k ≤ 12 ∧ 1 ≤ j ∧ j ≤ 2048) ∧ u = .tuple #[.pointer (some ⟨p, 0, none⟩), I 0] ∧ ArrC c' w' p (newA k j)) ∨ (¬ (1 ≤ n ∧ n ≤ 12 ∧ 1 ≤ s ∧ s ≤ 2048) ∧ u = .tuple #[.pointer none, I 1]))) := by
  have hJ := OldJ.start c w []
  generalize mask c [] = c0 at hJ
  refine enter (n := 40) (res := #[.tmp 4, .tmp 5]) Try.func9 rfl rfl rfl rfl ?_
  refine cseq <| cg <| za rfl <| za rfl <| cnil <| cseq <| cseq <| cg <| zm rfl ?_
  refine vq (Val.lss rfl rfl) <| zm rfl ?_
  apply WR.sc false 2 _ (fun w' => w = w')
  case hl | hg | hu | hv | hs | hoff | hd => rfl
  case hF => exact fun _ => rfl
  case hT =>
   intro hq5
   try simp only [tstS] at hq5
   simp only [List.take_succ_cons, List.take_zero]
   refine WR.on rfl rfl ?_
   refine zm rfl ?_
   refine WR.on rfl rfl ?_
   refine vq (Val.gtr rfl rfl) ?_
   exact WR.nil ⟨rfl, Sub.drop _ 2 _ rfl rfl, rfl⟩
  rintro _ rfl
  refine zm rfl ?_
  apply WR.sc false 2 _ (fun w' => w = w')
  case hl | hg | hu | hv | hs | hoff | hd => rfl
  case hF => exact fun _ => rfl
  case hT =>
   intro hq9
   try simp only [tstS] at hq9
   simp only [List.take_succ_cons, List.take_zero]
   refine WR.on rfl rfl ?_
   refine zm rfl ?_
   refine WR.on rfl rfl ?_
   refine vq (Val.lss rfl rfl) ?_
   exact WR.nil ⟨rfl, Sub.drop _ 2 _ rfl rfl, rfl⟩
  rintro _ rfl
  refine zm rfl ?_
  apply WR.sc false 2 _ (fun w' => w = w')
  case hl | hg | hu | hv | hs | hoff | hd => rfl
  case hF => exact fun _ => rfl
  case hT =>
   intro hq13
   try simp only [tstS] at hq13
   simp only [List.take_succ_cons, List.take_zero]
   refine WR.on rfl rfl ?_
   refine zm rfl ?_
   refine WR.on rfl rfl ?_
   refine vq (Val.gtr rfl rfl) ?_
   exact WR.nil ⟨rfl, Sub.drop _ 2 _ rfl rfl, rfl⟩
  rintro _ rfl
  refine cnil ?_
  refine WC.cond rfl (fun hc1 => ?_) (fun hc1 => ?_)
  ·try simp only [tstS] at hc1
   refine cseq <| cg <| za rfl <| za rfl <| cnil ?_
   refine WC.ret2 rfl rfl rfl ?_
   exact ⟨_, hJ.out, .inr ⟨by omega, rfl⟩⟩
  ·try simp only [tstS] at hc1
   obtain ⟨k, rfl⟩ : ∃ k : Nat, n = k := ⟨n.toNat, by omega⟩
   obtain ⟨j, rfl⟩ : ∃ j : Nat, s = j := ⟨s.toNat, by omega⟩
   refine cskip <| cseq <| cg <| zm rfl <| vq (Val.build (cells := #[.slice none 0 0, I j, .bool false, I (-1), I 0]) rfl (by kernel_rfl)) ?_
   refine ve (Eff.boxC c0 60 rfl) ?_
   rintro _ w1 ⟨b23, c1, rfl, hM1, hb23⟩
   replace hJ := hJ.mv hM1
   refine za rfl <| cnil <| cseq <| cseq <| cg <| zm rfl <| zm rfl <| cnil <| cblock ?_
   refine WC.loop (σ := Nat) (fun i => [(1, I j), (6, .pointer (some ⟨b23, 0, none⟩)), (24, I k), (25, I i)]) (fun i w' => i ≤ k ∧ ∃ c' v X, OldJ c w [] c' w' ∧ BlkC c' w' 60 b23 [v, I j, .bool false, I (-1), I 0] 58 ∧ DisksX c' w' v X (List.replicate i (freshD j))) (fun i => k - i) 0 subs ⟨by omega, _, _, [], hJ, hb23, ⟨rfl, OwnC.nil _ _ _ _ _, RowsC.nil, MapsC.nil⟩⟩ ?_
   clear hJ hb23
   rintro i wl ⟨hi, cl, v, X, hJ, hb23, hd1, hd2, hd3, hd4⟩
   have hXl : X.length = i := by have := congrArg List.length hd1; simpa using this
   have q1 := hd2.oneC; have q2 := hd2.cellsV
   refine cseq <| cg <| vq (Val.lss rfl rfl) <| cnil <| cseq ?_
   refine WC.cond rfl (fun hc5 => ?_) (fun hc5 => ?_)
   ·try simp only [tstS] at hc5
    refine cskip <| cseq <| cblock ?_
    refine WC.regionD (Kp cl wl [61]) [0, 0, 0, 0, 1, 0, 2, 2, 2, 0, 0, 3] [0, 1, 2, 3, 4, 5, 6, 7, 8, 9, 10, 11] mixed (by kernel_rfl) ?_
    have hM2 := Mv.drew cl wl []
    have hCw := Mv.drew cl wl [61]
    generalize wl.drew = w2 at hM2 hCw ⊢
    have hb230 := hb23
    replace hJ := hJ.mv hM2; replace hb23 := hb23.mv hM2; replace hd2 := hd2.mv hM2; replace hd3 := hd3.mv hM2; replace hd4 := hd4.mv hM2
    refine zdm rfl rfl <| zdm rfl rfl <| vd rfl (fun _ => Val.nilCheck rfl) <| vd rfl (fun _ => Val.fieldAddr fld58_0 rfl) <| vc rfl hCw.kp (fun W hW => Val.loadB scl56 rfl (hb230.kp hW rfl).blk rfl) <| zdm rfl rfl ?_
    refine WD.eff rfl rfl rfl (Eff.call pf27 rfl (afresh_c hd3 hd4 (by omega) (by omega))) rfl ?_
    rintro v33 w3 ⟨c3, hM3, ⟨lv, mb, rfl, ho, hm, hn1, hn2⟩⟩
    refine ⟨fun hC => hC.step hCw hM3 rfl, ?_⟩
    replace hCw := hCw.tr hM3 rfl
    replace hJ := hJ.mv hM3; replace hb23 := hb23.mv hM3; replace hd2 := hd2.mv hM3; replace hd3 := hd3.mv hM3; replace hd4 := hd4.mv hM3
    have q3 := ho.oneC
    refine WD.eff rfl rfl rfl (Eff.build1C c3 134 sl56 rfl rfl rfl rfl rfl) rfl ?_
    rintro _ w4 ⟨b34, c4, rfl, hM4, hb34⟩
    refine ⟨fun hC => hC.step hCw hM4 rfl, ?_⟩
    replace hCw := hCw.tr hM4 rfl
    replace hJ := hJ.mv hM4; replace hb23 := hb23.mv hM4; replace hd2 := hd2.mv hM4; replace hd3 := hd3.mv hM4; replace hd4 := hd4.mv hM4; replace ho := ho.mv hM4; replace hm := hm.mv hM4
    refine WD.eff rfl rfl rfl (Eff.appendC sl56 rfl rfl hd2 (Src.cellsAt Try.underlying56 hb34.blk.cellsAt rfl ones) mxl oms) rfl ?_
    rintro v35 w5 ⟨c5, hM5, hOq⟩
    refine ⟨fun hC => hC.step hCw hM5 rfl, ?_⟩
    replace hCw := hCw.tr hM5 rfl
    clear hb34
    replace hJ := hJ.mv hM5; replace hb23 := hb23.mv hM5; replace hd3 := hd3.mv hM5; replace hd4 := hd4.mv hM5; replace ho := ho.mv hM5; replace hm := hm.mv hM5
    replace hd2 := hOq
    have q4 := hd2.oneC; have q5 := hd2.cellsV
    refine vd rfl (fun _ => Val.nilCheck rfl) <| vd rfl (fun _ => Val.fieldAddr fld58_0 rfl) ?_
    refine WD.wild rfl rfl rfl (Eff.storeC scl56 rfl rfl ra ra hb23 rfl) ?_
    rintro _ w6 ⟨hS, hM6⟩
    try replace hCw := hCw.tr hM6 rfl
    replace hJ := hJ.mv hM6; replace hd2 := hd2.mv hM6; replace hd3 := hd3.mv hM6; replace hd4 := hd4.mv hM6; replace ho := ho.mv hM6; replace hm := hm.mv hM6
    replace hb23 := hS
    refine WD.nil ?_
    clear hb230
    clear hCw
    refine cg <| vq (Val.addI rfl rfl side side) <| zm rfl <| cnil ?_
    refine ⟨i + 1, subs, ⟨by omega, _, _, _, hJ, hb23, by rw [List.replicate_succ']; exact DisksX.snoc hd1 hd2 hd3 hd4 ho hm hn1 hn2⟩, by omega⟩
   ·try simp only [tstS] at hc5
    have e : i = k := by omega
    subst e
    refine WC.exit rfl ?_
    refine cseq <| cg <| zm rfl <| za rfl <| za rfl <| cnil ?_
    refine WC.ret2 rfl rfl rfl ?_
    exact ⟨_, hJ.out, .inl ⟨i, j, _, rfl, rfl, by omega, rfl, _, _, hb23.re hJ.back0, (DisksX.mk hd1 hd2 hd3 hd4).re hJ.back0⟩⟩
end Go.Proofs.Ytjddnaefmikccaa
