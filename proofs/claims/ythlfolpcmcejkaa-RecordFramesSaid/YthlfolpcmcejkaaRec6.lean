/- The bytes of records: the program's. No condition. -/
import Derived.Test.YthlfolpcmcejkaaRec5
set_option linter.unusedSimpArgs false
set_option linter.unusedVariables false
set_option maxRecDepth 100000
namespace Go.Proofs.Ythlfolpcmcejkaa
open Go Go.Eng Go.RowKit Silo TryT

theorem put_g {w : World} {base m : Nat} {v : Value} {l : List UInt8} (hown : Own w base 5 1 v m (bytesV l)) (hBw : base ≤ w.heap.size) (n size : Int) (h0 : 0 ≤ size) (h8 : size ≤ 8) (hm : m ≤ 1099511627776) :
    Calls Try.prog 66 #[v, .int .u64 n, I size] w (Ret fun v' w' => Kept w w' v.rowOf v'.rowOf ∧ Own w' base 5 1 v' (m + size.toNat) (bytesV (l ++ be size.toNat n))) := by
  obtain ⟨s, rfl⟩ := Int.eq_ofNat_of_zero_le h0
  have hs : s ≤ 8 := by omega
  have hKp : Kept w w v.rowOf v.rowOf := Kept.refl _ _
  refine enter (n := 23) (res := #[.tmp 6]) Try.func66 rfl rfl rfl rfl ?_
  refine cseq <| cg <| za rfl <| cnil <| cseq <| cseq <| cg <| zm rfl <| vq (Val.subI rfl rfl side side) ?_
  refine za rfl <| cnil <| cblock ?_
  refine WC.loop (σ := Nat × Value) (fun st => [(0, st.2), (1, .int .u64 n), (2, I s), (7, I ((st.1 : Int) - 1))]) (fun st w' => Own w' base 5 1 st.2 (m + (s - st.1)) (bytesV (l ++ (be s n).take (s - st.1))) ∧ st.1 ≤ s ∧ Kept w w' v.rowOf st.2.rowOf ∧ base ≤ w'.heap.size) (fun st => st.1) (s, v) subs ⟨by simpa using hown, Nat.le_refl _, hKp, hBw⟩ ?_
  rintro ⟨k, v⟩ wl ⟨ho, hk, hKp, hBw⟩
  dsimp only at ho hk hKp ⊢
  refine cseq <| cseq <| cg <| zm rfl <| vq (Val.geq rfl rfl) <| cnil ?_
  refine WC.cond rfl (fun hc2 => ?_) (fun hc2 => ?_)
  ·try simp only [tstS] at hc2
   obtain ⟨j, rfl⟩ : ∃ j, k = j + 1 := ⟨k - 1, by omega⟩
   have ej : ((j + 1 : Nat) : Int) - 1 = (j : Int) := by omega
   rw [ej]
   refine cskip <| cseq <| cblock <| cg <| zm rfl <| zm rfl <| zm rfl <| vq (Val.mulI rfl rfl side side) <| vq (Val.shr rfl rfl side (by simp [IntKind.bits] <;> omega)) ?_
   refine vq (Val.convToU8I Try.underlying94 Try.underlying5 rfl) ?_
   refine ve (Eff.build1 sl38 rfl rfl rfl rfl rfl) ?_
   rintro _ w1 ⟨b20, rfl, hn20⟩
   have hk1 := hn20.below
   replace ho := ho.up hk1; replace hKp := hKp.up hk1; replace hBw := Nat.le_trans hBw hk1.size
   refine ve (Eff.append sl38 rfl rfl ho (Src.cellsAt Try.underlying38 hn20.blk.cellsAt rfl ones) mxl oms hBw) ?_
   intro v21 w2 hA21
   have hk2 := hA21.belowB ho hBw
   replace hBw := Nat.le_trans hBw hk2.size
   replace ho := hA21.own
   replace hKp := hKp.trans hA21.keptR
   have e1 : bytesV (l ++ (be s n).take (s - (j + 1))) ++ [Value.int .u8 (u8I (n / 2 ^ (8 * (j : Int)).toNat)).toNat] = bytesV (l ++ (be s n).take (s - j)) := by
     have : (8 * (j : Int)).toNat = 8 * j := by omega
     rw [be_take_step s j n hk, this, pow8]; simp [bytesV]
   rw [e1, show m + (s - (j + 1)) + 1 = m + (s - j) by omega] at ho
   refine za rfl <| cnil <| cg <| zm rfl <| vq (Val.subI rfl rfl side side) <| za rfl <| cnil ?_
   exact ⟨(j, v21), subs, ⟨ho, by omega, hKp, hBw⟩, by simp⟩
  ·try simp only [tstS] at hc2
   refine WC.exit rfl ?_
   refine cseq <| cg <| zm rfl <| za rfl <| cnil ?_
   refine WC.ret1 rfl rfl ?_
   have : k = 0 := by omega
   subst this
   refine ⟨hKp, ?_⟩
   rw [Nat.sub_zero, be_take_all] at ho
   simpa using ho

theorem rput_g {w : World} {base m : Nat} {v : Value} {l : List UInt8} (hown : Own w base 5 1 v m (bytesV l)) (hBw : base ≤ w.heap.size) (n : Int) (hm : m ≤ 1099511627776) :
    Calls Try.prog 63 #[v, I n] w (Ret fun v' w' => Kept w w' v.rowOf v'.rowOf ∧ Own w' base 5 1 v' (m + 4) (bytesV (l ++ be 4 n))) := by
  have h1 : 0 ≤ n % 4294967296 := Int.emod_nonneg _ (by decide)
  have h2 : n % 4294967296 < 4294967296 := Int.emod_lt_of_pos _ (by decide)
  have e1 : be 4 (n % 4294967296) = be 4 n := be_congr 4 _ _ (by show n % 4294967296 % 4294967296 = n % 4294967296; exact Int.emod_emod_of_dvd _ ⟨1, rfl⟩)
  refine enter (n := 10) (res := #[.tmp 4]) Try.func63 rfl rfl rfl rfl ?_
  refine cseq <| cg <| za rfl <| cnil <| cseq <| cg <| zm rfl <| zm rfl <| vq (Val.convToU32 Try.underlying3 Try.underlying103 rfl) ?_
  refine vq (Val.convToU64 Try.underlying103 Try.underlying94 rfl side side) ?_
  refine ve (Eff.call pf66 rfl (put_g hown hBw (n % 4294967296) 4 (by decide) (by decide) hm)) ?_
  rintro v9 w1 ⟨hk, ho⟩
  refine za rfl <| cnil ?_
  refine WC.ret1 rfl rfl ?_
  rw [← e1]
  exact ⟨hk, ho⟩

theorem be1 (n : Int) : be 1 n = [u8I n] := by simp [be]
theorem bytesV_append (a b : List UInt8) : bytesV (a ++ b) = bytesV a ++ bytesV b := by simp [bytesV]
def cL (r : Rec) : List UInt8 := if hasB r.kind 108 then be 4 r.list.length else []
def cS (r : Rec) : List UInt8 := if hasB r.kind 115 then be 1 r.slots.length else []

theorem spelt_ok {w : World} {cs : List Value} {r : Rec} (h : RdRec w cs r) (hn : r.name.length ≤ 1000000) (hd : r.digest.length ≤ 1000000) (hll : r.list.length ≤ 1000000) (hss : r.slots.length ≤ 1000000) (hnoL : hasB r.kind 108 = false → r.list = []) (hnoS : hasB r.kind 115 = false → r.slots = []) :
    Calls Try.prog 45 #[.agg cs.toArray] w (Ret fun v w' => Below w.heap.size w w' ∧ v = St (bytesOf r)) := by
  obtain ⟨vl, vs, rfl, hl, hs, hq⟩ := h
  obtain ⟨hq1, hq2, hq3, hq4⟩ := hq
  have o1 := hl.oneC
  have o2 := hs.oneC
  have l1 := A1_len r
  have l2 : (A2 r).length ≤ 1000006 := by
    simp only [A2, bN, List.length_append]; split
    · simp only [List.length_append, be_length]; omega
    · simp; omega
  have l3 : (A3 r).length ≤ 2000006 := by simp only [A3, List.length_append]; omega
  have l4 : (A4 r).length ≤ 6000010 := by
    simp only [A4, bL, List.length_append]; split
    · simp only [List.length_append, be_length, flat4_len]; omega
    · simp; omega
  have hK : Old w w := Old.refl w
  refine enter (n := 82) (res := #[.tmp 2]) Try.func45 rfl rfl rfl rfl ?_
  refine cseq <| cg ?_
  refine ve (Eff.box rfl) ?_
  rintro _ w1 ⟨b1, rfl, hn1⟩
  have hk1 := hn1.below
  replace hl := hl.up hk1; replace hs := hs.up hk1; replace hK := hK.up hk1
  have hb1 := hn1.blk
  refine za rfl <| cnil <| cseq ?_
  obtain ⟨B, hB⟩ : ∃ B, B = w1.heap.size := ⟨_, rfl⟩
  have hBw : B ≤ w1.heap.size := Nat.le_of_eq hB
  replace hb1 := hb1.fix; replace hK := Old.fix hK
  rw [← hB] at hl hs hb1 hK
  refine cg <| vq (Val.fieldAddr fld31_0 rfl) <| vq (Val.loadB scl3 rfl hb1.2 rfl) <| vq (Val.convToU8I Try.underlying3 Try.underlying5 rfl) ?_
  refine ve (Eff.build1 sl38 rfl rfl rfl rfl rfl) ?_
  rintro _ w2 ⟨b11, rfl, hn11⟩
  have hk2 := hn11.below
  replace hl := hl.upB (hk2.mono hBw); replace hs := hs.upB (hk2.mono hBw); replace hb1 := hb1.upB (hk2.mono hBw); replace hK := hK.upB (hk2.mono hBw); replace hBw := Nat.le_trans hBw hk2.size
  refine za rfl <| cnil ?_
  have ho := hn11.own (base := B) (n := 1) (size := 1) (Nat.le_of_eq hB) rfl (by decide)
  rw [show [Value.int .u8 (u8I r.kind).toNat] = bytesV (be 1 r.kind) by rw [be1]; rfl] at ho
  refine cseq <| cseq <| cg <| vq (Val.fieldAddr fld31_0 rfl) <| vq (Val.loadB scl3 rfl hb1.2 rfl) ?_
  refine ve (Eff.call pf60 rfl (has_ok r.kind 105)) ?_
  rintro v14 w3 ⟨hk3, rfl⟩
  replace hl := hl.upB (hk3.mono hBw); replace hs := hs.upB (hk3.mono hBw); replace hb1 := hb1.upB (hk3.mono hBw); replace hK := hK.upB (hk3.mono hBw); replace ho := ho.up hk3; replace hBw := Nat.le_trans hBw hk3.size
  refine cnil ?_
  refine WC.mono (N := fun e w' => ∃ v3, Sub [(4000000, .tuple #[]), (1, .pointer (some ⟨b1, 0, none⟩)), (3, v3)] e ∧ BlkB B w' b1 [I r.kind, I r.id, St r.name, St r.digest, vl, vs] 31 ∧ RdS intS B w' vl r.list ∧ RdS slotS B w' vs r.slots ∧ OldB B w w' ∧ B ≤ w'.heap.size ∧ Own w' B 5 1 v3 (A1 r).length (bytesV (A1 r))) ?_ ?_
  ·refine WC.cond rfl (fun hc2 => ?_) (fun hc2 => ?_)
   ·try simp only [tstS] at hc2
    refine cg <| zm rfl <| vq (Val.fieldAddr fld31_1 rfl) <| vq (Val.loadB scl3 rfl hb1.2 rfl) ?_
    refine ve (Eff.call pf63 rfl (rput_g ho hBw r.id (by omega))) ?_
    rintro v18 w9 ⟨hk9, ho9⟩
    replace hk9 := hk9.below ho (Nat.le_refl _) hBw
    replace hl := hl.upB hk9; replace hs := hs.upB hk9; replace hb1 := hb1.upB hk9; replace hK := hK.upB hk9; replace hBw := Nat.le_trans hBw hk9.size
    refine za rfl <| cnil ?_
    have e : A1 r = be 1 r.kind ++ be 4 r.id := by simp [A1, bI, hc2]
    rw [e]; exact ⟨_, subs, hb1, hl, hs, hK, hBw, by rw [List.length_append, be_length, be_length]; exact ho9⟩
   ·try simp only [tstS] at hc2
    refine cskip ?_
    have e : A1 r = be 1 r.kind := by simp [A1, bI, hc2]
    rw [e]; exact ⟨_, subs, hb1, hl, hs, hK, hBw, by rw [be_length]; exact ho⟩
  ·skip
   rintro _ wc2 ⟨v3, hsub, hb1, hl, hs, hK, hBw, ho⟩
   refine WC.sub hsub ?_
   clear hsub
   refine cseq <| cseq <| cg <| vq (Val.fieldAddr fld31_0 rfl) <| vq (Val.loadB scl3 rfl hb1.2 rfl) ?_
   refine ve (Eff.call pf60 rfl (has_ok r.kind 110)) ?_
   rintro v21 w4 ⟨hk4, rfl⟩
   replace hl := hl.upB (hk4.mono hBw); replace hs := hs.upB (hk4.mono hBw); replace hb1 := hb1.upB (hk4.mono hBw); replace hK := hK.upB (hk4.mono hBw); replace ho := ho.up hk4; replace hBw := Nat.le_trans hBw hk4.size
   refine cnil ?_
   refine WC.mono (N := fun e w' => ∃ v3, Sub [(4000000, .tuple #[]), (1, .pointer (some ⟨b1, 0, none⟩)), (3, v3)] e ∧ BlkB B w' b1 [I r.kind, I r.id, St r.name, St r.digest, vl, vs] 31 ∧ RdS intS B w' vl r.list ∧ RdS slotS B w' vs r.slots ∧ OldB B w w' ∧ B ≤ w'.heap.size ∧ Own w' B 5 1 v3 (A2 r).length (bytesV (A2 r))) ?_ ?_
   ·refine WC.cond rfl (fun hc4 => ?_) (fun hc4 => ?_)
    ·try simp only [tstS] at hc4
     refine WC.regionD (Below B w4) [0, 0, 1, 0, 0, 2, 2, 0, 1, 2, 0] [0, 1, 2, 3, 4, 7, 8, 5, 6, 9, 10] mixed (by kernel_rfl) ?_
     have hk5 : Below w4.heap.size w4 w4.drew := (Below.refl _ _).drew
     have hCw : Below B w4 w4.drew := (Below.refl _ _).drew
     generalize w4.drew = w5 at hk5 hCw ⊢
     have hb10 := hb1
     replace hl := hl.upB (hk5.mono hBw); replace hs := hs.upB (hk5.mono hBw); replace hb1 := hb1.upB (hk5.mono hBw); replace hK := hK.upB (hk5.mono hBw); replace ho := ho.up hk5; replace hBw := Nat.le_trans hBw hk5.size
     refine zdm rfl rfl <| vd rfl (fun _ => Val.fieldAddr fld31_2 rfl) <| qc rfl rfl rfl hCw (fun W hW => Val.loadB scl9 rfl (hb10.upB hW).2 rfl) rfl <| vd rfl (fun _ => Val.slen Try.underlying9 rfl) <| vd rfl (fun _ => Val.convToU8I Try.underlying3 Try.underlying5 rfl) <| vd rfl (fun _ => Val.fieldAddr fld31_2 rfl) <| qc rfl rfl rfl hCw (fun W hW => Val.loadB scl9 rfl (hb10.upB hW).2 rfl) rfl ?_
     refine WD.eff rfl rfl rfl (Eff.build1 sl38 rfl rfl rfl rfl rfl) rfl ?_
     rintro _ w6 ⟨b27, rfl, hn27⟩
     have hk6 := hn27.below
     refine ⟨fun hC => Below.trans hC (hk6.mono hBw), ?_⟩
     replace hCw := Below.trans hCw (hk6.mono hBw)
     replace hl := hl.upB (hk6.mono hBw); replace hs := hs.upB (hk6.mono hBw); replace hb1 := hb1.upB (hk6.mono hBw); replace hK := hK.upB (hk6.mono hBw); replace ho := ho.up hk6; replace hBw := Nat.le_trans hBw hk6.size
     refine WD.eff rfl rfl rfl (Eff.append sl38 rfl rfl ho (Src.cellsAt Try.underlying38 hn27.blk.cellsAt rfl ones) mxl oms hBw) rfl ?_
     intro v28 w7 hA28
     have hk7 := hA28.belowB ho hBw
     refine ⟨fun hC => Below.trans hC hk7, ?_⟩
     replace hCw := Below.trans hCw hk7
     replace hl := hl.upB hk7; replace hs := hs.upB hk7; replace hb1 := hb1.upB hk7; replace hK := hK.upB hk7; replace hBw := Nat.le_trans hBw hk7.size
     replace ho := hA28.own
     rw [show [Value.int .u8 (u8I r.name.length).toNat] = bytesV (be 1 r.name.length) by rw [be1]; rfl, ← bytesV_append] at ho
     refine WD.eff rfl rfl rfl (Eff.append sl38 rfl rfl ho (Src.str Try.underlying9) mxl oms hBw) rfl ?_
     intro v31 w8 hA31
     have hk8 := hA31.belowB ho hBw
     refine ⟨fun hC => Below.trans hC hk8, ?_⟩
     replace hCw := Below.trans hCw hk8
     replace hl := hl.upB hk8; replace hs := hs.upB hk8; replace hb1 := hb1.upB hk8; replace hK := hK.upB hk8; replace hBw := Nat.le_trans hBw hk8.size
     replace ho := hA31.own
     rw [show (r.name.map fun b => Value.int .u8 b.toNat) = bytesV r.name from rfl, ← bytesV_append] at ho
     refine zda rfl rfl ?_
     refine WD.nil ?_
     clear hb10
     clear hCw
     have e : A2 r = A1 r ++ be 1 r.name.length ++ r.name := by simp [A2, bN, hc4]
     rw [e]; exact ⟨_, subs, hb1, hl, hs, hK, hBw, by rw [List.length_append, List.length_append, be_length]; exact ho⟩
    ·try simp only [tstS] at hc4
     refine cskip ?_
     have e : A2 r = A1 r := by simp [A2, bN, hc4]
     rw [e]; exact ⟨_, subs, hb1, hl, hs, hK, hBw, ho⟩
   ·skip
    rintro _ wc4 ⟨v3, hsub, hb1, hl, hs, hK, hBw, ho⟩
    refine WC.sub hsub ?_
    clear hsub
    refine cseq <| cg <| zm rfl <| vq (Val.fieldAddr fld31_3 rfl) <| vq (Val.loadB scl9 rfl hb1.2 rfl) ?_
    refine ve (Eff.append sl38 rfl rfl ho (Src.str Try.underlying9) mxl oms hBw) ?_
    intro v35 w9 hA35
    have hk9 := hA35.belowB ho hBw
    replace hl := hl.upB hk9; replace hs := hs.upB hk9; replace hb1 := hb1.upB hk9; replace hK := hK.upB hk9; replace hBw := Nat.le_trans hBw hk9.size
    replace ho := hA35.own
    rw [show (r.digest.map fun b => Value.int .u8 b.toNat) = bytesV r.digest from rfl, ← bytesV_append, show (A2 r).length + r.digest.length = (A3 r).length by simp [A3]] at ho
    change Own _ _ _ _ _ _ (bytesV (A3 r)) at ho
    refine za rfl <| cnil <| cseq <| cseq <| cg <| vq (Val.fieldAddr fld31_0 rfl) <| vq (Val.loadB scl3 rfl hb1.2 rfl) ?_
    refine ve (Eff.call pf60 rfl (has_ok r.kind 108)) ?_
    rintro v38 w10 ⟨hk10, rfl⟩
    replace hl := hl.upB (hk10.mono hBw); replace hs := hs.upB (hk10.mono hBw); replace hb1 := hb1.upB (hk10.mono hBw); replace hK := hK.upB (hk10.mono hBw); replace ho := ho.up hk10; replace hBw := Nat.le_trans hBw hk10.size
    refine cnil ?_
    refine WC.mono (N := fun e w' => ∃ v3, Sub [(4000000, .tuple #[]), (1, .pointer (some ⟨b1, 0, none⟩)), (3, v3)] e ∧ BlkB B w' b1 [I r.kind, I r.id, St r.name, St r.digest, vl, vs] 31 ∧ RdS intS B w' vl r.list ∧ RdS slotS B w' vs r.slots ∧ OldB B w w' ∧ B ≤ w'.heap.size ∧ Own w' B 5 1 v3 (A3 r ++ cL r).length (bytesV (A3 r ++ cL r))) ?_ ?_
    ·refine WC.cond rfl (fun hc7 => ?_) (fun hc7 => ?_)
     ·try simp only [tstS] at hc7
      refine cg <| zm rfl <| vq (Val.fieldAddr fld31_4 rfl) <| vq (Val.loadB scl24 rfl hb1.2 rfl) ?_
      first | refine vq (Val.rdlen sl24 (by assumption) rfl) ?_ | refine vq (Val.sllen Try.underlying24 rfl) ?_
      refine ve (Eff.call pf63 rfl (rput_g ho hBw r.list.length (by omega))) ?_
      rintro v43 w19 ⟨hk9, ho9⟩
      replace hk9 := hk9.below ho (Nat.le_refl _) hBw
      replace hl := hl.upB hk9; replace hs := hs.upB hk9; replace hb1 := hb1.upB hk9; replace hK := hK.upB hk9; replace hBw := Nat.le_trans hBw hk9.size
      refine za rfl <| cnil ?_
      have e : cL r = be 4 r.list.length := by simp [cL, hc7]
      rw [e]; exact ⟨_, subs, hb1, hl, hs, hK, hBw, by rw [List.length_append, be_length]; exact ho9⟩
     ·try simp only [tstS] at hc7
      refine cskip ?_
      have e : cL r = [] := by simp [cL, hc7]
      rw [e, List.append_nil]; exact ⟨_, subs, hb1, hl, hs, hK, hBw, ho⟩
    ·skip
     rintro _ wc7 ⟨v3, hsub, hb1, hl, hs, hK, hBw, ho⟩
     refine WC.sub hsub ?_
     clear hsub
     refine cseq <| cseq <| cg <| vq (Val.fieldAddr fld31_4 rfl) <| vq (Val.loadB scl24 rfl hb1.2 rfl) ?_
     first | refine vq (Val.rdlen sl24 (by assumption) rfl) ?_ | refine vq (Val.sllen Try.underlying24 rfl) ?_
     refine zm rfl <| cnil <| cblock ?_
     have lc : (A3 r ++ cL r).length ≤ 2000010 := by
       simp only [cL, List.length_append]; split <;> simp [be_length] <;> omega
     refine WC.loop (σ := Nat × Value) (fun st => [(1, .pointer (some ⟨b1, 0, none⟩)), (3, st.2), (45, vl), (46, I r.list.length), (47, I st.1)]) (fun st w' => BlkB B w' b1 [I r.kind, I r.id, St r.name, St r.digest, vl, vs] 31 ∧ RdS intS B w' vl r.list ∧ RdS slotS B w' vs r.slots ∧ OldB B w w' ∧ B ≤ w'.heap.size ∧ st.1 ≤ r.list.length ∧ Own w' B 5 1 st.2 ((A3 r ++ cL r).length + 4 * st.1) (bytesV (A3 r ++ cL r ++ (r.list.take st.1).flatMap (be 4)))) (fun st => r.list.length - st.1) (0, v3) subs ⟨hb1, hl, hs, hK, hBw, by simp, by simpa using ho⟩ ?_
     rintro ⟨k, v3⟩ wl ⟨hb1, hl, hs, hK, hBw, hk, ho⟩
     dsimp only at hk ho ⊢
     refine cseq <| cg <| vq (Val.lss rfl rfl) <| cnil <| cseq ?_
     refine WC.cond rfl (fun hc10 => ?_) (fun hc10 => ?_)
     ·try simp only [tstS] at hc10
      have ka : k < r.list.length := by omega
      obtain ⟨cs1, hc49, rfl, ok1⟩ := hl.elB ka
      replace hc49 := hc49.toCel hBw
      refine cskip <| cseq <| cblock <| cseq <| cg <| vq (Val.indexAddr sl24 (by assumption) rfl rfl rfl side side) <| vq (Val.loadE1 scl3 rfl hc49) <| za rfl <| cnil ?_
      refine cg <| zm rfl <| zm rfl ?_
      refine ve (Eff.call pf63 rfl (rput_g ho hBw _ (by omega))) ?_
      rintro v53 w29 ⟨hk9, ho9⟩
      replace hk9 := hk9.below ho (Nat.le_refl _) hBw
      replace hl := hl.upB hk9; replace hs := hs.upB hk9; replace hb1 := hb1.upB hk9; replace hK := hK.upB hk9; replace hBw := Nat.le_trans hBw hk9.size
      refine za rfl <| cnil <| cg <| vq (Val.addI rfl rfl side side) <| zm rfl <| cnil ?_
      exact ⟨(k + 1, v53), subs, ⟨hb1, hl, hs, hK, hBw, ka, by rw [take_succ_flatMap _ ka, ← List.append_assoc, Nat.mul_add, ← Nat.add_assoc]; exact ho9⟩, by simp; omega⟩
     ·try simp only [tstS] at hc10
      refine WC.exit rfl ?_
      have ho4 : Own wl B 5 1 v3 (A4 r).length (bytesV (A4 r)) := by
        have ek : k = r.list.length := by omega
        subst ek
        rw [List.take_of_length_le (Nat.le_refl _)] at ho
        have e : A4 r = A3 r ++ cL r ++ r.list.flatMap (be 4) := by
          cases e : hasB r.kind 108
          · simp [A4, bL, cL, e, hnoL e]
          · simp [A4, bL, cL, e]
        rw [e]
        rw [List.length_append, flat4_len]; exact ho
      clear ho
      have ho := ho4
      clear ho4
      refine cseq <| cseq <| cg <| vq (Val.fieldAddr fld31_0 rfl) <| vq (Val.loadB scl3 rfl hb1.2 rfl) ?_
      refine ve (Eff.call pf60 rfl (has_ok r.kind 115)) ?_
      rintro v57 w11 ⟨hk11, rfl⟩
      replace hl := hl.upB (hk11.mono hBw); replace hs := hs.upB (hk11.mono hBw); replace hb1 := hb1.upB (hk11.mono hBw); replace hK := hK.upB (hk11.mono hBw); replace ho := ho.up hk11; replace hBw := Nat.le_trans hBw hk11.size
      refine cnil ?_
      refine WC.mono (N := fun e w' => ∃ v3, Sub [(4000000, .tuple #[]), (1, .pointer (some ⟨b1, 0, none⟩)), (3, v3)] e ∧ BlkB B w' b1 [I r.kind, I r.id, St r.name, St r.digest, vl, vs] 31 ∧ RdS intS B w' vl r.list ∧ RdS slotS B w' vs r.slots ∧ OldB B w w' ∧ B ≤ w'.heap.size ∧ Own w' B 5 1 v3 (A4 r ++ cS r).length (bytesV (A4 r ++ cS r))) ?_ ?_
      ·refine WC.cond rfl (fun hc14 => ?_) (fun hc14 => ?_)
       ·try simp only [tstS] at hc14
        refine cg <| zm rfl <| vq (Val.fieldAddr fld31_5 rfl) <| vq (Val.loadB scl29 rfl hb1.2 rfl) ?_
        first | refine vq (Val.rdlen sl29 (by assumption) rfl) ?_ | refine vq (Val.sllen Try.underlying29 rfl) ?_
        refine vq (Val.convToU8I Try.underlying3 Try.underlying5 rfl) ?_
        refine ve (Eff.build1 sl38 rfl rfl rfl rfl rfl) ?_
        rintro _ w12 ⟨b63, rfl, hn63⟩
        have hk12 := hn63.below
        replace hl := hl.upB (hk12.mono hBw); replace hs := hs.upB (hk12.mono hBw); replace hb1 := hb1.upB (hk12.mono hBw); replace hK := hK.upB (hk12.mono hBw); replace ho := ho.up hk12; replace hBw := Nat.le_trans hBw hk12.size
        refine ve (Eff.append sl38 rfl rfl ho (Src.cellsAt Try.underlying38 hn63.blk.cellsAt rfl ones) mxl oms hBw) ?_
        intro v64 w13 hA64
        have hk13 := hA64.belowB ho hBw
        replace hl := hl.upB hk13; replace hs := hs.upB hk13; replace hb1 := hb1.upB hk13; replace hK := hK.upB hk13; replace hBw := Nat.le_trans hBw hk13.size
        replace ho := hA64.own
        rw [show [Value.int .u8 (u8I r.slots.length).toNat] = bytesV (be 1 r.slots.length) by rw [be1]; rfl, ← bytesV_append] at ho
        refine za rfl <| cnil ?_
        have e : cS r = be 1 r.slots.length := by simp [cS, hc14]
        rw [e]; exact ⟨_, subs, hb1, hl, hs, hK, hBw, by rw [List.length_append, be_length]; exact ho⟩
       ·try simp only [tstS] at hc14
        refine cskip ?_
        have e : cS r = [] := by simp [cS, hc14]
        rw [e, List.append_nil]; exact ⟨_, subs, hb1, hl, hs, hK, hBw, ho⟩
      ·skip
       rintro _ wc14 ⟨v3, hsub, hb1, hl, hs, hK, hBw, ho⟩
       refine WC.sub hsub ?_
       clear hsub
       refine cseq <| cseq <| cg <| vq (Val.fieldAddr fld31_5 rfl) <| vq (Val.loadB scl29 rfl hb1.2 rfl) ?_
       first | refine vq (Val.rdlen sl29 (by assumption) rfl) ?_ | refine vq (Val.sllen Try.underlying29 rfl) ?_
       refine zm rfl <| cnil <| cblock ?_
       have lc : (A4 r ++ cS r).length ≤ 6000012 := by
         simp only [cS, List.length_append]; split <;> simp [be_length] <;> omega
       refine WC.loop (σ := Nat × Value) (fun st => [(1, .pointer (some ⟨b1, 0, none⟩)), (3, st.2), (66, vs), (67, I r.slots.length), (68, I st.1)]) (fun st w' => BlkB B w' b1 [I r.kind, I r.id, St r.name, St r.digest, vl, vs] 31 ∧ RdS intS B w' vl r.list ∧ RdS slotS B w' vs r.slots ∧ OldB B w w' ∧ B ≤ w'.heap.size ∧ st.1 ≤ r.slots.length ∧ Own w' B 5 1 st.2 ((A4 r ++ cS r).length + 8 * st.1) (bytesV (A4 r ++ cS r ++ (r.slots.take st.1).flatMap be44))) (fun st => r.slots.length - st.1) (0, v3) subs ⟨hb1, hl, hs, hK, hBw, by simp, by simpa using ho⟩ ?_
       rintro ⟨k, v3⟩ wl ⟨hb1, hl, hs, hK, hBw, hk, ho⟩
       dsimp only at hk ho ⊢
       refine cseq <| cg <| vq (Val.lss rfl rfl) <| cnil <| cseq ?_
       refine WC.cond rfl (fun hc17 => ?_) (fun hc17 => ?_)
       ·try simp only [tstS] at hc17
        have ka : k < r.slots.length := by omega
        obtain ⟨cs1, hc70, rfl, ok1⟩ := hs.elB ka
        replace hc70 := hc70.toCel hBw
        have hrow : ∀ j, v3.rowOf = some j → j < wl.heap.size := fun j hj => (ho.lt j hj).2
        refine cskip <| cseq <| cblock <| cseq <| cg <| vq (Val.indexAddr sl29 (by assumption) rfl rfl rfl side side) <| vq (Val.loadE agg66 rfl hc70 rfl) ?_
        refine ve (Eff.alloc zero66) ?_
        rintro _ w14 ⟨b7, rfl, hn7⟩
        have hk14 := hn7.below
        have hge7 : B ≤ b7 := by rw [hn7.at_]; exact hBw
        replace hl := hl.upB (hk14.mono hBw); replace hs := hs.upB (hk14.mono hBw); replace hb1 := hb1.upB (hk14.mono hBw); replace hK := hK.upB (hk14.mono hBw); replace ho := ho.up hk14; replace hBw := Nat.le_trans hBw hk14.size
        have hb7 := hn7.blk
        refine WR.eff_ (Eff.storeBN agg66 rfl rfl hb7 rfl rfl ones) ?_
        intro _ ws hS
        have hne7 : v3.rowOf ≠ some b7 := fun e => by have := hrow _ e; have := hn7.at_; omega
        have hks : Below B _ _ := Blk.store_below hS hge7 hBw
        replace ho := ho.grown hS.grown (fun j hj e => hne7 (hj.trans e.symm))
        replace hl := hl.upB hks; replace hs := hs.upB hks; replace hb1 := hb1.upB hks; replace hK := hK.upB hks; replace hBw := Nat.le_trans hBw hks.size
        replace hb7 := hS.blk
        refine cnil ?_
        refine WC.regionD (fun W => ws.grownBy W v3.rowOf) [0, 0, 1, 2, 0, 1, 2, 0] [0, 1, 2, 4, 5, 3, 6, 7] mixed (by kernel_rfl) ?_
        have hd : Below ws.heap.size ws ws.drew := (Below.refl _ _).drew
        have hC : ws.grownBy ws.drew v3.rowOf := grown_of_below hd _
        replace ho := ho.up hd; replace hl := hl.upB (hd.mono hBw); replace hs := hs.upB (hd.mono hBw); replace hb1 := hb1.upB (hd.mono hBw); replace hK := hK.upB (hd.mono hBw); replace hBw := Nat.le_trans hBw hd.size
        generalize ws.drew = w10 at hd hC ho hl hs hb1 hK hBw ⊢
        refine zdm rfl rfl <| vd rfl (fun _ => Val.fieldAddr fld66_0 rfl) <| qc rfl rfl rfl hC (fun W hW => Val.loadB scl3 rfl (hb7.grown hW hne7) rfl) rfl <| vd rfl (fun _ => Val.fieldAddr fld66_1 rfl) <| qc rfl rfl rfl hC (fun W hW => Val.loadB scl3 rfl (hb7.grown hW hne7) rfl) rfl ?_
        refine WD.eff rfl rfl rfl (Eff.call pf63 rfl (rput_g ho hBw _ (by omega))) rfl ?_
        rintro v75 w11 ⟨hk11, ho11⟩
        refine ⟨fun hC => grown_trans hC (.inl rfl) hk11.grown, ?_⟩
        have hk11b := hk11.below ho (Nat.le_refl _) hBw
        replace hl := hl.upB hk11b; replace hs := hs.upB hk11b; replace hb1 := hb1.upB hk11b; replace hK := hK.upB hk11b; replace hBw := Nat.le_trans hBw hk11b.size
        refine WD.eff rfl rfl rfl (Eff.call pf63 rfl (rput_g ho11 hBw _ (by omega))) rfl ?_
        rintro v78 w12 ⟨hk12, ho12⟩
        refine ⟨fun hC' => grown_trans hC' (hk11.at_.imp id fun ⟨j, e, hj⟩ => ⟨j, e, Nat.le_trans hC.size hj⟩) hk12.grown, ?_⟩
        have hk12b := hk12.below ho11 (Nat.le_refl _) hBw
        replace hl := hl.upB hk12b; replace hs := hs.upB hk12b; replace hb1 := hb1.upB hk12b; replace hK := hK.upB hk12b; replace hBw := Nat.le_trans hBw hk12b.size
        refine zda rfl rfl ?_
        refine WD.nil ?_
        refine cg <| vq (Val.addI rfl rfl side side) <| zm rfl <| cnil ?_
        exact ⟨(k + 1, v78), subs, ⟨hb1, hl, hs, hK, hBw, ka, by rw [take_succ_flatMap _ ka, be44, ← List.append_assoc, ← List.append_assoc]; exact ho12⟩, by simp; omega⟩
       ·try simp only [tstS] at hc17
        refine WC.exit rfl ?_
        refine cseq <| cg <| zm rfl <| vq (Val.ofBytes Try.underlying38 Try.underlying9 Try.underlying5 rfl ho) <| za rfl <| cnil ?_
        refine WC.ret1 rfl rfl ?_
        refine ⟨hK.1, ?_⟩
        have e : bytesOf r = A4 r ++ cS r ++ (r.slots.take k).flatMap be44 := by
          rw [List.take_of_length_le (by omega)]
          cases e : hasB r.kind 115
          · simp [bytesOf, bS, cS, e, hnoS e]
          · simp [bytesOf, bS, cS, e]
        rw [e]
end Go.Proofs.Ythlfolpcmcejkaa
