/- Manifests: copies, comparisons, the page's bytes. No condition. -/
import Derived.Test.YtnddlhjafkhdoaaMan1
import Derived.Test.YtnddlhjafkhdoaaDig6
set_option linter.unusedSimpArgs false
set_option linter.unusedVariables false
set_option maxRecDepth 100000
namespace Silo
open Go Go.Eng
def manHead (m : Man) : List UInt8 := [77, 65, 78, 70] ++ [u8I m.kind, u8I m.blobs.length, u8I m.subs.length]
theorem manBytes_eq (m : Man) : manBytes m = manHead m ++ m.blobs.flatten ++ m.subs.flatten := by simp [manBytes, manHead]
theorem flatten_take {α : Type} {l : List (List α)} {k : Nat} (h : k < l.length) : (l.take (k + 1)).flatten = (l.take k).flatten ++ l[k] := by
  rw [List.take_succ_eq_append_getElem h, List.flatten_append]; simp only [List.flatten_cons, List.flatten_nil, List.append_nil]
theorem risingB_len {l : List (List UInt8)} (h : risingB l = true) : ∀ x ∈ l, x.length = 32 := fun x hx => by
  obtain ⟨i, hi, rfl⟩ := List.mem_iff_getElem.1 hx
  have := risingB_iff.1 h i hi
  simp only [digAt, Bool.and_eq_true, decide_eq_true_eq, getD_lt hi] at this
  exact this.1
theorem flat32 {l : List (List UInt8)} (h : ∀ x ∈ l, x.length = 32) : l.flatten.length = 32 * l.length := by
  induction l with
  | nil => rfl
  | cons a r ih => simp only [List.flatten_cons, List.length_append, List.length_cons, h a (by simp), ih (fun x hx => h x (by simp [hx]))]; omega
theorem manMay_iff (m : Man) : manMay m = true ↔ (0 ≤ m.kind ∧ m.kind ≤ 255) ∧ m.blobs.length + m.subs.length ≤ 20 ∧ risingB m.blobs = true ∧ risingB m.subs = true := by
  simp [manMay, and_assoc]
theorem manBytes_len {m : Man} (h : manMay m = true) : (manBytes m).length = 7 + 32 * (m.blobs.length + m.subs.length) := by
  obtain ⟨_, _, h3, h4⟩ := (manMay_iff m).1 h
  rw [manBytes_eq, List.length_append, List.length_append, flat32 (risingB_len h3), flat32 (risingB_len h4)]
  simp [manHead]; omega
end Silo
namespace Go.Proofs.Ytnddlhjafkhdoaa
open Go Go.Eng Go.RowKit Silo TryT

theorem eqManifest_ok {w : World} {ca cb : List Value} {a b : Man} (h1 : RdMan w ca a) (h2 : RdMan w cb b) :
    Calls Try.prog 24 #[.agg ca.toArray, .agg cb.toArray] w (Ret fun v w' => Below w.heap.size w w' ∧ v = .bool (decide (a = b))) := by
  obtain ⟨vl1, vs1, rfl, hl1, hs1, _⟩ := h1
  obtain ⟨vl2, vs2, rfl, hl2, hs2, _⟩ := h2
  have hK : Old w w := Old.refl w
  replace hl1 : Rd strS w vl1 a.blobs := hl1; replace hs1 : Rd strS w vs1 a.subs := hs1; replace hl2 : Rd strS w vl2 b.blobs := hl2; replace hs2 : Rd strS w vs2 b.subs := hs2
  refine enter (n := 24) (res := #[.tmp 4]) Try.func24 rfl rfl rfl rfl ?_
  refine cseq <| cregion ?_
  refine WR.eff (Eff.box rfl) rfl ?_
  rintro _ w1 ⟨b2, rfl, hn2⟩
  have hk1 := hn2.below
  replace hl1 := hl1.up hk1; replace hs1 := hs1.up hk1; replace hl2 := hl2.up hk1; replace hs2 := hs2.up hk1; replace hK := hK.up hk1
  have hb2 := hn2.blk
  refine WR.eff (Eff.box rfl) rfl ?_
  rintro _ w2 ⟨b3, rfl, hn3⟩
  have hk2 := hn3.below
  replace hl1 := hl1.up hk2; replace hs1 := hs1.up hk2; replace hl2 := hl2.up hk2; replace hs2 := hs2.up hk2; replace hK := hK.up hk2; replace hb2 := hb2.up hk2
  have hb3 := hn3.blk
  refine qq (Val.assign rfl) rfl <| cnil <| cseq <| cregion ?_
  first | refine WR.val (Val.fieldAddr fld29_0 rfl) rfl ?_ | refine WR.val (Val.fieldAddrP fld29_0 rfl) rfl ?_
  refine qq (Val.loadB scl3 rfl hb2 rfl) rfl ?_
  first | refine WR.val (Val.fieldAddr fld29_0 rfl) rfl ?_ | refine WR.val (Val.fieldAddrP fld29_0 rfl) rfl ?_
  refine qq (Val.loadB scl3 rfl hb3 rfl) rfl <| qq (Val.eql rfl rfl) rfl <| qq (Val.move rfl) rfl ?_
  apply WR.sc true 5 (decide (a.blobs = b.blobs)) (fun w' => Below w2.heap.size w2 w')
  case hl => rfl
  case hg => rfl
  case hu => rfl
  case hv => rfl
  case hs => rfl
  case hoff => rfl
  case hd => rfl
  case hF => exact fun _ => Below.refl _ _
  case hT =>
   intro hq11
   try simp only [tstS] at hq11
   simp only [List.take_succ_cons, List.take_zero]
   have hKsc11 : Old w2 w2 := Old.refl _
   refine WR.on rfl rfl ?_
   first | refine WR.val (Val.fieldAddr fld29_1 rfl) rfl ?_ | refine WR.val (Val.fieldAddrP fld29_1 rfl) rfl ?_
   refine WR.on rfl rfl ?_
   refine qq (Val.loadB scl23 rfl hb2 rfl) rfl ?_
   refine WR.on rfl rfl ?_
   first | refine WR.val (Val.fieldAddr fld29_1 rfl) rfl ?_ | refine WR.val (Val.fieldAddrP fld29_1 rfl) rfl ?_
   refine WR.on rfl rfl ?_
   refine qq (Val.loadB scl23 rfl hb3 rfl) rfl ?_
   refine WR.on rfl rfl ?_
   refine WR.eff (Eff.call pf37 rfl (eqStrings_ok hl1 hl2)) rfl ?_
   rintro v15 w3 ⟨hk3, rfl⟩
   replace hl1 := hl1.up hk3; replace hs1 := hs1.up hk3; replace hl2 := hl2.up hk3; replace hs2 := hs2.up hk3; replace hK := hK.up hk3; replace hb2 := hb2.up hk3; replace hb3 := hb3.up hk3; replace hKsc11 := hKsc11.up hk3
   exact WR.nil ⟨rfl, Sub.drop _ 5 _ rfl rfl, hKsc11⟩
  intro w4 hk4
  replace hl1 := hl1.up hk4; replace hs1 := hs1.up hk4; replace hl2 := hl2.up hk4; replace hs2 := hs2.up hk4; replace hK := hK.up hk4; replace hb2 := hb2.up hk4; replace hb3 := hb3.up hk4
  refine qq (Val.move rfl) rfl ?_
  apply WR.sc true 5 (decide (a.subs = b.subs)) (fun w' => Below w4.heap.size w4 w')
  case hl => rfl
  case hg => rfl
  case hu => rfl
  case hv => rfl
  case hs => rfl
  case hoff => rfl
  case hd => rfl
  case hF => exact fun _ => Below.refl _ _
  case hT =>
   intro hq18
   try simp only [tstS] at hq18
   simp only [List.take_succ_cons, List.take_zero]
   have hKsc18 : Old w4 w4 := Old.refl _
   refine WR.on rfl rfl ?_
   first | refine WR.val (Val.fieldAddr fld29_2 rfl) rfl ?_ | refine WR.val (Val.fieldAddrP fld29_2 rfl) rfl ?_
   refine WR.on rfl rfl ?_
   refine qq (Val.loadB scl23 rfl hb2 rfl) rfl ?_
   refine WR.on rfl rfl ?_
   first | refine WR.val (Val.fieldAddr fld29_2 rfl) rfl ?_ | refine WR.val (Val.fieldAddrP fld29_2 rfl) rfl ?_
   refine WR.on rfl rfl ?_
   refine qq (Val.loadB scl23 rfl hb3 rfl) rfl ?_
   refine WR.on rfl rfl ?_
   refine WR.eff (Eff.call pf37 rfl (eqStrings_ok hs1 hs2)) rfl ?_
   rintro v22 w5 ⟨hk5, rfl⟩
   replace hl1 := hl1.up hk5; replace hs1 := hs1.up hk5; replace hl2 := hl2.up hk5; replace hs2 := hs2.up hk5; replace hK := hK.up hk5; replace hb2 := hb2.up hk5; replace hb3 := hb3.up hk5; replace hKsc18 := hKsc18.up hk5
   exact WR.nil ⟨rfl, Sub.drop _ 5 _ rfl rfl, hKsc18⟩
  intro w6 hk6
  replace hl1 := hl1.up hk6; replace hs1 := hs1.up hk6; replace hl2 := hl2.up hk6; replace hs2 := hs2.up hk6; replace hK := hK.up hk6; replace hb2 := hb2.up hk6; replace hb3 := hb3.up hk6
  refine qq (Val.assign rfl) rfl <| cnil ?_
  refine WC.ret1 rfl rfl ?_
  exact ⟨hK, by congr 1; rw [Bool.eq_iff_iff]; cases a; cases b; simp [and_assoc]⟩

theorem copyManifest_ok {w : World} {ca : List Value} {a : Man} (h1 : RdMan w ca a) (hn : a.blobs.length ≤ 1048576) (hm : a.subs.length ≤ 1048576) :
    Calls Try.prog 16 #[.agg ca.toArray] w (Ret fun v w' => Below w.heap.size w w' ∧ ∃ vl vs, v = .agg #[I a.kind, vl, vs] ∧ Own w' w.heap.size 9 1 vl a.blobs.length (a.blobs.flatMap fun x => [St x]) ∧ Own w' w.heap.size 9 1 vs a.subs.length (a.subs.flatMap fun x => [St x])) := by
  obtain ⟨vl, vs, rfl, hl, hs, hq⟩ := h1
  have o1 := hl.oneC
  have o2 := hs.oneC
  obtain ⟨B, hB⟩ : ∃ B, B = w.heap.size := ⟨_, rfl⟩
  have hBw : B ≤ w.heap.size := Nat.le_of_eq hB
  have hK : Below B w w := Below.refl _ _
  rw [← hB] at hl hs ⊢
  refine enter (n := 14) (res := #[.cell 2 29]) Try.func16 rfl rfl rfl rfl ?_
  refine cseq <| cregion ?_
  refine WR.eff (Eff.box rfl) rfl ?_
  rintro _ w1 ⟨b1, rfl, hn1⟩
  have hk1 := hn1.below
  have hge1 : B ≤ b1 := by rw [hn1.at_]; exact hBw
  replace hl := hl.upB (hk1.mono hBw); replace hs := hs.upB (hk1.mono hBw); replace hK := hK.upB (hk1.mono hBw); replace hBw := Nat.le_trans hBw hk1.size
  have hb1 := hn1.blk
  refine WR.eff (Eff.alloc zero29) rfl ?_
  rintro _ w2 ⟨b2, rfl, hn2⟩
  have hk2 := hn2.below
  have hge2 : B ≤ b2 := by rw [hn2.at_]; exact hBw
  have hne2_b1 : b1 ≠ b2 := by have := hb1.lt; have := hn2.at_; omega
  replace hl := hl.upB (hk2.mono hBw); replace hs := hs.upB (hk2.mono hBw); replace hK := hK.upB (hk2.mono hBw); replace hb1 := hb1.up hk2; replace hBw := Nat.le_trans hBw hk2.size
  have hb2 := hn2.blk
  refine cnil <| cseq <| cregion <| qq (Val.loadBN agg29 rfl hb1 rfl) rfl ?_
  refine WR.eff (Eff.alloc zero29) rfl ?_
  rintro _ w3 ⟨b3, rfl, hn3⟩
  have hk3 := hn3.below
  have hge3 : B ≤ b3 := by rw [hn3.at_]; exact hBw
  have hne3_b1 : b1 ≠ b3 := by have := hb1.lt; have := hn3.at_; omega
  have hne3_b2 : b2 ≠ b3 := by have := hb2.lt; have := hn3.at_; omega
  replace hl := hl.upB (hk3.mono hBw); replace hs := hs.upB (hk3.mono hBw); replace hK := hK.upB (hk3.mono hBw); replace hb1 := hb1.up hk3; replace hb2 := hb2.up hk3; replace hBw := Nat.le_trans hBw hk3.size
  have hb3 := hn3.blk
  refine WR.eff_ (Eff.storeBN agg29 rfl rfl hb3 rfl rfl (by repeat (first | exact List.forall_mem_nil _ | refine List.forall_mem_cons.2 ⟨by first | rfl | assumption, ?_⟩))) ?_
  intro _ w4 hS4
  have hk4 : Below B _ _ := Blk.store_below hS4 hge3 hBw
  replace hb1 := hb1.grown hS4.grown (by simp; omega)
  replace hb2 := hb2.grown hS4.grown (by simp; omega)
  replace hl := hl.upB hk4; replace hs := hs.upB hk4; replace hK := hK.upB hk4; replace hBw := Nat.le_trans hBw hk4.size
  replace hb3 := hS4.blk
  refine cnil <| cseq ?_
  have hBl := hBw
  refine cregion ?_
  first | refine WR.val (Val.fieldAddr fld29_1 rfl) rfl ?_ | refine WR.val (Val.fieldAddrP fld29_1 rfl) rfl ?_
  refine qq (Val.loadB scl23 rfl hb1 rfl) rfl ?_
  have hlt5_b1 := hb1.lt
  have hlt5_b2 := hb2.lt
  have hlt5_b3 := hb3.lt
  refine WR.eff (Eff.call pf15 rfl (copyStrings_ok (hl.mono hBw) hn)) rfl ?_
  rintro v7 w5 ⟨hk5, ho7⟩
  replace hl := hl.upB (hk5.mono hBw); replace hs := hs.upB (hk5.mono hBw); replace hK := hK.upB (hk5.mono hBw); replace hb1 := hb1.up hk5; replace hb2 := hb2.up hk5; replace hb3 := hb3.up hk5; replace hBw := Nat.le_trans hBw hk5.size
  have c7 := ho7.cellsV; have o7 := ho7.oneC
  first | refine WR.val (Val.fieldAddr fld29_1 rfl) rfl ?_ | refine WR.val (Val.fieldAddrP fld29_1 rfl) rfl ?_
  refine WR.eff_ (Eff.storeB scl23 rfl rfl (by first | rfl | assumption) (by first | rfl | assumption) hb3 rfl) ?_
  intro _ w6 hS6
  have hk6 : Below B _ _ := Blk.store_below hS6 hge3 hBw
  replace hb1 := hb1.grown hS6.grown (by simp; omega)
  replace hb2 := hb2.grown hS6.grown (by simp; omega)
  replace ho7 := ho7.grown hS6.grown (fun k hk e => by have := (ho7.lt k hk).1; simp at e; omega)
  replace hl := hl.upB hk6; replace hs := hs.upB hk6; replace hK := hK.upB hk6; replace hBw := Nat.le_trans hBw hk6.size
  replace hb3 := hS6.blk
  refine cnil <| cseq ?_
  have hBm := hBw
  refine cregion ?_
  first | refine WR.val (Val.fieldAddr fld29_2 rfl) rfl ?_ | refine WR.val (Val.fieldAddrP fld29_2 rfl) rfl ?_
  refine qq (Val.loadB scl23 rfl hb1 rfl) rfl ?_
  have hlt7_b1 := hb1.lt
  have hlt7_b2 := hb2.lt
  have hlt7_b3 := hb3.lt
  refine WR.eff (Eff.call pf15 rfl (copyStrings_ok (hs.mono hBw) hm)) rfl ?_
  rintro v11 w7 ⟨hk7, ho11⟩
  replace hl := hl.upB (hk7.mono hBw); replace hs := hs.upB (hk7.mono hBw); replace hK := hK.upB (hk7.mono hBw); replace hb1 := hb1.up hk7; replace hb2 := hb2.up hk7; replace hb3 := hb3.up hk7; replace ho7 := ho7.up hk7; replace hBw := Nat.le_trans hBw hk7.size
  have c11 := ho11.cellsV; have o11 := ho11.oneC
  first | refine WR.val (Val.fieldAddr fld29_2 rfl) rfl ?_ | refine WR.val (Val.fieldAddrP fld29_2 rfl) rfl ?_
  refine WR.eff_ (Eff.storeB scl23 rfl rfl (by first | rfl | assumption) (by first | rfl | assumption) hb3 rfl) ?_
  intro _ w8 hS8
  have hk8 : Below B _ _ := Blk.store_below hS8 hge3 hBw
  replace hb1 := hb1.grown hS8.grown (by simp; omega)
  replace hb2 := hb2.grown hS8.grown (by simp; omega)
  replace ho7 := ho7.grown hS8.grown (fun k hk e => by have := (ho7.lt k hk).1; simp at e; omega)
  replace ho11 := ho11.grown hS8.grown (fun k hk e => by have := (ho11.lt k hk).1; simp at e; omega)
  replace hl := hl.upB hk8; replace hs := hs.upB hk8; replace hK := hK.upB hk8; replace hBw := Nat.le_trans hBw hk8.size
  replace hb3 := hS8.blk
  refine cnil <| cseq <| cregion <| qq (Val.loadBN agg29 rfl hb3 rfl) rfl ?_
  refine WR.eff_ (Eff.storeBN agg29 rfl rfl hb2 rfl rfl (by repeat (first | exact List.forall_mem_nil _ | refine List.forall_mem_cons.2 ⟨by first | rfl | assumption, ?_⟩))) ?_
  intro _ w9 hS9
  have hk9 : Below B _ _ := Blk.store_below hS9 hge2 hBw
  replace hb1 := hb1.grown hS9.grown (by simp; omega)
  replace hb3 := hb3.grown hS9.grown (by simp; omega)
  replace ho7 := ho7.grown hS9.grown (fun k hk e => by have := (ho7.lt k hk).1; simp at e; omega)
  replace ho11 := ho11.grown hS9.grown (fun k hk e => by have := (ho11.lt k hk).1; simp at e; omega)
  replace hl := hl.upB hk9; replace hs := hs.upB hk9; replace hK := hK.upB hk9; replace hBw := Nat.le_trans hBw hk9.size
  replace hb2 := hS9.blk
  refine cnil ?_
  refine WC.retR1 rfl (RVal.cellN agg29 rfl hb2 rfl) ?_
  exact ⟨hK, _, _, rfl, ho7.base_le hBl, ho11.base_le hBm⟩

theorem pmbytes_ok {w : World} {cs : List Value} {m : Man} (h : RdMan w cs m) (hm : manMay m = true) : Calls Try.prog 20 #[.agg cs.toArray] w (Ret fun v w' => Below w.heap.size w w' ∧ v = St (manBytes m)) := by
  obtain ⟨vb, vs, rfl, hb, hs, hq⟩ := h
  obtain ⟨⟨k0, k1⟩, hl20, hr1, hr2⟩ := (manMay_iff m).1 hm
  have hK : Old w w := Old.refl w
  have o1 := hb.oneC; have o2 := hs.oneC
  replace hb : Rd strS w vb m.blobs := hb; replace hs : Rd strS w vs m.subs := hs
  have f1 := risingB_len hr1; have f2 := risingB_len hr2
  refine enter (n := 49) (res := #[.tmp 2]) Try.func20 rfl rfl rfl rfl ?_
  refine cseq <| cregion ?_
  refine WR.eff (Eff.box rfl) rfl ?_
  rintro _ w1 ⟨b1, rfl, hn1⟩
  have hk1 := hn1.below
  replace hb := hb.up hk1; replace hs := hs.up hk1; replace hK := hK.up hk1
  have hb1 := hn1.blk
  refine qq (Val.assign rfl) rfl <| cnil <| cseq <| cregion ?_
  first | refine WR.val (Val.fieldAddr fld29_0 rfl) rfl ?_ | refine WR.val (Val.fieldAddrP fld29_0 rfl) rfl ?_
  refine qq (Val.loadB scl3 rfl hb1 rfl) rfl <| qq (Val.convToU8I Try.underlying3 Try.underlying5 rfl) rfl ?_
  first | refine WR.val (Val.fieldAddr fld29_1 rfl) rfl ?_ | refine WR.val (Val.fieldAddrP fld29_1 rfl) rfl ?_
  refine qq (Val.loadB scl23 rfl hb1 rfl) rfl ?_
  first | refine WR.val (Val.rdlen sl23 (by assumption) rfl) rfl ?_ | refine WR.val (Val.sllen Try.underlying23 rfl) rfl ?_
  refine qq (Val.convToU8I Try.underlying3 Try.underlying5 rfl) rfl ?_
  first | refine WR.val (Val.fieldAddr fld29_2 rfl) rfl ?_ | refine WR.val (Val.fieldAddrP fld29_2 rfl) rfl ?_
  refine qq (Val.loadB scl23 rfl hb1 rfl) rfl ?_
  first | refine WR.val (Val.rdlen sl23 (by assumption) rfl) rfl ?_ | refine WR.val (Val.sllen Try.underlying23 rfl) rfl ?_
  refine qq (Val.convToU8I Try.underlying3 Try.underlying5 rfl) rfl ?_
  refine WR.eff (Eff.buildSlice sl68 rfl rfl rfl (by simp [Value.cells]) rfl rfl) rfl ?_
  rintro _ w2 ⟨b17, rfl, hn17⟩
  have hk2 := hn17.below
  replace hb := hb.up hk2; replace hs := hs.up hk2; replace hK := hK.up hk2; replace hb1 := hb1.up hk2
  refine qq (Val.ofBytes (l := [u8I m.kind, u8I m.blobs.length, u8I m.subs.length]) Try.underlying68 Try.underlying9 Try.underlying5 rfl (hn17.own (n := 3) (size := 1) (Nat.le_refl _) rfl (by decide))) rfl <| qq (Val.sadd rfl rfl (by first | omega | assumption | (simp; omega) | (simp; done))) rfl <| qq (Val.assign rfl) rfl <| cnil <| cseq <| cseq <| cregion <| qq (Val.assign rfl) rfl <| cnil ?_
  refine cblock ?_
  refine WC.loop (σ := Nat) (fun k => [(1, .pointer (some ⟨b1, 0, none⟩)), (3, St (manHead m ++ (m.blobs.take k).flatten)), (4, I k)]) (fun k w' => Rd strS w' vb m.blobs ∧ Rd strS w' vs m.subs ∧ Old w w' ∧ Blk w' b1 [I m.kind, vb, vs] 29 ∧ k ≤ m.blobs.length) (fun k => m.blobs.length - k) 0 (by simp only [List.take_zero, List.flatten_nil, List.append_nil]; repeat (first | exact Sub.nil _ | refine Sub.cons rfl ?_ | refine Sub.consM rfl ?_)) ⟨hb, hs, hK, hb1, by omega⟩ ?_
  rintro k wl ⟨hb, hs, hK, hb1, hk⟩
  refine cseq <| cseq <| cregion <| qq (Val.move rfl) rfl ?_
  first | refine WR.val (Val.fieldAddr fld29_1 rfl) rfl ?_ | refine WR.val (Val.fieldAddrP fld29_1 rfl) rfl ?_
  refine qq (Val.loadB scl23 rfl hb1 rfl) rfl ?_
  first | refine WR.val (Val.rdlen sl23 (by assumption) rfl) rfl ?_ | refine WR.val (Val.sllen Try.underlying23 rfl) rfl ?_
  refine qq (Val.lss rfl rfl) rfl <| cnil ?_
  refine WC.cond rfl (fun hc3 => ?_) (fun hc3 => ?_)
  ·try simp only [tstS] at hc3
   have ka : k < m.blobs.length := by omega
   obtain ⟨cs1, hc31, rfl, ok1⟩ := hb.el ka
   have g1 : (manHead m ++ (m.blobs.take k).flatten).length ≤ 1000 := by
     rw [List.length_append, flat32 (fun x hx => f1 x (List.mem_of_mem_take hx)), List.length_take]; simp [manHead]; omega
   have g2 := f1 _ (List.getElem_mem ka)
   refine cskip <| cseq <| cblock <| cregion <| qq (Val.move rfl) rfl ?_
   first | refine WR.val (Val.fieldAddr fld29_1 rfl) rfl ?_ | refine WR.val (Val.fieldAddrP fld29_1 rfl) rfl ?_
   refine qq (Val.loadB scl23 rfl hb1 rfl) rfl <| qq (Val.move rfl) rfl <| qq (Val.indexAddr sl23 (by assumption) rfl rfl rfl (by first | omega | assumption | (simp; omega) | (simp; done)) (by first | omega | assumption | (simp; omega) | (simp; done))) rfl <| qq (Val.loadE1 scl9 rfl hc31) rfl <| qq (Val.sadd rfl rfl (by first | omega | assumption | (simp; omega) | (simp; done))) rfl <| qq (Val.assign rfl) rfl <| cnil <| cregion <| qq (Val.move rfl) rfl ?_
   refine qq (Val.addI rfl rfl (by first | omega | assumption | (simp; omega) | (simp; done)) (by first | omega | assumption | (simp; omega) | (simp; done))) rfl <| qq (Val.assign rfl) rfl <| cnil ?_
   exact ⟨k + 1, (by rw [flatten_take ka, ← List.append_assoc]; repeat (first | exact Sub.nil _ | refine Sub.cons rfl ?_ | refine Sub.consM rfl ?_)), ⟨hb, hs, hK, hb1, ka⟩, by omega⟩
  ·try simp only [tstS] at hc3
   have : k = m.blobs.length := by omega
   subst this
   rw [List.take_length]
   refine WC.exit rfl ?_
   refine cseq <| cseq <| cregion <| qq (Val.assign rfl) rfl <| cnil <| cblock ?_
   refine WC.loop (σ := Nat) (fun k => [(1, .pointer (some ⟨b1, 0, none⟩)), (3, St (manHead m ++ m.blobs.flatten ++ (m.subs.take k).flatten)), (5, I k)]) (fun k w' => Rd strS w' vs m.subs ∧ Old w w' ∧ Blk w' b1 [I m.kind, vb, vs] 29 ∧ k ≤ m.subs.length) (fun k => m.subs.length - k) 0 (by simp only [List.take_zero, List.flatten_nil, List.append_nil]; repeat (first | exact Sub.nil _ | refine Sub.cons rfl ?_ | refine Sub.consM rfl ?_)) ⟨hs, hK, hb1, by omega⟩ ?_
   rintro k wl2 ⟨hs, hK, hb1, hk⟩
   refine cseq <| cseq <| cregion <| qq (Val.move rfl) rfl ?_
   first | refine WR.val (Val.fieldAddr fld29_2 rfl) rfl ?_ | refine WR.val (Val.fieldAddrP fld29_2 rfl) rfl ?_
   refine qq (Val.loadB scl23 rfl hb1 rfl) rfl ?_
   first | refine WR.val (Val.rdlen sl23 (by assumption) rfl) rfl ?_ | refine WR.val (Val.sllen Try.underlying23 rfl) rfl ?_
   refine qq (Val.lss rfl rfl) rfl <| cnil ?_
   refine WC.cond rfl (fun hc7 => ?_) (fun hc7 => ?_)
   ·try simp only [tstS] at hc7
    have ka : k < m.subs.length := by omega
    obtain ⟨cs1, hc45, rfl, ok1⟩ := hs.el ka
    have g1 : (manHead m ++ m.blobs.flatten ++ (m.subs.take k).flatten).length ≤ 1000 := by
      rw [List.length_append, List.length_append, flat32 (fun x hx => f2 x (List.mem_of_mem_take hx)), flat32 f1, List.length_take]; simp [manHead]; omega
    have g2 := f2 _ (List.getElem_mem ka)
    refine cskip <| cseq <| cblock <| cregion <| qq (Val.move rfl) rfl ?_
    first | refine WR.val (Val.fieldAddr fld29_2 rfl) rfl ?_ | refine WR.val (Val.fieldAddrP fld29_2 rfl) rfl ?_
    refine qq (Val.loadB scl23 rfl hb1 rfl) rfl <| qq (Val.move rfl) rfl <| qq (Val.indexAddr sl23 (by assumption) rfl rfl rfl (by first | omega | assumption | (simp; omega) | (simp; done)) (by first | omega | assumption | (simp; omega) | (simp; done))) rfl <| qq (Val.loadE1 scl9 rfl hc45) rfl <| qq (Val.sadd rfl rfl (by first | omega | assumption | (simp; omega) | (simp; done))) rfl <| qq (Val.assign rfl) rfl <| cnil <| cregion <| qq (Val.move rfl) rfl ?_
    refine qq (Val.addI rfl rfl (by first | omega | assumption | (simp; omega) | (simp; done)) (by first | omega | assumption | (simp; omega) | (simp; done))) rfl <| qq (Val.assign rfl) rfl <| cnil ?_
    exact ⟨k + 1, (by rw [flatten_take ka, ← List.append_assoc]; repeat (first | exact Sub.nil _ | refine Sub.cons rfl ?_ | refine Sub.consM rfl ?_)), ⟨hs, hK, hb1, ka⟩, by omega⟩
   ·try simp only [tstS] at hc7
    have : k = m.subs.length := by omega
    subst this
    rw [List.take_length]
    refine WC.exit rfl ?_
    refine cseq <| cregion <| qq (Val.move rfl) rfl <| qq (Val.assign rfl) rfl <| cnil ?_
    refine WC.ret1 rfl rfl ?_
    exact ⟨hK, by rw [manBytes_eq]⟩
end Go.Proofs.Ytnddlhjafkhdoaa
