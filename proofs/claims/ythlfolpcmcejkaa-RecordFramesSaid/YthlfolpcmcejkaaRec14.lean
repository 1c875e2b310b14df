/- Texts and a copied record side by side. No condition. -/
import Derived.Test.YthlfolpcmcejkaaRec13
import Derived.Test.YthlfolpcmcejkaaMore2
set_option linter.unusedSimpArgs false
set_option linter.unusedVariables false
set_option maxRecDepth 100000
namespace Go.Proofs.Ythlfolpcmcejkaa
open Go Go.Eng Go.RowKit Silo TryT

abbrev TStr : TypeId := 9
abbrev flatT (l : List (List UInt8)) : List Value := l.flatMap fun x => [St x]

theorem copyRecord_g {w : World} {ca : List Value} {a : Rec} (h1 : RdRec w ca a) (hn : a.list.length ≤ 1048576) (hm : a.slots.length ≤ 1048576) :
    Calls Try.prog 16 #[.agg ca.toArray] w (Ret fun v w' => Below w.heap.size w w' ∧ ∃ vl vs, v = .agg (cellsX a vl vs).toArray ∧ Own w' w.heap.size TI 1 vl a.list.length (flatL a.list) ∧ Own w' w.heap.size TSl 2 vs a.slots.length (flatS a.slots)) := by
  obtain ⟨vl, vs, rfl, hl, hs, hq⟩ := h1
  have o1 := hl.oneC
  have o2 := hs.oneC
  obtain ⟨B, hB⟩ : ∃ B, B = w.heap.size := ⟨_, rfl⟩
  have hBw : B ≤ w.heap.size := Nat.le_of_eq hB
  have hK : Below B w w := Below.refl _ _
  rw [← hB] at hl hs ⊢
  refine enter (n := 14) (res := #[.cell 2 31]) Try.func16 rfl rfl rfl rfl ?_
  refine cseq <| cg ?_
  refine ve (Eff.box rfl) ?_
  rintro _ w1 ⟨b1, rfl, hn1⟩
  have hk1 := hn1.below
  have hge1 : B ≤ b1 := by rw [hn1.at_]; exact hBw
  replace hl := hl.upB (hk1.mono hBw); replace hs := hs.upB (hk1.mono hBw); replace hK := hK.upB (hk1.mono hBw); replace hBw := Nat.le_trans hBw hk1.size
  have hb1 := hn1.blk
  refine ve (Eff.alloc zero31) ?_
  rintro _ w2 ⟨b2, rfl, hn2⟩
  have hk2 := hn2.below
  have hge2 : B ≤ b2 := by rw [hn2.at_]; exact hBw
  have hne2_b1 : b1 ≠ b2 := by have := hb1.lt; have := hn2.at_; omega
  replace hl := hl.upB (hk2.mono hBw); replace hs := hs.upB (hk2.mono hBw); replace hK := hK.upB (hk2.mono hBw); replace hb1 := hb1.up hk2; replace hBw := Nat.le_trans hBw hk2.size
  have hb2 := hn2.blk
  refine cnil <| cseq <| cg <| vq (Val.loadBN agg31 rfl hb1 rfl) ?_
  refine ve (Eff.alloc zero31) ?_
  rintro _ w3 ⟨b3, rfl, hn3⟩
  have hk3 := hn3.below
  have hge3 : B ≤ b3 := by rw [hn3.at_]; exact hBw
  have hne3_b1 : b1 ≠ b3 := by have := hb1.lt; have := hn3.at_; omega
  have hne3_b2 : b2 ≠ b3 := by have := hb2.lt; have := hn3.at_; omega
  replace hl := hl.upB (hk3.mono hBw); replace hs := hs.upB (hk3.mono hBw); replace hK := hK.upB (hk3.mono hBw); replace hb1 := hb1.up hk3; replace hb2 := hb2.up hk3; replace hBw := Nat.le_trans hBw hk3.size
  have hb3 := hn3.blk
  refine WR.eff_ (Eff.storeBN agg31 rfl rfl hb3 rfl rfl ones) ?_
  intro _ w4 hS4
  have hk4 : Below B _ _ := Blk.store_below hS4 hge3 hBw
  replace hb1 := hb1.grown hS4.grown (by simp; omega)
  replace hb2 := hb2.grown hS4.grown (by simp; omega)
  replace hl := hl.upB hk4; replace hs := hs.upB hk4; replace hK := hK.upB hk4; replace hBw := Nat.le_trans hBw hk4.size
  replace hb3 := hS4.blk
  refine cnil <| cseq ?_
  have hB7 := hBw
  refine cg <| vq (Val.fieldAddr fld31_4 rfl) <| vq (Val.loadB scl24 rfl hb1 rfl) ?_
  have hlt5_b1 := hb1.lt
  have hlt5_b2 := hb2.lt
  have hlt5_b3 := hb3.lt
  refine ve (Eff.call pf39 rfl (copyNumbers_ok (hl.mono hBw) hn)) ?_
  rintro v7 w5 ⟨hk5, ho7⟩
  replace hl := hl.upB (hk5.mono hBw); replace hs := hs.upB (hk5.mono hBw); replace hK := hK.upB (hk5.mono hBw); replace hb1 := hb1.up hk5; replace hb2 := hb2.up hk5; replace hb3 := hb3.up hk5; replace hBw := Nat.le_trans hBw hk5.size
  have c7 := ho7.cellsV; have o7 := ho7.oneC
  refine vq (Val.fieldAddr fld31_4 rfl) ?_
  refine WR.eff_ (Eff.storeB scl24 rfl rfl ra ra hb3 rfl) ?_
  intro _ w6 hS6
  have hk6 : Below B _ _ := Blk.store_below hS6 hge3 hBw
  replace hb1 := hb1.grown hS6.grown (by simp; omega)
  replace hb2 := hb2.grown hS6.grown (by simp; omega)
  replace ho7 := ho7.grown hS6.grown (fun k hk e => by have := (ho7.lt k hk).1; simp at e; omega)
  replace hl := hl.upB hk6; replace hs := hs.upB hk6; replace hK := hK.upB hk6; replace hBw := Nat.le_trans hBw hk6.size
  replace hb3 := hS6.blk
  refine cnil <| cseq ?_
  have hB11 := hBw
  refine cg <| vq (Val.fieldAddr fld31_5 rfl) <| vq (Val.loadB scl29 rfl hb1 rfl) ?_
  have hlt7_b1 := hb1.lt
  have hlt7_b2 := hb2.lt
  have hlt7_b3 := hb3.lt
  refine ve (Eff.call pf40 rfl (copySlotList_ok (hs.mono hBw) hm)) ?_
  rintro v11 w7 ⟨hk7, ho11⟩
  replace hl := hl.upB (hk7.mono hBw); replace hs := hs.upB (hk7.mono hBw); replace hK := hK.upB (hk7.mono hBw); replace hb1 := hb1.up hk7; replace hb2 := hb2.up hk7; replace hb3 := hb3.up hk7; replace ho7 := ho7.up hk7; replace hBw := Nat.le_trans hBw hk7.size
  have c11 := ho11.cellsV; have o11 := ho11.oneC
  refine vq (Val.fieldAddr fld31_5 rfl) ?_
  refine WR.eff_ (Eff.storeB scl29 rfl rfl ra ra hb3 rfl) ?_
  intro _ w8 hS8
  have hk8 : Below B _ _ := Blk.store_below hS8 hge3 hBw
  replace hb1 := hb1.grown hS8.grown (by simp; omega)
  replace hb2 := hb2.grown hS8.grown (by simp; omega)
  replace ho7 := ho7.grown hS8.grown (fun k hk e => by have := (ho7.lt k hk).1; simp at e; omega)
  replace ho11 := ho11.grown hS8.grown (fun k hk e => by have := (ho11.lt k hk).1; simp at e; omega)
  replace hl := hl.upB hk8; replace hs := hs.upB hk8; replace hK := hK.upB hk8; replace hBw := Nat.le_trans hBw hk8.size
  replace hb3 := hS8.blk
  refine cnil <| cseq <| cg <| vq (Val.loadBN agg31 rfl hb3 rfl) ?_
  refine WR.eff_ (Eff.storeBN agg31 rfl rfl hb2 rfl rfl ones) ?_
  intro _ w9 hS9
  have hk9 : Below B _ _ := Blk.store_below hS9 hge2 hBw
  replace hb1 := hb1.grown hS9.grown (by simp; omega)
  replace hb3 := hb3.grown hS9.grown (by simp; omega)
  replace ho7 := ho7.grown hS9.grown (fun k hk e => by have := (ho7.lt k hk).1; simp at e; omega)
  replace ho11 := ho11.grown hS9.grown (fun k hk e => by have := (ho11.lt k hk).1; simp at e; omega)
  replace hl := hl.upB hk9; replace hs := hs.upB hk9; replace hK := hK.upB hk9; replace hBw := Nat.le_trans hBw hk9.size
  replace hb2 := hS9.blk
  refine cnil ?_
  refine WC.retR1 rfl (RVal.cellN agg31 rfl hb2 rfl) ?_
  exact ⟨hK, _, _, rfl, ho7.base_le hB7, ho11.base_le hB11⟩

/-- A record that was copied, and texts that grow beside it. -/
structure IS (w0 w : World) (base b5 : Nat) (a : Rec) (vl vs vt : Value) (texts : List (List UInt8)) : Prop where
  hK : Below base w0 w
  hBw : base ≤ w.heap.size
  hb5 : base ≤ b5
  X : Blk w b5 (cellsX a vl vs) TX
  L : Own w base TI 1 vl a.list.length (flatL a.list)
  S : Own w base TSl 2 vs a.slots.length (flatS a.slots)
  T : Own w base TStr 1 vt texts.length (flatT texts)
  neL : ∀ k, vl.rowOf = some k → k ≠ b5
  neS : ∀ k, vs.rowOf = some k → k ≠ b5
  neT : ∀ k, vt.rowOf = some k → k ≠ b5 ∧ vl.rowOf ≠ some k ∧ vs.rowOf ≠ some k
  small : ∀ x ∈ texts, x.length ≤ 1000000

section
variable {w0 w w' : World} {base b5 : Nat} {a : Rec} {vl vs vt vt' : Value} {texts : List (List UInt8)}
theorem IS.up (h : IS w0 w base b5 a vl vs vt texts) (hk : Below w.heap.size w w') : IS w0 w' base b5 a vl vs vt texts :=
  { h with hK := h.hK.trans (hk.mono h.hBw), hBw := Nat.le_trans h.hBw hk.size, X := h.X.up hk, L := h.L.up hk, S := h.S.up hk, T := h.T.up hk }
theorem IS.other {b : Nat} (h : IS w0 w base b5 a vl vs vt texts) (hg : w.grownBy w' (some b)) (h1 : base ≤ b) (h2 : b ≠ b5) (h3 : vl.rowOf ≠ some b) (h4 : vs.rowOf ≠ some b) (h5 : vt.rowOf ≠ some b) : IS w0 w' base b5 a vl vs vt texts :=
  have hb : Below base w w' := below_of_grown hg h.hBw (fun k e => by injection e with e; omega)
  { h with
    hK := h.hK.trans hb, hBw := Nat.le_trans h.hBw hb.size
    X := h.X.grown hg (fun e => h2 (by injection e))
    L := h.L.grown hg (fun k hk e => h3 (hk.trans e.symm))
    S := h.S.grown hg (fun k hk e => h4 (hk.trans e.symm))
    T := h.T.grown hg (fun k hk e => h5 (hk.trans e.symm)) }
theorem IS.app {new : List (List UInt8)} {m : Nat} (h : IS w0 w base b5 a vl vs vt texts) (hA : App w w' base TStr 1 vt vt' (texts.length + m) (flatT texts ++ flatT new)) (hm : m = new.length) (hs : ∀ x ∈ new, x.length ≤ 1000000) : IS w0 w' base b5 a vl vs vt' (texts ++ new) :=
  have hb : Below base w w' := below_of_grown hA.grown h.hBw (fun k hk => (h.T.lt k hk).1)
  have hrow : ∀ k, vt'.rowOf = some k → vt.rowOf = some k ∨ k = w.heap.size := fun k hk => by
    rcases hA.at_ with e | e
    · exact .inl (e ▸ hk)
    · rw [hk] at e; injection e with e; exact .inr e
  have hX := h.X.lt
  { h with
    hK := h.hK.trans hb, hBw := Nat.le_trans h.hBw hb.size
    X := h.X.grown hA.grown (fun e => (h.neT b5 e).1 rfl)
    L := h.L.grown hA.grown (fun k hk e => (h.neT k e).2.1 hk)
    S := h.S.grown hA.grown (fun k hk e => (h.neT k e).2.2 hk)
    T := by
      have := hA.own
      rw [show flatT texts ++ flatT new = flatT (texts ++ new) by simp [flatT], show texts.length + m = (texts ++ new).length by simp [hm]] at this
      exact this
    neT := fun k hk => by
      rcases hrow k hk with h1 | h1
      · exact h.neT k h1
      · exact ⟨by omega, fun e => by have := (h.L.lt k e).2; omega, fun e => by have := (h.S.lt k e).2; omega⟩
    small := fun x hx => by
      rcases List.mem_append.1 hx with hx | hx
      · exact h.small x hx
      · exact hs x hx }
end
end Go.Proofs.Ythlfolpcmcejkaa
