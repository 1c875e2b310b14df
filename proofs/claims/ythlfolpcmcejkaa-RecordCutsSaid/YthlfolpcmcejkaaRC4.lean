/- Records' rows spoilt by the law. | The sample that wakes the machine. | Texts and a copied record side by side. | Records spoilt by the law; records compared. | Records compared; both sides' frames as the law wants them. | The law's own frames behind each other. | The law on frames. | The law on cuts. | The law on cuts: its walk. | The law on frames cut off, as its row says it. No condition. -/
import Derived.Test.YthlfolpcmcejkaaRC3
set_option linter.unusedSimpArgs false
set_option linter.unusedVariables false
set_option maxRecDepth 100000
namespace Go.Eng
open Go Go.RowKit
/-- Every row is still of its type and size. -/
def Soft (w w' : World) : Prop := ∀ (k : Nat) cur e fz, w.heap[k]? = some (.cells cur e fz) → (fz.1 < fz.2 → cur.size ≤ fz.1) → ∃ cur' fz', w'.heap[k]? = some (.cells cur' e fz') ∧ cur'.size = cur.size ∧ (fz'.1 < fz'.2 → cur'.size ≤ fz'.1)
theorem Soft.refl (w : World) : Soft w w := fun k cur e fz h hf => ⟨cur, fz, h, rfl, hf⟩
theorem soft_of {w w' : World} {b b' : Nat} {e : TypeId} {size n : Nat} {v : Value} {xs ys : List Value} (h : Own w b e size v n xs) (h' : Own w' b' e size v n ys) (hg : w.grownBy w' v.rowOf) : Soft w w' := fun k cur e2 fz hk hf => by
  have hlt : k < w.heap.size := (Array.getElem?_eq_some_iff.1 hk).1
  by_cases hr : v.rowOf = some k
  · rcases h.2 with ⟨rfl, A, rfl⟩ | ⟨g, cap, cur1, fz1, rfl, _, h1, _, _, _, hs1, _, hcp⟩
    · rw [rowOf_zero] at hr; cases hr
    · rcases h'.2 with ⟨rfl, A, he⟩ | ⟨g', cap', cur2, fz2, he, _, h2, hf2, _, _, hs2, _, _⟩
      · injection he with _ _ he; omega
      · injection he with he1 _ he3
        injection he1 with he1
        injection he1 with he1 _ _
        subst he1 he3
        have : k = g := by rw [rowOf_slice hcp] at hr; injection hr with hr; exact hr.symm
        subst this
        rw [h1] at hk
        injection hk with hk
        injection hk with hk1 hk2 hk3
        subst hk1 hk2
        exact ⟨cur2, fz2, h2, by rw [hs1, hs2], hf2⟩
  · exact ⟨cur, fz, (hg.block k hlt (fun e => hr e.symm)).trans hk, rfl, hf⟩
/-- A row whose contents do not matter. -/
def SomeC (c : Nat → Nat) (w : World) (i : Nat) (e : TypeId) (size : Nat) (v : Value) (n : Nat) : Prop := ∃ xs, OwnC c w i e size v n xs
theorem SomeC.mv {c c' : Nat → Nat} {w w' : World} {I : List Nat} {i : Nat} {e : TypeId} {size n : Nat} {v : Value} (h : SomeC c w i e size v n) (m : Mv c w c' w' I) (hi : hasC I i = false := by rfl) : SomeC c' w' i e size v n := let ⟨xs, h⟩ := h; ⟨xs, h.mv m hi⟩
theorem SomeC.soft {c c' : Nat → Nat} {w w' : World} {I : List Nat} {i : Nat} {e : TypeId} {size n : Nat} {v : Value} (h : SomeC c w i e size v n) (m : Mv c w c' w' I) (hs : Soft w w') : SomeC c' w' i e size v n := by
  obtain ⟨xs, h⟩ := h
  have hc : ∀ k, v.rowOf = some k → c' k = i := fun k hk => (m.col k (h.own.lt k hk).2).trans (h.col k hk)
  have hl := h.own.1
  rcases h.own.2 with ⟨rfl, A, rfl⟩ | ⟨g, cap, cur, fz, rfl, hb, hg, hf, h2, h3, h4, h5, hcp⟩
  · exact ⟨xs, ⟨hl, .inl ⟨rfl, A, rfl⟩⟩, hc⟩
  · obtain ⟨cur', fz', hk', hs', hf'⟩ := hs g cur e fz hg hf
    have hle : n * size ≤ cap * size := Nat.mul_le_mul_right _ h2
    exact ⟨cur'.toList.take (n * size), ⟨by rw [List.length_take, Array.length_toList, hs', h4]; omega, .inr ⟨g, cap, cur', fz', rfl, hb, hk', hf', h2, h3, by rw [hs', h4], rfl, hcp⟩⟩, hc⟩
theorem grown_of_rowC {w w' : World} {r : Option Nat} {c' : Nat → Nat} {i : Nat} (m : Mv (fun k => if r = some k then i else 0) w c' w' [i]) (hi : Nat.blt 0 i = true) : w.grownBy w' r :=
  ⟨m.os, m.tape, m.output, m.size, fun k hk hne => m.block k hk (by
    show hasC [i] (if r = some k then i else 0) = false
    rw [if_neg (fun e => hne e.symm)]
    cases i with
    | zero => cases hi
    | succ i => rfl)⟩
end Go.Eng
namespace Go.Proofs.Ythlfolpcmcejkaa
open Go Go.Eng Go.RowKit Silo TryT

theorem snumbers_ok {w : World} {v : Value} {n : Nat} {xs : List Value} (h : Own w 0 TI 1 v n xs) (hn : n ≤ 140737488355328) : Calls Try.prog 58 #[v] w (Ret fun _ w' => w.grownBy w' v.rowOf ∧ Soft w w') := by
  obtain ⟨c, hc⟩ : ∃ c : Nat → Nat, c = fun k => if v.rowOf = some k then 5 else 0 := ⟨_, rfl⟩
  have ho : OwnC c w 5 TI 1 v n xs := ⟨h, fun k hk => by rw [hc]; dsimp only; rw [if_pos hk]⟩
  have hA := Acc.refl c w [5]
  obtain ⟨A, cp, hv, _⟩ := h.len
  refine enter (n := 12) (res := #[]) Try.func58 rfl rfl rfl rfl ?_
  refine cseq <| cg <| za rfl <| cnil <| cblock ?_
  refine WC.loop (σ := Nat) (fun k => [(0, v), (2, I k)]) (fun k w' => ∃ c' ys, OwnC c' w' 5 TI 1 v n ys ∧ Acc c w [5] c' w' ∧ k ≤ n) (fun k => n - k) 0 subs ⟨_, _, ho, hA, by omega⟩ ?_
  clear ho hA
  rintro k wl ⟨cl, ys, ho, hA, hk⟩
  refine cseq <| cseq <| cg <| zm rfl <| zm rfl ?_
  subst hv
  refine vq (Val.olen sl24 ho rfl) <| vq (Val.lss rfl rfl) <| cnil ?_
  refine WC.cond rfl (fun hc1 => ?_) (fun hc1 => ?_)
  ·try simp only [tstS] at hc1
   refine cskip <| cseq <| cblock <| cg <| zm rfl <| zm rfl <| vq (Val.indexO sl24 ho rfl rfl (by omega) (by omega)) ?_
   refine WR.eff_ (Eff.storeOC scl3 ho side rfl rfl ra ra) ?_
   rintro _ w1 ⟨hS, hM1⟩
   replace hA := hA.mv hM1
   replace ho := hS
   refine cnil <| cg <| zm rfl <| vq (Val.addI rfl rfl side side) <| za rfl <| cnil ?_
   exact ⟨k + 1, subs, ⟨_, _, ho, hA, by omega⟩, by omega⟩
  ·try simp only [tstS] at hc1
   refine WC.exit rfl ?_
   refine ⟨_, _, rfl, rfl, ?_⟩
   have hg := grown_of_rowC (by rw [hc] at hA; exact hA.mvs) rfl
   exact ⟨rfl, hg, soft_of h ho.own hg⟩
theorem sslots_ok {w : World} {v : Value} {n : Nat} {xs : List Value} (h : Own w 0 TSl 2 v n xs) (hn : n ≤ 140737488355328) : Calls Try.prog 59 #[v] w (Ret fun _ w' => w.grownBy w' v.rowOf ∧ Soft w w') := by
  obtain ⟨c, hc⟩ : ∃ c : Nat → Nat, c = fun k => if v.rowOf = some k then 5 else 0 := ⟨_, rfl⟩
  have ho : OwnC c w 5 TSl 2 v n xs := ⟨h, fun k hk => by rw [hc]; dsimp only; rw [if_pos hk]⟩
  have hA := Acc.refl c w [5]
  obtain ⟨A, cp, hv, _⟩ := h.len
  refine enter (n := 13) (res := #[]) Try.func59 rfl rfl rfl rfl ?_
  refine cseq <| cg <| za rfl <| cnil <| cblock ?_
  refine WC.loop (σ := Nat) (fun k => [(0, v), (2, I k)]) (fun k w' => ∃ c' ys, OwnC c' w' 5 TSl 2 v n ys ∧ Acc c w [5] c' w' ∧ k ≤ n) (fun k => n - k) 0 subs ⟨_, _, ho, hA, by omega⟩ ?_
  clear ho hA
  rintro k wl ⟨cl, ys, ho, hA, hk⟩
  refine cseq <| cseq <| cg <| zm rfl <| zm rfl ?_
  subst hv
  refine vq (Val.olen sl29 ho rfl) <| vq (Val.lss rfl rfl) <| cnil ?_
  refine WC.cond rfl (fun hc1 => ?_) (fun hc1 => ?_)
  ·try simp only [tstS] at hc1
   refine cskip <| cseq <| cblock <| cg <| zm rfl <| zm rfl <| vq (Val.build (cells := #[I (-9), I 0]) rfl (by kernel_rfl)) <| vq (Val.indexO sl29 ho rfl rfl (by omega) (by omega)) ?_
   refine WR.eff_ ((Eff.storeON (j := k) agg66 ho (by omega) rfl rfl rfl ones)) ?_
   rintro _ w1 ⟨c1, hM1, ho⟩
   replace hA := hA.mv hM1
   refine cnil <| cg <| zm rfl <| vq (Val.addI rfl rfl side side) <| za rfl <| cnil ?_
   exact ⟨k + 1, subs, ⟨_, _, ho, hA, by omega⟩, by omega⟩
  ·try simp only [tstS] at hc1
   refine WC.exit rfl ?_
   refine ⟨_, _, rfl, rfl, ?_⟩
   have hg := grown_of_rowC (by rw [hc] at hA; exact hA.mvs) rfl
   exact ⟨rfl, hg, soft_of h ho.own hg⟩

theorem snumbers_c {c : Nat → Nat} {w : World} {v : Value} {n : Nat} (h : SomeC c w 5 TI 1 v n) (hn : n ≤ 140737488355328) : Calls Try.prog 58 #[v] w (Ret fun _ w' => ∃ c', Mv c w c' w' [5] ∧ Soft w w') := by
  obtain ⟨xs, h⟩ := h
  refine (snumbers_ok h.own hn).mono fun e w' ⟨u, hu, hg, hs⟩ => ?_
  obtain ⟨c', m, _⟩ := Mv.grown c 0 hg h.col
  exact ⟨u, hu, c', m, hs⟩
theorem sslots_c {c : Nat → Nat} {w : World} {v : Value} {n : Nat} (h : SomeC c w 5 TSl 2 v n) (hn : n ≤ 140737488355328) : Calls Try.prog 59 #[v] w (Ret fun _ w' => ∃ c', Mv c w c' w' [5] ∧ Soft w w') := by
  obtain ⟨xs, h⟩ := h
  refine (sslots_ok h.own hn).mono fun e w' ⟨u, hu, hg, hs⟩ => ?_
  obtain ⟨c', m, _⟩ := Mv.grown c 0 hg h.col
  exact ⟨u, hu, c', m, hs⟩

/-- Six cells. -/
abbrev Raw6 := { cs : List Value // cs.length = 6 ∧ ∀ u ∈ cs, u.oneCell' = true }
abbrev rawS : Shape Raw6 := Shape.flat 6 (fun x => x.1) (fun _ => True) (fun x => x.2.1) (fun x => x.2.2)
/-- Records whose lists are rows of the colour 5, whatever these hold. -/
def SomeR (c : Nat → Nat) (w : World) (cs : List Value) : Prop := ∃ a b d e vl vs n1 n2, cs = [a, b, d, e, vl, vs] ∧ SomeC c w 5 TI 1 vl n1 ∧ n1 ≤ 140737488355328 ∧ SomeC c w 5 TSl 2 vs n2 ∧ n2 ≤ 140737488355328
theorem SomeR.mv {c c' : Nat → Nat} {w w' : World} {I : List Nat} {cs : List Value} (h : SomeR c w cs) (m : Mv c w c' w' I) (hi : hasC I 5 = false := by rfl) : SomeR c' w' cs := by
  obtain ⟨a, b, d, e, vl, vs, n1, n2, rfl, h1, h2, h3, h4⟩ := h
  exact ⟨a, b, d, e, vl, vs, n1, n2, rfl, h1.mv m hi, h2, h3.mv m hi, h4⟩
theorem SomeR.soft {c c' : Nat → Nat} {w w' : World} {I : List Nat} {cs : List Value} (h : SomeR c w cs) (m : Mv c w c' w' I) (hs : Soft w w') : SomeR c' w' cs := by
  obtain ⟨a, b, d, e, vl, vs, n1, n2, rfl, h1, h2, h3, h4⟩ := h
  exact ⟨a, b, d, e, vl, vs, n1, n2, rfl, h1.soft m hs, h2, h3.soft m hs, h4⟩
structure AllR (c : Nat → Nat) (w : World) (L : List Raw6) : Prop where
  all : ∀ x ∈ L, SomeR c w x.1
theorem AllR.mv {c c' : Nat → Nat} {w w' : World} {I : List Nat} {L : List Raw6} (h : AllR c w L) (m : Mv c w c' w' I) (hi : hasC I 5 = false := by rfl) : AllR c' w' L := ⟨fun x hx => (h.all x hx).mv m hi⟩
theorem AllR.soft {c c' : Nat → Nat} {w w' : World} {I : List Nat} {L : List Raw6} (h : AllR c w L) (m : Mv c w c' w' I) (hs : Soft w w') : AllR c' w' L := ⟨fun x hx => (h.all x hx).soft m hs⟩
theorem raw_of : ∀ (css : List (List Value)), (∀ cs ∈ css, cs.length = 6 ∧ ∀ u ∈ cs, u.oneCell' = true) → ∃ L : List Raw6, L.map (·.1) = css
  | [], _ => ⟨[], rfl⟩
  | cs :: r, h => by
    obtain ⟨L, hL⟩ := raw_of r fun x hx => h x (by simp [hx])
    exact ⟨⟨cs, h cs (by simp)⟩ :: L, by simp [hL]⟩
theorem EachO.raw {c : Nat → Nat} {w : World} {css : List (List Value)} {l : List Rec} (h : EachO c w css l) : ∃ L : List Raw6, L.map (·.1) = css ∧ L.length = l.length ∧ AllR c w L := by
  have key : ∀ cs ∈ css, ∃ x : Rec, ∃ vl vs, cs = [I x.kind, I x.id, St x.name, St x.digest, vl, vs] ∧ OwnC c w 5 TI 1 vl x.list.length (flatL x.list) ∧ OwnC c w 5 TSl 2 vs x.slots.length (flatS x.slots) ∧ x.list.length ≤ 140737488355328 ∧ x.slots.length ≤ 140737488355328 := fun cs hcs => by
    obtain ⟨k, hk, rfl⟩ := List.mem_iff_getElem.1 hcs
    have hk2 : k < l.length := by rw [← h.1]; exact hk
    obtain ⟨vl, vs, e, a, b, _, _, _, r1, r2⟩ := h.2 k _ l[k] (List.getElem?_eq_getElem hk) (List.getElem?_eq_getElem hk2)
    exact ⟨l[k], vl, vs, e, a, b, r1, r2⟩
  obtain ⟨L, hL⟩ := raw_of css fun cs hcs => by
    obtain ⟨x, vl, vs, rfl, a, b, _⟩ := key cs hcs
    refine ⟨rfl, fun u hu => ?_⟩
    simp only [List.mem_cons, List.not_mem_nil, or_false] at hu
    rcases hu with rfl | rfl | rfl | rfl | rfl | rfl
    · rfl
    · rfl
    · rfl
    · rfl
    · exact a.oneC
    · exact b.oneC
  refine ⟨L, hL, by rw [← h.1, ← hL, List.length_map], ⟨fun x hx => ?_⟩⟩
  obtain ⟨y, vl, vs, e, a, b, r1, r2⟩ := key x.1 (by rw [← hL]; exact List.mem_map_of_mem hx)
  exact ⟨_, _, _, _, vl, vs, _, _, e, ⟨_, a⟩, r1, ⟨_, b⟩, r2⟩
theorem raw_put {L : List Raw6} {k : Nat} {x : Raw6} (hk : k < L.length) : (L.flatMap (·.1)).take (k * 6) ++ x.1 ++ (L.flatMap (·.1)).drop ((k + 1) * 6) = (L.set k x).flatMap (·.1) := by
  have e : ∀ (A B : List Raw6), (A.flatMap (·.1)).length = A.length * 6 := fun A _ => by
    induction A with
    | nil => rfl
    | cons a r ih => rw [List.flatMap_cons, List.length_append, ih, a.2.1, List.length_cons]; omega
  have h1 : L = L.take k ++ L[k] :: L.drop (k + 1) := by rw [List.getElem_cons_drop, List.take_append_drop]
  have hl : (L.take k).length = k := by rw [List.length_take]; omega
  have h2 : (L.flatMap (·.1)).take (k * 6) = (L.take k).flatMap (·.1) := by
    conv => lhs; rw [h1]
    rw [List.flatMap_append, List.take_append_of_le_length (by rw [e _ []]; omega), List.take_of_length_le (by rw [e _ []]; omega)]
  have h3 : (L.flatMap (·.1)).drop ((k + 1) * 6) = (L.drop (k + 1)).flatMap (·.1) := by
    conv => lhs; rw [h1]
    rw [List.flatMap_append, List.drop_append, List.drop_eq_nil_of_le (by rw [e _ []]; omega), e _ [], hl, List.flatMap_cons, show (k + 1) * 6 - k * 6 = 6 by omega, List.nil_append, List.drop_append, List.drop_eq_nil_of_le (by rw [L[k].2.1]; omega), L[k].2.1]
    rfl
  rw [h2, h3, List.set_eq_take_append_cons_drop, if_pos hk, List.flatMap_append, List.flatMap_cons]
  simp
end Go.Proofs.Ythlfolpcmcejkaa

namespace Go.Proofs.Ythlfolpcmcejkaa
open Go Go.Eng Go.RowKit Silo TryT

def recA : Rec := ⟨8, 0, [97], [], [], []⟩
theorem recA_may : mayB recA = true := by decide
theorem recA_bytes : bytesOf recA = [8, 1, 97] := by decide
theorem recA_take : takeSpec minus [8, 1, 97] = some recA := by decide

theorem wakes_ok {w : World} : Calls Try.prog 25 #[] w (Ret fun v w' => Below w.heap.size w w' ∧ v = .bool true) := by
  have hK : Old w w := Old.refl w
  have hA : RdRec w [I 8, I 0, St [97], St [], .slice none 0 0, .slice none 0 0] recA := ⟨_, _, rfl, RdS.nil _ _ _, RdS.nil _ _ _, ⟨by simp [recA], by simp [recA]⟩, ⟨by simp [recA], by simp [recA]⟩, by simp [recA], by simp [recA]⟩
  refine enter (n := 32) (res := #[.tmp 0]) Try.func25 rfl rfl rfl rfl ?_
  refine cseq <| cg <| za rfl <| cnil <| cseq <| cg <| vq (Val.build (cells := #[I 8, I 0, St [97], St [], .slice none 0 0, .slice none 0 0]) rfl (by kernel_rfl)) ?_
  refine ve (Eff.call pf18 rfl (rbytes_ok hA)) ?_
  rintro v7 w1 ⟨hk1, rfl⟩
  replace hK := hK.up hk1
  rw [recA_may, recA_bytes]
  refine zm rfl <| vq (Val.extract rfl rfl) <| vq (Val.extract rfl rfl) <| za rfl <| za rfl <| cnil <| cseq <| cg <| zm rfl ?_
  refine ve (Eff.call pf23 rfl (take_ok [8, 1, 97] (by decide))) ?_
  rintro v12 w2 ⟨hk2, ⟨cs, rfl, hrd⟩⟩
  replace hK := hK.up hk2
  rw [recA_take] at hrd ⊢; obtain ⟨vl, vs, rfl, hl, hs, _⟩ := hrd; have o1 := hl.oneC; have o2 := hs.oneC; have hsz := hK.size
  refine zm rfl <| vq (Val.extract rfl rfl) <| vq (Val.extract rfl rfl) ?_
  refine ve (Eff.alloc zero31) ?_
  rintro _ w3 ⟨b3, rfl, hn3⟩
  have hk3 := hn3.below
  replace hK := hK.up hk3
  have hb3 := hn3.blk
  refine WR.eff_ (Eff.storeBN agg31 rfl rfl hb3 rfl rfl ones) ?_
  intro _ w4 hS4
  replace hb3 := hS4.blk
  replace hK : Old w _ := Below.trans hK (Blk.store_below hS4 (by have := hn3.at_; omega) hK.size)
  refine za rfl <| cnil <| cseq <| cg <| zm rfl ?_
  refine ve (Eff.call pf20 rfl (errnum_ok _)) ?_
  rintro v16 w5 ⟨hk5, rfl⟩
  replace hK := hK.up hk5; replace hb3 := hb3.up hk5
  refine vq (Val.eql rfl rfl) <| zm rfl ?_
  apply WR.sc true 3 true (fun w' => Below w5.heap.size w5 w')
  case hl | hg | hu | hv | hs | hoff | hd => rfl
  case hF => exact fun _ => Below.refl _ _
  case hT =>
   intro hq7
   try simp only [tstS] at hq7
   simp only [List.take_succ_cons, List.take_zero]
   have hKsc7 : Old w5 w5 := Old.refl _
   refine WR.on rfl rfl ?_
   refine zm rfl ?_
   refine WR.on rfl rfl ?_
   refine ve (Eff.call pf20 rfl (errnum_ok _)) ?_
   rintro v20 w6 ⟨hk6, rfl⟩
   replace hK := hK.up hk6; replace hb3 := hb3.up hk6; replace hKsc7 := hKsc7.up hk6
   refine WR.on rfl rfl ?_
   refine vq (Val.eql rfl rfl) ?_
   exact WR.nil ⟨rfl, Sub.drop _ 3 _ rfl rfl, hKsc7⟩
  intro w7 hk7
  replace hK := hK.up hk7; replace hb3 := hb3.up hk7
  refine zm rfl ?_
  apply WR.sc true 3 _ (fun w' => w7 = w')
  case hl | hg | hu | hv | hs | hoff | hd => rfl
  case hF => exact fun _ => rfl
  case hT =>
   intro hq12
   try simp only [tstS] at hq12
   simp only [List.take_succ_cons, List.take_zero]
   refine WR.on rfl rfl ?_
   refine vq (Val.fieldAddr fld31_2 rfl) ?_
   refine WR.on rfl rfl ?_
   refine vq (Val.loadB scl9 rfl hb3 rfl) ?_
   refine WR.on rfl rfl ?_
   refine vq (Val.seq_ rfl rfl) ?_
   exact WR.nil ⟨rfl, Sub.drop _ 3 _ rfl rfl, rfl⟩
  rintro _ rfl
  refine zm rfl ?_
  apply WR.sc true 2 _ (fun w' => w7 = w')
  case hl | hg | hu | hv | hs | hoff | hd => rfl
  case hF => exact fun _ => rfl
  case hT =>
   intro hq16
   try simp only [tstS] at hq16
   simp only [List.take_succ_cons, List.take_zero]
   refine WR.on rfl rfl ?_
   refine zm rfl ?_
   refine WR.on rfl rfl ?_
   refine vq (Val.seq_ rfl rfl) ?_
   exact WR.nil ⟨rfl, Sub.drop _ 2 _ rfl rfl, rfl⟩
  rintro _ rfl
  refine za rfl <| cnil ?_
  refine WC.ret1 rfl rfl ?_
  exact ⟨hK, rfl⟩
end Go.Proofs.Ythlfolpcmcejkaa

namespace Go.Proofs.Ythlfolpcmcejkaa
open Go Go.Eng Go.RowKit Silo TryT

abbrev TStr : TypeId := 9
abbrev flatT (l : List (List UInt8)) : List Value := l.flatMap fun x => [St x]

theorem copyRecord_g {w : World} {ca : List Value} {a : Rec} (h1 : RdRec w ca a) (hn : a.list.length ≤ 1048576) (hm : a.slots.length ≤ 1048576) :
    Calls Try.prog 16 #[.agg ca.toArray] w (Ret fun v w' => Below w.heap.size w w' ∧ ∃ vl vs, v = .agg (cellsX a vl vs).toArray ∧ Own w' w.heap.size TI 1 vl a.list.length (flatL a.list) ∧ Own w' w.heap.size TSl 2 vs a.slots.length (flatS a.slots)) := by
  obtain ⟨vl, vs, rfl, hl, hs, hq⟩ := h1
  have o1 := hl.oneC
  have o2 := hs.oneC
  obtain ⟨B, hB⟩ : ∃ B, B = w.heap.size := ⟨_, rfl⟩
  have hBw : B ≤ w.heap.size := Nat.le_of_eq hB
  have hK : Below B w w := Below.refl _ _
  rw [← hB] at hl hs ⊢
  refine enter (n := 14) (res := #[.cell 2 31]) Try.func16 rfl rfl rfl rfl ?_
  refine cseq <| cg ?_
  refine ve (Eff.box rfl) ?_
  rintro _ w1 ⟨b1, rfl, hn1⟩
  have hk1 := hn1.below
  have hge1 : B ≤ b1 := by rw [hn1.at_]; exact hBw
  replace hl := hl.upB (hk1.mono hBw); replace hs := hs.upB (hk1.mono hBw); replace hK := hK.upB (hk1.mono hBw); replace hBw := Nat.le_trans hBw hk1.size
  have hb1 := hn1.blk
  refine ve (Eff.alloc zero31) ?_
  rintro _ w2 ⟨b2, rfl, hn2⟩
  have hk2 := hn2.below
  have hge2 : B ≤ b2 := by rw [hn2.at_]; exact hBw
  have hne2_b1 : b1 ≠ b2 := by have := hb1.lt; have := hn2.at_; omega
  replace hl := hl.upB (hk2.mono hBw); replace hs := hs.upB (hk2.mono hBw); replace hK := hK.upB (hk2.mono hBw); replace hb1 := hb1.up hk2; replace hBw := Nat.le_trans hBw hk2.size
  have hb2 := hn2.blk
  refine cnil <| cseq <| cg <| vq (Val.loadBN agg31 rfl hb1 rfl) ?_
  refine ve (Eff.alloc zero31) ?_
  rintro _ w3 ⟨b3, rfl, hn3⟩
  have hk3 := hn3.below
  have hge3 : B ≤ b3 := by rw [hn3.at_]; exact hBw
  have hne3_b1 : b1 ≠ b3 := by have := hb1.lt; have := hn3.at_; omega
  have hne3_b2 : b2 ≠ b3 := by have := hb2.lt; have := hn3.at_; omega
  replace hl := hl.upB (hk3.mono hBw); replace hs := hs.upB (hk3.mono hBw); replace hK := hK.upB (hk3.mono hBw); replace hb1 := hb1.up hk3; replace hb2 := hb2.up hk3; replace hBw := Nat.le_trans hBw hk3.size
  have hb3 := hn3.blk
  refine WR.eff_ (Eff.storeBN agg31 rfl rfl hb3 rfl rfl ones) ?_
  intro _ w4 hS4
  have hk4 : Below B _ _ := Blk.store_below hS4 hge3 hBw
  replace hb1 := hb1.grown hS4.grown (by simp; omega)
  replace hb2 := hb2.grown hS4.grown (by simp; omega)
  replace hl := hl.upB hk4; replace hs := hs.upB hk4; replace hK := hK.upB hk4; replace hBw := Nat.le_trans hBw hk4.size
  replace hb3 := hS4.blk
  refine cnil <| cseq ?_
  have hB7 := hBw
  refine cg <| vq (Val.fieldAddr fld31_4 rfl) <| vq (Val.loadB scl24 rfl hb1 rfl) ?_
  have hlt5_b1 := hb1.lt
  have hlt5_b2 := hb2.lt
  have hlt5_b3 := hb3.lt
  refine ve (Eff.call pf39 rfl (copyNumbers_ok (hl.mono hBw) hn)) ?_
  rintro v7 w5 ⟨hk5, ho7⟩
  replace hl := hl.upB (hk5.mono hBw); replace hs := hs.upB (hk5.mono hBw); replace hK := hK.upB (hk5.mono hBw); replace hb1 := hb1.up hk5; replace hb2 := hb2.up hk5; replace hb3 := hb3.up hk5; replace hBw := Nat.le_trans hBw hk5.size
  have c7 := ho7.cellsV; have o7 := ho7.oneC
  refine vq (Val.fieldAddr fld31_4 rfl) ?_
  refine WR.eff_ (Eff.storeB scl24 rfl rfl ra ra hb3 rfl) ?_
  intro _ w6 hS6
  have hk6 : Below B _ _ := Blk.store_below hS6 hge3 hBw
  replace hb1 := hb1.grown hS6.grown (by simp; omega)
  replace hb2 := hb2.grown hS6.grown (by simp; omega)
  replace ho7 := ho7.grown hS6.grown (fun k hk e => by have := (ho7.lt k hk).1; simp at e; omega)
  replace hl := hl.upB hk6; replace hs := hs.upB hk6; replace hK := hK.upB hk6; replace hBw := Nat.le_trans hBw hk6.size
  replace hb3 := hS6.blk
  refine cnil <| cseq ?_
  have hB11 := hBw
  refine cg <| vq (Val.fieldAddr fld31_5 rfl) <| vq (Val.loadB scl29 rfl hb1 rfl) ?_
  have hlt7_b1 := hb1.lt
  have hlt7_b2 := hb2.lt
  have hlt7_b3 := hb3.lt
  refine ve (Eff.call pf40 rfl (copySlotList_ok (hs.mono hBw) hm)) ?_
  rintro v11 w7 ⟨hk7, ho11⟩
  replace hl := hl.upB (hk7.mono hBw); replace hs := hs.upB (hk7.mono hBw); replace hK := hK.upB (hk7.mono hBw); replace hb1 := hb1.up hk7; replace hb2 := hb2.up hk7; replace hb3 := hb3.up hk7; replace ho7 := ho7.up hk7; replace hBw := Nat.le_trans hBw hk7.size
  have c11 := ho11.cellsV; have o11 := ho11.oneC
  refine vq (Val.fieldAddr fld31_5 rfl) ?_
  refine WR.eff_ (Eff.storeB scl29 rfl rfl ra ra hb3 rfl) ?_
  intro _ w8 hS8
  have hk8 : Below B _ _ := Blk.store_below hS8 hge3 hBw
  replace hb1 := hb1.grown hS8.grown (by simp; omega)
  replace hb2 := hb2.grown hS8.grown (by simp; omega)
  replace ho7 := ho7.grown hS8.grown (fun k hk e => by have := (ho7.lt k hk).1; simp at e; omega)
  replace ho11 := ho11.grown hS8.grown (fun k hk e => by have := (ho11.lt k hk).1; simp at e; omega)
  replace hl := hl.upB hk8; replace hs := hs.upB hk8; replace hK := hK.upB hk8; replace hBw := Nat.le_trans hBw hk8.size
  replace hb3 := hS8.blk
  refine cnil <| cseq <| cg <| vq (Val.loadBN agg31 rfl hb3 rfl) ?_
  refine WR.eff_ (Eff.storeBN agg31 rfl rfl hb2 rfl rfl ones) ?_
  intro _ w9 hS9
  have hk9 : Below B _ _ := Blk.store_below hS9 hge2 hBw
  replace hb1 := hb1.grown hS9.grown (by simp; omega)
  replace hb3 := hb3.grown hS9.grown (by simp; omega)
  replace ho7 := ho7.grown hS9.grown (fun k hk e => by have := (ho7.lt k hk).1; simp at e; omega)
  replace ho11 := ho11.grown hS9.grown (fun k hk e => by have := (ho11.lt k hk).1; simp at e; omega)
  replace hl := hl.upB hk9; replace hs := hs.upB hk9; replace hK := hK.upB hk9; replace hBw := Nat.le_trans hBw hk9.size
  replace hb2 := hS9.blk
  refine cnil ?_
  refine WC.retR1 rfl (RVal.cellN agg31 rfl hb2 rfl) ?_
  exact ⟨hK, _, _, rfl, ho7.base_le hB7, ho11.base_le hB11⟩

/-- A record that was copied, and texts that grow beside it. -/
structure IS (w0 w : World) (base b5 : Nat) (a : Rec) (vl vs vt : Value) (texts : List (List UInt8)) : Prop where
  hK : Below base w0 w
  hBw : base ≤ w.heap.size
  hb5 : base ≤ b5
  X : Blk w b5 (cellsX a vl vs) TX
  L : Own w base TI 1 vl a.list.length (flatL a.list)
  S : Own w base TSl 2 vs a.slots.length (flatS a.slots)
  T : Own w base TStr 1 vt texts.length (flatT texts)
  neL : ∀ k, vl.rowOf = some k → k ≠ b5
  neS : ∀ k, vs.rowOf = some k → k ≠ b5
  neT : ∀ k, vt.rowOf = some k → k ≠ b5 ∧ vl.rowOf ≠ some k ∧ vs.rowOf ≠ some k
  small : ∀ x ∈ texts, x.length ≤ 1000000

section
variable {w0 w w' : World} {base b5 : Nat} {a : Rec} {vl vs vt vt' : Value} {texts : List (List UInt8)}
theorem IS.up (h : IS w0 w base b5 a vl vs vt texts) (hk : Below w.heap.size w w') : IS w0 w' base b5 a vl vs vt texts :=
  { h with hK := h.hK.trans (hk.mono h.hBw), hBw := Nat.le_trans h.hBw hk.size, X := h.X.up hk, L := h.L.up hk, S := h.S.up hk, T := h.T.up hk }
theorem IS.other {b : Nat} (h : IS w0 w base b5 a vl vs vt texts) (hg : w.grownBy w' (some b)) (h1 : base ≤ b) (h2 : b ≠ b5) (h3 : vl.rowOf ≠ some b) (h4 : vs.rowOf ≠ some b) (h5 : vt.rowOf ≠ some b) : IS w0 w' base b5 a vl vs vt texts :=
  have hb : Below base w w' := below_of_grown hg h.hBw (fun k e => by injection e with e; omega)
  { h with
    hK := h.hK.trans hb, hBw := Nat.le_trans h.hBw hb.size
    X := h.X.grown hg (fun e => h2 (by injection e))
    L := h.L.grown hg (fun k hk e => h3 (hk.trans e.symm))
    S := h.S.grown hg (fun k hk e => h4 (hk.trans e.symm))
    T := h.T.grown hg (fun k hk e => h5 (hk.trans e.symm)) }
theorem IS.app {new : List (List UInt8)} {m : Nat} (h : IS w0 w base b5 a vl vs vt texts) (hA : App w w' base TStr 1 vt vt' (texts.length + m) (flatT texts ++ flatT new)) (hm : m = new.length) (hs : ∀ x ∈ new, x.length ≤ 1000000) : IS w0 w' base b5 a vl vs vt' (texts ++ new) :=
  have hb : Below base w w' := below_of_grown hA.grown h.hBw (fun k hk => (h.T.lt k hk).1)
  have hrow : ∀ k, vt'.rowOf = some k → vt.rowOf = some k ∨ k = w.heap.size := fun k hk => by
    rcases hA.at_ with e | e
    · exact .inl (e ▸ hk)
    · rw [hk] at e; injection e with e; exact .inr e
  have hX := h.X.lt
  { h with
    hK := h.hK.trans hb, hBw := Nat.le_trans h.hBw hb.size
    X := h.X.grown hA.grown (fun e => (h.neT b5 e).1 rfl)
    L := h.L.grown hA.grown (fun k hk e => (h.neT k e).2.1 hk)
    S := h.S.grown hA.grown (fun k hk e => (h.neT k e).2.2 hk)
    T := by
      have := hA.own
      rw [show flatT texts ++ flatT new = flatT (texts ++ new) by simp [flatT], show texts.length + m = (texts ++ new).length by simp [hm]] at this
      exact this
    neT := fun k hk => by
      rcases hrow k hk with h1 | h1
      · exact h.neT k h1
      · exact ⟨by omega, fun e => by have := (h.L.lt k e).2; omega, fun e => by have := (h.S.lt k e).2; omega⟩
    small := fun x hx => by
      rcases List.mem_append.1 hx with hx | hx
      · exact h.small x hx
      · exact hs x hx }
end
end Go.Proofs.Ythlfolpcmcejkaa

namespace Go.Proofs.Ythlfolpcmcejkaa
open Go Go.Eng Go.RowKit Silo TryT

set_option maxHeartbeats 1000000 in
theorem spoilR_ok {c : Nat → Nat} {w : World} {v : Value} {L : List Raw6} (ho : OwnC c w 7 TX 6 v L.length (L.flatMap (·.1))) (hr : AllR c w L) (hn : L.length ≤ 1073741824) : Calls Try.prog 35 #[v] w (Ret fun _ w' => ∃ c', Mv c w c' w' [5, 7] ∧ True) := by
  have hA := Acc.refl c w [5, 7]
  obtain ⟨A, cp, hv, _⟩ := ho.own.len
  refine enter (n := 25) (res := #[]) Try.func35 rfl rfl rfl rfl ?_
  refine cseq <| cg <| za rfl <| cnil <| cblock ?_
  refine WC.loop (σ := Nat) (fun k => [(0, v), (2, I k)]) (fun k w' => ∃ c' L', OwnC c' w' 7 TX 6 v L.length (L'.flatMap (·.1)) ∧ AllR c' w' L' ∧ Acc c w [5, 7] c' w' ∧ L'.length = L.length ∧ k ≤ L.length) (fun k => L.length - k) 0 subs ⟨_, _, ho, hr, hA, rfl, by omega⟩ ?_
  clear ho hr hA
  rintro k wl ⟨cl, L', ho, hr, hA, hL, hk⟩
  refine cseq <| cseq <| cg <| zm rfl <| zm rfl ?_
  subst hv
  refine vq (Val.olen sl22 ho rfl) <| vq (Val.lss rfl rfl) <| cnil ?_
  refine WC.cond rfl (fun hc1 => ?_) (fun hc1 => ?_)
  ·try simp only [tstS] at hc1
   have hk2 : k < L'.length := by omega
   have hX : RdC rawS cl wl [7] (.slice A L.length cp) L' := OwnC.rdFlat (by rw [hL]; exact ho) (by omega) fun _ _ => trivial
   obtain ⟨ca, cb, cd, ce, vl, vs, n1, n2, hcs, y1, y2, y3, y4⟩ := hr.all _ (List.getElem_mem hk2)
   obtain ⟨hc11, _⟩ := RdC.elFlat hX hk2 (by decide)
   have hc17 := hc11
   rw [hcs] at hc11 hc17
   refine cskip <| cseq <| cblock <| cseq <| cg <| zm rfl <| zm rfl <| vq (Val.indexO sl22 ho rfl rfl (by omega) (by omega)) <| vq (Val.fieldAddrP fld31_4 rfl) ?_
   refine vq (Val.loadEf scl24 rfl hc11.cel rfl) ?_
   refine ve (Eff.call pf58 rfl (snumbers_c y1 y2)) ?_
   rintro v14 w1 ⟨c1, hM1, hs1⟩
   replace ho := ho.mv hM1; replace hA := hA.mv hM1; replace hc11 := hc11.mv hM1; replace hc17 := hc17.mv hM1
   replace hr := hr.soft hM1 hs1
   replace y3 := y3.soft hM1 hs1
   refine cnil <| cseq <| cg <| zm rfl <| zm rfl <| vq (Val.indexO sl22 ho rfl rfl (by omega) (by omega)) <| vq (Val.fieldAddrP fld31_5 rfl) <| vq (Val.loadEf scl29 rfl hc17.cel rfl) ?_
   refine ve (Eff.call pf59 rfl (sslots_c y3 y4)) ?_
   rintro v20 w2 ⟨c2, hM2, hs2⟩
   replace ho := ho.mv hM2; replace hA := hA.mv hM2; replace hc11 := hc11.mv hM2; replace hc17 := hc17.mv hM2
   replace hr := hr.soft hM2 hs2
   refine cnil <| cg <| zm rfl <| zm rfl <| vq (Val.build (cells := #[I (-9), I 0, St [], St [], .slice none 0 0, .slice none 0 0]) rfl (by kernel_rfl)) <| vq (Val.indexO sl22 ho rfl rfl (by omega) (by omega)) ?_
   have hn0 : SomeR c2 w2 [I (-9), I 0, St [], St [], .slice none 0 0, .slice none 0 0] := ⟨_, _, _, _, _, _, 0, 0, rfl, ⟨_, OwnC.nil _ _ _ _ _⟩, by omega, ⟨_, OwnC.nil _ _ _ _ _⟩, by omega⟩
   have hr2 : AllR c2 w2 (L'.set k ⟨[I (-9), I 0, St [], St [], .slice none 0 0, .slice none 0 0], rfl, ones⟩) := ⟨fun x hx => by
     rcases List.mem_or_eq_of_mem_set hx with h | rfl
     · exact hr.all x h
     · exact hn0⟩
   refine WR.eff_ (Eff.storeON (j := k) (cs := [I (-9), I 0, St [], St [], .slice none 0 0, .slice none 0 0]) agg31 ho (by omega) rfl rfl rfl ones) ?_
   rintro v24 w3 ⟨c3, hM3, ho3⟩
   replace hA := hA.mv hM3
   replace hr2 := hr2.mv hM3
   rw [raw_put (x := ⟨[I (-9), I 0, St [], St [], .slice none 0 0, .slice none 0 0], rfl, ones⟩) hk2] at ho3
   refine cnil <| cg <| zm rfl <| vq (Val.addI rfl rfl side side) <| za rfl <| cnil ?_
   exact ⟨k + 1, subs, ⟨_, _, ho3, hr2, hA, by rw [List.length_set]; exact hL, by omega⟩, by omega⟩
  ·try simp only [tstS] at hc1
   refine WC.exit rfl ?_
   refine ⟨_, _, rfl, rfl, ?_⟩
   exact ⟨rfl, _, hA.mvs, trivial⟩
end Go.Proofs.Ythlfolpcmcejkaa

namespace Silo
open Go Go.Eng
theorem takeR_ne {a b : List Rec} {k : Nat} (ka : k < a.length) (kb : k < b.length) (h : a[k] ≠ b[k]) : a ≠ b := fun e => by subst e; exact h rfl
theorem takeR_step {a b : List Rec} {k : Nat} (ka : k < a.length) (kb : k < b.length) (h : a.take k = b.take k) (e : a[k] = b[k]) : a.take (k + 1) = b.take (k + 1) := by
  rw [List.take_succ_eq_append_getElem ka, List.take_succ_eq_append_getElem kb, h, e]
end Silo
namespace Go.Eng
open Go Go.RowKit
theorem Mv.pureF {w w' : World} (c : Nat → Nat) (h : Below w.heap.size w w') (f : Nat → Nat) : ∃ c', Mv c w c' w' [] ∧ ∀ k, w.heap.size ≤ k → c' k = f k :=
  ⟨fun k => if k < w.heap.size then c k else f k, ⟨h.os, h.tape, h.output, h.size, fun k hk => if_pos hk, fun k hk _ => h.block k hk⟩, fun k hk => if_neg (Nat.not_lt.2 hk)⟩
end Go.Eng
namespace Go.Proofs.Ythlfolpcmcejkaa
open Go Go.Eng Go.RowKit Silo TryT

theorem eqRecords_ok {w : World} {v1 v2 : Value} {a b : List Rec} (h1 : Rd recS w v1 a) (h2 : Rd recS w v2 b) :
    Calls Try.prog 34 #[v1, v2] w (Ret fun v w' => Below w.heap.size w w' ∧ v = .bool (decide (a = b))) := by
  have hK : Old w w := Old.refl w
  have la := h1.lenN
  refine enter (n := 27) (res := #[.tmp 4]) Try.func34 rfl rfl rfl rfl ?_
  refine cseq <| cg <| za rfl <| cnil <| cseq <| cseq <| cg <| zm rfl ?_
  first | refine vq (Val.rdlen sl22 (by assumption) rfl) ?_ | refine vq (Val.sllen Try.underlying22 rfl) ?_
  refine zm rfl ?_
  first | refine vq (Val.rdlen sl22 (by assumption) rfl) ?_ | refine vq (Val.sllen Try.underlying22 rfl) ?_
  refine vq (Val.neq rfl rfl) <| cnil ?_
  refine WC.cond rfl (fun hc1 => ?_) (fun hc1 => ?_)
  ·try simp only [tstS] at hc1
   have : a ≠ b := fun e => by subst e; omega
   refine cseq <| cg <| za rfl <| cnil ?_
   refine WC.ret1 rfl rfl ?_
   exact ⟨hK, by simp [this]⟩
  ·try simp only [tstS] at hc1
   refine cskip <| cseq <| cseq <| cg <| za rfl <| cnil <| cblock ?_
   refine WC.loop (σ := Nat) (fun k => [(0, v1), (1, v2), (5, I k)]) (fun k w' => Rd recS w' v1 a ∧ Rd recS w' v2 b ∧ Old w w' ∧ k ≤ a.length ∧ a.take k = b.take k) (fun k => a.length - k) 0 subs ⟨h1, h2, hK, by omega, rfl⟩ ?_
   rintro k wl ⟨h1, h2, hK, hk, he⟩
   have hln : a.length = b.length := by omega
   refine cseq <| cseq <| cg <| zm rfl <| zm rfl ?_
   first | refine vq (Val.rdlen sl22 (by assumption) rfl) ?_ | refine vq (Val.sllen Try.underlying22 rfl) ?_
   refine vq (Val.lss rfl rfl) <| cnil ?_
   refine WC.cond rfl (fun hc4 => ?_) (fun hc4 => ?_)
   ·try simp only [tstS] at hc4
    have ka : k < a.length := by omega
    have kb : k < b.length := by omega
    obtain ⟨cs1, hc19, vl1, vs1, rfl, q1⟩ := h1.el ka
    obtain ⟨cs2, hc23, vl2, vs2, rfl, q2⟩ := h2.el kb
    have z1 : RdRec wl [I a[k].kind, I a[k].id, St a[k].name, St a[k].digest, vl1, vs1] a[k] := ⟨vl1, vs1, rfl, q1⟩
    have z2 : RdRec wl [I b[k].kind, I b[k].id, St b[k].name, St b[k].digest, vl2, vs2] b[k] := ⟨vl2, vs2, rfl, q2⟩
    refine cskip <| cseq <| cblock <| cseq ?_
    refine WC.regionD (Below wl.heap.size wl) [0, 0, 0, 1, 0, 0, 0, 1, 2, 0] [0, 1, 2, 3, 4, 5, 6, 7, 8, 9] mixed (by kernel_rfl) ?_
    have hk1 : Below wl.heap.size wl wl.drew := (Below.refl _ _).drew
    have hCw : Below wl.heap.size wl wl.drew := (Below.refl _ _).drew
    generalize wl.drew = w1 at hk1 hCw ⊢
    have hc190 := hc19
    have hc230 := hc23
    replace h1 := h1.up hk1; replace h2 := h2.up hk1; replace hK := hK.up hk1; replace hc19 := hc19.up hk1; replace hc23 := hc23.up hk1; replace z1 := z1.up hk1; replace z2 := z2.up hk1
    refine zdm rfl rfl <| zdm rfl rfl <| vd rfl (fun _ => Val.indexAddr sl22 (by assumption) rfl rfl rfl side side) <| qc rfl rfl rfl hCw (fun W hW => Val.loadE agg31 rfl (hc190.up hW) rfl) rfl <| zdm rfl rfl <| zdm rfl rfl <| vd rfl (fun _ => Val.indexAddr sl22 (by assumption) rfl rfl rfl side side) <| qc rfl rfl rfl hCw (fun W hW => Val.loadE agg31 rfl (hc230.up hW) rfl) rfl ?_
    refine WD.eff rfl rfl rfl (Eff.call pf22 rfl (eqRecord_ok z1 z2)) rfl ?_
    rintro v25 w2 ⟨hk2, rfl⟩
    refine ⟨fun hC => Below.trans hC (hk2.mono hC.size), ?_⟩
    replace hCw := Below.trans hCw (hk2.mono hCw.size)
    replace h1 := h1.up hk2; replace h2 := h2.up hk2; replace hK := hK.up hk2; replace hc19 := hc19.up hk2; replace hc23 := hc23.up hk2; replace z1 := z1.up hk2; replace z2 := z2.up hk2
    refine vd rfl (fun _ => Val.not rfl) ?_
    refine WD.nil ?_
    clear hc190 hc230
    clear hCw
    refine WC.cond rfl (fun hc6 => ?_) (fun hc6 => ?_)
    ·try simp only [tstS] at hc6
     replace hc6 : a[k] ≠ b[k] := by simpa using hc6
     refine cseq <| cg <| za rfl <| cnil ?_
     refine WC.ret1 rfl rfl ?_
     exact ⟨hK, by simp [takeR_ne ka kb hc6]⟩
    ·try simp only [tstS] at hc6
     replace hc6 : a[k] = b[k] := by simpa using hc6
     refine cskip <| cg <| zm rfl <| vq (Val.addI rfl rfl side side) <| za rfl <| cnil ?_
     exact ⟨k + 1, subs, ⟨h1, h2, hK, ka, takeR_step ka kb he hc6⟩, by omega⟩
   ·try simp only [tstS] at hc4
    refine WC.exit rfl ?_
    refine cseq <| cg <| za rfl <| cnil ?_
    refine WC.ret1 rfl rfl ?_
    have hk : k = a.length := by omega
    have : a = b := by rw [← List.take_length (l := a), ← hk, he, hk, hln, List.take_length]
    exact ⟨hK, by simp [this]⟩

theorem EachO.rdC {c : Nat → Nat} {w : World} {v : Value} {css : List (List Value)} {l : List Rec} (ho : OwnC c w 7 TX 6 v l.length css.flatten) (he : EachO c w css l) (hl : l.length ≤ 140737488355328) : RdC recS c w [5, 7] v l := by
  refine OwnC.rd (s := recS) ho hl he.1 rfl fun k cs x h1 h2 => ?_
  obtain ⟨vl, vs, rfl, a, b, r1, r2, r3, r4, r5⟩ := he.2 k cs x h1 h2
  intro w' hs hk
  have a' := a.foot w' hs fun k hk' hl => hk k (by simp only [hasC, List.any_cons, List.any_nil, Bool.or_false] at hk' ⊢; rw [hk']; rfl) hl
  have b' := b.foot w' hs fun k hk' hl => hk k (by simp only [hasC, List.any_cons, List.any_nil, Bool.or_false] at hk' ⊢; rw [hk']; rfl) hl
  exact ⟨vl, vs, rfl, a'.rdInts r2 r4, rdSlots b' r3 r5, r1.1, r1.2.1, r1.2.2.1, r1.2.2.2⟩
theorem framesG_len : ∀ (f : Nat) (s : List UInt8) (l : List Rec) (first bytes : Nat), (framesG f s l first bytes).1.length ≤ l.length + s.length
  | 0, s, l, first, bytes => by simp [framesG]
  | f + 1, s, l, first, bytes => by
    rw [framesG]
    cases h : takeF s with
    | none => simp
    | some x =>
      obtain ⟨r, k, z⟩ := x
      have hz := takeF_size h
      have := framesG_len f (s.drop z) (l ++ [r]) (if l = [] then k else first) (bytes + z)
      simp only [List.length_append, List.length_drop, List.length_singleton] at this
      dsimp only
      generalize framesG f (s.drop z) (l ++ [r]) (if l = [] then k else first) (bytes + z) = X at this ⊢
      generalize (if l = [] then k else first) = q
      split
      · omega
      · simp
theorem framesS_len (s : List UInt8) : (framesS s).1.length ≤ s.length := by
  have := framesG_len (s.length + 1) s [] 0 0
  simp only [List.length_nil, Nat.zero_add] at this
  exact this
theorem frames_c {c : Nat → Nat} {w : World} {s : List UInt8} (hs : s.length ≤ 1073741824) : Calls Try.prog 32 #[St s] w (Ret fun v w' => ∃ c', Mv c w c' w' [] ∧ ∃ vl css, v = .tuple #[vl, I ((framesS s).2.1 : Nat), I ((framesS s).2.2 : Nat)] ∧ OwnC c' w' 7 TX 6 vl (framesS s).1.length css.flatten ∧ EachO c' w' css (framesS s).1) := by
  refine (frames_ok hs).mono fun e w' he => ?_
  obtain ⟨v, rfl, hb, c1, vl, css, rfl, ho, hE, hO⟩ := he
  obtain ⟨c', m, hx⟩ := Mv.pureF c hb c1
  have key : ∀ {i : Nat} {e : TypeId} {size n : Nat} {u : Value} {xs : List Value}, i ≠ 0 → OwnC c1 w' i e size u n xs → OwnC c' w' i e size u n xs := fun {i e size n u xs} hi h => ⟨h.own, fun k hk => by
    have h1 := h.col k hk
    rcases Nat.lt_or_ge k w.heap.size with hk' | hk'
    · rw [hO.col k hk'] at h1; exact (hi h1.symm).elim
    · rw [hx k hk', h1]⟩
  refine ⟨_, rfl, c', m, vl, css, rfl, key (by decide) ho, hE.1, fun k cs x h1 h2 => ?_⟩
  obtain ⟨ul, us, e, a, b, r⟩ := hE.2 k cs x h1 h2
  exact ⟨ul, us, e, key (by decide) a, key (by decide) b, r⟩
theorem qframes_c {c : Nat → Nat} {w : World} {s : List UInt8} (hs : s.length ≤ 1073741824) : Calls Try.prog 33 #[St s] w (Ret fun v w' => ∃ c', Mv c w c' w' [] ∧ ∃ vl, v = .tuple #[vl, I ((framesS s).2.1 : Nat), I ((framesS s).2.2 : Nat)] ∧ RdC recS c' w' [9] vl (framesS s).1) := by
  refine (qframes_ok hs).mono fun e w' he => ?_
  obtain ⟨v, rfl, hb, c1, vl, css, rfl, ho, hE, hO⟩ := he
  obtain ⟨c', m, hx⟩ := Mv.pureF c hb fun _ => 9
  have hl := framesS_len s
  refine ⟨_, rfl, c', m, vl, rfl, Foot.mono (EachO.rdC ho hE (by omega)) fun k hk hF => ?_⟩
  rcases Nat.lt_or_ge k w.heap.size with hk' | hk'
  · rw [hO.col k hk'] at hF; simp [hasC] at hF
  · rw [hx k hk']; rfl
end Go.Proofs.Ythlfolpcmcejkaa

namespace Silo
open Go Go.Eng
/-- Frames of the records that may be, numbered. -/
def framesOf : List Rec → Int → List UInt8
  | [], _ => []
  | r :: l, n => if mayB r = true then frameS r n ++ framesOf l (n + 1) else framesOf l n
theorem frameS_small {r : Rec} (h : mayB r = true) (n : Int) : 15 ≤ (frameS r n).length ∧ (frameS r n).length ≤ 9015 := by
  have := bytes_len h
  rw [frameS_len]; omega
end Silo
namespace Go.Proofs.Ythlfolpcmcejkaa
open Go Go.Eng Go.RowKit Silo TryT

set_option maxHeartbeats 1000000 in
theorem lframes_ok {w : World} {vR vS vN : Value} {R : List Rec} {S : List (List UInt8)} {N : List Int} {f0 : Int} (h0 : Rd recS w vR R) (h2 : Rd strS w vS S) (h3 : Rd intS w vN N) (hf : 0 ≤ f0) (hf2 : f0 ≤ 1073741824) :
    Calls Try.prog 28 #[.agg #[vR, vS, vN], I f0] w (Ret fun v w' => Below w.heap.size w w' ∧ v = St (framesOf (R.take 8) f0) ∧ (framesOf (R.take 8) f0).length ≤ 72120) := by
  have o1 := h0.oneC
  have o2 := h2.oneC
  have o3 := h3.oneC
  have hsm := h0.small
  obtain ⟨c, hO, hc⟩ := OldC.start w
  have h1 : RdC recS c w [0] vR R := Rd.toC h0 (fun k hk => by simp [hc, hasC])
  clear hc h0
  refine enter (n := 38) (res := #[.tmp 4]) Try.func28 rfl rfl rfl rfl ?_
  refine cseq <| cg ?_
  refine ve (Eff.boxC c 102 rfl) ?_
  rintro _ w1 ⟨b2, c1, rfl, hM1, hb2⟩
  replace hO := hO.mv hM1; replace h1 := h1.mv hM1
  refine za rfl <| cnil <| cseq <| cg <| za rfl <| cnil <| cseq <| cg <| zm rfl ?_
  refine za rfl <| cnil <| cseq <| cseq <| cg <| za rfl <| cnil <| cblock ?_
  refine WC.loop (σ := Nat × Int × List UInt8) (fun st => [(2, .pointer (some ⟨b2, 0, none⟩)), (5, St st.2.2), (6, I st.2.1), (7, I st.1)]) (fun st w' => ∃ c', OldC w c' w' ∧ RdC recS c' w' [0] vR R ∧ BlkC c' w' 102 b2 [vR, vS, vN] 26 ∧ st.1 ≤ (R.take 8).length ∧ f0 ≤ st.2.1 ∧ st.2.1 ≤ f0 + (st.1 : Nat) ∧ st.2.2.length ≤ 9015 * st.1 ∧ framesOf (R.take 8) f0 = st.2.2 ++ framesOf ((R.take 8).drop st.1) st.2.1) (fun st => (R.take 8).length - st.1) (0, f0, []) subs ⟨_, hO, h1, hb2, by simp, by simp, by simp, by simp, by simp⟩ ?_
  clear hO h1 hb2
  rintro ⟨k, m, s⟩ wl ⟨cl, hO, h1, hb2, hk, hm, hm2, hsl, hfr⟩
  dsimp only at hk hm hm2 hsl hfr ⊢
  have hl8 : (R.take 8).length = min 8 R.length := List.length_take
  refine cseq <| cseq <| cg <| zm rfl <| vq (Val.fieldAddr fld26_0 rfl) <| vq (Val.loadB scl22 rfl hb2.blk rfl) ?_
  first | refine vq (Val.rdlen sl22 (by assumption) rfl) ?_ | refine vq (Val.sllen Try.underlying22 rfl) ?_ | refine vq (Val.olen sl22 (by assumption) rfl) ?_ | refine vq (Val.rdlenC sl22 (by assumption) rfl) ?_
  refine vq (Val.lss rfl rfl) <| zm rfl ?_
  apply WR.sc true 2 _ (fun w' => wl = w')
  case hl | hg | hu | hv | hs | hoff | hd => rfl
  case hF => exact fun _ => rfl
  case hT =>
   intro hq8
   try simp only [tstS] at hq8
   simp only [List.take_succ_cons, List.take_zero]
   refine WR.on rfl rfl ?_
   refine zm rfl ?_
   refine WR.on rfl rfl ?_
   refine vq (Val.lss rfl rfl) ?_
   exact WR.nil ⟨rfl, Sub.drop _ 2 _ rfl rfl, rfl⟩
  rintro _ rfl
  refine cnil ?_
  refine WC.cond rfl (fun hc4 => ?_) (fun hc4 => ?_)
  ·try simp only [tstS] at hc4
   obtain ⟨hc0a, hc0b⟩ := hc4
   have ka : k < R.length := by omega
   have ka8 : k < (R.take 8).length := by omega
   obtain ⟨cs1, hc23, _, hrd⟩ := RdC.el h1 ka (by decide)
   obtain ⟨vl1, vs1, rfl, _⟩ := id hrd.now
   have hc30 := hc23
   refine cskip <| cseq <| cblock <| cseq <| cg <| vq (Val.fieldAddr fld26_0 rfl) <| vq (Val.loadB scl22 rfl hb2.blk rfl) <| zm rfl ?_
   first | refine vq (Val.indexAddr sl22 (by assumption) rfl rfl rfl side side) ?_ | refine vq (Val.indexC sl22 (by assumption) rfl rfl side side) ?_ | refine vq (Val.indexO sl22 (by assumption) rfl rfl side side) ?_
   refine vq (Val.loadE agg31 rfl hc23.cel rfl) ?_
   refine ve (Eff.pureC cl 1 (Eff.call pf17 rfl (record_ok hrd.now))) ?_
   rintro v25 w2 ⟨c2, hM2, hx2, rfl⟩
   replace hO := hO.mv hM2; replace h1 := h1.mv hM2; replace hb2 := hb2.mv hM2; replace hc23 := hc23.mv hM2; replace hc30 := hc30.mv hM2; replace hrd := hrd.mv hM2
   refine cnil ?_
   refine WC.cond rfl (fun hc6 => ?_) (fun hc6 => ?_)
   ·try simp only [tstS] at hc6
    refine cseq <| cg <| zm rfl <| vq (Val.fieldAddr fld26_0 rfl) <| vq (Val.loadB scl22 rfl hb2.blk rfl) <| zm rfl ?_
    first | refine vq (Val.indexAddr sl22 (by assumption) rfl rfl rfl side side) ?_ | refine vq (Val.indexC sl22 (by assumption) rfl rfl side side) ?_ | refine vq (Val.indexO sl22 (by assumption) rfl rfl side side) ?_
    refine vq (Val.loadE agg31 rfl hc30.cel rfl) <| zm rfl ?_
    refine ve (Eff.pureC c2 1 (Eff.call pf31 rfl (qframe_ok (n := m) hrd.now hc6))) ?_
    rintro v33 w3 ⟨c3, hM3, hx3, rfl⟩
    replace hO := hO.mv hM3; replace h1 := h1.mv hM3; replace hb2 := hb2.mv hM3; replace hc23 := hc23.mv hM3; replace hc30 := hc30.mv hM3; replace hrd := hrd.mv hM3
    have hsz := frameS_small hc6 (m)
    refine vq (Val.sadd rfl rfl side) <| za rfl <| cnil <| cg <| zm rfl <| vq (Val.addI rfl rfl side side) <| za rfl <| cnil <| cg ?_
    refine zm rfl <| vq (Val.addI rfl rfl side side) <| za rfl <| cnil ?_
    first
    | (rw [List.drop_eq_getElem_cons ka8, List.getElem_take, framesOf, if_pos hc6, ← List.append_assoc] at hfr); exact ⟨(k + 1, m + 1, s ++ frameS R[k] m), subs, ⟨_, hO, h1, hb2, by dsimp only; omega, by dsimp only; omega, by dsimp only; omega, by dsimp only; rw [List.length_append]; omega, hfr⟩, by dsimp only; omega⟩
    | (rw [List.drop_eq_getElem_cons ka8, List.getElem_take, framesOf, if_neg (by simpa using hc6)] at hfr); exact ⟨(k + 1, m, s), subs, ⟨_, hO, h1, hb2, by dsimp only; omega, by dsimp only; omega, by dsimp only; omega, by dsimp only; omega, hfr⟩, by dsimp only; omega⟩
   ·try simp only [tstS] at hc6
    refine cskip <| cg <| zm rfl <| vq (Val.addI rfl rfl side side) <| za rfl <| cnil ?_
    first
    | (rw [List.drop_eq_getElem_cons ka8, List.getElem_take, framesOf, if_pos hc6, ← List.append_assoc] at hfr); exact ⟨(k + 1, m + 1, s ++ frameS R[k] m), subs, ⟨_, hO, h1, hb2, by dsimp only; omega, by dsimp only; omega, by dsimp only; omega, by dsimp only; rw [List.length_append]; omega, hfr⟩, by dsimp only; omega⟩
    | (rw [List.drop_eq_getElem_cons ka8, List.getElem_take, framesOf, if_neg (by simpa using hc6)] at hfr); exact ⟨(k + 1, m, s), subs, ⟨_, hO, h1, hb2, by dsimp only; omega, by dsimp only; omega, by dsimp only; omega, by dsimp only; omega, hfr⟩, by dsimp only; omega⟩
  ·try simp only [tstS] at hc4
   refine WC.exit rfl ?_
   refine cseq <| cg <| zm rfl <| za rfl <| cnil ?_
   refine WC.ret1 rfl rfl ?_
   have hk8 : k = (R.take 8).length := by
     simp at hc4
     omega
   rw [hk8, List.drop_length, framesOf, List.append_nil] at hfr
   rw [hfr]
   exact ⟨hO.below, rfl, by omega⟩
end Go.Proofs.Ythlfolpcmcejkaa

namespace Silo
open Go Go.Eng
theorem ints4 (N : List Int) : ([I 0, I 1073741824, I 1073741825, I (-1)] : List Value) ++ N.flatMap (fun x => [I x]) = (0 :: 1073741824 :: 1073741825 :: -1 :: N).flatMap fun x => [I x] := rfl
end Silo
namespace Go.Proofs.Ythlfolpcmcejkaa
open Go Go.Eng Go.RowKit Silo TryT
theorem own_four {c : Nat → Nat} {w : World} {v : Value} {S : List (List UInt8)} {x1 x2 x3 x4 : List UInt8} (h : OwnC c w 3 9 1 v (S.length + 4) (S.flatMap (fun x => [St x]) ++ [St x1, St x2, St x3, St x4])) : OwnC c w 3 9 1 v (S ++ [x1, x2, x3, x4]).length ((S ++ [x1, x2, x3, x4]).flatMap fun x => [St x]) := by
  rw [List.length_append, List.flatMap_append]; exact h
theorem own_one {c : Nat → Nat} {w : World} {v : Value} {S : List (List UInt8)} {x1 : List UInt8} (h : OwnC c w 3 9 1 v (S.length + 1) (S.flatMap (fun x => [St x]) ++ [St x1])) : OwnC c w 3 9 1 v (S ++ [x1]).length ((S ++ [x1]).flatMap fun x => [St x]) := by
  rw [List.length_append, List.flatMap_append]; exact h

theorem own_ints4 {c : Nat → Nat} {w : World} {v : Value} {N : List Int} (h : OwnC c w 8 TI 1 v (4 + N.length) (([I 0, I 1073741824, I 1073741825, I (-1)] : List Value) ++ N.flatMap fun x => [I x])) : OwnC c w 8 TI 1 v (0 :: 1073741824 :: 1073741825 :: -1 :: N : List Int).length ((0 :: 1073741824 :: 1073741825 :: -1 :: N : List Int).flatMap fun x => [I x]) := by
  rw [ints4, Nat.add_comm] at h; exact h
theorem own_raw {c : Nat → Nat} {w : World} {v : Value} {L : List Raw6} {css : List (List Value)} {n : Nat} (hL : L.map (·.1) = css) (hl : L.length = n) (h : OwnC c w 7 TX 6 v n css.flatten) : OwnC c w 7 TX 6 v L.length (L.flatMap (·.1)) := by
  rw [List.flatMap_def, hL, hl]; exact h
set_option maxHeartbeats 2000000 in
theorem recordFrames_ok {w : World} {vR vS vN : Value} {R : List Rec} {S : List (List UInt8)} {N : List Int} (h0 : Rd recS w vR R) (h2 : Rd strS w vS S) (h3 : Rd intS w vN N) :
    Calls Try.prog 12 #[.agg #[vR, vS, vN]] w (Ret fun v w' => Below w.heap.size w w' ∧ v = .bool true) := by
  have o1 := h0.oneC
  have o2 := h2.oneC
  have o3 := h3.oneC
  have hsm := h0.small
  have hokN := h3.okFlat
  have x1 := h0.cellsV; have x2 := h2.cellsV; have x3 := h3.cellsV
  obtain ⟨c, hO, hc⟩ := OldC.start w
  have h1 : RdC recS c w [0] vR R := Rd.toC h0 (fun k hk => by simp [hc, hasC])
  replace h2 : RdC strS c w [0] vS S := Rd.toC h2 (fun k hk => by simp [hc, hasC])
  replace h3 : RdC intS c w [0] vN N := Rd.toC h3 (fun k hk => by simp [hc, hasC])
  clear hc h0
  refine enter (n := 174) (res := #[.tmp 2]) Try.func12 rfl rfl rfl rfl ?_
  refine cseq <| cg ?_
  refine ve (Eff.boxC c 101 rfl) ?_
  rintro _ w1 ⟨b1, c1, rfl, hM1, hb1⟩
  replace hO := hO.mv hM1; replace h1 := h1.mv hM1; replace h2 := h2.mv hM1; replace h3 := h3.mv hM1
  refine za rfl <| cnil <| cseq <| cseq <| cg <| vq (Val.loadBN agg26 rfl hb1.blk rfl) ?_
  refine ve (Eff.pureC c1 1 (Eff.call pf14 rfl (heavy_ok h1.now h2.now h3.now))) ?_
  rintro v21 w2 ⟨c2, hM2, hx2, rfl⟩
  replace hO := hO.mv hM2; replace h1 := h1.mv hM2; replace h2 := h2.mv hM2; replace h3 := h3.mv hM2; replace hb1 := hb1.mv hM2
  refine cnil ?_
  refine WC.cond rfl (fun hc1 => ?_) (fun hc1 => ?_)
  ·try simp only [tstS] at hc1
   refine cseq <| cg <| za rfl <| cnil ?_
   refine WC.ret1 rfl rfl ?_
   exact ⟨hO.below, rfl⟩
  ·try simp only [tstS] at hc1
   obtain ⟨⟨hw1, hw2⟩, hw3⟩ := hc1
   have hR := stopSum_small (R.map recW) R.length (by omega)
   have hSs := stopSum_small (S.map List.length) S.length (by omega)
   rw [hR] at hw1; rw [hSs] at hw2
   refine cskip <| cseq <| cg <| za rfl <| cnil <| cseq <| cseq <| cg <| vq (Val.fieldAddr fld26_2 rfl) ?_
   refine vq (Val.loadB scl24 rfl hb1.blk rfl) ?_
   first | refine vq (Val.rdlen sl24 (by assumption) rfl) ?_ | refine vq (Val.sllen Try.underlying24 rfl) ?_ | refine vq (Val.olen sl24 (by assumption) rfl) ?_ | refine vq (Val.rdlenC sl24 (by assumption) rfl) ?_
   refine vq (Val.gtr rfl rfl) <| cnil ?_
   refine WC.mono (N := (fun e w' => ∃ c' f, Sub [(4000000, .tuple #[]), (1, .pointer (some ⟨b1, 0, none⟩)), (3, I f)] e ∧ OldC w c' w' ∧ RdC recS c' w' [0] vR R ∧ RdC strS c' w' [0] vS S ∧ RdC intS c' w' [0] vN N ∧ BlkC c' w' 101 b1 [vR, vS, vN] 26 ∧ 0 ≤ f ∧ f ≤ 1073741804)) ?_ ?_
   ·refine WC.cond rfl (fun hc4 => ?_) (fun hc4 => ?_)
    ·try simp only [tstS] at hc4
     have hN0 : 0 < N.length := by omega
     obtain ⟨hc28, _⟩ := RdC.elFlat h3 hN0 (by decide)
     refine cg <| vq (Val.fieldAddr fld26_2 rfl) <| vq (Val.loadB scl24 rfl hb1.blk rfl) ?_
     first | refine vq (Val.indexAddr sl24 (by assumption) rfl rfl rfl side side) ?_ | refine vq (Val.indexC sl24 (by assumption) rfl rfl side side) ?_ | refine vq (Val.indexO sl24 (by assumption) rfl rfl side side) ?_
     refine vq (Val.loadE1 scl3 rfl hc28.cel) ?_
     refine ve (Eff.pureC c2 1 (Eff.call pf27 rfl (within_ok N[0] 1073741804 (hokN _ (List.getElem_mem hN0)) (by decide) (by decide)))) ?_
     rintro v30 w3 ⟨c3, hM3, hx3, rfl⟩
     replace hO := hO.mv hM3; replace h1 := h1.mv hM3; replace h2 := h2.mv hM3; replace h3 := h3.mv hM3; replace hb1 := hb1.mv hM3; replace hc28 := hc28.mv hM3
     have hwl := within_lo N[0] 1073741804 (by decide)
     have hwh := within_hi N[0] 1073741804 (by decide)
     refine za rfl <| cnil ?_
     exact ⟨_, _, subs, hO, h1, h2, h3, hb1, hwl, by omega⟩
    ·try simp only [tstS] at hc4
     refine cskip ?_
     exact ⟨_, 0, subs, hO, h1, h2, h3, hb1, by omega, by omega⟩
   ·skip
    rintro e9 w9 ⟨c9, f, hsub, hO, h1, h2, h3, hb1, hf0, hf1⟩
    refine WC.sub hsub ?_
    clear hsub e9
    refine cseq <| cg <| vq (Val.loadBN agg26 rfl hb1.blk rfl) <| zm rfl ?_
    refine ve (Eff.pureC c9 1 (Eff.call pf28 rfl (lframes_ok h1.now h2.now h3.now hf0 (by omega)))) ?_
    rintro v33 w4 ⟨c4, hM4, hx4, ⟨rfl, hsl⟩⟩
    replace hO := hO.mv hM4; replace h1 := h1.mv hM4; replace h2 := h2.mv hM4; replace h3 := h3.mv hM4; replace hb1 := hb1.mv hM4
    obtain ⟨s, hs⟩ : ∃ s, s = framesOf (R.take 8) f := ⟨_, rfl⟩
    rw [← hs] at hsl ⊢
    refine za rfl <| cnil <| cseq ?_
    refine WC.mono (N := (fun e w' => ∃ (c' : Nat → Nat) (vt : Value) (texts : List (List UInt8)), Sub [(4000000, .tuple #[]), (1, .pointer (some ⟨b1, 0, none⟩)), (4, St s), (5, vt)] e ∧ OldC w c' w' ∧ RdC recS c' w' [0] vR R ∧ RdC intS c' w' [0] vN N ∧ BlkC c' w' 101 b1 [vR, vS, vN] 26 ∧ OwnC c' w' 3 9 1 vt texts.length (texts.flatMap fun x => [St x]) ∧ (∀ x ∈ texts, x.length ≤ 1000000) ∧ texts.length ≤ 4010)) ?_ ?_
    ·refine WC.regionT (Kp c4 w4 [3]) [0, 1, 2, 0, 0, 0, 0, 0, 0, 0, 0, 0, 0, 0, 0, 0, 0, 2, 2, 0] (.quiet 0 (.quiet 1 (.quiet 3 (.quiet 4 (.quiet 5 (.quiet 6 (.quiet 7 (.quiet 8 (.quiet 9 (.quiet 10 (.quiet 11 (.quiet 12 (.quiet 13 (.quiet 14 (.quiet 15 (.quiet 16 (.two 2 (.one 17 (.one 18 (.quiet 19 .nil))) 17 (.one 2 (.one 18 (.quiet 19 .nil)))))))))))))))))))) mixed (by kernel_rfl) ?_
     have hM5 := Mv.drew c4 w4 []
     have hCw := Mv.drew c4 w4 [3]
     generalize w4.drew = w5 at hM5 hCw ⊢
     have hb10 := hb1
     replace hO := hO.mv hM5; replace h1 := h1.mv hM5; replace h2 := h2.mv hM5; replace h3 := h3.mv hM5; replace hb1 := hb1.mv hM5
     refine WT.val rfl rfl rfl (fun _ => Val.fieldAddr fld26_1 rfl) rfl ?_
     refine WT.valC rfl rfl rfl hCw.kp (fun W hW => Val.loadB scl23 rfl (hb10.kp hW rfl).blk rfl) rfl ?_
     refine WT.val rfl rfl rfl (fun _ => Val.move rfl) rfl ?_
     refine WT.val rfl rfl rfl (fun _ => Val.move rfl) rfl ?_
     refine WT.val rfl rfl rfl (fun _ => Val.move rfl) rfl ?_
     refine WT.val rfl rfl rfl (fun _ => Val.sadd rfl rfl side) rfl ?_
     refine WT.val rfl rfl rfl (fun _ => Val.move rfl) rfl ?_
     refine WT.val rfl rfl rfl (fun _ => Val.sadd rfl rfl side) rfl ?_
     refine WT.val rfl rfl rfl (fun _ => Val.move rfl) rfl ?_
     refine WT.val rfl rfl rfl (fun _ => Val.move rfl) rfl ?_
     refine WT.val rfl rfl rfl (fun _ => Val.slen Try.underlying9 rfl) rfl ?_
     refine WT.val rfl rfl rfl (fun _ => Val.move rfl) rfl ?_
     refine WT.val rfl rfl rfl (fun _ => Val.slen Try.underlying9 rfl) rfl ?_
     refine WT.val rfl rfl rfl (fun _ => Val.quoI rfl rfl side side side) rfl ?_
     refine WT.val rfl rfl rfl (fun _ => Val.subI rfl rfl side side) rfl ?_
     refine WT.val rfl rfl rfl (fun _ => Val.ssliceTo Try.underlying9 rfl rfl side side) rfl ?_
     refine WT.two ?_ ?_
     ·refine WS.eff rfl rfl rfl (Eff.pureC c4 3 (Eff.call pf15 rfl (copyStrings_ok h2.now (by omega)))) rfl ?_
      rintro v36 w6 ⟨c6, hM6, hx6, hoT⟩
      refine ⟨fun hC => hC.step hCw hM6 rfl, ?_⟩
      replace hCw := hCw.tr hM6 rfl
      replace hO := hO.mv hM6; replace h1 := h1.mv hM6; replace h2 := h2.mv hM6; replace h3 := h3.mv hM6; replace hb1 := hb1.mv hM6
      replace hoT := hoT.toC hx6
      refine WT.one ?_
      refine WS.eff rfl rfl rfl (Eff.buildC c6 151 sl23 rfl rfl rfl (by simp [Value.cells]) rfl rfl) rfl ?_
      rintro _ w7 ⟨b51, c7, rfl, hM7, hb51⟩
      refine ⟨fun hC => hC.step hCw hM7 rfl, ?_⟩
      replace hCw := hCw.tr hM7 rfl
      replace hO := hO.mv hM7; replace h1 := h1.mv hM7; replace h2 := h2.mv hM7; replace h3 := h3.mv hM7; replace hb1 := hb1.mv hM7; replace hoT := hoT.mv hM7
      refine WT.one ?_
      refine WS.eff rfl rfl rfl (Eff.appendC sl23 rfl rfl hoT (Src.cellsAt Try.underlying23 hb51.blk.cellsAt rfl ones) mxl oms) rfl ?_
      rintro v52 w8 ⟨c8, hM8, hOq⟩
      refine ⟨fun hC => hC.step hCw hM8 rfl, ?_⟩
      replace hCw := hCw.tr hM8 rfl
      clear hb51
      replace hO := hO.mv hM8; replace h1 := h1.mv hM8; replace h2 := h2.mv hM8; replace h3 := h3.mv hM8; replace hb1 := hb1.mv hM8
      replace hoT := hOq
      refine WT.val rfl rfl rfl (fun _ => Val.assign rfl) rfl ?_
      refine WT.nil ?_
      refine ⟨_, _, _, subs, hO, h1, h3, hb1, own_four hoT, fun x hx => ?_, by rw [List.length_append]; simp; omega⟩
      rcases List.mem_append.1 hx with h | h
      · have := sum_mem_le List.length h; omega
      · simp only [List.mem_cons, List.not_mem_nil, or_false] at h
        rcases h with rfl | rfl | rfl | rfl
        · omega
        · rw [List.length_append]; omega
        · rw [List.length_append]; simp; omega
        · rw [List.length_take]; omega
     ·refine WS.eff rfl rfl rfl (Eff.buildC c4 151 sl23 rfl rfl rfl (by simp [Value.cells]) rfl rfl) rfl ?_
      rintro _ w9 ⟨b51, c9, rfl, hM9, hb51⟩
      refine ⟨fun hC => hC.step hCw hM9 rfl, ?_⟩
      replace hCw := hCw.tr hM9 rfl
      replace hO := hO.mv hM9; replace h1 := h1.mv hM9; replace h2 := h2.mv hM9; replace h3 := h3.mv hM9; replace hb1 := hb1.mv hM9
      refine WT.one ?_
      refine WS.eff rfl rfl rfl (Eff.pureC c9 3 (Eff.call pf15 rfl (copyStrings_ok h2.now (by omega)))) rfl ?_
      rintro v36 w10 ⟨c10, hM10, hx10, hoT⟩
      refine ⟨fun hC => hC.step hCw hM10 rfl, ?_⟩
      replace hCw := hCw.tr hM10 rfl
      replace hO := hO.mv hM10; replace h1 := h1.mv hM10; replace h2 := h2.mv hM10; replace h3 := h3.mv hM10; replace hb1 := hb1.mv hM10; replace hb51 := hb51.mv hM10
      replace hoT := hoT.toC hx10
      refine WT.one ?_
      refine WS.eff rfl rfl rfl (Eff.appendC sl23 rfl rfl hoT (Src.cellsAt Try.underlying23 hb51.blk.cellsAt rfl ones) mxl oms) rfl ?_
      rintro v52 w11 ⟨c11, hM11, hOq⟩
      refine ⟨fun hC => hC.step hCw hM11 rfl, ?_⟩
      replace hCw := hCw.tr hM11 rfl
      clear hb51
      replace hO := hO.mv hM11; replace h1 := h1.mv hM11; replace h2 := h2.mv hM11; replace h3 := h3.mv hM11; replace hb1 := hb1.mv hM11
      replace hoT := hOq
      refine WT.val rfl rfl rfl (fun _ => Val.assign rfl) rfl ?_
      refine WT.nil ?_
      refine ⟨_, _, _, subs, hO, h1, h3, hb1, own_four hoT, fun x hx => ?_, by rw [List.length_append]; simp; omega⟩
      rcases List.mem_append.1 hx with h | h
      · have := sum_mem_le List.length h; omega
      · simp only [List.mem_cons, List.not_mem_nil, or_false] at h
        rcases h with rfl | rfl | rfl | rfl
        · omega
        · rw [List.length_append]; omega
        · rw [List.length_append]; simp; omega
        · rw [List.length_take]; omega
    ·skip
     rintro e9 w9 ⟨c9, vt, texts, hsub, hO, h1, h3, hb1, hoT, htx, htl⟩
     refine WC.sub hsub ?_
     clear hsub e9
     refine cseq <| cseq <| cg <| za rfl <| cnil <| cblock ?_
     refine WC.loop (σ := Nat × Value × List (List UInt8)) (fun st => [(1, .pointer (some ⟨b1, 0, none⟩)), (4, St s), (5, st.2.1), (6, I st.1)]) (fun st w' => ∃ c', OldC w c' w' ∧ RdC recS c' w' [0] vR R ∧ RdC intS c' w' [0] vN N ∧ BlkC c' w' 101 b1 [vR, vS, vN] 26 ∧ OwnC c' w' 3 9 1 st.2.1 st.2.2.length (st.2.2.flatMap fun x => [St x]) ∧ (∀ x ∈ st.2.2, x.length ≤ 1000000) ∧ st.2.2.length ≤ 4010 + 8 * st.1 ∧ st.1 ≤ R.length ∧ st.1 ≤ 8) (fun st => R.length - st.1) (0, vt, texts) subs ⟨_, hO, h1, h3, hb1, hoT, htx, by simpa using htl, by simp, by simp⟩ ?_
     clear hO h1 h3 hb1 hoT htx htl
     rintro ⟨i, vt, texts⟩ wl ⟨cl, hO, h1, h3, hb1, hoT, htx, htl, hi, hi8⟩
     dsimp only at hoT htx htl hi hi8 ⊢
     refine cseq <| cseq <| cg <| zm rfl <| vq (Val.fieldAddr fld26_0 rfl) <| vq (Val.loadB scl22 rfl hb1.blk rfl) ?_
     first | refine vq (Val.rdlen sl22 (by assumption) rfl) ?_ | refine vq (Val.sllen Try.underlying22 rfl) ?_ | refine vq (Val.olen sl22 (by assumption) rfl) ?_ | refine vq (Val.rdlenC sl22 (by assumption) rfl) ?_
     refine vq (Val.lss rfl rfl) <| zm rfl ?_
     apply WR.sc true 2 _ (fun w' => wl = w')
     case hl | hg | hu | hv | hs | hoff | hd => rfl
     case hF => exact fun _ => rfl
     case hT =>
      intro hq8
      try simp only [tstS] at hq8
      simp only [List.take_succ_cons, List.take_zero]
      refine WR.on rfl rfl ?_
      refine zm rfl ?_
      refine WR.on rfl rfl ?_
      refine vq (Val.lss rfl rfl) ?_
      exact WR.nil ⟨rfl, Sub.drop _ 2 _ rfl rfl, rfl⟩
     rintro _ rfl
     refine cnil ?_
     refine WC.cond rfl (fun hc9 => ?_) (fun hc9 => ?_)
     ·try simp only [tstS] at hc9
      obtain ⟨hi1, hi2⟩ := hc9
      have ka : i < R.length := by omega
      obtain ⟨cs1, hc82, _, hrd⟩ := RdC.el h1 ka (by decide)
      obtain ⟨vl1, vs1, rfl, _⟩ := id hrd.now
      refine cskip <| cseq <| cblock <| cseq <| cg ?_
      refine ve (Eff.buildC cl 8 sl24 rfl rfl rfl (by simp [Value.cells]) rfl rfl) ?_
      rintro _ w12 ⟨b64, c12, rfl, hM12, hb64⟩
      replace hO := hO.mv hM12; replace h1 := h1.mv hM12; replace h3 := h3.mv hM12; replace hb1 := hb1.mv hM12; replace hoT := hoT.mv hM12; replace hc82 := hc82.mv hM12; replace hrd := hrd.mv hM12
      have ho64 := BlkC.own (n := 4) (size := 1) hb64 rfl (by decide)
      refine vq (Val.fieldAddr fld26_2 rfl) <| vq (Val.loadB scl24 rfl hb1.blk rfl) ?_
      refine ve (Eff.appendC sl24 rfl rfl ho64 (Src.flat Try.underlying24 h3.now) mxl oms) ?_
      rintro v67 w13 ⟨c13, hM13, hOq⟩
      replace hO := hO.mv hM13; replace h1 := h1.mv hM13; replace h3 := h3.mv hM13; replace hb1 := hb1.mv hM13; replace hoT := hoT.mv hM13; replace hc82 := hc82.mv hM13; replace hrd := hrd.mv hM13
      replace ho64 := hOq
      have ho64b := own_ints4 ho64
      have hokM : ∀ x ∈ (0 :: 1073741824 :: 1073741825 :: -1 :: N : List Int), Go.Eng.Int64 x := by
        intro x hx
        simp only [List.mem_cons] at hx
        rcases hx with rfl | rfl | rfl | rfl | hx
        · exact ⟨by omega, by omega⟩
        · exact ⟨by omega, by omega⟩
        · exact ⟨by omega, by omega⟩
        · exact ⟨by omega, by omega⟩
        · exact hokN x hx
      have hML : (0 :: 1073741824 :: 1073741825 :: -1 :: N : List Int).length ≤ 104 := by simp; omega
      generalize (0 :: 1073741824 :: 1073741825 :: -1 :: N : List Int) = M at ho64b hokM hML
      have hX : RdC intS _ _ [8] v67 M := ho64b.rdFlat (by omega) hokM
      refine za rfl <| cnil <| cseq <| cg <| za rfl <| cnil <| cblock ?_
      refine WC.loop (σ := Nat × Value × List (List UInt8)) (fun st => [(1, .pointer (some ⟨b1, 0, none⟩)), (4, St s), (5, st.2.1), (6, I i), (7, v67), (8, I st.1)]) (fun st w' => ∃ c', OldC w c' w' ∧ RdC recS c' w' [0] vR R ∧ RdC intS c' w' [0] vN N ∧ BlkC c' w' 101 b1 [vR, vS, vN] 26 ∧ CelC c' w' [0] (elemA vR recS.size i) [I R[i].kind, I R[i].id, St R[i].name, St R[i].digest, vl1, vs1] ∧ FtC (fun w' => recS.rd w'.heap.size w' [I R[i].kind, I R[i].id, St R[i].name, St R[i].digest, vl1, vs1] R[i]) c' w' [0] ∧ RdC intS c' w' [8] v67 M ∧ OwnC c' w' 3 9 1 st.2.1 st.2.2.length (st.2.2.flatMap fun x => [St x]) ∧ (∀ x ∈ st.2.2, x.length ≤ 1000000) ∧ st.2.2.length ≤ 4010 + 8 * i + st.1 ∧ st.1 ≤ M.length ∧ st.1 ≤ 8) (fun st => M.length - st.1) (0, vt, texts) subs ⟨_, hO, h1, h3, hb1, hc82, hrd, hX, hoT, htx, by simpa using htl, by simp, by simp⟩ ?_
      clear hO h1 h3 hb1 hc82 hrd hX hoT htx htl
      rintro ⟨k, vt, texts⟩ wj ⟨cj, hO, h1, h3, hb1, hc82, hrd, hX, hoT, htx, htl, hk, hk8⟩
      dsimp only at hoT htx htl hk hk8 ⊢
      refine cseq <| cseq <| cg <| zm rfl <| zm rfl ?_
      first | refine vq (Val.rdlen sl24 (by assumption) rfl) ?_ | refine vq (Val.sllen Try.underlying24 rfl) ?_ | refine vq (Val.olen sl24 (by assumption) rfl) ?_ | refine vq (Val.rdlenC sl24 (by assumption) rfl) ?_
      refine vq (Val.lss rfl rfl) <| zm rfl ?_
      apply WR.sc true 2 _ (fun w' => wj = w')
      case hl | hg | hu | hv | hs | hoff | hd => rfl
      case hF => exact fun _ => rfl
      case hT =>
       intro hq7
       try simp only [tstS] at hq7
       simp only [List.take_succ_cons, List.take_zero]
       refine WR.on rfl rfl ?_
       refine zm rfl ?_
       refine WR.on rfl rfl ?_
       refine vq (Val.lss rfl rfl) ?_
       exact WR.nil ⟨rfl, Sub.drop _ 2 _ rfl rfl, rfl⟩
      rintro _ rfl
      refine cnil ?_
      refine WC.cond rfl (fun hc13 => ?_) (fun hc13 => ?_)
      ·try simp only [tstS] at hc13
       obtain ⟨hk1, hk2⟩ := hc13
       have kk : k < M.length := by omega
       obtain ⟨hc86, _⟩ := RdC.elFlat hX kk (by decide)
       have hc94 := hc82; have hc107 := hc82; have hc100 := hc86; have hc111 := hc86
       refine cskip <| cseq <| cblock <| cseq ?_
       refine WC.regionD (Kp cj wj []) [0, 1, 0, 0, 1, 0, 0, 0, 1, 2, 0, 0, 0, 0, 0] [0, 1, 2, 3, 4, 5, 6, 7, 8, 9, 10, 11, 12, 13, 14] mixed (by kernel_rfl) ?_
       have hM14 := Mv.drew cj wj []
       have hCw := Mv.drew cj wj []
       generalize wj.drew = w14 at hM14 hCw ⊢
       have hb10 := hb1
       have hc820 := hc82
       have hc860 := hc86
       have hc940 := hc94
       have hc1070 := hc107
       have hc1000 := hc100
       have hc1110 := hc111
       replace hO := hO.mv hM14; replace h1 := h1.mv hM14; replace h3 := h3.mv hM14; replace hb1 := hb1.mv hM14; replace hc82 := hc82.mv hM14; replace hrd := hrd.mv hM14; replace hX := hX.mv hM14; replace hoT := hoT.mv hM14; replace hc86 := hc86.mv hM14; replace hc94 := hc94.mv hM14; replace hc107 := hc107.mv hM14; replace hc100 := hc100.mv hM14; replace hc111 := hc111.mv hM14
       refine vd rfl (fun _ => Val.fieldAddr fld26_0 rfl) <| vc rfl hCw.kp (fun W hW => Val.loadB scl22 rfl (hb10.kp hW rfl).blk rfl) <| zdm rfl rfl ?_
       first | refine vd rfl (fun _ => Val.indexAddr sl22 (by assumption) rfl rfl rfl side side) ?_ | refine vd rfl (fun _ => Val.indexC sl22 (by assumption) rfl rfl side side) ?_ | refine vd rfl (fun _ => Val.indexO sl22 (by assumption) rfl rfl side side) ?_
       refine vc rfl hCw.kp (fun W hW => Val.loadE agg31 rfl (hc820.kp hW rfl).cel rfl) <| zdm rfl rfl <| zdm rfl rfl ?_
       first | refine vd rfl (fun _ => Val.indexAddr sl24 (by assumption) rfl rfl rfl side side) ?_ | refine vd rfl (fun _ => Val.indexC sl24 (by assumption) rfl rfl side side) ?_ | refine vd rfl (fun _ => Val.indexO sl24 (by assumption) rfl rfl side side) ?_
       refine vc rfl hCw.kp (fun W hW => Val.loadE1 scl3 rfl (hc860.kp hW rfl).cel) ?_
       refine WD.eff rfl rfl rfl (Eff.pureC cj 1 (Eff.call pf29 rfl (rframe_ok hrd.now))) rfl ?_
       rintro v88 w15 ⟨c15, hM15, hx15, rfl⟩
       refine ⟨fun hC => hC.step hCw hM15 rfl, ?_⟩
       replace hCw := hCw.tr hM15 rfl
       replace hO := hO.mv hM15; replace h1 := h1.mv hM15; replace h3 := h3.mv hM15; replace hb1 := hb1.mv hM15; replace hc82 := hc82.mv hM15; replace hrd := hrd.mv hM15; replace hX := hX.mv hM15; replace hoT := hoT.mv hM15; replace hc86 := hc86.mv hM15; replace hc94 := hc94.mv hM15; replace hc107 := hc107.mv hM15; replace hc100 := hc100.mv hM15; replace hc111 := hc111.mv hM15
       refine zdm rfl rfl <| vd rfl (fun _ => Val.extract rfl rfl) <| vd rfl (fun _ => Val.extract rfl rfl) <| zda rfl rfl <| zda rfl rfl ?_
       refine WD.nil ?_
       clear hb10 hc820 hc860 hc940 hc1070 hc1000 hc1110
       clear hCw
       refine cseq <| cg <| za rfl <| za rfl <| cnil <| cseq <| cseq <| cg <| vq (Val.fieldAddr fld26_0 rfl) ?_
       refine vq (Val.loadB scl22 rfl hb1.blk rfl) <| zm rfl ?_
       first | refine vq (Val.indexAddr sl22 (by assumption) rfl rfl rfl side side) ?_ | refine vq (Val.indexC sl22 (by assumption) rfl rfl side side) ?_ | refine vq (Val.indexO sl22 (by assumption) rfl rfl side side) ?_
       refine vq (Val.loadE agg31 rfl hc94.cel rfl) ?_
       refine ve (Eff.pureC c15 1 (Eff.call pf17 rfl (record_ok hrd.now))) ?_
       rintro v96 w16 ⟨c16, hM16, hx16, rfl⟩
       replace hO := hO.mv hM16; replace h1 := h1.mv hM16; replace h3 := h3.mv hM16; replace hb1 := hb1.mv hM16; replace hc82 := hc82.mv hM16; replace hrd := hrd.mv hM16; replace hX := hX.mv hM16; replace hoT := hoT.mv hM16; replace hc86 := hc86.mv hM16; replace hc94 := hc94.mv hM16; replace hc107 := hc107.mv hM16; replace hc100 := hc100.mv hM16; replace hc111 := hc111.mv hM16
       refine zm rfl ?_
       apply WR.sc true 5 (decide (0 ≤ M[k]) && decide (M[k] ≤ 1073741824)) (fun w' => ∃ c', Acc c16 w16 [] c' w')
       case hl | hg | hu | hv | hs | hoff | hd => rfl
       case hF => exact fun _ => ⟨_, Acc.refl _ _ _⟩
       case hT =>
        intro hq12
        try simp only [tstS] at hq12
        simp only [List.take_succ_cons, List.take_zero]
        have hKsc12 := Acc.refl c16 w16 []
        refine WR.on rfl rfl ?_
        refine zm rfl ?_
        refine WR.on rfl rfl ?_
        refine zm rfl ?_
        refine WR.on rfl rfl ?_
        first | refine vq (Val.indexAddr sl24 (by assumption) rfl rfl rfl side side) ?_ | refine vq (Val.indexC sl24 (by assumption) rfl rfl side side) ?_ | refine vq (Val.indexO sl24 (by assumption) rfl rfl side side) ?_
        refine WR.on rfl rfl ?_
        refine vq (Val.loadE1 scl3 rfl hc100.cel) ?_
        refine WR.on rfl rfl ?_
        refine ve (Eff.pureC c16 1 (Eff.call pf30 rfl (num_ok M[k] 1073741824))) ?_
        rintro v102 w17 ⟨c17, hM17, hx17, rfl⟩
        replace hO := hO.mv hM17; replace h1 := h1.mv hM17; replace h3 := h3.mv hM17; replace hb1 := hb1.mv hM17; replace hc82 := hc82.mv hM17; replace hrd := hrd.mv hM17; replace hX := hX.mv hM17; replace hoT := hoT.mv hM17; replace hc86 := hc86.mv hM17; replace hc94 := hc94.mv hM17; replace hc107 := hc107.mv hM17; replace hc100 := hc100.mv hM17; replace hc111 := hc111.mv hM17; replace hKsc12 := hKsc12.mv hM17
        exact WR.nil ⟨rfl, Sub.drop _ 5 _ rfl rfl, _, hKsc12⟩
       rintro w18 ⟨c18, ⟨hM18⟩⟩
       replace hO := hO.mv hM18; replace h1 := h1.mv hM18; replace h3 := h3.mv hM18; replace hb1 := hb1.mv hM18; replace hc82 := hc82.mv hM18; replace hrd := hrd.mv hM18; replace hX := hX.mv hM18; replace hoT := hoT.mv hM18; replace hc86 := hc86.mv hM18; replace hc94 := hc94.mv hM18; replace hc107 := hc107.mv hM18; replace hc100 := hc100.mv hM18; replace hc111 := hc111.mv hM18
       refine cnil ?_
       refine WC.cond rfl (fun hc17 => ?_) (fun hc17 => ?_)
       ·try simp only [tstS] at hc17
        have hmn : (mayB R[i] && numB M[k]) = true := by simpa [numB] using hc17
        have hmb : mayB R[i] = true := by simp at hmn; exact hmn.1
        have hfl := frameS_small hmb M[k]
        rw [if_pos hmn, if_pos hmn]
        refine cseq ?_
        refine WC.regionD (Kp c18 w18 []) [0, 1, 0, 0, 1, 0, 0, 0, 1, 2, 0, 0] [0, 1, 2, 3, 4, 5, 6, 7, 8, 9, 10, 11] mixed (by kernel_rfl) ?_
        have hM19 := Mv.drew c18 w18 []
        have hCw := Mv.drew c18 w18 []
        generalize w18.drew = w19 at hM19 hCw ⊢
        have hb10 := hb1
        have hc820 := hc82
        have hc860 := hc86
        have hc940 := hc94
        have hc1070 := hc107
        have hc1000 := hc100
        have hc1110 := hc111
        replace hO := hO.mv hM19; replace h1 := h1.mv hM19; replace h3 := h3.mv hM19; replace hb1 := hb1.mv hM19; replace hc82 := hc82.mv hM19; replace hrd := hrd.mv hM19; replace hX := hX.mv hM19; replace hoT := hoT.mv hM19; replace hc86 := hc86.mv hM19; replace hc94 := hc94.mv hM19; replace hc107 := hc107.mv hM19; replace hc100 := hc100.mv hM19; replace hc111 := hc111.mv hM19
        refine vd rfl (fun _ => Val.fieldAddr fld26_0 rfl) <| vc rfl hCw.kp (fun W hW => Val.loadB scl22 rfl (hb10.kp hW rfl).blk rfl) <| zdm rfl rfl ?_
        first | refine vd rfl (fun _ => Val.indexAddr sl22 (by assumption) rfl rfl rfl side side) ?_ | refine vd rfl (fun _ => Val.indexC sl22 (by assumption) rfl rfl side side) ?_ | refine vd rfl (fun _ => Val.indexO sl22 (by assumption) rfl rfl side side) ?_
        refine vc rfl hCw.kp (fun W hW => Val.loadE agg31 rfl (hc1070.kp hW rfl).cel rfl) <| zdm rfl rfl <| zdm rfl rfl ?_
        first | refine vd rfl (fun _ => Val.indexAddr sl24 (by assumption) rfl rfl rfl side side) ?_ | refine vd rfl (fun _ => Val.indexC sl24 (by assumption) rfl rfl side side) ?_ | refine vd rfl (fun _ => Val.indexO sl24 (by assumption) rfl rfl side side) ?_
        refine vc rfl hCw.kp (fun W hW => Val.loadE1 scl3 rfl (hc1110.kp hW rfl).cel) ?_
        refine WD.eff rfl rfl rfl (Eff.pureC c18 1 (Eff.call pf31 rfl (qframe_ok (n := M[k]) hrd.now hmb))) rfl ?_
        rintro v113 w20 ⟨c20, hM20, hx20, rfl⟩
        refine ⟨fun hC => hC.step hCw hM20 rfl, ?_⟩
        replace hCw := hCw.tr hM20 rfl
        replace hO := hO.mv hM20; replace h1 := h1.mv hM20; replace h3 := h3.mv hM20; replace hb1 := hb1.mv hM20; replace hc82 := hc82.mv hM20; replace hrd := hrd.mv hM20; replace hX := hX.mv hM20; replace hoT := hoT.mv hM20; replace hc86 := hc86.mv hM20; replace hc94 := hc94.mv hM20; replace hc107 := hc107.mv hM20; replace hc100 := hc100.mv hM20; replace hc111 := hc111.mv hM20
        refine zda rfl rfl <| zda rfl rfl ?_
        refine WD.nil ?_
        clear hb10 hc820 hc860 hc940 hc1070 hc1000 hc1110
        clear hCw
        refine cg <| zm rfl <| zm rfl <| zm rfl <| vq (Val.sadd rfl rfl side) ?_
        refine ve (Eff.build1C c20 218 sl23 rfl rfl rfl rfl rfl) ?_
        rintro _ w21 ⟨b118, c21, rfl, hM21, hb118⟩
        replace hO := hO.mv hM21; replace h1 := h1.mv hM21; replace h3 := h3.mv hM21; replace hb1 := hb1.mv hM21; replace hc82 := hc82.mv hM21; replace hrd := hrd.mv hM21; replace hX := hX.mv hM21; replace hoT := hoT.mv hM21; replace hc86 := hc86.mv hM21; replace hc94 := hc94.mv hM21; replace hc107 := hc107.mv hM21; replace hc100 := hc100.mv hM21; replace hc111 := hc111.mv hM21
        refine ve (Eff.appendC sl23 rfl rfl hoT (Src.cellsAt Try.underlying23 hb118.blk.cellsAt rfl ones) mxl oms) ?_
        rintro v119 w22 ⟨c22, hM22, hOq⟩
        clear hb118
        replace hO := hO.mv hM22; replace h1 := h1.mv hM22; replace h3 := h3.mv hM22; replace hb1 := hb1.mv hM22; replace hc82 := hc82.mv hM22; replace hrd := hrd.mv hM22; replace hX := hX.mv hM22; replace hc86 := hc86.mv hM22; replace hc94 := hc94.mv hM22; replace hc107 := hc107.mv hM22; replace hc100 := hc100.mv hM22; replace hc111 := hc111.mv hM22
        replace hoT := hOq
        have hoT2 := own_one hoT
        refine za rfl <| cnil <| cseq <| cg <| zm rfl ?_
        refine ve (Eff.pureC c22 1 (Eff.call pf20 rfl (errnum_ok _))) ?_
        rintro v121 w23 ⟨c23, hM23, hx23, rfl⟩
        replace hO := hO.mv hM23; replace h1 := h1.mv hM23; replace h3 := h3.mv hM23; replace hb1 := hb1.mv hM23; replace hc82 := hc82.mv hM23; replace hrd := hrd.mv hM23; replace hX := hX.mv hM23; replace hc86 := hc86.mv hM23; replace hc94 := hc94.mv hM23; replace hc107 := hc107.mv hM23; replace hc100 := hc100.mv hM23; replace hc111 := hc111.mv hM23; replace hoT2 := hoT2.mv hM23
        refine zm rfl <| vq (Val.neq rfl rfl) <| zm rfl ?_
        apply WR.sc false 3 _ (fun w' => w23 = w')
        case hl | hg | hu | hv | hs | hoff | hd => rfl
        case hF => exact fun _ => rfl
        case hT =>
         intro hq8
         try simp only [tstS] at hq8
         simp only [List.take_succ_cons, List.take_zero]
         refine WR.on rfl rfl ?_
         refine zm rfl ?_
         refine WR.on rfl rfl ?_
         refine zm rfl ?_
         refine WR.on rfl rfl ?_
         refine vq (Val.sne rfl rfl) ?_
         exact WR.nil ⟨rfl, Sub.drop _ 3 _ rfl rfl, rfl⟩
        rintro _ rfl
        refine cnil ?_
        refine WC.cond rfl (fun hc20 => ?_) (fun hc20 => ?_)
        ·exfalso; simp at hc20
        ·try simp only [tstS] at hc20
         refine cskip <| cg <| zm rfl <| vq (Val.addI rfl rfl side side) <| za rfl <| cnil ?_
         first
         | exact ⟨(k + 1, _, texts ++ [frameS R[i] M[k] ++ s]), subs, ⟨_, hO, h1, h3, hb1, hc82, hrd, hX, hoT2, fun x hx => (List.mem_append.1 hx).elim (htx x) (fun h => by simp only [List.mem_singleton] at h; subst h; rw [List.length_append]; omega), by dsimp only; rw [List.length_append]; simp only [List.length_singleton]; omega, by dsimp only; omega, by dsimp only; omega⟩, by dsimp only; omega⟩
         | exact ⟨(k + 1, vt, texts), subs, ⟨_, hO, h1, h3, hb1, hc82, hrd, hX, hoT, htx, by dsimp only; omega, by dsimp only; omega, by dsimp only; omega⟩, by dsimp only; omega⟩
       ·try simp only [tstS] at hc17
        have hmn : (mayB R[i] && numB M[k]) = false := by simpa [numB] using hc17
        rw [hmn, if_neg (by decide), if_neg (by decide)]
        refine cskip <| cseq <| cg <| zm rfl ?_
        refine ve (Eff.pureC c18 1 (Eff.call pf20 rfl (errnum_ok _))) ?_
        rintro v121 w24 ⟨c24, hM24, hx24, rfl⟩
        replace hO := hO.mv hM24; replace h1 := h1.mv hM24; replace h3 := h3.mv hM24; replace hb1 := hb1.mv hM24; replace hc82 := hc82.mv hM24; replace hrd := hrd.mv hM24; replace hX := hX.mv hM24; replace hoT := hoT.mv hM24; replace hc86 := hc86.mv hM24; replace hc94 := hc94.mv hM24; replace hc107 := hc107.mv hM24; replace hc100 := hc100.mv hM24; replace hc111 := hc111.mv hM24
        refine zm rfl <| vq (Val.neq rfl rfl) <| zm rfl ?_
        apply WR.sc false 3 _ (fun w' => w24 = w')
        case hl | hg | hu | hv | hs | hoff | hd => rfl
        case hF => exact fun _ => rfl
        case hT =>
         intro hq8
         try simp only [tstS] at hq8
         simp only [List.take_succ_cons, List.take_zero]
         refine WR.on rfl rfl ?_
         refine zm rfl ?_
         refine WR.on rfl rfl ?_
         refine zm rfl ?_
         refine WR.on rfl rfl ?_
         refine vq (Val.sne rfl rfl) ?_
         exact WR.nil ⟨rfl, Sub.drop _ 3 _ rfl rfl, rfl⟩
        rintro _ rfl
        refine cnil ?_
        refine WC.cond rfl (fun hc20 => ?_) (fun hc20 => ?_)
        ·exfalso; simp at hc20
        ·try simp only [tstS] at hc20
         refine cskip <| cg <| zm rfl <| vq (Val.addI rfl rfl side side) <| za rfl <| cnil ?_
         first
         | exact ⟨(k + 1, _, texts ++ [frameS R[i] M[k] ++ s]), subs, ⟨_, hO, h1, h3, hb1, hc82, hrd, hX, hoT2, fun x hx => (List.mem_append.1 hx).elim (htx x) (fun h => by simp only [List.mem_singleton] at h; subst h; rw [List.length_append]; omega), by dsimp only; rw [List.length_append]; simp only [List.length_singleton]; omega, by dsimp only; omega, by dsimp only; omega⟩, by dsimp only; omega⟩
         | exact ⟨(k + 1, vt, texts), subs, ⟨_, hO, h1, h3, hb1, hc82, hrd, hX, hoT, htx, by dsimp only; omega, by dsimp only; omega, by dsimp only; omega⟩, by dsimp only; omega⟩
      ·try simp only [tstS] at hc13
       refine WC.exit rfl ?_
       refine cg <| zm rfl <| vq (Val.addI rfl rfl side side) <| za rfl <| cnil ?_
       exact ⟨(i + 1, vt, texts), subs, ⟨_, hO, h1, h3, hb1, hoT, htx, by dsimp only; omega, by dsimp only; omega, by dsimp only; omega⟩, by dsimp only; omega⟩
     ·try simp only [tstS] at hc9
      have hX : RdC strS cl wl [3] vt texts := hoT.rdFlat (by omega) (fun x hx => by have := htx x hx; omega)
      refine WC.exit rfl ?_
      refine cseq <| cseq <| cg <| za rfl <| cnil <| cblock ?_
      refine WC.loop (σ := Nat) (fun j => [(5, vt), (13, I j)]) (fun j w' => ∃ c', OldC w c' w' ∧ RdC strS c' w' [3] vt texts ∧ j ≤ texts.length ∧ j ≤ 30) (fun j => texts.length - j) 0 subs ⟨_, hO, hX, by omega, by omega⟩ ?_
      clear hO h1 h3 hb1 hX
      rintro j wj ⟨cj, hO, hX, hj, hj30⟩
      refine cseq <| cseq <| cg <| zm rfl <| zm rfl ?_
      first | refine vq (Val.rdlen sl23 (by assumption) rfl) ?_ | refine vq (Val.sllen Try.underlying23 rfl) ?_ | refine vq (Val.olen sl23 (by assumption) rfl) ?_ | refine vq (Val.rdlenC sl23 (by assumption) rfl) ?_
      refine vq (Val.lss rfl rfl) <| zm rfl ?_
      apply WR.sc true 2 _ (fun w' => wj = w')
      case hl | hg | hu | hv | hs | hoff | hd => rfl
      case hF => exact fun _ => rfl
      case hT =>
       intro hq7
       try simp only [tstS] at hq7
       simp only [List.take_succ_cons, List.take_zero]
       refine WR.on rfl rfl ?_
       refine zm rfl ?_
       refine WR.on rfl rfl ?_
       refine vq (Val.lss rfl rfl) ?_
       exact WR.nil ⟨rfl, Sub.drop _ 2 _ rfl rfl, rfl⟩
      rintro _ rfl
      refine cnil ?_
      refine WC.cond rfl (fun hc23 => ?_) (fun hc23 => ?_)
      ·try simp only [tstS] at hc23
       obtain ⟨hj1, hj2⟩ := hc23
       have kj : j < texts.length := by omega
       obtain ⟨hc142, _⟩ := RdC.elFlat hX kj (by decide)
       have hc151 := hc142
       have hxl : texts[j].length ≤ 1073741824 := by have := htx _ (List.getElem_mem kj); omega
       have hfn := framesS_len texts[j]
       refine cskip <| cseq <| cblock <| cseq <| cg <| zm rfl <| zm rfl ?_
       first | refine vq (Val.indexAddr sl23 (by assumption) rfl rfl rfl side side) ?_ | refine vq (Val.indexC sl23 (by assumption) rfl rfl side side) ?_ | refine vq (Val.indexO sl23 (by assumption) rfl rfl side side) ?_
       refine vq (Val.loadE1 scl9 rfl hc142.cel) ?_
       refine ve (Eff.call pf32 rfl (frames_c (c := cj) (s := texts[j]) hxl)) ?_
       rintro v144 w25 ⟨c25, hM25, ⟨vl, css, rfl, hoL, hE⟩⟩
       replace hO := hO.mv hM25; replace hX := hX.mv hM25; replace hc142 := hc142.mv hM25; replace hc151 := hc151.mv hM25
       refine zm rfl <| vq (Val.extract rfl rfl) <| vq (Val.extract rfl rfl) <| vq (Val.extract rfl rfl) <| za rfl <| za rfl <| za rfl <| cnil <| cseq ?_
       refine cg <| zm rfl <| zm rfl ?_
       first | refine vq (Val.indexAddr sl23 (by assumption) rfl rfl rfl side side) ?_ | refine vq (Val.indexC sl23 (by assumption) rfl rfl side side) ?_ | refine vq (Val.indexO sl23 (by assumption) rfl rfl side side) ?_
       refine vq (Val.loadE1 scl9 rfl hc151.cel) ?_
       refine ve (Eff.call pf33 rfl (qframes_c (c := c25) (s := texts[j]) hxl)) ?_
       rintro v153 w26 ⟨c26, hM26, ⟨vpg, rfl, hq⟩⟩
       replace hO := hO.mv hM26; replace hX := hX.mv hM26; replace hc142 := hc142.mv hM26; replace hc151 := hc151.mv hM26; replace hoL := hoL.mv hM26; replace hE := hE.mv hM26
       refine zm rfl <| vq (Val.extract rfl rfl) <| vq (Val.extract rfl rfl) <| vq (Val.extract rfl rfl) <| za rfl <| za rfl <| za rfl <| cnil <| cseq ?_
       refine cseq <| cg <| zm rfl <| zm rfl ?_
       refine ve (Eff.pureC c26 1 (Eff.call pf34 rfl (eqRecords_ok (EachO.rdC hoL hE (by omega)).now hq.now))) ?_
       rintro v159 w27 ⟨c27, hM27, hx27, rfl⟩
       replace hO := hO.mv hM27; replace hX := hX.mv hM27; replace hc142 := hc142.mv hM27; replace hc151 := hc151.mv hM27; replace hoL := hoL.mv hM27; replace hE := hE.mv hM27; replace hq := hq.mv hM27
       rw [decide_eq_true rfl]
       refine vq (Val.not rfl) <| zm rfl ?_
       apply WR.sc false 3 _ (fun w' => w27 = w')
       case hl | hg | hu | hv | hs | hoff | hd => rfl
       case hF => exact fun _ => rfl
       case hT =>
        intro hq8
        try simp only [tstS] at hq8
        simp only [List.take_succ_cons, List.take_zero]
        refine WR.on rfl rfl ?_
        refine zm rfl ?_
        refine WR.on rfl rfl ?_
        refine zm rfl ?_
        refine WR.on rfl rfl ?_
        refine vq (Val.neq rfl rfl) ?_
        exact WR.nil ⟨rfl, Sub.drop _ 3 _ rfl rfl, rfl⟩
       rintro _ rfl
       refine zm rfl ?_
       apply WR.sc false 3 _ (fun w' => w27 = w')
       case hl | hg | hu | hv | hs | hoff | hd => rfl
       case hF => exact fun _ => rfl
       case hT =>
        intro hq13
        try simp only [tstS] at hq13
        simp only [List.take_succ_cons, List.take_zero]
        refine WR.on rfl rfl ?_
        refine zm rfl ?_
        refine WR.on rfl rfl ?_
        refine zm rfl ?_
        refine WR.on rfl rfl ?_
        refine vq (Val.neq rfl rfl) ?_
        exact WR.nil ⟨rfl, Sub.drop _ 3 _ rfl rfl, rfl⟩
       rintro _ rfl
       refine cnil ?_
       refine WC.cond rfl (fun hc27 => ?_) (fun hc27 => ?_)
       ·exfalso; simp at hc27
       ·try simp only [tstS] at hc27
        obtain ⟨L, hL, hLl, hr⟩ := hE.raw
        have hoL2 := own_raw hL hLl hoL
        refine cskip <| cg <| zm rfl ?_
        refine ve (Eff.call pf35 rfl (spoilR_ok hoL2 hr (by omega))) ?_
        rintro v172 w28 ⟨c28, hM28, _⟩
        replace hO := hO.mv hM28; replace hX := hX.mv hM28
        refine cnil <| cg <| zm rfl <| vq (Val.addI rfl rfl side side) <| za rfl <| cnil ?_
        exact ⟨j + 1, subs, ⟨_, hO, hX, by omega, by omega⟩, by omega⟩
      ·try simp only [tstS] at hc23
       refine WC.exit rfl ?_
       refine cseq <| cg ?_
       refine ve (Eff.pureC cj 1 (Eff.call pf25 rfl (wakes_ok))) ?_
       rintro v173 w29 ⟨c29, hM29, hx29, rfl⟩
       replace hO := hO.mv hM29; replace hX := hX.mv hM29
       refine za rfl <| cnil ?_
       refine WC.ret1 rfl rfl ?_
       exact ⟨hO.below, rfl⟩
end Go.Proofs.Ythlfolpcmcejkaa

namespace Silo
open Go Go.Eng
/-- The ends of the first frames. -/
def enL (l : List Rec) (i : Nat) : List Int := (List.range i).map fun j => ((EL (l.take (j + 1)) : Nat) : Int)
theorem enL_len (l : List Rec) (i : Nat) : (enL l i).length = i := by simp [enL]
theorem enL_succ (l : List Rec) (i : Nat) : enL l (i + 1) = enL l i ++ [((EL (l.take (i + 1)) : Nat) : Int)] := by simp [enL, List.range_succ]
theorem enL_get {l : List Rec} {i k : Nat} (h : k < (enL l i).length) : (enL l i)[k] = ((EL (l.take (k + 1)) : Nat) : Int) := by simp [enL]
theorem EL_le {l : List Rec} (h : ∀ r ∈ l, mayB r = true) : EL l ≤ 9015 * l.length := by
  induction l with
  | nil => simp [EL]
  | cons r l ih =>
    have := ih fun x hx => h x (by simp [hx])
    have h2 := bytes_len (h r (by simp))
    rw [EL_cons, flen, List.length_cons]; omega
theorem catF_take_succ {l : List Rec} {i : Nat} (hi : i < l.length) : catF (l.take (i + 1)) 7 = catF (l.take i) 7 ++ frameS l[i] (7 + (i : Nat)) := by
  rw [List.take_succ_eq_append_getElem hi, catF_app, List.length_take, Nat.min_eq_left (by omega)]
  simp only [catF, List.append_nil]
  rfl
theorem EL_mono {l : List Rec} {a b : Nat} (h : a ≤ b) : EL (l.take a) ≤ EL (l.take b) := by
  have : l.take a = (l.take b).take a := by rw [List.take_take, Nat.min_eq_left h]
  rw [this]
  have e : ∀ (m : List Rec) (k : Nat), EL (m.take k) ≤ EL m := fun m k => by
    have := congrArg EL (List.take_append_drop k m)
    rw [EL, List.map_append, List.sum_append] at this
    rw [← this, EL]; exact Nat.le_add_right _ _
  exact e _ _
theorem flip_ne (b : UInt8) {e : Int} (h0 : 0 ≤ e) (h8 : e < 8) : u8I (((BitVec.ofInt 8 (b.toNat : Int)) ^^^ (BitVec.ofInt 8 (IntKind.u8.wrap (1 * 2 ^ e.toNat)))).toNat : Int) ≠ b := by
  intro h
  have hx : ∀ X : BitVec 8, (u8I (X.toNat : Int)).toNat = X.toNat := fun X => by
    unfold u8I
    have := X.isLt
    have h1 : ((X.toNat : Int) % 256).toNat = X.toNat := by omega
    rw [h1, UInt8.toNat_ofNat']
    omega
  have h1 := congrArg UInt8.toNat h
  rw [hx] at h1
  have hb : (BitVec.ofInt 8 (b.toNat : Int)).toNat = b.toNat := by
    have := b.toNat_lt
    rw [BitVec.toNat_ofInt]; omega
  have h2 : (BitVec.ofInt 8 (b.toNat : Int)) ^^^ (BitVec.ofInt 8 (IntKind.u8.wrap (1 * 2 ^ e.toNat))) = BitVec.ofInt 8 (b.toNat : Int) := BitVec.eq_of_toNat_eq (by rw [h1, hb])
  have h3 : BitVec.ofInt 8 (IntKind.u8.wrap (1 * 2 ^ e.toNat)) = 0 := by
    have := congrArg (fun x => BitVec.ofInt 8 (b.toNat : Int) ^^^ x) h2
    simpa [← BitVec.xor_assoc] using this
  have h4 : e.toNat = 0 ∨ e.toNat = 1 ∨ e.toNat = 2 ∨ e.toNat = 3 ∨ e.toNat = 4 ∨ e.toNat = 5 ∨ e.toNat = 6 ∨ e.toNat = 7 := by omega
  rcases h4 with h4 | h4 | h4 | h4 | h4 | h4 | h4 | h4 <;> rw [h4] at h3 <;> exact absurd h3 (by decide)
end Silo
namespace Go.Proofs.Ythlfolpcmcejkaa
open Go Go.Eng Go.RowKit Silo TryT
/-- Records whose lists are another's. -/
def EachA (c : Nat → Nat) (w : World) (css : List (List Value)) (l : List Rec) : Prop := css.length = l.length ∧ ∀ (k : Nat) cs x, css[k]? = some cs → l[k]? = some x → FtC (fun w' => recS.rd w'.heap.size w' cs x) c w [0]
theorem EachA.mv {c c' : Nat → Nat} {w w' : World} {I : List Nat} {css : List (List Value)} {l : List Rec} (h : EachA c w css l) (m : Mv c w c' w' I) (hi : hasC I 0 = false := by rfl) : EachA c' w' css l := ⟨h.1, fun k cs x h1 h2 => (h.2 k cs x h1 h2).mv m (by simp [apartC, hi])⟩
theorem eachA0 (c : Nat → Nat) (w : World) : EachA c w [] [] := ⟨rfl, fun k cs x h => by simp at h⟩
theorem EachA.snoc {c : Nat → Nat} {w : World} {css : List (List Value)} {l : List Rec} {cs : List Value} {x : Rec} (h : EachA c w css l) (a : FtC (fun w' => recS.rd w'.heap.size w' cs x) c w [0]) : EachA c w (css ++ [cs]) (l ++ [x]) := by
  refine ⟨by simp [h.1], fun k cs' y h1 h2 => ?_⟩
  rcases Nat.lt_trichotomy k css.length with hk | hk | hk
  · rw [List.getElem?_append_left hk] at h1
    rw [List.getElem?_append_left (by rw [← h.1]; exact hk)] at h2
    exact h.2 k cs' y h1 h2
  · subst hk
    rw [List.getElem?_append_right (Nat.le_refl _), Nat.sub_self] at h1
    rw [h.1, List.getElem?_append_right (Nat.le_refl _), Nat.sub_self] at h2
    simp only [List.getElem?_cons_zero, Option.some.injEq] at h1 h2
    subst h1; subst h2
    exact a
  · rw [List.getElem?_eq_none (by simp; omega)] at h1; cases h1
theorem EachA.rdC {c : Nat → Nat} {w : World} {v : Value} {css : List (List Value)} {l : List Rec} (ho : OwnC c w 3 TX 6 v l.length css.flatten) (he : EachA c w css l) (hl : l.length ≤ 140737488355328) : RdC recS c w [0, 3] v l :=
  OwnC.rd (s := recS) ho hl he.1 rfl fun k cs x h1 h2 => (he.2 k cs x h1 h2).more rfl
end Go.Proofs.Ythlfolpcmcejkaa

namespace Go.Proofs.Ythlfolpcmcejkaa
open Go Go.Eng Go.RowKit Silo TryT
theorem rec_list {c : Nat → Nat} {w : World} {J : List Nat} {x : Rec} {y1 y2 y3 y4 vl vs : Value} (h : FtC (fun w' => recS.rd w'.heap.size w' [y1, y2, y3, y4, vl, vs] x) c w J) : RdC intS c w J vl x.list :=
  FtC.imp h fun w' _ ⟨vl', vs', e, h1, _⟩ => by
    simp only [List.cons.injEq] at e
    rw [e.2.2.2.2.1]; exact h1

theorem _root_.Go.Eng.OwnC.rdB {c : Nat → Nat} {w : World} {i : Nat} {e : TypeId} {v : Value} {n : Nat} {l : List UInt8} (h : OwnC c w i e 1 v n (bytesV l)) (hl : l.length ≤ 140737488355328) : RdC byteS c w [i] v l := fun w' hs hk =>
  (h.foot w' hs hk).rdBytes hl
set_option maxHeartbeats 2000000 in
theorem recordCuts_ok {w : World} {vR vS vN : Value} {R : List Rec} {S : List (List UInt8)} {N : List Int} (h0 : Rd recS w vR R) (h2 : Rd strS w vS S) (h3 : Rd intS w vN N) :
    Calls Try.prog 13 #[.agg #[vR, vS, vN]] w (Ret fun v w' => Below w.heap.size w w' ∧ v = .bool true) := by
  have o1 := h0.oneC
  have o2 := h2.oneC
  have o3 := h3.oneC
  have hsm := h0.small
  have x1 := h0.cellsV; have x2 := h2.cellsV; have x3 := h3.cellsV
  obtain ⟨c, hO, hc⟩ := OldC.start w
  have h1 : RdC recS c w [0] vR R := Rd.toC h0 (fun k hk => by simp [hc, hasC])
  clear hc
  refine enter (n := 217) (res := #[.tmp 2]) Try.func13 rfl rfl rfl rfl ?_
  refine cseq <| cg ?_
  refine ve (Eff.boxC c 101 rfl) ?_
  rintro _ w1 ⟨b1, c1, rfl, hM1, hb1⟩
  replace hO := hO.mv hM1; replace h1 := h1.mv hM1
  refine za rfl <| cnil <| cseq <| cseq ?_
  have hM1b : Below w.heap.size w w1 := hO.below
  refine cg <| vq (Val.loadBN agg26 rfl hb1.blk rfl) ?_
  refine ve (Eff.pureC c1 1 (Eff.call pf14 rfl (heavy_ok (h0.up hM1b) (h2.up hM1b) (h3.up hM1b)))) ?_
  rintro v23 w2 ⟨c2, hM2, hx2, rfl⟩
  replace hO := hO.mv hM2; replace h1 := h1.mv hM2; replace hb1 := hb1.mv hM2
  refine cnil ?_
  refine WC.cond rfl (fun hc1 => ?_) (fun hc1 => ?_)
  ·try simp only [tstS] at hc1
   refine cseq <| cg <| za rfl <| cnil ?_
   refine WC.ret1 rfl rfl ?_
   exact ⟨hO.below, rfl⟩
  ·try simp only [tstS] at hc1
   refine cskip <| cseq <| cg <| za rfl <| cnil <| cseq <| cseq <| cg <| za rfl ?_
   refine cnil <| cblock ?_
   clear h0 h2 h3
   refine WC.loop (σ := Nat × Value) (fun st => [(1, .pointer (some ⟨b1, 0, none⟩)), (3, st.2), (4, I st.1)]) (fun st w' => ∃ c' css l, OldC w c' w' ∧ RdC recS c' w' [0] vR R ∧ BlkC c' w' 101 b1 [vR, vS, vN] 26 ∧ OwnC c' w' 3 TX 6 st.2 l.length css.flatten ∧ EachA c' w' css l ∧ (∀ r ∈ l, mayB r = true) ∧ l.length ≤ st.1 ∧ st.1 ≤ R.length ∧ st.1 ≤ 4) (fun st => R.length - st.1) (0, .slice none 0 0) subs ⟨_, [], [], hO, h1, hb1, OwnC.nil _ _ _ _ _, eachA0 _ _, by simp, by simp, by simp, by simp⟩ ?_
   clear hO h1 hb1
   rintro ⟨i, vt⟩ wl ⟨cl, css, l, hO, h1, hb1, hoL, hE, hml, hll, hi, hi4⟩
   dsimp only at hoL hE hml hll hi hi4 ⊢
   have o4 := hoL.oneC; have x4 := hoL.cellsV
   refine cseq <| cseq <| cg <| zm rfl <| vq (Val.fieldAddr fld26_0 rfl) <| vq (Val.loadB scl22 rfl hb1.blk rfl) ?_
   first | refine vq (Val.rdlen sl22 (by assumption) rfl) ?_ | refine vq (Val.sllen Try.underlying22 rfl) ?_ | refine vq (Val.olen sl22 (by assumption) rfl) ?_ | refine vq (Val.rdlenC sl22 (by assumption) rfl) ?_
   refine vq (Val.lss rfl rfl) <| zm rfl ?_
   apply WR.sc true 2 _ (fun w' => wl = w')
   case hl | hg | hu | hv | hs | hoff | hd => rfl
   case hF => exact fun _ => rfl
   case hT =>
    intro hq8
    try simp only [tstS] at hq8
    simp only [List.take_succ_cons, List.take_zero]
    refine WR.on rfl rfl ?_
    refine zm rfl ?_
    refine WR.on rfl rfl ?_
    refine vq (Val.lss rfl rfl) ?_
    exact WR.nil ⟨rfl, Sub.drop _ 2 _ rfl rfl, rfl⟩
   rintro _ rfl
   refine cnil ?_
   refine WC.cond rfl (fun hc5 => ?_) (fun hc5 => ?_)
   ·try simp only [tstS] at hc5
    obtain ⟨hi1, hi2⟩ := hc5
    have ka : i < R.length := by omega
    obtain ⟨cs1, hc38, _, hrd⟩ := RdC.el h1 ka (by decide)
    obtain ⟨vl1, vs1, rfl, hq1, hq2, _⟩ := id hrd.now
    have z1 := hq1.oneC; have z2 := hq2.oneC
    have hq := rec_list hrd
    have hc45 := hc38; have hc55 := hc38
    refine cskip <| cseq <| cblock <| cseq <| cg <| vq (Val.fieldAddr fld26_0 rfl) <| vq (Val.loadB scl22 rfl hb1.blk rfl) <| zm rfl ?_
    first | refine vq (Val.indexAddr sl22 (by assumption) rfl rfl rfl side side) ?_ | refine vq (Val.indexC sl22 (by assumption) rfl rfl side side) ?_ | refine vq (Val.indexO sl22 (by assumption) rfl rfl side side) ?_
    refine vq (Val.loadE agg31 rfl hc38.cel rfl) ?_
    refine ve (Eff.pureC cl 1 (Eff.call pf17 rfl (record_ok hrd.now))) ?_
    rintro v40 w3 ⟨c3, hM3, hx3, rfl⟩
    replace hO := hO.mv hM3; replace h1 := h1.mv hM3; replace hb1 := hb1.mv hM3; replace hoL := hoL.mv hM3; replace hE := hE.mv hM3; replace hc38 := hc38.mv hM3; replace hc45 := hc45.mv hM3; replace hc55 := hc55.mv hM3; replace hrd := hrd.mv hM3; replace hq := hq.mv hM3
    refine zm rfl ?_
    apply WR.sc true 8 _ (fun w' => w3 = w')
    case hl | hg | hu | hv | hs | hoff | hd => rfl
    case hF => exact fun _ => rfl
    case hT =>
     intro hq15
     try simp only [tstS] at hq15
     simp only [List.take_succ_cons, List.take_zero]
     refine WR.on rfl rfl ?_
     refine vq (Val.fieldAddr fld26_0 rfl) ?_
     refine WR.on rfl rfl ?_
     refine vq (Val.loadB scl22 rfl hb1.blk rfl) ?_
     refine WR.on rfl rfl ?_
     refine zm rfl ?_
     refine WR.on rfl rfl ?_
     first | refine vq (Val.indexAddr sl22 (by assumption) rfl rfl rfl side side) ?_ | refine vq (Val.indexC sl22 (by assumption) rfl rfl side side) ?_ | refine vq (Val.indexO sl22 (by assumption) rfl rfl side side) ?_
     refine WR.on rfl rfl ?_
     refine vq (Val.fieldAddrP fld31_4 rfl) ?_
     refine WR.on rfl rfl ?_
     refine vq (Val.loadEf scl24 rfl hc45.cel rfl) ?_
     refine WR.on rfl rfl ?_
     first | refine vq (Val.rdlen sl24 (by assumption) rfl) ?_ | refine vq (Val.sllen Try.underlying24 rfl) ?_ | refine vq (Val.olen sl24 (by assumption) rfl) ?_ | refine vq (Val.rdlenC sl24 (by assumption) rfl) ?_
     refine WR.on rfl rfl ?_
     refine vq (Val.lss rfl rfl) ?_
     exact WR.nil ⟨rfl, Sub.drop _ 8 _ rfl rfl, rfl⟩
    rintro _ rfl
    refine cnil ?_
    refine WC.cond rfl (fun hc7 => ?_) (fun hc7 => ?_)
    ·try simp only [tstS] at hc7
     refine cg <| zm rfl <| vq (Val.fieldAddr fld26_0 rfl) <| vq (Val.loadB scl22 rfl hb1.blk rfl) <| zm rfl ?_
     first | refine vq (Val.indexAddr sl22 (by assumption) rfl rfl rfl side side) ?_ | refine vq (Val.indexC sl22 (by assumption) rfl rfl side side) ?_ | refine vq (Val.indexO sl22 (by assumption) rfl rfl side side) ?_
     refine vq (Val.loadE agg31 rfl hc55.cel rfl) ?_
     refine ve (Eff.build1C c3 157 sl22 rfl rfl rfl rfl rfl) ?_
     rintro _ w4 ⟨b57, c4, rfl, hM4, hb57⟩
     replace hO := hO.mv hM4; replace h1 := h1.mv hM4; replace hb1 := hb1.mv hM4; replace hoL := hoL.mv hM4; replace hE := hE.mv hM4; replace hc38 := hc38.mv hM4; replace hc45 := hc45.mv hM4; replace hc55 := hc55.mv hM4; replace hrd := hrd.mv hM4; replace hq := hq.mv hM4
     refine ve (Eff.appendC sl22 rfl rfl hoL (Src.cellsAt Try.underlying22 hb57.blk.cellsAt rfl ones) mxl oms) ?_
     rintro v58 w5 ⟨c5, hM5, hOq⟩
     clear hb57
     replace hO := hO.mv hM5; replace h1 := h1.mv hM5; replace hb1 := hb1.mv hM5; replace hE := hE.mv hM5; replace hc38 := hc38.mv hM5; replace hc45 := hc45.mv hM5; replace hc55 := hc55.mv hM5; replace hrd := hrd.mv hM5; replace hq := hq.mv hM5
     replace hoL := hOq
     refine za rfl <| cnil <| cg <| zm rfl <| vq (Val.addI rfl rfl side side) <| za rfl <| cnil ?_
     first
     | exact ⟨(i + 1, _), subs, ⟨_, css ++ [[I R[i].kind, I R[i].id, St R[i].name, St R[i].digest, vl1, vs1]], l ++ [R[i]], hO, h1, hb1, by simpa using hoL, hE.snoc hrd, fun r hr => (List.mem_append.1 hr).elim (hml r) (fun h => by simp only [List.mem_singleton] at h; subst h; exact hc7.1), by simp; omega, by dsimp only; omega, by dsimp only; omega⟩, by dsimp only; omega⟩
     | exact ⟨(i + 1, vt), subs, ⟨_, css, l, hO, h1, hb1, hoL, hE, hml, by dsimp only; omega, by dsimp only; omega, by dsimp only; omega⟩, by dsimp only; omega⟩
    ·try simp only [tstS] at hc7
     refine cskip <| cg <| zm rfl <| vq (Val.addI rfl rfl side side) <| za rfl <| cnil ?_
     first
     | exact ⟨(i + 1, _), subs, ⟨_, css ++ [[I R[i].kind, I R[i].id, St R[i].name, St R[i].digest, vl1, vs1]], l ++ [R[i]], hO, h1, hb1, by simpa using hoL, hE.snoc hrd, fun r hr => (List.mem_append.1 hr).elim (hml r) (fun h => by simp only [List.mem_singleton] at h; subst h; exact hc7.1), by simp; omega, by dsimp only; omega, by dsimp only; omega⟩, by dsimp only; omega⟩
     | exact ⟨(i + 1, vt), subs, ⟨_, css, l, hO, h1, hb1, hoL, hE, hml, by dsimp only; omega, by dsimp only; omega, by dsimp only; omega⟩, by dsimp only; omega⟩
   ·try simp only [tstS] at hc5
    have hl4 : l.length ≤ 4 := by omega
    have hL : RdC recS cl wl [0, 3] vt l := hE.rdC hoL (by omega)
    obtain ⟨A, cp, hvt, hcp, _⟩ := hL.now.form
    have hel := EL_le hml
    refine WC.exit rfl ?_
    refine cseq <| cg <| za rfl <| cnil <| cseq <| cg <| za rfl <| cnil <| cseq ?_
    refine cseq <| cg <| za rfl <| cnil <| cblock ?_
    refine WC.loop (σ := Nat × Value) (fun st => [(3, vt), (5, St (catF (l.take st.1) 7)), (6, st.2), (7, I st.1)]) (fun st w' => ∃ c', OldC w c' w' ∧ RdC recS c' w' [0, 3] vt l ∧ OwnC c' w' 4 TI 1 st.2 st.1 ((enL l st.1).flatMap fun x => [I x]) ∧ st.1 ≤ l.length) (fun st => l.length - st.1) (0, .slice none 0 0) subs ⟨_, hO, hL, OwnC.nil _ _ _ _ _, by simp⟩ ?_
    clear hO h1 hb1 hoL hE hL
    rintro ⟨i2, vE⟩ wj ⟨cj, hO, hL, hoE, hi2⟩
    dsimp only at hoE hi2 ⊢
    have o5 := hoE.oneC; have x5 := hoE.cellsV
    refine cseq <| cseq <| cg <| zm rfl <| zm rfl ?_
    first | refine vq (Val.rdlen sl22 (by assumption) rfl) ?_ | refine vq (Val.sllen Try.underlying22 rfl) ?_ | refine vq (Val.olen sl22 (by assumption) rfl) ?_ | refine vq (Val.rdlenC sl22 (by assumption) rfl) ?_
    refine vq (Val.lss rfl rfl) <| cnil ?_
    refine WC.cond rfl (fun hc12 => ?_) (fun hc12 => ?_)
    ·try simp only [tstS] at hc12
     have kb : i2 < l.length := by omega
     obtain ⟨cs2, hc68, _, hrd⟩ := RdC.el hL kb (by decide)
     obtain ⟨vl2, vs2, rfl, _⟩ := id hrd.now
     have hmk := hml _ (List.getElem_mem kb)
     have hmn : (mayB l[i2] && numB (7 + (i2 : Nat))) = true := by rw [hmk, Bool.true_and, numB, Bool.and_eq_true, decide_eq_true_eq, decide_eq_true_eq]; omega
     have hfs := frameS_small hmk (7 + (i2 : Nat))
     have hcl := catF_len (l.take i2) 7
     have hem : EL (l.take i2) ≤ EL l := by have := EL_mono (l := l) (a := i2) (b := l.length) (by omega); rwa [List.take_length] at this
     refine cskip <| cseq <| cblock <| cseq <| cg <| zm rfl <| zm rfl ?_
     first | refine vq (Val.indexAddr sl22 (by assumption) rfl rfl rfl side side) ?_ | refine vq (Val.indexC sl22 (by assumption) rfl rfl side side) ?_ | refine vq (Val.indexO sl22 (by assumption) rfl rfl side side) ?_
     refine vq (Val.loadE agg31 rfl hc68.cel rfl) <| zm rfl <| vq (Val.addI rfl rfl side side) ?_
     refine ve (Eff.pureC cj 1 (Eff.call pf29 rfl (rframe_ok (n := 7 + (i2 : Nat)) hrd.now))) ?_
     rintro v72 w6 ⟨c6, hM6, hx6, rfl⟩
     replace hO := hO.mv hM6; replace hL := hL.mv hM6; replace hoE := hoE.mv hM6; replace hc68 := hc68.mv hM6; replace hrd := hrd.mv hM6
     rw [if_pos hmn, if_pos hmn]
     refine zm rfl <| vq (Val.extract rfl rfl) <| vq (Val.extract rfl rfl) <| za rfl <| za rfl <| cnil <| cseq <| cseq <| cg ?_
     refine zm rfl ?_
     refine ve (Eff.pureC c6 1 (Eff.call pf20 rfl (errnum_ok _))) ?_
     rintro v76 w7 ⟨c7, hM7, hx7, rfl⟩
     replace hO := hO.mv hM7; replace hL := hL.mv hM7; replace hoE := hoE.mv hM7; replace hc68 := hc68.mv hM7; replace hrd := hrd.mv hM7
     refine vq (Val.neq rfl rfl) <| cnil ?_
     refine WC.cond rfl (fun hc15 => ?_) (fun hc15 => ?_)
     ·exfalso; simp at hc15
     ·try simp only [tstS] at hc15
      refine cskip <| cseq <| cg <| zm rfl <| zm rfl <| vq (Val.sadd rfl rfl side) <| za rfl <| cnil ?_
      rw [← catF_take_succ kb]
      refine cg <| zm rfl <| zm rfl <| vq (Val.slen Try.underlying9 rfl) ?_
      refine ve (Eff.build1C c7 184 sl24 rfl rfl rfl rfl rfl) ?_
      rintro _ w8 ⟨b84, c8, rfl, hM8, hb84⟩
      replace hO := hO.mv hM8; replace hL := hL.mv hM8; replace hoE := hoE.mv hM8; replace hc68 := hc68.mv hM8; replace hrd := hrd.mv hM8
      refine ve (Eff.appendC sl24 rfl rfl hoE (Src.cellsAt Try.underlying24 hb84.blk.cellsAt rfl ones) mxl oms) ?_
      rintro v85 w9 ⟨c9, hM9, hOq⟩
      clear hb84
      replace hO := hO.mv hM9; replace hL := hL.mv hM9; replace hc68 := hc68.mv hM9; replace hrd := hrd.mv hM9
      replace hoE := hOq
      rw [catF_len] at hoE
      refine za rfl <| cnil <| cg <| zm rfl <| vq (Val.addI rfl rfl side side) <| za rfl <| cnil ?_
      exact ⟨(i2 + 1, _), subs, ⟨_, hO, hL, by dsimp only; rw [enL_succ, List.flatMap_append]; exact hoE, by dsimp only; omega⟩, by dsimp only; omega⟩
    ·try simp only [tstS] at hc12
     have hie : i2 = l.length := by omega
     subst hie
     rw [List.take_length]
     have hX : RdC intS cj wj [4] vE (enL l l.length) := OwnC.rdFlat (by rw [enL_len]; exact hoE) (by rw [enL_len]; omega) fun x hx => by
       obtain ⟨j, hj, rfl⟩ := List.mem_iff_getElem.1 hx
       rw [enL_get]
       have hem : EL (l.take (j + 1)) ≤ EL l := by have := EL_mono (l := l) (a := j + 1) (b := l.length) (by rw [enL_len] at hj; omega); rwa [List.take_length] at this
       exact ⟨by omega, by omega⟩
     have henl := enL_len l l.length
     obtain ⟨s, hs⟩ : ∃ s, s = catF l 7 := ⟨_, rfl⟩
     have hsl : s.length = EL l := by rw [hs, catF_len]
     rw [← hs]
     refine WC.exit rfl ?_
     refine cseq <| cseq <| cg <| za rfl <| cnil <| cblock ?_
     refine WC.loop (σ := Nat) (fun n => [(3, vt), (5, St s), (6, vE), (10, I n)]) (fun n w' => ∃ c', OldC w c' w' ∧ RdC recS c' w' [0, 3] vt l ∧ RdC intS c' w' [4] vE (enL l l.length) ∧ n ≤ s.length + 1) (fun n => s.length + 1 - n) 0 subs ⟨_, hO, hL, hX, by omega⟩ ?_
     clear hO hL hX hoE
     rintro n wn ⟨cn, hO, hL, hX, hn⟩
     refine cseq <| cseq <| cg <| zm rfl <| zm rfl <| vq (Val.slen Try.underlying9 rfl) <| vq (Val.leq rfl rfl) <| cnil ?_
     refine WC.cond rfl (fun hc20 => ?_) (fun hc20 => ?_)
     ·try simp only [tstS] at hc20
      have hns : n ≤ s.length := by omega
      refine cskip <| cseq <| cblock <| cseq <| cg <| za rfl <| cnil <| cseq <| cblock ?_
      refine WC.loop (σ := Nat) (fun v => [(3, vt), (5, St s), (6, vE), (10, I n), (11, I v)]) (fun v w' => ∃ c', OldC w c' w' ∧ RdC recS c' w' [0, 3] vt l ∧ RdC intS c' w' [4] vE (enL l l.length) ∧ v ≤ l.length ∧ EL (l.take v) ≤ n) (fun v => l.length - v) 0 subs ⟨_, hO, hL, hX, by omega, by simp [EL]⟩ ?_
      clear hO hL hX
      rintro v wv ⟨cv, hO, hL, hX, hv, hvn⟩
      refine cseq <| cseq <| cg <| zm rfl <| zm rfl ?_
      first | refine vq (Val.rdlen sl24 (by assumption) rfl) ?_ | refine vq (Val.sllen Try.underlying24 rfl) ?_ | refine vq (Val.olen sl24 (by assumption) rfl) ?_ | refine vq (Val.rdlenC sl24 (by assumption) rfl) ?_
      refine vq (Val.lss rfl rfl) <| zm rfl ?_
      apply WR.sc true 6 _ (fun w' => wv = w')
      case hl | hg | hu | hv | hs | hoff | hd => rfl
      case hF => exact fun _ => rfl
      case hT =>
       intro hq11
       try simp only [tstS] at hq11
       simp only [List.take_succ_cons, List.take_zero]
       have kv : v < (enL l l.length).length := by omega
       obtain ⟨hc99, _⟩ := RdC.elFlat hX kv (by decide)
       rw [enL_get] at hc99
       refine WR.on rfl rfl ?_
       refine zm rfl ?_
       refine WR.on rfl rfl ?_
       refine zm rfl ?_
       refine WR.on rfl rfl ?_
       first | refine vq (Val.indexAddr sl24 (by assumption) rfl rfl rfl side side) ?_ | refine vq (Val.indexC sl24 (by assumption) rfl rfl side side) ?_ | refine vq (Val.indexO sl24 (by assumption) rfl rfl side side) ?_
       refine WR.on rfl rfl ?_
       refine vq (Val.loadE1 scl3 rfl hc99.cel) ?_
       refine WR.on rfl rfl ?_
       refine zm rfl ?_
       refine WR.on rfl rfl ?_
       refine vq (Val.leq rfl rfl) ?_
       exact WR.nil ⟨rfl, Sub.drop _ 6 _ rfl rfl, rfl⟩
      rintro _ rfl
      refine cnil ?_
      refine WC.cond rfl (fun hc23 => ?_) (fun hc23 => ?_)
      ·try simp only [tstS] at hc23
       obtain ⟨hc6a, hc6b⟩ := hc23
       refine cskip <| cblock <| cg <| zm rfl <| vq (Val.addI rfl rfl side side) <| za rfl <| cnil ?_
       exact ⟨v + 1, subs, ⟨_, hO, hL, hX, by omega, by omega⟩, by omega⟩
      ·try simp only [tstS] at hc23
       have hwe : v = l.length ∨ n < EL (l.take (v + 1)) := by
         simp at hc23
         omega
       have hfc := frames_cut hml (by omega) hv hvn hwe
       rw [← hs] at hfc
       refine WC.exit rfl ?_
       refine cseq <| cg <| zm rfl <| zm rfl <| vq (Val.ssliceTo Try.underlying9 rfl rfl (by omega) (by omega)) ?_
       rw [Int.toNat_natCast]
       refine ve (Eff.call pf32 rfl (frames_c (c := cv) (s := s.take n) (by rw [List.length_take]; omega))) ?_
       rintro v110 w10 ⟨c10, hM10, ⟨vl, css, rfl, hoL, hE⟩⟩
       replace hO := hO.mv hM10; replace hL := hL.mv hM10; replace hX := hX.mv hM10
       rw [hfc] at hoL hE ⊢
       dsimp only at hoL hE ⊢
       refine zm rfl <| vq (Val.extract rfl rfl) <| vq (Val.extract rfl rfl) <| vq (Val.extract rfl rfl) <| za rfl <| za rfl <| za rfl <| cnil <| cseq ?_
       subst hvt
       refine cg <| zm rfl <| zm rfl <| zm rfl <| vq (Val.partTo sl22 rfl rfl (by omega) (by omega)) ?_
       rw [Int.toNat_natCast]
       refine ve (Eff.pureC c10 1 (Eff.call pf34 rfl (eqRecords_ok (EachO.rdC hoL hE (by rw [List.length_take]; omega)).now (hL.now.to_ hv)))) ?_
       rintro v118 w11 ⟨c11, hM11, hx11, rfl⟩
       replace hO := hO.mv hM11; replace hL := hL.mv hM11; replace hX := hX.mv hM11; replace hoL := hoL.mv hM11; replace hE := hE.mv hM11
       rw [decide_eq_true rfl]
       refine vq (Val.not rfl) <| zm rfl ?_
       apply WR.sc false 15 _ (fun w' => w11 = w')
       case hl | hg | hu | hv | hs | hoff | hd => rfl
       case hF => exact fun _ => rfl
       case hT =>
        intro hq22
        try simp only [tstS] at hq22
        simp only [List.take_succ_cons, List.take_zero]
        refine WR.on rfl rfl ?_
        refine zm rfl ?_
        refine WR.on rfl rfl ?_
        refine vq (Val.gtr rfl rfl) ?_
        refine WR.on rfl rfl ?_
        refine zm rfl ?_
        apply WR.sc true 11 _ (fun w' => w11 = w')
        case hl | hg | hu | hv | hs | hoff | hd => rfl
        case hF => exact fun _ => rfl
        case hT =>
         intro hq21
         try simp only [tstS] at hq21
         simp only [List.take_succ_cons, List.take_zero]
         refine WR.on rfl rfl ?_
         refine zm rfl ?_
         refine WR.on rfl rfl ?_
         refine vq (Val.neq rfl rfl) ?_
         refine WR.on rfl rfl ?_
         refine zm rfl ?_
         apply WR.sc false 7 _ (fun w' => w11 = w')
         case hl | hg | hu | hv | hs | hoff | hd => rfl
         case hF => exact fun _ => rfl
         case hT =>
          intro hq20
          try simp only [tstS] at hq20
          simp only [List.take_succ_cons, List.take_zero]
          have hv0 : 0 < v := by omega
          have kv : v - 1 < (enL l l.length).length := by omega
          obtain ⟨hc131, _⟩ := RdC.elFlat hX kv (by decide)
          rw [enL_get] at hc131
          refine WR.on rfl rfl ?_
          refine zm rfl ?_
          refine WR.on rfl rfl ?_
          refine zm rfl ?_
          refine WR.on rfl rfl ?_
          refine zm rfl ?_
          refine WR.on rfl rfl ?_
          refine vq (Val.subI rfl rfl side side) ?_
          refine WR.on rfl rfl ?_
          refine vq (Val.indexAddr sl24 hX.now rfl rfl rfl (by omega) (by omega)) ?_
          rw [show ((v : Int) - 1).toNat = v - 1 by omega]
          refine WR.on rfl rfl ?_
          refine vq (Val.loadE1 scl3 rfl hc131.cel) ?_
          refine WR.on rfl rfl ?_
          refine vq (Val.neq rfl rfl) ?_
          exact WR.nil ⟨rfl, Sub.drop _ 7 _ rfl rfl, rfl⟩
         rintro _ rfl
         exact WR.nil ⟨rfl, Sub.drop _ 4 _ rfl rfl, rfl⟩
        rintro _ rfl
        exact WR.nil ⟨rfl, Sub.drop _ 4 _ rfl rfl, rfl⟩
       rintro _ rfl
       refine zm rfl ?_
       apply WR.sc false 10 _ (fun w' => w11 = w')
       case hl | hg | hu | hv | hs | hoff | hd => rfl
       case hF => exact fun _ => rfl
       case hT =>
        intro hq34
        try simp only [tstS] at hq34
        simp only [List.take_succ_cons, List.take_zero]
        refine WR.on rfl rfl ?_
        refine zm rfl ?_
        refine WR.on rfl rfl ?_
        refine vq (Val.eql rfl rfl) ?_
        refine WR.on rfl rfl ?_
        refine zm rfl ?_
        apply WR.sc true 6 _ (fun w' => w11 = w')
        case hl | hg | hu | hv | hs | hoff | hd => rfl
        case hF => exact fun _ => rfl
        case hT =>
         intro hq33
         try simp only [tstS] at hq33
         simp only [List.take_succ_cons, List.take_zero]
         refine WR.on rfl rfl ?_
         refine zm rfl ?_
         refine WR.on rfl rfl ?_
         refine vq (Val.neq rfl rfl) ?_
         refine WR.on rfl rfl ?_
         refine zm rfl ?_
         apply WR.sc false 2 _ (fun w' => w11 = w')
         case hl | hg | hu | hv | hs | hoff | hd => rfl
         case hF => exact fun _ => rfl
         case hT =>
          intro hq32
          try simp only [tstS] at hq32
          simp only [List.take_succ_cons, List.take_zero]
          refine WR.on rfl rfl ?_
          refine zm rfl ?_
          refine WR.on rfl rfl ?_
          refine vq (Val.neq rfl rfl) ?_
          exact WR.nil ⟨rfl, Sub.drop _ 2 _ rfl rfl, rfl⟩
         rintro _ rfl
         exact WR.nil ⟨rfl, Sub.drop _ 4 _ rfl rfl, rfl⟩
        rintro _ rfl
        exact WR.nil ⟨rfl, Sub.drop _ 4 _ rfl rfl, rfl⟩
       rintro _ rfl
       refine cnil ?_
       refine WC.cond rfl (fun hc26 => ?_) (fun hc26 => ?_)
       ·exfalso
        rcases Nat.eq_zero_or_pos v with h0 | h0
        · subst h0; simp [EL] at hc26
        · rw [show v - 1 + 1 = v by omega, if_neg (show ¬ v = 0 by omega)] at hc26
          simp [show ¬ v = 0 by omega] at hc26
       ·try simp only [tstS] at hc26
        refine cskip <| cg <| zm rfl <| vq (Val.addI rfl rfl side side) <| za rfl <| cnil ?_
        exact ⟨n + 1, subs, ⟨_, hO, hL, hX, by omega⟩, by omega⟩
     ·try simp only [tstS] at hc20
      clear hn
      have hsb : s.length ≤ 36060 := by omega
      refine WC.exit rfl ?_
      refine cseq <| cseq <| cg <| za rfl <| cnil <| cblock ?_
      refine WC.loop (σ := Nat) (fun k => [(3, vt), (5, St s), (6, vE), (15, I k)]) (fun k w' => ∃ c', OldC w c' w' ∧ RdC recS c' w' [0, 3] vt l ∧ RdC intS c' w' [4] vE (enL l l.length) ∧ k ≤ 9 * s.length + 1) (fun k => 9 * s.length + 2 - k) 0 subs ⟨_, hO, hL, hX, by omega⟩ ?_
      clear hO hL hX
      rintro k wk ⟨ck, hO, hL, hX, hk⟩
      refine cseq <| cseq <| cg <| zm rfl <| zm rfl <| vq (Val.slen Try.underlying9 rfl) <| vq (Val.mulI rfl rfl side side) <| vq (Val.lss rfl rfl) <| cnil ?_
      refine WC.cond rfl (fun hc29 => ?_) (fun hc29 => ?_)
      ·try simp only [tstS] at hc29
       have hks : k / 8 < s.length := by omega
       refine cskip <| cseq <| cblock <| cseq <| cg <| za rfl <| za rfl <| cnil <| cseq ?_
       refine cblock ?_
       refine WC.loop (σ := Nat) (fun v => [(3, vt), (5, St s), (6, vE), (15, I k), (16, I (EL (l.take v))), (17, I v)]) (fun v w' => ∃ c', OldC w c' w' ∧ RdC recS c' w' [0, 3] vt l ∧ RdC intS c' w' [4] vE (enL l l.length) ∧ v ≤ l.length ∧ EL (l.take v) ≤ k / 8) (fun v => l.length - v) 0 subs ⟨_, hO, hL, hX, by omega, by simp [EL]⟩ ?_
       clear hO hL hX
       rintro v wv ⟨cv, hO, hL, hX, hv, hvn⟩
       refine cseq <| cseq <| cg <| zm rfl <| zm rfl ?_
       first | refine vq (Val.rdlen sl24 (by assumption) rfl) ?_ | refine vq (Val.sllen Try.underlying24 rfl) ?_ | refine vq (Val.olen sl24 (by assumption) rfl) ?_ | refine vq (Val.rdlenC sl24 (by assumption) rfl) ?_
       refine vq (Val.lss rfl rfl) <| zm rfl ?_
       apply WR.sc true 7 _ (fun w' => wv = w')
       case hl | hg | hu | hv | hs | hoff | hd => rfl
       case hF => exact fun _ => rfl
       case hT =>
        intro hq12
        try simp only [tstS] at hq12
        simp only [List.take_succ_cons, List.take_zero]
        have kv : v < (enL l l.length).length := by omega
        obtain ⟨hc167, _⟩ := RdC.elFlat hX kv (by decide)
        rw [enL_get] at hc167
        refine WR.on rfl rfl ?_
        refine zm rfl ?_
        refine WR.on rfl rfl ?_
        refine zm rfl ?_
        refine WR.on rfl rfl ?_
        first | refine vq (Val.indexAddr sl24 (by assumption) rfl rfl rfl side side) ?_ | refine vq (Val.indexC sl24 (by assumption) rfl rfl side side) ?_ | refine vq (Val.indexO sl24 (by assumption) rfl rfl side side) ?_
        refine WR.on rfl rfl ?_
        refine vq (Val.loadE1 scl3 rfl hc167.cel) ?_
        refine WR.on rfl rfl ?_
        refine zm rfl ?_
        refine WR.on rfl rfl ?_
        refine vq (Val.quoI rfl rfl side side side) ?_
        refine WR.on rfl rfl ?_
        refine vq (Val.leq rfl rfl) ?_
        exact WR.nil ⟨rfl, Sub.drop _ 7 _ rfl rfl, rfl⟩
       rintro _ rfl
       refine cnil ?_
       refine WC.cond rfl (fun hc32 => ?_) (fun hc32 => ?_)
       ·try simp only [tstS] at hc32
        obtain ⟨hc9a, hc9b⟩ := hc32
        have kv : v < (enL l l.length).length := by omega
        obtain ⟨hc175, _⟩ := RdC.elFlat hX kv (by decide)
        rw [enL_get] at hc175
        refine cskip <| cblock <| cseq <| cg <| zm rfl <| zm rfl ?_
        first | refine vq (Val.indexAddr sl24 (by assumption) rfl rfl rfl side side) ?_ | refine vq (Val.indexC sl24 (by assumption) rfl rfl side side) ?_ | refine vq (Val.indexO sl24 (by assumption) rfl rfl side side) ?_
        refine vq (Val.loadE1 scl3 rfl hc175.cel) <| za rfl <| cnil <| cg <| zm rfl <| vq (Val.addI rfl rfl side side) <| za rfl <| cnil ?_
        exact ⟨v + 1, subs, ⟨_, hO, hL, hX, by omega, by omega⟩, by omega⟩
       ·try simp only [tstS] at hc32
        have hwe : v = l.length ∨ k / 8 < EL (l.take (v + 1)) := by
          simp at hc32
          omega
        refine WC.exit rfl ?_
        refine cseq <| cseq <| cg <| zm rfl <| vq (Val.quoI rfl rfl side side side) <| zm rfl <| vq (Val.subI rfl rfl side side) <| vq (Val.lss rfl rfl) <| cnil ?_
        refine WC.cond rfl (fun hc35 => ?_) (fun hc35 => ?_)
        ·try simp only [tstS] at hc35
         refine WC.exit rfl ?_
         refine cg <| zm rfl <| vq (Val.addI rfl rfl side side) <| zm rfl <| vq (Val.slen Try.underlying9 rfl) <| vq (Val.quoI rfl rfl side side side) <| vq (Val.addI rfl rfl side side) <| za rfl <| cnil ?_
         exact ⟨k + 1 + s.length / 40, subs, ⟨_, hO, hL, hX, by omega⟩, by omega⟩
        ·try simp only [tstS] at hc35
         refine cskip <| cseq ?_
         have hkv : v < l.length := by
           rcases hwe with h | h
           · subst h; rw [List.take_length] at hvn; omega
           · rcases Nat.lt_or_ge v l.length with h2 | h2
             · exact h2
             · have : v = l.length := by omega
               subst this; rw [List.take_length] at hvn; omega
         have hkw : k / 8 < EL (l.take (v + 1)) := by omega
         refine cg <| zm rfl ?_
         refine ve (Eff.toBytesC cv 285 Try.underlying9 Try.underlying38 Try.underlying5 rfl mxl) ?_
         rintro v185 w12 ⟨c12, hM12, ho185⟩
         replace hO := hO.mv hM12; replace hL := hL.mv hM12; replace hX := hX.mv hM12
         refine za rfl <| cnil <| cseq ?_
         have hB := ho185.rdB (by omega)
         obtain ⟨hc192, _⟩ := RdC.elFlat (n := 1) (enc := fun b : UInt8 => [Value.int .u8 b.toNat]) (ok := fun _ => True) hB hks (by decide)
         refine WC.regionD (Kp c12 w12 []) [0, 0, 0, 0, 0, 0, 0, 1, 0, 0, 0, 0, 0, 3] [0, 1, 2, 3, 4, 5, 6, 7, 8, 9, 10, 11, 12, 13] mixed (by kernel_rfl) ?_
         have hM13 := Mv.drew c12 w12 []
         have hCw := Mv.drew c12 w12 []
         generalize w12.drew = w13 at hM13 hCw ⊢
         have hc1920 := hc192
         replace hO := hO.mv hM13; replace hL := hL.mv hM13; replace hX := hX.mv hM13; replace ho185 := ho185.mv hM13; replace hc192 := hc192.mv hM13
         refine zdm rfl rfl <| zdm rfl rfl <| vd rfl (fun _ => Val.quoI rfl rfl (by omega) (by omega) (by omega)) <| zdm rfl rfl <| zdm rfl rfl <| vd rfl (fun _ => Val.quoI rfl rfl (by omega) (by omega) (by omega)) ?_
         rw [show ((k : Int) / 8) = ((k / 8 : Nat) : Int) by omega]
         refine vd rfl (fun _ => Val.indexO sl38 ho185 rfl rfl (by omega) (by omega)) ?_
         rw [Int.toNat_natCast]
         refine vc rfl hCw.kp (fun W hW => Val.loadE1 scl5 rfl (hc1920.kp hW rfl).cel) <| zdm rfl rfl <| vd rfl (fun _ => Val.remI rfl rfl side side) <| vd rfl (fun _ => Val.shl rfl rfl (by omega) (by simp [IntKind.bits]; omega)) <| vd rfl (fun _ => Val.xorU8 rfl rfl) <| vd rfl (fun _ => Val.indexO sl38 ho185 rfl rfl (by omega) (by omega)) ?_
         rw [Int.toNat_natCast]
         refine WD.wild rfl rfl rfl (Eff.storeOC scl5 ho185 side rfl rfl ra ra) ?_
         rintro _ w14 ⟨hS, hM14⟩
         replace hO := hO.mv hM14; replace hL := hL.mv hM14; replace hX := hX.mv hM14
         replace ho185 := hS
         rw [bytesV_set] at ho185
         refine WD.nil ?_
         clear hc1920
         clear hCw
         refine cseq ?_
         generalize hnb : u8I _ = nb at ho185
         have hne : nb ≠ s[k / 8] := by rw [← hnb]; exact flip_ne _ (by omega) (by omega)
         have hft : (framesS (s.set (k / 8) nb)).1 = l.take v := by
           subst hs
           exact frames_turned hml (by omega) hkv (by omega) hkw hks hne
         have hsl2 : (s.set (k / 8) nb).length = s.length := List.length_set
         generalize s.set (k / 8) nb = s2 at ho185 hft hsl2
         refine cg <| zm rfl <| vq (Val.ofBytes Try.underlying38 Try.underlying9 Try.underlying5 rfl ho185.own) ?_
         refine ve (Eff.call pf32 rfl (frames_c (c := c12) (s := s2) (by omega))) ?_
         rintro v202 w15 ⟨c15, hM15, ⟨vl, css, rfl, hoL, hE⟩⟩
         replace hO := hO.mv hM15; replace hL := hL.mv hM15; replace hX := hX.mv hM15; replace ho185 := ho185.mv hM15
         rw [hft] at hoL hE
         refine zm rfl <| vq (Val.extract rfl rfl) <| vq (Val.extract rfl rfl) <| vq (Val.extract rfl rfl) <| za rfl <| za rfl <| za rfl <| cnil <| cseq ?_
         subst hvt
         refine cg <| zm rfl <| zm rfl <| zm rfl <| vq (Val.partTo sl22 rfl rfl (by omega) (by omega)) ?_
         rw [Int.toNat_natCast]
         refine ve (Eff.pureC c15 1 (Eff.call pf34 rfl (eqRecords_ok (EachO.rdC hoL hE (by rw [List.length_take]; omega)).now (hL.now.to_ hv)))) ?_
         rintro v210 w16 ⟨c16, hM16, hx16, rfl⟩
         replace hO := hO.mv hM16; replace hL := hL.mv hM16; replace hX := hX.mv hM16; replace ho185 := ho185.mv hM16; replace hoL := hoL.mv hM16; replace hE := hE.mv hM16
         rw [decide_eq_true rfl]
         refine vq (Val.not rfl) <| cnil ?_
         refine WC.cond rfl (fun hc39 => ?_) (fun hc39 => ?_)
         ·exfalso; simp at hc39
         ·try simp only [tstS] at hc39
          refine cskip <| cg <| zm rfl <| vq (Val.addI rfl rfl side side) <| zm rfl <| vq (Val.slen Try.underlying9 rfl) <| vq (Val.quoI rfl rfl side side side) <| vq (Val.addI rfl rfl side side) <| za rfl ?_
          refine cnil ?_
          exact ⟨k + 1 + s.length / 40, subs, ⟨_, hO, hL, hX, by omega⟩, by omega⟩
      ·try simp only [tstS] at hc29
       refine WC.exit rfl ?_
       refine cseq <| cg ?_
       refine ve (Eff.pureC ck 1 (Eff.call pf36 rfl (qNumber_ok [1] (by decide)))) ?_
       rintro v212 w17 ⟨c17, hM17, hx17, rfl⟩
       replace hO := hO.mv hM17; replace hL := hL.mv hM17; replace hX := hX.mv hM17
       refine vq (Val.eql rfl rfl) <| zm rfl ?_
       apply WR.sc true 1 true (fun w' => ∃ c', Acc c17 w17 [] c' w')
       case hl | hg | hu | hv | hs | hoff | hd => rfl
       case hF => exact fun _ => ⟨_, Acc.refl _ _ _⟩
       case hT =>
        intro hq4
        try simp only [tstS] at hq4
        simp only [List.take_succ_cons, List.take_zero]
        have hKsc4 := Acc.refl c17 w17 []
        refine WR.on rfl rfl ?_
        refine ve (Eff.pureC c17 1 (Eff.call pf25 rfl (wakes_ok))) ?_
        rintro v215 w18 ⟨c18, hM18, hx18, rfl⟩
        replace hO := hO.mv hM18; replace hL := hL.mv hM18; replace hX := hX.mv hM18; replace hKsc4 := hKsc4.mv hM18
        exact WR.nil ⟨rfl, Sub.drop _ 1 _ rfl rfl, _, hKsc4⟩
       rintro w19 ⟨c19, ⟨hM19⟩⟩
       replace hO := hO.mv hM19; replace hL := hL.mv hM19; replace hX := hX.mv hM19
       refine za rfl <| cnil ?_
       refine WC.ret1 rfl rfl ?_
       exact ⟨hO.below, rfl⟩
end Go.Proofs.Ythlfolpcmcejkaa

namespace Go.Proofs.Ythlfolpcmcejkaa
open Go Go.Eng Silo TryT Go.ChangeShapes Go.WideShapes Go.ChangeAt Go.RowKit

theorem recordCuts_lifted (os : Os) (started : os.Started) (H : Type) (enc : TypeId × Value → H) :
    ReturnsInHanded {} Try.checked os 13 .any (Rows.recordCutsSpec.pre6 enc Try.prog Try.f13 Rows.recordCutsRow.domain false) (Rows.recordCutsSpec.post enc Try.prog Try.f13 false true false false) := by
  refine returnsInHanded_of_change_sized (C := Try.checked) own started (by kernel_rfl) Try.func13
    (ChangeSpec.witness6 (enc := enc) (C := Try.checked) false ⟨#[], #[.agg #[.slice none 0 0, .slice none 0 0, .slice none 0 0]], []⟩ 8 (by kernel_rfl) (by kernel_rfl) (by kernel_rfl) (by kernel_rfl)) ?_
  intro W base args ds gs before hval0 hW hcnd hsz0 _
  have hval : ∀ (j : Nat) t v, Try.f13.params[j]? = some t → args[j]? = some v → Value.okWide Try.prog W .any base t v := hval0
  have hsz : (DataW.weightsEach Try.prog (Try.f13.params.toList ++ Rows.recordCutsSpec.plain.varTypes Try.prog) (ds ++ gs)).all (· ≤ reachBytes) = true := hsz0
  have hW' := hW
  obtain ⟨p, q, hA0, hV, rfl, hfz, hnd⟩ := hW
  have hA : DataW.TrodAll enc Try.prog W 0 (fun _ => true) true Try.f13.params.toList args.toList ds p := hA0
  rw [Try.params13] at hA hval hsz
  obtain ⟨v0, d0, rfl, rfl, h0⟩ := trodAll_one hA
  obtain ⟨rfl, rfl⟩ := trodVars_none hV
  clear hA0 hval0 hsz0
  simp only [List.append_nil] at hW'
  have hw : ∀ x ∈ DataW.weights Try.prog 26 d0, x ≤ reachBytes := fun x hx => by
    have := List.all_eq_true.1 hsz x (DataW.weights_mem_each (j := 0) rfl rfl x hx)
    simpa using this
  have hlt : ∀ x ∈ p, x.block < W.heap.size := fun x hx => hW'.lt x hx
  obtain ⟨vR, vS, vN, R, S, N, rfl, r0, r1, r2, hnm, hsz⟩ := ask_open (base := 0) (hval 0 26 v0 rfl rfl) h0 hw
  refine (recordCuts_ok r0 r1 r2).mono fun e W' he => ?_
  obtain ⟨v, rfl, hb, rfl⟩ := he
  exact ⟨_, rfl, post_of_below (pa := p) (pv := []) hW' (fun _ _ _ => trodAll_mk1 (shut_bool Try.underlying4 true)) (fun sp hs => trodAll_mk1 (WideElems.Trod_stays laidOut (by kernel_rfl) (of_decide_eq_true (by kernel_rfl)) h0 (fun x hx => hb.same (hlt x hx)) (fun x hx => hs x hx)))
    (fun _ _ => rfl) (by simp) hb (ok_one (by kernel_rfl) rfl (okWide_bool_mk Try.underlying4 true))⟩

theorem recordCuts_holds : Rows.RecordCutsSaid :=
  OpenClaim.holds_of_wide 13 Try.f13 rfl rfl rfl rfl rfl rfl rfl ⟨rfl, rfl, rfl, rfl, rfl⟩ rfl rfl rfl rfl rfl (by kernel_rfl) Try.func13 (by kernel_rfl)
    (of_decide_eq_true (by kernel_rfl)) (by unfold Func.isWrapper; first | (rw [if_pos (by decide +kernel)]; kernel_rfl) | (rw [if_neg (by decide +kernel)]; exact ⟨rfl, rfl⟩))
    (fun os started H enc _ => recordCuts_lifted os started H enc)

#print axioms recordCuts_holds
end Go.Proofs.Ythlfolpcmcejkaa
