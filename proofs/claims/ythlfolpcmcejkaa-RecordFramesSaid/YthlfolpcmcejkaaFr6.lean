/- Records' rows spoilt by the law. No condition. -/
import Derived.Test.YthlfolpcmcejkaaFr5
import Derived.Test.YthlfolpcmcejkaaRow
set_option linter.unusedSimpArgs false
set_option linter.unusedVariables false
set_option maxRecDepth 100000
namespace Go.Eng
open Go Go.RowKit
/-- Every row is still of its type and size. -/
def Soft (w w' : World) : Prop := ∀ (k : Nat) cur e fz, w.heap[k]? = some (.cells cur e fz) → (fz.1 < fz.2 → cur.size ≤ fz.1) → ∃ cur' fz', w'.heap[k]? = some (.cells cur' e fz') ∧ cur'.size = cur.size ∧ (fz'.1 < fz'.2 → cur'.size ≤ fz'.1)
theorem Soft.refl (w : World) : Soft w w := fun k cur e fz h hf => ⟨cur, fz, h, rfl, hf⟩
theorem soft_of {w w' : World} {b b' : Nat} {e : TypeId} {size n : Nat} {v : Value} {xs ys : List Value} (h : Own w b e size v n xs) (h' : Own w' b' e size v n ys) (hg : w.grownBy w' v.rowOf) : Soft w w' := fun k cur e2 fz hk hf => by
  have hlt : k < w.heap.size := (Array.getElem?_eq_some_iff.1 hk).1
  by_cases hr : v.rowOf = some k
  · rcases h.2 with ⟨rfl, A, rfl⟩ | ⟨g, cap, cur1, fz1, rfl, _, h1, _, _, _, hs1, _, hcp⟩
    · rw [rowOf_zero] at hr; cases hr
    · rcases h'.2 with ⟨rfl, A, he⟩ | ⟨g', cap', cur2, fz2, he, _, h2, hf2, _, _, hs2, _, _⟩
      · injection he with _ _ he; omega
      · injection he with he1 _ he3
        injection he1 with he1
        injection he1 with he1 _ _
        subst he1 he3
        have : k = g := by rw [rowOf_slice hcp] at hr; injection hr with hr; exact hr.symm
        subst this
        rw [h1] at hk
        injection hk with hk
        injection hk with hk1 hk2 hk3
        subst hk1 hk2
        exact ⟨cur2, fz2, h2, by rw [hs1, hs2], hf2⟩
  · exact ⟨cur, fz, (hg.block k hlt (fun e => hr e.symm)).trans hk, rfl, hf⟩
/-- A row whose contents do not matter. -/
def SomeC (c : Nat → Nat) (w : World) (i : Nat) (e : TypeId) (size : Nat) (v : Value) (n : Nat) : Prop := ∃ xs, OwnC c w i e size v n xs
theorem SomeC.mv {c c' : Nat → Nat} {w w' : World} {I : List Nat} {i : Nat} {e : TypeId} {size n : Nat} {v : Value} (h : SomeC c w i e size v n) (m : Mv c w c' w' I) (hi : hasC I i = false := by rfl) : SomeC c' w' i e size v n := let ⟨xs, h⟩ := h; ⟨xs, h.mv m hi⟩
theorem SomeC.soft {c c' : Nat → Nat} {w w' : World} {I : List Nat} {i : Nat} {e : TypeId} {size n : Nat} {v : Value} (h : SomeC c w i e size v n) (m : Mv c w c' w' I) (hs : Soft w w') : SomeC c' w' i e size v n := by
  obtain ⟨xs, h⟩ := h
  have hc : ∀ k, v.rowOf = some k → c' k = i := fun k hk => (m.col k (h.own.lt k hk).2).trans (h.col k hk)
  have hl := h.own.1
  rcases h.own.2 with ⟨rfl, A, rfl⟩ | ⟨g, cap, cur, fz, rfl, hb, hg, hf, h2, h3, h4, h5, hcp⟩
  · exact ⟨xs, ⟨hl, .inl ⟨rfl, A, rfl⟩⟩, hc⟩
  · obtain ⟨cur', fz', hk', hs', hf'⟩ := hs g cur e fz hg hf
    have hle : n * size ≤ cap * size := Nat.mul_le_mul_right _ h2
    exact ⟨cur'.toList.take (n * size), ⟨by rw [List.length_take, Array.length_toList, hs', h4]; omega, .inr ⟨g, cap, cur', fz', rfl, hb, hk', hf', h2, h3, by rw [hs', h4], rfl, hcp⟩⟩, hc⟩
theorem grown_of_rowC {w w' : World} {r : Option Nat} {c' : Nat → Nat} {i : Nat} (m : Mv (fun k => if r = some k then i else 0) w c' w' [i]) (hi : Nat.blt 0 i = true) : w.grownBy w' r :=
  ⟨m.os, m.tape, m.output, m.size, fun k hk hne => m.block k hk (by
    show hasC [i] (if r = some k then i else 0) = false
    rw [if_neg (fun e => hne e.symm)]
    cases i with
    | zero => cases hi
    | succ i => rfl)⟩
end Go.Eng
namespace Go.Proofs.Ythlfolpcmcejkaa
open Go Go.Eng Go.RowKit Silo TryT

theorem snumbers_ok {w : World} {v : Value} {n : Nat} {xs : List Value} (h : Own w 0 TI 1 v n xs) (hn : n ≤ 140737488355328) : Calls Try.prog 58 #[v] w (Ret fun _ w' => w.grownBy w' v.rowOf ∧ Soft w w') := by
  obtain ⟨c, hc⟩ : ∃ c : Nat → Nat, c = fun k => if v.rowOf = some k then 5 else 0 := ⟨_, rfl⟩
  have ho : OwnC c w 5 TI 1 v n xs := ⟨h, fun k hk => by rw [hc]; dsimp only; rw [if_pos hk]⟩
  have hA := Acc.refl c w [5]
  obtain ⟨A, cp, hv, _⟩ := h.len
  refine enter (n := 12) (res := #[]) Try.func58 rfl rfl rfl rfl ?_
  refine cseq <| cg <| za rfl <| cnil <| cblock ?_
  refine WC.loop (σ := Nat) (fun k => [(0, v), (2, I k)]) (fun k w' => ∃ c' ys, OwnC c' w' 5 TI 1 v n ys ∧ Acc c w [5] c' w' ∧ k ≤ n) (fun k => n - k) 0 subs ⟨_, _, ho, hA, by omega⟩ ?_
  clear ho hA
  rintro k wl ⟨cl, ys, ho, hA, hk⟩
  refine cseq <| cseq <| cg <| zm rfl <| zm rfl ?_
  subst hv
  refine vq (Val.olen sl24 ho rfl) <| vq (Val.lss rfl rfl) <| cnil ?_
  refine WC.cond rfl (fun hc1 => ?_) (fun hc1 => ?_)
  ·try simp only [tstS] at hc1
   refine cskip <| cseq <| cblock <| cg <| zm rfl <| zm rfl <| vq (Val.indexO sl24 ho rfl rfl (by omega) (by omega)) ?_
   refine WR.eff_ (Eff.storeOC scl3 ho side rfl rfl ra ra) ?_
   rintro _ w1 ⟨hS, hM1⟩
   replace hA := hA.mv hM1
   replace ho := hS
   refine cnil <| cg <| zm rfl <| vq (Val.addI rfl rfl side side) <| za rfl <| cnil ?_
   exact ⟨k + 1, subs, ⟨_, _, ho, hA, by omega⟩, by omega⟩
  ·try simp only [tstS] at hc1
   refine WC.exit rfl ?_
   refine ⟨_, _, rfl, rfl, ?_⟩
   have hg := grown_of_rowC (by rw [hc] at hA; exact hA.mvs) rfl
   exact ⟨rfl, hg, soft_of h ho.own hg⟩
theorem sslots_ok {w : World} {v : Value} {n : Nat} {xs : List Value} (h : Own w 0 TSl 2 v n xs) (hn : n ≤ 140737488355328) : Calls Try.prog 59 #[v] w (Ret fun _ w' => w.grownBy w' v.rowOf ∧ Soft w w') := by
  obtain ⟨c, hc⟩ : ∃ c : Nat → Nat, c = fun k => if v.rowOf = some k then 5 else 0 := ⟨_, rfl⟩
  have ho : OwnC c w 5 TSl 2 v n xs := ⟨h, fun k hk => by rw [hc]; dsimp only; rw [if_pos hk]⟩
  have hA := Acc.refl c w [5]
  obtain ⟨A, cp, hv, _⟩ := h.len
  refine enter (n := 13) (res := #[]) Try.func59 rfl rfl rfl rfl ?_
  refine cseq <| cg <| za rfl <| cnil <| cblock ?_
  refine WC.loop (σ := Nat) (fun k => [(0, v), (2, I k)]) (fun k w' => ∃ c' ys, OwnC c' w' 5 TSl 2 v n ys ∧ Acc c w [5] c' w' ∧ k ≤ n) (fun k => n - k) 0 subs ⟨_, _, ho, hA, by omega⟩ ?_
  clear ho hA
  rintro k wl ⟨cl, ys, ho, hA, hk⟩
  refine cseq <| cseq <| cg <| zm rfl <| zm rfl ?_
  subst hv
  refine vq (Val.olen sl29 ho rfl) <| vq (Val.lss rfl rfl) <| cnil ?_
  refine WC.cond rfl (fun hc1 => ?_) (fun hc1 => ?_)
  ·try simp only [tstS] at hc1
   refine cskip <| cseq <| cblock <| cg <| zm rfl <| zm rfl <| vq (Val.build (cells := #[I (-9), I 0]) rfl (by kernel_rfl)) <| vq (Val.indexO sl29 ho rfl rfl (by omega) (by omega)) ?_
   refine WR.eff_ ((Eff.storeON (j := k) agg66 ho (by omega) rfl rfl rfl ones)) ?_
   rintro _ w1 ⟨c1, hM1, ho⟩
   replace hA := hA.mv hM1
   refine cnil <| cg <| zm rfl <| vq (Val.addI rfl rfl side side) <| za rfl <| cnil ?_
   exact ⟨k + 1, subs, ⟨_, _, ho, hA, by omega⟩, by omega⟩
  ·try simp only [tstS] at hc1
   refine WC.exit rfl ?_
   refine ⟨_, _, rfl, rfl, ?_⟩
   have hg := grown_of_rowC (by rw [hc] at hA; exact hA.mvs) rfl
   exact ⟨rfl, hg, soft_of h ho.own hg⟩

theorem snumbers_c {c : Nat → Nat} {w : World} {v : Value} {n : Nat} (h : SomeC c w 5 TI 1 v n) (hn : n ≤ 140737488355328) : Calls Try.prog 58 #[v] w (Ret fun _ w' => ∃ c', Mv c w c' w' [5] ∧ Soft w w') := by
  obtain ⟨xs, h⟩ := h
  refine (snumbers_ok h.own hn).mono fun e w' ⟨u, hu, hg, hs⟩ => ?_
  obtain ⟨c', m, _⟩ := Mv.grown c 0 hg h.col
  exact ⟨u, hu, c', m, hs⟩
theorem sslots_c {c : Nat → Nat} {w : World} {v : Value} {n : Nat} (h : SomeC c w 5 TSl 2 v n) (hn : n ≤ 140737488355328) : Calls Try.prog 59 #[v] w (Ret fun _ w' => ∃ c', Mv c w c' w' [5] ∧ Soft w w') := by
  obtain ⟨xs, h⟩ := h
  refine (sslots_ok h.own hn).mono fun e w' ⟨u, hu, hg, hs⟩ => ?_
  obtain ⟨c', m, _⟩ := Mv.grown c 0 hg h.col
  exact ⟨u, hu, c', m, hs⟩

/-- Six cells. -/
abbrev Raw6 := { cs : List Value // cs.length = 6 ∧ ∀ u ∈ cs, u.oneCell' = true }
abbrev rawS : Shape Raw6 := Shape.flat 6 (fun x => x.1) (fun _ => True) (fun x => x.2.1) (fun x => x.2.2)
/-- Records whose lists are rows of the colour 5, whatever these hold. -/
def SomeR (c : Nat → Nat) (w : World) (cs : List Value) : Prop := ∃ a b d e vl vs n1 n2, cs = [a, b, d, e, vl, vs] ∧ SomeC c w 5 TI 1 vl n1 ∧ n1 ≤ 140737488355328 ∧ SomeC c w 5 TSl 2 vs n2 ∧ n2 ≤ 140737488355328
theorem SomeR.mv {c c' : Nat → Nat} {w w' : World} {I : List Nat} {cs : List Value} (h : SomeR c w cs) (m : Mv c w c' w' I) (hi : hasC I 5 = false := by rfl) : SomeR c' w' cs := by
  obtain ⟨a, b, d, e, vl, vs, n1, n2, rfl, h1, h2, h3, h4⟩ := h
  exact ⟨a, b, d, e, vl, vs, n1, n2, rfl, h1.mv m hi, h2, h3.mv m hi, h4⟩
theorem SomeR.soft {c c' : Nat → Nat} {w w' : World} {I : List Nat} {cs : List Value} (h : SomeR c w cs) (m : Mv c w c' w' I) (hs : Soft w w') : SomeR c' w' cs := by
  obtain ⟨a, b, d, e, vl, vs, n1, n2, rfl, h1, h2, h3, h4⟩ := h
  exact ⟨a, b, d, e, vl, vs, n1, n2, rfl, h1.soft m hs, h2, h3.soft m hs, h4⟩
structure AllR (c : Nat → Nat) (w : World) (L : List Raw6) : Prop where
  all : ∀ x ∈ L, SomeR c w x.1
theorem AllR.mv {c c' : Nat → Nat} {w w' : World} {I : List Nat} {L : List Raw6} (h : AllR c w L) (m : Mv c w c' w' I) (hi : hasC I 5 = false := by rfl) : AllR c' w' L := ⟨fun x hx => (h.all x hx).mv m hi⟩
theorem AllR.soft {c c' : Nat → Nat} {w w' : World} {I : List Nat} {L : List Raw6} (h : AllR c w L) (m : Mv c w c' w' I) (hs : Soft w w') : AllR c' w' L := ⟨fun x hx => (h.all x hx).soft m hs⟩
theorem raw_of : ∀ (css : List (List Value)), (∀ cs ∈ css, cs.length = 6 ∧ ∀ u ∈ cs, u.oneCell' = true) → ∃ L : List Raw6, L.map (·.1) = css
  | [], _ => ⟨[], rfl⟩
  | cs :: r, h => by
    obtain ⟨L, hL⟩ := raw_of r fun x hx => h x (by simp [hx])
    exact ⟨⟨cs, h cs (by simp)⟩ :: L, by simp [hL]⟩
theorem EachO.raw {c : Nat → Nat} {w : World} {css : List (List Value)} {l : List Rec} (h : EachO c w css l) : ∃ L : List Raw6, L.map (·.1) = css ∧ L.length = l.length ∧ AllR c w L := by
  have key : ∀ cs ∈ css, ∃ x : Rec, ∃ vl vs, cs = [I x.kind, I x.id, St x.name, St x.digest, vl, vs] ∧ OwnC c w 5 TI 1 vl x.list.length (flatL x.list) ∧ OwnC c w 5 TSl 2 vs x.slots.length (flatS x.slots) ∧ x.list.length ≤ 140737488355328 ∧ x.slots.length ≤ 140737488355328 := fun cs hcs => by
    obtain ⟨k, hk, rfl⟩ := List.mem_iff_getElem.1 hcs
    have hk2 : k < l.length := by rw [← h.1]; exact hk
    obtain ⟨vl, vs, e, a, b, _, _, _, r1, r2⟩ := h.2 k _ l[k] (List.getElem?_eq_getElem hk) (List.getElem?_eq_getElem hk2)
    exact ⟨l[k], vl, vs, e, a, b, r1, r2⟩
  obtain ⟨L, hL⟩ := raw_of css fun cs hcs => by
    obtain ⟨x, vl, vs, rfl, a, b, _⟩ := key cs hcs
    refine ⟨rfl, fun u hu => ?_⟩
    simp only [List.mem_cons, List.not_mem_nil, or_false] at hu
    rcases hu with rfl | rfl | rfl | rfl | rfl | rfl
    · rfl
    · rfl
    · rfl
    · rfl
    · exact a.oneC
    · exact b.oneC
  refine ⟨L, hL, by rw [← h.1, ← hL, List.length_map], ⟨fun x hx => ?_⟩⟩
  obtain ⟨y, vl, vs, e, a, b, r1, r2⟩ := key x.1 (by rw [← hL]; exact List.mem_map_of_mem hx)
  exact ⟨_, _, _, _, vl, vs, _, _, e, ⟨_, a⟩, r1, ⟨_, b⟩, r2⟩
theorem raw_put {L : List Raw6} {k : Nat} {x : Raw6} (hk : k < L.length) : (L.flatMap (·.1)).take (k * 6) ++ x.1 ++ (L.flatMap (·.1)).drop ((k + 1) * 6) = (L.set k x).flatMap (·.1) := by
  have e : ∀ (A B : List Raw6), (A.flatMap (·.1)).length = A.length * 6 := fun A _ => by
    induction A with
    | nil => rfl
    | cons a r ih => rw [List.flatMap_cons, List.length_append, ih, a.2.1, List.length_cons]; omega
  have h1 : L = L.take k ++ L[k] :: L.drop (k + 1) := by rw [List.getElem_cons_drop, List.take_append_drop]
  have hl : (L.take k).length = k := by rw [List.length_take]; omega
  have h2 : (L.flatMap (·.1)).take (k * 6) = (L.take k).flatMap (·.1) := by
    conv => lhs; rw [h1]
    rw [List.flatMap_append, List.take_append_of_le_length (by rw [e _ []]; omega), List.take_of_length_le (by rw [e _ []]; omega)]
  have h3 : (L.flatMap (·.1)).drop ((k + 1) * 6) = (L.drop (k + 1)).flatMap (·.1) := by
    conv => lhs; rw [h1]
    rw [List.flatMap_append, List.drop_append, List.drop_eq_nil_of_le (by rw [e _ []]; omega), e _ [], hl, List.flatMap_cons, show (k + 1) * 6 - k * 6 = 6 by omega, List.nil_append, List.drop_append, List.drop_eq_nil_of_le (by rw [L[k].2.1]; omega), L[k].2.1]
    rfl
  rw [h2, h3, List.set_eq_take_append_cons_drop, if_pos hk, List.flatMap_append, List.flatMap_cons]
  simp
end Go.Proofs.Ythlfolpcmcejkaa
