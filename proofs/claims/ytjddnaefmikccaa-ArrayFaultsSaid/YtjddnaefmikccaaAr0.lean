/- Numbers sorted; the keys of a map, sorted. No condition. -/
import Derived.Test.YtjddnaefmikccaaMp
import Derived.Test.YtjddnaefmikccaaRow2
import Derived.Test.YtjddnaefmikccaaDraw3
import Derived.Test.YtjddnaefmikccaaTypes
import Derived.Test.YtjddnaefmikccaaShelf
import Derived.Lib.SlKeysI
set_option linter.unusedSimpArgs false
set_option linter.unusedVariables false
set_option maxRecDepth 100000
namespace Go.Eng
open Go Go.RowKit Go.Sort Go.Proofs Go.ChangeMaps
/-- A text of one's own that came behind the start. -/
theorem OwnC.fromOldA {c : Nat → Nat} {w w' : World} {i n size : Nat} {e : TypeId} {u : Value} {xs : List Value} (hO : OldC w c w') (h : OwnC c w' i e size u n xs) (hi : i ≠ 0) : Own w' w.heap.size e size u n xs := by
  obtain ⟨hl, h1⟩ := h.own
  refine ⟨hl, ?_⟩
  rcases h1 with h1 | ⟨g, cap, cur, fz, rfl, hb, h2, h3, h4, h5, h6, h7, h8⟩
  · exact .inl h1
  · refine .inr ⟨g, cap, cur, fz, rfl, ?_, h2, h3, h4, h5, h6, h7, h8⟩
    rcases Nat.lt_or_ge g w.heap.size with hlt | hge
    · have := h.col g (rowOf_slice h8)
      rw [hO.col g hlt] at this
      exact absurd this.symm hi
    · exact hge
theorem Eff.grownOA {P : Program} {env : Env} {w : World} {ty : TypeId} {op : Op} {c : Nat → Nat} {i n size : Nat} {e : TypeId} {u : Value} {xs : List Value} {R : Value → World → Prop} (ho : OwnC c w i e size u n xs) (h : Eff P env w op ty (fun v w' => w.grownBy w' u.rowOf ∧ R v w')) :
    Eff P env w op ty (fun v w' => ∃ c', Mv c w c' w' [i] ∧ (∀ k, u.rowOf = some k → c' k = i) ∧ R v w') := h.mono fun v w' ⟨hg, hr⟩ => by
  obtain ⟨c', hm, _⟩ := Mv.grown c i hg ho.col
  exact ⟨c', hm, fun k hk => (hm.col k (ho.own.lt k hk).2).trans (ho.col k hk), hr⟩
theorem Own.holdsZ {w : World} {base : Nat} {e : TypeId} {v : Value} {zs : List Int} (h : Own w base e 1 v zs.length (zs.map encZ)) :
    (zs = [] ∧ ∃ A cap, v = .slice A 0 cap) ∨ (∃ g cap cur fz, v = .slice (some ⟨g, 0, none⟩) zs.length cap ∧ base ≤ g ∧ w.heap[g]? = some (.cells cur e fz) ∧ (fz.1 < fz.2 → cur.size ≤ fz.1) ∧ zs.length ≤ cap ∧ cap ≤ maxLen ∧ cur.size = cap ∧ 0 < cap ∧ Holds encZ w g 0 zs.toArray) := by
  rcases Nat.eq_zero_or_pos zs.length with h0 | h0
  · have : zs = [] := List.eq_nil_of_length_eq_zero h0
    subst this
    left
    rcases h.2 with ⟨_, A, rfl⟩ | ⟨g, cap, cur, fz, rfl, _⟩
    · exact ⟨rfl, A, 0, rfl⟩
    · exact ⟨rfl, _, cap, rfl⟩
  · right
    rcases h.2 with ⟨h1, _⟩ | ⟨g, cap, cur, fz, rfl, hb, h2, h3, h4, h5, h6, h7, h8⟩
    · omega
    · refine ⟨g, cap, cur, fz, rfl, hb, h2, h3, h4, h5, by omega, h8, fun j hj => ?_⟩
      have hj' : j < zs.length := by simpa using hj
      constructor
      · rw [Nat.mul_one] at h7
        have h9 : (cur.toList.take zs.length)[j]? = (zs.map encZ)[j]? := by rw [h7]
        rw [List.getElem?_take_of_lt hj'] at h9
        simp only [World.cell?, h2, Nat.zero_add]
        simp only [Option.isSome_none, Bool.false_eq_true, if_false]
        rw [← Array.getElem?_toList, h9]
        simp [hj']
      · obtain ⟨lo, hi⟩ := fz
        simp [World.frozen?, h2]
        intro hlo
        rcases Nat.lt_or_ge lo hi with h9 | h9
        · have := h3 h9; simp at this; omega
        · omega
theorem rise_unique : ∀ (x y : List Int), x.Pairwise (· < ·) → y.Pairwise (· < ·) → (∀ a, a ∈ x ↔ a ∈ y) → x = y
  | [], [], _, _, _ => rfl
  | [], b :: y, _, _, h => absurd ((h b).2 (by simp)) (by simp)
  | a :: x, [], _, _, h => absurd ((h a).1 (by simp)) (by simp)
  | a :: x, b :: y, hx, hy, h => by
    obtain ⟨x1, x2⟩ := List.pairwise_cons.1 hx
    obtain ⟨y1, y2⟩ := List.pairwise_cons.1 hy
    have e : a = b := by
      rcases List.mem_cons.1 ((h a).1 (by simp)) with e | e
      · exact e
      · rcases List.mem_cons.1 ((h b).2 (by simp)) with e2 | e2
        · exact e2.symm
        · have := y1 a e; have := x1 b e2; omega
    subst e
    rw [rise_unique x y x2 y2 fun c => ?_]
    constructor
    · intro hc
      rcases List.mem_cons.1 ((h c).1 (by simp [hc])) with e | e
      · have := x1 c hc; omega
      · exact e
    · intro hc
      rcases List.mem_cons.1 ((h c).2 (by simp [hc])) with e | e
      · have := y1 c hc; omega
      · exact e
theorem keys_sorted {C : List Txt} {L : List Nat} (hn : L.Nodup) (hm : ∀ k, k ∈ L ↔ tx C k ≠ []) : (L.map fun (k : Nat) => (k : Int)).mergeSort (fun x y => decide (x ≤ y)) = (keysT C).map fun (k : Nat) => (k : Int) := by
  have hp := List.mergeSort_perm (L.map fun (k : Nat) => (k : Int)) (fun x y => decide (x ≤ y))
  have hs := List.pairwise_mergeSort (le := fun x y : Int => decide (x ≤ y)) (fun a b c h1 h2 => by simp at *; omega) (fun a b => by simp; omega) (L.map fun (k : Nat) => (k : Int))
  have hnd : ((L.map fun (k : Nat) => (k : Int)).mergeSort (fun x y => decide (x ≤ y))).Nodup := hp.symm.nodup (List.pairwise_map.2 (hn.imp fun h e => h (by omega)))
  refine rise_unique _ _ ((hs.and hnd).imp fun ⟨h1, h2⟩ => by simp at h1; omega) (List.pairwise_map.2 ((keysT_rise C).imp fun h => by omega)) fun a => ?_
  rw [hp.mem_iff]
  simp only [List.mem_map, mem_keysT, hm]
theorem nodup_len {C : List Txt} {L : List Nat} (hn : L.Nodup) (hm : ∀ k ∈ L, tx C k ≠ []) : L.length ≤ (keysT C).length := hn.length_le_of_subset fun k hk => mem_keysT.2 (hm k hk)
theorem keysT_len (C : List Txt) : (keysT C).length ≤ C.length := by
  have := List.length_filter_le (fun k => !(tx C k).isEmpty) (List.range C.length)
  simpa [keysT] using this

/-- A range under way, with its colours. -/
structure ItC (c : Nat → Nat) (w : World) (i j r b : Nat) (C : List Txt) (done : List Nat) : Prop where
  obj : ItW w r b C done
  col : c r = i
  mcol : c b = j
theorem ItC.mv {c c' : Nat → Nat} {w w' : World} {i j r b : Nat} {C : List Txt} {done : List Nat} {I : List Nat} (h : ItC c w i j r b C done) (m : Mv c w c' w' I) (hi : hasC I i = false := by rfl) (hj : hasC I j = false := by rfl) : ItC c' w' i j r b C done :=
  ⟨h.obj.keep (m.block r h.obj.lt.1 (by rw [h.col]; exact hi)) (m.block b h.obj.lt.2 (by rw [h.mcol]; exact hj)), (m.col r h.obj.lt.1).trans h.col, (m.col b h.obj.lt.2).trans h.mcol⟩
theorem ItC.len {c : Nat → Nat} {w : World} {i j r b : Nat} {C : List Txt} {done : List Nat} (h : ItC c w i j r b C done) : done.Nodup ∧ (∀ k ∈ done, tx C k ≠ []) ∧ done.length ≤ C.length := by
  obtain ⟨es, clock, since, seen, c0, h1, h2, h3, h4, h5, h6, h7, h8, h9, h10⟩ := h.obj
  exact ⟨h9, h10, Nat.le_trans (nodup_len h9 h10) (keysT_len C)⟩
def mnextV (C : List Txt) : Option Nat → List Value
  | none => [.bool false]
  | some k => [.bool true, I (k : Nat), St (tx C k)]
theorem mnextV0 (C : List Txt) (o : Option Nat) : (mnextV C o)[0]? = some (.bool o.isSome) := by cases o <;> rfl
section
variable {P : Program} {env : Env} {w : World} {ty : TypeId} {c : Nat → Nat}
theorem Eff.mnextC {x : Operand} {i j r b : Nat} {C : List Txt} {done : List Nat} (hx : evO env x = some (.pointer (some ⟨r, 0, none⟩))) (h : ItC c w i j r b C done) :
    Eff P env w (.next x false) ty (fun v w' => ∃ c', Mv c w c' w' [i] ∧ ∃ o, v = .tuple (mnextV C o).toArray ∧ ItC c' w' i j r b C (done ++ o.toList) ∧ (o = none → ∀ k, tx C k ≠ [] → k ∈ done) ∧ ∀ k, o = some k → k ∉ done ∧ tx C k ≠ []) :=
  (Eff.mnext hx h.obj).mono fun v w' ⟨hg, hor⟩ => by
    obtain ⟨c', hm, _⟩ := Mv.grown (i := i) c i hg (fun k hk => by cases hk; exact h.col)
    have h1 := (hm.col r h.obj.lt.1).trans h.col
    have h2 := (hm.col b h.obj.lt.2).trans h.mcol
    refine ⟨c', hm, ?_⟩
    rcases hor with ⟨rfl, hI, ha⟩ | ⟨k, hk1, hk2, rfl, hI⟩
    · exact ⟨none, rfl, ⟨by simpa using hI, h1, h2⟩, fun _ => ha, fun k h => by cases h⟩
    · exact ⟨some k, rfl, ⟨hI, h1, h2⟩, by simp, fun k' h9 => by injection h9 with h9; subst h9; exact ⟨hk1, hk2⟩⟩
theorem MapC.toC {w0 : World} {i b : Nat} {C : List Txt} (h : MapW w b C) (hb : w0.heap.size ≤ b) (hx : ∀ k, w0.heap.size ≤ k → c k = i) : MapC c w i b C := ⟨h, hx b hb⟩
end
end Go.Eng
namespace Go.Proofs.Ytjddnaefmikccaa
open Go Go.Eng Go.RowKit Go.Sort TryT

abbrev TMap := 60
theorem mapT : MapTy Try.prog TMap 3 9 := ⟨Try.underlying60, Try.underlying3, by kernel_rfl⟩

theorem sortInts_ok {w : World} {base : Nat} {v : Value} {zs : List Int} (h : Own w base 3 1 v zs.length (zs.map encZ)) (hsm : zs.length < 4611686018427387904) :
    Calls Try.prog 65 #[v] w (Ret fun _ w' => w.grownBy w' v.rowOf ∧ Own w' base 3 1 v zs.length ((zs.mergeSort fun x y => decide (x ≤ y)).map encZ)) := by
  rcases h.holdsZ with ⟨rfl, A, cap, rfl⟩ | ⟨g, cap, cur, fz, rfl, hb, h2, h3, h4, h5, h6, h8, hH⟩
  · refine (Try.slices_Sort_int_none A cap w).mono fun e w' he => ?_
    obtain ⟨rfl, rfl⟩ := he
    exact ⟨_, rfl, ⟨rfl, rfl, rfl, Nat.le_refl _, fun _ _ _ => rfl⟩, by simpa using h⟩
  · refine (Try.slices_Sort_int g 0 cap zs w hH (Array.getElem?_eq_some_iff.1 h2).1 hsm).mono fun e w' he => ?_
    obtain ⟨rfl, n, os, rfl⟩ := he
    have hl : (zs.mergeSort fun x y => decide (x ≤ y)).length = zs.length := List.length_mergeSort _
    refine ⟨_, rfl, by rw [rowOf_slice h8]; exact grownBy_sorted_i _, by simp [hl], .inr ⟨g, cap, _, fz, rfl, hb, heap_sorted_i _ h2, ?_, h4, h5, ?_, ?_, h8⟩⟩
    · simpa [putCells] using h3
    · simp [putCells, h6]
    · have := take_putCells_i cur (zs.mergeSort fun x y => decide (x ≤ y)) (by omega)
      rw [hl] at this; simpa using this

def Qk (C : List Txt) (pre : List Nat) (x : Nat) (_ : Nat → Nat) (_ : World) : Prop := x ∉ pre ∧ tx C x ≠ []
def Fk (C : List Txt) (L : List Nat) : Prop := L.Nodup ∧ ∀ k, k ∈ L ↔ tx C k ≠ []
theorem keys_iter {w0 : World} {c0 : Nat → Nat} {b1 mb : Nat} {C : List Txt} (hC : C.length ≤ 9223372036854775807) (hb1 : BlkC c0 w0 0 b1 [.map (some mb)] TMap) (hm : MapC c0 w0 0 mb C) :
    IterQ Try.prog 66 [.pointer (some ⟨b1, 0, none⟩)] (fun k : Nat => [I k]) [75] [0] (Qk C) (Fk C) c0 w0 := by
  intro l J Jx c1 W K hM hK hJi hJxi hy hJ0
  have hN : ∀ i ∈ [75, 0], hasC K i = false := fun i hi => apart_of hK (by simpa using hi)
  replace hb1 := hb1.mv hM (hN 0 (by simp)); replace hm := hm.mv hM (hN 0 (by simp))
  have hJ : JC (J []) [75] c1 W := ⟨hJ0, fun _ _ _ _ h m => hJi _ _ _ _ _ h m⟩
  clear hM hN hK
  show Calls _ _ [_, _].toArray _ _
  refine enter (n := 14) (res := #[]) Try.func66 rfl rfl rfl rfl ?_
  refine cseq <| cg <| vq (Val.loadB scl60 rfl hb1.blk rfl) ?_
  refine ve (Eff.pureC c1 75 ((Eff.mrange mapT rfl hm.obj))) ?_
  rintro v5 w1 ⟨c1, hM1, hx1, ⟨rfl, hI0⟩⟩
  replace hb1 := hb1.mv hM1; replace hm := hm.mv hM1; replace hJ := hJ.mv hM1
  have hI : ItC c1 w1 75 0 _ mb C [] := ⟨hI0, hx1 _ (Nat.le_refl _), hm.col⟩
  clear hx1 hI0 hm
  refine cnil <| cblock ?_
  generalize W.heap.size = r at hI ⊢
  refine WC.loop (σ := List Nat) (fun st => [(0, .func (.yield l) #[] #[]), (5, .pointer (some ⟨r, 0, none⟩))]) (fun st w' => ∃ c', ItC c' w' 75 0 r mb C st ∧ JC (J st) [75] c' w') (fun st => C.length - st.length) [] subs ⟨_, hI, hJ⟩ ?_
  clear hI hJ hb1
  rintro pre wl ⟨cl, hI, hJ⟩
  refine cseq <| cg ?_
  refine ve ((Eff.mnextC rfl hI)) ?_
  rintro v6 w2 ⟨c2, hM2, ⟨o, rfl, hI, hn, hs⟩⟩
  replace hJ := hJ.mv hM2
  refine vq (Val.extract rfl (mnextV0 C o)) <| cnil <| cseq ?_
  refine WC.cond rfl (fun hc1 => ?_) (fun hc1 => ?_)
  ·try simp only [tstS] at hc1
   obtain ⟨k, rfl⟩ := Option.isSome_iff_exists.1 hc1
   obtain ⟨hk1, hk2⟩ := hs k rfl
   clear hn hs
   have hlen := hI.len
   refine cskip <| cblock <| cseq <| cg <| vq (Val.mentry rfl hI.obj) <| vq (Val.extract rfl rfl) <| za rfl <| cnil <| cseq ?_
   refine cg <| zm rfl <| zm rfl ?_
   obtain ⟨K2, hK2, hyA⟩ := hy pre k _ _ hJ.now ⟨hk1, hk2⟩
   refine ve (Eff.yieldB rfl rfl hyA) ?_
   rintro _ wY ⟨b, cY, rfl, hMY, hyT, hyF⟩
   replace hI := hI.mv hMY (apart_of hK2 (by simp)) (apart_of hK2 (by simp))
   clear hJ hyA
   refine vq (Val.not rfl) <| cnil ?_
   refine WC.cond rfl (fun hc3 => ?_) (fun hc3 => ?_)
   ·try simp only [tstS] at hc3
    skip
    refine WC.ret0 rfl ?_
    exact ⟨_, .inr ⟨_, hyF (by simpa using hc3)⟩⟩
   ·try simp only [tstS] at hc3
    have hJ : JC (J (pre ++ [k])) [75] cY wY := ⟨hyT (by simpa using hc3), fun _ _ _ _ h m => hJi _ _ _ _ _ h m⟩
    clear hyT hyF hMY
    refine cskip ?_
    have h9 : (pre ++ [k]).length ≤ C.length := hlen.2.2
    exact ⟨pre ++ [k], subs, ⟨_, hI, hJ⟩, by rw [List.length_append] at h9 ⊢; simp at h9 ⊢; omega⟩
  ·try simp only [tstS] at hc1
   have e : o = none := by simpa using hc1
   subst e
   simp only [Option.toList_none, List.append_nil] at hI
   obtain ⟨h1, h2, _⟩ := hI.len
   refine WC.exit rfl ?_
   refine ⟨_, _, rfl, rfl, ?_⟩
   exact ⟨rfl, _, .inl ⟨pre, ⟨h1, fun k => ⟨h2 k, hn rfl k⟩⟩, hJ.now⟩⟩
end Go.Proofs.Ytjddnaefmikccaa
