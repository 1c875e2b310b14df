/- Maps from numbers to texts: what a map holds, told as a row of texts ("" is not there); operations; ranges. No condition. -/
import Derived.Test.YtjddnaefmikccaaTurn
import Derived.Maps.RangeRun
import Derived.Maps.Keyed
set_option linter.unusedSimpArgs false
set_option linter.unusedVariables false
namespace Go.Eng
open Go Go.RowKit Go.ChangeMaps

abbrev Txt := List UInt8
/-- A row's text at k; "" where there is none. -/
def tx (C : List Txt) (k : Nat) : Txt := C.getD k []
theorem tx_set {C : List Txt} {k j : Nat} {t : Txt} (hk : k < C.length) : tx (C.set k t) j = if j = k then t else tx C j := by
  unfold tx
  rw [List.getD_eq_getElem?_getD, List.getD_eq_getElem?_getD, List.getElem?_set]
  by_cases h : k = j
  · subst h; simp [hk]
  · rw [if_neg h, if_neg (fun e => h e.symm)]
theorem tx_ge {C : List Txt} {k : Nat} (h : C.length ≤ k) : tx C k = [] := by simp [tx, List.getD_eq_getElem?_getD, List.getElem?_eq_none h]
theorem tx_lt {C : List Txt} {k : Nat} (h : tx C k ≠ []) : k < C.length := by
  rcases Nat.lt_or_ge k C.length with h1 | h1
  · exact h1
  · exact absurd (tx_ge h1) h
theorem tx_get {C : List Txt} {k : Nat} (h : k < C.length) : tx C k = C[k] := by simp [tx, List.getD_eq_getElem?_getD, List.getElem?_eq_getElem h]
/-- The numbers at which there is a text, rising. -/
def keysT (C : List Txt) : List Nat := (List.range C.length).filter fun k => !(tx C k).isEmpty
theorem mem_keysT {C : List Txt} {k : Nat} : k ∈ keysT C ↔ tx C k ≠ [] := by
  simp only [keysT, List.mem_filter, List.mem_range, Bool.not_eq_true', List.isEmpty_eq_false_iff]
  exact ⟨fun h => h.2, fun h => ⟨tx_lt h, h⟩⟩
theorem nodup_keysT (C : List Txt) : (keysT C).Nodup := List.Pairwise.filter _ List.nodup_range
theorem keysT_rise (C : List Txt) : (keysT C).Pairwise (fun a b => a < b) := List.Pairwise.filter _ List.pairwise_lt_range

/-- What entries say of a row of texts. -/
structure MapT (es : Array MapEntry) (clock : Nat) (C : List Txt) : Prop where
  ent : ∀ e ∈ es.toList, ∃ k, tx C k ≠ [] ∧ e.key = I k ∧ e.val = St (tx C k)
  all : ∀ k, tx C k ≠ [] → ∃ e ∈ es.toList, e.key = I k
  keys : es.toList.Pairwise (fun x y => x.key ≠ y.key)
  born : es.toList.Pairwise (fun x y => x.born ≠ y.born)
  low : ∀ e ∈ es.toList, e.born < clock
theorem I_inj {a b : Nat} (h : I a = I b) : a = b := by injection h with _ h; omega
theorem pair_inj {α : Type} {R : α → α → Prop} (hs : ∀ x y, R x y → R y x) : ∀ {l : List α}, l.Pairwise R → ∀ {x y : α}, x ∈ l → y ∈ l → ¬ R x y → x = y
  | [], _, _, _, hx, _, _ => by simp at hx
  | a :: r, hp, x, y, hx, hy, h => by
    obtain ⟨h1, h2⟩ := List.pairwise_cons.1 hp
    rcases List.mem_cons.1 hx with ex | hx'
    · rcases List.mem_cons.1 hy with ey | hy'
      · rw [ex, ey]
      · exact absurd (ex ▸ h1 y hy') h
    · rcases List.mem_cons.1 hy with ey | hy'
      · exact absurd (ey ▸ hs _ _ (h1 x hx')) h
      · exact pair_inj hs h2 hx' hy' h
theorem pair_idx {α : Type} {R : α → α → Prop} (hs : ∀ x y, R x y → R y x) {l : List α} (h : l.Pairwise R) {i j : Nat} {x y : α} (hi : l[i]? = some x) (hj : l[j]? = some y) (hn : ¬ R x y) : i = j := by
  obtain ⟨h1, rfl⟩ := List.getElem?_eq_some_iff.1 hi
  obtain ⟨h2, rfl⟩ := List.getElem?_eq_some_iff.1 hj
  have := List.pairwise_iff_getElem.1 h
  rcases Nat.lt_trichotomy i j with h3 | h3 | h3
  · exact absurd (this i j h1 h2 h3) hn
  · exact h3
  · exact absurd (hs _ _ (this j i h2 h1 h3)) hn
theorem MapT.key_inj {es : Array MapEntry} {clock : Nat} {C : List Txt} (h : MapT es clock C) {x y : MapEntry} (hx : x ∈ es.toList) (hy : y ∈ es.toList) (e : x.key = y.key) : x = y :=
  pair_inj (fun _ _ h => Ne.symm h) h.keys hx hy (fun hn => hn e)
theorem MapT.born_inj {es : Array MapEntry} {clock : Nat} {C : List Txt} (h : MapT es clock C) {x y : MapEntry} (hx : x ∈ es.toList) (hy : y ∈ es.toList) (e : x.born = y.born) : x = y :=
  pair_inj (fun _ _ h => Ne.symm h) h.born hx hy (fun hn => hn e)
theorem MapT.val {es : Array MapEntry} {clock : Nat} {C : List Txt} (h : MapT es clock C) {e : MapEntry} (he : e ∈ es.toList) {k : Nat} (hk : e.key = I k) : tx C k ≠ [] ∧ e.val = St (tx C k) := by
  obtain ⟨k', h1, h2, h3⟩ := h.ent e he
  rw [hk] at h2
  have := I_inj h2
  subst this
  exact ⟨h1, h3⟩
theorem MapT.perm {es : Array MapEntry} {clock : Nat} {C : List Txt} (h : MapT es clock C) : (es.toList.map (·.key)).Perm ((keysT C).map fun (k : Nat) => I (k : Int)) := by
  refine (List.perm_ext_iff_of_nodup ?_ ?_).2 fun v => ?_
  · exact List.pairwise_map.2 h.keys
  · exact List.pairwise_map.2 ((nodup_keysT C).imp fun hn e => hn (I_inj e))
  · simp only [List.mem_map]
    constructor
    · rintro ⟨e, he, rfl⟩
      obtain ⟨k, h1, h2, _⟩ := h.ent e he
      exact ⟨k, mem_keysT.2 h1, h2.symm⟩
    · rintro ⟨k, hk, rfl⟩
      obtain ⟨e, he, h2⟩ := h.all k (mem_keysT.1 hk)
      exact ⟨e, he, h2⟩
theorem MapT.size {es : Array MapEntry} {clock : Nat} {C : List Txt} (h : MapT es clock C) : es.size = (keysT C).length := by
  have := h.perm.length_eq
  simpa using this
theorem MapT.empty (n : Nat) (clock : Nat) : MapT #[] clock (List.replicate n []) := by
  have e : ∀ k, tx (List.replicate n []) k = [] := fun k => by
    unfold tx
    rw [List.getD_eq_getElem?_getD, List.getElem?_replicate]
    split <;> rfl
  exact ⟨fun _ h => by simp at h, fun k h => absurd (e k) h, by simp, by simp, fun _ h => by simp at h⟩
theorem MapT.push {es : Array MapEntry} {clock : Nat} {C : List Txt} (h : MapT es clock C) {k : Nat} {t : Txt} (hk : k < C.length) (ht : t ≠ []) (hn : ∀ e ∈ es.toList, e.key ≠ I k) : MapT (es.push ⟨I k, St t, clock⟩) (clock + 1) (C.set k t) := by
  have hne : ∀ j, tx C j ≠ [] → j ≠ k := fun j hj e => by
    subst e
    obtain ⟨e, he, h2⟩ := h.all j hj
    exact hn e he h2
  refine ⟨fun e he => ?_, fun j hj => ?_, ?_, ?_, fun e he => ?_⟩
  · simp only [Array.toList_push, List.mem_append, List.mem_singleton] at he
    rcases he with he | rfl
    · obtain ⟨j, h1, h2, h3⟩ := h.ent e he
      refine ⟨j, ?_, h2, ?_⟩ <;> rw [tx_set hk, if_neg (hne j h1)] <;> assumption
    · exact ⟨k, by rw [tx_set hk, if_pos rfl]; exact ht, rfl, by rw [tx_set hk, if_pos rfl]⟩
  · rw [tx_set hk] at hj
    split at hj
    · rename_i e
      exact ⟨⟨I k, St t, clock⟩, by simp, by rw [e]⟩
    · obtain ⟨e, he, h2⟩ := h.all j hj
      exact ⟨e, by simp [Array.mem_toList_iff.1 he], h2⟩
  · rw [Array.toList_push, List.pairwise_append]
    exact ⟨h.keys, by simp, fun x hx y hy => by simp at hy; subst hy; exact hn x hx⟩
  · rw [Array.toList_push, List.pairwise_append]
    exact ⟨h.born, by simp, fun x hx y hy => by
      simp at hy; subst hy
      have := h.low x hx
      show x.born ≠ clock
      omega⟩
  · simp only [Array.toList_push, List.mem_append, List.mem_singleton] at he
    rcases he with he | rfl
    · have := h.low e he; omega
    · exact Nat.lt_succ_self _
theorem modify_list {es : Array MapEntry} {j : Nat} {f : MapEntry → MapEntry} : (es.modify j f).toList = es.toList.modify j f := Array.toList_modify
theorem pairwise_modify {α : Type} {R : α → α → Prop} {f : α → α} (h1 : ∀ x y, R x y → R (f x) y) (h2 : ∀ x y, R x y → R x (f y)) : ∀ {l : List α} (j : Nat), l.Pairwise R → (l.modify j f).Pairwise R
  | [], j, _ => by cases j <;> simp
  | a :: r, 0, h => by
    obtain ⟨ha, hr⟩ := List.pairwise_cons.1 h
    rw [List.modify_zero_cons]
    exact List.pairwise_cons.2 ⟨fun y hy => h1 _ _ (ha y hy), hr⟩
  | a :: r, j + 1, h => by
    obtain ⟨ha, hr⟩ := List.pairwise_cons.1 h
    rw [List.modify_succ_cons]
    refine List.pairwise_cons.2 ⟨fun y hy => ?_, pairwise_modify h1 h2 j hr⟩
    obtain ⟨i, hi⟩ := List.getElem?_of_mem hy
    rw [List.getElem?_modify] at hi
    cases hr2 : r[i]? with
    | none => rw [hr2] at hi; simp at hi
    | some z =>
      rw [hr2] at hi
      have hz := ha z (List.mem_of_getElem? hr2)
      split at hi
      · simp at hi; subst hi; exact h2 _ _ hz
      · simp at hi; subst hi; exact hz
theorem mem_modify {α : Type} {f : α → α} {l : List α} {j : Nat} {e0 : α} (h : l[j]? = some e0) {x : α} (hx : x ∈ l.modify j f) : x = f e0 ∨ x ∈ l := by
  obtain ⟨i, hi⟩ := List.getElem?_of_mem hx
  rw [List.getElem?_modify] at hi
  cases hr : l[i]? with
  | none => rw [hr] at hi; simp at hi
  | some z =>
    rw [hr] at hi
    split at hi
    · rename_i e
      subst e
      rw [h] at hr; injection hr with hr; subst hr
      simp at hi; exact .inl hi.symm
    · simp at hi; subst hi; exact .inr (List.mem_of_getElem? hr)
theorem MapT.modify {es : Array MapEntry} {clock : Nat} {C : List Txt} (h : MapT es clock C) {k j : Nat} {t : Txt} {e0 : MapEntry} (hk : k < C.length) (ht : t ≠ []) (hj : es[j]? = some e0) (he : e0.key = I k) : MapT (es.modify j fun e => { e with key := I k, val := St t }) clock (C.set k t) := by
  have hjl : es.toList[j]? = some e0 := by simpa using hj
  have h0 : e0 ∈ es.toList := List.mem_of_getElem? hjl
  have hmap : (es.toList.modify j fun e => { e with key := I k, val := St t }).map (·.key) = es.toList.map (·.key) := by
    apply List.ext_getElem?
    intro i
    rw [List.getElem?_map, List.getElem?_map, List.getElem?_modify]
    cases hr : es.toList[i]? with
    | none => rfl
    | some z =>
      by_cases hij : j = i
      · subst hij
        rw [hjl] at hr; injection hr with hr; subst hr
        simp [he]
      · simp [hij]
  have hother : ∀ x ∈ es.toList.modify j (fun e => { e with key := I k, val := St t }), x.key ≠ I k → x ∈ es.toList := fun x hx hn => by
    rcases mem_modify hjl hx with e | e
    · subst e; exact absurd rfl hn
    · exact e
  rw [show es.modify j (fun e => { e with key := I k, val := St t }) = (es.toList.modify j (fun e => { e with key := I k, val := St t })).toArray by rw [← modify_list]]
  refine ⟨fun x hx => ?_, fun i hi => ?_, ?_, ?_, fun x hx => ?_⟩
  · rcases mem_modify hjl hx with e | e
    · subst e
      exact ⟨k, by rw [tx_set hk, if_pos rfl]; exact ht, rfl, by rw [tx_set hk, if_pos rfl]⟩
    · obtain ⟨i, h1, h2, h3⟩ := h.ent x e
      by_cases hik : i = k
      · subst hik
        have hx0 := h.key_inj e h0 (h2.trans he.symm)
        -- the one that was turned stands no more
        subst hx0
        obtain ⟨p, hp⟩ := List.getElem?_of_mem hx
        have hk2 := congrArg (fun l => l[p]?) hmap
        simp only [List.getElem?_map] at hk2
        rw [hp] at hk2
        rw [List.getElem?_modify] at hp
        cases hr : es.toList[p]? with
        | none => rw [hr] at hp; simp at hp
        | some z =>
          rw [hr] at hp
          split at hp
          · rename_i e; subst e; rw [hjl] at hr; injection hr with hr; subst hr
            simp at hp
            exact ⟨i, by rw [tx_set hk, if_pos rfl]; exact ht, h2, by rw [tx_set hk, if_pos rfl, ← hp]⟩
          · rename_i hne
            simp at hp
            subst hp
            exfalso
            exact hne (pair_idx (fun _ _ h => Ne.symm h) h.keys hjl hr (fun hn => hn rfl))
      · refine ⟨i, ?_, h2, ?_⟩ <;> rw [tx_set hk, if_neg hik] <;> assumption
  · have hk0 : tx C i ≠ [] := by
      rw [tx_set hk] at hi
      split at hi
      · rename_i e; subst e; exact (h.val h0 he).1
      · exact hi
    obtain ⟨e, hem, h2⟩ := h.all i hk0
    have : I (i : Int) ∈ (es.toList.modify j fun e => { e with key := I k, val := St t }).map (·.key) := by rw [hmap]; exact List.mem_map.2 ⟨e, hem, h2⟩
    obtain ⟨x, hx, hxk⟩ := List.mem_map.1 this
    exact ⟨x, hx, hxk⟩
  · have := List.pairwise_map.2 h.keys
    rw [← hmap] at this
    exact List.pairwise_map.1 this
  · exact pairwise_modify (f := fun e : MapEntry => { e with key := I k, val := St t }) (R := fun x y : MapEntry => x.born ≠ y.born) (fun _ _ (h : MapEntry.born _ ≠ MapEntry.born _) => h) (fun _ _ (h : MapEntry.born _ ≠ MapEntry.born _) => h) j h.born
  · rcases mem_modify hjl hx with e | e
    · subst e; exact h.low e0 h0
    · exact h.low x e

/-- The map at block b. -/
def MapW (w : World) (b : Nat) (C : List Txt) : Prop := ∃ es clock, w.heap[b]? = some (.map es clock) ∧ MapT es clock C
structure MapC (c : Nat → Nat) (w : World) (i b : Nat) (C : List Txt) : Prop where
  obj : MapW w b C
  col : c b = i
section
variable {c c' : Nat → Nat} {w w' : World} {i b : Nat} {C : List Txt}
theorem MapW.lt (h : MapW w b C) : b < w.heap.size := by obtain ⟨es, clock, hb, _⟩ := h; exact lt_of_some hb
theorem MapW.keep (h : MapW w b C) (hk : w'.heap[b]? = w.heap[b]?) : MapW w' b C := by obtain ⟨es, clock, hb, h⟩ := h; exact ⟨es, clock, hk.trans hb, h⟩
theorem MapC.mv {I : List Nat} (h : MapC c w i b C) (m : Mv c w c' w' I) (hi : hasC I i = false := by rfl) : MapC c' w' i b C :=
  ⟨h.obj.keep (m.block b h.obj.lt (by rw [h.col]; exact hi)), (m.col b h.obj.lt).trans h.col⟩
theorem MapC.kp {J : List Nat} {W : World} (h : MapC c w i b C) (hW : Kp c w J W) (hi : hasC J i = false := by rfl) : MapC c W i b C :=
  ⟨h.obj.keep (hW.2 b h.obj.lt (by rw [h.col]; exact hi)), h.col⟩
end

section
variable {P : Program} {env : Env} {w : World} {ty : TypeId} {b : Nat} {C : List Txt}
theorem wf_small {k : Nat} (hk : k ≤ 9223372036854775807) : (Lit.int .i64 (k : Int)).wf = true := by
  simp [Lit.wf, IntKind.min, IntKind.max, IntKind.bits, IntKind.signed]; omega
/-- A map's type: keys are ints, elements strings. -/
structure MapTy (P : Program) (t k e : TypeId) : Prop where
  und : P.underlying t = some (.map k e)
  key : P.underlying k = some (.int .i64)
  zero : (P.info? e).bind (·.zero) = some (St [])
theorem MapTy.zeroV {t k e : TypeId} (h : MapTy P t k e) (w : World) : (zeroValue e).run P w = .ok (St []) w := by
  have := h.zero
  cases hi : P.info? e with
  | none => rw [hi] at this; cases this
  | some i =>
    rw [hi] at this
    have hz : i.zero = some (St []) := this
    simp [zeroValue, typeInfo, Sem.run, hi, hz]
theorem MapT.find {es : Array MapEntry} {clock : Nat} (h : MapT es clock C) {kt : TypeId} (hk : P.underlying kt = some (.int .i64)) (hC : C.length ≤ 9223372036854775807) {k : Nat} (hk2 : k ≤ 9223372036854775807) (w : World) :
    ((Instr.findKey kt (I k) es.toList).run P w = .ok none w ∧ (∀ e ∈ es.toList, e.key ≠ I k) ∧ tx C k = []) ∨ ∃ j e, (Instr.findKey kt (I k) es.toList).run P w = .ok (some (j, e.val)) w ∧ es[j]? = some e ∧ e.key = I k ∧ e.val = St (tx C k) ∧ tx C k ≠ [] := by
  have K := Maps.int_keyed (P := P) hk
  have hkey : ∀ e ∈ es.toList, ∃ l, keyOf P kt e.key = some l := fun e he => by
    obtain ⟨j, h1, h2, _⟩ := h.ent e he
    rw [h2]
    exact ⟨_, Maps.keyOf_int_mk hk (wf_small (by have := tx_lt h1; omega))⟩
  rcases K.find w (Maps.keyOf_int_mk hk (wf_small hk2)) es.toList hkey with ⟨h1, h2⟩ | ⟨j, e, h1, h2, h3⟩
  · refine .inl ⟨h1, h2, Classical.byContradiction fun hn => ?_⟩
    obtain ⟨e, he, h4⟩ := h.all k hn
    exact h2 e he h4
  · have h2' : es[j]? = some e := by simpa using h2
    have hv := h.val (List.mem_of_getElem? h2) h3
    exact .inr ⟨j, e, h1, h2', h3, hv.2, hv.1⟩
theorem checkKey_int {kt : TypeId} (hk : P.underlying kt = some (.int .i64)) (em : Bool) {k : Nat} (hk2 : k ≤ 9223372036854775807) (w : World) : (Instr.checkKey em 10000 kt (I k)).run P w = .ok () w :=
  (Maps.int_keyed (P := P) hk).check w em (Maps.keyOf_int_mk hk (wf_small hk2))

/-! ### Operations -/
theorem Eff.makeMap {t : TypeId} (n : Nat) : Eff P env w (.makeMap t none) ty (fun v w' => Below w.heap.size w w' ∧ v = .map (some w.heap.size) ∧ MapW w' w.heap.size (List.replicate n []) ∧ w'.heap.size = w.heap.size + 1) :=
  Eff.of_run fun _ a ho d pos after g => ⟨.map (some w.heap.size), w.alloc (.map #[] 0), by simp [execOp, Instr.makeMap], (Below.refl _ _).alloc (Nat.le_refl _) _, rfl, ⟨#[], 0, World.alloc_heap_new _ _, MapT.empty n 0⟩, World.size_alloc _ _⟩
theorem Eff.mapPut {t kt e : TypeId} {m x y : Operand} (hT : MapTy P t kt e) (hm : evO env m = some (.map (some b))) (hmap : MapW w b C) {k : Nat} {s : Txt} (hx : evO env x = some (I k)) (hy : evO env y = some (St s)) (hk : k < C.length) (hC : C.length ≤ 9223372036854775807) (hs : s ≠ []) :
    Eff P env w (.mapUpdate t m x y) ty (fun _ w' => MapW w' b (C.set k s) ∧ w.grownBy w' (some b)) :=
  Eff.of_skip fun _ a ho d pos after g => by
    obtain ⟨es, clock, hb, hM⟩ := hmap
    have hset : ∀ o, (setBlock w b o).heap[b]? = some o := fun o => heap_setBlock_same hb o
    have hgr : ∀ o, w.grownBy (setBlock w b o) (some b) := fun o => ⟨rfl, rfl, rfl, by simp [setBlock], fun i _ hi => heap_setBlock_other hb o (fun e => hi (by rw [e]))⟩
    have hck := checkKey_int (P := P) hT.key false (k := k) (by omega) w
    rcases hM.find (P := P) hT.key hC (k := k) (by omega) w with ⟨h1, h2, _⟩ | ⟨j, e0, h1, h2, h3, _, _⟩
    · refine ⟨setBlock w b (.map (es.push ⟨I k, St s, clock⟩) (clock + 1)), ?_, ⟨_, _, hset _, hM.push hk hs h2⟩, hgr _⟩
      simp [execOp, ho.eval hm, ho.eval hx, ho.eval hy, Instr.mapUpdate, run_underlying hT.und, MapKept.run_getObj_map hb, hck, h1, MapKept.run_setObj_map _ hb, Result.andThen, setBlock]
    · refine ⟨setBlock w b (.map (es.modify j fun e => { e with key := I k, val := St s }) clock), ?_, ⟨_, _, hset _, hM.modify hk hs h2 h3⟩, hgr _⟩
      have hst : (Instr.keyThatStays (I k) (I k)).run P w = .ok (I k) w := (Maps.int_keyed (P := P) hT.key).stays w (Maps.keyOf_int_mk hT.key (wf_small (by omega)))
      simp [execOp, ho.eval hm, ho.eval hx, ho.eval hy, Instr.mapUpdate, run_underlying hT.und, MapKept.run_getObj_map hb, hck, h1, h2, h3, hst, MapKept.run_setObj_map _ hb, Result.andThen, setBlock]
theorem run_lookT {t kt e : TypeId} (hT : MapTy P t kt e) (hmap : MapW w b C) {k : Nat} (hk : k ≤ 9223372036854775807) (hC : C.length ≤ 9223372036854775807) (ok : Bool) : (Instr.lookup t (.map (some b)) (I k) ok).run P w = .ok (if ok then .tuple #[St (tx C k), .bool (!(tx C k).isEmpty)] else St (tx C k)) w := by
  obtain ⟨es, clock, hb, hM⟩ := hmap
  have hck := checkKey_int (P := P) hT.key es.isEmpty hk w
  rcases hM.find (P := P) hT.key hC hk w with ⟨h1, h2, h3⟩ | ⟨j, e0, h1, h2, h3, h4, h5⟩
  · simp [Instr.lookup, run_underlying hT.und, MapKept.run_getObj_map hb, hck, h1, hT.zeroV, Result.andThen, h3]
    try (cases ok <;> simp)
  · simp [Instr.lookup, run_underlying hT.und, MapKept.run_getObj_map hb, hck, h1, Result.andThen, h4]
    cases ok <;> simp [h5]
theorem Val.lookT {t kt e : TypeId} {m x : Operand} (hT : MapTy P t kt e) (hm : evO env m = some (.map (some b))) (hmap : MapW w b C) {k : Nat} (hx : evO env x = some (I k)) (hk : k ≤ 9223372036854775807) (hC : C.length ≤ 9223372036854775807) :
    Val P env w (.lookup t m x true) ty (.tuple #[St (tx C k), .bool (!(tx C k).isEmpty)]) := fun _ a ho d pos after g => by
  simp [execOp, ho.eval hm, ho.eval hx, run_lookT hT hmap hk hC, Result.andThen]
theorem Val.look1 {t kt e : TypeId} {m x : Operand} (hT : MapTy P t kt e) (hm : evO env m = some (.map (some b))) (hmap : MapW w b C) {k : Nat} (hx : evO env x = some (I k)) (hk : k ≤ 9223372036854775807) (hC : C.length ≤ 9223372036854775807) :
    Val P env w (.lookup t m x false) ty (St (tx C k)) := fun _ a ho d pos after g => by
  simp [execOp, ho.eval hm, ho.eval hx, run_lookT hT hmap hk hC, Result.andThen]
theorem Val.mlen {t kt e : TypeId} {m : Operand} (hT : MapTy P t kt e) (hm : evO env m = some (.map (some b))) (hmap : MapW w b C) : Val P env w (.call ⟨.builtin .len, #[m], #[t]⟩) ty (I (keysT C).length) := fun _ a ho d pos after g => by
  obtain ⟨es, clock, hb, hM⟩ := hmap
  simp [execOp, resolve, invoke, builtin, Builtin.len_, ho.eval hm, run_underlying hT.und, MapKept.run_getObj_map hb, goInt, Result.andThen, hM.size]
theorem Eff.mclear {t kt e : TypeId} {m : Operand} (hT : MapTy P t kt e) (hm : evO env m = some (.map (some b))) (hmap : MapW w b C) : Eff P env w (.call ⟨.builtin .clear, #[m], #[t]⟩) ty (fun _ w' => MapW w' b (List.replicate C.length []) ∧ w.grownBy w' (some b)) :=
  Eff.of_run fun _ a ho d pos after g => by
    obtain ⟨es, clock, hb, hM⟩ := hmap
    refine ⟨.tuple #[], setBlock w b (.map #[] clock), ?_, ⟨_, _, heap_setBlock_same hb _, MapT.empty _ _⟩, ⟨rfl, rfl, rfl, by simp [setBlock], fun i _ hi => heap_setBlock_other hb _ (fun e => hi (by rw [e]))⟩⟩
    simp [execOp, resolve, invoke, builtin, Builtin.clear_, ho.eval hm, run_underlying hT.und, MapKept.run_getObj_map hb, MapKept.run_setObj_map _ hb, Result.andThen, setBlock]
end

/-! ### Ranges -/
/-- A range under way over the map at b: r its iterator, done the numbers met so far. -/
def ItW (w : World) (r b : Nat) (C : List Txt) (done : List Nat) : Prop := ∃ es clock since seen c0, w.heap[b]? = some (.map es clock) ∧ MapT es clock C ∧ w.heap[r]? = some (.mapIter (some b) since seen c0) ∧ (∀ e ∈ es.toList, e.born < since) ∧ since ≤ c0 ∧ since ≤ clock ∧
  (∀ e ∈ es.toList, seen.contains e.born = true ↔ ∃ k ∈ done, e.key = I (k : Nat)) ∧ (∀ pre k, done = pre ++ [k] → c0 = clock ∧ ∃ s0 : Array Nat, ∃ e ∈ es.toList, seen = s0.push e.born ∧ e.key = I (k : Nat)) ∧ done.Nodup ∧ ∀ k ∈ done, tx C k ≠ []
section
variable {P : Program} {env : Env} {w : World} {ty : TypeId} {b r : Nat} {C : List Txt} {done : List Nat}
theorem ItW.lt (h : ItW w r b C done) : r < w.heap.size ∧ b < w.heap.size := by obtain ⟨es, clock, since, seen, c0, h1, _, h2, _⟩ := h; exact ⟨lt_of_some h2, lt_of_some h1⟩
theorem ItW.keep {w' : World} (h : ItW w r b C done) (h1 : w'.heap[r]? = w.heap[r]?) (h2 : w'.heap[b]? = w.heap[b]?) : ItW w' r b C done := by
  obtain ⟨es, clock, since, seen, c0, a1, a2, a3, a4⟩ := h
  exact ⟨es, clock, since, seen, c0, h2.trans a1, a2, h1.trans a3, a4⟩
theorem ItW.map (h : ItW w r b C done) : MapW w b C := by obtain ⟨es, clock, since, seen, c0, a1, a2, _⟩ := h; exact ⟨es, clock, a1, a2⟩
theorem Eff.mrange {t kt e : TypeId} {m : Operand} (hT : MapTy P t kt e) (hm : evO env m = some (.map (some b))) (hmap : MapW w b C) : Eff P env w (.range t m) ty (fun v w' => Below w.heap.size w w' ∧ v = .pointer (some ⟨w.heap.size, 0, none⟩) ∧ ItW w' w.heap.size b C []) :=
  Eff.of_run fun _ a ho d pos after g => by
    have hlt := hmap.lt
    obtain ⟨es, clock, hb, hM⟩ := hmap
    refine ⟨_, _, ?_, (Below.refl _ w).alloc (Nat.le_refl _) (.mapIter (some b) clock #[] clock), rfl, es, clock, clock, #[], clock, ((MapKept.heap_alloc w _).2 b hlt).trans hb, hM, (MapKept.heap_alloc w _).1, hM.low, Nat.le_refl _, Nat.le_refl _, fun e _ => by simp, fun pre k h => by simp at h, by simp, by simp⟩
    simp [execOp, ho.eval hm, run_range_map w t kt e b es clock hT.und hb, Result.andThen]
theorem Eff.mnext {x : Operand} (hx : evO env x = some (.pointer (some ⟨r, 0, none⟩))) (h : ItW w r b C done) : Eff P env w (.next x false) ty (fun v w' => w.grownBy w' (some r) ∧
    ((v = .tuple #[.bool false] ∧ ItW w' r b C done ∧ ∀ k, tx C k ≠ [] → k ∈ done) ∨ ∃ k, k ∉ done ∧ tx C k ≠ [] ∧ v = .tuple #[.bool true, I (k : Nat), St (tx C k)] ∧ ItW w' r b C (done ++ [k]))) :=
  Eff.of_run fun _ a ho d pos after g => by
    obtain ⟨es, clock, since, seen, c0, hb, hM, hr, hold, hsc, hsk, hseen, hlast, hnd, hmem⟩ := h
    have hrb : r ≠ b := fun e => by rw [e, hb] at hr; cases hr
    rcases run_next_at (P := P) w ty r b since c0 seen es clock hr hb hold hsc with ⟨h0, hrun⟩ | ⟨e, he, w1, hal, hrun⟩
    · refine ⟨_, w, by simp [execOp, ho.eval hx, hrun, Result.andThen], ⟨rfl, rfl, rfl, Nat.le_refl _, fun _ _ _ => rfl⟩, .inl ⟨rfl, ⟨es, clock, since, seen, c0, hb, hM, hr, hold, hsc, hsk, hseen, hlast, hnd, hmem⟩, fun k hk => ?_⟩⟩
      obtain ⟨e, hem, hek⟩ := hM.all k hk
      obtain ⟨k', hk', e2⟩ := (hseen e hem).1 (all_seen es seen h0 e hem)
      rw [hek] at e2
      rw [I_inj e2]; exact hk'
    · obtain ⟨hem, hes⟩ := mem_left he
      obtain ⟨k, h1, h2, h3⟩ := hM.ent e hem
      have hr1 : w1.heap[r]? = some (.mapIter (some b) since seen c0) := by rcases hal with rfl | rfl <;> exact hr
      have hb1 : w1.heap[b]? = some (.map es clock) := by rcases hal with rfl | rfl <;> exact hb
      have hset := MapKept.heap_set (o' := .mapIter (some b) since (seen.push e.born) clock) hr1
      have hkd : k ∉ done := fun hk => by
        have := (hseen e hem).2 ⟨k, hk, h2⟩
        rw [hes] at this; cases this
      refine ⟨_, _, by simp [execOp, ho.eval hx, hrun, Result.andThen]; exact ⟨rfl, rfl⟩, ?_, .inr ⟨k, hkd, h1, by rw [h2, h3], es, clock, since, seen.push e.born, clock, (hset.2 b (fun e1 => hrb e1.symm)).trans hb1, hM, hset.1, hold, hsk, hsk, fun x hx2 => ?_, fun pre k' hk' => ?_, ?_, ?_⟩⟩
      · rcases hal with rfl | rfl <;> exact ⟨rfl, rfl, rfl, by simp [setBlock], fun i _ hi => hset.2 i (fun e1 => hi (by rw [e1]))⟩
      · rw [contains_push, Bool.or_eq_true, hseen x hx2]
        constructor
        · rintro (⟨k', hk', h4⟩ | h4)
          · exact ⟨k', by simp [hk'], h4⟩
          · have := hM.born_inj hx2 hem (by simpa using h4)
            subst this
            exact ⟨k, by simp, h2⟩
        · rintro ⟨k', hk', h4⟩
          rcases List.mem_append.1 hk' with h5 | h5
          · exact .inl ⟨k', h5, h4⟩
          · simp at h5; subst h5
            right
            have := hM.key_inj hx2 hem (h4.trans h2.symm)
            subst this; simp
      · obtain ⟨rfl, e5⟩ := List.append_inj' hk' rfl
        simp at e5; subst e5
        exact ⟨rfl, seen, e, hem, rfl, h2⟩
      · rw [List.nodup_append]
        exact ⟨hnd, by simp, fun x hx2 y hy e6 => by simp at hy; subst hy; subst e6; exact hkd hx2⟩
      · intro k' hk'
        rcases List.mem_append.1 hk' with h5 | h5
        · exact hmem k' h5
        · simp at h5; subst h5; exact h1
theorem Val.mentry {x : Operand} {k : Nat} (hx : evO env x = some (.pointer (some ⟨r, 0, none⟩))) (h : ItW w r b C (done ++ [k])) : Val P env w (.entry x) ty (.tuple #[I (k : Nat), St (tx C k)]) := fun _ a ho d pos after g => by
  obtain ⟨es, clock, since, seen, c0, hb, hM, hr, hold, hsc, hsk, hseen, hlast, hnd, hmem⟩ := h
  obtain ⟨rfl, s0, e, he, rfl, hek⟩ := hlast done k rfl
  have hv := hM.val he hek
  have hrun := run_entry_at (P := P) w r b since s0 es c0 e hr hb he (List.pairwise_map.2 hM.born)
  rw [hek, hv.2] at hrun
  simp [execOp, ho.eval hx, hrun, Result.andThen]
end
end Go.Eng
