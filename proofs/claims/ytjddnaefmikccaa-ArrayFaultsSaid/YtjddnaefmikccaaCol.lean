/- Colours: which blocks a piece of memory lies in, and what a step may turn. No condition. -/
import Derived.Test.YtjddnaefmikccaaDraw2
set_option linter.unusedSimpArgs false
set_option linter.unusedVariables false
namespace Go.Eng
open Go Go.RowKit

/-- What holds as long as the blocks of F are as they are. -/
def Foot (Φ : World → Prop) (F : Nat → Prop) (w : World) : Prop := ∀ w' : World, w.heap.size ≤ w'.heap.size → (∀ k, F k → k < w.heap.size → w'.heap[k]? = w.heap[k]?) → Φ w'
section
variable {Φ Ψ : World → Prop} {F F' : Nat → Prop} {w w' : World}
theorem Foot.now (h : Foot Φ F w) : Φ w := h w (Nat.le_refl _) (fun _ _ _ => rfl)
theorem Foot.mono (h : Foot Φ F w) (hF : ∀ k, k < w.heap.size → F k → F' k) : Foot Φ F' w := fun w' hs hk => h w' hs fun k hf hl => hk k (hF k hl hf) hl
theorem Foot.keep (h : Foot Φ F w) (hs : w.heap.size ≤ w'.heap.size) (hk : ∀ k, F k → k < w.heap.size → w'.heap[k]? = w.heap[k]?) : Foot Φ F w' := fun w'' hs' hk' =>
  h w'' (Nat.le_trans hs hs') fun k hf hl => (hk' k hf (Nat.lt_of_lt_of_le hl hs)).trans (hk k hf hl)
theorem Foot.imp (h : Foot Φ F w) (hi : ∀ w' : World, w.heap.size ≤ w'.heap.size → Φ w' → Ψ w') : Foot Ψ F w := fun w' hs hk => hi w' hs (h w' hs hk)
theorem Foot.and (h : Foot Φ F w) (h' : Foot Ψ F w) : Foot (fun w => Φ w ∧ Ψ w) F w := fun w' hs hk => ⟨h w' hs hk, h' w' hs hk⟩
end

def hasC (I : List Nat) (i : Nat) : Bool := I.any (Nat.beq i)
def apartC (I J : List Nat) : Bool := I.all fun i => !hasC J i
theorem hasC_of_apart {I J : List Nat} (h : apartC I J = true) {i : Nat} (hi : hasC I i = true) : hasC J i = false := by
  simp only [apartC, hasC, List.all_eq_true, List.any_eq_true] at h hi
  obtain ⟨x, hx, hxi⟩ := hi
  have := h x hx
  have e : i = x := Nat.eq_of_beq_eq_true hxi
  subst e
  simpa [hasC] using this
theorem hasC_one {i j : Nat} : hasC [i] j = true ↔ j = i := by simp [hasC]
theorem hasC_mono {I J : List Nat} (h : I.all (hasC J) = true) {i : Nat} (hi : hasC J i = false) : hasC I i = false := by
  cases hc : hasC I i with
  | false => rfl
  | true =>
    simp only [hasC, List.any_eq_true] at hc
    obtain ⟨x, hx, hxi⟩ := hc
    have e : i = x := Nat.eq_of_beq_eq_true hxi
    subst e
    have := List.all_eq_true.1 h _ hx
    rw [hi] at this; cases this

/-- A step: blocks of the colours I may have turned, others not; new ones have come. -/
structure Mv (c : Nat → Nat) (w : World) (c' : Nat → Nat) (w' : World) (I : List Nat) : Prop where
  os : w'.os = w.os
  tape : w'.tape = w.tape
  output : w'.output = w.output
  size : w.heap.size ≤ w'.heap.size
  col : ∀ k, k < w.heap.size → c' k = c k
  block : ∀ k, k < w.heap.size → hasC I (c k) = false → w'.heap[k]? = w.heap[k]?
def ext (c : Nat → Nat) (n i : Nat) : Nat → Nat := fun k => if k < n then c k else i
theorem ext_lt {c : Nat → Nat} {n i k : Nat} (h : k < n) : ext c n i k = c k := by simp [ext, h]
theorem ext_ge {c : Nat → Nat} {n i k : Nat} (h : n ≤ k) : ext c n i k = i := by simp [ext]; omega
section
variable {c c' c'' : Nat → Nat} {w w' w'' : World} {I J K : List Nat}
theorem Mv.refl (c : Nat → Nat) (w : World) (I : List Nat) : Mv c w c w I := ⟨rfl, rfl, rfl, Nat.le_refl _, fun _ _ => rfl, fun _ _ _ => rfl⟩
theorem Mv.drew (c : Nat → Nat) (w : World) (I : List Nat) : Mv c w c w.drew I := ⟨rfl, rfl, rfl, Nat.le_refl _, fun _ _ => rfl, fun _ _ _ => rfl⟩
theorem Mv.tr (h : Mv c w c' w' I) (h' : Mv c' w' c'' w'' J) (hi : J.all (hasC I) = true) : Mv c w c'' w'' I :=
  ⟨h'.os.trans h.os, h'.tape.trans h.tape, h'.output.trans h.output, Nat.le_trans h.size h'.size, fun k hk => (h'.col k (Nat.lt_of_lt_of_le hk h.size)).trans (h.col k hk),
   fun k hk hc => (h'.block k (Nat.lt_of_lt_of_le hk h.size) (by rw [h.col k hk]; exact hasC_mono hi hc)).trans (h.block k hk hc)⟩
theorem Mv.more (h : Mv c w c' w' I) (hi : I.all (hasC J) = true) : Mv c w c' w' J := { h with block := fun k hk hc => h.block k hk (hasC_mono hi hc) }
theorem Mv.pure (c : Nat → Nat) (i : Nat) (h : Below w.heap.size w w') : ∃ c', Mv c w c' w' [] ∧ ∀ k, w.heap.size ≤ k → c' k = i :=
  ⟨ext c w.heap.size i, ⟨h.os, h.tape, h.output, h.size, fun k hk => ext_lt hk, fun k hk _ => h.block k hk⟩, fun k hk => ext_ge hk⟩
theorem Mv.grown {i : Nat} {r : Option Nat} (c : Nat → Nat) (j : Nat) (h : w.grownBy w' r) (hr : ∀ k, r = some k → c k = i) : ∃ c', Mv c w c' w' [i] ∧ ∀ k, w.heap.size ≤ k → c' k = j :=
  ⟨ext c w.heap.size j, ⟨h.os, h.tape, h.output, h.size, fun k hk => ext_lt hk, fun k hk hc => h.block k hk (fun e => by
    have := hr k e.symm
    rw [this] at hc; simp [hasC] at hc)⟩, fun k hk => ext_ge hk⟩

/-- A block known whole, of a colour. -/
structure BlkC (c : Nat → Nat) (w : World) (i b : Nat) (cs : List Value) (t : TypeId) : Prop where
  blk : Blk w b cs t
  col : c b = i
/-- A row of one's own, of a colour. -/
structure OwnC (c : Nat → Nat) (w : World) (i : Nat) (e : TypeId) (size : Nat) (v : Value) (n : Nat) (xs : List Value) : Prop where
  own : Own w 0 e size v n xs
  col : ∀ k, v.rowOf = some k → c k = i
/-- What holds as long as the blocks of some colours are as they are. -/
def FtC (Φ : World → Prop) (c : Nat → Nat) (w : World) (I : List Nat) : Prop := Foot Φ (fun k => hasC I (c k) = true) w
abbrev RdC {α : Type} (s : Shape α) (c : Nat → Nat) (w : World) (I : List Nat) (v : Value) (l : List α) : Prop := FtC (fun w' => RdS s w'.heap.size w' v l) c w I
structure CelC (c : Nat → Nat) (w : World) (I : List Nat) (p : Addr) (cs : List Value) : Prop where
  cel : Cel w p cs
  col : hasC I (c p.block) = true
/-- What was there at the start. -/
structure OldC (w0 : World) (c : Nat → Nat) (w : World) : Prop where
  below : Below w0.heap.size w0 w
  col : ∀ k, k < w0.heap.size → c k = 0
theorem OldC.le {w0 : World} (h : OldC w0 c w) : w0.heap.size ≤ w.heap.size := h.below.size

theorem BlkC.mv {i b : Nat} {cs : List Value} {t : TypeId} (h : BlkC c w i b cs t) (m : Mv c w c' w' I) (hi : hasC I i = false := by rfl) : BlkC c' w' i b cs t :=
  have hlt := h.blk.lt
  ⟨(m.block b hlt (by rw [h.col]; exact hi)).trans h.blk, (m.col b hlt).trans h.col⟩
theorem OwnC.mv {i : Nat} {e : TypeId} {size n : Nat} {v : Value} {xs : List Value} (h : OwnC c w i e size v n xs) (m : Mv c w c' w' I) (hi : hasC I i = false := by rfl) : OwnC c' w' i e size v n xs :=
  ⟨h.own.keepB fun k hk => m.block k (h.own.lt k hk).2 (by rw [h.col k hk]; exact hi), fun k hk => (m.col k (h.own.lt k hk).2).trans (h.col k hk)⟩
theorem FtC.mv {Φ : World → Prop} (h : FtC Φ c w J) (m : Mv c w c' w' I) (hi : apartC J I = true := by rfl) : FtC Φ c' w' J := by
  intro w'' hs hk
  refine h w'' (Nat.le_trans m.size hs) fun k hf hl => ?_
  rw [hk k (by show hasC J (c' k) = true; rw [m.col k hl]; exact hf) (Nat.lt_of_lt_of_le hl m.size), m.block k hl (hasC_of_apart hi hf)]
theorem FtC.imp {Φ Ψ : World → Prop} (h : FtC Φ c w J) (hi : ∀ w' : World, w.heap.size ≤ w'.heap.size → Φ w' → Ψ w') : FtC Ψ c w J := Foot.imp h hi
theorem FtC.now {Φ : World → Prop} (h : FtC Φ c w J) : Φ w := Foot.now h
theorem FtC.more {Φ : World → Prop} (h : FtC Φ c w J) (hi : J.all (hasC K) = true) : FtC Φ c w K := Foot.mono h fun k _ hk => by
  cases hc : hasC K (c k) with
  | true => rfl
  | false => rw [hasC_mono hi hc] at hk; cases hk
theorem CelC.mv {p : Addr} {cs : List Value} (h : CelC c w J p cs) (m : Mv c w c' w' I) (hi : apartC J I = true := by rfl) : CelC c' w' J p cs :=
  ⟨⟨h.cel.1.keep (m.block _ h.cel.2 (hasC_of_apart hi h.col)), Nat.lt_of_lt_of_le h.cel.2 m.size⟩, by rw [m.col _ h.cel.2]; exact h.col⟩
theorem OldC.mv {w0 : World} (h : OldC w0 c w) (m : Mv c w c' w' I) (hi : hasC I 0 = false := by rfl) : OldC w0 c' w' :=
  ⟨⟨m.os.trans h.below.os, m.tape.trans h.below.tape, m.output.trans h.below.output, Nat.le_trans h.le m.size, fun k hk => (m.block k (Nat.lt_of_lt_of_le hk h.le) (by rw [h.col k hk]; exact hi)).trans (h.below.block k hk)⟩,
   fun k hk => (m.col k (Nat.lt_of_lt_of_le hk h.le)).trans (h.col k hk)⟩
/-- The start. -/
theorem OldC.start (w : World) : ∃ c : Nat → Nat, OldC w c w ∧ ∀ k, c k = 0 := ⟨fun _ => 0, ⟨Below.refl _ _, fun _ _ => rfl⟩, fun _ => rfl⟩
theorem Rd.toC {α : Type} {s : Shape α} {v : Value} {l : List α} (h : Rd s w v l) (hc : ∀ k, k < w.heap.size → hasC I (c k) = true) : RdC s c w I v l := fun w' hs hk =>
  (RdS.keep h (fun k hl => hk k (hc k hl) hl)).mono hs
theorem toC_of {α : Type} {s : Shape α} {cs : List Value} {x : α} (h : s.rd w.heap.size w cs x) (hc : ∀ k, k < w.heap.size → hasC I (c k) = true) : FtC (fun w' => s.rd w'.heap.size w' cs x) c w I := fun w' hs hk =>
  s.mono hs (s.keep (fun k hl => hk k (hc k hl) hl) h)

/-- The blocks that a reading uses are of its footprint. -/
theorem Foot.elF {α : Type} {s : Shape α} {F : Nat → Prop} {v : Value} {l : List α} (h : Foot (fun w' => RdS s w'.heap.size w' v l) F w) {k : Nat} (hk : k < l.length) (h0 : 0 < s.size) : F (elemA v s.size k).block := by
  apply Classical.byContradiction
  intro hn
  have hp : (elemA v s.size k).block < w.heap.size := h.now.blockA hk
  have h1 := h { w with heap := w.heap.setIfInBounds (elemA v s.size k).block (.stringIter ⟨#[]⟩ 0) } (by simp) (fun j hj hl => by
    have : (elemA v s.size k).block ≠ j := fun e => hn (e ▸ hj)
    simp [Array.getElem?_setIfInBounds_ne this])
  obtain ⟨cs, hcs, hrd⟩ := h1.at (List.getElem?_eq_getElem hk)
  have hl := s.len hrd
  have h2 := hcs 0 _ (List.getElem?_eq_getElem (by omega))
  rw [add_zero] at h2
  simp [World.cell?, hp] at h2

theorem RdC.el {α : Type} {s : Shape α} {v : Value} {l : List α} (h : RdC s c w J v l) {k : Nat} (hk : k < l.length) (h0 : 0 < s.size) :
    ∃ cs, CelC c w J (elemA v s.size k) cs ∧ cs.length = s.size ∧ FtC (fun w' => s.rd w'.heap.size w' cs l[k]) c w J := by
  have hF := Foot.elF h hk h0
  obtain ⟨cs, h1, h2⟩ := h.now.at (List.getElem?_eq_getElem hk)
  have hb := h.now.blockA hk
  refine ⟨cs, ⟨⟨h1, hb⟩, hF⟩, s.len h2, fun w' hs hkp => ?_⟩
  obtain ⟨cs', h3, h4⟩ := (h w' hs hkp).at (List.getElem?_eq_getElem hk)
  have e : cs' = cs := by
    have hl' := s.len h4
    have hl := s.len h2
    refine List.ext_getElem? fun j => ?_
    rcases Nat.lt_or_ge j s.size with hj | hj
    · have a1 := h3 j _ (List.getElem?_eq_getElem (by omega))
      have a2 := h1 j _ (List.getElem?_eq_getElem (by omega))
      have : w'.cell? ((elemA v s.size k).add j) = w.cell? ((elemA v s.size k).add j) := World.cell?_of_block (by rw [add_block]; exact hkp _ hF hb)
      rw [this, a2] at a1
      rw [List.getElem?_eq_getElem (by omega), List.getElem?_eq_getElem (by omega)]
      exact a1.symm
    · rw [List.getElem?_eq_none (by omega), List.getElem?_eq_none (by omega)]
  rw [← e]; exact h4
theorem RdC.elFlat {α : Type} {n : Nat} {enc : α → List Value} {ok : α → Prop} {h0 : ∀ x, (enc x).length = n} {h1 : ∀ x, ∀ u ∈ enc x, u.oneCell' = true} {v : Value} {l : List α} (h : RdC (Shape.flat n enc ok h0 h1) c w J v l) {k : Nat} (hk : k < l.length) (hn : 0 < n) :
    CelC c w J (elemA v n k) (enc l[k]) ∧ ok l[k] := by
  obtain ⟨cs, hc, _, hf⟩ := RdC.el h hk hn
  obtain ⟨rfl, ho⟩ := hf.now
  exact ⟨hc, ho⟩

/-- What a pure call made is of the colour that new blocks got. -/
theorem _root_.Go.Eng.Own.toC {w0 : World} {i : Nat} {e : TypeId} {size n : Nat} {v : Value} {xs : List Value} (h : Own w w0.heap.size e size v n xs) (hx : ∀ k, w0.heap.size ≤ k → c k = i) : OwnC c w i e size v n xs :=
  ⟨h.base_le (Nat.zero_le _), fun k hk => hx k (h.lt k hk).1⟩
theorem OwnC.nil (c : Nat → Nat) (w : World) (i : Nat) (e : TypeId) (size : Nat) : OwnC c w i e size (.slice none 0 0) 0 [] := ⟨Own.nil _ _ _ _, fun k hk => by simp [Value.rowOf] at hk⟩
theorem OwnC.cellsV {i : Nat} {e : TypeId} {size n : Nat} {v : Value} {xs : List Value} (h : OwnC c w i e size v n xs) : v.cells = #[v] := h.own.cellsV
theorem OwnC.oneC {i : Nat} {e : TypeId} {size n : Nat} {v : Value} {xs : List Value} (h : OwnC c w i e size v n xs) : v.oneCell' = true := h.own.oneC
theorem OwnC.foot {i : Nat} {e : TypeId} {size n : Nat} {v : Value} {xs : List Value} (h : OwnC c w i e size v n xs) : FtC (fun w' => Own w' 0 e size v n xs) c w [i] := fun w' hs hk =>
  h.own.keepB fun k hv => hk k (by show hasC [i] (c k) = true; rw [h.col k hv]; simp [hasC]) (h.own.lt k hv).2
/-- A row of one's own that is nested data reads as a list. -/
theorem OwnC.rd {α : Type} {s : Shape α} {i : Nat} {e : TypeId} {v : Value} {l : List α} {css : List (List Value)} (h : OwnC c w i e s.size v l.length css.flatten) (hsm : l.length ≤ 140737488355328) (hc : css.length = l.length)
    (hi : hasC J i = true) (he : ∀ (k : Nat) cs x, css[k]? = some cs → l[k]? = some x → FtC (fun w' => s.rd w'.heap.size w' cs x) c w J) : RdC s c w J v l := fun w' hs hk =>
  Own.rd hsm (h.own.keepB (w' := w') fun k hv => hk k (by show hasC J (c k) = true; rw [h.col k hv]; exact hi) (h.own.lt k hv).2) rfl hc fun k cs x h1 h2 => he k cs x h1 h2 w' hs hk
theorem OwnC.rdFlat {α : Type} {n' : Nat} {enc : α → List Value} {ok : α → Prop} {h0 : ∀ x, (enc x).length = n'} {h1 : ∀ x, ∀ u ∈ enc x, u.oneCell' = true} {i : Nat} {e : TypeId} {v : Value} {l : List α}
    (h : OwnC c w i e n' v l.length (l.flatMap enc)) (hsm : l.length ≤ 140737488355328) (hok : ∀ x ∈ l, ok x) : RdC (Shape.flat n' enc ok h0 h1) c w [i] v l := fun w' hs hk =>
  Own.rdFlat hsm (h.foot w' hs hk) hok
end

/-! ### Operations -/
section
variable {P : Program} {env : Env} {w : World} {ty : TypeId} {c : Nat → Nat}
theorem NewB.toC {w' : World} {b : Nat} {cs : List Value} {t : TypeId} (h : NewB w w' b cs t) (c : Nat → Nat) (i : Nat) : ∃ c', Mv c w c' w' [] ∧ BlkC c' w' i b cs t := by
  obtain ⟨c', hm, hx⟩ := Mv.pure c i h.below
  exact ⟨c', hm, h.blk, hx b (Nat.le_of_eq h.at_.symm)⟩
theorem Eff.boxC {t : TypeId} {x : Operand} {cs : List Value} (c : Nat → Nat) (i : Nat) (hx : evO env x = some (.agg cs.toArray)) : Eff P env w (.box t x) ty (fun v w' => ∃ b c', v = .pointer (some ⟨b, 0, none⟩) ∧ Mv c w c' w' [] ∧ BlkC c' w' i b cs t) :=
  (Eff.box hx).mono fun v w' ⟨b, hv, hn⟩ => by obtain ⟨c', h⟩ := hn.toC c i; exact ⟨b, c', hv, h⟩
theorem Eff.box1C {t : TypeId} {x : Operand} {u : Value} (c : Nat → Nat) (i : Nat) (hx : evO env x = some u) (hv : u.cells = #[u]) : Eff P env w (.box t x) ty (fun v w' => ∃ b c', v = .pointer (some ⟨b, 0, none⟩) ∧ Mv c w c' w' [] ∧ BlkC c' w' i b [u] t) :=
  (Eff.box1 hx hv).mono fun v w' ⟨b, hv, hn⟩ => by obtain ⟨c', h⟩ := hn.toC c i; exact ⟨b, c', hv, h⟩
theorem Eff.allocC {t : TypeId} {z : List Value} (c : Nat → Nat) (i : Nat) (hz : zeroT P t = some z) : Eff P env w (.alloc t) ty (fun v w' => ∃ b c', v = .pointer (some ⟨b, 0, none⟩) ∧ Mv c w c' w' [] ∧ BlkC c' w' i b z t) :=
  (Eff.alloc hz).mono fun v w' ⟨b, hv, hn⟩ => by obtain ⟨c', h⟩ := hn.toC c i; exact ⟨b, c', hv, h⟩
theorem Eff.buildC {t e : TypeId} {size by_ n : Nat} {z : List Value} {parts : Array (Nat × Operand)} {vs : List Value} (c : Nat → Nat) (i : Nat) (ht : slT P t = some (e, size, by_, z)) (hx : evL env (parts.toList.map (·.2)) = some vs)
    (hz : (parts.toList.map (·.1)).zip vs = zipFrom 0 vs) (hlen : vs.length = n) (hsz : ∀ v ∈ vs, v.cells.size = size) (hn : Nat.blt 0 (n * size) = true) (hm : Nat.ble (n * size) 16777216 = true) :
    Eff P env w (.buildSlice t n parts) ty (fun v w' => ∃ b c', v = .slice (some ⟨b, 0, none⟩) n n ∧ Mv c w c' w' [] ∧ BlkC c' w' i b (vs.map (·.cells.toList)).flatten e) :=
  (Eff.buildSlice ht hx hz hlen hsz hn hm).mono fun v w' ⟨b, hv, hn⟩ => by obtain ⟨c', h⟩ := hn.toC c i; exact ⟨b, c', hv, h⟩
theorem Eff.build1C {t e : TypeId} {size by_ : Nat} {z : List Value} {x : Operand} {v : Value} {cs : List Value} (c : Nat → Nat) (i : Nat) (ht : slT P t = some (e, size, by_, z)) (hx : evO env x = some v) (hv : v.cells = cs.toArray) (hl : cs.length = size)
    (hn : Nat.blt 0 (1 * size) = true) (hm : Nat.ble (1 * size) 16777216 = true) : Eff P env w (.buildSlice t 1 #[(0, x)]) ty (fun v w' => ∃ b c', v = .slice (some ⟨b, 0, none⟩) 1 1 ∧ Mv c w c' w' [] ∧ BlkC c' w' i b cs e) :=
  (Eff.build1 ht hx hv hl hn hm).mono fun v w' ⟨b, hv, hn⟩ => by obtain ⟨c', h⟩ := hn.toC c i; exact ⟨b, c', hv, h⟩
theorem BlkC.own {i b n size : Nat} {cs : List Value} {t : TypeId} (h : BlkC c w i b cs t) (hl : cs.length = n * size) (hm : n ≤ 9223372036854775807) : OwnC c w i t size (.slice (some ⟨b, 0, none⟩) n n) n cs :=
  ⟨⟨hl, ownIn ⟨b, n, cs.toArray, (0, 0), rfl, Nat.zero_le _, h.blk, fun h => by simp at h, Nat.le_refl _, by rw [maxLen_eq]; exact hm, by simp [hl], by simp [← hl]⟩⟩, fun k hk => by
    simp only [Value.rowOf] at hk
    cases hb : Nat.beq n 0 <;> rw [hb] at hk <;> simp at hk
    rw [← hk]; exact h.col⟩
theorem Stored.mv {w' : World} {i b : Nat} {cs cs' : List Value} {t : TypeId} (h : Stored w w' b cs' t) (hb : BlkC c w i b cs t) : BlkC c w' i b cs' t ∧ Mv c w c w' [i] :=
  ⟨⟨h.blk, hb.col⟩, ⟨h.grown.os, h.grown.tape, h.grown.output, h.grown.size, fun _ _ => rfl, fun k hk hc => h.grown.block k hk (fun e => by
    injection e with e
    subst e
    rw [hb.col] at hc; simp [hasC] at hc)⟩⟩
theorem Eff.storeC {t T : TypeId} {x y : Operand} {i b j : Nat} {cs : List Value} {v : Value} (ht : sclT P t = true) (hx : evO env x = some (.pointer (some ⟨b, j, none⟩))) (hy : evO env y = some v) (hv : v.cells = #[v]) (h1 : v.oneCell' = true) (hb : BlkC c w i b cs T) (hi : Nat.blt j cs.length = true) :
    Eff P env w (.store t x y) ty (fun _ w' => BlkC c w' i b (cs.set j v) T ∧ Mv c w c w' [i]) := (Eff.storeB ht hx hy hv h1 hb.blk hi).mono fun _ _ h => h.mv hb
theorem Eff.storeNC {t T : TypeId} {n : Nat} {x y : Operand} {i b : Nat} {cs cs' : List Value} (ht : aggT P t = some n) (hx : evO env x = some (.pointer (some ⟨b, 0, none⟩))) (hy : evO env y = some (.agg cs'.toArray)) (hb : BlkC c w i b cs T) (hl : cs.length = n) (hl' : cs'.length = n)
    (h1 : ∀ v ∈ cs', v.oneCell' = true) : Eff P env w (.store t x y) ty (fun _ w' => BlkC c w' i b cs' T ∧ Mv c w c w' [i]) := (Eff.storeBN ht hx hy hb.blk hl hl' h1).mono fun _ _ h => h.mv hb
theorem BlkC.stX {t T : TypeId} {x y : Operand} {i b j : Nat} {cs : List Value} {v : Value} (hb : BlkC c w i b cs T) (ht : sclT P t = true) (hx : evO env x = some (.pointer (some ⟨b, j, none⟩))) (hy : evO env y = some v) (hv : v.cells = #[v]) (h1 : v.oneCell' = true) (hi : Nat.blt j cs.length = true)
    {S : (Nat → Nat) → World → Prop} (hS : ∀ w', BlkC c w' i b (cs.set j v) T → Mv c w c w' [i] → S c w') : Eff P env w (.store t x y) ty (fun _ w' => ∃ c', Mv c w c' w' [i] ∧ S c' w') :=
  (Eff.storeC ht hx hy hv h1 hb hi).mono fun _ w' h => ⟨c, h.2, hS w' h.1 h.2⟩
theorem App.mvC {w' : World} {i : Nat} {e : TypeId} {size n m : Nat} {v v' : Value} {xs ys : List Value} (h : App w w' 0 e size v v' m ys) (ho : OwnC c w i e size v n xs) : ∃ c', Mv c w c' w' [i] ∧ OwnC c' w' i e size v' m ys := by
  obtain ⟨c', hm, hx⟩ := Mv.grown c i h.grown ho.col
  refine ⟨c', hm, h.own, fun k hk => ?_⟩
  rcases h.at_ with e | e
  · rw [e] at hk
    rw [hm.col k (ho.own.lt k hk).2]
    exact ho.col k hk
  · rw [hk] at e; injection e with e
    exact hx k (Nat.le_of_eq e.symm)
theorem Eff.appendC {s x : Operand} {t u e : TypeId} {size by_ : Nat} {z : List Value} (ht : slT P t = some (e, size, by_, z)) {i : Nat} {v xv : Value} {n m : Nat} {xs news : List Value}
    (hs : evO env s = some v) (hx : evO env x = some xv) (hown : OwnC c w i e size v n xs) (hsrc : Src P w u size xv m news) (h63 : n + m ≤ maxLen) (hby : (n + m) * by_ ≤ 140737488355328) :
    Eff P env w (.call ⟨.builtin .append, #[s, x], #[t, u]⟩) ty (fun v' w' => ∃ c', Mv c w c' w' [i] ∧ OwnC c' w' i e size v' (n + m) (xs ++ news)) :=
  (Eff.append ht hs hx hown.own hsrc h63 hby (Nat.zero_le _)).mono fun _ _ h => h.mvC hown
theorem Eff.storeOC {t e : TypeId} {x y : Operand} {i n : Nat} {sv : Value} {xs : List Value} {j : Nat} {v : Value} (ht : sclT P t = true) (hown : OwnC c w i e 1 sv n xs) (hi : j < n) (hx : evO env x = some (.pointer (some (elemA sv 1 j)))) (hy : evO env y = some v)
    (hv : v.cells = #[v]) (h1 : v.oneCell' = true) : Eff P env w (.store t x y) ty (fun _ w' => OwnC c w' i e 1 sv n (xs.set j v) ∧ Mv c w c w' [i]) :=
  (Eff.storeOwn ht hown.own hi hx hy hv h1).mono fun _ w' ⟨ho, hg, hs⟩ => ⟨⟨ho, hown.col⟩, ⟨hg.os, hg.tape, hg.output, hg.size, fun _ _ => rfl, fun k hk hc => hg.block k hk (fun e => by
    rw [hown.col k e.symm] at hc; simp [hasC] at hc)⟩⟩
theorem Eff.makeC {t e : TypeId} {size by_ : Nat} {z : List Value} {x y : Operand} {kl kc : IntKind} {n : Int} (c : Nat → Nat) (i : Nat) (ht : slT P t = some (e, size, by_, z)) (hx : evO env x = some (.int kl n)) (hy : evO env y = some (.int kc n)) (h0 : 0 ≤ n) (hb : n * by_ ≤ 281474976710656) (h63 : n ≤ 9223372036854775807) :
    Eff P env w (.makeSlice t x y) ty (fun v w' => ∃ c', Mv c w c' w' [] ∧ OwnC c' w' i e size v n.toNat (List.replicate n.toNat z).flatten) :=
  (Eff.make ht hx hy h0 hb h63).mono fun v w' ⟨_, ho, hb, _⟩ => by
    obtain ⟨c', hm, hx⟩ := Mv.pure c i hb
    exact ⟨c', hm, ho.toC hx⟩
theorem Eff.toBytesC {src dst e : TypeId} {x : Operand} {l : List UInt8} (c : Nat → Nat) (i : Nat) (hs : P.underlying src = some .string) (hd : P.underlying dst = some (.slice e)) (he : P.underlying e = some (.int .u8)) (hx : evO env x = some (St l)) (h : l.length ≤ maxLen) :
    Eff P env w (.convert src dst x) ty (fun v w' => ∃ c', Mv c w c' w' [] ∧ OwnC c' w' i e 1 v l.length (bytesV l)) :=
  (Eff.toBytes hs hd he hx h).mono fun v w' ⟨ho, hb, _⟩ => by
    obtain ⟨c', hm, hx⟩ := Mv.pure c i hb
    exact ⟨c', hm, ho.toC hx⟩
theorem Eff.val {op : Op} {v : Value} (h : Val P env w op ty v) : Eff P env w op ty (fun v' w' => v' = v ∧ w' = w) := Eff.of_run fun n a ho d pos after g => ⟨v, w, h n a ho d pos after g, rfl, rfl⟩
/-- A call that makes new memory alone. -/
theorem Eff.pureC {op : Op} {S : Value → World → Prop} (c : Nat → Nat) (i : Nat) (h : Eff P env w op ty (fun v w' => Below w.heap.size w w' ∧ S v w')) :
    Eff P env w op ty (fun v w' => ∃ c', Mv c w c' w' [] ∧ (∀ k, w.heap.size ≤ k → c' k = i) ∧ S v w') :=
  h.mono fun _ _ ⟨hb, hs⟩ => by
    obtain ⟨c', hm, hx⟩ := Mv.pure c i hb
    exact ⟨c', hm, hx, hs⟩
end

/-! ### Drawn regions: what stays of the region's first world -/
def Kp (c : Nat → Nat) (w0 : World) (J : List Nat) (W : World) : Prop := w0.heap.size ≤ W.heap.size ∧ ∀ k, k < w0.heap.size → hasC J (c k) = false → W.heap[k]? = w0.heap[k]?
section
variable {c c1 c2 : Nat → Nat} {w0 w1 w2 W : World} {I J K : List Nat}
theorem Mv.kp (h : Mv c w0 c1 w1 J) : Kp c w0 J w1 := ⟨h.size, h.block⟩
theorem Kp.step (h : Kp c w0 J w1) (hc : Mv c w0 c1 w1 J) (m : Mv c1 w1 c2 w2 I) (hi : I.all (hasC J) = true) : Kp c w0 J w2 :=
  ⟨Nat.le_trans h.1 m.size, fun k hk hj => (m.block k (Nat.lt_of_lt_of_le hk h.1) (by rw [hc.col k hk]; exact hasC_mono hi hj)).trans (h.2 k hk hj)⟩
theorem BlkC.kp {i b : Nat} {cs : List Value} {t : TypeId} (h : BlkC c w0 i b cs t) (hW : Kp c w0 J W) (hi : hasC J i = false) : BlkC c W i b cs t :=
  ⟨(hW.2 b h.blk.lt (by rw [h.col]; exact hi)).trans h.blk, h.col⟩
theorem CelC.kp {p : Addr} {cs : List Value} (h : CelC c w0 K p cs) (hW : Kp c w0 J W) (hi : apartC K J = true) : CelC c W K p cs :=
  ⟨⟨h.cel.1.keep (hW.2 _ h.cel.2 (hasC_of_apart hi h.col)), Nat.lt_of_lt_of_le h.cel.2 hW.1⟩, h.col⟩
theorem OwnC.kp {i : Nat} {e : TypeId} {size n : Nat} {v : Value} {xs : List Value} (h : OwnC c w0 i e size v n xs) (hW : Kp c w0 J W) (hi : hasC J i = false) : OwnC c W i e size v n xs :=
  ⟨h.own.keepB fun k hk => hW.2 k (h.own.lt k hk).2 (by rw [h.col k hk]; exact hi), h.col⟩
end
/-! ### Rows of one's own, read -/
section
variable {P : Program} {env : Env} {w wr : World} {ty : TypeId} {c : Nat → Nat}
theorem Val.olen {x : Operand} {t e e' : TypeId} {sz by_ : Nat} {z : List Value} {i size n : Nat} {v : Value} {xs : List Value} (ht : slT P t = some (e, sz, by_, z)) (hr : OwnC c wr i e' size v n xs) (hx : evO env x = some v) : Val P env w (.call ⟨.builtin .len, #[x], #[t]⟩) ty (I n) := by
  obtain ⟨A, cp, rfl, _⟩ := hr.own.len
  exact Val.sllen (slT_spec ht).1 hx
theorem Val.indexO {x y : Operand} {t e e' : TypeId} {sz by_ : Nat} {z : List Value} {k : IntKind} {j : Int} {i n : Nat} {v : Value} {xs : List Value} (ht : slT P t = some (e, sz, by_, z)) (hr : OwnC c wr i e' sz v n xs) (hx : evO env x = some v) (hy : evO env y = some (.int k j))
    (h0 : 0 ≤ j) (h1 : j < n) : Val P env w (.indexAddr t x y) ty (.pointer (some (elemA v sz j.toNat))) := fun _ a ho d pos after g => by
  rcases hr.own.2 with ⟨hn, A, rfl⟩ | ⟨b, cap, cur, fz, rfl, _⟩
  · omega
  · simp [execOp, ho.eval hx, ho.eval hy, run_indexAt ht h0 h1, elemA]
end
end Go.Eng
