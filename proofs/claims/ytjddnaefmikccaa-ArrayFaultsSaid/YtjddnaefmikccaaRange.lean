/- Ranges over functions: an iterator's contract, the statement's rule. Colour 901: what the statement itself lays. No condition. -/
import Derived.Test.YtjddnaefmikccaaCol
import Derived.RangeFuncRecord
import Derived.RangeFuncIn
import Derived.RangeFuncSeq
set_option linter.unusedSimpArgs false
set_option linter.unusedVariables false
namespace Go.Eng
open Go Go.RowKit

/-- What a stretch has turned so far. -/
structure Acc (c : Nat → Nat) (w : World) (K : List Nat) (c' : Nat → Nat) (w' : World) : Prop where
  mvs : Mv c w c' w' K
theorem Acc.refl (c : Nat → Nat) (w : World) (K : List Nat) : Acc c w K c w := ⟨Mv.refl _ _ _⟩
theorem Acc.mv {c c1 c2 : Nat → Nat} {w w1 w2 : World} {K I : List Nat} (h : Acc c w K c1 w1) (m : Mv c1 w1 c2 w2 I) (hi : I.all (hasC K) = true := by rfl) : Acc c w K c2 w2 := ⟨h.mvs.tr m hi⟩

/-- The block for the rounds' deferred calls: there are none. -/
structure DefC (c : Nat → Nat) (w : World) (D : Nat) : Prop where
  obj : w.heap[D]? = some (.deferred (some []))
  col : c D = 901
theorem lt_of_some {w : World} {k : Nat} {o : Obj} (h : w.heap[k]? = some o) : k < w.heap.size := (Array.getElem?_eq_some_iff.1 h).1
theorem DefC.mv {c c' : Nat → Nat} {w w' : World} {D : Nat} {I : List Nat} (h : DefC c w D) (m : Mv c w c' w' I) (hi : hasC I 901 = false := by rfl) : DefC c' w' D :=
  have hlt := lt_of_some h.obj
  ⟨(m.block D hlt (by rw [h.col]; exact hi)).trans h.obj, (m.col D hlt).trans h.col⟩
theorem putObj_mv {c : Nat → Nat} {w : World} {l i : Nat} (o : Obj) (hc : c l = i) : Mv c w c (w.putObj l o) [i] :=
  ⟨rfl, rfl, rfl, by simp, fun _ _ => rfl, fun k _ hk => World.putObj_heap_other (fun e => by subst e; rw [hc] at hk; simp [hasC] at hk)⟩
theorem DefC.take {c : Nat → Nat} {w : World} {D : Nat} (h : DefC c w D) : Takes (marksOf (.tuple #[I D])) w (w.putObj D (.deferred none)) ∧ Mv c w c (w.putObj D (.deferred none)) [901] :=
  ⟨⟨D, rfl, h.obj, rfl⟩, putObj_mv _ h.col⟩

theorem apart_cons {I K : List Nat} {j : Nat} (h : hasC I j = false) (hK : apartC I K = true) : apartC I (j :: K) = true := by
  simp only [apartC, List.all_eq_true, Bool.not_eq_true'] at hK ⊢
  intro i hi
  have a1 := hK i hi
  have a2 : Nat.beq i j = false := by
    cases hb : Nat.beq i j with
    | false => rfl
    | true =>
      have e := Nat.eq_of_beq_eq_true hb
      subst e
      have := List.any_eq_false.1 h i hi
      simp at this
  simp only [hasC, List.any_cons] at a1 ⊢
  rw [a1, a2]; rfl
/-- An iterator's contract: it hands the list's values to yield, one by one, till one says no; it turns blocks of the colours κ alone, if those of κ and F are left as they are. -/
def IterC (P : Program) (gf : FuncId) (lb : List Value) {α : Type} (encs : α → List Value) (κ F : List Nat) (L : List α) (c : Nat → Nat) (w : World) : Prop :=
  ∀ (l : Nat) (J Jx : List α → (Nat → Nat) → World → Prop) (c1 : Nat → Nat) (W : World) (K : List Nat), Mv c w c1 W K → apartC (κ ++ F) K = true →
    (∀ s d A d' B, J s d A → Mv d A d' B κ → J s d' B) → (∀ s d A d' B, Jx s d A → Mv d A d' B κ → Jx s d' B) →
    (∀ pre x d A, J pre d A → pre ++ [x] <+: L → ∃ K', apartC (κ ++ F) K' = true ∧ YieldAt (FW none) 0 P l (encs x).toArray A (fun e B => ∃ b d', e = .returned (.bool b) ∧ Mv d A d' B K' ∧ (b = true → J (pre ++ [x]) d' B) ∧ (b = false → Jx (pre ++ [x]) d' B))) →
    J [] c1 W →
    Calls P gf ([Value.func (.yield l) #[] #[]] ++ lb).toArray W (Ret fun _ B => ∃ d', J L d' B ∨ ∃ pre, Jx pre d' B)

/-- .. where what is handed out is known by a relation only (new rows, of a place unknown ahead). -/
def IterQ (P : Program) (gf : FuncId) (lb : List Value) {α : Type} (encs : α → List Value) (κ F : List Nat) (Q : List α → α → (Nat → Nat) → World → Prop) (Fin : List α → Prop) (c : Nat → Nat) (w : World) : Prop :=
  ∀ (l : Nat) (J Jx : List α → (Nat → Nat) → World → Prop) (c1 : Nat → Nat) (W : World) (K : List Nat), Mv c w c1 W K → apartC (κ ++ F) K = true →
    (∀ s d A d' B, J s d A → Mv d A d' B κ → J s d' B) → (∀ s d A d' B, Jx s d A → Mv d A d' B κ → Jx s d' B) →
    (∀ pre x d A, J pre d A → Q pre x d A → ∃ K', apartC (κ ++ F) K' = true ∧ YieldAt (FW none) 0 P l (encs x).toArray A (fun e B => ∃ b d', e = .returned (.bool b) ∧ Mv d A d' B K' ∧ (b = true → J (pre ++ [x]) d' B) ∧ (b = false → Jx (pre ++ [x]) d' B))) →
    J [] c1 W →
    Calls P gf ([Value.func (.yield l) #[] #[]] ++ lb).toArray W (Ret fun _ B => ∃ d', (∃ L, Fin L ∧ J L d' B) ∨ ∃ pre, Jx pre d' B)
theorem IterC.toQ {P : Program} {gf : FuncId} {lb : List Value} {α : Type} {encs : α → List Value} {κ F : List Nat} {L : List α} {c : Nat → Nat} {w : World} (h : IterC P gf lb encs κ F L c w) : IterQ P gf lb encs κ F (fun pre x _ _ => pre ++ [x] <+: L) (· = L) c w :=
  fun l J Jx c1 W K hM hK hJ hJx hy h0 => (h l J Jx c1 W K hM hK hJ hJx hy h0).mono fun _ _ ⟨v, hv, d', hd⟩ => ⟨v, hv, d', hd.imp (fun x => ⟨L, rfl, x⟩) id⟩

/-- A call of yield. -/
theorem Eff.yield {P : Program} {env : Env} {w : World} {ty : TypeId} {x : Operand} {l : Nat} {args : Array Operand} {at_ : Array TypeId} {vs : List Value} {S : Value → World → Prop} (hv : evO env x = some (.func (.yield l) #[] #[])) (hx : evL env args.toList = some vs)
    (hy : YieldAt (FW none) 0 P l vs.toArray w (fun e B => ∃ v, e = .returned v ∧ S v B)) : Eff P env w (.call ⟨.value x, args, at_⟩) ty S := by
  intro n a ho ro d pos after g K Q hK
  have hvs := ho.evalL hx
  have e : args.map a.eval = vs.toArray := by rw [← hvs]; apply Array.ext'; simp
  obtain ⟨fn, tmps, assign, body, h1, h2⟩ := hy
  have hr : (execOp a.eval ⟨d, .call ⟨.value x, args, at_⟩, ty, pos, after, g⟩).run P w = .ok (.round l fn tmps assign body) w := by
    simp [execOp, resolve, Deferred.ofValue, ho.eval hv, invoke, e, h1]
  refine ⟨fun _ _ => trivial, ?_⟩
  rw [show (FW ro).round = ro from rfl, semAt_eq hr (fun d => by simp), hr]
  have h3 : RoundIn (FW ro) (0 - 1) P l fn tmps assign body w (fun e B => ∃ v, e = .returned v ∧ S v B) := h2
  exact ⟨fun h => by simp [FW, Fence.wide] at h, h3.mono fun e w2 ⟨v, he, hs⟩ => by subst he; exact hK v w2 hs⟩

/-- .. where its answer is a bool. -/
theorem Eff.yieldB {P : Program} {env : Env} {w : World} {ty : TypeId} {x : Operand} {l : Nat} {args : Array Operand} {at_ : Array TypeId} {vs : List Value} {R : Bool → (Nat → Nat) → World → Prop} (hv : evO env x = some (.func (.yield l) #[] #[])) (hx : evL env args.toList = some vs)
    (hy : YieldAt (FW none) 0 P l vs.toArray w (fun e B => ∃ b d', e = .returned (.bool b) ∧ R b d' B)) : Eff P env w (.call ⟨.value x, args, at_⟩) ty (fun v B => ∃ b d', v = .bool b ∧ R b d' B) := by
  refine Eff.yield hv hx ?_
  obtain ⟨fn, tmps, assign, body, h1, h2⟩ := hy
  refine ⟨fn, tmps, assign, body, h1, ?_⟩
  exact h2.mono fun e w2 ⟨b, d', he, hs⟩ => ⟨_, he, b, d', rfl, hs⟩
theorem apart_of {I K : List Nat} {i : Nat} (h : apartC I K = true) (hi : i ∈ I) : hasC K i = false := by
  simp only [apartC, List.all_eq_true, Bool.not_eq_true'] at h
  exact h i hi
theorem apart_sub {I I' K : List Nat} (h : apartC I K = true) (hi : ∀ i ∈ I', i ∈ I) : apartC I' K = true := by
  simp only [apartC, List.all_eq_true, Bool.not_eq_true'] at h ⊢
  exact fun i hi' => h i (hi i hi')
/-- What the caller of an iterator knows between two rounds. -/
structure JC (J : (Nat → Nat) → World → Prop) (κ : List Nat) (c : Nat → Nat) (w : World) : Prop where
  now : J c w
  inv : ∀ d A d' B, J d A → Mv d A d' B κ → J d' B
theorem JC.mv {J : (Nat → Nat) → World → Prop} {κ I : List Nat} {c c' : Nat → Nat} {w w' : World} (h : JC J κ c w) (m : Mv c w c' w' I) (hi : I.all (hasC κ) = true := by rfl) : JC J κ c' w' := ⟨h.inv _ _ _ _ h.now (m.more hi), h.inv⟩
def bindP : List Nat → List Value → Env → Env
  | p :: ps, v :: vs, e => bindP ps vs ((p, v) :: e)
  | _, _, e => e
theorem bind_ok {n : Nat} : ∀ (ps : List Nat) (vs : List Value) (e : Env) (a : Act), EnvOk n e a → (∀ p ∈ ps, Nat.blt p n = true) → EnvOk n (bindP ps vs e) { tmps := (ps.zip vs).foldl (fun t (x : Nat × Value) => t.setIfInBounds x.1 x.2) a.tmps, defers := a.defers }
  | [], vs, e, a, h, _ => by simpa [bindP] using h
  | p :: ps, [], e, a, h, _ => by simpa [bindP] using h
  | p :: ps, v :: vs, e, a, h, hp => by
    have h1 := h.put (hp p (by simp)) v
    have := bind_ok ps vs _ _ h1 fun q hq => hp q (by simp [hq])
    simpa [bindP, Act.put] using this

/-- Where a round's body may go: on, out by an exit, out by a return. -/
abbrev Ways (α : Type) := List (Nat × (List α → (Nat → Nat) → World → Prop))
def waysK {α : Type} (X : Ways α) (K : List Nat) (xs : List α) (d : Nat → Nat) (A : World) : List (Nat × Kont) := X.map fun p => (p.1, fun _ B => ∃ d', Acc d A K d' B ∧ p.2 xs d' B)
theorem findK_ways {α : Type} {K : List Nat} {xs : List α} {d : Nat → Nat} {A : World} {id : Nat} {k : Kont} : ∀ {X : Ways α}, findK (waysK X K xs d A) id = some k → ∃ p ∈ X, p.1 = id ∧ k = fun _ B => ∃ d', Acc d A K d' B ∧ p.2 xs d' B
  | [], h => by simp [waysK, findK] at h
  | p :: X, h => by
    simp only [waysK, List.map_cons, findK] at h
    cases hb : Nat.beq p.1 id with
    | true =>
      rw [hb] at h
      exact ⟨p, by simp, Nat.eq_of_beq_eq_true hb, by simpa using h.symm⟩
    | false =>
      rw [hb] at h
      obtain ⟨q, hq, h2⟩ := findK_ways (X := X) (by simpa [waysK] using h)
      exact ⟨q, by simp [hq], h2⟩

/-- A mark's number. -/
abbrev I' (D : Nat) : Value := I (D : Int)
def recOf (fn : FuncId) (tmps : Array Value) (ps : Array Tmp) (assign body : Code) (D : Nat) (st : LoopState) (pe : Option Code) : Loop := { state := st, pending := pe, fn, tmps := tmps, params := ps, assign, body, defers := D }

section
variable {c : Cx} {B : List (Nat × Kont)} {env : Env} {w : World} {N : Kont}

/-- THE STATEMENT 'for .. := range g { .. }', outermost. -/
theorem WC.rangeFuncQ {α : Type} {g : Operand} {ps : Array Tmp} {assign body : Code} {gf : FuncId} {lb : List Value} {encs : α → List Value} {κ F : List Nat} {Q : List α → α → (Nat → Nat) → World → Prop} {Fin : List α → Prop} {c0 : Nat → Nat} {ms : List Value}
    (I : List α → (Nat → Nat) → World → Prop) (X : Ways α) (Xr : List α → (Nat → Nat) → World → Prop) (K : List Nat)
    (hr : c.rnd = none) (hg : evO env g = some (.func (.func gf) #[] lb.toArray)) (hf : plainFn c.P gf = true) (hit : IterQ c.P gf lb encs κ F Q Fin c0 w) (hκ : hasC (κ ++ F) 901 = false)
    (hps : ∀ x, (encs x).length = ps.size) (hpn : ps.all (fun p => Nat.blt p c.n) = true) (hK : (apartC (κ ++ F) K && !hasC K 901) = true)
    (hI : ∀ s d A d' B, I s d A → Mv d A d' B (901 :: κ) → I s d' B) (hX : ∀ p ∈ X, ∀ s d A d' B, p.2 s d A → Mv d A d' B (901 :: κ) → p.2 s d' B) (hXr : ∀ s d A d' B, Xr s d A → Mv d A d' B (901 :: κ) → Xr s d' B)
    (h0 : I [] c0 w)
    (round : ∀ l pre x d A, I pre d A → Q pre x d A → WC ⟨c.P, c.n, #[], fun _ _ => False, some l⟩ [] assign ((4000000, .tuple #[]) :: bindP ps.toList (encs x) env) A (fun e1 A1 => ∃ d1, Acc d A K d1 A1 ∧
      ∀ A2, Mv d1 A1 d1 A2 [901] → WC ⟨c.P, c.n, #[], fun _ B' => ∃ d', Acc d1 A2 K d' B' ∧ Xr (pre ++ [x]) d' B', some l⟩ (waysK X K (pre ++ [x]) d1 A2) body e1 A2 (fun _ B' => ∃ d', Acc d1 A2 K d' B' ∧ I (pre ++ [x]) d' B')))
    (done : ∀ L D d B', Fin L → I L d B' → DefC d B' D → N ((4000000, .tuple (I' D :: ms).toArray) :: env) B')
    (exits : ∀ p ∈ X, ∀ D pre d B', p.2 pre d B' → DefC d B' D → ∃ k, findK B p.1 = some k ∧ k ((4000000, .tuple (I' D :: ms).toArray) :: env) B')
    (rets : ∀ D pre d B', Xr pre d B' → DefC d B' D → WC c B .ret ((4000000, .tuple (I' D :: ms).toArray) :: env) B' N)
    (hm : lookM env = some (.tuple ms.toArray) := by rfl) : WC c B (.rangeFunc g ps assign body) env w N := by
  intro a ho
  have hpb : ∀ p ∈ ps.toList, Nat.blt p c.n = true := by
    rw [Array.all_eq_true'] at hpn
    intro p hp; exact hpn p (by simpa using hp)
  simp only [Bool.and_eq_true, Bool.not_eq_true'] at hK
  have hκ1 : hasC κ 901 = false := by
    simp only [hasC, List.any_append, Bool.or_eq_false_iff] at hκ
    exact hκ.1
  refine wpIn_rangeFunc ?_
  intro fn hfn
  rw [show (FW c.rnd).round = none from hr]
  obtain ⟨W1, hW1⟩ : ∃ W1, (w.alloc (.deferred (some []))).alloc (.loop (recOf fn a.tmps ps assign body w.heap.size .ready none)) = W1 := ⟨_, rfl⟩
  have hL1 : W1.heap[w.heap.size + 1]? = some (.loop (recOf fn a.tmps ps assign body w.heap.size .ready none)) := by
    rw [← hW1]; have := World.alloc_heap_new (w.alloc (.deferred (some []))) (.loop (recOf fn a.tmps ps assign body w.heap.size .ready none)); rwa [World.size_alloc] at this
  have hK1 : W1.heap[w.heap.size]? = some (.deferred (some [])) := by
    rw [← hW1]; exact (Below.heap_alloc _ _ _ (by simp)).trans (World.alloc_heap_new w _)
  have hb1 : Below w.heap.size w W1 := by
    rw [← hW1]; exact ((Below.refl _ w).alloc (Nat.le_refl _) _).alloc (by simp) _
  obtain ⟨c1, hm1, hx1⟩ := Mv.pure c0 901 hb1
  have hcD : c1 w.heap.size = 901 := hx1 _ (Nat.le_refl _)
  have hcl : c1 (w.heap.size + 1) = 901 := hx1 _ (by omega)
  have marks : ∀ (D : Nat), EnvOk c.n ((4000000, .tuple (I' D :: ms).toArray) :: env) { a with defers := { target := .collected D, args := #[] } :: a.defers } := fun D =>
    ⟨ho.bound, fun v hv => by
      have : Value.tuple (I' D :: ms).toArray = v := by simpa [lookM] using hv
      subst this
      rw [ho.defers _ hm]; simp [marksOf, I'], ho.size, fun k v hk => ho.vals k v (by
      unfold look at hk
      cases hb : Nat.beq 4000000 k with
      | true => rw [hb] at hk; simp at hk
      | false => rw [hb] at hk; simpa using hk)⟩
  refine ⟨w.heap.size + 1, [{ target := .collected w.heap.size, args := #[] }], W1, { target := .fn (.func gf) lb.toArray, args := #[.func (.yield (w.heap.size + 1)) #[] #[]] }, W1, gf,
    #[.func (.yield (w.heap.size + 1)) #[] #[]] ++ lb.toArray, W1, ?_, ?_, fun _ _ => trivial, ?_, fun h => by simp [FW, Fence.wide] at h, ?_⟩
  · rw [← hW1]; exact run_enterLoop_outer _ _ _ _ _
  · simp only [resolve, ho.eval hg]
    simp [go_sem]
  · simp [invoke, go_sem, callFunc_plain hf]
  · let LL := recOf fn a.tmps ps assign body w.heap.size
    have hst : ∀ {d : Nat → Nat} {A : World} {d' : Nat → Nat} {B' : World} {k : Nat} {o : Obj}, Mv d A d' B' κ → d k = 901 → A.heap[k]? = some o → d' k = 901 ∧ B'.heap[k]? = some o := fun m hd hk => by
      have hlt := lt_of_some hk
      exact ⟨(m.col _ hlt).trans hd, (m.block _ hlt (by rw [hd]; exact hκ1)).trans hk⟩
    have big : ∀ {d : Nat → Nat} {A : World} {d' : Nat → Nat} {B' : World}, Mv d A d' B' κ → Mv d A d' B' (901 :: κ) := fun m => m.more (by
      rw [List.all_eq_true]
      intro i hi
      simp only [hasC, List.any_cons, Bool.or_eq_true]
      exact .inr (List.any_eq_true.2 ⟨i, hi, by simp⟩))
    have big' : ∀ {d : Nat → Nat} {A : World} {d' : Nat → Nat} {B' : World}, Mv d A d' B' [901] → Mv d A d' B' (901 :: κ) := fun m => m.more (by simp [hasC])
    have hcall := hit (w.heap.size + 1)
      (fun pre d A => I pre d A ∧ (d (w.heap.size + 1) = 901 ∧ A.heap[w.heap.size + 1]? = some (.loop (LL .ready none))) ∧ d w.heap.size = 901 ∧ A.heap[w.heap.size]? = some (.deferred (some [])))
      (fun pre d A => ∃ j, ((j = .ret ∧ Xr pre d A) ∨ ∃ p ∈ X, j = .exit p.1 ∧ p.2 pre d A) ∧ (d (w.heap.size + 1) = 901 ∧ A.heap[w.heap.size + 1]? = some (.loop (LL .done (some j)))) ∧ d w.heap.size = 901 ∧ A.heap[w.heap.size]? = some (.deferred (some [])))
      c1 W1 [] hm1 (by simp [apartC, hasC])
      (fun s d A d' B' ⟨h1, h2, h3⟩ m => ⟨hI _ _ _ _ _ h1 (big m), hst m h2.1 h2.2, hst m h3.1 h3.2⟩)
      (fun s d A d' B' ⟨j, h1, h2, h3⟩ m => ⟨j, h1.imp (fun h => ⟨h.1, hXr _ _ _ _ _ h.2 (big m)⟩) (fun ⟨p, hp, e, h⟩ => ⟨p, hp, e, hX p hp _ _ _ _ _ h (big m)⟩), hst m h2.1 h2.2, hst m h3.1 h3.2⟩)
      ?_ ⟨hI _ _ _ _ _ h0 (hm1.more rfl), ⟨hcl, hL1⟩, hcD, hK1⟩
    · rw [show ([Value.func (.yield (w.heap.size + 1)) #[] #[]] ++ lb).toArray = #[.func (.yield (w.heap.size + 1)) #[] #[]] ++ lb.toArray by simp] at hcall
      have h1 : CallsIn (FW none) (0 - 1) c.P gf (#[.func (.yield (w.heap.size + 1)) #[] #[]] ++ lb.toArray) W1 _ := (callsIn_wide (n := 0)).2 hcall
      rw [hr]
      refine h1.mono ?_
      rintro e W2 ⟨v, rfl, d', (⟨L, hF, hi, hl, hk⟩ | ⟨pre, j, hj, hl, hk⟩)⟩
      · have hm2 : Mv d' W2 d' (W2.putObj (w.heap.size + 1) (.loop { LL .ready none with state := .exhausted })) [901] := putObj_mv _ hl.1
        refine ⟨none, _, run_endLoop hl.2 (by simp [LL, recOf]), _, marks _, done L _ d' _ hF (hI _ _ _ _ _ hi (big' hm2)) ⟨(World.putObj_heap_other (by omega)).trans hk.2, hk.1⟩⟩
      · have hm2 : Mv d' W2 d' (W2.putObj (w.heap.size + 1) (.loop { LL .done (some j) with state := .exhausted })) [901] := putObj_mv _ hl.1
        have hD : DefC d' (W2.putObj (w.heap.size + 1) (.loop { LL .done (some j) with state := .exhausted })) w.heap.size := ⟨(World.putObj_heap_other (by omega)).trans hk.2, hk.1⟩
        refine ⟨some j, _, run_endLoop hl.2 (by simp [LL, recOf]), ?_⟩
        rcases hj with ⟨rfl, hx⟩ | ⟨p, hp, rfl, hx⟩
        · have := rets _ pre d' _ (hXr _ _ _ _ _ hx (big' hm2)) hD _ (marks _)
          rw [hr] at this; exact this
        · obtain ⟨k, hk1, hk2⟩ := exits p hp _ pre d' _ (hX p hp _ _ _ _ _ hx (big' hm2)) hD
          exact wpIn_exit ⟨k, _, hk1, marks _, hk2⟩
    · -- one round
      rintro pre x d A ⟨hi, hl, hk⟩ hpre
      refine ⟨901 :: K, apart_cons hκ hK.1, fn, _, assign, body, run_yield hl.2 (by simp [LL, recOf, hps x]), ?_⟩
      refine roundIn_of_wpIn trivial (wpIn_mono (round (w.heap.size + 1) pre x d A hi hpre _ ?_) ?_)
      · have e0 : EnvOk c.n ((4000000, .tuple #[]) :: env) { tmps := a.tmps, defers := [] } :=
          ⟨ho.bound, fun v hv => by
            have : Value.tuple #[] = v := by simpa [lookM] using hv
            subst this; rfl, ho.size, fun k v hk => ho.vals k v (by
            unfold look at hk
            cases hb : Nat.beq 4000000 k with
            | true => rw [hb] at hk; simp at hk
            | false => rw [hb] at hk; simpa using hk)⟩
        have e1 : EnvOk c.n env { tmps := a.tmps, defers := a.defers } := ho
        have h1 := bind_ok ps.toList (encs x) _ _ e1 hpb
        have efold : ((ps.zip (encs x).toArray).foldl (fun tmps (t, a) => tmps.setIfInBounds t a) a.tmps) = (ps.toList.zip (encs x)).foldl (fun t (x : Nat × Value) => t.setIfInBounds x.1 x.2) a.tmps := by
          rw [← Array.foldl_toList, Array.toList_zip]
        refine ⟨h1.bound, fun v hv => ?_, ?_, fun k v hk => ?_⟩
        · have : Value.tuple #[] = v := by simpa [lookM] using hv
          subst this; rfl
        · have := h1.size
          show ((ps.zip (encs x).toArray).foldl (fun tmps (t, a) => tmps.setIfInBounds t a) a.tmps).size = c.n
          rw [efold]; exact this
        · have hk' : look (bindP ps.toList (encs x) env) k = some v := by
            unfold look at hk
            cases hb : Nat.beq 4000000 k with
            | true => rw [hb] at hk; simp at hk
            | false => rw [hb] at hk; simpa using hk
          have := h1.vals k v hk'
          show ((ps.zip (encs x).toArray).foldl (fun tmps (t, a) => tmps.setIfInBounds t a) a.tmps)[k]? = some v
          rw [efold]; exact this
      · intro e a1 A1 hq
        cases e with
        | normal =>
          obtain ⟨e1, ho1, d1, hA1, hrest⟩ := hq
          have hlt := lt_of_some hl.2
          have hltD := lt_of_some hk.2
          have l1 : d1 (w.heap.size + 1) = 901 ∧ A1.heap[w.heap.size + 1]? = some (.loop (LL .ready none)) := ⟨(hA1.mvs.col _ hlt).trans hl.1, (hA1.mvs.block _ hlt (by rw [hl.1]; exact hK.2)).trans hl.2⟩
          have k1 : d1 w.heap.size = 901 ∧ A1.heap[w.heap.size]? = some (.deferred (some [])) := ⟨(hA1.mvs.col _ hltD).trans hk.1, (hA1.mvs.block _ hltD (by rw [hk.1]; exact hK.2)).trans hk.2⟩
          refine ⟨_, run_beginRound l1.2 rfl, ?_⟩
          have m2 : Mv d1 A1 d1 (A1.putObj (w.heap.size + 1) (.loop { LL .ready none with state := .busy })) [901] := putObj_mv _ l1.1
          have l2 : (A1.putObj (w.heap.size + 1) (.loop { LL .ready none with state := .busy })).heap[w.heap.size + 1]? = some (.loop { LL .ready none with state := .busy }) := World.putObj_heap_same (lt_of_some l1.2)
          have k2 : (A1.putObj (w.heap.size + 1) (.loop { LL .ready none with state := .busy })).heap[w.heap.size]? = some (.deferred (some [])) := (World.putObj_heap_other (by omega)).trans k1.2
          refine wpIn_mono (hrest _ m2 a1 ho1) ?_
          have fin : ∀ (j : Option Code) (A3 : World) (d3 : Nat → Nat), Acc d1 (A1.putObj (w.heap.size + 1) (.loop { LL .ready none with state := .busy })) K d3 A3 →
              (Instr.endRound (w.heap.size + 1) j).run c.P A3 = .ok (.bool j.isNone) (A3.putObj (w.heap.size + 1) (.loop (LL (if j.isNone then .ready else .done) j))) ∧
              Mv d A d3 (A3.putObj (w.heap.size + 1) (.loop (LL (if j.isNone then .ready else .done) j))) (901 :: K) ∧ Mv d3 A3 d3 (A3.putObj (w.heap.size + 1) (.loop (LL (if j.isNone then .ready else .done) j))) [901] ∧
              (d3 (w.heap.size + 1) = 901 ∧ (A3.putObj (w.heap.size + 1) (.loop (LL (if j.isNone then .ready else .done) j))).heap[w.heap.size + 1]? = some (.loop (LL (if j.isNone then .ready else .done) j))) ∧
              d3 w.heap.size = 901 ∧ (A3.putObj (w.heap.size + 1) (.loop (LL (if j.isNone then .ready else .done) j))).heap[w.heap.size]? = some (.deferred (some [])) := fun j A3 d3 hA => by
            have c3 : d3 (w.heap.size + 1) = 901 := (hA.mvs.col _ (lt_of_some l2)).trans l1.1
            have l3 : A3.heap[w.heap.size + 1]? = some (.loop { LL .ready none with state := .busy }) := (hA.mvs.block _ (lt_of_some l2) (by rw [l1.1]; exact hK.2)).trans l2
            have k3 : A3.heap[w.heap.size]? = some (.deferred (some [])) := (hA.mvs.block _ (lt_of_some k2) (by rw [k1.1]; exact hK.2)).trans k2
            have m4 : Mv d3 A3 d3 (A3.putObj (w.heap.size + 1) (.loop (LL (if j.isNone then .ready else .done) j))) [901] := putObj_mv _ c3
            have sub : K.all (hasC (901 :: K)) = true := by
              rw [List.all_eq_true]
              intro i hi
              simp only [hasC, List.any_cons, Bool.or_eq_true]
              exact .inr (List.any_eq_true.2 ⟨i, hi, by simp⟩)
            have one : [901].all (hasC (901 :: K)) = true := by simp [hasC]
            refine ⟨run_endRound j l3, (((hA1.mvs.more sub).tr m2 one).tr hA.mvs sub).tr m4 one, m4, ⟨c3, World.putObj_heap_same (lt_of_some l3)⟩, (hA.mvs.col _ (lt_of_some k2)).trans k1.1, (World.putObj_heap_other (by omega)).trans k3⟩
          intro e3 a3 A3 hp
          cases e3 with
          | normal =>
            obtain ⟨_, _, d3, hA3, hi3⟩ := hp
            obtain ⟨f1, f2, f3, f4, f5⟩ := fin none A3 d3 hA3
            exact ⟨_, _, f1, true, d3, rfl, f2, fun _ => ⟨hI _ _ _ _ _ hi3 (big' f3), f4, f5⟩, fun h => (by cases h)⟩
          | ret =>
            obtain ⟨w', ⟨ht, hn⟩, v, hv, d3, hA3, hx3⟩ := hp
            have hn : a3.defers = [] := hn.resolve_left (by simp)
            rw [hn] at ht
            have : w' = A3 := ht
            subst this
            obtain ⟨f1, f2, f3, f4, f5⟩ := fin (some .ret) w' d3 hA3
            exact ⟨_, _, f1, false, d3, rfl, f2, fun h => (by cases h), fun _ => ⟨_, .inl ⟨rfl, hXr _ _ _ _ _ hx3 (big' f3)⟩, f4, f5⟩⟩
          | exit id =>
            obtain ⟨k, e4, hk4, _, hx4⟩ := hp
            obtain ⟨p, hpX, rfl, rfl⟩ := findK_ways hk4
            obtain ⟨d3, hA3, hx3⟩ := hx4
            obtain ⟨f1, f2, f3, f4, f5⟩ := fin (some (.exit p.1)) A3 d3 hA3
            exact ⟨_, _, f1, false, d3, rfl, f2, fun h => (by cases h), fun _ => ⟨_, .inr ⟨p, hpX, rfl, hX p hpX _ _ _ _ _ hx3 (big' f3)⟩, f4, f5⟩⟩
          | goto t => exact hp.elim
          | panic ch => exact hp.elim
          | outgrown => exact hp.elim
        | exit id => obtain ⟨k, _, hk4, _⟩ := hq; simp [findK] at hk4
        | ret => obtain ⟨_, _, _, _, h⟩ := hq; exact h.elim
        | goto t => exact hq.elim
        | panic ch => exact hq.elim
        | outgrown => exact hq.elim
/-- THE STATEMENT 'for .. := range g { .. }', outermost. -/
theorem WC.rangeFunc {α : Type} {g : Operand} {ps : Array Tmp} {assign body : Code} {gf : FuncId} {lb : List Value} {encs : α → List Value} {κ F : List Nat} {L : List α} {c0 : Nat → Nat} {ms : List Value}
    (I : List α → (Nat → Nat) → World → Prop) (X : Ways α) (Xr : List α → (Nat → Nat) → World → Prop) (K : List Nat)
    (hr : c.rnd = none) (hg : evO env g = some (.func (.func gf) #[] lb.toArray)) (hf : plainFn c.P gf = true) (hit : IterC c.P gf lb encs κ F L c0 w) (hκ : hasC (κ ++ F) 901 = false)
    (hps : ∀ x, (encs x).length = ps.size) (hpn : ps.all (fun p => Nat.blt p c.n) = true) (hK : (apartC (κ ++ F) K && !hasC K 901) = true)
    (hI : ∀ s d A d' B, I s d A → Mv d A d' B (901 :: κ) → I s d' B) (hX : ∀ p ∈ X, ∀ s d A d' B, p.2 s d A → Mv d A d' B (901 :: κ) → p.2 s d' B) (hXr : ∀ s d A d' B, Xr s d A → Mv d A d' B (901 :: κ) → Xr s d' B)
    (h0 : I [] c0 w)
    (round : ∀ l pre x d A, I pre d A → pre ++ [x] <+: L → WC ⟨c.P, c.n, #[], fun _ _ => False, some l⟩ [] assign ((4000000, .tuple #[]) :: bindP ps.toList (encs x) env) A (fun e1 A1 => ∃ d1, Acc d A K d1 A1 ∧
      ∀ A2, Mv d1 A1 d1 A2 [901] → WC ⟨c.P, c.n, #[], fun _ B' => ∃ d', Acc d1 A2 K d' B' ∧ Xr (pre ++ [x]) d' B', some l⟩ (waysK X K (pre ++ [x]) d1 A2) body e1 A2 (fun _ B' => ∃ d', Acc d1 A2 K d' B' ∧ I (pre ++ [x]) d' B')))
    (done : ∀ D d B', I L d B' → DefC d B' D → N ((4000000, .tuple (I' D :: ms).toArray) :: env) B')
    (exits : ∀ p ∈ X, ∀ D pre d B', p.2 pre d B' → DefC d B' D → ∃ k, findK B p.1 = some k ∧ k ((4000000, .tuple (I' D :: ms).toArray) :: env) B')
    (rets : ∀ D pre d B', Xr pre d B' → DefC d B' D → WC c B .ret ((4000000, .tuple (I' D :: ms).toArray) :: env) B' N)
    (hm : lookM env = some (.tuple ms.toArray) := by rfl) : WC c B (.rangeFunc g ps assign body) env w N :=
  WC.rangeFuncQ I X Xr K hr hg hf hit.toQ hκ hps hpn hK hI hX hXr h0 round (fun L' D d B' e h hD => by subst e; exact done D d B' h hD) exits rets hm
/-! ### Returns behind ranges -/
theorem WC.retMR1 {r : ResultVar} {v m : Value} {w' : World} (hr : c.res = #[r]) (hn : c.rnd = none) (hT : Takes (marksOf m) w w') (h : RVal c env w' r v) (hS : c.S v w') (hm : lookM env = some m := by rfl) : WC c B .ret env w N := fun a ho =>
  wpIn_ret ⟨w', ⟨by rw [ho.defers _ hm]; exact hT, .inl hn⟩, v, fun fn hfn => by rw [results_eq c.P, hfn, hr]; simp [h a ho], hS⟩
theorem WC.retMR2 {r1 r2 : ResultVar} {v1 v2 m : Value} {w' : World} (hr : c.res = #[r1, r2]) (hn : c.rnd = none) (hT : Takes (marksOf m) w w') (h1 : RVal c env w' r1 v1) (h2 : RVal c env w' r2 v2) (hS : c.S (.tuple #[v1, v2]) w') (hm : lookM env = some m := by rfl) : WC c B .ret env w N := fun a ho =>
  wpIn_ret ⟨w', ⟨by rw [ho.defers _ hm]; exact hT, .inl hn⟩, .tuple #[v1, v2], fun fn hfn => by rw [results_eq c.P, hfn, hr]; simp [h1 a ho, h2 a ho], hS⟩
theorem WC.retMR3 {r1 r2 r3 : ResultVar} {v1 v2 v3 m : Value} {w' : World} (hr : c.res = #[r1, r2, r3]) (hn : c.rnd = none) (hT : Takes (marksOf m) w w') (h1 : RVal c env w' r1 v1) (h2 : RVal c env w' r2 v2) (h3 : RVal c env w' r3 v3) (hS : c.S (.tuple #[v1, v2, v3]) w') (hm : lookM env = some m := by rfl) : WC c B .ret env w N := fun a ho =>
  wpIn_ret ⟨w', ⟨by rw [ho.defers _ hm]; exact hT, .inl hn⟩, .tuple #[v1, v2, v3], fun fn hfn => by rw [results_eq c.P, hfn, hr]; simp [h1 a ho, h2 a ho, h3 a ho], hS⟩
theorem WC.retMR0 {m : Value} {w' : World} (hr : c.res = #[]) (hn : c.rnd = none) (hT : Takes (marksOf m) w w') (hS : c.S (.tuple #[]) w') (hm : lookM env = some m := by rfl) : WC c B .ret env w N := fun a ho =>
  wpIn_ret ⟨w', ⟨by rw [ho.defers _ hm]; exact hT, .inl hn⟩, _, fun fn hfn => by rw [results_none (hfn.trans hr)], hS⟩
end
end Go.Eng
