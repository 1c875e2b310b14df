/- A light engine for walks: frames as short lists of slots, one lemma an operation, joins at short-circuit tests. | One lemma for each kind of operation, over the engine. | Data in memory: shapes, slices that are read, rows that a call owns; append, stores, new slices. | Operations that write or make memory, over shapes and rows of one's own. | Regions whose order is drawn: one walk, in an order in which every quiet operation comes as early as it may. | More operations. | Drawn regions in which acting operations may come in several orders: a tree of walks. | Colours: which blocks a piece of memory lies in, and what a step may turn. | Ranges over functions: an iterator's contract, the statement's rule. Colour 901: what the statement itself lays. | Parts of slices; arrays; comparing strings; min, max; copies. | Small facts on lists and numbers. | What records are, in plain Lean: numbers' bytes, which records may be, their bytes. | Digests, in plain Lean. | Arrays in blocks; words of 32 bits. | Closed facts on the types and functions of this translation, by program. No condition. -/
import Derived.WalkKit
import Derived.Deep.Quiet
import Derived.Deep.LoopGhost
import Derived.Sort.LoopGhostIn
import Derived.OrdersIn
import Derived.TacticsIn
import Derived.RangeFuncLeaves
import Derived.RangeFuncRecord
import Derived.Laws.Tables
import Derived.KernelRfl
import Derived.RangeFuncIn
import Derived.RangeFuncSeq
import Derived.Test.YthlfolpcmcejkaaChecked
set_option linter.unusedSimpArgs false
set_option linter.unusedVariables false
set_option maxRecDepth 100000
namespace Go.Eng
open Go Go.RowKit

abbrev Env := List (Nat × Value)

/-- Slot 4000000 is no slot: it tells which calls are deferred. -/
def look : Env → Nat → Option Value
  | [], _ => none
  | (k, v) :: r, n => bif Nat.beq k n then (bif Nat.beq k 4000000 then none else some v) else look r n
def lookM : Env → Option Value
  | [] => none
  | (k, v) :: r => bif Nat.beq k 4000000 then some v else lookM r
def marksOf : Value → List Deferred
  | .tuple vs => vs.toList.filterMap fun | .int _ D => some { target := .collected D.toNat, args := #[] } | _ => none
  | _ => []
theorem look_mark : ∀ (e : Env), look e 4000000 = none
  | [] => rfl
  | (k, v) :: r => by
    unfold look
    cases hb : Nat.beq k 4000000 with
    | true => rfl
    | false => simpa using look_mark r
theorem look_hit {k : Nat} {v : Value} {r : Env} (h : Nat.beq k 4000000 = false) : look ((k, v) :: r) k = some v := by
  unfold look; simp [h]

def evO (env : Env) : Operand → Option Value
  | .tmp t => look env t
  | .const v => some v
  | .global g => some (.pointer (some ⟨g, 0, none⟩))
  | .func f => some (.func (.func f) #[] #[])

def evL (env : Env) : List Operand → Option (List Value)
  | [] => some []
  | x :: r => match evO env x with
    | some v => match evL env r with
      | some vs => some (v :: vs)
      | none => none
    | none => none

structure EnvOk (n : Nat) (env : Env) (a : Act) : Prop where
  bound : n ≤ 4000000
  defers : ∀ v, lookM env = some v → a.defers = marksOf v
  size : a.tmps.size = n
  vals : ∀ k v, look env k = some v → a.tmps[k]? = some v

theorem EnvOk.eval {n : Nat} {env : Env} {a : Act} (h : EnvOk n env a) {x : Operand} {v : Value} (hx : evO env x = some v) : a.eval x = v := by
  cases x with
  | tmp t =>
    have := h.vals t v hx
    simp [Act.eval, Array.getD_eq_getD_getElem?, this]
  | const u => simpa [evO, Act.eval] using hx
  | «global» g => simpa [evO, Act.eval] using hx
  | func f => simpa [evO, Act.eval] using hx

theorem EnvOk.evalL {n : Nat} {env : Env} {a : Act} (h : EnvOk n env a) : ∀ {xs : List Operand} {vs : List Value}, evL env xs = some vs → xs.map a.eval = vs
  | [], vs, hx => by simp [evL] at hx; simp [hx]
  | x :: r, vs, hx => by
    unfold evL at hx
    split at hx
    · rename_i v hv
      split at hx
      · rename_i us hu
        simp at hx
        subst hx
        simp [h.eval hv, h.evalL hu]
      · cases hx
    · cases hx

theorem beq_of_blt {d n : Nat} (hn : n ≤ 4000000) (hd : Nat.blt d n = true) : Nat.beq d 4000000 = false := by
  have : d < n := by simpa [Nat.blt_eq] using hd
  cases hb : Nat.beq d 4000000 with
  | false => rfl
  | true => have := Nat.eq_of_beq_eq_true hb; omega
theorem EnvOk.put {n : Nat} {env : Env} {a : Act} (h : EnvOk n env a) {d : Nat} (hd : Nat.blt d n = true) (v : Value) : EnvOk n ((d, v) :: env) (a.put (some d) v) := by
  have hm := beq_of_blt h.bound hd
  refine ⟨h.bound, fun u hu => h.defers u ?_, by simpa [Act.put] using h.size, fun k u hk => ?_⟩
  · unfold lookM at hu; rw [hm] at hu; exact hu
  have hd' : d < a.tmps.size := by rw [h.size]; simpa [Nat.blt_eq] using hd
  unfold look at hk
  cases hb : Nat.beq d k with
  | true =>
    rw [hb] at hk
    have e : d = k := Nat.eq_of_beq_eq_true hb
    subst e
    rw [hm] at hk
    simp at hk
    subst hk
    simp [Act.put, hd']
  | false =>
    rw [hb] at hk
    have hne : d ≠ k := Nat.ne_of_beq_eq_false hb
    simp at hk
    simpa [Act.put, Array.getElem?_setIfInBounds_ne hne] using h.vals k u hk

structure Sub (e' e : Env) : Prop where
  vals : ∀ k v, look e' k = some v → look e k = some v
  marks : ∀ v, lookM e' = some v → lookM e = some v
theorem Sub.refl (e : Env) : Sub e e := ⟨fun _ _ h => h, fun _ h => h⟩
theorem Sub.nil (e : Env) : Sub [] e := ⟨fun _ _ h => by simp [look] at h, fun _ h => by simp [lookM] at h⟩
theorem Sub.cons {e' e : Env} {k : Nat} {v : Value} (h : look e k = some v) (hs : Sub e' e) : Sub ((k, v) :: e') e := by
  have hm : Nat.beq k 4000000 = false := by
    cases hb : Nat.beq k 4000000 with
    | false => rfl
    | true =>
      have e : k = 4000000 := Nat.eq_of_beq_eq_true hb
      subst e
      rw [look_mark] at h; cases h
  refine ⟨fun j u hj => ?_, fun u hu => hs.marks u ?_⟩
  · unfold look at hj
    cases hb : Nat.beq k j with
    | true =>
      rw [hb] at hj
      have e : k = j := Nat.eq_of_beq_eq_true hb
      subst e
      rw [hm] at hj
      simp at hj
      rw [← hj]; exact h
    | false => rw [hb] at hj; exact hs.vals j u (by simpa using hj)
  · unfold lookM at hu; rw [hm] at hu; exact hu
theorem Sub.consM {e' e : Env} {v : Value} (h : lookM e = some v) (hs : Sub e' e) : Sub ((4000000, v) :: e') e := by
  refine ⟨fun j u hj => ?_, fun u hu => ?_⟩
  · unfold look at hj
    cases hb : Nat.beq 4000000 j with
    | true => rw [hb] at hj; simp at hj
    | false => rw [hb] at hj; exact hs.vals j u (by simpa using hj)
  · have : v = u := by simpa [lookM] using hu
    rw [← this]; exact h
theorem EnvOk.sub {n : Nat} {env env' : Env} {a : Act} (h : EnvOk n env a) (hs : Sub env' env) : EnvOk n env' a := ⟨h.bound, fun v hv => h.defers v (hs.marks v hv), h.size, fun k v hk => h.vals k v (hs.vals k v hk)⟩
def freshB (e : Env) : Nat → Env → Bool
  | 0, _ => true
  | m + 1, (k, _) :: r => (match look e k with | none => true | some _ => false) && !(Nat.beq k 4000000) && freshB e m r
  | _ + 1, [] => true
/-- The last entries of an env are part of it where the newer slots are new. -/
theorem Sub.drop (e : Env) : ∀ (m : Nat) (E : Env), E.drop m = e → freshB e m E = true → Sub e E
  | 0, E, he, _ => by simp at he; subst he; exact Sub.refl _
  | m + 1, [], he, _ => by simp at he; subst he; exact Sub.nil _
  | m + 1, (k, u) :: r, he, hf => by
    simp only [freshB, Bool.and_eq_true, Bool.not_eq_true'] at hf
    obtain ⟨⟨hf1, hm⟩, hf2⟩ := hf
    have ih := Sub.drop e m r (by simpa using he) hf2
    refine ⟨fun j v hj => ?_, fun v hv => ?_⟩
    · unfold look
      cases hb : Nat.beq k j with
      | true =>
        have e' : k = j := Nat.eq_of_beq_eq_true hb
        subst e'
        rw [hj] at hf1
        simp at hf1
      | false => simpa using ih.vals j v hj
    · unfold lookM; rw [hm]; exact ih.marks v hv

/-! ### What a region and a piece of code come to -/

abbrev Kont := Env → World → Prop

structure Cx where
  P : Program
  n : Nat
  res : Array ResultVar
  S : Value → World → Prop
  rnd : Option Nat
def FW (ro : Option Nat) : Fence := { Fence.wide with round := ro }

def findK : List (Nat × Kont) → Nat → Option Kont
  | [], _ => none
  | (k, v) :: r, n => bif Nat.beq k n then some v else findK r n

/-- What a function hands back, by its result slots. -/
def resultsOf (P : Program) (res : Array ResultVar) (a : Act) (w : World) (v : Value) : Prop :=
  ∀ fn : Func, fn.results = res → (results fn a.tmps).run P w = .ok v w

/-- The calls that are deferred by ranges over functions, taken: there are none. -/
def Takes : List Deferred → World → World → Prop
  | [], w, w' => w' = w
  | d :: ds, w, w' => ∃ r, d.target = .collected r ∧ w.heap[r]? = some (.deferred (some [])) ∧ Takes ds (w.putObj r (.deferred none)) w'
def QQ (c : Cx) (B : List (Nat × Kont)) (N : Kont) : Exit → Act → World → Prop
  | .normal, a, w => ∃ env, EnvOk c.n env a ∧ N env w
  | .exit id, a, w => ∃ K env, findK B id = some K ∧ EnvOk c.n env a ∧ K env w
  | .ret, a, w => ∃ w', (Takes a.defers w w' ∧ (c.rnd = none ∨ a.defers = [])) ∧ ∃ v, resultsOf c.P c.res a w' v ∧ c.S v w'
  | _, _, _ => False

def WC (c : Cx) (B : List (Nat × Kont)) (x : Code) (env : Env) (w : World) (N : Kont) : Prop := ∀ a, EnvOk c.n env a → x.wpIn (FW c.rnd) 0 c.P (QQ c B N) a w
def WR (c : Cx) (B : List (Nat × Kont)) (ops : Array Oper) (l : List Oper) (env : Env) (w : World) (N : Kont) : Prop :=
  ∀ a, EnvOk c.n env a → wpListIn (FW c.rnd) 0 c.P ops (QQ c B N) l a w

def Ret (S : Value → World → Prop) : Ending → World → Prop := fun e w' => ∃ v, e = .returned v ∧ S v w'

theorem Ret.mono {P : Program} {f : FuncId} {args : Array Value} {w : World} {S S' : Value → World → Prop} (h : Calls P f args w (Ret S)) (hr : ∀ v w', S v w' → S' v w') : Calls P f args w (Ret S') :=
  Calls.mono h fun _ _ ⟨v, he, hs⟩ => ⟨v, he, hr _ _ hs⟩

def seqFrom (i : Nat) : List Value → Env
  | [] => []
  | v :: r => (i, v) :: seqFrom (i + 1) r

theorem look_seqFrom : ∀ (l : List Value) (i k : Nat) (v : Value), look (seqFrom i l) k = some v → i ≤ k ∧ l[k - i]? = some v
  | [], i, k, v, h => by simp [seqFrom, look] at h
  | u :: r, i, k, v, h => by
    unfold seqFrom look at h
    cases hb : Nat.beq i k with
    | true =>
      rw [hb] at h
      have e : i = k := Nat.eq_of_beq_eq_true hb
      subst e
      cases hm : Nat.beq i 4000000 with
      | true => rw [hm] at h; simp at h
      | false => rw [hm] at h; simpa using h
    | false =>
      rw [hb] at h
      have hne : i ≠ k := Nat.ne_of_beq_eq_false hb
      obtain ⟨h1, h2⟩ := look_seqFrom r (i + 1) k v (by simpa using h)
      refine ⟨by omega, ?_⟩
      have : k - i = (k - (i + 1)) + 1 := by omega
      rw [this]; simpa using h2

theorem leaves_of_takes {P : Program} {fn : Func} {tmps : Array Value} {S : Value → World → Prop} {v : Value} : ∀ (ds : List Deferred) (w w' : World), Takes ds w w' → (results fn tmps).run P w' = .ok v w' → S v w' → LeavesInM (FW none) 0 P fn tmps (Ret S) ds .returning w
  | [], w, w', ht, hr, hS => by
    have : w' = w := ht
    subst this
    exact ⟨v, hr, v, rfl, hS⟩
  | d :: ds, w, w', ht, hr, hS => by
    obtain ⟨r, h1, h2, h3⟩ := ht
    refine ⟨by simp, .inl ⟨r, _, h1, run_takeDeferred h2, leaves_of_takes ds _ _ h3 hr hS⟩⟩

/-- The slots when a function is entered: its parameters; no call is deferred. -/
def env0 (args : List Value) : Env := (4000000, .tuple #[]) :: seqFrom 0 args
/-- ENTER: a function's body, its parameters in the first slots. -/
theorem enter {P : Program} {f : FuncId} {fn : Func} {x : Code} {args : List Value} {w : World} {S : Value → World → Prop} {n : Nat} {res : Array ResultVar}
    (hf : P.funcs[f]? = some fn) (hb : fn.body = some x) (hn : fn.ntmps = n) (hr : fn.results = res) (hl : (Nat.ble args.length n && Nat.ble n 4000000) = true)
    (h : WC ⟨P, n, res, S, none⟩ [] x ((4000000, .tuple #[]) :: seqFrom 0 args) w (fun e w => ∃ m w', lookM e = some m ∧ Takes (marksOf m) w w' ∧ res = #[] ∧ S (.tuple #[]) w')) : Calls P f args.toArray w (Ret S) := by
  subst hn hr
  simp only [Bool.and_eq_true, Nat.ble_eq] at hl
  obtain ⟨hl', hbd⟩ := hl
  refine (callsIn_wide (n := 0)).1 (callsIn_of_wp_marks (F := FW none) hf hb trivial (wpIn_mono (h _ ⟨hbd, ?_, ?_, ?_⟩) ?_) rfl)
  · intro v hv
    have : Value.tuple #[] = v := by simpa [lookM] using hv
    subst this; rfl
  · simp; omega
  · intro k v hk
    have hk' : look (seqFrom 0 args) k = some v := by
      unfold look at hk
      cases hb : Nat.beq 4000000 k with
      | true => rw [hb] at hk; simp at hk
      | false => rw [hb] at hk; simpa using hk
    obtain ⟨_, h2⟩ := look_seqFrom args 0 k v hk'
    simp at h2
    have hlt : k < args.length := by
      rcases Nat.lt_or_ge k args.length with h | h
      · exact h
      · rw [List.getElem?_eq_none h] at h2; cases h2
    rw [Array.getElem?_append_left (by simpa using hlt)]
    simpa using h2
  · intro e a w' hq
    cases e with
    | normal =>
      obtain ⟨env, ho, m, w2, hm, ht, h0, hS⟩ := hq
      exact leaves_of_takes _ _ _ (by rw [ho.defers m hm]; exact ht) (results_none h0 _ _ _) hS
    | ret =>
      obtain ⟨w2, ⟨ht, _⟩, v, hv, hS⟩ := hq
      exact leaves_of_takes _ _ _ ht (hv fn rfl) hS
    | exit id => obtain ⟨K, env, hK, _⟩ := hq; simp [findK] at hK
    | goto l => exact hq
    | panic ch => exact hq.elim
    | outgrown => exact hq.elim

section rules
variable {c : Cx} {B : List (Nat × Kont)} {env : Env} {w : World} {N : Kont}

theorem QQ.mono {N N' : Kont} (h : ∀ e w, N e w → N' e w) : ∀ e a w, QQ c B N e a w → QQ c B N' e a w := by
  intro e a w hq
  cases e with
  | normal => obtain ⟨env, ho, hN⟩ := hq; exact ⟨env, ho, h _ _ hN⟩
  | exit id => exact hq
  | ret => exact hq
  | goto l => exact hq
  | panic ch => exact hq
  | outgrown => exact hq

theorem WC.mono {x : Code} {N' : Kont} (h : WC c B x env w N) (hN : ∀ e w, N e w → N' e w) : WC c B x env w N' := fun a ho => wpIn_mono (h a ho) (QQ.mono hN)

theorem WC.seq {x y : Code} (h : WC c B x env w (fun e w => WC c B y e w N)) : WC c B (.seq x y) env w N := fun a ho =>
  wpIn_seq (wpIn_mono (h a ho) fun e a w hq => by
    cases e with
    | normal => obtain ⟨env, ho, hN⟩ := hq; exact hN a ho
    | exit id => exact hq
    | ret => exact hq
    | goto l => exact hq
    | panic ch => exact hq
    | outgrown => exact hq)

/-- A cut: what holds behind the first part. -/
theorem WC.seq_mid {x y : Code} (M : Kont) (h : WC c B x env w M) (h2 : ∀ e w, M e w → WC c B y e w N) : WC c B (.seq x y) env w N := WC.seq (h.mono h2)

theorem WC.skip (h : N env w) : WC c B .skip env w N := fun _ ho => wpIn_skip ⟨env, ho, h⟩
theorem WC.label {l : Nat} (h : N env w) : WC c B (.label l) env w N := fun _ ho => wpIn_label ⟨env, ho, h⟩

theorem WC.cond {x y : Code} {o : Operand} {t : Bool} (ho : evO env o = some (.bool t)) (ht : t = true → WC c B x env w N) (hf : t = false → WC c B y env w N) : WC c B (.cond o x y) env w N :=
  fun a h => wpIn_cond_split (h.eval ho) (fun e => ht e a h) (fun e => hf e a h)
theorem WC.cond_true {x y : Code} {o : Operand} (ho : evO env o = some (.bool true)) (ht : WC c B x env w N) : WC c B (.cond o x y) env w N :=
  fun a h => wpIn_cond_true (h.eval ho) (ht a h)
theorem WC.cond_false {x y : Code} {o : Operand} (ho : evO env o = some (.bool false)) (ht : WC c B y env w N) : WC c B (.cond o x y) env w N :=
  fun a h => wpIn_cond_false (h.eval ho) (ht a h)

theorem WC.block {x : Code} {id : Nat} (h : WC c ((id, N) :: B) x env w N) : WC c B (.block id x) env w N := fun a ho =>
  wpIn_block (wpIn_mono (h a ho) fun e a w hq => by
    cases e with
    | normal => exact hq
    | exit id' =>
      obtain ⟨K, env, hK, hok, hN⟩ := hq
      unfold findK at hK
      cases hb : Nat.beq id id' with
      | true =>
        rw [hb] at hK
        have e : id = id' := Nat.eq_of_beq_eq_true hb
        subst e
        simp at hK
        subst hK
        simp only [Exit.inBlock, if_true]
        exact ⟨env, hok, hN⟩
      | false =>
        rw [hb] at hK
        have hne : id ≠ id' := Nat.ne_of_beq_eq_false hb
        simp only [Exit.inBlock, if_neg (Ne.symm hne)]
        exact ⟨K, env, by simpa using hK, hok, hN⟩
    | ret => exact hq
    | goto l => exact hq
    | panic ch => exact hq
    | outgrown => exact hq)

theorem WC.exit {id : Nat} {K : Kont} (hK : findK B id = some K) (h : K env w) : WC c B (.exit id) env w N := fun _ ho => wpIn_exit ⟨K, env, hK, ho, h⟩

theorem WC.sub {x : Code} {env' : Env} (hs : Sub env' env) (h : WC c B x env' w N) : WC c B x env w N := fun a ho => h a (ho.sub hs)

/-- A loop over states of whatever kind: E the slots that are known at its head, I what holds, μ what every round lowers. -/
theorem WC.loop {σ : Type} {x : Code} {m : Value} (E : σ → Env) (I : σ → World → Prop) (μ : σ → Nat) (s0 : σ) (hsub : Sub (E s0) env) (h0 : I s0 w)
    (round : ∀ s w, I s w → WC c B x ((4000000, m) :: E s) w (fun env' w' => ∃ s', Sub ((4000000, m) :: E s') env' ∧ I s' w' ∧ μ s' < μ s)) (hm : lookM env = some m := by rfl) : WC c B (.loop x) env w N := by
  intro a ho
  refine wpIn_loop_ghost (fun k a w => ∃ s, EnvOk c.n ((4000000, m) :: E s) a ∧ I s w ∧ μ s = k) (μ s0) ⟨s0, ho.sub (Sub.consM hm hsub), h0, rfl⟩ ?_
  rintro k a w ⟨s, hs, hI, rfl⟩
  refine wpIn_mono (round s w hI a hs) ?_
  intro e a' w' hq
  cases e with
  | normal =>
    obtain ⟨env', ho', s', h1, h2, h3⟩ := hq
    exact ⟨_, h3, s', ho'.sub h1, h2, rfl⟩
  | exit id => exact hq
  | ret => exact hq
  | goto l => exact hq
  | panic ch => exact hq
  | outgrown => exact hq

theorem getD_env {n : Nat} {env : Env} {a : Act} (h : EnvOk n env a) {t : Nat} {v : Value} (hv : look env t = some v) : a.tmps.getD t undef = v := h.eval (x := .tmp t) hv

theorem takes_none {n : Nat} {env : Env} {a : Act} {w : World} (h : EnvOk n env a) (hm : lookM env = some (.tuple #[])) {ro : Option Nat} : Takes a.defers w w ∧ (ro = none ∨ a.defers = []) := by
  have e : a.defers = [] := h.defers _ hm
  rw [e]; exact ⟨rfl, .inr rfl⟩
theorem WC.ret1 {t : Nat} {v : Value} (hr : c.res = #[.tmp t]) (hv : look env t = some v) (hS : c.S v w) (hm : lookM env = some (.tuple #[]) := by rfl) : WC c B .ret env w N := fun a ho =>
  wpIn_ret ⟨w, takes_none ho hm, v, fun fn hfn => by rw [results_tmp (hfn.trans hr), getD_env ho hv], hS⟩
theorem WC.ret0 (hr : c.res = #[]) (hS : c.S (.tuple #[]) w) (hm : lookM env = some (.tuple #[]) := by rfl) : WC c B .ret env w N := fun a ho =>
  wpIn_ret ⟨w, takes_none ho hm, _, fun fn hfn => by rw [results_none (hfn.trans hr)], hS⟩
theorem WC.ret2 {t u : Nat} {v x : Value} (hr : c.res = #[.tmp t, .tmp u]) (hv : look env t = some v) (hx : look env u = some x) (hS : c.S (.tuple #[v, x]) w) (hm : lookM env = some (.tuple #[]) := by rfl) : WC c B .ret env w N := fun a ho =>
  wpIn_ret ⟨w, takes_none ho hm, _, fun fn hfn => by rw [results_tmp2 (hfn.trans hr), getD_env ho hv, getD_env ho hx], hS⟩
theorem WC.ret3 {t u s : Nat} {v x y : Value} (hr : c.res = #[.tmp t, .tmp u, .tmp s]) (hv : look env t = some v) (hx : look env u = some x) (hy : look env s = some y) (hS : c.S (.tuple #[v, x, y]) w) (hm : lookM env = some (.tuple #[]) := by rfl) : WC c B .ret env w N := fun a ho =>
  wpIn_ret ⟨w, takes_none ho hm, _, fun fn hfn => by
    rw [results_tmp3 (hfn.trans hr), getD_env ho hv, getD_env ho hx, getD_env ho hy], hS⟩

theorem WC.region {id : Nat} {l : List Oper} (h : WR c B l.toArray l env w N) : WC c B (.region id l.toArray false) env w N := fun a ho => wpIn_region_lit (h a ho)

/-! ### One operation at a time -/

variable {ops : Array Oper} {rest : List Oper}

theorem WR.nil (h : N env w) : WR c B ops [] env w N := fun a ho => wpListIn_nil ⟨env, ho, h⟩
theorem oper_mono {F : Fence} {P : Program} {o : Oper} {a : Act} {w : World} {Q Q' : Exit → Act → World → Prop} {K K' : Act → World → Prop} (hq : ∀ e a w, Q e a w → Q' e a w) (hk : ∀ a w, K a w → K' a w) (h : o.wpIn F 0 P a w K Q) : o.wpIn F 0 P a w K' Q' := by
  unfold Oper.wpIn at *
  refine ⟨h.1, ?_⟩
  have hh := h.2
  clear h
  generalize (o.semAt F.round a.eval).run P w = r at *
  cases r with
  | ok x w' =>
    cases x <;> simp only [Oper.uponIn] at hh ⊢
    case value v => exact hk _ _ hh
    case skip => exact hk _ _ hh
    case defer d => exact hk _ _ hh
    case enter f args => exact ⟨hh.1, CallsIn.mono hh.2 (fun e w'' he => by
      cases e with
      | returned v => exact hk _ _ he
      | panicked ch => exact hq _ _ _ he
      | outgrown => obtain ⟨a0, w0, h0⟩ := he; exact ⟨a0, w0, hq _ _ _ h0⟩)⟩
    case row row args => exact ⟨hh.1, RowsIn.mono hh.2 (fun _ _ he => hk _ _ he)⟩
    case round l f t a1 b1 => exact ⟨hh.1, RoundIn.mono hh.2 (fun e w'' he => by
      cases e with
      | returned v => exact hk _ _ he
      | panicked ch => exact hq _ _ _ he
      | outgrown => obtain ⟨a0, w0, h0⟩ := he; exact ⟨a0, w0, hq _ _ _ h0⟩)⟩
    all_goals exact hh
  | halt x w' => cases x <;> simp only [Oper.uponIn] at hh ⊢ <;> first | exact hh | exact hq _ _ _ hh
theorem wpList_monoQ {F : Fence} {P : Program} {Q Q' : Exit → Act → World → Prop} (hq : ∀ e a w, Q e a w → Q' e a w) : ∀ (l : List Oper) (a : Act) (w : World), wpListIn F 0 P ops Q l a w → wpListIn F 0 P ops Q' l a w
  | [], a, w, h => hq _ _ _ h
  | o :: r, a, w, h => by
    unfold wpListIn at h ⊢
    split
    · rename_i hw
      rw [if_pos hw] at h
      exact oper_mono hq (wpList_monoQ hq r) h
    · rename_i hw
      rw [if_neg hw] at h
      exact ⟨h.1, wpList_monoQ hq r _ _ h.2⟩
theorem WR.mono {l : List Oper} {N' : Kont} (h : WR c B ops l env w N) (hN : ∀ e w, N e w → N' e w) : WR c B ops l env w N' := fun a ho => wpList_monoQ (QQ.mono hN) _ _ _ (h a ho)

/-- A quiet operation: it hands back a value and leaves the world alone. -/
def Val (P : Program) (env : Env) (w : World) (op : Op) (ty : TypeId) (v : Value) : Prop :=
  ∀ n a, EnvOk n env a → ∀ d pos after g, (execOp a.eval ⟨d, op, ty, pos, after, g⟩).run P w = .ok (.value v) w
/-- An operation that acts: S tells the value and the world behind it. -/
def Eff (P : Program) (env : Env) (w : World) (op : Op) (ty : TypeId) (S : Value → World → Prop) : Prop :=
  ∀ n a, EnvOk n env a → ∀ (ro : Option Nat) d pos after g (K : Act → World → Prop) (Q : Exit → Act → World → Prop), (∀ v w', S v w' → K (a.put d v) w') → Oper.wpIn (FW ro) 0 P ⟨d, op, ty, pos, after, g⟩ a w K Q

theorem semAt_eq {P : Program} {ro : Option Nat} {ρ : Operand → Value} {o : Oper} {w w' : World} {x : Next} (h : (execOp ρ o).run P w = .ok x w') (hx : ∀ d, x ≠ .defer d) : o.semAt ro ρ = execOp ρ o := by
  refine Oper.semAt_eq ro ρ o fun c hc => ?_
  obtain ⟨dst, op, ty, pos, after, g⟩ := o
  simp only at hc
  subst hc
  simp only [execOp, Sem.run_bind] at h
  generalize (resolve ρ c ty).run P w = r at h
  cases r with
  | ok d w2 =>
    simp [Result.andThen] at h
    exact hx d h.1.symm
  | halt y w2 => simp [Result.andThen] at h
theorem wpIn_of_value {P : Program} {ro : Option Nat} {o : Oper} {a : Act} {w w' : World} {v : Value} {K : Act → World → Prop} {Q : Exit → Act → World → Prop} (h : (execOp a.eval o).run P w = .ok (.value v) w') (hK : K (a.put o.dst v) w') : o.wpIn (FW ro) 0 P a w K Q :=
  ⟨fun _ _ => trivial, by rw [show (FW ro).round = ro from rfl, semAt_eq h (fun d => by simp), h]; exact hK⟩
theorem wpIn_of_skip {P : Program} {ro : Option Nat} {o : Oper} {a : Act} {w w' : World} {K : Act → World → Prop} {Q : Exit → Act → World → Prop} (h : (execOp a.eval o).run P w = .ok .skip w') (hK : K (a.put o.dst undef) w') : o.wpIn (FW ro) 0 P a w K Q :=
  ⟨fun _ _ => trivial, by rw [show (FW ro).round = ro from rfl, semAt_eq h (fun d => by simp), h]; exact hK⟩
theorem wpIn_of_enter {P : Program} {ro : Option Nat} {o : Oper} {a : Act} {w w' : World} {f : FuncId} {args : Array Value} {K : Act → World → Prop} {Q : Exit → Act → World → Prop} {S : Value → World → Prop} (h : (execOp a.eval o).run P w = .ok (.enter f args) w')
    (hc : Calls P f args w' (Ret S)) (hK : ∀ v w2, S v w2 → K (a.put o.dst v) w2) : o.wpIn (FW ro) 0 P a w K Q :=
  ⟨fun _ _ => trivial, by
    rw [show (FW ro).round = ro from rfl, semAt_eq h (fun d => by simp), h]
    have h1 : CallsIn (FW ro) (0 - 1) P f args w' (Ret S) := (callsIn_wide (n := 0)).2 hc
    exact ⟨fun h => by simp [FW, Fence.wide] at h, h1.mono fun e w2 ⟨v, he, hs⟩ => by subst he; exact hK v w2 hs⟩⟩

theorem Eff.of_run {P : Program} {op : Op} {ty : TypeId} {S : Value → World → Prop}
    (h : ∀ n a, EnvOk n env a → ∀ d pos after g, ∃ v w', (execOp a.eval ⟨d, op, ty, pos, after, g⟩).run P w = .ok (.value v) w' ∧ S v w') : Eff P env w op ty S := by
  intro n a ho ro d pos after g K Q hK
  obtain ⟨v, w', hr, hS⟩ := h n a ho d pos after g
  exact wpIn_of_value hr (hK _ _ hS)
theorem Eff.of_skip {P : Program} {op : Op} {ty : TypeId} {S : Value → World → Prop}
    (h : ∀ n a, EnvOk n env a → ∀ d pos after g, ∃ w', (execOp a.eval ⟨d, op, ty, pos, after, g⟩).run P w = .ok .skip w' ∧ S undef w') : Eff P env w op ty S := by
  intro n a ho ro d pos after g K Q hK
  obtain ⟨w', hr, hS⟩ := h n a ho d pos after g
  exact wpIn_of_skip hr (hK _ _ hS)
theorem Eff.mono {P : Program} {op : Op} {ty : TypeId} {S S' : Value → World → Prop} (h : Eff P env w op ty S) (hS : ∀ v w', S v w' → S' v w') : Eff P env w op ty S' :=
  fun n a ho ro d pos after g K Q hK => h n a ho ro d pos after g K Q fun v w' hs => hK v w' (hS _ _ hs)

theorem wpListIn_cons {F : Fence} {P : Program} {Q : Exit → Act → World → Prop} {o : Oper} {a : Act} (hw : Region.wanted o (yielded ops a.tmps) = true) (h : o.wpIn F 0 P a w (wpListIn F 0 P ops Q rest) Q) : wpListIn F 0 P ops Q (o :: rest) a w := by
  unfold wpListIn; rw [if_pos hw]; exact h
theorem wpListIn_pass {P : Program} {ro : Option Nat} {Q : Exit → Act → World → Prop} {o : Oper} {a : Act} (hw : Region.wanted o (yielded ops a.tmps) = false) (h : wpListIn (FW ro) 0 P ops Q rest (a.put o.dst undef) w) : wpListIn (FW ro) 0 P ops Q (o :: rest) a w := by
  unfold wpListIn; rw [if_neg (by rw [hw]; simp)]; exact ⟨fun _ _ => trivial, h⟩

theorem WR.val {op : Op} {ty : TypeId} {v : Value} {d : Nat} {pos : String} {after : Array Edge} (h : Val c.P env w op ty v) (hd : Nat.blt d c.n = true)
    (next : WR c B ops rest ((d, v) :: env) w N) : WR c B ops (⟨some d, op, ty, pos, after, none⟩ :: rest) env w N := fun a ho =>
  wpListIn_cons rfl (wpIn_of_value (h c.n a ho _ _ _ _) (next _ (ho.put hd v)))

theorem WR.eff {op : Op} {ty : TypeId} {S : Value → World → Prop} {d : Nat} {pos : String} {after : Array Edge} (h : Eff c.P env w op ty S) (hd : Nat.blt d c.n = true)
    (next : ∀ v w', S v w' → WR c B ops rest ((d, v) :: env) w' N) : WR c B ops (⟨some d, op, ty, pos, after, none⟩ :: rest) env w N := fun a ho =>
  wpListIn_cons rfl (h c.n a ho _ _ _ _ _ _ _ fun v w' hs => next v w' hs _ (ho.put hd v))

theorem WR.eff_ {op : Op} {ty : TypeId} {S : Value → World → Prop} {pos : String} {after : Array Edge} (h : Eff c.P env w op ty S)
    (next : ∀ v w', S v w' → WR c B ops rest env w' N) : WR c B ops (⟨none, op, ty, pos, after, none⟩ :: rest) env w N := fun a ho =>
  wpListIn_cons rfl (h c.n a ho _ _ _ _ _ _ _ fun v w' hs => next v w' hs _ ho)

theorem wanted_known {n : Nat} {a : Act} (ho : EnvOk n env a) {j s : Nat} {b want : Bool} (hj : (ops[j]?).bind (·.dst) = some s) (hs : look env s = some (.bool b))
    {d : Option Tmp} {op : Op} {ty : TypeId} {pos : String} {after : Array Edge} :
    Region.wanted ⟨d, op, ty, pos, after, some (j, want)⟩ (yielded ops a.tmps) = (b == want) := by
  simp [Region.wanted, yielded, hj, ho.vals s _ hs]

theorem WR.on {op : Op} {ty : TypeId} {d : Option Nat} {pos : String} {after : Array Edge} {j s : Nat} {want : Bool} (hj : (ops[j]?).bind (·.dst) = some s) (hs : look env s = some (.bool want))
    (h : WR c B ops (⟨d, op, ty, pos, after, none⟩ :: rest) env w N) : WR c B ops (⟨d, op, ty, pos, after, some (j, want)⟩ :: rest) env w N := by
  intro a ho
  have := h a ho
  unfold wpListIn at this ⊢
  rw [if_pos (by rw [wanted_known ho hj hs]; simp)]
  rw [if_pos (by simp [Region.wanted])] at this
  exact this

theorem WR.onEq {op : Op} {ty : TypeId} {d : Option Nat} {pos : String} {after : Array Edge} {j s : Nat} {want b : Bool} (hj : (ops[j]?).bind (·.dst) = some s) (hs : look env s = some (.bool b)) (hb : b = want)
    (h : WR c B ops (⟨d, op, ty, pos, after, none⟩ :: rest) env w N) : WR c B ops (⟨d, op, ty, pos, after, some (j, want)⟩ :: rest) env w N := WR.on hj (hb ▸ hs) h

theorem WR.off {op : Op} {ty : TypeId} {d : Nat} {pos : String} {after : Array Edge} {j s : Nat} {want b : Bool} (hj : (ops[j]?).bind (·.dst) = some s) (hs : look env s = some (.bool b)) (hne : (b == want) = false)
    (hd : Nat.blt d c.n = true) (h : WR c B ops rest ((d, undef) :: env) w N) : WR c B ops (⟨some d, op, ty, pos, after, some (j, want)⟩ :: rest) env w N := fun a ho =>
  wpListIn_pass (by rw [wanted_known ho hj hs, hne]) (h _ (ho.put hd _))

/-- Passed over: a guard that says no, or one that was itself passed over. -/
def offs (ops : Array Oper) (n : Nat) : List Oper → Env → Option Env
  | [], env => some env
  | o :: r, env => match o.dst, o.guard with
    | some d, some (j, want) => match (ops[j]?).bind (·.dst) with
      | some s => match look env s with
        | some (.bool b) => bif b == want then none else bif Nat.blt d n then offs ops n r ((d, undef) :: env) else none
        | some (.tuple _) => bif Nat.blt d n then offs ops n r ((d, undef) :: env) else none
        | _ => none
      | none => none
    | _, _ => none

theorem WR.offs {k : Nat} {l : List Oper} {env' : Env} (h : offs ops c.n (l.take k) env = some env') (next : WR c B ops (l.drop k) env' w N) : WR c B ops l env w N := by
  have key : ∀ (k : Nat) (l : List Oper) (env : Env), Eng.offs ops c.n (l.take k) env = some env' → WR c B ops (l.drop k) env' w N → WR c B ops l env w N := by
    intro k
    induction k with
    | zero => intro l env h next; simp [Eng.offs] at h; subst h; simpa using next
    | succ k ih =>
      intro l env h next
      cases l with
      | nil => simp [Eng.offs] at h; subst h; simpa using next
      | cons o r =>
        obtain ⟨dst, op, ty, pos, after, guard⟩ := o
        simp only [List.take_succ_cons, Eng.offs] at h
        split at h
        · rename_i _ _ d j want
          split at h
          · rename_i s hs
            split at h
            · rename_i _ b hb
              cases hbw : (b == want) with
              | true => rw [hbw] at h; simp at h
              | false =>
                rw [hbw] at h
                cases hdn : Nat.blt d c.n with
                | false => rw [hdn] at h; simp at h
                | true =>
                  rw [hdn] at h
                  exact WR.off hs hb hbw hdn (ih r _ (by simpa using h) (by simpa using next))
            · rename_i _ vs hb
              cases hdn : Nat.blt d c.n with
              | false => rw [hdn] at h; simp at h
              | true =>
                rw [hdn] at h
                intro a ho
                exact wpListIn_pass (by simp [Region.wanted, yielded, hs, ho.vals s _ hb]) (ih r _ (by simpa using h) (by simpa using next) _ (ho.put hdn _))
            · cases h
          · cases h
        · cases h
  exact key k l env h next

theorem wpList_append {l2 : List Oper} {Q : Exit → Act → World → Prop} {F : Fence} : ∀ (l1 : List Oper) (a : Act) (w : World), wpListIn F 0 c.P ops (Exit.then (fun a w => wpListIn F 0 c.P ops Q l2 a w) Q) l1 a w → wpListIn F 0 c.P ops Q (l1 ++ l2) a w
  | [], a, w, h => h
  | o :: r, a, w, h => by
    simp only [List.cons_append]
    unfold wpListIn at h ⊢
    split
    · rename_i hw
      rw [if_pos hw] at h
      have hh := h
      unfold Oper.wpIn at *
      refine ⟨h.1, ?_⟩
      have h2 := h.2
      clear h hh
      generalize (o.semAt F.round a.eval).run c.P w = r0 at *
      cases r0 with
      | ok nx w' =>
        cases nx <;> simp only [Oper.uponIn] at h2 ⊢
        case value v => exact wpList_append r _ _ h2
        case skip => exact wpList_append r _ _ h2
        case defer d => exact wpList_append r _ _ h2
        case enter f args => exact ⟨h2.1, CallsIn.mono h2.2 (fun e w'' he => by
          cases e with
          | returned v => exact wpList_append r _ _ he
          | panicked ch => exact he
          | outgrown => exact he)⟩
        case row row args => exact ⟨h2.1, RowsIn.mono h2.2 (fun _ _ he => wpList_append r _ _ he)⟩
        case round l f t a1 b1 => exact ⟨h2.1, RoundIn.mono h2.2 (fun e w'' he => by
          cases e with
          | returned v => exact wpList_append r _ _ he
          | panicked ch => exact he
          | outgrown => exact he)⟩
        all_goals exact h2
      | halt x w' => cases x <;> simp only [Oper.uponIn] at h2 ⊢ <;> exact h2
    · rename_i hw
      rw [if_neg hw] at h
      exact ⟨h.1, wpList_append r _ _ h.2⟩

/-- A cut inside a region: behind the next k operations this holds. -/
theorem WR.cut {l : List Oper} (k : Nat) (M : Kont) (h : WR c B ops (l.take k) env w M) (h2 : ∀ e w, M e w → WR c B ops (l.drop k) e w N) : WR c B ops l env w N := by
  intro a ho
  rw [← List.take_append_drop k l]
  refine wpList_append _ _ _ (wpList_monoQ ?_ _ _ _ (h.mono h2 a ho))
  intro e a w hq
  cases e with
  | normal => obtain ⟨e, he, hn⟩ := hq; exact hn a he
  | exit id => exact hq
  | ret => exact hq
  | goto l => exact hq
  | panic ch => exact hq
  | outgrown => exact hq

theorem offs_drop (n : Nat) : ∀ (l : List Oper) (env e : Env), offs ops n l env = some e → e.drop l.length = env
  | [], env, e, h => by simp [offs] at h; simp [h]
  | o :: r, env, e, h => by
    unfold offs at h
    split at h
    · split at h
      · split at h
        · rename_i d _ _ _ _ _ b _
          cases hbw : (b == _) with
          | true => rw [hbw] at h; simp at h
          | false =>
            rw [hbw] at h
            cases hdn : Nat.blt _ n with
            | false => rw [hdn] at h; simp at h
            | true =>
              rw [hdn] at h
              have := offs_drop n r _ e (by simpa using h)
              rw [List.length_cons, ← List.drop_drop, this]; rfl
        · cases hdn : Nat.blt _ n with
          | false => rw [hdn] at h; simp at h
          | true =>
            rw [hdn] at h
            have := offs_drop n r _ e (by simpa using h)
            rw [List.length_cons, ← List.drop_drop, this]; rfl
        · cases h
      · cases h
    · cases h

def offOk (ops : Array Oper) (n : Nat) (l : List Oper) (s : Nat) (v : Bool) (env : Env) : Bool :=
  match offs ops n l ((s, .bool v) :: env) with
  | some e => freshB ((s, .bool v) :: env) l.length e
  | none => false

def guardOn (ops : Array Oper) (env : Env) : Option (Nat × Bool) → Bool
  | none => true
  | some (j, want) => match (ops[j]?).bind (·.dst) with
    | some s => match look env s with
      | some (.bool b) => b == want
      | _ => false
    | none => false

theorem wanted_on {n : Nat} {a : Act} (ho : EnvOk n env a) {o : Oper} (h : guardOn ops env o.guard = true) : Region.wanted o (yielded ops a.tmps) = true := by
  unfold guardOn at h
  unfold Region.wanted
  split at h
  · rename_i hg; simp [hg]
  · rename_i j want hg
    split at h
    · rename_i s hs
      split at h
      · rename_i b hb
        simpa [hg, yielded, hs, ho.vals s _ hb] using h
      · cases h
    · cases h

theorem run_pick (P : Program) (w : World) (ρ : Operand → Value) {cd x y : Operand} {d : Option Nat} {ty : TypeId} {pos : String} {after : Array Edge} {g : Option (Nat × Bool)} {b : Bool} (h : ρ cd = .bool b) :
    (execOp ρ ⟨d, .pick cd x y, ty, pos, after, g⟩).run P w = .ok (.value (if b then ρ x else ρ y)) w := by
  simp [execOp, h, asBool]

theorem WR.pickOn {cd x y : Operand} {d : Nat} {ty : TypeId} {pos : String} {after : Array Edge} {g : Option (Nat × Bool)} {b : Bool} {v : Value} (hg : guardOn ops env g = true) (hd : Nat.blt d c.n = true)
    (hc : evO env cd = some (.bool b)) (hv : evO env (if b then x else y) = some v) (next : WR c B ops rest ((d, v) :: env) w N) : WR c B ops (⟨some d, .pick cd x y, ty, pos, after, g⟩ :: rest) env w N := by
  intro a ho
  refine wpListIn_cons (wanted_on (o := ⟨some d, .pick cd x y, ty, pos, after, g⟩) ho hg) (wpIn_of_value (run_pick _ _ _ (ho.eval hc)) ?_)
  have : (if b then a.eval x else a.eval y) = v := by
    rw [← ho.eval hv]; cases b <;> rfl
  rw [this]
  exact next _ (ho.put hd v)

theorem look_ne {k : Nat} {e : Env} {v : Value} (h : look e k = some v) : Nat.beq k 4000000 = false := by
  cases hb : Nat.beq k 4000000 with
  | false => rfl
  | true =>
    have e : k = 4000000 := Nat.eq_of_beq_eq_true hb
    subst e
    rw [look_mark] at h; cases h
theorem Sub.shadow {e : Env} {s : Nat} {v : Value} (h : look env s = some v) (hs : Sub ((s, v) :: env) e) : Sub env e := by
  have hm := look_ne h
  refine ⟨fun k u hk => hs.vals k u ?_, fun u hu => hs.marks u (by unfold lookM; rw [hm]; exact hu)⟩
  unfold look
  cases hb : Nat.beq s k with
  | true =>
    have e' : s = k := Nat.eq_of_beq_eq_true hb
    subst e'
    rw [h] at hk
    rw [hm]
    simpa using hk
  | false => simpa using hk
theorem Sub.on {e : Env} {d : Nat} {v : Value} (h : Sub env e) (hd : look e d = some v) : Sub ((d, v) :: env) e := Sub.cons hd h

theorem Sub.both {e' e : Env} {d : Nat} {v : Value} (h : Sub e' e) : Sub ((d, v) :: e') ((d, v) :: e) := by
  refine ⟨fun k u hk => ?_, fun u hu => ?_⟩
  · unfold look at hk ⊢
    cases hb : Nat.beq d k with
    | true => rw [hb] at hk; exact hk
    | false => rw [hb] at hk; exact h.vals k u hk
  · unfold lookM at hu ⊢
    cases hb : Nat.beq d 4000000 with
    | true => rw [hb] at hu; exact hu
    | false => rw [hb] at hu; exact h.marks u hu
theorem guardOn_sub {e : Env} (h : Sub env e) {g : Option (Nat × Bool)} (hg : guardOn ops env g = true) : guardOn ops e g = true := by
  unfold guardOn at hg ⊢
  split at hg
  · rfl
  · rename_i j want
    split at hg
    · rename_i s' hs'
      split at hg
      · rename_i b' hb'
        simpa [h.vals _ _ hb'] using hg
      · cases hg
    · cases hg

/-- Where one of two ways is picked: the k operations ahead are guarded by the first's outcome 'q'; with the other outcome they are passed over. -/
theorem WR.sc {l tl : List Oper} (q : Bool) (k : Nat) (x : Bool) (R : World → Prop) {s t d : Nat} {b : Bool} {ty : TypeId} {pos : String} {after : Array Edge} {g : Option (Nat × Bool)} {u v : Operand}
    (hs : look env s = some (.bool b)) (hl : l.drop k = ⟨some d, .pick (.tmp s) u v, ty, pos, after, g⟩ :: tl) (hg : guardOn ops env g = true)
    (hu : (if q then u else v) = .tmp t) (hv : (if q then v else u) = .const (.bool (!q)))
    (hoff : offOk ops c.n (l.take k) s (!q) env = true) (hd : Nat.blt d c.n = true)
    (hT : b = q → WR c B ops (l.take k) ((s, .bool q) :: env) w (fun e w' => look e t = some (.bool x) ∧ Sub ((s, .bool q) :: env) e ∧ R w'))
    (hF : b = !q → R w)
    (next : ∀ w', R w' → WR c B ops tl ((d, .bool (bif q then b && x else b || x)) :: env) w' N) : WR c B ops l env w N := by
  have hlen : l.take k ++ ⟨some d, .pick (.tmp s) u v, ty, pos, after, g⟩ :: tl = l := by rw [← hl]; exact List.take_append_drop k l
  by_cases hb : b = q
  · refine WR.cut k (fun e w' => (look e t = some (.bool x) ∧ Sub ((s, .bool q) :: env) e ∧ R w')) ?_ ?_
    · intro a ho
      exact hT hb a (ho.sub (Sub.cons (by rw [hs, hb]) (Sub.refl _)))
    · rintro e w' ⟨h1, h2, h3⟩
      rw [hl]
      have hsub : Sub env e := Sub.shadow (v := .bool q) (by rw [hs, hb]) h2
      have hse : look e s = some (.bool q) := h2.vals s _ (look_hit (look_ne hs))
      refine WR.pickOn (v := .bool x) (guardOn_sub hsub hg) hd (b := q) (by simpa [evO] using hse) ?_ ?_
      · rw [hu]; exact h1
      · have e1 : (bif q then b && x else b || x) = x := by subst hb; cases b <;> simp
        have := next w' h3
        rw [e1] at this
        exact fun a ho => this a (ho.sub (Sub.both hsub))
  · have hb' : b = !q := by cases b <;> cases q <;> simp_all
    unfold offOk at hoff
    split at hoff
    · rename_i e he
      have hdrop := offs_drop _ _ _ _ he
      have h2 : Sub ((s, .bool (!q)) :: env) e := Sub.drop _ _ _ hdrop hoff
      have hsub : Sub env e := Sub.shadow (v := .bool (!q)) (by rw [hs, hb']) h2
      have hse : look e s = some (.bool (!q)) := h2.vals s _ (look_hit (look_ne hs))
      have main : WR c B ops l ((s, .bool (!q)) :: env) w N := by
        refine WR.offs he ?_
        rw [hl]
        refine WR.pickOn (v := .bool (!q)) (guardOn_sub hsub hg) hd (b := !q) (by simpa [evO] using hse) ?_ ?_
        · have : (if (!q) = true then u else v) = (if q then v else u) := by cases q <;> rfl
          rw [this, hv]; rfl
        · have e1 : (bif q then b && x else b || x) = !q := by subst hb'; cases q <;> simp
          have := next w (hF hb')
          rw [e1] at this
          exact fun a ho => this a (ho.sub (Sub.both hsub))
      exact fun a ho => main a (ho.sub (Sub.cons (by rw [hs, hb']) (Sub.refl _)))
    · cases hoff
end rules
end Go.Eng

namespace Go.Eng
open Go Go.RowKit

abbrev I (n : Int) : Value := .int .i64 n
abbrev St (l : List UInt8) : Value := .string ⟨l.toArray⟩

/-! ### Facts on types, as closed equations -/
/-- A slice type: its element type, that one's cells, bytes, zero cells. -/
def slT (P : Program) (t : TypeId) : Option (TypeId × Nat × Nat × List Value) :=
  match P.underlying t with
  | some (.slice e) => match P.info? e with
    | some i => match i.zero with
      | some z => bif Nat.beq z.cells.size i.size then some (e, i.size, i.bytes, z.cells.toList) else none
      | none => none
    | none => none
  | _ => none
/-- A struct or array type: how many cells. -/
def aggT (P : Program) (t : TypeId) : Option Nat :=
  match P.underlying t with
  | some (.struct _) | some (.array _ _) => (P.info? t).map (·.size)
  | _ => none
/-- A type of one cell that is no struct or array. -/
def sclT (P : Program) (t : TypeId) : Bool :=
  match P.underlying t with
  | some (.struct _) | some (.array _ _) => false
  | some _ => match P.info? t with
    | some i => Nat.beq i.size 1
    | none => false
  | none => false
/-- A struct's field: its offset (its type has cells). -/
def fldT (P : Program) (t : TypeId) (i : Nat) : Option Nat :=
  match P.underlying t with
  | some (.struct fs) => match fs[i]? with
    | some f => match P.info? f.type with
      | some inf => bif Nat.beq inf.size 0 then none else some f.offset
      | none => none
    | none => none
  | _ => none
/-- A type's cells' count and zero cells. -/
def zeroT (P : Program) (t : TypeId) : Option (List Value) :=
  match P.info? t with
  | some i => match i.zero with
    | some z => bif Nat.beq z.cells.size i.size then some z.cells.toList else none
    | none => none
  | none => none
def plainFn (P : Program) (f : FuncId) : Bool :=
  match P.funcs[f]? with
  | some fn => fn.name != "runtime.NumGoroutine" && fn.body.isSome
  | none => false

section
variable {P : Program} {env : Env} {w : World} {ty : TypeId}

theorem slT_spec {t e : TypeId} {size bytes : Nat} {z : List Value} (h : slT P t = some (e, size, bytes, z)) :
    P.underlying t = some (.slice e) ∧ ∃ i zv, P.info? e = some i ∧ i.size = size ∧ i.bytes = bytes ∧ i.zero = some zv ∧ zv.cells = z.toArray ∧ z.length = size := by
  unfold slT at h
  split at h
  · rename_i e' hu
    split at h
    · rename_i i hi
      split at h
      · rename_i zv hz
        cases hb : Nat.beq zv.cells.size i.size with
        | false => rw [hb] at h; simp at h
        | true =>
          rw [hb] at h
          have := Nat.eq_of_beq_eq_true hb
          simp at h
          obtain ⟨rfl, rfl, rfl, rfl⟩ := h
          exact ⟨hu, i, zv, hi, rfl, rfl, hz, by simp, by simpa using this⟩
      · cases h
    · cases h
  · cases h

theorem run_isAgg_scl {t : TypeId} (h : sclT P t = true) : (isAgg t).run P w = .ok false w := by
  unfold sclT at h
  split at h
  · cases h
  · cases h
  · rename_i d hd h1 h2
    simp only [isAgg, underlying, program, Sem.run_bind, Sem.run, h2, Result.andThen_ok]
    cases d <;> simp_all [Sem.run_pure, Sem.run]
  · cases h
theorem size_scl {t : TypeId} (h : sclT P t = true) : ∃ i, P.info? t = some i ∧ i.size = 1 := by
  unfold sclT at h
  split at h
  · cases h
  · cases h
  · split at h
    · rename_i i hi; exact ⟨i, hi, Nat.eq_of_beq_eq_true h⟩
    · cases h
  · cases h
theorem run_isAgg_agg {t n : Nat} (h : aggT P t = some n) : (isAgg t).run P w = .ok true w ∧ ∃ i, P.info? t = some i ∧ i.size = n := by
  unfold aggT at h
  split at h
  all_goals first
    | (rename_i d hd
       cases hi : P.info? t with
       | none => rw [hi] at h; cases h
       | some i =>
         rw [hi] at h
         simp at h
         exact ⟨by simp [isAgg, underlying, program, Sem.run, hd], i, rfl, h⟩)
    | (rename_i d e hd
       cases hi : P.info? t with
       | none => rw [hi] at h; cases h
       | some i =>
         rw [hi] at h
         simp at h
         exact ⟨by simp [isAgg, underlying, program, Sem.run, hd], i, rfl, h⟩)
    | cases h

/-! ### Quiet operations -/
theorem Val.move {x : Operand} {v : Value} (hx : evO env x = some v) : Val P env w (.move x) ty v := fun n a ho d pos after g => by simp [execOp, ho.eval hx]
theorem Val.assign {x : Operand} {v : Value} (hx : evO env x = some v) : Val P env w (.assign x) ty v := fun n a ho d pos after g => by simp [execOp, ho.eval hx]
theorem Val.nilCheck {x : Operand} {p : Addr} (hx : evO env x = some (.pointer (some p))) : Val P env w (.nilCheck x) ty (.pointer (some p)) := fun n a ho d pos after g => by
  simp [execOp, ho.eval hx]
theorem Val.nilCheckF {x : Operand} {f : FuncId} {c : Array Value} (hx : evO env x = some (.func (.func f) #[] c)) : Val P env w (.nilCheck x) ty (.func (.func f) #[] c) := fun n a ho d pos after g => by
  simp [execOp, ho.eval hx]

theorem run_fieldAt {t : TypeId} {i o : Nat} {p : Addr} (hf : fldT P t i = some o) : (Instr.fieldAt t (.pointer (some p)) i).run P w = .ok (.pointer (some (p.add o))) w := by
  unfold fldT at hf
  split at hf
  · rename_i fs hu
    split at hf
    · rename_i f hfi
      split at hf
      · rename_i inf hinf
        cases hb : Nat.beq inf.size 0 with
        | true => rw [hb] at hf; simp at hf
        | false =>
          rw [hb] at hf
          have hne : inf.size ≠ 0 := Nat.ne_of_beq_eq_false hb
          simp at hf
          subst hf
          simp [Instr.fieldAt, run_underlying hu, hfi, Instr.sureAddr, fieldPlace, sizeOf, typeInfo, hinf, hne]
      · cases hf
    · cases hf
  · cases hf
theorem add_lit (b o n : Nat) : (⟨b, o, none⟩ : Addr).add n = ⟨b, o + n, none⟩ := by unfold Addr.add; split <;> simp_all
/-- A field of a block that is known whole. -/
theorem Val.fieldAddr {t : TypeId} {x : Operand} {i o b off : Nat} (hf : fldT P t i = some o) (hx : evO env x = some (.pointer (some ⟨b, off, none⟩))) :
    Val P env w (.fieldAddr t x i) ty (.pointer (some ⟨b, off + o, none⟩)) := fun n a ho d pos after g => by
  simp [execOp, ho.eval hx, run_fieldAt hf, add_lit]
theorem Val.fieldAddrP {t : TypeId} {x : Operand} {i o : Nat} {p : Addr} (hf : fldT P t i = some o) (hx : evO env x = some (.pointer (some p))) :
    Val P env w (.fieldAddr t x i) ty (.pointer (some (p.add o))) := fun n a ho d pos after g => by
  simp [execOp, ho.eval hx, run_fieldAt hf]

theorem Val.load1 {t : TypeId} {x : Operand} {p : Addr} {v : Value} (ht : sclT P t = true) (hx : evO env x = some (.pointer (some p))) (hc : w.cell? p = some v) : Val P env w (.load t x) ty v := fun n a ho d pos after g => by
  simp [execOp, ho.eval hx, Instr.loadAt, Instr.sureAddr, loadVar, run_isAgg_scl ht, hc]

def cellsAt (w : World) (p : Addr) (cs : List Value) : Prop := ∀ j v, cs[j]? = some v → w.cell? (p.add j) = some v

theorem Val.loadN {t n : Nat} {x : Operand} {p : Addr} {cs : List Value} (ht : aggT P t = some n) (hx : evO env x = some (.pointer (some p))) (hc : cellsAt w p cs) (hl : cs.length = n) :
    Val P env w (.load t x) ty (.agg cs.toArray) := fun n' a ho d pos after g => by
  obtain ⟨h1, i, hi, hs⟩ := run_isAgg_agg (w := w) ht
  have h2 := run_loadCells_list (P := P) (w := w) p cs hc
  simp [execOp, ho.eval hx, Instr.loadAt, Instr.sureAddr, loadVar, h1, sizeOf, typeInfo, hi, hs, ← hl, h2]

/-- A block that is known whole. -/
def Blk (w : World) (b : Nat) (cs : List Value) (t : TypeId) : Prop := w.heap[b]? = some (.cells cs.toArray t (0, 0))
theorem Blk.cell {b : Nat} {cs : List Value} {t : TypeId} (h : Blk w b cs t) (i : Nat) : w.cell? ⟨b, i, none⟩ = cs[i]? := by
  have := cell_of_row w b i cs.toArray t (0, 0) h
  simpa using this
theorem Blk.cellsAt {b : Nat} {cs : List Value} {t : TypeId} (h : Blk w b cs t) : cellsAt w ⟨b, 0, none⟩ cs := fun j v hv => by rw [add_lit, h.cell]; simpa using hv
theorem Blk.lt {b : Nat} {cs : List Value} {t : TypeId} (h : Blk w b cs t) : b < w.heap.size := by
  rcases Nat.lt_or_ge b w.heap.size with h1 | h1
  · exact h1
  · unfold Blk at h; rw [Array.getElem?_eq_none h1] at h; cases h
theorem Blk.keep {w' : World} {b B : Nat} {cs : List Value} {t : TypeId} (h : Blk w b cs t) (hk : Below B w w') (hb : b < B) : Blk w' b cs t := (hk.block b hb).trans h
theorem Blk.kept {w' : World} {b : Nat} {cs : List Value} {t : TypeId} (h : Blk w b cs t) (hk : Below w.heap.size w w') : Blk w' b cs t := h.keep hk h.lt

theorem Val.loadB {t : TypeId} {x : Operand} {b i : Nat} {cs : List Value} {T : TypeId} {v : Value} (ht : sclT P t = true) (hx : evO env x = some (.pointer (some ⟨b, i, none⟩))) (hb : Blk w b cs T) (hv : cs[i]? = some v) : Val P env w (.load t x) ty v :=
  Val.load1 ht hx (by rw [hb.cell, hv])
theorem Val.loadBN {t n : Nat} {x : Operand} {b : Nat} {cs : List Value} {T : TypeId} (ht : aggT P t = some n) (hx : evO env x = some (.pointer (some ⟨b, 0, none⟩))) (hb : Blk w b cs T) (hl : cs.length = n) : Val P env w (.load t x) ty (.agg cs.toArray) :=
  Val.loadN ht hx hb.cellsAt hl

/-! integers -/
section ints
variable {t ty2 : TypeId} {x y : Operand} {k : IntKind} {m n : Int} (hx : evO env x = some (.int k m)) (hy : evO env y = some (.int k n))
include hx hy
theorem Val.lss : Val P env w (.binOp .lss t x y ty2) ty (.bool (decide (m < n))) := fun _ a ho d pos after g => by simp [execOp, ho.eval hx, ho.eval hy, eqGuard, binOp, Op.intCmp]
theorem Val.leq : Val P env w (.binOp .leq t x y ty2) ty (.bool (decide (m ≤ n))) := fun _ a ho d pos after g => by simp [execOp, ho.eval hx, ho.eval hy, eqGuard, binOp, Op.intCmp]
theorem Val.gtr : Val P env w (.binOp .gtr t x y ty2) ty (.bool (decide (n < m))) := fun _ a ho d pos after g => by simp [execOp, ho.eval hx, ho.eval hy, eqGuard, binOp, Op.intCmp]
theorem Val.geq : Val P env w (.binOp .geq t x y ty2) ty (.bool (decide (n ≤ m))) := fun _ a ho d pos after g => by simp [execOp, ho.eval hx, ho.eval hy, eqGuard, binOp, Op.intCmp]
theorem Val.eql : Val P env w (.binOp .eql t x y ty2) ty (.bool (decide (m = n))) := fun _ a ho d pos after g => by
  simp [execOp, ho.eval hx, ho.eval hy, eqGuard, binOp, Op.intCmp]; rfl
theorem Val.neq : Val P env w (.binOp .neq t x y ty2) ty (.bool (!decide (m = n))) := fun _ a ho d pos after g => by
  simp [execOp, ho.eval hx, ho.eval hy, eqGuard, binOp, Op.intCmp]; rfl
theorem Val.add : Val P env w (.binOp .add t x y ty2) ty (.int k (k.wrap (m + n))) := fun _ a ho d pos after g => by simp [execOp, ho.eval hx, ho.eval hy, eqGuard, binOp, Op.intArith]
theorem Val.sub : Val P env w (.binOp .sub t x y ty2) ty (.int k (k.wrap (m - n))) := fun _ a ho d pos after g => by simp [execOp, ho.eval hx, ho.eval hy, eqGuard, binOp, Op.intArith]
theorem Val.mul : Val P env w (.binOp .mul t x y ty2) ty (.int k (k.wrap (m * n))) := fun _ a ho d pos after g => by simp [execOp, ho.eval hx, ho.eval hy, eqGuard, binOp, Op.intArith]
theorem Val.quo (h0 : n ≠ 0) : Val P env w (.binOp .quo t x y ty2) ty (.int k (k.wrap (m.tdiv n))) := fun _ a ho d pos after g => by simp [execOp, ho.eval hx, ho.eval hy, eqGuard, binOp, Op.intDiv, h0]
theorem Val.rem (h0 : n ≠ 0) : Val P env w (.binOp .rem t x y ty2) ty (.int k (m.tmod n)) := fun _ a ho d pos after g => by simp [execOp, ho.eval hx, ho.eval hy, eqGuard, binOp, Op.intDiv, h0]
end ints
theorem wrap_i64_in {m : Int} (h1 : -9223372036854775808 ≤ m) (h2 : m ≤ 9223372036854775807) : IntKind.i64.wrap m = m := by rw [IntKind.wrap_i64]; omega
section i64
variable {t ty2 : TypeId} {x y : Operand} {m n : Int} (hx : evO env x = some (I m)) (hy : evO env y = some (I n))
include hx hy
theorem Val.addI (h1 : -9223372036854775808 ≤ m + n) (h2 : m + n ≤ 9223372036854775807) : Val P env w (.binOp .add t x y ty2) ty (I (m + n)) := by have := Val.add (P := P) (w := w) (ty := ty) (t := t) (ty2 := ty2) hx hy; rwa [wrap_i64_in h1 h2] at this
theorem Val.subI (h1 : -9223372036854775808 ≤ m - n) (h2 : m - n ≤ 9223372036854775807) : Val P env w (.binOp .sub t x y ty2) ty (I (m - n)) := by have := Val.sub (P := P) (w := w) (ty := ty) (t := t) (ty2 := ty2) hx hy; rwa [wrap_i64_in h1 h2] at this
theorem Val.mulI (h1 : -9223372036854775808 ≤ m * n) (h2 : m * n ≤ 9223372036854775807) : Val P env w (.binOp .mul t x y ty2) ty (I (m * n)) := by have := Val.mul (P := P) (w := w) (ty := ty) (t := t) (ty2 := ty2) hx hy; rwa [wrap_i64_in h1 h2] at this
theorem Val.quoI (h0 : 0 ≤ m) (h1 : 0 < n) (h2 : m ≤ 9223372036854775807) : Val P env w (.binOp .quo t x y ty2) ty (I (m / n)) := by
  have := Val.quo (P := P) (w := w) (ty := ty) (t := t) (ty2 := ty2) hx hy (by omega)
  have h3 : m / n ≤ m := Int.ediv_le_self _ h0
  have h4 : 0 ≤ m / n := Int.ediv_nonneg h0 (by omega)
  rw [Int.tdiv_eq_ediv_of_nonneg h0] at this
  generalize m / n = q at *
  rwa [wrap_i64_in (by omega) (by omega)] at this
theorem Val.remI (h0 : 0 ≤ m) (h1 : 0 < n) : Val P env w (.binOp .rem t x y ty2) ty (I (m % n)) := by
  have := Val.rem (P := P) (w := w) (ty := ty) (t := t) (ty2 := ty2) hx hy (by omega)
  rwa [Int.tmod_eq_emod_of_nonneg h0] at this
end i64

/-! bools -/
theorem Val.not {x : Operand} {b : Bool} {t : TypeId} (hx : evO env x = some (.bool b)) : Val P env w (.unOp .not t x) ty (.bool (!b)) := fun _ a ho d pos after g => by simp [execOp, ho.eval hx, Op.unary]
theorem Val.pick {cd x y : Operand} {b : Bool} {v : Value} (hc : evO env cd = some (.bool b)) (hv : evO env (if b then x else y) = some v) : Val P env w (.pick cd x y) ty v := fun _ a ho d pos after g => by
  rw [run_pick _ _ _ (ho.eval hc), ← ho.eval hv]; cases b <;> rfl

/-! strings -/
theorem size_mk (l : List UInt8) : (⟨l.toArray⟩ : ByteArray).size = l.length := by simp [ByteArray.size]
theorem toList_mk (l : List UInt8) : (⟨l.toArray⟩ : ByteArray).toList = l := by rw [ByteArray.toList_eq]
section strs
variable {t ty2 : TypeId} {x y : Operand} {l r : List UInt8} (hx : evO env x = some (St l)) (hy : evO env y = some (St r))
include hx hy
theorem Val.seq_ : Val P env w (.binOp .eql t x y ty2) ty (.bool (l == r)) := fun _ a ho d pos after g => by simp [execOp, ho.eval hx, ho.eval hy, eqGuard, binOp, Op.stringOp, toList_mk]
theorem Val.sne : Val P env w (.binOp .neq t x y ty2) ty (.bool (!(l == r))) := fun _ a ho d pos after g => by simp [execOp, ho.eval hx, ho.eval hy, eqGuard, binOp, Op.stringOp, toList_mk]
theorem Val.sadd (h : l.length + r.length ≤ 9223372036854775807) : Val P env w (.binOp .add t x y ty2) ty (St (l ++ r)) := fun _ a ho d pos after g => by
  have h' : ¬ (((l.length + r.length : Nat) : Int) > IntKind.i64.max) := by simp [IntKind.max, IntKind.bits, IntKind.signed]; omega
  have e : (⟨l.toArray⟩ : ByteArray) ++ ⟨r.toArray⟩ = ⟨(l ++ r).toArray⟩ := by
    apply ByteArray.ext
    simp [ByteArray.data_append]
  simp only [execOp, ho.eval hx, ho.eval hy, eqGuard, binOp, Op.stringOp, size_mk]
  rw [if_neg h']; simp [e]
end strs

theorem Val.slen {x : Operand} {l : List UInt8} {t : TypeId} (ht : P.underlying t = some .string) (hx : evO env x = some (St l)) : Val P env w (.call ⟨.builtin .len, #[x], #[t]⟩) ty (I l.length) := fun _ a ho d pos after g => by
  simp [execOp, resolve, invoke, builtin, Builtin.len_, ho.eval hx, run_underlying ht, size_mk, goInt]
theorem Val.sllen {x : Operand} {A : Option Addr} {n c : Nat} {t e : TypeId} (ht : P.underlying t = some (.slice e)) (hx : evO env x = some (.slice A n c)) : Val P env w (.call ⟨.builtin .len, #[x], #[t]⟩) ty (I n) := fun _ a ho d pos after g => by
  simp [execOp, resolve, invoke, builtin, Builtin.len_, ho.eval hx, run_underlying ht, goInt]

/-- s[i] of a string. -/
theorem Val.sindex {x y : Operand} {l : List UInt8} {i : Int} {k : IntKind} {t : TypeId} {b : UInt8} (ht : P.underlying t = some .string) (hx : evO env x = some (St l)) (hy : evO env y = some (.int k i))
    (h0 : 0 ≤ i) (hb : l[i.toNat]? = some b) : Val P env w (.index t x y) ty (.int .u8 b.toNat) := fun _ a ho d pos after g => by
  have hlt : i.toNat < l.length := by
    rcases Nat.lt_or_ge i.toNat l.length with h | h
    · exact h
    · rw [List.getElem?_eq_none h] at hb; cases hb
  have h2 : (⟨l.toArray⟩ : ByteArray)[i.toNat]? = some b := by
    rw [ByteArray.getElem?_lt' _ _ (by rw [size_mk]; exact hlt)]
    rw [List.getElem?_eq_getElem hlt] at hb
    exact hb
  simp [execOp, Instr.index, ho.eval hx, ho.eval hy, run_underlying ht, asIntOf, h0, h2]

theorem extract_mk (l : List UInt8) (a b : Nat) : (ByteArray.mk l.toArray).extract a b = ByteArray.mk ((l.drop a).take (b - a)).toArray := ByteArray.extract_mk l a b

section sslice
variable {t : TypeId} {x : Operand} {l : List UInt8} (ht : P.underlying t = some .string) (hx : evO env x = some (St l))
include ht hx
theorem Val.sslice {y z : Operand} {k k' : IntKind} {i j : Int} (hy : evO env y = some (.int k i)) (hz : evO env z = some (.int k' j)) (h0 : 0 ≤ i) (h1 : i ≤ j) (h2 : j ≤ l.length) :
    Val P env w (.slice t x (some y) (some z) none) ty (St ((l.drop i.toNat).take (j.toNat - i.toNat))) := fun _ a ho d pos after g => by
  obtain ⟨m, rfl⟩ := Int.eq_ofNat_of_zero_le (show 0 ≤ j by omega)
  obtain ⟨q, rfl⟩ := Int.eq_ofNat_of_zero_le h0
  have h3 : q ≤ m := by omega
  have h4 : m ≤ l.length := by omega
  simp [execOp, Instr.sliceAt, Instr.slice, Instr.sliceBounds, Instr.sliceBound, ho.eval hx, ho.eval hy, ho.eval hz, run_underlying ht, asIntOf, size_mk, h3, h4, extract_mk]
theorem Val.ssliceFrom {y : Operand} {k : IntKind} {i : Int} (hy : evO env y = some (.int k i)) (h0 : 0 ≤ i) (h2 : i ≤ l.length) :
    Val P env w (.slice t x (some y) none none) ty (St (l.drop i.toNat)) := fun _ a ho d pos after g => by
  have e : (l.drop i.toNat).take (l.length - i.toNat) = l.drop i.toNat := List.take_of_length_le (by simp)
  simp [execOp, Instr.sliceAt, Instr.slice, Instr.sliceBounds, Instr.sliceBound, ho.eval hx, ho.eval hy, run_underlying ht, asIntOf, size_mk, h0, h2, extract_mk, e]
theorem Val.ssliceTo {z : Operand} {k : IntKind} {j : Int} (hz : evO env z = some (.int k j)) (h0 : 0 ≤ j) (h2 : j ≤ l.length) :
    Val P env w (.slice t x none (some z) none) ty (St (l.take j.toNat)) := fun _ a ho d pos after g => by
  simp [execOp, Instr.sliceAt, Instr.slice, Instr.sliceBounds, Instr.sliceBound, ho.eval hx, ho.eval hz, run_underlying ht, asIntOf, size_mk, h0, h2, extract_mk]
end sslice

theorem Val.convInt {x : Operand} {k k' : IntKind} {m : Int} {src dst : TypeId} {ds : TypeDesc} (hs : P.underlying src = some ds) (hd : P.underlying dst = some (.int k')) (hx : evO env x = some (.int k m)) :
    Val P env w (.convert src dst x) ty (.int k' (k'.wrap m)) := fun _ a ho d pos after g => by
  simp only [execOp, convert, ho.eval hx]
  simp only [Sem.run_bind, run_underlying hs, run_underlying hd, Result.andThen_ok]
  cases ds <;> simp [Conv.intToInt]
theorem Val.convSame {x : Operand} {l : List UInt8} {src dst : TypeId} {ds : TypeDesc} (hs : P.underlying src = some .string) (hd : P.underlying dst = some .string) (hx : evO env x = some (St l)) :
    Val P env w (.convert src dst x) ty (St l) := fun _ a ho d pos after g => by
  simp [execOp, convert, ho.eval hx, run_underlying hs, run_underlying hd]

theorem Val.extract {x : Operand} {vs : List Value} {i : Nat} {v : Value} (hx : evO env x = some (.tuple vs.toArray)) (hv : vs[i]? = some v) : Val P env w (.extract x i) ty v := fun _ a ho d pos after g => by
  simp [execOp, Instr.extract, ho.eval hx, hv]
theorem Val.makeFunc {f : Fn} {caps : Array Operand} {vs : List Value} (hx : evL env caps.toList = some vs) : Val P env w (.makeFunc f #[] caps) ty (.func f #[] vs.toArray) := fun _ a ho d pos after g => by
  have := ho.evalL hx
  have e : caps.map a.eval = vs.toArray := by rw [← this]; apply Array.ext'; simp
  simp [execOp, Instr.makeFunc, e]

/-! more on integers -/
theorem wrap_u8_nat (n : Nat) : IntKind.u8.wrap (n : Int) = ((UInt8.ofNat n).toNat : Int) := by
  simp [IntKind.wrap, IntKind.signed, IntKind.bits]
theorem wrap_u64_in {m : Int} (h1 : 0 ≤ m) (h2 : m < 18446744073709551616) : IntKind.u64.wrap m = m := by
  simp [IntKind.wrap, IntKind.signed, IntKind.bits]; omega
theorem wrap_u32_in {m : Int} (h1 : 0 ≤ m) (h2 : m < 4294967296) : IntKind.u32.wrap m = m := by
  simp [IntKind.wrap, IntKind.signed, IntKind.bits]; omega
theorem wrap_i32_in {m : Int} (h1 : -2147483648 ≤ m) (h2 : m < 2147483648) : IntKind.i32.wrap m = m := by rw [IntKind.wrap_i32]; omega
section conv
variable {x : Operand} {src dst : TypeId} {ds : TypeDesc}
/-- int(b), b a byte. -/
theorem Val.convU8 {b : UInt8} (hs : P.underlying src = some ds) (hd : P.underlying dst = some (.int .i64)) (hx : evO env x = some (.int .u8 b.toNat)) : Val P env w (.convert src dst x) ty (I b.toNat) := by
  have := Val.convInt (P := P) (env := env) (w := w) (ty := ty) hs hd hx
  have hb := b.toNat_lt
  rwa [wrap_i64_in (by omega) (by omega)] at this
theorem Val.convU8u64 {b : UInt8} (hs : P.underlying src = some ds) (hd : P.underlying dst = some (.int .u64)) (hx : evO env x = some (.int .u8 b.toNat)) : Val P env w (.convert src dst x) ty (.int .u64 b.toNat) := by
  have := Val.convInt (P := P) (env := env) (w := w) (ty := ty) hs hd hx
  have hb := b.toNat_lt
  rwa [wrap_u64_in (by omega) (by omega)] at this
/-- byte(n). -/
theorem Val.convToU8 {n : Nat} {k : IntKind} (hs : P.underlying src = some ds) (hd : P.underlying dst = some (.int .u8)) (hx : evO env x = some (.int k (n : Int))) : Val P env w (.convert src dst x) ty (.int .u8 (UInt8.ofNat n).toNat) := by
  have := Val.convInt (P := P) (env := env) (w := w) (ty := ty) hs hd hx
  rwa [wrap_u8_nat] at this
theorem Val.convTo64 {k : IntKind} {m : Int} (hs : P.underlying src = some ds) (hd : P.underlying dst = some (.int .i64)) (hx : evO env x = some (.int k m)) (h1 : -9223372036854775808 ≤ m) (h2 : m ≤ 9223372036854775807) : Val P env w (.convert src dst x) ty (I m) := by
  have := Val.convInt (P := P) (env := env) (w := w) (ty := ty) hs hd hx
  rwa [wrap_i64_in h1 h2] at this
theorem Val.convToU64 {k : IntKind} {m : Int} (hs : P.underlying src = some ds) (hd : P.underlying dst = some (.int .u64)) (hx : evO env x = some (.int k m)) (h1 : 0 ≤ m) (h2 : m < 18446744073709551616) : Val P env w (.convert src dst x) ty (.int .u64 m) := by
  have := Val.convInt (P := P) (env := env) (w := w) (ty := ty) hs hd hx
  rwa [wrap_u64_in h1 h2] at this
theorem Val.convToU32 {k : IntKind} {m : Int} (hs : P.underlying src = some ds) (hd : P.underlying dst = some (.int .u32)) (hx : evO env x = some (.int k m)) : Val P env w (.convert src dst x) ty (.int .u32 (m % 4294967296)) := by
  have := Val.convInt (P := P) (env := env) (w := w) (ty := ty) hs hd hx
  rwa [show IntKind.u32.wrap m = m % 4294967296 by simp [IntKind.wrap, IntKind.signed, IntKind.bits]] at this
end conv
/-- The byte of a number. -/
def u8I (m : Int) : UInt8 := UInt8.ofNat (m % 256).toNat
theorem wrap_u8I (m : Int) : IntKind.u8.wrap m = ((u8I m).toNat : Int) := by
  have h1 : 0 ≤ m % 256 := Int.emod_nonneg _ (by decide)
  have h2 : m % 256 < 256 := Int.emod_lt_of_pos _ (by decide)
  simp [IntKind.wrap, IntKind.signed, IntKind.bits, u8I]
  omega
theorem Val.convToU8I {x : Operand} {src dst : TypeId} {ds : TypeDesc} {m : Int} {k : IntKind} (hs : P.underlying src = some ds) (hd : P.underlying dst = some (.int .u8)) (hx : evO env x = some (.int k m)) : Val P env w (.convert src dst x) ty (.int .u8 (u8I m).toNat) := by
  have := Val.convInt (P := P) (env := env) (w := w) (ty := ty) hs hd hx
  rwa [wrap_u8I] at this
section shifts
variable {t ty2 : TypeId} {x y : Operand}
/-- m >> s. -/
theorem Val.shr {k k2 : IntKind} {m s : Int} (hx : evO env x = some (.int k m)) (hy : evO env y = some (.int k2 s)) (h0 : 0 ≤ s) (hs : s.toNat ≤ k.bits) : Val P env w (.binOp .shr t x y ty2) ty (.int k (m / 2 ^ s.toNat)) := fun _ a ho d pos after g => by
  have h1 : ¬ s < 0 := by omega
  have h2 : min s.toNat k.bits = s.toNat := by omega
  simp [execOp, ho.eval hx, ho.eval hy, eqGuard, binOp, Op.shift, h1, h2]
  rw [Int.fdiv_eq_ediv_of_nonneg _ (by exact_mod_cast Nat.zero_le _)]
theorem Val.shl {k k2 : IntKind} {m s : Int} (hx : evO env x = some (.int k m)) (hy : evO env y = some (.int k2 s)) (h0 : 0 ≤ s) (hs : s.toNat ≤ k.bits) : Val P env w (.binOp .shl t x y ty2) ty (.int k (k.wrap (m * 2 ^ s.toNat))) := fun _ a ho d pos after g => by
  have h1 : ¬ s < 0 := by omega
  have h2 : min s.toNat k.bits = s.toNat := by omega
  simp [execOp, ho.eval hx, ho.eval hy, eqGuard, binOp, Op.shift, h1, h2]
theorem Val.bitop {op : BinOp} {k : IntKind} {m n : Int} {r : BitVec k.bits} (hx : evO env x = some (.int k m)) (hy : evO env y = some (.int k n))
    (hr : (op = .or ∧ r = BitVec.ofInt k.bits m ||| BitVec.ofInt k.bits n) ∨ (op = .and ∧ r = BitVec.ofInt k.bits m &&& BitVec.ofInt k.bits n) ∨ (op = .xor ∧ r = BitVec.ofInt k.bits m ^^^ BitVec.ofInt k.bits n)) :
    Val P env w (.binOp op t x y ty2) ty (.int k (k.wrap (r.toNat : Int))) := fun _ a ho d pos after g => by
  rcases hr with ⟨rfl, rfl⟩ | ⟨rfl, rfl⟩ | ⟨rfl, rfl⟩ <;> simp [execOp, ho.eval hx, ho.eval hy, eqGuard, binOp, Op.intBits]
theorem ofInt_nat (b m : Nat) (h : m < 2 ^ b) : (BitVec.ofInt b (m : Int)).toNat = m := by rw [BitVec.ofInt_natCast, BitVec.toNat_ofNat]; exact Nat.mod_eq_of_lt h
/-- | of numbers that are not negative. -/
theorem Val.orU {k : IntKind} {m n : Nat} (hx : evO env x = some (.int k (m : Int))) (hy : evO env y = some (.int k (n : Int))) (hm : m < 2 ^ k.bits) (hn : n < 2 ^ k.bits) (hw : k.wrap ((m ||| n : Nat) : Int) = ((m ||| n : Nat) : Int)) : Val P env w (.binOp .or t x y ty2) ty (.int k ((m ||| n : Nat) : Int)) := by
  have := Val.bitop (P := P) (w := w) (ty := ty) (t := t) (ty2 := ty2) (op := .or) hx hy (.inl ⟨rfl, rfl⟩)
  rw [BitVec.toNat_or, ofInt_nat _ _ hm, ofInt_nat _ _ hn, hw] at this
  exact this
theorem or_256 (m n : Nat) (hn : n < 256) : (m * 256) ||| n = m * 256 + n := by
  have := Nat.shiftLeft_add_eq_or_of_lt (i := 8) hn m
  have h : m <<< 8 = m * 256 := by simp [Nat.shiftLeft_eq]
  rw [h] at this
  exact this.symm
/-- n<<8 | b -/
theorem Val.or256_u64 {m n : Nat} (hx : evO env x = some (.int .u64 ((m * 256 : Nat) : Int))) (hy : evO env y = some (.int .u64 (n : Int))) (hm : m < 72057594037927936) (hn : n < 256) : Val P env w (.binOp .or t x y ty2) ty (.int .u64 ((m * 256 + n : Nat) : Int)) := by
  have := Val.orU (P := P) (w := w) (ty := ty) (t := t) (ty2 := ty2) hx hy (by simp [IntKind.bits]; omega) (by simp [IntKind.bits]; omega) (by rw [or_256 m n hn]; exact wrap_u64_in (by omega) (by omega))
  rwa [or_256 m n hn] at this
theorem Val.or256_i64 {m n : Nat} (hx : evO env x = some (I ((m * 256 : Nat) : Int))) (hy : evO env y = some (I (n : Int))) (hm : m < 36028797018963968) (hn : n < 256) : Val P env w (.binOp .or t x y ty2) ty (I ((m * 256 + n : Nat) : Int)) := by
  have := Val.orU (P := P) (w := w) (ty := ty) (t := t) (ty2 := ty2) hx hy (by simp [IntKind.bits]; omega) (by simp [IntKind.bits]; omega) (by rw [or_256 m n hn]; exact wrap_i64_in (by omega) (by omega))
  rwa [or_256 m n hn] at this
theorem Val.shl8_u64 {m : Nat} {k2 : IntKind} (hx : evO env x = some (.int .u64 (m : Int))) (hy : evO env y = some (.int k2 8)) (hm : m < 72057594037927936) : Val P env w (.binOp .shl t x y ty2) ty (.int .u64 ((m * 256 : Nat) : Int)) := by
  have := Val.shl (P := P) (w := w) (ty := ty) (t := t) (ty2 := ty2) hx hy (by decide) (by decide)
  have e : IntKind.u64.wrap ((m : Int) * 2 ^ (8 : Int).toNat) = ((m * 256 : Nat) : Int) := by
    have : ((m : Int) * 2 ^ (8 : Int).toNat) = ((m * 256 : Nat) : Int) := by simp
    rw [this]; exact wrap_u64_in (by omega) (by omega)
  rwa [e] at this
theorem Val.shl8_i64 {m : Nat} {k2 : IntKind} (hx : evO env x = some (I (m : Int))) (hy : evO env y = some (.int k2 8)) (hm : m < 36028797018963968) : Val P env w (.binOp .shl t x y ty2) ty (I ((m * 256 : Nat) : Int)) := by
  have := Val.shl (P := P) (w := w) (ty := ty) (t := t) (ty2 := ty2) hx hy (by decide) (by decide)
  have e : IntKind.i64.wrap ((m : Int) * 2 ^ (8 : Int).toNat) = ((m * 256 : Nat) : Int) := by
    have : ((m : Int) * 2 ^ (8 : Int).toNat) = ((m * 256 : Nat) : Int) := by simp
    rw [this]; exact wrap_i64_in (by omega) (by omega)
  rwa [e] at this
end shifts

/-! ### Calls -/
theorem callFunc_plain {f : FuncId} (hf : plainFn P f = true) (args : Array Value) : (callFunc f args).run P w = .ok (.enter f args) w := by
  unfold plainFn at hf
  split at hf
  · rename_i fn hfn
    simp at hf
    obtain ⟨h1, h2⟩ := hf
    cases hb : fn.body with
    | none => rw [hb] at h2; cases h2
    | some x => simp [callFunc, program, Sem.run, hfn, h1, hb]
  · cases hf

theorem Eff.call {f : FuncId} {args : Array Operand} {at_ : Array TypeId} {vs : List Value} {S : Value → World → Prop} (hf : plainFn P f = true) (hx : evL env args.toList = some vs)
    (hc : Calls P f vs.toArray w (Ret S)) : Eff P env w (.call ⟨.value (.func f), args, at_⟩) ty S := by
  intro n a ho ro d pos after g K Q hK
  have := ho.evalL hx
  have e : args.map a.eval = vs.toArray := by rw [← this]; apply Array.ext'; simp
  have hr : (execOp a.eval ⟨d, .call ⟨.value (.func f), args, at_⟩, ty, pos, after, g⟩).run P w = .ok (.enter f vs.toArray) w := by
    simp [execOp, resolve, Deferred.ofValue, Act.eval, invoke, e, callFunc_plain hf]
  exact wpIn_of_enter hr hc hK

/-- A call of a function value. -/
theorem Eff.callV {x : Operand} {f : FuncId} {caps : Array Value} {args : Array Operand} {at_ : Array TypeId} {vs : List Value} {S : Value → World → Prop} (hv : evO env x = some (.func (.func f) #[] caps)) (hf : plainFn P f = true)
    (hx : evL env args.toList = some vs) (hc : Calls P f (vs.toArray ++ caps) w (Ret S)) : Eff P env w (.call ⟨.value x, args, at_⟩) ty S := by
  intro n a ho ro d pos after g K Q hK
  have := ho.evalL hx
  have e : args.map a.eval = vs.toArray := by rw [← this]; apply Array.ext'; simp
  have hr : (execOp a.eval ⟨d, .call ⟨.value x, args, at_⟩, ty, pos, after, g⟩).run P w = .ok (.enter f (vs.toArray ++ caps)) w := by
    simp [execOp, resolve, Deferred.ofValue, ho.eval hv, invoke, e, callFunc_plain hf]
  exact wpIn_of_enter hr hc hK

/-! ### New blocks -/
/-- Behind one new block. -/
structure NewB (w w' : World) (b : Nat) (cs : List Value) (t : TypeId) : Prop where
  at_ : b = w.heap.size
  size : w'.heap.size = w.heap.size + 1
  blk : Blk w' b cs t
  below : Below w.heap.size w w'

theorem NewB.mk' (w : World) (cs : List Value) (t : TypeId) : NewB w (w.alloc (.cells cs.toArray t)) w.heap.size cs t :=
  ⟨rfl, by show (w.heap.push _).size = _; simp, heap_alloc_new w _, (Below.refl _ _).alloc (Nat.le_refl _) _⟩

def IsNew (w : World) (cs : List Value) (t : TypeId) (v : Value) (w' : World) : Prop := ∃ b, v = .pointer (some ⟨b, 0, none⟩) ∧ NewB w w' b cs t

theorem Eff.box {t : TypeId} {x : Operand} {cs : List Value} (hx : evO env x = some (.agg cs.toArray)) : Eff P env w (.box t x) ty (IsNew w cs t) :=
  Eff.of_run fun _ a ho d pos after g => ⟨_, _, by simp [execOp, Instr.box, ho.eval hx, newVar, newRow, Value.cells, newObj, Sem.run], w.heap.size, rfl, NewB.mk' w cs t⟩
theorem Eff.box1 {t : TypeId} {x : Operand} {v : Value} (hx : evO env x = some v) (hv : v.cells = #[v]) : Eff P env w (.box t x) ty (IsNew w [v] t) :=
  Eff.of_run fun _ a ho d pos after g => ⟨_, _, by simp [execOp, Instr.box, ho.eval hx, newVar, newRow, hv, newObj, Sem.run], w.heap.size, rfl, NewB.mk' w [v] t⟩
theorem zeroT_spec {t : TypeId} {z : List Value} (h : zeroT P t = some z) : ∃ i zv, P.info? t = some i ∧ i.zero = some zv ∧ zv.cells = z.toArray ∧ i.size = z.length := by
  unfold zeroT at h
  split at h
  · rename_i i hi
    split at h
    · rename_i zv hz
      cases hb : Nat.beq zv.cells.size i.size with
      | false => rw [hb] at h; simp at h
      | true =>
        rw [hb] at h
        have := Nat.eq_of_beq_eq_true hb
        simp at h
        subst h
        exact ⟨i, zv, hi, hz, by simp, by simpa using this.symm⟩
    · cases h
  · cases h
theorem run_zeroT {t : TypeId} {z : List Value} (h : zeroT P t = some z) : ∃ zv, (zeroValue t).run P w = .ok zv w ∧ zv.cells = z.toArray := by
  obtain ⟨i, zv, hi, hz, hc, _⟩ := zeroT_spec h
  exact ⟨zv, by simp [zeroValue, typeInfo, hi, hz], hc⟩
theorem Eff.alloc {t : TypeId} {z : List Value} (hz : zeroT P t = some z) : Eff P env w (.alloc t) ty (IsNew w z t) :=
  Eff.of_run fun _ a ho d pos after g => by
    obtain ⟨zv, h1, h2⟩ := run_zeroT (w := w) hz
    exact ⟨_, _, by simp [execOp, Instr.alloc, h1, newVar, newRow, h2, newObj, Sem.run], w.heap.size, rfl, NewB.mk' w z t⟩
end
end Go.Eng

namespace Go.Eng
open Go Go.RowKit

/-- How one value of a Lean type lies in cells; B: it lies below that block. -/
structure Shape (α : Type) where
  size : Nat
  rd : Nat → World → List Value → α → Prop
  len : ∀ {B : Nat} {w : World} {cs : List Value} {x : α}, rd B w cs x → cs.length = size
  keep : ∀ {B : Nat} {w w' : World} {cs : List Value} {x : α}, (∀ k, k < B → w'.heap[k]? = w.heap[k]?) → rd B w cs x → rd B w' cs x
  mono : ∀ {B B' : Nat} {w : World} {cs : List Value} {x : α}, B ≤ B' → rd B w cs x → rd B' w cs x
  one : ∀ {B : Nat} {w : World} {cs : List Value} {x : α}, rd B w cs x → ∀ u ∈ cs, u.oneCell' = true

/-- Plain data: the cells are a function of it. -/
def Shape.flat {α : Type} (n : Nat) (enc : α → List Value) (ok : α → Prop) (h : ∀ x, (enc x).length = n) (h1 : ∀ x, ∀ u ∈ enc x, u.oneCell' = true) : Shape α where
  size := n
  rd := fun _ _ cs x => cs = enc x ∧ ok x
  len := fun h0 => by rw [h0.1]; exact h _
  keep := fun _ h0 => h0
  mono := fun _ h0 => h0
  one := fun h0 => by rw [h0.1]; exact h1 _

def Int64 (n : Int) : Prop := -9223372036854775808 ≤ n ∧ n ≤ 9223372036854775807
def intS : Shape Int := Shape.flat 1 (fun n => [I n]) Int64 (fun _ => rfl) (fun _ u hu => by simp at hu; subst hu; rfl)
def strS : Shape (List UInt8) := Shape.flat 1 (fun l => [St l]) (fun l => l.length ≤ 140737488355328) (fun _ => rfl) (fun _ u hu => by simp at hu; subst hu; rfl)
def byteS : Shape UInt8 := Shape.flat 1 (fun b => [.int .u8 b.toNat]) (fun _ => True) (fun _ => rfl) (fun _ u hu => by simp at hu; subst hu; rfl)
def boolS : Shape Bool := Shape.flat 1 (fun b => [.bool b]) (fun _ => True) (fun _ => rfl) (fun _ u hu => by simp at hu; subst hu; rfl)

theorem add_add (a : Addr) (i j : Nat) : (a.add i).add j = a.add (i + j) := by
  unfold Addr.add
  by_cases hi : i = 0 <;> by_cases hj : j = 0 <;> simp [hi, hj, Nat.add_assoc]
theorem add_block (a : Addr) (n : Nat) : (a.add n).block = a.block := by unfold Addr.add; split <;> rfl
theorem add_zero (a : Addr) : a.add 0 = a := by simp [Addr.add]

/-- Where a slice's element lies. -/
def elemA : Value → Nat → Nat → Addr
  | .slice (some a) _ _, size, i => a.add (i * size)
  | _, _, _ => default

theorem cellsAt.keep {w w' : World} {p : Addr} {cs : List Value} (h : cellsAt w p cs) (hk : w'.heap[p.block]? = w.heap[p.block]?) : cellsAt w' p cs := fun j v hv => by
  rw [← h j v hv]
  exact World.cell?_of_block (by rw [add_block]; exact hk)
theorem cellsAt.block {w : World} {p : Addr} {cs : List Value} (h : cellsAt w p cs) (h0 : 0 < cs.length) : p.block < w.heap.size := by
  have := World.block_lt_of_cell? w _ (h 0 cs[0] (List.getElem?_eq_getElem h0))
  rwa [add_block] at this

/-- A slice reads as a list. -/
structure RdS {α : Type} (s : Shape α) (B : Nat) (w : World) (v : Value) (l : List α) : Prop where
  form : ∃ A c, v = .slice A l.length c ∧ l.length ≤ c ∧ c ≤ maxLen ∧ (∀ a, A = some a → 0 < l.length → a.block < B)
  elem : ∀ i x, l[i]? = some x → ∃ cs, cellsAt w (elemA v s.size i) cs ∧ s.rd B w cs x
  addr : 0 < l.length → ∃ a c, v = .slice (some a) l.length c
  small : l.length ≤ 140737488355328

section
variable {α : Type} {s : Shape α} {B B' : Nat} {w w' : World} {v : Value} {l : List α}

theorem RdS.lenI (h : RdS s B w v l) : l.length ≤ maxLen := by obtain ⟨A, c, _, h1, h2, _⟩ := h.form; omega
theorem RdS.lenN (h : RdS s B w v l) : l.length ≤ 9223372036854775807 := by have := h.lenI; simpa [maxLen] using this
theorem RdS.blockA (h : RdS s B w v l) {i : Nat} (hi : i < l.length) : (elemA v s.size i).block < B := by
  obtain ⟨a, c, rfl⟩ := h.addr (by omega)
  obtain ⟨A, c', he, _, _, hb⟩ := h.form
  injection he with he
  subst he
  simp only [elemA, add_block]
  exact hb a rfl (by omega)
theorem RdS.at (h : RdS s B w v l) {i : Nat} {x : α} (hi : l[i]? = some x) : ∃ cs, cellsAt w (elemA v s.size i) cs ∧ s.rd B w cs x := h.elem i x hi
theorem RdS.keep (h : RdS s B w v l) (hk : ∀ k, k < B → w'.heap[k]? = w.heap[k]?) : RdS s B w' v l :=
  ⟨h.form, fun i x hi => by
    obtain ⟨cs, h1, h2⟩ := h.elem i x hi
    have hlt : i < l.length := by
      rcases Nat.lt_or_ge i l.length with h' | h'
      · exact h'
      · rw [List.getElem?_eq_none h'] at hi; cases hi
    exact ⟨cs, h1.keep (hk _ (h.blockA hlt)), s.keep hk h2⟩, h.addr, h.small⟩
theorem RdS.below (h : RdS s B w v l) (hk : Below B w w') : RdS s B w' v l := h.keep hk.block
theorem RdS.kept (h : RdS s B w v l) (hk : Below w.heap.size w w') (hB : B ≤ w.heap.size) : RdS s B w' v l := h.keep fun k hkB => hk.block k (by omega)
theorem RdS.mono (h : RdS s B w v l) (hB : B ≤ B') : RdS s B' w v l :=
  ⟨by obtain ⟨A, c, h1, h2, h3, h4⟩ := h.form; exact ⟨A, c, h1, h2, h3, fun a ha h0 => Nat.lt_of_lt_of_le (h4 a ha h0) hB⟩,
   fun i x hi => by obtain ⟨cs, h1, h2⟩ := h.elem i x hi; exact ⟨cs, h1, s.mono hB h2⟩, h.addr, h.small⟩
theorem RdS.oneC (h : RdS s B w v l) : v.oneCell' = true := by obtain ⟨A, c, rfl, _⟩ := h.form; rfl
theorem RdS.cellsV (h : RdS s B w v l) : v.cells = #[v] := by obtain ⟨A, c, rfl, _⟩ := h.form; rfl
theorem RdS.nil (s : Shape α) (B : Nat) (w : World) : RdS s B w (.slice none 0 0) [] :=
  ⟨⟨none, 0, rfl, by simp, by simp, fun a ha => by cases ha⟩, fun i x hi => by simp at hi, fun h => by simp at h, by simp⟩

/-- A slice as one cell of something. -/
def Shape.slice (s : Shape α) : Shape (List α) where
  size := 1
  rd := fun B w cs l => ∃ v, cs = [v] ∧ RdS s B w v l
  len := fun ⟨v, h, _⟩ => by rw [h]; rfl
  keep := fun hk ⟨v, h, hr⟩ => ⟨v, h, hr.keep hk⟩
  mono := fun hB ⟨v, h, hr⟩ => ⟨v, h, hr.mono hB⟩
  one := fun ⟨v, h, hr⟩ u hu => by obtain ⟨A, c, rfl, _⟩ := hr.form; subst h; simp at hu; subst hu; rfl
end

section vals
variable {P : Program} {env : Env} {w : World} {ty : TypeId} {α : Type} {s : Shape α} {B : Nat} {v : Value} {l : List α}

theorem Val.rdlen {wr : World} {x : Operand} {t e : TypeId} {sz by_ : Nat} {z : List Value} (ht : slT P t = some (e, sz, by_, z)) (hr : RdS s B wr v l) (hx : evO env x = some v) : Val P env w (.call ⟨.builtin .len, #[x], #[t]⟩) ty (I l.length) := by
  obtain ⟨A, c, rfl, _⟩ := hr.form
  exact Val.sllen (slT_spec ht).1 hx

theorem run_indexAt {t e : TypeId} {sz by_ : Nat} {z : List Value} (ht : slT P t = some (e, sz, by_, z)) {a : Addr} {n c : Nat} {k : IntKind} {i : Int} (h0 : 0 ≤ i) (h1 : i < n) :
    (Instr.indexAt t (.slice (some a) n c) (.int k i)).run P w = .ok (.pointer (some (a.add (i.toNat * sz)))) w := by
  obtain ⟨hu, inf, zv, hi, hs, hb, hz, hc, hl⟩ := slT_spec ht
  obtain ⟨m, rfl⟩ := Int.eq_ofNat_of_zero_le h0
  have h2 : m < n := by omega
  simp [Instr.indexAt, asIntOf, run_underlying hu, sizeOf, typeInfo, hi, hs, h2]
/-- &l[i], l read. -/
theorem Val.indexAddr {wr : World} {x y : Operand} {t e : TypeId} {sz by_ : Nat} {z : List Value} {k : IntKind} {i : Int} (ht : slT P t = some (e, sz, by_, z)) (hr : RdS s B wr v l) (hs : s.size = sz) (hx : evO env x = some v) (hy : evO env y = some (.int k i))
    (h0 : 0 ≤ i) (h1 : i < l.length) : Val P env w (.indexAddr t x y) ty (.pointer (some (elemA v s.size i.toNat))) := fun _ a ho d pos after g => by
  obtain ⟨ad, c, rfl⟩ := hr.addr (by omega)
  subst hs
  simp [execOp, ho.eval hx, ho.eval hy, run_indexAt ht h0 h1, elemA]
end vals

/-! ### Rows of the call's own -/
/-- The row that a slice may be written in: none where it has no room. -/
def _root_.Go.Value.rowOf : Value → Option Nat
  | .slice (some a) _ c => bif Nat.beq c 0 then none else some a.block
  | _ => none
theorem rowOf_slice {a : Addr} {n c : Nat} (h : 0 < c) : (Value.slice (some a) n c).rowOf = some a.block := by
  have hb : Nat.beq c 0 = false := by
    cases hb : Nat.beq c 0 with
    | false => rfl
    | true => have := Nat.eq_of_beq_eq_true hb; omega
  simp only [Value.rowOf, hb, cond_false]
theorem rowOf_zero {A : Option Addr} {n : Nat} : (Value.slice A n 0).rowOf = none := by cases A <;> rfl
/-- A slice that the call owns: nil, or at the head of a block from 'base' on, whose cells begin with xs. -/
def Own (w : World) (base : Nat) (e : TypeId) (size : Nat) (v : Value) (n : Nat) (xs : List Value) : Prop :=
  xs.length = n * size ∧
  ((n = 0 ∧ ∃ A, v = .slice A 0 0) ∨
   ∃ g cap cur fz, v = .slice (some ⟨g, 0, none⟩) n cap ∧ base ≤ g ∧ w.heap[g]? = some (.cells cur e fz) ∧ (fz.1 < fz.2 → cur.size ≤ fz.1) ∧ n ≤ cap ∧ cap ≤ maxLen ∧ cur.size = cap * size ∧ cur.toList.take (n * size) = xs ∧ 0 < cap)
theorem ownIn {w : World} {base : Nat} {e : TypeId} {size : Nat} {v : Value} {n : Nat} {xs : List Value} (h : ∃ g cap cur fz, v = .slice (some ⟨g, 0, none⟩) n cap ∧ base ≤ g ∧ w.heap[g]? = some (.cells cur e fz) ∧ (fz.1 < fz.2 → cur.size ≤ fz.1) ∧ n ≤ cap ∧ cap ≤ maxLen ∧ cur.size = cap * size ∧ cur.toList.take (n * size) = xs) :
    (n = 0 ∧ ∃ A, v = .slice A 0 0) ∨
   ∃ g cap cur fz, v = .slice (some ⟨g, 0, none⟩) n cap ∧ base ≤ g ∧ w.heap[g]? = some (.cells cur e fz) ∧ (fz.1 < fz.2 → cur.size ≤ fz.1) ∧ n ≤ cap ∧ cap ≤ maxLen ∧ cur.size = cap * size ∧ cur.toList.take (n * size) = xs ∧ 0 < cap := by
  obtain ⟨g, cap, cur, fz, rfl, h1, h2, h3, h4, h5, h6, h7⟩ := h
  rcases Nat.eq_zero_or_pos cap with h0 | h0
  · subst h0
    have : n = 0 := by omega
    subst this
    exact .inl ⟨rfl, _, rfl⟩
  · exact .inr ⟨g, cap, cur, fz, rfl, h1, h2, h3, h4, h5, h6, h7, h0⟩

section own
variable {w w' : World} {base : Nat} {e : TypeId} {size : Nat} {v : Value} {n : Nat} {xs : List Value}

theorem Own.nil (w : World) (base : Nat) (e : TypeId) (size : Nat) : Own w base e size (.slice none 0 0) 0 [] := ⟨by simp, .inl ⟨rfl, _, rfl⟩⟩
theorem Own.zero (w : World) (base : Nat) (e : TypeId) (size : Nat) (A : Option Addr) : Own w base e size (.slice A 0 0) 0 [] := ⟨by simp, .inl ⟨rfl, _, rfl⟩⟩
theorem Own.lt (h : Own w base e size v n xs) : ∀ k, v.rowOf = some k → base ≤ k ∧ k < w.heap.size := by
  intro k hk
  rcases h.2 with ⟨_, A, rfl⟩ | ⟨g, cap, cur, fz, rfl, hb, hg, _, _, _, _, _, h0⟩
  · rw [rowOf_zero] at hk; cases hk
  · rw [rowOf_slice h0] at hk
    injection hk with hk
    subst hk
    exact ⟨hb, (Array.getElem?_eq_some_iff.1 hg).1⟩
theorem Own.keepB (h : Own w base e size v n xs) (hk : ∀ k, v.rowOf = some k → w'.heap[k]? = w.heap[k]?) : Own w' base e size v n xs := by
  refine ⟨h.1, ?_⟩
  rcases h.2 with hn | ⟨g, cap, cur, fz, rfl, hb, hg, h1, h2, h3, h4, h5, h0⟩
  · exact .inl hn
  · exact .inr ⟨g, cap, cur, fz, rfl, hb, by rw [hk g (rowOf_slice h0)]; exact hg, h1, h2, h3, h4, h5, h0⟩
theorem Own.kept (h : Own w base e size v n xs) (hk : Below w.heap.size w w') : Own w' base e size v n xs := h.keepB fun k hv => hk.block k (h.lt k hv).2
theorem Own.base_le (h : Own w base e size v n xs) {b : Nat} (hb : b ≤ base) : Own w b e size v n xs := by
  refine ⟨h.1, ?_⟩
  rcases h.2 with hn | ⟨g, cap, cur, fz, rfl, hb', r⟩
  · exact .inl hn
  · exact .inr ⟨g, cap, cur, fz, rfl, by omega, r⟩
theorem Own.len (h : Own w base e size v n xs) : ∃ A c, v = .slice A n c ∧ n ≤ c ∧ c ≤ maxLen := by
  rcases h.2 with ⟨rfl, A, rfl⟩ | ⟨g, cap, cur, fz, rfl, _, _, _, h1, h2, _⟩
  · exact ⟨A, 0, rfl, by simp, by simp⟩
  · exact ⟨_, cap, rfl, h1, h2⟩
theorem Own.oneC (h : Own w base e size v n xs) : v.oneCell' = true := by obtain ⟨A, c, rfl, _⟩ := h.len; rfl
theorem Own.cellsV (h : Own w base e size v n xs) : v.cells = #[v] := by obtain ⟨A, c, rfl, _⟩ := h.len; rfl
theorem Own.cells (h : Own w base e size v n xs) {g : Nat} (hg : v.rowOf = some g) : cellsAt w ⟨g, 0, none⟩ xs := by
  intro j u hu
  rcases h.2 with ⟨_, A, rfl⟩ | ⟨g', cap, cur, fz, rfl, _, hgg, _, _, _, _, htake, h0⟩
  · rw [rowOf_zero] at hg; cases hg
  · rw [rowOf_slice h0] at hg
    injection hg with hg
    subst hg
    rw [add_lit, cell_of_row w g' _ cur e fz hgg]
    rw [← htake, List.getElem?_take] at hu
    split at hu
    · simpa using hu
    · cases hu

/-- A row of one's own reads as a list, where its cells are those of the elements. -/
theorem Own.rd {α : Type} {s : Shape α} {l : List α} {css : List (List Value)} (hsm : l.length ≤ 140737488355328) (h : Own w base e s.size v l.length xs) (hx : xs = css.flatten) (hc : css.length = l.length)
    (he : ∀ (i : Nat) cs x, css[i]? = some cs → l[i]? = some x → s.rd w.heap.size w cs x) : RdS s w.heap.size w v l := by
  have hlen : ∀ cs ∈ css, cs.length = s.size := by
    intro cs hcs
    obtain ⟨i, hi, rfl⟩ := List.mem_iff_getElem.1 hcs
    exact s.len (he i css[i] (l[i]'(by omega)) (List.getElem?_eq_getElem hi) (List.getElem?_eq_getElem (by omega)))
  refine ⟨?_, ?_, ?_, hsm⟩
  · rcases h.2 with ⟨h0, A, rfl⟩ | ⟨g, cap, cur, fz, rfl, hb, hg, _, h1, h2, _⟩
    · exact ⟨A, 0, by rw [h0], by omega, by simp, fun a ha h1 => by omega⟩
    · refine ⟨_, cap, rfl, h1, h2, fun a ha _ => ?_⟩
      injection ha with ha
      subst ha
      exact (Array.getElem?_eq_some_iff.1 hg).1
  · intro i x hi
    have hil : i < l.length := by
      rcases Nat.lt_or_ge i l.length with h' | h'
      · exact h'
      · rw [List.getElem?_eq_none h'] at hi; cases hi
    have hic : i < css.length := by omega
    refine ⟨css[i], ?_, he i _ x (List.getElem?_eq_getElem hic) hi⟩
    rcases h.2 with ⟨h0, A, rfl⟩ | ⟨g, cap, cur, fz, rfl, hb, hg, _, _, _, _, _, hcp⟩
    · omega
    · have hcell := h.cells (g := g) (rowOf_slice hcp)
      intro j u hu
      simp only [elemA, add_add]
      refine hcell _ u ?_
      rw [hx]
      have hj : j < s.size := by
        rw [← hlen css[i] (List.getElem_mem hic)]
        rcases Nat.lt_or_ge j css[i].length with h' | h'
        · exact h'
        · rw [List.getElem?_eq_none h'] at hu; cases hu
      exact flatten_at css s.size hlen i hic j u hu
  · intro h0
    rcases h.2 with ⟨h1, _⟩ | ⟨g, cap, cur, fz, rfl, _⟩
    · omega
    · exact ⟨_, _, rfl⟩
where
  flatten_at : ∀ (css : List (List Value)) (n : Nat), (∀ cs ∈ css, cs.length = n) → ∀ (i : Nat) (hi : i < css.length) (j : Nat) (u : Value), css[i][j]? = some u → css.flatten[i * n + j]? = some u
    | cs :: r, n, hl, 0, _, j, u, hu => by
      have hj : j < cs.length := by
        rcases Nat.lt_or_ge j cs.length with h' | h'
        · exact h'
        · simp [List.getElem?_eq_none h'] at hu
      simp only [List.flatten_cons, Nat.zero_mul, Nat.zero_add]
      rw [List.getElem?_append_left hj]
      simpa using hu
    | cs :: r, n, hl, i + 1, hi, j, u, hu => by
      have h0 := hl cs (by simp)
      simp only [List.flatten_cons]
      rw [List.getElem?_append_right (by rw [h0, Nat.add_mul]; omega), h0]
      have : (i + 1) * n + j - n = i * n + j := by rw [Nat.add_mul]; omega
      rw [this]
      exact flatten_at r n (fun c hc => hl c (by simp [hc])) i (by simpa using hi) j u (by simpa using hu)

theorem Own.rdFlat {α : Type} {n' : Nat} {enc : α → List Value} {ok : α → Prop} {h0 : ∀ x, (enc x).length = n'} {h1 : ∀ x, ∀ u ∈ enc x, u.oneCell' = true} {l : List α} (hsm : l.length ≤ 140737488355328) (h : Own w base e n' v l.length (l.flatMap enc)) (hok : ∀ x ∈ l, ok x) :
    RdS (Shape.flat n' enc ok h0 h1) w.heap.size w v l := by
  refine Own.rd (s := Shape.flat n' enc ok h0 h1) (css := l.map enc) hsm h (by rw [List.flatMap_def]) (by simp) ?_
  intro i cs x hi hx
  rw [List.getElem?_map, hx] at hi
  simp at hi
  exact ⟨hi.symm, hok x (List.mem_of_getElem? hx)⟩
end own

/-! ### append -/
/-- What is appended: how many, which cells. -/
structure Src (P : Program) (w : World) (u : TypeId) (size : Nat) (x : Value) (m : Nat) (news : List Value) : Prop where
  kind : (∃ e', P.underlying u = some (.slice e')) ∨ P.underlying u = some .string
  lenOf : ∀ W : World, (Builtin.lenOf x).run P W = .ok m W
  cells : ∀ W : World, W.heap = w.heap → (Builtin.firstCells size m x).run P W = .ok news.toArray W
  len : news.length = m * size
  one : ∀ y ∈ news, y.oneCell' = true

section app
variable {P : Program} {w : World}

theorem Src.cellsAt {u e' : TypeId} {size : Nat} {a : Addr} {m c : Nat} {news : List Value} (hu : P.underlying u = some (.slice e')) (hc : cellsAt w a news) (hl : news.length = m * size) (h1 : ∀ y ∈ news, y.oneCell' = true) :
    Src P w u size (.slice (some a) m c) m news :=
  ⟨.inl ⟨_, hu⟩, fun W => by simp [Builtin.lenOf], fun W hW => run_firstCells_some (P := P) W size m a m c news hl (fun j y hy => by
    have := hc j y hy
    simpa [World.cell?, hW] using this), hl, h1⟩
theorem Src.empty {u e' : TypeId} {size : Nat} {c : Nat} (hu : P.underlying u = some (.slice e')) : Src P w u size (.slice none 0 c) 0 [] :=
  ⟨.inl ⟨_, hu⟩, fun W => by simp [Builtin.lenOf], fun W hW => by simp [Builtin.firstCells], by simp, by simp⟩
theorem Src.str {u : TypeId} {l : List UInt8} (hu : P.underlying u = some .string) : Src P w u 1 (St l) l.length (l.map fun b => Value.int .u8 b.toNat) :=
  ⟨.inr hu, fun W => by simp [Builtin.lenOf, size_mk], fun W hW => by
    simp only [Builtin.firstCells]
    rw [extract_mk]
    simp [Sem.run_pure, Sem.run], by simp, fun y hy => by
      obtain ⟨b, _, rfl⟩ := List.mem_map.1 hy
      rfl⟩
theorem Src.rd {α : Type} {s : Shape α} {B : Nat} {v : Value} {l : List α} {u e' : TypeId} {css : List (List Value)} (hu : P.underlying u = some (.slice e')) (h : RdS s B w v l) (hc : css.length = l.length)
    (he : ∀ (i : Nat) cs, css[i]? = some cs → cs.length = s.size ∧ (∀ y ∈ cs, y.oneCell' = true) ∧ Eng.cellsAt w (elemA v s.size i) cs) : Src P w u s.size v l.length css.flatten := by
  have hlen : ∀ cs ∈ css, cs.length = s.size := fun cs hcs => by
    obtain ⟨i, hi, rfl⟩ := List.mem_iff_getElem.1 hcs
    exact (he i _ (List.getElem?_eq_getElem hi)).1
  have hfl : ∀ (css : List (List Value)), (∀ cs ∈ css, cs.length = s.size) → css.flatten.length = css.length * s.size := by
    intro css
    induction css with
    | nil => simp
    | cons c r ih => intro h; simp [ih fun x hx => h x (by simp [hx]), h c (by simp), Nat.add_mul]; omega
  have hone : ∀ y ∈ css.flatten, y.oneCell' = true := fun y hy => by
    obtain ⟨cs, hcs, hy⟩ := List.mem_flatten.1 hy
    obtain ⟨i, hi, rfl⟩ := List.mem_iff_getElem.1 hcs
    exact (he i _ (List.getElem?_eq_getElem hi)).2.1 y hy
  rcases Nat.eq_zero_or_pos l.length with h0 | h0
  · obtain ⟨A, c, rfl, _⟩ := h.form
    have : css = [] := List.eq_nil_of_length_eq_zero (by omega)
    subst this
    rw [h0]
    exact ⟨.inl ⟨_, hu⟩, fun W => by simp [Builtin.lenOf], fun W hW => by cases A <;> simp [Builtin.firstCells, loadCells, loadCellsFrom], by simp, by simp⟩
  · obtain ⟨a, c, rfl⟩ := h.addr h0
    refine Src.cellsAt hu ?_ (by rw [hfl css hlen, hc]) hone
    have key : ∀ (css : List (List Value)) (a : Addr), (∀ cs ∈ css, cs.length = s.size) → (∀ (i : Nat) cs, css[i]? = some cs → Eng.cellsAt w (a.add (i * s.size)) cs) → Eng.cellsAt w a css.flatten := by
      intro css
      induction css with
      | nil => intro a _ _ j y hy; simp at hy
      | cons c0 r ih =>
        intro a hl hA j y hy
        simp only [List.flatten_cons] at hy
        rcases Nat.lt_or_ge j c0.length with hj | hj
        · rw [List.getElem?_append_left hj] at hy
          have := hA 0 c0 rfl j y hy
          simpa [add_zero] using this
        · rw [List.getElem?_append_right hj] at hy
          have h1 := ih (a.add s.size) (fun c hc => hl c (by simp [hc])) (fun i cs hi => by
            have := hA (i + 1) cs (by simpa using hi)
            rw [add_add]
            rwa [Nat.add_mul, Nat.one_mul, Nat.add_comm] at this) (j - c0.length) y hy
          rw [hl c0 (by simp)] at h1 hj
          rw [add_add] at h1
          rwa [show s.size + (j - s.size) = j by omega] at h1
    exact key css a hlen fun i cs hi => by simpa [elemA] using (he i cs hi).2.2

theorem run_storeCells_fz (g o : Nat) (t : TypeId) (fz : Nat × Nat) : ∀ (vs : List Value) (i : Nat) (cur : Array Value) (w : World), w.heap[g]? = some (.cells cur t fz) → (fz.1 < fz.2 → cur.size ≤ fz.1) → o + i + vs.length ≤ cur.size → (∀ v ∈ vs, v.oneCell' = true) →
    (storeCells ⟨g, o, none⟩ vs i).run P w = .ok () (w.setRow g (cur.toList.take (o + i) ++ vs ++ cur.toList.drop (o + i + vs.length)).toArray)
  | [], i, cur, w, hg, _, _, _ => by
    simp only [storeCells, List.append_nil, List.length_nil, Nat.add_zero, List.take_append_drop, Array.toArray_toList]
    rw [setRow_self w g cur t fz hg]
    rfl
  | v :: rest, i, cur, w, hg, hf, hl, h1 => by
    have hi : o + i < cur.size := by simp at hl; omega
    have hcell : w.cell? ⟨g, o + i, none⟩ = some cur[o + i] := by simp [World.cell?, hg, hi]
    have hfro : w.frozen? ⟨g, o + i, none⟩ = false := by
      obtain ⟨lo, hi'⟩ := fz
      simp [World.frozen?, hg]
      intro h1
      rcases Nat.lt_or_ge lo hi' with h2 | h2
      · have := hf h2; simp at this; omega
      · omega
    have hst : (store ((⟨g, o, none⟩ : Addr).add i) v).run P w = .ok () (w.setRow g (cur.setIfInBounds (o + i) v)) := by
      rw [add_lit, run_store P w _ v _ (h1 v (by simp)), hcell]
      simp [hfro, setCell_eq_setRow w g (o + i) cur t fz v hg]
    have ih := run_storeCells_fz g o t fz rest (i + 1) (cur.setIfInBounds (o + i) v) (w.setRow g (cur.setIfInBounds (o + i) v)) (setRow_heap w g cur _ t _ hg) (by simpa using hf) (by simp at hl ⊢; omega) (fun x hx => h1 x (by simp [hx]))
    simp only [storeCells, Sem.run_bind, hst, Result.andThen_ok, ih, setRow_setRow]
    congr 3
    have e := list_seg_step cur.toList (o + i) v rest (by simp at hl ⊢; omega)
    simpa [Array.toList_setIfInBounds, Nat.add_assoc] using e

/-- What an append, or a store into a row of one's own, may have turned: that row. -/
theorem run_append_gen {t u ty e : TypeId} {size by_ : Nat} {z : List Value} (ht : slT P t = some (e, size, by_, z)) {base : Nat} {v x : Value} {n m : Nat} {xs news : List Value} (hown : Own w base e size v n xs) (hs : Src P w u size x m news)
    (h63 : n + m ≤ maxLen) (hby : (n + m) * by_ ≤ 140737488355328) (hbase : base ≤ w.heap.size) :
    ∃ v' w', (Builtin.append_ #[t, u] ty #[v, x]).run P w = .ok v' w' ∧ Own w' base e size v' (n + m) (xs ++ news) ∧ w.grownBy w' v.rowOf ∧ (v'.rowOf = v.rowOf ∨ v'.rowOf = some w.heap.size) := by
  obtain ⟨hu, inf, zv, hi, hsz, hb, hz, hc, hl⟩ := slT_spec ht
  subst hsz
  subst hb
  have hsmall : n + m ≤ 9223372036854775807 := by simp only [maxLen] at h63; omega
  have hlen : (xs ++ news).length = (n + m) * inf.size := by rw [List.length_append, hown.1, hs.len, Nat.add_mul]
  have hzs : zv.cells.size = inf.size := by rw [hc]; simpa using hl
  have grown : ∀ (old : Nat), old < n + m → ∀ (row : Option Nat),
      Own (w.drew.alloc (.cells (xs.toArray ++ news.toArray ++ Builtin.zeroCells zv.cells (grownCap w (n + m) old e - (n + m))) e)) base e inf.size
        (.slice (some ⟨w.heap.size, 0, none⟩) (n + m) (grownCap w (n + m) old e)) (n + m) (xs ++ news) ∧
      w.grownBy (w.drew.alloc (.cells (xs.toArray ++ news.toArray ++ Builtin.zeroCells zv.cells (grownCap w (n + m) old e - (n + m))) e)) row := by
    intro old ho row
    have hge := grownCap_ge w (n + m) old e
    have hcm : grownCap w (n + m) old e ≤ maxLen := grownCap_le_maxLen w (n + m) old e h63
    refine ⟨⟨hlen, ownIn ⟨w.heap.size, _, _, (0, 0), rfl, hbase, heap_alloc_new w.drew _, fun h => by simp at h, hge, hcm, ?_, ?_⟩⟩, ⟨rfl, rfl, rfl, by simp, fun k hk _ => by rw [Below.heap_alloc w.drew _ k (by simpa using hk)]; rfl⟩⟩
    · simp only [Array.size_append, List.size_toArray, size_zeroCells, hzs, hown.1, hs.len, ← Nat.add_mul]
      congr 1
      omega
    · simp only [Array.toList_append, List.append_assoc]
      rw [← List.append_assoc, ← hlen]
      exact List.take_left
  have hinfz : ∀ W : World, (zeroValue e).run P W = .ok zv W := fun W => by simp [zeroValue, typeInfo, hi, hz]
  rcases hown.2 with ⟨rfl, A, rfl⟩ | ⟨g, cap, cur, fz, rfl, hbg, hg, hfz, hnc, hcm, hcs, htake, hcp⟩
  · have hx : xs = [] := List.eq_nil_of_length_eq_zero (by simpa using hown.1)
    subst hx
    by_cases hm : m = 0
    · subst hm
      have hn : news = [] := List.eq_nil_of_length_eq_zero (by simpa using hs.len)
      subst hn
      refine ⟨.slice A 0 0, w, ?_, Own.zero w base e inf.size A, ⟨rfl, rfl, rfl, Nat.le_refl _, fun _ _ _ => rfl⟩, .inl rfl⟩
      have h1 := hs.cells w rfl
      rcases hs.kind with ⟨e', hud⟩ | hud <;> cases A <;> simp [Builtin.append_, run_underlying hu, run_underlying hud, sizeOf, typeInfo, hi, hs.lenOf, h1, storeCells]
    · have hgr := grown 0 (by omega) (Value.rowOf (.slice A 0 0))
      simp only [Nat.zero_add, List.nil_append] at hgr ⊢
      have hge0 := grownCap_ge w m 0 e
      refine ⟨_, _, ?_, hgr.1, hgr.2, .inr (rowOf_slice (by omega))⟩
      have h1 := hs.cells w.drew rfl
      have h63' : ¬ (9223372036854775807 < (m : Int)) := by omega
      have h48' : ¬ (281474976710656 < Builtin.nextslicecap m 0 * inf.bytes) := by
        have := growslice_fits (need := 0 + m) (old := 0) (by omega) hby
        simp only [Nat.zero_add] at this
        omega
      have h0 : (Builtin.firstCells inf.size 0 (.slice A 0 0)).run P w.drew = .ok #[] w.drew := by
        cases A with
        | none => exact run_firstCells_none (P := P) w.drew inf.size 0 0 0
        | some a => simpa using run_firstCells_some (P := P) w.drew inf.size 0 a 0 0 [] (by simp) (fun j y hy => by simp at hy)
      rcases hs.kind with ⟨e', hud⟩ | hud <;> simp [Builtin.append_, run_underlying hu, run_underlying hud, sizeOf, typeInfo, hi, hs.lenOf, hm, h63', h48', hinfz, h0, h1, Question.forced, newRow, grownCap]
  · by_cases hroom : n + m ≤ cap
    · have hfit : n * inf.size + news.length ≤ cur.size := by rw [hs.len, hcs, ← Nat.add_mul]; exact Nat.mul_le_mul_right _ hroom
      refine ⟨_, _, ?_, ⟨hlen, ownIn ⟨g, cap, _, fz, rfl, hbg, setRow_heap w g cur (cur.toList.take (n * inf.size) ++ news ++ cur.toList.drop (n * inf.size + news.length)).toArray e _ hg, ?_, hroom, hcm, ?_, ?_⟩⟩,
        ⟨rfl, rfl, rfl, by simp, fun k _ hk => setRow_other w g k _ (fun e => hk (by rw [rowOf_slice hcp, e]))⟩, .inl (by rw [rowOf_slice hcp, rowOf_slice hcp])⟩
      · have h1 := hs.cells w rfl
        have hst := run_storeCells_fz (P := P) g (n * inf.size) e fz news 0 cur w hg hfz (by simpa using hfit) hs.one
        simp only [Nat.add_zero] at hst
        rcases hs.kind with ⟨e', hud⟩ | hud <;> simp [Builtin.append_, run_underlying hu, run_underlying hud, sizeOf, typeInfo, hi, hs.lenOf, hroom, h1, add_lit, hst]
      · intro h
        have := hfz h
        simp only [List.size_toArray, List.length_append, List.length_take, List.length_drop, Array.length_toList]
        omega
      · simp only [List.size_toArray, List.length_append, List.length_take, List.length_drop, Array.length_toList]
        omega
      · rw [htake, ← hlen]
        exact List.take_left
    · have hgr := grown cap (by omega) (Value.rowOf (.slice (some ⟨g, 0, none⟩) n cap))
      have hge0 := grownCap_ge w (n + m) cap e
      refine ⟨_, _, ?_, hgr.1, hgr.2, .inr (rowOf_slice (by omega))⟩
      have h1 := hs.cells w.drew rfl
      have hfo := run_firstCells_some (P := P) w.drew inf.size n ⟨g, 0, none⟩ n cap xs hown.1 (hown.cells (g := g) (rowOf_slice hcp))
      have h63' : ¬ (9223372036854775807 < (n : Int) + (m : Int)) := by omega
      have h48' : ¬ (281474976710656 < Builtin.nextslicecap (n + m) cap * inf.bytes) := by
        have := growslice_fits (need := n + m) (old := cap) (by omega) hby
        omega
      rcases hs.kind with ⟨e', hud⟩ | hud <;> simp [Builtin.append_, run_underlying hu, run_underlying hud, sizeOf, typeInfo, hi, hs.lenOf, hroom, h63', h48', hinfz, hfo, h1, Question.forced, newRow, grownCap] <;> (rw [← Array.append_assoc]; simp)
end app
end Go.Eng

namespace Go.Eng
open Go Go.RowKit

theorem grown_refl (w : World) (r : Option Nat) : w.grownBy w r := ⟨rfl, rfl, rfl, Nat.le_refl _, fun _ _ _ => rfl⟩
theorem below_of_grown {B : Nat} {w w' : World} {row : Option Nat} (hg : w.grownBy w' row) (hB : B ≤ w.heap.size) (hr : ∀ k, row = some k → B ≤ k) : Below B w w' := (Below.refl B w).grown hg hB hr
theorem grown_of_below {w w' : World} (h : Below w.heap.size w w') (r : Option Nat) : w.grownBy w' r := ⟨h.os, h.tape, h.output, h.size, fun k hk _ => h.block k hk⟩
theorem Blk.grown {w w' : World} {b : Nat} {cs : List Value} {t : TypeId} {row : Option Nat} (h : Blk w b cs t) (hg : w.grownBy w' row) (hne : row ≠ some b) : Blk w' b cs t := (hg.block b h.lt (fun e => hne e.symm)).trans h
theorem Own.grown {w w' : World} {base : Nat} {e : TypeId} {size : Nat} {v : Value} {n : Nat} {xs : List Value} {row : Option Nat} (h : Own w base e size v n xs) (hg : w.grownBy w' row) (hne : ∀ k, v.rowOf = some k → row ≠ some k) : Own w' base e size v n xs :=
  h.keepB fun k hk => hg.block k (h.lt k hk).2 (fun e => hne k hk e.symm)
theorem RdS.grown {α : Type} {s : Shape α} {B : Nat} {w w' : World} {v : Value} {l : List α} {row : Option Nat} (h : RdS s B w v l) (hg : w.grownBy w' row) (hB : B ≤ w.heap.size) (hr : ∀ k, row = some k → B ≤ k) : RdS s B w' v l :=
  h.keep fun k hk => hg.block k (by omega) (fun e => by have := hr k e.symm; omega)

/-- Behind an append. -/
structure App (w w' : World) (base : Nat) (e : TypeId) (size : Nat) (v v' : Value) (n : Nat) (xs : List Value) : Prop where
  own : Own w' base e size v' n xs
  grown : w.grownBy w' v.rowOf
  at_ : v'.rowOf = v.rowOf ∨ v'.rowOf = some w.heap.size
theorem App.below {w w' : World} {base : Nat} {e : TypeId} {size : Nat} {v v' : Value} {n n' : Nat} {xs xs' : List Value} (h : App w w' base e size v v' n xs) (ho : Own w base e size v n' xs') {B : Nat} (hB : B ≤ base) (hs : B ≤ w.heap.size) : Below B w w' :=
  below_of_grown h.grown hs fun k hk => by have := (ho.lt k hk).1; omega

section
variable {P : Program} {env : Env} {w : World} {ty : TypeId}

theorem Eff.append {s x : Operand} {t u e : TypeId} {size by_ : Nat} {z : List Value} (ht : slT P t = some (e, size, by_, z)) {base : Nat} {v xv : Value} {n m : Nat} {xs news : List Value}
    (hs : evO env s = some v) (hx : evO env x = some xv) (hown : Own w base e size v n xs) (hsrc : Src P w u size xv m news) (h63 : n + m ≤ maxLen) (hby : (n + m) * by_ ≤ 140737488355328) (hbase : base ≤ w.heap.size) :
    Eff P env w (.call ⟨.builtin .append, #[s, x], #[t, u]⟩) ty (fun v' w' => App w w' base e size v v' (n + m) (xs ++ news)) :=
  Eff.of_run fun _ a ho d pos after g => by
    obtain ⟨v', w', h1, h2, h3, h4⟩ := run_append_gen (P := P) (w := w) (ty := ty) ht hown hsrc h63 hby hbase
    exact ⟨v', w', by simp [execOp, resolve, invoke, builtin, ho.eval hs, ho.eval hx, h1], h2, h3, h4⟩

/-- A new row of a slice: where it lies, what it holds. -/
def IsNewS (w : World) (cs : List Value) (n : Nat) (t : TypeId) (v : Value) (w' : World) : Prop := ∃ b, v = .slice (some ⟨b, 0, none⟩) n n ∧ NewB w w' b cs t

def zipFrom (j : Nat) : List Value → List (Nat × Value)
  | [] => []
  | v :: r => (j, v) :: zipFrom (j + 1) r

theorem splice_cells (off : Nat) : ∀ (cs : List Value) (k : Nat) (cells : Array Value), off + k + cs.length ≤ cells.size →
    (cs.zipIdx k).foldl (fun (a : Array Value) (p : Value × Nat) => a.setIfInBounds (off + p.2) p.1) cells = (cells.toList.take (off + k) ++ cs ++ cells.toList.drop (off + k + cs.length)).toArray
  | [], k, cells, h => by simp
  | c :: r, k, cells, h => by
    simp only [List.zipIdx_cons, List.foldl_cons]
    rw [splice_cells off r (k + 1) _ (by simp at h ⊢; omega)]
    have e := list_seg_step cells.toList (off + k) c r (by simp at h ⊢; omega)
    have e1 : off + (k + 1) = off + k + 1 := by omega
    have e2 : off + k + 1 + r.length = off + k + (c :: r).length := by simp; omega
    rw [e1]
    simp only [Array.toList_setIfInBounds]
    rw [e]
    rfl

theorem fill_seq (size : Nat) : ∀ (vs : List Value) (j : Nat) (cells : Array Value), cells.size = (j + vs.length) * size → (∀ v ∈ vs, v.cells.size = size) →
    Instr.fill (fun i => some (i * size, size)) cells (zipFrom j vs) = some (cells.toList.take (j * size) ++ (vs.map (·.cells.toList)).flatten).toArray
  | [], j, cells, h, _ => by
    simp only [zipFrom, Instr.fill, List.map_nil, List.flatten_nil, List.append_nil]
    rw [List.take_of_length_le (by simpa using Nat.le_of_eq h)]
  | v :: r, j, cells, h, hv => by
    have h1 := hv v (by simp)
    have h2 : j * size + size ≤ cells.size := by
      rw [h, List.length_cons]
      have : (j + (r.length + 1)) * size = j * size + size + r.length * size := by simp [Nat.add_mul]; omega
      omega
    have hcond : ¬ ((decide (v.cells.size ≠ size) || decide (j * size + v.cells.size > cells.size)) = true) := by rw [h1]; simp; omega
    have hsp : (Array.foldl (fun (cs : Array Value) (x : Value × Nat) => cs.setIfInBounds (j * size + x.snd) x.fst) cells v.cells.zipIdx) = (cells.toList.take (j * size) ++ v.cells.toList ++ cells.toList.drop (j * size + size)).toArray := by
      rw [← Array.foldl_toList, Array.toList_zipIdx]
      have := splice_cells (j * size) v.cells.toList 0 cells (by simp [h1]; omega)
      simpa [h1] using this
    simp only [zipFrom, Instr.fill]
    have e0 : (j + 1 + r.length) * size = (j + (v :: r).length) * size := by
      congr 1
      simp; omega
    rw [if_neg hcond, hsp, fill_seq size r (j + 1) _ (by
      simp only [List.size_toArray, List.length_append, List.length_take, List.length_drop, Array.length_toList, h1]
      rw [e0, ← h]
      omega) (fun x hx => hv x (by simp [hx]))]
    congr 1
    have e : (j + 1) * size = (cells.toList.take (j * size) ++ v.cells.toList).length := by
      simp only [List.length_append, List.length_take, Array.length_toList, h1, Nat.add_mul]; omega
    rw [e]
    have e3 : (cells.toList.take (j * size) ++ v.cells.toList ++ cells.toList.drop (j * size + size)).toArray.toList.take (cells.toList.take (j * size) ++ v.cells.toList).length = cells.toList.take (j * size) ++ v.cells.toList := by
      show List.take _ (_ ++ _) = _
      exact List.take_left
    rw [e3]
    simp

theorem Eff.buildSlice {t e : TypeId} {size by_ n : Nat} {z : List Value} {parts : Array (Nat × Operand)} {vs : List Value} (ht : slT P t = some (e, size, by_, z)) (hx : evL env (parts.toList.map (·.2)) = some vs)
    (hz : (parts.toList.map (·.1)).zip vs = zipFrom 0 vs) (hlen : vs.length = n) (hsz : ∀ v ∈ vs, v.cells.size = size) (hn : Nat.blt 0 (n * size) = true) (hm : Nat.ble (n * size) 16777216 = true) :
    Eff P env w (.buildSlice t n parts) ty (IsNewS w (vs.map (·.cells.toList)).flatten n e) :=
  Eff.of_run fun _ a ho d pos after g => by
    obtain ⟨hu, inf, zv, hi, hs, hb, hz', hc, hl⟩ := slT_spec ht
    subst hs
    have hv := ho.evalL hx
    have hp : (parts.map fun (i, x) => (i, a.eval x)).toList = zipFrom 0 vs := by
      rw [← hz, ← hv]
      simp only [Array.toList_map, List.map_map]
      generalize parts.toList = l
      induction l with
      | nil => rfl
      | cons p r ih => simp only [List.map_cons, List.zip_cons_cons, ih]; rfl
    have hn' : n * inf.size ≠ 0 := by simp [Nat.blt_eq] at hn; omega
    have hm' : ¬ 16777216 < n * inf.size := by simp [Nat.ble_eq] at hm; omega
    have hf' : Instr.fill (fun i => some (i * inf.size, inf.size)) ((Array.range (n * inf.size)).map (zv.cells[· % zv.cells.size]!)) (parts.map fun (i, x) => (i, a.eval x)).toList = some (vs.map (·.cells.toList)).flatten.toArray := by
      rw [hp, fill_seq inf.size vs 0 _ (by simp [hlen]) hsz]; simp
    refine ⟨.slice (some ⟨w.heap.size, 0, none⟩) n n, w.alloc (.cells (vs.map (·.cells.toList)).flatten.toArray e), ?_, w.heap.size, rfl, NewB.mk' w _ e⟩
    simp [execOp, Instr.buildSlice, run_underlying hu, sizeOf, typeInfo, hi, zeroValue, hz', hm', hn', newRow, hf', -List.map_toArray, -Array.toList_map]
/-- One element in a new row: what append(l, x) lays first. -/
theorem Eff.build1 {t e : TypeId} {size by_ : Nat} {z : List Value} {x : Operand} {v : Value} {cs : List Value} (ht : slT P t = some (e, size, by_, z)) (hx : evO env x = some v) (hv : v.cells = cs.toArray) (hl : cs.length = size)
    (hn : Nat.blt 0 (1 * size) = true) (hm : Nat.ble (1 * size) 16777216 = true) : Eff P env w (.buildSlice t 1 #[(0, x)]) ty (IsNewS w cs 1 e) := by
  have := Eff.buildSlice (P := P) (env := env) (w := w) (ty := ty) (n := 1) (parts := #[(0, x)]) (vs := [v]) ht (by simp [evL, hx]) rfl rfl (by simp [hv, hl]) hn hm
  simpa [hv] using this

/-! ### Stores -/
theorem run_store_blk {b i : Nat} {cs : List Value} {T : TypeId} {v : Value} (hb : Blk w b cs T) (hi : i < cs.length) (hv : v.oneCell' = true) : (store ⟨b, i, none⟩ v).run P w = .ok () (w.setCell ⟨b, i, none⟩ v) := by
  rw [run_store P w _ v _ hv, hb.cell, List.getElem?_eq_getElem hi]
  have : w.frozen? ⟨b, i, none⟩ = false := by unfold Blk at hb; simp [World.frozen?, hb]
  simp [this]
structure Stored (w w' : World) (b : Nat) (cs : List Value) (T : TypeId) : Prop where
  blk : Blk w' b cs T
  grown : w.grownBy w' (some b)
  size : w'.heap.size = w.heap.size
theorem Stored.mk' {b i : Nat} {cs : List Value} {T : TypeId} (v : Value) (hb : Blk w b cs T) : Stored w (w.setCell ⟨b, i, none⟩ v) b (cs.set i v) T := by
  refine ⟨?_, ⟨rfl, rfl, rfl, by simp [World.setCell], fun k _ hne => Below.heap_setCell w _ v k (fun e => hne (by rw [e]))⟩, by simp [World.setCell]⟩
  unfold Blk at hb ⊢
  simp [World.setCell, Array.getElem?_modify, hb]
/-- A store into one cell of a block that is known whole. -/
theorem Eff.storeB {t T : TypeId} {x y : Operand} {b i : Nat} {cs : List Value} {v : Value} (ht : sclT P t = true) (hx : evO env x = some (.pointer (some ⟨b, i, none⟩))) (hy : evO env y = some v) (hv : v.cells = #[v]) (h1 : v.oneCell' = true) (hb : Blk w b cs T) (hi : Nat.blt i cs.length = true) :
    Eff P env w (.store t x y) ty (fun _ w' => Stored w w' b (cs.set i v) T) :=
  Eff.of_skip fun _ a ho d pos after g => by
    obtain ⟨inf, hinf, hsz⟩ := size_scl ht
    have hi' : i < cs.length := by simpa [Nat.blt_eq] using hi
    have hs := run_store_blk (P := P) hb hi' h1
    refine ⟨_, ?_, Stored.mk' v hb (i := i)⟩
    simp only [execOp, Instr.storeAt, storeVar, ho.eval hx, ho.eval hy, Instr.sureAddr, Sem.run_bind, Sem.run_pure, Result.andThen_ok, sizeOf, typeInfo, program, Sem.run, hinf, hv, hsz]
    simp [storeCells, Addr.add, hs]

theorem run_storeCells_whole {b : Nat} {cs cs' : List Value} {T : TypeId} (hb : Blk w b cs T) (hl : cs'.length = cs.length) (h1 : ∀ v ∈ cs', v.oneCell' = true) :
    (storeCells ⟨b, 0, none⟩ cs').run P w = .ok () (w.setRow b cs'.toArray) := by
  have := run_storeCells_fz (P := P) b 0 T (0, 0) cs' 0 cs.toArray w hb (fun h => by simp at h) (by simp [hl]) h1
  simpa [hl] using this
theorem Stored.row {b : Nat} {cs cs' : List Value} {T : TypeId} (hb : Blk w b cs T) : Stored w (w.setRow b cs'.toArray) b cs' T :=
  ⟨setRow_heap w b _ _ T _ hb, ⟨rfl, rfl, rfl, by simp [World.setRow], fun k _ hne => setRow_other w b k _ (fun e => hne (by rw [e]))⟩, by simp [World.setRow]⟩
/-- A struct stored over a whole block. -/
theorem Eff.storeBN {t T : TypeId} {n : Nat} {x y : Operand} {b : Nat} {cs cs' : List Value} (ht : aggT P t = some n) (hx : evO env x = some (.pointer (some ⟨b, 0, none⟩))) (hy : evO env y = some (.agg cs'.toArray)) (hb : Blk w b cs T) (hl : cs.length = n) (hl' : cs'.length = n)
    (h1 : ∀ v ∈ cs', v.oneCell' = true) : Eff P env w (.store t x y) ty (fun _ w' => Stored w w' b cs' T) :=
  Eff.of_skip fun _ a ho d pos after g => by
    obtain ⟨_, inf, hinf, hsz⟩ := run_isAgg_agg (w := w) ht
    have hs := run_storeCells_whole (P := P) hb (by rw [hl', hl]) h1
    refine ⟨_, ?_, Stored.row hb (cs' := cs')⟩
    simp only [execOp, Instr.storeAt, storeVar, ho.eval hx, ho.eval hy, Instr.sureAddr, Sem.run_bind, Sem.run_pure, Result.andThen_ok, sizeOf, typeInfo, program, Sem.run, hinf, Value.cells, List.size_toArray, hl', hsz]
    simp [hs]

/-- A store into an element of one cell of a row of one's own. -/
theorem Eff.storeOwn {t e : TypeId} {x y : Operand} {base n : Nat} {sv : Value} {xs : List Value} {i : Nat} {v : Value} (ht : sclT P t = true) (hown : Own w base e 1 sv n xs) (hi : i < n) (hx : evO env x = some (.pointer (some (elemA sv 1 i)))) (hy : evO env y = some v)
    (hv : v.cells = #[v]) (h1 : v.oneCell' = true) : Eff P env w (.store t x y) ty (fun _ w' => Own w' base e 1 sv n (xs.set i v) ∧ w.grownBy w' sv.rowOf ∧ w'.heap.size = w.heap.size) :=
  Eff.of_skip fun _ a ho d pos after g => by
    obtain ⟨inf, hinf, hsz⟩ := size_scl ht
    rcases hown.2 with ⟨h0, A, rfl⟩ | ⟨g', cap, cur, fz, rfl, hb, hg, hf, h2, h3, h4, h5, hcp⟩
    · omega
    · have hic : i < cur.size := by omega
      have hfro : w.frozen? ⟨g', i, none⟩ = false := by
        obtain ⟨lo, hi'⟩ := fz
        simp [World.frozen?, hg]
        intro h6
        rcases Nat.lt_or_ge lo hi' with h7 | h7
        · have := hf h7; simp at this; omega
        · omega
      have hs : (store ⟨g', i, none⟩ v).run P w = .ok () (w.setCell ⟨g', i, none⟩ v) := by
        rw [run_store P w _ v _ h1, cell_of_row w g' i cur e fz hg]
        simp [hic, hfro]
      refine ⟨w.setCell ⟨g', i, none⟩ v, ?_, ⟨by simpa using hown.1, ownIn ⟨g', cap, cur.setIfInBounds i v, fz, rfl, hb, ?_, by simpa using hf, h2, h3, by simpa using h4, ?_⟩⟩, ?_, by simp [World.setCell]⟩
      · simp only [execOp, Instr.storeAt, storeVar, ho.eval hx, ho.eval hy, Instr.sureAddr, Sem.run_bind, Sem.run_pure, Result.andThen_ok, sizeOf, typeInfo, program, Sem.run, hinf, hv, hsz]
        simp only [storeCells, elemA, Nat.mul_one, add_lit, Nat.zero_add, Nat.add_zero]
        simp [storeCells, add_lit, hs]
      · simp [World.setCell, Array.getElem?_modify, hg]
      · rw [Array.toList_setIfInBounds, Nat.mul_one] at *
        rw [← h5, List.take_set]
      · exact ⟨rfl, rfl, rfl, by simp [World.setCell], fun k _ hne => Below.heap_setCell w _ v k (fun e => hne (by rw [rowOf_slice hcp, e]))⟩

/-! ### make, []byte(s), string(b) -/
theorem Eff.make {t e : TypeId} {size by_ : Nat} {z : List Value} {x y : Operand} {kl kc : IntKind} {n : Int} (ht : slT P t = some (e, size, by_, z)) (hx : evO env x = some (.int kl n)) (hy : evO env y = some (.int kc n)) (h0 : 0 ≤ n) (hb : n * by_ ≤ 281474976710656) (h63 : n ≤ 9223372036854775807) :
    Eff P env w (.makeSlice t x y) ty (fun v w' => v = .slice (some ⟨w.heap.size, 0, none⟩) n.toNat n.toNat ∧ Own w' w.heap.size e size v n.toNat (List.replicate n.toNat z).flatten ∧ Below w.heap.size w w' ∧ w'.heap.size = w.heap.size + 1) :=
  Eff.of_run fun _ a ho d pos after g => by
    obtain ⟨hu, inf, zv, hi, hs, hb', hz', hc, hl⟩ := slT_spec ht
    subst hs hb'
    have hr := run_make (P := P) w t e inf zv hu hi hz' kl kc n n h0 (Int.le_refl _) (by rw [Int.mul_comm]; exact hb) h63
    refine ⟨_, _, by simp only [execOp, ho.eval hx, ho.eval hy, Sem.run_bind, hr, Result.andThen_ok]; rfl, rfl, ⟨?_, ownIn ⟨w.heap.size, n.toNat, _, (0, 0), rfl, Nat.le_refl _, heap_alloc_new w _, fun h => by simp at h, Nat.le_refl _, ?_, ?_, ?_⟩⟩, (Below.refl _ _).alloc (Nat.le_refl _) _, ?_⟩
    · have : ∀ (k : Nat), (List.replicate k z).flatten.length = k * inf.size := by
        intro k
        induction k with
        | zero => simp
        | succ k ih => simp [List.replicate_succ, ih, hl, Nat.add_mul]; omega
      exact this _
    · simp [maxLen]; omega
    · simp [madeCells]
    · have key : ∀ (k : Nat), (madeCells zv.cells (k * inf.size)).toList = (List.replicate k z).flatten := by
        intro k
        rw [hc]
        apply List.ext_getElem?
        intro j
        have hlen : (List.replicate k z).flatten.length = k * inf.size := by
          clear hr
          induction k with
          | zero => simp
          | succ k ih => simp [List.replicate_succ, ih, hl, Nat.add_mul]; omega
        rcases Nat.lt_or_ge j (k * inf.size) with hj | hj
        · have h1 : (madeCells z.toArray (k * inf.size)).toList[j]? = some (z[j % inf.size]!) := by
            simp [madeCells, hj, hl]
          rw [h1]
          symm
          have hpos : 0 < inf.size := by
            rcases Nat.eq_zero_or_pos inf.size with h | h
            · rw [h] at hj; simp at hj
            · exact h
          clear h1 hr hlen
          induction k generalizing j with
          | zero => simp at hj
          | succ k ih =>
            simp only [List.replicate_succ, List.flatten_cons]
            rcases Nat.lt_or_ge j inf.size with h1 | h1
            · rw [List.getElem?_append_left (by omega), Nat.mod_eq_of_lt h1]
              simp [h1, hl]
            · rw [List.getElem?_append_right (by omega), hl]
              have := ih (j - inf.size) (by rw [Nat.add_mul] at hj; omega)
              rw [this]
              congr 2
              rw [← Nat.mod_eq_sub_mod h1]
        · rw [List.getElem?_eq_none (by simpa [madeCells] using hj), List.getElem?_eq_none (by rw [hlen]; exact hj)]
      rw [key, List.take_of_length_le]
      have : ∀ (k : Nat), (List.replicate k z).flatten.length = k * inf.size := by
        intro k
        induction k with
        | zero => simp
        | succ k ih => simp [List.replicate_succ, ih, hl, Nat.add_mul]; omega
      rw [this]; exact Nat.le_refl _
    · show (w.heap.push _).size = _; simp

def bytesV (l : List UInt8) : List Value := l.map fun b => .int .u8 b.toNat

theorem bytes_cells (l : List UInt8) (cap : Nat) : (bytesRow ⟨l.toArray⟩ cap).toList = bytesV l ++ List.replicate (cap - l.length) (.int .u8 0) := by
  simp [bytesRow, bytesV, size_mk]

/-- []byte(s). -/
theorem Eff.toBytes {src dst e : TypeId} {x : Operand} {l : List UInt8} (hs : P.underlying src = some .string) (hd : P.underlying dst = some (.slice e)) (he : P.underlying e = some (.int .u8)) (hx : evO env x = some (St l)) (h : l.length ≤ maxLen) :
    Eff P env w (.convert src dst x) ty (fun v w' => Own w' w.heap.size e 1 v l.length (bytesV l) ∧ Below w.heap.size w w' ∧ w'.heap.size = w.heap.size + 1 ∧ (∀ k, v.rowOf = some k → k = w.heap.size)) :=
  Eff.of_run fun _ a ho d pos after g => by
    have hge := grownCap_ge w l.length 0 e
    have hcm := grownCap_le_maxLen w l.length 0 e h
    have hr := run_bytes_of_string (P := P) w src dst e ⟨l.toArray⟩ hs hd he
    have hsz : (bytesRow ⟨l.toArray⟩ (grownCap w l.length 0 e)).size = grownCap w l.length 0 e := by simp [bytesRow, size_mk]; omega
    rw [size_mk] at hr
    refine ⟨_, _, by simp only [execOp, ho.eval hx, Sem.run_bind, hr, Result.andThen_ok]; rfl, ⟨by simp [bytesV], ownIn ⟨w.heap.size, _, _, _, rfl, Nat.le_refl _, heap_alloc_new w.drew _, fun _ => Nat.le_refl _, hge, hcm, by rw [hsz]; omega, ?_⟩⟩, (Below.refl _ _).drew.alloc (by simp) _, ?_, fun k hk => by
      simp only [Value.rowOf] at hk
      cases hb : Nat.beq (grownCap w l.length 0 e) 0 <;> rw [hb] at hk <;> simp at hk
      exact hk.symm⟩
    · rw [bytes_cells, Nat.mul_one]
      have : l.length = (bytesV l).length := by simp [bytesV]
      rw [this]; exact List.take_left
    · show (w.drew.heap.push _).size = _; simp
/-- string(b), b a row of one's own. -/
theorem Val.ofBytes {src dst e : TypeId} {x : Operand} {base n : Nat} {v : Value} {l : List UInt8} (hs : P.underlying src = some (.slice e)) (hd : P.underlying dst = some .string) (he : P.underlying e = some (.int .u8)) (hx : evO env x = some v) (hown : Own w base e 1 v n (bytesV l)) :
    Val P env w (.convert src dst x) ty (St l) := fun _ a ho d pos after g => by
  have hn : n = l.length := by have := hown.1; simp [bytesV] at this; exact this.symm
  subst hn
  rcases hown.2 with ⟨h0, A, rfl⟩ | ⟨g', cap, cur, fz, rfl, hb, hg, _, _, _, _, _, hcp⟩
  · have : l = [] := List.eq_nil_of_length_eq_zero h0
    subst this
    cases A with
    | none =>
      simp only [execOp, ho.eval hx, Sem.run_bind, run_convert_bytes_string w src dst e none 0 0 hs he hd]
      simp [Conv.bytesToString]; rfl
    | some a0 =>
      have hr := run_convert_bytes_back (P := P) w src dst e a0 0 [] hs he hd (fun j hj => absurd hj (by simp))
      simp only [List.length_nil] at hr
      simp only [execOp, ho.eval hx, Sem.run_bind, hr, Result.andThen_ok]
      simp
  · have hc := hown.cells (g := g') (rowOf_slice hcp)
    have hr := run_convert_bytes_back (P := P) w src dst e ⟨g', 0, none⟩ cap l hs he hd (fun j hj => by
      refine hc j _ ?_
      simp [bytesV, hj])
    simp only [execOp, ho.eval hx, Sem.run_bind, hr, Result.andThen_ok]
    simp
end

/-! ### Facts on the present world, and how each goes on behind what only makes new memory -/
/-- A slice reads as a list, in the present world. -/
abbrev Rd {α : Type} (s : Shape α) (w : World) (v : Value) (l : List α) : Prop := RdS s w.heap.size w v l
/-- Cells that lie in the present world. -/
def Cel (w : World) (p : Addr) (cs : List Value) : Prop := cellsAt w p cs ∧ p.block < w.heap.size

section
variable {w w' w0 : World}
theorem Rd.up {α : Type} {s : Shape α} {v : Value} {l : List α} (h : Rd s w v l) (hk : Below w.heap.size w w') : Rd s w' v l := (h.below hk).mono hk.size
theorem RdS.up {α : Type} {s : Shape α} {v : Value} {l : List α} (h : RdS s w.heap.size w v l) (hk : Below w.heap.size w w') : RdS s w'.heap.size w' v l := (h.below hk).mono hk.size
theorem Blk.up {b : Nat} {cs : List Value} {t : TypeId} (h : Blk w b cs t) (hk : Below w.heap.size w w') : Blk w' b cs t := h.kept hk
theorem Own.up {base : Nat} {e : TypeId} {size : Nat} {v : Value} {n : Nat} {xs : List Value} (h : Own w base e size v n xs) (hk : Below w.heap.size w w') : Own w' base e size v n xs := h.kept hk
theorem Cel.up {p : Addr} {cs : List Value} (h : Cel w p cs) (hk : Below w.heap.size w w') : Cel w' p cs := ⟨h.1.keep (hk.block _ h.2), Nat.lt_of_lt_of_le h.2 hk.size⟩
theorem up_below {B : Nat} (h : Below B w0 w) (hk : Below w.heap.size w w') (hB : B ≤ w.heap.size) : Below B w0 w' := h.trans (hk.mono hB)
/-- What was there when the call began is as it was. -/
def Old (w0 w : World) : Prop := Below w0.heap.size w0 w
theorem Old.refl (w : World) : Old w w := Below.refl _ _
theorem Old.up (h : Old w0 w) (hk : Below w.heap.size w w') : Old w0 w' := Below.trans h (hk.mono h.size)
theorem Old.size (h : Old w0 w) : w0.heap.size ≤ w.heap.size := Below.size h
/-- An element of a slice that is read, where it lies and what it is. -/
theorem Rd.el {α : Type} {s : Shape α} {v : Value} {l : List α} (h : Rd s w v l) {i : Nat} (hi : i < l.length) : ∃ cs, Cel w (elemA v s.size i) cs ∧ s.rd w.heap.size w cs l[i] := by
  obtain ⟨cs, h1, h2⟩ := h.at (List.getElem?_eq_getElem hi)
  exact ⟨cs, ⟨h1, h.blockA hi⟩, h2⟩
theorem Blk.store_below {b : Nat} {cs' : List Value} {t : TypeId} {B : Nat} (hs : Stored w w' b cs' t) (hB : B ≤ b) (hw : B ≤ w.heap.size) : Below B w w' :=
  below_of_grown hs.grown hw fun k hk => by cases hk; exact hB
end

section
variable {P : Program} {env : Env} {w : World} {ty : TypeId}
theorem Val.loadE {t n : Nat} {x : Operand} {p : Addr} {cs : List Value} (ht : aggT P t = some n) (hx : evO env x = some (.pointer (some p))) (hc : Cel w p cs) (hl : cs.length = n) : Val P env w (.load t x) ty (.agg cs.toArray) := Val.loadN ht hx hc.1 hl
theorem Val.loadE1 {t : TypeId} {x : Operand} {p : Addr} {v : Value} (ht : sclT P t = true) (hx : evO env x = some (.pointer (some p))) (hc : Cel w p [v]) : Val P env w (.load t x) ty v := Val.load1 ht hx (by have := hc.1 0 v rfl; rwa [add_zero] at this)
/-- A field of an element. -/
theorem Val.loadEf {t : TypeId} {x : Operand} {p : Addr} {cs : List Value} {i : Nat} {v : Value} (ht : sclT P t = true) (hx : evO env x = some (.pointer (some (p.add i)))) (hc : Cel w p cs) (hv : cs[i]? = some v) : Val P env w (.load t x) ty v := Val.load1 ht hx (hc.1 i v hv)
end

/-! ### Facts below a fixed block number B, while the call's own rows from B on are written -/
/-- A block known whole, below B. -/
def BlkB (B : Nat) (w : World) (b : Nat) (cs : List Value) (t : TypeId) : Prop := b < B ∧ Blk w b cs t
/-- Cells that lie below B. -/
def CelB (B : Nat) (w : World) (p : Addr) (cs : List Value) : Prop := cellsAt w p cs ∧ p.block < B
/-- What was there when the call began is as it was, and lies below B. -/
def OldB (B : Nat) (w0 w : World) : Prop := Below w0.heap.size w0 w ∧ w0.heap.size ≤ B
section
variable {w w' w0 : World} {B : Nat}
theorem _root_.Go.RowKit.Below.upB (h : Below B w0 w) (hk : Below B w w') : Below B w0 w' := h.trans hk
theorem RdS.upB {α : Type} {s : Shape α} {v : Value} {l : List α} (h : RdS s B w v l) (hk : Below B w w') : RdS s B w' v l := h.below hk
theorem BlkB.upB {b : Nat} {cs : List Value} {t : TypeId} (h : BlkB B w b cs t) (hk : Below B w w') : BlkB B w' b cs t := ⟨h.1, h.2.keep hk h.1⟩
theorem CelB.upB {p : Addr} {cs : List Value} (h : CelB B w p cs) (hk : Below B w w') : CelB B w' p cs := ⟨h.1.keep (hk.block _ h.2), h.2⟩
theorem OldB.upB (h : OldB B w0 w) (hk : Below B w w') : OldB B w0 w' := ⟨Below.trans h.1 (hk.mono h.2), h.2⟩
theorem Blk.fix {b : Nat} {cs : List Value} {t : TypeId} (h : Blk w b cs t) : BlkB w.heap.size w b cs t := ⟨h.lt, h⟩
theorem Cel.fix {p : Addr} {cs : List Value} (h : Cel w p cs) : CelB w.heap.size w p cs := h
theorem Old.fix (h : Old w0 w) : OldB w.heap.size w0 w := ⟨h, h.size⟩
theorem RdS.fix {α : Type} {s : Shape α} {v : Value} {l : List α} (h : RdS s w.heap.size w v l) : RdS s w.heap.size w v l := h
theorem RdS.elB {α : Type} {s : Shape α} {v : Value} {l : List α} (h : RdS s B w v l) {i : Nat} (hi : i < l.length) : ∃ cs, CelB B w (elemA v s.size i) cs ∧ s.rd B w cs l[i] := by
  obtain ⟨cs, h1, h2⟩ := h.at (List.getElem?_eq_getElem hi)
  exact ⟨cs, ⟨h1, h.blockA hi⟩, h2⟩
theorem CelB.toCel {p : Addr} {cs : List Value} (h : CelB B w p cs) (hB : B ≤ w.heap.size) : Cel w p cs := ⟨h.1, Nat.lt_of_lt_of_le h.2 hB⟩
theorem App.belowB {base : Nat} {e : TypeId} {size : Nat} {v v' : Value} {n n' : Nat} {xs xs' : List Value} (h : App w w' base e size v v' n xs) (ho : Own w base e size v n' xs') (hs : base ≤ w.heap.size) : Below base w w' := h.below ho (Nat.le_refl _) hs
end
theorem one_of_ints (l : List Int) : ∀ y ∈ l.map I, y.oneCell' = true := fun y hy => by obtain ⟨b, _, rfl⟩ := List.mem_map.1 hy; rfl
theorem maxLen_eq : maxLen = 9223372036854775807 := by simp [maxLen]

/-- What holds of each element of plain data that is read. -/
theorem RdS.okFlat {α : Type} {n : Nat} {enc : α → List Value} {ok : α → Prop} {h0 : ∀ x, (enc x).length = n} {h1 : ∀ x, ∀ u ∈ enc x, u.oneCell' = true} {B : Nat} {w : World} {v : Value} {l : List α} (h : RdS (Shape.flat n enc ok h0 h1) B w v l) : ∀ x ∈ l, ok x := by
  intro x hx
  obtain ⟨i, hi, rfl⟩ := List.mem_iff_getElem.1 hx
  obtain ⟨cs, _, h2⟩ := h.at (List.getElem?_eq_getElem hi)
  exact h2.2
theorem Own.rdInts {w : World} {base : Nat} {e : TypeId} {v : Value} {l : List Int} (h : Own w base e 1 v l.length (l.flatMap fun x => [I x])) (hok : ∀ x ∈ l, Int64 x) (hsm : l.length ≤ 140737488355328) : RdS intS w.heap.size w v l := Own.rdFlat hsm h hok
theorem Own.rdStrs {w : World} {base : Nat} {e : TypeId} {v : Value} {l : List (List UInt8)} (h : Own w base e 1 v l.length (l.flatMap fun x => [St x])) (hok : ∀ x ∈ l, x.length ≤ 140737488355328) (hsm : l.length ≤ 140737488355328) : RdS strS w.heap.size w v l := Own.rdFlat hsm h hok

/-! ### Results that lie in cells -/
def resOf (P : Program) (a : Act) : ResultVar → Sem Value
  | .tmp t => pure (a.tmps.getD t undef)
  | .cell x t => do loadVar t (← asAddr (a.tmps.getD x undef))
def RVal (c : Cx) (env : Env) (w : World) (r : ResultVar) (v : Value) : Prop := ∀ a, EnvOk c.n env a → (resOf c.P a r).run c.P w = .ok v w
section
variable {c : Cx} {env : Env} {w : World} {B : List (Nat × Kont)} {N : Kont}
theorem RVal.tmp {t : Nat} {v : Value} (h : look env t = some v) : RVal c env w (.tmp t) v := fun a ho => by simp [resOf, getD_env ho h]
theorem RVal.cellN {x t n b : Nat} {cs : List Value} {T : TypeId} (ht : aggT c.P t = some n) (h : look env x = some (.pointer (some ⟨b, 0, none⟩))) (hb : Blk w b cs T) (hl : cs.length = n) : RVal c env w (.cell x t) (.agg cs.toArray) := fun a ho => by
  obtain ⟨h1, i, hi, hs⟩ := run_isAgg_agg (w := w) ht
  have h2 := run_loadCells_list (P := c.P) (w := w) ⟨b, 0, none⟩ cs hb.cellsAt
  simp only [resOf, getD_env ho h, asAddr, Sem.run_bind, Sem.run_pure, Result.andThen_ok, loadVar, h1, if_true]
  simp [sizeOf, typeInfo, hi, hs, ← hl, h2]
theorem RVal.cell1 {x t b i : Nat} {cs : List Value} {T : TypeId} {v : Value} (ht : sclT c.P t = true) (h : look env x = some (.pointer (some ⟨b, i, none⟩))) (hb : Blk w b cs T) (hv : cs[i]? = some v) : RVal c env w (.cell x t) v := fun a ho => by
  simp only [resOf, getD_env ho h, asAddr, Sem.run_bind, Sem.run_pure, Result.andThen_ok, loadVar, run_isAgg_scl ht]
  simp [hb.cell, hv]
theorem results_eq (P : Program) (fn : Func) (a : Act) : results fn a.tmps = (do let vs ← fn.results.mapM (resOf P a); pure (if h : vs.size = 1 then vs[0] else .tuple vs)) := by
  have e : (fun (r : ResultVar) => (match r with | .tmp t => pure (a.tmps.getD t undef) | .cell x t => do loadVar t (← asAddr (a.tmps.getD x undef)) : Sem Value)) = resOf P a := by funext r; cases r <;> rfl
  unfold results
  rw [← e]
  rfl
theorem WC.retR1 {r : ResultVar} {v : Value} (hr : c.res = #[r]) (h : RVal c env w r v) (hS : c.S v w) (hm : lookM env = some (.tuple #[]) := by rfl) : WC c B .ret env w N := fun a ho =>
  wpIn_ret ⟨w, takes_none ho hm, v, fun fn hfn => by rw [results_eq c.P, hfn, hr]; simp [h a ho], hS⟩
theorem WC.retR2 {r1 r2 : ResultVar} {v1 v2 : Value} (hr : c.res = #[r1, r2]) (h1 : RVal c env w r1 v1) (h2 : RVal c env w r2 v2) (hS : c.S (.tuple #[v1, v2]) w) (hm : lookM env = some (.tuple #[]) := by rfl) : WC c B .ret env w N := fun a ho =>
  wpIn_ret ⟨w, takes_none ho hm, .tuple #[v1, v2], fun fn hfn => by rw [results_eq c.P, hfn, hr]; simp [h1 a ho, h2 a ho], hS⟩
theorem WC.retR3 {r1 r2 r3 : ResultVar} {v1 v2 v3 : Value} (hr : c.res = #[r1, r2, r3]) (h1 : RVal c env w r1 v1) (h2 : RVal c env w r2 v2) (h3 : RVal c env w r3 v3) (hS : c.S (.tuple #[v1, v2, v3]) w) (hm : lookM env = some (.tuple #[]) := by rfl) : WC c B .ret env w N := fun a ho =>
  wpIn_ret ⟨w, takes_none ho hm, .tuple #[v1, v2, v3], fun fn hfn => by rw [results_eq c.P, hfn, hr]; simp [h1 a ho, h2 a ho, h3 a ho], hS⟩
end
/-- &l[i] where the slice is a new block. -/
theorem Val.indexLit {P : Program} {env : Env} {w : World} {ty : TypeId} {x y : Operand} {t e : TypeId} {sz by_ : Nat} {z : List Value} {k : IntKind} {i : Int} {b n c : Nat} (ht : slT P t = some (e, sz, by_, z)) (hx : evO env x = some (.slice (some ⟨b, 0, none⟩) n c)) (hy : evO env y = some (.int k i))
    (h0 : 0 ≤ i) (h1 : i < n) : Val P env w (.indexAddr t x y) ty (.pointer (some ⟨b, i.toNat * sz, none⟩)) := fun _ a ho d pos after g => by
  simp [execOp, ho.eval hx, ho.eval hy, run_indexAt ht h0 h1, add_lit]
end Go.Eng

namespace Go.Eng
open Go Go.RowKit

section
variable {P : Program} {ops : Array Oper} {md : Region.Mode} {C : World → Prop} {Q : Exit → Act → World → Prop} {ro : Option Nat}

/-- Whatever order is picked from here on; operations that are not wild keep the class. -/
def wpAnyC (ro : Option Nat) (P : Program) (md : Region.Mode) (ops : Array Oper) (C : World → Prop) (wild : Nat → Bool) (Q : Exit → Act → World → Prop) : Nat → Array Bool → Act → World → Prop
  | 0, listed, a, w => Region.ready md ops listed = [] ∧ Q .normal a w
  | fuel + 1, listed, a, w =>
    (Region.ready md ops listed = [] → Q .normal a w) ∧
    ∀ i ∈ Region.ready md ops listed, wpOpIn (FW ro) 0 P ops Q i (fun a' w' => (wild i = false → C w → C w') ∧ wpAnyC ro P md ops C wild Q fuel (listed.setIfInBounds i true) a' w') a w

theorem wpAny_of_C {wild : Nat → Bool} : ∀ (fuel : Nat) (listed : Array Bool) (a : Act) (w : World), wpAnyC ro P md ops C wild Q fuel listed a w → wpAnyIn (FW ro) 0 P md ops Q fuel listed a w
  | 0, _, _, _, h => h
  | fuel + 1, listed, a, w, h => ⟨h.1, fun i hi => wpOpIn_mono (fun a' w' h' => wpAny_of_C fuel _ a' w' h'.2) (h.2 i hi)⟩

/-- In state a, in every world of the class, operation o yields v and leaves the world alone. -/
def YieldsC (P : Program) (ops : Array Oper) (C : World → Prop) (o : Oper) (v : Value) (a : Act) : Prop :=
  (Region.wanted o (yielded ops a.tmps) = true ∧ ∀ w, C w → (execOp a.eval o).run P w = .ok (.value v) w) ∨ (Region.wanted o (yielded ops a.tmps) = false ∧ v = undef)

theorem YieldsC.of_same {o : Oper} {v : Value} {a a' : Act} (hy : YieldsC P ops C o v a) (he : execOp a'.eval o = execOp a.eval o) (hw : Region.wanted o (yielded ops a'.tmps) = Region.wanted o (yielded ops a.tmps)) : YieldsC P ops C o v a' := by
  unfold YieldsC at *
  rw [he, hw]; exact hy

theorem YieldsC.wpOp {i : Nat} {o : Oper} {v : Value} {a : Act} {w : World} (hi : ops[i]? = some o) (hy : YieldsC P ops C o v a) (hC : C w) {K : Act → World → Prop} (h : K (a.put o.dst v) w) : wpOpIn (FW ro) 0 P ops Q i K a w := by
  unfold Go.wpOpIn
  simp only [hi]
  rcases hy with ⟨hw, hv⟩ | ⟨hw, rfl⟩
  · rw [if_pos hw]
    exact wpIn_of_value (hv w hC) h
  · rw [if_neg (by simp [hw])]; exact ⟨fun _ _ => trivial, h⟩

theorem upon_put {F : Fence} {o : Oper} {a : Act} {dst : Option Tmp} {v : Value} {K : Act → World → Prop} (hp : ∀ ch a w, ¬ Q (.panic ch) a w) (ho : ∀ a w, ¬ Q .outgrown a w)
    (h2 : ∀ d, dst = some d → o.dst ≠ some d) {r : Result Next} (h : o.uponIn F 0 P (a.put dst v) K Q r) : o.uponIn F 0 P a (fun a' w' => (∃ u ds, a' = ({ a with defers := ds }.put o.dst u)) ∧ K (a'.put dst v) w') Q r := by
  have comm : ∀ u, ((a.put dst v).put o.dst u) = (a.put o.dst u).put dst v := fun u => Act.put_comm a v u h2
  cases r with
  | ok nx w' =>
    cases nx <;> simp only [Oper.uponIn] at h ⊢
    case value u => exact ⟨⟨u, a.defers, rfl⟩, by rw [← comm]; exact h⟩
    case skip => exact ⟨⟨undef, a.defers, rfl⟩, by rw [← comm]; exact h⟩
    case defer d =>
      refine ⟨⟨undef, d :: a.defers, rfl⟩, ?_⟩
      have := Act.put_comm { a with defers := d :: a.defers } v undef h2
      rw [← this]
      have e : ({ a with defers := d :: a.defers } : Act).put dst v = { a.put dst v with defers := d :: (a.put dst v).defers } := by cases dst <;> rfl
      rw [e]; exact h
    case enter f args =>
      refine ⟨h.1, CallsIn.mono h.2 ?_⟩
      intro e w'' he
      cases e with
      | returned u => exact ⟨⟨u, a.defers, rfl⟩, by rw [← comm]; exact he⟩
      | panicked ch => exact (hp _ _ _ he).elim
      | outgrown => obtain ⟨a0, w0, h0⟩ := he; exact (ho _ _ h0).elim
    case row row args => exact ⟨h.1, RowsIn.mono h.2 fun u w'' he => ⟨⟨u, a.defers, rfl⟩, by rw [← comm]; exact he⟩⟩
    case round l f t a1 b1 =>
      refine ⟨h.1, RoundIn.mono h.2 ?_⟩
      intro e w'' he
      cases e with
      | returned u => exact ⟨⟨u, a.defers, rfl⟩, by rw [← comm]; exact he⟩
      | panicked ch => exact (hp _ _ _ he).elim
      | outgrown => obtain ⟨a0, w0, h0⟩ := he; exact (ho _ _ h0).elim
    all_goals exact h
  | halt x w' => cases x <;> simp only [Oper.uponIn] at h ⊢ <;> first | exact h | exact (hp _ _ _ h).elim

theorem semAt_put (ro : Option Nat) (o : Oper) (hs : ∀ cs b, o.op ≠ .select cs b) (a : Act) (dst : Option Tmp) (v : Value) (h : ∀ d, dst = some d → d ∉ o.looksAt ops) : o.semAt ro (a.put dst v).eval = o.semAt ro a.eval := by
  have he := execOp_put o hs a dst v h
  cases ro with
  | none => exact he
  | some l =>
    obtain ⟨dd, op, ty, pos, after, g⟩ := o
    cases op with
    | defer c =>
      have e := resolve_congr (ρ := (a.put dst v).eval) (ρ' := a.eval) c ty (fun x hx => Act.eval_put fun d hd hxd => h d hd (by
        subst hxd
        exact List.mem_append_left _ (List.mem_filterMap.2 ⟨.tmp d, by simpa [Op.operands] using hx, rfl⟩)))
      simp only [Oper.semAt, e]
    | _ => exact he

theorem wpOp_put {j : Nat} {oi oj : Oper} {v : Value} (hj : ops[j]? = some oj) (hap : oi.apart ops oj = true) (hsi : ∀ cs b, oi.op ≠ .select cs b) (hsj : ∀ cs b, oj.op ≠ .select cs b)
    (hp : ∀ ch a w, ¬ Q (.panic ch) a w) (ho : ∀ a w, ¬ Q .outgrown a w) {K : Act → World → Prop} {a : Act} {w : World} (hy : YieldsC P ops C oi v a) (h : wpOpIn (FW ro) 0 P ops Q j K (a.put oi.dst v) w) :
    wpOpIn (FW ro) 0 P ops Q j (fun a' w' => YieldsC P ops C oi v a' ∧ K (a'.put oi.dst v) w') a w := by
  obtain ⟨h1, h2, h3⟩ := Oper.apart_spec hap
  have keep : ∀ (a : Act), YieldsC P ops C oi v a → ∀ u, YieldsC P ops C oi v (a.put oj.dst u) := fun a hy u => hy.of_same (execOp_put oi hsi a oj.dst u h3) (wanted_put oi a oj.dst u h3)
  have keepD : ∀ (a : Act) (ds : List Deferred), YieldsC P ops C oi v a → YieldsC P ops C oi v { a with defers := ds } := fun a ds hy => by
    have e : ({ a with defers := ds } : Act).eval = a.eval := by funext x; cases x <;> rfl
    exact hy.of_same (by rw [e]) rfl
  unfold wpOpIn at *
  simp only [hj] at *
  rw [wanted_put oj a oi.dst v h1] at h
  split
  · rename_i hw
    rw [if_pos hw] at h
    refine ⟨fun _ _ => trivial, ?_⟩
    have h4 := h.2
    rw [semAt_put _ oj hsj a oi.dst v h1] at h4
    have := upon_put hp ho h2 h4
    generalize (oj.semAt (FW ro).round a.eval).run P w = r at this ⊢
    have mono : ∀ {K K' : Act → World → Prop} (hK : ∀ a' w', K a' w' → K' a' w'), oj.uponIn (FW ro) 0 P a K Q r → oj.uponIn (FW ro) 0 P a K' Q r := by
      intro K K' hK hh
      cases r with
      | ok nx w' =>
        cases nx <;> simp only [Oper.uponIn] at hh ⊢ <;> first
          | exact hK _ _ hh
          | exact ⟨hh.1, CallsIn.mono hh.2 (fun e w'' he => by cases e <;> first | exact hK _ _ he | exact he)⟩
          | exact ⟨hh.1, RowsIn.mono hh.2 (fun _ _ he => hK _ _ he)⟩
          | exact ⟨hh.1, RoundIn.mono hh.2 (fun e w'' he => by cases e <;> first | exact hK _ _ he | exact he)⟩
          | exact hh
      | halt x w' => cases x <;> simp only [Oper.uponIn] at hh ⊢ <;> exact hh
    refine mono ?_ this
    rintro a' w' ⟨⟨u, ds, rfl⟩, hk⟩
    exact ⟨keep _ (keepD a ds hy) u, hk⟩
  · rename_i hw
    rw [if_neg hw] at h
    exact ⟨fun _ _ => trivial, keep a hy _, by rw [← Act.put_comm a v undef h2]; exact h.2⟩

/-- A quiet operation that may come up now may be taken first. -/
theorem wpAnyC_first {wild : Nat → Bool} {i : Nat} {oi : Oper} {v : Value} {Ci : World → Prop} (hi : ops[i]? = some oi) (hsel : ∀ (j : Nat) (o : Oper) cs b, ops[j]? = some o → o.op ≠ .select cs b)
    (hp : ∀ ch a w, ¬ Q (.panic ch) a w) (ho : ∀ a w, ¬ Q .outgrown a w) (hCi : Ci = C ∨ Ci = fun _ => True) (hwi : wild i = false) :
    ∀ (fuel : Nat) (listed : Array Bool) (a : Act) (w : World),
      (∀ j oj, ops[j]? = some oj → j ≠ i → listed.getD j true = false → (∀ e ∈ oj.after, Region.binds md e = true → e.on ≠ i) → oi.apart ops oj = true ∧ (Ci = (fun _ => True) ∨ wild j = false)) →
      i ∈ Region.ready md ops listed → YieldsC P ops Ci oi v a → Ci w →
      wpAnyC ro P md ops C wild Q fuel (listed.setIfInBounds i true) (a.put oi.dst v) w → wpAnyC ro P md ops C wild Q (fuel + 1) listed a w := by
  intro fuel
  induction fuel with
  | zero =>
    intro listed a w _ hr hy hC H
    refine ⟨fun h => (by rw [h] at hr; cases hr), fun j hj => ?_⟩
    by_cases hji : j = i
    · subst hji; exact hy.wpOp hi hC ⟨fun _ h => h, H⟩
    · have := ready_mono hj hji
      rw [H.1] at this
      cases this
  | succ fuel ih =>
    intro listed a w hfree hr hy hC H
    refine ⟨fun h => (by rw [h] at hr; cases hr), fun j hj => ?_⟩
    by_cases hji : j = i
    · subst hji; exact hy.wpOp hi hC ⟨fun _ h => h, H⟩
    · have h1 := H.2 j (ready_mono hj hji)
      obtain ⟨hjun, oj, hoj, hall⟩ := mem_ready.1 hj
      have hnot : ∀ e ∈ oj.after, Region.binds md e = true → e.on ≠ i := fun e he hb heq => by
        have h1 := hall e he hb
        have h0 := (mem_ready.1 hr).1
        rw [heq] at h1
        rcases Nat.lt_or_ge i listed.size with h' | h'
        · simp [h'] at h0 h1; rw [h0] at h1; cases h1
        · simp [Array.getElem?_eq_none h'] at h1
      obtain ⟨hap, hwj⟩ := hfree j oj hoj hji hjun hnot
      have h2 := wpOp_put hoj hap (fun cs b => hsel i oi cs b hi) (fun cs b => hsel j oj cs b hoj) hp ho hy h1
      have hfree' : ∀ k ok, ops[k]? = some ok → k ≠ i → (listed.setIfInBounds j true).getD k true = false →
          (∀ e ∈ ok.after, Region.binds md e = true → e.on ≠ i) → oi.apart ops ok = true ∧ (Ci = (fun _ => True) ∨ wild k = false) := fun k ok hk hki hun hno => by
        refine hfree k ok hk hki ?_ hno
        by_cases hjk : j = k
        · subst hjk; exact hjun
        · rw [getD_set_ne true hjk] at hun; exact hun
      refine wpOpIn_mono (fun a' w' h3 => ⟨h3.2.1, ih (listed.setIfInBounds j true) a' w' hfree' (ready_mono hr (Ne.symm hji)) h3.1 ?_ ?_⟩) h2
      · rcases hCi with h | h
        · rcases hwj with h' | h'
          · rw [h']; trivial
          · rw [h] at hC ⊢; exact h3.2.1 h' hC
        · rw [h]; trivial
      · rw [Array.setIfInBounds_comm _ _ hji]
        exact h3.2.2

/-- The kinds: 0 quiet, of no world · 1 quiet, of the class · 2 it acts and keeps the class · 3 it acts, and everything of kind 1 comes ahead. -/
def canonB (md : Region.Mode) (ops : Array Oper) (kind : List Nat) : List Nat → Array Bool → Bool
  | [], listed => (Region.ready md ops listed).isEmpty
  | i :: is, listed =>
    (match kind[i]? with
     | some 0 => (Region.ready md ops listed).contains i && Region.free md ops listed i
     | some 1 => (Region.ready md ops listed).contains i && Region.free md ops listed i &&
        (match ops[i]? with
         | none => false
         | some _ => (List.range ops.size).all fun j => j == i || listed.getD j true || match ops[j]? with
            | some oj => oj.after.any (fun e => Region.binds md e && e.on == i) || kind[j]? != some 3
            | none => true)
     | some 2 => (match Region.ready md ops listed with | [j] => j == i | _ => false)
     | some 3 => (match Region.ready md ops listed with | [j] => j == i | _ => false)
     | _ => false) && canonB md ops kind is (listed.setIfInBounds i true)

/-- The one walk. -/
def wpCan (ro : Option Nat) (P : Program) (ops : Array Oper) (C : World → Prop) (kind : List Nat) (Q : Exit → Act → World → Prop) : List Nat → Act → World → Prop
  | [], a, w => Q .normal a w
  | i :: is, a, w => match ops[i]? with
    | none => False
    | some o => match kind[i]? with
      | some 0 => ∃ v, YieldsC P ops (fun _ => True) o v a ∧ wpCan ro P ops C kind Q is (a.put o.dst v) w
      | some 1 => C w ∧ ∃ v, YieldsC P ops C o v a ∧ wpCan ro P ops C kind Q is (a.put o.dst v) w
      | some 2 => wpOpIn (FW ro) 0 P ops Q i (fun a' w' => (C w → C w') ∧ wpCan ro P ops C kind Q is a' w') a w
      | some 3 => wpOpIn (FW ro) 0 P ops Q i (fun a' w' => wpCan ro P ops C kind Q is a' w') a w
      | _ => False

theorem wpAnyC_can (kind : List Nat) (hsel : Region.noSelect ops = true) (hp : ∀ ch a w, ¬ Q (.panic ch) a w) (ho : ∀ a w, ¬ Q .outgrown a w) :
    ∀ (is : List Nat) (listed : Array Bool) (a : Act) (w : World), canonB md ops kind is listed = true → wpCan ro P ops C kind Q is a w → wpAnyC ro P md ops C (fun j => kind[j]? == some 3) Q is.length listed a w
  | [], listed, a, w, hB, h => ⟨by simpa [canonB] using hB, h⟩
  | i :: is, listed, a, w, hB, h => by
    simp only [canonB, Bool.and_eq_true] at hB
    obtain ⟨hB1, hB2⟩ := hB
    unfold wpCan at h
    cases hi : ops[i]? with
    | none => rw [hi] at h; exact h.elim
    | some o =>
      rw [hi] at h
      simp only at h
      split at h
      · rename_i hk
        rw [hk] at hB1
        simp only [Bool.and_eq_true] at hB1
        obtain ⟨v, hy, hK⟩ := h
        refine wpAnyC_first (Ci := fun _ => True) hi (fun j o cs b hj => Region.noSelect_spec hsel j o cs b hj) hp ho (.inr rfl) (by simp [hk]) is.length listed a w ?_ (by simpa using hB1.1) hy trivial (wpAnyC_can kind hsel hp ho is _ _ _ hB2 hK)
        intro j oj hj hne hun hno
        exact ⟨Region.free_spec hi hB1.2 j oj hj hne hun hno, .inl rfl⟩
      · rename_i hk
        rw [hk] at hB1
        simp only [Bool.and_eq_true, hi, List.all_eq_true, List.mem_range] at hB1
        obtain ⟨hC, v, hy, hK⟩ := h
        refine wpAnyC_first (Ci := C) hi (fun j o cs b hj => Region.noSelect_spec hsel j o cs b hj) hp ho (.inl rfl) (by simp [hk]) is.length listed a w ?_ (by simpa using hB1.1.1) hy hC (wpAnyC_can kind hsel hp ho is _ _ _ hB2 hK)
        intro j oj hj hne hun hno
        refine ⟨Region.free_spec hi hB1.1.2 j oj hj hne hun hno, .inr ?_⟩
        have h1 := hB1.2 j (Array.getElem?_eq_some_iff.1 hj).1
        simp only [hj, Bool.or_eq_true, beq_iff_eq, hne, false_or, hun, Bool.false_eq_true] at h1
        rcases h1 with h1 | h1
        · obtain ⟨e, he, hb⟩ := Array.any_eq_true'.1 h1
          simp only [Bool.and_eq_true, beq_iff_eq] at hb
          exact absurd hb.2 (hno e he hb.1)
        · simpa using h1
      · rename_i hk
        rw [hk] at hB1
        simp only at hB1
        split at hB1
        · rename_i j hr
          have : j = i := by simpa using hB1
          subst this
          refine ⟨fun h0 => (by rw [hr] at h0; cases h0), fun k hkr => ?_⟩
          rw [hr] at hkr
          have : k = j := by simpa using hkr
          subst this
          exact wpOpIn_mono (fun a' w' h' => ⟨fun _ => h'.1, wpAnyC_can kind hsel hp ho is _ _ _ hB2 h'.2⟩) h
        · cases hB1
      · rename_i hk
        rw [hk] at hB1
        simp only at hB1
        split at hB1
        · rename_i j hr
          have : j = i := by simpa using hB1
          subst this
          refine ⟨fun h0 => (by rw [hr] at h0; cases h0), fun k hkr => ?_⟩
          rw [hr] at hkr
          have : k = j := by simpa using hkr
          subst this
          exact wpOpIn_mono (fun a' w' h' => ⟨fun h0 => by simp [hk] at h0, wpAnyC_can kind hsel hp ho is _ _ _ hB2 h'⟩) h
        · cases hB1
      · exact h.elim
end

section
variable {c : Cx} {B : List (Nat × Kont)} {env : Env} {w : World} {N : Kont} {ops : Array Oper} {C : World → Prop} {kind : List Nat} {is : List Nat}

/-- The one walk, in the engine's words. -/
def WD (c : Cx) (B : List (Nat × Kont)) (ops : Array Oper) (C : World → Prop) (kind : List Nat) (is : List Nat) (env : Env) (w : World) (N : Kont) : Prop :=
  ∀ a, EnvOk c.n env a → wpCan c.rnd c.P ops C kind (QQ c B N) is a w

theorem WC.regionD {id : Nat} (C : World → Prop) (kind is : List Nat) (hm : c.P.follows .mixedOrders = true) (hB : (Region.noSelect ops && Nat.beq is.length ops.size && canonB .any ops kind is (Array.replicate ops.size false)) = true)
    (h : WD c B ops C kind is env w.drew N) : WC c B (.region id ops true) env w N := fun a ho => by
  simp only [Bool.and_eq_true] at hB
  have hlen : is.length = ops.size := Nat.eq_of_beq_eq_true hB.1.2
  refine wpIn_region_any hm (wpAny_of_C (C := C) (wild := fun j => kind[j]? == some 3) _ _ _ _ ?_)
  rw [← hlen]
  exact wpAnyC_can kind hB.1.1 (fun _ _ _ h => h) (fun _ _ h => h) is _ _ _ (by rw [hlen]; exact hB.2) (h a ho)

theorem WD.nil (h : N env w) : WD c B ops C kind [] env w N := fun a ho => ⟨env, ho, h⟩

theorem wpOp_on {i : Nat} {op : Op} {ty : TypeId} {d : Option Nat} {pos : String} {after : Array Edge} {g : Option (Nat × Bool)} {a : Act} {K : Act → World → Prop} {S : Value → World → Prop} (hi : ops[i]? = some ⟨d, op, ty, pos, after, g⟩) (hg : guardOn ops env g = true)
    (ho : EnvOk c.n env a) (hE : Eff c.P env w op ty S) (hK : ∀ v w', S v w' → K (a.put d v) w') : wpOpIn (FW c.rnd) 0 c.P ops (QQ c B N) i K a w := by
  unfold wpOpIn
  simp only [hi]
  rw [if_pos (wanted_on (o := ⟨d, op, ty, pos, after, g⟩) ho hg)]
  exact hE c.n a ho _ _ _ _ _ _ _ hK

/-- quiet, of no world -/
theorem WD.val {i : Nat} {op : Op} {ty : TypeId} {v : Value} {d : Nat} {pos : String} {after : Array Edge} {g : Option (Nat × Bool)} (hi : ops[i]? = some ⟨some d, op, ty, pos, after, g⟩) (hk : kind[i]? = some 0) (hg : guardOn ops env g = true)
    (h : ∀ W, Val c.P env W op ty v) (hd : Nat.blt d c.n = true) (next : WD c B ops C kind is ((d, v) :: env) w N) : WD c B ops C kind (i :: is) env w N := fun a ho => by
  unfold wpCan
  simp only [hi, hk]
  exact ⟨v, .inl ⟨wanted_on (o := ⟨some d, op, ty, pos, after, g⟩) ho hg, fun W _ => h W c.n a ho _ _ _ _⟩, next _ (ho.put hd v)⟩
/-- quiet, of the class -/
theorem WD.valC {i : Nat} {op : Op} {ty : TypeId} {v : Value} {d : Nat} {pos : String} {after : Array Edge} {g : Option (Nat × Bool)} (hi : ops[i]? = some ⟨some d, op, ty, pos, after, g⟩) (hk : kind[i]? = some 1) (hg : guardOn ops env g = true) (hC : C w)
    (h : ∀ W, C W → Val c.P env W op ty v) (hd : Nat.blt d c.n = true) (next : WD c B ops C kind is ((d, v) :: env) w N) : WD c B ops C kind (i :: is) env w N := fun a ho => by
  unfold wpCan
  simp only [hi, hk]
  exact ⟨hC, v, .inl ⟨wanted_on (o := ⟨some d, op, ty, pos, after, g⟩) ho hg, fun W hW => h W hW c.n a ho _ _ _ _⟩, next _ (ho.put hd v)⟩
/-- passed over -/
theorem WD.off {i s : Nat} {op : Op} {ty : TypeId} {d j : Nat} {pos : String} {after : Array Edge} {want b : Bool} (hi : ops[i]? = some ⟨some d, op, ty, pos, after, some (j, want)⟩) (hk : kind[i]? = some 0) (hj : (ops[j]?).bind (·.dst) = some s) (hs : look env s = some (.bool b))
    (hne : (b == want) = false) (hd : Nat.blt d c.n = true) (next : WD c B ops C kind is ((d, undef) :: env) w N) : WD c B ops C kind (i :: is) env w N := fun a ho => by
  unfold wpCan
  simp only [hi, hk]
  exact ⟨undef, .inr ⟨by rw [wanted_known ho hj hs, hne], rfl⟩, next _ (ho.put hd undef)⟩
/-- it acts, and keeps the class -/
theorem WD.eff {i : Nat} {op : Op} {ty : TypeId} {S : Value → World → Prop} {d : Nat} {pos : String} {after : Array Edge} {g : Option (Nat × Bool)} (hi : ops[i]? = some ⟨some d, op, ty, pos, after, g⟩) (hk : kind[i]? = some 2) (hg : guardOn ops env g = true)
    (h : Eff c.P env w op ty S) (hd : Nat.blt d c.n = true) (next : ∀ v w', S v w' → (C w → C w') ∧ WD c B ops C kind is ((d, v) :: env) w' N) : WD c B ops C kind (i :: is) env w N := fun a ho => by
  unfold wpCan
  simp only [hi, hk]
  exact wpOp_on hi hg ho h fun v w' hS => ⟨(next v w' hS).1, (next v w' hS).2 _ (ho.put hd v)⟩
/-- it acts, keeps the class, and hands nothing back -/
theorem WD.eff_ {i : Nat} {op : Op} {ty : TypeId} {S : Value → World → Prop} {pos : String} {after : Array Edge} {g : Option (Nat × Bool)} (hi : ops[i]? = some ⟨none, op, ty, pos, after, g⟩) (hk : kind[i]? = some 2) (hg : guardOn ops env g = true)
    (h : Eff c.P env w op ty S) (next : ∀ v w', S v w' → (C w → C w') ∧ WD c B ops C kind is env w' N) : WD c B ops C kind (i :: is) env w N := fun a ho => by
  unfold wpCan
  simp only [hi, hk]
  exact wpOp_on hi hg ho h fun v w' hS => ⟨(next v w' hS).1, (next v w' hS).2 _ ho⟩
/-- it acts -/
theorem WD.wild {i : Nat} {op : Op} {ty : TypeId} {S : Value → World → Prop} {pos : String} {after : Array Edge} {g : Option (Nat × Bool)} (hi : ops[i]? = some ⟨none, op, ty, pos, after, g⟩) (hk : kind[i]? = some 3) (hg : guardOn ops env g = true)
    (h : Eff c.P env w op ty S) (next : ∀ v w', S v w' → WD c B ops C kind is env w' N) : WD c B ops C kind (i :: is) env w N := fun a ho => by
  unfold wpCan
  simp only [hi, hk]
  exact wpOp_on hi hg ho h fun v w' hS => next v w' hS _ ho
end

/-! ### Ranging over a string of one-byte letters -/
/-- A string's iterator. -/
def Iter (w : World) (b : Nat) (l : List UInt8) (pos : Nat) : Prop := w.heap[b]? = some (.stringIter ⟨l.toArray⟩ pos)
/-- What next tells. -/
def nextV (l : List UInt8) (pos : Nat) : Value := if pos < l.length then .tuple #[.bool true, I pos, .int .i32 (l.getD pos 0).toNat] else .tuple #[.bool false]
section
variable {P : Program} {env : Env} {w : World} {ty : TypeId}
theorem Iter.lt {b : Nat} {l : List UInt8} {pos : Nat} (h : Iter w b l pos) : b < w.heap.size := by
  rcases Nat.lt_or_ge b w.heap.size with h1 | h1
  · exact h1
  · unfold Iter at h; rw [Array.getElem?_eq_none h1] at h; cases h
theorem Iter.up {w' : World} {b : Nat} {l : List UInt8} {pos : Nat} (h : Iter w b l pos) (hk : Below w.heap.size w w') : Iter w' b l pos := (hk.block b h.lt).trans h
theorem Eff.rangeStr {t : TypeId} {x : Operand} {l : List UInt8} (ht : P.underlying t = some .string) (hx : evO env x = some (St l)) :
    Eff P env w (.range t x) ty (fun v w' => Below w.heap.size w w' ∧ ∃ b, v = .pointer (some ⟨b, 0, none⟩) ∧ b = w.heap.size ∧ Iter w' b l 0) :=
  Eff.of_run fun _ a ho d pos after g => ⟨.pointer (some ⟨w.heap.size, 0, none⟩), w.alloc (.stringIter ⟨l.toArray⟩ 0), by
    simp only [execOp, Instr.range, ho.eval hx, Sem.run_bind, run_underlying ht, Result.andThen_ok, Sem.run_pure, newObj, Sem.run]; rfl, (Below.refl _ _).alloc (Nat.le_refl _) _, w.heap.size, rfl, rfl, heap_alloc_new w _⟩
theorem Eff.nextStr {x : Operand} {b pos : Nat} {l : List UInt8} (hx : evO env x = some (.pointer (some ⟨b, 0, none⟩))) (hi : Iter w b l pos) (ha : ∀ c ∈ l, c.toNat < 128) :
    Eff P env w (.next x true) ty (fun v w' => w.grownBy w' (some b) ∧ v = nextV l pos ∧ (pos < l.length → Iter w' b l (pos + 1))) :=
  Eff.of_run fun _ a ho d p after g => by
    unfold Iter at hi
    by_cases hp : pos < l.length
    · have hsz : pos < (⟨l.toArray⟩ : ByteArray).size := by rw [size_mk]; exact hp
      have hget : (⟨l.toArray⟩ : ByteArray)[pos]'hsz = l[pos] := rfl
      have hd := decode_ascii ⟨l.toArray⟩ pos hsz (by rw [hget]; exact ha _ (List.getElem_mem hp))
      refine ⟨_, { w with heap := w.heap.setIfInBounds b (.stringIter ⟨l.toArray⟩ (pos + 1)) }, ?_, ⟨rfl, rfl, rfl, by simp, fun k _ hne => ?_⟩, rfl, fun _ => ?_⟩
      · simp [execOp, Instr.next, ho.eval hx, hi, hsz, hd, nextV, hp, getObj, setObj, Sem.run, goInt, hget]
      · have : b ≠ k := fun e => hne (by rw [e])
        simp [Array.getElem?_setIfInBounds_ne this]
      · unfold Iter
        have hb : b < w.heap.size := (Array.getElem?_eq_some_iff.1 hi).1
        simp [hb]
    · have hsz : ¬ pos < (⟨l.toArray⟩ : ByteArray).size := by rw [size_mk]; exact hp
      refine ⟨_, w, ?_, grown_refl _ _, rfl, fun h => absurd h hp⟩
      simp [execOp, Instr.next, ho.eval hx, hi, hsz, nextV, hp, getObj, Sem.run]
theorem Val.nextOk {x : Operand} {l : List UInt8} {pos : Nat} (hx : evO env x = some (nextV l pos)) : Val P env w (.extract x 0) ty (.bool (decide (pos < l.length))) := fun _ a ho d p after g => by
  by_cases hp : pos < l.length <;> simp [execOp, Instr.extract, ho.eval hx, nextV, hp]
theorem Val.nextC {x : Operand} {l : List UInt8} {pos : Nat} (hx : evO env x = some (nextV l pos)) (hp : pos < l.length) : Val P env w (.extract x 2) ty (.int .i32 l[pos].toNat) := fun _ a ho d p after g => by
  simp [execOp, Instr.extract, ho.eval hx, nextV, hp]
end

/-! ### == on structs of plain fields -/
def kindT (P : Program) (t : TypeId) : Option Nat :=
  match P.underlying t with
  | some (.int _) => some 0
  | some .bool => some 1
  | some .string => some 2
  | _ => none
def flatFields (P : Program) : Nat → List Field → Option (List Nat)
  | _, [] => some []
  | i, f :: r => match kindT P f.type, flatFields P (i + 1) r with
    | some k, some ks => bif f.name != "_" && Nat.beq f.offset i then some (k :: ks) else none
    | _, _ => none
/-- A struct's fields, all plain, one cell each: their kinds. -/
def flatT (P : Program) (t : TypeId) : Option (List Nat) :=
  bif P.stoodInHeld t || P.eqGuardType P.depth t then none else
  match P.underlying t with
  | some (.struct fs) => flatFields P 0 fs.toList
  | _ => none
def cellEq : Value → Value → Bool
  | .int _ a, .int _ b => decide (a = b)
  | .bool a, .bool b => a == b
  | .string a, .string b => a.toList == b.toList
  | _, _ => false
def cellsEq : List Value → List Value → Bool
  | x :: xs, y :: ys => cellEq x y && cellsEq xs ys
  | _, _ => true
def cellsK : List Nat → List Value → List Value → Bool
  | [], [], [] => true
  | 0 :: ks, .int _ _ :: xs, .int _ _ :: ys => cellsK ks xs ys
  | 1 :: ks, .bool _ :: xs, .bool _ :: ys => cellsK ks xs ys
  | 2 :: ks, .string _ :: xs, .string _ :: ys => cellsK ks xs ys
  | _, _, _ => false
section
variable {P : Program} {env : Env} {w : World} {ty : TypeId}
theorem run_equalIn_int2 (d : Nat) (t : TypeId) (k : IntKind) (k0 k' : IntKind) (a b : Int) (hkk : k0 = k) (h : P.underlying t = some (.int k')) : (Op.equalIn (d + 1) t (.int k0 a) (.int k b)).run P w = .ok (decide (a = b)) w := by
  subst hkk
  simp [Op.equalIn, run_underlying h]; rfl
def sameKinds : List Value → List Value → Prop
  | .int k _ :: xs, .int k' _ :: ys => k = k' ∧ sameKinds xs ys
  | _ :: xs, _ :: ys => sameKinds xs ys
  | _, _ => True
theorem run_eqFields : ∀ (fs : List Field) (i : Nat) (ks : List Nat) (xs ys pre pre' : List Value), flatFields P i fs = some ks → cellsK ks xs ys = true → sameKinds xs ys → pre.length = i → pre'.length = i →
    (Op.eqFields 9999 (pre ++ xs).toArray (pre' ++ ys).toArray fs).run P w = .ok (cellsEq xs ys) w
  | [], i, ks, xs, ys, pre, pre', hf, hk, _, _, _ => by
    simp [flatFields] at hf; subst hf
    cases xs <;> cases ys <;> simp [cellsK] at hk
    simp [Op.eqFields, cellsEq]
  | f :: r, i, ks, xs, ys, pre, pre', hf, hk, hs, hp, hp' => by
    unfold flatFields at hf
    split at hf
    · rename_i k ks' hkt hr
      cases hb : (f.name != "_" && Nat.beq f.offset i) with
      | false => rw [hb] at hf; simp at hf
      | true =>
        rw [hb] at hf
        simp at hf
        subst hf
        simp only [Bool.and_eq_true, bne_iff_ne, ne_eq] at hb
        have hoff : f.offset = i := Nat.eq_of_beq_eq_true hb.2
        have hnag : (isAgg f.type).run P w = .ok false w := by
          unfold kindT at hkt
          split at hkt
          · rename_i _ hu; simp [isAgg, underlying, program, Sem.run, hu]
          · rename_i hu; simp [isAgg, underlying, program, Sem.run, hu]
          · rename_i hu; simp [isAgg, underlying, program, Sem.run, hu]
          · cases hkt
        match ks', xs, ys, k, hkt with
        | ks', x :: xs, y :: ys, k, hkt =>
          have px : (part f.type (pre ++ x :: xs).toArray f.offset).run P w = .ok x w := by
            have : (pre ++ x :: xs)[f.offset]? = some x := by rw [hoff, ← hp]; simp
            simp [part, hnag, this]
          have py : (part f.type (pre' ++ y :: ys).toArray f.offset).run P w = .ok y w := by
            have : (pre' ++ y :: ys)[f.offset]? = some y := by rw [hoff, ← hp']; simp
            simp [part, hnag, this]
          have step : cellsK ks' xs ys = true ∧ sameKinds xs ys ∧ (Op.equalIn 9999 f.type x y).run P w = .ok (cellEq x y) w := by
            unfold kindT at hkt
            split at hkt
            · rename_i kk hu
              simp at hkt; subst hkt
              cases x <;> cases y <;> simp [cellsK] at hk
              simp only [sameKinds] at hs
              exact ⟨hk, hs.2, run_equalIn_int2 9998 _ _ _ _ _ _ hs.1 hu⟩
            · rename_i hu
              simp at hkt; subst hkt
              cases x <;> cases y <;> simp [cellsK] at hk
              simp only [sameKinds] at hs
              exact ⟨hk, hs, run_equalIn_bool' w 9998 _ _ _ hu⟩
            · rename_i hu
              simp at hkt; subst hkt
              cases x <;> cases y <;> simp [cellsK] at hk
              simp only [sameKinds] at hs
              exact ⟨hk, hs, run_equalIn_string w 9998 _ _ _ hu⟩
            · cases hkt
          obtain ⟨h1, h2, h3⟩ := step
          have ih := run_eqFields r (i + 1) ks' xs ys (pre ++ [x]) (pre' ++ [y]) hr h1 h2 (by simp [hp]) (by simp [hp'])
          simp only [List.append_assoc, List.singleton_append] at ih
          simp only [Op.eqFields]
          rw [if_pos hb.1]
          simp only [Sem.run_bind, px, py, h3, Result.andThen_ok, cellsEq]
          cases hce : cellEq x y
          · simp
          · simpa using ih
        | ks', [], ys, k, hkt => simp [cellsK] at hk
        | ks', x :: xs, [], k, hkt => simp [cellsK] at hk
    · cases hf
theorem flatT_spec {t : TypeId} {ks : List Nat} (h : flatT P t = some ks) : P.stoodInHeld t = false ∧ P.eqGuardType P.depth t = false ∧ P.underlying t = some (.struct (P.fieldsOf t)) ∧ flatFields P 0 (P.fieldsOf t).toList = some ks := by
  unfold flatT at h
  cases h1 : P.stoodInHeld t
  · cases h2 : P.eqGuardType P.depth t
    · rw [h1, h2] at h
      simp only [Bool.or_false, cond_false] at h
      split at h
      · rename_i fs hu
        have : P.fieldsOf t = fs := by simp [Program.fieldsOf, hu]
        exact ⟨rfl, rfl, by rw [this]; exact hu, by rw [this]; exact h⟩
      · cases h
    · rw [h2] at h; simp at h
  · rw [h1] at h; simp at h
section
variable {t ty2 : TypeId} {x y : Operand} {ks : List Nat} {xs ys : List Value} (ht : flatT P t = some ks) (hx : evO env x = some (.agg xs.toArray)) (hy : evO env y = some (.agg ys.toArray)) (hk : cellsK ks xs ys = true) (hs : sameKinds xs ys)
include ht hx hy hk hs
theorem Val.steq : Val P env w (.binOp .eql t x y ty2) ty (.bool (cellsEq xs ys)) := fun _ a ho d pos after g => by
  obtain ⟨h1, h2, h3, h4⟩ := flatT_spec ht
  have h5 := run_eqFields (P := P) (w := w) _ 0 ks xs ys [] [] h4 hk hs rfl rfl
  have h6 := run_equalIn_struct (P := P) w 9999 t xs.toArray ys.toArray h3 h1
  simp only [List.nil_append] at h5
  simp only [execOp, ho.eval hx, ho.eval hy, Sem.run_bind, run_eqGuard_agg w _ _ _ _ _ _ h2, Result.andThen_ok, run_eql_struct, h6, h5]
  simp
theorem Val.stne : Val P env w (.binOp .neq t x y ty2) ty (.bool (!cellsEq xs ys)) := fun _ a ho d pos after g => by
  obtain ⟨h1, h2, h3, h4⟩ := flatT_spec ht
  have h5 := run_eqFields (P := P) (w := w) _ 0 ks xs ys [] [] h4 hk hs rfl rfl
  have h6 := run_equalIn_struct (P := P) w 9999 t xs.toArray ys.toArray h3 h1
  simp only [List.nil_append] at h5
  simp only [execOp, ho.eval hx, ho.eval hy, Sem.run_bind, run_eqGuard_agg w _ _ _ _ _ _ h2, Result.andThen_ok, run_neq_struct, h6, h5]
  simp
end
end
/-! ### Short names -/
section
variable {c : Cx} {B : List (Nat × Kont)} {env : Env} {w : World} {N : Kont} {ops : Array Oper} {rest : List Oper} {C : World → Prop} {kind is : List Nat}
theorem qq {op : Op} {ty : TypeId} {v : Value} {d : Nat} {pos : String} {after : Array Edge} (h : Val c.P env w op ty v) (hd : Nat.blt d c.n = true)
    (next : WR c B ops rest ((d, v) :: env) w N) : WR c B ops (⟨some d, op, ty, pos, after, none⟩ :: rest) env w N := WR.val h hd next
theorem cseq {x y : Code} (h : WC c B x env w (fun e w => WC c B y e w N)) : WC c B (.seq x y) env w N := WC.seq h
theorem cg {id : Nat} {l : List Oper} (h : WR c B l.toArray l env w N) : WC c B (.region id l.toArray false) env w N := WC.region h
theorem cblock {x : Code} {id : Nat} (h : WC c ((id, N) :: B) x env w N) : WC c B (.block id x) env w N := WC.block h
theorem cskip (h : N env w) : WC c B .skip env w N := WC.skip h
theorem cnil (h : N env w) : WR c B ops [] env w N := WR.nil h
theorem qd {i : Nat} {op : Op} {ty : TypeId} {v : Value} {d : Nat} {pos : String} {after : Array Edge} {g : Option (Nat × Bool)} (hi : ops[i]? = some ⟨some d, op, ty, pos, after, g⟩) (hk : kind[i]? = some 0) (hg : guardOn ops env g = true)
    (h : ∀ W, Val c.P env W op ty v) (hd : Nat.blt d c.n = true) (next : WD c B ops C kind is ((d, v) :: env) w N) : WD c B ops C kind (i :: is) env w N := WD.val hi hk hg h hd next
theorem qc {i : Nat} {op : Op} {ty : TypeId} {v : Value} {d : Nat} {pos : String} {after : Array Edge} {g : Option (Nat × Bool)} (hi : ops[i]? = some ⟨some d, op, ty, pos, after, g⟩) (hk : kind[i]? = some 1) (hg : guardOn ops env g = true) (hC : C w)
    (h : ∀ W, C W → Val c.P env W op ty v) (hd : Nat.blt d c.n = true) (next : WD c B ops C kind is ((d, v) :: env) w N) : WD c B ops C kind (i :: is) env w N := WD.valC hi hk hg hC h hd next
theorem vq {op : Op} {ty : TypeId} {v : Value} {d : Nat} {pos : String} {after : Array Edge} (h : Val c.P env w op ty v)
    (next : WR c B ops rest ((d, v) :: env) w N) (hd : Nat.blt d c.n = true := by rfl) : WR c B ops (⟨some d, op, ty, pos, after, none⟩ :: rest) env w N := WR.val h hd next
theorem ve {op : Op} {ty : TypeId} {S : Value → World → Prop} {d : Nat} {pos : String} {after : Array Edge} (h : Eff c.P env w op ty S)
    (next : ∀ v w', S v w' → WR c B ops rest ((d, v) :: env) w' N) (hd : Nat.blt d c.n = true := by rfl) : WR c B ops (⟨some d, op, ty, pos, after, none⟩ :: rest) env w N := WR.eff h hd next
theorem vd {i : Nat} {op : Op} {ty : TypeId} {v : Value} {d : Nat} {pos : String} {after : Array Edge} {g : Option (Nat × Bool)} (hi : ops[i]? = some ⟨some d, op, ty, pos, after, g⟩)
    (h : ∀ W, Val c.P env W op ty v) (next : WD c B ops C kind is ((d, v) :: env) w N) (hk : kind[i]? = some 0 := by rfl) (hg : guardOn ops env g = true := by rfl) (hd : Nat.blt d c.n = true := by rfl) : WD c B ops C kind (i :: is) env w N := WD.val hi hk hg h hd next
theorem vc {i : Nat} {op : Op} {ty : TypeId} {v : Value} {d : Nat} {pos : String} {after : Array Edge} {g : Option (Nat × Bool)} (hi : ops[i]? = some ⟨some d, op, ty, pos, after, g⟩) (hC : C w)
    (h : ∀ W, C W → Val c.P env W op ty v) (next : WD c B ops C kind is ((d, v) :: env) w N) (hk : kind[i]? = some 1 := by rfl) (hg : guardOn ops env g = true := by rfl) (hd : Nat.blt d c.n = true := by rfl) : WD c B ops C kind (i :: is) env w N := WD.valC hi hk hg hC h hd next
theorem zm {x : Operand} {ty : TypeId} {v : Value} {d : Nat} {pos : String} {after : Array Edge} (hx : evO env x = some v)
    (next : WR c B ops rest ((d, v) :: env) w N) (hd : Nat.blt d c.n = true := by rfl) : WR c B ops (⟨some d, .move x, ty, pos, after, none⟩ :: rest) env w N := WR.val (Val.move hx) hd next
theorem za {x : Operand} {ty : TypeId} {v : Value} {d : Nat} {pos : String} {after : Array Edge} (hx : evO env x = some v)
    (next : WR c B ops rest ((d, v) :: env) w N) (hd : Nat.blt d c.n = true := by rfl) : WR c B ops (⟨some d, .assign x, ty, pos, after, none⟩ :: rest) env w N := WR.val (Val.assign hx) hd next
theorem zdm {i : Nat} {x : Operand} {ty : TypeId} {v : Value} {d : Nat} {pos : String} {after : Array Edge} {g : Option (Nat × Bool)} (hi : ops[i]? = some ⟨some d, .move x, ty, pos, after, g⟩)
    (hx : evO env x = some v) (next : WD c B ops C kind is ((d, v) :: env) w N) (hk : kind[i]? = some 0 := by rfl) (hg : guardOn ops env g = true := by rfl) (hd : Nat.blt d c.n = true := by rfl) : WD c B ops C kind (i :: is) env w N := WD.val hi hk hg (fun _ => Val.move hx) hd next
theorem zda {i : Nat} {x : Operand} {ty : TypeId} {v : Value} {d : Nat} {pos : String} {after : Array Edge} {g : Option (Nat × Bool)} (hi : ops[i]? = some ⟨some d, .assign x, ty, pos, after, g⟩)
    (hx : evO env x = some v) (next : WD c B ops C kind is ((d, v) :: env) w N) (hk : kind[i]? = some 0 := by rfl) (hg : guardOn ops env g = true := by rfl) (hd : Nat.blt d c.n = true := by rfl) : WD c B ops C kind (i :: is) env w N := WD.val hi hk hg (fun _ => Val.assign hx) hd next
end
/-! Side goals. -/
theorem side {p : Prop} (h : p := by first | omega | assumption | (simp; omega) | (simp; done)) : p := h
theorem oms {p : Prop} (h : p := by first | omega | (simp; omega)) : p := h
theorem mxl {p : Prop} (h : p := by rw [Go.Eng.maxLen_eq]; first | omega | (simp; omega)) : p := h
theorem ra {p : Prop} (h : p := by first | rfl | assumption) : p := h
theorem ones {p : Prop} (h : p := by repeat (first | exact List.forall_mem_nil _ | refine List.forall_mem_cons.2 ⟨by first | rfl | assumption, ?_⟩)) : p := h
theorem subs {l e : Env} (h : Sub l e := by repeat (first | exact Go.Eng.Sub.nil _ | refine Go.Eng.Sub.cons rfl ?_ | refine Go.Eng.Sub.consM rfl ?_)) : Sub l e := h
/-- Tests, read. -/
theorem tstS : (∀ {α : Type} (x y : α), (bif true then x else y) = x) ∧ (∀ {α : Type} (x y : α), (bif false then x else y) = y) ∧ (∀ (p : Prop) [Decidable p], (decide p = true) = p) ∧ (∀ (p : Prop) [Decidable p], (decide p = false) = ¬ p) ∧
    (∀ a b : Bool, ((a && b) = true) = (a = true ∧ b = true)) ∧ (∀ a b : Bool, ((a || b) = true) = (a = true ∨ b = true)) ∧ (∀ b : Bool, ((!b) = true) = (b = false)) ∧ (∀ b : Bool, ((!b) = false) = (b = true)) ∧ (∀ a b : Bool, ((a || b) = false) = (a = false ∧ b = false)) := by
  refine ⟨fun _ _ => rfl, fun _ _ => rfl, fun p _ => by simp, fun p _ => by simp, fun a b => by simp, fun a b => by simp, fun b => by simp, fun b => by simp, fun a b => by simp⟩
end Go.Eng

namespace Go.Eng
open Go Go.RowKit
theorem Val.build {P : Program} {env : Env} {w : World} {ty t : TypeId} {parts : Array (Nat × Operand)} {vs : List Value} {cells : Array Value} (hx : evL env (parts.toList.map (·.2)) = some vs)
    (hb : P.built t ((parts.toList.map (·.1)).zip vs) = some cells) : Val P env w (.build t parts) ty (.agg cells) := fun _ a ho d pos after g => by
  have hv := ho.evalL hx
  have hp : (parts.map fun (i, x) => (i, a.eval x)).toList = (parts.toList.map (·.1)).zip vs := by
    rw [← hv]
    simp only [Array.toList_map, List.map_map]
    generalize parts.toList = l
    induction l with
    | nil => rfl
    | cons p r ih => simp only [List.map_cons, List.zip_cons_cons, ih]; rfl
  have := run_build (P := P) w t (parts.map fun (i, x) => (i, a.eval x)) cells (by rw [hp]; exact hb)
  simp only [execOp, Sem.run_bind, this, Result.andThen_ok, Sem.run_pure]
/-- All that stood stays but the row r; the row is now r'. -/
structure Kept (w w' : World) (r r' : Option Nat) : Prop where
  grown : w.grownBy w' r
  at_ : r' = r ∨ ∃ k, r' = some k ∧ w.heap.size ≤ k
theorem Kept.refl (w : World) (r : Option Nat) : Kept w w r r := ⟨grown_refl w r, .inl rfl⟩
theorem grown_trans {w w1 w2 : World} {r r1 : Option Nat} (h1 : w.grownBy w1 r) (ha : r1 = r ∨ ∃ k, r1 = some k ∧ w.heap.size ≤ k) (h2 : w1.grownBy w2 r1) : w.grownBy w2 r :=
  ⟨h2.os.trans h1.os, h2.tape.trans h1.tape, h2.output.trans h1.output, Nat.le_trans h1.size h2.size, fun k hk hne => by
    rw [h2.block k (Nat.lt_of_lt_of_le hk h1.size) ?_, h1.block k hk hne]
    rcases ha with rfl | ⟨j, rfl, hj⟩
    · exact hne
    · intro e; injection e with e; omega⟩
theorem Kept.trans {w w1 w2 : World} {r r1 r2 : Option Nat} (h1 : Kept w w1 r r1) (h2 : Kept w1 w2 r1 r2) : Kept w w2 r r2 :=
  ⟨grown_trans h1.grown h1.at_ h2.grown, by
    rcases h2.at_ with rfl | ⟨k, rfl, hk⟩
    · exact h1.at_
    · exact .inr ⟨k, rfl, Nat.le_trans h1.grown.size hk⟩⟩
theorem Kept.up {w w1 w2 : World} {r r1 : Option Nat} (h1 : Kept w w1 r r1) (hk : Below w1.heap.size w1 w2) : Kept w w2 r r1 := ⟨grown_trans h1.grown h1.at_ (grown_of_below hk _), h1.at_⟩
theorem App.keptR {w w' : World} {base : Nat} {e : TypeId} {size : Nat} {v v' : Value} {n : Nat} {xs : List Value} (h : App w w' base e size v v' n xs) : Kept w w' v.rowOf v'.rowOf :=
  ⟨h.grown, h.at_.imp id fun e => ⟨_, e, Nat.le_refl _⟩⟩
theorem Kept.below {w w' : World} {base : Nat} {e : TypeId} {size : Nat} {v : Value} {r' : Option Nat} {n : Nat} {xs : List Value} (h : Kept w w' v.rowOf r') (ho : Own w base e size v n xs) {B : Nat} (hB : B ≤ base) (hw : B ≤ w.heap.size) : Below B w w' :=
  below_of_grown h.grown hw fun k hk => Nat.le_trans hB (ho.lt k hk).1
theorem NewB.own {w w' : World} {base b n size : Nat} {cs : List Value} {t : TypeId} (h : NewB w w' b cs t) (hB : base ≤ w.heap.size) (hl : cs.length = n * size) (hm : n ≤ 9223372036854775807) : Own w' base t size (.slice (some ⟨b, 0, none⟩) n n) n cs :=
  ⟨hl, ownIn ⟨b, n, cs.toArray, (0, 0), rfl, by have := h.at_; omega, h.blk, fun h => by simp at h, Nat.le_refl _, by rw [maxLen_eq]; exact hm, by simp [hl], by simp [← hl]⟩⟩
theorem bytesV_flat (l : List UInt8) : bytesV l = l.flatMap fun b => [Value.int .u8 b.toNat] := by
  induction l with
  | nil => rfl
  | cons b r ih => rw [List.flatMap_cons, ← ih]; rfl
theorem Own.bytesLen {w : World} {base : Nat} {e : TypeId} {v : Value} {n : Nat} {l : List UInt8} (h : Own w base e 1 v n (bytesV l)) : n = l.length := by
  have := h.1; simp [bytesV] at this; exact this.symm
theorem Own.rdBytes {w : World} {base : Nat} {e : TypeId} {v : Value} {n : Nat} {l : List UInt8} (h : Own w base e 1 v n (bytesV l)) (hl : l.length ≤ 140737488355328) : Rd byteS w v l := by
  have := h.bytesLen; subst this
  rw [bytesV_flat] at h
  exact Own.rdFlat hl h (fun _ _ => trivial)
theorem bytesV_set (l : List UInt8) (i : Nat) (b : UInt8) : (bytesV l).set i (.int .u8 b.toNat) = bytesV (l.set i b) := by simp [bytesV, List.map_set]
theorem bytesV_zero (n : Nat) : (List.replicate n [Value.int .u8 0]).flatten = bytesV (List.replicate n 0) := by
  induction n with
  | zero => rfl
  | succ n ih => rw [List.replicate_succ, List.flatten_cons, ih, List.replicate_succ]; rfl
end Go.Eng

namespace Go.Eng
open Go Go.RowKit

inductive Tr
  | nil
  | quiet (i : Nat) (t : Tr)
  | one (i : Nat) (t : Tr)
  | two (i : Nat) (t : Tr) (j : Nat) (u : Tr)
  | three (i : Nat) (t : Tr) (j : Nat) (u : Tr) (k : Nat) (v : Tr)

def Tr.depth : Tr → Nat
  | .nil => 0
  | .quiet _ t => t.depth + 1
  | .one _ t => t.depth + 1
  | .two _ t _ _ => t.depth + 1
  | .three _ t _ _ _ _ => t.depth + 1

def actsB (kind : List Nat) (i : Nat) : Bool := match kind[i]? with | some 2 => true | some 3 => true | _ => false
def canonT (md : Region.Mode) (ops : Array Oper) (kind : List Nat) : Tr → Array Bool → Bool
  | .nil, listed => (Region.ready md ops listed).isEmpty
  | .quiet i t, listed =>
    (match kind[i]? with
     | some 0 => (Region.ready md ops listed).contains i && Region.free md ops listed i
     | some 1 => (Region.ready md ops listed).contains i && Region.free md ops listed i &&
        (match ops[i]? with
         | none => false
         | some _ => (List.range ops.size).all fun j => j == i || listed.getD j true || match ops[j]? with
            | some oj => oj.after.any (fun e => Region.binds md e && e.on == i) || kind[j]? != some 3
            | none => true)
     | _ => false) && canonT md ops kind t (listed.setIfInBounds i true)
  | .one i t, listed => actsB kind i && (match Region.ready md ops listed with | [j] => j == i | _ => false) && canonT md ops kind t (listed.setIfInBounds i true)
  | .two i t k u, listed => actsB kind i && actsB kind k && Nat.beq t.depth u.depth && (match Region.ready md ops listed with | [j, l] => j == i && l == k | _ => false) &&
      canonT md ops kind t (listed.setIfInBounds i true) && canonT md ops kind u (listed.setIfInBounds k true)
  | .three i t k u m v, listed => actsB kind i && actsB kind k && actsB kind m && Nat.beq t.depth u.depth && Nat.beq t.depth v.depth && (match Region.ready md ops listed with | [j, l, n] => j == i && l == k && n == m | _ => false) &&
      canonT md ops kind t (listed.setIfInBounds i true) && canonT md ops kind u (listed.setIfInBounds k true) && canonT md ops kind v (listed.setIfInBounds m true)

section
variable {P : Program} {ops : Array Oper} {md : Region.Mode} {C : World → Prop} {Q : Exit → Act → World → Prop} {ro : Option Nat}
def wpStep (ro : Option Nat) (P : Program) (ops : Array Oper) (C : World → Prop) (kind : List Nat) (Q : Exit → Act → World → Prop) (i : Nat) (K : Act → World → Prop) (a : Act) (w : World) : Prop :=
  match kind[i]? with
  | some 2 => wpOpIn (FW ro) 0 P ops Q i (fun a' w' => (C w → C w') ∧ K a' w') a w
  | some 3 => wpOpIn (FW ro) 0 P ops Q i K a w
  | _ => False
def wpT (ro : Option Nat) (P : Program) (ops : Array Oper) (C : World → Prop) (kind : List Nat) (Q : Exit → Act → World → Prop) : Tr → Act → World → Prop
  | .nil, a, w => Q .normal a w
  | .quiet i t, a, w => match ops[i]? with
    | none => False
    | some o => match kind[i]? with
      | some 0 => ∃ v, YieldsC P ops (fun _ => True) o v a ∧ wpT ro P ops C kind Q t (a.put o.dst v) w
      | some 1 => C w ∧ ∃ v, YieldsC P ops C o v a ∧ wpT ro P ops C kind Q t (a.put o.dst v) w
      | _ => False
  | .one i t, a, w => wpStep ro P ops C kind Q i (wpT ro P ops C kind Q t) a w
  | .two i t k u, a, w => wpStep ro P ops C kind Q i (wpT ro P ops C kind Q t) a w ∧ wpStep ro P ops C kind Q k (wpT ro P ops C kind Q u) a w
  | .three i t k u m v, a, w => wpStep ro P ops C kind Q i (wpT ro P ops C kind Q t) a w ∧ wpStep ro P ops C kind Q k (wpT ro P ops C kind Q u) a w ∧ wpStep ro P ops C kind Q m (wpT ro P ops C kind Q v) a w

theorem wpStep_any {kind : List Nat} {i : Nat} {K K' : Act → World → Prop} {a : Act} {w : World} (hK : ∀ a w, K a w → K' a w) (h : wpStep ro P ops C kind Q i K a w) :
    wpOpIn (FW ro) 0 P ops Q i (fun a' w' => ((kind[i]? == some 3) = false → C w → C w') ∧ K' a' w') a w := by
  unfold wpStep at h
  split at h
  · exact wpOpIn_mono (fun a' w' h' => ⟨fun _ => h'.1, hK _ _ h'.2⟩) h
  · rename_i hk
    exact wpOpIn_mono (fun a' w' h' => ⟨fun h0 => by simp [hk] at h0, hK _ _ h'⟩) h
  · exact h.elim

theorem wpAnyC_tree (kind : List Nat) (hsel : Region.noSelect ops = true) (hp : ∀ ch a w, ¬ Q (.panic ch) a w) (ho : ∀ a w, ¬ Q .outgrown a w) :
    ∀ (t : Tr) (listed : Array Bool) (a : Act) (w : World), canonT md ops kind t listed = true → wpT ro P ops C kind Q t a w → wpAnyC ro P md ops C (fun j => kind[j]? == some 3) Q t.depth listed a w
  | .nil, listed, a, w, hB, h => ⟨by simpa [canonT] using hB, h⟩
  | .quiet i t, listed, a, w, hB, h => by
    simp only [canonT, Bool.and_eq_true] at hB
    obtain ⟨hB1, hB2⟩ := hB
    unfold wpT at h
    cases hi : ops[i]? with
    | none => rw [hi] at h; exact h.elim
    | some o =>
      rw [hi] at h
      simp only at h
      split at h
      · rename_i hk
        rw [hk] at hB1
        simp only [Bool.and_eq_true] at hB1
        obtain ⟨v, hy, hK⟩ := h
        refine wpAnyC_first (Ci := fun _ => True) hi (fun j o cs b hj => Region.noSelect_spec hsel j o cs b hj) hp ho (.inr rfl) (by simp [hk]) t.depth listed a w ?_ (by simpa using hB1.1) hy trivial (wpAnyC_tree kind hsel hp ho t _ _ _ hB2 hK)
        intro j oj hj hne hun hno
        exact ⟨Region.free_spec hi hB1.2 j oj hj hne hun hno, .inl rfl⟩
      · rename_i hk
        rw [hk] at hB1
        simp only [Bool.and_eq_true, hi, List.all_eq_true, List.mem_range] at hB1
        obtain ⟨hC, v, hy, hK⟩ := h
        refine wpAnyC_first (Ci := C) hi (fun j o cs b hj => Region.noSelect_spec hsel j o cs b hj) hp ho (.inl rfl) (by simp [hk]) t.depth listed a w ?_ (by simpa using hB1.1.1) hy hC (wpAnyC_tree kind hsel hp ho t _ _ _ hB2 hK)
        intro j oj hj hne hun hno
        refine ⟨Region.free_spec hi hB1.1.2 j oj hj hne hun hno, .inr ?_⟩
        have h1 := hB1.2 j (Array.getElem?_eq_some_iff.1 hj).1
        simp only [hj, Bool.or_eq_true, beq_iff_eq, hne, false_or, hun, Bool.false_eq_true] at h1
        rcases h1 with h1 | h1
        · obtain ⟨e, he, hb⟩ := Array.any_eq_true'.1 h1
          simp only [Bool.and_eq_true, beq_iff_eq] at hb
          exact absurd hb.2 (hno e he hb.1)
        · simpa using h1
      · exact h.elim
  | .one i t, listed, a, w, hB, h => by
    simp only [canonT, Bool.and_eq_true] at hB
    obtain ⟨⟨_, hB1⟩, hB2⟩ := hB
    split at hB1
    · rename_i j hr
      have : j = i := by simpa using hB1
      subst this
      refine ⟨fun h0 => (by rw [hr] at h0; cases h0), fun k hkr => ?_⟩
      rw [hr] at hkr
      have : k = j := by simpa using hkr
      subst this
      exact wpStep_any (fun a w h' => wpAnyC_tree kind hsel hp ho t _ _ _ hB2 h') h
    · cases hB1
  | .two i t k u, listed, a, w, hB, h => by
    simp only [canonT, Bool.and_eq_true] at hB
    obtain ⟨⟨⟨⟨_, hd⟩, hB1⟩, hB2⟩, hB3⟩ := hB
    have hd := Nat.eq_of_beq_eq_true hd
    split at hB1
    · rename_i j l hr
      simp only [Bool.and_eq_true, beq_iff_eq] at hB1
      obtain ⟨rfl, rfl⟩ := hB1
      refine ⟨fun h0 => (by rw [hr] at h0; cases h0), fun m hmr => ?_⟩
      rw [hr] at hmr
      simp only [List.mem_cons, List.not_mem_nil, or_false] at hmr
      rcases hmr with rfl | rfl
      · exact wpStep_any (fun a w h' => wpAnyC_tree kind hsel hp ho t _ _ _ hB2 h') h.1
      · exact wpStep_any (fun a w h' => by rw [hd]; exact wpAnyC_tree kind hsel hp ho u _ _ _ hB3 h') h.2
    · cases hB1
  | .three i t k u m v, listed, a, w, hB, h => by
    simp only [canonT, Bool.and_eq_true] at hB
    obtain ⟨⟨⟨⟨⟨⟨_, hd⟩, hd'⟩, hB1⟩, hB2⟩, hB3⟩, hB4⟩ := hB
    have hd := Nat.eq_of_beq_eq_true hd
    have hd' := Nat.eq_of_beq_eq_true hd'
    split at hB1
    · rename_i j l n hr
      simp only [Bool.and_eq_true, beq_iff_eq] at hB1
      obtain ⟨⟨rfl, rfl⟩, rfl⟩ := hB1
      refine ⟨fun h0 => (by rw [hr] at h0; cases h0), fun x hxr => ?_⟩
      rw [hr] at hxr
      simp only [List.mem_cons, List.not_mem_nil, or_false] at hxr
      rcases hxr with rfl | rfl | rfl
      · exact wpStep_any (fun a w h' => wpAnyC_tree kind hsel hp ho t _ _ _ hB2 h') h.1
      · exact wpStep_any (fun a w h' => by rw [hd]; exact wpAnyC_tree kind hsel hp ho u _ _ _ hB3 h') h.2.1
      · exact wpStep_any (fun a w h' => by rw [hd']; exact wpAnyC_tree kind hsel hp ho v _ _ _ hB4 h') h.2.2
    · cases hB1
end

section
variable {c : Cx} {B : List (Nat × Kont)} {env : Env} {w : World} {N : Kont} {ops : Array Oper} {C : World → Prop} {kind : List Nat} {tr u u' : Tr}
def WT (c : Cx) (B : List (Nat × Kont)) (ops : Array Oper) (C : World → Prop) (kind : List Nat) (t : Tr) (env : Env) (w : World) (N : Kont) : Prop :=
  ∀ a, EnvOk c.n env a → wpT c.rnd c.P ops C kind (QQ c B N) t a w
theorem WC.regionT {id : Nat} (C : World → Prop) (kind : List Nat) (t : Tr) (hm : c.P.follows .mixedOrders = true) (hB : (Region.noSelect ops && Nat.beq t.depth ops.size && canonT .any ops kind t (Array.replicate ops.size false)) = true)
    (h : WT c B ops C kind t env w.drew N) : WC c B (.region id ops true) env w N := fun a ho => by
  simp only [Bool.and_eq_true] at hB
  have hlen : t.depth = ops.size := Nat.eq_of_beq_eq_true hB.1.2
  refine wpIn_region_any hm (wpAny_of_C (C := C) (wild := fun j => kind[j]? == some 3) _ _ _ _ ?_)
  rw [← hlen]
  exact wpAnyC_tree kind hB.1.1 (fun _ _ _ h => h) (fun _ _ h => h) t _ _ _ (by rw [hlen]; exact hB.2) (h a ho)
theorem WT.nil (h : N env w) : WT c B ops C kind .nil env w N := fun a ho => ⟨env, ho, h⟩
theorem WT.val {i : Nat} {op : Op} {ty : TypeId} {v : Value} {d : Nat} {pos : String} {after : Array Edge} {g : Option (Nat × Bool)} (hi : ops[i]? = some ⟨some d, op, ty, pos, after, g⟩) (hk : kind[i]? = some 0) (hg : guardOn ops env g = true)
    (h : ∀ W, Val c.P env W op ty v) (hd : Nat.blt d c.n = true) (next : WT c B ops C kind tr ((d, v) :: env) w N) : WT c B ops C kind (.quiet i tr) env w N := fun a ho => by
  unfold wpT
  simp only [hi, hk]
  exact ⟨v, .inl ⟨wanted_on (o := ⟨some d, op, ty, pos, after, g⟩) ho hg, fun W _ => h W c.n a ho _ _ _ _⟩, next _ (ho.put hd v)⟩
theorem WT.valC {i : Nat} {op : Op} {ty : TypeId} {v : Value} {d : Nat} {pos : String} {after : Array Edge} {g : Option (Nat × Bool)} (hi : ops[i]? = some ⟨some d, op, ty, pos, after, g⟩) (hk : kind[i]? = some 1) (hg : guardOn ops env g = true) (hC : C w)
    (h : ∀ W, C W → Val c.P env W op ty v) (hd : Nat.blt d c.n = true) (next : WT c B ops C kind tr ((d, v) :: env) w N) : WT c B ops C kind (.quiet i tr) env w N := fun a ho => by
  unfold wpT
  simp only [hi, hk]
  exact ⟨hC, v, .inl ⟨wanted_on (o := ⟨some d, op, ty, pos, after, g⟩) ho hg, fun W hW => h W hW c.n a ho _ _ _ _⟩, next _ (ho.put hd v)⟩
/-- One acting operation, then a walk. -/
def WS (c : Cx) (B : List (Nat × Kont)) (ops : Array Oper) (C : World → Prop) (kind : List Nat) (i : Nat) (t : Tr) (env : Env) (w : World) (N : Kont) : Prop :=
  ∀ a, EnvOk c.n env a → wpStep c.rnd c.P ops C kind (QQ c B N) i (wpT c.rnd c.P ops C kind (QQ c B N) t) a w
theorem WT.one {i : Nat} (h : WS c B ops C kind i tr env w N) : WT c B ops C kind (.one i tr) env w N := h
theorem WT.two {i k : Nat} (h1 : WS c B ops C kind i tr env w N) (h2 : WS c B ops C kind k u env w N) : WT c B ops C kind (.two i tr k u) env w N := fun a ho => ⟨h1 a ho, h2 a ho⟩
theorem WT.three {i k m : Nat} (h1 : WS c B ops C kind i tr env w N) (h2 : WS c B ops C kind k u env w N) (h3 : WS c B ops C kind m u' env w N) : WT c B ops C kind (.three i tr k u m u') env w N := fun a ho => ⟨h1 a ho, h2 a ho, h3 a ho⟩
theorem WS.eff {i : Nat} {op : Op} {ty : TypeId} {S : Value → World → Prop} {d : Nat} {pos : String} {after : Array Edge} {g : Option (Nat × Bool)} (hi : ops[i]? = some ⟨some d, op, ty, pos, after, g⟩) (hk : kind[i]? = some 2) (hg : guardOn ops env g = true)
    (h : Eff c.P env w op ty S) (hd : Nat.blt d c.n = true) (next : ∀ v w', S v w' → (C w → C w') ∧ WT c B ops C kind tr ((d, v) :: env) w' N) : WS c B ops C kind i tr env w N := fun a ho => by
  unfold wpStep
  simp only [hk]
  exact wpOp_on hi hg ho h fun v w' hv => ⟨(next v w' hv).1, (next v w' hv).2 _ (ho.put hd v)⟩
theorem WS.eff_ {i : Nat} {op : Op} {ty : TypeId} {S : Value → World → Prop} {pos : String} {after : Array Edge} {g : Option (Nat × Bool)} (hi : ops[i]? = some ⟨none, op, ty, pos, after, g⟩) (hk : kind[i]? = some 2) (hg : guardOn ops env g = true)
    (h : Eff c.P env w op ty S) (next : ∀ v w', S v w' → (C w → C w') ∧ WT c B ops C kind tr env w' N) : WS c B ops C kind i tr env w N := fun a ho => by
  unfold wpStep
  simp only [hk]
  exact wpOp_on hi hg ho h fun v w' hv => ⟨(next v w' hv).1, (next v w' hv).2 _ ho⟩
theorem WS.wild {i : Nat} {op : Op} {ty : TypeId} {S : Value → World → Prop} {pos : String} {after : Array Edge} {g : Option (Nat × Bool)} (hi : ops[i]? = some ⟨none, op, ty, pos, after, g⟩) (hk : kind[i]? = some 3) (hg : guardOn ops env g = true)
    (h : Eff c.P env w op ty S) (next : ∀ v w', S v w' → WT c B ops C kind tr env w' N) : WS c B ops C kind i tr env w N := fun a ho => by
  unfold wpStep
  simp only [hk]
  exact wpOp_on hi hg ho h fun v w' hv => next v w' hv _ ho
end
end Go.Eng

namespace Go.Eng
open Go Go.RowKit

/-- What holds as long as the blocks of F are as they are. -/
def Foot (Φ : World → Prop) (F : Nat → Prop) (w : World) : Prop := ∀ w' : World, w.heap.size ≤ w'.heap.size → (∀ k, F k → k < w.heap.size → w'.heap[k]? = w.heap[k]?) → Φ w'
section
variable {Φ Ψ : World → Prop} {F F' : Nat → Prop} {w w' : World}
theorem Foot.now (h : Foot Φ F w) : Φ w := h w (Nat.le_refl _) (fun _ _ _ => rfl)
theorem Foot.mono (h : Foot Φ F w) (hF : ∀ k, k < w.heap.size → F k → F' k) : Foot Φ F' w := fun w' hs hk => h w' hs fun k hf hl => hk k (hF k hl hf) hl
theorem Foot.keep (h : Foot Φ F w) (hs : w.heap.size ≤ w'.heap.size) (hk : ∀ k, F k → k < w.heap.size → w'.heap[k]? = w.heap[k]?) : Foot Φ F w' := fun w'' hs' hk' =>
  h w'' (Nat.le_trans hs hs') fun k hf hl => (hk' k hf (Nat.lt_of_lt_of_le hl hs)).trans (hk k hf hl)
theorem Foot.imp (h : Foot Φ F w) (hi : ∀ w' : World, w.heap.size ≤ w'.heap.size → Φ w' → Ψ w') : Foot Ψ F w := fun w' hs hk => hi w' hs (h w' hs hk)
theorem Foot.and (h : Foot Φ F w) (h' : Foot Ψ F w) : Foot (fun w => Φ w ∧ Ψ w) F w := fun w' hs hk => ⟨h w' hs hk, h' w' hs hk⟩
end

def hasC (I : List Nat) (i : Nat) : Bool := I.any (Nat.beq i)
def apartC (I J : List Nat) : Bool := I.all fun i => !hasC J i
theorem hasC_of_apart {I J : List Nat} (h : apartC I J = true) {i : Nat} (hi : hasC I i = true) : hasC J i = false := by
  simp only [apartC, hasC, List.all_eq_true, List.any_eq_true] at h hi
  obtain ⟨x, hx, hxi⟩ := hi
  have := h x hx
  have e : i = x := Nat.eq_of_beq_eq_true hxi
  subst e
  simpa [hasC] using this
theorem hasC_one {i j : Nat} : hasC [i] j = true ↔ j = i := by simp [hasC]
theorem hasC_mono {I J : List Nat} (h : I.all (hasC J) = true) {i : Nat} (hi : hasC J i = false) : hasC I i = false := by
  cases hc : hasC I i with
  | false => rfl
  | true =>
    simp only [hasC, List.any_eq_true] at hc
    obtain ⟨x, hx, hxi⟩ := hc
    have e : i = x := Nat.eq_of_beq_eq_true hxi
    subst e
    have := List.all_eq_true.1 h _ hx
    rw [hi] at this; cases this

/-- A step: blocks of the colours I may have turned, others not; new ones have come. -/
structure Mv (c : Nat → Nat) (w : World) (c' : Nat → Nat) (w' : World) (I : List Nat) : Prop where
  os : w'.os = w.os
  tape : w'.tape = w.tape
  output : w'.output = w.output
  size : w.heap.size ≤ w'.heap.size
  col : ∀ k, k < w.heap.size → c' k = c k
  block : ∀ k, k < w.heap.size → hasC I (c k) = false → w'.heap[k]? = w.heap[k]?
def ext (c : Nat → Nat) (n i : Nat) : Nat → Nat := fun k => if k < n then c k else i
theorem ext_lt {c : Nat → Nat} {n i k : Nat} (h : k < n) : ext c n i k = c k := by simp [ext, h]
theorem ext_ge {c : Nat → Nat} {n i k : Nat} (h : n ≤ k) : ext c n i k = i := by simp [ext]; omega
section
variable {c c' c'' : Nat → Nat} {w w' w'' : World} {I J K : List Nat}
theorem Mv.refl (c : Nat → Nat) (w : World) (I : List Nat) : Mv c w c w I := ⟨rfl, rfl, rfl, Nat.le_refl _, fun _ _ => rfl, fun _ _ _ => rfl⟩
theorem Mv.drew (c : Nat → Nat) (w : World) (I : List Nat) : Mv c w c w.drew I := ⟨rfl, rfl, rfl, Nat.le_refl _, fun _ _ => rfl, fun _ _ _ => rfl⟩
theorem Mv.tr (h : Mv c w c' w' I) (h' : Mv c' w' c'' w'' J) (hi : J.all (hasC I) = true) : Mv c w c'' w'' I :=
  ⟨h'.os.trans h.os, h'.tape.trans h.tape, h'.output.trans h.output, Nat.le_trans h.size h'.size, fun k hk => (h'.col k (Nat.lt_of_lt_of_le hk h.size)).trans (h.col k hk),
   fun k hk hc => (h'.block k (Nat.lt_of_lt_of_le hk h.size) (by rw [h.col k hk]; exact hasC_mono hi hc)).trans (h.block k hk hc)⟩
theorem Mv.more (h : Mv c w c' w' I) (hi : I.all (hasC J) = true) : Mv c w c' w' J := { h with block := fun k hk hc => h.block k hk (hasC_mono hi hc) }
theorem Mv.pure (c : Nat → Nat) (i : Nat) (h : Below w.heap.size w w') : ∃ c', Mv c w c' w' [] ∧ ∀ k, w.heap.size ≤ k → c' k = i :=
  ⟨ext c w.heap.size i, ⟨h.os, h.tape, h.output, h.size, fun k hk => ext_lt hk, fun k hk _ => h.block k hk⟩, fun k hk => ext_ge hk⟩
theorem Mv.grown {i : Nat} {r : Option Nat} (c : Nat → Nat) (j : Nat) (h : w.grownBy w' r) (hr : ∀ k, r = some k → c k = i) : ∃ c', Mv c w c' w' [i] ∧ ∀ k, w.heap.size ≤ k → c' k = j :=
  ⟨ext c w.heap.size j, ⟨h.os, h.tape, h.output, h.size, fun k hk => ext_lt hk, fun k hk hc => h.block k hk (fun e => by
    have := hr k e.symm
    rw [this] at hc; simp [hasC] at hc)⟩, fun k hk => ext_ge hk⟩

/-- A block known whole, of a colour. -/
structure BlkC (c : Nat → Nat) (w : World) (i b : Nat) (cs : List Value) (t : TypeId) : Prop where
  blk : Blk w b cs t
  col : c b = i
/-- A row of one's own, of a colour. -/
structure OwnC (c : Nat → Nat) (w : World) (i : Nat) (e : TypeId) (size : Nat) (v : Value) (n : Nat) (xs : List Value) : Prop where
  own : Own w 0 e size v n xs
  col : ∀ k, v.rowOf = some k → c k = i
/-- What holds as long as the blocks of some colours are as they are. -/
def FtC (Φ : World → Prop) (c : Nat → Nat) (w : World) (I : List Nat) : Prop := Foot Φ (fun k => hasC I (c k) = true) w
abbrev RdC {α : Type} (s : Shape α) (c : Nat → Nat) (w : World) (I : List Nat) (v : Value) (l : List α) : Prop := FtC (fun w' => RdS s w'.heap.size w' v l) c w I
structure CelC (c : Nat → Nat) (w : World) (I : List Nat) (p : Addr) (cs : List Value) : Prop where
  cel : Cel w p cs
  col : hasC I (c p.block) = true
/-- What was there at the start. -/
structure OldC (w0 : World) (c : Nat → Nat) (w : World) : Prop where
  below : Below w0.heap.size w0 w
  col : ∀ k, k < w0.heap.size → c k = 0
theorem OldC.le {w0 : World} (h : OldC w0 c w) : w0.heap.size ≤ w.heap.size := h.below.size

theorem BlkC.mv {i b : Nat} {cs : List Value} {t : TypeId} (h : BlkC c w i b cs t) (m : Mv c w c' w' I) (hi : hasC I i = false := by rfl) : BlkC c' w' i b cs t :=
  have hlt := h.blk.lt
  ⟨(m.block b hlt (by rw [h.col]; exact hi)).trans h.blk, (m.col b hlt).trans h.col⟩
theorem OwnC.mv {i : Nat} {e : TypeId} {size n : Nat} {v : Value} {xs : List Value} (h : OwnC c w i e size v n xs) (m : Mv c w c' w' I) (hi : hasC I i = false := by rfl) : OwnC c' w' i e size v n xs :=
  ⟨h.own.keepB fun k hk => m.block k (h.own.lt k hk).2 (by rw [h.col k hk]; exact hi), fun k hk => (m.col k (h.own.lt k hk).2).trans (h.col k hk)⟩
theorem FtC.mv {Φ : World → Prop} (h : FtC Φ c w J) (m : Mv c w c' w' I) (hi : apartC J I = true := by rfl) : FtC Φ c' w' J := by
  intro w'' hs hk
  refine h w'' (Nat.le_trans m.size hs) fun k hf hl => ?_
  rw [hk k (by show hasC J (c' k) = true; rw [m.col k hl]; exact hf) (Nat.lt_of_lt_of_le hl m.size), m.block k hl (hasC_of_apart hi hf)]
theorem FtC.imp {Φ Ψ : World → Prop} (h : FtC Φ c w J) (hi : ∀ w' : World, w.heap.size ≤ w'.heap.size → Φ w' → Ψ w') : FtC Ψ c w J := Foot.imp h hi
theorem FtC.now {Φ : World → Prop} (h : FtC Φ c w J) : Φ w := Foot.now h
theorem FtC.more {Φ : World → Prop} (h : FtC Φ c w J) (hi : J.all (hasC K) = true) : FtC Φ c w K := Foot.mono h fun k _ hk => by
  cases hc : hasC K (c k) with
  | true => rfl
  | false => rw [hasC_mono hi hc] at hk; cases hk
theorem CelC.mv {p : Addr} {cs : List Value} (h : CelC c w J p cs) (m : Mv c w c' w' I) (hi : apartC J I = true := by rfl) : CelC c' w' J p cs :=
  ⟨⟨h.cel.1.keep (m.block _ h.cel.2 (hasC_of_apart hi h.col)), Nat.lt_of_lt_of_le h.cel.2 m.size⟩, by rw [m.col _ h.cel.2]; exact h.col⟩
theorem OldC.mv {w0 : World} (h : OldC w0 c w) (m : Mv c w c' w' I) (hi : hasC I 0 = false := by rfl) : OldC w0 c' w' :=
  ⟨⟨m.os.trans h.below.os, m.tape.trans h.below.tape, m.output.trans h.below.output, Nat.le_trans h.le m.size, fun k hk => (m.block k (Nat.lt_of_lt_of_le hk h.le) (by rw [h.col k hk]; exact hi)).trans (h.below.block k hk)⟩,
   fun k hk => (m.col k (Nat.lt_of_lt_of_le hk h.le)).trans (h.col k hk)⟩
/-- The start. -/
theorem OldC.start (w : World) : ∃ c : Nat → Nat, OldC w c w ∧ ∀ k, c k = 0 := ⟨fun _ => 0, ⟨Below.refl _ _, fun _ _ => rfl⟩, fun _ => rfl⟩
theorem Rd.toC {α : Type} {s : Shape α} {v : Value} {l : List α} (h : Rd s w v l) (hc : ∀ k, k < w.heap.size → hasC I (c k) = true) : RdC s c w I v l := fun w' hs hk =>
  (RdS.keep h (fun k hl => hk k (hc k hl) hl)).mono hs
theorem toC_of {α : Type} {s : Shape α} {cs : List Value} {x : α} (h : s.rd w.heap.size w cs x) (hc : ∀ k, k < w.heap.size → hasC I (c k) = true) : FtC (fun w' => s.rd w'.heap.size w' cs x) c w I := fun w' hs hk =>
  s.mono hs (s.keep (fun k hl => hk k (hc k hl) hl) h)

/-- The blocks that a reading uses are of its footprint. -/
theorem Foot.elF {α : Type} {s : Shape α} {F : Nat → Prop} {v : Value} {l : List α} (h : Foot (fun w' => RdS s w'.heap.size w' v l) F w) {k : Nat} (hk : k < l.length) (h0 : 0 < s.size) : F (elemA v s.size k).block := by
  apply Classical.byContradiction
  intro hn
  have hp : (elemA v s.size k).block < w.heap.size := h.now.blockA hk
  have h1 := h { w with heap := w.heap.setIfInBounds (elemA v s.size k).block (.stringIter ⟨#[]⟩ 0) } (by simp) (fun j hj hl => by
    have : (elemA v s.size k).block ≠ j := fun e => hn (e ▸ hj)
    simp [Array.getElem?_setIfInBounds_ne this])
  obtain ⟨cs, hcs, hrd⟩ := h1.at (List.getElem?_eq_getElem hk)
  have hl := s.len hrd
  have h2 := hcs 0 _ (List.getElem?_eq_getElem (by omega))
  rw [add_zero] at h2
  simp [World.cell?, hp] at h2

theorem RdC.el {α : Type} {s : Shape α} {v : Value} {l : List α} (h : RdC s c w J v l) {k : Nat} (hk : k < l.length) (h0 : 0 < s.size) :
    ∃ cs, CelC c w J (elemA v s.size k) cs ∧ cs.length = s.size ∧ FtC (fun w' => s.rd w'.heap.size w' cs l[k]) c w J := by
  have hF := Foot.elF h hk h0
  obtain ⟨cs, h1, h2⟩ := h.now.at (List.getElem?_eq_getElem hk)
  have hb := h.now.blockA hk
  refine ⟨cs, ⟨⟨h1, hb⟩, hF⟩, s.len h2, fun w' hs hkp => ?_⟩
  obtain ⟨cs', h3, h4⟩ := (h w' hs hkp).at (List.getElem?_eq_getElem hk)
  have e : cs' = cs := by
    have hl' := s.len h4
    have hl := s.len h2
    refine List.ext_getElem? fun j => ?_
    rcases Nat.lt_or_ge j s.size with hj | hj
    · have a1 := h3 j _ (List.getElem?_eq_getElem (by omega))
      have a2 := h1 j _ (List.getElem?_eq_getElem (by omega))
      have : w'.cell? ((elemA v s.size k).add j) = w.cell? ((elemA v s.size k).add j) := World.cell?_of_block (by rw [add_block]; exact hkp _ hF hb)
      rw [this, a2] at a1
      rw [List.getElem?_eq_getElem (by omega), List.getElem?_eq_getElem (by omega)]
      exact a1.symm
    · rw [List.getElem?_eq_none (by omega), List.getElem?_eq_none (by omega)]
  rw [← e]; exact h4
theorem RdC.elFlat {α : Type} {n : Nat} {enc : α → List Value} {ok : α → Prop} {h0 : ∀ x, (enc x).length = n} {h1 : ∀ x, ∀ u ∈ enc x, u.oneCell' = true} {v : Value} {l : List α} (h : RdC (Shape.flat n enc ok h0 h1) c w J v l) {k : Nat} (hk : k < l.length) (hn : 0 < n) :
    CelC c w J (elemA v n k) (enc l[k]) ∧ ok l[k] := by
  obtain ⟨cs, hc, _, hf⟩ := RdC.el h hk hn
  obtain ⟨rfl, ho⟩ := hf.now
  exact ⟨hc, ho⟩

/-- What a pure call made is of the colour that new blocks got. -/
theorem _root_.Go.Eng.Own.toC {w0 : World} {i : Nat} {e : TypeId} {size n : Nat} {v : Value} {xs : List Value} (h : Own w w0.heap.size e size v n xs) (hx : ∀ k, w0.heap.size ≤ k → c k = i) : OwnC c w i e size v n xs :=
  ⟨h.base_le (Nat.zero_le _), fun k hk => hx k (h.lt k hk).1⟩
theorem OwnC.nil (c : Nat → Nat) (w : World) (i : Nat) (e : TypeId) (size : Nat) : OwnC c w i e size (.slice none 0 0) 0 [] := ⟨Own.nil _ _ _ _, fun k hk => by simp [Value.rowOf] at hk⟩
theorem OwnC.cellsV {i : Nat} {e : TypeId} {size n : Nat} {v : Value} {xs : List Value} (h : OwnC c w i e size v n xs) : v.cells = #[v] := h.own.cellsV
theorem OwnC.oneC {i : Nat} {e : TypeId} {size n : Nat} {v : Value} {xs : List Value} (h : OwnC c w i e size v n xs) : v.oneCell' = true := h.own.oneC
theorem OwnC.foot {i : Nat} {e : TypeId} {size n : Nat} {v : Value} {xs : List Value} (h : OwnC c w i e size v n xs) : FtC (fun w' => Own w' 0 e size v n xs) c w [i] := fun w' hs hk =>
  h.own.keepB fun k hv => hk k (by show hasC [i] (c k) = true; rw [h.col k hv]; simp [hasC]) (h.own.lt k hv).2
/-- A row of one's own that is nested data reads as a list. -/
theorem OwnC.rd {α : Type} {s : Shape α} {i : Nat} {e : TypeId} {v : Value} {l : List α} {css : List (List Value)} (h : OwnC c w i e s.size v l.length css.flatten) (hsm : l.length ≤ 140737488355328) (hc : css.length = l.length)
    (hi : hasC J i = true) (he : ∀ (k : Nat) cs x, css[k]? = some cs → l[k]? = some x → FtC (fun w' => s.rd w'.heap.size w' cs x) c w J) : RdC s c w J v l := fun w' hs hk =>
  Own.rd hsm (h.own.keepB (w' := w') fun k hv => hk k (by show hasC J (c k) = true; rw [h.col k hv]; exact hi) (h.own.lt k hv).2) rfl hc fun k cs x h1 h2 => he k cs x h1 h2 w' hs hk
theorem OwnC.rdFlat {α : Type} {n' : Nat} {enc : α → List Value} {ok : α → Prop} {h0 : ∀ x, (enc x).length = n'} {h1 : ∀ x, ∀ u ∈ enc x, u.oneCell' = true} {i : Nat} {e : TypeId} {v : Value} {l : List α}
    (h : OwnC c w i e n' v l.length (l.flatMap enc)) (hsm : l.length ≤ 140737488355328) (hok : ∀ x ∈ l, ok x) : RdC (Shape.flat n' enc ok h0 h1) c w [i] v l := fun w' hs hk =>
  Own.rdFlat hsm (h.foot w' hs hk) hok
end

/-! ### Operations -/
section
variable {P : Program} {env : Env} {w : World} {ty : TypeId} {c : Nat → Nat}
theorem NewB.toC {w' : World} {b : Nat} {cs : List Value} {t : TypeId} (h : NewB w w' b cs t) (c : Nat → Nat) (i : Nat) : ∃ c', Mv c w c' w' [] ∧ BlkC c' w' i b cs t := by
  obtain ⟨c', hm, hx⟩ := Mv.pure c i h.below
  exact ⟨c', hm, h.blk, hx b (Nat.le_of_eq h.at_.symm)⟩
theorem Eff.boxC {t : TypeId} {x : Operand} {cs : List Value} (c : Nat → Nat) (i : Nat) (hx : evO env x = some (.agg cs.toArray)) : Eff P env w (.box t x) ty (fun v w' => ∃ b c', v = .pointer (some ⟨b, 0, none⟩) ∧ Mv c w c' w' [] ∧ BlkC c' w' i b cs t) :=
  (Eff.box hx).mono fun v w' ⟨b, hv, hn⟩ => by obtain ⟨c', h⟩ := hn.toC c i; exact ⟨b, c', hv, h⟩
theorem Eff.box1C {t : TypeId} {x : Operand} {u : Value} (c : Nat → Nat) (i : Nat) (hx : evO env x = some u) (hv : u.cells = #[u]) : Eff P env w (.box t x) ty (fun v w' => ∃ b c', v = .pointer (some ⟨b, 0, none⟩) ∧ Mv c w c' w' [] ∧ BlkC c' w' i b [u] t) :=
  (Eff.box1 hx hv).mono fun v w' ⟨b, hv, hn⟩ => by obtain ⟨c', h⟩ := hn.toC c i; exact ⟨b, c', hv, h⟩
theorem Eff.allocC {t : TypeId} {z : List Value} (c : Nat → Nat) (i : Nat) (hz : zeroT P t = some z) : Eff P env w (.alloc t) ty (fun v w' => ∃ b c', v = .pointer (some ⟨b, 0, none⟩) ∧ Mv c w c' w' [] ∧ BlkC c' w' i b z t) :=
  (Eff.alloc hz).mono fun v w' ⟨b, hv, hn⟩ => by obtain ⟨c', h⟩ := hn.toC c i; exact ⟨b, c', hv, h⟩
theorem Eff.buildC {t e : TypeId} {size by_ n : Nat} {z : List Value} {parts : Array (Nat × Operand)} {vs : List Value} (c : Nat → Nat) (i : Nat) (ht : slT P t = some (e, size, by_, z)) (hx : evL env (parts.toList.map (·.2)) = some vs)
    (hz : (parts.toList.map (·.1)).zip vs = zipFrom 0 vs) (hlen : vs.length = n) (hsz : ∀ v ∈ vs, v.cells.size = size) (hn : Nat.blt 0 (n * size) = true) (hm : Nat.ble (n * size) 16777216 = true) :
    Eff P env w (.buildSlice t n parts) ty (fun v w' => ∃ b c', v = .slice (some ⟨b, 0, none⟩) n n ∧ Mv c w c' w' [] ∧ BlkC c' w' i b (vs.map (·.cells.toList)).flatten e) :=
  (Eff.buildSlice ht hx hz hlen hsz hn hm).mono fun v w' ⟨b, hv, hn⟩ => by obtain ⟨c', h⟩ := hn.toC c i; exact ⟨b, c', hv, h⟩
theorem Eff.build1C {t e : TypeId} {size by_ : Nat} {z : List Value} {x : Operand} {v : Value} {cs : List Value} (c : Nat → Nat) (i : Nat) (ht : slT P t = some (e, size, by_, z)) (hx : evO env x = some v) (hv : v.cells = cs.toArray) (hl : cs.length = size)
    (hn : Nat.blt 0 (1 * size) = true) (hm : Nat.ble (1 * size) 16777216 = true) : Eff P env w (.buildSlice t 1 #[(0, x)]) ty (fun v w' => ∃ b c', v = .slice (some ⟨b, 0, none⟩) 1 1 ∧ Mv c w c' w' [] ∧ BlkC c' w' i b cs e) :=
  (Eff.build1 ht hx hv hl hn hm).mono fun v w' ⟨b, hv, hn⟩ => by obtain ⟨c', h⟩ := hn.toC c i; exact ⟨b, c', hv, h⟩
theorem BlkC.own {i b n size : Nat} {cs : List Value} {t : TypeId} (h : BlkC c w i b cs t) (hl : cs.length = n * size) (hm : n ≤ 9223372036854775807) : OwnC c w i t size (.slice (some ⟨b, 0, none⟩) n n) n cs :=
  ⟨⟨hl, ownIn ⟨b, n, cs.toArray, (0, 0), rfl, Nat.zero_le _, h.blk, fun h => by simp at h, Nat.le_refl _, by rw [maxLen_eq]; exact hm, by simp [hl], by simp [← hl]⟩⟩, fun k hk => by
    simp only [Value.rowOf] at hk
    cases hb : Nat.beq n 0 <;> rw [hb] at hk <;> simp at hk
    rw [← hk]; exact h.col⟩
theorem Stored.mv {w' : World} {i b : Nat} {cs cs' : List Value} {t : TypeId} (h : Stored w w' b cs' t) (hb : BlkC c w i b cs t) : BlkC c w' i b cs' t ∧ Mv c w c w' [i] :=
  ⟨⟨h.blk, hb.col⟩, ⟨h.grown.os, h.grown.tape, h.grown.output, h.grown.size, fun _ _ => rfl, fun k hk hc => h.grown.block k hk (fun e => by
    injection e with e
    subst e
    rw [hb.col] at hc; simp [hasC] at hc)⟩⟩
theorem Eff.storeC {t T : TypeId} {x y : Operand} {i b j : Nat} {cs : List Value} {v : Value} (ht : sclT P t = true) (hx : evO env x = some (.pointer (some ⟨b, j, none⟩))) (hy : evO env y = some v) (hv : v.cells = #[v]) (h1 : v.oneCell' = true) (hb : BlkC c w i b cs T) (hi : Nat.blt j cs.length = true) :
    Eff P env w (.store t x y) ty (fun _ w' => BlkC c w' i b (cs.set j v) T ∧ Mv c w c w' [i]) := (Eff.storeB ht hx hy hv h1 hb.blk hi).mono fun _ _ h => h.mv hb
theorem Eff.storeNC {t T : TypeId} {n : Nat} {x y : Operand} {i b : Nat} {cs cs' : List Value} (ht : aggT P t = some n) (hx : evO env x = some (.pointer (some ⟨b, 0, none⟩))) (hy : evO env y = some (.agg cs'.toArray)) (hb : BlkC c w i b cs T) (hl : cs.length = n) (hl' : cs'.length = n)
    (h1 : ∀ v ∈ cs', v.oneCell' = true) : Eff P env w (.store t x y) ty (fun _ w' => BlkC c w' i b cs' T ∧ Mv c w c w' [i]) := (Eff.storeBN ht hx hy hb.blk hl hl' h1).mono fun _ _ h => h.mv hb
theorem BlkC.stX {t T : TypeId} {x y : Operand} {i b j : Nat} {cs : List Value} {v : Value} (hb : BlkC c w i b cs T) (ht : sclT P t = true) (hx : evO env x = some (.pointer (some ⟨b, j, none⟩))) (hy : evO env y = some v) (hv : v.cells = #[v]) (h1 : v.oneCell' = true) (hi : Nat.blt j cs.length = true)
    {S : (Nat → Nat) → World → Prop} (hS : ∀ w', BlkC c w' i b (cs.set j v) T → Mv c w c w' [i] → S c w') : Eff P env w (.store t x y) ty (fun _ w' => ∃ c', Mv c w c' w' [i] ∧ S c' w') :=
  (Eff.storeC ht hx hy hv h1 hb hi).mono fun _ w' h => ⟨c, h.2, hS w' h.1 h.2⟩
theorem App.mvC {w' : World} {i : Nat} {e : TypeId} {size n m : Nat} {v v' : Value} {xs ys : List Value} (h : App w w' 0 e size v v' m ys) (ho : OwnC c w i e size v n xs) : ∃ c', Mv c w c' w' [i] ∧ OwnC c' w' i e size v' m ys := by
  obtain ⟨c', hm, hx⟩ := Mv.grown c i h.grown ho.col
  refine ⟨c', hm, h.own, fun k hk => ?_⟩
  rcases h.at_ with e | e
  · rw [e] at hk
    rw [hm.col k (ho.own.lt k hk).2]
    exact ho.col k hk
  · rw [hk] at e; injection e with e
    exact hx k (Nat.le_of_eq e.symm)
theorem Eff.appendC {s x : Operand} {t u e : TypeId} {size by_ : Nat} {z : List Value} (ht : slT P t = some (e, size, by_, z)) {i : Nat} {v xv : Value} {n m : Nat} {xs news : List Value}
    (hs : evO env s = some v) (hx : evO env x = some xv) (hown : OwnC c w i e size v n xs) (hsrc : Src P w u size xv m news) (h63 : n + m ≤ maxLen) (hby : (n + m) * by_ ≤ 140737488355328) :
    Eff P env w (.call ⟨.builtin .append, #[s, x], #[t, u]⟩) ty (fun v' w' => ∃ c', Mv c w c' w' [i] ∧ OwnC c' w' i e size v' (n + m) (xs ++ news)) :=
  (Eff.append ht hs hx hown.own hsrc h63 hby (Nat.zero_le _)).mono fun _ _ h => h.mvC hown
theorem Eff.storeOC {t e : TypeId} {x y : Operand} {i n : Nat} {sv : Value} {xs : List Value} {j : Nat} {v : Value} (ht : sclT P t = true) (hown : OwnC c w i e 1 sv n xs) (hi : j < n) (hx : evO env x = some (.pointer (some (elemA sv 1 j)))) (hy : evO env y = some v)
    (hv : v.cells = #[v]) (h1 : v.oneCell' = true) : Eff P env w (.store t x y) ty (fun _ w' => OwnC c w' i e 1 sv n (xs.set j v) ∧ Mv c w c w' [i]) :=
  (Eff.storeOwn ht hown.own hi hx hy hv h1).mono fun _ w' ⟨ho, hg, hs⟩ => ⟨⟨ho, hown.col⟩, ⟨hg.os, hg.tape, hg.output, hg.size, fun _ _ => rfl, fun k hk hc => hg.block k hk (fun e => by
    rw [hown.col k e.symm] at hc; simp [hasC] at hc)⟩⟩
theorem Eff.makeC {t e : TypeId} {size by_ : Nat} {z : List Value} {x y : Operand} {kl kc : IntKind} {n : Int} (c : Nat → Nat) (i : Nat) (ht : slT P t = some (e, size, by_, z)) (hx : evO env x = some (.int kl n)) (hy : evO env y = some (.int kc n)) (h0 : 0 ≤ n) (hb : n * by_ ≤ 281474976710656) (h63 : n ≤ 9223372036854775807) :
    Eff P env w (.makeSlice t x y) ty (fun v w' => ∃ c', Mv c w c' w' [] ∧ OwnC c' w' i e size v n.toNat (List.replicate n.toNat z).flatten) :=
  (Eff.make ht hx hy h0 hb h63).mono fun v w' ⟨_, ho, hb, _⟩ => by
    obtain ⟨c', hm, hx⟩ := Mv.pure c i hb
    exact ⟨c', hm, ho.toC hx⟩
theorem Eff.toBytesC {src dst e : TypeId} {x : Operand} {l : List UInt8} (c : Nat → Nat) (i : Nat) (hs : P.underlying src = some .string) (hd : P.underlying dst = some (.slice e)) (he : P.underlying e = some (.int .u8)) (hx : evO env x = some (St l)) (h : l.length ≤ maxLen) :
    Eff P env w (.convert src dst x) ty (fun v w' => ∃ c', Mv c w c' w' [] ∧ OwnC c' w' i e 1 v l.length (bytesV l)) :=
  (Eff.toBytes hs hd he hx h).mono fun v w' ⟨ho, hb, _⟩ => by
    obtain ⟨c', hm, hx⟩ := Mv.pure c i hb
    exact ⟨c', hm, ho.toC hx⟩
theorem Eff.val {op : Op} {v : Value} (h : Val P env w op ty v) : Eff P env w op ty (fun v' w' => v' = v ∧ w' = w) := Eff.of_run fun n a ho d pos after g => ⟨v, w, h n a ho d pos after g, rfl, rfl⟩
/-- A call that makes new memory alone. -/
theorem Eff.pureC {op : Op} {S : Value → World → Prop} (c : Nat → Nat) (i : Nat) (h : Eff P env w op ty (fun v w' => Below w.heap.size w w' ∧ S v w')) :
    Eff P env w op ty (fun v w' => ∃ c', Mv c w c' w' [] ∧ (∀ k, w.heap.size ≤ k → c' k = i) ∧ S v w') :=
  h.mono fun _ _ ⟨hb, hs⟩ => by
    obtain ⟨c', hm, hx⟩ := Mv.pure c i hb
    exact ⟨c', hm, hx, hs⟩
end

/-! ### Drawn regions: what stays of the region's first world -/
def Kp (c : Nat → Nat) (w0 : World) (J : List Nat) (W : World) : Prop := w0.heap.size ≤ W.heap.size ∧ ∀ k, k < w0.heap.size → hasC J (c k) = false → W.heap[k]? = w0.heap[k]?
section
variable {c c1 c2 : Nat → Nat} {w0 w1 w2 W : World} {I J K : List Nat}
theorem Mv.kp (h : Mv c w0 c1 w1 J) : Kp c w0 J w1 := ⟨h.size, h.block⟩
theorem Kp.step (h : Kp c w0 J w1) (hc : Mv c w0 c1 w1 J) (m : Mv c1 w1 c2 w2 I) (hi : I.all (hasC J) = true) : Kp c w0 J w2 :=
  ⟨Nat.le_trans h.1 m.size, fun k hk hj => (m.block k (Nat.lt_of_lt_of_le hk h.1) (by rw [hc.col k hk]; exact hasC_mono hi hj)).trans (h.2 k hk hj)⟩
theorem BlkC.kp {i b : Nat} {cs : List Value} {t : TypeId} (h : BlkC c w0 i b cs t) (hW : Kp c w0 J W) (hi : hasC J i = false) : BlkC c W i b cs t :=
  ⟨(hW.2 b h.blk.lt (by rw [h.col]; exact hi)).trans h.blk, h.col⟩
theorem CelC.kp {p : Addr} {cs : List Value} (h : CelC c w0 K p cs) (hW : Kp c w0 J W) (hi : apartC K J = true) : CelC c W K p cs :=
  ⟨⟨h.cel.1.keep (hW.2 _ h.cel.2 (hasC_of_apart hi h.col)), Nat.lt_of_lt_of_le h.cel.2 hW.1⟩, h.col⟩
theorem OwnC.kp {i : Nat} {e : TypeId} {size n : Nat} {v : Value} {xs : List Value} (h : OwnC c w0 i e size v n xs) (hW : Kp c w0 J W) (hi : hasC J i = false) : OwnC c W i e size v n xs :=
  ⟨h.own.keepB fun k hk => hW.2 k (h.own.lt k hk).2 (by rw [h.col k hk]; exact hi), h.col⟩
end
/-! ### Rows of one's own, read -/
section
variable {P : Program} {env : Env} {w wr : World} {ty : TypeId} {c : Nat → Nat}
theorem Val.olen {x : Operand} {t e e' : TypeId} {sz by_ : Nat} {z : List Value} {i size n : Nat} {v : Value} {xs : List Value} (ht : slT P t = some (e, sz, by_, z)) (hr : OwnC c wr i e' size v n xs) (hx : evO env x = some v) : Val P env w (.call ⟨.builtin .len, #[x], #[t]⟩) ty (I n) := by
  obtain ⟨A, cp, rfl, _⟩ := hr.own.len
  exact Val.sllen (slT_spec ht).1 hx
theorem Val.indexO {x y : Operand} {t e e' : TypeId} {sz by_ : Nat} {z : List Value} {k : IntKind} {j : Int} {i n : Nat} {v : Value} {xs : List Value} (ht : slT P t = some (e, sz, by_, z)) (hr : OwnC c wr i e' sz v n xs) (hx : evO env x = some v) (hy : evO env y = some (.int k j))
    (h0 : 0 ≤ j) (h1 : j < n) : Val P env w (.indexAddr t x y) ty (.pointer (some (elemA v sz j.toNat))) := fun _ a ho d pos after g => by
  rcases hr.own.2 with ⟨hn, A, rfl⟩ | ⟨b, cap, cur, fz, rfl, _⟩
  · omega
  · simp [execOp, ho.eval hx, ho.eval hy, run_indexAt ht h0 h1, elemA]
end
end Go.Eng

namespace Go.Eng
open Go Go.RowKit

/-- What a stretch has turned so far. -/
structure Acc (c : Nat → Nat) (w : World) (K : List Nat) (c' : Nat → Nat) (w' : World) : Prop where
  mvs : Mv c w c' w' K
theorem Acc.refl (c : Nat → Nat) (w : World) (K : List Nat) : Acc c w K c w := ⟨Mv.refl _ _ _⟩
theorem Acc.mv {c c1 c2 : Nat → Nat} {w w1 w2 : World} {K I : List Nat} (h : Acc c w K c1 w1) (m : Mv c1 w1 c2 w2 I) (hi : I.all (hasC K) = true := by rfl) : Acc c w K c2 w2 := ⟨h.mvs.tr m hi⟩

/-- The block for the rounds' deferred calls: there are none. -/
structure DefC (c : Nat → Nat) (w : World) (D : Nat) : Prop where
  obj : w.heap[D]? = some (.deferred (some []))
  col : c D = 901
theorem lt_of_some {w : World} {k : Nat} {o : Obj} (h : w.heap[k]? = some o) : k < w.heap.size := (Array.getElem?_eq_some_iff.1 h).1
theorem DefC.mv {c c' : Nat → Nat} {w w' : World} {D : Nat} {I : List Nat} (h : DefC c w D) (m : Mv c w c' w' I) (hi : hasC I 901 = false := by rfl) : DefC c' w' D :=
  have hlt := lt_of_some h.obj
  ⟨(m.block D hlt (by rw [h.col]; exact hi)).trans h.obj, (m.col D hlt).trans h.col⟩
theorem putObj_mv {c : Nat → Nat} {w : World} {l i : Nat} (o : Obj) (hc : c l = i) : Mv c w c (w.putObj l o) [i] :=
  ⟨rfl, rfl, rfl, by simp, fun _ _ => rfl, fun k _ hk => World.putObj_heap_other (fun e => by subst e; rw [hc] at hk; simp [hasC] at hk)⟩
theorem DefC.take {c : Nat → Nat} {w : World} {D : Nat} (h : DefC c w D) : Takes (marksOf (.tuple #[I D])) w (w.putObj D (.deferred none)) ∧ Mv c w c (w.putObj D (.deferred none)) [901] :=
  ⟨⟨D, rfl, h.obj, rfl⟩, putObj_mv _ h.col⟩

theorem apart_cons {I K : List Nat} {j : Nat} (h : hasC I j = false) (hK : apartC I K = true) : apartC I (j :: K) = true := by
  simp only [apartC, List.all_eq_true, Bool.not_eq_true'] at hK ⊢
  intro i hi
  have a1 := hK i hi
  have a2 : Nat.beq i j = false := by
    cases hb : Nat.beq i j with
    | false => rfl
    | true =>
      have e := Nat.eq_of_beq_eq_true hb
      subst e
      have := List.any_eq_false.1 h i hi
      simp at this
  simp only [hasC, List.any_cons] at a1 ⊢
  rw [a1, a2]; rfl
/-- An iterator's contract: it hands the list's values to yield, one by one, till one says no; it turns blocks of the colours κ alone, if those of κ and F are left as they are. -/
def IterC (P : Program) (gf : FuncId) (lb : List Value) {α : Type} (encs : α → List Value) (κ F : List Nat) (L : List α) (c : Nat → Nat) (w : World) : Prop :=
  ∀ (l : Nat) (J Jx : List α → (Nat → Nat) → World → Prop) (c1 : Nat → Nat) (W : World) (K : List Nat), Mv c w c1 W K → apartC (κ ++ F) K = true →
    (∀ s d A d' B, J s d A → Mv d A d' B κ → J s d' B) → (∀ s d A d' B, Jx s d A → Mv d A d' B κ → Jx s d' B) →
    (∀ pre x d A, J pre d A → pre ++ [x] <+: L → ∃ K', apartC (κ ++ F) K' = true ∧ YieldAt (FW none) 0 P l (encs x).toArray A (fun e B => ∃ b d', e = .returned (.bool b) ∧ Mv d A d' B K' ∧ (b = true → J (pre ++ [x]) d' B) ∧ (b = false → Jx (pre ++ [x]) d' B))) →
    J [] c1 W →
    Calls P gf ([Value.func (.yield l) #[] #[]] ++ lb).toArray W (Ret fun _ B => ∃ d', J L d' B ∨ ∃ pre, Jx pre d' B)

/-- .. where what is handed out is known by a relation only (new rows, of a place unknown ahead). -/
def IterQ (P : Program) (gf : FuncId) (lb : List Value) {α : Type} (encs : α → List Value) (κ F : List Nat) (Q : List α → α → (Nat → Nat) → World → Prop) (Fin : List α → Prop) (c : Nat → Nat) (w : World) : Prop :=
  ∀ (l : Nat) (J Jx : List α → (Nat → Nat) → World → Prop) (c1 : Nat → Nat) (W : World) (K : List Nat), Mv c w c1 W K → apartC (κ ++ F) K = true →
    (∀ s d A d' B, J s d A → Mv d A d' B κ → J s d' B) → (∀ s d A d' B, Jx s d A → Mv d A d' B κ → Jx s d' B) →
    (∀ pre x d A, J pre d A → Q pre x d A → ∃ K', apartC (κ ++ F) K' = true ∧ YieldAt (FW none) 0 P l (encs x).toArray A (fun e B => ∃ b d', e = .returned (.bool b) ∧ Mv d A d' B K' ∧ (b = true → J (pre ++ [x]) d' B) ∧ (b = false → Jx (pre ++ [x]) d' B))) →
    J [] c1 W →
    Calls P gf ([Value.func (.yield l) #[] #[]] ++ lb).toArray W (Ret fun _ B => ∃ d', (∃ L, Fin L ∧ J L d' B) ∨ ∃ pre, Jx pre d' B)
theorem IterC.toQ {P : Program} {gf : FuncId} {lb : List Value} {α : Type} {encs : α → List Value} {κ F : List Nat} {L : List α} {c : Nat → Nat} {w : World} (h : IterC P gf lb encs κ F L c w) : IterQ P gf lb encs κ F (fun pre x _ _ => pre ++ [x] <+: L) (· = L) c w :=
  fun l J Jx c1 W K hM hK hJ hJx hy h0 => (h l J Jx c1 W K hM hK hJ hJx hy h0).mono fun _ _ ⟨v, hv, d', hd⟩ => ⟨v, hv, d', hd.imp (fun x => ⟨L, rfl, x⟩) id⟩

/-- A call of yield. -/
theorem Eff.yield {P : Program} {env : Env} {w : World} {ty : TypeId} {x : Operand} {l : Nat} {args : Array Operand} {at_ : Array TypeId} {vs : List Value} {S : Value → World → Prop} (hv : evO env x = some (.func (.yield l) #[] #[])) (hx : evL env args.toList = some vs)
    (hy : YieldAt (FW none) 0 P l vs.toArray w (fun e B => ∃ v, e = .returned v ∧ S v B)) : Eff P env w (.call ⟨.value x, args, at_⟩) ty S := by
  intro n a ho ro d pos after g K Q hK
  have hvs := ho.evalL hx
  have e : args.map a.eval = vs.toArray := by rw [← hvs]; apply Array.ext'; simp
  obtain ⟨fn, tmps, assign, body, h1, h2⟩ := hy
  have hr : (execOp a.eval ⟨d, .call ⟨.value x, args, at_⟩, ty, pos, after, g⟩).run P w = .ok (.round l fn tmps assign body) w := by
    simp [execOp, resolve, Deferred.ofValue, ho.eval hv, invoke, e, h1]
  refine ⟨fun _ _ => trivial, ?_⟩
  rw [show (FW ro).round = ro from rfl, semAt_eq hr (fun d => by simp), hr]
  have h3 : RoundIn (FW ro) (0 - 1) P l fn tmps assign body w (fun e B => ∃ v, e = .returned v ∧ S v B) := h2
  exact ⟨fun h => by simp [FW, Fence.wide] at h, h3.mono fun e w2 ⟨v, he, hs⟩ => by subst he; exact hK v w2 hs⟩

/-- .. where its answer is a bool. -/
theorem Eff.yieldB {P : Program} {env : Env} {w : World} {ty : TypeId} {x : Operand} {l : Nat} {args : Array Operand} {at_ : Array TypeId} {vs : List Value} {R : Bool → (Nat → Nat) → World → Prop} (hv : evO env x = some (.func (.yield l) #[] #[])) (hx : evL env args.toList = some vs)
    (hy : YieldAt (FW none) 0 P l vs.toArray w (fun e B => ∃ b d', e = .returned (.bool b) ∧ R b d' B)) : Eff P env w (.call ⟨.value x, args, at_⟩) ty (fun v B => ∃ b d', v = .bool b ∧ R b d' B) := by
  refine Eff.yield hv hx ?_
  obtain ⟨fn, tmps, assign, body, h1, h2⟩ := hy
  refine ⟨fn, tmps, assign, body, h1, ?_⟩
  exact h2.mono fun e w2 ⟨b, d', he, hs⟩ => ⟨_, he, b, d', rfl, hs⟩
theorem apart_of {I K : List Nat} {i : Nat} (h : apartC I K = true) (hi : i ∈ I) : hasC K i = false := by
  simp only [apartC, List.all_eq_true, Bool.not_eq_true'] at h
  exact h i hi
theorem apart_sub {I I' K : List Nat} (h : apartC I K = true) (hi : ∀ i ∈ I', i ∈ I) : apartC I' K = true := by
  simp only [apartC, List.all_eq_true, Bool.not_eq_true'] at h ⊢
  exact fun i hi' => h i (hi i hi')
/-- What the caller of an iterator knows between two rounds. -/
structure JC (J : (Nat → Nat) → World → Prop) (κ : List Nat) (c : Nat → Nat) (w : World) : Prop where
  now : J c w
  inv : ∀ d A d' B, J d A → Mv d A d' B κ → J d' B
theorem JC.mv {J : (Nat → Nat) → World → Prop} {κ I : List Nat} {c c' : Nat → Nat} {w w' : World} (h : JC J κ c w) (m : Mv c w c' w' I) (hi : I.all (hasC κ) = true := by rfl) : JC J κ c' w' := ⟨h.inv _ _ _ _ h.now (m.more hi), h.inv⟩
def bindP : List Nat → List Value → Env → Env
  | p :: ps, v :: vs, e => bindP ps vs ((p, v) :: e)
  | _, _, e => e
theorem bind_ok {n : Nat} : ∀ (ps : List Nat) (vs : List Value) (e : Env) (a : Act), EnvOk n e a → (∀ p ∈ ps, Nat.blt p n = true) → EnvOk n (bindP ps vs e) { tmps := (ps.zip vs).foldl (fun t (x : Nat × Value) => t.setIfInBounds x.1 x.2) a.tmps, defers := a.defers }
  | [], vs, e, a, h, _ => by simpa [bindP] using h
  | p :: ps, [], e, a, h, _ => by simpa [bindP] using h
  | p :: ps, v :: vs, e, a, h, hp => by
    have h1 := h.put (hp p (by simp)) v
    have := bind_ok ps vs _ _ h1 fun q hq => hp q (by simp [hq])
    simpa [bindP, Act.put] using this

/-- Where a round's body may go: on, out by an exit, out by a return. -/
abbrev Ways (α : Type) := List (Nat × (List α → (Nat → Nat) → World → Prop))
def waysK {α : Type} (X : Ways α) (K : List Nat) (xs : List α) (d : Nat → Nat) (A : World) : List (Nat × Kont) := X.map fun p => (p.1, fun _ B => ∃ d', Acc d A K d' B ∧ p.2 xs d' B)
theorem findK_ways {α : Type} {K : List Nat} {xs : List α} {d : Nat → Nat} {A : World} {id : Nat} {k : Kont} : ∀ {X : Ways α}, findK (waysK X K xs d A) id = some k → ∃ p ∈ X, p.1 = id ∧ k = fun _ B => ∃ d', Acc d A K d' B ∧ p.2 xs d' B
  | [], h => by simp [waysK, findK] at h
  | p :: X, h => by
    simp only [waysK, List.map_cons, findK] at h
    cases hb : Nat.beq p.1 id with
    | true =>
      rw [hb] at h
      exact ⟨p, by simp, Nat.eq_of_beq_eq_true hb, by simpa using h.symm⟩
    | false =>
      rw [hb] at h
      obtain ⟨q, hq, h2⟩ := findK_ways (X := X) (by simpa [waysK] using h)
      exact ⟨q, by simp [hq], h2⟩

/-- A mark's number. -/
abbrev I' (D : Nat) : Value := I (D : Int)
def recOf (fn : FuncId) (tmps : Array Value) (ps : Array Tmp) (assign body : Code) (D : Nat) (st : LoopState) (pe : Option Code) : Loop := { state := st, pending := pe, fn, tmps := tmps, params := ps, assign, body, defers := D }

section
variable {c : Cx} {B : List (Nat × Kont)} {env : Env} {w : World} {N : Kont}

/-- THE STATEMENT 'for .. := range g { .. }', outermost. -/
theorem WC.rangeFuncQ {α : Type} {g : Operand} {ps : Array Tmp} {assign body : Code} {gf : FuncId} {lb : List Value} {encs : α → List Value} {κ F : List Nat} {Q : List α → α → (Nat → Nat) → World → Prop} {Fin : List α → Prop} {c0 : Nat → Nat} {ms : List Value}
    (I : List α → (Nat → Nat) → World → Prop) (X : Ways α) (Xr : List α → (Nat → Nat) → World → Prop) (K : List Nat)
    (hr : c.rnd = none) (hg : evO env g = some (.func (.func gf) #[] lb.toArray)) (hf : plainFn c.P gf = true) (hit : IterQ c.P gf lb encs κ F Q Fin c0 w) (hκ : hasC (κ ++ F) 901 = false)
    (hps : ∀ x, (encs x).length = ps.size) (hpn : ps.all (fun p => Nat.blt p c.n) = true) (hK : (apartC (κ ++ F) K && !hasC K 901) = true)
    (hI : ∀ s d A d' B, I s d A → Mv d A d' B (901 :: κ) → I s d' B) (hX : ∀ p ∈ X, ∀ s d A d' B, p.2 s d A → Mv d A d' B (901 :: κ) → p.2 s d' B) (hXr : ∀ s d A d' B, Xr s d A → Mv d A d' B (901 :: κ) → Xr s d' B)
    (h0 : I [] c0 w)
    (round : ∀ l pre x d A, I pre d A → Q pre x d A → WC ⟨c.P, c.n, #[], fun _ _ => False, some l⟩ [] assign ((4000000, .tuple #[]) :: bindP ps.toList (encs x) env) A (fun e1 A1 => ∃ d1, Acc d A K d1 A1 ∧
      ∀ A2, Mv d1 A1 d1 A2 [901] → WC ⟨c.P, c.n, #[], fun _ B' => ∃ d', Acc d1 A2 K d' B' ∧ Xr (pre ++ [x]) d' B', some l⟩ (waysK X K (pre ++ [x]) d1 A2) body e1 A2 (fun _ B' => ∃ d', Acc d1 A2 K d' B' ∧ I (pre ++ [x]) d' B')))
    (done : ∀ L D d B', Fin L → I L d B' → DefC d B' D → N ((4000000, .tuple (I' D :: ms).toArray) :: env) B')
    (exits : ∀ p ∈ X, ∀ D pre d B', p.2 pre d B' → DefC d B' D → ∃ k, findK B p.1 = some k ∧ k ((4000000, .tuple (I' D :: ms).toArray) :: env) B')
    (rets : ∀ D pre d B', Xr pre d B' → DefC d B' D → WC c B .ret ((4000000, .tuple (I' D :: ms).toArray) :: env) B' N)
    (hm : lookM env = some (.tuple ms.toArray) := by rfl) : WC c B (.rangeFunc g ps assign body) env w N := by
  intro a ho
  have hpb : ∀ p ∈ ps.toList, Nat.blt p c.n = true := by
    rw [Array.all_eq_true'] at hpn
    intro p hp; exact hpn p (by simpa using hp)
  simp only [Bool.and_eq_true, Bool.not_eq_true'] at hK
  have hκ1 : hasC κ 901 = false := by
    simp only [hasC, List.any_append, Bool.or_eq_false_iff] at hκ
    exact hκ.1
  refine wpIn_rangeFunc ?_
  intro fn hfn
  rw [show (FW c.rnd).round = none from hr]
  obtain ⟨W1, hW1⟩ : ∃ W1, (w.alloc (.deferred (some []))).alloc (.loop (recOf fn a.tmps ps assign body w.heap.size .ready none)) = W1 := ⟨_, rfl⟩
  have hL1 : W1.heap[w.heap.size + 1]? = some (.loop (recOf fn a.tmps ps assign body w.heap.size .ready none)) := by
    rw [← hW1]; have := World.alloc_heap_new (w.alloc (.deferred (some []))) (.loop (recOf fn a.tmps ps assign body w.heap.size .ready none)); rwa [World.size_alloc] at this
  have hK1 : W1.heap[w.heap.size]? = some (.deferred (some [])) := by
    rw [← hW1]; exact (Below.heap_alloc _ _ _ (by simp)).trans (World.alloc_heap_new w _)
  have hb1 : Below w.heap.size w W1 := by
    rw [← hW1]; exact ((Below.refl _ w).alloc (Nat.le_refl _) _).alloc (by simp) _
  obtain ⟨c1, hm1, hx1⟩ := Mv.pure c0 901 hb1
  have hcD : c1 w.heap.size = 901 := hx1 _ (Nat.le_refl _)
  have hcl : c1 (w.heap.size + 1) = 901 := hx1 _ (by omega)
  have marks : ∀ (D : Nat), EnvOk c.n ((4000000, .tuple (I' D :: ms).toArray) :: env) { a with defers := { target := .collected D, args := #[] } :: a.defers } := fun D =>
    ⟨ho.bound, fun v hv => by
      have : Value.tuple (I' D :: ms).toArray = v := by simpa [lookM] using hv
      subst this
      rw [ho.defers _ hm]; simp [marksOf, I'], ho.size, fun k v hk => ho.vals k v (by
      unfold look at hk
      cases hb : Nat.beq 4000000 k with
      | true => rw [hb] at hk; simp at hk
      | false => rw [hb] at hk; simpa using hk)⟩
  refine ⟨w.heap.size + 1, [{ target := .collected w.heap.size, args := #[] }], W1, { target := .fn (.func gf) lb.toArray, args := #[.func (.yield (w.heap.size + 1)) #[] #[]] }, W1, gf,
    #[.func (.yield (w.heap.size + 1)) #[] #[]] ++ lb.toArray, W1, ?_, ?_, fun _ _ => trivial, ?_, fun h => by simp [FW, Fence.wide] at h, ?_⟩
  · rw [← hW1]; exact run_enterLoop_outer _ _ _ _ _
  · simp only [resolve, ho.eval hg]
    simp [go_sem]
  · simp [invoke, go_sem, callFunc_plain hf]
  · let LL := recOf fn a.tmps ps assign body w.heap.size
    have hst : ∀ {d : Nat → Nat} {A : World} {d' : Nat → Nat} {B' : World} {k : Nat} {o : Obj}, Mv d A d' B' κ → d k = 901 → A.heap[k]? = some o → d' k = 901 ∧ B'.heap[k]? = some o := fun m hd hk => by
      have hlt := lt_of_some hk
      exact ⟨(m.col _ hlt).trans hd, (m.block _ hlt (by rw [hd]; exact hκ1)).trans hk⟩
    have big : ∀ {d : Nat → Nat} {A : World} {d' : Nat → Nat} {B' : World}, Mv d A d' B' κ → Mv d A d' B' (901 :: κ) := fun m => m.more (by
      rw [List.all_eq_true]
      intro i hi
      simp only [hasC, List.any_cons, Bool.or_eq_true]
      exact .inr (List.any_eq_true.2 ⟨i, hi, by simp⟩))
    have big' : ∀ {d : Nat → Nat} {A : World} {d' : Nat → Nat} {B' : World}, Mv d A d' B' [901] → Mv d A d' B' (901 :: κ) := fun m => m.more (by simp [hasC])
    have hcall := hit (w.heap.size + 1)
      (fun pre d A => I pre d A ∧ (d (w.heap.size + 1) = 901 ∧ A.heap[w.heap.size + 1]? = some (.loop (LL .ready none))) ∧ d w.heap.size = 901 ∧ A.heap[w.heap.size]? = some (.deferred (some [])))
      (fun pre d A => ∃ j, ((j = .ret ∧ Xr pre d A) ∨ ∃ p ∈ X, j = .exit p.1 ∧ p.2 pre d A) ∧ (d (w.heap.size + 1) = 901 ∧ A.heap[w.heap.size + 1]? = some (.loop (LL .done (some j)))) ∧ d w.heap.size = 901 ∧ A.heap[w.heap.size]? = some (.deferred (some [])))
      c1 W1 [] hm1 (by simp [apartC, hasC])
      (fun s d A d' B' ⟨h1, h2, h3⟩ m => ⟨hI _ _ _ _ _ h1 (big m), hst m h2.1 h2.2, hst m h3.1 h3.2⟩)
      (fun s d A d' B' ⟨j, h1, h2, h3⟩ m => ⟨j, h1.imp (fun h => ⟨h.1, hXr _ _ _ _ _ h.2 (big m)⟩) (fun ⟨p, hp, e, h⟩ => ⟨p, hp, e, hX p hp _ _ _ _ _ h (big m)⟩), hst m h2.1 h2.2, hst m h3.1 h3.2⟩)
      ?_ ⟨hI _ _ _ _ _ h0 (hm1.more rfl), ⟨hcl, hL1⟩, hcD, hK1⟩
    · rw [show ([Value.func (.yield (w.heap.size + 1)) #[] #[]] ++ lb).toArray = #[.func (.yield (w.heap.size + 1)) #[] #[]] ++ lb.toArray by simp] at hcall
      have h1 : CallsIn (FW none) (0 - 1) c.P gf (#[.func (.yield (w.heap.size + 1)) #[] #[]] ++ lb.toArray) W1 _ := (callsIn_wide (n := 0)).2 hcall
      rw [hr]
      refine h1.mono ?_
      rintro e W2 ⟨v, rfl, d', (⟨L, hF, hi, hl, hk⟩ | ⟨pre, j, hj, hl, hk⟩)⟩
      · have hm2 : Mv d' W2 d' (W2.putObj (w.heap.size + 1) (.loop { LL .ready none with state := .exhausted })) [901] := putObj_mv _ hl.1
        refine ⟨none, _, run_endLoop hl.2 (by simp [LL, recOf]), _, marks _, done L _ d' _ hF (hI _ _ _ _ _ hi (big' hm2)) ⟨(World.putObj_heap_other (by omega)).trans hk.2, hk.1⟩⟩
      · have hm2 : Mv d' W2 d' (W2.putObj (w.heap.size + 1) (.loop { LL .done (some j) with state := .exhausted })) [901] := putObj_mv _ hl.1
        have hD : DefC d' (W2.putObj (w.heap.size + 1) (.loop { LL .done (some j) with state := .exhausted })) w.heap.size := ⟨(World.putObj_heap_other (by omega)).trans hk.2, hk.1⟩
        refine ⟨some j, _, run_endLoop hl.2 (by simp [LL, recOf]), ?_⟩
        rcases hj with ⟨rfl, hx⟩ | ⟨p, hp, rfl, hx⟩
        · have := rets _ pre d' _ (hXr _ _ _ _ _ hx (big' hm2)) hD _ (marks _)
          rw [hr] at this; exact this
        · obtain ⟨k, hk1, hk2⟩ := exits p hp _ pre d' _ (hX p hp _ _ _ _ _ hx (big' hm2)) hD
          exact wpIn_exit ⟨k, _, hk1, marks _, hk2⟩
    · -- one round
      rintro pre x d A ⟨hi, hl, hk⟩ hpre
      refine ⟨901 :: K, apart_cons hκ hK.1, fn, _, assign, body, run_yield hl.2 (by simp [LL, recOf, hps x]), ?_⟩
      refine roundIn_of_wpIn trivial (wpIn_mono (round (w.heap.size + 1) pre x d A hi hpre _ ?_) ?_)
      · have e0 : EnvOk c.n ((4000000, .tuple #[]) :: env) { tmps := a.tmps, defers := [] } :=
          ⟨ho.bound, fun v hv => by
            have : Value.tuple #[] = v := by simpa [lookM] using hv
            subst this; rfl, ho.size, fun k v hk => ho.vals k v (by
            unfold look at hk
            cases hb : Nat.beq 4000000 k with
            | true => rw [hb] at hk; simp at hk
            | false => rw [hb] at hk; simpa using hk)⟩
        have e1 : EnvOk c.n env { tmps := a.tmps, defers := a.defers } := ho
        have h1 := bind_ok ps.toList (encs x) _ _ e1 hpb
        have efold : ((ps.zip (encs x).toArray).foldl (fun tmps (t, a) => tmps.setIfInBounds t a) a.tmps) = (ps.toList.zip (encs x)).foldl (fun t (x : Nat × Value) => t.setIfInBounds x.1 x.2) a.tmps := by
          rw [← Array.foldl_toList, Array.toList_zip]
        refine ⟨h1.bound, fun v hv => ?_, ?_, fun k v hk => ?_⟩
        · have : Value.tuple #[] = v := by simpa [lookM] using hv
          subst this; rfl
        · have := h1.size
          show ((ps.zip (encs x).toArray).foldl (fun tmps (t, a) => tmps.setIfInBounds t a) a.tmps).size = c.n
          rw [efold]; exact this
        · have hk' : look (bindP ps.toList (encs x) env) k = some v := by
            unfold look at hk
            cases hb : Nat.beq 4000000 k with
            | true => rw [hb] at hk; simp at hk
            | false => rw [hb] at hk; simpa using hk
          have := h1.vals k v hk'
          show ((ps.zip (encs x).toArray).foldl (fun tmps (t, a) => tmps.setIfInBounds t a) a.tmps)[k]? = some v
          rw [efold]; exact this
      · intro e a1 A1 hq
        cases e with
        | normal =>
          obtain ⟨e1, ho1, d1, hA1, hrest⟩ := hq
          have hlt := lt_of_some hl.2
          have hltD := lt_of_some hk.2
          have l1 : d1 (w.heap.size + 1) = 901 ∧ A1.heap[w.heap.size + 1]? = some (.loop (LL .ready none)) := ⟨(hA1.mvs.col _ hlt).trans hl.1, (hA1.mvs.block _ hlt (by rw [hl.1]; exact hK.2)).trans hl.2⟩
          have k1 : d1 w.heap.size = 901 ∧ A1.heap[w.heap.size]? = some (.deferred (some [])) := ⟨(hA1.mvs.col _ hltD).trans hk.1, (hA1.mvs.block _ hltD (by rw [hk.1]; exact hK.2)).trans hk.2⟩
          refine ⟨_, run_beginRound l1.2 rfl, ?_⟩
          have m2 : Mv d1 A1 d1 (A1.putObj (w.heap.size + 1) (.loop { LL .ready none with state := .busy })) [901] := putObj_mv _ l1.1
          have l2 : (A1.putObj (w.heap.size + 1) (.loop { LL .ready none with state := .busy })).heap[w.heap.size + 1]? = some (.loop { LL .ready none with state := .busy }) := World.putObj_heap_same (lt_of_some l1.2)
          have k2 : (A1.putObj (w.heap.size + 1) (.loop { LL .ready none with state := .busy })).heap[w.heap.size]? = some (.deferred (some [])) := (World.putObj_heap_other (by omega)).trans k1.2
          refine wpIn_mono (hrest _ m2 a1 ho1) ?_
          have fin : ∀ (j : Option Code) (A3 : World) (d3 : Nat → Nat), Acc d1 (A1.putObj (w.heap.size + 1) (.loop { LL .ready none with state := .busy })) K d3 A3 →
              (Instr.endRound (w.heap.size + 1) j).run c.P A3 = .ok (.bool j.isNone) (A3.putObj (w.heap.size + 1) (.loop (LL (if j.isNone then .ready else .done) j))) ∧
              Mv d A d3 (A3.putObj (w.heap.size + 1) (.loop (LL (if j.isNone then .ready else .done) j))) (901 :: K) ∧ Mv d3 A3 d3 (A3.putObj (w.heap.size + 1) (.loop (LL (if j.isNone then .ready else .done) j))) [901] ∧
              (d3 (w.heap.size + 1) = 901 ∧ (A3.putObj (w.heap.size + 1) (.loop (LL (if j.isNone then .ready else .done) j))).heap[w.heap.size + 1]? = some (.loop (LL (if j.isNone then .ready else .done) j))) ∧
              d3 w.heap.size = 901 ∧ (A3.putObj (w.heap.size + 1) (.loop (LL (if j.isNone then .ready else .done) j))).heap[w.heap.size]? = some (.deferred (some [])) := fun j A3 d3 hA => by
            have c3 : d3 (w.heap.size + 1) = 901 := (hA.mvs.col _ (lt_of_some l2)).trans l1.1
            have l3 : A3.heap[w.heap.size + 1]? = some (.loop { LL .ready none with state := .busy }) := (hA.mvs.block _ (lt_of_some l2) (by rw [l1.1]; exact hK.2)).trans l2
            have k3 : A3.heap[w.heap.size]? = some (.deferred (some [])) := (hA.mvs.block _ (lt_of_some k2) (by rw [k1.1]; exact hK.2)).trans k2
            have m4 : Mv d3 A3 d3 (A3.putObj (w.heap.size + 1) (.loop (LL (if j.isNone then .ready else .done) j))) [901] := putObj_mv _ c3
            have sub : K.all (hasC (901 :: K)) = true := by
              rw [List.all_eq_true]
              intro i hi
              simp only [hasC, List.any_cons, Bool.or_eq_true]
              exact .inr (List.any_eq_true.2 ⟨i, hi, by simp⟩)
            have one : [901].all (hasC (901 :: K)) = true := by simp [hasC]
            refine ⟨run_endRound j l3, (((hA1.mvs.more sub).tr m2 one).tr hA.mvs sub).tr m4 one, m4, ⟨c3, World.putObj_heap_same (lt_of_some l3)⟩, (hA.mvs.col _ (lt_of_some k2)).trans k1.1, (World.putObj_heap_other (by omega)).trans k3⟩
          intro e3 a3 A3 hp
          cases e3 with
          | normal =>
            obtain ⟨_, _, d3, hA3, hi3⟩ := hp
            obtain ⟨f1, f2, f3, f4, f5⟩ := fin none A3 d3 hA3
            exact ⟨_, _, f1, true, d3, rfl, f2, fun _ => ⟨hI _ _ _ _ _ hi3 (big' f3), f4, f5⟩, fun h => (by cases h)⟩
          | ret =>
            obtain ⟨w', ⟨ht, hn⟩, v, hv, d3, hA3, hx3⟩ := hp
            have hn : a3.defers = [] := hn.resolve_left (by simp)
            rw [hn] at ht
            have : w' = A3 := ht
            subst this
            obtain ⟨f1, f2, f3, f4, f5⟩ := fin (some .ret) w' d3 hA3
            exact ⟨_, _, f1, false, d3, rfl, f2, fun h => (by cases h), fun _ => ⟨_, .inl ⟨rfl, hXr _ _ _ _ _ hx3 (big' f3)⟩, f4, f5⟩⟩
          | exit id =>
            obtain ⟨k, e4, hk4, _, hx4⟩ := hp
            obtain ⟨p, hpX, rfl, rfl⟩ := findK_ways hk4
            obtain ⟨d3, hA3, hx3⟩ := hx4
            obtain ⟨f1, f2, f3, f4, f5⟩ := fin (some (.exit p.1)) A3 d3 hA3
            exact ⟨_, _, f1, false, d3, rfl, f2, fun h => (by cases h), fun _ => ⟨_, .inr ⟨p, hpX, rfl, hX p hpX _ _ _ _ _ hx3 (big' f3)⟩, f4, f5⟩⟩
          | goto t => exact hp.elim
          | panic ch => exact hp.elim
          | outgrown => exact hp.elim
        | exit id => obtain ⟨k, _, hk4, _⟩ := hq; simp [findK] at hk4
        | ret => obtain ⟨_, _, _, _, h⟩ := hq; exact h.elim
        | goto t => exact hq.elim
        | panic ch => exact hq.elim
        | outgrown => exact hq.elim
/-- THE STATEMENT 'for .. := range g { .. }', outermost. -/
theorem WC.rangeFunc {α : Type} {g : Operand} {ps : Array Tmp} {assign body : Code} {gf : FuncId} {lb : List Value} {encs : α → List Value} {κ F : List Nat} {L : List α} {c0 : Nat → Nat} {ms : List Value}
    (I : List α → (Nat → Nat) → World → Prop) (X : Ways α) (Xr : List α → (Nat → Nat) → World → Prop) (K : List Nat)
    (hr : c.rnd = none) (hg : evO env g = some (.func (.func gf) #[] lb.toArray)) (hf : plainFn c.P gf = true) (hit : IterC c.P gf lb encs κ F L c0 w) (hκ : hasC (κ ++ F) 901 = false)
    (hps : ∀ x, (encs x).length = ps.size) (hpn : ps.all (fun p => Nat.blt p c.n) = true) (hK : (apartC (κ ++ F) K && !hasC K 901) = true)
    (hI : ∀ s d A d' B, I s d A → Mv d A d' B (901 :: κ) → I s d' B) (hX : ∀ p ∈ X, ∀ s d A d' B, p.2 s d A → Mv d A d' B (901 :: κ) → p.2 s d' B) (hXr : ∀ s d A d' B, Xr s d A → Mv d A d' B (901 :: κ) → Xr s d' B)
    (h0 : I [] c0 w)
    (round : ∀ l pre x d A, I pre d A → pre ++ [x] <+: L → WC ⟨c.P, c.n, #[], fun _ _ => False, some l⟩ [] assign ((4000000, .tuple #[]) :: bindP ps.toList (encs x) env) A (fun e1 A1 => ∃ d1, Acc d A K d1 A1 ∧
      ∀ A2, Mv d1 A1 d1 A2 [901] → WC ⟨c.P, c.n, #[], fun _ B' => ∃ d', Acc d1 A2 K d' B' ∧ Xr (pre ++ [x]) d' B', some l⟩ (waysK X K (pre ++ [x]) d1 A2) body e1 A2 (fun _ B' => ∃ d', Acc d1 A2 K d' B' ∧ I (pre ++ [x]) d' B')))
    (done : ∀ D d B', I L d B' → DefC d B' D → N ((4000000, .tuple (I' D :: ms).toArray) :: env) B')
    (exits : ∀ p ∈ X, ∀ D pre d B', p.2 pre d B' → DefC d B' D → ∃ k, findK B p.1 = some k ∧ k ((4000000, .tuple (I' D :: ms).toArray) :: env) B')
    (rets : ∀ D pre d B', Xr pre d B' → DefC d B' D → WC c B .ret ((4000000, .tuple (I' D :: ms).toArray) :: env) B' N)
    (hm : lookM env = some (.tuple ms.toArray) := by rfl) : WC c B (.rangeFunc g ps assign body) env w N :=
  WC.rangeFuncQ I X Xr K hr hg hf hit.toQ hκ hps hpn hK hI hX hXr h0 round (fun L' D d B' e h hD => by subst e; exact done D d B' h hD) exits rets hm
/-! ### Returns behind ranges -/
theorem WC.retMR1 {r : ResultVar} {v m : Value} {w' : World} (hr : c.res = #[r]) (hn : c.rnd = none) (hT : Takes (marksOf m) w w') (h : RVal c env w' r v) (hS : c.S v w') (hm : lookM env = some m := by rfl) : WC c B .ret env w N := fun a ho =>
  wpIn_ret ⟨w', ⟨by rw [ho.defers _ hm]; exact hT, .inl hn⟩, v, fun fn hfn => by rw [results_eq c.P, hfn, hr]; simp [h a ho], hS⟩
theorem WC.retMR2 {r1 r2 : ResultVar} {v1 v2 m : Value} {w' : World} (hr : c.res = #[r1, r2]) (hn : c.rnd = none) (hT : Takes (marksOf m) w w') (h1 : RVal c env w' r1 v1) (h2 : RVal c env w' r2 v2) (hS : c.S (.tuple #[v1, v2]) w') (hm : lookM env = some m := by rfl) : WC c B .ret env w N := fun a ho =>
  wpIn_ret ⟨w', ⟨by rw [ho.defers _ hm]; exact hT, .inl hn⟩, .tuple #[v1, v2], fun fn hfn => by rw [results_eq c.P, hfn, hr]; simp [h1 a ho, h2 a ho], hS⟩
theorem WC.retMR3 {r1 r2 r3 : ResultVar} {v1 v2 v3 m : Value} {w' : World} (hr : c.res = #[r1, r2, r3]) (hn : c.rnd = none) (hT : Takes (marksOf m) w w') (h1 : RVal c env w' r1 v1) (h2 : RVal c env w' r2 v2) (h3 : RVal c env w' r3 v3) (hS : c.S (.tuple #[v1, v2, v3]) w') (hm : lookM env = some m := by rfl) : WC c B .ret env w N := fun a ho =>
  wpIn_ret ⟨w', ⟨by rw [ho.defers _ hm]; exact hT, .inl hn⟩, .tuple #[v1, v2, v3], fun fn hfn => by rw [results_eq c.P, hfn, hr]; simp [h1 a ho, h2 a ho, h3 a ho], hS⟩
theorem WC.retMR0 {m : Value} {w' : World} (hr : c.res = #[]) (hn : c.rnd = none) (hT : Takes (marksOf m) w w') (hS : c.S (.tuple #[]) w') (hm : lookM env = some m := by rfl) : WC c B .ret env w N := fun a ho =>
  wpIn_ret ⟨w', ⟨by rw [ho.defers _ hm]; exact hT, .inl hn⟩, _, fun fn hfn => by rw [results_none (hfn.trans hr)], hS⟩
end
end Go.Eng

namespace Go.Eng
open Go Go.RowKit

/-! ### Parts of slices -/
/-- l[lo:hi], as a value. -/
def subV (v : Value) (lo hi sz : Nat) : Value := match v with
  | .slice A _ c => .slice (if c = lo then A else A.map (·.add (lo * sz))) (hi - lo) (c - lo)
  | u => u
section
variable {P : Program} {env : Env} {w : World} {ty : TypeId} {t e : TypeId} {sz by_ : Nat} {z : List Value}
theorem run_part {A : Option Addr} {n c : Nat} {lo hi : Option Value} {l h : Nat} (ht : slT P t = some (e, sz, by_, z)) (hb : (Instr.sliceBounds true n c lo hi none).run P w = .ok (l, h, c) w) :
    (Instr.slice t (.slice A n c) lo hi none).run P w = .ok (subV (.slice A n c) l h sz) w := by
  obtain ⟨hu, inf, zv, hi', hs, _⟩ := slT_spec ht
  subst hs
  simp [Instr.slice, run_underlying hu, hb, sizeOf, typeInfo, hi', subV]
theorem Val.partFrom {x y : Operand} {A : Option Addr} {n c : Nat} {k : IntKind} {i : Int} (ht : slT P t = some (e, sz, by_, z)) (hx : evO env x = some (.slice A n c)) (hy : evO env y = some (.int k i)) (h0 : 0 ≤ i) (h1 : i ≤ n) :
    Val P env w (.slice t x (some y) none none) ty (subV (.slice A n c) i.toNat n sz) := fun _ a ho d pos after g => by
  obtain ⟨m, rfl⟩ := Int.eq_ofNat_of_zero_le h0
  have h2 : m ≤ n := by omega
  have := run_part (P := P) (w := w) (A := A) (n := n) (c := c) (lo := some (.int k m)) (hi := none) (l := m) (h := n) ht (by simp [Instr.sliceBounds, Instr.sliceBound, asIntOf, h2])
  simp only [execOp, Instr.sliceAt, ho.eval hx, ho.eval hy, Option.map_some, Option.map_none, Sem.run_bind]
  simp [run_underlying (slT_spec ht).1, this]
theorem Val.partTo {x y : Operand} {A : Option Addr} {n c : Nat} {k : IntKind} {i : Int} (ht : slT P t = some (e, sz, by_, z)) (hx : evO env x = some (.slice A n c)) (hy : evO env y = some (.int k i)) (h0 : 0 ≤ i) (h1 : i ≤ c) :
    Val P env w (.slice t x none (some y) none) ty (subV (.slice A n c) 0 i.toNat sz) := fun _ a ho d pos after g => by
  obtain ⟨m, rfl⟩ := Int.eq_ofNat_of_zero_le h0
  have h2 : m ≤ c := by omega
  have := run_part (P := P) (w := w) (A := A) (n := n) (c := c) (lo := none) (hi := some (.int k m)) (l := 0) (h := m) ht (by simp [Instr.sliceBounds, Instr.sliceBound, asIntOf, h2])
  simp only [execOp, Instr.sliceAt, ho.eval hx, ho.eval hy, Option.map_some, Option.map_none, Sem.run_bind]
  simp [run_underlying (slT_spec ht).1, this]
theorem Val.part {x y y2 : Operand} {A : Option Addr} {n c : Nat} {k k2 : IntKind} {i j : Int} (ht : slT P t = some (e, sz, by_, z)) (hx : evO env x = some (.slice A n c)) (hy : evO env y = some (.int k i)) (hy2 : evO env y2 = some (.int k2 j)) (h0 : 0 ≤ i) (h1 : i ≤ j) (h2 : j ≤ c) :
    Val P env w (.slice t x (some y) (some y2) none) ty (subV (.slice A n c) i.toNat j.toNat sz) := fun _ a ho d pos after g => by
  obtain ⟨m, rfl⟩ := Int.eq_ofNat_of_zero_le h0
  obtain ⟨q, rfl⟩ := Int.eq_ofNat_of_zero_le (show 0 ≤ j by omega)
  have h3 : m ≤ q := by omega
  have h4 : q ≤ c := by omega
  have := run_part (P := P) (w := w) (A := A) (n := n) (c := c) (lo := some (.int k m)) (hi := some (.int k2 q)) (l := m) (h := q) ht (by simp [Instr.sliceBounds, Instr.sliceBound, asIntOf, h3, h4])
  simp only [execOp, Instr.sliceAt, ho.eval hx, ho.eval hy, ho.eval hy2, Option.map_some, Option.map_none, Sem.run_bind]
  simp [run_underlying (slT_spec ht).1, this]
end
section
variable {α : Type} {s : Shape α} {B : Nat} {w : World} {v : Value} {l : List α}
theorem RdS.part (h : RdS s B w v l) {lo hi : Nat} (h1 : lo ≤ hi) (h2 : hi ≤ l.length) : RdS s B w (subV v lo hi s.size) ((l.drop lo).take (hi - lo)) := by
  obtain ⟨A, c, rfl, hc, hm, hb⟩ := h.form
  have hlen : ((l.drop lo).take (hi - lo)).length = hi - lo := by simp; omega
  refine ⟨⟨_, c - lo, by rw [hlen]; rfl, by rw [hlen]; omega, by omega, fun a ha h0 => ?_⟩, fun i x hi' => ?_, fun h0 => ?_, by have := h.small; omega⟩
  · rw [hlen] at h0
    rw [if_neg (by omega)] at ha
    cases A with
    | none => simp at ha
    | some a0 =>
      simp at ha
      subst ha
      rw [add_block]
      exact hb a0 rfl (by omega)
  · have hil : i < hi - lo := by
      rcases Nat.lt_or_ge i (hi - lo) with h' | h'
      · exact h'
      · rw [List.getElem?_eq_none (by rw [hlen]; exact h')] at hi'; cases hi'
    rw [List.getElem?_take, if_pos hil, List.getElem?_drop] at hi'
    obtain ⟨cs, h3, h4⟩ := h.elem _ _ hi'
    obtain ⟨a0, c', he⟩ := h.addr (by omega)
    injection he with he _ _
    subst he
    refine ⟨cs, ?_, h4⟩
    simp only [subV, if_neg (show ¬ c = lo by omega), Option.map_some, elemA, add_add] at h3 ⊢
    rw [Nat.add_mul] at h3
    exact h3
  · rw [hlen] at h0
    obtain ⟨a0, c', he⟩ := h.addr (by omega)
    injection he with he _ _
    subst he
    exact ⟨a0.add (lo * s.size), c - lo, by rw [hlen]; simp [subV, if_neg (show ¬ c = lo by omega)]⟩
theorem RdS.from_ (h : RdS s B w v l) {lo : Nat} (h2 : lo ≤ l.length) : RdS s B w (subV v lo l.length s.size) (l.drop lo) := by
  have := h.part (lo := lo) (hi := l.length) h2 (Nat.le_refl _)
  rwa [List.take_of_length_le (by simp)] at this
theorem RdS.to_ (h : RdS s B w v l) {hi : Nat} (h2 : hi ≤ l.length) : RdS s B w (subV v 0 hi s.size) (l.take hi) := by
  have := h.part (lo := 0) (hi := hi) (Nat.zero_le _) h2
  simpa using this
theorem Src.flat {P : Program} {n : Nat} {enc : α → List Value} {ok : α → Prop} {h0 : ∀ x, (enc x).length = n} {h1 : ∀ x, ∀ u ∈ enc x, u.oneCell' = true} {u e' : TypeId} (hu : P.underlying u = some (.slice e')) (h : RdS (Shape.flat n enc ok h0 h1) B w v l) : Src P w u n v l.length (l.flatMap enc) := by
  rw [List.flatMap_def]
  exact Src.rd (s := Shape.flat n enc ok h0 h1) hu h (by simp) fun i cs hi => by
    rw [List.getElem?_map, Option.map_eq_some_iff] at hi
    obtain ⟨x, hx, rfl⟩ := hi
    obtain ⟨cs, h2, h3, _⟩ := h.elem i x hx
    subst h3
    exact ⟨h0 x, h1 x, h2⟩
end

/-! ### Strings in order -/
section
variable {P : Program} {env : Env} {w : World} {ty t ty2 : TypeId} {x y : Operand} {l r : List UInt8} (hx : evO env x = some (St l)) (hy : evO env y = some (St r))
include hx hy
theorem Val.slss : Val P env w (.binOp .lss t x y ty2) ty (.bool (Op.bytesLess l r)) := fun _ a ho d pos after g => by simp [execOp, ho.eval hx, ho.eval hy, eqGuard, binOp, Op.stringOp, toList_mk]
theorem Val.sleq : Val P env w (.binOp .leq t x y ty2) ty (.bool (Op.bytesLess l r || (l == r))) := fun _ a ho d pos after g => by simp [execOp, ho.eval hx, ho.eval hy, eqGuard, binOp, Op.stringOp, toList_mk]
theorem Val.sgtr : Val P env w (.binOp .gtr t x y ty2) ty (.bool (!(Op.bytesLess l r || (l == r)))) := fun _ a ho d pos after g => by simp [execOp, ho.eval hx, ho.eval hy, eqGuard, binOp, Op.stringOp, toList_mk]
theorem Val.sgeq : Val P env w (.binOp .geq t x y ty2) ty (.bool (!Op.bytesLess l r)) := fun _ a ho d pos after g => by simp [execOp, ho.eval hx, ho.eval hy, eqGuard, binOp, Op.stringOp, toList_mk]
end
end Go.Eng

namespace Go.Eng
theorem take_step {α : Type} {a b : List α} {k : Nat} (ha : k < a.length) (hb : k < b.length) (h : a.take k = b.take k) (he : a[k] = b[k]) : a.take (k + 1) = b.take (k + 1) := by
  rw [List.take_succ_eq_append_getElem ha, List.take_succ_eq_append_getElem hb, h, he]
theorem take_ne {α : Type} {a b : List α} {k : Nat} (ha : k < a.length) (hb : k < b.length) (he : a[k] ≠ b[k]) : a ≠ b := fun e => by subst e; exact he rfl
theorem take_all {α : Type} {a b : List α} {k : Nat} (h : a.take k = b.take k) (ha : a.length ≤ k) (hb : b.length ≤ k) : a = b := by
  rwa [List.take_of_length_le ha, List.take_of_length_le hb] at h
theorem take_succ_map {α β : Type} (f : α → β) {l : List α} {k : Nat} (h : k < l.length) : (l.take (k + 1)).map f = (l.take k).map f ++ [f l[k]] := by
  rw [List.take_succ_eq_append_getElem h, List.map_append]; rfl
theorem take_succ_flatMap {α β : Type} (f : α → List β) {l : List α} {k : Nat} (h : k < l.length) : (l.take (k + 1)).flatMap f = (l.take k).flatMap f ++ f l[k] := by
  rw [List.take_succ_eq_append_getElem h, List.flatMap_append]; simp
theorem take_len {α : Type} {l : List α} {k : Nat} (h : k ≤ l.length) : (l.take k).length = k := by simp; omega
theorem forall_take_succ {α : Type} {p : α → Prop} {l : List α} {k : Nat} (h : k < l.length) (ih : ∀ x ∈ l.take k, p x) (hx : p l[k]) : ∀ x ∈ l.take (k + 1), p x := by
  rw [List.take_succ_eq_append_getElem h]
  intro x hm
  rcases List.mem_append.1 hm with hm | hm
  · exact ih x hm
  · simp at hm; subst hm; exact hx
theorem flatMap_len {α β : Type} {f : α → List β} {n : Nat} (h : ∀ x, (f x).length = n) (l : List α) : (l.flatMap f).length = l.length * n := by
  induction l with
  | nil => simp
  | cons x r ih => simp [List.flatMap_cons, ih, h, Nat.add_mul]; omega
end Go.Eng

namespace Silo
open Go Go.Eng

/-- So many bytes of a number, the highest first. -/
def be : Nat → Int → List UInt8
  | 0, _ => []
  | s + 1, n => u8I (n / 256 ^ s) :: be s n
/-- The number that bytes are. -/
def beNat (l : List UInt8) : Nat := l.foldl (fun n b => n * 256 + b.toNat) 0

theorem be_length : ∀ (s : Nat) (n : Int), (be s n).length = s
  | 0, _ => rfl
  | s + 1, n => by simp [be, be_length s n]
theorem be_drop : ∀ (s k : Nat) (n : Int), k ≤ s → (be s n).drop (s - k) = be k n
  | 0, k, n, h => by have : k = 0 := by omega
                     subst this; rfl
  | s + 1, k, n, h => by
    rcases Nat.lt_or_ge k (s + 1) with h1 | h1
    · have : s + 1 - k = (s - k) + 1 := by omega
      rw [this]; simp only [be, List.drop_succ_cons]; exact be_drop s k n (by omega)
    · have : k = s + 1 := by omega
      subst this; simp
theorem be_take_step (s k : Nat) (n : Int) (h : k + 1 ≤ s) : (be s n).take (s - k) = (be s n).take (s - (k + 1)) ++ [u8I (n / 256 ^ k)] := by
  have h1 : s - k = (s - (k + 1)) + 1 := by omega
  have hlt : s - (k + 1) < (be s n).length := by rw [be_length]; omega
  rw [h1, List.take_succ_eq_append_getElem hlt]
  congr 1
  have h2 := be_drop s (k + 1) n h
  have h3 : ((be s n).drop (s - (k + 1)))[0]? = some (u8I (n / 256 ^ k)) := by rw [h2]; rfl
  rw [List.getElem?_drop, Nat.add_zero, List.getElem?_eq_getElem hlt] at h3
  simpa using h3
theorem be_take_all (s : Nat) (n : Int) : (be s n).take s = be s n := List.take_of_length_le (by rw [be_length]; exact Nat.le_refl _)
theorem pow8 (j : Nat) : (2 : Int) ^ (8 * j) = 256 ^ j := by rw [Int.pow_mul]; rfl

theorem beNat_snoc (l : List UInt8) (b : UInt8) : beNat (l ++ [b]) = beNat l * 256 + b.toNat := by simp [beNat]
theorem beNat_lt (l : List UInt8) : beNat l < 256 ^ l.length := by
  have key : ∀ (l : List UInt8) (a k : Nat), a < 256 ^ k → l.foldl (fun n b => n * 256 + b.toNat) a < 256 ^ (k + l.length) := by
    intro l
    induction l with
    | nil => intro a k h; simpa using h
    | cons b r ih =>
      intro a k h
      have hb := b.toNat_lt
      have := ih (a * 256 + b.toNat) (k + 1) (by rw [Nat.pow_succ]; omega)
      simpa [Nat.add_assoc, Nat.add_comm 1] using this
  have := key l 0 0 (by simp)
  simpa [beNat] using this

theorem u8I_mod (m : Int) : u8I m = u8I (m % 256) := by unfold u8I; rw [Int.emod_emod_of_dvd _ (by exact ⟨1, rfl⟩)]
theorem div_mod_256 (p x : Int) (hp : 0 < p) : (x / p) % 256 = (x % (p * 256)) / p := by
  have h1 : x = p * (x / p) + x % p := (Int.mul_ediv_add_emod x p).symm
  have h2 : x / p = 256 * (x / p / 256) + (x / p) % 256 := (Int.mul_ediv_add_emod _ _).symm
  have hr0 := Int.emod_nonneg x (show p ≠ 0 by omega)
  have hr1 := Int.emod_lt_of_pos x hp
  have hs0 := Int.emod_nonneg (x / p) (show (256 : Int) ≠ 0 by omega)
  have hs1 := Int.emod_lt_of_pos (x / p) (show (0 : Int) < 256 by omega)
  generalize x / p % 256 = r at *
  generalize x % p = t at *
  generalize x / p / 256 = q at *
  have h3 : x = (p * r + t) + (p * 256) * q := by rw [h1, h2, Int.mul_add]; rw [← Int.mul_assoc]; omega
  have h4 : 0 ≤ p * r + t := by have := Int.mul_nonneg (Int.le_of_lt hp) hs0; omega
  have h5 : p * r + t < p * 256 := by
    have : p * r ≤ p * 255 := Int.mul_le_mul_of_nonneg_left (by omega) (by omega)
    omega
  rw [h3, Int.add_mul_emod_self_left, Int.emod_eq_of_lt h4 h5, Int.add_comm, Int.add_mul_ediv_left _ _ (by omega), Int.ediv_eq_zero_of_lt hr0 hr1]
  omega
/-- Numbers alike modulo 256^s have the same s bytes. -/
theorem be_congr : ∀ (s : Nat) (m n : Int), m % 256 ^ s = n % 256 ^ s → be s m = be s n
  | 0, _, _, _ => rfl
  | s + 1, m, n, h => by
    have hp : (0 : Int) < 256 ^ s := Int.pow_pos (by decide)
    have e : (256 : Int) ^ (s + 1) = 256 ^ s * 256 := Int.pow_succ _ _
    have hm : ∀ x : Int, x % 256 ^ s = (x % 256 ^ (s + 1)) % 256 ^ s := fun x => by
      rw [Int.emod_emod_of_dvd]; exact ⟨256, e⟩
    simp only [be]
    rw [u8I_mod (m / _), u8I_mod (n / _), div_mod_256 _ m hp, div_mod_256 _ n hp, ← e, h, be_congr s m n (by rw [hm m, hm n, h])]
end Silo

namespace Silo
open Go Go.Eng Go.RowKit

/-- A word, as a value. -/
abbrev W32 (n : Int) : Value := .int .u32 n
def w32 (n : Int) : Int := n % 4294967296
def x32 (m n : Int) : Int := (((BitVec.ofInt 32 m) ^^^ (BitVec.ofInt 32 n)).toNat : Int)
def o32 (m n : Int) : Int := (((BitVec.ofInt 32 m) ||| (BitVec.ofInt 32 n)).toNat : Int)
theorem wrap_u32 (n : Int) : IntKind.u32.wrap n = w32 n := by simp [IntKind.wrap, IntKind.signed, IntKind.bits, w32]
theorem wrap_bv (r : BitVec 32) : IntKind.u32.wrap (r.toNat : Int) = (r.toNat : Int) := by
  have := r.isLt
  rw [wrap_u32]; unfold w32; omega
theorem w32_add (a b x : Int) : w32 (w32 (a + b) + x) = w32 (a + w32 (b + x)) := by unfold w32; omega
theorem o32_comm (m n : Int) : o32 m n = o32 n m := by unfold o32; rw [BitVec.or_comm]
theorem ofInt_toNat (r : BitVec 32) : BitVec.ofInt 32 (r.toNat : Int) = r := by rw [BitVec.ofInt_natCast]; simp
theorem x32_assoc (a b c : Int) : x32 (x32 a b) c = x32 a (x32 b c) := by unfold x32; rw [ofInt_toNat, ofInt_toNat, BitVec.xor_assoc]
def rotr (x : Int) (n : Nat) : Int := o32 (x / 2 ^ n) (w32 (x * 2 ^ (32 - n)))
def not32 (x : Int) : Int := ((~~~ (BitVec.ofInt 32 x)).toNat : Int)
/-- The i-th of a list of words. -/
def gW (v : List Int) (i : Nat) : Int := v[i]?.getD 0
def mixS (v : List Int) (a b c d : Nat) (x y : Int) : List Int :=
  let v := v.set a (w32 (w32 (gW v a + gW v b) + x))
  let v := v.set d (rotr (x32 (gW v d) (gW v a)) 16)
  let v := v.set c (w32 (gW v c + gW v d))
  let v := v.set b (rotr (x32 (gW v b) (gW v c)) 12)
  let v := v.set a (w32 (w32 (gW v a + gW v b) + y))
  let v := v.set d (rotr (x32 (gW v d) (gW v a)) 8)
  let v := v.set c (w32 (gW v c + gW v d))
  v.set b (rotr (x32 (gW v b) (gW v c)) 7)
theorem mixS_length (v : List Int) (a b c d : Nat) (x y : Int) : (mixS v a b c d x y).length = v.length := by simp [mixS]
def rowsL : List (List Nat) := [[0, 1, 2, 3, 4, 5, 6, 7, 8, 9, 10, 11, 12, 13, 14, 15], [14, 10, 4, 8, 9, 15, 13, 6, 1, 12, 0, 2, 11, 7, 5, 3], [11, 8, 12, 0, 5, 2, 15, 13, 10, 14, 3, 6, 7, 1, 9, 4],
  [7, 9, 3, 1, 13, 12, 11, 14, 2, 6, 5, 10, 4, 0, 15, 8], [9, 0, 5, 7, 2, 4, 10, 15, 14, 1, 11, 12, 6, 8, 3, 13], [2, 12, 6, 10, 0, 11, 8, 3, 4, 13, 7, 5, 15, 14, 1, 9],
  [12, 5, 1, 15, 14, 13, 4, 10, 0, 7, 6, 3, 9, 2, 8, 11], [13, 11, 7, 14, 12, 1, 3, 9, 5, 0, 15, 4, 8, 6, 2, 10], [6, 15, 14, 9, 11, 3, 0, 8, 12, 2, 13, 7, 1, 4, 10, 5], [10, 2, 8, 4, 7, 6, 1, 5, 15, 11, 9, 14, 3, 12, 13, 0]]
def quartL : List (List Nat) := [[0, 4, 8, 12], [1, 5, 9, 13], [2, 6, 10, 14], [3, 7, 11, 15], [0, 5, 10, 15], [1, 6, 11, 12], [2, 7, 8, 13], [3, 4, 9, 14]]
def g2 (l : List (List Nat)) (i j : Nat) : Nat := (l[i]?.getD [])[j]?.getD 0
def beginsL : List Int := [1779033703, 3144134277, 1013904242, 2773480762, 1359893119, 2600822924, 528734635, 1541459225]
def roundS (m : List Int) (r : Nat) (v : List Int) (i : Nat) : List Int := mixS v (g2 quartL i 0) (g2 quartL i 1) (g2 quartL i 2) (g2 quartL i 3) (gW m (g2 rowsL r (2 * i))) (gW m (g2 rowsL r (2 * i + 1)))
def roundsS (m : List Int) (v : List Int) (r : Nat) : List Int := (List.range 8).foldl (roundS m r) v
def wordS (s : List UInt8) (m : List Int) (i : Nat) : List Int := m.set (i / 4) (o32 (gW m (i / 4)) (w32 (((s[i]?.getD 0).toNat : Int) * 2 ^ (8 * (i % 4)))))
def wordsS (s : List UInt8) : List Int := (List.range s.length).foldl (wordS s) (List.replicate 16 0)
def startV (h : List Int) (n : Int) (last : Bool) : List Int :=
  let v := h ++ beginsL
  let v := v.set 12 (x32 (gW v 12) (w32 n))
  let v := v.set 13 (x32 (gW v 13) (w32 (n / 4294967296)))
  if last then v.set 14 (not32 (gW v 14)) else v
def mixedS (h : List Int) (s : List UInt8) (n : Int) (last : Bool) : List Int := (List.range 10).foldl (roundsS (wordsS s)) (startV h n last)
def blockS (h : List Int) (s : List UInt8) (n : Int) (last : Bool) : List Int := (List.range 8).map fun i => x32 (x32 (gW h i) (gW (mixedS h s n last) i)) (gW (mixedS h s n last) (i + 8))
/-- All blocks: so many bytes have gone. -/
def absorb (h : List Int) (s : List UInt8) (n : Nat) : List Int :=
  if hl : 64 < s.length then absorb (blockS h (s.take 64) ((n + 64 : Nat) : Int) false) (s.drop 64) (n + 64) else blockS h s ((n + s.length : Nat) : Int) true
termination_by s.length
decreasing_by simp; omega
def outS (h : List Int) : List UInt8 := (List.range 32).map fun i => u8I (gW h (i / 4) / 2 ^ (8 * (i % 4)))
def digestS (s : List UInt8) : List UInt8 := outS (absorb (beginsL.set 0 (x32 (gW beginsL 0) 16842784)) s 0)
theorem digestS_length (s : List UInt8) : (digestS s).length = 32 := by simp [digestS, outS]
end Silo

namespace Go.Eng
open Go Go.RowKit Silo

/-- An array type: its length, its element type, that one's cells. -/
def arrT (P : Program) (t : TypeId) : Option (Nat × TypeId × Nat) :=
  match P.underlying t with
  | some (.array n e) => match P.info? e with
    | some i => some (n, e, i.size)
    | none => none
  | _ => none
section
variable {P : Program} {env : Env} {w : World} {ty t e : TypeId} {n sz : Nat}
theorem arrT_spec (h : arrT P t = some (n, e, sz)) : P.underlying t = some (.array n e) ∧ ∃ i, P.info? e = some i ∧ i.size = sz := by
  unfold arrT at h
  split at h
  · rename_i n' e' hu
    split at h
    · rename_i i hi
      simp at h
      obtain ⟨rfl, rfl, rfl⟩ := h
      exact ⟨hu, i, hi, rfl⟩
    · cases h
  · cases h
theorem Val.indexArr {x y : Operand} {b off : Nat} {k : IntKind} {i : Int} (ht : arrT P t = some (n, e, sz)) (hx : evO env x = some (.pointer (some ⟨b, off, none⟩))) (hy : evO env y = some (.int k i)) (h0 : 0 ≤ i) (h1 : i < n) :
    Val P env w (.indexAddr t x y) ty (.pointer (some ⟨b, off + i.toNat * sz, none⟩)) := fun _ a ho d pos after g => by
  obtain ⟨hu, inf, hi, hs⟩ := arrT_spec ht
  subst hs
  obtain ⟨m, rfl⟩ := Int.eq_ofNat_of_zero_le h0
  have h2 : m < n := by omega
  simp [execOp, ho.eval hx, ho.eval hy, Instr.indexAt, asIntOf, run_underlying hu, Instr.sureAddr, sizeOf, typeInfo, hi, h2, add_lit]
theorem Val.indexAgg1 {x y : Operand} {k : IntKind} {i : Int} {cs : List Value} {v : Value} (ht : arrT P t = some (n, e, 1)) (he : sclT P e = true) (hx : evO env x = some (.agg cs.toArray)) (hy : evO env y = some (.int k i)) (h0 : 0 ≤ i) (h1 : i < n) (hv : cs[i.toNat]? = some v) :
    Val P env w (.index t x y) ty v := fun _ a ho d pos after g => by
  obtain ⟨hu, inf, hi, hs⟩ := arrT_spec ht
  obtain ⟨m, rfl⟩ := Int.eq_ofNat_of_zero_le h0
  have h2 : m < n := by omega
  have hv' : cs[m]? = some v := by simpa using hv
  simp [execOp, ho.eval hx, ho.eval hy, Instr.index, asIntOf, run_underlying hu, sizeOf, typeInfo, hi, hs, h2, Go.part, run_isAgg_scl he, hv']
theorem Val.indexAggN {x y : Operand} {k : IntKind} {i : Int} {cs : List Value} (ht : arrT P t = some (n, e, sz)) (he : aggT P e = some sz) (hx : evO env x = some (.agg cs.toArray)) (hy : evO env y = some (.int k i)) (h0 : 0 ≤ i) (h1 : i < n) (hl : (i.toNat + 1) * sz ≤ cs.length) :
    Val P env w (.index t x y) ty (.agg ((cs.drop (i.toNat * sz)).take sz).toArray) := fun _ a ho d pos after g => by
  obtain ⟨hu, inf, hi, hs⟩ := arrT_spec ht
  subst hs
  obtain ⟨h3, inf', hi', _⟩ := run_isAgg_agg (w := w) he
  obtain ⟨m, rfl⟩ := Int.eq_ofNat_of_zero_le h0
  have h2 : m < n := by omega
  have hl' : m * inf.size + inf.size ≤ cs.length := by simpa [Nat.add_mul] using hl
  simp [execOp, ho.eval hx, ho.eval hy, Instr.index, asIntOf, run_underlying hu, sizeOf, typeInfo, hi, h2, Go.part, h3, List.extract_eq_take_drop]
/-- v[:], v[lo:] of an array in a block. -/
theorem Val.sliceArr {x : Operand} {b off : Nat} (ht : arrT P t = some (n, e, sz)) (hx : evO env x = some (.pointer (some ⟨b, off, none⟩))) (hn : 0 < n) : Val P env w (.slice t x none none none) ty (.slice (some ⟨b, off, none⟩) n n) := fun _ a ho d pos after g => by
  obtain ⟨hu, inf, hi, hs⟩ := arrT_spec ht
  subst hs
  simp [execOp, ho.eval hx, Instr.sliceAt, run_underlying hu, Instr.sureAddr, Instr.sliceBounds, sizeOf, typeInfo, hi, add_lit]
theorem Val.sliceArrFrom {x y : Operand} {b off : Nat} {k : IntKind} {m : Nat} (ht : arrT P t = some (n, e, sz)) (hx : evO env x = some (.pointer (some ⟨b, off, none⟩))) (hy : evO env y = some (.int k (m : Int))) (hn : m < n) : Val P env w (.slice t x (some y) none none) ty (.slice (some ⟨b, off + m * sz, none⟩) (n - m) (n - m)) := fun _ a ho d pos after g => by
  obtain ⟨hu, inf, hi, hs⟩ := arrT_spec ht
  subst hs
  have h1 : m ≤ n := by omega
  have h2 : n ≠ m := by omega
  simp [execOp, ho.eval hx, ho.eval hy, Instr.sliceAt, run_underlying hu, Instr.sureAddr, Instr.sliceBounds, Instr.sliceBound, asIntOf, sizeOf, typeInfo, hi, add_lit, h1, h2]

/-- copy(dst, src): dst in a block that is known whole, of elements of one cell. -/
theorem Eff.copyC {x y : Operand} {te : TypeId} {by_ : Nat} {z : List Value} {t2 : TypeId} {c : Nat → Nat} {i b o m cp : Nat} {cs news : List Value} {T : TypeId} {A : Addr} {m' cp' : Nat} (ht : slT P t = some (te, 1, by_, z)) (hx : evO env x = some (.slice (some ⟨b, o, none⟩) m cp)) (hy : evO env y = some (.slice (some A) m' cp')) (hb : BlkC c w i b cs T)
    (hc : cellsAt w A news) (hl : news.length = Nat.min m' m) (hfit : o + news.length ≤ cs.length) (h1 : ∀ v ∈ news, v.oneCell' = true) :
    Eff P env w (.call ⟨.builtin .copy, #[x, y], #[t, t2]⟩) ty (fun _ w' => ∃ c', Mv c w c' w' [i] ∧ BlkC c' w' i b (cs.take o ++ news ++ cs.drop (o + news.length)) T) :=
  Eff.of_run fun _ a ho d pos after g => by
    obtain ⟨hu, inf, zv, hi, hs, hb', hz', hc', hl'⟩ := slT_spec ht
    have hst := run_storeCells_fz (P := P) b o T (0, 0) news 0 cs.toArray w hb.blk (fun h => by simp at h) (by simpa using hfit) h1
    have hfc := run_firstCells_some (P := P) w 1 (Nat.min m' m) A m' cp' news (by rw [hl]; simp) hc
    simp only [Nat.add_zero] at hst
    have hS := Stored.row hb.blk (cs' := cs.take o ++ news ++ cs.drop (o + news.length))
    obtain ⟨h2, h3⟩ := hS.mv hb
    refine ⟨I ((Nat.min m' m : Nat) : Int), w.setRow b (cs.take o ++ news ++ cs.drop (o + news.length)).toArray, ?_, c, h3, h2⟩
    simp [execOp, resolve, invoke, builtin, Builtin.copy_, ho.eval hx, ho.eval hy, run_underlying hu, sizeOf, typeInfo, hi, hs, Builtin.lenOf, hfc, hst, goInt]
end

/-- A struct or array out of the middle of a block. -/
theorem Val.loadSub {P : Program} {env : Env} {w : World} {ty t : TypeId} {n : Nat} {x : Operand} {b off : Nat} {cs : List Value} {T : TypeId} (ht : aggT P t = some n) (hx : evO env x = some (.pointer (some ⟨b, off, none⟩))) (hb : Blk w b cs T) (hl : off + n ≤ cs.length) : Val P env w (.load t x) ty (.agg ((cs.drop off).take n).toArray) :=
  Val.loadN ht hx (fun j v hv => by
    rw [add_lit, hb.cell]
    rw [List.getElem?_take] at hv
    split at hv
    · rwa [List.getElem?_drop] at hv
    · cases hv) (by simp; omega)
/-- A struct or array stored into the middle of a block. -/
theorem Eff.storeSubC {P : Program} {env : Env} {w : World} {ty t : TypeId} {c : Nat → Nat} {n : Nat} {x y : Operand} {i b off : Nat} {cs cs' : List Value} {T : TypeId} (ht : aggT P t = some n) (hx : evO env x = some (.pointer (some ⟨b, off, none⟩))) (hy : evO env y = some (.agg cs'.toArray)) (hb : BlkC c w i b cs T)
    (hl' : cs'.length = n) (hfit : off + n ≤ cs.length) (h1 : ∀ v ∈ cs', v.oneCell' = true) : Eff P env w (.store t x y) ty (fun _ w' => BlkC c w' i b (cs.take off ++ cs' ++ cs.drop (off + n)) T ∧ Mv c w c w' [i]) :=
  Eff.of_skip fun _ a ho d pos after g => by
    obtain ⟨_, inf, hinf, hsz⟩ := run_isAgg_agg (w := w) ht
    have hst := run_storeCells_fz (P := P) b off T (0, 0) cs' 0 cs.toArray w hb.blk (fun h => by simp at h) (by simp; omega) h1
    simp only [Nat.add_zero, hl'] at hst
    have hS := (Stored.row hb.blk (cs' := cs.take off ++ cs' ++ cs.drop (off + n))).mv hb
    refine ⟨_, ?_, hS⟩
    simp only [execOp, Instr.storeAt, storeVar, ho.eval hx, ho.eval hy, Instr.sureAddr, Sem.run_bind, Sem.run_pure, Result.andThen_ok, sizeOf, typeInfo, program, Sem.run, hinf, Value.cells, List.size_toArray, hl', hsz]
    simp [hst]

/-! ### Words -/
theorem gW_get {l : List Int} {j : Nat} (h : j < l.length) : (l.map W32)[j]? = some (W32 (gW l j)) := by
  rw [List.getElem?_map, List.getElem?_eq_getElem h, gW, List.getElem?_eq_getElem h]; rfl
theorem W_set (l : List Int) (j : Nat) (n : Int) : (l.map W32).set j (W32 n) = (l.set j n).map W32 := by rw [List.map_set]
section
variable {P : Program} {env : Env} {w : World} {ty t ty2 : TypeId} {x y : Operand} {c : Nat → Nat}
theorem Val.loadW {b j : Nat} {l : List Int} {post : List Value} {T : TypeId} (ht : sclT P t = true) (hx : evO env x = some (.pointer (some ⟨b, 0 + j * 1, none⟩))) (hb : Blk w b (l.map W32 ++ post) T) (hj : j < l.length) : Val P env w (.load t x) ty (W32 (gW l j)) :=
  Val.loadB ht (by rw [hx]; simp) hb (by rw [List.getElem?_append_left (by simpa using hj), gW_get hj]) (i := j)
theorem Eff.storeW {i b j : Nat} {l : List Int} {post : List Value} {n : Int} {T : TypeId} (ht : sclT P t = true) (hx : evO env x = some (.pointer (some ⟨b, 0 + j * 1, none⟩))) (hy : evO env y = some (W32 n)) (hb : BlkC c w i b (l.map W32 ++ post) T) (hj : j < l.length) :
    Eff P env w (.store t x y) ty (fun _ w' => BlkC c w' i b ((l.set j n).map W32 ++ post) T ∧ Mv c w c w' [i]) := by
  have h := Eff.storeC (P := P) (env := env) (ty := ty) (j := j) ht (by rw [hx]; simp) hy rfl rfl hb (by rw [Nat.blt_eq]; simp; omega)
  rwa [List.set_append_left _ _ (by simpa using hj), W_set] at h
section
variable {m n : Int} (hx : evO env x = some (W32 m)) (hy : evO env y = some (W32 n))
include hx hy
theorem Val.add_u32 : Val P env w (.binOp .add t x y ty2) ty (W32 (w32 (m + n))) := by
  have := Val.add (P := P) (w := w) (ty := ty) (t := t) (ty2 := ty2) hx hy
  rwa [wrap_u32] at this
theorem Val.xor_u32 : Val P env w (.binOp .xor t x y ty2) ty (W32 (x32 m n)) := by
  have := Val.bitop (P := P) (w := w) (ty := ty) (t := t) (ty2 := ty2) (op := .xor) hx hy (.inr (.inr ⟨rfl, rfl⟩))
  have e : IntKind.u32.wrap ((BitVec.ofInt IntKind.u32.bits m ^^^ BitVec.ofInt IntKind.u32.bits n).toNat : Int) = x32 m n := wrap_bv _
  rwa [e] at this
theorem Val.or_u32 : Val P env w (.binOp .or t x y ty2) ty (W32 (o32 m n)) := by
  have := Val.bitop (P := P) (w := w) (ty := ty) (t := t) (ty2 := ty2) (op := .or) hx hy (.inl ⟨rfl, rfl⟩)
  have e : IntKind.u32.wrap ((BitVec.ofInt IntKind.u32.bits m ||| BitVec.ofInt IntKind.u32.bits n).toNat : Int) = o32 m n := wrap_bv _
  rwa [e] at this
end
theorem Val.shl_u32 {k2 : IntKind} {m s : Int} (hx : evO env x = some (W32 m)) (hy : evO env y = some (.int k2 s)) (h0 : 0 ≤ s) (hs : s.toNat ≤ 32) : Val P env w (.binOp .shl t x y ty2) ty (W32 (w32 (m * 2 ^ s.toNat))) := by
  have := Val.shl (P := P) (w := w) (ty := ty) (t := t) (ty2 := ty2) hx hy h0 hs
  rwa [wrap_u32] at this
theorem not32_eq (m : Int) : x32 4294967295 m = not32 m := by
  have : BitVec.ofInt 32 4294967295 = BitVec.allOnes 32 := by decide
  unfold x32 not32; rw [this, BitVec.allOnes_xor]
theorem Val.un_xor {m : Int} (hx : evO env x = some (W32 m)) : Val P env w (.unOp .xor t x) ty (W32 (not32 m)) := fun _ a ho d pos after g => by
  have h : (Op.intBits .xor .u32 4294967295 m : Sem Value) = pure (W32 (x32 4294967295 m)) := by
    have e : IntKind.u32.wrap ((BitVec.ofInt IntKind.u32.bits 4294967295 ^^^ BitVec.ofInt IntKind.u32.bits m).toNat : Int) = x32 4294967295 m := wrap_bv _
    simp only [Op.intBits]
    rw [e]
  simp only [execOp, ho.eval hx, Op.unary]
  simp [IntKind.signed, IntKind.max, IntKind.bits, h, not32_eq]
end
end Go.Eng

namespace Go.Proofs.Ythlfolpcmcejkaa.TryT
open Go Go.Eng

theorem agg26 : aggT Go.Proofs.Try.prog 26 = some 3 := by kernel_rfl
theorem agg31 : aggT Go.Proofs.Try.prog 31 = some 6 := by kernel_rfl
theorem agg66 : aggT Go.Proofs.Try.prog 66 = some 2 := by kernel_rfl
theorem agg86 : aggT Go.Proofs.Try.prog 86 = some 2 := by kernel_rfl
theorem flat66 : flatT Go.Proofs.Try.prog 66 = some [0, 0] := by kernel_rfl
theorem fld26_0 : fldT Go.Proofs.Try.prog 26 0 = some 0 := by kernel_rfl
theorem fld26_1 : fldT Go.Proofs.Try.prog 26 1 = some 1 := by kernel_rfl
theorem fld26_2 : fldT Go.Proofs.Try.prog 26 2 = some 2 := by kernel_rfl
theorem fld31_0 : fldT Go.Proofs.Try.prog 31 0 = some 0 := by kernel_rfl
theorem fld31_1 : fldT Go.Proofs.Try.prog 31 1 = some 1 := by kernel_rfl
theorem fld31_2 : fldT Go.Proofs.Try.prog 31 2 = some 2 := by kernel_rfl
theorem fld31_3 : fldT Go.Proofs.Try.prog 31 3 = some 3 := by kernel_rfl
theorem fld31_4 : fldT Go.Proofs.Try.prog 31 4 = some 4 := by kernel_rfl
theorem fld31_5 : fldT Go.Proofs.Try.prog 31 5 = some 5 := by kernel_rfl
theorem fld66_0 : fldT Go.Proofs.Try.prog 66 0 = some 0 := by kernel_rfl
theorem fld66_1 : fldT Go.Proofs.Try.prog 66 1 = some 1 := by kernel_rfl
theorem fld72_0 : fldT Go.Proofs.Try.prog 72 0 = some 0 := by kernel_rfl
theorem fld72_1 : fldT Go.Proofs.Try.prog 72 1 = some 1 := by kernel_rfl
theorem fld77_0 : fldT Go.Proofs.Try.prog 77 0 = some 0 := by kernel_rfl
theorem fld77_1 : fldT Go.Proofs.Try.prog 77 1 = some 1 := by kernel_rfl
theorem fld86_0 : fldT Go.Proofs.Try.prog 86 0 = some 0 := by kernel_rfl
theorem fld86_1 : fldT Go.Proofs.Try.prog 86 1 = some 1 := by kernel_rfl
theorem pf3 : plainFn Go.Proofs.Try.prog 3 = true := by kernel_rfl
theorem pf14 : plainFn Go.Proofs.Try.prog 14 = true := by kernel_rfl
theorem pf15 : plainFn Go.Proofs.Try.prog 15 = true := by kernel_rfl
theorem pf16 : plainFn Go.Proofs.Try.prog 16 = true := by kernel_rfl
theorem pf17 : plainFn Go.Proofs.Try.prog 17 = true := by kernel_rfl
theorem pf18 : plainFn Go.Proofs.Try.prog 18 = true := by kernel_rfl
theorem pf19 : plainFn Go.Proofs.Try.prog 19 = true := by kernel_rfl
theorem pf20 : plainFn Go.Proofs.Try.prog 20 = true := by kernel_rfl
theorem pf21 : plainFn Go.Proofs.Try.prog 21 = true := by kernel_rfl
theorem pf22 : plainFn Go.Proofs.Try.prog 22 = true := by kernel_rfl
theorem pf23 : plainFn Go.Proofs.Try.prog 23 = true := by kernel_rfl
theorem pf24 : plainFn Go.Proofs.Try.prog 24 = true := by kernel_rfl
theorem pf25 : plainFn Go.Proofs.Try.prog 25 = true := by kernel_rfl
theorem pf26 : plainFn Go.Proofs.Try.prog 26 = true := by kernel_rfl
theorem pf27 : plainFn Go.Proofs.Try.prog 27 = true := by kernel_rfl
theorem pf28 : plainFn Go.Proofs.Try.prog 28 = true := by kernel_rfl
theorem pf29 : plainFn Go.Proofs.Try.prog 29 = true := by kernel_rfl
theorem pf30 : plainFn Go.Proofs.Try.prog 30 = true := by kernel_rfl
theorem pf31 : plainFn Go.Proofs.Try.prog 31 = true := by kernel_rfl
theorem pf32 : plainFn Go.Proofs.Try.prog 32 = true := by kernel_rfl
theorem pf33 : plainFn Go.Proofs.Try.prog 33 = true := by kernel_rfl
theorem pf34 : plainFn Go.Proofs.Try.prog 34 = true := by kernel_rfl
theorem pf35 : plainFn Go.Proofs.Try.prog 35 = true := by kernel_rfl
theorem pf36 : plainFn Go.Proofs.Try.prog 36 = true := by kernel_rfl
theorem pf37 : plainFn Go.Proofs.Try.prog 37 = true := by kernel_rfl
theorem pf38 : plainFn Go.Proofs.Try.prog 38 = true := by kernel_rfl
theorem pf39 : plainFn Go.Proofs.Try.prog 39 = true := by kernel_rfl
theorem pf40 : plainFn Go.Proofs.Try.prog 40 = true := by kernel_rfl
theorem pf41 : plainFn Go.Proofs.Try.prog 41 = true := by kernel_rfl
theorem pf42 : plainFn Go.Proofs.Try.prog 42 = true := by kernel_rfl
theorem pf43 : plainFn Go.Proofs.Try.prog 43 = true := by kernel_rfl
theorem pf44 : plainFn Go.Proofs.Try.prog 44 = true := by kernel_rfl
theorem pf45 : plainFn Go.Proofs.Try.prog 45 = true := by kernel_rfl
theorem pf46 : plainFn Go.Proofs.Try.prog 46 = true := by kernel_rfl
theorem pf47 : plainFn Go.Proofs.Try.prog 47 = true := by kernel_rfl
theorem pf48 : plainFn Go.Proofs.Try.prog 48 = true := by kernel_rfl
theorem pf49 : plainFn Go.Proofs.Try.prog 49 = true := by kernel_rfl
theorem pf50 : plainFn Go.Proofs.Try.prog 50 = true := by kernel_rfl
theorem pf51 : plainFn Go.Proofs.Try.prog 51 = true := by kernel_rfl
theorem pf52 : plainFn Go.Proofs.Try.prog 52 = true := by kernel_rfl
theorem pf53 : plainFn Go.Proofs.Try.prog 53 = true := by kernel_rfl
theorem pf54 : plainFn Go.Proofs.Try.prog 54 = true := by kernel_rfl
theorem pf55 : plainFn Go.Proofs.Try.prog 55 = true := by kernel_rfl
theorem pf56 : plainFn Go.Proofs.Try.prog 56 = true := by kernel_rfl
theorem pf57 : plainFn Go.Proofs.Try.prog 57 = true := by kernel_rfl
theorem pf58 : plainFn Go.Proofs.Try.prog 58 = true := by kernel_rfl
theorem pf59 : plainFn Go.Proofs.Try.prog 59 = true := by kernel_rfl
theorem pf60 : plainFn Go.Proofs.Try.prog 60 = true := by kernel_rfl
theorem pf61 : plainFn Go.Proofs.Try.prog 61 = true := by kernel_rfl
theorem pf62 : plainFn Go.Proofs.Try.prog 62 = true := by kernel_rfl
theorem pf63 : plainFn Go.Proofs.Try.prog 63 = true := by kernel_rfl
theorem pf64 : plainFn Go.Proofs.Try.prog 64 = true := by kernel_rfl
theorem pf65 : plainFn Go.Proofs.Try.prog 65 = true := by kernel_rfl
theorem pf66 : plainFn Go.Proofs.Try.prog 66 = true := by kernel_rfl
theorem pf67 : plainFn Go.Proofs.Try.prog 67 = true := by kernel_rfl
theorem pf68 : plainFn Go.Proofs.Try.prog 68 = true := by kernel_rfl
theorem pf69 : plainFn Go.Proofs.Try.prog 69 = true := by kernel_rfl
theorem pf70 : plainFn Go.Proofs.Try.prog 70 = true := by kernel_rfl
theorem pf71 : plainFn Go.Proofs.Try.prog 71 = true := by kernel_rfl
theorem pf72 : plainFn Go.Proofs.Try.prog 72 = true := by kernel_rfl
theorem pf73 : plainFn Go.Proofs.Try.prog 73 = true := by kernel_rfl
theorem pf74 : plainFn Go.Proofs.Try.prog 74 = true := by kernel_rfl
theorem pf75 : plainFn Go.Proofs.Try.prog 75 = true := by kernel_rfl
theorem pf76 : plainFn Go.Proofs.Try.prog 76 = true := by kernel_rfl
theorem pf77 : plainFn Go.Proofs.Try.prog 77 = true := by kernel_rfl
theorem pf78 : plainFn Go.Proofs.Try.prog 78 = true := by kernel_rfl
theorem pf79 : plainFn Go.Proofs.Try.prog 79 = true := by kernel_rfl
theorem scl3 : sclT Go.Proofs.Try.prog 3 = true := by kernel_rfl
theorem scl4 : sclT Go.Proofs.Try.prog 4 = true := by kernel_rfl
theorem scl5 : sclT Go.Proofs.Try.prog 5 = true := by kernel_rfl
theorem scl9 : sclT Go.Proofs.Try.prog 9 = true := by kernel_rfl
theorem scl22 : sclT Go.Proofs.Try.prog 22 = true := by kernel_rfl
theorem scl23 : sclT Go.Proofs.Try.prog 23 = true := by kernel_rfl
theorem scl24 : sclT Go.Proofs.Try.prog 24 = true := by kernel_rfl
theorem scl29 : sclT Go.Proofs.Try.prog 29 = true := by kernel_rfl
theorem sl22 : slT Go.Proofs.Try.prog 22 = some (31, 6, 96, [.int .i64 0, .int .i64 0, .string ⟨[].toArray⟩, .string ⟨[].toArray⟩, .slice none 0 0, .slice none 0 0]) := by kernel_rfl
theorem sl23 : slT Go.Proofs.Try.prog 23 = some (9, 1, 16, [.string ⟨[].toArray⟩]) := by kernel_rfl
theorem sl24 : slT Go.Proofs.Try.prog 24 = some (3, 1, 8, [.int .i64 0]) := by kernel_rfl
theorem sl29 : slT Go.Proofs.Try.prog 29 = some (66, 2, 16, [.int .i64 0, .int .i64 0]) := by kernel_rfl
theorem sl38 : slT Go.Proofs.Try.prog 38 = some (5, 1, 1, [.int .u8 0]) := by kernel_rfl
theorem zero3 : zeroT Go.Proofs.Try.prog 3 = some [.int .i64 0] := by kernel_rfl
theorem zero22 : zeroT Go.Proofs.Try.prog 22 = some [.slice none 0 0] := by kernel_rfl
theorem zero26 : zeroT Go.Proofs.Try.prog 26 = some [.slice none 0 0, .slice none 0 0, .slice none 0 0] := by kernel_rfl
theorem zero31 : zeroT Go.Proofs.Try.prog 31 = some [.int .i64 0, .int .i64 0, .string ⟨[].toArray⟩, .string ⟨[].toArray⟩, .slice none 0 0, .slice none 0 0] := by kernel_rfl
theorem zero66 : zeroT Go.Proofs.Try.prog 66 = some [.int .i64 0, .int .i64 0] := by kernel_rfl
theorem zero72 : zeroT Go.Proofs.Try.prog 72 = some [.string ⟨[].toArray⟩, .bool false] := by kernel_rfl
theorem zero77 : zeroT Go.Proofs.Try.prog 77 = some [.string ⟨[].toArray⟩, .bool false] := by kernel_rfl
theorem zero86 : zeroT Go.Proofs.Try.prog 86 = some [.int .i64 0, .int .i64 0] := by kernel_rfl
theorem mixed : Go.Proofs.Try.prog.follows .mixedOrders = true := by kernel_rfl
end Go.Proofs.Ythlfolpcmcejkaa.TryT
