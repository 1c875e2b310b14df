/- A light engine for walks: frames as short lists of slots, one lemma an operation, joins at short-circuit tests. No condition. -/
import Derived.WalkKit
import Derived.Deep.Quiet
import Derived.Deep.LoopGhost
import Derived.Sort.LoopGhostIn
import Derived.OrdersIn
import Derived.TacticsIn
import Derived.RangeFuncLeaves
import Derived.RangeFuncRecord
set_option linter.unusedSimpArgs false
set_option linter.unusedVariables false
namespace Go.Eng
open Go Go.RowKit

abbrev Env := List (Nat × Value)

/-- Slot 4000000 is no slot: it tells which calls are deferred. -/
def look : Env → Nat → Option Value
  | [], _ => none
  | (k, v) :: r, n => bif Nat.beq k n then (bif Nat.beq k 4000000 then none else some v) else look r n
def lookM : Env → Option Value
  | [] => none
  | (k, v) :: r => bif Nat.beq k 4000000 then some v else lookM r
def marksOf : Value → List Deferred
  | .tuple vs => vs.toList.filterMap fun | .int _ D => some { target := .collected D.toNat, args := #[] } | _ => none
  | _ => []
theorem look_mark : ∀ (e : Env), look e 4000000 = none
  | [] => rfl
  | (k, v) :: r => by
    unfold look
    cases hb : Nat.beq k 4000000 with
    | true => rfl
    | false => simpa using look_mark r
theorem look_hit {k : Nat} {v : Value} {r : Env} (h : Nat.beq k 4000000 = false) : look ((k, v) :: r) k = some v := by
  unfold look; simp [h]

def evO (env : Env) : Operand → Option Value
  | .tmp t => look env t
  | .const v => some v
  | .global g => some (.pointer (some ⟨g, 0, none⟩))
  | .func f => some (.func (.func f) #[] #[])

def evL (env : Env) : List Operand → Option (List Value)
  | [] => some []
  | x :: r => match evO env x with
    | some v => match evL env r with
      | some vs => some (v :: vs)
      | none => none
    | none => none

structure EnvOk (n : Nat) (env : Env) (a : Act) : Prop where
  bound : n ≤ 4000000
  defers : ∀ v, lookM env = some v → a.defers = marksOf v
  size : a.tmps.size = n
  vals : ∀ k v, look env k = some v → a.tmps[k]? = some v

theorem EnvOk.eval {n : Nat} {env : Env} {a : Act} (h : EnvOk n env a) {x : Operand} {v : Value} (hx : evO env x = some v) : a.eval x = v := by
  cases x with
  | tmp t =>
    have := h.vals t v hx
    simp [Act.eval, Array.getD_eq_getD_getElem?, this]
  | const u => simpa [evO, Act.eval] using hx
  | «global» g => simpa [evO, Act.eval] using hx
  | func f => simpa [evO, Act.eval] using hx

theorem EnvOk.evalL {n : Nat} {env : Env} {a : Act} (h : EnvOk n env a) : ∀ {xs : List Operand} {vs : List Value}, evL env xs = some vs → xs.map a.eval = vs
  | [], vs, hx => by simp [evL] at hx; simp [hx]
  | x :: r, vs, hx => by
    unfold evL at hx
    split at hx
    · rename_i v hv
      split at hx
      · rename_i us hu
        simp at hx
        subst hx
        simp [h.eval hv, h.evalL hu]
      · cases hx
    · cases hx

theorem beq_of_blt {d n : Nat} (hn : n ≤ 4000000) (hd : Nat.blt d n = true) : Nat.beq d 4000000 = false := by
  have : d < n := by simpa [Nat.blt_eq] using hd
  cases hb : Nat.beq d 4000000 with
  | false => rfl
  | true => have := Nat.eq_of_beq_eq_true hb; omega
theorem EnvOk.put {n : Nat} {env : Env} {a : Act} (h : EnvOk n env a) {d : Nat} (hd : Nat.blt d n = true) (v : Value) : EnvOk n ((d, v) :: env) (a.put (some d) v) := by
  have hm := beq_of_blt h.bound hd
  refine ⟨h.bound, fun u hu => h.defers u ?_, by simpa [Act.put] using h.size, fun k u hk => ?_⟩
  · unfold lookM at hu; rw [hm] at hu; exact hu
  have hd' : d < a.tmps.size := by rw [h.size]; simpa [Nat.blt_eq] using hd
  unfold look at hk
  cases hb : Nat.beq d k with
  | true =>
    rw [hb] at hk
    have e : d = k := Nat.eq_of_beq_eq_true hb
    subst e
    rw [hm] at hk
    simp at hk
    subst hk
    simp [Act.put, hd']
  | false =>
    rw [hb] at hk
    have hne : d ≠ k := Nat.ne_of_beq_eq_false hb
    simp at hk
    simpa [Act.put, Array.getElem?_setIfInBounds_ne hne] using h.vals k u hk

structure Sub (e' e : Env) : Prop where
  vals : ∀ k v, look e' k = some v → look e k = some v
  marks : ∀ v, lookM e' = some v → lookM e = some v
theorem Sub.refl (e : Env) : Sub e e := ⟨fun _ _ h => h, fun _ h => h⟩
theorem Sub.nil (e : Env) : Sub [] e := ⟨fun _ _ h => by simp [look] at h, fun _ h => by simp [lookM] at h⟩
theorem Sub.cons {e' e : Env} {k : Nat} {v : Value} (h : look e k = some v) (hs : Sub e' e) : Sub ((k, v) :: e') e := by
  have hm : Nat.beq k 4000000 = false := by
    cases hb : Nat.beq k 4000000 with
    | false => rfl
    | true =>
      have e : k = 4000000 := Nat.eq_of_beq_eq_true hb
      subst e
      rw [look_mark] at h; cases h
  refine ⟨fun j u hj => ?_, fun u hu => hs.marks u ?_⟩
  · unfold look at hj
    cases hb : Nat.beq k j with
    | true =>
      rw [hb] at hj
      have e : k = j := Nat.eq_of_beq_eq_true hb
      subst e
      rw [hm] at hj
      simp at hj
      rw [← hj]; exact h
    | false => rw [hb] at hj; exact hs.vals j u (by simpa using hj)
  · unfold lookM at hu; rw [hm] at hu; exact hu
theorem Sub.consM {e' e : Env} {v : Value} (h : lookM e = some v) (hs : Sub e' e) : Sub ((4000000, v) :: e') e := by
  refine ⟨fun j u hj => ?_, fun u hu => ?_⟩
  · unfold look at hj
    cases hb : Nat.beq 4000000 j with
    | true => rw [hb] at hj; simp at hj
    | false => rw [hb] at hj; exact hs.vals j u (by simpa using hj)
  · have : v = u := by simpa [lookM] using hu
    rw [← this]; exact h
theorem EnvOk.sub {n : Nat} {env env' : Env} {a : Act} (h : EnvOk n env a) (hs : Sub env' env) : EnvOk n env' a := ⟨h.bound, fun v hv => h.defers v (hs.marks v hv), h.size, fun k v hk => h.vals k v (hs.vals k v hk)⟩
def freshB (e : Env) : Nat → Env → Bool
  | 0, _ => true
  | m + 1, (k, _) :: r => (match look e k with | none => true | some _ => false) && !(Nat.beq k 4000000) && freshB e m r
  | _ + 1, [] => true
/-- The last entries of an env are part of it where the newer slots are new. -/
theorem Sub.drop (e : Env) : ∀ (m : Nat) (E : Env), E.drop m = e → freshB e m E = true → Sub e E
  | 0, E, he, _ => by simp at he; subst he; exact Sub.refl _
  | m + 1, [], he, _ => by simp at he; subst he; exact Sub.nil _
  | m + 1, (k, u) :: r, he, hf => by
    simp only [freshB, Bool.and_eq_true, Bool.not_eq_true'] at hf
    obtain ⟨⟨hf1, hm⟩, hf2⟩ := hf
    have ih := Sub.drop e m r (by simpa using he) hf2
    refine ⟨fun j v hj => ?_, fun v hv => ?_⟩
    · unfold look
      cases hb : Nat.beq k j with
      | true =>
        have e' : k = j := Nat.eq_of_beq_eq_true hb
        subst e'
        rw [hj] at hf1
        simp at hf1
      | false => simpa using ih.vals j v hj
    · unfold lookM; rw [hm]; exact ih.marks v hv

/-! ### What a region and a piece of code come to -/

abbrev Kont := Env → World → Prop

structure Cx where
  P : Program
  n : Nat
  res : Array ResultVar
  S : Value → World → Prop
  rnd : Option Nat
def FW (ro : Option Nat) : Fence := { Fence.wide with round := ro }

def findK : List (Nat × Kont) → Nat → Option Kont
  | [], _ => none
  | (k, v) :: r, n => bif Nat.beq k n then some v else findK r n

/-- What a function hands back, by its result slots. -/
def resultsOf (P : Program) (res : Array ResultVar) (a : Act) (w : World) (v : Value) : Prop :=
  ∀ fn : Func, fn.results = res → (results fn a.tmps).run P w = .ok v w

/-- The calls that are deferred by ranges over functions, taken: there are none. -/
def Takes : List Deferred → World → World → Prop
  | [], w, w' => w' = w
  | d :: ds, w, w' => ∃ r, d.target = .collected r ∧ w.heap[r]? = some (.deferred (some [])) ∧ Takes ds (w.putObj r (.deferred none)) w'
def QQ (c : Cx) (B : List (Nat × Kont)) (N : Kont) : Exit → Act → World → Prop
  | .normal, a, w => ∃ env, EnvOk c.n env a ∧ N env w
  | .exit id, a, w => ∃ K env, findK B id = some K ∧ EnvOk c.n env a ∧ K env w
  | .ret, a, w => ∃ w', (Takes a.defers w w' ∧ (c.rnd = none ∨ a.defers = [])) ∧ ∃ v, resultsOf c.P c.res a w' v ∧ c.S v w'
  | _, _, _ => False

def WC (c : Cx) (B : List (Nat × Kont)) (x : Code) (env : Env) (w : World) (N : Kont) : Prop := ∀ a, EnvOk c.n env a → x.wpIn (FW c.rnd) 0 c.P (QQ c B N) a w
def WR (c : Cx) (B : List (Nat × Kont)) (ops : Array Oper) (l : List Oper) (env : Env) (w : World) (N : Kont) : Prop :=
  ∀ a, EnvOk c.n env a → wpListIn (FW c.rnd) 0 c.P ops (QQ c B N) l a w

def Ret (S : Value → World → Prop) : Ending → World → Prop := fun e w' => ∃ v, e = .returned v ∧ S v w'

theorem Ret.mono {P : Program} {f : FuncId} {args : Array Value} {w : World} {S S' : Value → World → Prop} (h : Calls P f args w (Ret S)) (hr : ∀ v w', S v w' → S' v w') : Calls P f args w (Ret S') :=
  Calls.mono h fun _ _ ⟨v, he, hs⟩ => ⟨v, he, hr _ _ hs⟩

def seqFrom (i : Nat) : List Value → Env
  | [] => []
  | v :: r => (i, v) :: seqFrom (i + 1) r

theorem look_seqFrom : ∀ (l : List Value) (i k : Nat) (v : Value), look (seqFrom i l) k = some v → i ≤ k ∧ l[k - i]? = some v
  | [], i, k, v, h => by simp [seqFrom, look] at h
  | u :: r, i, k, v, h => by
    unfold seqFrom look at h
    cases hb : Nat.beq i k with
    | true =>
      rw [hb] at h
      have e : i = k := Nat.eq_of_beq_eq_true hb
      subst e
      cases hm : Nat.beq i 4000000 with
      | true => rw [hm] at h; simp at h
      | false => rw [hm] at h; simpa using h
    | false =>
      rw [hb] at h
      have hne : i ≠ k := Nat.ne_of_beq_eq_false hb
      obtain ⟨h1, h2⟩ := look_seqFrom r (i + 1) k v (by simpa using h)
      refine ⟨by omega, ?_⟩
      have : k - i = (k - (i + 1)) + 1 := by omega
      rw [this]; simpa using h2

theorem leaves_of_takes {P : Program} {fn : Func} {tmps : Array Value} {S : Value → World → Prop} {v : Value} : ∀ (ds : List Deferred) (w w' : World), Takes ds w w' → (results fn tmps).run P w' = .ok v w' → S v w' → LeavesInM (FW none) 0 P fn tmps (Ret S) ds .returning w
  | [], w, w', ht, hr, hS => by
    have : w' = w := ht
    subst this
    exact ⟨v, hr, v, rfl, hS⟩
  | d :: ds, w, w', ht, hr, hS => by
    obtain ⟨r, h1, h2, h3⟩ := ht
    refine ⟨by simp, .inl ⟨r, _, h1, run_takeDeferred h2, leaves_of_takes ds _ _ h3 hr hS⟩⟩

/-- The slots when a function is entered: its parameters; no call is deferred. -/
def env0 (args : List Value) : Env := (4000000, .tuple #[]) :: seqFrom 0 args
/-- ENTER: a function's body, its parameters in the first slots. -/
theorem enter {P : Program} {f : FuncId} {fn : Func} {x : Code} {args : List Value} {w : World} {S : Value → World → Prop} {n : Nat} {res : Array ResultVar}
    (hf : P.funcs[f]? = some fn) (hb : fn.body = some x) (hn : fn.ntmps = n) (hr : fn.results = res) (hl : (Nat.ble args.length n && Nat.ble n 4000000) = true)
    (h : WC ⟨P, n, res, S, none⟩ [] x ((4000000, .tuple #[]) :: seqFrom 0 args) w (fun e w => ∃ m w', lookM e = some m ∧ Takes (marksOf m) w w' ∧ res = #[] ∧ S (.tuple #[]) w')) : Calls P f args.toArray w (Ret S) := by
  subst hn hr
  simp only [Bool.and_eq_true, Nat.ble_eq] at hl
  obtain ⟨hl', hbd⟩ := hl
  refine (callsIn_wide (n := 0)).1 (callsIn_of_wp_marks (F := FW none) hf hb trivial (wpIn_mono (h _ ⟨hbd, ?_, ?_, ?_⟩) ?_) rfl)
  · intro v hv
    have : Value.tuple #[] = v := by simpa [lookM] using hv
    subst this; rfl
  · simp; omega
  · intro k v hk
    have hk' : look (seqFrom 0 args) k = some v := by
      unfold look at hk
      cases hb : Nat.beq 4000000 k with
      | true => rw [hb] at hk; simp at hk
      | false => rw [hb] at hk; simpa using hk
    obtain ⟨_, h2⟩ := look_seqFrom args 0 k v hk'
    simp at h2
    have hlt : k < args.length := by
      rcases Nat.lt_or_ge k args.length with h | h
      · exact h
      · rw [List.getElem?_eq_none h] at h2; cases h2
    rw [Array.getElem?_append_left (by simpa using hlt)]
    simpa using h2
  · intro e a w' hq
    cases e with
    | normal =>
      obtain ⟨env, ho, m, w2, hm, ht, h0, hS⟩ := hq
      exact leaves_of_takes _ _ _ (by rw [ho.defers m hm]; exact ht) (results_none h0 _ _ _) hS
    | ret =>
      obtain ⟨w2, ⟨ht, _⟩, v, hv, hS⟩ := hq
      exact leaves_of_takes _ _ _ ht (hv fn rfl) hS
    | exit id => obtain ⟨K, env, hK, _⟩ := hq; simp [findK] at hK
    | goto l => exact hq
    | panic ch => exact hq.elim
    | outgrown => exact hq.elim

section rules
variable {c : Cx} {B : List (Nat × Kont)} {env : Env} {w : World} {N : Kont}

theorem QQ.mono {N N' : Kont} (h : ∀ e w, N e w → N' e w) : ∀ e a w, QQ c B N e a w → QQ c B N' e a w := by
  intro e a w hq
  cases e with
  | normal => obtain ⟨env, ho, hN⟩ := hq; exact ⟨env, ho, h _ _ hN⟩
  | exit id => exact hq
  | ret => exact hq
  | goto l => exact hq
  | panic ch => exact hq
  | outgrown => exact hq

theorem WC.mono {x : Code} {N' : Kont} (h : WC c B x env w N) (hN : ∀ e w, N e w → N' e w) : WC c B x env w N' := fun a ho => wpIn_mono (h a ho) (QQ.mono hN)

theorem WC.seq {x y : Code} (h : WC c B x env w (fun e w => WC c B y e w N)) : WC c B (.seq x y) env w N := fun a ho =>
  wpIn_seq (wpIn_mono (h a ho) fun e a w hq => by
    cases e with
    | normal => obtain ⟨env, ho, hN⟩ := hq; exact hN a ho
    | exit id => exact hq
    | ret => exact hq
    | goto l => exact hq
    | panic ch => exact hq
    | outgrown => exact hq)

/-- A cut: what holds behind the first part. -/
theorem WC.seq_mid {x y : Code} (M : Kont) (h : WC c B x env w M) (h2 : ∀ e w, M e w → WC c B y e w N) : WC c B (.seq x y) env w N := WC.seq (h.mono h2)

theorem WC.skip (h : N env w) : WC c B .skip env w N := fun _ ho => wpIn_skip ⟨env, ho, h⟩
theorem WC.label {l : Nat} (h : N env w) : WC c B (.label l) env w N := fun _ ho => wpIn_label ⟨env, ho, h⟩

theorem WC.cond {x y : Code} {o : Operand} {t : Bool} (ho : evO env o = some (.bool t)) (ht : t = true → WC c B x env w N) (hf : t = false → WC c B y env w N) : WC c B (.cond o x y) env w N :=
  fun a h => wpIn_cond_split (h.eval ho) (fun e => ht e a h) (fun e => hf e a h)
theorem WC.cond_true {x y : Code} {o : Operand} (ho : evO env o = some (.bool true)) (ht : WC c B x env w N) : WC c B (.cond o x y) env w N :=
  fun a h => wpIn_cond_true (h.eval ho) (ht a h)
theorem WC.cond_false {x y : Code} {o : Operand} (ho : evO env o = some (.bool false)) (ht : WC c B y env w N) : WC c B (.cond o x y) env w N :=
  fun a h => wpIn_cond_false (h.eval ho) (ht a h)

theorem WC.block {x : Code} {id : Nat} (h : WC c ((id, N) :: B) x env w N) : WC c B (.block id x) env w N := fun a ho =>
  wpIn_block (wpIn_mono (h a ho) fun e a w hq => by
    cases e with
    | normal => exact hq
    | exit id' =>
      obtain ⟨K, env, hK, hok, hN⟩ := hq
      unfold findK at hK
      cases hb : Nat.beq id id' with
      | true =>
        rw [hb] at hK
        have e : id = id' := Nat.eq_of_beq_eq_true hb
        subst e
        simp at hK
        subst hK
        simp only [Exit.inBlock, if_true]
        exact ⟨env, hok, hN⟩
      | false =>
        rw [hb] at hK
        have hne : id ≠ id' := Nat.ne_of_beq_eq_false hb
        simp only [Exit.inBlock, if_neg (Ne.symm hne)]
        exact ⟨K, env, by simpa using hK, hok, hN⟩
    | ret => exact hq
    | goto l => exact hq
    | panic ch => exact hq
    | outgrown => exact hq)

theorem WC.exit {id : Nat} {K : Kont} (hK : findK B id = some K) (h : K env w) : WC c B (.exit id) env w N := fun _ ho => wpIn_exit ⟨K, env, hK, ho, h⟩

theorem WC.sub {x : Code} {env' : Env} (hs : Sub env' env) (h : WC c B x env' w N) : WC c B x env w N := fun a ho => h a (ho.sub hs)

/-- A loop over states of whatever kind: E the slots that are known at its head, I what holds, μ what every round lowers. -/
theorem WC.loop {σ : Type} {x : Code} {m : Value} (E : σ → Env) (I : σ → World → Prop) (μ : σ → Nat) (s0 : σ) (hsub : Sub (E s0) env) (h0 : I s0 w)
    (round : ∀ s w, I s w → WC c B x ((4000000, m) :: E s) w (fun env' w' => ∃ s', Sub ((4000000, m) :: E s') env' ∧ I s' w' ∧ μ s' < μ s)) (hm : lookM env = some m := by rfl) : WC c B (.loop x) env w N := by
  intro a ho
  refine wpIn_loop_ghost (fun k a w => ∃ s, EnvOk c.n ((4000000, m) :: E s) a ∧ I s w ∧ μ s = k) (μ s0) ⟨s0, ho.sub (Sub.consM hm hsub), h0, rfl⟩ ?_
  rintro k a w ⟨s, hs, hI, rfl⟩
  refine wpIn_mono (round s w hI a hs) ?_
  intro e a' w' hq
  cases e with
  | normal =>
    obtain ⟨env', ho', s', h1, h2, h3⟩ := hq
    exact ⟨_, h3, s', ho'.sub h1, h2, rfl⟩
  | exit id => exact hq
  | ret => exact hq
  | goto l => exact hq
  | panic ch => exact hq
  | outgrown => exact hq

theorem getD_env {n : Nat} {env : Env} {a : Act} (h : EnvOk n env a) {t : Nat} {v : Value} (hv : look env t = some v) : a.tmps.getD t undef = v := h.eval (x := .tmp t) hv

theorem takes_none {n : Nat} {env : Env} {a : Act} {w : World} (h : EnvOk n env a) (hm : lookM env = some (.tuple #[])) {ro : Option Nat} : Takes a.defers w w ∧ (ro = none ∨ a.defers = []) := by
  have e : a.defers = [] := h.defers _ hm
  rw [e]; exact ⟨rfl, .inr rfl⟩
theorem WC.ret1 {t : Nat} {v : Value} (hr : c.res = #[.tmp t]) (hv : look env t = some v) (hS : c.S v w) (hm : lookM env = some (.tuple #[]) := by rfl) : WC c B .ret env w N := fun a ho =>
  wpIn_ret ⟨w, takes_none ho hm, v, fun fn hfn => by rw [results_tmp (hfn.trans hr), getD_env ho hv], hS⟩
theorem WC.ret0 (hr : c.res = #[]) (hS : c.S (.tuple #[]) w) (hm : lookM env = some (.tuple #[]) := by rfl) : WC c B .ret env w N := fun a ho =>
  wpIn_ret ⟨w, takes_none ho hm, _, fun fn hfn => by rw [results_none (hfn.trans hr)], hS⟩
theorem WC.ret2 {t u : Nat} {v x : Value} (hr : c.res = #[.tmp t, .tmp u]) (hv : look env t = some v) (hx : look env u = some x) (hS : c.S (.tuple #[v, x]) w) (hm : lookM env = some (.tuple #[]) := by rfl) : WC c B .ret env w N := fun a ho =>
  wpIn_ret ⟨w, takes_none ho hm, _, fun fn hfn => by rw [results_tmp2 (hfn.trans hr), getD_env ho hv, getD_env ho hx], hS⟩
theorem WC.ret3 {t u s : Nat} {v x y : Value} (hr : c.res = #[.tmp t, .tmp u, .tmp s]) (hv : look env t = some v) (hx : look env u = some x) (hy : look env s = some y) (hS : c.S (.tuple #[v, x, y]) w) (hm : lookM env = some (.tuple #[]) := by rfl) : WC c B .ret env w N := fun a ho =>
  wpIn_ret ⟨w, takes_none ho hm, _, fun fn hfn => by
    rw [results_tmp3 (hfn.trans hr), getD_env ho hv, getD_env ho hx, getD_env ho hy], hS⟩

theorem WC.region {id : Nat} {l : List Oper} (h : WR c B l.toArray l env w N) : WC c B (.region id l.toArray false) env w N := fun a ho => wpIn_region_lit (h a ho)

/-! ### One operation at a time -/

variable {ops : Array Oper} {rest : List Oper}

theorem WR.nil (h : N env w) : WR c B ops [] env w N := fun a ho => wpListIn_nil ⟨env, ho, h⟩
theorem oper_mono {F : Fence} {P : Program} {o : Oper} {a : Act} {w : World} {Q Q' : Exit → Act → World → Prop} {K K' : Act → World → Prop} (hq : ∀ e a w, Q e a w → Q' e a w) (hk : ∀ a w, K a w → K' a w) (h : o.wpIn F 0 P a w K Q) : o.wpIn F 0 P a w K' Q' := by
  unfold Oper.wpIn at *
  refine ⟨h.1, ?_⟩
  have hh := h.2
  clear h
  generalize (o.semAt F.round a.eval).run P w = r at *
  cases r with
  | ok x w' =>
    cases x <;> simp only [Oper.uponIn] at hh ⊢
    case value v => exact hk _ _ hh
    case skip => exact hk _ _ hh
    case defer d => exact hk _ _ hh
    case enter f args => exact ⟨hh.1, CallsIn.mono hh.2 (fun e w'' he => by
      cases e with
      | returned v => exact hk _ _ he
      | panicked ch => exact hq _ _ _ he
      | outgrown => obtain ⟨a0, w0, h0⟩ := he; exact ⟨a0, w0, hq _ _ _ h0⟩)⟩
    case row row args => exact ⟨hh.1, RowsIn.mono hh.2 (fun _ _ he => hk _ _ he)⟩
    case round l f t a1 b1 => exact ⟨hh.1, RoundIn.mono hh.2 (fun e w'' he => by
      cases e with
      | returned v => exact hk _ _ he
      | panicked ch => exact hq _ _ _ he
      | outgrown => obtain ⟨a0, w0, h0⟩ := he; exact ⟨a0, w0, hq _ _ _ h0⟩)⟩
    all_goals exact hh
  | halt x w' => cases x <;> simp only [Oper.uponIn] at hh ⊢ <;> first | exact hh | exact hq _ _ _ hh
theorem wpList_monoQ {F : Fence} {P : Program} {Q Q' : Exit → Act → World → Prop} (hq : ∀ e a w, Q e a w → Q' e a w) : ∀ (l : List Oper) (a : Act) (w : World), wpListIn F 0 P ops Q l a w → wpListIn F 0 P ops Q' l a w
  | [], a, w, h => hq _ _ _ h
  | o :: r, a, w, h => by
    unfold wpListIn at h ⊢
    split
    · rename_i hw
      rw [if_pos hw] at h
      exact oper_mono hq (wpList_monoQ hq r) h
    · rename_i hw
      rw [if_neg hw] at h
      exact ⟨h.1, wpList_monoQ hq r _ _ h.2⟩
theorem WR.mono {l : List Oper} {N' : Kont} (h : WR c B ops l env w N) (hN : ∀ e w, N e w → N' e w) : WR c B ops l env w N' := fun a ho => wpList_monoQ (QQ.mono hN) _ _ _ (h a ho)

/-- A quiet operation: it hands back a value and leaves the world alone. -/
def Val (P : Program) (env : Env) (w : World) (op : Op) (ty : TypeId) (v : Value) : Prop :=
  ∀ n a, EnvOk n env a → ∀ d pos after g, (execOp a.eval ⟨d, op, ty, pos, after, g⟩).run P w = .ok (.value v) w
/-- An operation that acts: S tells the value and the world behind it. -/
def Eff (P : Program) (env : Env) (w : World) (op : Op) (ty : TypeId) (S : Value → World → Prop) : Prop :=
  ∀ n a, EnvOk n env a → ∀ (ro : Option Nat) d pos after g (K : Act → World → Prop) (Q : Exit → Act → World → Prop), (∀ v w', S v w' → K (a.put d v) w') → Oper.wpIn (FW ro) 0 P ⟨d, op, ty, pos, after, g⟩ a w K Q

theorem semAt_eq {P : Program} {ro : Option Nat} {ρ : Operand → Value} {o : Oper} {w w' : World} {x : Next} (h : (execOp ρ o).run P w = .ok x w') (hx : ∀ d, x ≠ .defer d) : o.semAt ro ρ = execOp ρ o := by
  refine Oper.semAt_eq ro ρ o fun c hc => ?_
  obtain ⟨dst, op, ty, pos, after, g⟩ := o
  simp only at hc
  subst hc
  simp only [execOp, Sem.run_bind] at h
  generalize (resolve ρ c ty).run P w = r at h
  cases r with
  | ok d w2 =>
    simp [Result.andThen] at h
    exact hx d h.1.symm
  | halt y w2 => simp [Result.andThen] at h
theorem wpIn_of_value {P : Program} {ro : Option Nat} {o : Oper} {a : Act} {w w' : World} {v : Value} {K : Act → World → Prop} {Q : Exit → Act → World → Prop} (h : (execOp a.eval o).run P w = .ok (.value v) w') (hK : K (a.put o.dst v) w') : o.wpIn (FW ro) 0 P a w K Q :=
  ⟨fun _ _ => trivial, by rw [show (FW ro).round = ro from rfl, semAt_eq h (fun d => by simp), h]; exact hK⟩
theorem wpIn_of_skip {P : Program} {ro : Option Nat} {o : Oper} {a : Act} {w w' : World} {K : Act → World → Prop} {Q : Exit → Act → World → Prop} (h : (execOp a.eval o).run P w = .ok .skip w') (hK : K (a.put o.dst undef) w') : o.wpIn (FW ro) 0 P a w K Q :=
  ⟨fun _ _ => trivial, by rw [show (FW ro).round = ro from rfl, semAt_eq h (fun d => by simp), h]; exact hK⟩
theorem wpIn_of_enter {P : Program} {ro : Option Nat} {o : Oper} {a : Act} {w w' : World} {f : FuncId} {args : Array Value} {K : Act → World → Prop} {Q : Exit → Act → World → Prop} {S : Value → World → Prop} (h : (execOp a.eval o).run P w = .ok (.enter f args) w')
    (hc : Calls P f args w' (Ret S)) (hK : ∀ v w2, S v w2 → K (a.put o.dst v) w2) : o.wpIn (FW ro) 0 P a w K Q :=
  ⟨fun _ _ => trivial, by
    rw [show (FW ro).round = ro from rfl, semAt_eq h (fun d => by simp), h]
    have h1 : CallsIn (FW ro) (0 - 1) P f args w' (Ret S) := (callsIn_wide (n := 0)).2 hc
    exact ⟨fun h => by simp [FW, Fence.wide] at h, h1.mono fun e w2 ⟨v, he, hs⟩ => by subst he; exact hK v w2 hs⟩⟩

theorem Eff.of_run {P : Program} {op : Op} {ty : TypeId} {S : Value → World → Prop}
    (h : ∀ n a, EnvOk n env a → ∀ d pos after g, ∃ v w', (execOp a.eval ⟨d, op, ty, pos, after, g⟩).run P w = .ok (.value v) w' ∧ S v w') : Eff P env w op ty S := by
  intro n a ho ro d pos after g K Q hK
  obtain ⟨v, w', hr, hS⟩ := h n a ho d pos after g
  exact wpIn_of_value hr (hK _ _ hS)
theorem Eff.of_skip {P : Program} {op : Op} {ty : TypeId} {S : Value → World → Prop}
    (h : ∀ n a, EnvOk n env a → ∀ d pos after g, ∃ w', (execOp a.eval ⟨d, op, ty, pos, after, g⟩).run P w = .ok .skip w' ∧ S undef w') : Eff P env w op ty S := by
  intro n a ho ro d pos after g K Q hK
  obtain ⟨w', hr, hS⟩ := h n a ho d pos after g
  exact wpIn_of_skip hr (hK _ _ hS)
theorem Eff.mono {P : Program} {op : Op} {ty : TypeId} {S S' : Value → World → Prop} (h : Eff P env w op ty S) (hS : ∀ v w', S v w' → S' v w') : Eff P env w op ty S' :=
  fun n a ho ro d pos after g K Q hK => h n a ho ro d pos after g K Q fun v w' hs => hK v w' (hS _ _ hs)

theorem wpListIn_cons {F : Fence} {P : Program} {Q : Exit → Act → World → Prop} {o : Oper} {a : Act} (hw : Region.wanted o (yielded ops a.tmps) = true) (h : o.wpIn F 0 P a w (wpListIn F 0 P ops Q rest) Q) : wpListIn F 0 P ops Q (o :: rest) a w := by
  unfold wpListIn; rw [if_pos hw]; exact h
theorem wpListIn_pass {P : Program} {ro : Option Nat} {Q : Exit → Act → World → Prop} {o : Oper} {a : Act} (hw : Region.wanted o (yielded ops a.tmps) = false) (h : wpListIn (FW ro) 0 P ops Q rest (a.put o.dst undef) w) : wpListIn (FW ro) 0 P ops Q (o :: rest) a w := by
  unfold wpListIn; rw [if_neg (by rw [hw]; simp)]; exact ⟨fun _ _ => trivial, h⟩

theorem WR.val {op : Op} {ty : TypeId} {v : Value} {d : Nat} {pos : String} {after : Array Edge} (h : Val c.P env w op ty v) (hd : Nat.blt d c.n = true)
    (next : WR c B ops rest ((d, v) :: env) w N) : WR c B ops (⟨some d, op, ty, pos, after, none⟩ :: rest) env w N := fun a ho =>
  wpListIn_cons rfl (wpIn_of_value (h c.n a ho _ _ _ _) (next _ (ho.put hd v)))

theorem WR.eff {op : Op} {ty : TypeId} {S : Value → World → Prop} {d : Nat} {pos : String} {after : Array Edge} (h : Eff c.P env w op ty S) (hd : Nat.blt d c.n = true)
    (next : ∀ v w', S v w' → WR c B ops rest ((d, v) :: env) w' N) : WR c B ops (⟨some d, op, ty, pos, after, none⟩ :: rest) env w N := fun a ho =>
  wpListIn_cons rfl (h c.n a ho _ _ _ _ _ _ _ fun v w' hs => next v w' hs _ (ho.put hd v))

theorem WR.eff_ {op : Op} {ty : TypeId} {S : Value → World → Prop} {pos : String} {after : Array Edge} (h : Eff c.P env w op ty S)
    (next : ∀ v w', S v w' → WR c B ops rest env w' N) : WR c B ops (⟨none, op, ty, pos, after, none⟩ :: rest) env w N := fun a ho =>
  wpListIn_cons rfl (h c.n a ho _ _ _ _ _ _ _ fun v w' hs => next v w' hs _ ho)

theorem wanted_known {n : Nat} {a : Act} (ho : EnvOk n env a) {j s : Nat} {b want : Bool} (hj : (ops[j]?).bind (·.dst) = some s) (hs : look env s = some (.bool b))
    {d : Option Tmp} {op : Op} {ty : TypeId} {pos : String} {after : Array Edge} :
    Region.wanted ⟨d, op, ty, pos, after, some (j, want)⟩ (yielded ops a.tmps) = (b == want) := by
  simp [Region.wanted, yielded, hj, ho.vals s _ hs]

theorem WR.on {op : Op} {ty : TypeId} {d : Option Nat} {pos : String} {after : Array Edge} {j s : Nat} {want : Bool} (hj : (ops[j]?).bind (·.dst) = some s) (hs : look env s = some (.bool want))
    (h : WR c B ops (⟨d, op, ty, pos, after, none⟩ :: rest) env w N) : WR c B ops (⟨d, op, ty, pos, after, some (j, want)⟩ :: rest) env w N := by
  intro a ho
  have := h a ho
  unfold wpListIn at this ⊢
  rw [if_pos (by rw [wanted_known ho hj hs]; simp)]
  rw [if_pos (by simp [Region.wanted])] at this
  exact this

theorem WR.onEq {op : Op} {ty : TypeId} {d : Option Nat} {pos : String} {after : Array Edge} {j s : Nat} {want b : Bool} (hj : (ops[j]?).bind (·.dst) = some s) (hs : look env s = some (.bool b)) (hb : b = want)
    (h : WR c B ops (⟨d, op, ty, pos, after, none⟩ :: rest) env w N) : WR c B ops (⟨d, op, ty, pos, after, some (j, want)⟩ :: rest) env w N := WR.on hj (hb ▸ hs) h

theorem WR.off {op : Op} {ty : TypeId} {d : Nat} {pos : String} {after : Array Edge} {j s : Nat} {want b : Bool} (hj : (ops[j]?).bind (·.dst) = some s) (hs : look env s = some (.bool b)) (hne : (b == want) = false)
    (hd : Nat.blt d c.n = true) (h : WR c B ops rest ((d, undef) :: env) w N) : WR c B ops (⟨some d, op, ty, pos, after, some (j, want)⟩ :: rest) env w N := fun a ho =>
  wpListIn_pass (by rw [wanted_known ho hj hs, hne]) (h _ (ho.put hd _))

/-- Passed over: a guard that says no, or one that was itself passed over. -/
def offs (ops : Array Oper) (n : Nat) : List Oper → Env → Option Env
  | [], env => some env
  | o :: r, env => match o.dst, o.guard with
    | some d, some (j, want) => match (ops[j]?).bind (·.dst) with
      | some s => match look env s with
        | some (.bool b) => bif b == want then none else bif Nat.blt d n then offs ops n r ((d, undef) :: env) else none
        | some (.tuple _) => bif Nat.blt d n then offs ops n r ((d, undef) :: env) else none
        | _ => none
      | none => none
    | _, _ => none

theorem WR.offs {k : Nat} {l : List Oper} {env' : Env} (h : offs ops c.n (l.take k) env = some env') (next : WR c B ops (l.drop k) env' w N) : WR c B ops l env w N := by
  have key : ∀ (k : Nat) (l : List Oper) (env : Env), Eng.offs ops c.n (l.take k) env = some env' → WR c B ops (l.drop k) env' w N → WR c B ops l env w N := by
    intro k
    induction k with
    | zero => intro l env h next; simp [Eng.offs] at h; subst h; simpa using next
    | succ k ih =>
      intro l env h next
      cases l with
      | nil => simp [Eng.offs] at h; subst h; simpa using next
      | cons o r =>
        obtain ⟨dst, op, ty, pos, after, guard⟩ := o
        simp only [List.take_succ_cons, Eng.offs] at h
        split at h
        · rename_i _ _ d j want
          split at h
          · rename_i s hs
            split at h
            · rename_i _ b hb
              cases hbw : (b == want) with
              | true => rw [hbw] at h; simp at h
              | false =>
                rw [hbw] at h
                cases hdn : Nat.blt d c.n with
                | false => rw [hdn] at h; simp at h
                | true =>
                  rw [hdn] at h
                  exact WR.off hs hb hbw hdn (ih r _ (by simpa using h) (by simpa using next))
            · rename_i _ vs hb
              cases hdn : Nat.blt d c.n with
              | false => rw [hdn] at h; simp at h
              | true =>
                rw [hdn] at h
                intro a ho
                exact wpListIn_pass (by simp [Region.wanted, yielded, hs, ho.vals s _ hb]) (ih r _ (by simpa using h) (by simpa using next) _ (ho.put hdn _))
            · cases h
          · cases h
        · cases h
  exact key k l env h next

theorem wpList_append {l2 : List Oper} {Q : Exit → Act → World → Prop} {F : Fence} : ∀ (l1 : List Oper) (a : Act) (w : World), wpListIn F 0 c.P ops (Exit.then (fun a w => wpListIn F 0 c.P ops Q l2 a w) Q) l1 a w → wpListIn F 0 c.P ops Q (l1 ++ l2) a w
  | [], a, w, h => h
  | o :: r, a, w, h => by
    simp only [List.cons_append]
    unfold wpListIn at h ⊢
    split
    · rename_i hw
      rw [if_pos hw] at h
      have hh := h
      unfold Oper.wpIn at *
      refine ⟨h.1, ?_⟩
      have h2 := h.2
      clear h hh
      generalize (o.semAt F.round a.eval).run c.P w = r0 at *
      cases r0 with
      | ok nx w' =>
        cases nx <;> simp only [Oper.uponIn] at h2 ⊢
        case value v => exact wpList_append r _ _ h2
        case skip => exact wpList_append r _ _ h2
        case defer d => exact wpList_append r _ _ h2
        case enter f args => exact ⟨h2.1, CallsIn.mono h2.2 (fun e w'' he => by
          cases e with
          | returned v => exact wpList_append r _ _ he
          | panicked ch => exact he
          | outgrown => exact he)⟩
        case row row args => exact ⟨h2.1, RowsIn.mono h2.2 (fun _ _ he => wpList_append r _ _ he)⟩
        case round l f t a1 b1 => exact ⟨h2.1, RoundIn.mono h2.2 (fun e w'' he => by
          cases e with
          | returned v => exact wpList_append r _ _ he
          | panicked ch => exact he
          | outgrown => exact he)⟩
        all_goals exact h2
      | halt x w' => cases x <;> simp only [Oper.uponIn] at h2 ⊢ <;> exact h2
    · rename_i hw
      rw [if_neg hw] at h
      exact ⟨h.1, wpList_append r _ _ h.2⟩

/-- A cut inside a region: behind the next k operations this holds. -/
theorem WR.cut {l : List Oper} (k : Nat) (M : Kont) (h : WR c B ops (l.take k) env w M) (h2 : ∀ e w, M e w → WR c B ops (l.drop k) e w N) : WR c B ops l env w N := by
  intro a ho
  rw [← List.take_append_drop k l]
  refine wpList_append _ _ _ (wpList_monoQ ?_ _ _ _ (h.mono h2 a ho))
  intro e a w hq
  cases e with
  | normal => obtain ⟨e, he, hn⟩ := hq; exact hn a he
  | exit id => exact hq
  | ret => exact hq
  | goto l => exact hq
  | panic ch => exact hq
  | outgrown => exact hq

theorem offs_drop (n : Nat) : ∀ (l : List Oper) (env e : Env), offs ops n l env = some e → e.drop l.length = env
  | [], env, e, h => by simp [offs] at h; simp [h]
  | o :: r, env, e, h => by
    unfold offs at h
    split at h
    · split at h
      · split at h
        · rename_i d _ _ _ _ _ b _
          cases hbw : (b == _) with
          | true => rw [hbw] at h; simp at h
          | false =>
            rw [hbw] at h
            cases hdn : Nat.blt _ n with
            | false => rw [hdn] at h; simp at h
            | true =>
              rw [hdn] at h
              have := offs_drop n r _ e (by simpa using h)
              rw [List.length_cons, ← List.drop_drop, this]; rfl
        · cases hdn : Nat.blt _ n with
          | false => rw [hdn] at h; simp at h
          | true =>
            rw [hdn] at h
            have := offs_drop n r _ e (by simpa using h)
            rw [List.length_cons, ← List.drop_drop, this]; rfl
        · cases h
      · cases h
    · cases h

def offOk (ops : Array Oper) (n : Nat) (l : List Oper) (s : Nat) (v : Bool) (env : Env) : Bool :=
  match offs ops n l ((s, .bool v) :: env) with
  | some e => freshB ((s, .bool v) :: env) l.length e
  | none => false

def guardOn (ops : Array Oper) (env : Env) : Option (Nat × Bool) → Bool
  | none => true
  | some (j, want) => match (ops[j]?).bind (·.dst) with
    | some s => match look env s with
      | some (.bool b) => b == want
      | _ => false
    | none => false

theorem wanted_on {n : Nat} {a : Act} (ho : EnvOk n env a) {o : Oper} (h : guardOn ops env o.guard = true) : Region.wanted o (yielded ops a.tmps) = true := by
  unfold guardOn at h
  unfold Region.wanted
  split at h
  · rename_i hg; simp [hg]
  · rename_i j want hg
    split at h
    · rename_i s hs
      split at h
      · rename_i b hb
        simpa [hg, yielded, hs, ho.vals s _ hb] using h
      · cases h
    · cases h

theorem run_pick (P : Program) (w : World) (ρ : Operand → Value) {cd x y : Operand} {d : Option Nat} {ty : TypeId} {pos : String} {after : Array Edge} {g : Option (Nat × Bool)} {b : Bool} (h : ρ cd = .bool b) :
    (execOp ρ ⟨d, .pick cd x y, ty, pos, after, g⟩).run P w = .ok (.value (if b then ρ x else ρ y)) w := by
  simp [execOp, h, asBool]

theorem WR.pickOn {cd x y : Operand} {d : Nat} {ty : TypeId} {pos : String} {after : Array Edge} {g : Option (Nat × Bool)} {b : Bool} {v : Value} (hg : guardOn ops env g = true) (hd : Nat.blt d c.n = true)
    (hc : evO env cd = some (.bool b)) (hv : evO env (if b then x else y) = some v) (next : WR c B ops rest ((d, v) :: env) w N) : WR c B ops (⟨some d, .pick cd x y, ty, pos, after, g⟩ :: rest) env w N := by
  intro a ho
  refine wpListIn_cons (wanted_on (o := ⟨some d, .pick cd x y, ty, pos, after, g⟩) ho hg) (wpIn_of_value (run_pick _ _ _ (ho.eval hc)) ?_)
  have : (if b then a.eval x else a.eval y) = v := by
    rw [← ho.eval hv]; cases b <;> rfl
  rw [this]
  exact next _ (ho.put hd v)

theorem look_ne {k : Nat} {e : Env} {v : Value} (h : look e k = some v) : Nat.beq k 4000000 = false := by
  cases hb : Nat.beq k 4000000 with
  | false => rfl
  | true =>
    have e : k = 4000000 := Nat.eq_of_beq_eq_true hb
    subst e
    rw [look_mark] at h; cases h
theorem Sub.shadow {e : Env} {s : Nat} {v : Value} (h : look env s = some v) (hs : Sub ((s, v) :: env) e) : Sub env e := by
  have hm := look_ne h
  refine ⟨fun k u hk => hs.vals k u ?_, fun u hu => hs.marks u (by unfold lookM; rw [hm]; exact hu)⟩
  unfold look
  cases hb : Nat.beq s k with
  | true =>
    have e' : s = k := Nat.eq_of_beq_eq_true hb
    subst e'
    rw [h] at hk
    rw [hm]
    simpa using hk
  | false => simpa using hk
theorem Sub.on {e : Env} {d : Nat} {v : Value} (h : Sub env e) (hd : look e d = some v) : Sub ((d, v) :: env) e := Sub.cons hd h

theorem Sub.both {e' e : Env} {d : Nat} {v : Value} (h : Sub e' e) : Sub ((d, v) :: e') ((d, v) :: e) := by
  refine ⟨fun k u hk => ?_, fun u hu => ?_⟩
  · unfold look at hk ⊢
    cases hb : Nat.beq d k with
    | true => rw [hb] at hk; exact hk
    | false => rw [hb] at hk; exact h.vals k u hk
  · unfold lookM at hu ⊢
    cases hb : Nat.beq d 4000000 with
    | true => rw [hb] at hu; exact hu
    | false => rw [hb] at hu; exact h.marks u hu
theorem guardOn_sub {e : Env} (h : Sub env e) {g : Option (Nat × Bool)} (hg : guardOn ops env g = true) : guardOn ops e g = true := by
  unfold guardOn at hg ⊢
  split at hg
  · rfl
  · rename_i j want
    split at hg
    · rename_i s' hs'
      split at hg
      · rename_i b' hb'
        simpa [h.vals _ _ hb'] using hg
      · cases hg
    · cases hg

/-- Where one of two ways is picked: the k operations ahead are guarded by the first's outcome 'q'; with the other outcome they are passed over. -/
theorem WR.sc {l tl : List Oper} (q : Bool) (k : Nat) (x : Bool) (R : World → Prop) {s t d : Nat} {b : Bool} {ty : TypeId} {pos : String} {after : Array Edge} {g : Option (Nat × Bool)} {u v : Operand}
    (hs : look env s = some (.bool b)) (hl : l.drop k = ⟨some d, .pick (.tmp s) u v, ty, pos, after, g⟩ :: tl) (hg : guardOn ops env g = true)
    (hu : (if q then u else v) = .tmp t) (hv : (if q then v else u) = .const (.bool (!q)))
    (hoff : offOk ops c.n (l.take k) s (!q) env = true) (hd : Nat.blt d c.n = true)
    (hT : b = q → WR c B ops (l.take k) ((s, .bool q) :: env) w (fun e w' => look e t = some (.bool x) ∧ Sub ((s, .bool q) :: env) e ∧ R w'))
    (hF : b = !q → R w)
    (next : ∀ w', R w' → WR c B ops tl ((d, .bool (bif q then b && x else b || x)) :: env) w' N) : WR c B ops l env w N := by
  have hlen : l.take k ++ ⟨some d, .pick (.tmp s) u v, ty, pos, after, g⟩ :: tl = l := by rw [← hl]; exact List.take_append_drop k l
  by_cases hb : b = q
  · refine WR.cut k (fun e w' => (look e t = some (.bool x) ∧ Sub ((s, .bool q) :: env) e ∧ R w')) ?_ ?_
    · intro a ho
      exact hT hb a (ho.sub (Sub.cons (by rw [hs, hb]) (Sub.refl _)))
    · rintro e w' ⟨h1, h2, h3⟩
      rw [hl]
      have hsub : Sub env e := Sub.shadow (v := .bool q) (by rw [hs, hb]) h2
      have hse : look e s = some (.bool q) := h2.vals s _ (look_hit (look_ne hs))
      refine WR.pickOn (v := .bool x) (guardOn_sub hsub hg) hd (b := q) (by simpa [evO] using hse) ?_ ?_
      · rw [hu]; exact h1
      · have e1 : (bif q then b && x else b || x) = x := by subst hb; cases b <;> simp
        have := next w' h3
        rw [e1] at this
        exact fun a ho => this a (ho.sub (Sub.both hsub))
  · have hb' : b = !q := by cases b <;> cases q <;> simp_all
    unfold offOk at hoff
    split at hoff
    · rename_i e he
      have hdrop := offs_drop _ _ _ _ he
      have h2 : Sub ((s, .bool (!q)) :: env) e := Sub.drop _ _ _ hdrop hoff
      have hsub : Sub env e := Sub.shadow (v := .bool (!q)) (by rw [hs, hb']) h2
      have hse : look e s = some (.bool (!q)) := h2.vals s _ (look_hit (look_ne hs))
      have main : WR c B ops l ((s, .bool (!q)) :: env) w N := by
        refine WR.offs he ?_
        rw [hl]
        refine WR.pickOn (v := .bool (!q)) (guardOn_sub hsub hg) hd (b := !q) (by simpa [evO] using hse) ?_ ?_
        · have : (if (!q) = true then u else v) = (if q then v else u) := by cases q <;> rfl
          rw [this, hv]; rfl
        · have e1 : (bif q then b && x else b || x) = !q := by subst hb'; cases q <;> simp
          have := next w (hF hb')
          rw [e1] at this
          exact fun a ho => this a (ho.sub (Sub.both hsub))
      exact fun a ho => main a (ho.sub (Sub.cons (by rw [hs, hb']) (Sub.refl _)))
    · cases hoff
end rules
end Go.Eng
