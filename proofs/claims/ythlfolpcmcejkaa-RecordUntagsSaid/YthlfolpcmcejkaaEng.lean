/- A light engine for walks: frames as short lists of slots, one lemma an operation, joins at short-circuit tests. No condition. -/
import Derived.WalkKit
import Derived.Deep.Quiet
import Derived.Deep.LoopGhost
set_option linter.unusedSimpArgs false
set_option linter.unusedVariables false
namespace Go.Eng
open Go Go.RowKit

abbrev Env := List (Nat × Value)

def look : Env → Nat → Option Value
  | [], _ => none
  | (k, v) :: r, n => bif Nat.beq k n then some v else look r n

def evO (env : Env) : Operand → Option Value
  | .tmp t => look env t
  | .const v => some v
  | .global g => some (.pointer (some ⟨g, 0, none⟩))
  | .func f => some (.func (.func f) #[] #[])

def evL (env : Env) : List Operand → Option (List Value)
  | [] => some []
  | x :: r => match evO env x with
    | some v => match evL env r with
      | some vs => some (v :: vs)
      | none => none
    | none => none

structure EnvOk (n : Nat) (env : Env) (a : Act) : Prop where
  defers : a.defers = []
  size : a.tmps.size = n
  vals : ∀ k v, look env k = some v → a.tmps[k]? = some v

theorem EnvOk.eval {n : Nat} {env : Env} {a : Act} (h : EnvOk n env a) {x : Operand} {v : Value} (hx : evO env x = some v) : a.eval x = v := by
  cases x with
  | tmp t =>
    have := h.vals t v hx
    simp [Act.eval, Array.getD_eq_getD_getElem?, this]
  | const u => simpa [evO, Act.eval] using hx
  | «global» g => simpa [evO, Act.eval] using hx
  | func f => simpa [evO, Act.eval] using hx

theorem EnvOk.evalL {n : Nat} {env : Env} {a : Act} (h : EnvOk n env a) : ∀ {xs : List Operand} {vs : List Value}, evL env xs = some vs → xs.map a.eval = vs
  | [], vs, hx => by simp [evL] at hx; simp [hx]
  | x :: r, vs, hx => by
    unfold evL at hx
    split at hx
    · rename_i v hv
      split at hx
      · rename_i us hu
        simp at hx
        subst hx
        simp [h.eval hv, h.evalL hu]
      · cases hx
    · cases hx

theorem EnvOk.put {n : Nat} {env : Env} {a : Act} (h : EnvOk n env a) {d : Nat} (hd : Nat.blt d n = true) (v : Value) : EnvOk n ((d, v) :: env) (a.put (some d) v) := by
  refine ⟨h.defers, by simpa [Act.put] using h.size, fun k u hk => ?_⟩
  have hd' : d < a.tmps.size := by rw [h.size]; simpa [Nat.blt_eq] using hd
  unfold look at hk
  cases hb : Nat.beq d k with
  | true =>
    rw [hb] at hk
    have e : d = k := Nat.eq_of_beq_eq_true hb
    subst e
    simp at hk
    subst hk
    simp [Act.put, hd']
  | false =>
    rw [hb] at hk
    have hne : d ≠ k := Nat.ne_of_beq_eq_false hb
    simp at hk
    simpa [Act.put, Array.getElem?_setIfInBounds_ne hne] using h.vals k u hk

def Sub (e' e : Env) : Prop := ∀ k v, look e' k = some v → look e k = some v
theorem Sub.refl (e : Env) : Sub e e := fun _ _ h => h
theorem Sub.nil (e : Env) : Sub [] e := fun _ _ h => by simp [look] at h
theorem Sub.cons {e' e : Env} {k : Nat} {v : Value} (h : look e k = some v) (hs : Sub e' e) : Sub ((k, v) :: e') e := fun j u hj => by
  unfold look at hj
  cases hb : Nat.beq k j with
  | true =>
    rw [hb] at hj
    have e : k = j := Nat.eq_of_beq_eq_true hb
    subst e
    simp at hj
    rw [← hj]; exact h
  | false => rw [hb] at hj; exact hs j u (by simpa using hj)
theorem EnvOk.sub {n : Nat} {env env' : Env} {a : Act} (h : EnvOk n env a) (hs : Sub env' env) : EnvOk n env' a := ⟨h.defers, h.size, fun k v hk => h.vals k v (hs k v hk)⟩
def freshB (e : Env) : Nat → Env → Bool
  | 0, _ => true
  | m + 1, (k, _) :: r => (match look e k with | none => true | some _ => false) && freshB e m r
  | _ + 1, [] => true
/-- The last entries of an env are part of it where the newer slots are new. -/
theorem Sub.drop (e : Env) : ∀ (m : Nat) (E : Env), E.drop m = e → freshB e m E = true → Sub e E
  | 0, E, he, _ => by simp at he; subst he; exact Sub.refl _
  | m + 1, [], he, _ => by simp at he; subst he; exact Sub.nil _
  | m + 1, (k, u) :: r, he, hf => by
    simp [freshB] at hf
    have ih := Sub.drop e m r (by simpa using he) hf.2
    intro j v hj
    unfold look
    cases hb : Nat.beq k j with
    | true =>
      have e' : k = j := Nat.eq_of_beq_eq_true hb
      subst e'
      rw [hj] at hf
      simp at hf
    | false => simpa using ih j v hj

/-! ### What a region and a piece of code come to -/

abbrev Kont := Env → World → Prop

structure Cx where
  P : Program
  n : Nat
  res : Array ResultVar
  S : Value → World → Prop

def findK : List (Nat × Kont) → Nat → Option Kont
  | [], _ => none
  | (k, v) :: r, n => bif Nat.beq k n then some v else findK r n

/-- What a function hands back, by its result slots. -/
def resultsOf (P : Program) (res : Array ResultVar) (a : Act) (w : World) (v : Value) : Prop :=
  ∀ fn : Func, fn.results = res → (results fn a.tmps).run P w = .ok v w

def QQ (c : Cx) (B : List (Nat × Kont)) (N : Kont) : Exit → Act → World → Prop
  | .normal, a, w => ∃ env, EnvOk c.n env a ∧ N env w
  | .exit id, a, w => ∃ K env, findK B id = some K ∧ EnvOk c.n env a ∧ K env w
  | .ret, a, w => a.defers = [] ∧ ∃ v, resultsOf c.P c.res a w v ∧ c.S v w
  | _, _, _ => False

def WC (c : Cx) (B : List (Nat × Kont)) (x : Code) (env : Env) (w : World) (N : Kont) : Prop := ∀ a, EnvOk c.n env a → x.wp c.P (QQ c B N) a w
def WR (c : Cx) (B : List (Nat × Kont)) (ops : Array Oper) (l : List Oper) (env : Env) (w : World) (N : Kont) : Prop :=
  ∀ a, EnvOk c.n env a → wpList c.P ops (QQ c B N) l a w

def Ret (S : Value → World → Prop) : Ending → World → Prop := fun e w' => ∃ v, e = .returned v ∧ S v w'

theorem Ret.mono {P : Program} {f : FuncId} {args : Array Value} {w : World} {S S' : Value → World → Prop} (h : Calls P f args w (Ret S)) (hr : ∀ v w', S v w' → S' v w') : Calls P f args w (Ret S') :=
  Calls.mono h fun _ _ ⟨v, he, hs⟩ => ⟨v, he, hr _ _ hs⟩

def seqFrom (i : Nat) : List Value → Env
  | [] => []
  | v :: r => (i, v) :: seqFrom (i + 1) r

theorem look_seqFrom : ∀ (l : List Value) (i k : Nat) (v : Value), look (seqFrom i l) k = some v → i ≤ k ∧ l[k - i]? = some v
  | [], i, k, v, h => by simp [seqFrom, look] at h
  | u :: r, i, k, v, h => by
    unfold seqFrom look at h
    cases hb : Nat.beq i k with
    | true =>
      rw [hb] at h
      have e : i = k := Nat.eq_of_beq_eq_true hb
      subst e
      simpa using h
    | false =>
      rw [hb] at h
      have hne : i ≠ k := Nat.ne_of_beq_eq_false hb
      obtain ⟨h1, h2⟩ := look_seqFrom r (i + 1) k v (by simpa using h)
      refine ⟨by omega, ?_⟩
      have : k - i = (k - (i + 1)) + 1 := by omega
      rw [this]; simpa using h2

/-- ENTER: a function's body, its parameters in the first slots. -/
theorem enter {P : Program} {f : FuncId} {fn : Func} {x : Code} {args : List Value} {w : World} {S : Value → World → Prop} {n : Nat} {res : Array ResultVar}
    (hf : P.funcs[f]? = some fn) (hb : fn.body = some x) (hn : fn.ntmps = n) (hr : fn.results = res) (hl : Nat.ble args.length n = true)
    (h : WC ⟨P, n, res, S⟩ [] x (seqFrom 0 args) w (fun _ w => res = #[] ∧ S (.tuple #[]) w)) : Calls P f args.toArray w (Ret S) := by
  subst hn hr
  have hl' : args.length ≤ fn.ntmps := by simpa [Nat.ble_eq] using hl
  refine calls_of_wp hf hb (wp_mono (h _ ⟨rfl, ?_, ?_⟩) ?_)
  · simp; omega
  · intro k v hk
    obtain ⟨_, h2⟩ := look_seqFrom args 0 k v hk
    simp at h2
    have hlt : k < args.length := by
      rcases Nat.lt_or_ge k args.length with h | h
      · exact h
      · rw [List.getElem?_eq_none h] at h2; cases h2
    rw [Array.getElem?_append_left (by simpa using hlt)]
    simpa using h2
  · intro e a w' hq
    cases e with
    | normal =>
      obtain ⟨env, ho, h0, hS⟩ := hq
      exact ⟨ho.defers, .tuple #[], results_none h0 _ _ _, _, rfl, hS⟩
    | ret =>
      obtain ⟨hd, v, hv, hS⟩ := hq
      exact ⟨hd, v, hv fn rfl, v, rfl, hS⟩
    | exit id => obtain ⟨K, env, hK, _⟩ := hq; simp [findK] at hK
    | goto l => exact hq
    | panic ch => exact hq.elim
    | outgrown => exact hq.elim

section rules
variable {c : Cx} {B : List (Nat × Kont)} {env : Env} {w : World} {N : Kont}

theorem QQ.mono {N N' : Kont} (h : ∀ e w, N e w → N' e w) : ∀ e a w, QQ c B N e a w → QQ c B N' e a w := by
  intro e a w hq
  cases e with
  | normal => obtain ⟨env, ho, hN⟩ := hq; exact ⟨env, ho, h _ _ hN⟩
  | exit id => exact hq
  | ret => exact hq
  | goto l => exact hq
  | panic ch => exact hq
  | outgrown => exact hq

theorem WC.mono {x : Code} {N' : Kont} (h : WC c B x env w N) (hN : ∀ e w, N e w → N' e w) : WC c B x env w N' := fun a ho => wp_mono (h a ho) (QQ.mono hN)

theorem WC.seq {x y : Code} (h : WC c B x env w (fun e w => WC c B y e w N)) : WC c B (.seq x y) env w N := fun a ho =>
  wp_seq (wp_mono (h a ho) fun e a w hq => by
    cases e with
    | normal => obtain ⟨env, ho, hN⟩ := hq; exact hN a ho
    | exit id => exact hq
    | ret => exact hq
    | goto l => exact hq
    | panic ch => exact hq
    | outgrown => exact hq)

/-- A cut: what holds behind the first part. -/
theorem WC.seq_mid {x y : Code} (M : Kont) (h : WC c B x env w M) (h2 : ∀ e w, M e w → WC c B y e w N) : WC c B (.seq x y) env w N := WC.seq (h.mono h2)

theorem WC.skip (h : N env w) : WC c B .skip env w N := fun _ ho => wp_skip ⟨env, ho, h⟩
theorem WC.label {l : Nat} (h : N env w) : WC c B (.label l) env w N := fun _ ho => wp_label ⟨env, ho, h⟩

theorem WC.cond {x y : Code} {o : Operand} {t : Bool} (ho : evO env o = some (.bool t)) (ht : t = true → WC c B x env w N) (hf : t = false → WC c B y env w N) : WC c B (.cond o x y) env w N :=
  fun a h => wp_cond_split (h.eval ho) (fun e => ht e a h) (fun e => hf e a h)
theorem WC.cond_true {x y : Code} {o : Operand} (ho : evO env o = some (.bool true)) (ht : WC c B x env w N) : WC c B (.cond o x y) env w N :=
  fun a h => wp_cond_true (h.eval ho) (ht a h)
theorem WC.cond_false {x y : Code} {o : Operand} (ho : evO env o = some (.bool false)) (ht : WC c B y env w N) : WC c B (.cond o x y) env w N :=
  fun a h => wp_cond_false (h.eval ho) (ht a h)

theorem WC.block {x : Code} {id : Nat} (h : WC c ((id, N) :: B) x env w N) : WC c B (.block id x) env w N := fun a ho =>
  wp_block (wp_mono (h a ho) fun e a w hq => by
    cases e with
    | normal => exact hq
    | exit id' =>
      obtain ⟨K, env, hK, hok, hN⟩ := hq
      unfold findK at hK
      cases hb : Nat.beq id id' with
      | true =>
        rw [hb] at hK
        have e : id = id' := Nat.eq_of_beq_eq_true hb
        subst e
        simp at hK
        subst hK
        simp only [Exit.inBlock, if_true]
        exact ⟨env, hok, hN⟩
      | false =>
        rw [hb] at hK
        have hne : id ≠ id' := Nat.ne_of_beq_eq_false hb
        simp only [Exit.inBlock, if_neg (Ne.symm hne)]
        exact ⟨K, env, by simpa using hK, hok, hN⟩
    | ret => exact hq
    | goto l => exact hq
    | panic ch => exact hq
    | outgrown => exact hq)

theorem WC.exit {id : Nat} {K : Kont} (hK : findK B id = some K) (h : K env w) : WC c B (.exit id) env w N := fun _ ho => wp_exit ⟨K, env, hK, ho, h⟩

theorem WC.sub {x : Code} {env' : Env} (hs : Sub env' env) (h : WC c B x env' w N) : WC c B x env w N := fun a ho => h a (ho.sub hs)

/-- A loop over states of whatever kind: E the slots that are known at its head, I what holds, μ what every round lowers. -/
theorem WC.loop {σ : Type} {x : Code} (E : σ → Env) (I : σ → World → Prop) (μ : σ → Nat) (s0 : σ) (hsub : Sub (E s0) env) (h0 : I s0 w)
    (round : ∀ s w, I s w → WC c B x (E s) w (fun env' w' => ∃ s', Sub (E s') env' ∧ I s' w' ∧ μ s' < μ s)) : WC c B (.loop x) env w N := by
  intro a ho
  refine wp_loop_ghost (fun m a w => ∃ s, EnvOk c.n (E s) a ∧ I s w ∧ μ s = m) (μ s0) ⟨s0, ho.sub hsub, h0, rfl⟩ ?_
  rintro m a w ⟨s, hs, hI, rfl⟩
  refine wp_mono (round s w hI a hs) ?_
  intro e a' w' hq
  cases e with
  | normal =>
    obtain ⟨env', ho', s', h1, h2, h3⟩ := hq
    exact ⟨_, h3, s', ho'.sub h1, h2, rfl⟩
  | exit id => exact hq
  | ret => exact hq
  | goto l => exact hq
  | panic ch => exact hq
  | outgrown => exact hq

theorem getD_env {n : Nat} {env : Env} {a : Act} (h : EnvOk n env a) {t : Nat} {v : Value} (hv : look env t = some v) : a.tmps.getD t undef = v := h.eval (x := .tmp t) hv

theorem WC.ret1 {t : Nat} {v : Value} (hr : c.res = #[.tmp t]) (hv : look env t = some v) (hS : c.S v w) : WC c B .ret env w N := fun a ho =>
  wp_ret ⟨ho.defers, v, fun fn hfn => by rw [results_tmp (hfn.trans hr), getD_env ho hv], hS⟩
theorem WC.ret0 (hr : c.res = #[]) (hS : c.S (.tuple #[]) w) : WC c B .ret env w N := fun a ho =>
  wp_ret ⟨ho.defers, _, fun fn hfn => by rw [results_none (hfn.trans hr)], hS⟩
theorem WC.ret2 {t u : Nat} {v x : Value} (hr : c.res = #[.tmp t, .tmp u]) (hv : look env t = some v) (hx : look env u = some x) (hS : c.S (.tuple #[v, x]) w) : WC c B .ret env w N := fun a ho =>
  wp_ret ⟨ho.defers, _, fun fn hfn => by rw [results_tmp2 (hfn.trans hr), getD_env ho hv, getD_env ho hx], hS⟩
theorem WC.ret3 {t u s : Nat} {v x y : Value} (hr : c.res = #[.tmp t, .tmp u, .tmp s]) (hv : look env t = some v) (hx : look env u = some x) (hy : look env s = some y) (hS : c.S (.tuple #[v, x, y]) w) : WC c B .ret env w N := fun a ho =>
  wp_ret ⟨ho.defers, _, fun fn hfn => by
    rw [results_tmp3 (hfn.trans hr), getD_env ho hv, getD_env ho hx, getD_env ho hy], hS⟩

theorem WC.region {id : Nat} {l : List Oper} (h : WR c B l.toArray l env w N) : WC c B (.region id l.toArray false) env w N := fun a ho => wp_region_lit (h a ho)

/-! ### One operation at a time -/

variable {ops : Array Oper} {rest : List Oper}

theorem WR.nil (h : N env w) : WR c B ops [] env w N := fun a ho => wpList_nil ⟨env, ho, h⟩
theorem wpList_monoQ {P : Program} {Q Q' : Exit → Act → World → Prop} (hq : ∀ e a w, Q e a w → Q' e a w) : ∀ (l : List Oper) (a : Act) (w : World), wpList P ops Q l a w → wpList P ops Q' l a w
  | [], a, w, h => hq _ _ _ h
  | o :: r, a, w, h => by
    unfold wpList at h ⊢
    split
    · rename_i hw
      rw [if_pos hw] at h
      rcases h with h | ⟨ha, a0, w0, h0⟩
      · refine .inl ?_
        unfold Oper.wp at h ⊢
        generalize (execOp a.eval o).run P w = r0 at h ⊢
        cases r0 with
        | ok nx w' =>
          cases nx <;> simp only [Oper.upon] at h ⊢
          case value v => exact wpList_monoQ hq r _ _ h
          case skip => exact wpList_monoQ hq r _ _ h
          case defer d => exact wpList_monoQ hq r _ _ h
          case enter f args =>
            refine Calls.mono h ?_
            intro e w'' he
            cases e with
            | returned v => exact wpList_monoQ hq r _ _ he
            | panicked ch => exact hq _ _ _ he
            | outgrown => obtain ⟨a0, w0, h0⟩ := he; exact ⟨a0, w0, hq _ _ _ h0⟩
          case row row args => exact Rows.mono h fun v w'' he => wpList_monoQ hq r _ _ he
        | halt x w' => cases x <;> simp only [Oper.upon] at h ⊢ <;> first | exact h | exact hq _ _ _ h
      · exact .inr ⟨ha, a0, w0, hq _ _ _ h0⟩
    · rename_i hw
      rw [if_neg hw] at h
      exact wpList_monoQ hq r _ _ h
theorem WR.mono {l : List Oper} {N' : Kont} (h : WR c B ops l env w N) (hN : ∀ e w, N e w → N' e w) : WR c B ops l env w N' := fun a ho => wpList_monoQ (QQ.mono hN) _ _ _ (h a ho)

/-- A quiet operation: it hands back a value and leaves the world alone. -/
def Val (P : Program) (env : Env) (w : World) (op : Op) (ty : TypeId) (v : Value) : Prop :=
  ∀ n a, EnvOk n env a → ∀ d pos after g, (execOp a.eval ⟨d, op, ty, pos, after, g⟩).run P w = .ok (.value v) w
/-- An operation that acts: S tells the value and the world behind it. -/
def Eff (P : Program) (env : Env) (w : World) (op : Op) (ty : TypeId) (S : Value → World → Prop) : Prop :=
  ∀ n a, EnvOk n env a → ∀ d pos after g (K : Act → World → Prop) (Q : Exit → Act → World → Prop), (∀ v w', S v w' → K (a.put d v) w') → Oper.wp P ⟨d, op, ty, pos, after, g⟩ a w K Q

theorem Eff.of_run {P : Program} {op : Op} {ty : TypeId} {S : Value → World → Prop}
    (h : ∀ n a, EnvOk n env a → ∀ d pos after g, ∃ v w', (execOp a.eval ⟨d, op, ty, pos, after, g⟩).run P w = .ok (.value v) w' ∧ S v w') : Eff P env w op ty S := by
  intro n a ho d pos after g K Q hK
  obtain ⟨v, w', hr, hS⟩ := h n a ho d pos after g
  unfold Oper.wp
  rw [hr]
  exact hK _ _ hS
theorem Eff.of_skip {P : Program} {op : Op} {ty : TypeId} {S : Value → World → Prop}
    (h : ∀ n a, EnvOk n env a → ∀ d pos after g, ∃ w', (execOp a.eval ⟨d, op, ty, pos, after, g⟩).run P w = .ok .skip w' ∧ S undef w') : Eff P env w op ty S := by
  intro n a ho d pos after g K Q hK
  obtain ⟨w', hr, hS⟩ := h n a ho d pos after g
  unfold Oper.wp
  rw [hr]
  exact hK _ _ hS
theorem Eff.mono {P : Program} {op : Op} {ty : TypeId} {S S' : Value → World → Prop} (h : Eff P env w op ty S) (hS : ∀ v w', S v w' → S' v w') : Eff P env w op ty S' :=
  fun n a ho d pos after g K Q hK => h n a ho d pos after g K Q fun v w' hs => hK v w' (hS _ _ hs)

theorem WR.val {op : Op} {ty : TypeId} {v : Value} {d : Nat} {pos : String} {after : Array Edge} (h : Val c.P env w op ty v) (hd : Nat.blt d c.n = true)
    (next : WR c B ops rest ((d, v) :: env) w N) : WR c B ops (⟨some d, op, ty, pos, after, none⟩ :: rest) env w N := by
  intro a ho
  refine wpList_plain rfl fun K hK => ?_
  unfold Oper.wp
  rw [h c.n a ho]
  exact hK _ _ (next _ (ho.put hd v))

theorem WR.eff {op : Op} {ty : TypeId} {S : Value → World → Prop} {d : Nat} {pos : String} {after : Array Edge} (h : Eff c.P env w op ty S) (hd : Nat.blt d c.n = true)
    (next : ∀ v w', S v w' → WR c B ops rest ((d, v) :: env) w' N) : WR c B ops (⟨some d, op, ty, pos, after, none⟩ :: rest) env w N := by
  intro a ho
  refine wpList_plain rfl fun K hK => ?_
  exact h c.n a ho _ _ _ _ _ _ fun v w' hs => hK _ _ (next v w' hs _ (ho.put hd v))

theorem WR.eff_ {op : Op} {ty : TypeId} {S : Value → World → Prop} {pos : String} {after : Array Edge} (h : Eff c.P env w op ty S)
    (next : ∀ v w', S v w' → WR c B ops rest env w' N) : WR c B ops (⟨none, op, ty, pos, after, none⟩ :: rest) env w N := by
  intro a ho
  refine wpList_plain rfl fun K hK => ?_
  exact h c.n a ho _ _ _ _ _ _ fun v w' hs => hK _ _ (next v w' hs _ ho)

theorem wanted_known {n : Nat} {a : Act} (ho : EnvOk n env a) {j s : Nat} {b want : Bool} (hj : (ops[j]?).bind (·.dst) = some s) (hs : look env s = some (.bool b))
    {d : Option Tmp} {op : Op} {ty : TypeId} {pos : String} {after : Array Edge} :
    Region.wanted ⟨d, op, ty, pos, after, some (j, want)⟩ (yielded ops a.tmps) = (b == want) := by
  simp [Region.wanted, yielded, hj, ho.vals s _ hs]

theorem WR.on {op : Op} {ty : TypeId} {d : Option Nat} {pos : String} {after : Array Edge} {j s : Nat} {want : Bool} (hj : (ops[j]?).bind (·.dst) = some s) (hs : look env s = some (.bool want))
    (h : WR c B ops (⟨d, op, ty, pos, after, none⟩ :: rest) env w N) : WR c B ops (⟨d, op, ty, pos, after, some (j, want)⟩ :: rest) env w N := by
  intro a ho
  have := h a ho
  unfold wpList at this ⊢
  rw [if_pos (by rw [wanted_known ho hj hs]; simp)]
  rw [if_pos (by simp [Region.wanted])] at this
  exact this

theorem WR.onEq {op : Op} {ty : TypeId} {d : Option Nat} {pos : String} {after : Array Edge} {j s : Nat} {want b : Bool} (hj : (ops[j]?).bind (·.dst) = some s) (hs : look env s = some (.bool b)) (hb : b = want)
    (h : WR c B ops (⟨d, op, ty, pos, after, none⟩ :: rest) env w N) : WR c B ops (⟨d, op, ty, pos, after, some (j, want)⟩ :: rest) env w N := WR.on hj (hb ▸ hs) h

theorem WR.off {op : Op} {ty : TypeId} {d : Nat} {pos : String} {after : Array Edge} {j s : Nat} {want b : Bool} (hj : (ops[j]?).bind (·.dst) = some s) (hs : look env s = some (.bool b)) (hne : (b == want) = false)
    (hd : Nat.blt d c.n = true) (h : WR c B ops rest ((d, undef) :: env) w N) : WR c B ops (⟨some d, op, ty, pos, after, some (j, want)⟩ :: rest) env w N := by
  intro a ho
  unfold wpList
  rw [if_neg (by rw [wanted_known ho hj hs, hne]; simp)]
  exact h _ (ho.put hd _)

/-- Passed over: a guard that says no, or one that was itself passed over. -/
def offs (ops : Array Oper) (n : Nat) : List Oper → Env → Option Env
  | [], env => some env
  | o :: r, env => match o.dst, o.guard with
    | some d, some (j, want) => match (ops[j]?).bind (·.dst) with
      | some s => match look env s with
        | some (.bool b) => bif b == want then none else bif Nat.blt d n then offs ops n r ((d, undef) :: env) else none
        | some (.tuple _) => bif Nat.blt d n then offs ops n r ((d, undef) :: env) else none
        | _ => none
      | none => none
    | _, _ => none

theorem WR.offs {k : Nat} {l : List Oper} {env' : Env} (h : offs ops c.n (l.take k) env = some env') (next : WR c B ops (l.drop k) env' w N) : WR c B ops l env w N := by
  have key : ∀ (k : Nat) (l : List Oper) (env : Env), Eng.offs ops c.n (l.take k) env = some env' → WR c B ops (l.drop k) env' w N → WR c B ops l env w N := by
    intro k
    induction k with
    | zero => intro l env h next; simp [Eng.offs] at h; subst h; simpa using next
    | succ k ih =>
      intro l env h next
      cases l with
      | nil => simp [Eng.offs] at h; subst h; simpa using next
      | cons o r =>
        obtain ⟨dst, op, ty, pos, after, guard⟩ := o
        simp only [List.take_succ_cons, Eng.offs] at h
        split at h
        · rename_i _ _ d j want
          split at h
          · rename_i s hs
            split at h
            · rename_i _ b hb
              cases hbw : (b == want) with
              | true => rw [hbw] at h; simp at h
              | false =>
                rw [hbw] at h
                cases hdn : Nat.blt d c.n with
                | false => rw [hdn] at h; simp at h
                | true =>
                  rw [hdn] at h
                  exact WR.off hs hb hbw hdn (ih r _ (by simpa using h) (by simpa using next))
            · rename_i _ vs hb
              cases hdn : Nat.blt d c.n with
              | false => rw [hdn] at h; simp at h
              | true =>
                rw [hdn] at h
                intro a ho
                unfold wpList
                rw [if_neg (by simp [Region.wanted, yielded, hs, ho.vals s _ hb])]
                exact ih r _ (by simpa using h) (by simpa using next) _ (ho.put hdn _)
            · cases h
          · cases h
        · cases h
  exact key k l env h next

theorem wpList_append {l2 : List Oper} {Q : Exit → Act → World → Prop} : ∀ (l1 : List Oper) (a : Act) (w : World), wpList c.P ops (Exit.then (fun a w => wpList c.P ops Q l2 a w) Q) l1 a w → wpList c.P ops Q (l1 ++ l2) a w
  | [], a, w, h => h
  | o :: r, a, w, h => by
    simp only [List.cons_append]
    unfold wpList at h ⊢
    split
    · rename_i hw
      rw [if_pos hw] at h
      rcases h with h | ⟨ha, a0, w0, h0⟩
      · refine .inl ?_
        unfold Oper.wp at h ⊢
        generalize (execOp a.eval o).run c.P w = r0 at h ⊢
        cases r0 with
        | ok nx w' =>
          cases nx <;> simp only [Oper.upon] at h ⊢
          case value v => exact wpList_append r _ _ h
          case skip => exact wpList_append r _ _ h
          case defer d => exact wpList_append r _ _ h
          case enter f args =>
            refine Calls.mono h ?_
            intro e w'' he
            cases e with
            | returned v => exact wpList_append r _ _ he
            | panicked ch => exact he
            | outgrown => exact he
          case row row args => exact Rows.mono h fun v w'' he => wpList_append r _ _ he
        | halt x w' => cases x <;> simp only [Oper.upon] at h ⊢ <;> exact h
      · exact .inr ⟨ha, a0, w0, h0⟩
    · rename_i hw
      rw [if_neg hw] at h
      exact wpList_append r _ _ h

/-- A cut inside a region: behind the next k operations this holds. -/
theorem WR.cut {l : List Oper} (k : Nat) (M : Kont) (h : WR c B ops (l.take k) env w M) (h2 : ∀ e w, M e w → WR c B ops (l.drop k) e w N) : WR c B ops l env w N := by
  intro a ho
  rw [← List.take_append_drop k l]
  refine wpList_append _ _ _ (wpList_monoQ ?_ _ _ _ (h.mono h2 a ho))
  intro e a w hq
  cases e with
  | normal => obtain ⟨e, he, hn⟩ := hq; exact hn a he
  | exit id => exact hq
  | ret => exact hq
  | goto l => exact hq
  | panic ch => exact hq
  | outgrown => exact hq

theorem offs_drop (n : Nat) : ∀ (l : List Oper) (env e : Env), offs ops n l env = some e → e.drop l.length = env
  | [], env, e, h => by simp [offs] at h; simp [h]
  | o :: r, env, e, h => by
    unfold offs at h
    split at h
    · split at h
      · split at h
        · rename_i d _ _ _ _ _ b _
          cases hbw : (b == _) with
          | true => rw [hbw] at h; simp at h
          | false =>
            rw [hbw] at h
            cases hdn : Nat.blt _ n with
            | false => rw [hdn] at h; simp at h
            | true =>
              rw [hdn] at h
              have := offs_drop n r _ e (by simpa using h)
              rw [List.length_cons, ← List.drop_drop, this]; rfl
        · cases hdn : Nat.blt _ n with
          | false => rw [hdn] at h; simp at h
          | true =>
            rw [hdn] at h
            have := offs_drop n r _ e (by simpa using h)
            rw [List.length_cons, ← List.drop_drop, this]; rfl
        · cases h
      · cases h
    · cases h

def offOk (ops : Array Oper) (n : Nat) (l : List Oper) (s : Nat) (v : Bool) (env : Env) : Bool :=
  match offs ops n l ((s, .bool v) :: env) with
  | some e => freshB ((s, .bool v) :: env) l.length e
  | none => false

def guardOn (ops : Array Oper) (env : Env) : Option (Nat × Bool) → Bool
  | none => true
  | some (j, want) => match (ops[j]?).bind (·.dst) with
    | some s => match look env s with
      | some (.bool b) => b == want
      | _ => false
    | none => false

theorem wanted_on {n : Nat} {a : Act} (ho : EnvOk n env a) {o : Oper} (h : guardOn ops env o.guard = true) : Region.wanted o (yielded ops a.tmps) = true := by
  unfold guardOn at h
  unfold Region.wanted
  split at h
  · rename_i hg; simp [hg]
  · rename_i j want hg
    split at h
    · rename_i s hs
      split at h
      · rename_i b hb
        simpa [hg, yielded, hs, ho.vals s _ hb] using h
      · cases h
    · cases h

theorem run_pick (P : Program) (w : World) (ρ : Operand → Value) {cd x y : Operand} {d : Option Nat} {ty : TypeId} {pos : String} {after : Array Edge} {g : Option (Nat × Bool)} {b : Bool} (h : ρ cd = .bool b) :
    (execOp ρ ⟨d, .pick cd x y, ty, pos, after, g⟩).run P w = .ok (.value (if b then ρ x else ρ y)) w := by
  simp [execOp, h, asBool]

theorem WR.pickOn {cd x y : Operand} {d : Nat} {ty : TypeId} {pos : String} {after : Array Edge} {g : Option (Nat × Bool)} {b : Bool} {v : Value} (hg : guardOn ops env g = true) (hd : Nat.blt d c.n = true)
    (hc : evO env cd = some (.bool b)) (hv : evO env (if b then x else y) = some v) (next : WR c B ops rest ((d, v) :: env) w N) : WR c B ops (⟨some d, .pick cd x y, ty, pos, after, g⟩ :: rest) env w N := by
  intro a ho
  unfold wpList
  rw [if_pos (wanted_on (o := ⟨some d, .pick cd x y, ty, pos, after, g⟩) ho hg)]
  refine .inl ?_
  unfold Oper.wp
  rw [run_pick _ _ _ (ho.eval hc)]
  have : (if b then a.eval x else a.eval y) = v := by
    rw [← ho.eval hv]; cases b <;> rfl
  rw [this]
  exact next _ (ho.put hd v)

theorem Sub.shadow {e : Env} {s : Nat} {v : Value} (h : look env s = some v) (hs : Sub ((s, v) :: env) e) : Sub env e := fun k u hk => by
  refine hs k u ?_
  unfold look
  cases hb : Nat.beq s k with
  | true =>
    have e' : s = k := Nat.eq_of_beq_eq_true hb
    subst e'
    rw [h] at hk
    simpa using hk
  | false => simpa using hk
theorem Sub.on {e : Env} {d : Nat} {v : Value} (h : Sub env e) (hd : look e d = some v) : Sub ((d, v) :: env) e := Sub.cons hd h

theorem Sub.both {e' e : Env} {d : Nat} {v : Value} (h : Sub e' e) : Sub ((d, v) :: e') ((d, v) :: e) := fun k u hk => by
  unfold look at hk ⊢
  cases hb : Nat.beq d k with
  | true => rw [hb] at hk; exact hk
  | false => rw [hb] at hk; exact h k u hk
theorem guardOn_sub {e : Env} (h : Sub env e) {g : Option (Nat × Bool)} (hg : guardOn ops env g = true) : guardOn ops e g = true := by
  unfold guardOn at hg ⊢
  split at hg
  · rfl
  · rename_i j want
    split at hg
    · rename_i s' hs'
      split at hg
      · rename_i b' hb'
        simpa [h _ _ hb'] using hg
      · cases hg
    · cases hg

/-- Where one of two ways is picked: the k operations ahead are guarded by the first's outcome 'q'; with the other outcome they are passed over. -/
theorem WR.sc {l tl : List Oper} (q : Bool) (k : Nat) (x : Bool) (R : World → Prop) {s t d : Nat} {b : Bool} {ty : TypeId} {pos : String} {after : Array Edge} {g : Option (Nat × Bool)} {u v : Operand}
    (hs : look env s = some (.bool b)) (hl : l.drop k = ⟨some d, .pick (.tmp s) u v, ty, pos, after, g⟩ :: tl) (hg : guardOn ops env g = true)
    (hu : (if q then u else v) = .tmp t) (hv : (if q then v else u) = .const (.bool (!q)))
    (hoff : offOk ops c.n (l.take k) s (!q) env = true) (hd : Nat.blt d c.n = true)
    (hT : b = q → WR c B ops (l.take k) ((s, .bool q) :: env) w (fun e w' => look e t = some (.bool x) ∧ Sub ((s, .bool q) :: env) e ∧ R w'))
    (hF : b = !q → R w)
    (next : ∀ w', R w' → WR c B ops tl ((d, .bool (bif q then b && x else b || x)) :: env) w' N) : WR c B ops l env w N := by
  have hlen : l.take k ++ ⟨some d, .pick (.tmp s) u v, ty, pos, after, g⟩ :: tl = l := by rw [← hl]; exact List.take_append_drop k l
  by_cases hb : b = q
  · refine WR.cut k (fun e w' => (look e t = some (.bool x) ∧ Sub ((s, .bool q) :: env) e ∧ R w')) ?_ ?_
    · intro a ho
      exact hT hb a (ho.sub (Sub.cons (by rw [hs, hb]) (Sub.refl _)))
    · rintro e w' ⟨h1, h2, h3⟩
      rw [hl]
      have hsub : Sub env e := Sub.shadow (v := .bool q) (by rw [hs, hb]) h2
      have hse : look e s = some (.bool q) := h2 s _ (by simp [look])
      refine WR.pickOn (v := .bool x) (guardOn_sub hsub hg) hd (b := q) (by simpa [evO] using hse) ?_ ?_
      · rw [hu]; exact h1
      · have e1 : (bif q then b && x else b || x) = x := by subst hb; cases b <;> simp
        have := next w' h3
        rw [e1] at this
        exact fun a ho => this a (ho.sub (Sub.both hsub))
  · have hb' : b = !q := by cases b <;> cases q <;> simp_all
    unfold offOk at hoff
    split at hoff
    · rename_i e he
      have hdrop := offs_drop _ _ _ _ he
      have h2 : Sub ((s, .bool (!q)) :: env) e := Sub.drop _ _ _ hdrop hoff
      have hsub : Sub env e := Sub.shadow (v := .bool (!q)) (by rw [hs, hb']) h2
      have hse : look e s = some (.bool (!q)) := h2 s _ (by simp [look])
      have main : WR c B ops l ((s, .bool (!q)) :: env) w N := by
        refine WR.offs he ?_
        rw [hl]
        refine WR.pickOn (v := .bool (!q)) (guardOn_sub hsub hg) hd (b := !q) (by simpa [evO] using hse) ?_ ?_
        · have : (if (!q) = true then u else v) = (if q then v else u) := by cases q <;> rfl
          rw [this, hv]; rfl
        · have e1 : (bif q then b && x else b || x) = !q := by subst hb'; cases q <;> simp
          have := next w (hF hb')
          rw [e1] at this
          exact fun a ho => this a (ho.sub (Sub.both hsub))
      exact fun a ho => main a (ho.sub (Sub.cons (by rw [hs, hb']) (Sub.refl _)))
    · cases hoff
end rules
end Go.Eng
