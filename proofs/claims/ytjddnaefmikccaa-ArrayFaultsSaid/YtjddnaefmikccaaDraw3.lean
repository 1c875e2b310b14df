/- Drawn regions: short circuits. No condition. -/
import Derived.Test.YtjddnaefmikccaaDraw2
set_option linter.unusedSimpArgs false
set_option linter.unusedVariables false
namespace Go.Eng
open Go Go.RowKit

theorem uponIn_monoQ {F : Fence} {n : Nat} {P : Program} {o : Oper} {a : Act} {w : World} {K K' : Act → World → Prop} {Q Q' : Exit → Act → World → Prop} (hq : ∀ e a w, (e = .normal → False) → Q e a w → Q' e a w) (h : ∀ a w, K a w → K' a w)
    (hh : o.wpIn F n P a w K Q) : o.wpIn F n P a w K' Q' := by
  unfold Oper.wpIn at *
  refine ⟨hh.1, ?_⟩
  have hh := hh.2
  generalize (o.semAt F.round a.eval).run P w = r at *
  cases r with
  | ok x w' =>
    cases x <;> simp only [Oper.uponIn] at hh ⊢ <;>
      first
        | exact h _ _ hh
        | exact hq _ _ _ nofun hh
        | exact ⟨hh.1, CallsIn.mono hh.2 (fun e w'' he => by cases e <;> first | exact h _ _ he | exact hq _ _ _ nofun he | exact Exists.elim he fun a h1 => Exists.elim h1 fun w h2 => ⟨a, w, hq _ _ _ nofun h2⟩)⟩
        | exact ⟨hh.1, RowsIn.mono hh.2 (fun _ _ he => h _ _ he)⟩
        | exact ⟨hh.1, RoundIn.mono hh.2 (fun e w'' he => by cases e <;> first | exact h _ _ he | exact hq _ _ _ nofun he | exact Exists.elim he fun a h1 => Exists.elim h1 fun w h2 => ⟨a, w, hq _ _ _ nofun h2⟩)⟩
  | halt x w' => cases x <;> simp only [Oper.uponIn] at hh ⊢ <;> first | exact hh | exact hq _ _ _ nofun hh
theorem wpOpIn_monoQ {F : Fence} {n : Nat} {P : Program} {ops : Array Oper} {i : Nat} {a : Act} {w : World} {K K' : Act → World → Prop} {Q Q' : Exit → Act → World → Prop} (hq : ∀ e a w, (e = .normal → False) → Q e a w → Q' e a w) (h : ∀ a w, K a w → K' a w)
    (hh : wpOpIn F n P ops Q i K a w) : wpOpIn F n P ops Q' i K' a w := by
  unfold wpOpIn at *
  split
  · exact h _ _ (by simpa [*] using hh)
  · rename_i o ho
    simp only [ho] at hh
    split
    · rename_i hw; simp only [hw, if_true] at hh; exact uponIn_monoQ hq h hh
    · rename_i hw; simp only [hw] at hh; exact ⟨hh.1, h _ _ hh.2⟩
section
variable {c : Cx} {B : List (Nat × Kont)} {env : Env} {w : World} {M N : Kont} {ops : Array Oper} {C : World → Prop} {kind : List Nat} {is is1 is2 : List Nat}
theorem QQ_others {e : Exit} {a : Act} {w : World} (hne : e = .normal → False) (h : QQ c B M e a w) : QQ c B N e a w := by
  cases e with
  | normal => exact (hne rfl).elim
  | exit id => exact h
  | ret => exact h
  | goto l => exact h
  | panic ch => exact h
  | outgrown => exact h
theorem wpCan_cut (h2 : ∀ e w, M e w → WD c B ops C kind is2 e w N) : ∀ (is1 : List Nat) (a : Act) (w : World), wpCan c.rnd c.P ops C kind (QQ c B M) is1 a w → wpCan c.rnd c.P ops C kind (QQ c B N) (is1 ++ is2) a w
  | [], a, w, h => by obtain ⟨e, he, hm⟩ := h; exact h2 e w hm a he
  | i :: is, a, w, h => by
    unfold wpCan at h
    rw [List.cons_append]
    unfold wpCan
    cases hi : ops[i]? with
    | none => rw [hi] at h; exact h
    | some o =>
      rw [hi] at h
      simp only at h ⊢
      split at h
      · obtain ⟨v, hy, hk⟩ := h; exact ⟨v, hy, wpCan_cut h2 is _ _ hk⟩
      · obtain ⟨hc, v, hy, hk⟩ := h; exact ⟨hc, v, hy, wpCan_cut h2 is _ _ hk⟩
      · exact wpOpIn_monoQ (fun _ _ _ hne hq => QQ_others hne hq) (fun _ _ hk => ⟨hk.1, wpCan_cut h2 is _ _ hk.2⟩) h
      · exact wpOpIn_monoQ (fun _ _ _ hne hq => QQ_others hne hq) (fun _ _ hk => wpCan_cut h2 is _ _ hk) h
      · exact h
theorem WD.cut (k : Nat) (M : Kont) (h : WD c B ops C kind (is.take k) env w M) (h2 : ∀ e w, M e w → WD c B ops C kind (is.drop k) e w N) : WD c B ops C kind is env w N := fun a ho => by
  have := wpCan_cut h2 _ _ _ (h a ho)
  rwa [List.take_append_drop] at this

/-- Passed over, in a drawn region. -/
def offD (ops : Array Oper) (n : Nat) (kind : List Nat) : List Nat → Env → Option Env
  | [], env => some env
  | i :: r, env => match ops[i]? with
    | some o => match o.dst, o.guard with
      | some d, some (j, want) => match (ops[j]?).bind (·.dst) with
        | some s => match look env s, kind[i]? with
          | some (.bool b), some k => bif b == want then none else bif Nat.blt d n && Nat.blt k 3 then offD ops n kind r ((d, undef) :: env) else none
          | some (.tuple _), some k => bif Nat.blt d n && Nat.blt k 3 then offD ops n kind r ((d, undef) :: env) else none
          | _, _ => none
        | none => none
      | _, _ => none
    | none => none
theorem wpCan_pass {i : Nat} {o : Oper} {d k : Nat} {a : Act} {Q : Exit → Act → World → Prop} {ro : Option Nat} {P : Program} (hi : ops[i]? = some o) (hd : o.dst = some d) (hk : kind[i]? = some k) (hk3 : k < 3) (hw : Region.wanted o (yielded ops a.tmps) = false) (hC : C w)
    (next : wpCan ro P ops C kind Q is (a.put (some d) undef) w) : wpCan ro P ops C kind Q (i :: is) a w := by
  unfold wpCan
  simp only [hi, hk]
  have : k = 0 ∨ k = 1 ∨ k = 2 := by omega
  rcases this with rfl | rfl | rfl
  · exact ⟨undef, .inr ⟨hw, rfl⟩, by rw [hd]; exact next⟩
  · exact ⟨hC, undef, .inr ⟨hw, rfl⟩, by rw [hd]; exact next⟩
  · simp only
    unfold wpOpIn
    simp only [hi, hw, hd]
    exact ⟨fun _ _ => trivial, fun h => h, next⟩
theorem WD.offs (hC : C w) : ∀ (is1 : List Nat) (env env' : Env), offD ops c.n kind is1 env = some env' → WD c B ops C kind is2 env' w N → WD c B ops C kind (is1 ++ is2) env w N
  | [], env, env', h, next => by simp [offD] at h; subst h; exact next
  | i :: r, env, env', h, next => by
    unfold offD at h
    split at h
    · rename_i o hi
      split at h
      · rename_i d j want hdst hgd
        split at h
        · rename_i s hs
          split at h
          · rename_i b k hb hkk
            cases hbw : (b == want) with
            | true => rw [hbw] at h; simp at h
            | false =>
              rw [hbw] at h
              cases hdn : Nat.blt d c.n && Nat.blt k 3 with
              | false => rw [hdn] at h; simp at h
              | true =>
                rw [hdn] at h
                have hd2 := hdn
                simp only [Bool.and_eq_true] at hd2
                intro a ho
                refine wpCan_pass hi hdst hkk (by rw [← Nat.blt_eq]; exact hd2.2) ?_ hC (WD.offs hC r _ _ (by simpa using h) next _ (ho.put hd2.1 undef))
                simp [Region.wanted, hgd, yielded, hs, ho.vals s _ hb, hbw]
          · rename_i vs k hb hkk
            cases hdn : Nat.blt d c.n && Nat.blt k 3 with
            | false => rw [hdn] at h; simp at h
            | true =>
              rw [hdn] at h
              have hd2 := hdn
              simp only [Bool.and_eq_true] at hd2
              intro a ho
              refine wpCan_pass hi hdst hkk (by rw [← Nat.blt_eq]; exact hd2.2) ?_ hC (WD.offs hC r _ _ (by simpa using h) next _ (ho.put hd2.1 undef))
              simp [Region.wanted, hgd, yielded, hs, ho.vals s _ hb]
          · cases h
        · cases h
      · cases h
    · cases h
theorem offD_drop (n : Nat) : ∀ (l : List Nat) (env e : Env), offD ops n kind l env = some e → e.drop l.length = env
  | [], env, e, h => by simp [offD] at h; simp [h]
  | i :: r, env, e, h => by
    unfold offD at h
    split at h
    · split at h
      · split at h
        · split at h
          · rename_i b k _ _
            cases hbw : (b == _) with
            | true => rw [hbw] at h; simp at h
            | false =>
              rw [hbw] at h
              cases hdn : Nat.blt _ n && Nat.blt k 3 with
              | false => rw [hdn] at h; simp at h
              | true =>
                rw [hdn] at h
                have := offD_drop n r _ e (by simpa using h)
                rw [List.length_cons, ← List.drop_drop, this]; rfl
          · rename_i k _ _
            cases hdn : Nat.blt _ n && Nat.blt k 3 with
            | false => rw [hdn] at h; simp at h
            | true =>
              rw [hdn] at h
              have := offD_drop n r _ e (by simpa using h)
              rw [List.length_cons, ← List.drop_drop, this]; rfl
          · cases h
        · cases h
      · cases h
    · cases h
def offDOk (ops : Array Oper) (n : Nat) (kind : List Nat) (l : List Nat) (s : Nat) (v : Bool) (env : Env) : Bool :=
  match offD ops n kind l ((s, .bool v) :: env) with
  | some e => freshB ((s, .bool v) :: env) l.length e
  | none => false
theorem WD.pickOn {i : Nat} {cd x y : Operand} {d : Nat} {ty : TypeId} {pos : String} {after : Array Edge} {g : Option (Nat × Bool)} {b : Bool} {v : Value} (hi : ops[i]? = some ⟨some d, .pick cd x y, ty, pos, after, g⟩) (hk : kind[i]? = some 0) (hg : guardOn ops env g = true) (hd : Nat.blt d c.n = true)
    (hc : evO env cd = some (.bool b)) (hv : evO env (if b then x else y) = some v) (next : WD c B ops C kind is ((d, v) :: env) w N) : WD c B ops C kind (i :: is) env w N :=
  WD.val hi hk hg (fun _ => Val.pick hc hv) hd next
/-- Where one of two ways is picked, in a drawn region. -/
theorem WD.sc {i : Nat} {tl : List Nat} (q : Bool) (k : Nat) (x : Bool) (R : World → Prop) {s t d : Nat} {b : Bool} {ty : TypeId} {pos : String} {after : Array Edge} {g : Option (Nat × Bool)} {u v : Operand}
    (hs : look env s = some (.bool b)) (hl : is.drop k = i :: tl) (hi : ops[i]? = some ⟨some d, .pick (.tmp s) u v, ty, pos, after, g⟩) (hk : kind[i]? = some 0) (hg : guardOn ops env g = true)
    (hu : (if q then u else v) = .tmp t) (hv : (if q then v else u) = .const (.bool (!q)))
    (hoff : offDOk ops c.n kind (is.take k) s (!q) env = true) (hd : Nat.blt d c.n = true) (hC : C w)
    (hT : b = q → WD c B ops C kind (is.take k) ((s, .bool q) :: env) w (fun e w' => look e t = some (.bool x) ∧ Sub ((s, .bool q) :: env) e ∧ R w'))
    (hF : b = !q → R w)
    (next : ∀ w', R w' → WD c B ops C kind tl ((d, .bool (bif q then b && x else b || x)) :: env) w' N) : WD c B ops C kind is env w N := by
  by_cases hb : b = q
  · refine WD.cut k (fun e w' => (look e t = some (.bool x) ∧ Sub ((s, .bool q) :: env) e ∧ R w')) ?_ ?_
    · intro a ho
      exact hT hb a (ho.sub (Sub.cons (by rw [hs, hb]) (Sub.refl _)))
    · rintro e w' ⟨h1, h2, h3⟩
      rw [hl]
      have hsub : Sub env e := Sub.shadow (v := .bool q) (by rw [hs, hb]) h2
      have hse : look e s = some (.bool q) := h2.vals s _ (look_hit (look_ne hs))
      refine WD.pickOn (v := .bool x) hi hk (guardOn_sub hsub hg) hd (b := q) (by simpa [evO] using hse) ?_ ?_
      · rw [hu]; exact h1
      · have e1 : (bif q then b && x else b || x) = x := by subst hb; cases b <;> simp
        have := next w' h3
        rw [e1] at this
        exact fun a ho => this a (ho.sub (Sub.both hsub))
  · have hb' : b = !q := by cases b <;> cases q <;> simp_all
    unfold offDOk at hoff
    split at hoff
    · rename_i e he
      have hdrop := offD_drop _ _ _ _ he
      have h2 : Sub ((s, .bool (!q)) :: env) e := Sub.drop _ _ _ hdrop hoff
      have hsub : Sub env e := Sub.shadow (v := .bool (!q)) (by rw [hs, hb']) h2
      have hse : look e s = some (.bool (!q)) := h2.vals s _ (look_hit (look_ne hs))
      have main : WD c B ops C kind (is.take k ++ is.drop k) ((s, .bool (!q)) :: env) w N := by
        refine WD.offs hC _ _ _ he ?_
        rw [hl]
        refine WD.pickOn (v := .bool (!q)) hi hk (guardOn_sub hsub hg) hd (b := !q) (by simpa [evO] using hse) ?_ ?_
        · have : (if (!q) = true then u else v) = (if q then v else u) := by cases q <;> rfl
          rw [this, hv]; rfl
        · have e1 : (bif q then b && x else b || x) = !q := by subst hb'; cases q <;> simp
          have := next w (hF hb')
          rw [e1] at this
          exact fun a ho => this a (ho.sub (Sub.both hsub))
      rw [List.take_append_drop] at main
      exact fun a ho => main a (ho.sub (Sub.cons (by rw [hs, hb']) (Sub.refl _)))
    · cases hoff
end
end Go.Eng
