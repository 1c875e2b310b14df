/- Regions whose order is drawn: one walk, in an order in which every quiet operation comes as early as it may. No condition. -/
import Derived.Test.YtjddnaefmikccaaMem
set_option linter.unusedSimpArgs false
set_option linter.unusedVariables false
namespace Go.Eng
open Go Go.RowKit

section
variable {P : Program} {ops : Array Oper} {md : Region.Mode} {C : World → Prop} {Q : Exit → Act → World → Prop} {ro : Option Nat}

/-- Whatever order is picked from here on; operations that are not wild keep the class. -/
def wpAnyC (ro : Option Nat) (P : Program) (md : Region.Mode) (ops : Array Oper) (C : World → Prop) (wild : Nat → Bool) (Q : Exit → Act → World → Prop) : Nat → Array Bool → Act → World → Prop
  | 0, listed, a, w => Region.ready md ops listed = [] ∧ Q .normal a w
  | fuel + 1, listed, a, w =>
    (Region.ready md ops listed = [] → Q .normal a w) ∧
    ∀ i ∈ Region.ready md ops listed, wpOpIn (FW ro) 0 P ops Q i (fun a' w' => (wild i = false → C w → C w') ∧ wpAnyC ro P md ops C wild Q fuel (listed.setIfInBounds i true) a' w') a w

theorem wpAny_of_C {wild : Nat → Bool} : ∀ (fuel : Nat) (listed : Array Bool) (a : Act) (w : World), wpAnyC ro P md ops C wild Q fuel listed a w → wpAnyIn (FW ro) 0 P md ops Q fuel listed a w
  | 0, _, _, _, h => h
  | fuel + 1, listed, a, w, h => ⟨h.1, fun i hi => wpOpIn_mono (fun a' w' h' => wpAny_of_C fuel _ a' w' h'.2) (h.2 i hi)⟩

/-- In state a, in every world of the class, operation o yields v and leaves the world alone. -/
def YieldsC (P : Program) (ops : Array Oper) (C : World → Prop) (o : Oper) (v : Value) (a : Act) : Prop :=
  (Region.wanted o (yielded ops a.tmps) = true ∧ ∀ w, C w → (execOp a.eval o).run P w = .ok (.value v) w) ∨ (Region.wanted o (yielded ops a.tmps) = false ∧ v = undef)

theorem YieldsC.of_same {o : Oper} {v : Value} {a a' : Act} (hy : YieldsC P ops C o v a) (he : execOp a'.eval o = execOp a.eval o) (hw : Region.wanted o (yielded ops a'.tmps) = Region.wanted o (yielded ops a.tmps)) : YieldsC P ops C o v a' := by
  unfold YieldsC at *
  rw [he, hw]; exact hy

theorem YieldsC.wpOp {i : Nat} {o : Oper} {v : Value} {a : Act} {w : World} (hi : ops[i]? = some o) (hy : YieldsC P ops C o v a) (hC : C w) {K : Act → World → Prop} (h : K (a.put o.dst v) w) : wpOpIn (FW ro) 0 P ops Q i K a w := by
  unfold Go.wpOpIn
  simp only [hi]
  rcases hy with ⟨hw, hv⟩ | ⟨hw, rfl⟩
  · rw [if_pos hw]
    exact wpIn_of_value (hv w hC) h
  · rw [if_neg (by simp [hw])]; exact ⟨fun _ _ => trivial, h⟩

theorem upon_put {F : Fence} {o : Oper} {a : Act} {dst : Option Tmp} {v : Value} {K : Act → World → Prop} (hp : ∀ ch a w, ¬ Q (.panic ch) a w) (ho : ∀ a w, ¬ Q .outgrown a w)
    (h2 : ∀ d, dst = some d → o.dst ≠ some d) {r : Result Next} (h : o.uponIn F 0 P (a.put dst v) K Q r) : o.uponIn F 0 P a (fun a' w' => (∃ u ds, a' = ({ a with defers := ds }.put o.dst u)) ∧ K (a'.put dst v) w') Q r := by
  have comm : ∀ u, ((a.put dst v).put o.dst u) = (a.put o.dst u).put dst v := fun u => Act.put_comm a v u h2
  cases r with
  | ok nx w' =>
    cases nx <;> simp only [Oper.uponIn] at h ⊢
    case value u => exact ⟨⟨u, a.defers, rfl⟩, by rw [← comm]; exact h⟩
    case skip => exact ⟨⟨undef, a.defers, rfl⟩, by rw [← comm]; exact h⟩
    case defer d =>
      refine ⟨⟨undef, d :: a.defers, rfl⟩, ?_⟩
      have := Act.put_comm { a with defers := d :: a.defers } v undef h2
      rw [← this]
      have e : ({ a with defers := d :: a.defers } : Act).put dst v = { a.put dst v with defers := d :: (a.put dst v).defers } := by cases dst <;> rfl
      rw [e]; exact h
    case enter f args =>
      refine ⟨h.1, CallsIn.mono h.2 ?_⟩
      intro e w'' he
      cases e with
      | returned u => exact ⟨⟨u, a.defers, rfl⟩, by rw [← comm]; exact he⟩
      | panicked ch => exact (hp _ _ _ he).elim
      | outgrown => obtain ⟨a0, w0, h0⟩ := he; exact (ho _ _ h0).elim
    case row row args => exact ⟨h.1, RowsIn.mono h.2 fun u w'' he => ⟨⟨u, a.defers, rfl⟩, by rw [← comm]; exact he⟩⟩
    case round l f t a1 b1 =>
      refine ⟨h.1, RoundIn.mono h.2 ?_⟩
      intro e w'' he
      cases e with
      | returned u => exact ⟨⟨u, a.defers, rfl⟩, by rw [← comm]; exact he⟩
      | panicked ch => exact (hp _ _ _ he).elim
      | outgrown => obtain ⟨a0, w0, h0⟩ := he; exact (ho _ _ h0).elim
    all_goals exact h
  | halt x w' => cases x <;> simp only [Oper.uponIn] at h ⊢ <;> first | exact h | exact (hp _ _ _ h).elim

theorem semAt_put (ro : Option Nat) (o : Oper) (hs : ∀ cs b, o.op ≠ .select cs b) (a : Act) (dst : Option Tmp) (v : Value) (h : ∀ d, dst = some d → d ∉ o.looksAt ops) : o.semAt ro (a.put dst v).eval = o.semAt ro a.eval := by
  have he := execOp_put o hs a dst v h
  cases ro with
  | none => exact he
  | some l =>
    obtain ⟨dd, op, ty, pos, after, g⟩ := o
    cases op with
    | defer c =>
      have e := resolve_congr (ρ := (a.put dst v).eval) (ρ' := a.eval) c ty (fun x hx => Act.eval_put fun d hd hxd => h d hd (by
        subst hxd
        exact List.mem_append_left _ (List.mem_filterMap.2 ⟨.tmp d, by simpa [Op.operands] using hx, rfl⟩)))
      simp only [Oper.semAt, e]
    | _ => exact he

theorem wpOp_put {j : Nat} {oi oj : Oper} {v : Value} (hj : ops[j]? = some oj) (hap : oi.apart ops oj = true) (hsi : ∀ cs b, oi.op ≠ .select cs b) (hsj : ∀ cs b, oj.op ≠ .select cs b)
    (hp : ∀ ch a w, ¬ Q (.panic ch) a w) (ho : ∀ a w, ¬ Q .outgrown a w) {K : Act → World → Prop} {a : Act} {w : World} (hy : YieldsC P ops C oi v a) (h : wpOpIn (FW ro) 0 P ops Q j K (a.put oi.dst v) w) :
    wpOpIn (FW ro) 0 P ops Q j (fun a' w' => YieldsC P ops C oi v a' ∧ K (a'.put oi.dst v) w') a w := by
  obtain ⟨h1, h2, h3⟩ := Oper.apart_spec hap
  have keep : ∀ (a : Act), YieldsC P ops C oi v a → ∀ u, YieldsC P ops C oi v (a.put oj.dst u) := fun a hy u => hy.of_same (execOp_put oi hsi a oj.dst u h3) (wanted_put oi a oj.dst u h3)
  have keepD : ∀ (a : Act) (ds : List Deferred), YieldsC P ops C oi v a → YieldsC P ops C oi v { a with defers := ds } := fun a ds hy => by
    have e : ({ a with defers := ds } : Act).eval = a.eval := by funext x; cases x <;> rfl
    exact hy.of_same (by rw [e]) rfl
  unfold wpOpIn at *
  simp only [hj] at *
  rw [wanted_put oj a oi.dst v h1] at h
  split
  · rename_i hw
    rw [if_pos hw] at h
    refine ⟨fun _ _ => trivial, ?_⟩
    have h4 := h.2
    rw [semAt_put _ oj hsj a oi.dst v h1] at h4
    have := upon_put hp ho h2 h4
    generalize (oj.semAt (FW ro).round a.eval).run P w = r at this ⊢
    have mono : ∀ {K K' : Act → World → Prop} (hK : ∀ a' w', K a' w' → K' a' w'), oj.uponIn (FW ro) 0 P a K Q r → oj.uponIn (FW ro) 0 P a K' Q r := by
      intro K K' hK hh
      cases r with
      | ok nx w' =>
        cases nx <;> simp only [Oper.uponIn] at hh ⊢ <;> first
          | exact hK _ _ hh
          | exact ⟨hh.1, CallsIn.mono hh.2 (fun e w'' he => by cases e <;> first | exact hK _ _ he | exact he)⟩
          | exact ⟨hh.1, RowsIn.mono hh.2 (fun _ _ he => hK _ _ he)⟩
          | exact ⟨hh.1, RoundIn.mono hh.2 (fun e w'' he => by cases e <;> first | exact hK _ _ he | exact he)⟩
          | exact hh
      | halt x w' => cases x <;> simp only [Oper.uponIn] at hh ⊢ <;> exact hh
    refine mono ?_ this
    rintro a' w' ⟨⟨u, ds, rfl⟩, hk⟩
    exact ⟨keep _ (keepD a ds hy) u, hk⟩
  · rename_i hw
    rw [if_neg hw] at h
    exact ⟨fun _ _ => trivial, keep a hy _, by rw [← Act.put_comm a v undef h2]; exact h.2⟩

/-- A quiet operation that may come up now may be taken first. -/
theorem wpAnyC_first {wild : Nat → Bool} {i : Nat} {oi : Oper} {v : Value} {Ci : World → Prop} (hi : ops[i]? = some oi) (hsel : ∀ (j : Nat) (o : Oper) cs b, ops[j]? = some o → o.op ≠ .select cs b)
    (hp : ∀ ch a w, ¬ Q (.panic ch) a w) (ho : ∀ a w, ¬ Q .outgrown a w) (hCi : Ci = C ∨ Ci = fun _ => True) (hwi : wild i = false) :
    ∀ (fuel : Nat) (listed : Array Bool) (a : Act) (w : World),
      (∀ j oj, ops[j]? = some oj → j ≠ i → listed.getD j true = false → (∀ e ∈ oj.after, Region.binds md e = true → e.on ≠ i) → oi.apart ops oj = true ∧ (Ci = (fun _ => True) ∨ wild j = false)) →
      i ∈ Region.ready md ops listed → YieldsC P ops Ci oi v a → Ci w →
      wpAnyC ro P md ops C wild Q fuel (listed.setIfInBounds i true) (a.put oi.dst v) w → wpAnyC ro P md ops C wild Q (fuel + 1) listed a w := by
  intro fuel
  induction fuel with
  | zero =>
    intro listed a w _ hr hy hC H
    refine ⟨fun h => (by rw [h] at hr; cases hr), fun j hj => ?_⟩
    by_cases hji : j = i
    · subst hji; exact hy.wpOp hi hC ⟨fun _ h => h, H⟩
    · have := ready_mono hj hji
      rw [H.1] at this
      cases this
  | succ fuel ih =>
    intro listed a w hfree hr hy hC H
    refine ⟨fun h => (by rw [h] at hr; cases hr), fun j hj => ?_⟩
    by_cases hji : j = i
    · subst hji; exact hy.wpOp hi hC ⟨fun _ h => h, H⟩
    · have h1 := H.2 j (ready_mono hj hji)
      obtain ⟨hjun, oj, hoj, hall⟩ := mem_ready.1 hj
      have hnot : ∀ e ∈ oj.after, Region.binds md e = true → e.on ≠ i := fun e he hb heq => by
        have h1 := hall e he hb
        have h0 := (mem_ready.1 hr).1
        rw [heq] at h1
        rcases Nat.lt_or_ge i listed.size with h' | h'
        · simp [h'] at h0 h1; rw [h0] at h1; cases h1
        · simp [Array.getElem?_eq_none h'] at h1
      obtain ⟨hap, hwj⟩ := hfree j oj hoj hji hjun hnot
      have h2 := wpOp_put hoj hap (fun cs b => hsel i oi cs b hi) (fun cs b => hsel j oj cs b hoj) hp ho hy h1
      have hfree' : ∀ k ok, ops[k]? = some ok → k ≠ i → (listed.setIfInBounds j true).getD k true = false →
          (∀ e ∈ ok.after, Region.binds md e = true → e.on ≠ i) → oi.apart ops ok = true ∧ (Ci = (fun _ => True) ∨ wild k = false) := fun k ok hk hki hun hno => by
        refine hfree k ok hk hki ?_ hno
        by_cases hjk : j = k
        · subst hjk; exact hjun
        · rw [getD_set_ne true hjk] at hun; exact hun
      refine wpOpIn_mono (fun a' w' h3 => ⟨h3.2.1, ih (listed.setIfInBounds j true) a' w' hfree' (ready_mono hr (Ne.symm hji)) h3.1 ?_ ?_⟩) h2
      · rcases hCi with h | h
        · rcases hwj with h' | h'
          · rw [h']; trivial
          · rw [h] at hC ⊢; exact h3.2.1 h' hC
        · rw [h]; trivial
      · rw [Array.setIfInBounds_comm _ _ hji]
        exact h3.2.2

/-- The kinds: 0 quiet, of no world · 1 quiet, of the class · 2 it acts and keeps the class · 3 it acts, and everything of kind 1 comes ahead. -/
def canonB (md : Region.Mode) (ops : Array Oper) (kind : List Nat) : List Nat → Array Bool → Bool
  | [], listed => (Region.ready md ops listed).isEmpty
  | i :: is, listed =>
    (match kind[i]? with
     | some 0 => (Region.ready md ops listed).contains i && Region.free md ops listed i
     | some 1 => (Region.ready md ops listed).contains i && Region.free md ops listed i &&
        (match ops[i]? with
         | none => false
         | some _ => (List.range ops.size).all fun j => j == i || listed.getD j true || match ops[j]? with
            | some oj => oj.after.any (fun e => Region.binds md e && e.on == i) || kind[j]? != some 3
            | none => true)
     | some 2 => (match Region.ready md ops listed with | [j] => j == i | _ => false)
     | some 3 => (match Region.ready md ops listed with | [j] => j == i | _ => false)
     | _ => false) && canonB md ops kind is (listed.setIfInBounds i true)

/-- The one walk. -/
def wpCan (ro : Option Nat) (P : Program) (ops : Array Oper) (C : World → Prop) (kind : List Nat) (Q : Exit → Act → World → Prop) : List Nat → Act → World → Prop
  | [], a, w => Q .normal a w
  | i :: is, a, w => match ops[i]? with
    | none => False
    | some o => match kind[i]? with
      | some 0 => ∃ v, YieldsC P ops (fun _ => True) o v a ∧ wpCan ro P ops C kind Q is (a.put o.dst v) w
      | some 1 => C w ∧ ∃ v, YieldsC P ops C o v a ∧ wpCan ro P ops C kind Q is (a.put o.dst v) w
      | some 2 => wpOpIn (FW ro) 0 P ops Q i (fun a' w' => (C w → C w') ∧ wpCan ro P ops C kind Q is a' w') a w
      | some 3 => wpOpIn (FW ro) 0 P ops Q i (fun a' w' => wpCan ro P ops C kind Q is a' w') a w
      | _ => False

theorem wpAnyC_can (kind : List Nat) (hsel : Region.noSelect ops = true) (hp : ∀ ch a w, ¬ Q (.panic ch) a w) (ho : ∀ a w, ¬ Q .outgrown a w) :
    ∀ (is : List Nat) (listed : Array Bool) (a : Act) (w : World), canonB md ops kind is listed = true → wpCan ro P ops C kind Q is a w → wpAnyC ro P md ops C (fun j => kind[j]? == some 3) Q is.length listed a w
  | [], listed, a, w, hB, h => ⟨by simpa [canonB] using hB, h⟩
  | i :: is, listed, a, w, hB, h => by
    simp only [canonB, Bool.and_eq_true] at hB
    obtain ⟨hB1, hB2⟩ := hB
    unfold wpCan at h
    cases hi : ops[i]? with
    | none => rw [hi] at h; exact h.elim
    | some o =>
      rw [hi] at h
      simp only at h
      split at h
      · rename_i hk
        rw [hk] at hB1
        simp only [Bool.and_eq_true] at hB1
        obtain ⟨v, hy, hK⟩ := h
        refine wpAnyC_first (Ci := fun _ => True) hi (fun j o cs b hj => Region.noSelect_spec hsel j o cs b hj) hp ho (.inr rfl) (by simp [hk]) is.length listed a w ?_ (by simpa using hB1.1) hy trivial (wpAnyC_can kind hsel hp ho is _ _ _ hB2 hK)
        intro j oj hj hne hun hno
        exact ⟨Region.free_spec hi hB1.2 j oj hj hne hun hno, .inl rfl⟩
      · rename_i hk
        rw [hk] at hB1
        simp only [Bool.and_eq_true, hi, List.all_eq_true, List.mem_range] at hB1
        obtain ⟨hC, v, hy, hK⟩ := h
        refine wpAnyC_first (Ci := C) hi (fun j o cs b hj => Region.noSelect_spec hsel j o cs b hj) hp ho (.inl rfl) (by simp [hk]) is.length listed a w ?_ (by simpa using hB1.1.1) hy hC (wpAnyC_can kind hsel hp ho is _ _ _ hB2 hK)
        intro j oj hj hne hun hno
        refine ⟨Region.free_spec hi hB1.1.2 j oj hj hne hun hno, .inr ?_⟩
        have h1 := hB1.2 j (Array.getElem?_eq_some_iff.1 hj).1
        simp only [hj, Bool.or_eq_true, beq_iff_eq, hne, false_or, hun, Bool.false_eq_true] at h1
        rcases h1 with h1 | h1
        · obtain ⟨e, he, hb⟩ := Array.any_eq_true'.1 h1
          simp only [Bool.and_eq_true, beq_iff_eq] at hb
          exact absurd hb.2 (hno e he hb.1)
        · simpa using h1
      · rename_i hk
        rw [hk] at hB1
        simp only at hB1
        split at hB1
        · rename_i j hr
          have : j = i := by simpa using hB1
          subst this
          refine ⟨fun h0 => (by rw [hr] at h0; cases h0), fun k hkr => ?_⟩
          rw [hr] at hkr
          have : k = j := by simpa using hkr
          subst this
          exact wpOpIn_mono (fun a' w' h' => ⟨fun _ => h'.1, wpAnyC_can kind hsel hp ho is _ _ _ hB2 h'.2⟩) h
        · cases hB1
      · rename_i hk
        rw [hk] at hB1
        simp only at hB1
        split at hB1
        · rename_i j hr
          have : j = i := by simpa using hB1
          subst this
          refine ⟨fun h0 => (by rw [hr] at h0; cases h0), fun k hkr => ?_⟩
          rw [hr] at hkr
          have : k = j := by simpa using hkr
          subst this
          exact wpOpIn_mono (fun a' w' h' => ⟨fun h0 => by simp [hk] at h0, wpAnyC_can kind hsel hp ho is _ _ _ hB2 h'⟩) h
        · cases hB1
      · exact h.elim
end

section
variable {c : Cx} {B : List (Nat × Kont)} {env : Env} {w : World} {N : Kont} {ops : Array Oper} {C : World → Prop} {kind : List Nat} {is : List Nat}

/-- The one walk, in the engine's words. -/
def WD (c : Cx) (B : List (Nat × Kont)) (ops : Array Oper) (C : World → Prop) (kind : List Nat) (is : List Nat) (env : Env) (w : World) (N : Kont) : Prop :=
  ∀ a, EnvOk c.n env a → wpCan c.rnd c.P ops C kind (QQ c B N) is a w

theorem WC.regionD {id : Nat} (C : World → Prop) (kind is : List Nat) (hm : c.P.follows .mixedOrders = true) (hB : (Region.noSelect ops && Nat.beq is.length ops.size && canonB .any ops kind is (Array.replicate ops.size false)) = true)
    (h : WD c B ops C kind is env w.drew N) : WC c B (.region id ops true) env w N := fun a ho => by
  simp only [Bool.and_eq_true] at hB
  have hlen : is.length = ops.size := Nat.eq_of_beq_eq_true hB.1.2
  refine wpIn_region_any hm (wpAny_of_C (C := C) (wild := fun j => kind[j]? == some 3) _ _ _ _ ?_)
  rw [← hlen]
  exact wpAnyC_can kind hB.1.1 (fun _ _ _ h => h) (fun _ _ h => h) is _ _ _ (by rw [hlen]; exact hB.2) (h a ho)

theorem WD.nil (h : N env w) : WD c B ops C kind [] env w N := fun a ho => ⟨env, ho, h⟩

theorem wpOp_on {i : Nat} {op : Op} {ty : TypeId} {d : Option Nat} {pos : String} {after : Array Edge} {g : Option (Nat × Bool)} {a : Act} {K : Act → World → Prop} {S : Value → World → Prop} (hi : ops[i]? = some ⟨d, op, ty, pos, after, g⟩) (hg : guardOn ops env g = true)
    (ho : EnvOk c.n env a) (hE : Eff c.P env w op ty S) (hK : ∀ v w', S v w' → K (a.put d v) w') : wpOpIn (FW c.rnd) 0 c.P ops (QQ c B N) i K a w := by
  unfold wpOpIn
  simp only [hi]
  rw [if_pos (wanted_on (o := ⟨d, op, ty, pos, after, g⟩) ho hg)]
  exact hE c.n a ho _ _ _ _ _ _ _ hK

/-- quiet, of no world -/
theorem WD.val {i : Nat} {op : Op} {ty : TypeId} {v : Value} {d : Nat} {pos : String} {after : Array Edge} {g : Option (Nat × Bool)} (hi : ops[i]? = some ⟨some d, op, ty, pos, after, g⟩) (hk : kind[i]? = some 0) (hg : guardOn ops env g = true)
    (h : ∀ W, Val c.P env W op ty v) (hd : Nat.blt d c.n = true) (next : WD c B ops C kind is ((d, v) :: env) w N) : WD c B ops C kind (i :: is) env w N := fun a ho => by
  unfold wpCan
  simp only [hi, hk]
  exact ⟨v, .inl ⟨wanted_on (o := ⟨some d, op, ty, pos, after, g⟩) ho hg, fun W _ => h W c.n a ho _ _ _ _⟩, next _ (ho.put hd v)⟩
/-- quiet, of the class -/
theorem WD.valC {i : Nat} {op : Op} {ty : TypeId} {v : Value} {d : Nat} {pos : String} {after : Array Edge} {g : Option (Nat × Bool)} (hi : ops[i]? = some ⟨some d, op, ty, pos, after, g⟩) (hk : kind[i]? = some 1) (hg : guardOn ops env g = true) (hC : C w)
    (h : ∀ W, C W → Val c.P env W op ty v) (hd : Nat.blt d c.n = true) (next : WD c B ops C kind is ((d, v) :: env) w N) : WD c B ops C kind (i :: is) env w N := fun a ho => by
  unfold wpCan
  simp only [hi, hk]
  exact ⟨hC, v, .inl ⟨wanted_on (o := ⟨some d, op, ty, pos, after, g⟩) ho hg, fun W hW => h W hW c.n a ho _ _ _ _⟩, next _ (ho.put hd v)⟩
/-- passed over -/
theorem WD.off {i s : Nat} {op : Op} {ty : TypeId} {d j : Nat} {pos : String} {after : Array Edge} {want b : Bool} (hi : ops[i]? = some ⟨some d, op, ty, pos, after, some (j, want)⟩) (hk : kind[i]? = some 0) (hj : (ops[j]?).bind (·.dst) = some s) (hs : look env s = some (.bool b))
    (hne : (b == want) = false) (hd : Nat.blt d c.n = true) (next : WD c B ops C kind is ((d, undef) :: env) w N) : WD c B ops C kind (i :: is) env w N := fun a ho => by
  unfold wpCan
  simp only [hi, hk]
  exact ⟨undef, .inr ⟨by rw [wanted_known ho hj hs, hne], rfl⟩, next _ (ho.put hd undef)⟩
/-- it acts, and keeps the class -/
theorem WD.eff {i : Nat} {op : Op} {ty : TypeId} {S : Value → World → Prop} {d : Nat} {pos : String} {after : Array Edge} {g : Option (Nat × Bool)} (hi : ops[i]? = some ⟨some d, op, ty, pos, after, g⟩) (hk : kind[i]? = some 2) (hg : guardOn ops env g = true)
    (h : Eff c.P env w op ty S) (hd : Nat.blt d c.n = true) (next : ∀ v w', S v w' → (C w → C w') ∧ WD c B ops C kind is ((d, v) :: env) w' N) : WD c B ops C kind (i :: is) env w N := fun a ho => by
  unfold wpCan
  simp only [hi, hk]
  exact wpOp_on hi hg ho h fun v w' hS => ⟨(next v w' hS).1, (next v w' hS).2 _ (ho.put hd v)⟩
/-- it acts, keeps the class, and hands nothing back -/
theorem WD.eff_ {i : Nat} {op : Op} {ty : TypeId} {S : Value → World → Prop} {pos : String} {after : Array Edge} {g : Option (Nat × Bool)} (hi : ops[i]? = some ⟨none, op, ty, pos, after, g⟩) (hk : kind[i]? = some 2) (hg : guardOn ops env g = true)
    (h : Eff c.P env w op ty S) (next : ∀ v w', S v w' → (C w → C w') ∧ WD c B ops C kind is env w' N) : WD c B ops C kind (i :: is) env w N := fun a ho => by
  unfold wpCan
  simp only [hi, hk]
  exact wpOp_on hi hg ho h fun v w' hS => ⟨(next v w' hS).1, (next v w' hS).2 _ ho⟩
/-- it acts -/
theorem WD.wild {i : Nat} {op : Op} {ty : TypeId} {S : Value → World → Prop} {pos : String} {after : Array Edge} {g : Option (Nat × Bool)} (hi : ops[i]? = some ⟨none, op, ty, pos, after, g⟩) (hk : kind[i]? = some 3) (hg : guardOn ops env g = true)
    (h : Eff c.P env w op ty S) (next : ∀ v w', S v w' → WD c B ops C kind is env w' N) : WD c B ops C kind (i :: is) env w N := fun a ho => by
  unfold wpCan
  simp only [hi, hk]
  exact wpOp_on hi hg ho h fun v w' hS => next v w' hS _ ho
end

/-! ### Ranging over a string of one-byte letters -/
/-- A string's iterator. -/
def Iter (w : World) (b : Nat) (l : List UInt8) (pos : Nat) : Prop := w.heap[b]? = some (.stringIter ⟨l.toArray⟩ pos)
/-- What next tells. -/
def nextV (l : List UInt8) (pos : Nat) : Value := if pos < l.length then .tuple #[.bool true, I pos, .int .i32 (l.getD pos 0).toNat] else .tuple #[.bool false]
section
variable {P : Program} {env : Env} {w : World} {ty : TypeId}
theorem Iter.lt {b : Nat} {l : List UInt8} {pos : Nat} (h : Iter w b l pos) : b < w.heap.size := by
  rcases Nat.lt_or_ge b w.heap.size with h1 | h1
  · exact h1
  · unfold Iter at h; rw [Array.getElem?_eq_none h1] at h; cases h
theorem Iter.up {w' : World} {b : Nat} {l : List UInt8} {pos : Nat} (h : Iter w b l pos) (hk : Below w.heap.size w w') : Iter w' b l pos := (hk.block b h.lt).trans h
theorem Eff.rangeStr {t : TypeId} {x : Operand} {l : List UInt8} (ht : P.underlying t = some .string) (hx : evO env x = some (St l)) :
    Eff P env w (.range t x) ty (fun v w' => Below w.heap.size w w' ∧ ∃ b, v = .pointer (some ⟨b, 0, none⟩) ∧ b = w.heap.size ∧ Iter w' b l 0) :=
  Eff.of_run fun _ a ho d pos after g => ⟨.pointer (some ⟨w.heap.size, 0, none⟩), w.alloc (.stringIter ⟨l.toArray⟩ 0), by
    simp only [execOp, Instr.range, ho.eval hx, Sem.run_bind, run_underlying ht, Result.andThen_ok, Sem.run_pure, newObj, Sem.run]; rfl, (Below.refl _ _).alloc (Nat.le_refl _) _, w.heap.size, rfl, rfl, heap_alloc_new w _⟩
theorem Eff.nextStr {x : Operand} {b pos : Nat} {l : List UInt8} (hx : evO env x = some (.pointer (some ⟨b, 0, none⟩))) (hi : Iter w b l pos) (ha : ∀ c ∈ l, c.toNat < 128) :
    Eff P env w (.next x true) ty (fun v w' => w.grownBy w' (some b) ∧ v = nextV l pos ∧ (pos < l.length → Iter w' b l (pos + 1))) :=
  Eff.of_run fun _ a ho d p after g => by
    unfold Iter at hi
    by_cases hp : pos < l.length
    · have hsz : pos < (⟨l.toArray⟩ : ByteArray).size := by rw [size_mk]; exact hp
      have hget : (⟨l.toArray⟩ : ByteArray)[pos]'hsz = l[pos] := rfl
      have hd := decode_ascii ⟨l.toArray⟩ pos hsz (by rw [hget]; exact ha _ (List.getElem_mem hp))
      refine ⟨_, { w with heap := w.heap.setIfInBounds b (.stringIter ⟨l.toArray⟩ (pos + 1)) }, ?_, ⟨rfl, rfl, rfl, by simp, fun k _ hne => ?_⟩, rfl, fun _ => ?_⟩
      · simp [execOp, Instr.next, ho.eval hx, hi, hsz, hd, nextV, hp, getObj, setObj, Sem.run, goInt, hget]
      · have : b ≠ k := fun e => hne (by rw [e])
        simp [Array.getElem?_setIfInBounds_ne this]
      · unfold Iter
        have hb : b < w.heap.size := (Array.getElem?_eq_some_iff.1 hi).1
        simp [hb]
    · have hsz : ¬ pos < (⟨l.toArray⟩ : ByteArray).size := by rw [size_mk]; exact hp
      refine ⟨_, w, ?_, grown_refl _ _, rfl, fun h => absurd h hp⟩
      simp [execOp, Instr.next, ho.eval hx, hi, hsz, nextV, hp, getObj, Sem.run]
theorem Val.nextOk {x : Operand} {l : List UInt8} {pos : Nat} (hx : evO env x = some (nextV l pos)) : Val P env w (.extract x 0) ty (.bool (decide (pos < l.length))) := fun _ a ho d p after g => by
  by_cases hp : pos < l.length <;> simp [execOp, Instr.extract, ho.eval hx, nextV, hp]
theorem Val.nextC {x : Operand} {l : List UInt8} {pos : Nat} (hx : evO env x = some (nextV l pos)) (hp : pos < l.length) : Val P env w (.extract x 2) ty (.int .i32 l[pos].toNat) := fun _ a ho d p after g => by
  simp [execOp, Instr.extract, ho.eval hx, nextV, hp]
end

/-! ### == on structs of plain fields -/
def kindT (P : Program) (t : TypeId) : Option Nat :=
  match P.underlying t with
  | some (.int _) => some 0
  | some .bool => some 1
  | some .string => some 2
  | _ => none
def flatFields (P : Program) : Nat → List Field → Option (List Nat)
  | _, [] => some []
  | i, f :: r => match kindT P f.type, flatFields P (i + 1) r with
    | some k, some ks => bif f.name != "_" && Nat.beq f.offset i then some (k :: ks) else none
    | _, _ => none
/-- A struct's fields, all plain, one cell each: their kinds. -/
def flatT (P : Program) (t : TypeId) : Option (List Nat) :=
  bif P.stoodInHeld t || P.eqGuardType P.depth t then none else
  match P.underlying t with
  | some (.struct fs) => flatFields P 0 fs.toList
  | _ => none
def cellEq : Value → Value → Bool
  | .int _ a, .int _ b => decide (a = b)
  | .bool a, .bool b => a == b
  | .string a, .string b => a.toList == b.toList
  | _, _ => false
def cellsEq : List Value → List Value → Bool
  | x :: xs, y :: ys => cellEq x y && cellsEq xs ys
  | _, _ => true
def cellsK : List Nat → List Value → List Value → Bool
  | [], [], [] => true
  | 0 :: ks, .int _ _ :: xs, .int _ _ :: ys => cellsK ks xs ys
  | 1 :: ks, .bool _ :: xs, .bool _ :: ys => cellsK ks xs ys
  | 2 :: ks, .string _ :: xs, .string _ :: ys => cellsK ks xs ys
  | _, _, _ => false
section
variable {P : Program} {env : Env} {w : World} {ty : TypeId}
theorem run_equalIn_int2 (d : Nat) (t : TypeId) (k : IntKind) (k0 k' : IntKind) (a b : Int) (hkk : k0 = k) (h : P.underlying t = some (.int k')) : (Op.equalIn (d + 1) t (.int k0 a) (.int k b)).run P w = .ok (decide (a = b)) w := by
  subst hkk
  simp [Op.equalIn, run_underlying h]; rfl
def sameKinds : List Value → List Value → Prop
  | .int k _ :: xs, .int k' _ :: ys => k = k' ∧ sameKinds xs ys
  | _ :: xs, _ :: ys => sameKinds xs ys
  | _, _ => True
theorem run_eqFields : ∀ (fs : List Field) (i : Nat) (ks : List Nat) (xs ys pre pre' : List Value), flatFields P i fs = some ks → cellsK ks xs ys = true → sameKinds xs ys → pre.length = i → pre'.length = i →
    (Op.eqFields 9999 (pre ++ xs).toArray (pre' ++ ys).toArray fs).run P w = .ok (cellsEq xs ys) w
  | [], i, ks, xs, ys, pre, pre', hf, hk, _, _, _ => by
    simp [flatFields] at hf; subst hf
    cases xs <;> cases ys <;> simp [cellsK] at hk
    simp [Op.eqFields, cellsEq]
  | f :: r, i, ks, xs, ys, pre, pre', hf, hk, hs, hp, hp' => by
    unfold flatFields at hf
    split at hf
    · rename_i k ks' hkt hr
      cases hb : (f.name != "_" && Nat.beq f.offset i) with
      | false => rw [hb] at hf; simp at hf
      | true =>
        rw [hb] at hf
        simp at hf
        subst hf
        simp only [Bool.and_eq_true, bne_iff_ne, ne_eq] at hb
        have hoff : f.offset = i := Nat.eq_of_beq_eq_true hb.2
        have hnag : (isAgg f.type).run P w = .ok false w := by
          unfold kindT at hkt
          split at hkt
          · rename_i _ hu; simp [isAgg, underlying, program, Sem.run, hu]
          · rename_i hu; simp [isAgg, underlying, program, Sem.run, hu]
          · rename_i hu; simp [isAgg, underlying, program, Sem.run, hu]
          · cases hkt
        match ks', xs, ys, k, hkt with
        | ks', x :: xs, y :: ys, k, hkt =>
          have px : (part f.type (pre ++ x :: xs).toArray f.offset).run P w = .ok x w := by
            have : (pre ++ x :: xs)[f.offset]? = some x := by rw [hoff, ← hp]; simp
            simp [part, hnag, this]
          have py : (part f.type (pre' ++ y :: ys).toArray f.offset).run P w = .ok y w := by
            have : (pre' ++ y :: ys)[f.offset]? = some y := by rw [hoff, ← hp']; simp
            simp [part, hnag, this]
          have step : cellsK ks' xs ys = true ∧ sameKinds xs ys ∧ (Op.equalIn 9999 f.type x y).run P w = .ok (cellEq x y) w := by
            unfold kindT at hkt
            split at hkt
            · rename_i kk hu
              simp at hkt; subst hkt
              cases x <;> cases y <;> simp [cellsK] at hk
              simp only [sameKinds] at hs
              exact ⟨hk, hs.2, run_equalIn_int2 9998 _ _ _ _ _ _ hs.1 hu⟩
            · rename_i hu
              simp at hkt; subst hkt
              cases x <;> cases y <;> simp [cellsK] at hk
              simp only [sameKinds] at hs
              exact ⟨hk, hs, run_equalIn_bool' w 9998 _ _ _ hu⟩
            · rename_i hu
              simp at hkt; subst hkt
              cases x <;> cases y <;> simp [cellsK] at hk
              simp only [sameKinds] at hs
              exact ⟨hk, hs, run_equalIn_string w 9998 _ _ _ hu⟩
            · cases hkt
          obtain ⟨h1, h2, h3⟩ := step
          have ih := run_eqFields r (i + 1) ks' xs ys (pre ++ [x]) (pre' ++ [y]) hr h1 h2 (by simp [hp]) (by simp [hp'])
          simp only [List.append_assoc, List.singleton_append] at ih
          simp only [Op.eqFields]
          rw [if_pos hb.1]
          simp only [Sem.run_bind, px, py, h3, Result.andThen_ok, cellsEq]
          cases hce : cellEq x y
          · simp
          · simpa using ih
        | ks', [], ys, k, hkt => simp [cellsK] at hk
        | ks', x :: xs, [], k, hkt => simp [cellsK] at hk
    · cases hf
theorem flatT_spec {t : TypeId} {ks : List Nat} (h : flatT P t = some ks) : P.stoodInHeld t = false ∧ P.eqGuardType P.depth t = false ∧ P.underlying t = some (.struct (P.fieldsOf t)) ∧ flatFields P 0 (P.fieldsOf t).toList = some ks := by
  unfold flatT at h
  cases h1 : P.stoodInHeld t
  · cases h2 : P.eqGuardType P.depth t
    · rw [h1, h2] at h
      simp only [Bool.or_false, cond_false] at h
      split at h
      · rename_i fs hu
        have : P.fieldsOf t = fs := by simp [Program.fieldsOf, hu]
        exact ⟨rfl, rfl, by rw [this]; exact hu, by rw [this]; exact h⟩
      · cases h
    · rw [h2] at h; simp at h
  · rw [h1] at h; simp at h
section
variable {t ty2 : TypeId} {x y : Operand} {ks : List Nat} {xs ys : List Value} (ht : flatT P t = some ks) (hx : evO env x = some (.agg xs.toArray)) (hy : evO env y = some (.agg ys.toArray)) (hk : cellsK ks xs ys = true) (hs : sameKinds xs ys)
include ht hx hy hk hs
theorem Val.steq : Val P env w (.binOp .eql t x y ty2) ty (.bool (cellsEq xs ys)) := fun _ a ho d pos after g => by
  obtain ⟨h1, h2, h3, h4⟩ := flatT_spec ht
  have h5 := run_eqFields (P := P) (w := w) _ 0 ks xs ys [] [] h4 hk hs rfl rfl
  have h6 := run_equalIn_struct (P := P) w 9999 t xs.toArray ys.toArray h3 h1
  simp only [List.nil_append] at h5
  simp only [execOp, ho.eval hx, ho.eval hy, Sem.run_bind, run_eqGuard_agg w _ _ _ _ _ _ h2, Result.andThen_ok, run_eql_struct, h6, h5]
  simp
theorem Val.stne : Val P env w (.binOp .neq t x y ty2) ty (.bool (!cellsEq xs ys)) := fun _ a ho d pos after g => by
  obtain ⟨h1, h2, h3, h4⟩ := flatT_spec ht
  have h5 := run_eqFields (P := P) (w := w) _ 0 ks xs ys [] [] h4 hk hs rfl rfl
  have h6 := run_equalIn_struct (P := P) w 9999 t xs.toArray ys.toArray h3 h1
  simp only [List.nil_append] at h5
  simp only [execOp, ho.eval hx, ho.eval hy, Sem.run_bind, run_eqGuard_agg w _ _ _ _ _ _ h2, Result.andThen_ok, run_neq_struct, h6, h5]
  simp
end
end
/-! ### Short names -/
section
variable {c : Cx} {B : List (Nat × Kont)} {env : Env} {w : World} {N : Kont} {ops : Array Oper} {rest : List Oper} {C : World → Prop} {kind is : List Nat}
theorem qq {op : Op} {ty : TypeId} {v : Value} {d : Nat} {pos : String} {after : Array Edge} (h : Val c.P env w op ty v) (hd : Nat.blt d c.n = true)
    (next : WR c B ops rest ((d, v) :: env) w N) : WR c B ops (⟨some d, op, ty, pos, after, none⟩ :: rest) env w N := WR.val h hd next
theorem cseq {x y : Code} (h : WC c B x env w (fun e w => WC c B y e w N)) : WC c B (.seq x y) env w N := WC.seq h
theorem cg {id : Nat} {l : List Oper} (h : WR c B l.toArray l env w N) : WC c B (.region id l.toArray false) env w N := WC.region h
theorem cblock {x : Code} {id : Nat} (h : WC c ((id, N) :: B) x env w N) : WC c B (.block id x) env w N := WC.block h
theorem cskip (h : N env w) : WC c B .skip env w N := WC.skip h
theorem cnil (h : N env w) : WR c B ops [] env w N := WR.nil h
theorem qd {i : Nat} {op : Op} {ty : TypeId} {v : Value} {d : Nat} {pos : String} {after : Array Edge} {g : Option (Nat × Bool)} (hi : ops[i]? = some ⟨some d, op, ty, pos, after, g⟩) (hk : kind[i]? = some 0) (hg : guardOn ops env g = true)
    (h : ∀ W, Val c.P env W op ty v) (hd : Nat.blt d c.n = true) (next : WD c B ops C kind is ((d, v) :: env) w N) : WD c B ops C kind (i :: is) env w N := WD.val hi hk hg h hd next
theorem qc {i : Nat} {op : Op} {ty : TypeId} {v : Value} {d : Nat} {pos : String} {after : Array Edge} {g : Option (Nat × Bool)} (hi : ops[i]? = some ⟨some d, op, ty, pos, after, g⟩) (hk : kind[i]? = some 1) (hg : guardOn ops env g = true) (hC : C w)
    (h : ∀ W, C W → Val c.P env W op ty v) (hd : Nat.blt d c.n = true) (next : WD c B ops C kind is ((d, v) :: env) w N) : WD c B ops C kind (i :: is) env w N := WD.valC hi hk hg hC h hd next
theorem vq {op : Op} {ty : TypeId} {v : Value} {d : Nat} {pos : String} {after : Array Edge} (h : Val c.P env w op ty v)
    (next : WR c B ops rest ((d, v) :: env) w N) (hd : Nat.blt d c.n = true := by rfl) : WR c B ops (⟨some d, op, ty, pos, after, none⟩ :: rest) env w N := WR.val h hd next
theorem ve {op : Op} {ty : TypeId} {S : Value → World → Prop} {d : Nat} {pos : String} {after : Array Edge} (h : Eff c.P env w op ty S)
    (next : ∀ v w', S v w' → WR c B ops rest ((d, v) :: env) w' N) (hd : Nat.blt d c.n = true := by rfl) : WR c B ops (⟨some d, op, ty, pos, after, none⟩ :: rest) env w N := WR.eff h hd next
theorem vd {i : Nat} {op : Op} {ty : TypeId} {v : Value} {d : Nat} {pos : String} {after : Array Edge} {g : Option (Nat × Bool)} (hi : ops[i]? = some ⟨some d, op, ty, pos, after, g⟩)
    (h : ∀ W, Val c.P env W op ty v) (next : WD c B ops C kind is ((d, v) :: env) w N) (hk : kind[i]? = some 0 := by rfl) (hg : guardOn ops env g = true := by rfl) (hd : Nat.blt d c.n = true := by rfl) : WD c B ops C kind (i :: is) env w N := WD.val hi hk hg h hd next
theorem vc {i : Nat} {op : Op} {ty : TypeId} {v : Value} {d : Nat} {pos : String} {after : Array Edge} {g : Option (Nat × Bool)} (hi : ops[i]? = some ⟨some d, op, ty, pos, after, g⟩) (hC : C w)
    (h : ∀ W, C W → Val c.P env W op ty v) (next : WD c B ops C kind is ((d, v) :: env) w N) (hk : kind[i]? = some 1 := by rfl) (hg : guardOn ops env g = true := by rfl) (hd : Nat.blt d c.n = true := by rfl) : WD c B ops C kind (i :: is) env w N := WD.valC hi hk hg hC h hd next
theorem zm {x : Operand} {ty : TypeId} {v : Value} {d : Nat} {pos : String} {after : Array Edge} (hx : evO env x = some v)
    (next : WR c B ops rest ((d, v) :: env) w N) (hd : Nat.blt d c.n = true := by rfl) : WR c B ops (⟨some d, .move x, ty, pos, after, none⟩ :: rest) env w N := WR.val (Val.move hx) hd next
theorem za {x : Operand} {ty : TypeId} {v : Value} {d : Nat} {pos : String} {after : Array Edge} (hx : evO env x = some v)
    (next : WR c B ops rest ((d, v) :: env) w N) (hd : Nat.blt d c.n = true := by rfl) : WR c B ops (⟨some d, .assign x, ty, pos, after, none⟩ :: rest) env w N := WR.val (Val.assign hx) hd next
theorem zdm {i : Nat} {x : Operand} {ty : TypeId} {v : Value} {d : Nat} {pos : String} {after : Array Edge} {g : Option (Nat × Bool)} (hi : ops[i]? = some ⟨some d, .move x, ty, pos, after, g⟩)
    (hx : evO env x = some v) (next : WD c B ops C kind is ((d, v) :: env) w N) (hk : kind[i]? = some 0 := by rfl) (hg : guardOn ops env g = true := by rfl) (hd : Nat.blt d c.n = true := by rfl) : WD c B ops C kind (i :: is) env w N := WD.val hi hk hg (fun _ => Val.move hx) hd next
theorem zda {i : Nat} {x : Operand} {ty : TypeId} {v : Value} {d : Nat} {pos : String} {after : Array Edge} {g : Option (Nat × Bool)} (hi : ops[i]? = some ⟨some d, .assign x, ty, pos, after, g⟩)
    (hx : evO env x = some v) (next : WD c B ops C kind is ((d, v) :: env) w N) (hk : kind[i]? = some 0 := by rfl) (hg : guardOn ops env g = true := by rfl) (hd : Nat.blt d c.n = true := by rfl) : WD c B ops C kind (i :: is) env w N := WD.val hi hk hg (fun _ => Val.assign hx) hd next
end
/-! Side goals. -/
theorem side {p : Prop} (h : p := by first | omega | assumption | (simp; omega) | (simp; done)) : p := h
theorem oms {p : Prop} (h : p := by first | omega | (simp; omega)) : p := h
theorem mxl {p : Prop} (h : p := by rw [Go.Eng.maxLen_eq]; first | omega | (simp; omega)) : p := h
theorem ra {p : Prop} (h : p := by first | rfl | assumption) : p := h
theorem ones {p : Prop} (h : p := by repeat (first | exact List.forall_mem_nil _ | refine List.forall_mem_cons.2 ⟨by first | rfl | assumption, ?_⟩)) : p := h
theorem subs {l e : Env} (h : Sub l e := by repeat (first | exact Go.Eng.Sub.nil _ | refine Go.Eng.Sub.cons rfl ?_ | refine Go.Eng.Sub.consM rfl ?_)) : Sub l e := h
/-- Tests, read. -/
theorem tstS : (∀ {α : Type} (x y : α), (bif true then x else y) = x) ∧ (∀ {α : Type} (x y : α), (bif false then x else y) = y) ∧ (∀ (p : Prop) [Decidable p], (decide p = true) = p) ∧ (∀ (p : Prop) [Decidable p], (decide p = false) = ¬ p) ∧
    (∀ a b : Bool, ((a && b) = true) = (a = true ∧ b = true)) ∧ (∀ a b : Bool, ((a || b) = true) = (a = true ∨ b = true)) ∧ (∀ b : Bool, ((!b) = true) = (b = false)) ∧ (∀ b : Bool, ((!b) = false) = (b = true)) ∧ (∀ a b : Bool, ((a || b) = false) = (a = false ∧ b = false)) := by
  refine ⟨fun _ _ => rfl, fun _ _ => rfl, fun p _ => by simp, fun p _ => by simp, fun a b => by simp, fun a b => by simp, fun b => by simp, fun b => by simp, fun a b => by simp⟩
end Go.Eng
