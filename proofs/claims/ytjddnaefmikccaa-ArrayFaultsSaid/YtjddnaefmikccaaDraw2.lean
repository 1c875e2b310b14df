/- Drawn regions in which acting operations may come in several orders: a tree of walks. No condition. -/
import Derived.Test.YtjddnaefmikccaaMore
set_option linter.unusedSimpArgs false
set_option linter.unusedVariables false
namespace Go.Eng
open Go Go.RowKit

inductive Tr
  | nil
  | quiet (i : Nat) (t : Tr)
  | one (i : Nat) (t : Tr)
  | two (i : Nat) (t : Tr) (j : Nat) (u : Tr)
  | three (i : Nat) (t : Tr) (j : Nat) (u : Tr) (k : Nat) (v : Tr)

def Tr.depth : Tr → Nat
  | .nil => 0
  | .quiet _ t => t.depth + 1
  | .one _ t => t.depth + 1
  | .two _ t _ _ => t.depth + 1
  | .three _ t _ _ _ _ => t.depth + 1

def actsB (kind : List Nat) (i : Nat) : Bool := match kind[i]? with | some 2 => true | some 3 => true | _ => false
def canonT (md : Region.Mode) (ops : Array Oper) (kind : List Nat) : Tr → Array Bool → Bool
  | .nil, listed => (Region.ready md ops listed).isEmpty
  | .quiet i t, listed =>
    (match kind[i]? with
     | some 0 => (Region.ready md ops listed).contains i && Region.free md ops listed i
     | some 1 => (Region.ready md ops listed).contains i && Region.free md ops listed i &&
        (match ops[i]? with
         | none => false
         | some _ => (List.range ops.size).all fun j => j == i || listed.getD j true || match ops[j]? with
            | some oj => oj.after.any (fun e => Region.binds md e && e.on == i) || kind[j]? != some 3
            | none => true)
     | _ => false) && canonT md ops kind t (listed.setIfInBounds i true)
  | .one i t, listed => actsB kind i && (match Region.ready md ops listed with | [j] => j == i | _ => false) && canonT md ops kind t (listed.setIfInBounds i true)
  | .two i t k u, listed => actsB kind i && actsB kind k && Nat.beq t.depth u.depth && (match Region.ready md ops listed with | [j, l] => j == i && l == k | _ => false) &&
      canonT md ops kind t (listed.setIfInBounds i true) && canonT md ops kind u (listed.setIfInBounds k true)
  | .three i t k u m v, listed => actsB kind i && actsB kind k && actsB kind m && Nat.beq t.depth u.depth && Nat.beq t.depth v.depth && (match Region.ready md ops listed with | [j, l, n] => j == i && l == k && n == m | _ => false) &&
      canonT md ops kind t (listed.setIfInBounds i true) && canonT md ops kind u (listed.setIfInBounds k true) && canonT md ops kind v (listed.setIfInBounds m true)

section
variable {P : Program} {ops : Array Oper} {md : Region.Mode} {C : World → Prop} {Q : Exit → Act → World → Prop} {ro : Option Nat}
def wpStep (ro : Option Nat) (P : Program) (ops : Array Oper) (C : World → Prop) (kind : List Nat) (Q : Exit → Act → World → Prop) (i : Nat) (K : Act → World → Prop) (a : Act) (w : World) : Prop :=
  match kind[i]? with
  | some 2 => wpOpIn (FW ro) 0 P ops Q i (fun a' w' => (C w → C w') ∧ K a' w') a w
  | some 3 => wpOpIn (FW ro) 0 P ops Q i K a w
  | _ => False
def wpT (ro : Option Nat) (P : Program) (ops : Array Oper) (C : World → Prop) (kind : List Nat) (Q : Exit → Act → World → Prop) : Tr → Act → World → Prop
  | .nil, a, w => Q .normal a w
  | .quiet i t, a, w => match ops[i]? with
    | none => False
    | some o => match kind[i]? with
      | some 0 => ∃ v, YieldsC P ops (fun _ => True) o v a ∧ wpT ro P ops C kind Q t (a.put o.dst v) w
      | some 1 => C w ∧ ∃ v, YieldsC P ops C o v a ∧ wpT ro P ops C kind Q t (a.put o.dst v) w
      | _ => False
  | .one i t, a, w => wpStep ro P ops C kind Q i (wpT ro P ops C kind Q t) a w
  | .two i t k u, a, w => wpStep ro P ops C kind Q i (wpT ro P ops C kind Q t) a w ∧ wpStep ro P ops C kind Q k (wpT ro P ops C kind Q u) a w
  | .three i t k u m v, a, w => wpStep ro P ops C kind Q i (wpT ro P ops C kind Q t) a w ∧ wpStep ro P ops C kind Q k (wpT ro P ops C kind Q u) a w ∧ wpStep ro P ops C kind Q m (wpT ro P ops C kind Q v) a w

theorem wpStep_any {kind : List Nat} {i : Nat} {K K' : Act → World → Prop} {a : Act} {w : World} (hK : ∀ a w, K a w → K' a w) (h : wpStep ro P ops C kind Q i K a w) :
    wpOpIn (FW ro) 0 P ops Q i (fun a' w' => ((kind[i]? == some 3) = false → C w → C w') ∧ K' a' w') a w := by
  unfold wpStep at h
  split at h
  · exact wpOpIn_mono (fun a' w' h' => ⟨fun _ => h'.1, hK _ _ h'.2⟩) h
  · rename_i hk
    exact wpOpIn_mono (fun a' w' h' => ⟨fun h0 => by simp [hk] at h0, hK _ _ h'⟩) h
  · exact h.elim

theorem wpAnyC_tree (kind : List Nat) (hsel : Region.noSelect ops = true) (hp : ∀ ch a w, ¬ Q (.panic ch) a w) (ho : ∀ a w, ¬ Q .outgrown a w) :
    ∀ (t : Tr) (listed : Array Bool) (a : Act) (w : World), canonT md ops kind t listed = true → wpT ro P ops C kind Q t a w → wpAnyC ro P md ops C (fun j => kind[j]? == some 3) Q t.depth listed a w
  | .nil, listed, a, w, hB, h => ⟨by simpa [canonT] using hB, h⟩
  | .quiet i t, listed, a, w, hB, h => by
    simp only [canonT, Bool.and_eq_true] at hB
    obtain ⟨hB1, hB2⟩ := hB
    unfold wpT at h
    cases hi : ops[i]? with
    | none => rw [hi] at h; exact h.elim
    | some o =>
      rw [hi] at h
      simp only at h
      split at h
      · rename_i hk
        rw [hk] at hB1
        simp only [Bool.and_eq_true] at hB1
        obtain ⟨v, hy, hK⟩ := h
        refine wpAnyC_first (Ci := fun _ => True) hi (fun j o cs b hj => Region.noSelect_spec hsel j o cs b hj) hp ho (.inr rfl) (by simp [hk]) t.depth listed a w ?_ (by simpa using hB1.1) hy trivial (wpAnyC_tree kind hsel hp ho t _ _ _ hB2 hK)
        intro j oj hj hne hun hno
        exact ⟨Region.free_spec hi hB1.2 j oj hj hne hun hno, .inl rfl⟩
      · rename_i hk
        rw [hk] at hB1
        simp only [Bool.and_eq_true, hi, List.all_eq_true, List.mem_range] at hB1
        obtain ⟨hC, v, hy, hK⟩ := h
        refine wpAnyC_first (Ci := C) hi (fun j o cs b hj => Region.noSelect_spec hsel j o cs b hj) hp ho (.inl rfl) (by simp [hk]) t.depth listed a w ?_ (by simpa using hB1.1.1) hy hC (wpAnyC_tree kind hsel hp ho t _ _ _ hB2 hK)
        intro j oj hj hne hun hno
        refine ⟨Region.free_spec hi hB1.1.2 j oj hj hne hun hno, .inr ?_⟩
        have h1 := hB1.2 j (Array.getElem?_eq_some_iff.1 hj).1
        simp only [hj, Bool.or_eq_true, beq_iff_eq, hne, false_or, hun, Bool.false_eq_true] at h1
        rcases h1 with h1 | h1
        · obtain ⟨e, he, hb⟩ := Array.any_eq_true'.1 h1
          simp only [Bool.and_eq_true, beq_iff_eq] at hb
          exact absurd hb.2 (hno e he hb.1)
        · simpa using h1
      · exact h.elim
  | .one i t, listed, a, w, hB, h => by
    simp only [canonT, Bool.and_eq_true] at hB
    obtain ⟨⟨_, hB1⟩, hB2⟩ := hB
    split at hB1
    · rename_i j hr
      have : j = i := by simpa using hB1
      subst this
      refine ⟨fun h0 => (by rw [hr] at h0; cases h0), fun k hkr => ?_⟩
      rw [hr] at hkr
      have : k = j := by simpa using hkr
      subst this
      exact wpStep_any (fun a w h' => wpAnyC_tree kind hsel hp ho t _ _ _ hB2 h') h
    · cases hB1
  | .two i t k u, listed, a, w, hB, h => by
    simp only [canonT, Bool.and_eq_true] at hB
    obtain ⟨⟨⟨⟨_, hd⟩, hB1⟩, hB2⟩, hB3⟩ := hB
    have hd := Nat.eq_of_beq_eq_true hd
    split at hB1
    · rename_i j l hr
      simp only [Bool.and_eq_true, beq_iff_eq] at hB1
      obtain ⟨rfl, rfl⟩ := hB1
      refine ⟨fun h0 => (by rw [hr] at h0; cases h0), fun m hmr => ?_⟩
      rw [hr] at hmr
      simp only [List.mem_cons, List.not_mem_nil, or_false] at hmr
      rcases hmr with rfl | rfl
      · exact wpStep_any (fun a w h' => wpAnyC_tree kind hsel hp ho t _ _ _ hB2 h') h.1
      · exact wpStep_any (fun a w h' => by rw [hd]; exact wpAnyC_tree kind hsel hp ho u _ _ _ hB3 h') h.2
    · cases hB1
  | .three i t k u m v, listed, a, w, hB, h => by
    simp only [canonT, Bool.and_eq_true] at hB
    obtain ⟨⟨⟨⟨⟨⟨_, hd⟩, hd'⟩, hB1⟩, hB2⟩, hB3⟩, hB4⟩ := hB
    have hd := Nat.eq_of_beq_eq_true hd
    have hd' := Nat.eq_of_beq_eq_true hd'
    split at hB1
    · rename_i j l n hr
      simp only [Bool.and_eq_true, beq_iff_eq] at hB1
      obtain ⟨⟨rfl, rfl⟩, rfl⟩ := hB1
      refine ⟨fun h0 => (by rw [hr] at h0; cases h0), fun x hxr => ?_⟩
      rw [hr] at hxr
      simp only [List.mem_cons, List.not_mem_nil, or_false] at hxr
      rcases hxr with rfl | rfl | rfl
      · exact wpStep_any (fun a w h' => wpAnyC_tree kind hsel hp ho t _ _ _ hB2 h') h.1
      · exact wpStep_any (fun a w h' => by rw [hd]; exact wpAnyC_tree kind hsel hp ho u _ _ _ hB3 h') h.2.1
      · exact wpStep_any (fun a w h' => by rw [hd']; exact wpAnyC_tree kind hsel hp ho v _ _ _ hB4 h') h.2.2
    · cases hB1
end

section
variable {c : Cx} {B : List (Nat × Kont)} {env : Env} {w : World} {N : Kont} {ops : Array Oper} {C : World → Prop} {kind : List Nat} {tr u u' : Tr}
def WT (c : Cx) (B : List (Nat × Kont)) (ops : Array Oper) (C : World → Prop) (kind : List Nat) (t : Tr) (env : Env) (w : World) (N : Kont) : Prop :=
  ∀ a, EnvOk c.n env a → wpT c.rnd c.P ops C kind (QQ c B N) t a w
theorem WC.regionT {id : Nat} (C : World → Prop) (kind : List Nat) (t : Tr) (hm : c.P.follows .mixedOrders = true) (hB : (Region.noSelect ops && Nat.beq t.depth ops.size && canonT .any ops kind t (Array.replicate ops.size false)) = true)
    (h : WT c B ops C kind t env w.drew N) : WC c B (.region id ops true) env w N := fun a ho => by
  simp only [Bool.and_eq_true] at hB
  have hlen : t.depth = ops.size := Nat.eq_of_beq_eq_true hB.1.2
  refine wpIn_region_any hm (wpAny_of_C (C := C) (wild := fun j => kind[j]? == some 3) _ _ _ _ ?_)
  rw [← hlen]
  exact wpAnyC_tree kind hB.1.1 (fun _ _ _ h => h) (fun _ _ h => h) t _ _ _ (by rw [hlen]; exact hB.2) (h a ho)
theorem WT.nil (h : N env w) : WT c B ops C kind .nil env w N := fun a ho => ⟨env, ho, h⟩
theorem WT.val {i : Nat} {op : Op} {ty : TypeId} {v : Value} {d : Nat} {pos : String} {after : Array Edge} {g : Option (Nat × Bool)} (hi : ops[i]? = some ⟨some d, op, ty, pos, after, g⟩) (hk : kind[i]? = some 0) (hg : guardOn ops env g = true)
    (h : ∀ W, Val c.P env W op ty v) (hd : Nat.blt d c.n = true) (next : WT c B ops C kind tr ((d, v) :: env) w N) : WT c B ops C kind (.quiet i tr) env w N := fun a ho => by
  unfold wpT
  simp only [hi, hk]
  exact ⟨v, .inl ⟨wanted_on (o := ⟨some d, op, ty, pos, after, g⟩) ho hg, fun W _ => h W c.n a ho _ _ _ _⟩, next _ (ho.put hd v)⟩
theorem WT.valC {i : Nat} {op : Op} {ty : TypeId} {v : Value} {d : Nat} {pos : String} {after : Array Edge} {g : Option (Nat × Bool)} (hi : ops[i]? = some ⟨some d, op, ty, pos, after, g⟩) (hk : kind[i]? = some 1) (hg : guardOn ops env g = true) (hC : C w)
    (h : ∀ W, C W → Val c.P env W op ty v) (hd : Nat.blt d c.n = true) (next : WT c B ops C kind tr ((d, v) :: env) w N) : WT c B ops C kind (.quiet i tr) env w N := fun a ho => by
  unfold wpT
  simp only [hi, hk]
  exact ⟨hC, v, .inl ⟨wanted_on (o := ⟨some d, op, ty, pos, after, g⟩) ho hg, fun W hW => h W hW c.n a ho _ _ _ _⟩, next _ (ho.put hd v)⟩
/-- One acting operation, then a walk. -/
def WS (c : Cx) (B : List (Nat × Kont)) (ops : Array Oper) (C : World → Prop) (kind : List Nat) (i : Nat) (t : Tr) (env : Env) (w : World) (N : Kont) : Prop :=
  ∀ a, EnvOk c.n env a → wpStep c.rnd c.P ops C kind (QQ c B N) i (wpT c.rnd c.P ops C kind (QQ c B N) t) a w
theorem WT.one {i : Nat} (h : WS c B ops C kind i tr env w N) : WT c B ops C kind (.one i tr) env w N := h
theorem WT.two {i k : Nat} (h1 : WS c B ops C kind i tr env w N) (h2 : WS c B ops C kind k u env w N) : WT c B ops C kind (.two i tr k u) env w N := fun a ho => ⟨h1 a ho, h2 a ho⟩
theorem WT.three {i k m : Nat} (h1 : WS c B ops C kind i tr env w N) (h2 : WS c B ops C kind k u env w N) (h3 : WS c B ops C kind m u' env w N) : WT c B ops C kind (.three i tr k u m u') env w N := fun a ho => ⟨h1 a ho, h2 a ho, h3 a ho⟩
theorem WS.eff {i : Nat} {op : Op} {ty : TypeId} {S : Value → World → Prop} {d : Nat} {pos : String} {after : Array Edge} {g : Option (Nat × Bool)} (hi : ops[i]? = some ⟨some d, op, ty, pos, after, g⟩) (hk : kind[i]? = some 2) (hg : guardOn ops env g = true)
    (h : Eff c.P env w op ty S) (hd : Nat.blt d c.n = true) (next : ∀ v w', S v w' → (C w → C w') ∧ WT c B ops C kind tr ((d, v) :: env) w' N) : WS c B ops C kind i tr env w N := fun a ho => by
  unfold wpStep
  simp only [hk]
  exact wpOp_on hi hg ho h fun v w' hv => ⟨(next v w' hv).1, (next v w' hv).2 _ (ho.put hd v)⟩
theorem WS.eff_ {i : Nat} {op : Op} {ty : TypeId} {S : Value → World → Prop} {pos : String} {after : Array Edge} {g : Option (Nat × Bool)} (hi : ops[i]? = some ⟨none, op, ty, pos, after, g⟩) (hk : kind[i]? = some 2) (hg : guardOn ops env g = true)
    (h : Eff c.P env w op ty S) (next : ∀ v w', S v w' → (C w → C w') ∧ WT c B ops C kind tr env w' N) : WS c B ops C kind i tr env w N := fun a ho => by
  unfold wpStep
  simp only [hk]
  exact wpOp_on hi hg ho h fun v w' hv => ⟨(next v w' hv).1, (next v w' hv).2 _ ho⟩
theorem WS.wild {i : Nat} {op : Op} {ty : TypeId} {S : Value → World → Prop} {pos : String} {after : Array Edge} {g : Option (Nat × Bool)} (hi : ops[i]? = some ⟨none, op, ty, pos, after, g⟩) (hk : kind[i]? = some 3) (hg : guardOn ops env g = true)
    (h : Eff c.P env w op ty S) (next : ∀ v w', S v w' → WT c B ops C kind tr env w' N) : WS c B ops C kind i tr env w N := fun a ho => by
  unfold wpStep
  simp only [hk]
  exact wpOp_on hi hg ho h fun v w' hv => next v w' hv _ ho
end
end Go.Eng
