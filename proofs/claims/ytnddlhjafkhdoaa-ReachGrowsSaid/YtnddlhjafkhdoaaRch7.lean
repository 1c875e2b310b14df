/- What leads where: the law that tells all, walked. No condition. -/
import Derived.Test.YtnddlhjafkhdoaaRch6
import Derived.Test.YtnddlhjafkhdoaaMan9
set_option linter.unusedSimpArgs false
set_option linter.unusedVariables false
set_option maxRecDepth 100000
namespace Silo
open Go Go.Eng
theorem eqe (b : Bool) : (!(decide ((if b = true then (0 : Int) else 1) = 0) == b)) = false := by cases b <;> decide
def zero32 : List UInt8 := List.replicate 32 0
theorem may_wakes : thgsMay [⟨zero32, [], false⟩] = true := by decide
theorem from_wakes : fromT [⟨zero32, [], false⟩] [zero32, [120]] = [zero32] := by
  have h : reachB [⟨zero32, [], false⟩] [zero32, [120]] 0 = true := reachB_iff.2 (.root (d := zero32) (by simp) (by decide))
  show ((List.range 1).filter (reachB _ _)).map _ = _
  simp only [List.range_one, List.filter_cons, h, if_true, List.filter_nil, List.map_cons, List.map_nil]
  rfl
theorem rootsT_len (T : List Thg) (R : List (List UInt8)) (by_ : Nat) : (rootsT T R by_).length ≤ R.length + T.length := by
  rw [rootsT, List.length_append]; have := pickT_len T by_ T.length; omega
theorem rootsT_texts {T : List Thg} {R : List (List UInt8)} {by_ n : Nat} (h1 : ∀ t ∈ T, t.digest.length ≤ n) (h2 : ∀ x ∈ R, x.length ≤ n) : ∀ x ∈ rootsT T R by_, x.length ≤ n := fun x hx => by
  rcases List.mem_append.1 hx with h | h
  · exact h2 x h
  · obtain ⟨i, hi, rfl⟩ := pickT_mem h
    exact h1 _ (List.getElem_mem hi)
theorem fromT_texts {T : List Thg} {R : List (List UInt8)} {n : Nat} (h1 : ∀ t ∈ T, t.digest.length ≤ n) : ∀ x ∈ fromT T R, x.length ≤ n := fun x hx => by
  obtain ⟨i, _, rfl⟩ := mem_fromT.1 hx
  exact dgOf_ok h1 i
theorem usersT_texts {T : List Thg} {d : List UInt8} {n : Nat} (h1 : ∀ t ∈ T, t.digest.length ≤ n) : ∀ x ∈ usersT T d, x.length ≤ n := fun x hx => by
  simp only [usersT, List.mem_map, List.mem_filter] at hx
  obtain ⟨t, ⟨ht, _⟩, rfl⟩ := hx
  exact h1 t ht
theorem orderGo_texts {T : List Thg} {n : Nat} (h1 : ∀ t ∈ T, t.digest.length ≤ n) : ∀ x ∈ ordX T, x.length ≤ n := fun x hx => by
  unfold ordX at hx
  split at hx
  · unfold orderT at hx
    cases hg : orderGo T T.length [] with
    | none => rw [hg] at hx; simp at hx
    | some o =>
      rw [hg] at hx
      simp only [Option.map_some, Option.getD_some, List.mem_map] at hx
      obtain ⟨i, _, rfl⟩ := hx
      exact dgOf_ok h1 i
  · cases hx
theorem orderGo_len (T : List Thg) : ∀ (n : Nat) (o x : List Nat), orderGo T n o = some x → x.length = o.length + n
  | 0, o, x, h => by simp only [orderGo, Option.some.injEq] at h; subst h; rfl
  | n + 1, o, x, h => by
    unfold orderGo at h
    cases hx : nextT T o with
    | none => rw [hx] at h; cases h
    | some i =>
      rw [hx] at h
      have := orderGo_len T n _ _ h
      rw [List.length_append, List.length_singleton] at this; omega
theorem ordX_len (T : List Thg) : (ordX T).length ≤ T.length := by
  unfold ordX
  split
  · unfold orderT
    cases hg : orderGo T T.length [] with
    | none => simp
    | some o =>
      have := orderGo_len T _ _ _ hg
      simp at this ⊢; omega
  · simp
end Silo
namespace Go.Proofs.Ytnddlhjafkhdoaa
open Go Go.Eng Go.RowKit Silo TryT

theorem rnum_ok {w : World} (e : Int) : Calls Try.prog 36 #[I e] w (Ret fun v w' => Below w.heap.size w w' ∧ v = I e) := by
  refine enter (n := 4) (res := #[.tmp 2]) Try.func36 rfl rfl rfl rfl ?_
  refine cseq <| cregion <| qq (Val.assign rfl) rfl <| cnil <| cseq <| cregion <| qq (Val.move rfl) rfl <| qq (Val.assign rfl) rfl <| cnil ?_
  refine WC.ret1 rfl rfl ?_
  exact ⟨Below.refl _ _, rfl⟩
theorem rspoil_ok {w : World} {v : Value} {l : List (List UInt8)} (hown : Own w 0 9 1 v l.length (l.flatMap fun x => [St x])) (hl : l.length ≤ 1048576) : Calls Try.prog 31 #[v] w (Ret fun _ w' => w.grownBy w' v.rowOf ∧ True) :=
  (spoil_ok hown hl).mono fun _ _ ⟨v, h, hg⟩ => ⟨v, h, hg, trivial⟩
theorem plainAt (b n c : Nat) : PlainV (.slice (some ⟨b, 0, none⟩) n c) := ⟨_, _, _, rfl, fun _ => ⟨_, _, rfl⟩⟩
theorem nilC {c : Nat → Nat} {w : World} {J : List Nat} : RdC strS c w J (.slice none 0 0) [] := fun _ _ _ => RdS.nil _ _ _
theorem rwakes_ok {w : World} : Calls Try.prog 41 #[] w (Ret fun v w' => Below w.heap.size w w' ∧ v = .bool true) := by
  obtain ⟨c, hO, hc⟩ := OldC.start w
  clear hc
  refine enter (n := 24) (res := #[.tmp 0]) Try.func41 rfl rfl rfl rfl ?_
  refine cseq <| cregion <| qq (Val.assign rfl) rfl <| cnil <| cseq <| cregion ?_
  refine WR.eff (Eff.makeC c 50 sl68 rfl rfl (by first | omega | assumption | (simp; omega) | (simp; done)) (by first | omega | assumption | (simp; omega) | (simp; done)) (by first | omega | assumption | (simp; omega) | (simp; done))) rfl ?_
  rintro v4 w1 ⟨c1, hM1, ho4⟩
  replace hO := hO.mv hM1 rfl
  rw [bytesV_zero] at ho4
  refine qq (Val.ofBytes Try.underlying68 Try.underlying9 Try.underlying5 rfl ho4.own) rfl <| qq (Val.assign rfl) rfl <| cnil <| cseq <| cregion <| qq (Val.move rfl) rfl <| qq (Val.build (cells := #[St zero32, St [], .bool false]) rfl (by kernel_rfl)) rfl ?_
  refine WR.eff (Eff.build1C c1 109 sl52 rfl rfl rfl rfl rfl) rfl ?_
  rintro _ w2 ⟨b9, c2, rfl, hM2, hb9⟩
  replace hO := hO.mv hM2 rfl; replace ho4 := ho4.mv hM2 rfl
  refine qq (Val.move rfl) rfl ?_
  refine WR.eff (Eff.buildC c2 111 sl23 rfl rfl rfl (by simp [Value.cells]) rfl rfl) rfl ?_
  rintro _ w3 ⟨b11, c3, rfl, hM3, hb11⟩
  replace hO := hO.mv hM3 rfl; replace ho4 := ho4.mv hM3 rfl; replace hb9 := hb9.mv hM3 rfl
  refine WR.eff (Eff.pureC c3 7 (Eff.call pf35 rfl (rfrom_ok (T := [⟨zero32, [], false⟩]) (R := [zero32, [120]]) (Own.rdThgs (l := [⟨zero32, [], false⟩]) (hb9.own (n := 1) (size := 3) rfl (by decide)).own (by intro x hx; simp at hx; subst hx; exact ⟨by decide, by decide⟩) (by decide)) (Own.rdStrs (l := [zero32, [120]]) (hb11.own (n := 2) (size := 1) rfl (by decide)).own (by intro x hx; simp at hx; rcases hx with rfl | rfl <;> decide) (by decide)) (plainAt _ _ _) (by decide)))) rfl ?_
  rintro v12 w4 ⟨c4, hM4, hx4, ⟨u, rfl, hu⟩⟩
  replace hO := hO.mv hM4 rfl; replace ho4 := ho4.mv hM4 rfl; replace hb9 := hb9.mv hM4 rfl; replace hb11 := hb11.mv hM4 rfl
  replace hu := hu.toC hx4
  rw [may_wakes, if_pos rfl, from_wakes] at hu
  rw [may_wakes, if_pos rfl]
  refine qq (Val.move rfl) rfl <| qq (Val.extract rfl rfl) rfl <| qq (Val.extract rfl rfl) rfl <| qq (Val.assign rfl) rfl <| qq (Val.assign rfl) rfl <| cnil <| cseq <| cregion <| qq (Val.move rfl) rfl ?_
  refine WR.eff (Eff.pureC c4 1 (Eff.call pf36 rfl (rnum_ok _))) rfl ?_
  rintro v16 w5 ⟨c5, hM5, hx5, rfl⟩
  replace hO := hO.mv hM5 rfl; replace ho4 := ho4.mv hM5 rfl; replace hb9 := hb9.mv hM5 rfl; replace hb11 := hb11.mv hM5 rfl; replace hu := hu.mv hM5 rfl
  refine qq (Val.eql rfl rfl) rfl <| qq (Val.move rfl) rfl ?_
  apply WR.sc true 4 true (fun w' => ∃ c', Acc c5 w5 [] c' w')
  case hl => rfl
  case hg => rfl
  case hu => rfl
  case hv => rfl
  case hs => rfl
  case hoff => rfl
  case hd => rfl
  case hF => exact fun _ => ⟨_, Acc.refl _ _ _⟩
  case hT =>
   intro hq8
   try simp only [tstS] at hq8
   simp only [List.take_succ_cons, List.take_zero]
   have hKsc8 := Acc.refl c5 w5 []
   refine WR.on rfl rfl ?_
   refine qq (Val.move rfl) rfl ?_
   refine WR.on rfl rfl ?_
   refine qq (Val.move rfl) rfl ?_
   refine WR.on rfl rfl ?_
   refine WR.eff (Eff.build1C c5 121 sl23 rfl rfl rfl rfl rfl) rfl ?_
   rintro _ w6 ⟨b21, c6, rfl, hM6, hb21⟩
   replace hO := hO.mv hM6 rfl; replace ho4 := ho4.mv hM6 rfl; replace hb9 := hb9.mv hM6 rfl; replace hb11 := hb11.mv hM6 rfl; replace hu := hu.mv hM6 rfl; replace hKsc8 := hKsc8.mv hM6 rfl
   refine WR.on rfl rfl ?_
   refine WR.eff (Eff.pureC c6 1 (Eff.call pf37 rfl (eqStrings_ok (hu.own.rdStrs (by intro x hx; simp at hx; subst hx; decide) (by decide)) (Own.rdStrs (l := [zero32]) (hb21.own (n := 1) (size := 1) rfl (by decide)).own (by intro x hx; simp at hx; subst hx; decide) (by decide))))) rfl ?_
   rintro v22 w7 ⟨c7, hM7, hx7, rfl⟩
   replace hO := hO.mv hM7 rfl; replace ho4 := ho4.mv hM7 rfl; replace hb9 := hb9.mv hM7 rfl; replace hb11 := hb11.mv hM7 rfl; replace hu := hu.mv hM7 rfl; replace hKsc8 := hKsc8.mv hM7 rfl; replace hb21 := hb21.mv hM7 rfl
   exact WR.nil ⟨rfl, Sub.drop _ 4 _ rfl rfl, _, hKsc8⟩
  rintro w8 ⟨c8, ⟨hM8⟩⟩
  replace hO := hO.mv hM8 rfl; replace ho4 := ho4.mv hM8 rfl; replace hb9 := hb9.mv hM8 rfl; replace hb11 := hb11.mv hM8 rfl; replace hu := hu.mv hM8 rfl
  refine qq (Val.assign rfl) rfl <| cnil ?_
  refine WC.ret1 rfl rfl ?_
  exact ⟨hO.below, rfl⟩
end Go.Proofs.Ytnddlhjafkhdoaa
