/- The disks' law: what wakes. No condition. -/
import Derived.Test.YtjddnaefmikccaaAl1
set_option linter.unusedSimpArgs false
set_option linter.unusedVariables false
set_option maxRecDepth 100000
namespace Silo
open Go.Eng
def wakeT : Txt := List.replicate 63 0 ++ [120]
theorem wake_w : (writeA (newA 2 3) 1 2 wakeT).2 = 0 := by rfl
theorem wake_f : (flushA (writeA (newA 2 3) 1 2 wakeT).1 1).2 = 0 := by rfl
theorem wake_r : readA (crashA (flushA (writeA (newA 2 3) 1 2 wakeT).1 1).1 []) 1 2 = (wakeT, 0) := by rfl
theorem wake_c : (crashA (flushA (writeA (newA 2 3) 1 2 wakeT).1 1).1 []).changes = 2 := by rfl
theorem write_chg (A : Arr) (d s : Int) (t : Txt) : A.changes ≤ (writeA A d s t).1.changes ∧ (writeA A d s t).1.changes ≤ A.changes + 1 := by
  unfold writeA
  split
  · split
    · split
      · simp [changedA, setD]
      · simp
    · simp
  · simp
theorem flush_chg (A : Arr) (d : Int) : A.changes ≤ (flushA A d).1.changes ∧ (flushA A d).1.changes ≤ A.changes + 1 := by
  unfold flushA
  split
  · split
    · simp [changedA, setD]
    · simp
  · simp
theorem lose_chg (A : Arr) (d : Int) : (loseA A d).1.changes = A.changes := by unfold loseA; split <;> rfl
theorem replace_chg (A : Arr) (d : Int) : (replaceA A d).1.changes = A.changes := by unfold replaceA; split <;> rfl
theorem flip_chg (A : Arr) (d n : Int) : (flipA A d n).1.changes = A.changes := by
  unfold flipA
  split
  · split
    · split <;> rfl
    · rfl
  · rfl
end Silo
namespace Go.Proofs.Ytjddnaefmikccaa
open Go Go.Eng Go.RowKit Silo TryT
theorem anew_nat {c : Nat → Nat} {w : World} {k j : Nat} (h : 1 ≤ k ∧ k ≤ 12 ∧ 1 ≤ j ∧ j ≤ 2048) : Calls Try.prog 9 #[I k, I j] w (Ret fun u w' => ∃ c', Mv c w c' w' [] ∧ ∃ p, u = .tuple #[.pointer (some ⟨p, 0, none⟩), I 0] ∧ ArrC c' w' p (newA k j)) :=
  (anew_ok (c := c)).mono fun _ _ ⟨u, hu, c', hm, ho⟩ => by
    refine ⟨u, hu, c', hm, ?_⟩
    rcases ho with ⟨k', j', p, e1, e2, _, e3, e4⟩ | ⟨hn, _⟩
    · have e5 : k = k' := by omega
      have e6 : j = j' := by omega
      subst e5 e6
      exact ⟨p, e3, e4⟩
    · exact absurd (by omega) hn
theorem anew_natO {c : Nat → Nat} {w0 w : World} {k j : Nat} (_ : OldC w0 c w) (h : 1 ≤ k ∧ k ≤ 12 ∧ 1 ≤ j ∧ j ≤ 2048) : Calls Try.prog 9 #[I k, I j] w (Ret fun u w' => ∃ c', Mv c w c' w' [] ∧ ∃ p, u = .tuple #[.pointer (some ⟨p, 0, none⟩), I 0] ∧ ArrC c' w' p (newA k j)) := anew_nat h
theorem rd_nil (c : Nat → Nat) (w : World) (K : List Nat) : RdC intS c w K (.slice none 0 0) [] := fun w' _ _ => ⟨⟨none, 0, rfl, by simp, by simp, fun _ h => by cases h⟩, fun i x h => by simp at h, fun h => by simp at h, by simp⟩
theorem wakes10_ok {w : World} : Calls Try.prog 18 #[] w (Ret fun v w' => Below w.heap.size w w' ∧ v = .bool true) := by
  obtain ⟨c, hO, hc⟩ := OldC.start w
  clear hc
  have r0 := rel_new (n := 2) (m := 3) (by omega) (by omega)
  have r1 := r0.write 1 2 wakeT
  have r2 := r1.1.flush 1
  have r3 := r2.1.crash []
  obtain ⟨A1, e1⟩ : ∃ A1, A1 = (writeA (newA 2 3) 1 2 wakeT).1 := ⟨_, rfl⟩
  obtain ⟨A2, e2⟩ : ∃ A2, A2 = (flushA A1 1).1 := ⟨_, rfl⟩
  obtain ⟨A3, e3⟩ : ∃ A3, A3 = crashA A2 [] := ⟨_, rfl⟩
  have h1 := wake_w; have h2 := wake_f; have h3 := wake_r; have h4 := wake_c
  have c0 : (newA 2 3).changes = 0 := rfl
  have c1 := (write_chg (newA 2 3) 1 2 wakeT).2
  have y0 := r0.wa.wf (by omega)
  rw [← e1] at r1 r2 r3 h2 h3 h4 c1
  have c2 := (flush_chg A1 1).2
  rw [← e2] at r2 r3 h3 h4 c2
  rw [← e3] at r3 h3 h4
  have y1 := r1.1.wa.wf (by omega)
  have y2 := r2.1.wa.wf (by omega)
  have y3 := r3.wa.wf (by omega)
  clear r0 r1 r2 r3
  refine enter (n := 57) (res := #[.tmp 0]) Try.func18 rfl rfl rfl rfl ?_
  refine cseq <| cg <| za rfl <| cnil <| cseq <| cg ?_
  refine ve (Eff.call pf9 rfl (anew_nat (c := c) (k := 2) (j := 3) (by omega))) ?_
  rintro v9 w1 ⟨c1, hM1, ⟨p, rfl, hA⟩⟩
  replace hO := hO.mv hM1
  refine zm rfl <| vq (Val.extract rfl rfl) <| vq (Val.extract rfl rfl) <| za rfl <| za rfl <| cnil <| cseq <| cseq <| cg ?_
  refine zm rfl ?_
  refine ve (Eff.pureC c1 1 (Eff.call pf10 rfl (num10_ok _))) ?_
  rintro v13 w2 ⟨c2, hM2, hx2, rfl⟩
  replace hO := hO.mv hM2; replace hA := hA.mv hM2
  refine vq (Val.neq rfl rfl) <| zm rfl ?_
  apply WR.sc false 2 _ (fun w' => w2 = w')
  case hl | hg | hu | hv | hs | hoff | hd => rfl
  case hF => exact fun _ => rfl
  case hT =>
   intro hq6
   try simp only [tstS] at hq6
   simp only [List.take_succ_cons, List.take_zero]
   refine WR.on rfl rfl ?_
   refine zm rfl ?_
   refine WR.on rfl rfl ?_
   refine vq (Val.peqnil Try.underlying26 rfl) ?_
   exact WR.nil ⟨rfl, Sub.drop _ 2 _ rfl rfl, rfl⟩
  rintro _ rfl
  refine cnil ?_
  refine WC.cond rfl (fun hc2 => ?_) (fun hc2 => ?_)
  ·exact absurd hc2 (by simp)
  ·try simp only [tstS] at hc2
   refine cskip <| cseq <| cg ?_
   refine ve (Eff.makeC c2 104 sl64 rfl rfl side side side) ?_
   rintro v19 w3 ⟨c3, hM3, ho19⟩
   replace hO := hO.mv hM3; replace hA := hA.mv hM3
   rw [show (63 : Int).toNat = 63 from rfl, bytesV_zero] at ho19
   refine vq (Val.ofBytes Try.underlying64 Try.underlying9 Try.underlying5 rfl ho19.own) <| vq (Val.sadd rfl rfl side) <| za rfl <| cnil <| cseq <| cg <| zm rfl <| zm rfl ?_
   refine ve (Eff.call pf12 rfl (awrite_ok (d := 1) (s := 2) (t := wakeT) hA y0)) ?_
   rintro v24 w4 ⟨c4, hM4, ⟨hA, rfl⟩⟩
   replace hO := hO.mv hM4; replace ho19 := ho19.mv hM4
   rw [h1]
   rw [← e1] at hA
   refine za rfl <| cnil <| cseq <| cg <| zm rfl ?_
   refine ve (Eff.call pf13 rfl (aflush_ok (d := 1) hA y1)) ?_
   rintro v26 w5 ⟨c5, hM5, ⟨hA, rfl⟩⟩
   replace hO := hO.mv hM5; replace ho19 := ho19.mv hM5
   rw [h2]
   rw [← e2] at hA
   refine za rfl <| cnil <| cseq <| cg <| zm rfl ?_
   refine ve (Eff.call pf15 rfl (acrash_ok hA y2 (rd_nil _ _ []) rfl (by decide))) ?_
   rintro v28 w6 ⟨c6, hM6, hA⟩
   replace hO := hO.mv hM6; replace ho19 := ho19.mv hM6
   rw [← e3] at hA
   refine cnil <| cseq <| cg <| zm rfl ?_
   refine ve (Eff.pureC c6 1 (Eff.call pf16 rfl (aread_ok (d := 1) (s := 2) hA y3))) ?_
   rintro v31 w7 ⟨c7, hM7, hx7, rfl⟩
   replace hO := hO.mv hM7; replace hA := hA.mv hM7; replace ho19 := ho19.mv hM7
   rw [h3]
   refine zm rfl <| vq (Val.extract rfl rfl) <| vq (Val.extract rfl rfl) <| za rfl <| za rfl <| cnil <| cseq <| cg <| zm rfl ?_
   refine ve (Eff.pureC c7 1 (Eff.call pf10 rfl (num10_ok _))) ?_
   rintro v35 w8 ⟨c8, hM8, hx8, rfl⟩
   replace hO := hO.mv hM8; replace hA := hA.mv hM8; replace ho19 := ho19.mv hM8
   refine vq (Val.eql rfl rfl) <| zm rfl ?_
   apply WR.sc true 3 _ (fun w' => ∃ c', Acc c8 w8 [] c' w')
   case hl | hg | hu | hv | hs | hoff | hd => rfl
   case hF => exact fun _ => ⟨_, Acc.refl _ _ _⟩
   case hT =>
    intro hq7
    try simp only [tstS] at hq7
    simp only [List.take_succ_cons, List.take_zero]
    have hKsc7 := Acc.refl c8 w8 []
    refine WR.on rfl rfl ?_
    refine zm rfl ?_
    refine WR.on rfl rfl ?_
    refine ve (Eff.pureC c8 1 (Eff.call pf10 rfl (num10_ok _))) ?_
    rintro v39 w9 ⟨c9, hM9, hx9, rfl⟩
    replace hO := hO.mv hM9; replace hA := hA.mv hM9; replace ho19 := ho19.mv hM9; replace hKsc7 := hKsc7.mv hM9
    refine WR.on rfl rfl ?_
    refine vq (Val.eql rfl rfl) ?_
    exact WR.nil ⟨rfl, Sub.drop _ 3 _ rfl rfl, _, hKsc7⟩
   rintro w10 ⟨c10, ⟨hM10⟩⟩
   replace hO := hO.mv hM10; replace hA := hA.mv hM10; replace ho19 := ho19.mv hM10
   refine zm rfl ?_
   apply WR.sc true 3 _ (fun w' => ∃ c', Acc c10 w10 [] c' w')
   case hl | hg | hu | hv | hs | hoff | hd => rfl
   case hF => exact fun _ => ⟨_, Acc.refl _ _ _⟩
   case hT =>
    intro hq12
    try simp only [tstS] at hq12
    simp only [List.take_succ_cons, List.take_zero]
    have hKsc12 := Acc.refl c10 w10 []
    refine WR.on rfl rfl ?_
    refine zm rfl ?_
    refine WR.on rfl rfl ?_
    refine ve (Eff.pureC c10 1 (Eff.call pf10 rfl (num10_ok _))) ?_
    rintro v44 w11 ⟨c11, hM11, hx11, rfl⟩
    replace hO := hO.mv hM11; replace hA := hA.mv hM11; replace ho19 := ho19.mv hM11; replace hKsc12 := hKsc12.mv hM11
    refine WR.on rfl rfl ?_
    refine vq (Val.eql rfl rfl) ?_
    exact WR.nil ⟨rfl, Sub.drop _ 3 _ rfl rfl, _, hKsc12⟩
   rintro w12 ⟨c12, ⟨hM12⟩⟩
   replace hO := hO.mv hM12; replace hA := hA.mv hM12; replace ho19 := ho19.mv hM12
   refine zm rfl ?_
   apply WR.sc true 3 _ (fun w' => w12 = w')
   case hl | hg | hu | hv | hs | hoff | hd => rfl
   case hF => exact fun _ => rfl
   case hT =>
    intro hq17
    try simp only [tstS] at hq17
    simp only [List.take_succ_cons, List.take_zero]
    refine WR.on rfl rfl ?_
    refine zm rfl ?_
    refine WR.on rfl rfl ?_
    refine zm rfl ?_
    refine WR.on rfl rfl ?_
    refine vq (Val.seq_ rfl rfl) ?_
    exact WR.nil ⟨rfl, Sub.drop _ 3 _ rfl rfl, rfl⟩
   rintro _ rfl
   refine zm rfl ?_
   apply WR.sc true 3 _ (fun w' => ∃ c', Acc c12 w12 [] c' w')
   case hl | hg | hu | hv | hs | hoff | hd => rfl
   case hF => exact fun _ => ⟨_, Acc.refl _ _ _⟩
   case hT =>
    intro hq22
    try simp only [tstS] at hq22
    simp only [List.take_succ_cons, List.take_zero]
    have hKsc22 := Acc.refl c12 w12 []
    refine WR.on rfl rfl ?_
    refine zm rfl ?_
    refine WR.on rfl rfl ?_
    refine ve (Eff.pureC c12 1 (Eff.call pf32 rfl (achanges_ok hA))) ?_
    rintro v54 w13 ⟨c13, hM13, hx13, rfl⟩
    replace hO := hO.mv hM13; replace hA := hA.mv hM13; replace ho19 := ho19.mv hM13; replace hKsc22 := hKsc22.mv hM13
    rw [h4]
    refine WR.on rfl rfl ?_
    refine vq (Val.eql rfl rfl) ?_
    exact WR.nil ⟨rfl, Sub.drop _ 3 _ rfl rfl, _, hKsc22⟩
   rintro w14 ⟨c14, ⟨hM14⟩⟩
   replace hO := hO.mv hM14; replace hA := hA.mv hM14; replace ho19 := ho19.mv hM14
   refine za rfl <| cnil ?_
   refine WC.ret1 rfl rfl ?_
   exact ⟨hO.below, rfl⟩
end Go.Proofs.Ytjddnaefmikccaa
