/- Fields, closures, weights. No condition. -/
import Derived.Test.YthlfolpcmcejkaaRec1
import Derived.Test.YthlfolpcmcejkaaRec2
import Derived.Test.YthlfolpcmcejkaaMayPlain
set_option linter.unusedSimpArgs false
set_option linter.unusedVariables false
set_option maxRecDepth 100000
namespace Go.Proofs.Ythlfolpcmcejkaa
open Go Go.Eng Go.RowKit Silo TryT

theorem heavy_ok {w : World} {vR vS vN : Value} {R : List Rec} {S : List (List UInt8)} {N : List Int} (h1 : Rd recS w vR R) (h2 : Rd strS w vS S) (h3 : Rd intS w vN N) :
    Calls Try.prog 14 #[.agg #[vR, vS, vN]] w (Ret fun v w' => Below w.heap.size w w' ∧ v = .bool (decide ((3000 : Int) < (stopSum R.length (R.map recW) : Nat)) || decide ((4000 : Int) < (stopSum S.length (S.map List.length) : Nat)) || decide ((100 : Int) < (N.length : Nat)))) := by
  have hK : Old w w := Old.refl w
  have o1 := h1.oneC
  have o2 := h2.oneC
  have o3 := h3.oneC
  refine enter (n := 19) (res := #[.tmp 2]) Try.func14 rfl rfl rfl rfl ?_
  refine cseq <| cg ?_
  refine ve (Eff.box rfl) ?_
  rintro _ w1 ⟨b1, rfl, hn1⟩
  have hk1 := hn1.below
  replace h1 := h1.up hk1; replace h2 := h2.up hk1; replace h3 := h3.up hk1; replace hK := hK.up hk1
  have hb1 := hn1.blk
  refine za rfl <| cnil <| cseq <| cg <| vq (Val.fieldAddr fld26_0 rfl) <| vq (Val.loadB scl22 rfl hb1 rfl) ?_
  refine ve (Eff.call pf37 rfl (recordsWeight_ok h1)) ?_
  rintro v5 w2 ⟨hk2, rfl⟩
  replace h1 := h1.up hk2; replace h2 := h2.up hk2; replace h3 := h3.up hk2; replace hK := hK.up hk2; replace hb1 := hb1.up hk2
  refine vq (Val.gtr rfl rfl) <| zm rfl ?_
  apply WR.sc false 4 (decide ((4000 : Int) < (stopSum S.length (S.map List.length) : Nat))) (fun w' => Below w2.heap.size w2 w')
  case hl | hg | hu | hv | hs | hoff | hd => rfl
  case hF => exact fun _ => Below.refl _ _
  case hT =>
   intro hq9
   try simp only [tstS] at hq9
   simp only [List.take_succ_cons, List.take_zero]
   have hKsc9 : Old w2 w2 := Old.refl _
   refine WR.on rfl rfl ?_
   refine vq (Val.fieldAddr fld26_1 rfl) ?_
   refine WR.on rfl rfl ?_
   refine vq (Val.loadB scl23 rfl hb1 rfl) ?_
   refine WR.on rfl rfl ?_
   refine ve (Eff.call pf38 rfl (texts_ok h2)) ?_
   rintro v10 w3 ⟨hk3, rfl⟩
   replace h1 := h1.up hk3; replace h2 := h2.up hk3; replace h3 := h3.up hk3; replace hK := hK.up hk3; replace hb1 := hb1.up hk3; replace hKsc9 := hKsc9.up hk3
   refine WR.on rfl rfl ?_
   refine vq (Val.gtr rfl rfl) ?_
   exact WR.nil ⟨rfl, Sub.drop _ 4 _ rfl rfl, hKsc9⟩
  intro w4 hk4
  replace h1 := h1.up hk4; replace h2 := h2.up hk4; replace h3 := h3.up hk4; replace hK := hK.up hk4; replace hb1 := hb1.up hk4
  refine zm rfl ?_
  apply WR.sc false 4 (decide ((100 : Int) < (N.length : Nat))) (fun w' => Below w4.heap.size w4 w')
  case hl | hg | hu | hv | hs | hoff | hd => rfl
  case hF => exact fun _ => Below.refl _ _
  case hT =>
   intro hq15
   try simp only [tstS] at hq15
   simp only [List.take_succ_cons, List.take_zero]
   have hKsc15 : Old w4 w4 := Old.refl _
   refine WR.on rfl rfl ?_
   refine vq (Val.fieldAddr fld26_2 rfl) ?_
   refine WR.on rfl rfl ?_
   refine vq (Val.loadB scl24 rfl hb1 rfl) ?_
   refine WR.on rfl rfl ?_
   first | refine vq (Val.rdlen sl24 (by assumption) rfl) ?_ | refine vq (Val.sllen Try.underlying24 rfl) ?_
   refine WR.on rfl rfl ?_
   refine vq (Val.gtr rfl rfl) ?_
   exact WR.nil ⟨rfl, Sub.drop _ 4 _ rfl rfl, hKsc15⟩
  intro w5 hk5
  replace h1 := h1.up hk5; replace h2 := h2.up hk5; replace h3 := h3.up hk5; replace hK := hK.up hk5; replace hb1 := hb1.up hk5
  refine za rfl <| cnil ?_
  refine WC.ret1 rfl rfl ?_
  exact ⟨hK, rfl⟩

theorem fields_ok {w : World} (k : Int) : Calls Try.prog 50 #[I k] w (Ret fun v w' => Below w.heap.size w w' ∧ v = St (fieldsB k)) := by
  refine enter (n := 19) (res := #[.tmp 2]) Try.func50 rfl rfl rfl rfl ?_
  refine cseq <| cg <| za rfl <| cnil <| cseq <| cseq <| cg <| zm rfl <| cnil ?_
  refine cblock <| cseq <| cg <| vq (Val.eql rfl rfl) <| za rfl <| cnil ?_
  refine WC.cond rfl (fun hc2 => ?_) (fun hc2 => ?_)
  ·try simp only [tstS] at hc2
   refine cseq <| cg <| za rfl <| cnil ?_
   refine WC.ret1 rfl rfl ?_
   exact ⟨Below.refl _ _, by subst hc2; rfl⟩
  ·try simp only [tstS] at hc2
   refine cseq <| cg <| vq (Val.eql rfl rfl) <| za rfl <| cnil ?_
   refine WC.cond rfl (fun hc4 => ?_) (fun hc4 => ?_)
   ·try simp only [tstS] at hc4
    refine cseq <| cg <| za rfl <| cnil ?_
    refine WC.ret1 rfl rfl ?_
    exact ⟨Below.refl _ _, by subst hc4; rfl⟩
   ·try simp only [tstS] at hc4
    refine cseq <| cg <| vq (Val.eql rfl rfl) <| za rfl <| cnil ?_
    refine WC.cond rfl (fun hc6 => ?_) (fun hc6 => ?_)
    ·try simp only [tstS] at hc6
     refine cseq <| cg <| za rfl <| cnil ?_
     refine WC.ret1 rfl rfl ?_
     exact ⟨Below.refl _ _, by subst hc6; rfl⟩
    ·try simp only [tstS] at hc6
     refine cseq <| cseq <| cg <| vq (Val.eql rfl rfl) <| za rfl <| cnil ?_
     refine WC.cond rfl (fun hc8 => ?_) (fun hc8 => ?_)
     ·try simp only [tstS] at hc8
      refine cskip ?_
      refine WC.cond rfl (fun hc8 => ?_) (fun hc8 => ?_)
      ·try simp only [tstS] at hc8
       refine cseq <| cg <| za rfl <| cnil ?_
       refine WC.ret1 rfl rfl ?_
       exact ⟨Below.refl _ _, by first | (subst hc8; rfl) | (subst hc9; rfl)⟩
      ·try simp only [tstS] at hc8
       refine cseq <| cg <| vq (Val.eql rfl rfl) <| za rfl <| cnil ?_
       refine WC.cond rfl (fun hc11 => ?_) (fun hc11 => ?_)
       ·try simp only [tstS] at hc11
        refine cseq <| cg <| za rfl <| cnil ?_
        refine WC.ret1 rfl rfl ?_
        exact ⟨Below.refl _ _, by first | (subst hc11; rfl) | (exfalso; omega)⟩
       ·try simp only [tstS] at hc11
        refine cseq <| cg <| vq (Val.eql rfl rfl) <| za rfl <| cnil ?_
        refine WC.cond rfl (fun hc13 => ?_) (fun hc13 => ?_)
        ·try simp only [tstS] at hc13
         refine cseq <| cg <| za rfl <| cnil ?_
         refine WC.ret1 rfl rfl ?_
         exact ⟨Below.refl _ _, by first | (subst hc13; rfl) | (exfalso; omega)⟩
        ·try simp only [tstS] at hc13
         refine cseq <| cg <| vq (Val.eql rfl rfl) <| za rfl <| cnil ?_
         refine WC.cond rfl (fun hc15 => ?_) (fun hc15 => ?_)
         ·try simp only [tstS] at hc15
          refine cseq <| cg <| za rfl <| cnil ?_
          refine WC.ret1 rfl rfl ?_
          exact ⟨Below.refl _ _, by first | (subst hc15; rfl) | (exfalso; omega)⟩
         ·try simp only [tstS] at hc15
          refine cskip <| cseq <| cg <| za rfl <| cnil ?_
          refine WC.ret1 rfl rfl ?_
          exact ⟨Below.refl _ _, by first | (exfalso; omega) | simp [fieldsB, *]⟩
     ·try simp only [tstS] at hc8
      refine cg <| vq (Val.eql rfl rfl) <| za rfl <| cnil ?_
      refine WC.cond rfl (fun hc9 => ?_) (fun hc9 => ?_)
      ·try simp only [tstS] at hc9
       refine cseq <| cg <| za rfl <| cnil ?_
       refine WC.ret1 rfl rfl ?_
       exact ⟨Below.refl _ _, by first | (subst hc8; rfl) | (subst hc9; rfl)⟩
      ·try simp only [tstS] at hc9
       refine cseq <| cg <| vq (Val.eql rfl rfl) <| za rfl <| cnil ?_
       refine WC.cond rfl (fun hc11 => ?_) (fun hc11 => ?_)
       ·try simp only [tstS] at hc11
        refine cseq <| cg <| za rfl <| cnil ?_
        refine WC.ret1 rfl rfl ?_
        exact ⟨Below.refl _ _, by first | (subst hc11; rfl) | (exfalso; omega)⟩
       ·try simp only [tstS] at hc11
        refine cseq <| cg <| vq (Val.eql rfl rfl) <| za rfl <| cnil ?_
        refine WC.cond rfl (fun hc13 => ?_) (fun hc13 => ?_)
        ·try simp only [tstS] at hc13
         refine cseq <| cg <| za rfl <| cnil ?_
         refine WC.ret1 rfl rfl ?_
         exact ⟨Below.refl _ _, by first | (subst hc13; rfl) | (exfalso; omega)⟩
        ·try simp only [tstS] at hc13
         refine cseq <| cg <| vq (Val.eql rfl rfl) <| za rfl <| cnil ?_
         refine WC.cond rfl (fun hc15 => ?_) (fun hc15 => ?_)
         ·try simp only [tstS] at hc15
          refine cseq <| cg <| za rfl <| cnil ?_
          refine WC.ret1 rfl rfl ?_
          exact ⟨Below.refl _ _, by first | (subst hc15; rfl) | (exfalso; omega)⟩
         ·try simp only [tstS] at hc15
          refine cskip <| cseq <| cg <| za rfl <| cnil ?_
          refine WC.ret1 rfl rfl ?_
          exact ⟨Below.refl _ _, by first | (exfalso; omega) | simp [fieldsB, *]⟩

theorem hasB_none {k c : Int} {j : Nat} (h : ∀ x ∈ (fieldsB k).take j, (x.toNat : Int) ≠ c) (hj : (fieldsB k).length ≤ j) : hasB k c = false := by
  rw [List.take_of_length_le hj] at h
  simp only [hasB, List.any_eq_false, decide_eq_true_eq]
  exact h
theorem hasB_some {k c : Int} {j : Nat} (hj : j < (fieldsB k).length) (h : ((fieldsB k)[j].toNat : Int) = c) : hasB k c = true := by
  simp only [hasB, List.any_eq_true, decide_eq_true_eq]
  exact ⟨_, List.getElem_mem hj, h⟩
theorem take_ne_step {l : List UInt8} {c : Int} {j : Nat} (h : ∀ x ∈ l.take j, (x.toNat : Int) ≠ c) (hj : j < l.length) (hn : (l[j].toNat : Int) ≠ c) : ∀ x ∈ l.take (j + 1), (x.toNat : Int) ≠ c := by
  rw [List.take_succ_eq_append_getElem hj]
  intro x hx
  rcases List.mem_append.1 hx with hx | hx
  · exact h x hx
  · rw [List.mem_singleton.1 hx]; exact hn

theorem has_ok {w : World} (k c : Int) : Calls Try.prog 60 #[I k, .int .i32 c] w (Ret fun v w' => Below w.heap.size w w' ∧ v = .bool (hasB k c)) := by
  obtain ⟨B, hB⟩ : ∃ B, B = w.heap.size := ⟨_, rfl⟩
  have hK : Below B w w := Below.refl _ _
  have hBw : B ≤ w.heap.size := Nat.le_of_eq hB
  rw [← hB]
  refine enter (n := 16) (res := #[.tmp 4]) Try.func60 rfl rfl rfl rfl ?_
  refine cseq <| cg <| za rfl <| cnil <| cseq <| cseq <| cg <| zm rfl ?_
  refine ve (Eff.call pf50 rfl (fields_ok k)) ?_
  rintro v8 w1 ⟨hk1, rfl⟩
  replace hK := hK.upB (hk1.mono hBw); replace hBw := Nat.le_trans hBw hk1.size
  refine ve (Eff.rangeStr Try.underlying9 rfl) ?_
  rintro _ w2 ⟨hk2, b, rfl, hb, hit⟩
  have hBb : B ≤ b := by omega
  clear hb
  replace hK := hK.upB (hk2.mono hBw); replace hBw := Nat.le_trans hBw hk2.size
  refine cnil <| cblock ?_
  refine WC.loop (σ := Nat) (fun j => [(0, I k), (1, .int .i32 c), (9, .pointer (some ⟨b, 0, none⟩))]) (fun j w' => Iter w' b (fieldsB k) j ∧ Below B w w' ∧ B ≤ w'.heap.size ∧ j ≤ (fieldsB k).length ∧ ∀ x ∈ (fieldsB k).take j, (x.toNat : Int) ≠ c) (fun j => (fieldsB k).length - j) 0 subs ⟨hit, hK, hBw, by omega, by simp⟩ ?_
  rintro j wl ⟨hit, hK, hBw, hj, hne⟩
  refine cseq ?_
  skip
  refine cg ?_
  refine ve (Eff.nextStr rfl hit (fieldsB_ascii k)) ?_
  rintro _ w3 ⟨hg3, rfl, hi3⟩
  have hk3 : Below B wl w3 := below_of_grown hg3 hBw (by simp; omega)
  replace hK := hK.upB hk3; replace hBw := Nat.le_trans hBw hk3.size
  refine vq (Val.nextOk rfl) <| cnil <| cseq ?_
  refine WC.cond rfl (fun hc2 => ?_) (fun hc2 => ?_)
  ·try simp only [tstS] at hc2
   replace hit := hi3 hc2
   refine cskip <| cblock <| cseq <| cg <| vq (Val.nextC rfl hc2) <| za rfl <| cnil <| cseq <| cg ?_
   refine zm rfl <| zm rfl <| vq (Val.eql rfl rfl) <| cnil ?_
   refine WC.cond rfl (fun hc4 => ?_) (fun hc4 => ?_)
   ·try simp only [tstS] at hc4
    refine cseq <| cg <| za rfl <| cnil ?_
    refine WC.ret1 rfl rfl ?_
    exact ⟨hK, by rw [hasB_some hc2 hc4]⟩
   ·try simp only [tstS] at hc4
    refine cskip ?_
    exact ⟨j + 1, subs, ⟨hit, hK, hBw, hc2, take_ne_step hne hc2 hc4⟩, by omega⟩
  ·try simp only [tstS] at hc2
   refine WC.exit rfl ?_
   refine cseq <| cg <| za rfl <| cnil ?_
   refine WC.ret1 rfl rfl ?_
   exact ⟨hK, by rw [hasB_none hne (by omega)]⟩

def fieldsU (k : Int) : List UInt8 := (fieldsB k).map (· - 32)
def hasU (l : List UInt8) (c : Int) : Bool := l.any fun b => decide ((b.toNat : Int) = c)
theorem hasU_fields (k : Int) : hasU (fieldsU k) 73 = hasB k 105 ∧ hasU (fieldsU k) 78 = hasB k 110 ∧ hasU (fieldsU k) 68 = hasB k 100 ∧ hasU (fieldsU k) 76 = hasB k 108 ∧ hasU (fieldsU k) 83 = hasB k 115 := by
  unfold fieldsU hasB fieldsB
  repeat' split
  all_goals decide
theorem hasU_none {l : List UInt8} {c : Int} {j : Nat} (h : ∀ x ∈ l.take j, (x.toNat : Int) ≠ c) (hj : l.length ≤ j) : hasU l c = false := by
  rw [List.take_of_length_le hj] at h
  simp only [hasU, List.any_eq_false, decide_eq_true_eq]
  exact h
theorem hasU_some {l : List UInt8} {c : Int} {j : Nat} (hj : j < l.length) (h : (l[j].toNat : Int) = c) : hasU l c = true := by
  simp only [hasU, List.any_eq_true, decide_eq_true_eq]
  exact ⟨_, List.getElem_mem hj, h⟩

theorem fieldsU_ok {w : World} (k : Int) (h0 : 0 ≤ k) (h8 : k ≤ 8) : Calls Try.prog 42 #[I k] w (Ret fun v w' => Below w.heap.size w w' ∧ v = St (fieldsU k)) := by
  have hcell : ([St [], St [73, 83], St [73, 76, 83], St [73], St [73, 68, 76], St [73, 68, 76], St [68], St [78, 68], St [78]] : List Value)[k.toNat * 1]? = some (St (fieldsU k)) := by
    have : k = 0 ∨ k = 1 ∨ k = 2 ∨ k = 3 ∨ k = 4 ∨ k = 5 ∨ k = 6 ∨ k = 7 ∨ k = 8 := by omega
    rcases this with rfl | rfl | rfl | rfl | rfl | rfl | rfl | rfl | rfl <;> rfl
  have hK : Old w w := Old.refl w
  refine enter (n := 9) (res := #[.tmp 2]) Try.func42 rfl rfl rfl rfl ?_
  refine cseq <| cg <| za rfl <| cnil <| cseq <| cg ?_
  refine ve (Eff.buildSlice sl23 rfl rfl rfl (by simp [Value.cells]) rfl rfl) ?_
  rintro _ w1 ⟨b4, rfl, hn4⟩
  have hk1 := hn4.below
  replace hK := hK.up hk1
  refine za rfl <| cnil <| cseq <| cg <| zm rfl <| zm rfl <| vq (Val.indexLit sl23 rfl rfl h0 (by omega)) ?_
  have hb9 : Blk w1 b4 [St [], St [73, 83], St [73, 76, 83], St [73], St [73, 68, 76], St [73, 68, 76], St [68], St [78, 68], St [78]] _ := hn4.blk
  refine vq (Val.loadB scl9 rfl hb9 hcell) <| za rfl <| cnil ?_
  refine WC.ret1 rfl rfl ?_
  exact ⟨hK, rfl⟩

theorem hasU_ok {w : World} (l : List UInt8) (c : Int) (hl : l.length ≤ 140737488355328) : Calls Try.prog 43 #[St l, .int .u8 c] w (Ret fun v w' => Below w.heap.size w w' ∧ v = .bool (hasU l c)) := by
  refine enter (n := 17) (res := #[.tmp 4]) Try.func43 rfl rfl rfl rfl ?_
  refine cseq <| cg <| za rfl <| cnil <| cseq <| cseq <| cg <| za rfl <| cnil ?_
  refine cblock ?_
  refine WC.loop (σ := Nat) (fun k => [(0, St l), (1, .int .u8 c), (5, I k)]) (fun k w' => k ≤ l.length ∧ w' = w ∧ ∀ x ∈ l.take k, (x.toNat : Int) ≠ c) (fun k => l.length - k) 0 subs ⟨by omega, rfl, by simp⟩ ?_
  rintro k wl ⟨hk, rfl, hne⟩
  refine cseq <| cseq <| cg <| zm rfl <| zm rfl <| vq (Val.slen Try.underlying9 rfl) <| vq (Val.lss rfl rfl) <| cnil ?_
  refine WC.cond rfl (fun hc2 => ?_) (fun hc2 => ?_)
  ·try simp only [tstS] at hc2
   have hkl : k < l.length := by omega
   refine cskip <| cseq <| cblock <| cseq <| cg <| zm rfl <| zm rfl <| vq (Val.sindex Try.underlying9 rfl rfl (by omega) (List.getElem?_eq_getElem hkl)) <| zm rfl ?_
   refine vq (Val.eql rfl rfl) <| cnil ?_
   refine WC.cond rfl (fun hc4 => ?_) (fun hc4 => ?_)
   ·try simp only [tstS] at hc4
    refine cseq <| cg <| za rfl <| cnil ?_
    refine WC.ret1 rfl rfl ?_
    exact ⟨Below.refl _ _, by rw [hasU_some hkl hc4]⟩
   ·try simp only [tstS] at hc4
    refine cskip <| cg <| zm rfl <| vq (Val.addI rfl rfl side side) <| za rfl <| cnil ?_
    exact ⟨k + 1, subs, ⟨hkl, rfl, take_ne_step hne hkl hc4⟩, by omega⟩
  ·try simp only [tstS] at hc2
   refine WC.exit rfl ?_
   refine cseq <| cg <| za rfl <| cnil ?_
   refine WC.ret1 rfl rfl ?_
   exact ⟨Below.refl _ _, by rw [hasU_none hne (by omega)]⟩

theorem list1_ok {w : World} (n : Int) : Calls Try.prog 72 #[I n] w (Ret fun v w' => Below w.heap.size w w' ∧ v = .bool (!(decide (0 ≤ n) && decide (n ≤ 1073741824)))) := by
  have hK : Old w w := Old.refl w
  refine enter (n := 6) (res := #[.tmp 2]) Try.func72 rfl rfl rfl rfl ?_
  refine cseq <| cg <| za rfl <| cnil <| cseq <| cg <| zm rfl ?_
  refine ve (Eff.call pf54 rfl (number_ok n)) ?_
  rintro v4 w1 ⟨hk1, rfl⟩
  replace hK := hK.up hk1
  refine vq (Val.not rfl) <| za rfl <| cnil ?_
  refine WC.ret1 rfl rfl ?_
  exact ⟨hK, rfl⟩

theorem places1_ok {w : World} (p : Int × Int) : Calls Try.prog 73 #[.agg #[I p.1, I p.2]] w (Ret fun v w' => Below w.heap.size w w' ∧ v = .bool (slotBad p)) := by
  have hK : Old w w := Old.refl w
  refine enter (n := 21) (res := #[.tmp 2]) Try.func73 rfl rfl rfl rfl ?_
  refine cseq <| cg ?_
  refine ve (Eff.box rfl) ?_
  rintro _ w1 ⟨b1, rfl, hn1⟩
  have hk1 := hn1.below
  replace hK := hK.up hk1
  have hb1 := hn1.blk
  refine za rfl <| cnil <| cseq <| cg <| vq (Val.fieldAddr fld66_0 rfl) <| vq (Val.loadB scl3 rfl hb1 rfl) <| vq (Val.lss rfl rfl) <| zm rfl ?_
  apply WR.sc false 3 _ (fun w' => w1 = w')
  case hl | hg | hu | hv | hs | hoff | hd => rfl
  case hF => exact fun _ => rfl
  case hT =>
   intro hq7
   try simp only [tstS] at hq7
   simp only [List.take_succ_cons, List.take_zero]
   refine WR.on rfl rfl ?_
   refine vq (Val.fieldAddr fld66_0 rfl) ?_
   refine WR.on rfl rfl ?_
   refine vq (Val.loadB scl3 rfl hb1 rfl) ?_
   refine WR.on rfl rfl ?_
   refine vq (Val.geq rfl rfl) ?_
   exact WR.nil ⟨rfl, Sub.drop _ 3 _ rfl rfl, rfl⟩
  rintro _ rfl
  refine zm rfl ?_
  apply WR.sc false 3 _ (fun w' => w1 = w')
  case hl | hg | hu | hv | hs | hoff | hd => rfl
  case hF => exact fun _ => rfl
  case hT =>
   intro hq12
   try simp only [tstS] at hq12
   simp only [List.take_succ_cons, List.take_zero]
   refine WR.on rfl rfl ?_
   refine vq (Val.fieldAddr fld66_1 rfl) ?_
   refine WR.on rfl rfl ?_
   refine vq (Val.loadB scl3 rfl hb1 rfl) ?_
   refine WR.on rfl rfl ?_
   refine vq (Val.lss rfl rfl) ?_
   exact WR.nil ⟨rfl, Sub.drop _ 3 _ rfl rfl, rfl⟩
  rintro _ rfl
  refine zm rfl ?_
  apply WR.sc false 3 _ (fun w' => w1 = w')
  case hl | hg | hu | hv | hs | hoff | hd => rfl
  case hF => exact fun _ => rfl
  case hT =>
   intro hq17
   try simp only [tstS] at hq17
   simp only [List.take_succ_cons, List.take_zero]
   refine WR.on rfl rfl ?_
   refine vq (Val.fieldAddr fld66_1 rfl) ?_
   refine WR.on rfl rfl ?_
   refine vq (Val.loadB scl3 rfl hb1 rfl) ?_
   refine WR.on rfl rfl ?_
   refine vq (Val.geq rfl rfl) ?_
   exact WR.nil ⟨rfl, Sub.drop _ 3 _ rfl rfl, rfl⟩
  rintro _ rfl
  refine za rfl <| cnil ?_
  refine WC.ret1 rfl rfl ?_
  exact ⟨hK, rfl⟩

theorem any_step {α : Type} {q : α → Bool} {l : List α} {j : Nat} (h : ∀ x ∈ l.take j, q x = false) (hj : j < l.length) (hn : q l[j] = false) : ∀ x ∈ l.take (j + 1), q x = false := by
  rw [List.take_succ_eq_append_getElem hj]
  intro x hx
  rcases List.mem_append.1 hx with hx | hx
  · exact h x hx
  · rw [List.mem_singleton.1 hx]; exact hn
theorem any_none {α : Type} {q : α → Bool} {l : List α} {j : Nat} (h : ∀ x ∈ l.take j, q x = false) (hj : l.length ≤ j) : l.any q = false := by
  rw [List.take_of_length_le hj] at h
  simp only [List.any_eq_false]
  intro x hx; rw [h x hx]; decide

theorem indexInt_ok {w : World} {v : Value} {l : List Int} {f : FuncId} {q : Int → Bool} (h1 : Rd intS w v l) (hf : plainFn Try.prog f = true) (hq : ∀ (w : World) (x : Int), Calls Try.prog f #[I x] w (Ret fun v w' => Below w.heap.size w w' ∧ v = .bool (q x))) :
    Calls Try.prog 77 #[v, .func (.func f) #[] #[]] w (Ret fun v' w' => Below w.heap.size w w' ∧ ∃ i : Int, v' = I i ∧ decide (0 ≤ i) = l.any q) := by
  have hsm := h1.small
  have hK : Old w w := Old.refl w
  refine enter (n := 19) (res := #[.tmp 4]) Try.func77 rfl rfl rfl rfl ?_
  refine cseq <| cg <| za rfl <| cnil <| cseq <| cseq <| cg <| zm rfl ?_
  first | refine vq (Val.rdlen sl24 (by assumption) rfl) ?_ | refine vq (Val.sllen Try.underlying24 rfl) ?_
  refine zm rfl <| cnil <| cblock ?_
  refine WC.loop (σ := Nat) (fun k => [(0, v), (1, .func (.func f) #[] #[]), (7, I l.length), (8, I k)]) (fun k w' => Rd intS w' v l ∧ Old w w' ∧ k ≤ l.length ∧ ∀ x ∈ l.take k, q x = false) (fun k => l.length - k) 0 subs ⟨h1, hK, by omega, by simp⟩ ?_
  rintro k wl ⟨h1, hK, hk, hne⟩
  refine cseq <| cg <| vq (Val.lss rfl rfl) <| cnil <| cseq ?_
  refine WC.cond rfl (fun hc2 => ?_) (fun hc2 => ?_)
  ·try simp only [tstS] at hc2
   have ka : k < l.length := by omega
   obtain ⟨cs1, hc14, rfl, ok1⟩ := h1.el ka
   refine cskip <| cseq <| cblock <| cseq <| cg <| zm rfl <| za rfl <| cnil <| cseq ?_
   refine cg <| zm rfl <| zm rfl <| zm rfl <| vq (Val.indexAddr sl24 (by assumption) rfl rfl rfl side side) <| vq (Val.loadE1 scl3 rfl hc14) ?_
   refine ve (Eff.callV rfl hf rfl (hq _ _)) ?_
   rintro _ w9 ⟨hk9, rfl⟩
   replace h1 := h1.up hk9; replace hK := hK.up hk9
   refine cnil ?_
   refine WC.cond rfl (fun hc4 => ?_) (fun hc4 => ?_)
   ·try simp only [tstS] at hc4
    refine cseq <| cg <| zm rfl <| za rfl <| cnil ?_
    refine WC.ret1 rfl rfl ?_
    exact ⟨hK, _, rfl, by rw [List.any_eq_true.2 ⟨_, List.getElem_mem ka, hc4⟩]; simp⟩
   ·try simp only [tstS] at hc4
    refine cskip <| cg <| vq (Val.addI rfl rfl side side) <| zm rfl <| cnil ?_
    exact ⟨k + 1, subs, ⟨h1, hK, ka, any_step hne ka hc4⟩, by omega⟩
  ·try simp only [tstS] at hc2
   refine WC.exit rfl ?_
   refine cseq <| cg <| za rfl <| cnil ?_
   refine WC.ret1 rfl rfl ?_
   exact ⟨hK, -1, rfl, by rw [any_none hne (by omega)]; decide⟩
theorem indexSlot_ok {w : World} {v : Value} {l : List (Int × Int)} {f : FuncId} {q : Int × Int → Bool} (h1 : Rd slotS w v l) (hf : plainFn Try.prog f = true) (hq : ∀ (w : World) (x : Int × Int), Calls Try.prog f #[.agg #[I x.1, I x.2]] w (Ret fun v w' => Below w.heap.size w w' ∧ v = .bool (q x))) :
    Calls Try.prog 78 #[v, .func (.func f) #[] #[]] w (Ret fun v' w' => Below w.heap.size w w' ∧ ∃ i : Int, v' = I i ∧ decide (0 ≤ i) = l.any q) := by
  have hsm := h1.small
  have hK : Old w w := Old.refl w
  refine enter (n := 19) (res := #[.tmp 4]) Try.func78 rfl rfl rfl rfl ?_
  refine cseq <| cg <| za rfl <| cnil <| cseq <| cseq <| cg <| zm rfl ?_
  first | refine vq (Val.rdlen sl29 (by assumption) rfl) ?_ | refine vq (Val.sllen Try.underlying29 rfl) ?_
  refine zm rfl <| cnil <| cblock ?_
  refine WC.loop (σ := Nat) (fun k => [(0, v), (1, .func (.func f) #[] #[]), (7, I l.length), (8, I k)]) (fun k w' => Rd slotS w' v l ∧ Old w w' ∧ k ≤ l.length ∧ ∀ x ∈ l.take k, q x = false) (fun k => l.length - k) 0 subs ⟨h1, hK, by omega, by simp⟩ ?_
  rintro k wl ⟨h1, hK, hk, hne⟩
  refine cseq <| cg <| vq (Val.lss rfl rfl) <| cnil <| cseq ?_
  refine WC.cond rfl (fun hc2 => ?_) (fun hc2 => ?_)
  ·try simp only [tstS] at hc2
   have ka : k < l.length := by omega
   obtain ⟨cs1, hc14, rfl, ok1⟩ := h1.el ka
   refine cskip <| cseq <| cblock <| cseq <| cg <| zm rfl <| za rfl <| cnil <| cseq ?_
   refine cg <| zm rfl <| zm rfl <| zm rfl <| vq (Val.indexAddr sl29 (by assumption) rfl rfl rfl side side) <| vq (Val.loadE agg66 rfl hc14 rfl) ?_
   refine ve (Eff.callV rfl hf rfl (hq _ _)) ?_
   rintro _ w9 ⟨hk9, rfl⟩
   replace h1 := h1.up hk9; replace hK := hK.up hk9
   refine cnil ?_
   refine WC.cond rfl (fun hc4 => ?_) (fun hc4 => ?_)
   ·try simp only [tstS] at hc4
    refine cseq <| cg <| zm rfl <| za rfl <| cnil ?_
    refine WC.ret1 rfl rfl ?_
    exact ⟨hK, _, rfl, by rw [List.any_eq_true.2 ⟨_, List.getElem_mem ka, hc4⟩]; simp⟩
   ·try simp only [tstS] at hc4
    refine cskip <| cg <| vq (Val.addI rfl rfl side side) <| zm rfl <| cnil ?_
    exact ⟨k + 1, subs, ⟨h1, hK, ka, any_step hne ka hc4⟩, by omega⟩
  ·try simp only [tstS] at hc2
   refine WC.exit rfl ?_
   refine cseq <| cg <| za rfl <| cnil ?_
   refine WC.ret1 rfl rfl ?_
   exact ⟨hK, -1, rfl, by rw [any_none hne (by omega)]; decide⟩

theorem containsInt_ok {w : World} {v : Value} {l : List Int} {f : FuncId} {q : Int → Bool} (h1 : Rd intS w v l) (hf : plainFn Try.prog f = true) (hq : ∀ (w : World) (x : Int), Calls Try.prog f #[I x] w (Ret fun v w' => Below w.heap.size w w' ∧ v = .bool (q x))) :
    Calls Try.prog 71 #[v, .func (.func f) #[] #[]] w (Ret fun v' w' => Below w.heap.size w w' ∧ v' = .bool (l.any q)) := by
  have hK : Old w w := Old.refl w
  refine enter (n := 9) (res := #[.tmp 4]) Try.func71 rfl rfl rfl rfl ?_
  refine cseq <| cg <| za rfl <| cnil <| cseq <| cg <| zm rfl <| zm rfl ?_
  refine ve (Eff.call pf77 rfl (indexInt_ok h1 hf hq)) ?_
  rintro v7 w1 ⟨hk1, i, rfl, hi⟩
  replace h1 := h1.up hk1; replace hK := hK.up hk1
  refine vq (Val.geq rfl rfl) <| za rfl <| cnil ?_
  refine WC.ret1 rfl rfl ?_
  exact ⟨hK, by rw [hi]⟩

theorem containsSlot_ok {w : World} {v : Value} {l : List (Int × Int)} {f : FuncId} {q : Int × Int → Bool} (h1 : Rd slotS w v l) (hf : plainFn Try.prog f = true) (hq : ∀ (w : World) (x : Int × Int), Calls Try.prog f #[.agg #[I x.1, I x.2]] w (Ret fun v w' => Below w.heap.size w w' ∧ v = .bool (q x))) :
    Calls Try.prog 74 #[v, .func (.func f) #[] #[]] w (Ret fun v' w' => Below w.heap.size w w' ∧ v' = .bool (l.any q)) := by
  have hK : Old w w := Old.refl w
  refine enter (n := 9) (res := #[.tmp 4]) Try.func74 rfl rfl rfl rfl ?_
  refine cseq <| cg <| za rfl <| cnil <| cseq <| cg <| zm rfl <| zm rfl ?_
  refine ve (Eff.call pf78 rfl (indexSlot_ok h1 hf hq)) ?_
  rintro v7 w1 ⟨hk1, i, rfl, hi⟩
  replace h1 := h1.up hk1; replace hK := hK.up hk1
  refine vq (Val.geq rfl rfl) <| za rfl <| cnil ?_
  refine WC.ret1 rfl rfl ?_
  exact ⟨hK, by rw [hi]⟩

theorem list_ok {w : World} {cs : List Value} {r : Rec} (h : RdRec w cs r) : Calls Try.prog 61 #[.agg cs.toArray] w (Ret fun v w' => Below w.heap.size w w' ∧ v = .bool (listP r)) := by
  obtain ⟨vl, vs, rfl, hl, hs, hq⟩ := h
  have hK : Old w w := Old.refl w
  have o1 := hl.oneC
  have o2 := hs.oneC
  refine enter (n := 22) (res := #[.tmp 2]) Try.func61 rfl rfl rfl rfl ?_
  refine cseq <| cg ?_
  refine ve (Eff.box rfl) ?_
  rintro _ w1 ⟨b1, rfl, hn1⟩
  have hk1 := hn1.below
  replace hl := hl.up hk1; replace hs := hs.up hk1; replace hK := hK.up hk1
  have hb1 := hn1.blk
  refine za rfl <| cnil <| cseq <| cseq <| cg <| vq (Val.fieldAddr fld31_0 rfl) <| vq (Val.loadB scl3 rfl hb1 rfl) <| vq (Val.eql rfl rfl) <| zm rfl ?_
  apply WR.sc true 4 _ (fun w' => w1 = w')
  case hl | hg | hu | hv | hs | hoff | hd => rfl
  case hF => exact fun _ => rfl
  case hT =>
   intro hq8
   try simp only [tstS] at hq8
   simp only [List.take_succ_cons, List.take_zero]
   refine WR.on rfl rfl ?_
   refine vq (Val.fieldAddr fld31_4 rfl) ?_
   refine WR.on rfl rfl ?_
   refine vq (Val.loadB scl24 rfl hb1 rfl) ?_
   refine WR.on rfl rfl ?_
   first | refine vq (Val.rdlen sl24 (by assumption) rfl) ?_ | refine vq (Val.sllen Try.underlying24 rfl) ?_
   refine WR.on rfl rfl ?_
   refine vq (Val.neq rfl rfl) ?_
   exact WR.nil ⟨rfl, Sub.drop _ 4 _ rfl rfl, rfl⟩
  rintro _ rfl
  refine cnil ?_
  refine WC.cond rfl (fun hc1 => ?_) (fun hc1 => ?_)
  ·try simp only [tstS] at hc1
   refine cseq <| cg <| za rfl <| cnil ?_
   refine WC.ret1 rfl rfl ?_
   exact ⟨hK, by simp [listP, hc1]⟩
  ·try simp only [tstS] at hc1
   refine cskip <| cseq <| cg <| vq (Val.fieldAddr fld31_4 rfl) <| vq (Val.loadB scl24 rfl hb1 rfl) ?_
   first | refine vq (Val.rdlen sl24 (by assumption) rfl) ?_ | refine vq (Val.sllen Try.underlying24 rfl) ?_
   refine vq (Val.leq rfl rfl) <| zm rfl ?_
   apply WR.sc true 4 (!(r.list.any fun n => !numB n)) (fun w' => Below w1.heap.size w1 w')
   case hl | hg | hu | hv | hs | hoff | hd => rfl
   case hF => exact fun _ => Below.refl _ _
   case hT =>
    intro hq9
    try simp only [tstS] at hq9
    simp only [List.take_succ_cons, List.take_zero]
    have hKsc9 : Old w1 w1 := Old.refl _
    refine WR.on rfl rfl ?_
    refine vq (Val.fieldAddr fld31_4 rfl) ?_
    refine WR.on rfl rfl ?_
    refine vq (Val.loadB scl24 rfl hb1 rfl) ?_
    refine WR.on rfl rfl ?_
    refine ve (Eff.call pf71 rfl (containsInt_ok hl pf72 (fun _ x ↦ list1_ok x))) ?_
    rintro v19 w2 ⟨hk2, rfl⟩
    replace hl := hl.up hk2; replace hs := hs.up hk2; replace hK := hK.up hk2; replace hb1 := hb1.up hk2; replace hKsc9 := hKsc9.up hk2
    refine WR.on rfl rfl ?_
    refine vq (Val.not rfl) ?_
    exact WR.nil ⟨rfl, Sub.drop _ 4 _ rfl rfl, hKsc9⟩
   intro w3 hk3
   replace hl := hl.up hk3; replace hs := hs.up hk3; replace hK := hK.up hk3; replace hb1 := hb1.up hk3
   refine za rfl <| cnil ?_
   refine WC.ret1 rfl rfl ?_
   exact ⟨hK, by rw [listP, hc1]; simp only [cond_true, Bool.not_false, Bool.true_and]⟩

theorem places_ok {w : World} {v : Value} {l : List (Int × Int)} (h1 : Rd slotS w v l) : Calls Try.prog 62 #[v] w (Ret fun v' w' => Below w.heap.size w w' ∧ v' = .bool (placesP l)) := by
  have hK : Old w w := Old.refl w
  refine enter (n := 18) (res := #[.tmp 2]) Try.func62 rfl rfl rfl rfl ?_
  refine cseq <| cg <| za rfl <| cnil <| cseq <| cg <| za rfl <| cnil <| cseq ?_
  refine cg <| zm rfl ?_
  first | refine vq (Val.rdlen sl29 (by assumption) rfl) ?_ | refine vq (Val.sllen Try.underlying29 rfl) ?_
  refine vq (Val.geq rfl rfl) <| zm rfl ?_
  apply WR.sc true 3 _ (fun w' => w = w')
  case hl | hg | hu | hv | hs | hoff | hd => rfl
  case hF => exact fun _ => rfl
  case hT =>
   intro hq7
   try simp only [tstS] at hq7
   simp only [List.take_succ_cons, List.take_zero]
   refine WR.on rfl rfl ?_
   refine zm rfl ?_
   refine WR.on rfl rfl ?_
   first | refine vq (Val.rdlen sl29 (by assumption) rfl) ?_ | refine vq (Val.sllen Try.underlying29 rfl) ?_
   refine WR.on rfl rfl ?_
   refine vq (Val.leq rfl rfl) ?_
   exact WR.nil ⟨rfl, Sub.drop _ 3 _ rfl rfl, rfl⟩
  rintro _ rfl
  refine zm rfl ?_
  apply WR.sc true 4 (!(l.any slotBad)) (fun w' => Below w.heap.size w w')
  case hl | hg | hu | hv | hs | hoff | hd => rfl
  case hF => exact fun _ => Below.refl _ _
  case hT =>
   intro hq13
   try simp only [tstS] at hq13
   simp only [List.take_succ_cons, List.take_zero]
   have hKsc13 : Old w w := Old.refl _
   refine WR.on rfl rfl ?_
   refine zm rfl ?_
   refine WR.on rfl rfl ?_
   refine zm rfl ?_
   refine WR.on rfl rfl ?_
   refine ve (Eff.call pf74 rfl (containsSlot_ok h1 pf73 (fun _ x ↦ places1_ok x))) ?_
   rintro v15 w1 ⟨hk1, rfl⟩
   replace h1 := h1.up hk1; replace hK := hK.up hk1; replace hKsc13 := hKsc13.up hk1
   refine WR.on rfl rfl ?_
   refine vq (Val.not rfl) ?_
   exact WR.nil ⟨rfl, Sub.drop _ 4 _ rfl rfl, hKsc13⟩
  intro w2 hk2
  replace h1 := h1.up hk2; replace hK := hK.up hk2
  refine za rfl <| cnil ?_
  refine WC.ret1 rfl rfl ?_
  exact ⟨hK, rfl⟩
end Go.Proofs.Ythlfolpcmcejkaa
