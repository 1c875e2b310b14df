/- Manifests: which may be. No condition. -/
import Derived.Test.YtnddlhjafkhdoaaManPlain
import Derived.Test.YtnddlhjafkhdoaaCom
set_option linter.unusedSimpArgs false
set_option linter.unusedVariables false
set_option maxRecDepth 100000
namespace Silo
open Go Go.Eng
theorem digAt_eq {l : List (List UInt8)} {k : Nat} (ka : k < l.length) (hp : ((k : Int) - 1).toNat < l.length) : digAt l k = (decide ((l[k].length : Int) = 32) && !(decide (0 < (k : Int)) && !Op.bytesLess l[((k : Int) - 1).toNat] l[k])) := by
  have e : ((k : Int) - 1).toNat = k - 1 := by omega
  simp only [digAt, getD_lt ka, getD_lt (show k - 1 < l.length by omega), e]
  have h1 : decide (k = 0) = !decide (0 < (k : Int)) := by rw [Bool.eq_iff_iff]; simp
  have h2 : decide (l[k].length = 32) = decide ((l[k].length : Int) = 32) := by rw [Bool.eq_iff_iff]; simp; omega
  rw [h1, h2]
  cases decide (0 < (k : Int)) <;> simp
theorem digAt_no {l : List (List UInt8)} {k : Nat} (ka : k < l.length) (hp : ((k : Int) - 1).toNat < l.length) (h : ¬(l[k].length : Int) = 32 ∨ 0 < (k : Int) ∧ Op.bytesLess l[((k : Int) - 1).toNat] l[k] = false) : digAt l k = false := by
  rw [digAt_eq ka hp]
  rcases h with h | ⟨h, h'⟩
  · rw [decide_eq_false h]; rfl
  · rw [h', decide_eq_true h]; simp
theorem digAt_yes {l : List (List UInt8)} {k : Nat} (ka : k < l.length) (hp : ((k : Int) - 1).toNat < l.length) (h : (l[k].length : Int) = 32 ∧ (decide (0 < (k : Int)) && !Op.bytesLess l[((k : Int) - 1).toNat] l[k]) = false) : digAt l k = true := by
  rw [digAt_eq ka hp, decide_eq_true h.1, h.2]; rfl
theorem below_succ {P : Nat → Prop} {k : Nat} (h : ∀ i, i < k → P i) (hk : P k) : ∀ i, i < k + 1 → P i := fun i hi => by
  rcases Nat.lt_or_ge i k with h1 | h1
  · exact h i h1
  · have : i = k := by omega
    subst this; exact hk
end Silo
namespace Go.Proofs.Ytnddlhjafkhdoaa
open Go Go.Eng Go.RowKit Silo TryT

theorem digests_ok {w : World} {v : Value} {l : List (List UInt8)} (h1 : Rd strS w v l) : Calls Try.prog 71 #[v] w (Ret fun v' w' => Below w.heap.size w w' ∧ v' = .bool (risingB l)) := by
  have hK : Old w w := Old.refl w
  have hsm := h1.small
  refine enter (n := 32) (res := #[.tmp 2]) Try.func71 rfl rfl rfl rfl ?_
  refine cseq <| cregion <| qq (Val.assign rfl) rfl <| cnil <| cseq <| cseq <| cregion <| qq (Val.assign rfl) rfl <| cnil ?_
  refine cblock ?_
  refine WC.loop (σ := Nat) (fun k => [(0, v), (3, I k)]) (fun k w' => Rd strS w' v l ∧ Old w w' ∧ k ≤ l.length ∧ ∀ i, i < k → digAt l i = true) (fun k => l.length - k) 0 (by repeat (first | exact Sub.nil _ | refine Sub.cons rfl ?_ | refine Sub.consM rfl ?_)) ⟨h1, hK, by omega, fun i hi => absurd hi (Nat.not_lt_zero _)⟩ ?_
  rintro k wl ⟨h1, hK, hk, hd⟩
  refine cseq <| cseq <| cregion <| qq (Val.move rfl) rfl <| qq (Val.move rfl) rfl ?_
  first | refine WR.val (Val.rdlen sl23 (by assumption) rfl) rfl ?_ | refine WR.val (Val.sllen Try.underlying23 rfl) rfl ?_
  refine qq (Val.lss rfl rfl) rfl <| cnil ?_
  refine WC.cond rfl (fun hc2 => ?_) (fun hc2 => ?_)
  ·try simp only [tstS] at hc2
   have ka : k < l.length := by omega
   obtain ⟨cs1, hc12, rfl, ok1⟩ := h1.el ka
   obtain ⟨cs2, hc23, rfl, ok2⟩ := h1.el (i := ((k : Int) - 1).toNat) (by omega)
   have hc27 := hc12
   refine cskip <| cseq <| cblock <| cseq ?_
   refine WC.regionD (Below wl.heap.size wl) [0, 0, 0, 1, 0, 0, 0, 0, 0, 0, 0, 0, 0, 0, 1, 0, 0, 0, 1, 0, 0, 0] [0, 1, 2, 3, 4, 5, 6, 7, 8, 9, 10, 11, 12, 13, 14, 15, 16, 17, 18, 19, 20, 21] mixed (by kernel_rfl) ?_
   have hk1 : Below wl.heap.size wl wl.drew := (Below.refl _ _).drew
   have hCw : Below wl.heap.size wl wl.drew := (Below.refl _ _).drew
   generalize wl.drew = w1 at hk1 hCw ⊢
   have hc120 := hc12
   have hc230 := hc23
   have hc270 := hc27
   replace h1 := h1.up hk1; replace hK := hK.up hk1; replace hc12 := hc12.up hk1; replace hc23 := hc23.up hk1; replace hc27 := hc27.up hk1
   refine qd rfl rfl rfl (fun _ => Val.move rfl) rfl <| qd rfl rfl rfl (fun _ => Val.move rfl) rfl <| qd rfl rfl rfl (fun _ => Val.indexAddr sl23 (by assumption) rfl rfl rfl (by first | omega | assumption | (simp; omega) | (simp; done)) (by first | omega | assumption | (simp; omega) | (simp; done))) rfl <| qc rfl rfl rfl hCw (fun W hW => Val.loadE1 scl9 rfl (hc120.up hW)) rfl <| qd rfl rfl rfl (fun _ => Val.slen Try.underlying9 rfl) rfl <| qd rfl rfl rfl (fun _ => Val.neq rfl rfl) rfl <| qd rfl rfl rfl (fun _ => Val.move rfl) rfl ?_
   apply WD.sc false 14 _ (fun w' => w1 = w')
   case hl => rfl
   case hi => rfl
   case hk => rfl
   case hg => rfl
   case hu => rfl
   case hv => rfl
   case hs => rfl
   case hoff => rfl
   case hd => rfl
   case hC => exact hCw
   case hF => exact fun _ => rfl
   case hT =>
    intro hq21
    try simp only [tstS] at hq21
    simp only [List.take_succ_cons, List.take_zero]
    refine qd rfl rfl rfl (fun _ => Val.move rfl) rfl <| qd rfl rfl rfl (fun _ => Val.gtr rfl rfl) rfl <| qd rfl rfl rfl (fun _ => Val.move rfl) rfl ?_
    apply WD.sc true 10 _ (fun w' => w1 = w')
    case hl => rfl
    case hi => rfl
    case hk => rfl
    case hg => rfl
    case hu => rfl
    case hv => rfl
    case hs => rfl
    case hoff => rfl
    case hd => rfl
    case hC => exact hCw
    case hF => exact fun _ => rfl
    case hT =>
     intro hq20
     try simp only [tstS] at hq20
     simp only [List.take_succ_cons, List.take_zero]
     refine qd rfl rfl rfl (fun _ => Val.move rfl) rfl <| qd rfl rfl rfl (fun _ => Val.move rfl) rfl <| qd rfl rfl rfl (fun _ => Val.subI rfl rfl (by first | omega | assumption | (simp; omega) | (simp; done)) (by first | omega | assumption | (simp; omega) | (simp; done))) rfl <| qd rfl rfl rfl (fun _ => Val.indexAddr sl23 (by assumption) rfl rfl rfl (by first | omega | assumption | (simp; omega) | (simp; done)) (by first | omega | assumption | (simp; omega) | (simp; done))) rfl <| qc rfl rfl rfl hCw (fun W hW => Val.loadE1 scl9 rfl (hc230.up hW)) rfl <| qd rfl rfl rfl (fun _ => Val.move rfl) rfl <| qd rfl rfl rfl (fun _ => Val.move rfl) rfl <| qd rfl rfl rfl (fun _ => Val.indexAddr sl23 (by assumption) rfl rfl rfl (by first | omega | assumption | (simp; omega) | (simp; done)) (by first | omega | assumption | (simp; omega) | (simp; done))) rfl <| qc rfl rfl rfl hCw (fun W hW => Val.loadE1 scl9 rfl (hc270.up hW)) rfl ?_
     refine qd rfl rfl rfl (fun _ => Val.sgeq rfl rfl) rfl ?_
     exact WD.nil ⟨rfl, Sub.drop _ 10 _ rfl rfl, rfl⟩
    rintro _ rfl
    exact WD.nil ⟨rfl, Sub.drop _ 4 _ rfl rfl, rfl⟩
   rintro _ rfl
   refine WD.nil ?_
   clear hc120 hc230 hc270
   clear hCw
   refine WC.cond rfl (fun hc4 => ?_) (fun hc4 => ?_)
   ·try simp only [tstS] at hc4
    refine cseq <| cregion <| qq (Val.assign rfl) rfl <| cnil ?_
    refine WC.ret1 rfl rfl ?_
    exact ⟨hK, by rw [risingB_bad ka (digAt_no ka _ hc4)]⟩
   ·try simp only [tstS] at hc4
    refine cskip <| cregion <| qq (Val.move rfl) rfl <| qq (Val.addI rfl rfl (by first | omega | assumption | (simp; omega) | (simp; done)) (by first | omega | assumption | (simp; omega) | (simp; done))) rfl <| qq (Val.assign rfl) rfl <| cnil ?_
    exact ⟨k + 1, (by repeat (first | exact Sub.nil _ | refine Sub.cons rfl ?_ | refine Sub.consM rfl ?_)), ⟨h1, hK, ka, below_succ hd (digAt_yes ka _ hc4)⟩, by omega⟩
  ·try simp only [tstS] at hc2
   refine WC.exit rfl ?_
   refine cseq <| cregion <| qq (Val.assign rfl) rfl <| cnil ?_
   refine WC.ret1 rfl rfl ?_
   exact ⟨hK, by rw [risingB_none hd (by omega)]⟩

theorem rising_ok {w : World} {v : Value} {l : List (List UInt8)} (h1 : Rd strS w v l) : Calls Try.prog 110 #[v] w (Ret fun v' w' => Below w.heap.size w w' ∧ v' = .bool (risingB l)) := by
  have hK : Old w w := Old.refl w
  have hsm := h1.small
  refine enter (n := 29) (res := #[.tmp 2]) Try.func110 rfl rfl rfl rfl ?_
  refine cseq <| cregion <| qq (Val.assign rfl) rfl <| cnil <| cseq <| cseq <| cregion <| qq (Val.move rfl) rfl ?_
  first | refine WR.val (Val.rdlen sl23 (by assumption) rfl) rfl ?_ | refine WR.val (Val.sllen Try.underlying23 rfl) rfl ?_
  refine qq (Val.move rfl) rfl <| cnil <| cblock ?_
  refine WC.loop (σ := Nat) (fun k => [(0, v), (5, v), (6, I l.length), (7, I k)]) (fun k w' => Rd strS w' v l ∧ Old w w' ∧ k ≤ l.length ∧ ∀ i, i < k → digAt l i = true) (fun k => l.length - k) 0 (by repeat (first | exact Sub.nil _ | refine Sub.cons rfl ?_ | refine Sub.consM rfl ?_)) ⟨h1, hK, by omega, fun i hi => absurd hi (Nat.not_lt_zero _)⟩ ?_
  rintro k wl ⟨h1, hK, hk, hd⟩
  refine cseq <| cregion <| qq (Val.lss rfl rfl) rfl <| cnil <| cseq ?_
  refine WC.cond rfl (fun hc2 => ?_) (fun hc2 => ?_)
  ·try simp only [tstS] at hc2
   have ka : k < l.length := by omega
   obtain ⟨cs1, hc10, rfl, ok1⟩ := h1.el ka
   obtain ⟨cs2, hc23, rfl, ok2⟩ := h1.el (i := ((k : Int) - 1).toNat) (by omega)
   refine cskip <| cseq <| cblock <| cseq <| cregion <| qq (Val.move rfl) rfl <| qq (Val.indexAddr sl23 (by assumption) rfl rfl rfl (by first | omega | assumption | (simp; omega) | (simp; done)) (by first | omega | assumption | (simp; omega) | (simp; done))) rfl <| qq (Val.loadE1 scl9 rfl hc10) rfl <| qq (Val.assign rfl) rfl ?_
   refine qq (Val.assign rfl) rfl <| cnil <| cseq <| cregion <| qq (Val.move rfl) rfl <| qq (Val.slen Try.underlying9 rfl) rfl <| qq (Val.neq rfl rfl) rfl <| qq (Val.move rfl) rfl ?_
   apply WR.sc false 11 _ (fun w' => wl = w')
   case hl => rfl
   case hg => rfl
   case hu => rfl
   case hv => rfl
   case hs => rfl
   case hoff => rfl
   case hd => rfl
   case hF => exact fun _ => rfl
   case hT =>
    intro hq15
    try simp only [tstS] at hq15
    simp only [List.take_succ_cons, List.take_zero]
    refine WR.on rfl rfl ?_
    refine qq (Val.move rfl) rfl ?_
    refine WR.on rfl rfl ?_
    refine qq (Val.gtr rfl rfl) rfl ?_
    refine WR.on rfl rfl ?_
    refine qq (Val.move rfl) rfl ?_
    apply WR.sc true 7 _ (fun w' => wl = w')
    case hl => rfl
    case hg => rfl
    case hu => rfl
    case hv => rfl
    case hs => rfl
    case hoff => rfl
    case hd => rfl
    case hF => exact fun _ => rfl
    case hT =>
     intro hq14
     try simp only [tstS] at hq14
     simp only [List.take_succ_cons, List.take_zero]
     refine WR.on rfl rfl ?_
     refine qq (Val.move rfl) rfl ?_
     refine WR.on rfl rfl ?_
     refine qq (Val.move rfl) rfl ?_
     refine WR.on rfl rfl ?_
     refine qq (Val.move rfl) rfl ?_
     refine WR.on rfl rfl ?_
     refine qq (Val.subI rfl rfl (by first | omega | assumption | (simp; omega) | (simp; done)) (by first | omega | assumption | (simp; omega) | (simp; done))) rfl ?_
     refine WR.on rfl rfl ?_
     refine qq (Val.indexAddr sl23 (by assumption) rfl rfl rfl (by first | omega | assumption | (simp; omega) | (simp; done)) (by first | omega | assumption | (simp; omega) | (simp; done))) rfl ?_
     refine WR.on rfl rfl ?_
     refine qq (Val.loadE1 scl9 rfl hc23) rfl ?_
     refine WR.on rfl rfl ?_
     refine qq (Val.sleq rfl rfl) rfl ?_
     exact WR.nil ⟨rfl, Sub.drop _ 7 _ rfl rfl, rfl⟩
    rintro _ rfl
    exact WR.nil ⟨rfl, Sub.drop _ 4 _ rfl rfl, rfl⟩
   rintro _ rfl
   refine cnil ?_
   refine WC.cond rfl (fun hc4 => ?_) (fun hc4 => ?_)
   ·try simp only [tstS] at hc4
    refine cseq <| cregion <| qq (Val.assign rfl) rfl <| cnil ?_
    refine WC.ret1 rfl rfl ?_
    have e : (Op.bytesLess l[k] l[((k : Int) - 1).toNat] = true ∨ (l[k] == l[((k : Int) - 1).toNat]) = true) → Op.bytesLess l[((k : Int) - 1).toNat] l[k] = false := fun h => by rw [less_not l[((k : Int) - 1).toNat] l[k]]; rcases h with h | h <;> rw [h] <;> simp
    exact ⟨hK, by rw [risingB_bad ka (digAt_no ka _ (hc4.imp (fun h => h) (fun h => ⟨h.1, e h.2⟩)))]⟩
   ·try simp only [tstS] at hc4
    refine cskip <| cregion <| qq (Val.addI rfl rfl (by first | omega | assumption | (simp; omega) | (simp; done)) (by first | omega | assumption | (simp; omega) | (simp; done))) rfl <| qq (Val.move rfl) rfl <| cnil ?_
    have e : (Op.bytesLess l[k] l[((k : Int) - 1).toNat] || l[k] == l[((k : Int) - 1).toNat]) = !Op.bytesLess l[((k : Int) - 1).toNat] l[k] := by rw [less_not l[((k : Int) - 1).toNat] l[k], Bool.not_not]
    rw [e] at hc4
    exact ⟨k + 1, (by repeat (first | exact Sub.nil _ | refine Sub.cons rfl ?_ | refine Sub.consM rfl ?_)), ⟨h1, hK, ka, below_succ hd (digAt_yes ka _ hc4)⟩, by omega⟩
  ·try simp only [tstS] at hc2
   refine WC.exit rfl ?_
   refine cseq <| cregion <| qq (Val.assign rfl) rfl <| cnil ?_
   refine WC.ret1 rfl rfl ?_
   exact ⟨hK, by rw [risingB_none hd (by omega)]⟩

def manKind (k : Int) : Bool := decide (0 ≤ k) && decide (k ≤ 255)
theorem mkind_ok {w : World} (k : Int) : Calls Try.prog 78 #[I k] w (Ret fun v w' => Below w.heap.size w w' ∧ v = .bool (manKind k)) := by
  refine enter (n := 9) (res := #[.tmp 2]) Try.func78 rfl rfl rfl rfl ?_
  refine cseq <| cregion <| qq (Val.assign rfl) rfl <| cnil <| cseq <| cregion <| qq (Val.move rfl) rfl <| qq (Val.geq rfl rfl) rfl <| qq (Val.move rfl) rfl ?_
  apply WR.sc true 2 _ (fun w' => w = w')
  case hl => rfl
  case hg => rfl
  case hu => rfl
  case hv => rfl
  case hs => rfl
  case hoff => rfl
  case hd => rfl
  case hF => exact fun _ => rfl
  case hT =>
   intro hq5
   try simp only [tstS] at hq5
   simp only [List.take_succ_cons, List.take_zero]
   refine WR.on rfl rfl ?_
   refine qq (Val.move rfl) rfl ?_
   refine WR.on rfl rfl ?_
   refine qq (Val.leq rfl rfl) rfl ?_
   exact WR.nil ⟨rfl, Sub.drop _ 2 _ rfl rfl, rfl⟩
  rintro _ rfl
  refine qq (Val.assign rfl) rfl <| cnil ?_
  refine WC.ret1 rfl rfl ?_
  exact ⟨Below.refl _ _, rfl⟩
theorem manMay_eq (m : Man) : (((decide (0 ≤ m.kind) && decide (m.kind ≤ 255)) && decide ((m.blobs.length : Int) + (m.subs.length : Int) ≤ 20)) && risingB m.blobs && risingB m.subs) = manMay m := by
  have e : decide ((m.blobs.length : Int) + (m.subs.length : Int) ≤ 20) = decide (m.blobs.length + m.subs.length ≤ 20) := by rw [Bool.eq_iff_iff]; simp; omega
  rw [e]; rfl
theorem mmay_ok {w : World} {cs : List Value} {m : Man} (h : RdMan w cs m) : Calls Try.prog 72 #[.agg cs.toArray] w (Ret fun v w' => Below w.heap.size w w' ∧ v = .bool (manMay m)) := by
  obtain ⟨vb, vs, rfl, hb, hs, hq⟩ := h
  have hK : Old w w := Old.refl w
  have o1 := hb.oneC; have o2 := hs.oneC
  have s1 := hb.small; have s2 := hs.small
  replace hb : Rd strS w vb m.blobs := hb; replace hs : Rd strS w vs m.subs := hs
  refine enter (n := 26) (res := #[.tmp 2]) Try.func72 rfl rfl rfl rfl ?_
  refine cseq <| cregion ?_
  refine WR.eff (Eff.box rfl) rfl ?_
  rintro _ w1 ⟨b1, rfl, hn1⟩
  have hk1 := hn1.below
  replace hb := hb.up hk1; replace hs := hs.up hk1; replace hK := hK.up hk1
  have hb1 := hn1.blk
  refine qq (Val.assign rfl) rfl <| cnil <| cseq <| cregion ?_
  first | refine WR.val (Val.fieldAddr fld29_0 rfl) rfl ?_ | refine WR.val (Val.fieldAddrP fld29_0 rfl) rfl ?_
  refine qq (Val.loadB scl3 rfl hb1 rfl) rfl ?_
  refine WR.eff (Eff.call pf78 rfl (mkind_ok m.kind)) rfl ?_
  rintro v5 w2 ⟨hk2, rfl⟩
  replace hb := hb.up hk2; replace hs := hs.up hk2; replace hK := hK.up hk2; replace hb1 := hb1.up hk2
  refine qq (Val.move rfl) rfl ?_
  apply WR.sc true 8 _ (fun w' => Below w2.heap.size w2 w')
  case hl => rfl
  case hg => rfl
  case hu => rfl
  case hv => rfl
  case hs => rfl
  case hoff => rfl
  case hd => rfl
  case hF => exact fun _ => Below.refl _ _
  case hT =>
   intro hq12
   try simp only [tstS] at hq12
   simp only [List.take_succ_cons, List.take_zero]
   have hKsc12 : Old w2 w2 := Old.refl _
   refine WR.on rfl rfl ?_
   first | refine WR.val (Val.fieldAddr fld29_1 rfl) rfl ?_ | refine WR.val (Val.fieldAddrP fld29_1 rfl) rfl ?_
   refine WR.on rfl rfl ?_
   refine qq (Val.loadB scl23 rfl hb1 rfl) rfl ?_
   refine WR.on rfl rfl ?_
   first | refine WR.val (Val.rdlen sl23 (by assumption) rfl) rfl ?_ | refine WR.val (Val.sllen Try.underlying23 rfl) rfl ?_
   refine WR.on rfl rfl ?_
   first | refine WR.val (Val.fieldAddr fld29_2 rfl) rfl ?_ | refine WR.val (Val.fieldAddrP fld29_2 rfl) rfl ?_
   refine WR.on rfl rfl ?_
   refine qq (Val.loadB scl23 rfl hb1 rfl) rfl ?_
   refine WR.on rfl rfl ?_
   first | refine WR.val (Val.rdlen sl23 (by assumption) rfl) rfl ?_ | refine WR.val (Val.sllen Try.underlying23 rfl) rfl ?_
   refine WR.on rfl rfl ?_
   refine qq (Val.addI rfl rfl (by first | omega | assumption | (simp; omega) | (simp; done)) (by first | omega | assumption | (simp; omega) | (simp; done))) rfl ?_
   refine WR.on rfl rfl ?_
   refine qq (Val.leq rfl rfl) rfl ?_
   exact WR.nil ⟨rfl, Sub.drop _ 8 _ rfl rfl, hKsc12⟩
  intro w3 hk3
  replace hb := hb.up hk3; replace hs := hs.up hk3; replace hK := hK.up hk3; replace hb1 := hb1.up hk3
  refine qq (Val.move rfl) rfl ?_
  apply WR.sc true 3 _ (fun w' => Below w3.heap.size w3 w')
  case hl => rfl
  case hg => rfl
  case hu => rfl
  case hv => rfl
  case hs => rfl
  case hoff => rfl
  case hd => rfl
  case hF => exact fun _ => Below.refl _ _
  case hT =>
   intro hq17
   try simp only [tstS] at hq17
   simp only [List.take_succ_cons, List.take_zero]
   have hKsc17 : Old w3 w3 := Old.refl _
   refine WR.on rfl rfl ?_
   first | refine WR.val (Val.fieldAddr fld29_1 rfl) rfl ?_ | refine WR.val (Val.fieldAddrP fld29_1 rfl) rfl ?_
   refine WR.on rfl rfl ?_
   refine qq (Val.loadB scl23 rfl hb1 rfl) rfl ?_
   refine WR.on rfl rfl ?_
   refine WR.eff (Eff.call pf110 rfl (rising_ok hb)) rfl ?_
   rintro v19 w4 ⟨hk4, rfl⟩
   replace hb := hb.up hk4; replace hs := hs.up hk4; replace hK := hK.up hk4; replace hb1 := hb1.up hk4; replace hKsc17 := hKsc17.up hk4
   exact WR.nil ⟨rfl, Sub.drop _ 3 _ rfl rfl, hKsc17⟩
  intro w5 hk5
  replace hb := hb.up hk5; replace hs := hs.up hk5; replace hK := hK.up hk5; replace hb1 := hb1.up hk5
  refine qq (Val.move rfl) rfl ?_
  apply WR.sc true 3 _ (fun w' => Below w5.heap.size w5 w')
  case hl => rfl
  case hg => rfl
  case hu => rfl
  case hv => rfl
  case hs => rfl
  case hoff => rfl
  case hd => rfl
  case hF => exact fun _ => Below.refl _ _
  case hT =>
   intro hq22
   try simp only [tstS] at hq22
   simp only [List.take_succ_cons, List.take_zero]
   have hKsc22 : Old w5 w5 := Old.refl _
   refine WR.on rfl rfl ?_
   first | refine WR.val (Val.fieldAddr fld29_2 rfl) rfl ?_ | refine WR.val (Val.fieldAddrP fld29_2 rfl) rfl ?_
   refine WR.on rfl rfl ?_
   refine qq (Val.loadB scl23 rfl hb1 rfl) rfl ?_
   refine WR.on rfl rfl ?_
   refine WR.eff (Eff.call pf110 rfl (rising_ok hs)) rfl ?_
   rintro v24 w6 ⟨hk6, rfl⟩
   replace hb := hb.up hk6; replace hs := hs.up hk6; replace hK := hK.up hk6; replace hb1 := hb1.up hk6; replace hKsc22 := hKsc22.up hk6
   exact WR.nil ⟨rfl, Sub.drop _ 3 _ rfl rfl, hKsc22⟩
  intro w7 hk7
  replace hb := hb.up hk7; replace hs := hs.up hk7; replace hK := hK.up hk7; replace hb1 := hb1.up hk7
  refine qq (Val.assign rfl) rfl <| cnil ?_
  refine WC.ret1 rfl rfl ?_
  exact ⟨hK, by rw [← manMay_eq]; rfl⟩

theorem pman_ok {w : World} {cs : List Value} {m : Man} (h : RdMan w cs m) : Calls Try.prog 17 #[.agg cs.toArray] w (Ret fun v w' => Below w.heap.size w w' ∧ v = .bool (manMay m)) := by
  obtain ⟨vb, vs, rfl, hb, hs, hq⟩ := h
  have hK : Old w w := Old.refl w
  have o1 := hb.oneC; have o2 := hs.oneC
  have s1 := hb.small; have s2 := hs.small
  replace hb : Rd strS w vb m.blobs := hb; replace hs : Rd strS w vs m.subs := hs
  refine enter (n := 26) (res := #[.tmp 2]) Try.func17 rfl rfl rfl rfl ?_
  refine cseq <| cregion ?_
  refine WR.eff (Eff.box rfl) rfl ?_
  rintro _ w1 ⟨b1, rfl, hn1⟩
  have hk1 := hn1.below
  replace hb := hb.up hk1; replace hs := hs.up hk1; replace hK := hK.up hk1
  have hb1 := hn1.blk
  refine qq (Val.assign rfl) rfl <| cnil <| cseq <| cregion ?_
  first | refine WR.val (Val.fieldAddr fld29_0 rfl) rfl ?_ | refine WR.val (Val.fieldAddrP fld29_0 rfl) rfl ?_
  refine qq (Val.loadB scl3 rfl hb1 rfl) rfl ?_
  refine WR.eff (Eff.call pf29 rfl (num_ok m.kind 255)) rfl ?_
  rintro v5 w2 ⟨hk2, rfl⟩
  replace hb := hb.up hk2; replace hs := hs.up hk2; replace hK := hK.up hk2; replace hb1 := hb1.up hk2
  refine qq (Val.move rfl) rfl ?_
  apply WR.sc true 8 _ (fun w' => Below w2.heap.size w2 w')
  case hl => rfl
  case hg => rfl
  case hu => rfl
  case hv => rfl
  case hs => rfl
  case hoff => rfl
  case hd => rfl
  case hF => exact fun _ => Below.refl _ _
  case hT =>
   intro hq12
   try simp only [tstS] at hq12
   simp only [List.take_succ_cons, List.take_zero]
   have hKsc12 : Old w2 w2 := Old.refl _
   refine WR.on rfl rfl ?_
   first | refine WR.val (Val.fieldAddr fld29_1 rfl) rfl ?_ | refine WR.val (Val.fieldAddrP fld29_1 rfl) rfl ?_
   refine WR.on rfl rfl ?_
   refine qq (Val.loadB scl23 rfl hb1 rfl) rfl ?_
   refine WR.on rfl rfl ?_
   first | refine WR.val (Val.rdlen sl23 (by assumption) rfl) rfl ?_ | refine WR.val (Val.sllen Try.underlying23 rfl) rfl ?_
   refine WR.on rfl rfl ?_
   first | refine WR.val (Val.fieldAddr fld29_2 rfl) rfl ?_ | refine WR.val (Val.fieldAddrP fld29_2 rfl) rfl ?_
   refine WR.on rfl rfl ?_
   refine qq (Val.loadB scl23 rfl hb1 rfl) rfl ?_
   refine WR.on rfl rfl ?_
   first | refine WR.val (Val.rdlen sl23 (by assumption) rfl) rfl ?_ | refine WR.val (Val.sllen Try.underlying23 rfl) rfl ?_
   refine WR.on rfl rfl ?_
   refine qq (Val.addI rfl rfl (by first | omega | assumption | (simp; omega) | (simp; done)) (by first | omega | assumption | (simp; omega) | (simp; done))) rfl ?_
   refine WR.on rfl rfl ?_
   refine qq (Val.leq rfl rfl) rfl ?_
   exact WR.nil ⟨rfl, Sub.drop _ 8 _ rfl rfl, hKsc12⟩
  intro w3 hk3
  replace hb := hb.up hk3; replace hs := hs.up hk3; replace hK := hK.up hk3; replace hb1 := hb1.up hk3
  refine qq (Val.move rfl) rfl ?_
  apply WR.sc true 3 _ (fun w' => Below w3.heap.size w3 w')
  case hl => rfl
  case hg => rfl
  case hu => rfl
  case hv => rfl
  case hs => rfl
  case hoff => rfl
  case hd => rfl
  case hF => exact fun _ => Below.refl _ _
  case hT =>
   intro hq17
   try simp only [tstS] at hq17
   simp only [List.take_succ_cons, List.take_zero]
   have hKsc17 : Old w3 w3 := Old.refl _
   refine WR.on rfl rfl ?_
   first | refine WR.val (Val.fieldAddr fld29_1 rfl) rfl ?_ | refine WR.val (Val.fieldAddrP fld29_1 rfl) rfl ?_
   refine WR.on rfl rfl ?_
   refine qq (Val.loadB scl23 rfl hb1 rfl) rfl ?_
   refine WR.on rfl rfl ?_
   refine WR.eff (Eff.call pf71 rfl (digests_ok hb)) rfl ?_
   rintro v19 w4 ⟨hk4, rfl⟩
   replace hb := hb.up hk4; replace hs := hs.up hk4; replace hK := hK.up hk4; replace hb1 := hb1.up hk4; replace hKsc17 := hKsc17.up hk4
   exact WR.nil ⟨rfl, Sub.drop _ 3 _ rfl rfl, hKsc17⟩
  intro w5 hk5
  replace hb := hb.up hk5; replace hs := hs.up hk5; replace hK := hK.up hk5; replace hb1 := hb1.up hk5
  refine qq (Val.move rfl) rfl ?_
  apply WR.sc true 3 _ (fun w' => Below w5.heap.size w5 w')
  case hl => rfl
  case hg => rfl
  case hu => rfl
  case hv => rfl
  case hs => rfl
  case hoff => rfl
  case hd => rfl
  case hF => exact fun _ => Below.refl _ _
  case hT =>
   intro hq22
   try simp only [tstS] at hq22
   simp only [List.take_succ_cons, List.take_zero]
   have hKsc22 : Old w5 w5 := Old.refl _
   refine WR.on rfl rfl ?_
   first | refine WR.val (Val.fieldAddr fld29_2 rfl) rfl ?_ | refine WR.val (Val.fieldAddrP fld29_2 rfl) rfl ?_
   refine WR.on rfl rfl ?_
   refine qq (Val.loadB scl23 rfl hb1 rfl) rfl ?_
   refine WR.on rfl rfl ?_
   refine WR.eff (Eff.call pf71 rfl (digests_ok hs)) rfl ?_
   rintro v24 w6 ⟨hk6, rfl⟩
   replace hb := hb.up hk6; replace hs := hs.up hk6; replace hK := hK.up hk6; replace hb1 := hb1.up hk6; replace hKsc22 := hKsc22.up hk6
   exact WR.nil ⟨rfl, Sub.drop _ 3 _ rfl rfl, hKsc22⟩
  intro w7 hk7
  replace hb := hb.up hk7; replace hs := hs.up hk7; replace hK := hK.up hk7; replace hb1 := hb1.up hk7
  refine qq (Val.assign rfl) rfl <| cnil ?_
  refine WC.ret1 rfl rfl ?_
  exact ⟨hK, by rw [← manMay_eq]; rfl⟩

theorem mcheck_ok {w : World} {cs : List Value} {m : Man} (h : RdMan w cs m) : Calls Try.prog 23 #[.agg cs.toArray] w (Ret fun v w' => Below w.heap.size w w' ∧ v = I (if manMay m then 0 else 1)) := by
  obtain ⟨vb, vs, rfl, hb, hs, hq⟩ := h
  have hK : Old w w := Old.refl w
  have o1 := hb.oneC; have o2 := hs.oneC
  replace hb : Rd strS w vb m.blobs := hb; replace hs : Rd strS w vs m.subs := hs
  refine enter (n := 6) (res := #[.tmp 2]) Try.func23 rfl rfl rfl rfl ?_
  refine cseq <| cregion ?_
  refine WR.eff (Eff.box rfl) rfl ?_
  rintro _ w1 ⟨b1, rfl, hn1⟩
  have hk1 := hn1.below
  replace hb := hb.up hk1; replace hs := hs.up hk1; replace hK := hK.up hk1
  have hb1 := hn1.blk
  refine qq (Val.assign rfl) rfl <| cnil <| cseq <| cseq <| cregion <| qq (Val.loadBN agg29 rfl hb1 rfl) rfl ?_
  refine WR.eff (Eff.call pf72 rfl (mmay_ok (m := m) ⟨vb, vs, rfl, hb, hs, hq⟩)) rfl ?_
  rintro v4 w2 ⟨hk2, rfl⟩
  replace hb := hb.up hk2; replace hs := hs.up hk2; replace hK := hK.up hk2; replace hb1 := hb1.up hk2
  refine qq (Val.not rfl) rfl <| cnil ?_
  refine WC.cond rfl (fun hc1 => ?_) (fun hc1 => ?_)
  ·try simp only [tstS] at hc1
   refine cseq <| cregion <| qq (Val.assign rfl) rfl <| cnil ?_
   refine WC.ret1 rfl rfl ?_
   exact ⟨hK, by rw [hc1]; rfl⟩
  ·try simp only [tstS] at hc1
   refine cskip <| cseq <| cregion <| qq (Val.assign rfl) rfl <| cnil ?_
   refine WC.ret1 rfl rfl ?_
   exact ⟨hK, by rw [hc1]; rfl⟩
end Go.Proofs.Ytnddlhjafkhdoaa
