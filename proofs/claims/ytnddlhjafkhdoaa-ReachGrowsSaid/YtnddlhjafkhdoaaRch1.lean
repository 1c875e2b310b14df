/- Things: which may be; where one is; copies, comparisons, weights. No condition. -/
import Derived.Test.YtnddlhjafkhdoaaMan5
import Derived.Test.YtnddlhjafkhdoaaReachLaw
import Derived.Test.YtnddlhjafkhdoaaTail
set_option linter.unusedSimpArgs false
set_option linter.unusedVariables false
set_option maxRecDepth 100000
namespace Silo
open Go Go.Eng
theorem thgAt_eq {T : List Thg} {k : Nat} (ka : k < T.length) (hp : ((k : Int) - 1).toNat < T.length) : thgAt T k = (decide ((T[k].digest.length : Int) = 32) && decide ((T[k].text.length : Int) ≤ 2000) && !(decide (0 < (k : Int)) && !Op.bytesLess T[((k : Int) - 1).toNat].digest T[k].digest) && (!T[k].manifest || (manTake T[k].text).isSome)) := by
  have e : ((k : Int) - 1).toNat = k - 1 := by omega
  simp only [thgAt, List.getElem?_eq_getElem ka, List.getElem?_eq_getElem (show k - 1 < T.length by omega), e, Option.map_some, Option.getD_some]
  have h1 : decide (k = 0) = !decide (0 < (k : Int)) := by rw [Bool.eq_iff_iff]; simp
  have h2 : decide (T[k].digest.length = 32) = decide ((T[k].digest.length : Int) = 32) := by rw [Bool.eq_iff_iff]; simp; omega
  have h3 : decide (T[k].text.length ≤ 2000) = decide ((T[k].text.length : Int) ≤ 2000) := by rw [Bool.eq_iff_iff]; simp; omega
  rw [h1, h2, h3]
  cases decide (0 < (k : Int)) <;> simp
theorem thgsMay_no {T : List Thg} {k : Nat} (ka : k < T.length) (h : thgAt T k = false) : thgsMay T = false := by
  cases hc : thgsMay T with
  | false => rfl
  | true => rw [(thgsMay_iff.1 hc).2 k ka] at h; cases h
theorem thgsMay_yes {T : List Thg} {k : Nat} (hk : T.length ≤ k) (hl : T.length ≤ 60) (h : ∀ i, i < k → thgAt T i = true) : thgsMay T = true := thgsMay_iff.2 ⟨hl, fun i hi => h i (by omega)⟩
theorem thgsMay_long {T : List Thg} (hl : 60 < T.length) : thgsMay T = false := by
  cases hc : thgsMay T with
  | false => rfl
  | true => have := (thgsMay_iff.1 hc).1; omega
def thgW (t : Thg) : Nat := t.digest.length + t.text.length
def thgsW (T : List Thg) : Nat := stopSum T.length (T.map thgW)
theorem findT_take {T : List Thg} {d : List UInt8} {k : Nat} (hk : k < T.length) (h : ∀ i (hi : i < T.length), i < k → T[i].digest ≠ d) (he : T[k].digest = d) : findT T d = some k := by
  unfold findT
  rw [List.findIdx?_eq_some_iff_getElem]
  exact ⟨hk, by simpa using he, fun j hj => by simpa using h j (by omega) hj⟩
theorem findT_nil {T : List Thg} {d : List UInt8} (h : ∀ i (hi : i < T.length), i < T.length → T[i].digest ≠ d) : findT T d = none := by
  unfold findT
  rw [List.findIdx?_eq_none_iff]
  intro x hx
  obtain ⟨i, hi, rfl⟩ := List.mem_iff_getElem.1 hx
  simpa using h i hi hi
/-- The place of a digest; -1: there is none. -/
def atT (T : List Thg) (d : List UInt8) : Int := match findT T d with | some i => (i : Int) | none => -1
theorem thg_eq (a b : Thg) : cellsEq (encThg a) (encThg b) = decide (a = b) := by
  obtain ⟨a1, a2, a3⟩ := a
  obtain ⟨b1, b2, b3⟩ := b
  rw [Bool.eq_iff_iff]
  simp [cellsEq, cellEq, encThg, and_assoc]
end Silo
namespace Go.Eng
open Silo
theorem Own.rdThgs {w : World} {base : Nat} {e : TypeId} {v : Value} {l : List Thg} (h : Own w base e 3 v l.length (l.flatMap encThg)) (hok : ∀ x ∈ l, x.digest.length ≤ 140737488355328 ∧ x.text.length ≤ 140737488355328) (hsm : l.length ≤ 140737488355328) : RdS thgS w.heap.size w v l := Own.rdFlat hsm h hok
end Go.Eng
namespace Go.Proofs.Ytnddlhjafkhdoaa
open Go Go.Eng Go.RowKit Silo TryT

set_option maxHeartbeats 1000000 in
theorem pthings_ok {w : World} {v : Value} {T : List Thg} (h0 : Rd thgS w v T) : Calls Try.prog 33 #[v] w (Ret fun v' w' => Below w.heap.size w w' ∧ v' = .bool (thgsMay T)) := by
  obtain ⟨c, hO, hc⟩ := OldC.start w
  have hsm := h0.small
  have h1 : RdC thgS c w [0] v T := Rd.toC h0 (fun k hk => by simp [hc, hasC])
  clear hc h0
  refine enter (n := 71) (res := #[.tmp 2]) Try.func33 rfl rfl rfl rfl ?_
  refine cseq <| cregion <| qq (Val.assign rfl) rfl <| cnil <| cseq <| cseq <| cregion <| qq (Val.assign rfl) rfl <| cnil ?_
  refine cblock ?_
  refine WC.loop (σ := Nat) (fun k => [(0, v), (3, I k)]) (fun k w' => ∃ c', OldC w c' w' ∧ RdC thgS c' w' [0] v T ∧ k ≤ T.length ∧ k ≤ 61 ∧ ∀ i, i < k → thgAt T i = true) (fun k => T.length - k) 0 (by repeat (first | exact Sub.nil _ | refine Sub.cons rfl ?_ | refine Sub.consM rfl ?_)) ⟨_, hO, h1, by omega, by omega, fun i hi => absurd hi (Nat.not_lt_zero _)⟩ ?_
  clear hO h1
  rintro k wl ⟨cl, hO, h1, hk, hk6, hd⟩
  refine cseq <| cseq <| cregion <| qq (Val.move rfl) rfl <| qq (Val.move rfl) rfl ?_
  first | refine WR.val (Val.rdlen sl52 (by assumption) rfl) rfl ?_ | refine WR.val (Val.sllen Try.underlying52 rfl) rfl ?_ | refine WR.val (Val.olen sl52 (by assumption) rfl) rfl ?_ | refine WR.val (Val.rdlenC sl52 (by assumption) rfl) rfl ?_
  refine qq (Val.lss rfl rfl) rfl <| qq (Val.move rfl) rfl ?_
  apply WR.sc true 2 _ (fun w' => wl = w')
  case hl => rfl
  case hg => rfl
  case hu => rfl
  case hv => rfl
  case hs => rfl
  case hoff => rfl
  case hd => rfl
  case hF => exact fun _ => rfl
  case hT =>
   intro hq7
   try simp only [tstS] at hq7
   simp only [List.take_succ_cons, List.take_zero]
   refine WR.on rfl rfl ?_
   refine qq (Val.move rfl) rfl ?_
   refine WR.on rfl rfl ?_
   refine qq (Val.leq rfl rfl) rfl ?_
   exact WR.nil ⟨rfl, Sub.drop _ 2 _ rfl rfl, rfl⟩
  rintro _ rfl
  refine cnil ?_
  refine WC.cond rfl (fun hc2 => ?_) (fun hc2 => ?_)
  ·try simp only [tstS] at hc2
   obtain ⟨hc2, hc2'⟩ := hc2
   have ka : k < T.length := by omega
   obtain ⟨hc18, ok1⟩ := RdC.elFlat h1 ka (by decide)
   have hpr : ((k : Int) - 1).toNat < T.length := by omega
   obtain ⟨hc39, _⟩ := RdC.elFlat h1 hpr (by decide)
   have hc26 := hc18; have hc44 := hc18
   have hat := thgAt_eq ka hpr
   refine cskip <| cseq <| cblock <| cseq <| cseq ?_
   refine WC.regionD (Kp cl wl []) [0, 0, 0, 0, 1, 0, 0, 0, 0, 0, 0, 0, 1, 0, 0, 0, 0, 0, 0, 0, 0, 0, 0, 0, 0, 1, 0, 0, 0, 0, 1, 0, 0, 0] [0, 1, 2, 3, 4, 5, 6, 7, 8, 9, 10, 11, 12, 13, 14, 15, 16, 17, 18, 19, 20, 21, 22, 23, 24, 25, 26, 27, 28, 29, 30, 31, 32, 33] mixed (by kernel_rfl) ?_
   have hM1 := Mv.drew cl wl []
   have hCw := Mv.drew cl wl []
   generalize wl.drew = w1 at hM1 hCw ⊢
   have hc180 := hc18
   have hc390 := hc39
   have hc260 := hc26
   have hc440 := hc44
   replace hO := hO.mv hM1 rfl; replace h1 := h1.mv hM1 rfl; replace hc18 := hc18.mv hM1 rfl; replace hc39 := hc39.mv hM1 rfl; replace hc26 := hc26.mv hM1 rfl; replace hc44 := hc44.mv hM1 rfl
   refine qd rfl rfl rfl (fun _ => Val.move rfl) rfl <| qd rfl rfl rfl (fun _ => Val.move rfl) rfl ?_
   first | refine WD.val rfl rfl rfl (fun _ => Val.indexAddr sl52 (by assumption) rfl rfl rfl (by first | omega | assumption | (simp; omega) | (simp; done)) (by first | omega | assumption | (simp; omega) | (simp; done))) rfl ?_ | refine WD.val rfl rfl rfl (fun _ => Val.indexC sl52 (by assumption) rfl rfl (by first | omega | assumption | (simp; omega) | (simp; done)) (by first | omega | assumption | (simp; omega) | (simp; done))) rfl ?_ | refine WD.val rfl rfl rfl (fun _ => Val.indexO sl52 (by assumption) rfl rfl (by first | omega | assumption | (simp; omega) | (simp; done)) (by first | omega | assumption | (simp; omega) | (simp; done))) rfl ?_
   first | refine WD.val rfl rfl rfl (fun _ => Val.fieldAddr fld62_0 rfl) rfl ?_ | refine WD.val rfl rfl rfl (fun _ => Val.fieldAddrP fld62_0 rfl) rfl ?_
   refine qc rfl rfl rfl hCw.kp (fun W hW => Val.loadEf scl9 rfl (hc180.kp hW rfl).cel rfl) rfl <| qd rfl rfl rfl (fun _ => Val.slen Try.underlying9 rfl) rfl <| qd rfl rfl rfl (fun _ => Val.neq rfl rfl) rfl <| qd rfl rfl rfl (fun _ => Val.move rfl) rfl ?_
   apply WD.sc false 7 _ (fun w' => w1 = w')
   case hl => rfl
   case hi => rfl
   case hk => rfl
   case hg => rfl
   case hu => rfl
   case hv => rfl
   case hs => rfl
   case hoff => rfl
   case hd => rfl
   case hC => exact hCw.kp
   case hF => exact fun _ => rfl
   case hT =>
    intro hq15
    try simp only [tstS] at hq15
    simp only [List.take_succ_cons, List.take_zero]
    refine qd rfl rfl rfl (fun _ => Val.move rfl) rfl <| qd rfl rfl rfl (fun _ => Val.move rfl) rfl ?_
    first | refine WD.val rfl rfl rfl (fun _ => Val.indexAddr sl52 (by assumption) rfl rfl rfl (by first | omega | assumption | (simp; omega) | (simp; done)) (by first | omega | assumption | (simp; omega) | (simp; done))) rfl ?_ | refine WD.val rfl rfl rfl (fun _ => Val.indexC sl52 (by assumption) rfl rfl (by first | omega | assumption | (simp; omega) | (simp; done)) (by first | omega | assumption | (simp; omega) | (simp; done))) rfl ?_ | refine WD.val rfl rfl rfl (fun _ => Val.indexO sl52 (by assumption) rfl rfl (by first | omega | assumption | (simp; omega) | (simp; done)) (by first | omega | assumption | (simp; omega) | (simp; done))) rfl ?_
    first | refine WD.val rfl rfl rfl (fun _ => Val.fieldAddr fld62_1 rfl) rfl ?_ | refine WD.val rfl rfl rfl (fun _ => Val.fieldAddrP fld62_1 rfl) rfl ?_
    refine qc rfl rfl rfl hCw.kp (fun W hW => Val.loadEf scl9 rfl (hc260.kp hW rfl).cel rfl) rfl <| qd rfl rfl rfl (fun _ => Val.slen Try.underlying9 rfl) rfl <| qd rfl rfl rfl (fun _ => Val.gtr rfl rfl) rfl ?_
    exact WD.nil ⟨rfl, Sub.drop _ 7 _ rfl rfl, rfl⟩
   rintro _ rfl
   refine qd rfl rfl rfl (fun _ => Val.move rfl) rfl ?_
   apply WD.sc false 16 _ (fun w' => w1 = w')
   case hl => rfl
   case hi => rfl
   case hk => rfl
   case hg => rfl
   case hu => rfl
   case hv => rfl
   case hs => rfl
   case hoff => rfl
   case hd => rfl
   case hC => exact hCw.kp
   case hF => exact fun _ => rfl
   case hT =>
    intro hq33
    try simp only [tstS] at hq33
    simp only [List.take_succ_cons, List.take_zero]
    refine qd rfl rfl rfl (fun _ => Val.move rfl) rfl <| qd rfl rfl rfl (fun _ => Val.gtr rfl rfl) rfl <| qd rfl rfl rfl (fun _ => Val.move rfl) rfl ?_
    apply WD.sc true 12 _ (fun w' => w1 = w')
    case hl => rfl
    case hi => rfl
    case hk => rfl
    case hg => rfl
    case hu => rfl
    case hv => rfl
    case hs => rfl
    case hoff => rfl
    case hd => rfl
    case hC => exact hCw.kp
    case hF => exact fun _ => rfl
    case hT =>
     intro hq32
     try simp only [tstS] at hq32
     simp only [List.take_succ_cons, List.take_zero]
     refine qd rfl rfl rfl (fun _ => Val.move rfl) rfl <| qd rfl rfl rfl (fun _ => Val.move rfl) rfl <| qd rfl rfl rfl (fun _ => Val.subI rfl rfl (by first | omega | assumption | (simp; omega) | (simp; done)) (by first | omega | assumption | (simp; omega) | (simp; done))) rfl ?_
     first | refine WD.val rfl rfl rfl (fun _ => Val.indexAddr sl52 (by assumption) rfl rfl rfl (by first | omega | assumption | (simp; omega) | (simp; done)) (by first | omega | assumption | (simp; omega) | (simp; done))) rfl ?_ | refine WD.val rfl rfl rfl (fun _ => Val.indexC sl52 (by assumption) rfl rfl (by first | omega | assumption | (simp; omega) | (simp; done)) (by first | omega | assumption | (simp; omega) | (simp; done))) rfl ?_ | refine WD.val rfl rfl rfl (fun _ => Val.indexO sl52 (by assumption) rfl rfl (by first | omega | assumption | (simp; omega) | (simp; done)) (by first | omega | assumption | (simp; omega) | (simp; done))) rfl ?_
     first | refine WD.val rfl rfl rfl (fun _ => Val.fieldAddr fld62_0 rfl) rfl ?_ | refine WD.val rfl rfl rfl (fun _ => Val.fieldAddrP fld62_0 rfl) rfl ?_
     refine qc rfl rfl rfl hCw.kp (fun W hW => Val.loadEf scl9 rfl (hc390.kp hW rfl).cel rfl) rfl <| qd rfl rfl rfl (fun _ => Val.move rfl) rfl <| qd rfl rfl rfl (fun _ => Val.move rfl) rfl ?_
     first | refine WD.val rfl rfl rfl (fun _ => Val.indexAddr sl52 (by assumption) rfl rfl rfl (by first | omega | assumption | (simp; omega) | (simp; done)) (by first | omega | assumption | (simp; omega) | (simp; done))) rfl ?_ | refine WD.val rfl rfl rfl (fun _ => Val.indexC sl52 (by assumption) rfl rfl (by first | omega | assumption | (simp; omega) | (simp; done)) (by first | omega | assumption | (simp; omega) | (simp; done))) rfl ?_ | refine WD.val rfl rfl rfl (fun _ => Val.indexO sl52 (by assumption) rfl rfl (by first | omega | assumption | (simp; omega) | (simp; done)) (by first | omega | assumption | (simp; omega) | (simp; done))) rfl ?_
     first | refine WD.val rfl rfl rfl (fun _ => Val.fieldAddr fld62_0 rfl) rfl ?_ | refine WD.val rfl rfl rfl (fun _ => Val.fieldAddrP fld62_0 rfl) rfl ?_
     refine qc rfl rfl rfl hCw.kp (fun W hW => Val.loadEf scl9 rfl (hc440.kp hW rfl).cel rfl) rfl <| qd rfl rfl rfl (fun _ => Val.sgeq rfl rfl) rfl ?_
     exact WD.nil ⟨rfl, Sub.drop _ 12 _ rfl rfl, rfl⟩
    rintro _ rfl
    exact WD.nil ⟨rfl, Sub.drop _ 4 _ rfl rfl, rfl⟩
   rintro _ rfl
   refine WD.nil ?_
   clear hc180 hc390 hc260 hc440
   clear hCw
   refine WC.cond rfl (fun hc4 => ?_) (fun hc4 => ?_)
   ·try simp only [tstS] at hc4
    have hno : thgAt T k = false := by
      rw [hat]
      rcases hc4 with (h | h) | ⟨h, h'⟩
      · rw [decide_eq_false h]; rfl
      · rw [decide_eq_false (show ¬ (T[k].text.length : Int) ≤ 2000 by omega)]; simp
      · rw [decide_eq_true h, h']; simp
    refine cseq <| cregion <| qq (Val.assign rfl) rfl <| cnil ?_
    refine WC.ret1 rfl rfl ?_
    exact ⟨hO.below, by rw [thgsMay_no ka hno]⟩
   ·try simp only [tstS] at hc4
    obtain ⟨⟨hc4a, hc4b⟩, hc4c⟩ := hc4
    have hc53 := hc18; have hc61 := hc18
    refine cskip <| cseq <| cregion <| qq (Val.move rfl) rfl <| qq (Val.move rfl) rfl ?_
    first | refine WR.val (Val.indexAddr sl52 (by assumption) rfl rfl rfl (by first | omega | assumption | (simp; omega) | (simp; done)) (by first | omega | assumption | (simp; omega) | (simp; done))) rfl ?_ | refine WR.val (Val.indexC sl52 (by assumption) rfl rfl (by first | omega | assumption | (simp; omega) | (simp; done)) (by first | omega | assumption | (simp; omega) | (simp; done))) rfl ?_ | refine WR.val (Val.indexO sl52 (by assumption) rfl rfl (by first | omega | assumption | (simp; omega) | (simp; done)) (by first | omega | assumption | (simp; omega) | (simp; done))) rfl ?_
    first | refine WR.val (Val.fieldAddr fld62_1 rfl) rfl ?_ | refine WR.val (Val.fieldAddrP fld62_1 rfl) rfl ?_
    refine qq (Val.loadEf scl9 rfl hc53.cel rfl) rfl ?_
    refine WR.eff (Eff.pureC cl 1 (Eff.call pf26 rfl (pmtake_ok T[k].text (by omega)))) rfl ?_
    rintro v56 w2 ⟨c2, hM2, hx2, ⟨cs, rfl, hm⟩⟩
    replace hO := hO.mv hM2 rfl; replace h1 := h1.mv hM2 rfl; replace hc53 := hc53.mv hM2 rfl; replace hc61 := hc61.mv hM2 rfl
    obtain ⟨mv, ms, rfl, mr1, mr2, mq⟩ := hm
    have o1 := mr1.oneC; have o2 := mr2.oneC
    clear mr1 mr2 mq
    refine qq (Val.move rfl) rfl <| qq (Val.extract rfl rfl) rfl <| qq (Val.extract rfl rfl) rfl ?_
    refine WR.eff (Eff.allocC c2 104 zero29) rfl ?_
    rintro _ w3 ⟨b4, c3, rfl, hM3, hb4⟩
    replace hO := hO.mv hM3 rfl; replace h1 := h1.mv hM3 rfl; replace hc53 := hc53.mv hM3 rfl; replace hc61 := hc61.mv hM3 rfl
    refine WR.eff_ (Eff.storeNC agg29 rfl rfl hb4 rfl rfl (by repeat (first | exact List.forall_mem_nil _ | refine List.forall_mem_cons.2 ⟨by first | rfl | assumption, ?_⟩))) ?_
    rintro _ w4 ⟨hS, hM4⟩
    replace hO := hO.mv hM4 rfl; replace h1 := h1.mv hM4 rfl; replace hc53 := hc53.mv hM4 rfl; replace hc61 := hc61.mv hM4 rfl
    replace hb4 := hS
    refine qq (Val.assign rfl) rfl <| cnil <| cseq <| cregion <| qq (Val.move rfl) rfl <| qq (Val.move rfl) rfl ?_
    first | refine WR.val (Val.indexAddr sl52 (by assumption) rfl rfl rfl (by first | omega | assumption | (simp; omega) | (simp; done)) (by first | omega | assumption | (simp; omega) | (simp; done))) rfl ?_ | refine WR.val (Val.indexC sl52 (by assumption) rfl rfl (by first | omega | assumption | (simp; omega) | (simp; done)) (by first | omega | assumption | (simp; omega) | (simp; done))) rfl ?_ | refine WR.val (Val.indexO sl52 (by assumption) rfl rfl (by first | omega | assumption | (simp; omega) | (simp; done)) (by first | omega | assumption | (simp; omega) | (simp; done))) rfl ?_
    first | refine WR.val (Val.fieldAddr fld62_2 rfl) rfl ?_ | refine WR.val (Val.fieldAddrP fld62_2 rfl) rfl ?_
    refine qq (Val.loadEf scl4 rfl hc61.cel rfl) rfl <| qq (Val.move rfl) rfl ?_
    apply WR.sc true 2 _ (fun w' => w4 = w')
    case hl => rfl
    case hg => rfl
    case hu => rfl
    case hv => rfl
    case hs => rfl
    case hoff => rfl
    case hd => rfl
    case hF => exact fun _ => rfl
    case hT =>
     intro hq8
     try simp only [tstS] at hq8
     simp only [List.take_succ_cons, List.take_zero]
     refine WR.on rfl rfl ?_
     refine qq (Val.move rfl) rfl ?_
     refine WR.on rfl rfl ?_
     refine qq (Val.not rfl) rfl ?_
     exact WR.nil ⟨rfl, Sub.drop _ 2 _ rfl rfl, rfl⟩
    rintro _ rfl
    refine cnil ?_
    refine WC.cond rfl (fun hc7 => ?_) (fun hc7 => ?_)
    ·try simp only [tstS] at hc7
     have hno : thgAt T k = false := by
       rw [hat, hc7.1, hc7.2]; simp
     refine cseq <| cregion <| qq (Val.assign rfl) rfl <| cnil ?_
     refine WC.ret1 rfl rfl ?_
     exact ⟨hO.below, by rw [thgsMay_no ka hno]⟩
    ·try simp only [tstS] at hc7
     have hye : thgAt T k = true := by
       rw [hat, decide_eq_true hc4a, decide_eq_true (show (T[k].text.length : Int) ≤ 2000 by omega), hc4c]
       cases hm : T[k].manifest with
       | false => rfl
       | true => rw [hm] at hc7; simp at hc7; simp [hc7]
     refine cskip <| cregion <| qq (Val.move rfl) rfl <| qq (Val.addI rfl rfl (by first | omega | assumption | (simp; omega) | (simp; done)) (by first | omega | assumption | (simp; omega) | (simp; done))) rfl <| qq (Val.assign rfl) rfl <| cnil ?_
     exact ⟨k + 1, (by repeat (first | exact Sub.nil _ | refine Sub.cons rfl ?_ | refine Sub.consM rfl ?_)), ⟨_, hO, h1, ka, by omega, below_succ hd hye⟩, by omega⟩
  ·try simp only [tstS] at hc2
   have hkk : T.length ≤ k ∨ 60 < k := by
     rw [Bool.and_eq_false_iff] at hc2
     simp only [decide_eq_false_iff_not] at hc2
     omega
   refine WC.exit rfl ?_
   refine cseq <| cregion <| qq (Val.move rfl) rfl ?_
   first | refine WR.val (Val.rdlen sl52 (by assumption) rfl) rfl ?_ | refine WR.val (Val.sllen Try.underlying52 rfl) rfl ?_ | refine WR.val (Val.olen sl52 (by assumption) rfl) rfl ?_ | refine WR.val (Val.rdlenC sl52 (by assumption) rfl) rfl ?_
   refine qq (Val.leq rfl rfl) rfl <| qq (Val.assign rfl) rfl <| cnil ?_
   refine WC.ret1 rfl rfl ?_
   refine ⟨hO.below, ?_⟩
   rcases hkk with h | h
   · by_cases h6 : T.length ≤ 60
     · rw [decide_eq_true (show (T.length : Int) ≤ 60 by omega), thgsMay_yes h h6 hd]
     · rw [decide_eq_false (show ¬ (T.length : Int) ≤ 60 by omega), thgsMay_long (by omega)]
   · rw [decide_eq_false (show ¬ (T.length : Int) ≤ 60 by omega), thgsMay_long (by omega)]

theorem at_ok {w : World} {v : Value} {T : List Thg} {d : List UInt8} (h1 : Rd thgS w v T) : Calls Try.prog 38 #[v, St d] w (Ret fun v' w' => Below w.heap.size w w' ∧ v' = I (atT T d)) := by
  have hK : Old w w := Old.refl w
  have hsm := h1.small
  refine enter (n := 20) (res := #[.tmp 4]) Try.func38 rfl rfl rfl rfl ?_
  refine cseq <| cregion <| qq (Val.assign rfl) rfl <| cnil <| cseq <| cseq <| cregion <| qq (Val.assign rfl) rfl <| cnil ?_
  refine cblock ?_
  refine WC.loop (σ := Nat) (fun k => [(0, v), (1, St d), (5, I k)]) (fun k w' => Rd thgS w' v T ∧ Old w w' ∧ k ≤ T.length ∧ ∀ i (hi : i < T.length), i < k → T[i].digest ≠ d) (fun k => T.length - k) 0 (by repeat (first | exact Sub.nil _ | refine Sub.cons rfl ?_ | refine Sub.consM rfl ?_)) ⟨h1, hK, by omega, fun i hi h => absurd h (Nat.not_lt_zero _)⟩ ?_
  rintro k wl ⟨h1, hK, hk, hd⟩
  refine cseq <| cseq <| cregion <| qq (Val.move rfl) rfl <| qq (Val.move rfl) rfl ?_
  first | refine WR.val (Val.rdlen sl52 (by assumption) rfl) rfl ?_ | refine WR.val (Val.sllen Try.underlying52 rfl) rfl ?_
  refine qq (Val.lss rfl rfl) rfl <| cnil ?_
  refine WC.cond rfl (fun hc2 => ?_) (fun hc2 => ?_)
  ·try simp only [tstS] at hc2
   have ka : k < T.length := by omega
   obtain ⟨cs1, hc14, rfl, ok1⟩ := h1.el ka
   refine cskip <| cseq <| cblock <| cseq <| cregion <| qq (Val.move rfl) rfl <| qq (Val.move rfl) rfl <| qq (Val.indexAddr sl52 (by assumption) rfl rfl rfl (by first | omega | assumption | (simp; omega) | (simp; done)) (by first | omega | assumption | (simp; omega) | (simp; done))) rfl ?_
   first | refine WR.val (Val.fieldAddr fld62_0 rfl) rfl ?_ | refine WR.val (Val.fieldAddrP fld62_0 rfl) rfl ?_
   refine qq (Val.loadEf scl9 rfl hc14 rfl) rfl <| qq (Val.move rfl) rfl <| qq (Val.seq_ rfl rfl) rfl <| cnil ?_
   refine WC.cond rfl (fun hc4 => ?_) (fun hc4 => ?_)
   ·try simp only [tstS] at hc4
    have he : T[k].digest = d := by simpa using hc4
    have hf := findT_take ka hd he
    refine cseq <| cregion <| qq (Val.move rfl) rfl <| qq (Val.assign rfl) rfl <| cnil ?_
    refine WC.ret1 rfl rfl ?_
    exact ⟨hK, by rw [atT, hf]⟩
   ·try simp only [tstS] at hc4
    have he : T[k].digest ≠ d := by simpa using hc4
    refine cskip <| cregion <| qq (Val.move rfl) rfl <| qq (Val.addI rfl rfl (by first | omega | assumption | (simp; omega) | (simp; done)) (by first | omega | assumption | (simp; omega) | (simp; done))) rfl <| qq (Val.assign rfl) rfl <| cnil ?_
    exact ⟨k + 1, (by repeat (first | exact Sub.nil _ | refine Sub.cons rfl ?_ | refine Sub.consM rfl ?_)), ⟨h1, hK, ka, fun i hi h => by
      rcases Nat.lt_or_ge i k with h2 | h2
      · exact hd i hi h2
      · have : i = k := by omega
        subst this; exact he⟩, by omega⟩
  ·try simp only [tstS] at hc2
   have : k = T.length := by omega
   subst this
   refine WC.exit rfl ?_
   refine cseq <| cregion <| qq (Val.assign rfl) rfl <| cnil ?_
   refine WC.ret1 rfl rfl ?_
   exact ⟨hK, by rw [atT, findT_nil hd]⟩

theorem zhas_ok {w : World} {v : Value} {l : List (List UInt8)} {d : List UInt8} (h1 : Rd strS w v l) : Calls Try.prog 39 #[v, St d] w (Ret fun v' w' => Below w.heap.size w w' ∧ v' = .bool (l.contains d)) := by
  have hK : Old w w := Old.refl w
  have hsm := h1.small
  refine enter (n := 18) (res := #[.tmp 4]) Try.func39 rfl rfl rfl rfl ?_
  refine cseq <| cregion <| qq (Val.assign rfl) rfl <| cnil <| cseq <| cseq <| cregion <| qq (Val.assign rfl) rfl <| cnil ?_
  refine cblock ?_
  refine WC.loop (σ := Nat) (fun k => [(0, v), (1, St d), (5, I k)]) (fun k w' => Rd strS w' v l ∧ Old w w' ∧ k ≤ l.length ∧ ∀ i (hi : i < l.length), i < k → l[i] ≠ d) (fun k => l.length - k) 0 (by repeat (first | exact Sub.nil _ | refine Sub.cons rfl ?_ | refine Sub.consM rfl ?_)) ⟨h1, hK, by omega, fun i hi h => absurd h (Nat.not_lt_zero _)⟩ ?_
  rintro k wl ⟨h1, hK, hk, hd⟩
  refine cseq <| cseq <| cregion <| qq (Val.move rfl) rfl <| qq (Val.move rfl) rfl ?_
  first | refine WR.val (Val.rdlen sl23 (by assumption) rfl) rfl ?_ | refine WR.val (Val.sllen Try.underlying23 rfl) rfl ?_
  refine qq (Val.lss rfl rfl) rfl <| cnil ?_
  refine WC.cond rfl (fun hc2 => ?_) (fun hc2 => ?_)
  ·try simp only [tstS] at hc2
   have ka : k < l.length := by omega
   obtain ⟨cs1, hc14, rfl, ok1⟩ := h1.el ka
   refine cskip <| cseq <| cblock <| cseq <| cregion <| qq (Val.move rfl) rfl <| qq (Val.move rfl) rfl <| qq (Val.indexAddr sl23 (by assumption) rfl rfl rfl (by first | omega | assumption | (simp; omega) | (simp; done)) (by first | omega | assumption | (simp; omega) | (simp; done))) rfl <| qq (Val.loadE1 scl9 rfl hc14) rfl ?_
   refine qq (Val.move rfl) rfl <| qq (Val.seq_ rfl rfl) rfl <| cnil ?_
   refine WC.cond rfl (fun hc4 => ?_) (fun hc4 => ?_)
   ·try simp only [tstS] at hc4
    have he : l[k] = d := by simpa using hc4
    have hm : l.contains d = true := by rw [List.contains_iff_mem, ← he]; exact List.getElem_mem ka
    refine cseq <| cregion <| qq (Val.assign rfl) rfl <| cnil ?_
    refine WC.ret1 rfl rfl ?_
    exact ⟨hK, by rw [hm]⟩
   ·try simp only [tstS] at hc4
    have he : l[k] ≠ d := by simpa using hc4
    refine cskip <| cregion <| qq (Val.move rfl) rfl <| qq (Val.addI rfl rfl (by first | omega | assumption | (simp; omega) | (simp; done)) (by first | omega | assumption | (simp; omega) | (simp; done))) rfl <| qq (Val.assign rfl) rfl <| cnil ?_
    exact ⟨k + 1, (by repeat (first | exact Sub.nil _ | refine Sub.cons rfl ?_ | refine Sub.consM rfl ?_)), ⟨h1, hK, ka, fun i hi h => by
      rcases Nat.lt_or_ge i k with h2 | h2
      · exact hd i hi h2
      · have : i = k := by omega
        subst this; exact he⟩, by omega⟩
  ·try simp only [tstS] at hc2
   have hm : l.contains d = false := by
     cases hb : l.contains d with
     | false => rfl
     | true =>
       rw [List.contains_iff_mem] at hb
       obtain ⟨i, hi, e⟩ := List.mem_iff_getElem.1 hb
       exact absurd e (hd i hi (by omega))
   refine WC.exit rfl ?_
   refine cseq <| cregion <| qq (Val.assign rfl) rfl <| cnil ?_
   refine WC.ret1 rfl rfl ?_
   exact ⟨hK, by rw [hm]⟩

theorem copyThings_ok {w : World} {v : Value} {l : List Thg} (h0 : Rd thgS w v l) (hl : l.length ≤ 1048576) :
    Calls Try.prog 46 #[v] w (Ret fun v' w' => Below w.heap.size w w' ∧ Own w' w.heap.size 62 3 v' l.length (l.flatMap encThg)) := by
  obtain ⟨c, hO, hc⟩ := OldC.start w
  have h1 : RdC thgS c w [0] v l := Rd.toC h0 (fun k hk => by simp [hc, hasC])
  clear hc h0
  refine enter (n := 19) (res := #[.tmp 2]) Try.func46 rfl rfl rfl rfl ?_
  refine cseq <| cregion <| qq (Val.assign rfl) rfl <| cnil <| cseq <| cregion <| qq (Val.assign rfl) rfl <| cnil <| cseq ?_
  refine cseq <| cregion <| qq (Val.assign rfl) rfl <| cnil <| cblock ?_
  refine WC.loop (σ := Nat × Value) (fun st => [(0, v), (3, st.2), (4, I st.1)]) (fun st w' => ∃ c', OldC w c' w' ∧ RdC thgS c' w' [0] v l ∧ OwnC c' w' 3 62 3 st.2 st.1 ((l.take st.1).flatMap encThg) ∧ st.1 ≤ l.length) (fun st => l.length - st.1) (0, .slice none 0 0) (by repeat (first | exact Sub.nil _ | refine Sub.cons rfl ?_ | refine Sub.consM rfl ?_)) ⟨_, hO, h1, OwnC.nil _ _ _ _ _, by simp⟩ ?_
  clear hO h1
  rintro ⟨k, vm⟩ wl ⟨cl, hO, h1, ho, hk⟩
  dsimp only at hO h1 ho hk ⊢
  refine cseq <| cseq <| cregion <| qq (Val.move rfl) rfl <| qq (Val.move rfl) rfl ?_
  first | refine WR.val (Val.rdlen sl52 (by assumption) rfl) rfl ?_ | refine WR.val (Val.sllen Try.underlying52 rfl) rfl ?_ | refine WR.val (Val.olen sl52 (by assumption) rfl) rfl ?_ | refine WR.val (Val.rdlenC sl52 (by assumption) rfl) rfl ?_
  refine qq (Val.lss rfl rfl) rfl <| cnil ?_
  refine WC.cond rfl (fun hc3 => ?_) (fun hc3 => ?_)
  ·try simp only [tstS] at hc3
   have ka : k < l.length := by omega
   obtain ⟨hc14, ok1⟩ := RdC.elFlat h1 ka (by decide)
   refine cskip <| cseq <| cblock <| cregion <| qq (Val.move rfl) rfl <| qq (Val.move rfl) rfl <| qq (Val.move rfl) rfl ?_
   first | refine WR.val (Val.indexAddr sl52 (by assumption) rfl rfl rfl (by first | omega | assumption | (simp; omega) | (simp; done)) (by first | omega | assumption | (simp; omega) | (simp; done))) rfl ?_ | refine WR.val (Val.indexC sl52 (by assumption) rfl rfl (by first | omega | assumption | (simp; omega) | (simp; done)) (by first | omega | assumption | (simp; omega) | (simp; done))) rfl ?_ | refine WR.val (Val.indexO sl52 (by assumption) rfl rfl (by first | omega | assumption | (simp; omega) | (simp; done)) (by first | omega | assumption | (simp; omega) | (simp; done))) rfl ?_
   refine qq (Val.loadE agg62 rfl hc14.cel rfl) rfl ?_
   refine WR.eff (Eff.build1C cl 116 sl52 rfl rfl rfl rfl rfl) rfl ?_
   rintro _ w1 ⟨b16, c1, rfl, hM1, hb16⟩
   replace hO := hO.mv hM1 rfl; replace h1 := h1.mv hM1 rfl; replace ho := ho.mv hM1 rfl; replace hc14 := hc14.mv hM1 rfl
   refine WR.eff (Eff.appendC sl52 rfl rfl ho (Src.cellsAt Try.underlying52 hb16.blk.cellsAt rfl (by repeat (first | exact List.forall_mem_nil _ | refine List.forall_mem_cons.2 ⟨by first | rfl | assumption, ?_⟩))) (by rw [maxLen_eq]; first | omega | (simp; omega)) (by first | omega | (simp; omega))) rfl ?_
   rintro v17 w2 ⟨c2, hM2, hOq⟩
   clear hb16
   replace hO := hO.mv hM2 rfl; replace h1 := h1.mv hM2 rfl; replace hc14 := hc14.mv hM2 rfl
   replace ho := hOq
   refine qq (Val.assign rfl) rfl <| cnil <| cregion <| qq (Val.move rfl) rfl <| qq (Val.addI rfl rfl (by first | omega | assumption | (simp; omega) | (simp; done)) (by first | omega | assumption | (simp; omega) | (simp; done))) rfl <| qq (Val.assign rfl) rfl <| cnil ?_
   exact ⟨(k + 1, v17), (by repeat (first | exact Sub.nil _ | refine Sub.cons rfl ?_ | refine Sub.consM rfl ?_)), ⟨_, hO, h1, by rw [take_succ_flatMap _ ka]; exact ho, ka⟩, by dsimp only; omega⟩
  ·try simp only [tstS] at hc3
   have : k = l.length := by omega
   subst this
   rw [List.take_length] at ho
   refine WC.exit rfl ?_
   refine cseq <| cregion <| qq (Val.move rfl) rfl <| qq (Val.assign rfl) rfl <| cnil ?_
   refine WC.ret1 rfl rfl ?_
   exact ⟨hO.below, ho.fromOld hO (by decide)⟩

theorem eqThings_ok {w : World} {v1 v2 : Value} {a b : List Thg} (h1 : Rd thgS w v1 a) (h2 : Rd thgS w v2 b) :
    Calls Try.prog 50 #[v1, v2] w (Ret fun v w' => Below w.heap.size w w' ∧ v = .bool (decide (a = b))) := by
  have hK : Old w w := Old.refl w
  have la := h1.lenN
  refine enter (n := 26) (res := #[.tmp 4]) Try.func50 rfl rfl rfl rfl ?_
  refine cseq <| cregion <| qq (Val.assign rfl) rfl <| cnil <| cseq <| cseq <| cregion <| qq (Val.move rfl) rfl ?_
  first | refine WR.val (Val.rdlen sl52 (by assumption) rfl) rfl ?_ | refine WR.val (Val.sllen Try.underlying52 rfl) rfl ?_
  refine qq (Val.move rfl) rfl ?_
  first | refine WR.val (Val.rdlen sl52 (by assumption) rfl) rfl ?_ | refine WR.val (Val.sllen Try.underlying52 rfl) rfl ?_
  refine qq (Val.neq rfl rfl) rfl <| cnil ?_
  refine WC.cond rfl (fun hc1 => ?_) (fun hc1 => ?_)
  ·try simp only [tstS] at hc1
   have : a ≠ b := fun e => by subst e; omega
   refine cseq <| cregion <| qq (Val.assign rfl) rfl <| cnil ?_
   refine WC.ret1 rfl rfl ?_
   exact ⟨hK, by simp [this]⟩
  ·try simp only [tstS] at hc1
   refine cskip <| cseq <| cseq <| cregion <| qq (Val.assign rfl) rfl <| cnil <| cblock ?_
   refine WC.loop (σ := Nat) (fun k => [(0, v1), (1, v2), (5, I k)]) (fun k w' => Rd thgS w' v1 a ∧ Rd thgS w' v2 b ∧ Old w w' ∧ k ≤ a.length ∧ a.take k = b.take k) (fun k => a.length - k) 0 (by repeat (first | exact Sub.nil _ | refine Sub.cons rfl ?_ | refine Sub.consM rfl ?_)) ⟨h1, h2, hK, by omega, rfl⟩ ?_
   rintro k wl ⟨h1, h2, hK, hk, he⟩
   have hln : a.length = b.length := by omega
   refine cseq <| cseq <| cregion <| qq (Val.move rfl) rfl <| qq (Val.move rfl) rfl ?_
   first | refine WR.val (Val.rdlen sl52 (by assumption) rfl) rfl ?_ | refine WR.val (Val.sllen Try.underlying52 rfl) rfl ?_
   refine qq (Val.lss rfl rfl) rfl <| cnil ?_
   refine WC.cond rfl (fun hc4 => ?_) (fun hc4 => ?_)
   ·try simp only [tstS] at hc4
    have ka : k < a.length := by omega
    have kb : k < b.length := by omega
    obtain ⟨cs1, hc19, rfl, ok1⟩ := h1.el ka
    obtain ⟨cs2, hc23, rfl, ok2⟩ := h2.el kb
    have heq : cellsEq (encThg a[k]) (encThg b[k]) = decide (a[k] = b[k]) := thg_eq _ _
    refine cskip <| cseq <| cblock <| cseq ?_
    refine WC.regionD (Below wl.heap.size wl) [0, 0, 0, 1, 0, 0, 0, 1, 0] [0, 1, 2, 3, 4, 5, 6, 7, 8] mixed (by kernel_rfl) ?_
    have hk1 : Below wl.heap.size wl wl.drew := (Below.refl _ _).drew
    have hCw : Below wl.heap.size wl wl.drew := (Below.refl _ _).drew
    generalize wl.drew = w1 at hk1 hCw ⊢
    have hc190 := hc19
    have hc230 := hc23
    replace h1 := h1.up hk1; replace h2 := h2.up hk1; replace hK := hK.up hk1; replace hc19 := hc19.up hk1; replace hc23 := hc23.up hk1
    refine qd rfl rfl rfl (fun _ => Val.move rfl) rfl <| qd rfl rfl rfl (fun _ => Val.move rfl) rfl <| qd rfl rfl rfl (fun _ => Val.indexAddr sl52 (by assumption) rfl rfl rfl (by first | omega | assumption | (simp; omega) | (simp; done)) (by first | omega | assumption | (simp; omega) | (simp; done))) rfl <| qc rfl rfl rfl hCw (fun W hW => Val.loadE agg62 rfl (hc190.up hW) rfl) rfl <| qd rfl rfl rfl (fun _ => Val.move rfl) rfl <| qd rfl rfl rfl (fun _ => Val.move rfl) rfl <| qd rfl rfl rfl (fun _ => Val.indexAddr sl52 (by assumption) rfl rfl rfl (by first | omega | assumption | (simp; omega) | (simp; done)) (by first | omega | assumption | (simp; omega) | (simp; done))) rfl <| qc rfl rfl rfl hCw (fun W hW => Val.loadE agg62 rfl (hc230.up hW) rfl) rfl <| qd rfl rfl rfl (fun _ => Val.stne flat62 rfl rfl rfl (by simp [sameKinds])) rfl ?_
    rw [heq]
    refine WD.nil ?_
    clear hc190 hc230
    clear hCw
    refine WC.cond rfl (fun hc6 => ?_) (fun hc6 => ?_)
    ·try simp only [tstS] at hc6
     replace hc6 : a[k] ≠ b[k] := by simpa using hc6
     refine cseq <| cregion <| qq (Val.assign rfl) rfl <| cnil ?_
     refine WC.ret1 rfl rfl ?_
     exact ⟨hK, by simp [take_ne ka kb hc6]⟩
    ·try simp only [tstS] at hc6
     replace hc6 : a[k] = b[k] := by simpa using hc6
     refine cskip <| cregion <| qq (Val.move rfl) rfl <| qq (Val.addI rfl rfl (by first | omega | assumption | (simp; omega) | (simp; done)) (by first | omega | assumption | (simp; omega) | (simp; done))) rfl <| qq (Val.assign rfl) rfl <| cnil ?_
     exact ⟨k + 1, (by repeat (first | exact Sub.nil _ | refine Sub.cons rfl ?_ | refine Sub.consM rfl ?_)), ⟨h1, h2, hK, ka, take_step ka kb he hc6⟩, by omega⟩
   ·try simp only [tstS] at hc4
    refine WC.exit rfl ?_
    refine cseq <| cregion <| qq (Val.assign rfl) rfl <| cnil ?_
    refine WC.ret1 rfl rfl ?_
    exact ⟨hK, by simp [take_all he (by omega) (by omega)]⟩

theorem thgsWeight_ok {w : World} {v : Value} {l : List Thg} (h1 : Rd thgS w v l) :
    Calls Try.prog 79 #[v] w (Ret fun v' w' => Below w.heap.size w w' ∧ v' = I (thgsW l : Nat)) := by
  have hK : Old w w := Old.refl w
  have hsm := h1.small
  refine enter (n := 33) (res := #[.tmp 2]) Try.func79 rfl rfl rfl rfl ?_
  refine cseq <| cregion <| qq (Val.assign rfl) rfl <| cnil <| cseq <| cregion <| qq (Val.move rfl) rfl ?_
  first | refine WR.val (Val.rdlen sl52 (by assumption) rfl) rfl ?_ | refine WR.val (Val.sllen Try.underlying52 rfl) rfl ?_
  refine qq (Val.assign rfl) rfl <| cnil <| cseq <| cseq <| cregion <| qq (Val.assign rfl) rfl <| cnil <| cblock ?_
  refine WC.loop (σ := Nat) (fun k => [(0, v), (3, I ((l.length + ((l.take k).map thgW).sum : Nat) : Int)), (4, I k)]) (fun k w' => Rd thgS w' v l ∧ Old w w' ∧ k ≤ l.length ∧ l.length + ((l.take k).map thgW).sum ≤ 9000000000000000000 ∧ thgsW l = stopSum (l.length + ((l.take k).map thgW).sum) ((l.drop k).map thgW)) (fun k => l.length - k) 0 (by simp only [List.take_zero, List.map_nil, List.sum_nil, Nat.add_zero]; repeat (first | exact Sub.nil _ | refine Sub.cons rfl ?_ | refine Sub.consM rfl ?_)) ⟨h1, hK, by omega, by simp; omega, by simp [thgsW]⟩ ?_
  rintro k wl ⟨h1, hK, hk, hn, hst⟩
  refine cseq <| cseq <| cregion <| qq (Val.move rfl) rfl <| qq (Val.move rfl) rfl ?_
  first | refine WR.val (Val.rdlen sl52 (by assumption) rfl) rfl ?_ | refine WR.val (Val.sllen Try.underlying52 rfl) rfl ?_
  refine qq (Val.lss rfl rfl) rfl <| qq (Val.move rfl) rfl ?_
  apply WR.sc true 2 _ (fun w' => wl = w')
  case hl => rfl
  case hg => rfl
  case hu => rfl
  case hv => rfl
  case hs => rfl
  case hoff => rfl
  case hd => rfl
  case hF => exact fun _ => rfl
  case hT =>
   intro hq7
   try simp only [tstS] at hq7
   simp only [List.take_succ_cons, List.take_zero]
   refine WR.on rfl rfl ?_
   refine qq (Val.move rfl) rfl ?_
   refine WR.on rfl rfl ?_
   refine qq (Val.lss rfl rfl) rfl ?_
   exact WR.nil ⟨rfl, Sub.drop _ 2 _ rfl rfl, rfl⟩
  rintro _ rfl
  refine cnil ?_
  refine WC.cond rfl (fun hc3 => ?_) (fun hc3 => ?_)
  ·try simp only [tstS] at hc3
   obtain ⟨hc3, hc3'⟩ := hc3
   have ka : k < l.length := by omega
   obtain ⟨cs1, hc20, rfl, ok1⟩ := h1.el ka
   have hc27 := hc20
   have e : thgW l[k] = l[k].digest.length + l[k].text.length := rfl
   obtain ⟨ok1, ok2⟩ := ok1
   refine cskip <| cseq <| cblock ?_
   refine WC.regionD (Below wl.heap.size wl) [0, 0, 0, 0, 0, 1, 0, 0, 0, 0, 0, 0, 1, 0, 0, 0] [0, 1, 2, 3, 4, 5, 6, 7, 8, 9, 10, 11, 12, 13, 14, 15] mixed (by kernel_rfl) ?_
   have hk1 : Below wl.heap.size wl wl.drew := (Below.refl _ _).drew
   have hCw : Below wl.heap.size wl wl.drew := (Below.refl _ _).drew
   generalize wl.drew = w1 at hk1 hCw ⊢
   have hc200 := hc20
   have hc270 := hc27
   replace h1 := h1.up hk1; replace hK := hK.up hk1; replace hc20 := hc20.up hk1; replace hc27 := hc27.up hk1
   refine qd rfl rfl rfl (fun _ => Val.move rfl) rfl <| qd rfl rfl rfl (fun _ => Val.move rfl) rfl <| qd rfl rfl rfl (fun _ => Val.move rfl) rfl <| qd rfl rfl rfl (fun _ => Val.indexAddr sl52 (by assumption) rfl rfl rfl (by first | omega | assumption | (simp; omega) | (simp; done)) (by first | omega | assumption | (simp; omega) | (simp; done))) rfl ?_
   first | refine WD.val rfl rfl rfl (fun _ => Val.fieldAddr fld62_0 rfl) rfl ?_ | refine WD.val rfl rfl rfl (fun _ => Val.fieldAddrP fld62_0 rfl) rfl ?_
   refine qc rfl rfl rfl hCw (fun W hW => Val.loadEf scl9 rfl (hc200.up hW) rfl) rfl <| qd rfl rfl rfl (fun _ => Val.slen Try.underlying9 rfl) rfl <| qd rfl rfl rfl (fun _ => Val.addI rfl rfl (by first | omega | assumption | (simp; omega) | (simp; done)) (by first | omega | assumption | (simp; omega) | (simp; done))) rfl <| qd rfl rfl rfl (fun _ => Val.move rfl) rfl <| qd rfl rfl rfl (fun _ => Val.move rfl) rfl <| qd rfl rfl rfl (fun _ => Val.indexAddr sl52 (by assumption) rfl rfl rfl (by first | omega | assumption | (simp; omega) | (simp; done)) (by first | omega | assumption | (simp; omega) | (simp; done))) rfl ?_
   first | refine WD.val rfl rfl rfl (fun _ => Val.fieldAddr fld62_1 rfl) rfl ?_ | refine WD.val rfl rfl rfl (fun _ => Val.fieldAddrP fld62_1 rfl) rfl ?_
   refine qc rfl rfl rfl hCw (fun W hW => Val.loadEf scl9 rfl (hc270.up hW) rfl) rfl <| qd rfl rfl rfl (fun _ => Val.slen Try.underlying9 rfl) rfl <| qd rfl rfl rfl (fun _ => Val.addI rfl rfl (by first | omega | assumption | (simp; omega) | (simp; done)) (by first | omega | assumption | (simp; omega) | (simp; done))) rfl <| qd rfl rfl rfl (fun _ => Val.assign rfl) rfl ?_
   refine WD.nil ?_
   clear hc200 hc270
   clear hCw
   refine cregion <| qq (Val.move rfl) rfl <| qq (Val.addI rfl rfl (by first | omega | assumption | (simp; omega) | (simp; done)) (by first | omega | assumption | (simp; omega) | (simp; done))) rfl <| qq (Val.assign rfl) rfl <| cnil ?_
   refine ⟨k + 1, ?_, ⟨h1, hK, ka, ?_, by rw [hst, stopSum_step _ ka (by omega), sum_take_succ _ ka, Nat.add_assoc]⟩, by omega⟩
   · rw [sum_take_succ _ ka, e, show ((l.length + (((l.take k).map thgW).sum + (l[k].digest.length + l[k].text.length)) : Nat) : Int) = ((l.length + ((l.take k).map thgW).sum : Nat) : Int) + (l[k].digest.length : Int) + (l[k].text.length : Int) by omega]; repeat (first | exact Sub.nil _ | refine Sub.cons rfl ?_ | refine Sub.consM rfl ?_)
   · rw [sum_take_succ _ ka]; omega
  ·try simp only [tstS] at hc3
   refine WC.exit rfl ?_
   refine cseq <| cregion <| qq (Val.move rfl) rfl <| qq (Val.assign rfl) rfl <| cnil ?_
   refine WC.ret1 rfl rfl ?_
   refine ⟨hK, ?_⟩
   rw [Bool.and_eq_false_iff] at hc3
   simp only [decide_eq_false_iff_not] at hc3
   rcases Nat.lt_or_ge k l.length with h | h
   · rw [hst, stopSum_ge (by omega)]
   · rw [hst, List.drop_of_length_le h]; rfl
end Go.Proofs.Ytnddlhjafkhdoaa
