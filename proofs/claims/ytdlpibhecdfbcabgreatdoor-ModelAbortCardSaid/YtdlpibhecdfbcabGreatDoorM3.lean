/- The model: its program, its page, and the laws on them: part 3. No condition. -/
import Derived.Sort.OwnSorted
import Derived.Test.YtdlpibhecdfbcabGreatDoorM2
set_option linter.unusedSimpArgs false
set_option linter.unusedVariables false
set_option maxRecDepth 100000
namespace Silo
open Go Go.Eng
theorem thgAt_eq {T : List Thg} {k : Nat} (ka : k < T.length) (hp : ((k : Int) - 1).toNat < T.length) : thgAt T k = (decide ((T[k].digest.length : Int) = 32) && decide ((T[k].text.length : Int) ≤ 2000) && !(decide (0 < (k : Int)) && !Op.bytesLess T[((k : Int) - 1).toNat].digest T[k].digest) && (!T[k].manifest || (manTake T[k].text).isSome)) := by
  have e : ((k : Int) - 1).toNat = k - 1 := by omega
  simp only [thgAt, List.getElem?_eq_getElem ka, List.getElem?_eq_getElem (show k - 1 < T.length by omega), e, Option.map_some, Option.getD_some]
  have h1 : decide (k = 0) = !decide (0 < (k : Int)) := by rw [Bool.eq_iff_iff]; simp
  have h2 : decide (T[k].digest.length = 32) = decide ((T[k].digest.length : Int) = 32) := by rw [Bool.eq_iff_iff]; simp; omega
  have h3 : decide (T[k].text.length ≤ 2000) = decide ((T[k].text.length : Int) ≤ 2000) := by rw [Bool.eq_iff_iff]; simp; omega
  rw [h1, h2, h3]
  cases decide (0 < (k : Int)) <;> simp
theorem thgsMay_no {T : List Thg} {k : Nat} (ka : k < T.length) (h : thgAt T k = false) : thgsMay T = false := by
  cases hc : thgsMay T with
  | false => rfl
  | true => rw [(thgsMay_iff.1 hc).2 k ka] at h; cases h
theorem thgsMay_yes {T : List Thg} {k : Nat} (hk : T.length ≤ k) (hl : T.length ≤ 60) (h : ∀ i, i < k → thgAt T i = true) : thgsMay T = true := thgsMay_iff.2 ⟨hl, fun i hi => h i (by omega)⟩
theorem thgsMay_long {T : List Thg} (hl : 60 < T.length) : thgsMay T = false := by
  cases hc : thgsMay T with
  | false => rfl
  | true => have := (thgsMay_iff.1 hc).1; omega
def thgW (t : Thg) : Nat := t.digest.length + t.text.length
def thgsW (T : List Thg) : Nat := stopSum T.length (T.map thgW)
theorem findT_take {T : List Thg} {d : List UInt8} {k : Nat} (hk : k < T.length) (h : ∀ i (hi : i < T.length), i < k → T[i].digest ≠ d) (he : T[k].digest = d) : findT T d = some k := by
  unfold findT
  rw [List.findIdx?_eq_some_iff_getElem]
  exact ⟨hk, by simpa using he, fun j hj => by simpa using h j (by omega) hj⟩
theorem findT_nil {T : List Thg} {d : List UInt8} (h : ∀ i (hi : i < T.length), i < T.length → T[i].digest ≠ d) : findT T d = none := by
  unfold findT
  rw [List.findIdx?_eq_none_iff]
  intro x hx
  obtain ⟨i, hi, rfl⟩ := List.mem_iff_getElem.1 hx
  simpa using h i hi hi
def atT (T : List Thg) (d : List UInt8) : Int := match findT T d with | some i => (i : Int) | none => -1
theorem thg_eq (a b : Thg) : cellsEq (encThg a) (encThg b) = decide (a = b) := by
  obtain ⟨a1, a2, a3⟩ := a
  obtain ⟨b1, b2, b3⟩ := b
  rw [Bool.eq_iff_iff]
  simp [cellsEq, cellEq, encThg, and_assoc]
end Silo
namespace Go.Eng
open Silo
end Go.Eng
namespace Go.Proofs.YtdlpibhecdfbcabGreatDoor
open Go Go.Eng Go.RowKit Silo TryzT
set_option maxHeartbeats 1000000 in
theorem pthings_ok {w : World} {v : Value} {T : List Thg} (h0 : Rd thgS w v T) : Calls Tryz.prog 36 #[v] w (Ret fun v' w' => Below w.heap.size w w' ∧ v' = .bool (thgsMay T)) := by
 obtain ⟨c, hO, hc⟩ := OldC.start w
 have hsm := h0.small
 have h1 : RdC thgS c w [0] v T := Rd.toC h0 (fun k hk => by simp [hc, hasC])
 clear hc h0
 refine enter (n := 71) (res := #[.tmp 2]) Tryz.func36 rfl rfl rfl rfl <| cseq <| cg <| za rfl <| cnil <| cseq <| cseq <| cg <| za rfl <| cnil <| cblock <| WC.loop (σ := Nat) (fun k => [(0, v), (3, I k)]) (fun k w' => ∃ c', OldC w c' w' ∧ RdC thgS c' w' [0] v T ∧ k ≤ T.length ∧ k ≤ 61 ∧ ∀ i, i < k → thgAt T i = true) (fun k => T.length - k) 0 subs ⟨_, hO, h1, by omega, by omega, fun i hi => absurd hi (Nat.not_lt_zero _)⟩ ?_
 clear hO h1
 rintro k wl ⟨cl, hO, h1, hk, hk6, hd⟩
 refine cseq <| cseq <| cg <| zm rfl <| zm rfl ?_
 first | refine vq (Val.rdlen sl22 (by assumption) rfl) ?_ | refine vq (Val.sllen Tryz.underlying22 rfl) ?_ | refine vq (Val.olen sl22 (by assumption) rfl) ?_ | refine vq (Val.rdlenC sl22 (by assumption) rfl) ?_
 refine vq (Val.lss rfl rfl) <| zm rfl ?_
 apply WR.sc true 2 _ (fun w' => wl = w')
 case hl | hg | hu | hv | hs | hoff | hd => rfl
 case hF => exact fun _ => rfl
 case hT =>
  intro hq7
  try simp only [tstS] at hq7
  simp only [List.take_succ_cons, List.take_zero]
  refine WR.on rfl rfl <| zm rfl <| WR.on rfl rfl <| vq (Val.leq rfl rfl) ?_
  exact WR.nil ⟨rfl, Sub.drop _ 2 _ rfl rfl, rfl⟩
 rintro _ rfl
 refine cnil <| WC.cond rfl (fun hc2 => ?_) (fun hc2 => ?_)
 ·try simp only [tstS] at hc2
  obtain ⟨hc2, hc2'⟩ := hc2
  have ka : k < T.length := by omega
  obtain ⟨hc18, ok1⟩ := RdC.elFlat h1 ka (by decide)
  have hpr : ((k : Int) - 1).toNat < T.length := by omega
  obtain ⟨hc39, _⟩ := RdC.elFlat h1 hpr (by decide)
  have hc26 := hc18; have hc44 := hc18
  have hat := thgAt_eq ka hpr
  refine cskip <| cseq <| cblock <| cseq <| cseq <| WC.regionD (Kp cl wl []) [0, 0, 0, 0, 1, 0, 0, 0, 0, 0, 0, 0, 1, 0, 0, 0, 0, 0, 0, 0, 0, 0, 0, 0, 0, 1, 0, 0, 0, 0, 1, 0, 0, 0] [0, 1, 2, 3, 4, 5, 6, 7, 8, 9, 10, 11, 12, 13, 14, 15, 16, 17, 18, 19, 20, 21, 22, 23, 24, 25, 26, 27, 28, 29, 30, 31, 32, 33] mixed (by kernel_rfl) ?_
  have m := Mv.drew cl wl []
  have hCw := Mv.drew cl wl []
  generalize wl.drew = w1 at m hCw ⊢
  have hc180 := hc18
  have hc390 := hc39
  have hc260 := hc26
  have hc440 := hc44
  replace hO := hO.mv m; replace h1 := h1.mv m; replace hc18 := hc18.mv m
  refine zdm rfl rfl <| zdm rfl rfl ?_
  first | refine vd rfl (fun _ => Val.indexAddr sl22 (by assumption) rfl rfl rfl side side) ?_ | refine vd rfl (fun _ => Val.indexC sl22 (by assumption) rfl rfl side side) ?_ | refine vd rfl (fun _ => Val.indexO sl22 (by assumption) rfl rfl side side) ?_
  refine vd rfl (fun _ => Val.fieldAddrP fld60_0 rfl) <| vc rfl hCw.kp (fun W hW => Val.loadEf scl9 rfl (hc180.kp hW rfl).cel rfl) <| vd rfl (fun _ => Val.slen Tryz.underlying9 rfl) <| vd rfl (fun _ => Val.neq rfl rfl) <| zdm rfl rfl ?_
  apply WD.sc false 7 _ (fun w' => w1 = w')
  case hl | hi | hk | hg | hu | hv | hs | hoff | hd => rfl
  case hC => exact hCw.kp
  case hF => exact fun _ => rfl
  case hT =>
   intro hq15
   try simp only [tstS] at hq15
   simp only [List.take_succ_cons, List.take_zero]
   refine zdm rfl rfl <| zdm rfl rfl ?_
   first | refine vd rfl (fun _ => Val.indexAddr sl22 (by assumption) rfl rfl rfl side side) ?_ | refine vd rfl (fun _ => Val.indexC sl22 (by assumption) rfl rfl side side) ?_ | refine vd rfl (fun _ => Val.indexO sl22 (by assumption) rfl rfl side side) ?_
   refine vd rfl (fun _ => Val.fieldAddrP fld60_1 rfl) <| vc rfl hCw.kp (fun W hW => Val.loadEf scl9 rfl (hc260.kp hW rfl).cel rfl) <| vd rfl (fun _ => Val.slen Tryz.underlying9 rfl) <| vd rfl (fun _ => Val.gtr rfl rfl) ?_
   exact WD.nil ⟨rfl, Sub.drop _ 7 _ rfl rfl, rfl⟩
  rintro _ rfl
  refine zdm rfl rfl ?_
  apply WD.sc false 16 _ (fun w' => w1 = w')
  case hl | hi | hk | hg | hu | hv | hs | hoff | hd => rfl
  case hC => exact hCw.kp
  case hF => exact fun _ => rfl
  case hT =>
   intro hq33
   try simp only [tstS] at hq33
   simp only [List.take_succ_cons, List.take_zero]
   refine zdm rfl rfl <| vd rfl (fun _ => Val.gtr rfl rfl) <| zdm rfl rfl ?_
   apply WD.sc true 12 _ (fun w' => w1 = w')
   case hl | hi | hk | hg | hu | hv | hs | hoff | hd => rfl
   case hC => exact hCw.kp
   case hF => exact fun _ => rfl
   case hT =>
    intro hq32
    try simp only [tstS] at hq32
    simp only [List.take_succ_cons, List.take_zero]
    refine zdm rfl rfl <| zdm rfl rfl <| vd rfl (fun _ => Val.subI rfl rfl side side) ?_
    first | refine vd rfl (fun _ => Val.indexAddr sl22 (by assumption) rfl rfl rfl side side) ?_ | refine vd rfl (fun _ => Val.indexC sl22 (by assumption) rfl rfl side side) ?_ | refine vd rfl (fun _ => Val.indexO sl22 (by assumption) rfl rfl side side) ?_
    refine vd rfl (fun _ => Val.fieldAddrP fld60_0 rfl) <| vc rfl hCw.kp (fun W hW => Val.loadEf scl9 rfl (hc390.kp hW rfl).cel rfl) <| zdm rfl rfl <| zdm rfl rfl ?_
    first | refine vd rfl (fun _ => Val.indexAddr sl22 (by assumption) rfl rfl rfl side side) ?_ | refine vd rfl (fun _ => Val.indexC sl22 (by assumption) rfl rfl side side) ?_ | refine vd rfl (fun _ => Val.indexO sl22 (by assumption) rfl rfl side side) ?_
    refine vd rfl (fun _ => Val.fieldAddrP fld60_0 rfl) <| vc rfl hCw.kp (fun W hW => Val.loadEf scl9 rfl (hc440.kp hW rfl).cel rfl) <| vd rfl (fun _ => Val.sgeq rfl rfl) ?_
    exact WD.nil ⟨rfl, Sub.drop _ 12 _ rfl rfl, rfl⟩
   rintro _ rfl
   exact WD.nil ⟨rfl, Sub.drop _ 4 _ rfl rfl, rfl⟩
  rintro _ rfl
  refine WD.nil ?_
  clear hc180 hc390 hc260 hc440
  clear hCw
  refine WC.cond rfl (fun hc4 => ?_) (fun hc4 => ?_)
  ·try simp only [tstS] at hc4
   have hno : thgAt T k = false := by
     rw [hat]
     rcases hc4 with (h | h) | ⟨h, h'⟩
     · rw [decide_eq_false h]; rfl
     · rw [decide_eq_false (show ¬ (T[k].text.length : Int) ≤ 2000 by omega)]; simp
     rw [decide_eq_true h, h']; simp
   refine cseq <| cg <| za rfl <| cnil <| WC.ret1 rfl rfl ?_
   exact ⟨hO.below, by rw [thgsMay_no ka hno]⟩
  try simp only [tstS] at hc4
  obtain ⟨⟨hc4a, hc4b⟩, hc4c⟩ := hc4
  have hc53 := hc18; have hc61 := hc18
  refine cskip <| cseq <| cg <| zm rfl <| zm rfl ?_
  first | refine vq (Val.indexAddr sl22 (by assumption) rfl rfl rfl side side) ?_ | refine vq (Val.indexC sl22 (by assumption) rfl rfl side side) ?_ | refine vq (Val.indexO sl22 (by assumption) rfl rfl side side) ?_
  refine vq (Val.fieldAddrP fld60_1 rfl) <| vq (Val.loadEf scl9 rfl hc53.cel rfl) <| ve (Eff.pureC cl 1 (Eff.call pf55 rfl (pmtake_ok T[k].text (by omega)))) ?_
  rintro v56 w2 ⟨c2, m, hx2, ⟨cs, rfl, hm⟩⟩
  replace hO := hO.mv m; replace h1 := h1.mv m; replace hc61 := hc61.mv m
  obtain ⟨mv, ms, rfl, mr1, mr2, mq⟩ := hm
  have o1 := mr1.oneC; have o2 := mr2.oneC
  clear mr1 mr2 mq
  refine zm rfl <| vq (Val.extract rfl rfl) <| vq (Val.extract rfl rfl) <| ve (Eff.allocC c2 104 zero85) ?_
  rintro _ w3 ⟨b4, c3, rfl, m, hb4⟩
  replace hO := hO.mv m; replace h1 := h1.mv m; replace hc61 := hc61.mv m
  refine WR.eff_ (Eff.storeNC agg85 rfl rfl hb4 rfl rfl ones) ?_
  rintro _ w4 ⟨hS, m⟩
  replace hO := hO.mv m; replace h1 := h1.mv m; replace hc61 := hc61.mv m
  replace hb4 := hS
  refine za rfl <| cnil <| cseq <| cg <| zm rfl <| zm rfl ?_
  first | refine vq (Val.indexAddr sl22 (by assumption) rfl rfl rfl side side) ?_ | refine vq (Val.indexC sl22 (by assumption) rfl rfl side side) ?_ | refine vq (Val.indexO sl22 (by assumption) rfl rfl side side) ?_
  refine vq (Val.fieldAddrP fld60_2 rfl) <| vq (Val.loadEf scl4 rfl hc61.cel rfl) <| zm rfl ?_
  apply WR.sc true 2 _ (fun w' => w4 = w')
  case hl | hg | hu | hv | hs | hoff | hd => rfl
  case hF => exact fun _ => rfl
  case hT =>
   intro hq8
   try simp only [tstS] at hq8
   simp only [List.take_succ_cons, List.take_zero]
   refine WR.on rfl rfl <| zm rfl <| WR.on rfl rfl <| vq (Val.not rfl) ?_
   exact WR.nil ⟨rfl, Sub.drop _ 2 _ rfl rfl, rfl⟩
  rintro _ rfl
  refine cnil <| WC.cond rfl (fun hc7 => ?_) (fun hc7 => ?_)
  ·try simp only [tstS] at hc7
   have hno : thgAt T k = false := by
     rw [hat, hc7.1, hc7.2]; simp
   refine cseq <| cg <| za rfl <| cnil <| WC.ret1 rfl rfl ?_
   exact ⟨hO.below, by rw [thgsMay_no ka hno]⟩
  try simp only [tstS] at hc7
  have hye : thgAt T k = true := by
    rw [hat, decide_eq_true hc4a, decide_eq_true (show (T[k].text.length : Int) ≤ 2000 by omega), hc4c]
    cases hm : T[k].manifest with
    | false => rfl
    | true => rw [hm] at hc7; simp at hc7; simp [hc7]
  refine cskip <| cg <| zm rfl <| vq (Val.addI rfl rfl side side) <| za rfl <| cnil ?_
  exact ⟨k + 1, subs, ⟨_, hO, h1, ka, by omega, below_succ hd hye⟩, by omega⟩
 try simp only [tstS] at hc2
 have hkk : T.length ≤ k ∨ 60 < k := by
   rw [Bool.and_eq_false_iff] at hc2
   simp only [decide_eq_false_iff_not] at hc2
   omega
 refine WC.exit rfl <| cseq <| cg <| zm rfl ?_
 first | refine vq (Val.rdlen sl22 (by assumption) rfl) ?_ | refine vq (Val.sllen Tryz.underlying22 rfl) ?_ | refine vq (Val.olen sl22 (by assumption) rfl) ?_ | refine vq (Val.rdlenC sl22 (by assumption) rfl) ?_
 refine vq (Val.leq rfl rfl) <| za rfl <| cnil <| WC.ret1 rfl rfl <| ⟨hO.below, ?_⟩
 rcases hkk with h | h
 · by_cases h6 : T.length ≤ 60
   · rw [decide_eq_true (show (T.length : Int) ≤ 60 by omega), thgsMay_yes h h6 hd]
   rw [decide_eq_false (show ¬ (T.length : Int) ≤ 60 by omega), thgsMay_long (by omega)]
 rw [decide_eq_false (show ¬ (T.length : Int) ≤ 60 by omega), thgsMay_long (by omega)]
theorem at_ok {w : World} {v : Value} {T : List Thg} {d : List UInt8} (h1 : Rd thgS w v T) : Calls Tryz.prog 40 #[v, St d] w (Ret fun v' w' => Below w.heap.size w w' ∧ v' = I (atT T d)) := by
 have hK : Old w w := Old.refl w
 have hsm := h1.small
 refine enter (n := 20) (res := #[.tmp 4]) Tryz.func40 rfl rfl rfl rfl <| cseq <| cg <| za rfl <| cnil <| cseq <| cseq <| cg <| za rfl <| cnil <| cblock <| WC.loop (σ := Nat) (fun k => [(0, v), (1, St d), (5, I k)]) (fun k w' => Rd thgS w' v T ∧ Old w w' ∧ k ≤ T.length ∧ ∀ i (hi : i < T.length), i < k → T[i].digest ≠ d) (fun k => T.length - k) 0 subs ⟨h1, hK, by omega, fun i hi h => absurd h (Nat.not_lt_zero _)⟩ ?_
 rintro k wl ⟨h1, hK, hk, hd⟩
 refine cseq <| cseq <| cg <| zm rfl <| zm rfl ?_
 first | refine vq (Val.rdlen sl22 (by assumption) rfl) ?_ | refine vq (Val.sllen Tryz.underlying22 rfl) ?_
 refine vq (Val.lss rfl rfl) <| cnil <| WC.cond rfl (fun hc2 => ?_) (fun hc2 => ?_)
 ·try simp only [tstS] at hc2
  have ka : k < T.length := by omega
  obtain ⟨cs1, hc14, rfl, ok1⟩ := h1.el ka
  refine cskip <| cseq <| cblock <| cseq <| cg <| zm rfl <| zm rfl <| vq (Val.indexAddr sl22 (by assumption) rfl rfl rfl side side) <| vq (Val.fieldAddrP fld60_0 rfl) ?_
  refine vq (Val.loadEf scl9 rfl hc14 rfl) <| zm rfl <| vq (Val.seq_ rfl rfl) <| cnil <| WC.cond rfl (fun hc4 => ?_) (fun hc4 => ?_)
  ·try simp only [tstS] at hc4
   have he : T[k].digest = d := by simpa using hc4
   have hf := findT_take ka hd he
   refine cseq <| cg <| zm rfl <| za rfl <| cnil <| WC.ret1 rfl rfl ?_
   exact ⟨hK, by rw [atT, hf]⟩
  try simp only [tstS] at hc4
  have he : T[k].digest ≠ d := by simpa using hc4
  refine cskip <| cg <| zm rfl <| vq (Val.addI rfl rfl side side) <| za rfl <| cnil ?_
  exact ⟨k + 1, subs, ⟨h1, hK, ka, fun i hi h => by
    rcases Nat.lt_or_ge i k with h2 | h2
    · exact hd i hi h2
    have : i = k := by omega
    subst this; exact he⟩, by omega⟩
 try simp only [tstS] at hc2
 have : k = T.length := by omega
 subst this
 refine WC.exit rfl <| cseq <| cg <| za rfl <| cnil <| WC.ret1 rfl rfl ?_
 exact ⟨hK, by rw [atT, findT_nil hd]⟩
theorem zhas_ok {w : World} {v : Value} {l : List (List UInt8)} {d : List UInt8} (h1 : Rd strS w v l) : Calls Tryz.prog 69 #[v, St d] w (Ret fun v' w' => Below w.heap.size w w' ∧ v' = .bool (l.contains d)) := by
 have hK : Old w w := Old.refl w
 have hsm := h1.small
 refine enter (n := 18) (res := #[.tmp 4]) Tryz.func69 rfl rfl rfl rfl <| cseq <| cg <| za rfl <| cnil <| cseq <| cseq <| cg <| za rfl <| cnil <| cblock <| WC.loop (σ := Nat) (fun k => [(0, v), (1, St d), (5, I k)]) (fun k w' => Rd strS w' v l ∧ Old w w' ∧ k ≤ l.length ∧ ∀ i (hi : i < l.length), i < k → l[i] ≠ d) (fun k => l.length - k) 0 subs ⟨h1, hK, by omega, fun i hi h => absurd h (Nat.not_lt_zero _)⟩ ?_
 rintro k wl ⟨h1, hK, hk, hd⟩
 refine cseq <| cseq <| cg <| zm rfl <| zm rfl ?_
 first | refine vq (Val.rdlen sl70 (by assumption) rfl) ?_ | refine vq (Val.sllen Tryz.underlying70 rfl) ?_
 refine vq (Val.lss rfl rfl) <| cnil <| WC.cond rfl (fun hc2 => ?_) (fun hc2 => ?_)
 ·try simp only [tstS] at hc2
  have ka : k < l.length := by omega
  obtain ⟨cs1, hc14, rfl, ok1⟩ := h1.el ka
  refine cskip <| cseq <| cblock <| cseq <| cg <| zm rfl <| zm rfl <| vq (Val.indexAddr sl70 (by assumption) rfl rfl rfl side side) <| vq (Val.loadE1 scl9 rfl hc14) ?_
  refine zm rfl <| vq (Val.seq_ rfl rfl) <| cnil <| WC.cond rfl (fun hc4 => ?_) (fun hc4 => ?_)
  ·try simp only [tstS] at hc4
   have he : l[k] = d := by simpa using hc4
   have hm : l.contains d = true := by rw [List.contains_iff_mem, ← he]; exact List.getElem_mem ka
   refine cseq <| cg <| za rfl <| cnil <| WC.ret1 rfl rfl ?_
   exact ⟨hK, by rw [hm]⟩
  try simp only [tstS] at hc4
  have he : l[k] ≠ d := by simpa using hc4
  refine cskip <| cg <| zm rfl <| vq (Val.addI rfl rfl side side) <| za rfl <| cnil ?_
  exact ⟨k + 1, subs, ⟨h1, hK, ka, fun i hi h => by
    rcases Nat.lt_or_ge i k with h2 | h2
    · exact hd i hi h2
    have : i = k := by omega
    subst this; exact he⟩, by omega⟩
 try simp only [tstS] at hc2
 have hm : l.contains d = false := by
   cases hb : l.contains d with
   | false => rfl
   | true =>
     rw [List.contains_iff_mem] at hb
     obtain ⟨i, hi, e⟩ := List.mem_iff_getElem.1 hb
     exact absurd e (hd i hi (by omega))
 refine WC.exit rfl <| cseq <| cg <| za rfl <| cnil <| WC.ret1 rfl rfl ?_
 exact ⟨hK, by rw [hm]⟩
theorem copyThings_ok {w : World} {v : Value} {l : List Thg} (h0 : Rd thgS w v l) (hl : l.length ≤ 1048576) :
   Calls Tryz.prog 24 #[v] w (Ret fun v' w' => Below w.heap.size w w' ∧ Own w' w.heap.size 60 3 v' l.length (l.flatMap encThg)) := by
 obtain ⟨c, hO, hc⟩ := OldC.start w
 have h1 : RdC thgS c w [0] v l := Rd.toC h0 (fun k hk => by simp [hc, hasC])
 clear hc h0
 refine enter (n := 19) (res := #[.tmp 2]) Tryz.func24 rfl rfl rfl rfl <| cseq <| cg <| za rfl <| cnil <| cseq <| cg <| za rfl <| cnil <| cseq <| cseq <| cg <| za rfl <| cnil <| cblock <| WC.loop (σ := Nat × Value) (fun st => [(0, v), (3, st.2), (4, I st.1)]) (fun st w' => ∃ c', OldC w c' w' ∧ RdC thgS c' w' [0] v l ∧ OwnC c' w' 3 60 3 st.2 st.1 ((l.take st.1).flatMap encThg) ∧ st.1 ≤ l.length) (fun st => l.length - st.1) (0, .slice none 0 0) subs ⟨_, hO, h1, OwnC.nil _ _ _ _ _, by simp⟩ ?_
 clear hO h1
 rintro ⟨k, vm⟩ wl ⟨cl, hO, h1, ho, hk⟩
 dsimp only at hO h1 ho hk ⊢
 refine cseq <| cseq <| cg <| zm rfl <| zm rfl ?_
 first | refine vq (Val.rdlen sl22 (by assumption) rfl) ?_ | refine vq (Val.sllen Tryz.underlying22 rfl) ?_ | refine vq (Val.olen sl22 (by assumption) rfl) ?_ | refine vq (Val.rdlenC sl22 (by assumption) rfl) ?_
 refine vq (Val.lss rfl rfl) <| cnil <| WC.cond rfl (fun hc3 => ?_) (fun hc3 => ?_)
 ·try simp only [tstS] at hc3
  have ka : k < l.length := by omega
  obtain ⟨hc14, ok1⟩ := RdC.elFlat h1 ka (by decide)
  refine cskip <| cseq <| cblock <| cg <| zm rfl <| zm rfl <| zm rfl ?_
  first | refine vq (Val.indexAddr sl22 (by assumption) rfl rfl rfl side side) ?_ | refine vq (Val.indexC sl22 (by assumption) rfl rfl side side) ?_ | refine vq (Val.indexO sl22 (by assumption) rfl rfl side side) ?_
  refine vq (Val.loadE agg60 rfl hc14.cel rfl) <| ve (Eff.build1C cl 116 sl22 rfl rfl rfl rfl rfl) ?_
  rintro _ w1 ⟨b16, c1, rfl, m, hb16⟩
  replace hO := hO.mv m; replace h1 := h1.mv m; replace ho := ho.mv m
  refine ve (Eff.appendC sl22 rfl rfl ho (Src.cellsAt Tryz.underlying22 hb16.blk.cellsAt rfl ones) mxl oms) ?_
  rintro v17 w2 ⟨c2, m, hOq⟩
  clear hb16
  replace hO := hO.mv m; replace h1 := h1.mv m
  replace ho := hOq
  refine za rfl <| cnil <| cg <| zm rfl <| vq (Val.addI rfl rfl side side) <| za rfl <| cnil ?_
  exact ⟨(k + 1, v17), subs, ⟨_, hO, h1, by rw [take_succ_flatMap _ ka]; exact ho, ka⟩, by dsimp only; omega⟩
 try simp only [tstS] at hc3
 have : k = l.length := by omega
 subst this
 rw [List.take_length] at ho
 refine WC.exit rfl <| cseq <| cg <| zm rfl <| za rfl <| cnil <| WC.ret1 rfl rfl ?_
 exact ⟨hO.below, ho.fromOld hO (by decide)⟩
theorem eqThings_ok {w : World} {v1 v2 : Value} {a b : List Thg} (h1 : Rd thgS w v1 a) (h2 : Rd thgS w v2 b) :
   Calls Tryz.prog 41 #[v1, v2] w (Ret fun v w' => Below w.heap.size w w' ∧ v = .bool (decide (a = b))) := by
 have hK : Old w w := Old.refl w
 have la := h1.lenN
 refine enter (n := 26) (res := #[.tmp 4]) Tryz.func41 rfl rfl rfl rfl <| cseq <| cg <| za rfl <| cnil <| cseq <| cseq <| cg <| zm rfl ?_
 first | refine vq (Val.rdlen sl22 (by assumption) rfl) ?_ | refine vq (Val.sllen Tryz.underlying22 rfl) ?_
 refine zm rfl ?_
 first | refine vq (Val.rdlen sl22 (by assumption) rfl) ?_ | refine vq (Val.sllen Tryz.underlying22 rfl) ?_
 refine vq (Val.neq rfl rfl) <| cnil <| WC.cond rfl (fun hc1 => ?_) (fun hc1 => ?_)
 ·try simp only [tstS] at hc1
  have : a ≠ b := fun e => by subst e; omega
  refine cseq <| cg <| za rfl <| cnil <| WC.ret1 rfl rfl ?_
  exact ⟨hK, by simp [this]⟩
 try simp only [tstS] at hc1
 refine cskip <| cseq <| cseq <| cg <| za rfl <| cnil <| cblock <| WC.loop (σ := Nat) (fun k => [(0, v1), (1, v2), (5, I k)]) (fun k w' => Rd thgS w' v1 a ∧ Rd thgS w' v2 b ∧ Old w w' ∧ k ≤ a.length ∧ a.take k = b.take k) (fun k => a.length - k) 0 subs ⟨h1, h2, hK, by omega, rfl⟩ ?_
 rintro k wl ⟨h1, h2, hK, hk, he⟩
 have hln : a.length = b.length := by omega
 refine cseq <| cseq <| cg <| zm rfl <| zm rfl ?_
 first | refine vq (Val.rdlen sl22 (by assumption) rfl) ?_ | refine vq (Val.sllen Tryz.underlying22 rfl) ?_
 refine vq (Val.lss rfl rfl) <| cnil <| WC.cond rfl (fun hc4 => ?_) (fun hc4 => ?_)
 ·try simp only [tstS] at hc4
  have ka : k < a.length := by omega
  have kb : k < b.length := by omega
  obtain ⟨cs1, hc19, rfl, ok1⟩ := h1.el ka
  obtain ⟨cs2, hc23, rfl, ok2⟩ := h2.el kb
  have heq : cellsEq (encThg a[k]) (encThg b[k]) = decide (a[k] = b[k]) := thg_eq _ _
  refine cskip <| cseq <| cblock <| cseq <| WC.regionD (Below wl.heap.size wl) [0, 0, 0, 1, 0, 0, 0, 1, 0] [0, 1, 2, 3, 4, 5, 6, 7, 8] mixed (by kernel_rfl) ?_
  have hk1 : Below wl.heap.size wl wl.drew := (Below.refl _ _).drew
  have hCw : Below wl.heap.size wl wl.drew := (Below.refl _ _).drew
  generalize wl.drew = w1 at hk1 hCw ⊢
  have hc190 := hc19
  have hc230 := hc23
  replace h1 := h1.up hk1; replace h2 := h2.up hk1; replace hK := hK.up hk1
  refine zdm rfl rfl <| zdm rfl rfl <| vd rfl (fun _ => Val.indexAddr sl22 (by assumption) rfl rfl rfl side side) <| qc rfl rfl rfl hCw (fun W hW => Val.loadE agg60 rfl (hc190.up hW) rfl) rfl <| zdm rfl rfl <| zdm rfl rfl <| vd rfl (fun _ => Val.indexAddr sl22 (by assumption) rfl rfl rfl side side) <| qc rfl rfl rfl hCw (fun W hW => Val.loadE agg60 rfl (hc230.up hW) rfl) rfl <| vd rfl (fun _ => Val.stne flat60 rfl rfl rfl (by simp [sameKinds])) ?_
  rw [heq]
  refine WD.nil ?_
  clear hc190 hc230
  clear hCw
  refine WC.cond rfl (fun hc6 => ?_) (fun hc6 => ?_)
  ·try simp only [tstS] at hc6
   replace hc6 : a[k] ≠ b[k] := by simpa using hc6
   refine cseq <| cg <| za rfl <| cnil <| WC.ret1 rfl rfl ?_
   exact ⟨hK, by simp [take_ne ka kb hc6]⟩
  try simp only [tstS] at hc6
  replace hc6 : a[k] = b[k] := by simpa using hc6
  refine cskip <| cg <| zm rfl <| vq (Val.addI rfl rfl side side) <| za rfl <| cnil ?_
  exact ⟨k + 1, subs, ⟨h1, h2, hK, ka, take_step ka kb he hc6⟩, by omega⟩
 try simp only [tstS] at hc4
 refine WC.exit rfl <| cseq <| cg <| za rfl <| cnil <| WC.ret1 rfl rfl ?_
 exact ⟨hK, by simp [take_all he (by omega) (by omega)]⟩
theorem thgsWeight_ok {w : World} {v : Value} {l : List Thg} (h1 : Rd thgS w v l) :
   Calls Tryz.prog 44 #[v] w (Ret fun v' w' => Below w.heap.size w w' ∧ v' = I (thgsW l : Nat)) := by
 have hK : Old w w := Old.refl w
 have hsm := h1.small
 refine enter (n := 33) (res := #[.tmp 2]) Tryz.func44 rfl rfl rfl rfl <| cseq <| cg <| za rfl <| cnil <| cseq <| cg <| zm rfl ?_
 first | refine vq (Val.rdlen sl22 (by assumption) rfl) ?_ | refine vq (Val.sllen Tryz.underlying22 rfl) ?_
 refine za rfl <| cnil <| cseq <| cseq <| cg <| za rfl <| cnil <| cblock ?_
 refine WC.loop (σ := Nat) (fun k => [(0, v), (3, I ((l.length + ((l.take k).map thgW).sum : Nat) : Int)), (4, I k)]) (fun k w' => Rd thgS w' v l ∧ Old w w' ∧ k ≤ l.length ∧ l.length + ((l.take k).map thgW).sum ≤ 9000000000000000000 ∧ thgsW l = stopSum (l.length + ((l.take k).map thgW).sum) ((l.drop k).map thgW)) (fun k => l.length - k) 0 (by simp only [List.take_zero, List.map_nil, List.sum_nil, Nat.add_zero]; repeat (first | exact Sub.nil _ | refine Sub.cons rfl ?_ | refine Sub.consM rfl ?_)) ⟨h1, hK, by omega, by simp; omega, by simp [thgsW]⟩ ?_
 rintro k wl ⟨h1, hK, hk, hn, hst⟩
 refine cseq <| cseq <| cg <| zm rfl <| zm rfl ?_
 first | refine vq (Val.rdlen sl22 (by assumption) rfl) ?_ | refine vq (Val.sllen Tryz.underlying22 rfl) ?_
 refine vq (Val.lss rfl rfl) <| zm rfl ?_
 apply WR.sc true 2 _ (fun w' => wl = w')
 case hl | hg | hu | hv | hs | hoff | hd => rfl
 case hF => exact fun _ => rfl
 case hT =>
  intro hq7
  try simp only [tstS] at hq7
  simp only [List.take_succ_cons, List.take_zero]
  refine WR.on rfl rfl <| zm rfl <| WR.on rfl rfl <| vq (Val.lss rfl rfl) ?_
  exact WR.nil ⟨rfl, Sub.drop _ 2 _ rfl rfl, rfl⟩
 rintro _ rfl
 refine cnil <| WC.cond rfl (fun hc3 => ?_) (fun hc3 => ?_)
 ·try simp only [tstS] at hc3
  obtain ⟨hc3, hc3'⟩ := hc3
  have ka : k < l.length := by omega
  obtain ⟨cs1, hc20, rfl, ok1⟩ := h1.el ka
  have hc27 := hc20
  have e : thgW l[k] = l[k].digest.length + l[k].text.length := rfl
  obtain ⟨ok1, ok2⟩ := ok1
  refine cskip <| cseq <| cblock <| WC.regionD (Below wl.heap.size wl) [0, 0, 0, 0, 0, 1, 0, 0, 0, 0, 0, 0, 1, 0, 0, 0] [0, 1, 2, 3, 4, 5, 6, 7, 8, 9, 10, 11, 12, 13, 14, 15] mixed (by kernel_rfl) ?_
  have hk1 : Below wl.heap.size wl wl.drew := (Below.refl _ _).drew
  have hCw : Below wl.heap.size wl wl.drew := (Below.refl _ _).drew
  generalize wl.drew = w1 at hk1 hCw ⊢
  have hc200 := hc20
  have hc270 := hc27
  replace h1 := h1.up hk1; replace hK := hK.up hk1
  refine zdm rfl rfl <| zdm rfl rfl <| zdm rfl rfl <| vd rfl (fun _ => Val.indexAddr sl22 (by assumption) rfl rfl rfl side side) <| vd rfl (fun _ => Val.fieldAddrP fld60_0 rfl) <| qc rfl rfl rfl hCw (fun W hW => Val.loadEf scl9 rfl (hc200.up hW) rfl) rfl <| vd rfl (fun _ => Val.slen Tryz.underlying9 rfl) <| vd rfl (fun _ => Val.addI rfl rfl side side) <| zdm rfl rfl ?_
  refine zdm rfl rfl <| vd rfl (fun _ => Val.indexAddr sl22 (by assumption) rfl rfl rfl side side) <| vd rfl (fun _ => Val.fieldAddrP fld60_1 rfl) <| qc rfl rfl rfl hCw (fun W hW => Val.loadEf scl9 rfl (hc270.up hW) rfl) rfl <| vd rfl (fun _ => Val.slen Tryz.underlying9 rfl) <| vd rfl (fun _ => Val.addI rfl rfl side side) <| zda rfl rfl ?_
  refine WD.nil ?_
  clear hc200 hc270
  clear hCw
  refine cg <| zm rfl <| vq (Val.addI rfl rfl side side) <| za rfl <| cnil ?_
  refine ⟨k + 1, ?_, ⟨h1, hK, ka, ?_, by rw [hst, stopSum_step _ ka (by omega), sum_take_succ _ ka, Nat.add_assoc]⟩, by omega⟩
  · rw [sum_take_succ _ ka, e, show ((l.length + (((l.take k).map thgW).sum + (l[k].digest.length + l[k].text.length)) : Nat) : Int) = ((l.length + ((l.take k).map thgW).sum : Nat) : Int) + (l[k].digest.length : Int) + (l[k].text.length : Int) by omega]; repeat (first | exact Sub.nil _ | refine Sub.cons rfl ?_ | refine Sub.consM rfl ?_)
  rw [sum_take_succ _ ka]; omega
 try simp only [tstS] at hc3
 refine WC.exit rfl <| cseq <| cg <| zm rfl <| za rfl <| cnil <| WC.ret1 rfl rfl <| ⟨hK, ?_⟩
 rw [Bool.and_eq_false_iff] at hc3
 simp only [decide_eq_false_iff_not] at hc3
 rcases Nat.lt_or_ge k l.length with h | h
 · rw [hst, stopSum_ge (by omega)]
 rw [hst, List.drop_of_length_le h]; rfl
end Go.Proofs.YtdlpibhecdfbcabGreatDoor

namespace Silo
open Go Go.Eng
theorem stopSum_le : ∀ (l : List Nat) (n M : Nat), (∀ x ∈ l, x ≤ M) → stopSum n l ≤ n ∨ stopSum n l ≤ 1048576 + M
  | [], n, M, _ => .inl (Nat.le_refl _)
  | x :: r, n, M, h => by
    unfold stopSum
    split
    · rename_i hn
      have hx := h x (by simp)
      rcases stopSum_le r (n + x) M (fun y hy => h y (by simp [hy])) with h1 | h1 <;> right <;> omega
    · exact .inl (Nat.le_refl _)
theorem le_sum {l : List Nat} {x : Nat} (h : x ∈ l) : x ≤ l.sum := by
  induction l with
  | nil => cases h
  | cons a r ih =>
    simp only [List.sum_cons]
    rcases List.mem_cons.1 h with rfl | h
    · omega
    · have := ih h; omega
end Silo
namespace Go.Proofs.YtdlpibhecdfbcabGreatDoor
open Go Go.Eng Go.RowKit Silo TryzT
end Go.Proofs.YtdlpibhecdfbcabGreatDoor

namespace Silo
open Go Go.Eng
theorem namesT_eq {t : Thg} (h : t.manifest = true) : namesT t = ((manTake t.text).getD man0).blobs ++ ((manTake t.text).getD man0).subs := by
  rw [namesT, if_pos h]
  cases manTake t.text <;> rfl
theorem namesT_no {t : Thg} (h : t.manifest = false) : namesT t = [] := by rw [namesT, h]; rfl
theorem namesT_texts {t : Thg} : ∀ x ∈ namesT t, x.length ≤ 140737488355328 := fun x hx => by
  cases h : t.manifest with
  | false => rw [namesT_no h] at hx; cases hx
  | true =>
    rw [namesT_eq h] at hx
    obtain ⟨a1, a2, _⟩ := Go.Proofs.YtdlpibhecdfbcabGreatDoor.manTake_texts (s := t.text)
    exact (List.mem_append.1 hx).elim (a1 x) (a2 x)
theorem thgsW_small {T : List Thg} {n : Nat} (h : thgsW T ≤ n) (hn : n < 1048576) : T.length ≤ n ∧ ∀ t ∈ T, t.digest.length ≤ n ∧ t.text.length ≤ n := by
 have e := stopSum_small (T.map thgW) T.length (by unfold thgsW at h; omega)
 unfold thgsW at h
 rw [e] at h
 refine ⟨by omega, fun t ht => ?_⟩
 have := le_sum (List.mem_map_of_mem (f := thgW) ht)
 have e2 : thgW t = t.digest.length + t.text.length := rfl
 omega
end Silo
namespace Go.Proofs.YtdlpibhecdfbcabGreatDoor
open Go Go.Eng Go.RowKit Silo TryzT
theorem named_ok {w : World} (t : Thg) (ht : t.text.length ≤ 1048576) :
   Calls Tryz.prog 98 #[.agg (encThg t).toArray] w (Ret fun v w' => Below w.heap.size w w' ∧ Own w' w.heap.size 9 1 v (namesT t).length ((namesT t).flatMap fun x => [St x])) := by
 obtain ⟨c, hO, hc⟩ := OldC.start w
 clear hc
 refine enter (n := 20) (res := #[.tmp 2]) Tryz.func98 rfl rfl rfl rfl <| cseq <| cg <| ve (Eff.boxC c 101 rfl) ?_
 rintro _ w1 ⟨b1, c1, rfl, m, hb1⟩
 replace hO := hO.mv m
 refine za rfl <| cnil <| cseq <| cseq <| cg <| vq (Val.fieldAddr fld60_2 rfl) <| vq (Val.loadB scl4 rfl hb1.blk rfl) <| vq (Val.not rfl) <| cnil <| WC.cond rfl (fun hc1 => ?_) (fun hc1 => ?_)
 ·try simp only [tstS] at hc1
  refine cseq <| cg <| za rfl <| cnil <| WC.ret1 rfl rfl ?_
  rw [namesT_no hc1]
  exact ⟨hO.below, Own.nil _ _ _ _⟩
 try simp only [tstS] at hc1
 have hl := namesT_len t
 rw [namesT_eq hc1, List.length_append] at hl
 obtain ⟨a1, a2, a3, a4, _⟩ := manTake_texts (s := t.text)
 refine cskip <| cseq <| cg <| vq (Val.fieldAddr fld60_1 rfl) <| vq (Val.loadB scl9 rfl hb1.blk rfl) <| ve (Eff.pureC c1 7 (Eff.call pf55 rfl (pmtake_own t.text ht))) ?_
 rintro v11 w2 ⟨c2, m, hx2, ⟨u1, u2, rfl, h1, h2⟩⟩
 replace hO := hO.mv m; replace hb1 := hb1.mv m
 replace h1 := h1.toC hx2
 replace h2 := h2.toC hx2
 have o1 := h1.oneC; have o2 := h2.oneC
 refine zm rfl <| vq (Val.extract rfl rfl) <| vq (Val.extract rfl rfl) <| ve (Eff.allocC c2 103 zero85) ?_
 rintro _ w3 ⟨b3, c3, rfl, m, hb3⟩
 replace hO := hO.mv m; replace hb1 := hb1.mv m; replace h1 := h1.mv m; replace h2 := h2.mv m
 refine WR.eff_ (Eff.storeNC agg85 rfl rfl hb3 rfl rfl ones) ?_
 rintro _ w4 ⟨hS, m⟩
 replace hO := hO.mv m; replace hb1 := hb1.mv m; replace h1 := h1.mv m; replace h2 := h2.mv m
 replace hb3 := hS
 refine za rfl <| cnil <| cseq <| WC.regionD (Kp c3 w4 [8]) [0, 1, 2, 0, 1, 2, 0] [0, 1, 3, 4, 2, 5, 6] mixed (by kernel_rfl) ?_
 have m := Mv.drew c3 w4 []
 have hCw := Mv.drew c3 w4 [8]
 generalize w4.drew = w5 at m hCw ⊢
 have hb10 := hb1
 have hb30 := hb3
 replace hO := hO.mv m; replace h1 := h1.mv m; replace h2 := h2.mv m
 refine vd rfl (fun _ => Val.fieldAddr fld85_1 rfl) <| vc rfl hCw.kp (fun W hW => Val.loadB scl70 rfl (hb30.kp hW rfl).blk rfl) <| vd rfl (fun _ => Val.fieldAddr fld85_2 rfl) <| vc rfl hCw.kp (fun W hW => Val.loadB scl70 rfl (hb30.kp hW rfl).blk rfl) <| WD.eff rfl rfl rfl (Eff.pureC c3 8 (Eff.call pf97 rfl (copyStrings_ok (h1.own.rdStrs a1 a3) (by omega)))) rfl ?_
 rintro v16 w6 ⟨c6, m, hx6, ho16⟩
 refine ⟨fun hC => hC.step hCw m rfl, ?_⟩
 replace hCw := hCw.tr m rfl
 replace hO := hO.mv m; replace h2 := h2.mv m
 replace ho16 := ho16.toC hx6
 refine WD.eff rfl rfl rfl (Eff.appendC sl70 rfl rfl ho16 (Src.flat Tryz.underlying70 (h2.own.rdStrs a2 a4)) mxl oms) rfl ?_
 rintro v19 w7 ⟨c7, m, hOq⟩
 refine ⟨fun hC => hC.step hCw m rfl, ?_⟩
 replace hCw := hCw.tr m rfl
 replace hO := hO.mv m
 replace ho16 := hOq
 refine zda rfl rfl <| WD.nil ?_
 clear hb10 hb30
 clear hCw
 refine WC.ret1 rfl rfl ?_
 rw [namesT_eq hc1, List.flatMap_append, List.length_append]
 exact ⟨hO.below, ho16.fromOld hO (by decide)⟩
theorem rnames_ok {w : World} (t : Thg) (ht : t.text.length ≤ 1048576) :
   Calls Tryz.prog 119 #[.agg (encThg t).toArray] w (Ret fun v w' => Below w.heap.size w w' ∧ Own w' w.heap.size 9 1 v (namesT t).length ((namesT t).flatMap fun x => [St x])) := by
 obtain ⟨c, hO, hc⟩ := OldC.start w
 clear hc
 refine enter (n := 20) (res := #[.tmp 2]) Tryz.func119 rfl rfl rfl rfl <| cseq <| cg <| ve (Eff.boxC c 101 rfl) ?_
 rintro _ w1 ⟨b1, c1, rfl, m, hb1⟩
 replace hO := hO.mv m
 refine za rfl <| cnil <| cseq <| cseq <| cg <| vq (Val.fieldAddr fld60_2 rfl) <| vq (Val.loadB scl4 rfl hb1.blk rfl) <| vq (Val.not rfl) <| cnil <| WC.cond rfl (fun hc1 => ?_) (fun hc1 => ?_)
 ·try simp only [tstS] at hc1
  refine cseq <| cg <| za rfl <| cnil <| WC.ret1 rfl rfl ?_
  rw [namesT_no hc1]
  exact ⟨hO.below, Own.nil _ _ _ _⟩
 try simp only [tstS] at hc1
 have hl := namesT_len t
 rw [namesT_eq hc1, List.length_append] at hl
 obtain ⟨a1, a2, a3, a4, _⟩ := manTake_texts (s := t.text)
 refine cskip <| cseq <| cg <| vq (Val.fieldAddr fld60_1 rfl) <| vq (Val.loadB scl9 rfl hb1.blk rfl) <| ve (Eff.pureC c1 7 (Eff.call pf74 rfl (mtake_own t.text ht))) ?_
 rintro v11 w2 ⟨c2, m, hx2, ⟨u1, u2, rfl, h1, h2⟩⟩
 replace hO := hO.mv m
 replace h1 := h1.toC hx2
 replace h2 := h2.toC hx2
 have o1 := h1.oneC; have o2 := h2.oneC
 obtain ⟨A1, p1, rfl, _⟩ := h1.own.formA
 obtain ⟨A2, p2, rfl, _⟩ := h2.own.formA
 refine zm rfl <| vq (Val.extract rfl rfl) <| vq (Val.extract rfl rfl) <| ve (Eff.allocC c2 103 zero85) ?_
 rintro _ w3 ⟨b3, c3, rfl, m, hb3⟩
 replace hO := hO.mv m; replace h1 := h1.mv m; replace h2 := h2.mv m
 refine WR.eff_ (Eff.storeNC agg85 rfl rfl hb3 rfl rfl ones) ?_
 rintro _ w4 ⟨hS, m⟩
 replace hO := hO.mv m; replace h1 := h1.mv m; replace h2 := h2.mv m
 replace hb3 := hS
 refine za rfl <| cnil <| cseq <| cg <| vq (Val.fieldAddr fld85_1 rfl) <| vq (Val.loadB scl70 rfl hb3.blk rfl) <| vq (Val.fieldAddr fld85_2 rfl) <| vq (Val.loadB scl70 rfl hb3.blk rfl) <| ve (Eff.buildC c3 118 sl177 rfl rfl rfl (by simp [Value.cells]) rfl rfl) ?_
 rintro _ w5 ⟨b18, c5, rfl, m, hb18⟩
 replace hO := hO.mv m; replace h1 := h1.mv m; replace h2 := h2.mv m
 refine ve (Eff.pureC c5 8 (Eff.call pf143 rfl (concat_ok (rdPair hb18 (h1.own.rdStrs a1 a3) (h2.own.rdStrs a2 a4)) (by simp; omega)))) ?_
 rintro v19 w6 ⟨c6, m, hx6, ho19⟩
 replace hO := hO.mv m
 replace ho19 := ho19.toC hx6
 refine za rfl <| cnil <| WC.ret1 rfl rfl ?_
 rw [namesT_eq hc1]
 have e : [((manTake t.text).getD man0).blobs, ((manTake t.text).getD man0).subs].flatten = ((manTake t.text).getD man0).blobs ++ ((manTake t.text).getD man0).subs := by simp
 rw [e] at ho19
 exact ⟨hO.below, ho19.fromOld hO (by decide)⟩
set_option maxHeartbeats 1000000 in
theorem rmay_ok {w : World} {v : Value} {T : List Thg} (h0 : Rd thgS w v T) : Calls Tryz.prog 72 #[v] w (Ret fun v' w' => Below w.heap.size w w' ∧ v' = .bool (thgsMay T)) := by
 obtain ⟨c, hO, hc⟩ := OldC.start w
 have hsm := h0.small
 have h1 : RdC thgS c w [0] v T := Rd.toC h0 (fun k hk => by simp [hc, hasC])
 clear hc h0
 refine enter (n := 55) (res := #[.tmp 2]) Tryz.func72 rfl rfl rfl rfl <| cseq <| cg <| za rfl <| cnil <| cseq <| cseq <| cg <| zm rfl ?_
 first | refine vq (Val.rdlen sl22 (by assumption) rfl) ?_ | refine vq (Val.sllen Tryz.underlying22 rfl) ?_ | refine vq (Val.olen sl22 (by assumption) rfl) ?_ | refine vq (Val.rdlenC sl22 (by assumption) rfl) ?_
 refine vq (Val.gtr rfl rfl) <| cnil <| WC.cond rfl (fun hc1 => ?_) (fun hc1 => ?_)
 ·try simp only [tstS] at hc1
  refine cseq <| cg <| za rfl <| cnil <| WC.ret1 rfl rfl ?_
  exact ⟨hO.below, by rw [thgsMay_long (by omega)]⟩
 try simp only [tstS] at hc1
 refine cskip <| cseq <| cseq <| cg <| zm rfl ?_
 first | refine vq (Val.rdlen sl22 (by assumption) rfl) ?_ | refine vq (Val.sllen Tryz.underlying22 rfl) ?_ | refine vq (Val.olen sl22 (by assumption) rfl) ?_ | refine vq (Val.rdlenC sl22 (by assumption) rfl) ?_
 refine zm rfl <| cnil <| cblock <| WC.loop (σ := Nat) (fun k => [(0, v), (10, v), (11, I T.length), (12, I k)]) (fun k w' => ∃ c', OldC w c' w' ∧ RdC thgS c' w' [0] v T ∧ k ≤ T.length ∧ ∀ i, i < k → thgAt T i = true) (fun k => T.length - k) 0 subs ⟨_, hO, h1, by omega, fun i hi => absurd hi (Nat.not_lt_zero _)⟩ ?_
 clear hO h1
 rintro k wl ⟨cl, hO, h1, hk, hd⟩
 refine cseq <| cg <| vq (Val.lss rfl rfl) <| cnil <| cseq <| WC.cond rfl (fun hc4 => ?_) (fun hc4 => ?_)
 ·try simp only [tstS] at hc4
  have ka : k < T.length := by omega
  obtain ⟨hc15, ok1⟩ := RdC.elFlat h1 ka (by decide)
  have hpr : ((k : Int) - 1).toNat < T.length := by omega
  obtain ⟨hc36, _⟩ := RdC.elFlat h1 hpr (by decide)
  have hat := thgAt_eq ka hpr
  rw [less_not] at hat
  refine cskip <| cseq <| cblock <| cseq <| cg <| zm rfl ?_
  first | refine vq (Val.indexAddr sl22 (by assumption) rfl rfl rfl side side) ?_ | refine vq (Val.indexC sl22 (by assumption) rfl rfl side side) ?_ | refine vq (Val.indexO sl22 (by assumption) rfl rfl side side) ?_
  refine vq (Val.loadE agg60 rfl hc15.cel rfl) <| ve (Eff.allocC cl 104 zero60) ?_
  rintro _ w1 ⟨b4, c1, rfl, m, hb4⟩
  replace hO := hO.mv m; replace h1 := h1.mv m; replace hc15 := hc15.mv m; replace hc36 := hc36.mv m
  refine za rfl <| WR.eff_ (Eff.storeNC agg60 rfl rfl hb4 rfl rfl ones) ?_
  rintro _ w2 ⟨hS, m⟩
  replace hO := hO.mv m; replace h1 := h1.mv m; replace hc15 := hc15.mv m; replace hc36 := hc36.mv m
  replace hb4 := hS
  refine cnil <| cseq <| cseq <| WC.regionD (Kp c1 w2 []) [0, 1, 0, 0, 0, 0, 1, 0, 0, 0, 0, 0, 0, 0, 0, 1, 0, 0, 0, 0, 0, 1, 0, 0, 0] [0, 1, 2, 3, 4, 5, 6, 7, 8, 9, 10, 11, 12, 13, 14, 15, 16, 17, 18, 19, 20, 21, 22, 23, 24] mixed (by kernel_rfl) ?_
  have m := Mv.drew c1 w2 []
  have hCw := Mv.drew c1 w2 []
  generalize w2.drew = w3 at m hCw ⊢
  have hb40 := hb4
  have hc150 := hc15
  have hc360 := hc36
  replace hO := hO.mv m; replace h1 := h1.mv m; replace hb4 := hb4.mv m
  refine vd rfl (fun _ => Val.fieldAddr fld60_0 rfl) <| vc rfl hCw.kp (fun W hW => Val.loadB scl9 rfl (hb40.kp hW rfl).blk rfl) <| vd rfl (fun _ => Val.slen Tryz.underlying9 rfl) <| vd rfl (fun _ => Val.neq rfl rfl) <| zdm rfl rfl ?_
  apply WD.sc false 4 _ (fun w' => w3 = w')
  case hl | hi | hk | hg | hu | hv | hs | hoff | hd => rfl
  case hC => exact hCw.kp
  case hF => exact fun _ => rfl
  case hT =>
   intro hq9
   try simp only [tstS] at hq9
   simp only [List.take_succ_cons, List.take_zero]
   refine vd rfl (fun _ => Val.fieldAddr fld60_1 rfl) <| vc rfl hCw.kp (fun W hW => Val.loadB scl9 rfl (hb40.kp hW rfl).blk rfl) <| vd rfl (fun _ => Val.slen Tryz.underlying9 rfl) <| vd rfl (fun _ => Val.gtr rfl rfl) ?_
   exact WD.nil ⟨rfl, Sub.drop _ 4 _ rfl rfl, rfl⟩
  rintro _ rfl
  refine zdm rfl rfl ?_
  apply WD.sc false 13 _ (fun w' => w3 = w')
  case hl | hi | hk | hg | hu | hv | hs | hoff | hd => rfl
  case hC => exact hCw.kp
  case hF => exact fun _ => rfl
  case hT =>
   intro hq24
   try simp only [tstS] at hq24
   simp only [List.take_succ_cons, List.take_zero]
   refine zdm rfl rfl <| vd rfl (fun _ => Val.gtr rfl rfl) <| zdm rfl rfl ?_
   apply WD.sc true 9 _ (fun w' => w3 = w')
   case hl | hi | hk | hg | hu | hv | hs | hoff | hd => rfl
   case hC => exact hCw.kp
   case hF => exact fun _ => rfl
   case hT =>
    intro hq23
    try simp only [tstS] at hq23
    simp only [List.take_succ_cons, List.take_zero]
    refine vd rfl (fun _ => Val.fieldAddr fld60_0 rfl) <| vc rfl hCw.kp (fun W hW => Val.loadB scl9 rfl (hb40.kp hW rfl).blk rfl) <| zdm rfl rfl <| zdm rfl rfl <| vd rfl (fun _ => Val.subI rfl rfl side side) ?_
    first | refine vd rfl (fun _ => Val.indexAddr sl22 (by assumption) rfl rfl rfl side side) ?_ | refine vd rfl (fun _ => Val.indexC sl22 (by assumption) rfl rfl side side) ?_ | refine vd rfl (fun _ => Val.indexO sl22 (by assumption) rfl rfl side side) ?_
    refine vd rfl (fun _ => Val.fieldAddrP fld60_0 rfl) <| vc rfl hCw.kp (fun W hW => Val.loadEf scl9 rfl (hc360.kp hW rfl).cel rfl) <| vd rfl (fun _ => Val.sleq rfl rfl) ?_
    exact WD.nil ⟨rfl, Sub.drop _ 9 _ rfl rfl, rfl⟩
   rintro _ rfl
   exact WD.nil ⟨rfl, Sub.drop _ 4 _ rfl rfl, rfl⟩
  rintro _ rfl
  refine WD.nil ?_
  clear hb40 hc150 hc360
  clear hCw
  refine WC.cond rfl (fun hc6 => ?_) (fun hc6 => ?_)
  ·try simp only [tstS] at hc6
   have hno : thgAt T k = false := by
     rw [hat]
     rcases hc6 with (h | h) | ⟨h, h'⟩
     · rw [decide_eq_false h]; rfl
     · rw [decide_eq_false (show ¬ (T[k].text.length : Int) ≤ 2000 by omega)]; simp
     rw [decide_eq_true h, (Bool.or_eq_true _ _).mpr h']; simp
   refine cseq <| cg <| za rfl <| cnil <| WC.ret1 rfl rfl ?_
   exact ⟨hO.below, by rw [thgsMay_no ka hno]⟩
  try simp only [tstS] at hc6
  obtain ⟨⟨hc6a, hc6b⟩, hc6c⟩ := hc6
  refine cskip <| cseq <| cg <| vq (Val.fieldAddr fld60_1 rfl) <| vq (Val.loadB scl9 rfl hb4.blk rfl) <| ve (Eff.pureC c1 7 (Eff.call pf74 rfl (mtake_own T[k].text (by omega)))) ?_
  rintro v45 w4 ⟨c4, m, hx4, ⟨u1, u2, rfl, g1, g2⟩⟩
  replace hO := hO.mv m; replace h1 := h1.mv m; replace hb4 := hb4.mv m
  replace g1 := g1.toC hx4
  replace g2 := g2.toC hx4
  have o1 := g1.oneC; have o2 := g2.oneC
  refine zm rfl <| vq (Val.extract rfl rfl) <| vq (Val.extract rfl rfl) <| ve (Eff.allocC c4 105 zero85) ?_
  rintro _ w5 ⟨b5, c5, rfl, m, hb5⟩
  replace hO := hO.mv m; replace h1 := h1.mv m; replace hb4 := hb4.mv m
  refine WR.eff_ (Eff.storeNC agg85 rfl rfl hb5 rfl rfl ones) ?_
  rintro _ w6 ⟨hS, m⟩
  replace hO := hO.mv m; replace h1 := h1.mv m; replace hb4 := hb4.mv m
  replace hb5 := hS
  refine za rfl <| cnil <| cseq <| cg <| vq (Val.fieldAddr fld60_2 rfl) <| vq (Val.loadB scl4 rfl hb4.blk rfl) <| zm rfl ?_
  apply WR.sc true 2 _ (fun w' => w6 = w')
  case hl | hg | hu | hv | hs | hoff | hd => rfl
  case hF => exact fun _ => rfl
  case hT =>
   intro hq5
   try simp only [tstS] at hq5
   simp only [List.take_succ_cons, List.take_zero]
   refine WR.on rfl rfl <| zm rfl <| WR.on rfl rfl <| vq (Val.neq rfl rfl) ?_
   exact WR.nil ⟨rfl, Sub.drop _ 2 _ rfl rfl, rfl⟩
  rintro _ rfl
  refine cnil <| WC.cond rfl (fun hc9 => ?_) (fun hc9 => ?_)
  ·try simp only [tstS] at hc9
   have hno : thgAt T k = false := by
     rw [hat, hc9.1]
     cases hm : (manTake T[k].text).isSome with
     | false => simp
     | true => rw [hm] at hc9; simp at hc9
   refine cseq <| cg <| za rfl <| cnil <| WC.ret1 rfl rfl ?_
   exact ⟨hO.below, by rw [thgsMay_no ka hno]⟩
  try simp only [tstS] at hc9
  have hye : thgAt T k = true := by
    rw [hat, decide_eq_true hc6a, decide_eq_true (show (T[k].text.length : Int) ≤ 2000 by omega)]
    have h3 : (!(decide (0 < (k : Int)) && !(!(Op.bytesLess T[k].digest T[((k : Int) - 1).toNat].digest || (T[k].digest == T[((k : Int) - 1).toNat].digest))))) = true := by
      rw [Bool.not_not]
      cases h0 : decide (0 < (k : Int)) with
      | false => rfl
      | true =>
        cases h9 : (Op.bytesLess T[k].digest T[((k : Int) - 1).toNat].digest || (T[k].digest == T[((k : Int) - 1).toNat].digest)) with
        | false => rfl
        | true => rw [h0, h9] at hc6c; exact absurd hc6c (by decide)
    rw [h3]
    cases hm : T[k].manifest with
    | false => rfl
    | true =>
      cases hs : (manTake T[k].text).isSome with
      | true => rfl
      | false => rw [hm, hs] at hc9; simp at hc9
  refine cskip <| cg <| vq (Val.addI rfl rfl side side) <| zm rfl <| cnil ?_
  exact ⟨k + 1, subs, ⟨_, hO, h1, ka, below_succ hd hye⟩, by omega⟩
 try simp only [tstS] at hc4
 refine WC.exit rfl <| cseq <| cg <| za rfl <| cnil <| WC.ret1 rfl rfl ?_
 exact ⟨hO.below, by rw [thgsMay_yes (k := k) (by omega) (by omega) hd]⟩
theorem thgsW_le {w : World} {v : Value} {T : List Thg} (h : RdS thgS w.heap.size w v T) : thgsW T ≤ 422212465065984 := by
  have h1 := h.small
  rcases stopSum_le (T.map thgW) T.length 281474976710656 (fun x hx => by
    obtain ⟨y, hy, rfl⟩ := List.mem_map.1 hx
    obtain ⟨i, hi, rfl⟩ := List.mem_iff_getElem.1 hy
    obtain ⟨_, _, h3⟩ := h.at (List.getElem?_eq_getElem hi)
    have h4 := h3.2
    unfold thgW
    omega) with h2 | h2 <;> unfold thgsW <;> omega
end Go.Proofs.YtdlpibhecdfbcabGreatDoor

namespace Silo
open Go Go.Eng
def cmpS (a b : List UInt8) : Int := if Op.bytesLess a b then -1 else if a = b then 0 else 1
theorem cmpS_eq : ∀ a b : List UInt8, Lib.compareBytes a b = cmpS a b
  | [], [] => rfl
  | [], _ :: _ => rfl
  | _ :: _, [] => rfl
  | x :: a, y :: b => by
    unfold Lib.compareBytes
    rw [cmpS_eq a b]
    unfold cmpS
    simp only [Op.bytesLess]
    by_cases h : x < y
    · simp [h]
    · by_cases h2 : y < x
      · have hne : x ≠ y := fun e => by subst e; exact h h2
        simp [h, h2, hne]
      · have he : x = y := by
          rw [UInt8.not_lt] at h h2
          exact UInt8.le_antisymm h2 h
        subst he
        simp [h]
theorem cmpS_neg {a b : List UInt8} : (cmpS a b < 0) = (Op.bytesLess a b = true) := by
  unfold cmpS
  split
  · rename_i h; simp [h]
  · rename_i h
    split <;> simp [h]
theorem cmpS_zero {a b : List UInt8} : (cmpS a b = 0) = (a = b) := by
  unfold cmpS
  split
  · rename_i h
    have : a ≠ b := fun e => by subst e; rw [less_irrefl] at h; cases h
    simp [this]
  · split <;> simp_all
def lowBy {α : Type} (p : α → Bool) (l : List α) : Nat := (l.takeWhile p).length
theorem lowBy_eq {α : Type} {p : α → Bool} : ∀ {l : List α} {i : Nat}, i ≤ l.length → (∀ k (hk : k < l.length), k < i → p l[k] = true) → (∀ hi : i < l.length, p l[i] = false) → lowBy p l = i
  | [], i, hi, _, _ => by simp at hi; subst hi; rfl
  | a :: r, 0, _, _, h2 => by
    have := h2 (by simp)
    simp only [List.getElem_cons_zero] at this
    simp [lowBy, List.takeWhile_cons, this]
  | a :: r, i + 1, hi, h1, h2 => by
    have h0 := h1 0 (by simp) (by omega)
    simp only [List.getElem_cons_zero] at h0
    have ih := lowBy_eq (p := p) (l := r) (i := i) (by simpa using hi) (fun k hk hki => by
      have := h1 (k + 1) (by simpa using hk) (by omega)
      simpa using this) (fun hi2 => by
      have := h2 (by simpa using hi2)
      simpa using this)
    simp only [lowBy, List.takeWhile_cons, h0, if_true, List.length_cons]
    unfold lowBy at ih
    omega
def lowT (T : List Thg) (d : List UInt8) : Nat := lowBy (fun t => Op.bytesLess t.digest d) T
theorem lowT_find {T : List Thg} (hr : RiseT T) {d : List UInt8} {i : Nat} (h : findT T d = some i) : lowT T d = i := by
 obtain ⟨hi, he⟩ := findT_some h
 refine lowBy_eq (by omega) (fun k hk hki => ?_) (fun _ => ?_)
 · have := hr k i hk hi hki
   rw [he] at this; exact this
 rw [he]; exact less_irrefl d
theorem lowT_end {T : List Thg} (hr : RiseT T) {d : List UInt8} {i : Nat} (hi : i ≤ T.length) (h1 : ∀ k (hk : k < T.length), k < i → Op.bytesLess T[k].digest d = true) (h2 : ∀ k (hk : k < T.length), i ≤ k → Op.bytesLess T[k].digest d = false) :
   lowT T d = i ∧ (decide ((i : Int) < (T.length : Int)) && decide (((T[i]?.map Thg.digest).getD []) = d)) = (findT T d).isSome := by
 refine ⟨lowBy_eq hi h1 (fun h => h2 i h (Nat.le_refl _)), ?_⟩
 rcases Nat.lt_or_ge i T.length with h | h
 · rw [decide_eq_true (show (i : Int) < (T.length : Int) by omega), Bool.true_and, List.getElem?_eq_getElem h]
   simp only [Option.map_some, Option.getD_some]
   by_cases he : T[i].digest = d
   · rw [decide_eq_true he, findT_at hr h he]; rfl
   rw [decide_eq_false he]
   cases hf : findT T d with
   | none => rfl
   | some j =>
     obtain ⟨hj, hd⟩ := findT_some hf
     exfalso
     rcases Nat.lt_trichotomy j i with hji | hji | hji
     · have := h1 j hj hji
       rw [hd, less_irrefl] at this; cases this
     · subst hji; exact he hd
     have := hr i j h hj hji
     rw [hd] at this
     have h3 := h2 i h (Nat.le_refl _)
     unfold L at this
     rw [h3] at this; cases this
 rw [decide_eq_false (show ¬ (i : Int) < (T.length : Int) by omega), Bool.false_and]
 cases hf : findT T d with
 | none => rfl
 | some j =>
   obtain ⟨hj, hd⟩ := findT_some hf
   have := h1 j hj (by omega)
   rw [hd, less_irrefl] at this; cases this
def idxS (l : List (List UInt8)) (d : List UInt8) : Int := match l.findIdx? (fun x => d == x) with | some i => (i : Int) | none => -1
theorem idxS_hit {l : List (List UInt8)} {d : List UInt8} {k : Nat} (hk : k < l.length) (h : ∀ i (hi : i < l.length), i < k → d ≠ l[i]) (he : d = l[k]) : idxS l d = k := by
  have : l.findIdx? (fun x => d == x) = some k := by
    rw [List.findIdx?_eq_some_iff_getElem]
    exact ⟨hk, by simpa using he, fun j hj => by simpa using h j (by omega) hj⟩
  rw [idxS, this]
theorem idxS_none {l : List (List UInt8)} {d : List UInt8} (h : ∀ i (hi : i < l.length), i < l.length → d ≠ l[i]) : idxS l d = -1 := by
  have : l.findIdx? (fun x => d == x) = none := by
    rw [List.findIdx?_eq_none_iff]
    intro x hx
    obtain ⟨i, hi, rfl⟩ := List.mem_iff_getElem.1 hx
    simpa using h i hi hi
  rw [idxS, this]
theorem idxS_contains (l : List (List UInt8)) (d : List UInt8) : decide (0 ≤ idxS l d) = l.contains d := by
  unfold idxS
  cases h : l.findIdx? (fun x => d == x) with
  | some i =>
    obtain ⟨hi, h1, _⟩ := List.findIdx?_eq_some_iff_getElem.1 h
    have : l.contains d = true := by rw [List.contains_iff_mem, show d = l[i] by simpa using h1]; exact List.getElem_mem hi
    rw [this]
    simp
  | none =>
    rw [List.findIdx?_eq_none_iff] at h
    cases hc : l.contains d with
    | false => rfl
    | true =>
      rw [List.contains_iff_mem] at hc
      have := h d hc
      simp at this
end Silo
namespace Go.Proofs.YtdlpibhecdfbcabGreatDoor
open Go Go.Eng Go.RowKit Silo TryzT
theorem compare_ok {w : World} (a b : List UInt8) : Calls Tryz.prog 117 #[St a, St b] w (Ret fun v w' => Below w.heap.size w w' ∧ v = I (cmpS a b)) :=
  (Tryz.strings_Compare ⟨a.toArray⟩ ⟨b.toArray⟩ w).mono fun e w' he => by
    obtain ⟨rfl, rfl⟩ := he
    exact ⟨_, rfl, Below.refl _ _, by rw [cmpS_eq]⟩
theorem findCmp_ok {w : World} (t : Thg) (d : List UInt8) : Calls Tryz.prog 116 #[.agg (encThg t).toArray, St d] w (Ret fun v w' => Below w.heap.size w w' ∧ v = I (cmpS t.digest d)) := by
 have hK : Old w w := Old.refl w
 refine enter (n := 9) (res := #[.tmp 4]) Tryz.func116 rfl rfl rfl rfl <| cseq <| cg <| ve (Eff.box rfl) ?_
 rintro _ w1 ⟨b2, rfl, hn2⟩
 have hk1 := hn2.below
 replace hK := hK.up hk1
 have hb2 := hn2.blk
 refine za rfl <| cnil <| cseq <| cg <| vq (Val.fieldAddr fld60_0 rfl) <| vq (Val.loadB scl9 rfl hb2 rfl) <| zm rfl <| ve (Eff.call pf117 rfl (compare_ok t.digest d)) ?_
 rintro v8 w2 ⟨hk2, rfl⟩
 replace hK := hK.up hk2
 refine za rfl <| cnil <| WC.ret1 rfl rfl ?_
 exact ⟨hK, rfl⟩
set_option maxHeartbeats 1000000 in
theorem bsThg_ok {w : World} {v : Value} {T : List Thg} {d : List UInt8} (h1 : Rd thgS w v T) (hr : RiseT T) :
   Calls Tryz.prog 115 #[v, St d, .func (.func 116) #[] #[]] w (Ret fun v' w' => Below w.heap.size w w' ∧ v' = .tuple #[I (lowT T d : Nat), .bool (findT T d).isSome]) := by
 have hK : Old w w := Old.refl w
 have hsm := h1.small
 refine enter (n := 49) (res := #[.tmp 6, .tmp 7]) Tryz.func115 rfl rfl rfl rfl <| cseq <| cg <| za rfl <| za rfl <| cnil <| cseq <| cg <| zm rfl ?_
 first | refine vq (Val.rdlen sl22 (by assumption) rfl) ?_ | refine vq (Val.sllen Tryz.underlying22 rfl) ?_
 refine za rfl <| cnil <| cseq <| cg <| zm rfl <| za rfl <| za rfl <| cnil <| cseq <| cblock ?_
 refine WC.loop (σ := Nat × Nat) (fun st => [(0, v), (1, St d), (2, .func (.func 116) #[] #[]), (8, I T.length), (9, I st.1), (10, I st.2)]) (fun st w' => Rd thgS w' v T ∧ Old w w' ∧ st.1 ≤ st.2 ∧ st.2 ≤ T.length ∧ (∀ k (hk : k < T.length), k < st.1 → Op.bytesLess T[k].digest d = true) ∧ ∀ k (hk : k < T.length), st.2 ≤ k → Op.bytesLess T[k].digest d = false) (fun st => st.2 - st.1) (0, T.length) subs ⟨h1, hK, by simp, by simp, fun k _ h => absurd h (Nat.not_lt_zero _), fun k hk h => by dsimp only at h; omega⟩ ?_
 clear h1 hK
 rintro ⟨i, j⟩ wl ⟨h1, hK, hij, hj, ha, hb⟩
 dsimp only at hij hj ha hb ⊢
 refine cseq <| cseq <| cg <| zm rfl <| zm rfl <| vq (Val.lss rfl rfl) <| cnil <| WC.cond rfl (fun hc3 => ?_) (fun hc3 => ?_)
 ·try simp only [tstS] at hc3
  have kij : i < j := by omega
  refine cskip <| cblock <| cseq <| cg <| zm rfl <| zm rfl <| vq (Val.addI rfl rfl side side) <| vq (Val.convToU64 Tryz.underlying3 Tryz.underlying83 rfl side side) <| vq (Val.shr rfl rfl side (by simp [IntKind.bits] <;> omega)) ?_
  refine vq (Val.convTo64 Tryz.underlying83 Tryz.underlying3 rfl side side) <| za rfl <| cnil ?_
  have e4 : ((i : Int) + (j : Int)) / 2 ^ (1 : Int).toNat = ((i + j) / 2 : Nat) := by
    rw [show (2 : Int) ^ (1 : Int).toNat = 2 from rfl]; omega
  rw [e4]
  have hm : (i + j) / 2 < T.length := by omega
  have hmi : i ≤ (i + j) / 2 := by omega
  have hmj : (i + j) / 2 < j := by omega
  generalize (i + j) / 2 = h at hm hmi hmj ⊢
  obtain ⟨cs1, hc27, rfl, ok1⟩ := h1.el hm
  refine cseq <| cg <| zm rfl <| zm rfl <| zm rfl <| vq (Val.indexAddr sl22 (by assumption) rfl rfl rfl side side) <| vq (Val.loadE agg60 rfl hc27 rfl) <| zm rfl ?_
  refine ve (Eff.callV rfl pf116 rfl (findCmp_ok T[h] d)) ?_
  rintro v30 w1 ⟨hk1, rfl⟩
  replace h1 := h1.up hk1; replace hK := hK.up hk1
  refine vq (Val.lss rfl rfl) <| cnil <| WC.cond rfl (fun hc5 => ?_) (fun hc5 => ?_)
  ·try simp only [tstS] at hc5
   rw [cmpS_neg] at hc5
   have ha2 : ∀ k (hk : k < T.length), k < h + 1 → Op.bytesLess T[k].digest d = true := fun k hk hkh => by
     rcases Nat.lt_or_ge k h with h3 | h3
     · exact less_trans _ _ _ (hr k h hk hm h3) hc5
     have : k = h := by omega
     subst this; exact hc5
   refine cg <| zm rfl <| vq (Val.addI rfl rfl side side) <| za rfl <| cnil ?_
   first
   | exact ⟨(h + 1, j), subs, ⟨h1, hK, by dsimp only; omega, hj, ha2, hb⟩, by dsimp only; omega⟩
   | exact ⟨(i, h), subs, ⟨h1, hK, hmi, by dsimp only; omega, ha, hb2⟩, by dsimp only; omega⟩
  try simp only [tstS] at hc5
  rw [cmpS_neg, Bool.not_eq_true] at hc5
  have hb2 : ∀ k (hk : k < T.length), h ≤ k → Op.bytesLess T[k].digest d = false := fun k hk hkh => by
    rcases Nat.eq_or_lt_of_le hkh with h3 | h3
    · subst h3; exact hc5
    cases hx : Op.bytesLess T[k].digest d with
    | false => rfl
    | true => rw [less_trans _ _ _ (hr h k hm hk h3) hx] at hc5; cases hc5
  refine cg <| zm rfl <| za rfl <| cnil ?_
  first
  | exact ⟨(h + 1, j), subs, ⟨h1, hK, by dsimp only; omega, hj, ha2, hb⟩, by dsimp only; omega⟩
  | exact ⟨(i, h), subs, ⟨h1, hK, hmi, by dsimp only; omega, ha, hb2⟩, by dsimp only; omega⟩
 try simp only [tstS] at hc3
 have : i = j := by omega
 subst this
 obtain ⟨hl1, hl2⟩ := lowT_end hr hj ha hb
 refine WC.exit rfl <| cseq <| cg <| zm rfl <| zm rfl <| zm rfl <| vq (Val.lss rfl rfl) <| zm rfl ?_
 apply WR.sc true 8 (decide (((T[i]?.map Thg.digest).getD []) = d)) (fun w' => Below wl.heap.size wl w')
 case hl | hg | hu | hv | hs | hoff | hd => rfl
 case hF => exact fun _ => Below.refl _ _
 case hT =>
  intro hq13
  try simp only [tstS] at hq13
  simp only [List.take_succ_cons, List.take_zero]
  have hi : i < T.length := by omega
  obtain ⟨cs1, hc43, rfl, ok1⟩ := h1.el hi
  have hget : ((T[i]?.map Thg.digest).getD []) = T[i].digest := by rw [List.getElem?_eq_getElem hi]; rfl
  have hKsc13 : Old wl wl := Old.refl _
  refine WR.on rfl rfl <| zm rfl <| WR.on rfl rfl <| zm rfl <| WR.on rfl rfl <| zm rfl <| WR.on rfl rfl <| vq (Val.indexAddr sl22 (by assumption) rfl rfl rfl side side) ?_
  refine WR.on rfl rfl <| vq (Val.loadE agg60 rfl hc43 rfl) <| WR.on rfl rfl <| zm rfl <| WR.on rfl rfl <| ve (Eff.callV rfl pf116 rfl (findCmp_ok T[i] d)) ?_
  rintro v46 w2 ⟨hk2, rfl⟩
  replace hKsc13 := hKsc13.up hk2
  refine WR.on rfl rfl <| vq (Val.eql rfl rfl) ?_
  exact WR.nil ⟨(by rw [hget]; simp only [look, cmpS_zero]; rfl), Sub.drop _ 8 _ rfl rfl, hKsc13⟩
 intro w3 hk3
 replace hK := hK.up hk3
 refine za rfl <| za rfl <| cnil <| WC.ret2 rfl rfl rfl ?_
 exact ⟨hK, by rw [hl1, hl2]; rfl⟩
theorem rfind_ok {w : World} {v : Value} {T : List Thg} {d : List UInt8} (h1 : Rd thgS w v T) (hr : RiseT T) : Calls Tryz.prog 83 #[v, St d] w (Ret fun v' w' => Below w.heap.size w w' ∧ v' = .tuple #[I (lowT T d : Nat), .bool (findT T d).isSome]) := by
 have hK : Old w w := Old.refl w
 refine enter (n := 11) (res := #[.tmp 4, .tmp 5]) Tryz.func83 rfl rfl rfl rfl <| cseq <| cg <| za rfl <| za rfl <| cnil <| cseq <| cg <| zm rfl <| zm rfl <| ve (Eff.call pf115 rfl (bsThg_ok h1 hr)) ?_
 rintro v8 w1 ⟨hk1, rfl⟩
 replace hK := hK.up hk1
 refine vq (Val.extract rfl rfl) <| vq (Val.extract rfl rfl) <| za rfl <| za rfl <| cnil <| WC.ret2 rfl rfl rfl ?_
 exact ⟨hK, rfl⟩
theorem index_ok {w : World} {v : Value} {l : List (List UInt8)} {d : List UInt8} (h1 : Rd strS w v l) : Calls Tryz.prog 127 #[v, St d] w (Ret fun v' w' => Below w.heap.size w w' ∧ v' = I (idxS l d)) := by
 have hK : Old w w := Old.refl w
 have hsm := h1.small
 refine enter (n := 19) (res := #[.tmp 4]) Tryz.func127 rfl rfl rfl rfl <| cseq <| cg <| za rfl <| cnil <| cseq <| cseq <| cg <| zm rfl ?_
 first | refine vq (Val.rdlen sl70 (by assumption) rfl) ?_ | refine vq (Val.sllen Tryz.underlying70 rfl) ?_
 refine zm rfl <| cnil <| cblock <| WC.loop (σ := Nat) (fun k => [(0, v), (1, St d), (7, I l.length), (8, I k)]) (fun k w' => Rd strS w' v l ∧ Old w w' ∧ k ≤ l.length ∧ ∀ i (hi : i < l.length), i < k → d ≠ l[i]) (fun k => l.length - k) 0 subs ⟨h1, hK, by omega, fun i hi h => absurd h (Nat.not_lt_zero _)⟩ ?_
 clear h1 hK
 rintro k wl ⟨h1, hK, hk, hd⟩
 refine cseq <| cg <| vq (Val.lss rfl rfl) <| cnil <| cseq <| WC.cond rfl (fun hc2 => ?_) (fun hc2 => ?_)
 ·try simp only [tstS] at hc2
  have ka : k < l.length := by omega
  obtain ⟨cs1, hc14, rfl, ok1⟩ := h1.el ka
  refine cskip <| cseq <| cblock <| cseq <| cg <| zm rfl <| za rfl <| cnil <| cseq <| cg <| zm rfl <| zm rfl <| zm rfl <| vq (Val.indexAddr sl70 (by assumption) rfl rfl rfl side side) <| vq (Val.loadE1 scl9 rfl hc14) <| vq (Val.seq_ rfl rfl) <| cnil ?_
  refine WC.cond rfl (fun hc4 => ?_) (fun hc4 => ?_)
  ·try simp only [tstS] at hc4
   have he : d = l[k] := by simpa using hc4
   refine cseq <| cg <| zm rfl <| za rfl <| cnil <| WC.ret1 rfl rfl ?_
   exact ⟨hK, by rw [idxS_hit ka hd he]⟩
  try simp only [tstS] at hc4
  have he : d ≠ l[k] := by simpa using hc4
  refine cskip <| cg <| vq (Val.addI rfl rfl side side) <| zm rfl <| cnil ?_
  exact ⟨k + 1, subs, ⟨h1, hK, ka, fun i hi h => by
    rcases Nat.lt_or_ge i k with h2 | h2
    · exact hd i hi h2
    have : i = k := by omega
    subst this; exact he⟩, by omega⟩
 try simp only [tstS] at hc2
 have : k = l.length := by omega
 subst this
 refine WC.exit rfl <| cseq <| cg <| za rfl <| cnil <| WC.ret1 rfl rfl ?_
 exact ⟨hK, by rw [idxS_none hd]⟩
theorem contains_ok {w : World} {v : Value} {l : List (List UInt8)} {d : List UInt8} (h1 : Rd strS w v l) : Calls Tryz.prog 94 #[v, St d] w (Ret fun v' w' => Below w.heap.size w w' ∧ v' = .bool (l.contains d)) := by
 have hK : Old w w := Old.refl w
 refine enter (n := 9) (res := #[.tmp 4]) Tryz.func94 rfl rfl rfl rfl <| cseq <| cg <| za rfl <| cnil <| cseq <| cg <| zm rfl <| zm rfl <| ve (Eff.call pf127 rfl (index_ok h1)) ?_
 rintro v7 w1 ⟨hk1, rfl⟩
 replace hK := hK.up hk1
 refine vq (Val.geq rfl rfl) <| za rfl <| cnil <| WC.ret1 rfl rfl ?_
 exact ⟨hK, by rw [← idxS_contains]⟩
theorem using_ok {w : World} {v : Value} {T : List Thg} {d : List UInt8} (h0 : Rd thgS w v T) (hb : ∀ t ∈ T, t.text.length ≤ 1048576) (hl : T.length ≤ 1048576) :
   Calls Tryz.prog 86 #[v, St d] w (Ret fun v' w' => Below w.heap.size w w' ∧ Own w' w.heap.size 9 1 v' (usersT T d).length ((usersT T d).flatMap fun x => [St x])) := by
 obtain ⟨c, hO, hc⟩ := OldC.start w
 have h1 : RdC thgS c w [0] v T := Rd.toC h0 (fun k hk => by simp [hc, hasC])
 clear hc h0
 refine enter (n := 25) (res := #[.tmp 4]) Tryz.func86 rfl rfl rfl rfl <| cseq <| cg <| za rfl <| cnil <| cseq <| cg <| za rfl <| cnil <| cseq <| cseq <| cg <| zm rfl ?_
 first | refine vq (Val.rdlen sl22 (by assumption) rfl) ?_ | refine vq (Val.sllen Tryz.underlying22 rfl) ?_ | refine vq (Val.olen sl22 (by assumption) rfl) ?_ | refine vq (Val.rdlenC sl22 (by assumption) rfl) ?_
 refine zm rfl <| cnil <| cblock <| WC.loop (σ := Nat × Value) (fun st => [(1, St d), (8, v), (9, I T.length), (5, st.2), (10, I st.1)]) (fun st w' => ∃ c', OldC w c' w' ∧ RdC thgS c' w' [0] v T ∧ OwnC c' w' 5 9 1 st.2 (usersT (T.take st.1) d).length ((usersT (T.take st.1) d).flatMap fun x => [St x]) ∧ st.1 ≤ T.length) (fun st => T.length - st.1) (0, .slice none 0 0) subs ⟨_, hO, h1, OwnC.nil _ _ _ _ _, by simp⟩ ?_
 clear hO h1
 rintro ⟨k, vm⟩ wl ⟨cl, hO, h1, ho, hk⟩
 dsimp only at hO h1 ho hk ⊢
 have hpl := usersT_len (T.take k) d
 rw [List.length_take] at hpl
 refine cseq <| cg <| vq (Val.lss rfl rfl) <| cnil <| cseq <| WC.cond rfl (fun hc3 => ?_) (fun hc3 => ?_)
 ·try simp only [tstS] at hc3
  have ka : k < T.length := by omega
  obtain ⟨hc12, ok1⟩ := RdC.elFlat h1 ka (by decide)
  have hps := usersT_succ (d := d) ka
  have hnl := namesT_len T[k]
  refine cskip <| cseq <| cblock <| cseq <| cg ?_
  first | refine vq (Val.indexAddr sl22 (by assumption) rfl rfl rfl side side) ?_ | refine vq (Val.indexC sl22 (by assumption) rfl rfl side side) ?_ | refine vq (Val.indexO sl22 (by assumption) rfl rfl side side) ?_
  refine vq (Val.loadE agg60 rfl hc12.cel rfl) <| ve (Eff.allocC cl 107 zero60) ?_
  rintro _ w1 ⟨b7, c1, rfl, m, hb7⟩
  replace hO := hO.mv m; replace h1 := h1.mv m; replace ho := ho.mv m
  refine WR.eff_ (Eff.storeNC agg60 rfl rfl hb7 rfl rfl ones) ?_
  rintro _ w2 ⟨hS, m⟩
  replace hO := hO.mv m; replace h1 := h1.mv m; replace ho := ho.mv m
  replace hb7 := hS
  refine cnil <| cseq <| cg <| vq (Val.loadBN agg60 rfl hb7.blk rfl) <| ve (Eff.pureC c1 8 (Eff.call pf119 rfl (rnames_ok T[k] (hb _ (List.getElem_mem ka))))) ?_
  rintro v15 w3 ⟨c3, m, hx3, hn⟩
  replace hO := hO.mv m; replace h1 := h1.mv m; replace ho := ho.mv m; replace hb7 := hb7.mv m
  replace hn := hn.toC hx3
  refine zm rfl <| ve (Eff.pureC c3 1 (Eff.call pf94 rfl (contains_ok (hn.own.rdStrs namesT_texts (by omega))))) ?_
  rintro v17 w4 ⟨c4, m, hx4, rfl⟩
  replace hO := hO.mv m; replace h1 := h1.mv m; replace ho := ho.mv m; replace hb7 := hb7.mv m
  refine cnil <| WC.cond rfl (fun hc5 => ?_) (fun hc5 => ?_)
  ·try simp only [tstS] at hc5
   rw [if_pos hc5] at hps
   refine cg <| zm rfl <| vq (Val.fieldAddr fld60_0 rfl) <| vq (Val.loadB scl9 rfl hb7.blk rfl) <| ve (Eff.build1C c4 121 sl70 rfl rfl rfl rfl rfl) ?_
   rintro _ w5 ⟨b21, c5, rfl, m, hb21⟩
   replace hO := hO.mv m; replace h1 := h1.mv m; replace ho := ho.mv m
   refine ve (Eff.appendC sl70 rfl rfl ho (Src.cellsAt Tryz.underlying70 hb21.blk.cellsAt rfl ones) mxl oms) ?_
   rintro v22 w6 ⟨c6, m, hOq⟩
   clear hb21
   replace hO := hO.mv m; replace h1 := h1.mv m
   replace ho := hOq
   refine za rfl <| cnil <| cg <| vq (Val.addI rfl rfl side side) <| zm rfl <| cnil ?_
   first
   | exact ⟨(k + 1, vm), subs, ⟨_, hO, h1, by rw [hps]; exact ho, ka⟩, by dsimp only; omega⟩
   | exact ⟨(k + 1, v22), subs, ⟨_, hO, h1, by rw [hps, List.flatMap_append, List.length_append]; exact ho, ka⟩, by dsimp only; omega⟩
  try simp only [tstS] at hc5
  rw [if_neg (by rw [hc5]; decide)] at hps
  refine cskip <| cg <| vq (Val.addI rfl rfl side side) <| zm rfl <| cnil ?_
  first
  | exact ⟨(k + 1, vm), subs, ⟨_, hO, h1, by rw [hps]; exact ho, ka⟩, by dsimp only; omega⟩
  | exact ⟨(k + 1, v22), subs, ⟨_, hO, h1, by rw [hps, List.flatMap_append, List.length_append]; exact ho, ka⟩, by dsimp only; omega⟩
 try simp only [tstS] at hc3
 have : k = T.length := by omega
 subst this
 rw [List.take_length] at ho
 refine WC.exit rfl <| cseq <| cg <| zm rfl <| za rfl <| cnil <| WC.ret1 rfl rfl ?_
 exact ⟨hO.below, ho.fromOld hO (by decide)⟩
theorem pusers_ok {w : World} {v : Value} {T : List Thg} {d : List UInt8} (h0 : Rd thgS w v T) (hb : ∀ t ∈ T, t.text.length ≤ 1048576) (hl : T.length ≤ 1048576) :
   Calls Tryz.prog 96 #[v, St d] w (Ret fun v' w' => Below w.heap.size w w' ∧ Own w' w.heap.size 9 1 v' (usersT T d).length ((usersT T d).flatMap fun x => [St x])) := by
 obtain ⟨c, hO, hc⟩ := OldC.start w
 have h1 : RdC thgS c w [0] v T := Rd.toC h0 (fun k hk => by simp [hc, hasC])
 clear hc h0
 refine enter (n := 29) (res := #[.tmp 4]) Tryz.func96 rfl rfl rfl rfl <| cseq <| cg <| za rfl <| cnil <| cseq <| cg <| za rfl <| cnil <| cseq <| cseq <| cg <| za rfl <| cnil <| cblock <| WC.loop (σ := Nat × Value) (fun st => [(0, v), (1, St d), (5, st.2), (6, I st.1)]) (fun st w' => ∃ c', OldC w c' w' ∧ RdC thgS c' w' [0] v T ∧ OwnC c' w' 5 9 1 st.2 (usersT (T.take st.1) d).length ((usersT (T.take st.1) d).flatMap fun x => [St x]) ∧ st.1 ≤ T.length) (fun st => T.length - st.1) (0, .slice none 0 0) subs ⟨_, hO, h1, OwnC.nil _ _ _ _ _, by simp⟩ ?_
 clear hO h1
 rintro ⟨k, vm⟩ wl ⟨cl, hO, h1, ho, hk⟩
 dsimp only at hO h1 ho hk ⊢
 have hpl := usersT_len (T.take k) d
 rw [List.length_take] at hpl
 refine cseq <| cseq <| cg <| zm rfl <| zm rfl ?_
 first | refine vq (Val.rdlen sl22 (by assumption) rfl) ?_ | refine vq (Val.sllen Tryz.underlying22 rfl) ?_ | refine vq (Val.olen sl22 (by assumption) rfl) ?_ | refine vq (Val.rdlenC sl22 (by assumption) rfl) ?_
 refine vq (Val.lss rfl rfl) <| cnil <| WC.cond rfl (fun hc3 => ?_) (fun hc3 => ?_)
 ·try simp only [tstS] at hc3
  have ka : k < T.length := by omega
  obtain ⟨hc15, ok1⟩ := RdC.elFlat h1 ka (by decide)
  have hps := usersT_succ (d := d) ka
  have hnl := namesT_len T[k]
  have hc23 := hc15
  refine cskip <| cseq <| cblock <| cseq <| cg <| zm rfl <| zm rfl ?_
  first | refine vq (Val.indexAddr sl22 (by assumption) rfl rfl rfl side side) ?_ | refine vq (Val.indexC sl22 (by assumption) rfl rfl side side) ?_ | refine vq (Val.indexO sl22 (by assumption) rfl rfl side side) ?_
  refine vq (Val.loadE agg60 rfl hc15.cel rfl) <| ve (Eff.pureC cl 8 (Eff.call pf98 rfl (named_ok T[k] (hb _ (List.getElem_mem ka))))) ?_
  rintro v17 w1 ⟨c1, m, hx1, hn⟩
  replace hO := hO.mv m; replace h1 := h1.mv m; replace ho := ho.mv m; replace hc23 := hc23.mv m
  replace hn := hn.toC hx1
  refine zm rfl <| ve (Eff.pureC c1 1 (Eff.call pf69 rfl (zhas_ok (hn.own.rdStrs namesT_texts (by omega))))) ?_
  rintro v19 w2 ⟨c2, m, hx2, rfl⟩
  replace hO := hO.mv m; replace h1 := h1.mv m; replace ho := ho.mv m; replace hc23 := hc23.mv m
  refine cnil <| WC.cond rfl (fun hc5 => ?_) (fun hc5 => ?_)
  ·try simp only [tstS] at hc5
   rw [if_pos hc5] at hps
   refine cg <| zm rfl <| zm rfl <| zm rfl ?_
   first | refine vq (Val.indexAddr sl22 (by assumption) rfl rfl rfl side side) ?_ | refine vq (Val.indexC sl22 (by assumption) rfl rfl side side) ?_ | refine vq (Val.indexO sl22 (by assumption) rfl rfl side side) ?_
   refine vq (Val.fieldAddrP fld60_0 rfl) <| vq (Val.loadEf scl9 rfl hc23.cel rfl) <| ve (Eff.build1C c2 126 sl70 rfl rfl rfl rfl rfl) ?_
   rintro _ w3 ⟨b26, c3, rfl, m, hb26⟩
   replace hO := hO.mv m; replace h1 := h1.mv m; replace ho := ho.mv m
   refine ve (Eff.appendC sl70 rfl rfl ho (Src.cellsAt Tryz.underlying70 hb26.blk.cellsAt rfl ones) mxl oms) ?_
   rintro v27 w4 ⟨c4, m, hOq⟩
   clear hb26
   replace hO := hO.mv m; replace h1 := h1.mv m
   replace ho := hOq
   refine za rfl <| cnil <| cg <| zm rfl <| vq (Val.addI rfl rfl side side) <| za rfl <| cnil ?_
   first
   | exact ⟨(k + 1, vm), subs, ⟨_, hO, h1, by rw [hps]; exact ho, ka⟩, by dsimp only; omega⟩
   | exact ⟨(k + 1, v27), subs, ⟨_, hO, h1, by rw [hps, List.flatMap_append, List.length_append]; exact ho, ka⟩, by dsimp only; omega⟩
  try simp only [tstS] at hc5
  rw [if_neg (by rw [hc5]; decide)] at hps
  refine cskip <| cg <| zm rfl <| vq (Val.addI rfl rfl side side) <| za rfl <| cnil ?_
  first
  | exact ⟨(k + 1, vm), subs, ⟨_, hO, h1, by rw [hps]; exact ho, ka⟩, by dsimp only; omega⟩
  | exact ⟨(k + 1, v27), subs, ⟨_, hO, h1, by rw [hps, List.flatMap_append, List.length_append]; exact ho, ka⟩, by dsimp only; omega⟩
 try simp only [tstS] at hc3
 have : k = T.length := by omega
 subst this
 rw [List.take_length] at ho
 refine WC.exit rfl <| cseq <| cg <| zm rfl <| za rfl <| cnil <| WC.ret1 rfl rfl ?_
 exact ⟨hO.below, ho.fromOld hO (by decide)⟩
end Go.Proofs.YtdlpibhecdfbcabGreatDoor

namespace Silo
open Go Go.Eng
def ltr (c : UInt8) : Bool := (decide (97 ≤ c.toNat) && decide (c.toNat ≤ 122)) || (decide (48 ≤ c.toNat) && decide (c.toNat ≤ 57))
theorem ltr_dash : ltr 45 = false := by decide
theorem ltr_low : ltr 95 = false := by decide
def lead (p : UInt8 → Bool) : List UInt8 → Nat
  | [] => 0
  | c :: r => if p c then lead p r + 1 else 0
theorem lead_le (p : UInt8 → Bool) : ∀ s, lead p s ≤ s.length
  | [] => Nat.le_refl _
  | c :: r => by unfold lead; have := lead_le p r; split <;> simp <;> omega
theorem lead_pos {p : UInt8 → Bool} : ∀ {s : List UInt8} {i : Nat}, i < lead p s → ∃ h : i < s.length, p s[i] = true
  | [], i, h => by simp [lead] at h
  | c :: r, i, h => by
    unfold lead at h
    split at h
    · rename_i hp
      match i with
      | 0 => exact ⟨by simp, hp⟩
      | i + 1 =>
        obtain ⟨h1, h2⟩ := lead_pos (p := p) (s := r) (i := i) (by omega)
        exact ⟨by simp; omega, by simpa using h2⟩
    · omega
theorem lead_stop {p : UInt8 → Bool} : ∀ {s : List UInt8} (h : lead p s < s.length), p s[lead p s] = false
  | [], h => by simp at h
  | c :: r, h => by
    by_cases hp : p c = true
    · have e : lead p (c :: r) = lead p r + 1 := by simp [lead, hp]
      simp only [e, List.getElem_cons_succ]
      exact lead_stop (s := r) (by rw [e] at h; simpa using h)
    · have e : lead p (c :: r) = 0 := by simp [lead, hp]
      simp only [e, List.getElem_cons_zero]
      simpa using hp
theorem lead_eq {p : UInt8 → Bool} {s : List UInt8} {n : Nat} (hn : n ≤ s.length) (h1 : ∀ i (h : i < s.length), i < n → p s[i] = true) (h2 : ∀ h : n < s.length, p s[n] = false) : lead p s = n := by
  rcases Nat.lt_trichotomy (lead p s) n with h | h | h
  · have := lead_stop (p := p) (s := s) (by omega)
    rw [h1 _ (by omega) h] at this; cases this
  · exact h
  · obtain ⟨h3, h4⟩ := lead_pos h
    rw [h2 h3] at h4; cases h4
def betw (s : List UInt8) : Nat :=
  if 0 < lead (· == 45) s then lead (· == 45) s else if s.take 2 = [95, 95] then 2 else if s.take 1 = [46] ∨ s.take 1 = [95] then 1 else 0
theorem betw_le (s : List UInt8) : betw s ≤ s.length := by
  have := lead_le (· == 45) s
  unfold betw
  split
  · exact this
  · split
    · rename_i h; have := congrArg List.length h; simp at this; omega
    · split
      · rename_i h; rcases h with h | h <;> (have := congrArg List.length h; simp at this; omega)
      · omega
def partGo : Nat → List UInt8 → Bool
  | 0, _ => false
  | k + 1, s =>
    if lead ltr s = 0 ∨ s.drop (lead ltr s) = [] then decide (0 < lead ltr s)
    else if betw (s.drop (lead ltr s)) = 0 then false
    else partGo k ((s.drop (lead ltr s)).drop (betw (s.drop (lead ltr s))))
def partB (s : List UInt8) : Bool := partGo (s.length + 1) s
def gapOk (w : List UInt8) : Bool := (w == [46]) || (w == [95]) || (w == [95, 95]) || w.all (· == 45)
def gapsGo : Nat → List UInt8 → Bool
  | 0, _ => true
  | _ + 1, [] => true
  | k + 1, c :: r => if ltr c = true then gapsGo k r else gapOk ((c :: r).take (lead (fun c => !ltr c) (c :: r))) && gapsGo k ((c :: r).drop (lead (fun c => !ltr c) (c :: r)))
theorem gapsGo_yes {k : Nat} {c : UInt8} {r : List UInt8} (h : ltr c = true) : gapsGo (k + 1) (c :: r) = gapsGo k r := by rw [gapsGo, if_pos h]
theorem gapsGo_no {k : Nat} {c : UInt8} {r : List UInt8} (h : ltr c = false) : gapsGo (k + 1) (c :: r) = (gapOk ((c :: r).take (lead (fun c => !ltr c) (c :: r))) && gapsGo k ((c :: r).drop (lead (fun c => !ltr c) (c :: r)))) := by rw [gapsGo, if_neg (by simp [h])]
def partP (s : List UInt8) : Bool := match s with
  | [] => false
  | c :: r => ltr c && ltr ((c :: r).getLast (by simp)) && gapsGo (s.length + 1) s
theorem lead_cons_pos {p : UInt8 → Bool} {c : UInt8} {r : List UInt8} (h : p c = true) : lead p (c :: r) = lead p r + 1 := by simp [lead, h]
theorem lead_cons_neg {p : UInt8 → Bool} {c : UInt8} {r : List UInt8} (h : p c = false) : lead p (c :: r) = 0 := by simp [lead, h]
theorem gapsGo_enough : ∀ (k m : Nat) (s : List UInt8), s.length < k → s.length < m → gapsGo k s = gapsGo m s
  | k + 1, m + 1, [], _, _ => rfl
  | k + 1, m + 1, c :: r, hk, hm => by
    simp only [List.length_cons] at hk hm
    cases hc : ltr c with
    | true => rw [gapsGo_yes hc, gapsGo_yes hc]; exact gapsGo_enough k m r (by omega) (by omega)
    | false =>
      rw [gapsGo_no hc, gapsGo_no hc]
      have h1 : 0 < lead (fun c => !ltr c) (c :: r) := by rw [lead_cons_pos (by simp [hc])]; omega
      rw [gapsGo_enough k m _ (by simp only [List.length_drop, List.length_cons]; omega) (by simp only [List.length_drop, List.length_cons]; omega)]
theorem gapsGo_letters : ∀ (s : List UInt8) (k : Nat), s.length < k → gapsGo k s = gapsGo k (s.drop (lead ltr s))
  | [], _, _ => rfl
  | c :: r, k, h => by
    cases hc : ltr c with
    | false => rw [lead_cons_neg hc]; rfl
    | true =>
      rw [lead_cons_pos hc, List.drop_succ_cons]
      match k with
      | k + 1 =>
        simp only [List.length_cons] at h
        rw [gapsGo_yes hc, gapsGo_letters r k (by omega)]
        exact gapsGo_enough _ _ _ (by simp; omega) (by simp; omega)
theorem drop_head_ltr {s : List UInt8} (h : s.drop (lead ltr s) ≠ []) : ∃ c r, s.drop (lead ltr s) = c :: r ∧ ltr c = false := by
 have hlt : lead ltr s < s.length := by
   rcases Nat.lt_or_ge (lead ltr s) s.length with h1 | h1
   · exact h1
   exact absurd (List.drop_eq_nil_of_le h1) h
 refine ⟨s[lead ltr s], s.drop (lead ltr s + 1), List.drop_eq_getElem_cons hlt, lead_stop hlt⟩
theorem betw_gap {c : UInt8} {r : List UInt8} (hc : ltr c = false) : let k := lead (fun c => !ltr c) (c :: r); (betw (c :: r) = k ∧ gapOk ((c :: r).take k) = true) ∨ (betw (c :: r) < k ∧ gapOk ((c :: r).take k) = false) := by
 intro k
 have hk : 0 < k := by show 0 < lead _ (c :: r); rw [lead_cons_pos (by simp [hc])]; omega
 have hkl : k ≤ (c :: r).length := lead_le _ _
 have hnl : ∀ i (h : i < (c :: r).length), i < k → ltr (c :: r)[i] = false := fun i h hi => by
   obtain ⟨_, h2⟩ := lead_pos (p := fun c => !ltr c) hi
   simpa using h2
 have hst : ∀ h : k < (c :: r).length, ltr (c :: r)[k] = true := fun h => by
   have := lead_stop (p := fun c => !ltr c) (s := c :: r) h
   simpa using this
 have hdk : lead (· == 45) (c :: r) ≤ k := by
   rcases Nat.lt_or_ge k (lead (· == 45) (c :: r)) with h | h
   · obtain ⟨h1, h2⟩ := lead_pos h
     have h3 := hst h1
     rw [beq_iff_eq] at h2
     rw [h2, ltr_dash] at h3; cases h3
   exact h
 generalize hs : c :: r = s at *
 have htl : (s.take k).length = k := by simp; omega
 have hall : (s.take k).all (· == 45) = true ↔ lead (· == 45) s = k := by
   constructor
   · intro h
     refine lead_eq hkl (fun i hi hik => ?_) (fun h1 => ?_)
     · rw [List.all_eq_true] at h
       have := h (s.take k)[i] (List.getElem_mem (by omega))
       simpa using this
     have h2 := hst h1
     cases hb : (s[k] == 45) with
     | false => rfl
     | true => rw [beq_iff_eq] at hb; rw [hb, ltr_dash] at h2; cases h2
   intro h
   rw [List.all_eq_true]
   intro x hx
   obtain ⟨i, hi, rfl⟩ := List.mem_iff_getElem.1 hx
   rw [List.length_take] at hi
   obtain ⟨_, h2⟩ := lead_pos (p := (· == 45)) (s := s) (i := i) (by omega)
   simpa using h2
 have h0 : s[0]? = some c := by rw [← hs]; rfl
 by_cases hd : 0 < lead (· == 45) s
 · have hb : betw s = lead (· == 45) s := by rw [betw, if_pos hd]
   have hc45 : c = 45 := by
     obtain ⟨h1, h2⟩ := lead_pos hd
     rw [List.getElem?_eq_getElem h1] at h0
     injection h0 with h0
     rw [← h0]; simpa using h2
   by_cases he : lead (· == 45) s = k
   · left
     exact ⟨by rw [hb, he], by simp only [gapOk, hall.2 he, Bool.or_true]⟩
   right
   refine ⟨by rw [hb]; omega, ?_⟩
   have hh : ∀ t : List UInt8, s.take k = t → t[0]? = some 45 := fun t ht => by
     rw [← ht, List.getElem?_take_of_lt hk, h0, hc45]
   have n1 : (s.take k == [46]) = false := by rw [beq_eq_false_iff_ne]; intro h; have := hh _ h; simp at this
   have n2 : (s.take k == [95]) = false := by rw [beq_eq_false_iff_ne]; intro h; have := hh _ h; simp at this
   have n3 : (s.take k == [95, 95]) = false := by rw [beq_eq_false_iff_ne]; intro h; have := hh _ h; simp at this
   have n4 : (s.take k).all (· == 45) = false := by
     cases h : (s.take k).all (· == 45) with
     | false => rfl
     | true => exact absurd (hall.1 h) he
   simp only [gapOk, n1, n2, n3, n4, Bool.or_false]
 have n4 : (s.take k).all (· == 45) = false := by
   cases h : (s.take k).all (· == 45) with
   | false => rfl
   | true => have := hall.1 h; omega
 have hb : betw s = if s.take 2 = [95, 95] then 2 else if s.take 1 = [46] ∨ s.take 1 = [95] then 1 else 0 := by rw [betw, if_neg hd]
 have ht1 : s.take 1 = [c] := by rw [← hs]; rfl
 by_cases h2 : s.take 2 = [95, 95]
 · have hb2 : betw s = 2 := by rw [hb, if_pos h2]
   have hl2 : 2 ≤ s.length := by have := congrArg List.length h2; simp at this; omega
   have h1g : s[1]? = some 95 := by
     have : (s.take 2)[1]? = some 95 := by rw [h2]; rfl
     rwa [List.getElem?_take_of_lt (by omega)] at this
   have hk2 : 2 ≤ k := by
     rcases Nat.lt_or_ge 1 k with h | h
     · exact h
     have hk1 : k = 1 := by omega
     have h3 := hst (by omega)
     have h4 : s[k]? = some 95 := by rw [hk1]; exact h1g
     rw [List.getElem?_eq_getElem (by omega)] at h4
     injection h4 with h4
     rw [h4, ltr_low] at h3; cases h3
   rcases Nat.eq_or_lt_of_le hk2 with h3 | h3
   · left
     refine ⟨by rw [hb2, h3], ?_⟩
     rw [← h3, h2]; rfl
   right
   refine ⟨by rw [hb2]; exact h3, ?_⟩
   have hne : ∀ t : List UInt8, t.length ≤ 2 → (s.take k == t) = false := fun t ht => by
     rw [beq_eq_false_iff_ne]; intro h
     have := congrArg List.length h; omega
   simp only [gapOk, hne [46] (by simp), hne [95] (by simp), hne [95, 95] (by simp), n4, Bool.or_false]
 by_cases h1 : s.take 1 = [46] ∨ s.take 1 = [95]
 · have hb1 : betw s = 1 := by rw [hb, if_neg h2, if_pos h1]
   rcases Nat.eq_or_lt_of_le (show 1 ≤ k from hk) with h3 | h3
   · left
     refine ⟨by rw [hb1, h3], ?_⟩
     rw [← h3]
     rcases h1 with h1 | h1 <;> rw [h1] <;> rfl
   right
   refine ⟨by rw [hb1]; exact h3, ?_⟩
   have hne : ∀ t : List UInt8, t.length ≤ 1 → (s.take k == t) = false := fun t ht => by
     rw [beq_eq_false_iff_ne]; intro h
     have := congrArg List.length h; omega
   have n3 : (s.take k == [95, 95]) = false := by
     rw [beq_eq_false_iff_ne]; intro h
     have hk2 : k = 2 := by have := congrArg List.length h; simp at this; omega
     rw [hk2] at h; exact h2 h
   simp only [gapOk, hne [46] (by simp), hne [95] (by simp), n3, n4, Bool.or_false]
 have hb0 : betw s = 0 := by rw [hb, if_neg h2, if_neg h1]
 right
 refine ⟨by omega, ?_⟩
 rw [ht1] at h1
 have hh : ∀ t : List UInt8, s.take k = t → t[0]? = some c := fun t ht => by rw [← ht, List.getElem?_take_of_lt hk, h0]
 have n1 : (s.take k == [46]) = false := by rw [beq_eq_false_iff_ne]; intro h; have := hh _ h; simp at this; exact h1 (.inl (by rw [this]))
 have n2 : (s.take k == [95]) = false := by rw [beq_eq_false_iff_ne]; intro h; have := hh _ h; simp at this; exact h1 (.inr (by rw [this]))
 have n3 : (s.take k == [95, 95]) = false := by rw [beq_eq_false_iff_ne]; intro h; have := hh _ h; simp at this; exact h1 (.inr (by rw [this]))
 simp only [gapOk, n1, n2, n3, n4, Bool.or_false]
theorem getLast_drop {s : List UInt8} {n : Nat} (h : s.drop n ≠ []) (h0 : s ≠ []) : (s.drop n).getLast h = s.getLast h0 := by
  rw [List.getLast_drop]
theorem partP_cons {s : List UInt8} (h : s ≠ []) : partP s = (ltr (s.head h) && ltr (s.getLast h) && gapsGo (s.length + 1) s) := by
  cases s with
  | nil => exact absurd rfl h
  | cons c r => rfl
theorem partGo_eq : ∀ (k : Nat) (s : List UInt8), s.length < k → partGo k s = partP s
  | k + 1, s, hk => by
    unfold partGo
    have hll := lead_le ltr s
    by_cases h0 : lead ltr s = 0
    · rw [if_pos (.inl h0), h0]
      cases s with
      | nil => rfl
      | cons c r =>
        have hc : ltr c = false := by
          cases hc : ltr c with
          | false => rfl
          | true => rw [lead_cons_pos hc] at h0; omega
        rw [partP_cons (by simp)]
        simp [hc]
    · have hne : s ≠ [] := by intro e; subst e; exact h0 rfl
      have hhead : ltr (s.head hne) = true := by
        obtain ⟨h1, h2⟩ := lead_pos (p := ltr) (s := s) (i := 0) (by omega)
        rw [List.head_eq_getElem]; exact h2
      by_cases h1 : s.drop (lead ltr s) = []
      · rw [if_pos (.inr h1)]
        rw [partP_cons hne, hhead, gapsGo_letters s _ (by omega), h1]
        have hlen : lead ltr s = s.length := by
          rcases Nat.lt_or_ge (lead ltr s) s.length with h2 | h2
          · have := congrArg List.length h1; simp at this; omega
          · omega
        obtain ⟨h3, h4⟩ := lead_pos (p := ltr) (s := s) (i := s.length - 1) (by omega)
        have hlast : ltr (s.getLast hne) = true := by rw [List.getLast_eq_getElem]; exact h4
        rw [hlast]
        simp [gapsGo]; omega
      · rw [if_neg (by simp [h0, h1])]
        obtain ⟨c, r, hcr, hc⟩ := drop_head_ltr h1
        have hlr : (c :: r).length = s.length - lead ltr s := by rw [← hcr]; simp
        rw [hcr]
        have hg := betw_gap (r := r) hc
        simp only at hg
        have hpp : partP s = (ltr (s.getLast hne) && gapsGo (s.length + 1) (c :: r)) := by
          rw [partP_cons hne, hhead, gapsGo_letters s _ (by omega), hcr]; simp
        have hlast : s.getLast hne = (c :: r).getLast (by simp) := by
          have := getLast_drop (s := s) (n := lead ltr s) (by rw [hcr]; simp) hne
          rw [← this]; simp only [hcr]
        generalize hkk : lead (fun c => !ltr c) (c :: r) = q at hg
        have hq0 : 0 < q := by rw [← hkk, lead_cons_pos (by simp [hc])]; omega
        have hql : q ≤ (c :: r).length := by rw [← hkk]; exact lead_le _ _
        have hgo : gapsGo (s.length + 1) (c :: r) = (gapOk ((c :: r).take q) && gapsGo s.length ((c :: r).drop q)) := by
          rw [gapsGo_no hc, hkk]
        rw [hpp, hgo, hlast]
        rcases hg with ⟨hb, hok⟩ | ⟨hb, hno⟩
        · rw [hb, if_neg (by omega), hok]
          rw [partGo_eq k _ (by simp only [List.length_drop]; omega)]
          cases hdr : (c :: r).drop q with
          | nil =>
            have hqe : q = (c :: r).length := by
              rcases Nat.lt_or_ge q (c :: r).length with h2 | h2
              · have := congrArg List.length hdr; rw [List.length_drop] at this; simp only [List.length_nil] at this; omega
              · omega
            obtain ⟨h3, h4⟩ := lead_pos (p := fun c => !ltr c) (s := c :: r) (i := (c :: r).length - 1) (by rw [hkk]; omega)
            have : ltr ((c :: r).getLast (by simp)) = false := by rw [List.getLast_eq_getElem]; simpa using h4
            rw [this]; rfl
          | cons d t =>
            have hd : ltr d = true := by
              have hql' : q < (c :: r).length := by
                rcases Nat.lt_or_ge q (c :: r).length with h2 | h2
                · exact h2
                · rw [List.drop_eq_nil_of_le h2] at hdr; cases hdr
              have h3 := lead_stop (p := fun c => !ltr c) (s := c :: r) (by rw [hkk]; exact hql')
              rw [List.drop_eq_getElem_cons hql'] at hdr
              injection hdr with h4 _
              simp only [hkk] at h3
              rw [← h4]; simpa using h3
            have hl2 : (c :: r).getLast (by simp) = (d :: t).getLast (by simp) := by
              have := getLast_drop (s := c :: r) (n := q) (by rw [hdr]; simp) (by simp)
              rw [← this]; simp only [hdr]
            have hlen : (d :: t).length = (c :: r).length - q := by rw [← hdr]; simp
            rw [partP_cons (by simp), hl2]
            simp only [List.head_cons, hd, Bool.true_and]
            rw [gapsGo_enough _ s.length _ (by omega) (by omega)]
        · rw [hno]
          simp only [Bool.false_and, Bool.and_false]
          by_cases hb0 : betw (c :: r) = 0
          · rw [if_pos hb0]
          · rw [if_neg hb0]
            -- what follows begins with no letter
            have hlt : betw (c :: r) < (c :: r).length := by omega
            have hnl : ltr (c :: r)[betw (c :: r)] = false := by
              obtain ⟨_, h4⟩ := lead_pos (p := fun c => !ltr c) (s := c :: r) (i := betw (c :: r)) (by rw [hkk]; exact hb)
              simpa using h4
            rw [partGo_eq k _ (by simp only [List.length_drop]; omega), List.drop_eq_getElem_cons hlt, partP_cons (by simp)]
            simp [hnl]
end Silo

namespace Silo
open Go Go.Eng
structure Tg where
  name : List UInt8
  digest : List UInt8
  deriving DecidableEq
structure Ses where
  id : Int
  text : List UInt8
  deriving DecidableEq
structure Sta where
  things : List Thg
  tags : List Tg
  sessions : List Ses
  next : Int
  deriving DecidableEq
structure MOp where
  kind : Int
  id : Int
  n : Int
  m : Int
  name : List UInt8
  digest : List UInt8
  text : List UInt8
  deriving DecidableEq
structure Rep where
  n : Int
  text : List UInt8
  err : Int
  deriving DecidableEq
abbrev encTg (t : Tg) : List Value := [St t.name, St t.digest]
abbrev encSes (t : Ses) : List Value := [I t.id, St t.text]
abbrev encOp (o : MOp) : List Value := [I o.kind, I o.id, I o.n, I o.m, St o.name, St o.digest, St o.text]
abbrev encRep (r : Rep) : List Value := [I r.n, St r.text, I r.err]
def tgS : Shape Tg := Shape.flat 2 encTg (fun t => t.name.length ≤ 140737488355328 ∧ t.digest.length ≤ 140737488355328) (fun _ => rfl) (fun _ u hu => by simp [encTg] at hu; rcases hu with rfl | rfl <;> rfl)
def sesS : Shape Ses := Shape.flat 2 encSes (fun t => Go.Eng.Int64 t.id ∧ t.text.length ≤ 140737488355328) (fun _ => rfl) (fun _ u hu => by simp [encSes] at hu; rcases hu with rfl | rfl <;> rfl)
def opS : Shape MOp := Shape.flat 7 encOp (fun o => (Go.Eng.Int64 o.kind ∧ Go.Eng.Int64 o.id ∧ Go.Eng.Int64 o.n ∧ Go.Eng.Int64 o.m) ∧ o.name.length ≤ 140737488355328 ∧ o.digest.length ≤ 140737488355328 ∧ o.text.length ≤ 140737488355328) (fun _ => rfl)
  (fun _ u hu => by simp [encOp] at hu; rcases hu with rfl | rfl | rfl | rfl | rfl | rfl | rfl <;> rfl)
def cutB (c : UInt8) (s : List UInt8) : List UInt8 × Option (List UInt8) := (s.take (lead (fun x => !(x == c)) s), if lead (fun x => !(x == c)) s < s.length then some (s.drop (lead (fun x => !(x == c)) s + 1)) else none)
def splitB (c : UInt8) : Nat → List UInt8 → List (List UInt8)
  | 0, _ => []
  | k + 1, s => match (cutB c s).2 with
    | none => [(cutB c s).1]
    | some r => (cutB c s).1 :: splitB c k r
def parts (s : List UInt8) : List (List UInt8) := splitB 47 (s.length + 1) s
def verAt (i : Nat) (c : UInt8) : Bool := ltr c || (decide (65 ≤ c.toNat) && decide (c.toNat ≤ 90)) || c == 95 || (!decide (i = 0) && (c == 46 || c == 45))
def verOk (s : List UInt8) : Bool := !(s == []) && (List.range s.length).all fun i => verAt i (s[i]?.getD 0)
def verOf (s : List UInt8) : List UInt8 := match (cutB 58 s).2 with | none => [108, 97, 116, 101, 115, 116] | some v => v
def nameOk (s : List UInt8) : Bool := decide (s.length ≤ 40) && (parts (cutB 58 s).1).all partB && verOk (verOf s)
def isT (T : List Thg) (d : List UInt8) (sub : Bool) : Bool := match findT T d with | none => false | some i => ((T[i]?.map Thg.manifest).getD false) == sub
def thereT (T : List Thg) (m : Man) : Bool := m.blobs.all (fun d => isT T d false) && m.subs.all (fun d => isT T d true)
def namesOk (T : List Thg) (s : List UInt8) : Bool := match manTake s with | none => false | some m => thereT T m
def thingOk (T : List Thg) (t : Thg) : Bool := (digestS t.text == t.digest) && (!t.manifest || namesOk T t.text)
def thingsOk (T : List Thg) : Bool := thgsMay T && T.all (thingOk T)
def tagAt (S : Sta) (i : Nat) : Bool := match S.tags[i]? with
  | none => true
  | some t => nameOk t.name && isT S.things t.digest true && (decide (i = 0) || Op.bytesLess ((S.tags[i - 1]?.map Tg.name).getD []) t.name)
def tagsOk (S : Sta) : Bool := decide (S.tags.length ≤ 40) && (List.range S.tags.length).all (tagAt S)
def sesAt (S : Sta) (i : Nat) : Bool := match S.sessions[i]? with
  | none => true
  | some x => (decide (0 ≤ x.id) && decide (x.id < S.next)) && decide (x.text.length ≤ 2000) && (decide (i = 0) || decide (((S.sessions[i - 1]?.map Ses.id).getD 0) < x.id))
def sesOk (S : Sta) : Bool := decide (S.sessions.length ≤ 8) && (List.range S.sessions.length).all (sesAt S)
def staMay (S : Sta) : Bool := (decide (0 ≤ S.next) && decide (S.next ≤ 1073741824)) && sesOk S && thingsOk S.things && tagsOk S
def findG (l : List Tg) (d : List UInt8) : Option Nat := l.findIdx? fun t => t.name == d
def findS (l : List Ses) (id : Int) : Option Nat := l.findIdx? fun t => decide (t.id = id)
def lowG (l : List Tg) (d : List UInt8) : Nat := lowBy (fun t => Op.bytesLess t.name d) l
abbrev Res := Sta × Rep
def bad (S : Sta) (e : Int) : Res := (S, ⟨0, [], e⟩)
def keepT (T : List Thg) (t : Thg) : Option (List Thg) := if (findT T t.digest).isSome then some T else if 60 ≤ T.length then none else some (T.take (lowT T t.digest) ++ t :: T.drop (lowT T t.digest))
def doStart (S : Sta) : Res := if 8 ≤ S.sessions.length ∨ 1073741824 ≤ S.next then bad S 2 else ({ S with sessions := S.sessions ++ [⟨S.next, []⟩], next := S.next + 1 }, ⟨S.next, [], 0⟩)
def doUp (S : Sta) (o : MOp) : Res := match findS S.sessions o.id with
  | none => bad S 3
  | some k =>
    let x := (S.sessions[k]?).getD ⟨0, []⟩
    if o.kind = 2 then
      if 2000 < x.text.length + o.text.length then bad S 2 else ({ S with sessions := S.sessions.set k ⟨x.id, x.text ++ o.text⟩ }, ⟨((x.text ++ o.text).length : Nat), [], 0⟩)
    else if o.kind = 3 then
      if digestS x.text = o.digest then
        match keepT S.things ⟨o.digest, x.text, false⟩ with
        | none => bad S 2
        | some T' => ({ S with things := T', sessions := S.sessions.eraseIdx k }, ⟨(x.text.length : Nat), [], 0⟩)
      else bad S 7
    else ({ S with sessions := S.sessions.eraseIdx k }, ⟨0, [], 0⟩)
def doThing (S : Sta) (o : MOp) : Res := match findT S.things o.digest with
  | none => bad S 3
  | some i =>
    let t := ((S.things[i]?).map Thg.text).getD []
    if o.kind = 4 then (S, ⟨0, t, 0⟩)
    else if o.kind = 5 then (S, ⟨(t.length : Nat), [], 0⟩)
    else if o.kind = 6 then
      if o.n < 0 ∨ (t.length : Int) < o.n ∨ o.m < 0 then bad S 1 else (S, ⟨0, (t.drop o.n.toNat).take (min o.m (t.length - o.n)).toNat, 0⟩)
    else if (S.tags.any fun g => g.digest == o.digest) || decide (0 < (usersT S.things o.digest).length) then bad S 11
    else ({ S with things := S.things.eraseIdx i }, ⟨0, [], 0⟩)
def doMan (S : Sta) (o : MOp) : Res := match manTake o.text with
  | none => bad S 7
  | some m =>
    if thereT S.things m then
      match keepT S.things ⟨digestS o.text, o.text, true⟩ with
      | none => bad S 2
      | some T' => ({ S with things := T' }, ⟨0, digestS o.text, 0⟩)
    else bad S 3
def doTag (S : Sta) (o : MOp) : Res :=
  if o.kind = 9 then
    if nameOk o.name then
      if isT S.things o.digest true then
        match findG S.tags o.name with
        | some k => ({ S with tags := S.tags.set k ⟨o.name, o.digest⟩ }, ⟨0, [], 0⟩)
        | none => if 40 ≤ S.tags.length then bad S 2 else ({ S with tags := S.tags.take (lowG S.tags o.name) ++ ⟨o.name, o.digest⟩ :: S.tags.drop (lowG S.tags o.name) }, ⟨0, [], 0⟩)
      else bad S 3
    else bad S 7
  else match findG S.tags o.name with
    | none => bad S 3
    | some k => if o.kind = 10 then (S, ⟨0, ((S.tags[k]?).map Tg.digest).getD [], 0⟩) else ({ S with tags := S.tags.eraseIdx k }, ⟨0, [], 0⟩)
noncomputable def sweptT (S : Sta) : List Thg := S.things.filter fun t => (fromT S.things (S.tags.map Tg.digest)).contains t.digest
noncomputable def doSweep (S : Sta) : Res := ({ S with things := sweptT S }, ⟨(S.things.length : Int) - (sweptT S).length, [], 0⟩)
noncomputable def doM (S : Sta) (o : MOp) : Res :=
  if o.kind = 1 then doStart S
  else if o.kind = 2 ∨ o.kind = 3 ∨ o.kind = 13 then doUp S o
  else if 4 ≤ o.kind ∧ o.kind ≤ 7 then doThing S o
  else if o.kind = 8 then doMan S o
  else if 9 ≤ o.kind ∧ o.kind ≤ 11 then doTag S o
  else doSweep S
def opOk (o : MOp) : Bool := decide (1 ≤ o.kind) && decide (o.kind ≤ 13)
def openedS (S : Sta) : Sta := { S with sessions := [], next := 0 }
end Silo

namespace Silo
open Go Go.Eng
theorem encThg_len (x : Thg) : (encThg x).length = 3 := rfl
theorem encTg_len (x : Tg) : (encTg x).length = 2 := rfl
theorem encSes_len (x : Ses) : (encSes x).length = 2 := rfl
theorem encThg_one (x : Thg) : ∀ u ∈ encThg x, u.oneCell' = true := fun u hu => by simp [encThg] at hu; rcases hu with rfl | rfl | rfl <;> rfl
theorem encTg_one (x : Tg) : ∀ u ∈ encTg x, u.oneCell' = true := fun u hu => by simp [encTg] at hu; rcases hu with rfl | rfl <;> rfl
theorem encSes_one (x : Ses) : ∀ u ∈ encSes x, u.oneCell' = true := fun u hu => by simp [encSes] at hu; rcases hu with rfl | rfl <;> rfl
end Silo
namespace Go.Proofs.YtdlpibhecdfbcabGreatDoor
open Go Go.Eng Go.RowKit Silo TryzT
theorem cloneT_ok {w : World} {v : Value} {l : List Thg} (h0 : Rd thgS w v l) (hp : PlainV v) (hl : l.length ≤ 1048576) : Calls Tryz.prog 52 #[v] w (Ret fun v' w' => Below w.heap.size w w' ∧ Own w' w.heap.size 60 3 v' l.length (l.flatMap encThg)) := by
 obtain ⟨c, hO, hc⟩ := OldC.start w
 have h1 : RdC thgS c w [0] v l := Rd.toC h0 (fun k hk => by simp [hc, hasC])
 clear hc
 obtain ⟨A, n, cp, rfl, hA⟩ := hp
 have hn : l.length = n := by obtain ⟨A', c', he, _⟩ := h0.form; injection he with _ he _; exact he.symm
 clear h0
 refine enter (n := 8) (res := #[.tmp 2]) Tryz.func52 rfl rfl rfl rfl <| cseq <| cg <| za rfl <| cnil <| cseq <| cseq <| cg <| zm rfl <| vq (Val.eqnil Tryz.underlying22 rfl) <| cnil <| WC.cond rfl (fun hc1 => ?_) (fun hc1 => ?_)
 ·try simp only [tstS] at hc1
  refine cseq <| cg <| za rfl <| cnil <| WC.ret1 rfl rfl ?_
  have h0 : l = [] := by
    cases l with
    | nil => rfl
    | cons a r =>
      obtain ⟨b, off, h⟩ := hA (by rw [← hn]; simp)
      rw [h] at hc1; cases hc1
  subst h0
  exact ⟨hO.below, Own.nil _ _ _ _⟩
 try simp only [tstS] at hc1
 refine cskip <| cseq <| cg <| ve ((Eff.build0C c sl22)) ?_
 rintro v5 w1 ⟨c1, m, ⟨b5, rfl⟩⟩
 replace hO := hO.mv m; replace h1 := h1.mv m
 have ho : OwnC c1 w1 50 60 3 (.slice (some ⟨b5, 0, none⟩) 0 0) 0 [] := OwnC.emptyB
 refine zm rfl <| ve (Eff.appendC sl22 rfl rfl ho (Src.flat Tryz.underlying22 h1.now) mxl oms) ?_
 rintro v7 w2 ⟨c2, m, hOq⟩
 replace hO := hO.mv m
 replace ho := hOq
 rw [List.nil_append, Nat.zero_add] at ho
 refine za rfl <| cnil <| WC.ret1 rfl rfl ?_
 exact ⟨hO.below, ho.fromOld hO (by decide)⟩
theorem cloneG_ok {w : World} {v : Value} {l : List Tg} (h0 : Rd tgS w v l) (hp : PlainV v) (hl : l.length ≤ 1048576) : Calls Tryz.prog 53 #[v] w (Ret fun v' w' => Below w.heap.size w w' ∧ Own w' w.heap.size 66 2 v' l.length (l.flatMap encTg)) := by
 obtain ⟨c, hO, hc⟩ := OldC.start w
 have h1 : RdC tgS c w [0] v l := Rd.toC h0 (fun k hk => by simp [hc, hasC])
 clear hc
 obtain ⟨A, n, cp, rfl, hA⟩ := hp
 have hn : l.length = n := by obtain ⟨A', c', he, _⟩ := h0.form; injection he with _ he _; exact he.symm
 clear h0
 refine enter (n := 8) (res := #[.tmp 2]) Tryz.func53 rfl rfl rfl rfl <| cseq <| cg <| za rfl <| cnil <| cseq <| cseq <| cg <| zm rfl <| vq (Val.eqnil Tryz.underlying23 rfl) <| cnil <| WC.cond rfl (fun hc1 => ?_) (fun hc1 => ?_)
 ·try simp only [tstS] at hc1
  refine cseq <| cg <| za rfl <| cnil <| WC.ret1 rfl rfl ?_
  have h0 : l = [] := by
    cases l with
    | nil => rfl
    | cons a r =>
      obtain ⟨b, off, h⟩ := hA (by rw [← hn]; simp)
      rw [h] at hc1; cases hc1
  subst h0
  exact ⟨hO.below, Own.nil _ _ _ _⟩
 try simp only [tstS] at hc1
 refine cskip <| cseq <| cg <| ve ((Eff.build0C c sl23)) ?_
 rintro v5 w1 ⟨c1, m, ⟨b5, rfl⟩⟩
 replace hO := hO.mv m; replace h1 := h1.mv m
 have ho : OwnC c1 w1 50 66 2 (.slice (some ⟨b5, 0, none⟩) 0 0) 0 [] := OwnC.emptyB
 refine zm rfl <| ve (Eff.appendC sl23 rfl rfl ho (Src.flat Tryz.underlying23 h1.now) mxl oms) ?_
 rintro v7 w2 ⟨c2, m, hOq⟩
 replace hO := hO.mv m
 replace ho := hOq
 rw [List.nil_append, Nat.zero_add] at ho
 refine za rfl <| cnil <| WC.ret1 rfl rfl ?_
 exact ⟨hO.below, ho.fromOld hO (by decide)⟩
theorem cloneS_ok {w : World} {v : Value} {l : List Ses} (h0 : Rd sesS w v l) (hp : PlainV v) (hl : l.length ≤ 1048576) : Calls Tryz.prog 54 #[v] w (Ret fun v' w' => Below w.heap.size w w' ∧ Own w' w.heap.size 63 2 v' l.length (l.flatMap encSes)) := by
 obtain ⟨c, hO, hc⟩ := OldC.start w
 have h1 : RdC sesS c w [0] v l := Rd.toC h0 (fun k hk => by simp [hc, hasC])
 clear hc
 obtain ⟨A, n, cp, rfl, hA⟩ := hp
 have hn : l.length = n := by obtain ⟨A', c', he, _⟩ := h0.form; injection he with _ he _; exact he.symm
 clear h0
 refine enter (n := 8) (res := #[.tmp 2]) Tryz.func54 rfl rfl rfl rfl <| cseq <| cg <| za rfl <| cnil <| cseq <| cseq <| cg <| zm rfl <| vq (Val.eqnil Tryz.underlying24 rfl) <| cnil <| WC.cond rfl (fun hc1 => ?_) (fun hc1 => ?_)
 ·try simp only [tstS] at hc1
  refine cseq <| cg <| za rfl <| cnil <| WC.ret1 rfl rfl ?_
  have h0 : l = [] := by
    cases l with
    | nil => rfl
    | cons a r =>
      obtain ⟨b, off, h⟩ := hA (by rw [← hn]; simp)
      rw [h] at hc1; cases hc1
  subst h0
  exact ⟨hO.below, Own.nil _ _ _ _⟩
 try simp only [tstS] at hc1
 refine cskip <| cseq <| cg <| ve ((Eff.build0C c sl24)) ?_
 rintro v5 w1 ⟨c1, m, ⟨b5, rfl⟩⟩
 replace hO := hO.mv m; replace h1 := h1.mv m
 have ho : OwnC c1 w1 50 63 2 (.slice (some ⟨b5, 0, none⟩) 0 0) 0 [] := OwnC.emptyB
 refine zm rfl <| ve (Eff.appendC sl24 rfl rfl ho (Src.flat Tryz.underlying24 h1.now) mxl oms) ?_
 rintro v7 w2 ⟨c2, m, hOq⟩
 replace hO := hO.mv m
 replace ho := hOq
 rw [List.nil_append, Nat.zero_add] at ho
 refine za rfl <| cnil <| WC.ret1 rfl rfl ?_
 exact ⟨hO.below, ho.fromOld hO (by decide)⟩
set_option maxHeartbeats 1000000 in
theorem delT_ok {c : Nat → Nat} {w : World} {v : Value} {l : List Thg} {k : Nat} (h : OwnC c w 71 60 3 v l.length (l.flatMap encThg)) (hk : k < l.length) (hl : l.length ≤ 1048576) : Calls Tryz.prog 87 #[v, I k, I ((k : Int) + 1)] w (Ret fun v' w' => ∃ c', Mv c w c' w' [71] ∧ OwnC c' w' 71 60 3 v' (l.eraseIdx k).length ((l.eraseIdx k).flatMap encThg)) := by
 have hJ := OldJ.start c w [71]
 have ho := h.inn (J := [71]) rfl
 generalize mask c [71] = c0 at hJ ho
 obtain ⟨g, cp, rfl, hncp, hm1⟩ := ho.posForm (by omega)
 refine enter (n := 33) (res := #[.tmp 6]) Tryz.func87 rfl rfl rfl rfl <| cseq <| cg <| za rfl <| cnil <| cseq <| cg <| zm rfl <| zm rfl <| zm rfl <| zm rfl ?_
 first | refine vq (Val.rdlen sl22 (by assumption) rfl) ?_ | refine vq (Val.sllen Tryz.underlying22 rfl) ?_ | refine vq (Val.olen sl22 (by assumption) rfl) ?_ | refine vq (Val.rdlenC sl22 (by assumption) rfl) ?_
 rw [show ((k : Int) + 1) = ((k + 1 : Nat) : Int) by omega]
 refine vq (Val.part3 sl22 rfl rfl rfl rfl (by omega) (by omega) (by omega)) <| cnil <| cseq <| cseq <| cg <| zm rfl <| zm rfl <| vq (Val.eql rfl rfl) <| cnil ?_
 refine WC.cond rfl (fun hc2 => ?_) (fun hc2 => ?_)
 ·exact absurd (of_decide_eq_true hc2) (by omega)
 try simp only [tstS] at hc2
 refine cskip <| cseq <| cg <| zm rfl ?_
 first | refine vq (Val.rdlen sl22 (by assumption) rfl) ?_ | refine vq (Val.sllen Tryz.underlying22 rfl) ?_ | refine vq (Val.olen sl22 (by assumption) rfl) ?_ | refine vq (Val.rdlenC sl22 (by assumption) rfl) ?_
 refine za rfl <| cnil <| cseq <| WC.regionD (Kp c0 w [71]) [0, 0, 0, 0, 0, 0, 2, 0] [0, 1, 2, 3, 4, 5, 6, 7] mixed (by kernel_rfl) ?_
 have m := Mv.drew c0 w []
 have hCw := Mv.drew c0 w [71]
 generalize w.drew = w1 at m hCw ⊢
 replace hJ := hJ.mv m; replace ho := ho.mv m
 refine zdm rfl rfl <| zdm rfl rfl ?_
 have hsub : subV (.slice (some ⟨g, 0, none⟩) l.length cp) 0 (k : Int).toNat 3 = .slice (some ⟨g, 0, none⟩) k cp := by simp [subV, add_lit]
 refine vd rfl (fun _ => Val.partTo sl22 rfl rfl (by omega) (by omega)) ?_
 rw [hsub]
 refine zdm rfl rfl <| zdm rfl rfl <| vd rfl (fun _ => Val.partFrom sl22 rfl rfl (by omega) (by omega)) ?_
 have hs := ho.srcFrom (P := Tryz.prog) Tryz.underlying22 (flatMap_one encThg_one l) (k := k + 1) (by omega)
 replace ho := ho.to (k := k) (by omega)
 rw [flatMap_take encThg_len] at ho
 rw [flatMap_drop encThg_len] at hs
 rw [show subV (.slice (some ⟨g, 0, none⟩) l.length cp) 0 k 3 = .slice (some ⟨g, 0, none⟩) k cp from hsub] at ho
 refine WD.eff rfl rfl rfl ((Eff.appendIn sl22 rfl rfl ho hs (by omega) (by omega))) rfl ?_
 rintro v26 w2 ⟨c2, m, ⟨rfl, ho⟩⟩
 refine ⟨fun hC => hC.step hCw m rfl, ?_⟩
 replace hCw := hCw.tr m rfl
 replace hJ := hJ.mv m
 refine zda rfl rfl <| WD.nil ?_
 clear hCw
 refine cseq <| cg <| zm rfl <| zm rfl ?_
 first | refine vq (Val.rdlen sl22 (by assumption) rfl) ?_ | refine vq (Val.sllen Tryz.underlying22 rfl) ?_ | refine vq (Val.olen sl22 (by assumption) rfl) ?_ | refine vq (Val.rdlenC sl22 (by assumption) rfl) ?_
 refine zm rfl <| vq (Val.part sl22 rfl rfl rfl (by omega) (by omega) (by omega)) ?_
 refine WR.eff_ ((Eff.clearO sl22 ones ho rfl (by omega) (by omega) (by omega))) ?_
 rintro _ w3 ⟨c3, m, ho⟩
 replace hJ := hJ.mv m
 refine cnil <| cseq <| cg <| zm rfl <| za rfl <| cnil <| WC.ret1 rfl rfl ?_
 have e := List.eraseIdx_eq_take_drop_succ l k
 exact ⟨_, hJ.out, by rw [e, List.length_append, List.length_take, List.length_drop, List.flatMap_append, Nat.min_eq_left (by omega)]; exact ho.out hJ rfl⟩
set_option maxHeartbeats 1000000 in
theorem delG_ok {c : Nat → Nat} {w : World} {v : Value} {l : List Tg} {k : Nat} (h : OwnC c w 72 66 2 v l.length (l.flatMap encTg)) (hk : k < l.length) (hl : l.length ≤ 1048576) : Calls Tryz.prog 89 #[v, I k, I ((k : Int) + 1)] w (Ret fun v' w' => ∃ c', Mv c w c' w' [72] ∧ OwnC c' w' 72 66 2 v' (l.eraseIdx k).length ((l.eraseIdx k).flatMap encTg)) := by
 have hJ := OldJ.start c w [72]
 have ho := h.inn (J := [72]) rfl
 generalize mask c [72] = c0 at hJ ho
 obtain ⟨g, cp, rfl, hncp, hm1⟩ := ho.posForm (by omega)
 refine enter (n := 33) (res := #[.tmp 6]) Tryz.func89 rfl rfl rfl rfl <| cseq <| cg <| za rfl <| cnil <| cseq <| cg <| zm rfl <| zm rfl <| zm rfl <| zm rfl ?_
 first | refine vq (Val.rdlen sl23 (by assumption) rfl) ?_ | refine vq (Val.sllen Tryz.underlying23 rfl) ?_ | refine vq (Val.olen sl23 (by assumption) rfl) ?_ | refine vq (Val.rdlenC sl23 (by assumption) rfl) ?_
 rw [show ((k : Int) + 1) = ((k + 1 : Nat) : Int) by omega]
 refine vq (Val.part3 sl23 rfl rfl rfl rfl (by omega) (by omega) (by omega)) <| cnil <| cseq <| cseq <| cg <| zm rfl <| zm rfl <| vq (Val.eql rfl rfl) <| cnil ?_
 refine WC.cond rfl (fun hc2 => ?_) (fun hc2 => ?_)
 ·exact absurd (of_decide_eq_true hc2) (by omega)
 try simp only [tstS] at hc2
 refine cskip <| cseq <| cg <| zm rfl ?_
 first | refine vq (Val.rdlen sl23 (by assumption) rfl) ?_ | refine vq (Val.sllen Tryz.underlying23 rfl) ?_ | refine vq (Val.olen sl23 (by assumption) rfl) ?_ | refine vq (Val.rdlenC sl23 (by assumption) rfl) ?_
 refine za rfl <| cnil <| cseq <| WC.regionD (Kp c0 w [72]) [0, 0, 0, 0, 0, 0, 2, 0] [0, 1, 2, 3, 4, 5, 6, 7] mixed (by kernel_rfl) ?_
 have m := Mv.drew c0 w []
 have hCw := Mv.drew c0 w [72]
 generalize w.drew = w1 at m hCw ⊢
 replace hJ := hJ.mv m; replace ho := ho.mv m
 refine zdm rfl rfl <| zdm rfl rfl ?_
 have hsub : subV (.slice (some ⟨g, 0, none⟩) l.length cp) 0 (k : Int).toNat 2 = .slice (some ⟨g, 0, none⟩) k cp := by simp [subV, add_lit]
 refine vd rfl (fun _ => Val.partTo sl23 rfl rfl (by omega) (by omega)) ?_
 rw [hsub]
 refine zdm rfl rfl <| zdm rfl rfl <| vd rfl (fun _ => Val.partFrom sl23 rfl rfl (by omega) (by omega)) ?_
 have hs := ho.srcFrom (P := Tryz.prog) Tryz.underlying23 (flatMap_one encTg_one l) (k := k + 1) (by omega)
 replace ho := ho.to (k := k) (by omega)
 rw [flatMap_take encTg_len] at ho
 rw [flatMap_drop encTg_len] at hs
 rw [show subV (.slice (some ⟨g, 0, none⟩) l.length cp) 0 k 2 = .slice (some ⟨g, 0, none⟩) k cp from hsub] at ho
 refine WD.eff rfl rfl rfl ((Eff.appendIn sl23 rfl rfl ho hs (by omega) (by omega))) rfl ?_
 rintro v26 w2 ⟨c2, m, ⟨rfl, ho⟩⟩
 refine ⟨fun hC => hC.step hCw m rfl, ?_⟩
 replace hCw := hCw.tr m rfl
 replace hJ := hJ.mv m
 refine zda rfl rfl <| WD.nil ?_
 clear hCw
 refine cseq <| cg <| zm rfl <| zm rfl ?_
 first | refine vq (Val.rdlen sl23 (by assumption) rfl) ?_ | refine vq (Val.sllen Tryz.underlying23 rfl) ?_ | refine vq (Val.olen sl23 (by assumption) rfl) ?_ | refine vq (Val.rdlenC sl23 (by assumption) rfl) ?_
 refine zm rfl <| vq (Val.part sl23 rfl rfl rfl (by omega) (by omega) (by omega)) ?_
 refine WR.eff_ ((Eff.clearO sl23 ones ho rfl (by omega) (by omega) (by omega))) ?_
 rintro _ w3 ⟨c3, m, ho⟩
 replace hJ := hJ.mv m
 refine cnil <| cseq <| cg <| zm rfl <| za rfl <| cnil <| WC.ret1 rfl rfl ?_
 have e := List.eraseIdx_eq_take_drop_succ l k
 exact ⟨_, hJ.out, by rw [e, List.length_append, List.length_take, List.length_drop, List.flatMap_append, Nat.min_eq_left (by omega)]; exact ho.out hJ rfl⟩
set_option maxHeartbeats 1000000 in
theorem delS_ok {c : Nat → Nat} {w : World} {v : Value} {l : List Ses} {k : Nat} (h : OwnC c w 73 63 2 v l.length (l.flatMap encSes)) (hk : k < l.length) (hl : l.length ≤ 1048576) : Calls Tryz.prog 82 #[v, I k, I ((k : Int) + 1)] w (Ret fun v' w' => ∃ c', Mv c w c' w' [73] ∧ OwnC c' w' 73 63 2 v' (l.eraseIdx k).length ((l.eraseIdx k).flatMap encSes)) := by
 have hJ := OldJ.start c w [73]
 have ho := h.inn (J := [73]) rfl
 generalize mask c [73] = c0 at hJ ho
 obtain ⟨g, cp, rfl, hncp, hm1⟩ := ho.posForm (by omega)
 refine enter (n := 33) (res := #[.tmp 6]) Tryz.func82 rfl rfl rfl rfl <| cseq <| cg <| za rfl <| cnil <| cseq <| cg <| zm rfl <| zm rfl <| zm rfl <| zm rfl ?_
 first | refine vq (Val.rdlen sl24 (by assumption) rfl) ?_ | refine vq (Val.sllen Tryz.underlying24 rfl) ?_ | refine vq (Val.olen sl24 (by assumption) rfl) ?_ | refine vq (Val.rdlenC sl24 (by assumption) rfl) ?_
 rw [show ((k : Int) + 1) = ((k + 1 : Nat) : Int) by omega]
 refine vq (Val.part3 sl24 rfl rfl rfl rfl (by omega) (by omega) (by omega)) <| cnil <| cseq <| cseq <| cg <| zm rfl <| zm rfl <| vq (Val.eql rfl rfl) <| cnil ?_
 refine WC.cond rfl (fun hc2 => ?_) (fun hc2 => ?_)
 ·exact absurd (of_decide_eq_true hc2) (by omega)
 try simp only [tstS] at hc2
 refine cskip <| cseq <| cg <| zm rfl ?_
 first | refine vq (Val.rdlen sl24 (by assumption) rfl) ?_ | refine vq (Val.sllen Tryz.underlying24 rfl) ?_ | refine vq (Val.olen sl24 (by assumption) rfl) ?_ | refine vq (Val.rdlenC sl24 (by assumption) rfl) ?_
 refine za rfl <| cnil <| cseq <| WC.regionD (Kp c0 w [73]) [0, 0, 0, 0, 0, 0, 2, 0] [0, 1, 2, 3, 4, 5, 6, 7] mixed (by kernel_rfl) ?_
 have m := Mv.drew c0 w []
 have hCw := Mv.drew c0 w [73]
 generalize w.drew = w1 at m hCw ⊢
 replace hJ := hJ.mv m; replace ho := ho.mv m
 refine zdm rfl rfl <| zdm rfl rfl ?_
 have hsub : subV (.slice (some ⟨g, 0, none⟩) l.length cp) 0 (k : Int).toNat 2 = .slice (some ⟨g, 0, none⟩) k cp := by simp [subV, add_lit]
 refine vd rfl (fun _ => Val.partTo sl24 rfl rfl (by omega) (by omega)) ?_
 rw [hsub]
 refine zdm rfl rfl <| zdm rfl rfl <| vd rfl (fun _ => Val.partFrom sl24 rfl rfl (by omega) (by omega)) ?_
 have hs := ho.srcFrom (P := Tryz.prog) Tryz.underlying24 (flatMap_one encSes_one l) (k := k + 1) (by omega)
 replace ho := ho.to (k := k) (by omega)
 rw [flatMap_take encSes_len] at ho
 rw [flatMap_drop encSes_len] at hs
 rw [show subV (.slice (some ⟨g, 0, none⟩) l.length cp) 0 k 2 = .slice (some ⟨g, 0, none⟩) k cp from hsub] at ho
 refine WD.eff rfl rfl rfl ((Eff.appendIn sl24 rfl rfl ho hs (by omega) (by omega))) rfl ?_
 rintro v26 w2 ⟨c2, m, ⟨rfl, ho⟩⟩
 refine ⟨fun hC => hC.step hCw m rfl, ?_⟩
 replace hCw := hCw.tr m rfl
 replace hJ := hJ.mv m
 refine zda rfl rfl <| WD.nil ?_
 clear hCw
 refine cseq <| cg <| zm rfl <| zm rfl ?_
 first | refine vq (Val.rdlen sl24 (by assumption) rfl) ?_ | refine vq (Val.sllen Tryz.underlying24 rfl) ?_ | refine vq (Val.olen sl24 (by assumption) rfl) ?_ | refine vq (Val.rdlenC sl24 (by assumption) rfl) ?_
 refine zm rfl <| vq (Val.part sl24 rfl rfl rfl (by omega) (by omega) (by omega)) ?_
 refine WR.eff_ ((Eff.clearO sl24 ones ho rfl (by omega) (by omega) (by omega))) ?_
 rintro _ w3 ⟨c3, m, ho⟩
 replace hJ := hJ.mv m
 refine cnil <| cseq <| cg <| zm rfl <| za rfl <| cnil <| WC.ret1 rfl rfl ?_
 have e := List.eraseIdx_eq_take_drop_succ l k
 exact ⟨_, hJ.out, by rw [e, List.length_append, List.length_take, List.length_drop, List.flatMap_append, Nat.min_eq_left (by omega)]; exact ho.out hJ rfl⟩
theorem ovT_run (w : World) (args : Array Value) (h : (Extern.SlicesOverlaps.overlaps #[22, 22] #[4] args).run Tryz.prog w = .ok (.bool false) w) : (callFunc 140 args).run Tryz.prog w = .ok (.value (.bool false)) w := by
  rw [run_callFunc_extern Tryz.func140 (by kernel_rfl) (by kernel_rfl) (by kernel_rfl) (e := Extern.SlicesOverlaps.overlaps #[22, 22] #[4]) (by kernel_rfl), h]; rfl
set_option maxHeartbeats 2000000 in
theorem insT_ok {c : Nat → Nat} {w : World} {v : Value} {l : List Thg} {k b j : Nat} {x : Thg} (h : OwnC c w 71 60 3 v l.length (l.flatMap encThg)) (hb : BlkC c w j b (encThg x) 60) (hj : hasC [71] j = false) (hk : k ≤ l.length) (hl : l.length ≤ 1000) : Calls Tryz.prog 114 #[v, I k, .slice (some ⟨b, 0, none⟩) 1 1] w (Ret fun v' w' => ∃ c', Mv c w c' w' [71] ∧ OwnC c' w' 71 60 3 v' (l.length + 1) ((l.take k ++ x :: l.drop k).flatMap encThg)) := by
 have hJ := OldJ.start c w [71]
 have ho := h.inn (J := [71]) rfl
 replace hb := hb.inn0 (J := [71]) hj
 generalize mask c [71] = c0 at hJ ho hb
 have hln := encThg_len x
 have hl1 := flatMap_one encThg_one l
 have hll := flatMap_len encThg_len l
 have hx1 := encThg_one x
 obtain ⟨A, cp, rfl, hncp, hcm⟩ := ho.own.len
 have hm1 : cp ≤ 9223372036854775807 := by rw [maxLen_eq] at hcm; omega
 refine enter (n := 95) (res := #[.tmp 6]) Tryz.func114 rfl rfl rfl rfl <| cseq <| cg <| za rfl <| cnil <| cseq <| cg <| zm rfl <| zm rfl <| vq (Val.partFrom sl22 rfl rfl (by omega) (by omega)) ?_
 refine cnil <| cseq <| cg <| zm rfl ?_
 first | refine vq (Val.rdlen sl22 (by assumption) rfl) ?_ | refine vq (Val.sllen Tryz.underlying22 rfl) ?_ | refine vq (Val.olen sl22 (by assumption) rfl) ?_ | refine vq (Val.rdlenC sl22 (by assumption) rfl) ?_
 refine za rfl <| cnil <| cseq <| cseq <| cg <| zm rfl <| vq (Val.eql rfl rfl) <| cnil <| WC.cond rfl (fun hc3 => ?_) (fun hc3 => ?_)
 ·exact absurd (of_decide_eq_true hc3) (by decide)
 try simp only [tstS] at hc3
 refine cskip <| cseq <| cg <| zm rfl ?_
 first | refine vq (Val.rdlen sl22 (by assumption) rfl) ?_ | refine vq (Val.sllen Tryz.underlying22 rfl) ?_ | refine vq (Val.olen sl22 (by assumption) rfl) ?_ | refine vq (Val.rdlenC sl22 (by assumption) rfl) ?_
 refine za rfl <| cnil <| cseq <| cseq <| cg <| zm rfl <| zm rfl <| vq (Val.eql rfl rfl) <| cnil <| WC.cond rfl (fun hc6 => ?_) (fun hc6 => ?_)
 ·try simp only [tstS] at hc6
  have hke : k = l.length := by omega
  subst hke
  refine cseq <| cg <| zm rfl <| zm rfl <| ve (Eff.appendC sl22 rfl rfl ho (Src.cellsAt Tryz.underlying22 hb.blk.cellsAt hln hx1) mxl oms) ?_
  rintro v25 w1 ⟨c1, hM1, hOq⟩
  replace hJ := hJ.mv hM1
  replace ho := hOq
  refine za rfl <| cnil <| WC.ret1 rfl rfl ?_
  exact ⟨_, hJ.out, by rw [List.take_length, List.drop_length, List.flatMap_append]; exact ho.out hJ rfl⟩
 try simp only [tstS] at hc6
 have hkl : k < l.length := by omega
 obtain ⟨g, cp', he, -, -⟩ := ho.posForm (by omega)
 injection he with hA _ _
 subst hA
 clear hc3
 refine cskip <| cseq <| cseq <| cg <| zm rfl <| zm rfl <| vq (Val.addI rfl rfl side side) <| zm rfl <| vq (Val.slcap Tryz.underlying22 rfl) ?_
 refine vq (Val.gtr rfl rfl) <| cnil <| WC.cond rfl (fun hc8 => ?_) (fun hc8 => ?_)
 ·try simp only [tstS] at hc8
  refine cseq <| cg <| zm rfl <| zm rfl ?_
  have hsub : subV (.slice (some ⟨g, 0, none⟩) l.length cp) 0 (k : Int).toNat 3 = .slice (some ⟨g, 0, none⟩) k cp := by simp [subV, add_lit]
  have ho9 := ho.to (k := k) (by omega)
  rw [show subV (.slice (some ⟨g, 0, none⟩) l.length cp) 0 k 3 = .slice (some ⟨g, 0, none⟩) k cp from hsub] at ho9
  refine vq (Val.partTo sl22 rfl rfl (by omega) (by omega)) ?_
  rw [hsub]
  refine zm rfl <| zm rfl <| vq (Val.addI rfl rfl side side) <| zm rfl <| vq (Val.subI rfl rfl side side) ?_
  have eq9 : ((l.length : Int) + ((1 : Nat) : Int) - (k : Int)) = ((l.length + 1 - k : Nat) : Int) := by omega
  rw [eq9]
  refine ve (Eff.appendZC 99 sl22 Tryz.underlying3 (by decide) ho9 rfl rfl (by omega) (by omega) (by omega) (by decide)) ?_
  rintro v40 w1 ⟨c1, hM1, G, ys, hyl, hv, ho2⟩
  replace hJ := hJ.mv hM1; replace ho := ho.mv hM1; replace hb := hb.mv hM1
  rw [Int.toNat_natCast] at hyl hv ho2
  rw [show k + (l.length + 1 - k) = l.length + 1 by omega] at hv ho2
  obtain ⟨g2, hg2⟩ : ∃ g2, g2 = w.heap.size := ⟨_, rfl⟩
  rw [← hg2] at hv
  subst hv
  clear ho9
  refine za rfl <| cnil <| cseq <| cg <| zm rfl <| zm rfl <| vq (Val.partFrom sl22 rfl rfl (by omega) (by omega)) <| zm rfl ?_
  have hs1 := Src.cellsAt (P := Tryz.prog) (size := 3) (m := 1) (c := 1) Tryz.underlying22 hb.blk.cellsAt hln hx1
  have hm10 : Nat.min 1 (l.length + 1 - k) = 1 := Nat.min_eq_left (by omega)
  refine ve (Eff.copyO (news := encThg x) (a := k) sl22 ho2 (by omega) (by omega) rfl rfl hs1.lenOf (by rw [hm10]; exact hs1.cells) (by rw [hm10]; exact hln) hx1) ?_
  rintro v45 w2 ⟨c2, hM2, hOq⟩
  replace hJ := hJ.mv hM2; replace ho := ho.mv hM2
  replace ho2 := hOq
  refine cnil <| cseq <| WC.regionD (Kp c2 w2 [99]) [0, 0, 0, 0, 0, 0, 0, 0, 2] [0, 1, 2, 3, 4, 5, 6, 7, 8] mixed (by kernel_rfl) ?_
  have hM2 := Mv.drew c2 w2 []
  have hCw := Mv.drew c2 w2 [99]
  generalize w2.drew = w2 at hM2 hCw ⊢
  replace hJ := hJ.mv hM2; replace ho := ho.mv hM2; replace ho2 := ho2.mv hM2
  refine zdm rfl rfl <| zdm rfl rfl <| zdm rfl rfl <| vd rfl (fun _ => Val.addI rfl rfl side side) ?_
  rw [show ((k : Int) + ((1 : Nat) : Int)) = ((k + 1 : Nat) : Int) from rfl]
  refine vd rfl (fun _ => Val.partFrom sl22 rfl rfl (by omega) (by omega)) ?_
  rw [show ((k + 1 : Nat) : Int).toNat = k + 1 from rfl]
  refine zdm rfl rfl <| zdm rfl rfl <| vd rfl (fun _ => Val.partFrom sl22 rfl rfl (by omega) (by omega)) ?_
  have hs2 := ho.srcFrom (P := Tryz.prog) Tryz.underlying22 hl1 (k := k) (by omega)
  rw [flatMap_drop encThg_len] at hs2
  have hm11 : Nat.min (l.length - k) (l.length + 1 - (k + 1)) = l.length - k := Nat.min_eq_left (by omega)
  refine WD.eff rfl rfl rfl ((Eff.copyO (x := .tmp 50) (y := .tmp 53) (news := (l.drop k).flatMap encThg) (a := k + 1) sl22 ho2 (by omega) (by omega) rfl rfl hs2.lenOf (by rw [hm11]; exact hs2.cells) (by rw [hm11, flatMap_len encThg_len, List.length_drop]) (flatMap_one encThg_one _))) rfl ?_
  rintro v54 w3 ⟨c3, hM3, ho2⟩
  refine ⟨fun hC => hC.step hCw hM3 rfl, ?_⟩
  replace hCw := hCw.tr hM3 rfl
  replace hJ := hJ.mv hM3
  refine WD.nil ?_
  clear hCw
  refine cseq <| cg <| zm rfl <| za rfl <| cnil <| WC.ret1 rfl rfl ?_
  rw [ins_grow encThg_len hk hyl rfl rfl] at ho2
  obtain ⟨c9, hM9, hout⟩ := hJ.outN (i := 71) (j := 99) rfl
  exact ⟨c9, hM9, hout ho2⟩
 try simp only [tstS] at hc8
 refine cskip <| cseq <| cg <| zm rfl <| zm rfl <| zm rfl <| vq (Val.addI rfl rfl side side) ?_
 rw [show ((l.length : Int) + ((1 : Nat) : Int)) = ((l.length + 1 : Nat) : Int) from rfl]
 obtain ⟨ys, hyl, ho2⟩ := ho.wide (k := 1) (by omega)
 have hsub : subV (.slice (some ⟨g, 0, none⟩) l.length cp) 0 ((l.length + 1 : Nat) : Int).toNat 3 = .slice (some ⟨g, 0, none⟩) (l.length + 1) cp := by simp [subV, add_lit]
 rw [show subV (.slice (some ⟨g, 0, none⟩) l.length cp) 0 (l.length + 1) 3 = .slice (some ⟨g, 0, none⟩) (l.length + 1) cp from hsub] at ho2
 clear ho
 have ho := ho2
 clear ho2
 refine vq (Val.partTo sl22 rfl rfl (by omega) (by omega)) ?_
 rw [hsub]
 refine za rfl <| cnil <| cseq <| cseq <| cg <| zm rfl <| zm rfl <| zm rfl <| zm rfl <| vq (Val.addI rfl rfl side side) ?_
 rw [show ((k : Int) + ((1 : Nat) : Int)) = ((k + 1 : Nat) : Int) from rfl]
 refine vq (Val.partFrom sl22 rfl rfl (by omega) (by omega)) ?_
 have hov := ovT_run _ _ (overlaps_apart (P := Tryz.prog) (tR := 4) (m := 1) (lo := k + 1) sl22 hb ho (by omega) (by decide) (by decide))
 refine vq (Val.extern rfl hov) <| vq (Val.not rfl) <| cnil <| WC.cond rfl (fun hc14 => ?_) (fun hc14 => ?_)
 ·try simp only [tstS] at hc14
  refine cseq <| WC.regionD (Kp c0 w [71]) [0, 0, 0, 0, 0, 0, 0, 0, 2] [0, 1, 2, 3, 4, 5, 6, 7, 8] mixed (by kernel_rfl) ?_
  have hM4 := Mv.drew c0 w []
  have hCw := Mv.drew c0 w [71]
  generalize w.drew = w4 at hM4 hCw ⊢
  replace hJ := hJ.mv hM4; replace ho := ho.mv hM4; replace hb := hb.mv hM4
  refine zdm rfl rfl <| zdm rfl rfl <| zdm rfl rfl <| vd rfl (fun _ => Val.addI rfl rfl side side) ?_
  rw [show ((k : Int) + ((1 : Nat) : Int)) = ((k + 1 : Nat) : Int) from rfl]
  refine vd rfl (fun _ => Val.partFrom sl22 rfl rfl (by omega) (by omega)) ?_
  rw [show ((k + 1 : Nat) : Int).toNat = k + 1 from rfl]
  refine zdm rfl rfl <| zdm rfl rfl <| vd rfl (fun _ => Val.partFrom sl22 rfl rfl (by omega) (by omega)) ?_
  have hfc := ho.firstFrom (P := Tryz.prog) (k := k) (m := l.length - k) (by omega)
  have hlo : ∀ W : World, (Builtin.lenOf (subV (.slice (some ⟨g, 0, none⟩) (l.length + 1) cp) k (l.length + 1) 3)).run Tryz.prog W = .ok (l.length + 1 - k) W := fun W => by
    unfold subV
    dsimp only
    split <;> simp [Builtin.lenOf]
  have hm15 : Nat.min (l.length + 1 - k) (l.length + 1 - (k + 1)) = l.length - k := by rw [show l.length + 1 - (k + 1) = l.length - k by omega]; exact Nat.min_eq_right (by omega)
  have hl15 : (((l.flatMap encThg ++ ys).drop (k * 3)).take ((l.length - k) * 3)).length = (l.length - k) * 3 := by rw [List.length_take, List.length_drop, List.length_append, hll, hyl]; omega
  have ho15 : ∀ y ∈ ((l.flatMap encThg ++ ys).drop (k * 3)).take ((l.length - k) * 3), y.oneCell' = true := fun y hy => by
    rw [List.drop_append_of_le_length (by rw [hll]; omega), List.take_append_of_le_length (by rw [List.length_drop, hll]; omega)] at hy
    exact hl1 y (List.mem_of_mem_drop (List.mem_of_mem_take hy))
  refine WD.eff rfl rfl rfl ((Eff.copyO (x := .tmp 73) (y := .tmp 76) (a := k + 1) (m := l.length + 1 - k) sl22 ho (by omega) (by omega) rfl rfl hlo (by rw [hm15]; exact hfc) (by rw [hm15]; exact hl15) ho15)) rfl ?_
  rintro v77 w5 ⟨c5, hM5, ho⟩
  refine ⟨fun hC => hC.step hCw hM5 rfl, ?_⟩
  replace hCw := hCw.tr hM5 rfl
  replace hJ := hJ.mv hM5; replace hb := hb.mv hM5
  refine WD.nil ?_
  clear hCw
  refine cseq <| cg <| zm rfl <| zm rfl <| vq (Val.partFrom sl22 rfl rfl (by omega) (by omega)) ?_
  have hs1 := Src.cellsAt (P := Tryz.prog) (size := 3) (m := 1) (c := 1) Tryz.underlying22 hb.blk.cellsAt hln hx1
  have hm16 : Nat.min 1 (l.length + 1 - k) = 1 := Nat.min_eq_left (by omega)
  refine zm rfl ?_
  refine ve ((Eff.copyO (news := encThg x) (a := k) sl22 ho (by omega) (by omega) rfl rfl hs1.lenOf (by rw [hm16]; exact hs1.cells) (by rw [hm16]; exact hln) hx1)) ?_
  rintro v82 w6 ⟨c6, hM6, ho⟩
  replace hJ := hJ.mv hM6
  refine cnil <| cseq <| cg <| zm rfl <| za rfl <| cnil <| WC.ret1 rfl rfl ?_
  rw [ins_shift encThg_len hk hyl rfl rfl rfl] at ho
  exact ⟨_, hJ.out, ho.out hJ rfl⟩
 cases hc14
theorem ovG_run (w : World) (args : Array Value) (h : (Extern.SlicesOverlaps.overlaps #[23, 23] #[4] args).run Tryz.prog w = .ok (.bool false) w) : (callFunc 122 args).run Tryz.prog w = .ok (.value (.bool false)) w := by
  rw [run_callFunc_extern Tryz.func122 (by kernel_rfl) (by kernel_rfl) (by kernel_rfl) (e := Extern.SlicesOverlaps.overlaps #[23, 23] #[4]) (by kernel_rfl), h]; rfl
set_option maxHeartbeats 2000000 in
theorem insG_ok {c : Nat → Nat} {w : World} {v : Value} {l : List Tg} {k b j : Nat} {x : Tg} (h : OwnC c w 72 66 2 v l.length (l.flatMap encTg)) (hb : BlkC c w j b (encTg x) 66) (hj : hasC [72] j = false) (hk : k ≤ l.length) (hl : l.length ≤ 1000) : Calls Tryz.prog 90 #[v, I k, .slice (some ⟨b, 0, none⟩) 1 1] w (Ret fun v' w' => ∃ c', Mv c w c' w' [72] ∧ OwnC c' w' 72 66 2 v' (l.length + 1) ((l.take k ++ x :: l.drop k).flatMap encTg)) := by
 have hJ := OldJ.start c w [72]
 have ho := h.inn (J := [72]) rfl
 replace hb := hb.inn0 (J := [72]) hj
 generalize mask c [72] = c0 at hJ ho hb
 have hln := encTg_len x
 have hl1 := flatMap_one encTg_one l
 have hll := flatMap_len encTg_len l
 have hx1 := encTg_one x
 obtain ⟨A, cp, rfl, hncp, hcm⟩ := ho.own.len
 have hm1 : cp ≤ 9223372036854775807 := by rw [maxLen_eq] at hcm; omega
 refine enter (n := 95) (res := #[.tmp 6]) Tryz.func90 rfl rfl rfl rfl <| cseq <| cg <| za rfl <| cnil <| cseq <| cg <| zm rfl <| zm rfl <| vq (Val.partFrom sl23 rfl rfl (by omega) (by omega)) ?_
 refine cnil <| cseq <| cg <| zm rfl ?_
 first | refine vq (Val.rdlen sl23 (by assumption) rfl) ?_ | refine vq (Val.sllen Tryz.underlying23 rfl) ?_ | refine vq (Val.olen sl23 (by assumption) rfl) ?_ | refine vq (Val.rdlenC sl23 (by assumption) rfl) ?_
 refine za rfl <| cnil <| cseq <| cseq <| cg <| zm rfl <| vq (Val.eql rfl rfl) <| cnil <| WC.cond rfl (fun hc3 => ?_) (fun hc3 => ?_)
 ·exact absurd (of_decide_eq_true hc3) (by decide)
 try simp only [tstS] at hc3
 refine cskip <| cseq <| cg <| zm rfl ?_
 first | refine vq (Val.rdlen sl23 (by assumption) rfl) ?_ | refine vq (Val.sllen Tryz.underlying23 rfl) ?_ | refine vq (Val.olen sl23 (by assumption) rfl) ?_ | refine vq (Val.rdlenC sl23 (by assumption) rfl) ?_
 refine za rfl <| cnil <| cseq <| cseq <| cg <| zm rfl <| zm rfl <| vq (Val.eql rfl rfl) <| cnil <| WC.cond rfl (fun hc6 => ?_) (fun hc6 => ?_)
 ·try simp only [tstS] at hc6
  have hke : k = l.length := by omega
  subst hke
  refine cseq <| cg <| zm rfl <| zm rfl <| ve (Eff.appendC sl23 rfl rfl ho (Src.cellsAt Tryz.underlying23 hb.blk.cellsAt hln hx1) mxl oms) ?_
  rintro v25 w1 ⟨c1, hM1, hOq⟩
  replace hJ := hJ.mv hM1
  replace ho := hOq
  refine za rfl <| cnil <| WC.ret1 rfl rfl ?_
  exact ⟨_, hJ.out, by rw [List.take_length, List.drop_length, List.flatMap_append]; exact ho.out hJ rfl⟩
 try simp only [tstS] at hc6
 have hkl : k < l.length := by omega
 obtain ⟨g, cp', he, -, -⟩ := ho.posForm (by omega)
 injection he with hA _ _
 subst hA
 clear hc3
 refine cskip <| cseq <| cseq <| cg <| zm rfl <| zm rfl <| vq (Val.addI rfl rfl side side) <| zm rfl <| vq (Val.slcap Tryz.underlying23 rfl) ?_
 refine vq (Val.gtr rfl rfl) <| cnil <| WC.cond rfl (fun hc8 => ?_) (fun hc8 => ?_)
 ·try simp only [tstS] at hc8
  refine cseq <| cg <| zm rfl <| zm rfl ?_
  have hsub : subV (.slice (some ⟨g, 0, none⟩) l.length cp) 0 (k : Int).toNat 2 = .slice (some ⟨g, 0, none⟩) k cp := by simp [subV, add_lit]
  have ho9 := ho.to (k := k) (by omega)
  rw [show subV (.slice (some ⟨g, 0, none⟩) l.length cp) 0 k 2 = .slice (some ⟨g, 0, none⟩) k cp from hsub] at ho9
  refine vq (Val.partTo sl23 rfl rfl (by omega) (by omega)) ?_
  rw [hsub]
  refine zm rfl <| zm rfl <| vq (Val.addI rfl rfl side side) <| zm rfl <| vq (Val.subI rfl rfl side side) ?_
  have eq9 : ((l.length : Int) + ((1 : Nat) : Int) - (k : Int)) = ((l.length + 1 - k : Nat) : Int) := by omega
  rw [eq9]
  refine ve (Eff.appendZC 99 sl23 Tryz.underlying3 (by decide) ho9 rfl rfl (by omega) (by omega) (by omega) (by decide)) ?_
  rintro v40 w1 ⟨c1, hM1, G, ys, hyl, hv, ho2⟩
  replace hJ := hJ.mv hM1; replace ho := ho.mv hM1; replace hb := hb.mv hM1
  rw [Int.toNat_natCast] at hyl hv ho2
  rw [show k + (l.length + 1 - k) = l.length + 1 by omega] at hv ho2
  obtain ⟨g2, hg2⟩ : ∃ g2, g2 = w.heap.size := ⟨_, rfl⟩
  rw [← hg2] at hv
  subst hv
  clear ho9
  refine za rfl <| cnil <| cseq <| cg <| zm rfl <| zm rfl <| vq (Val.partFrom sl23 rfl rfl (by omega) (by omega)) <| zm rfl ?_
  have hs1 := Src.cellsAt (P := Tryz.prog) (size := 2) (m := 1) (c := 1) Tryz.underlying23 hb.blk.cellsAt hln hx1
  have hm10 : Nat.min 1 (l.length + 1 - k) = 1 := Nat.min_eq_left (by omega)
  refine ve (Eff.copyO (news := encTg x) (a := k) sl23 ho2 (by omega) (by omega) rfl rfl hs1.lenOf (by rw [hm10]; exact hs1.cells) (by rw [hm10]; exact hln) hx1) ?_
  rintro v45 w2 ⟨c2, hM2, hOq⟩
  replace hJ := hJ.mv hM2; replace ho := ho.mv hM2
  replace ho2 := hOq
  refine cnil <| cseq <| WC.regionD (Kp c2 w2 [99]) [0, 0, 0, 0, 0, 0, 0, 0, 2] [0, 1, 2, 3, 4, 5, 6, 7, 8] mixed (by kernel_rfl) ?_
  have hM2 := Mv.drew c2 w2 []
  have hCw := Mv.drew c2 w2 [99]
  generalize w2.drew = w2 at hM2 hCw ⊢
  replace hJ := hJ.mv hM2; replace ho := ho.mv hM2; replace ho2 := ho2.mv hM2
  refine zdm rfl rfl <| zdm rfl rfl <| zdm rfl rfl <| vd rfl (fun _ => Val.addI rfl rfl side side) ?_
  rw [show ((k : Int) + ((1 : Nat) : Int)) = ((k + 1 : Nat) : Int) from rfl]
  refine vd rfl (fun _ => Val.partFrom sl23 rfl rfl (by omega) (by omega)) ?_
  rw [show ((k + 1 : Nat) : Int).toNat = k + 1 from rfl]
  refine zdm rfl rfl <| zdm rfl rfl <| vd rfl (fun _ => Val.partFrom sl23 rfl rfl (by omega) (by omega)) ?_
  have hs2 := ho.srcFrom (P := Tryz.prog) Tryz.underlying23 hl1 (k := k) (by omega)
  rw [flatMap_drop encTg_len] at hs2
  have hm11 : Nat.min (l.length - k) (l.length + 1 - (k + 1)) = l.length - k := Nat.min_eq_left (by omega)
  refine WD.eff rfl rfl rfl ((Eff.copyO (x := .tmp 50) (y := .tmp 53) (news := (l.drop k).flatMap encTg) (a := k + 1) sl23 ho2 (by omega) (by omega) rfl rfl hs2.lenOf (by rw [hm11]; exact hs2.cells) (by rw [hm11, flatMap_len encTg_len, List.length_drop]) (flatMap_one encTg_one _))) rfl ?_
  rintro v54 w3 ⟨c3, hM3, ho2⟩
  refine ⟨fun hC => hC.step hCw hM3 rfl, ?_⟩
  replace hCw := hCw.tr hM3 rfl
  replace hJ := hJ.mv hM3
  refine WD.nil ?_
  clear hCw
  refine cseq <| cg <| zm rfl <| za rfl <| cnil <| WC.ret1 rfl rfl ?_
  rw [ins_grow encTg_len hk hyl rfl rfl] at ho2
  obtain ⟨c9, hM9, hout⟩ := hJ.outN (i := 72) (j := 99) rfl
  exact ⟨c9, hM9, hout ho2⟩
 try simp only [tstS] at hc8
 refine cskip <| cseq <| cg <| zm rfl <| zm rfl <| zm rfl <| vq (Val.addI rfl rfl side side) ?_
 rw [show ((l.length : Int) + ((1 : Nat) : Int)) = ((l.length + 1 : Nat) : Int) from rfl]
 obtain ⟨ys, hyl, ho2⟩ := ho.wide (k := 1) (by omega)
 have hsub : subV (.slice (some ⟨g, 0, none⟩) l.length cp) 0 ((l.length + 1 : Nat) : Int).toNat 2 = .slice (some ⟨g, 0, none⟩) (l.length + 1) cp := by simp [subV, add_lit]
 rw [show subV (.slice (some ⟨g, 0, none⟩) l.length cp) 0 (l.length + 1) 2 = .slice (some ⟨g, 0, none⟩) (l.length + 1) cp from hsub] at ho2
 clear ho
 have ho := ho2
 clear ho2
 refine vq (Val.partTo sl23 rfl rfl (by omega) (by omega)) ?_
 rw [hsub]
 refine za rfl <| cnil <| cseq <| cseq <| cg <| zm rfl <| zm rfl <| zm rfl <| zm rfl <| vq (Val.addI rfl rfl side side) ?_
 rw [show ((k : Int) + ((1 : Nat) : Int)) = ((k + 1 : Nat) : Int) from rfl]
 refine vq (Val.partFrom sl23 rfl rfl (by omega) (by omega)) ?_
 have hov := ovG_run _ _ (overlaps_apart (P := Tryz.prog) (tR := 4) (m := 1) (lo := k + 1) sl23 hb ho (by omega) (by decide) (by decide))
 refine vq (Val.extern rfl hov) <| vq (Val.not rfl) <| cnil <| WC.cond rfl (fun hc14 => ?_) (fun hc14 => ?_)
 ·try simp only [tstS] at hc14
  refine cseq <| WC.regionD (Kp c0 w [72]) [0, 0, 0, 0, 0, 0, 0, 0, 2] [0, 1, 2, 3, 4, 5, 6, 7, 8] mixed (by kernel_rfl) ?_
  have hM4 := Mv.drew c0 w []
  have hCw := Mv.drew c0 w [72]
  generalize w.drew = w4 at hM4 hCw ⊢
  replace hJ := hJ.mv hM4; replace ho := ho.mv hM4; replace hb := hb.mv hM4
  refine zdm rfl rfl <| zdm rfl rfl <| zdm rfl rfl <| vd rfl (fun _ => Val.addI rfl rfl side side) ?_
  rw [show ((k : Int) + ((1 : Nat) : Int)) = ((k + 1 : Nat) : Int) from rfl]
  refine vd rfl (fun _ => Val.partFrom sl23 rfl rfl (by omega) (by omega)) ?_
  rw [show ((k + 1 : Nat) : Int).toNat = k + 1 from rfl]
  refine zdm rfl rfl <| zdm rfl rfl <| vd rfl (fun _ => Val.partFrom sl23 rfl rfl (by omega) (by omega)) ?_
  have hfc := ho.firstFrom (P := Tryz.prog) (k := k) (m := l.length - k) (by omega)
  have hlo : ∀ W : World, (Builtin.lenOf (subV (.slice (some ⟨g, 0, none⟩) (l.length + 1) cp) k (l.length + 1) 2)).run Tryz.prog W = .ok (l.length + 1 - k) W := fun W => by
    unfold subV
    dsimp only
    split <;> simp [Builtin.lenOf]
  have hm15 : Nat.min (l.length + 1 - k) (l.length + 1 - (k + 1)) = l.length - k := by rw [show l.length + 1 - (k + 1) = l.length - k by omega]; exact Nat.min_eq_right (by omega)
  have hl15 : (((l.flatMap encTg ++ ys).drop (k * 2)).take ((l.length - k) * 2)).length = (l.length - k) * 2 := by rw [List.length_take, List.length_drop, List.length_append, hll, hyl]; omega
  have ho15 : ∀ y ∈ ((l.flatMap encTg ++ ys).drop (k * 2)).take ((l.length - k) * 2), y.oneCell' = true := fun y hy => by
    rw [List.drop_append_of_le_length (by rw [hll]; omega), List.take_append_of_le_length (by rw [List.length_drop, hll]; omega)] at hy
    exact hl1 y (List.mem_of_mem_drop (List.mem_of_mem_take hy))
  refine WD.eff rfl rfl rfl ((Eff.copyO (x := .tmp 73) (y := .tmp 76) (a := k + 1) (m := l.length + 1 - k) sl23 ho (by omega) (by omega) rfl rfl hlo (by rw [hm15]; exact hfc) (by rw [hm15]; exact hl15) ho15)) rfl ?_
  rintro v77 w5 ⟨c5, hM5, ho⟩
  refine ⟨fun hC => hC.step hCw hM5 rfl, ?_⟩
  replace hCw := hCw.tr hM5 rfl
  replace hJ := hJ.mv hM5; replace hb := hb.mv hM5
  refine WD.nil ?_
  clear hCw
  refine cseq <| cg <| zm rfl <| zm rfl <| vq (Val.partFrom sl23 rfl rfl (by omega) (by omega)) ?_
  have hs1 := Src.cellsAt (P := Tryz.prog) (size := 2) (m := 1) (c := 1) Tryz.underlying23 hb.blk.cellsAt hln hx1
  have hm16 : Nat.min 1 (l.length + 1 - k) = 1 := Nat.min_eq_left (by omega)
  refine zm rfl ?_
  refine ve ((Eff.copyO (news := encTg x) (a := k) sl23 ho (by omega) (by omega) rfl rfl hs1.lenOf (by rw [hm16]; exact hs1.cells) (by rw [hm16]; exact hln) hx1)) ?_
  rintro v82 w6 ⟨c6, hM6, ho⟩
  replace hJ := hJ.mv hM6
  refine cnil <| cseq <| cg <| zm rfl <| za rfl <| cnil <| WC.ret1 rfl rfl ?_
  rw [ins_shift encTg_len hk hyl rfl rfl rfl] at ho
  exact ⟨_, hJ.out, ho.out hJ rfl⟩
 cases hc14
end Go.Proofs.YtdlpibhecdfbcabGreatDoor

namespace Silo
open Go Go.Eng
theorem search_end {α : Type} {p q : α → Bool} {l : List α} (hq : ∀ j k (hj : j < l.length) (hk : k < l.length), j < k → q l[k] = true → p l[j] = true) (hpq : ∀ k (hk : k < l.length), q l[k] = true → p l[k] = false) {i : Nat} (hi : i ≤ l.length) (h1 : ∀ k (hk : k < l.length), k < i → p l[k] = true) (h2 : ∀ k (hk : k < l.length), i ≤ k → p l[k] = false) :
   lowBy p l = i ∧ (decide ((i : Int) < (l.length : Int)) && (l[i]?.map q).getD false) = (l.findIdx? q).isSome := by
 refine ⟨lowBy_eq hi h1 (fun h => h2 i h (Nat.le_refl _)), ?_⟩
 rw [Bool.eq_iff_iff, Bool.and_eq_true, decide_eq_true_eq, Option.isSome_iff_exists]
 constructor
 · rintro ⟨h, hx⟩
   have h' : i < l.length := by omega
   rw [List.getElem?_eq_getElem h'] at hx
   cases hf : l.findIdx? q with
   | some j => exact ⟨j, rfl⟩
   | none =>
     rw [List.findIdx?_eq_none_iff] at hf
     have := hf _ (List.getElem_mem h')
     simp only [Option.map_some, Option.getD_some] at hx
     rw [hx] at this; cases this
 rintro ⟨j, hj⟩
 rw [List.findIdx?_eq_some_iff_getElem] at hj
 obtain ⟨hjl, hjq, _⟩ := hj
 have hij : j = i := by
   rcases Nat.lt_trichotomy j i with h | h | h
   · have := h1 j hjl h
     rw [hpq j hjl hjq] at this; cases this
   · exact h
   have := hq i j (by omega) hjl h hjq
   rw [h2 i (by omega) (Nat.le_refl _)] at this; cases this
 subst hij
 exact ⟨by omega, by rw [List.getElem?_eq_getElem hjl]; exact hjq⟩
theorem lowBy_find {α : Type} {p q : α → Bool} {l : List α} (hq : ∀ j k (hj : j < l.length) (hk : k < l.length), j < k → q l[k] = true → p l[j] = true) (hpq : ∀ k (hk : k < l.length), q l[k] = true → p l[k] = false) {i : Nat} (h : l.findIdx? q = some i) : lowBy p l = i := by
  rw [List.findIdx?_eq_some_iff_getElem] at h
  obtain ⟨hi, hqi, _⟩ := h
  exact lowBy_eq (by omega) (fun k hk hki => hq k i hk hi hki hqi) (fun _ => hpq i hi hqi)
def RiseG (l : List Tg) : Prop := ∀ i j (hi : i < l.length) (hj : j < l.length), i < j → Op.bytesLess l[i].name l[j].name = true
def RiseS (l : List Ses) : Prop := ∀ i j (hi : i < l.length) (hj : j < l.length), i < j → l[i].id < l[j].id
def lowS (l : List Ses) (id : Int) : Nat := lowBy (fun t => decide (t.id < id)) l
theorem riseG_q {l : List Tg} (h : RiseG l) (d : List UInt8) : ∀ j k (hj : j < l.length) (hk : k < l.length), j < k → (fun t : Tg => t.name == d) l[k] = true → (fun t : Tg => Op.bytesLess t.name d) l[j] = true := fun j k hj hk hjk hq => by
  have := h j k hj hk hjk
  have e : l[k].name = d := by simpa using hq
  rw [e] at this; exact this
theorem riseG_p {l : List Tg} (d : List UInt8) : ∀ k (hk : k < l.length), (fun t : Tg => t.name == d) l[k] = true → (fun t : Tg => Op.bytesLess t.name d) l[k] = false := fun k hk hq => by
  have e : l[k].name = d := by simpa using hq
  show Op.bytesLess l[k].name d = false
  rw [e]; exact less_irrefl d
theorem riseS_q {l : List Ses} (h : RiseS l) (d : Int) : ∀ j k (hj : j < l.length) (hk : k < l.length), j < k → (fun t : Ses => decide (t.id = d)) l[k] = true → (fun t : Ses => decide (t.id < d)) l[j] = true := fun j k hj hk hjk hq => by
  have := h j k hj hk hjk
  have e : l[k].id = d := by simpa using hq
  rw [e] at this; simpa using this
theorem riseS_p {l : List Ses} (d : Int) : ∀ k (hk : k < l.length), (fun t : Ses => decide (t.id = d)) l[k] = true → (fun t : Ses => decide (t.id < d)) l[k] = false := fun k hk hq => by
  have e : l[k].id = d := by simpa using hq
  simp [e]
def cmpI (a b : Int) : Int := if a < b then -1 else if b < a then 1 else 0
theorem cmpI_neg {a b : Int} : (cmpI a b < 0) = (decide (a < b) = true) := by
  unfold cmpI
  rw [decide_eq_true_eq]
  split
  · simp [*]
  · split <;> simp [*]
theorem cmpI_zero {a b : Int} : (cmpI a b = 0) = (a = b) := by
  unfold cmpI
  apply propext
  split
  · constructor <;> intro h <;> omega
  · split <;> constructor <;> intro h <;> omega
theorem any_no {α : Type} {q : α → Bool} {l : List α} {j : Nat} (h : ∀ x ∈ l.take j, q x = false) (hj : l.length ≤ j) : l.any q = false := by
  rw [List.take_of_length_le hj] at h
  rw [List.any_eq_false]
  intro x hx; rw [h x hx]; decide
theorem any_next {α : Type} {q : α → Bool} {l : List α} {j : Nat} (h : ∀ x ∈ l.take j, q x = false) (hj : j < l.length) (hx : q l[j] = false) : ∀ x ∈ l.take (j + 1), q x = false := by
  intro x hm
  rw [List.take_add_one, List.getElem?_eq_getElem hj] at hm
  rcases List.mem_append.1 hm with h1 | h1
  · exact h x h1
  · rw [Option.toList_some, List.mem_singleton] at h1; rw [h1]; exact hx
end Silo
namespace Go.Proofs.YtdlpibhecdfbcabGreatDoor
open Go Go.Eng Go.RowKit Silo TryzT
theorem cmpInt_ok {w : World} (a b : Int) : Calls Tryz.prog 113 #[I a, I b] w (Ret fun v w' => Below w.heap.size w w' ∧ v = I (cmpI a b)) := by
 refine (Tryz.cmp_Compare_int a b w).mono fun e w' he => ?_
 obtain ⟨rfl, rfl⟩ := he
 exact ⟨_, rfl, Below.refl _ _, rfl⟩
theorem tagCmp_ok {w : World} (t : Tg) (d : List UInt8) : Calls Tryz.prog 121 #[.agg (encTg t).toArray, St d] w (Ret fun v w' => Below w.heap.size w w' ∧ v = I (cmpS t.name d)) := by
 have hK : Old w w := Old.refl w
 refine enter (n := 9) (res := #[.tmp 4]) Tryz.func121 rfl rfl rfl rfl <| cseq <| cg <| ve (Eff.box rfl) ?_
 rintro _ w1 ⟨b2, rfl, hn2⟩
 have hk1 := hn2.below
 replace hK := hK.up hk1
 have hb2 := hn2.blk
 refine za rfl <| cnil <| cseq <| cg <| vq (Val.fieldAddr fld66_0 rfl) <| vq (Val.loadB scl9 rfl hb2 rfl) <| zm rfl <| ve (Eff.call pf117 rfl (compare_ok t.name d)) ?_
 rintro v8 w2 ⟨hk2, rfl⟩
 replace hK := hK.up hk2
 refine za rfl <| cnil <| WC.ret1 rfl rfl ?_
 exact ⟨hK, rfl⟩
theorem sesCmp_ok {w : World} (t : Ses) (d : Int) : Calls Tryz.prog 112 #[.agg (encSes t).toArray, I d] w (Ret fun v w' => Below w.heap.size w w' ∧ v = I (cmpI t.id d)) := by
 have hK : Old w w := Old.refl w
 refine enter (n := 9) (res := #[.tmp 4]) Tryz.func112 rfl rfl rfl rfl <| cseq <| cg <| ve (Eff.box rfl) ?_
 rintro _ w1 ⟨b2, rfl, hn2⟩
 have hk1 := hn2.below
 replace hK := hK.up hk1
 have hb2 := hn2.blk
 refine za rfl <| cnil <| cseq <| cg <| vq (Val.fieldAddr fld63_0 rfl) <| vq (Val.loadB scl3 rfl hb2 rfl) <| zm rfl <| ve (Eff.call pf113 rfl (cmpInt_ok t.id d)) ?_
 rintro v8 w2 ⟨hk2, rfl⟩
 replace hK := hK.up hk2
 refine za rfl <| cnil <| WC.ret1 rfl rfl ?_
 exact ⟨hK, rfl⟩
set_option maxHeartbeats 1000000 in
theorem bsG_ok {w : World} {v : Value} {T : List Tg} {d : List UInt8} (h1 : Rd tgS w v T) (hr : RiseG T) :
   Calls Tryz.prog 120 #[v, St d, .func (.func 121) #[] #[]] w (Ret fun v' w' => Below w.heap.size w w' ∧ v' = .tuple #[I (lowG T d : Nat), .bool (findG T d).isSome]) := by
 have hK : Old w w := Old.refl w
 have hsm := h1.small
 refine enter (n := 49) (res := #[.tmp 6, .tmp 7]) Tryz.func120 rfl rfl rfl rfl <| cseq <| cg <| za rfl <| za rfl <| cnil <| cseq <| cg <| zm rfl ?_
 first | refine vq (Val.rdlen sl23 (by assumption) rfl) ?_ | refine vq (Val.sllen Tryz.underlying23 rfl) ?_
 refine za rfl <| cnil <| cseq <| cg <| zm rfl <| za rfl <| za rfl <| cnil <| cseq <| cblock ?_
 refine WC.loop (σ := Nat × Nat) (fun st => [(0, v), (1, St d), (2, .func (.func 121) #[] #[]), (8, I T.length), (9, I st.1), (10, I st.2)]) (fun st w' => Rd tgS w' v T ∧ Old w w' ∧ st.1 ≤ st.2 ∧ st.2 ≤ T.length ∧ (∀ k (hk : k < T.length), k < st.1 → (fun t : Tg => Op.bytesLess t.name d) T[k] = true) ∧ ∀ k (hk : k < T.length), st.2 ≤ k → (fun t : Tg => Op.bytesLess t.name d) T[k] = false) (fun st => st.2 - st.1) (0, T.length) subs ⟨h1, hK, by simp, by simp, fun k _ h => absurd h (Nat.not_lt_zero _), fun k hk h => by dsimp only at h; omega⟩ ?_
 clear h1 hK
 rintro ⟨i, j⟩ wl ⟨h1, hK, hij, hj, ha, hb⟩
 dsimp only at hij hj ha hb ⊢
 refine cseq <| cseq <| cg <| zm rfl <| zm rfl <| vq (Val.lss rfl rfl) <| cnil <| WC.cond rfl (fun hc3 => ?_) (fun hc3 => ?_)
 ·try simp only [tstS] at hc3
  have kij : i < j := by omega
  refine cskip <| cblock <| cseq <| cg <| zm rfl <| zm rfl <| vq (Val.addI rfl rfl side side) <| vq (Val.convToU64 Tryz.underlying3 Tryz.underlying83 rfl side side) <| vq (Val.shr rfl rfl side (by simp [IntKind.bits] <;> omega)) ?_
  refine vq (Val.convTo64 Tryz.underlying83 Tryz.underlying3 rfl side side) <| za rfl <| cnil ?_
  have e4 : ((i : Int) + (j : Int)) / 2 ^ (1 : Int).toNat = ((i + j) / 2 : Nat) := by
    rw [show (2 : Int) ^ (1 : Int).toNat = 2 from rfl]; omega
  rw [e4]
  have hm : (i + j) / 2 < T.length := by omega
  have hmi : i ≤ (i + j) / 2 := by omega
  have hmj : (i + j) / 2 < j := by omega
  generalize (i + j) / 2 = h at hm hmi hmj ⊢
  obtain ⟨cs1, hc27, rfl, ok1⟩ := h1.el hm
  refine cseq <| cg <| zm rfl <| zm rfl <| zm rfl <| vq (Val.indexAddr sl23 (by assumption) rfl rfl rfl side side) <| vq (Val.loadE agg66 rfl hc27 rfl) <| zm rfl ?_
  refine ve (Eff.callV rfl pf121 rfl (tagCmp_ok T[h] d)) ?_
  rintro v30 w1 ⟨hk1, rfl⟩
  replace h1 := h1.up hk1; replace hK := hK.up hk1
  refine vq (Val.lss rfl rfl) <| cnil <| WC.cond rfl (fun hc5 => ?_) (fun hc5 => ?_)
  ·try simp only [tstS] at hc5
   rw [cmpS_neg] at hc5
   have ha2 : ∀ k (hk : k < T.length), k < h + 1 → (fun t : Tg => Op.bytesLess t.name d) T[k] = true := fun k hk hkh => by
     rcases Nat.lt_or_ge k h with h3 | h3
     · have h4 := hr k h hk hm h3
       exact less_trans _ _ _ h4 hc5
     have : k = h := by omega
     subst this; exact hc5
   refine cg <| zm rfl <| vq (Val.addI rfl rfl side side) <| za rfl <| cnil ?_
   first
   | exact ⟨(h + 1, j), subs, ⟨h1, hK, by dsimp only; omega, hj, ha2, hb⟩, by dsimp only; omega⟩
   | exact ⟨(i, h), subs, ⟨h1, hK, hmi, by dsimp only; omega, ha, hb2⟩, by dsimp only; omega⟩
  try simp only [tstS] at hc5
  rw [cmpS_neg, Bool.not_eq_true] at hc5
  have hb2 : ∀ k (hk : k < T.length), h ≤ k → (fun t : Tg => Op.bytesLess t.name d) T[k] = false := fun k hk hkh => by
    rcases Nat.eq_or_lt_of_le hkh with h3 | h3
    · subst h3; exact hc5
    have h4 := hr h k hm hk h3
    cases hx : Op.bytesLess T[k].name d with
    | false => exact hx
    | true => rw [less_trans _ _ _ h4 hx] at hc5; cases hc5
  refine cg <| zm rfl <| za rfl <| cnil ?_
  first
  | exact ⟨(h + 1, j), subs, ⟨h1, hK, by dsimp only; omega, hj, ha2, hb⟩, by dsimp only; omega⟩
  | exact ⟨(i, h), subs, ⟨h1, hK, hmi, by dsimp only; omega, ha, hb2⟩, by dsimp only; omega⟩
 try simp only [tstS] at hc3
 have : i = j := by omega
 subst this
 obtain ⟨hl1, hl2⟩ := search_end (p := fun t : Tg => Op.bytesLess t.name d) (q := fun t : Tg => t.name == d) (riseG_q hr d) (riseG_p d) hj ha hb
 refine WC.exit rfl <| cseq <| cg <| zm rfl <| zm rfl <| zm rfl <| vq (Val.lss rfl rfl) <| zm rfl ?_
 apply WR.sc true 8 ((T[i]?.map (fun t : Tg => t.name == d)).getD false) (fun w' => Below wl.heap.size wl w')
 case hl | hg | hu | hv | hs | hoff | hd => rfl
 case hF => exact fun _ => Below.refl _ _
 case hT =>
  intro hq13
  try simp only [tstS] at hq13
  simp only [List.take_succ_cons, List.take_zero]
  have hi : i < T.length := by omega
  obtain ⟨cs1, hc43, rfl, ok1⟩ := h1.el hi
  have hget : ((T[i]?.map (fun t : Tg => t.name == d)).getD false) = (fun t : Tg => t.name == d) T[i] := by rw [List.getElem?_eq_getElem hi]; rfl
  have hKsc13 : Old wl wl := Old.refl _
  refine WR.on rfl rfl <| zm rfl <| WR.on rfl rfl <| zm rfl <| WR.on rfl rfl <| zm rfl <| WR.on rfl rfl <| vq (Val.indexAddr sl23 (by assumption) rfl rfl rfl side side) ?_
  refine WR.on rfl rfl <| vq (Val.loadE agg66 rfl hc43 rfl) <| WR.on rfl rfl <| zm rfl <| WR.on rfl rfl <| ve (Eff.callV rfl pf121 rfl (tagCmp_ok T[i] d)) ?_
  rintro v46 w2 ⟨hk2, rfl⟩
  replace hKsc13 := hKsc13.up hk2
  refine WR.on rfl rfl <| vq (Val.eql rfl rfl) ?_
  exact WR.nil ⟨(by rw [hget]; simp only [look, cmpS_zero]; exact congrArg (fun b => some (Value.bool b)) (by rw [Bool.eq_iff_iff]; simp)), Sub.drop _ 8 _ rfl rfl, hKsc13⟩
 intro w3 hk3
 replace hK := hK.up hk3
 refine za rfl <| za rfl <| cnil <| WC.ret2 rfl rfl rfl ?_
 exact ⟨hK, by rw [show lowG T d = i from hl1, show (findG T d).isSome = _ from hl2.symm]; rfl⟩
theorem mtag_ok {w : World} {v : Value} {T : List Tg} {d : List UInt8} (h1 : Rd tgS w v T) (hr : RiseG T) : Calls Tryz.prog 88 #[v, St d] w (Ret fun v' w' => Below w.heap.size w w' ∧ v' = .tuple #[I (lowG T d : Nat), .bool (findG T d).isSome]) := by
 have hK : Old w w := Old.refl w
 refine enter (n := 11) (res := #[.tmp 4, .tmp 5]) Tryz.func88 rfl rfl rfl rfl <| cseq <| cg <| za rfl <| za rfl <| cnil <| cseq <| cg <| zm rfl <| zm rfl <| ve (Eff.call pf120 rfl (bsG_ok h1 hr)) ?_
 rintro v8 w1 ⟨hk1, rfl⟩
 replace hK := hK.up hk1
 refine vq (Val.extract rfl rfl) <| vq (Val.extract rfl rfl) <| za rfl <| za rfl <| cnil <| WC.ret2 rfl rfl rfl ?_
 exact ⟨hK, rfl⟩
set_option maxHeartbeats 1000000 in
theorem bsS_ok {w : World} {v : Value} {T : List Ses} {d : Int} (h1 : Rd sesS w v T) (hr : RiseS T) :
   Calls Tryz.prog 111 #[v, I d, .func (.func 112) #[] #[]] w (Ret fun v' w' => Below w.heap.size w w' ∧ v' = .tuple #[I (lowS T d : Nat), .bool (findS T d).isSome]) := by
 have hK : Old w w := Old.refl w
 have hsm := h1.small
 refine enter (n := 49) (res := #[.tmp 6, .tmp 7]) Tryz.func111 rfl rfl rfl rfl <| cseq <| cg <| za rfl <| za rfl <| cnil <| cseq <| cg <| zm rfl ?_
 first | refine vq (Val.rdlen sl24 (by assumption) rfl) ?_ | refine vq (Val.sllen Tryz.underlying24 rfl) ?_
 refine za rfl <| cnil <| cseq <| cg <| zm rfl <| za rfl <| za rfl <| cnil <| cseq <| cblock ?_
 refine WC.loop (σ := Nat × Nat) (fun st => [(0, v), (1, I d), (2, .func (.func 112) #[] #[]), (8, I T.length), (9, I st.1), (10, I st.2)]) (fun st w' => Rd sesS w' v T ∧ Old w w' ∧ st.1 ≤ st.2 ∧ st.2 ≤ T.length ∧ (∀ k (hk : k < T.length), k < st.1 → (fun t : Ses => decide (t.id < d)) T[k] = true) ∧ ∀ k (hk : k < T.length), st.2 ≤ k → (fun t : Ses => decide (t.id < d)) T[k] = false) (fun st => st.2 - st.1) (0, T.length) subs ⟨h1, hK, by simp, by simp, fun k _ h => absurd h (Nat.not_lt_zero _), fun k hk h => by dsimp only at h; omega⟩ ?_
 clear h1 hK
 rintro ⟨i, j⟩ wl ⟨h1, hK, hij, hj, ha, hb⟩
 dsimp only at hij hj ha hb ⊢
 refine cseq <| cseq <| cg <| zm rfl <| zm rfl <| vq (Val.lss rfl rfl) <| cnil <| WC.cond rfl (fun hc3 => ?_) (fun hc3 => ?_)
 ·try simp only [tstS] at hc3
  have kij : i < j := by omega
  refine cskip <| cblock <| cseq <| cg <| zm rfl <| zm rfl <| vq (Val.addI rfl rfl side side) <| vq (Val.convToU64 Tryz.underlying3 Tryz.underlying83 rfl side side) <| vq (Val.shr rfl rfl side (by simp [IntKind.bits] <;> omega)) ?_
  refine vq (Val.convTo64 Tryz.underlying83 Tryz.underlying3 rfl side side) <| za rfl <| cnil ?_
  have e4 : ((i : Int) + (j : Int)) / 2 ^ (1 : Int).toNat = ((i + j) / 2 : Nat) := by
    rw [show (2 : Int) ^ (1 : Int).toNat = 2 from rfl]; omega
  rw [e4]
  have hm : (i + j) / 2 < T.length := by omega
  have hmi : i ≤ (i + j) / 2 := by omega
  have hmj : (i + j) / 2 < j := by omega
  generalize (i + j) / 2 = h at hm hmi hmj ⊢
  obtain ⟨cs1, hc27, rfl, ok1⟩ := h1.el hm
  refine cseq <| cg <| zm rfl <| zm rfl <| zm rfl <| vq (Val.indexAddr sl24 (by assumption) rfl rfl rfl side side) <| vq (Val.loadE agg63 rfl hc27 rfl) <| zm rfl ?_
  refine ve (Eff.callV rfl pf112 rfl (sesCmp_ok T[h] d)) ?_
  rintro v30 w1 ⟨hk1, rfl⟩
  replace h1 := h1.up hk1; replace hK := hK.up hk1
  refine vq (Val.lss rfl rfl) <| cnil <| WC.cond rfl (fun hc5 => ?_) (fun hc5 => ?_)
  ·try simp only [tstS] at hc5
   rw [cmpI_neg] at hc5
   have ha2 : ∀ k (hk : k < T.length), k < h + 1 → (fun t : Ses => decide (t.id < d)) T[k] = true := fun k hk hkh => by
     rcases Nat.lt_or_ge k h with h3 | h3
     · have h4 := hr k h hk hm h3
       simp only [decide_eq_true_eq] at hc5 ⊢; omega
     have : k = h := by omega
     subst this; exact hc5
   refine cg <| zm rfl <| vq (Val.addI rfl rfl side side) <| za rfl <| cnil ?_
   first
   | exact ⟨(h + 1, j), subs, ⟨h1, hK, by dsimp only; omega, hj, ha2, hb⟩, by dsimp only; omega⟩
   | exact ⟨(i, h), subs, ⟨h1, hK, hmi, by dsimp only; omega, ha, hb2⟩, by dsimp only; omega⟩
  try simp only [tstS] at hc5
  rw [cmpI_neg, Bool.not_eq_true] at hc5
  have hb2 : ∀ k (hk : k < T.length), h ≤ k → (fun t : Ses => decide (t.id < d)) T[k] = false := fun k hk hkh => by
    rcases Nat.eq_or_lt_of_le hkh with h3 | h3
    · subst h3; exact hc5
    have h4 := hr h k hm hk h3
    simp only [decide_eq_false_iff_not] at hc5 ⊢; omega
  refine cg <| zm rfl <| za rfl <| cnil ?_
  first
  | exact ⟨(h + 1, j), subs, ⟨h1, hK, by dsimp only; omega, hj, ha2, hb⟩, by dsimp only; omega⟩
  | exact ⟨(i, h), subs, ⟨h1, hK, hmi, by dsimp only; omega, ha, hb2⟩, by dsimp only; omega⟩
 try simp only [tstS] at hc3
 have : i = j := by omega
 subst this
 obtain ⟨hl1, hl2⟩ := search_end (p := fun t : Ses => decide (t.id < d)) (q := fun t : Ses => decide (t.id = d)) (riseS_q hr d) (riseS_p d) hj ha hb
 refine WC.exit rfl <| cseq <| cg <| zm rfl <| zm rfl <| zm rfl <| vq (Val.lss rfl rfl) <| zm rfl ?_
 apply WR.sc true 8 ((T[i]?.map (fun t : Ses => decide (t.id = d))).getD false) (fun w' => Below wl.heap.size wl w')
 case hl | hg | hu | hv | hs | hoff | hd => rfl
 case hF => exact fun _ => Below.refl _ _
 case hT =>
  intro hq13
  try simp only [tstS] at hq13
  simp only [List.take_succ_cons, List.take_zero]
  have hi : i < T.length := by omega
  obtain ⟨cs1, hc43, rfl, ok1⟩ := h1.el hi
  have hget : ((T[i]?.map (fun t : Ses => decide (t.id = d))).getD false) = (fun t : Ses => decide (t.id = d)) T[i] := by rw [List.getElem?_eq_getElem hi]; rfl
  have hKsc13 : Old wl wl := Old.refl _
  refine WR.on rfl rfl <| zm rfl <| WR.on rfl rfl <| zm rfl <| WR.on rfl rfl <| zm rfl <| WR.on rfl rfl <| vq (Val.indexAddr sl24 (by assumption) rfl rfl rfl side side) ?_
  refine WR.on rfl rfl <| vq (Val.loadE agg63 rfl hc43 rfl) <| WR.on rfl rfl <| zm rfl <| WR.on rfl rfl <| ve (Eff.callV rfl pf112 rfl (sesCmp_ok T[i] d)) ?_
  rintro v46 w2 ⟨hk2, rfl⟩
  replace hKsc13 := hKsc13.up hk2
  refine WR.on rfl rfl <| vq (Val.eql rfl rfl) ?_
  exact WR.nil ⟨(by rw [hget]; simp only [look, cmpI_zero]; rfl), Sub.drop _ 8 _ rfl rfl, hKsc13⟩
 intro w3 hk3
 replace hK := hK.up hk3
 refine za rfl <| za rfl <| cnil <| WC.ret2 rfl rfl rfl ?_
 exact ⟨hK, by rw [show lowS T d = i from hl1, show (findS T d).isSome = _ from hl2.symm]; rfl⟩
theorem msession_ok {w : World} {v : Value} {T : List Ses} {d : Int} (h1 : Rd sesS w v T) (hr : RiseS T) : Calls Tryz.prog 80 #[v, I d] w (Ret fun v' w' => Below w.heap.size w w' ∧ v' = .tuple #[I (lowS T d : Nat), .bool (findS T d).isSome]) := by
 have hK : Old w w := Old.refl w
 refine enter (n := 11) (res := #[.tmp 4, .tmp 5]) Tryz.func80 rfl rfl rfl rfl <| cseq <| cg <| za rfl <| za rfl <| cnil <| cseq <| cg <| zm rfl <| zm rfl <| ve (Eff.call pf111 rfl (bsS_ok h1 hr)) ?_
 rintro v8 w1 ⟨hk1, rfl⟩
 replace hK := hK.up hk1
 refine vq (Val.extract rfl rfl) <| vq (Val.extract rfl rfl) <| za rfl <| za rfl <| cnil <| WC.ret2 rfl rfl rfl ?_
 exact ⟨hK, rfl⟩
end Go.Proofs.YtdlpibhecdfbcabGreatDoor

namespace Silo
open Go Go.Eng
theorem any_not {α : Type} {p : α → Bool} (l : List α) : (!(l.any fun x => !p x)) = l.all p := by
  induction l with
  | nil => rfl
  | cons a r ih => simp only [List.any_cons, List.all_cons, Bool.not_or, Bool.not_not, ih]
theorem isT_at {T : List Thg} {d : List UInt8} {sub : Bool} {i : Nat} (h : findT T d = some i) (hi : i < T.length) : isT T d sub = (T[i].manifest == sub) := by
  rw [isT, h]
  dsimp only
  rw [List.getElem?_eq_getElem hi]; rfl
theorem isT_none {T : List Thg} {d : List UInt8} {sub : Bool} (h : findT T d = none) : isT T d sub = false := by rw [isT, h]
theorem thgsMay_text {T : List Thg} (h : thgsMay T = true) : ∀ t ∈ T, t.text.length ≤ 2000 := fun t ht => by
  obtain ⟨i, hi, rfl⟩ := List.mem_iff_getElem.1 ht
  exact (thgsMay_at h hi).2.1
theorem namesOk_some {T : List Thg} {s : List UInt8} (h : (manTake s).isSome = true) : namesOk T s = thereT T ((manTake s).getD man0) := by
  obtain ⟨m, hm⟩ := Option.isSome_iff_exists.1 h
  rw [namesOk, hm]; rfl
theorem things_bad {T : List Thg} {k : Nat} (hk : k < T.length) (h : thingOk T T[k] = false) : thingsOk T = false := by
  have : T.all (thingOk T) = false := by
    rw [List.all_eq_false]
    exact ⟨_, List.getElem_mem hk, by simp [h]⟩
  rw [thingsOk, this, Bool.and_false]
theorem things_all {T : List Thg} (hm : thgsMay T = true) (h : ∀ i (hi : i < T.length), thingOk T T[i] = true) : thingsOk T = true := by
  rw [thingsOk, hm, Bool.true_and, List.all_eq_true]
  intro x hx
  obtain ⟨i, hi, rfl⟩ := List.mem_iff_getElem.1 hx
  exact h i hi
end Silo
namespace Go.Eng
open Go Go.RowKit
theorem Val.beql {P : Program} {env : Env} {w : World} {ty ty2 t : TypeId} {x y : Operand} {p q : Bool} (ht : P.underlying t = some .bool) (hx : evO env x = some (.bool p)) (hy : evO env y = some (.bool q)) : Val P env w (.binOp .eql t x y ty2) ty (.bool (p == q)) := fun _ a ho d pos after g => by
  have h1 := run_equal_bool (P := P) w t p q ht
  cases p <;> cases q <;> simp [execOp, ho.eval hx, ho.eval hy, eqGuard, binOp, h1]
end Go.Eng
namespace Go.Proofs.YtdlpibhecdfbcabGreatDoor
open Go Go.Eng Go.RowKit Silo TryzT
theorem mis_ok {w : World} {v : Value} {T : List Thg} {d : List UInt8} {sub : Bool} (h1 : Rd thgS w v T) (hr : RiseT T) : Calls Tryz.prog 77 #[v, St d, .bool sub] w (Ret fun v' w' => Below w.heap.size w w' ∧ v' = .bool (isT T d sub)) := by
 have hK : Old w w := Old.refl w
 refine enter (n := 25) (res := #[.tmp 6]) Tryz.func77 rfl rfl rfl rfl <| cseq <| cg <| za rfl <| cnil <| cseq <| cg <| zm rfl <| zm rfl <| ve (Eff.call pf83 rfl (rfind_ok h1 hr)) ?_
 rintro v12 w1 ⟨hk1, rfl⟩
 replace h1 := h1.up hk1; replace hK := hK.up hk1
 refine zm rfl <| vq (Val.extract rfl rfl) <| vq (Val.extract rfl rfl) <| za rfl <| za rfl <| cnil <| cseq <| cg <| zm rfl <| zm rfl ?_
 apply WR.sc true 7 (isT T d sub) (fun w' => w1 = w')
 case hl | hg | hu | hv | hs | hoff | hd => rfl
 case hF => exact fun _ => rfl
 case hT =>
  intro hq9
  try simp only [tstS] at hq9
  simp only [List.take_succ_cons, List.take_zero]
  obtain ⟨i, hf⟩ := Option.isSome_iff_exists.1 hq9
  obtain ⟨hi, _⟩ := findT_some hf
  have hlow := lowT_find hr hf
  obtain ⟨cs1, hc19, rfl, ok1⟩ := h1.el hi
  rw [hlow]
  refine WR.on rfl rfl <| zm rfl <| WR.on rfl rfl <| zm rfl <| WR.on rfl rfl <| vq (Val.indexAddr sl22 (by assumption) rfl rfl rfl side side) ?_
  refine WR.on rfl rfl <| vq (Val.fieldAddrP fld60_2 rfl) <| WR.on rfl rfl <| vq (Val.loadEf scl4 rfl hc19 rfl) <| WR.on rfl rfl <| zm rfl <| WR.on rfl rfl <| vq (Val.beql Tryz.underlying4 rfl rfl) ?_
  exact WR.nil ⟨(by rw [isT_at hf hi]; rfl), Sub.drop _ 7 _ rfl rfl, rfl⟩
 rintro _ rfl
 refine za rfl <| cnil <| WC.ret1 rfl rfl ?_
 exact ⟨hK, by
   cases hf : findT T d with
   | none => rw [isT_none hf]; rfl
   | some i => rfl⟩
theorem there1_ok {w : World} {v : Value} {T : List Thg} {d : List UInt8} {b : Nat} (h1 : Rd thgS w v T) (hr : RiseT T) (hb : Blk w b [v] 22) : Calls Tryz.prog 107 #[St d, .pointer (some ⟨b, 0, none⟩)] w (Ret fun v' w' => Below w.heap.size w w' ∧ v' = .bool (!isT T d false)) := by
 have hK : Old w w := Old.refl w
 refine enter (n := 8) (res := #[.tmp 3]) Tryz.func107 rfl rfl rfl rfl <| cseq <| cg <| za rfl <| cnil <| cseq <| cg <| vq (Val.loadB scl22 rfl hb rfl) <| zm rfl <| ve (Eff.call pf77 rfl (mis_ok h1 hr)) ?_
 rintro v6 w1 ⟨hk1, rfl⟩
 replace hK := hK.up hk1
 refine vq (Val.not rfl) <| za rfl <| cnil <| WC.ret1 rfl rfl ?_
 exact ⟨hK, rfl⟩
theorem there2_ok {w : World} {v : Value} {T : List Thg} {d : List UInt8} {b : Nat} (h1 : Rd thgS w v T) (hr : RiseT T) (hb : Blk w b [v] 22) : Calls Tryz.prog 108 #[St d, .pointer (some ⟨b, 0, none⟩)] w (Ret fun v' w' => Below w.heap.size w w' ∧ v' = .bool (!isT T d true)) := by
 have hK : Old w w := Old.refl w
 refine enter (n := 8) (res := #[.tmp 3]) Tryz.func108 rfl rfl rfl rfl <| cseq <| cg <| za rfl <| cnil <| cseq <| cg <| vq (Val.loadB scl22 rfl hb rfl) <| zm rfl <| ve (Eff.call pf77 rfl (mis_ok h1 hr)) ?_
 rintro v6 w1 ⟨hk1, rfl⟩
 replace hK := hK.up hk1
 refine vq (Val.not rfl) <| za rfl <| cnil <| WC.ret1 rfl rfl ?_
 exact ⟨hK, rfl⟩
theorem idxStr_ok {w : World} {v : Value} {l : List (List UInt8)} {f : FuncId} {caps : Array Value} {q : List UInt8 → Bool} (h1 : Rd strS w v l) (hf : plainFn Tryz.prog f = true) (hq : ∀ (w' : World) (x : List UInt8), Below w.heap.size w w' → Calls Tryz.prog f (#[St x] ++ caps) w' (Ret fun v w'' => Below w'.heap.size w' w'' ∧ v = .bool (q x))) :
   Calls Tryz.prog 134 #[v, .func (.func f) #[] caps] w (Ret fun v' w' => Below w.heap.size w w' ∧ ∃ i : Int, v' = I i ∧ decide (0 ≤ i) = l.any q) := by
 have hsm := h1.small
 have hK : Old w w := Old.refl w
 refine enter (n := 19) (res := #[.tmp 4]) Tryz.func134 rfl rfl rfl rfl <| cseq <| cg <| za rfl <| cnil <| cseq <| cseq <| cg <| zm rfl ?_
 first | refine vq (Val.rdlen sl70 (by assumption) rfl) ?_ | refine vq (Val.sllen Tryz.underlying70 rfl) ?_
 refine zm rfl <| cnil <| cblock <| WC.loop (σ := Nat) (fun k => [(0, v), (1, .func (.func f) #[] caps), (7, I l.length), (8, I k)]) (fun k w' => Rd strS w' v l ∧ Old w w' ∧ k ≤ l.length ∧ ∀ x ∈ l.take k, q x = false) (fun k => l.length - k) 0 subs ⟨h1, hK, by omega, by simp⟩ ?_
 rintro k wl ⟨h1, hK, hk, hne⟩
 refine cseq <| cg <| vq (Val.lss rfl rfl) <| cnil <| cseq <| WC.cond rfl (fun hc2 => ?_) (fun hc2 => ?_)
 ·try simp only [tstS] at hc2
  have ka : k < l.length := by omega
  obtain ⟨cs1, hc14, rfl, ok1⟩ := h1.el ka
  refine cskip <| cseq <| cblock <| cseq <| cg <| zm rfl <| za rfl <| cnil <| cseq <| cg <| zm rfl <| zm rfl <| zm rfl <| vq (Val.indexAddr sl70 (by assumption) rfl rfl rfl side side) <| vq (Val.loadE1 scl9 rfl hc14) ?_
  refine ve (Eff.callV rfl hf rfl (hq _ _ hK)) ?_
  rintro _ w9 ⟨hk9, rfl⟩
  replace h1 := h1.up hk9; replace hK := hK.up hk9
  refine cnil <| WC.cond rfl (fun hc4 => ?_) (fun hc4 => ?_)
  ·try simp only [tstS] at hc4
   refine cseq <| cg <| zm rfl <| za rfl <| cnil <| WC.ret1 rfl rfl ?_
   exact ⟨hK, _, rfl, by rw [List.any_eq_true.2 ⟨_, List.getElem_mem ka, hc4⟩]; simp⟩
  try simp only [tstS] at hc4
  refine cskip <| cg <| vq (Val.addI rfl rfl side side) <| zm rfl <| cnil ?_
  exact ⟨k + 1, subs, ⟨h1, hK, ka, any_next hne ka hc4⟩, by omega⟩
 try simp only [tstS] at hc2
 refine WC.exit rfl <| cseq <| cg <| za rfl <| cnil <| WC.ret1 rfl rfl ?_
 exact ⟨hK, -1, rfl, by rw [any_no hne (by omega)]; decide⟩
theorem conStr_ok {w : World} {v : Value} {l : List (List UInt8)} {f : FuncId} {caps : Array Value} {q : List UInt8 → Bool} (h1 : Rd strS w v l) (hf : plainFn Tryz.prog f = true) (hq : ∀ (w' : World) (x : List UInt8), Below w.heap.size w w' → Calls Tryz.prog f (#[St x] ++ caps) w' (Ret fun v w'' => Below w'.heap.size w' w'' ∧ v = .bool (q x))) :
   Calls Tryz.prog 106 #[v, .func (.func f) #[] caps] w (Ret fun v' w' => Below w.heap.size w w' ∧ v' = .bool (l.any q)) := by
 have hK : Old w w := Old.refl w
 refine enter (n := 9) (res := #[.tmp 4]) Tryz.func106 rfl rfl rfl rfl <| cseq <| cg <| za rfl <| cnil <| cseq <| cg <| zm rfl <| zm rfl <| ve (Eff.call pf134 rfl (idxStr_ok h1 hf hq)) ?_
 rintro v7 w1 ⟨hk1, i, rfl, hi⟩
 replace hK := hK.up hk1
 refine vq (Val.geq rfl rfl) <| za rfl <| cnil <| WC.ret1 rfl rfl ?_
 exact ⟨hK, by rw [← hi]⟩
theorem there_ok {w : World} {v : Value} {T : List Thg} {cs : List Value} {m : Man} (h1 : Rd thgS w v T) (hr : RiseT T) (h : RdMan w cs m) : Calls Tryz.prog 75 #[v, .agg cs.toArray] w (Ret fun v' w' => Below w.heap.size w w' ∧ v' = .bool (thereT T m)) := by
 obtain ⟨vb, vs, rfl, hb, hs, hq⟩ := h
 have hK : Old w w := Old.refl w
 have x1 := h1.cellsV
 have o1 := hb.oneC; have o2 := hs.oneC
 replace hb : Rd strS w vb m.blobs := hb; replace hs : Rd strS w vs m.subs := hs
 refine enter (n := 17) (res := #[.tmp 4]) Tryz.func75 rfl rfl rfl rfl <| cseq <| cg <| ve (Eff.box1 rfl ra) ?_
 rintro _ w1 ⟨b2, rfl, hn2⟩
 have hk1 := hn2.below
 replace h1 := h1.up hk1; replace hb := hb.up hk1; replace hs := hs.up hk1; replace hK := hK.up hk1
 have hb2 := hn2.blk
 refine ve (Eff.box rfl) ?_
 rintro _ w2 ⟨b3, rfl, hn3⟩
 have hk2 := hn3.below
 replace h1 := h1.up hk2; replace hb := hb.up hk2; replace hs := hs.up hk2; replace hK := hK.up hk2; replace hb2 := hb2.up hk2
 have hb3 := hn3.blk
 refine za rfl <| cnil <| cseq ?_
 have hq1 := fun (w' : World) (x : List UInt8) (hk : Below _ _ w') => there1_ok (d := x) (h1.up hk) hr (hb2.up hk)
 refine cg <| vq (Val.fieldAddr fld85_1 rfl) <| vq (Val.loadB scl70 rfl hb3 rfl) <| vq (Val.makeFunc rfl) <| ve (Eff.call pf106 rfl (conStr_ok hb pf107 hq1)) ?_
 rintro v8 w3 ⟨hk3, rfl⟩
 replace h1 := h1.up hk3; replace hs := hs.up hk3; replace hK := hK.up hk3; replace hb2 := hb2.up hk3; replace hb3 := hb3.up hk3
 refine vq (Val.not rfl) <| zm rfl ?_
 apply WR.sc true 5 (m.subs.all fun d => isT T d true) (fun w' => Below w3.heap.size w3 w')
 case hl | hg | hu | hv | hs | hoff | hd => rfl
 case hF => exact fun _ => Below.refl _ _
 case hT =>
  intro hq11
  try simp only [tstS] at hq11
  simp only [List.take_succ_cons, List.take_zero]
  have hq2 := fun (w' : World) (x : List UInt8) (hk : Below _ _ w') => there2_ok (d := x) (h1.up hk) hr (hb2.up hk)
  have hKsc11 : Old w3 w3 := Old.refl _
  refine WR.on rfl rfl <| vq (Val.fieldAddr fld85_2 rfl) <| WR.on rfl rfl <| vq (Val.loadB scl70 rfl hb3 rfl) <| WR.on rfl rfl <| vq (Val.makeFunc rfl) <| WR.on rfl rfl <| ve (Eff.call pf106 rfl (conStr_ok hs pf108 hq2)) ?_
  rintro v14 w4 ⟨hk4, rfl⟩
  replace hKsc11 := hKsc11.up hk4
  refine WR.on rfl rfl <| vq (Val.not rfl) ?_
  exact WR.nil ⟨(by rw [← any_not]; rfl), Sub.drop _ 5 _ rfl rfl, hKsc11⟩
 intro w5 hk5
 replace hK := hK.up hk5
 refine za rfl <| cnil <| WC.ret1 rfl rfl ?_
 exact ⟨hK, by rw [thereT, ← any_not m.blobs]; rfl⟩
set_option maxHeartbeats 1000000 in
theorem mthings_ok {w : World} {v : Value} {T : List Thg} (h0 : Rd thgS w v T) : Calls Tryz.prog 50 #[v] w (Ret fun v' w' => Below w.heap.size w w' ∧ v' = .bool (thingsOk T)) := by
 obtain ⟨c, hO, hc⟩ := OldC.start w
 have hsm := h0.small
 have h1 : RdC thgS c w [0] v T := Rd.toC h0 (fun k hk => by simp [hc, hasC])
 clear hc h0
 refine enter (n := 37) (res := #[.tmp 2]) Tryz.func50 rfl rfl rfl rfl <| cseq <| cg <| za rfl <| cnil <| cseq <| cseq <| cg <| zm rfl <| ve (Eff.pureC c 1 (Eff.call pf72 rfl (rmay_ok h1.now))) ?_
 rintro v8 w1 ⟨c1, m, hx1, rfl⟩
 replace hO := hO.mv m; replace h1 := h1.mv m
 refine vq (Val.not rfl) <| cnil <| WC.cond rfl (fun hc1 => ?_) (fun hc1 => ?_)
 ·try simp only [tstS] at hc1
  refine cseq <| cg <| za rfl <| cnil <| WC.ret1 rfl rfl ?_
  exact ⟨hO.below, by rw [thingsOk, show thgsMay T = false by simpa using hc1]; rfl⟩
 try simp only [tstS] at hc1
 have hm : thgsMay T = true := by simpa using hc1
 have hr := thgsMay_rise hm
 have htx := thgsMay_text hm
 clear hc1
 refine cskip <| cseq <| cseq <| cg <| zm rfl ?_
 first | refine vq (Val.rdlen sl22 (by assumption) rfl) ?_ | refine vq (Val.sllen Tryz.underlying22 rfl) ?_ | refine vq (Val.olen sl22 (by assumption) rfl) ?_ | refine vq (Val.rdlenC sl22 (by assumption) rfl) ?_
 refine zm rfl <| cnil <| cblock <| WC.loop (σ := Nat) (fun k => [(0, v), (10, v), (11, I T.length), (12, I k)]) (fun k w' => ∃ c', OldC w c' w' ∧ RdC thgS c' w' [0] v T ∧ k ≤ T.length ∧ ∀ i (h : i < T.length), i < k → thingOk T T[i] = true) (fun k => T.length - k) 0 subs ⟨_, hO, h1, by omega, fun i _ h => absurd h (Nat.not_lt_zero _)⟩ ?_
 clear hO h1
 rintro k wl ⟨cl, hO, h1, hk, hb⟩
 refine cseq <| cg <| vq (Val.lss rfl rfl) <| cnil <| cseq <| WC.cond rfl (fun hc4 => ?_) (fun hc4 => ?_)
 ·try simp only [tstS] at hc4
  have ka : k < T.length := by omega
  have hmx := thgsMay_at hm ka
  obtain ⟨hc14, _⟩ := RdC.elFlat h1 ka (by decide)
  refine cskip <| cseq <| cblock <| cseq <| cg ?_
  first | refine vq (Val.indexAddr sl22 (by assumption) rfl rfl rfl side side) ?_ | refine vq (Val.indexC sl22 (by assumption) rfl rfl side side) ?_ | refine vq (Val.indexO sl22 (by assumption) rfl rfl side side) ?_
  refine vq (Val.loadE agg60 rfl hc14.cel rfl) <| ve (Eff.allocC cl 104 zero60) ?_
  rintro _ w2 ⟨b4, c2, rfl, m, hb4⟩
  replace hO := hO.mv m; replace h1 := h1.mv m; replace hc14 := hc14.mv m
  refine WR.eff_ (Eff.storeNC agg60 rfl rfl hb4 rfl rfl ones) ?_
  rintro _ w3 ⟨hS, m⟩
  replace hO := hO.mv m; replace h1 := h1.mv m; replace hc14 := hc14.mv m
  replace hb4 := hS
  refine cnil <| cseq <| cseq ?_
  have htk := htx _ (List.getElem_mem ka)
  have hdl : (T[k].manifest = true → (manTake T[k].text).isSome = true) := hmx.2.2.1
  refine WC.regionD (Kp c2 w3 []) [0, 1, 2, 0, 1, 0] [0, 1, 3, 4, 2, 5] mixed (by kernel_rfl) ?_
  have m := Mv.drew c2 w3 []
  have hCw := Mv.drew c2 w3 []
  generalize w3.drew = w4 at m hCw ⊢
  have hb40 := hb4
  have hc140 := hc14
  replace hO := hO.mv m; replace h1 := h1.mv m; replace hb4 := hb4.mv m
  refine vd rfl (fun _ => Val.fieldAddr fld60_1 rfl) <| vc rfl hCw.kp (fun W hW => Val.loadB scl9 rfl (hb40.kp hW rfl).blk rfl) <| vd rfl (fun _ => Val.fieldAddr fld60_0 rfl) <| vc rfl hCw.kp (fun W hW => Val.loadB scl9 rfl (hb40.kp hW rfl).blk rfl) <| WD.eff rfl rfl rfl (Eff.pureC c2 1 (Eff.call pf73 rfl (of_ok T[k].text (by omega)))) rfl ?_
  rintro v18 w5 ⟨c5, m, hx5, rfl⟩
  refine ⟨fun hC => hC.step hCw m rfl, ?_⟩
  replace hCw := hCw.tr m rfl
  replace hO := hO.mv m; replace h1 := h1.mv m; replace hb4 := hb4.mv m
  refine vd rfl (fun _ => Val.sne rfl rfl) <| WD.nil ?_
  clear hb40 hc140
  clear hCw
  refine WC.cond rfl (fun hc6 => ?_) (fun hc6 => ?_)
  ·try simp only [tstS] at hc6
   refine cseq <| cg <| za rfl <| cnil <| WC.ret1 rfl rfl ?_
   exact ⟨hO.below, by rw [things_bad ka (by rw [thingOk, show (digestS T[k].text == T[k].digest) = false by simpa using hc6]; rfl)]⟩
  try simp only [tstS] at hc6
  have hdg : (digestS T[k].text == T[k].digest) = true := by simpa using hc6
  refine cskip <| cseq <| cg <| vq (Val.fieldAddr fld60_1 rfl) <| vq (Val.loadB scl9 rfl hb4.blk rfl) <| ve (Eff.pureC c5 7 (Eff.call pf74 rfl (mtake_own T[k].text (by omega)))) ?_
  rintro v25 w6 ⟨c6, m, hx6, ⟨u1, u2, rfl, g1, g2⟩⟩
  replace hO := hO.mv m; replace h1 := h1.mv m; replace hb4 := hb4.mv m
  replace g1 := g1.toC hx6
  replace g2 := g2.toC hx6
  have q1 := g1.own.oneC; have q2 := g2.own.oneC
  obtain ⟨e1, e2, e3, e4, e5⟩ := manTake_texts (s := T[k].text)
  refine zm rfl <| vq (Val.extract rfl rfl) <| vq (Val.extract rfl rfl) <| ve (Eff.allocC c6 105 zero85) ?_
  rintro _ w7 ⟨b5, c7, rfl, m, hb5⟩
  replace hO := hO.mv m; replace h1 := h1.mv m; replace hb4 := hb4.mv m; replace g1 := g1.mv m; replace g2 := g2.mv m
  refine WR.eff_ (Eff.storeNC agg85 rfl rfl hb5 rfl rfl ones) ?_
  rintro _ w8 ⟨hS, m⟩
  replace hO := hO.mv m; replace h1 := h1.mv m; replace hb4 := hb4.mv m; replace g1 := g1.mv m; replace g2 := g2.mv m
  replace hb5 := hS
  refine za rfl <| cnil <| cseq <| cg <| vq (Val.fieldAddr fld60_2 rfl) <| vq (Val.loadB scl4 rfl hb4.blk rfl) <| zm rfl ?_
  apply WR.sc true 4 (!namesOk T T[k].text) (fun w' => ∃ c', Acc c7 w8 [] c' w')
  case hl | hg | hu | hv | hs | hoff | hd => rfl
  case hF => exact fun _ => ⟨_, Acc.refl _ _ _⟩
  case hT =>
   intro hq7
   try simp only [tstS] at hq7
   simp only [List.take_succ_cons, List.take_zero]
   have hman : RdMan _ [I ((manTake T[k].text).getD man0).kind, u1, u2] ((manTake T[k].text).getD man0) := ⟨u1, u2, rfl, g1.own.rdStrs e1 (by omega), g2.own.rdStrs e2 (by omega), e5⟩
   have hKsc7 := Acc.refl c7 w8 []
   refine WR.on rfl rfl <| zm rfl <| WR.on rfl rfl <| vq (Val.loadBN agg85 rfl hb5.blk rfl) <| WR.on rfl rfl <| ve (Eff.pureC c7 1 (Eff.call pf75 rfl (there_ok h1.now hr hman))) ?_
   rintro v33 w9 ⟨c9, m, hx9, rfl⟩
   replace hKsc7 := hKsc7.mv m
   refine WR.on rfl rfl <| vq (Val.not rfl) ?_
   exact WR.nil ⟨(by rw [namesOk_some (hdl hq7)]; rfl), Sub.drop _ 4 _ rfl rfl, _, hKsc7⟩
  rintro w10 ⟨c10, ⟨m⟩⟩
  replace hO := hO.mv m; replace h1 := h1.mv m
  refine cnil <| WC.cond rfl (fun hc9 => ?_) (fun hc9 => ?_)
  ·try simp only [tstS] at hc9
   refine cseq <| cg <| za rfl <| cnil <| WC.ret1 rfl rfl ?_
   exact ⟨hO.below, by rw [things_bad ka (by rw [thingOk, hdg, hc9.1, show namesOk T T[k].text = false by simpa using hc9.2]; rfl)]⟩
  try simp only [tstS] at hc9
  refine cskip <| cg <| vq (Val.addI rfl rfl side side) <| zm rfl <| cnil ?_
  have hok : thingOk T T[k] = true := by
    rw [thingOk, hdg]
    cases hmf : T[k].manifest with
    | false => rfl
    | true => rw [hmf] at hc9; simpa using hc9
  exact ⟨k + 1, subs, ⟨_, hO, h1, ka, fun i h hi => by
    rcases Nat.lt_or_ge i k with h1 | h1
    · exact hb i h h1
    have : i = k := by omega
    subst this; exact hok⟩, by omega⟩
 try simp only [tstS] at hc4
 refine WC.exit rfl <| cseq <| cg <| za rfl <| cnil <| WC.ret1 rfl rfl ?_
 exact ⟨hO.below, by rw [things_all hm fun i h => hb i h (by omega)]⟩
end Go.Proofs.YtdlpibhecdfbcabGreatDoor

namespace Silo
open Go Go.Eng
def FirstQ {α : Type} (q : α → Bool) (l : List α) (i : Int) : Prop := (i = -1 ∧ ∀ x ∈ l, q x = false) ∨ ∃ k : Nat, i = k ∧ ∃ hk : k < l.length, q l[k] = true ∧ ∀ x ∈ l.take k, q x = false
theorem firstQ_any {α : Type} {q : α → Bool} {l : List α} {i : Int} (h : FirstQ q l i) : decide (0 ≤ i) = l.any q := by
  rcases h with ⟨rfl, h⟩ | ⟨k, rfl, hk, hq, _⟩
  · rw [List.any_eq_false.2 fun x hx => by rw [h x hx]; decide]; rfl
  · rw [List.any_eq_true.2 ⟨_, List.getElem_mem hk, hq⟩]; simp
theorem filter_take_succ {α : Type} {p : α → Bool} {l : List α} {j : Nat} (hj : j < l.length) : (l.take (j + 1)).filter p = (l.take j).filter p ++ (if p l[j] = true then [l[j]] else []) := by
  rw [List.take_add_one, List.getElem?_eq_getElem hj, Option.toList_some, List.filter_append]
  cases h : p l[j] <;> simp [h]
theorem take_set_next {α : Type} (L : List α) (i : Nat) (x : α) (h : i < L.length) : (L.set i x).take (i + 1) = L.take i ++ [x] := by
  rw [List.set_eq_take_append_cons_drop, if_pos h, List.take_append, List.length_take, Nat.min_eq_left (by omega), List.take_of_length_le (by rw [List.length_take]; omega)]
  rw [show i + 1 - i = 1 by omega]; rfl
end Silo
namespace Go.Proofs.YtdlpibhecdfbcabGreatDoor
open Go Go.Eng Go.RowKit Silo TryzT
theorem idxThg_ok {w : World} {v : Value} {l : List Thg} {f : FuncId} {caps : Array Value} {q : Thg → Bool} (h1 : Rd thgS w v l) (hf : plainFn Tryz.prog f = true) (hq : ∀ (w' : World) (x : Thg), Below w.heap.size w w' → Calls Tryz.prog f (#[.agg (encThg x).toArray] ++ caps) w' (Ret fun v w'' => Below w'.heap.size w' w'' ∧ v = .bool (q x))) :
   Calls Tryz.prog 126 #[v, .func (.func f) #[] caps] w (Ret fun v' w' => Below w.heap.size w w' ∧ ∃ i : Int, v' = I i ∧ FirstQ q l i) := by
 have hsm := h1.small
 have hK : Old w w := Old.refl w
 refine enter (n := 19) (res := #[.tmp 4]) Tryz.func126 rfl rfl rfl rfl <| cseq <| cg <| za rfl <| cnil <| cseq <| cseq <| cg <| zm rfl ?_
 first | refine vq (Val.rdlen sl22 (by assumption) rfl) ?_ | refine vq (Val.sllen Tryz.underlying22 rfl) ?_
 refine zm rfl <| cnil <| cblock <| WC.loop (σ := Nat) (fun k => [(0, v), (1, .func (.func f) #[] caps), (7, I l.length), (8, I k)]) (fun k w' => Rd thgS w' v l ∧ Old w w' ∧ k ≤ l.length ∧ ∀ x ∈ l.take k, q x = false) (fun k => l.length - k) 0 subs ⟨h1, hK, by omega, by simp⟩ ?_
 rintro k wl ⟨h1, hK, hk, hne⟩
 refine cseq <| cg <| vq (Val.lss rfl rfl) <| cnil <| cseq <| WC.cond rfl (fun hc2 => ?_) (fun hc2 => ?_)
 ·try simp only [tstS] at hc2
  have ka : k < l.length := by omega
  obtain ⟨cs1, hc14, rfl, ok1⟩ := h1.el ka
  refine cskip <| cseq <| cblock <| cseq <| cg <| zm rfl <| za rfl <| cnil <| cseq <| cg <| zm rfl <| zm rfl <| zm rfl <| vq (Val.indexAddr sl22 (by assumption) rfl rfl rfl side side) <| vq (Val.loadE agg60 rfl hc14 rfl) ?_
  refine ve (Eff.callV rfl hf rfl (hq _ _ hK)) ?_
  rintro _ w9 ⟨hk9, rfl⟩
  replace h1 := h1.up hk9; replace hK := hK.up hk9
  refine cnil <| WC.cond rfl (fun hc4 => ?_) (fun hc4 => ?_)
  ·try simp only [tstS] at hc4
   refine cseq <| cg <| zm rfl <| za rfl <| cnil <| WC.ret1 rfl rfl ?_
   exact ⟨hK, _, rfl, .inr ⟨k, rfl, ka, hc4, hne⟩⟩
  try simp only [tstS] at hc4
  refine cskip <| cg <| vq (Val.addI rfl rfl side side) <| zm rfl <| cnil ?_
  exact ⟨k + 1, subs, ⟨h1, hK, ka, any_next hne ka hc4⟩, by omega⟩
 try simp only [tstS] at hc2
 refine WC.exit rfl <| cseq <| cg <| za rfl <| cnil <| WC.ret1 rfl rfl ?_
 exact ⟨hK, -1, rfl, .inl ⟨rfl, by rw [List.take_of_length_le (by omega)] at hne; exact hne⟩⟩
theorem idxTag_ok {w : World} {v : Value} {l : List Tg} {f : FuncId} {caps : Array Value} {q : Tg → Bool} (h1 : Rd tgS w v l) (hf : plainFn Tryz.prog f = true) (hq : ∀ (w' : World) (x : Tg), Below w.heap.size w w' → Calls Tryz.prog f (#[.agg (encTg x).toArray] ++ caps) w' (Ret fun v w'' => Below w'.heap.size w' w'' ∧ v = .bool (q x))) :
   Calls Tryz.prog 118 #[v, .func (.func f) #[] caps] w (Ret fun v' w' => Below w.heap.size w w' ∧ ∃ i : Int, v' = I i ∧ FirstQ q l i) := by
 have hsm := h1.small
 have hK : Old w w := Old.refl w
 refine enter (n := 19) (res := #[.tmp 4]) Tryz.func118 rfl rfl rfl rfl <| cseq <| cg <| za rfl <| cnil <| cseq <| cseq <| cg <| zm rfl ?_
 first | refine vq (Val.rdlen sl23 (by assumption) rfl) ?_ | refine vq (Val.sllen Tryz.underlying23 rfl) ?_
 refine zm rfl <| cnil <| cblock <| WC.loop (σ := Nat) (fun k => [(0, v), (1, .func (.func f) #[] caps), (7, I l.length), (8, I k)]) (fun k w' => Rd tgS w' v l ∧ Old w w' ∧ k ≤ l.length ∧ ∀ x ∈ l.take k, q x = false) (fun k => l.length - k) 0 subs ⟨h1, hK, by omega, by simp⟩ ?_
 rintro k wl ⟨h1, hK, hk, hne⟩
 refine cseq <| cg <| vq (Val.lss rfl rfl) <| cnil <| cseq <| WC.cond rfl (fun hc2 => ?_) (fun hc2 => ?_)
 ·try simp only [tstS] at hc2
  have ka : k < l.length := by omega
  obtain ⟨cs1, hc14, rfl, ok1⟩ := h1.el ka
  refine cskip <| cseq <| cblock <| cseq <| cg <| zm rfl <| za rfl <| cnil <| cseq <| cg <| zm rfl <| zm rfl <| zm rfl <| vq (Val.indexAddr sl23 (by assumption) rfl rfl rfl side side) <| vq (Val.loadE agg66 rfl hc14 rfl) ?_
  refine ve (Eff.callV rfl hf rfl (hq _ _ hK)) ?_
  rintro _ w9 ⟨hk9, rfl⟩
  replace h1 := h1.up hk9; replace hK := hK.up hk9
  refine cnil <| WC.cond rfl (fun hc4 => ?_) (fun hc4 => ?_)
  ·try simp only [tstS] at hc4
   refine cseq <| cg <| zm rfl <| za rfl <| cnil <| WC.ret1 rfl rfl ?_
   exact ⟨hK, _, rfl, .inr ⟨k, rfl, ka, hc4, hne⟩⟩
  try simp only [tstS] at hc4
  refine cskip <| cg <| vq (Val.addI rfl rfl side side) <| zm rfl <| cnil ?_
  exact ⟨k + 1, subs, ⟨h1, hK, ka, any_next hne ka hc4⟩, by omega⟩
 try simp only [tstS] at hc2
 refine WC.exit rfl <| cseq <| cg <| za rfl <| cnil <| WC.ret1 rfl rfl ?_
 exact ⟨hK, -1, rfl, .inl ⟨rfl, by rw [List.take_of_length_le (by omega)] at hne; exact hne⟩⟩
theorem conTag_ok {w : World} {v : Value} {l : List Tg} {f : FuncId} {caps : Array Value} {q : Tg → Bool} (h1 : Rd tgS w v l) (hf : plainFn Tryz.prog f = true) (hq : ∀ (w' : World) (x : Tg), Below w.heap.size w w' → Calls Tryz.prog f (#[.agg (encTg x).toArray] ++ caps) w' (Ret fun v w'' => Below w'.heap.size w' w'' ∧ v = .bool (q x))) :
   Calls Tryz.prog 85 #[v, .func (.func f) #[] caps] w (Ret fun v' w' => Below w.heap.size w w' ∧ v' = .bool (l.any q)) := by
 have hK : Old w w := Old.refl w
 refine enter (n := 9) (res := #[.tmp 4]) Tryz.func85 rfl rfl rfl rfl <| cseq <| cg <| za rfl <| cnil <| cseq <| cg <| zm rfl <| zm rfl <| ve (Eff.call pf118 rfl (idxTag_ok h1 hf hq)) ?_
 rintro v7 w1 ⟨hk1, i, rfl, hi⟩
 replace hK := hK.up hk1
 refine vq (Val.geq rfl rfl) <| za rfl <| cnil <| WC.ret1 rfl rfl ?_
 exact ⟨hK, by rw [← firstQ_any hi]⟩
set_option maxHeartbeats 2000000 in
theorem delF_ok {c : Nat → Nat} {w : World} {v : Value} {l : List Thg} {f : FuncId} {caps : Array Value} {q : Thg → Bool} (h : OwnC c w 71 60 3 v l.length (l.flatMap encThg)) (hok : ∀ t ∈ l, t.digest.length ≤ 140737488355328 ∧ t.text.length ≤ 140737488355328) (hl : l.length ≤ 1048576) (hf : plainFn Tryz.prog f = true) (hq : ∀ (c' : Nat → Nat) (w' : World) (x : Thg), Mv c w c' w' [71] → Calls Tryz.prog f (#[.agg (encThg x).toArray] ++ caps) w' (Ret fun v w'' => Below w'.heap.size w' w'' ∧ v = .bool (q x))) :
   Calls Tryz.prog 92 #[v, .func (.func f) #[] caps] w (Ret fun v' w' => ∃ c', Mv c w c' w' [71] ∧ OwnC c' w' 71 60 3 v' (l.filter fun x => !q x).length ((l.filter fun x => !q x).flatMap encThg)) := by
 have hJ := OldJ.start c w [71]
 have ho := h.inn (J := [71]) rfl
 have hR0 := (h.rdFlat (h0 := encThg_len) (h1 := encThg_one) (by omega) hok).now
 have hq0 : ∀ (w' : World) (x : Thg), Below w.heap.size w w' → Calls Tryz.prog f (#[.agg (encThg x).toArray] ++ caps) w' (Ret fun v w'' => Below w'.heap.size w' w'' ∧ v = .bool (q x)) := fun w' x hb => by
   obtain ⟨c', hM, _⟩ := Mv.pure c 1 hb
   exact hq c' w' x (hM.more rfl)
 generalize mask c [71] = c0 at hJ ho
 refine enter (n := 42) (res := #[.tmp 4]) Tryz.func92 rfl rfl rfl rfl <| cseq <| cg <| za rfl <| cnil <| cseq <| cg <| zm rfl <| zm rfl <| ve (Eff.pureC c0 1 (Eff.call pf126 rfl (idxThg_ok hR0 hf hq0))) ?_
 rintro v10 w1 ⟨c1, m, hx1, i0, rfl, hi0⟩
 replace hJ := hJ.mv m; replace ho := ho.mv m
 refine za rfl <| cnil <| cseq <| cseq <| cg <| zm rfl <| vq (Val.eql rfl rfl) <| cnil <| WC.cond rfl (fun hc2 => ?_) (fun hc2 => ?_)
 ·try simp only [tstS] at hc2
  refine cseq <| cg <| zm rfl <| za rfl <| cnil <| WC.ret1 rfl rfl ?_
  have hall : ∀ x ∈ l, q x = false := by
    rcases hi0 with ⟨_, h⟩ | ⟨k, h, _⟩
    · exact h
    omega
  have hfl : (l.filter fun x => !q x) = l := List.filter_eq_self.2 fun x hx => by rw [hall x hx]; rfl
  rw [hfl]
  exact ⟨_, hJ.out, ho.out hJ rfl⟩
 try simp only [tstS] at hc2
 obtain ⟨k, hik, hk, hqk, hnk⟩ : ∃ k : Nat, i0 = k ∧ ∃ hk : k < l.length, q l[k] = true ∧ ∀ x ∈ l.take k, q x = false := by
   rcases hi0 with ⟨h, _⟩ | h
   · exact absurd h hc2
   exact h
 subst hik
 obtain ⟨g, cp, rfl, hncp, hm1⟩ := ho.posForm (by omega)
 have hstart : l.take k = (l.take (k + 1)).filter fun x => !q x := by
   rw [filter_take_succ hk, hqk, List.filter_eq_self.2 fun x hx => by rw [hnk x hx]; rfl]; simp
 refine cskip <| cseq <| cseq <| cg <| zm rfl <| vq (Val.addI rfl rfl side side) <| za rfl <| cnil <| cblock ?_
 refine WC.loop (σ := Nat × Nat × List Thg) (fun st => [(0, .slice (some ⟨g, 0, none⟩) l.length cp), (1, .func (.func f) #[] caps), (5, I st.1), (6, I st.2.1)]) (fun st w' => ∃ c', OldJ c w [71] c' w' ∧ OwnC c' w' 71 60 3 (.slice (some ⟨g, 0, none⟩) l.length cp) l.length (st.2.2.flatMap encThg) ∧ st.2.2.length = l.length ∧ st.1 < st.2.1 ∧ st.2.1 ≤ l.length ∧ (st.2.2.take st.1 = (l.take st.2.1).filter fun x => !q x) ∧ st.2.2.drop st.2.1 = l.drop st.2.1) (fun st => l.length - st.2.1) (k, k + 1, l) subs ⟨_, hJ, ho, rfl, by simp, by simp; omega, hstart, rfl⟩ ?_
 clear hJ ho
 rintro ⟨i, j, L⟩ wl ⟨cl, hJ, ho, hLl, hij, hj, hLt, hLd⟩
 dsimp only at hJ ho hLl hij hj hLt hLd ⊢
 refine cseq <| cseq <| cg <| zm rfl <| zm rfl <| vq (Val.sllen Tryz.underlying22 rfl) <| vq (Val.lss rfl rfl) <| cnil <| WC.cond rfl (fun hc5 => ?_) (fun hc5 => ?_)
 ·try simp only [tstS] at hc5
  have ja : j < l.length := by omega
  have jb : j < L.length := by omega
  have hLj : L[j] = l[j] := by
    have h1 : (L.drop j)[0]? = (l.drop j)[0]? := by rw [hLd]
    rw [List.getElem?_drop, List.getElem?_drop, Nat.add_zero, List.getElem?_eq_getElem ja, List.getElem?_eq_getElem jb] at h1
    exact Option.some.inj h1
  have hS := OwnC.rdFlat (n' := 3) (enc := encThg) (ok := fun _ => True) (h0 := encThg_len) (h1 := encThg_one) (l := L) (by rw [hLl]; exact ho) (by omega) (fun _ _ => trivial)
  obtain ⟨hc24, _⟩ := RdC.elFlat hS jb (by decide)
  have hfs := filter_take_succ (p := fun x => !q x) ja
  have hLd1 : L.drop (j + 1) = l.drop (j + 1) := by rw [← List.drop_drop, ← List.drop_drop, hLd]
  refine cskip <| cseq <| cblock <| cseq <| cg <| zm rfl <| zm rfl <| vq (Val.indexO sl22 ho rfl rfl (by omega) (by omega)) <| vq (Val.loadE agg60 rfl hc24.cel rfl) ?_
  refine ve (Eff.allocC cl 107 zero60) ?_
  rintro _ w2 ⟨b7, c2, rfl, m, hb7⟩
  replace hJ := hJ.mv m; replace ho := ho.mv m; replace hc24 := hc24.mv m
  refine WR.eff_ (Eff.storeNC agg60 rfl rfl hb7 rfl rfl ones) ?_
  rintro _ w3 ⟨hS, m⟩
  replace hJ := hJ.mv m; replace ho := ho.mv m; replace hc24 := hc24.mv m
  replace hb7 := hS
  refine cnil <| cseq <| cg <| zm rfl <| vq (Val.loadBN agg60 rfl hb7.blk rfl) <| ve (Eff.pureC c2 1 (Eff.callV rfl hf rfl (hq _ _ (L[j]) hJ.out))) ?_
  rintro v28 w4 ⟨c4, m, hx4, rfl⟩
  replace hJ := hJ.mv m; replace ho := ho.mv m; replace hc24 := hc24.mv m; replace hb7 := hb7.mv m
  rw [hLj]
  clear hc24
  refine vq (Val.not rfl) <| cnil <| WC.mono (N := (fun e w' => ∃ (c' : Nat → Nat) (i' : Nat) (L' : List Thg), Sub [(4000000, .tuple #[]), (0, .slice (some ⟨g, 0, none⟩) l.length cp), (1, .func (.func f) #[] caps), (5, I (i' : Nat)), (6, I j)] e ∧ OldJ c w [71] c' w' ∧ OwnC c' w' 71 60 3 (.slice (some ⟨g, 0, none⟩) l.length cp) l.length (L'.flatMap encThg) ∧ L'.length = l.length ∧ i' < j + 1 ∧ (L'.take i' = (l.take (j + 1)).filter fun x => !q x) ∧ L'.drop (j + 1) = l.drop (j + 1))) ?_ ?_
  ·refine WC.cond rfl (fun hc8 => ?_) (fun hc8 => ?_)
   ·try simp only [tstS] at hc8
    refine cseq <| cg <| zm rfl <| zm rfl <| vq (Val.loadBN agg60 rfl hb7.blk rfl) <| vq (Val.indexO sl22 ho rfl rfl (by omega) (by omega)) ?_
    refine WR.eff_ ((Eff.storeON (j := i) agg60 ho (by omega) rfl rfl (encThg_len _) (encThg_one _))) ?_
    rintro _ w5 ⟨c5, m, ho⟩
    replace hJ := hJ.mv m
    rw [flatMap_put encThg_len L i (by omega)] at ho
    refine cnil <| cg <| zm rfl <| vq (Val.addI rfl rfl side side) <| za rfl <| cnil ?_
    have hql : q l[j] = false := by simpa using hc8
    exact ⟨_, i + 1, L.set i L[j], subs, hJ, ho, by simpa using hLl, by omega, by rw [hfs, hql, ← hLt, take_set_next L i L[j] (by omega), hLj]; rfl, by rw [List.drop_set_of_lt (by omega)]; exact hLd1⟩
   try simp only [tstS] at hc8
   refine cskip ?_
   have hql : q l[j] = true := by simpa using hc8
   exact ⟨_, i, L, subs, hJ, ho, hLl, by omega, by rw [hfs, hql, ← hLt]; simp, hLd1⟩
  rintro e6 w6' ⟨c6', i', L', hsub, hJ, ho, h1, h2, h3, h4⟩
  refine WC.sub hsub <| cg <| zm rfl <| vq (Val.addI rfl rfl side side) <| za rfl <| cnil ?_
  exact ⟨(i', j + 1, L'), subs, ⟨_, hJ, ho, h1, h2, by dsimp only; omega, h3, h4⟩, by dsimp only; omega⟩
 try simp only [tstS] at hc5
 have hjn : j = l.length := by omega
 subst hjn
 rw [List.take_length] at hLt
 have hil : i ≤ l.length := by omega
 replace ho := ho.to (k := i) hil
 rw [flatMap_take encThg_len, hLt] at ho
 have hfl : (l.filter fun x => !q x).length = i := by rw [← hLt, List.length_take]; omega
 have hsub : subV (.slice (some ⟨g, 0, none⟩) l.length cp) 0 (i : Int).toNat 3 = .slice (some ⟨g, 0, none⟩) i cp := by simp [subV, add_lit]
 rw [show subV (.slice (some ⟨g, 0, none⟩) l.length cp) 0 i 3 = .slice (some ⟨g, 0, none⟩) i cp from hsub] at ho
 refine WC.exit rfl <| cseq <| cg <| zm rfl <| zm rfl <| vq (Val.partFrom sl22 rfl rfl (by omega) (by omega)) ?_
 refine WR.eff_ ((Eff.clearO (lo := i) (hi := l.length) sl22 ones ho rfl (by omega) (by omega) (by omega))) ?_
 rintro _ w6 ⟨c6, m, ho⟩
 replace hJ := hJ.mv m
 refine cnil <| cseq <| cg <| zm rfl <| zm rfl <| vq (Val.partTo sl22 rfl rfl (by omega) (by omega)) ?_
 rw [hsub]
 refine za rfl <| cnil <| WC.ret1 rfl rfl ?_
 rw [hfl]
 exact ⟨_, hJ.out, ho.out hJ rfl⟩
end Go.Proofs.YtdlpibhecdfbcabGreatDoor

namespace Silo
open Go Go.Eng
theorem ltr_int (c : UInt8) : ((decide ((97 : Int) ≤ (c.toNat : Int)) && decide ((c.toNat : Int) ≤ 122)) || (decide ((48 : Int) ≤ (c.toNat : Int)) && decide ((c.toNat : Int) ≤ 57))) = ltr c := by
  unfold ltr
  rw [Bool.eq_iff_iff]; simp; omega
theorem at_nat {s : List UInt8} {k : Nat} (h : k < s.length) : s[(k : Int).toNat]? = some s[k] := List.getElem?_eq_getElem h
theorem byteIs (c d : UInt8) : decide ((c.toNat : Int) = (d.toNat : Int)) = (c == d) := by rw [Bool.eq_iff_iff, decide_eq_true_eq, beq_iff_eq, ← UInt8.toNat_inj]; omega
theorem prefix_take (s p : List UInt8) : Lib.hasPrefix s p = decide (s.take p.length = p) := by
 rw [← Lib.hasPrefix_of_take, Bool.eq_iff_iff]
 simp only [Bool.and_eq_true, decide_eq_true_eq, beq_iff_eq]
 constructor
 · exact fun h => h.2
 intro h
 refine ⟨?_, h⟩
 have := congrArg List.length h
 rw [List.length_take] at this; omega
theorem all_upto {p : UInt8 → Bool} {s : List UInt8} {k : Nat} (hk : k < s.length) (hb : ∀ i (h : i < s.length), i < k → p s[i] = true) (h : p s[k] = true) : ∀ i (h : i < s.length), i < k + 1 → p s[i] = true := fun i hi hik => by
  rcases Nat.lt_or_ge i k with h1 | h1
  · exact hb i hi h1
  · have : i = k := by omega
    subst this; exact h
theorem partP_step {s : List UInt8} (h0 : lead ltr s ≠ 0) (h1 : s.drop (lead ltr s) ≠ []) (h2 : betw (s.drop (lead ltr s)) ≠ 0) : partP s = partP ((s.drop (lead ltr s)).drop (betw (s.drop (lead ltr s)))) := by
  have hl := lead_le ltr s
  rw [← partGo_eq (s.length + 1) s (by omega), partGo, if_neg (by rintro (h | h); exact h0 h; exact h1 h), if_neg h2]
  exact partGo_eq _ _ (by simp only [List.length_drop]; omega)
theorem partP_end {s : List UInt8} (h : lead ltr s = 0 ∨ s.drop (lead ltr s) = []) : partP s = decide (0 < lead ltr s) := by
  rw [← partGo_eq (s.length + 1) s (by omega), partGo, if_pos h]
theorem partP_bad {s : List UInt8} (h0 : lead ltr s ≠ 0) (h1 : s.drop (lead ltr s) ≠ []) (h2 : betw (s.drop (lead ltr s)) = 0) : partP s = false := by
  rw [← partGo_eq (s.length + 1) s (by omega), partGo, if_neg (by rintro (h | h); exact h0 h; exact h1 h), if_pos h2]
end Silo
namespace Go.Proofs.YtdlpibhecdfbcabGreatDoor
open Go Go.Eng Go.RowKit Silo TryzT
theorem letter_ok {w : World} (c : UInt8) : Calls Tryz.prog 79 #[.int .u8 c.toNat] w (Ret fun v w' => Below w.heap.size w w' ∧ v = .bool (ltr c)) := by
 refine enter (n := 17) (res := #[.tmp 2]) Tryz.func79 rfl rfl rfl rfl <| cseq <| cg <| za rfl <| cnil <| cseq <| cg <| zm rfl <| vq (Val.geq rfl rfl) <| zm rfl ?_
 apply WR.sc true 2 _ (fun w' => w = w')
 case hl | hg | hu | hv | hs | hoff | hd => rfl
 case hF => exact fun _ => rfl
 case hT =>
  intro hq5
  try simp only [tstS] at hq5
  simp only [List.take_succ_cons, List.take_zero]
  refine WR.on rfl rfl <| zm rfl <| WR.on rfl rfl <| vq (Val.leq rfl rfl) ?_
  exact WR.nil ⟨rfl, Sub.drop _ 2 _ rfl rfl, rfl⟩
 rintro _ rfl
 refine zm rfl ?_
 apply WR.sc false 6 _ (fun w' => w = w')
 case hl | hg | hu | hv | hs | hoff | hd => rfl
 case hF => exact fun _ => rfl
 case hT =>
  intro hq13
  try simp only [tstS] at hq13
  simp only [List.take_succ_cons, List.take_zero]
  refine WR.on rfl rfl <| zm rfl <| WR.on rfl rfl <| vq (Val.geq rfl rfl) <| WR.on rfl rfl <| zm rfl ?_
  apply WR.sc true 2 _ (fun w' => w = w')
  case hl | hg | hu | hv | hs | hoff | hd => rfl
  case hF => exact fun _ => rfl
  case hT =>
   intro hq12
   try simp only [tstS] at hq12
   simp only [List.take_succ_cons, List.take_zero]
   refine WR.on rfl rfl <| zm rfl <| WR.on rfl rfl <| vq (Val.leq rfl rfl) ?_
   exact WR.nil ⟨rfl, Sub.drop _ 2 _ rfl rfl, rfl⟩
  rintro _ rfl
  exact WR.nil ⟨rfl, Sub.drop _ 4 _ rfl rfl, rfl⟩
 rintro _ rfl
 refine za rfl <| cnil <| WC.ret1 rfl rfl ?_
 exact ⟨Below.refl _ _, by rw [← ltr_int]; rfl⟩
theorem plain_ok {w : World} (c : UInt8) : Calls Tryz.prog 154 #[.int .u8 c.toNat] w (Ret fun v w' => Below w.heap.size w w' ∧ v = .bool (ltr c)) := by
 refine enter (n := 17) (res := #[.tmp 2]) Tryz.func154 rfl rfl rfl rfl <| cseq <| cg <| za rfl <| cnil <| cseq <| cg <| zm rfl <| vq (Val.geq rfl rfl) <| zm rfl ?_
 apply WR.sc true 2 _ (fun w' => w = w')
 case hl | hg | hu | hv | hs | hoff | hd => rfl
 case hF => exact fun _ => rfl
 case hT =>
  intro hq5
  try simp only [tstS] at hq5
  simp only [List.take_succ_cons, List.take_zero]
  refine WR.on rfl rfl <| zm rfl <| WR.on rfl rfl <| vq (Val.leq rfl rfl) ?_
  exact WR.nil ⟨rfl, Sub.drop _ 2 _ rfl rfl, rfl⟩
 rintro _ rfl
 refine zm rfl ?_
 apply WR.sc false 6 _ (fun w' => w = w')
 case hl | hg | hu | hv | hs | hoff | hd => rfl
 case hF => exact fun _ => rfl
 case hT =>
  intro hq13
  try simp only [tstS] at hq13
  simp only [List.take_succ_cons, List.take_zero]
  refine WR.on rfl rfl <| zm rfl <| WR.on rfl rfl <| vq (Val.geq rfl rfl) <| WR.on rfl rfl <| zm rfl ?_
  apply WR.sc true 2 _ (fun w' => w = w')
  case hl | hg | hu | hv | hs | hoff | hd => rfl
  case hF => exact fun _ => rfl
  case hT =>
   intro hq12
   try simp only [tstS] at hq12
   simp only [List.take_succ_cons, List.take_zero]
   refine WR.on rfl rfl <| zm rfl <| WR.on rfl rfl <| vq (Val.leq rfl rfl) ?_
   exact WR.nil ⟨rfl, Sub.drop _ 2 _ rfl rfl, rfl⟩
  rintro _ rfl
  exact WR.nil ⟨rfl, Sub.drop _ 4 _ rfl rfl, rfl⟩
 rintro _ rfl
 refine za rfl <| cnil <| WC.ret1 rfl rfl ?_
 exact ⟨Below.refl _ _, by rw [← ltr_int]; rfl⟩
theorem hasPrefix_ok {w : World} (s p : List UInt8) : Calls Tryz.prog 176 #[St s, St p] w (Ret fun v w' => Below w.heap.size w w' ∧ v = .bool (Lib.hasPrefix s p)) :=
  (Tryz.strings_HasPrefix ⟨s.toArray⟩ ⟨p.toArray⟩ w).mono fun e w' he => by
    obtain ⟨rfl, rfl⟩ := he
    exact ⟨_, rfl, Below.refl _ _, rfl⟩
theorem between_ok {w : World} (s : List UInt8) (hs : s.length ≤ 140737488355328) : Calls Tryz.prog 155 #[St s] w (Ret fun v w' => Below w.heap.size w w' ∧ v = I (betw s : Nat)) := by
 have hK : Old w w := Old.refl w
 refine enter (n := 30) (res := #[.tmp 2]) Tryz.func155 rfl rfl rfl rfl <| cseq <| cg <| za rfl <| cnil <| cseq <| cg <| za rfl <| cnil <| cseq <| cblock <| WC.loop (σ := Nat) (fun k => [(0, St s), (3, I k)]) (fun k w' => Old w w' ∧ k ≤ s.length ∧ ∀ i (h : i < s.length), i < k → (s[i] == 45) = true) (fun k => s.length - k) 0 subs ⟨hK, by omega, fun i _ h => absurd h (Nat.not_lt_zero _)⟩ ?_
 clear hK
 rintro k wl ⟨hK, hk, hb⟩
 refine cseq <| cseq <| cg <| zm rfl <| zm rfl <| vq (Val.slen Tryz.underlying9 rfl) <| vq (Val.lss rfl rfl) <| zm rfl ?_
 apply WR.sc true 4 (decide (k < s.length) && (s[k]? == some 45)) (fun w' => wl = w')
 case hl | hg | hu | hv | hs | hoff | hd => rfl
 case hF => exact fun _ => rfl
 case hT =>
  intro hq9
  try simp only [tstS] at hq9
  simp only [List.take_succ_cons, List.take_zero]
  refine WR.on rfl rfl <| zm rfl <| WR.on rfl rfl <| zm rfl <| WR.on rfl rfl <| vq (Val.sindex Tryz.underlying9 rfl rfl (by omega) (at_nat (show k < s.length by omega))) ?_
  refine WR.on rfl rfl <| vq (Val.eql rfl rfl) ?_
  exact WR.nil ⟨(by rw [List.getElem?_eq_getElem (show k < s.length by omega), decide_eq_true (show k < s.length by omega)]; exact congrArg (fun b => some (Value.bool b)) (byteIs _ 45)), Sub.drop _ 4 _ rfl rfl, rfl⟩
 rintro _ rfl
 refine cnil <| WC.cond rfl (fun hc2 => ?_) (fun hc2 => ?_)
 ·try simp only [tstS] at hc2
  obtain ⟨_, hc2⟩ := hc2
  obtain ⟨ka, hc2'⟩ := hc2
  rw [List.getElem?_eq_getElem ka] at hc2'
  refine cskip <| cblock <| cg <| zm rfl <| vq (Val.addI rfl rfl side side) <| za rfl <| cnil ?_
  exact ⟨k + 1, subs, ⟨hK, ka, all_upto (p := (· == 45)) ka hb (by simpa using hc2')⟩, by omega⟩
 try simp only [tstS] at hc2
 have hl : lead (· == 45) s = k := lead_eq hk hb fun h => by
   rw [List.getElem?_eq_getElem h] at hc2
   cases hx : s[k] == 45 with
   | false => rfl
   | true => rw [beq_iff_eq] at hx; rw [hx] at hc2; simp [h] at hc2
 refine WC.exit rfl <| cseq <| cblock <| cseq <| cg <| zm rfl <| vq (Val.gtr rfl rfl) <| za rfl <| cnil <| WC.cond rfl (fun hc4 => ?_) (fun hc4 => ?_)
 ·try simp only [tstS] at hc4
  refine cseq <| cg <| zm rfl <| za rfl <| cnil <| WC.ret1 rfl rfl ?_
  exact ⟨hK, by rw [betw, hl, if_pos (by omega)]⟩
 try simp only [tstS] at hc4
 refine cseq <| cg <| zm rfl <| ve (Eff.call pf176 rfl (hasPrefix_ok s [95, 95])) ?_
 rintro v22 w1 ⟨hk1, rfl⟩
 replace hK := hK.up hk1
 refine za rfl <| cnil <| WC.cond rfl (fun hc6 => ?_) (fun hc6 => ?_)
 ·try simp only [tstS] at hc6
  refine cseq <| cg <| za rfl <| cnil <| WC.ret1 rfl rfl ?_
  exact ⟨hK, by rw [prefix_take, decide_eq_true_eq] at hc6; replace hc6 : s.take 2 = [95, 95] := hc6; rw [betw, hl, if_neg (by omega), if_pos hc6]; rfl⟩
 try simp only [tstS] at hc6
 refine cseq <| cg <| zm rfl <| ve (Eff.call pf176 rfl (hasPrefix_ok s [46])) ?_
 rintro v25 w2 ⟨hk2, rfl⟩
 replace hK := hK.up hk2
 refine zm rfl ?_
 apply WR.sc false 2 (Lib.hasPrefix s [95]) (fun w' => Below w2.heap.size w2 w')
 case hl | hg | hu | hv | hs | hoff | hd => rfl
 case hF => exact fun _ => Below.refl _ _
 case hT =>
  intro hq5
  try simp only [tstS] at hq5
  simp only [List.take_succ_cons, List.take_zero]
  have hKsc5 : Old w2 w2 := Old.refl _
  refine WR.on rfl rfl <| zm rfl <| WR.on rfl rfl <| ve (Eff.call pf176 rfl (hasPrefix_ok s [95])) ?_
  rintro v28 w3 ⟨hk3, rfl⟩
  replace hKsc5 := hKsc5.up hk3
  exact WR.nil ⟨rfl, Sub.drop _ 2 _ rfl rfl, hKsc5⟩
 intro w4 hk4
 replace hK := hK.up hk4
 refine za rfl <| cnil <| WC.cond rfl (fun hc8 => ?_) (fun hc8 => ?_)
 ·try simp only [tstS] at hc8
  refine cseq <| cg <| za rfl <| cnil <| WC.ret1 rfl rfl ?_
  exact ⟨hK, by
    rw [prefix_take, decide_eq_false_iff_not] at hc6; replace hc6 : ¬ s.take 2 = [95, 95] := hc6
    rw [prefix_take, prefix_take, decide_eq_true_eq, decide_eq_true_eq] at hc8; replace hc8 : s.take 1 = [46] ∨ s.take 1 = [95] := hc8
    rw [betw, hl, if_neg (by omega), if_neg hc6, if_pos hc8]; rfl⟩
 try simp only [tstS] at hc8
 refine cskip <| cseq <| cg <| za rfl <| cnil <| WC.ret1 rfl rfl ?_
 exact ⟨hK, by
   rw [prefix_take, decide_eq_false_iff_not] at hc6; replace hc6 : ¬ s.take 2 = [95, 95] := hc6
   rw [prefix_take, prefix_take, decide_eq_false_iff_not, decide_eq_false_iff_not] at hc8; replace hc8 : ¬ s.take 1 = [46] ∧ ¬ s.take 1 = [95] := hc8
   rw [betw, hl, if_neg (by omega), if_neg hc6, if_neg (by rintro (h | h); exact hc8.1 h; exact hc8.2 h)]; rfl⟩
theorem npart_ok {w : World} (s : List UInt8) (hs : s.length ≤ 140737488355328) : Calls Tryz.prog 137 #[St s] w (Ret fun v w' => Below w.heap.size w w' ∧ v = .bool (partP s)) := by
 have hK : Old w w := Old.refl w
 refine enter (n := 34) (res := #[.tmp 2]) Tryz.func137 rfl rfl rfl rfl <| cseq <| cg <| za rfl <| cnil <| WC.scope <| cseq <| WC.label <| cblock <| WC.loop (σ := List UInt8) (fun r => [(0, St r)]) (fun r w' => Old w w' ∧ r.length ≤ s.length ∧ partP s = partP r) (fun r => r.length) s subs ⟨hK, Nat.le_refl _, rfl⟩ ?_
 clear hK
 rintro r wl ⟨hK, hr, hp⟩
 refine cblock <| cseq <| cg <| za rfl <| cnil <| cseq <| cblock <| WC.loop (σ := Nat) (fun k => [(0, St r), (3, I k)]) (fun k w' => Old w w' ∧ k ≤ r.length ∧ ∀ i (h : i < r.length), i < k → ltr r[i] = true) (fun k => r.length - k) 0 subs ⟨hK, by omega, fun i _ h => absurd h (Nat.not_lt_zero _)⟩ ?_
 clear hK
 rintro k wk ⟨hK, hk, hb⟩
 refine cseq <| cseq <| cg <| zm rfl <| zm rfl <| vq (Val.slen Tryz.underlying9 rfl) <| vq (Val.lss rfl rfl) <| zm rfl ?_
 apply WR.sc true 4 (decide (k < r.length) && ((r[k]?.map ltr).getD false)) (fun w' => Below wk.heap.size wk w')
 case hl | hg | hu | hv | hs | hoff | hd => rfl
 case hF => exact fun _ => Below.refl _ _
 case hT =>
  intro hq9
  try simp only [tstS] at hq9
  simp only [List.take_succ_cons, List.take_zero]
  have hKsc9 : Old wk wk := Old.refl _
  refine WR.on rfl rfl <| zm rfl <| WR.on rfl rfl <| zm rfl <| WR.on rfl rfl <| vq (Val.sindex Tryz.underlying9 rfl rfl (by omega) (at_nat (show k < r.length by omega))) ?_
  refine WR.on rfl rfl <| ve (Eff.call pf154 rfl (plain_ok r[k])) ?_
  rintro v12 w1 ⟨hk1, rfl⟩
  replace hKsc9 := hKsc9.up hk1
  exact WR.nil ⟨(by rw [List.getElem?_eq_getElem (show k < r.length by omega), decide_eq_true (show k < r.length by omega)]; rfl), Sub.drop _ 4 _ rfl rfl, hKsc9⟩
 intro w2 hk2
 replace hK := hK.up hk2
 refine cnil <| WC.cond rfl (fun hc2 => ?_) (fun hc2 => ?_)
 ·try simp only [tstS] at hc2
  obtain ⟨_, ka, hc2'⟩ := hc2
  rw [List.getElem?_eq_getElem ka] at hc2'
  refine cskip <| cblock <| cg <| zm rfl <| vq (Val.addI rfl rfl side side) <| za rfl <| cnil ?_
  exact ⟨k + 1, subs, ⟨hK, ka, all_upto ka hb hc2'⟩, by omega⟩
 try simp only [tstS] at hc2
 have hl : lead ltr r = k := lead_eq hk hb fun h => by
   rw [List.getElem?_eq_getElem h] at hc2
   cases hx : ltr r[k] with
   | false => rfl
   | true => simp [h, hx] at hc2
 refine WC.exit rfl <| cseq <| cg <| zm rfl <| zm rfl <| vq (Val.ssliceFrom Tryz.underlying9 rfl rfl side side) <| za rfl <| cnil ?_
 rw [Int.toNat_natCast]
 have hdl : (r.drop k).length ≤ s.length := by rw [List.length_drop]; omega
 refine cseq <| cseq <| cg <| zm rfl <| vq (Val.eql rfl rfl) <| zm rfl ?_
 apply WR.sc false 2 _ (fun w' => w2 = w')
 case hl | hg | hu | hv | hs | hoff | hd => rfl
 case hF => exact fun _ => rfl
 case hT =>
  intro hq5
  try simp only [tstS] at hq5
  simp only [List.take_succ_cons, List.take_zero]
  refine WR.on rfl rfl <| zm rfl <| WR.on rfl rfl <| vq (Val.seq_ rfl rfl) ?_
  exact WR.nil ⟨rfl, Sub.drop _ 2 _ rfl rfl, rfl⟩
 rintro _ rfl
 refine cnil <| WC.cond rfl (fun hc5 => ?_) (fun hc5 => ?_)
 ·try simp only [tstS] at hc5
  refine cseq <| cg <| zm rfl <| vq (Val.gtr rfl rfl) <| za rfl <| cnil <| WC.ret1 rfl rfl ?_
  exact ⟨hK, by
    rw [hp, partP_end (by rw [hl]; exact hc5.imp (fun h => by omega) (fun h => by simpa using h)), hl]; simp⟩
 try simp only [tstS] at hc5
 have h0 : lead ltr r ≠ 0 := by rw [hl]; intro e; subst e; simp at hc5
 have h1 : r.drop (lead ltr r) ≠ [] := by rw [hl]; intro e; rw [e] at hc5; simp at hc5
 refine cskip <| cseq <| cg <| zm rfl <| ve (Eff.call pf155 rfl (between_ok (r.drop k) (by omega))) ?_
 rintro v28 w3 ⟨hk3, rfl⟩
 replace hK := hK.up hk3
 refine za rfl <| cnil <| cseq <| cseq <| cg <| zm rfl <| vq (Val.eql rfl rfl) <| cnil <| WC.cond rfl (fun hc8 => ?_) (fun hc8 => ?_)
 ·try simp only [tstS] at hc8
  refine cseq <| cg <| za rfl <| cnil <| WC.ret1 rfl rfl ?_
  exact ⟨hK, by rw [hp, partP_bad h0 h1 (by rw [hl]; omega)]⟩
 try simp only [tstS] at hc8
 refine cskip <| cseq ?_
 have hbl := betw_le (r.drop k)
 rw [List.length_drop] at hbl
 refine cg <| zm rfl <| zm rfl <| vq (Val.ssliceFrom Tryz.underlying9 rfl rfl side side) <| za rfl <| cnil ?_
 refine WC.exit rfl ?_
 rw [Int.toNat_natCast]
 exact ⟨(r.drop k).drop (betw (r.drop k)), subs, ⟨hK, by rw [List.length_drop]; omega, by rw [hp, partP_step h0 h1 (by rw [hl]; omega), hl]⟩, by simp only [List.length_drop]; omega⟩
end Go.Proofs.YtdlpibhecdfbcabGreatDoor

namespace Silo
open Go Go.Eng
def gapG (s : List UInt8) : Bool := gapsGo (s.length + 1) s
theorem gapG_yes {s : List UInt8} {i : Nat} (h : i < s.length) (hl : ltr s[i] = true) : gapG (s.drop i) = gapG (s.drop (i + 1)) := by
  have e : s.drop i = s[i] :: s.drop (i + 1) := List.drop_eq_getElem_cons h
  unfold gapG
  rw [e, gapsGo_yes hl]
  exact gapsGo_enough _ _ _ (by simp; omega) (by simp)
theorem gapG_no {s : List UInt8} {i k : Nat} (h : i < s.length) (hl : ltr s[i] = false) (hk : lead (fun c => !ltr c) (s.drop i) = k - i) : gapG (s.drop i) = (gapOk ((s.drop i).take (k - i)) && gapG (s.drop k)) := by
  have e : s.drop i = s[i] :: s.drop (i + 1) := List.drop_eq_getElem_cons h
  have hpos : 0 < k - i := by rw [← hk, e, lead_cons_pos (by simp [hl])]; omega
  have e2 : (s.drop i).drop (k - i) = s.drop k := by rw [List.drop_drop]; congr 1; omega
  have e3 : (s.drop i).length = s.length - i := by simp
  unfold gapG
  rw [← e2, ← hk]
  conv => lhs; rw [e, gapsGo_no hl, ← e]
  congr 1
  exact gapsGo_enough _ _ _ (by rw [hk]; simp only [List.length_drop]; omega) (by simp)
theorem partP_ends {s : List UInt8} (h : 0 < s.length) : partP s = (ltr s[0] && ltr s[s.length - 1] && gapG s) := by
  have hne : s ≠ [] := by intro e; subst e; simp at h
  rw [partP_cons hne, List.head_eq_getElem, List.getLast_eq_getElem]; rfl
theorem verOk_bad {s : List UInt8} {k : Nat} (hk : k < s.length) (h : verAt k s[k] = false) : verOk s = false := by
  unfold verOk
  have : ((List.range s.length).all fun i => verAt i (s[i]?.getD 0)) = false := by
    rw [List.all_eq_false]
    exact ⟨k, by simpa using hk, by rw [List.getElem?_eq_getElem hk]; simpa using h⟩
  rw [this, Bool.and_false]
theorem verOk_all {s : List UInt8} (h : ∀ i (hi : i < s.length), verAt i s[i] = true) : verOk s = !(s == []) := by
  unfold verOk
  have : ((List.range s.length).all fun i => verAt i (s[i]?.getD 0)) = true := by
    rw [List.all_eq_true]
    intro i hi
    have hi : i < s.length := by simpa using hi
    rw [List.getElem?_eq_getElem hi]; exact h i hi
  rw [this, Bool.and_true]
theorem verAt_int (k : Nat) (c : UInt8) : verAt k c = (ltr c || (decide ((65 : Int) ≤ (c.toNat : Int)) && decide ((c.toNat : Int) ≤ 90)) || decide ((c.toNat : Int) = 95) || (!decide ((k : Int) = 0) && (decide ((c.toNat : Int) = 46) || decide ((c.toNat : Int) = 45)))) := by
  have e1 : (c == 95) = decide ((c.toNat : Int) = 95) := (byteIs c 95).symm
  have e2 : (c == 46) = decide ((c.toNat : Int) = 46) := (byteIs c 46).symm
  have e3 : (c == 45) = decide ((c.toNat : Int) = 45) := (byteIs c 45).symm
  have e4 : decide (k = 0) = decide ((k : Int) = 0) := by rw [Bool.eq_iff_iff]; simp
  have e5 : (decide (65 ≤ c.toNat) && decide (c.toNat ≤ 90)) = (decide ((65 : Int) ≤ (c.toNat : Int)) && decide ((c.toNat : Int) ≤ 90)) := by rw [Bool.eq_iff_iff]; simp; omega
  rw [verAt, e1, e2, e3, e4, e5]
theorem ver_upto {s : List UInt8} {k : Nat} (hk : k < s.length) (hb : ∀ i (h : i < s.length), i < k → verAt i s[i] = true) (h : verAt k s[k] = true) : ∀ i (h : i < s.length), i < k + 1 → verAt i s[i] = true := fun i hi hik => by
  rcases Nat.lt_or_ge i k with h1 | h1
  · exact hb i hi h1
  · have : i = k := by omega
    subst this; exact h
end Silo
namespace Go.Proofs.YtdlpibhecdfbcabGreatDoor
open Go Go.Eng Go.RowKit Silo TryzT
theorem ppart_ok {w : World} (s : List UInt8) (hs : s.length ≤ 140737488355328) : Calls Tryz.prog 56 #[St s] w (Ret fun v w' => Below w.heap.size w w' ∧ v = .bool (partP s)) := by
 have hK : Old w w := Old.refl w
 refine enter (n := 82) (res := #[.tmp 2]) Tryz.func56 rfl rfl rfl rfl <| cseq <| cg <| za rfl <| cnil <| cseq <| cseq <| cg <| zm rfl <| vq (Val.slen Tryz.underlying9 rfl) <| vq (Val.eql rfl rfl) <| zm rfl ?_
 apply WR.sc false 4 (!((s[0]?.map ltr).getD false)) (fun w' => Below w.heap.size w w')
 case hl | hg | hu | hv | hs | hoff | hd => rfl
 case hF => exact fun _ => Below.refl _ _
 case hT =>
  intro hq8
  try simp only [tstS] at hq8
  simp only [List.take_succ_cons, List.take_zero]
  have hKsc8 : Old w w := Old.refl _
  refine WR.on rfl rfl <| zm rfl <| WR.on rfl rfl ?_
  have h0 : 0 < s.length := by omega
  refine vq (Val.sindex Tryz.underlying9 rfl rfl (by omega) (at_nat (k := 0) h0)) ?_
  refine WR.on rfl rfl <| ve (Eff.call pf79 rfl (letter_ok s[0])) ?_
  rintro v14 w1 ⟨hk1, rfl⟩
  replace hKsc8 := hKsc8.up hk1
  refine WR.on rfl rfl <| vq (Val.not rfl) ?_
  exact WR.nil ⟨(by rw [List.getElem?_eq_getElem h0]; rfl), Sub.drop _ 4 _ rfl rfl, hKsc8⟩
 intro w2 hk2
 replace hK := hK.up hk2
 refine zm rfl ?_
 apply WR.sc false 7 (!((s[s.length - 1]?.map ltr).getD false)) (fun w' => Below w2.heap.size w2 w')
 case hl | hg | hu | hv | hs | hoff | hd => rfl
 case hF => exact fun _ => Below.refl _ _
 case hT =>
  intro hq17
  try simp only [tstS] at hq17
  simp only [List.take_succ_cons, List.take_zero]
  have hKsc17 : Old w2 w2 := Old.refl _
  refine WR.on rfl rfl <| zm rfl <| WR.on rfl rfl <| zm rfl <| WR.on rfl rfl <| vq (Val.slen Tryz.underlying9 rfl) <| WR.on rfl rfl <| vq (Val.subI rfl rfl side side) ?_
  refine WR.on rfl rfl ?_
  have h1 : s.length - 1 < s.length := by omega
  have e1 : (s.length : Int) - 1 = ((s.length - 1 : Nat) : Int) := by omega
  rw [e1]
  refine vq (Val.sindex Tryz.underlying9 rfl rfl (by omega) (at_nat h1)) ?_
  refine WR.on rfl rfl <| ve (Eff.call pf79 rfl (letter_ok s[s.length - 1])) ?_
  rintro v23 w3 ⟨hk3, rfl⟩
  replace hKsc17 := hKsc17.up hk3
  refine WR.on rfl rfl <| vq (Val.not rfl) ?_
  exact WR.nil ⟨(by rw [List.getElem?_eq_getElem h1]; rfl), Sub.drop _ 7 _ rfl rfl, hKsc17⟩
 intro w4 hk4
 replace hK := hK.up hk4
 refine cnil <| WC.cond rfl (fun hc1 => ?_) (fun hc1 => ?_)
 ·try simp only [tstS] at hc1
  refine cseq <| cg <| za rfl <| cnil <| WC.ret1 rfl rfl ?_
  exact ⟨hK, by
    rcases Nat.eq_zero_or_pos s.length with h | h
    · rw [List.eq_nil_of_length_eq_zero h]; rfl
    rw [partP_ends h]
    rw [List.getElem?_eq_getElem h, List.getElem?_eq_getElem (show s.length - 1 < s.length by omega)] at hc1
    cases h1 : ltr s[0] with
    | false => simp
    | true =>
      cases h2 : ltr s[s.length - 1] with
      | false => simp
      | true => simp [h1, h2] at hc1; subst hc1; simp at h⟩
 try simp only [tstS] at hc1
 have hpos : 0 < s.length := by
   rcases Nat.eq_zero_or_pos s.length with h | h
   · rw [h] at hc1; simp at hc1
   exact h
 have hp : partP s = gapG s := by
   rw [partP_ends hpos]
   rw [List.getElem?_eq_getElem hpos, List.getElem?_eq_getElem (show s.length - 1 < s.length by omega)] at hc1
   cases h1 : ltr s[0] with
   | false => simp [h1] at hc1
   | true =>
     cases h2 : ltr s[s.length - 1] with
     | false => simp [h1, h2] at hc1
     | true => simp
 clear hc1
 refine cskip <| cseq <| cseq <| cg <| za rfl <| cnil <| cblock <| WC.loop (σ := Nat) (fun i => [(0, St s), (3, I i)]) (fun i w' => Old w w' ∧ i ≤ s.length ∧ gapG s = gapG (s.drop i)) (fun i => s.length - i) 0 subs ⟨hK, by omega, rfl⟩ ?_
 clear hK
 rintro i wl ⟨hK, hi, hg⟩
 refine cseq <| cseq <| cg <| zm rfl <| zm rfl <| vq (Val.slen Tryz.underlying9 rfl) <| vq (Val.lss rfl rfl) <| cnil <| WC.cond rfl (fun hc4 => ?_) (fun hc4 => ?_)
 ·try simp only [tstS] at hc4
  have ka : i < s.length := by omega
  refine cskip <| cblock <| cseq <| cseq <| cg <| zm rfl <| zm rfl <| vq (Val.sindex Tryz.underlying9 rfl rfl (by omega) (at_nat ka)) ?_
  refine ve (Eff.call pf79 rfl (letter_ok s[i])) ?_
  rintro v33 w5 ⟨hk5, rfl⟩
  replace hK := hK.up hk5
  refine cnil <| WC.cond rfl (fun hc5 => ?_) (fun hc5 => ?_)
  ·try simp only [tstS] at hc5
   refine cseq <| cg <| zm rfl <| vq (Val.addI rfl rfl side side) <| za rfl <| cnil ?_
   refine WC.exit rfl ?_
   exact ⟨i + 1, subs, ⟨hK, ka, by rw [hg, gapG_yes ka hc5]⟩, by omega⟩
  try simp only [tstS] at hc5
  have hn : ltr s[i] = false := by simpa using hc5
  refine cskip <| cseq <| cg <| zm rfl <| za rfl <| cnil <| cseq <| cblock <| WC.loop (σ := Nat) (fun k => [(0, St s), (3, I i), (4, I k)]) (fun k w' => Old w w' ∧ i ≤ k ∧ k ≤ s.length ∧ ∀ j (h : j < (s.drop i).length), j < k - i → (fun c => !ltr c) (s.drop i)[j] = true) (fun k => s.length - k) i subs ⟨hK, by omega, by omega, fun j _ h => by omega⟩ ?_
  clear hK
  rintro k wk ⟨hK, hik, hk, hb⟩
  refine cseq <| cseq <| cg <| zm rfl <| zm rfl <| vq (Val.slen Tryz.underlying9 rfl) <| vq (Val.lss rfl rfl) <| zm rfl ?_
  apply WR.sc true 5 (decide (k < s.length) && !((s[k]?.map ltr).getD false)) (fun w' => Below wk.heap.size wk w')
  case hl | hg | hu | hv | hs | hoff | hd => rfl
  case hF => exact fun _ => Below.refl _ _
  case hT =>
   intro hq10
   try simp only [tstS] at hq10
   simp only [List.take_succ_cons, List.take_zero]
   have hKsc10 : Old wk wk := Old.refl _
   refine WR.on rfl rfl <| zm rfl <| WR.on rfl rfl <| zm rfl <| WR.on rfl rfl <| vq (Val.sindex Tryz.underlying9 rfl rfl (by omega) (at_nat (show k < s.length by omega))) ?_
   refine WR.on rfl rfl <| ve (Eff.call pf79 rfl (letter_ok s[k])) ?_
   rintro v45 w6 ⟨hk6, rfl⟩
   replace hKsc10 := hKsc10.up hk6
   refine WR.on rfl rfl <| vq (Val.not rfl) ?_
   exact WR.nil ⟨(by rw [List.getElem?_eq_getElem (show k < s.length by omega), decide_eq_true (show k < s.length by omega)]; rfl), Sub.drop _ 5 _ rfl rfl, hKsc10⟩
  intro w7 hk7
  replace hK := hK.up hk7
  refine cnil <| WC.cond rfl (fun hc8 => ?_) (fun hc8 => ?_)
  ·try simp only [tstS] at hc8
   obtain ⟨_, kb, hc8'⟩ := hc8
   rw [List.getElem?_eq_getElem kb] at hc8'
   refine cskip <| cblock <| cg <| zm rfl <| vq (Val.addI rfl rfl side side) <| za rfl <| cnil ?_
   exact ⟨k + 1, subs, ⟨hK, by omega, kb, fun j h hj => by
     rcases Nat.lt_or_ge j (k - i) with h1 | h1
     · exact hb j h h1
     have : j = k - i := by omega
     subst this
     have e : (s.drop i)[k - i] = s[k] := by rw [List.getElem_drop]; congr 1; omega
     show (!ltr (s.drop i)[k - i]) = true
     rw [e]; simpa using hc8'⟩, by omega⟩
  try simp only [tstS] at hc8
  have hl : lead (fun c => !ltr c) (s.drop i) = k - i := lead_eq (by rw [List.length_drop]; omega) hb fun h => by
    rw [List.length_drop] at h
    have kb : k < s.length := by omega
    have e : (s.drop i)[k - i] = s[k] := by rw [List.getElem_drop]; congr 1; omega
    rw [e]
    rw [List.getElem?_eq_getElem kb] at hc8
    cases hx : ltr s[k] with
    | false => simp [kb, hx] at hc8
    | true => rfl
  have hgn := gapG_no ka hn hl
  have hik2 : i < k := by
    rcases Nat.eq_or_lt_of_le hik with h | h
    · subst h
      have e : s.drop i = s[i] :: s.drop (i + 1) := List.drop_eq_getElem_cons ka
      rw [e, lead_cons_pos (by simp [hn])] at hl; omega
    exact h
  clear hc8 hb
  refine WC.exit rfl <| cseq <| cg <| zm rfl <| zm rfl <| zm rfl <| vq (Val.sslice Tryz.underlying9 rfl rfl rfl side side side) <| za rfl <| cnil ?_
  generalize hw : List.take ((k : Int).toNat - (i : Int).toNat) (List.drop (i : Int).toNat s) = u
  have hu : (s.drop i).take (k - i) = u := hw
  have hul : u.length ≤ s.length := by rw [← hu, List.length_take, List.length_drop]; omega
  rw [hu] at hgn
  refine cseq <| cg <| zm rfl <| vq (Val.seq_ rfl rfl) <| zm rfl ?_
  apply WR.sc false 2 _ (fun w' => w7 = w')
  case hl | hg | hu | hv | hs | hoff | hd => rfl
  case hF => exact fun _ => rfl
  case hT =>
   intro hq5
   try simp only [tstS] at hq5
   simp only [List.take_succ_cons, List.take_zero]
   refine WR.on rfl rfl <| zm rfl <| WR.on rfl rfl <| vq (Val.seq_ rfl rfl) ?_
   exact WR.nil ⟨rfl, Sub.drop _ 2 _ rfl rfl, rfl⟩
  rintro _ rfl
  refine zm rfl ?_
  apply WR.sc false 2 _ (fun w' => w7 = w')
  case hl | hg | hu | hv | hs | hoff | hd => rfl
  case hF => exact fun _ => rfl
  case hT =>
   intro hq9
   try simp only [tstS] at hq9
   simp only [List.take_succ_cons, List.take_zero]
   refine WR.on rfl rfl <| zm rfl <| WR.on rfl rfl <| vq (Val.seq_ rfl rfl) ?_
   exact WR.nil ⟨rfl, Sub.drop _ 2 _ rfl rfl, rfl⟩
  rintro _ rfl
  refine za rfl <| cnil <| cseq <| cseq <| cg <| zm rfl <| vq (Val.not rfl) <| cnil <| WC.cond rfl (fun hc12 => ?_) (fun hc12 => ?_)
  ·try simp only [tstS] at hc12
   have hgo : gapOk u = u.all (· == 45) := by rw [gapOk, hc12.1.1, hc12.1.2, hc12.2]; rfl
   refine cseq <| cg <| za rfl <| cnil <| cseq <| cg <| za rfl <| cnil <| cblock <| WC.loop (σ := Nat) (fun j => [(0, St s), (3, I i), (4, I k), (5, St u), (6, .bool ((u.take j).all (· == 45))), (7, I j)]) (fun j w' => Old w w' ∧ j ≤ u.length) (fun j => u.length - j) 0 subs ⟨hK, by omega⟩ ?_
   clear hK
   rintro j wj ⟨hK, hj⟩
   refine cseq <| cseq <| cg <| zm rfl <| zm rfl <| vq (Val.slen Tryz.underlying9 rfl) <| vq (Val.lss rfl rfl) <| cnil <| WC.cond rfl (fun hc15 => ?_) (fun hc15 => ?_)
   ·try simp only [tstS] at hc15
    have kj : j < u.length := by omega
    refine cskip <| cseq <| cblock <| cg <| zm rfl <| zm rfl ?_
    apply WR.sc true 4 (u[j] == 45) (fun w' => wj = w')
    case hl | hg | hu | hv | hs | hoff | hd => rfl
    case hF => exact fun _ => rfl
    case hT =>
     intro hq6
     try simp only [tstS] at hq6
     simp only [List.take_succ_cons, List.take_zero]
     refine WR.on rfl rfl <| zm rfl <| WR.on rfl rfl <| zm rfl <| WR.on rfl rfl <| vq (Val.sindex Tryz.underlying9 rfl rfl (by omega) (at_nat kj)) ?_
     refine WR.on rfl rfl <| vq (Val.eql rfl rfl) ?_
     exact WR.nil ⟨(congrArg (fun b => some (Value.bool b)) (byteIs _ 45)), Sub.drop _ 4 _ rfl rfl, rfl⟩
    rintro _ rfl
    refine za rfl <| cnil <| cg <| zm rfl <| vq (Val.addI rfl rfl side side) <| za rfl <| cnil ?_
    have e : (u.take (j + 1)).all (· == 45) = ((u.take j).all (· == 45) && u[j] == 45) := by rw [List.take_add_one, List.getElem?_eq_getElem kj, List.all_append]; simp
    refine ⟨j + 1, ?_, ⟨hK, kj⟩, by omega⟩
    rw [e]; repeat (first | exact Sub.nil _ | refine Sub.cons rfl ?_ | refine Sub.consM rfl ?_)
   try simp only [tstS] at hc15
   have : j = u.length := by omega
   subst this
   rw [List.take_length, ← hgo]
   refine WC.exit rfl <| cseq <| cseq <| cg <| zm rfl <| vq (Val.not rfl) <| cnil <| WC.cond rfl (fun hc18 => ?_) (fun hc18 => ?_)
   ·try simp only [tstS] at hc18
    refine cseq <| cg <| za rfl <| cnil <| WC.ret1 rfl rfl ?_
    exact ⟨hK, by
      have h3 : gapOk u = false := by first | exact hc18 | (exfalso; rcases hc12 with (h | h) | h <;> simp [h] at hc18)
      rw [hp, hg, hgn, h3]; rfl⟩
   try simp only [tstS] at hc18
   refine cskip <| cg <| zm rfl <| za rfl <| cnil ?_
   exact ⟨k, subs, ⟨hK, hk, by
     have h3 : gapOk u = true := by first | exact hc18 | exact hgo
     rw [hg, hgn, h3]; rfl⟩, by omega⟩
  try simp only [tstS] at hc12
  have hgo : gapOk u = true := by rw [gapOk]; rcases hc12 with (h | h) | h <;> rw [h] <;> simp
  refine cskip <| cseq <| cseq <| cg <| zm rfl <| vq (Val.not rfl) <| cnil <| WC.cond rfl (fun hc18 => ?_) (fun hc18 => ?_)
  ·try simp only [tstS] at hc18
   refine cseq <| cg <| za rfl <| cnil <| WC.ret1 rfl rfl ?_
   exact ⟨hK, by
     have h3 : gapOk u = false := by first | exact hc18 | (exfalso; rcases hc12 with (h | h) | h <;> simp [h] at hc18)
     rw [hp, hg, hgn, h3]; rfl⟩
  try simp only [tstS] at hc18
  refine cskip <| cg <| zm rfl <| za rfl <| cnil ?_
  exact ⟨k, subs, ⟨hK, hk, by
    have h3 : gapOk u = true := by first | exact hc18 | exact hgo
    rw [hg, hgn, h3]; rfl⟩, by omega⟩
 try simp only [tstS] at hc4
 refine WC.exit rfl <| cseq <| cg <| za rfl <| cnil <| WC.ret1 rfl rfl ?_
 exact ⟨hK, by
   have : i = s.length := by omega
   subst this
   rw [hp, hg, List.drop_length]; rfl⟩
theorem nversion_ok {w : World} (s : List UInt8) (hs : s.length ≤ 140737488355328) : Calls Tryz.prog 138 #[St s] w (Ret fun v w' => Below w.heap.size w w' ∧ v = .bool (verOk s)) := by
 have hK : Old w w := Old.refl w
 refine enter (n := 43) (res := #[.tmp 2]) Tryz.func138 rfl rfl rfl rfl <| cseq <| cg <| za rfl <| cnil <| cseq <| cseq <| cg <| zm rfl <| vq (Val.slen Tryz.underlying9 rfl) <| zm rfl <| cnil <| cblock <| WC.loop (σ := Nat) (fun k => [(0, St s), (6, I s.length), (7, I k)]) (fun k w' => Old w w' ∧ k ≤ s.length ∧ ∀ i (h : i < s.length), i < k → verAt i s[i] = true) (fun k => s.length - k) 0 subs ⟨hK, by omega, fun i _ h => absurd h (Nat.not_lt_zero _)⟩ ?_
 clear hK
 rintro k wl ⟨hK, hk, hb⟩
 refine cseq <| cg <| vq (Val.lss rfl rfl) <| cnil <| cseq <| WC.cond rfl (fun hc2 => ?_) (fun hc2 => ?_)
 ·try simp only [tstS] at hc2
  have ka : k < s.length := by omega
  refine cskip <| cseq <| cblock <| cseq <| cg <| zm rfl <| za rfl <| cnil <| cseq <| cg <| zm rfl <| zm rfl <| vq (Val.sindex Tryz.underlying9 rfl rfl (by omega) (at_nat ka)) <| za rfl <| cnil <| cseq <| cg <| zm rfl ?_
  refine ve (Eff.call pf154 rfl (plain_ok s[k])) ?_
  rintro v14 w1 ⟨hk1, rfl⟩
  replace hK := hK.up hk1
  refine vq (Val.not rfl) <| zm rfl ?_
  apply WR.sc true 6 _ (fun w' => w1 = w')
  case hl | hg | hu | hv | hs | hoff | hd => rfl
  case hF => exact fun _ => rfl
  case hT =>
   intro hq10
   try simp only [tstS] at hq10
   simp only [List.take_succ_cons, List.take_zero]
   refine WR.on rfl rfl <| zm rfl <| WR.on rfl rfl <| vq (Val.lss rfl rfl) <| WR.on rfl rfl <| zm rfl ?_
   apply WR.sc false 2 _ (fun w' => w1 = w')
   case hl | hg | hu | hv | hs | hoff | hd => rfl
   case hF => exact fun _ => rfl
   case hT =>
    intro hq9
    try simp only [tstS] at hq9
    simp only [List.take_succ_cons, List.take_zero]
    refine WR.on rfl rfl <| zm rfl <| WR.on rfl rfl <| vq (Val.gtr rfl rfl) ?_
    exact WR.nil ⟨rfl, Sub.drop _ 2 _ rfl rfl, rfl⟩
   rintro _ rfl
   exact WR.nil ⟨rfl, Sub.drop _ 4 _ rfl rfl, rfl⟩
  rintro _ rfl
  refine zm rfl ?_
  apply WR.sc true 2 _ (fun w' => w1 = w')
  case hl | hg | hu | hv | hs | hoff | hd => rfl
  case hF => exact fun _ => rfl
  case hT =>
   intro hq14
   try simp only [tstS] at hq14
   simp only [List.take_succ_cons, List.take_zero]
   refine WR.on rfl rfl <| zm rfl <| WR.on rfl rfl <| vq (Val.neq rfl rfl) ?_
   exact WR.nil ⟨rfl, Sub.drop _ 2 _ rfl rfl, rfl⟩
  rintro _ rfl
  refine zm rfl ?_
  apply WR.sc true 10 _ (fun w' => w1 = w')
  case hl | hg | hu | hv | hs | hoff | hd => rfl
  case hF => exact fun _ => rfl
  case hT =>
   intro hq26
   try simp only [tstS] at hq26
   simp only [List.take_succ_cons, List.take_zero]
   refine WR.on rfl rfl <| zm rfl <| WR.on rfl rfl <| vq (Val.eql rfl rfl) <| WR.on rfl rfl <| zm rfl ?_
   apply WR.sc false 6 _ (fun w' => w1 = w')
   case hl | hg | hu | hv | hs | hoff | hd => rfl
   case hF => exact fun _ => rfl
   case hT =>
    intro hq25
    try simp only [tstS] at hq25
    simp only [List.take_succ_cons, List.take_zero]
    refine WR.on rfl rfl <| zm rfl <| WR.on rfl rfl <| vq (Val.neq rfl rfl) <| WR.on rfl rfl <| zm rfl ?_
    apply WR.sc true 2 _ (fun w' => w1 = w')
    case hl | hg | hu | hv | hs | hoff | hd => rfl
    case hF => exact fun _ => rfl
    case hT =>
     intro hq24
     try simp only [tstS] at hq24
     simp only [List.take_succ_cons, List.take_zero]
     refine WR.on rfl rfl <| zm rfl <| WR.on rfl rfl <| vq (Val.neq rfl rfl) ?_
     exact WR.nil ⟨rfl, Sub.drop _ 2 _ rfl rfl, rfl⟩
    rintro _ rfl
    exact WR.nil ⟨rfl, Sub.drop _ 4 _ rfl rfl, rfl⟩
   rintro _ rfl
   exact WR.nil ⟨rfl, Sub.drop _ 4 _ rfl rfl, rfl⟩
  rintro _ rfl
  refine cnil <| WC.cond rfl (fun hc5 => ?_) (fun hc5 => ?_)
  ·try simp only [tstS] at hc5
   have hv : verAt k s[k] = false := by
     rw [verAt_int]
     obtain ⟨h1, h2⟩ : ltr s[k] = false ∧ True := ⟨by first | exact hc5.1.1.1 | exact hc5.1.1.1.1, trivial⟩
     rw [h1]
     simp only [Bool.not_false, Bool.true_and, Bool.and_eq_false_iff, Bool.or_eq_false_iff, decide_eq_false_iff_not, Bool.not_eq_false', decide_eq_true_eq, Bool.false_or, Bool.or_eq_true, Bool.and_eq_true, Bool.not_eq_true'] at hc5 ⊢; omega
   refine cseq <| cg <| za rfl <| cnil <| WC.ret1 rfl rfl ?_
   exact ⟨hK, by rw [verOk_bad ka hv]⟩
  try simp only [tstS] at hc5
  have hv : verAt k s[k] = true := by
    rw [verAt_int]
    cases hl : ltr s[k] with
    | true => rfl
    | false =>
      rw [hl] at hc5
      simp only [Bool.not_false, Bool.true_and, Bool.and_eq_false_iff, Bool.or_eq_false_iff, decide_eq_false_iff_not, Bool.not_eq_false', decide_eq_true_eq, Bool.false_or, Bool.or_eq_true, Bool.and_eq_true, Bool.not_eq_true'] at hc5 ⊢; omega
  refine cskip <| cg <| vq (Val.addI rfl rfl side side) <| zm rfl <| cnil ?_
  exact ⟨k + 1, subs, ⟨hK, ka, ver_upto ka hb hv⟩, by omega⟩
 try simp only [tstS] at hc2
 refine WC.exit rfl <| cseq <| cg <| zm rfl <| vq (Val.sne rfl rfl) <| za rfl <| cnil <| WC.ret1 rfl rfl ?_
 exact ⟨hK, by rw [verOk_all fun i hi => hb i hi (by omega)]⟩
theorem pversion_ok {w : World} (s : List UInt8) (hs : s.length ≤ 140737488355328) : Calls Tryz.prog 57 #[St s] w (Ret fun v w' => Below w.heap.size w w' ∧ v = .bool (verOk s)) := by
 have hK : Old w w := Old.refl w
 refine enter (n := 59) (res := #[.tmp 2]) Tryz.func57 rfl rfl rfl rfl <| cseq <| cg <| za rfl <| cnil <| cseq <| cseq <| cg <| zm rfl <| vq (Val.slen Tryz.underlying9 rfl) <| vq (Val.eql rfl rfl) <| zm rfl ?_
 apply WR.sc false 3 (decide (0 < s.length) && (s[0]? == some 46)) (fun w' => w = w')
 case hl | hg | hu | hv | hs | hoff | hd => rfl
 case hF => exact fun _ => rfl
 case hT =>
  intro hq7
  try simp only [tstS] at hq7
  simp only [List.take_succ_cons, List.take_zero]
  refine WR.on rfl rfl <| zm rfl <| WR.on rfl rfl ?_
  have h0 : 0 < s.length := by omega
  refine vq (Val.sindex Tryz.underlying9 rfl rfl (by omega) (at_nat (k := 0) h0)) ?_
  refine WR.on rfl rfl <| vq (Val.eql rfl rfl) ?_
  exact WR.nil ⟨(by rw [List.getElem?_eq_getElem h0, decide_eq_true h0]; exact congrArg (fun b => some (Value.bool b)) (byteIs _ 46)), Sub.drop _ 3 _ rfl rfl, rfl⟩
 rintro _ rfl
 refine zm rfl ?_
 apply WR.sc false 3 (decide (0 < s.length) && (s[0]? == some 45)) (fun w' => w = w')
 case hl | hg | hu | hv | hs | hoff | hd => rfl
 case hF => exact fun _ => rfl
 case hT =>
  intro hq12
  try simp only [tstS] at hq12
  simp only [List.take_succ_cons, List.take_zero]
  refine WR.on rfl rfl <| zm rfl <| WR.on rfl rfl ?_
  have h0 : 0 < s.length := by omega
  refine vq (Val.sindex Tryz.underlying9 rfl rfl (by omega) (at_nat (k := 0) h0)) ?_
  refine WR.on rfl rfl <| vq (Val.eql rfl rfl) ?_
  exact WR.nil ⟨(by rw [List.getElem?_eq_getElem h0, decide_eq_true h0]; exact congrArg (fun b => some (Value.bool b)) (byteIs _ 45)), Sub.drop _ 3 _ rfl rfl, rfl⟩
 rintro _ rfl
 refine cnil <| WC.cond rfl (fun hc1 => ?_) (fun hc1 => ?_)
 ·try simp only [tstS] at hc1
  refine cseq <| cg <| za rfl <| cnil <| WC.ret1 rfl rfl ?_
  exact ⟨hK, by
    rcases Nat.eq_zero_or_pos s.length with h | h
    · rw [List.eq_nil_of_length_eq_zero h]; rfl
    have hv : verAt 0 s[0] = false := by
      rw [List.getElem?_eq_getElem h] at hc1
      rcases hc1 with (h1 | h1) | h1
      · omega
      · simp [h] at h1; rw [h1]; rfl
      simp [h] at h1; rw [h1]; rfl
    rw [verOk_bad h hv]⟩
 try simp only [tstS] at hc1
 have hpos : 0 < s.length := by omega
 have h46 : (s[0] == 46) = false := by
   have h := hc1.1.2; rw [List.getElem?_eq_getElem hpos, decide_eq_true hpos] at h; exact h
 have h45 : (s[0] == 45) = false := by
   have h := hc1.2; rw [List.getElem?_eq_getElem hpos, decide_eq_true hpos] at h; exact h
 clear hc1
 refine cskip <| cseq <| cseq <| cg <| za rfl <| cnil <| cblock <| WC.loop (σ := Nat) (fun k => [(0, St s), (3, I k)]) (fun k w' => Old w w' ∧ k ≤ s.length ∧ ∀ i (h : i < s.length), i < k → verAt i s[i] = true) (fun k => s.length - k) 0 subs ⟨hK, by omega, fun i _ h => absurd h (Nat.not_lt_zero _)⟩ ?_
 clear hK
 rintro k wl ⟨hK, hk, hb⟩
 refine cseq <| cseq <| cg <| zm rfl <| zm rfl <| vq (Val.slen Tryz.underlying9 rfl) <| vq (Val.lss rfl rfl) <| cnil <| WC.cond rfl (fun hc4 => ?_) (fun hc4 => ?_)
 ·try simp only [tstS] at hc4
  have ka : k < s.length := by omega
  refine cskip <| cseq <| cblock <| cseq ?_
  have hat := at_nat ka
  refine cg <| zm rfl <| zm rfl <| vq (Val.sindex Tryz.underlying9 rfl rfl side side) ?_
  refine ve (Eff.call pf79 rfl (letter_ok s[k])) ?_
  rintro v26 w1 ⟨hk1, rfl⟩
  replace hK := hK.up hk1
  refine vq (Val.not rfl) <| zm rfl ?_
  apply WR.sc true 11 _ (fun w' => w1 = w')
  case hl | hg | hu | hv | hs | hoff | hd => rfl
  case hF => exact fun _ => rfl
  case hT =>
   intro hq17
   try simp only [tstS] at hq17
   simp only [List.take_succ_cons, List.take_zero]
   refine WR.on rfl rfl <| zm rfl <| WR.on rfl rfl <| zm rfl <| WR.on rfl rfl <| vq (Val.sindex Tryz.underlying9 rfl rfl side side) ?_
   refine WR.on rfl rfl <| vq (Val.geq rfl rfl) <| WR.on rfl rfl <| zm rfl ?_
   apply WR.sc true 4 _ (fun w' => w1 = w')
   case hl | hg | hu | hv | hs | hoff | hd => rfl
   case hF => exact fun _ => rfl
   case hT =>
    intro hq15
    try simp only [tstS] at hq15
    simp only [List.take_succ_cons, List.take_zero]
    refine WR.on rfl rfl <| zm rfl <| WR.on rfl rfl <| zm rfl <| WR.on rfl rfl <| vq (Val.sindex Tryz.underlying9 rfl rfl side side) ?_
    refine WR.on rfl rfl <| vq (Val.leq rfl rfl) ?_
    exact WR.nil ⟨rfl, Sub.drop _ 4 _ rfl rfl, rfl⟩
   rintro _ rfl
   refine WR.on rfl rfl <| vq (Val.not rfl) ?_
   exact WR.nil ⟨rfl, Sub.drop _ 7 _ rfl rfl, rfl⟩
  rintro _ rfl
  refine zm rfl ?_
  apply WR.sc true 4 _ (fun w' => w1 = w')
  case hl | hg | hu | hv | hs | hoff | hd => rfl
  case hF => exact fun _ => rfl
  case hT =>
   intro hq23
   try simp only [tstS] at hq23
   simp only [List.take_succ_cons, List.take_zero]
   refine WR.on rfl rfl <| zm rfl <| WR.on rfl rfl <| zm rfl <| WR.on rfl rfl <| vq (Val.sindex Tryz.underlying9 rfl rfl side side) ?_
   refine WR.on rfl rfl <| vq (Val.neq rfl rfl) ?_
   exact WR.nil ⟨rfl, Sub.drop _ 4 _ rfl rfl, rfl⟩
  rintro _ rfl
  refine zm rfl ?_
  apply WR.sc true 4 _ (fun w' => w1 = w')
  case hl | hg | hu | hv | hs | hoff | hd => rfl
  case hF => exact fun _ => rfl
  case hT =>
   intro hq29
   try simp only [tstS] at hq29
   simp only [List.take_succ_cons, List.take_zero]
   refine WR.on rfl rfl <| zm rfl <| WR.on rfl rfl <| zm rfl <| WR.on rfl rfl <| vq (Val.sindex Tryz.underlying9 rfl rfl side side) ?_
   refine WR.on rfl rfl <| vq (Val.neq rfl rfl) ?_
   exact WR.nil ⟨rfl, Sub.drop _ 4 _ rfl rfl, rfl⟩
  rintro _ rfl
  refine zm rfl ?_
  apply WR.sc true 4 _ (fun w' => w1 = w')
  case hl | hg | hu | hv | hs | hoff | hd => rfl
  case hF => exact fun _ => rfl
  case hT =>
   intro hq35
   try simp only [tstS] at hq35
   simp only [List.take_succ_cons, List.take_zero]
   refine WR.on rfl rfl <| zm rfl <| WR.on rfl rfl <| zm rfl <| WR.on rfl rfl <| vq (Val.sindex Tryz.underlying9 rfl rfl side side) ?_
   refine WR.on rfl rfl <| vq (Val.neq rfl rfl) ?_
   exact WR.nil ⟨rfl, Sub.drop _ 4 _ rfl rfl, rfl⟩
  rintro _ rfl
  refine cnil <| WC.cond rfl (fun hc6 => ?_) (fun hc6 => ?_)
  ·try simp only [tstS] at hc6
   have hv : verAt k s[k] = false := by
     rw [verAt_int]
     obtain ⟨h1, h2⟩ : ltr s[k] = false ∧ True := ⟨by first | exact hc6.1.1.1 | exact hc6.1.1.1.1, trivial⟩
     rw [h1]
     simp only [Bool.not_false, Bool.true_and, Bool.and_eq_false_iff, Bool.or_eq_false_iff, decide_eq_false_iff_not, Bool.not_eq_false', decide_eq_true_eq, Bool.false_or, Bool.or_eq_true, Bool.and_eq_true, Bool.not_eq_true'] at hc6 ⊢; omega
   refine cseq <| cg <| za rfl <| cnil <| WC.ret1 rfl rfl ?_
   exact ⟨hK, by rw [verOk_bad ka hv]⟩
  try simp only [tstS] at hc6
  have hv : verAt k s[k] = true := by
    rw [verAt_int]
    cases hl : ltr s[k] with
    | true => rfl
    | false =>
      rw [hl] at hc6
      have hz : k = 0 → ¬ (s[k].toNat : Int) = 46 ∧ ¬ (s[k].toNat : Int) = 45 := fun e => by subst e; exact ⟨fun e => by rw [← byteIs, decide_eq_false_iff_not] at h46; exact h46 e, fun e => by rw [← byteIs, decide_eq_false_iff_not] at h45; exact h45 e⟩
      simp only [Bool.not_false, Bool.true_and, Bool.and_eq_false_iff, Bool.or_eq_false_iff, decide_eq_false_iff_not, Bool.not_eq_false', decide_eq_true_eq, Bool.false_or, Bool.or_eq_true, Bool.and_eq_true, Bool.not_eq_true'] at hc6 ⊢; omega
  refine cskip <| cg <| zm rfl <| vq (Val.addI rfl rfl side side) <| za rfl <| cnil ?_
  exact ⟨k + 1, subs, ⟨hK, ka, ver_upto ka hb hv⟩, by omega⟩
 try simp only [tstS] at hc4
 refine WC.exit rfl <| cseq <| cg <| za rfl <| cnil <| WC.ret1 rfl rfl ?_
 exact ⟨hK, by
   rw [verOk_all fun i hi => hb i hi (by omega)]
   cases s with
   | nil => simp at hpos
   | cons c r => rfl⟩
end Go.Proofs.YtdlpibhecdfbcabGreatDoor

namespace Go.Proofs.YtdlpibhecdfbcabGreatDoor
open Go Go.Eng Go.RowKit Silo TryzT
end Go.Proofs.YtdlpibhecdfbcabGreatDoor

namespace Go.Eng
open Go Go.RowKit Go.Sort Go.Proofs Silo
theorem Eff.grownO {P : Program} {env : Env} {w : World} {ty : TypeId} {op : Op} {c : Nat → Nat} {i n size : Nat} {e : TypeId} {u : Value} {xs : List Value} {R : Value → World → Prop} (ho : OwnC c w i e size u n xs) (h : Eff P env w op ty (fun v w' => w.grownBy w' u.rowOf ∧ R v w')) :
    Eff P env w op ty (fun v w' => ∃ c', Mv c w c' w' [i] ∧ (∀ k, u.rowOf = some k → c' k = i) ∧ R v w') := h.mono fun v w' ⟨hg, hr⟩ => by
  obtain ⟨c', hm, _⟩ := Mv.grown c i hg ho.col
  exact ⟨c', hm, fun k hk => (hm.col k (ho.own.lt k hk).2).trans (ho.col k hk), hr⟩
theorem flatEnc (l : List (List UInt8)) : l.flatMap (fun x => [St x]) = l.map encStr := by rw [← flatSt]; rfl
theorem Own.holds {w : World} {base : Nat} {e : TypeId} {v : Value} {ss : List (List UInt8)} (h : Own w base e 1 v ss.length (ss.flatMap fun x => [St x])) :
   (ss = [] ∧ ∃ A cap, v = .slice A 0 cap ∧ (cap = 0 ∨ ∃ g, A = some ⟨g, 0, none⟩)) ∨ (∃ g cap cur fz, v = .slice (some ⟨g, 0, none⟩) ss.length cap ∧ base ≤ g ∧ w.heap[g]? = some (.cells cur e fz) ∧ (fz.1 < fz.2 → cur.size ≤ fz.1) ∧ ss.length ≤ cap ∧ cap ≤ maxLen ∧ cur.size = cap ∧ 0 < cap ∧ Holds encStr w g 0 ss.toArray ∧ 0 < ss.length) := by
 rcases Nat.eq_zero_or_pos ss.length with h0 | h0
 · have : ss = [] := List.eq_nil_of_length_eq_zero h0
   subst this
   left
   rcases h.2 with ⟨_, A, rfl⟩ | ⟨g, cap, cur, fz, rfl, _⟩
   · exact ⟨rfl, A, 0, rfl, .inl rfl⟩
   exact ⟨rfl, _, cap, rfl, .inr ⟨g, rfl⟩⟩
 right
 rcases h.2 with ⟨h1, _⟩ | ⟨g, cap, cur, fz, rfl, hb, h2, h3, h4, h5, h6, h7, h8⟩
 · omega
 refine ⟨g, cap, cur, fz, rfl, hb, h2, h3, h4, h5, by omega, h8, fun j hj => ?_, h0⟩
 have hj' : j < ss.length := by simpa using hj
 constructor
 · rw [flatEnc, Nat.mul_one] at h7
   have h9 : (cur.toList.take ss.length)[j]? = (ss.map encStr)[j]? := by rw [h7]
   rw [List.getElem?_take_of_lt hj'] at h9
   simp only [World.cell?, h2, Nat.zero_add]
   simp only [Option.isSome_none, Bool.false_eq_true, if_false]
   rw [← Array.getElem?_toList, h9]
   simp [hj']
 obtain ⟨lo, hi⟩ := fz
 simp [World.frozen?, h2]
 intro hlo
 rcases Nat.lt_or_ge lo hi with h9 | h9
 · have := h3 h9; simp at this; omega
 omega
theorem putCells_size (cur : Array Value) (d : Array (List UInt8)) : (putCells encStr 0 d cur).size = cur.size := by simp [putCells]
end Go.Eng
namespace Go.Proofs.YtdlpibhecdfbcabGreatDoor
open Go Go.Eng Go.RowKit Go.Sort Silo TryzT
theorem sortStrs_ok {w : World} {base : Nat} {v : Value} {ss : List (List UInt8)} (h : Own w base 9 1 v ss.length (ss.flatMap fun x => [St x])) (hsm : ss.length < 4611686018427387904) :
   Calls Tryz.prog 125 #[v] w (Ret fun _ w' => w.grownBy w' v.rowOf ∧ Own w' base 9 1 v (ss.mergeSort fun x y => decide (x ≤ y)).length ((ss.mergeSort fun x y => decide (x ≤ y)).flatMap fun x => [St x])) := by
 rcases h.holds with ⟨rfl, A, cap, rfl, _⟩ | ⟨g, cap, cur, fz, rfl, hb, h2, h3, h4, h5, h6, h8, hH, h0⟩
 · refine (Tryz.slices_Sort_string_none A cap w).mono fun e w' he => ?_
   obtain ⟨rfl, rfl⟩ := he
   exact ⟨_, rfl, ⟨rfl, rfl, rfl, Nat.le_refl _, fun _ _ _ => rfl⟩, by simpa using h⟩
 refine (Tryz.slices_Sort_string g 0 cap ss w hH (Array.getElem?_eq_some_iff.1 h2).1 hsm).mono fun e w' he => ?_
 obtain ⟨rfl, n, os, rfl⟩ := he
 have hl : (ss.mergeSort fun x y => decide (x ≤ y)).length = ss.length := List.length_mergeSort _
 refine ⟨_, rfl, by rw [rowOf_slice h8]; exact grownBy_sorted _, ?_⟩
 rw [hl]
 refine ⟨by rw [flatEnc]; simp [hl], .inr ⟨g, cap, _, fz, rfl, hb, heap_sorted _ h2, ?_, h4, h5, ?_, ?_, h8⟩⟩
 · rw [putCells_size]; exact h3
 · rw [putCells_size]; omega
 rw [flatEnc, Nat.mul_one, ← hl]; exact take_putCells cur _ (by omega)
end Go.Proofs.YtdlpibhecdfbcabGreatDoor

namespace Silo
open Go Go.Eng
theorem find_low {T : List Thg} (hr : RiseT T) {d : List UInt8} (h : (findT T d).isSome = true) : findT T d = some (lowT T d) ∧ lowT T d < T.length := by
  cases hf : findT T d with
  | none => rw [hf] at h; cases h
  | some i =>
    have := lowT_find hr hf
    exact ⟨by rw [this], by rw [this]; exact (findT_some hf).1⟩
theorem at_find {T : List Thg} {d : List UInt8} (h : 0 ≤ atT T d) : ∃ i : Nat, atT T d = i ∧ findT T d = some i ∧ i < T.length := by
  unfold atT at h ⊢
  cases hf : findT T d with
  | none => rw [hf] at h; exact absurd h (by decide)
  | some i => exact ⟨i, rfl, rfl, (findT_some hf).1⟩
theorem bools_set (l : List Bool) (i : Nat) (b : Bool) : (l.flatMap fun b => [Value.bool b]).set i (.bool b) = (l.set i b).flatMap fun b => [Value.bool b] := by
  have e : ∀ l : List Bool, (l.flatMap fun b => [Value.bool b]) = l.map Value.bool := fun l => by induction l with
    | nil => rfl
    | cons a r ih => simp [ih]
  rw [e, e, List.map_set]
theorem bools_zero (n : Nat) : (List.replicate n [Value.bool false]).flatten = (List.replicate n false).flatMap fun b => [Value.bool b] := by
  induction n with
  | zero => rfl
  | succ n ih => rw [List.replicate_succ, List.replicate_succ, List.flatten_cons, List.flatMap_cons, ih]
theorem dgOf_ok {T : List Thg} {ok : Nat} (h : ∀ t ∈ T, t.digest.length ≤ ok) (i : Nat) : (dgOf T i).length ≤ ok := by
  rcases Nat.lt_or_ge i T.length with hi | hi
  · rw [dgOf_lt hi]; exact h _ (List.getElem_mem hi)
  · rw [dgOf, List.getElem?_eq_none hi]; simp
theorem nmOf_texts {T : List Thg} {i : Nat} : ∀ x ∈ nmOf T i, x.length ≤ 140737488355328 := fun x hx => by
  rcases Nat.lt_or_ge i T.length with hi | hi
  · rw [nmOf_lt hi] at hx; exact namesT_texts x hx
  · rw [nmOf_ge hi] at hx; cases hx
end Silo
namespace Go.Proofs.YtdlpibhecdfbcabGreatDoor
open Go Go.Eng Go.RowKit Silo TryzT
set_option maxHeartbeats 1000000 in
theorem reached_iter {w0 : World} {c0 : Nat → Nat} {b2 b3 : Nat} {v vR : Value} {T : List Thg} {R : List (List UInt8)} (hb2 : BlkC c0 w0 70 b2 [v] 22) (hb3 : BlkC c0 w0 70 b3 [vR] 70)
   (h1 : RdC thgS c0 w0 [0] v T) {JR : List Nat} (h2 : RdC strS c0 w0 JR vR R) (hp : PlainV vR) (hr : RiseT T) (ht : ∀ t ∈ T, t.text.length ≤ 1048576) (hl : T.length ≤ 100000) (hrl : R.length ≤ 1000000) :
   IterC Tryz.prog 145 [.pointer (some ⟨b2, 0, none⟩), .pointer (some ⟨b3, 0, none⟩)] (fun i : Nat => [I i]) [50, 51] ([0, 70] ++ JR) (ordR T R) c0 w0 := by
 intro l J Jx c1 W K hM hK hJi hJxi hy hJ0
 have hN : ∀ i ∈ [50, 51] ++ ([0, 70] ++ JR), hasC K i = false := fun i hi => apart_of hK hi
 replace hb2 := hb2.mv hM (hN 70 (by simp))
 replace hb3 := hb3.mv hM (hN 70 (by simp))
 replace h1 := h1.mv hM (apart_sub hK (by simp))
 replace h2 := h2.mv hM (apart_sub hK (by intro i hi; simp [hi]))
 have hJ : JC (J []) [50, 51] c1 W := ⟨hJ0, fun _ _ _ _ h m => hJi _ _ _ _ _ h m⟩
 have hro := h2.now.okFlat
 clear hM hN hK
 show Calls _ _ [_, _, _].toArray _ _
 refine enter (n := 48) (res := #[]) Tryz.func145 rfl rfl rfl rfl ?_
 have hR0 := h2
 refine cseq <| cg <| vq (Val.loadB scl22 rfl hb2.blk rfl) <| vq (Val.rdlenC sl22 h1 rfl) <| ve (Eff.makeC c1 50 sl125 rfl rfl side side side) ?_
 rintro v10 w1 ⟨c1, hM1, ho10⟩
 replace hb2 := hb2.mv hM1; replace hb3 := hb3.mv hM1; replace h1 := h1.mv hM1; replace hJ := hJ.mv hM1
 have hRd : RdS strS _ _ vR R := (hR0.mv hM1 (by simp [apartC, hasC])).now
 rw [Int.toNat_natCast, bools_zero] at ho10
 refine za rfl <| cnil <| cseq <| cg <| vq (Val.loadB scl70 rfl hb3.blk rfl) <| ve (Eff.pureC c1 51 (Eff.call pf104 rfl (cloneStrs_ok hRd hp (by omega)))) ?_
 rintro v12 w2 ⟨c2, hM2, hx2, ho12⟩
 replace hb2 := hb2.mv hM2; replace hb3 := hb3.mv hM2; replace h1 := h1.mv hM2; replace hJ := hJ.mv hM2; replace ho10 := ho10.mv hM2
 replace ho12 := ho12.toC hx2
 refine za rfl <| cnil <| cblock ?_
 have hT := ho12.tail
 refine WC.loop (σ := List Bool × List (List UInt8) × Value × List Nat) (fun st => [(0, .func (.yield l) #[] #[]), (1, .pointer (some ⟨b2, 0, none⟩)), (2, .pointer (some ⟨b3, 0, none⟩)), (4, v10), (5, st.2.2.1)]) (fun st w' => ∃ c', BlkC c' w' 70 b2 [v] 22 ∧ BlkC c' w' 70 b3 [vR] 70 ∧ RdC thgS c' w' [0] v T ∧ OwnC c' w' 50 4 1 v10 T.length (st.1.flatMap fun b => [.bool b]) ∧ TailC c' w' 51 9 1 st.2.2.1 st.2.1.length (st.2.1.flatMap fun x => [St x]) ∧ JC (J st.2.2.2) [50, 51] c' w' ∧ st.1.length = T.length ∧ st.2.2.2 ++ bfsL T st.1 st.2.1 = ordR T R ∧ (∀ x ∈ st.2.1, x.length ≤ 140737488355328) ∧ bLeft st.1 st.2.1 ≤ R.length + 21 * T.length) (fun st => bLeft st.1 st.2.1) (List.replicate T.length false, R, v12, []) subs ⟨_, hb2, hb3, h1, ho10, hT, hJ, by simp, rfl, hro, by simp [bLeft, List.count_replicate_self]⟩ ?_
 clear hb2 hb3 h1 ho10 hT hJ ho12 hR0 hRd
 rintro ⟨seen, todo, tv, pre⟩ wl ⟨cl, hb2, hb3, h1, ho10, hT, hJ, hsl, hpr, hto, hbl⟩
 dsimp only at hb2 hb3 h1 ho10 hT hJ hsl hpr hto hbl ⊢
 obtain ⟨A5, q5, rfl, hq5, _⟩ := hT.own.formA
 have htl : todo.length ≤ R.length + 21 * T.length := by unfold bLeft at hbl; omega
 refine cseq <| cseq <| cg <| zm rfl ?_
 first | refine vq (Val.rdlen sl70 (by assumption) rfl) ?_ | refine vq (Val.sllen Tryz.underlying70 rfl) ?_ | refine vq (Val.olen sl70 (by assumption) rfl) ?_ | refine vq (Val.rdlenC sl70 (by assumption) rfl) ?_
 refine vq (Val.gtr rfl rfl) <| cnil <| WC.cond rfl (fun hc2 => ?_) (fun hc2 => ?_)
 ·try simp only [tstS] at hc2
  obtain ⟨d, t, rfl⟩ : ∃ d t, todo = d :: t := by
    cases todo with
    | nil => simp at hc2
    | cons d t => exact ⟨d, t, rfl⟩
  have hX : RdC strS cl wl [51] _ (d :: t) := hT.rdFlat (by omega) hto
  have hlen1 : (d :: t).length = t.length + 1 := rfl
  obtain ⟨hc19, _⟩ := RdC.elFlat hX (k := 0) (by simp) (by decide)
  replace hc19 : CelC cl wl [51] (elemA (.slice A5 (d :: t).length q5) 1 0) [St d] := hc19
  refine cskip <| cblock <| cseq <| WC.regionD (Kp cl wl []) [1, 0, 0, 1, 2, 0, 0, 0, 0, 0] [0, 1, 2, 3, 4, 5, 6, 7, 8, 9] mixed (by kernel_rfl) ?_
  have hM3 := Mv.drew cl wl []
  have hCw := Mv.drew cl wl []
  generalize wl.drew = w3 at hM3 hCw ⊢
  have hb20 := hb2
  have hb30 := hb3
  have hc190 := hc19
  replace hb2 := hb2.mv hM3; replace hb3 := hb3.mv hM3; replace h1 := h1.mv hM3; replace ho10 := ho10.mv hM3; replace hT := hT.mv hM3; replace hJ := hJ.mv hM3; replace hX := hX.mv hM3
  refine vc rfl hCw.kp (fun W hW => Val.loadB scl22 rfl (hb20.kp hW rfl).blk rfl) <| zdm rfl rfl <| vd rfl (fun _ => Val.indexAddr sl70 hX.now rfl rfl rfl (by omega) (by omega)) <| vc rfl hCw.kp (fun W hW => Val.loadE1 scl9 rfl (hc190.kp hW rfl).cel) ?_
  refine WD.eff rfl rfl rfl (Eff.pureC cl 1 (Eff.call pf83 rfl (rfind_ok h1.now hr))) rfl ?_
  rintro v21 w4 ⟨c4, hM4, hx4, rfl⟩
  refine ⟨fun hC => hC.step hCw hM4 rfl, ?_⟩
  replace hCw := hCw.tr hM4 rfl
  replace hb2 := hb2.mv hM4; replace hb3 := hb3.mv hM4; replace h1 := h1.mv hM4; replace ho10 := ho10.mv hM4; replace hT := hT.mv hM4; replace hJ := hJ.mv hM4
  refine zdm rfl rfl <| vd rfl (fun _ => Val.extract rfl rfl) <| vd rfl (fun _ => Val.extract rfl rfl) <| zda rfl rfl <| zda rfl rfl <| WD.nil ?_
  clear hb20 hb30 hc190
  clear hCw
  refine cseq ?_
  skip
  refine cg <| zm rfl <| vq (Val.partFrom sl70 rfl rfl (by omega) (by omega)) ?_
  replace hT := TailC.rest (enc := fun x => [St x]) hT rfl
  generalize subV (.slice A5 (d :: t).length q5) (1 : Int).toNat (d :: t).length 1 = tw at hT ⊢
  have hto2 : ∀ x ∈ t, x.length ≤ 140737488355328 := fun x hx => hto x (by simp [hx])
  have hS := OwnC.rdFlat (n' := 1) (enc := fun b => [Value.bool b]) (ok := fun _ => True) (h0 := fun _ => rfl) (h1 := fun _ u hu => by simp at hu; subst hu; rfl) (l := seen) (by rw [hsl]; exact ho10) (by omega) (fun _ _ => trivial)
  refine za rfl <| cnil <| cseq <| cseq <| cg <| zm rfl <| vq (Val.not rfl) <| zm rfl ?_
  apply WR.sc false 4 _ (fun w' => w4 = w')
  case hl | hg | hu | hv | hs | hoff | hd => rfl
  case hF => exact fun _ => rfl
  case hT =>
   intro hq7
   try simp only [tstS] at hq7
   simp only [List.take_succ_cons, List.take_zero]
   obtain ⟨hf, hil⟩ := find_low hr hq7
   have hil2 : lowT T d < seen.length := by omega
   obtain ⟨hc31, _⟩ := RdC.elFlat hS hil2 (by decide)
   have hv1 : ([Value.bool seen[lowT T d]] : List Value) = [.bool (seen[lowT T d]?.getD true)] := by rw [List.getElem?_eq_getElem hil2]; rfl
   rw [hv1] at hc31
   refine WR.on rfl rfl <| zm rfl <| WR.on rfl rfl <| zm rfl <| WR.on rfl rfl <| vq (Val.indexO sl125 ho10 rfl rfl (by omega) (by omega)) ?_
   refine WR.on rfl rfl <| vq (Val.loadE1 scl4 rfl hc31.cel) ?_
   exact WR.nil ⟨rfl, Sub.drop _ 4 _ rfl rfl, rfl⟩
  rintro _ rfl
  refine cnil <| WC.cond rfl (fun hc5 => ?_) (fun hc5 => ?_)
  ·try simp only [tstS] at hc5
   have hsk : ∀ i, findT T d = some i → seen[i]?.getD true = true := fun i hi => by
     have hlo := lowT_find hr hi
     rcases hc5 with h | h
     · rw [hi] at h; cases h
     rw [← hlo]; exact h
   rw [bfsL_skip hsk] at hpr
   have hbe : bLeft seen (d :: t) = bLeft seen t + 1 := by simp only [bLeft, List.length_cons]; omega
   refine WC.exit rfl ?_
   exact ⟨(seen, t, tw, pre), subs, ⟨_, hb2, hb3, h1, ho10, hT, hJ, hsl, hpr, hto2, by dsimp only; omega⟩, by dsimp only; omega⟩
  try simp only [tstS] at hc5
  obtain ⟨hc5a, hc5b⟩ := hc5
  obtain ⟨hf, hil⟩ := find_low hr hc5a
  generalize lowT T d = i at hf hil hc5b ⊢
  have hil2 : i < seen.length := by omega
  have h0 : seen[i] = false := by rw [List.getElem?_eq_getElem hil2] at hc5b; exact hc5b
  have hbv := bLeft_visit (T := T) (d := d) (t := t) hil2 h0
  rw [bfsL_visit hf hil2 h0] at hpr
  have hpre : pre ++ [i] <+: ordR T R := ⟨bfsL T (seen.set i true) (t ++ nmOf T i), by rw [← hpr]; simp⟩
  refine cskip <| cseq <| cg <| zm rfl <| zm rfl <| vq (Val.indexO sl125 ho10 rfl rfl (by omega) (by omega)) ?_
  refine WR.eff_ (Eff.storeOC scl4 ho10 side rfl rfl ra ra) ?_
  rintro _ w5 ⟨hS, hM5⟩
  replace hb2 := hb2.mv hM5; replace hb3 := hb3.mv hM5; replace h1 := h1.mv hM5; replace hT := hT.mv hM5; replace hJ := hJ.mv hM5
  replace ho10 := hS
  rw [Int.toNat_natCast, bools_set] at ho10
  refine cnil <| cseq <| cseq <| cg <| zm rfl <| zm rfl ?_
  obtain ⟨K2, hK2, hyA⟩ := hy pre i _ _ hJ.now hpre
  refine ve (Eff.yieldB rfl rfl hyA) ?_
  rintro _ wY ⟨b, cY, rfl, hMY, hyT, hyF⟩
  replace hb2 := hb2.mv hMY (apart_of hK2 (by simp)); replace hb3 := hb3.mv hMY (apart_of hK2 (by simp)); replace h1 := h1.mv hMY (apart_sub hK2 (by simp))
  replace ho10 := ho10.mv hMY (apart_of hK2 (by simp)); replace hT := hT.mv hMY (apart_of hK2 (by simp))
  clear hJ hyA
  refine vq (Val.not rfl) <| cnil <| WC.cond rfl (fun hc7 => ?_) (fun hc7 => ?_)
  ·try simp only [tstS] at hc7
   skip
   refine WC.ret0 rfl ?_
   exact ⟨_, .inr ⟨_, hyF hc7⟩⟩
  try simp only [tstS] at hc7
  have hJ : JC (J (pre ++ [i])) [50, 51] cY wY := ⟨hyT hc7, fun _ _ _ _ h m => hJi _ _ _ _ _ h m⟩
  clear hyT hyF hMY
  obtain ⟨hc44, _⟩ := RdC.elFlat h1 hil (by decide)
  have hnl := namesT_len T[i]
  have hne := nmOf_lt (T := T) hil
  refine cskip <| cg <| zm rfl <| vq (Val.loadB scl22 rfl hb2.blk rfl) <| zm rfl ?_
  first | refine vq (Val.indexAddr sl22 (by assumption) rfl rfl rfl side side) ?_ | refine vq (Val.indexC sl22 (by assumption) rfl rfl side side) ?_ | refine vq (Val.indexO sl22 (by assumption) rfl rfl side side) ?_
  refine vq (Val.loadE agg60 rfl hc44.cel rfl) <| ve (Eff.pureC cY 52 (Eff.call pf119 rfl (rnames_ok T[i] (ht _ (List.getElem_mem hil))))) ?_
  rintro v46 w6 ⟨c6, hM6, hx6, hn⟩
  replace hb2 := hb2.mv hM6; replace hb3 := hb3.mv hM6; replace h1 := h1.mv hM6; replace ho10 := ho10.mv hM6; replace hT := hT.mv hM6; replace hJ := hJ.mv hM6
  replace hn := hn.toC hx6
  have hnr : RdS strS _ _ v46 (namesT T[i]) := hn.own.rdStrs namesT_texts (by omega)
  refine ve (Eff.appendT sl70 rfl rfl hT (Src.flat Tryz.underlying70 hnr) mxl oms) ?_
  rintro v47 w7 ⟨c7, hM7, hOq⟩
  replace hb2 := hb2.mv hM7; replace hb3 := hb3.mv hM7; replace h1 := h1.mv hM7; replace ho10 := ho10.mv hM7; replace hJ := hJ.mv hM7
  replace hT := hOq
  refine za rfl <| cnil ?_
  rw [← List.flatMap_append, ← List.length_append, ← hne] at hT
  refine ⟨(seen.set i true, t ++ nmOf T i, v47, pre ++ [i]), subs, ⟨_, hb2, hb3, h1, ho10, hT, hJ, by simpa using hsl, by rw [← hpr]; simp, fun x hx => (List.mem_append.1 hx).elim (hto2 x) (nmOf_texts x), by dsimp only; omega⟩, by dsimp only; omega⟩
 try simp only [tstS] at hc2
 have htn : todo = [] := by
   cases todo with
   | nil => rfl
   | cons d t => simp at hc2
 subst htn
 rw [bfsL_nil, List.append_nil] at hpr
 refine WC.exit rfl <| ⟨_, _, rfl, rfl, ?_⟩
 exact ⟨rfl, _, .inl (by rw [← hpr]; exact hJ.now)⟩
theorem reached_ok {w : World} {v vR : Value} {T : List Thg} {R : List (List UInt8)} (h1 : Rd thgS w v T) (h2 : Rd strS w vR R) :
   Calls Tryz.prog 124 #[v, vR] w (Ret fun u w' => Below w.heap.size w w' ∧ ∃ b2 b3, u = .func (.func 145) #[] #[.pointer (some ⟨b2, 0, none⟩), .pointer (some ⟨b3, 0, none⟩)] ∧ w.heap.size ≤ b2 ∧ w.heap.size ≤ b3 ∧ Blk w' b2 [v] 22 ∧ Blk w' b3 [vR] 70) := by
 obtain ⟨c, hO, hc⟩ := OldC.start w
 have x1 := h1.cellsV; have x2 := h2.cellsV
 clear hc
 refine enter (n := 6) (res := #[.tmp 4]) Tryz.func124 rfl rfl rfl rfl <| cseq <| cg <| ve (Eff.box1C c 102 rfl ra) ?_
 rintro _ w1 ⟨b2, c1, rfl, m, hb2⟩
 replace hO := hO.mv m
 refine ve (Eff.box1C c1 103 rfl ra) ?_
 rintro _ w2 ⟨b3, c2, rfl, m, hb3⟩
 replace hO := hO.mv m; replace hb2 := hb2.mv m
 refine za rfl <| cnil <| cseq <| cg <| vq (Val.makeFunc rfl) <| za rfl <| cnil <| WC.ret1 rfl rfl <| ⟨hO.below, _, _, rfl, ?_, ?_, hb2.blk, hb3.blk⟩
 · rcases Nat.lt_or_ge b2 w.heap.size with h | h
   · have := hO.col _ h; rw [hb2.col] at this; cases this
   exact h
 rcases Nat.lt_or_ge b3 w.heap.size with h | h
 · have := hO.col _ h; rw [hb3.col] at this; cases this
 exact h
end Go.Proofs.YtdlpibhecdfbcabGreatDoor

namespace Go.Eng
open Go Go.RowKit
theorem Val.minI {P : Program} {env : Env} {w : World} {ty : TypeId} {x y : Operand} {t t2 : TypeId} {m n : Int} (hx : evO env x = some (I m)) (hy : evO env y = some (I n)) : Val P env w (.call ⟨.builtin .min, #[x, y], #[t, t2]⟩) ty (I (min m n)) := fun _ a ho d pos after g => by
  have e : (if n < m then n else m) = min m n := by rw [Int.min_def]; split <;> split <;> omega
  simp [execOp, resolve, invoke, builtin, Builtin.min_, Builtin.min2, ho.eval hx, ho.eval hy, e]
end Go.Eng
namespace Silo
open Go Go.Eng
abbrev leadB (c : UInt8) (s : List UInt8) : Nat := lead (fun x => !(x == c)) s
theorem leadB_le (c : UInt8) (s : List UInt8) : leadB c s ≤ s.length := lead_le _ _
theorem index_lead (s : List UInt8) (c : UInt8) : Lib.indexByte s c = if leadB c s < s.length then (leadB c s : Int) else -1 := by
  have hge := Lib.indexByte_ge s c
  by_cases hI : Lib.indexByte s c = -1
  · have h := Lib.indexByte_none hI
    have hl : leadB c s = s.length := lead_eq (Nat.le_refl _) (fun i hi _ => by
      have := h i
      rw [List.getElem?_eq_getElem hi] at this
      cases hx : s[i] == c with
      | false => rfl
      | true => rw [beq_iff_eq] at hx; rw [hx] at this; exact absurd rfl this) (fun h => absurd h (Nat.lt_irrefl _))
    rw [hI, hl, if_neg (Nat.lt_irrefl _)]
  · obtain ⟨o, ho⟩ := Int.eq_ofNat_of_zero_le (show 0 ≤ Lib.indexByte s c by omega)
    obtain ⟨h1, h2⟩ := Lib.indexByte_some ho
    have hos : o < s.length := by
      rcases Nat.lt_or_ge o s.length with h | h
      · exact h
      · rw [List.getElem?_eq_none h] at h1; cases h1
    have hl : leadB c s = o := lead_eq (by omega) (fun i hi hio => by
      have := h2 i hio
      rw [List.getElem?_eq_getElem hi] at this
      cases hx : s[i] == c with
      | false => rfl
      | true => rw [beq_iff_eq] at hx; rw [hx] at this; exact absurd rfl this) (fun h => by
      rw [List.getElem?_eq_getElem h] at h1
      injection h1 with h1
      simp [h1])
    rw [ho, hl, if_pos hos]
theorem splitB_enough (c : UInt8) : ∀ (k m : Nat) (s : List UInt8), s.length < k → s.length < m → splitB c k s = splitB c m s
  | k + 1, m + 1, s, hk, hm => by
    unfold splitB cutB
    dsimp only
    by_cases h : lead (fun x => !(x == c)) s < s.length
    · rw [if_pos h]
      dsimp only
      rw [splitB_enough c k m _ (by rw [List.length_drop]; omega) (by rw [List.length_drop]; omega)]
    · rw [if_neg h]
theorem parts_some {s : List UInt8} (h : leadB 47 s < s.length) : parts s = s.take (leadB 47 s) :: parts (s.drop (leadB 47 s + 1)) := by
  unfold parts
  conv => lhs; unfold splitB cutB
  dsimp only
  rw [if_pos h]
  dsimp only
  rw [splitB_enough 47 s.length ((s.drop (leadB 47 s + 1)).length + 1) _ (by rw [List.length_drop]; omega) (Nat.lt_succ_self _)]
theorem parts_none {s : List UInt8} (h : ¬ leadB 47 s < s.length) : parts s = [s] := by
  unfold parts
  unfold splitB cutB
  dsimp only
  rw [if_neg h]
  dsimp only
  rw [List.take_of_length_le (by have := leadB_le 47 s; simp only [leadB] at *; omega)]
theorem count_some {s : List UInt8} {c : UInt8} (h : leadB c s < s.length) : s.count c = (s.drop (leadB c s + 1)).count c + 1 := by
  have h1 : (s.take (leadB c s)).count c = 0 := by
    rw [List.count_eq_zero]
    intro hm
    obtain ⟨i, hi, he⟩ := List.mem_iff_getElem.1 hm
    rw [List.length_take] at hi
    obtain ⟨_, h2⟩ := lead_pos (p := fun x => !(x == c)) (s := s) (i := i) (by simp only [leadB] at hi; omega)
    rw [List.getElem_take] at he
    rw [he] at h2; simp at h2
  have h2 : s[leadB c s] = c := by
    have := lead_stop (p := fun x => !(x == c)) h
    simpa using this
  conv => lhs; rw [← List.take_append_drop (leadB c s) s, List.drop_eq_getElem_cons h]
  rw [List.count_append, h1, h2, List.count_cons_self]; omega
theorem count_none {s : List UInt8} {c : UInt8} (h : ¬ leadB c s < s.length) : s.count c = 0 := by
  rw [List.count_eq_zero]
  intro hm
  obtain ⟨i, hi, he⟩ := List.mem_iff_getElem.1 hm
  have hl := leadB_le c s
  obtain ⟨_, h2⟩ := lead_pos (p := fun x => !(x == c)) (s := s) (i := i) (by simp only [leadB] at *; omega)
  rw [he] at h2; simp at h2
theorem count_pos_lead {s : List UInt8} {c : UInt8} (h : 0 < s.count c) : leadB c s < s.length := by
  rcases Nat.lt_or_ge (leadB c s) s.length with h1 | h1
  · exact h1
  · rw [count_none (by omega)] at h; omega
theorem count_le_len (s : List UInt8) (c : UInt8) : s.count c ≤ s.length := List.count_le_length
theorem parts_len : ∀ (k : Nat) (s : List UInt8), s.length < k → (parts s).length = s.count 47 + 1
  | k + 1, s, hk => by
    by_cases h : leadB 47 s < s.length
    · rw [parts_some h, count_some h, List.length_cons, parts_len k _ (by rw [List.length_drop]; omega)]
    · rw [parts_none h, count_none h]; rfl
theorem parts_mem : ∀ (k : Nat) (s : List UInt8), s.length < k → ∀ x ∈ parts s, x.length ≤ s.length
  | k + 1, s, hk, x, hx => by
    by_cases h : leadB 47 s < s.length
    · rw [parts_some h] at hx
      rcases List.mem_cons.1 hx with rfl | hx
      · rw [List.length_take]; omega
      · have := parts_mem k _ (by rw [List.length_drop]; omega) x hx
        rw [List.length_drop] at this; omega
    · rw [parts_none h] at hx
      rw [List.mem_singleton.1 hx]; omega
theorem strs_set (l : List (List UInt8)) (i : Nat) (x : List UInt8) : (l.flatMap fun x => [St x]).set i (St x) = (l.set i x).flatMap fun x => [St x] := by
  simp only [← List.map_eq_flatMap, List.map_set]
theorem strs_zero (n : Nat) : (List.replicate n [St []]).flatten = (List.replicate n ([] : List UInt8)).flatMap fun x => [St x] := by
  simp only [← List.map_eq_flatMap, List.map_replicate]
  induction n with
  | zero => rfl
  | succ n ih => simp [List.replicate_succ, ih]
theorem take_set_at (L : List (List UInt8)) (i : Nat) (x : List UInt8) (h : i < L.length) : (L.set i x).take (i + 1) = L.take i ++ [x] := by
  rw [List.set_eq_take_append_cons_drop, if_pos h, List.take_append, List.length_take, Nat.min_eq_left (by omega), List.take_of_length_le (by rw [List.length_take]; omega)]
  rw [show i + 1 - i = 1 by omega]; rfl
theorem verOf_len {s : List UInt8} {n : Nat} (h : s.length ≤ n) (hn : 6 ≤ n := by decide) : (verOf s).length ≤ n := by
  unfold verOf cutB
  dsimp only
  split
  · exact hn
  · rename_i v hx
    split at hx
    · injection hx with hx
      rw [← hx, List.length_drop]; omega
    · cases hx
theorem nameOk_bad {s : List UInt8} {k : Nat} (hk : k < (parts (cutB 58 s).1).length) (h : partP (parts (cutB 58 s).1)[k] = false) : nameOk s = false := by
  have : (parts (cutB 58 s).1).all partB = false := by
    rw [List.all_eq_false]
    exact ⟨_, List.getElem_mem hk, by rw [partB, partGo_eq _ _ (Nat.lt_succ_self _), h]; simp⟩
  rw [nameOk, this, Bool.and_false, Bool.false_and]
theorem nameOk_all {s : List UInt8} (hs : s.length ≤ 40) (h : ∀ i (hi : i < (parts (cutB 58 s).1).length), partP (parts (cutB 58 s).1)[i] = true) : nameOk s = verOk (verOf s) := by
  have : (parts (cutB 58 s).1).all partB = true := by
    rw [List.all_eq_true]
    intro x hx
    obtain ⟨i, hi, rfl⟩ := List.mem_iff_getElem.1 hx
    rw [partB, partGo_eq _ _ (Nat.lt_succ_self _)]; exact h i hi
  rw [nameOk, this, decide_eq_true hs]; rfl
end Silo
namespace Go.Proofs.YtdlpibhecdfbcabGreatDoor
open Go Go.Eng Go.RowKit Silo TryzT
theorem idxB_ok {w : World} (s : List UInt8) (c : UInt8) : Calls Tryz.prog 175 #[St s, St [c]] w (Ret fun v w' => Below w.heap.size w w' ∧ v = I (if leadB c s < s.length then (leadB c s : Int) else -1)) :=
  (Tryz.strings_Index_one ⟨s.toArray⟩ c w).mono fun e w' he => by
    obtain ⟨rfl, rfl⟩ := he
    exact ⟨_, rfl, Below.refl _ _, by rw [← index_lead]⟩
theorem idxL_ok {w : World} (s : List UInt8) (c : UInt8) : Calls Tryz.prog 172 #[St s, St [c]] w (Ret fun v w' => Below w.heap.size w w' ∧ v = I (if leadB c s < s.length then (leadB c s : Int) else -1)) :=
  (Tryz.stringslite_Index_one ⟨s.toArray⟩ c w).mono fun e w' he => by
    obtain ⟨rfl, rfl⟩ := he
    exact ⟨_, rfl, Below.refl _ _, by rw [← index_lead]⟩
theorem countB_ok {w : World} (s : List UInt8) (c : UInt8) : Calls Tryz.prog 174 #[St s, St [c]] w (Ret fun v w' => Below w.heap.size w w' ∧ v = I (s.count c : Nat)) :=
  (Tryz.strings_Count_one ⟨s.toArray⟩ c w).mono fun e w' he => by
    obtain ⟨rfl, rfl⟩ := he
    exact ⟨_, rfl, Below.refl _ _, rfl⟩
theorem lcut_ok {w : World} (s : List UInt8) (c : UInt8) (hs : s.length ≤ 140737488355328) : Calls Tryz.prog 152 #[St s, St [c]] w (Ret fun v w' => Below w.heap.size w w' ∧ v = .tuple #[St (cutB c s).1, St ((cutB c s).2.getD []), .bool (cutB c s).2.isSome]) := by
 have hK : Old w w := Old.refl w
 have hl := leadB_le c s
 have h1c : ([c] : List UInt8).length = 1 := rfl
 refine enter (n := 23) (res := #[.tmp 4, .tmp 5, .tmp 6]) Tryz.func152 rfl rfl rfl rfl <| cseq <| cg <| za rfl <| za rfl <| za rfl <| cnil <| cseq <| cseq <| cg <| zm rfl <| zm rfl <| ve (Eff.call pf172 rfl (idxL_ok s c)) ?_
 rintro v10 w1 ⟨hk1, rfl⟩
 replace hK := hK.up hk1
 generalize hk : (if leadB c s < s.length then (leadB c s : Int) else -1) = k
 refine za rfl <| cnil <| cseq <| cg <| zm rfl <| vq (Val.geq rfl rfl) <| cnil <| WC.cond rfl (fun hc2 => ?_) (fun hc2 => ?_)
 ·try simp only [tstS] at hc2
  obtain ⟨hlt, rfl⟩ : leadB c s < s.length ∧ k = (leadB c s : Int) := by
    by_cases h : leadB c s < s.length
    · rw [if_pos h] at hk; exact ⟨h, hk.symm⟩
    rw [if_neg h] at hk; omega
  refine cseq <| WC.regionD (Below w1.heap.size w1) [0, 0, 0, 0, 0, 0, 0, 0, 0, 0, 0, 0] [0, 1, 2, 3, 4, 5, 6, 7, 8, 9, 10, 11] mixed (by kernel_rfl) ?_
  have hk2 : Below w1.heap.size w1 w1.drew := (Below.refl _ _).drew
  have hCw : Below w1.heap.size w1 w1.drew := (Below.refl _ _).drew
  generalize w1.drew = w2 at hk2 hCw ⊢
  replace hK := hK.up hk2
  refine zdm rfl rfl <| zdm rfl rfl <| vd rfl (fun _ => Val.ssliceTo Tryz.underlying9 rfl rfl side side) <| zdm rfl rfl <| zdm rfl rfl <| zdm rfl rfl <| vd rfl (fun _ => Val.slen Tryz.underlying9 rfl) <| vd rfl (fun _ => Val.addI rfl rfl side side) <| vd rfl (fun _ => Val.ssliceFrom Tryz.underlying9 rfl rfl side side) ?_
  refine zda rfl rfl <| zda rfl rfl <| zda rfl rfl <| WD.nil ?_
  clear hCw
  refine WC.ret3 rfl rfl rfl rfl ?_
  exact ⟨hK, by
    have e : ((leadB c s : Int) + (([c] : List UInt8).length : Int)).toNat = leadB c s + 1 := by omega
    rw [e, Int.toNat_natCast]
    unfold cutB
    rw [if_pos hlt]; rfl⟩
 try simp only [tstS] at hc2
 refine cskip <| cseq <| cg <| zm rfl <| za rfl <| za rfl <| za rfl <| cnil <| WC.ret3 rfl rfl rfl rfl ?_
 exact ⟨hK, by
   have h : ¬ leadB c s < s.length := fun h => by rw [if_pos h] at hk; omega
   unfold cutB
   rw [if_neg h, List.take_of_length_le (by simp only [leadB] at *; omega)]; rfl⟩
theorem cut_ok {w : World} (s : List UInt8) (c : UInt8) (hs : s.length ≤ 140737488355328) : Calls Tryz.prog 135 #[St s, St [c]] w (Ret fun v w' => Below w.heap.size w w' ∧ v = .tuple #[St (cutB c s).1, St ((cutB c s).2.getD []), .bool (cutB c s).2.isSome]) := by
 have hK : Old w w := Old.refl w
 refine enter (n := 13) (res := #[.tmp 4, .tmp 5, .tmp 6]) Tryz.func135 rfl rfl rfl rfl <| cseq <| cg <| za rfl <| za rfl <| za rfl <| cnil <| cseq <| cg <| zm rfl <| zm rfl <| ve (Eff.call pf152 rfl (lcut_ok s c hs)) ?_
 rintro v9 w1 ⟨hk1, rfl⟩
 replace hK := hK.up hk1
 refine vq (Val.extract rfl rfl) <| vq (Val.extract rfl rfl) <| vq (Val.extract rfl rfl) <| za rfl <| za rfl <| za rfl <| cnil <| WC.ret3 rfl rfl rfl rfl ?_
 exact ⟨hK, rfl⟩
set_option maxHeartbeats 1000000 in
theorem genSplit_ok {w : World} (s : List UInt8) (hs : s.length ≤ 1048576) : Calls Tryz.prog 153 #[St s, St [47], I 0, I (-1)] w (Ret fun u w' => Below w.heap.size w w' ∧ Own w' w.heap.size 9 1 u (parts s).length ((parts s).flatMap fun x => [St x])) := by
 obtain ⟨c, hO, hc⟩ := OldC.start w
 clear hc
 have hcl := count_le_len s 47
 have h47 : ([47] : List UInt8).length = 1 := rfl
 have hpl := parts_len (s.length + 1) s (Nat.lt_succ_self _)
 refine enter (n := 66) (res := #[.tmp 8]) Tryz.func153 rfl rfl rfl rfl <| cseq <| cg <| za rfl <| cnil <| cseq <| cseq <| cg <| zm rfl <| vq (Val.eql rfl rfl) <| cnil <| WC.cond rfl (fun hc1 => ?_) (fun hc1 => ?_)
 ·exact absurd hc1 (by decide)
 try simp only [tstS] at hc1
 refine cskip <| cseq <| cseq <| cg <| zm rfl <| vq (Val.seq_ rfl rfl) <| cnil <| WC.cond rfl (fun hc3 => ?_) (fun hc3 => ?_)
 ·simp at hc3
 try simp only [tstS] at hc3
 refine cskip <| cseq <| cseq <| cg <| zm rfl <| vq (Val.lss rfl rfl) <| cnil <| WC.cond rfl (fun hc5 => ?_) (fun hc5 => ?_)
 ·try simp only [tstS] at hc5
  refine cg <| zm rfl <| zm rfl <| ve (Eff.pureC c 1 (Eff.call pf174 rfl (countB_ok s 47))) ?_
  rintro v23 w1 ⟨c1, m, hx1, rfl⟩
  replace hO := hO.mv m
  refine vq (Val.addI rfl rfl side side) <| za rfl <| cnil <| cseq <| cg <| zm rfl <| zm rfl <| vq (Val.slen Tryz.underlying9 rfl) <| vq (Val.addI rfl rfl side side) ?_
  have em : min (((s.count 47 : Nat) : Int) + 1) ((s.length : Int) + 1) = ((s.count 47 + 1 : Nat) : Int) := by omega
  refine vq (Val.minI rfl rfl) ?_
  rw [em]
  refine za rfl <| cnil <| cseq <| cg <| zm rfl <| ve (Eff.makeC c1 50 sl70 rfl rfl side side side) ?_
  rintro v31 w2 ⟨c2, m, ho31⟩
  replace hO := hO.mv m
  rw [Int.toNat_natCast, strs_zero] at ho31
  refine za rfl <| cnil <| cseq <| cg <| zm rfl <| vq (Val.subI rfl rfl side side) <| za rfl <| cnil ?_
  rw [show ((s.count 47 + 1 : Nat) : Int) - 1 = (s.count 47 : Nat) by omega]
  refine cseq <| cg <| za rfl <| cnil <| cseq <| cblock ?_
  refine WC.loop (σ := Nat × List (List UInt8) × List UInt8) (fun st => [(0, St st.2.2), (1, St [47]), (2, I 0), (3, I (s.count 47 : Nat)), (9, v31), (10, I st.1)]) (fun st w' => ∃ c', OldC w c' w' ∧ OwnC c' w' 50 9 1 v31 (s.count 47 + 1) (st.2.1.flatMap fun x => [St x]) ∧ st.2.1.length = s.count 47 + 1 ∧ st.1 + st.2.2.count 47 = s.count 47 ∧ st.2.1.take st.1 ++ parts st.2.2 = parts s ∧ st.2.2.length ≤ s.length) (fun st => s.count 47 - st.1) (0, List.replicate (s.count 47 + 1) [], s) (by repeat (first | exact Sub.nil _ | refine Sub.cons rfl ?_ | refine Sub.consM rfl ?_)) ⟨_, hO, ho31, by simp, by simp, by simp, Nat.le_refl _⟩ ?_
  clear hO ho31
  rintro ⟨i, L, r⟩ wl ⟨cl, hO, ho31, hL, hic, hp, hr⟩
  dsimp only at hO ho31 hL hic hp hr ⊢
  refine cseq <| cseq <| cg <| zm rfl <| zm rfl <| vq (Val.lss rfl rfl) <| cnil <| WC.cond rfl (fun hc11 => ?_) (fun hc11 => ?_)
  ·try simp only [tstS] at hc11
   have hlt : leadB 47 r < r.length := count_pos_lead (by omega)
   have hcs := count_some hlt
   have hps := parts_some hlt
   refine cskip <| cblock <| cseq <| cg <| zm rfl <| zm rfl <| ve (Eff.pureC cl 1 (Eff.call pf175 rfl (idxB_ok r 47))) ?_
   rintro v39 w3 ⟨c3, m, hx3, rfl⟩
   replace hO := hO.mv m; replace ho31 := ho31.mv m
   rw [if_pos hlt]
   refine za rfl <| cnil <| cseq <| cseq <| cg <| zm rfl <| vq (Val.lss rfl rfl) <| cnil <| WC.cond rfl (fun hc13 => ?_) (fun hc13 => ?_)
   ·exact absurd (of_decide_eq_true hc13) (by omega)
   try simp only [tstS] at hc13
   refine cskip <| cseq <| cg <| zm rfl <| zm rfl <| zm rfl <| zm rfl <| zm rfl <| vq (Val.addI rfl rfl side side) ?_
   refine vq (Val.ssliceTo Tryz.underlying9 rfl rfl side side) <| vq (Val.indexO sl70 ho31 rfl rfl (by omega) (by omega)) ?_
   refine WR.eff_ (Eff.storeOC scl9 ho31 side rfl rfl ra ra) ?_
   rintro _ w4 ⟨hS, m⟩
   replace hO := hO.mv m
   replace ho31 := hS
   rw [Int.toNat_natCast, strs_set] at ho31
   refine cnil <| cseq <| cg <| zm rfl <| zm rfl <| zm rfl <| vq (Val.slen Tryz.underlying9 rfl) <| vq (Val.addI rfl rfl side side) <| vq (Val.ssliceFrom Tryz.underlying9 rfl rfl side side) ?_
   refine za rfl <| cnil <| cg <| zm rfl <| vq (Val.addI rfl rfl side side) <| za rfl <| cnil ?_
   have e0 : ((leadB 47 r : Int) + 0).toNat = leadB 47 r := by omega
   have e1 : ((leadB 47 r : Int) + (([47] : List UInt8).length : Int)).toNat = leadB 47 r + 1 := by omega
   rw [e0] at ho31
   rw [e1]
   exact ⟨(i + 1, L.set i (r.take (leadB 47 r)), r.drop (leadB 47 r + 1)), subs, ⟨_, hO, ho31, by simpa using hL, by dsimp only; omega, by dsimp only; rw [take_set_at L i _ (by omega), List.append_assoc, ← hp, hps]; rfl, by dsimp only; rw [List.length_drop]; omega⟩, by dsimp only; omega⟩
  try simp only [tstS] at hc11
  have hi : i = s.count 47 := by omega
  have hn : ¬ leadB 47 r < r.length := fun h => by have := count_some h; omega
  have hpn := parts_none hn
  refine WC.exit rfl <| cseq <| cg <| zm rfl <| zm rfl <| zm rfl <| vq (Val.indexO sl70 ho31 rfl rfl (by omega) (by omega)) ?_
  refine WR.eff_ (Eff.storeOC scl9 ho31 side rfl rfl ra ra) ?_
  rintro _ w5 ⟨hS, m⟩
  replace hO := hO.mv m
  replace ho31 := hS
  rw [Int.toNat_natCast, strs_set] at ho31
  obtain ⟨A5, q5, rfl, hq5, _⟩ := ho31.own.len
  refine cnil <| cseq <| cg <| zm rfl <| zm rfl <| vq (Val.addI rfl rfl side side) <| vq (Val.partTo sl70 rfl rfl (by omega) (by omega)) ?_
  have hx := ho31.to (k := i + 1) (by omega)
  refine za rfl <| cnil <| WC.ret1 rfl rfl ?_
  have e9 : (L.set i r).flatMap (fun x => [St x]) = (parts s).flatMap fun x => [St x] := by
    rw [← hp, hpn, ← take_set_at L i r (by omega), List.take_of_length_le (by simp; omega)]
  have hxl := ho31.own.1
  rw [show (i + 1) * 1 = s.count 47 + 1 by omega, List.take_of_length_le (by rw [hxl]; omega), e9, show i + 1 = (parts s).length by omega] at hx
  have e8 : ((i : Int) + 1).toNat = (parts s).length := by omega
  rw [e8]
  exact ⟨hO.below, hx.fromOld hO (by decide)⟩
 exact absurd hc5 (by decide)
theorem split_ok {w : World} (s : List UInt8) (hs : s.length ≤ 1048576) : Calls Tryz.prog 136 #[St s, St [47]] w (Ret fun u w' => Below w.heap.size w w' ∧ Own w' w.heap.size 9 1 u (parts s).length ((parts s).flatMap fun x => [St x])) := by
 obtain ⟨c, hO, hc⟩ := OldC.start w
 clear hc
 refine enter (n := 8) (res := #[.tmp 4]) Tryz.func136 rfl rfl rfl rfl <| cseq <| cg <| za rfl <| cnil <| cseq <| cg <| zm rfl <| zm rfl <| ve (Eff.pureC c 50 (Eff.call pf153 rfl (genSplit_ok s hs))) ?_
 rintro v7 w1 ⟨c1, m, hx1, ho⟩
 replace hO := hO.mv m
 replace ho := ho.toC hx1
 refine za rfl <| cnil <| WC.ret1 rfl rfl ?_
 exact ⟨hO.below, ho.fromOld hO (by decide)⟩
theorem nsplit_ok {w : World} (s : List UInt8) (hs : s.length ≤ 140737488355328) : Calls Tryz.prog 109 #[St s] w (Ret fun u w' => Below w.heap.size w w' ∧ ∃ a b, u = .tuple #[St a, St b, .bool (nameOk s)]) := by
 obtain ⟨c, hO, hc⟩ := OldC.start w
 clear hc
 refine enter (n := 34) (res := #[.tmp 2, .tmp 3, .tmp 4]) Tryz.func109 rfl rfl rfl rfl <| cseq <| cg <| za rfl <| za rfl <| za rfl <| cnil <| cseq <| cseq <| cg <| zm rfl <| vq (Val.slen Tryz.underlying9 rfl) <| vq (Val.gtr rfl rfl) <| cnil <| WC.cond rfl (fun hc1 => ?_) (fun hc1 => ?_)
 ·try simp only [tstS] at hc1
  refine cseq <| cg <| za rfl <| za rfl <| za rfl <| cnil <| WC.ret3 rfl rfl rfl rfl ?_
  exact ⟨hO.below, _, _, by rw [nameOk, decide_eq_false (by omega)]; rfl⟩
 try simp only [tstS] at hc1
 refine cskip <| cseq <| cg <| zm rfl <| ve (Eff.pureC c 1 (Eff.call pf135 rfl (cut_ok s 58 hs))) ?_
 rintro v13 w1 ⟨c1, m, hx1, rfl⟩
 replace hO := hO.mv m
 refine zm rfl <| vq (Val.extract rfl rfl) <| vq (Val.extract rfl rfl) <| vq (Val.extract rfl rfl) <| za rfl <| za rfl <| za rfl <| cnil <| cseq <| cseq <| cg <| zm rfl <| vq (Val.not rfl) <| cnil <| WC.mono (N := (fun e w' => ∃ c', Sub [(4000000, .tuple #[]), (2, St (cutB 58 s).1), (3, St (verOf s))] e ∧ OldC w c' w')) ?_ ?_
 ·refine WC.cond rfl (fun hc4 => ?_) (fun hc4 => ?_)
  ·try simp only [tstS] at hc4
   refine cg <| za rfl <| cnil ?_
   have hv : verOf s = [108, 97, 116, 101, 115, 116] := by
     unfold verOf
     cases hx : (cutB 58 s).2 with
     | none => rfl
     | some v => rw [hx] at hc4; cases hc4
   rw [hv]
   exact ⟨_, subs, hO⟩
  try simp only [tstS] at hc4
  refine cskip ?_
  have hv : verOf s = (cutB 58 s).2.getD [] := by
    unfold verOf
    cases hx : (cutB 58 s).2 with
    | none => rw [hx] at hc4; cases hc4
    | some v => rfl
  rw [hv]
  exact ⟨_, subs, hO⟩
 rintro e5 w5' ⟨c5', hsub, hO⟩
 refine WC.sub hsub ?_
 have hal : (cutB 58 s).1.length ≤ s.length := by unfold cutB; rw [List.length_take]; omega
 have hvl : (verOf s).length ≤ 140737488355328 := verOf_len hs
 have hs40 : s.length ≤ 40 := by omega
 have hpt := parts_mem ((cutB 58 s).1.length + 1) (cutB 58 s).1 (Nat.lt_succ_self _)
 have hpl := parts_len ((cutB 58 s).1.length + 1) (cutB 58 s).1 (Nat.lt_succ_self _)
 have hcl := count_le_len (cutB 58 s).1 47
 refine cseq <| cseq <| cg <| zm rfl <| ve (Eff.pureC c5' 50 (Eff.call pf136 rfl (split_ok (cutB 58 s).1 (by omega)))) ?_
 rintro v20 w2 ⟨c2, m, hx2, ho20⟩
 replace hO := hO.mv m
 replace ho20 := ho20.toC hx2
 have hS : RdC strS _ _ [50] v20 (parts (cutB 58 s).1) := ho20.rdFlat (by omega) (fun x hx => by have := hpt x hx; omega)
 clear ho20
 first | refine vq (Val.rdlen sl70 (by assumption) rfl) ?_ | refine vq (Val.sllen Tryz.underlying70 rfl) ?_ | refine vq (Val.olen sl70 (by assumption) rfl) ?_ | refine vq (Val.rdlenC sl70 (by assumption) rfl) ?_
 refine zm rfl <| cnil <| cblock <| WC.loop (σ := Nat) (fun k => [(2, St (cutB 58 s).1), (3, St (verOf s)), (20, v20), (21, I (parts (cutB 58 s).1).length), (22, I k)]) (fun k w' => ∃ c', OldC w c' w' ∧ RdC strS c' w' [50] v20 (parts (cutB 58 s).1) ∧ k ≤ (parts (cutB 58 s).1).length ∧ ∀ i (h : i < (parts (cutB 58 s).1).length), i < k → partP (parts (cutB 58 s).1)[i] = true) (fun k => (parts (cutB 58 s).1).length - k) 0 subs ⟨_, hO, hS, by omega, fun i _ h => absurd h (Nat.not_lt_zero _)⟩ ?_
 clear hO hS
 rintro k wl ⟨cl, hO, hS, hk, hb⟩
 refine cseq <| cg <| vq (Val.lss rfl rfl) <| cnil <| cseq <| WC.cond rfl (fun hc7 => ?_) (fun hc7 => ?_)
 ·try simp only [tstS] at hc7
  have ka : k < (parts (cutB 58 s).1).length := by omega
  obtain ⟨hc24, _⟩ := RdC.elFlat hS ka (by decide)
  have hml := hpt _ (List.getElem_mem ka)
  refine cskip <| cseq <| cblock <| cseq <| cg ?_
  first | refine vq (Val.indexAddr sl70 (by assumption) rfl rfl rfl side side) ?_ | refine vq (Val.indexC sl70 (by assumption) rfl rfl side side) ?_ | refine vq (Val.indexO sl70 (by assumption) rfl rfl side side) ?_
  refine vq (Val.loadE1 scl9 rfl hc24.cel) <| za rfl <| cnil <| cseq <| cg <| zm rfl <| ve (Eff.pureC cl 1 (Eff.call pf137 rfl (npart_ok (parts (cutB 58 s).1)[k] (by omega)))) ?_
  rintro v27 w3 ⟨c3, m, hx3, rfl⟩
  replace hO := hO.mv m; replace hS := hS.mv m
  refine vq (Val.not rfl) <| cnil <| WC.cond rfl (fun hc9 => ?_) (fun hc9 => ?_)
  ·try simp only [tstS] at hc9
   refine cseq <| cg <| za rfl <| za rfl <| za rfl <| cnil <| WC.ret3 rfl rfl rfl rfl ?_
   exact ⟨hO.below, _, _, by rw [nameOk_bad ka hc9]⟩
  try simp only [tstS] at hc9
  refine cskip <| cg <| vq (Val.addI rfl rfl side side) <| zm rfl <| cnil ?_
  exact ⟨k + 1, subs, ⟨_, hO, hS, ka, fun i h hi => by
    rcases Nat.lt_or_ge i k with h1 | h1
    · exact hb i h h1
    have : i = k := by omega
    subst this; exact hc9⟩, by omega⟩
 try simp only [tstS] at hc7
 refine WC.exit rfl <| cseq <| cg <| zm rfl <| zm rfl <| zm rfl <| ve (Eff.pureC cl 1 (Eff.call pf138 rfl (nversion_ok (verOf s) hvl))) ?_
 rintro v33 w4 ⟨c4, m, hx4, rfl⟩
 replace hO := hO.mv m
 refine za rfl <| za rfl <| za rfl <| cnil <| WC.ret3 rfl rfl rfl rfl ?_
 exact ⟨hO.below, _, _, by rw [nameOk_all hs40 fun i h => hb i h (by omega)]⟩
theorem is_ok {w : World} (s : List UInt8) (hs : s.length ≤ 140737488355328) : Calls Tryz.prog 76 #[St s] w (Ret fun u w' => Below w.heap.size w w' ∧ u = .bool (nameOk s)) := by
 have hK : Old w w := Old.refl w
 refine enter (n := 13) (res := #[.tmp 2]) Tryz.func76 rfl rfl rfl rfl <| cseq <| cg <| za rfl <| cnil <| cseq <| cg <| zm rfl <| ve (Eff.call pf109 rfl (nsplit_ok s hs)) ?_
 rintro v8 w1 ⟨hk1, a, b, rfl⟩
 replace hK := hK.up hk1
 refine zm rfl <| vq (Val.extract rfl rfl) <| vq (Val.extract rfl rfl) <| vq (Val.extract rfl rfl) <| za rfl <| za rfl <| za rfl <| cnil <| cseq <| cg <| zm rfl <| za rfl <| cnil <| WC.ret1 rfl rfl ?_
 exact ⟨hK, rfl⟩
end Go.Proofs.YtdlpibhecdfbcabGreatDoor
