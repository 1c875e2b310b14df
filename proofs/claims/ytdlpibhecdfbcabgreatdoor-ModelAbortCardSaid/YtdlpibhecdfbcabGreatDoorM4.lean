/- The model: its program, its page, and the laws on them: part 4. No condition. -/
import Derived.Test.YtdlpibhecdfbcabGreatDoorM3
set_option linter.unusedSimpArgs false
set_option linter.unusedVariables false
set_option maxRecDepth 100000
namespace Silo
open Go Go.Eng
theorem sesOk_bad {S : Sta} {k : Nat} (hk : k < S.sessions.length) (h : sesAt S k = false) : sesOk S = false := by
  have : (List.range S.sessions.length).all (sesAt S) = false := by
    rw [List.all_eq_false]
    exact ⟨k, by simpa using hk, by simp [h]⟩
  rw [sesOk, this, Bool.and_false]
theorem sesOk_all {S : Sta} (h : ∀ i, i < S.sessions.length → sesAt S i = true) : sesOk S = decide (S.sessions.length ≤ 8) := by
  have : (List.range S.sessions.length).all (sesAt S) = true := by
    rw [List.all_eq_true]
    intro i hi; exact h i (by simpa using hi)
  rw [sesOk, this, Bool.and_true]
theorem tagsOk_bad {S : Sta} {k : Nat} (hk : k < S.tags.length) (h : tagAt S k = false) : tagsOk S = false := by
  have : (List.range S.tags.length).all (tagAt S) = false := by
    rw [List.all_eq_false]
    exact ⟨k, by simpa using hk, by simp [h]⟩
  rw [tagsOk, this, Bool.and_false]
theorem tagsOk_all {S : Sta} (h : ∀ i, i < S.tags.length → tagAt S i = true) : tagsOk S = decide (S.tags.length ≤ 40) := by
  have : (List.range S.tags.length).all (tagAt S) = true := by
    rw [List.all_eq_true]
    intro i hi; exact h i (by simpa using hi)
  rw [tagsOk, this, Bool.and_true]
theorem sesAt_int {S : Sta} {k : Nat} (ka : k < S.sessions.length) (hp : ((k : Int) - 1).toNat < S.sessions.length) : sesAt S k = ((decide (0 ≤ S.sessions[k].id) && decide (S.sessions[k].id < S.next)) && decide ((S.sessions[k].text.length : Int) ≤ 2000) && !(decide (0 < (k : Int)) && decide (S.sessions[k].id ≤ S.sessions[((k : Int) - 1).toNat].id))) := by
  have e : ((k : Int) - 1).toNat = k - 1 := by omega
  have e2 : decide (S.sessions[k].text.length ≤ 2000) = decide ((S.sessions[k].text.length : Int) ≤ 2000) := by rw [Bool.eq_iff_iff]; simp; omega
  have e3 : decide (k = 0) = !decide (0 < (k : Int)) := by rw [Bool.eq_iff_iff]; simp
  simp only [sesAt, List.getElem?_eq_getElem ka, List.getElem?_eq_getElem (show k - 1 < S.sessions.length by omega), Option.map_some, Option.getD_some, e, e2, e3]
  congr 1
  rw [Bool.not_and]
  congr 1
  rw [Bool.eq_iff_iff]; simp
theorem tagAt_int {S : Sta} {k : Nat} (ka : k < S.tags.length) (hp : ((k : Int) - 1).toNat < S.tags.length) : tagAt S k = (nameOk S.tags[k].name && isT S.things S.tags[k].digest true && !(decide (0 < (k : Int)) && (Op.bytesLess S.tags[k].name S.tags[((k : Int) - 1).toNat].name || (S.tags[k].name == S.tags[((k : Int) - 1).toNat].name)))) := by
  have e : ((k : Int) - 1).toNat = k - 1 := by omega
  have e3 : decide (k = 0) = !decide (0 < (k : Int)) := by rw [Bool.eq_iff_iff]; simp
  simp only [tagAt, List.getElem?_eq_getElem ka, List.getElem?_eq_getElem (show k - 1 < S.tags.length by omega), Option.map_some, Option.getD_some, e, e3]
  congr 1
  rw [Bool.not_and]
  congr 1
  rw [less_not S.tags[k - 1].name S.tags[k].name]
theorem thingsOk_rise {T : List Thg} (h : thingsOk T = true) : RiseT T := thgsMay_rise (by rw [thingsOk, Bool.and_eq_true] at h; exact h.1)
end Silo
namespace Go.Proofs.YtdlpibhecdfbcabGreatDoor
open Go Go.Eng Go.RowKit Silo TryzT
set_option maxHeartbeats 1000000 in
theorem msessions_ok {w : World} {vT vG vS : Value} {S : Sta} (h1 : Rd thgS w vT S.things) (h2 : Rd tgS w vG S.tags) (h3 : Rd sesS w vS S.sessions) : Calls Tryz.prog 49 #[.agg #[vT, vG, vS, I S.next]] w (Ret fun v' w' => Below w.heap.size w w' ∧ v' = .bool (sesOk S)) := by
 obtain ⟨c, hO, hc⟩ := OldC.start w
 have hsm := h3.small
 have x1 := h1.oneC; have x2 := h2.oneC; have x3 := h3.oneC
 replace h3 : RdC sesS c w [0] vS S.sessions := Rd.toC h3 (fun k hk => by simp [hc, hasC])
 clear hc h1 h2
 refine enter (n := 50) (res := #[.tmp 2]) Tryz.func49 rfl rfl rfl rfl <| cseq <| cg <| ve (Eff.boxC c 101 rfl) ?_
 rintro _ w1 ⟨b1, c1, rfl, m, hb1⟩
 replace hO := hO.mv m; replace h3 := h3.mv m
 refine za rfl <| cnil <| cseq <| cseq <| cg <| vq (Val.fieldAddr fld26_2 rfl) <| vq (Val.loadB scl24 rfl hb1.blk rfl) ?_
 first | refine vq (Val.rdlen sl24 (by assumption) rfl) ?_ | refine vq (Val.sllen Tryz.underlying24 rfl) ?_ | refine vq (Val.olen sl24 (by assumption) rfl) ?_ | refine vq (Val.rdlenC sl24 (by assumption) rfl) ?_
 refine zm rfl <| cnil <| cblock <| WC.loop (σ := Nat) (fun k => [(1, .pointer (some ⟨b1, 0, none⟩)), (6, vS), (7, I S.sessions.length), (8, I k)]) (fun k w' => ∃ c', OldC w c' w' ∧ RdC sesS c' w' [0] vS S.sessions ∧ BlkC c' w' 101 b1 [vT, vG, vS, I S.next] 26 ∧ k ≤ S.sessions.length ∧ ∀ i, i < k → sesAt S i = true) (fun k => S.sessions.length - k) 0 subs ⟨_, hO, h3, hb1, by omega, fun i h => absurd h (Nat.not_lt_zero _)⟩ ?_
 clear hO h3 hb1
 rintro k wl ⟨cl, hO, h3, hb1, hk, hb⟩
 refine cseq <| cg <| vq (Val.lss rfl rfl) <| cnil <| cseq <| WC.cond rfl (fun hc2 => ?_) (fun hc2 => ?_)
 ·try simp only [tstS] at hc2
  have ka : k < S.sessions.length := by omega
  have hpr : ((k : Int) - 1).toNat < S.sessions.length := by omega
  obtain ⟨hc11, _⟩ := RdC.elFlat h3 ka (by decide)
  obtain ⟨hc33, _⟩ := RdC.elFlat h3 hpr (by decide)
  have hat := sesAt_int ka hpr
  refine cskip <| cseq <| cblock <| cseq <| cg <| zm rfl ?_
  first | refine vq (Val.indexAddr sl24 (by assumption) rfl rfl rfl side side) ?_ | refine vq (Val.indexC sl24 (by assumption) rfl rfl side side) ?_ | refine vq (Val.indexO sl24 (by assumption) rfl rfl side side) ?_
  refine vq (Val.loadE agg63 rfl hc11.cel rfl) <| ve (Eff.allocC cl 104 zero63) ?_
  rintro _ w2 ⟨b4, c2, rfl, m, hb4⟩
  replace hO := hO.mv m; replace h3 := h3.mv m; replace hb1 := hb1.mv m; replace hc11 := hc11.mv m; replace hc33 := hc33.mv m
  refine za rfl <| WR.eff_ (Eff.storeNC agg63 rfl rfl hb4 rfl rfl ones) ?_
  rintro _ w3 ⟨hS, m⟩
  replace hO := hO.mv m; replace h3 := h3.mv m; replace hb1 := hb1.mv m; replace hc11 := hc11.mv m; replace hc33 := hc33.mv m
  replace hb4 := hS
  refine cnil <| cseq <| WC.regionD (Kp c2 w3 []) [0, 1, 0, 0, 0, 1, 0, 1, 0, 0, 0, 0, 0, 0, 0, 1, 0, 1, 0, 0, 0, 0, 1, 0, 0, 0, 0, 0, 1, 0, 0, 0] [0, 1, 2, 3, 4, 5, 6, 7, 8, 9, 10, 11, 12, 13, 14, 15, 16, 17, 18, 19, 20, 21, 22, 23, 24, 25, 26, 27, 28, 29, 30, 31] mixed (by kernel_rfl) ?_
  have m := Mv.drew c2 w3 []
  have hCw := Mv.drew c2 w3 []
  generalize w3.drew = w4 at m hCw ⊢
  have hb10 := hb1
  have hb40 := hb4
  have hc110 := hc11
  have hc330 := hc33
  replace hO := hO.mv m; replace h3 := h3.mv m; replace hb1 := hb1.mv m
  refine vd rfl (fun _ => Val.fieldAddr fld63_0 rfl) <| vc rfl hCw.kp (fun W hW => Val.loadB scl3 rfl (hb40.kp hW rfl).blk rfl) <| vd rfl (fun _ => Val.lss rfl rfl) <| zdm rfl rfl ?_
  apply WD.sc false 5 _ (fun w' => w4 = w')
  case hl | hi | hk | hg | hu | hv | hs | hoff | hd => rfl
  case hC => exact hCw.kp
  case hF => exact fun _ => rfl
  case hT =>
   intro hq9
   try simp only [tstS] at hq9
   simp only [List.take_succ_cons, List.take_zero]
   refine vd rfl (fun _ => Val.fieldAddr fld63_0 rfl) <| vc rfl hCw.kp (fun W hW => Val.loadB scl3 rfl (hb40.kp hW rfl).blk rfl) <| vd rfl (fun _ => Val.fieldAddr fld26_3 rfl) <| vc rfl hCw.kp (fun W hW => Val.loadB scl3 rfl (hb10.kp hW rfl).blk rfl) <| vd rfl (fun _ => Val.geq rfl rfl) ?_
   exact WD.nil ⟨rfl, Sub.drop _ 5 _ rfl rfl, rfl⟩
  rintro _ rfl
  refine zdm rfl rfl ?_
  apply WD.sc false 14 _ (fun w' => w4 = w')
  case hl | hi | hk | hg | hu | hv | hs | hoff | hd => rfl
  case hC => exact hCw.kp
  case hF => exact fun _ => rfl
  case hT =>
   intro hq25
   try simp only [tstS] at hq25
   simp only [List.take_succ_cons, List.take_zero]
   refine zdm rfl rfl <| vd rfl (fun _ => Val.gtr rfl rfl) <| zdm rfl rfl ?_
   apply WD.sc true 10 _ (fun w' => w4 = w')
   case hl | hi | hk | hg | hu | hv | hs | hoff | hd => rfl
   case hC => exact hCw.kp
   case hF => exact fun _ => rfl
   case hT =>
    intro hq24
    try simp only [tstS] at hq24
    simp only [List.take_succ_cons, List.take_zero]
    refine vd rfl (fun _ => Val.fieldAddr fld63_0 rfl) <| vc rfl hCw.kp (fun W hW => Val.loadB scl3 rfl (hb40.kp hW rfl).blk rfl) <| vd rfl (fun _ => Val.fieldAddr fld26_2 rfl) <| vc rfl hCw.kp (fun W hW => Val.loadB scl24 rfl (hb10.kp hW rfl).blk rfl) <| zdm rfl rfl <| vd rfl (fun _ => Val.subI rfl rfl side side) <| vd rfl (fun _ => Val.indexAddr sl24 h3.now rfl rfl rfl (by omega) (by omega)) <| vd rfl (fun _ => Val.fieldAddrP fld63_0 rfl) <| vc rfl hCw.kp (fun W hW => Val.loadEf scl3 rfl (hc330.kp hW rfl).cel rfl) ?_
    refine vd rfl (fun _ => Val.leq rfl rfl) ?_
    exact WD.nil ⟨rfl, Sub.drop _ 10 _ rfl rfl, rfl⟩
   rintro _ rfl
   exact WD.nil ⟨rfl, Sub.drop _ 4 _ rfl rfl, rfl⟩
  rintro _ rfl
  refine zdm rfl rfl ?_
  apply WD.sc false 4 _ (fun w' => w4 = w')
  case hl | hi | hk | hg | hu | hv | hs | hoff | hd => rfl
  case hC => exact hCw.kp
  case hF => exact fun _ => rfl
  case hT =>
   intro hq31
   try simp only [tstS] at hq31
   simp only [List.take_succ_cons, List.take_zero]
   refine vd rfl (fun _ => Val.fieldAddr fld63_1 rfl) <| vc rfl hCw.kp (fun W hW => Val.loadB scl9 rfl (hb40.kp hW rfl).blk rfl) <| vd rfl (fun _ => Val.slen Tryz.underlying9 rfl) <| vd rfl (fun _ => Val.gtr rfl rfl) ?_
   exact WD.nil ⟨rfl, Sub.drop _ 4 _ rfl rfl, rfl⟩
  rintro _ rfl
  refine WD.nil ?_
  clear hb10 hb40 hc110 hc330
  clear hCw
  refine WC.cond rfl (fun hc4 => ?_) (fun hc4 => ?_)
  ·try simp only [tstS] at hc4
   have hv : sesAt S k = false := by
     rw [hat]
     simp only [Bool.and_eq_false_iff, Bool.not_eq_false', Bool.and_eq_true, decide_eq_false_iff_not, decide_eq_true_eq]; omega
   refine cseq <| cg <| za rfl <| cnil <| WC.ret1 rfl rfl ?_
   exact ⟨hO.below, by rw [sesOk_bad ka hv]⟩
  try simp only [tstS] at hc4
  have hv : sesAt S k = true := by
    rw [hat]
    simp only [Bool.and_eq_false_iff, Bool.not_eq_true', Bool.and_eq_true, decide_eq_false_iff_not, decide_eq_true_eq] at hc4 ⊢; omega
  refine cskip <| cg <| vq (Val.addI rfl rfl side side) <| zm rfl <| cnil ?_
  exact ⟨k + 1, subs, ⟨_, hO, h3, hb1, ka, below_succ hb hv⟩, by omega⟩
 try simp only [tstS] at hc2
 refine WC.exit rfl <| cseq <| cg <| vq (Val.fieldAddr fld26_2 rfl) <| vq (Val.loadB scl24 rfl hb1.blk rfl) ?_
 first | refine vq (Val.rdlen sl24 (by assumption) rfl) ?_ | refine vq (Val.sllen Tryz.underlying24 rfl) ?_ | refine vq (Val.olen sl24 (by assumption) rfl) ?_ | refine vq (Val.rdlenC sl24 (by assumption) rfl) ?_
 refine vq (Val.leq rfl rfl) <| za rfl <| cnil <| WC.ret1 rfl rfl ?_
 exact ⟨hO.below, by rw [sesOk_all fun i hi => hb i (by omega)]; exact congrArg Value.bool (by rw [Bool.eq_iff_iff]; simp; omega)⟩
set_option maxHeartbeats 1000000 in
theorem mtags_ok {w : World} {vT vG vS : Value} {S : Sta} (h1 : Rd thgS w vT S.things) (h2 : Rd tgS w vG S.tags) (h3 : Rd sesS w vS S.sessions) (hr : RiseT S.things) : Calls Tryz.prog 51 #[.agg #[vT, vG, vS, I S.next]] w (Ret fun v' w' => Below w.heap.size w w' ∧ v' = .bool (tagsOk S)) := by
 obtain ⟨c, hO, hc⟩ := OldC.start w
 have hsm := h2.small
 have x1 := h1.oneC; have x2 := h2.oneC; have x3 := h3.oneC
 have hgx : ∀ t ∈ S.tags, t.name.length ≤ 140737488355328 := fun t ht => (h2.okFlat t ht).1
 replace h1 : RdC thgS c w [0] vT S.things := Rd.toC h1 (fun k hk => by simp [hc, hasC])
 replace h2 : RdC tgS c w [0] vG S.tags := Rd.toC h2 (fun k hk => by simp [hc, hasC])
 clear hc h3
 refine enter (n := 46) (res := #[.tmp 2]) Tryz.func51 rfl rfl rfl rfl <| cseq <| cg <| ve (Eff.boxC c 101 rfl) ?_
 rintro _ w1 ⟨b1, c1, rfl, m, hb1⟩
 replace hO := hO.mv m; replace h1 := h1.mv m; replace h2 := h2.mv m
 refine za rfl <| cnil <| cseq <| cseq <| cg <| vq (Val.fieldAddr fld26_1 rfl) <| vq (Val.loadB scl23 rfl hb1.blk rfl) ?_
 first | refine vq (Val.rdlen sl23 (by assumption) rfl) ?_ | refine vq (Val.sllen Tryz.underlying23 rfl) ?_ | refine vq (Val.olen sl23 (by assumption) rfl) ?_ | refine vq (Val.rdlenC sl23 (by assumption) rfl) ?_
 refine zm rfl <| cnil <| cblock <| WC.loop (σ := Nat) (fun k => [(1, .pointer (some ⟨b1, 0, none⟩)), (6, vG), (7, I S.tags.length), (8, I k)]) (fun k w' => ∃ c', OldC w c' w' ∧ RdC thgS c' w' [0] vT S.things ∧ RdC tgS c' w' [0] vG S.tags ∧ BlkC c' w' 101 b1 [vT, vG, vS, I S.next] 26 ∧ k ≤ S.tags.length ∧ ∀ i, i < k → tagAt S i = true) (fun k => S.tags.length - k) 0 subs ⟨_, hO, h1, h2, hb1, by omega, fun i h => absurd h (Nat.not_lt_zero _)⟩ ?_
 clear hO h1 h2 hb1
 rintro k wl ⟨cl, hO, h1, h2, hb1, hk, hb⟩
 refine cseq <| cg <| vq (Val.lss rfl rfl) <| cnil <| cseq <| WC.cond rfl (fun hc2 => ?_) (fun hc2 => ?_)
 ·try simp only [tstS] at hc2
  have ka : k < S.tags.length := by omega
  have hpr : ((k : Int) - 1).toNat < S.tags.length := by omega
  have hnx := hgx _ (List.getElem_mem ka)
  obtain ⟨hc11, _⟩ := RdC.elFlat h2 ka (by decide)
  obtain ⟨hc27, _⟩ := RdC.elFlat h2 hpr (by decide)
  have hat := tagAt_int ka hpr
  refine cskip <| cseq <| cblock <| cseq <| cg <| zm rfl <| vq (Val.indexAddr sl23 h2.now rfl rfl rfl (by omega) (by omega)) <| vq (Val.loadE agg66 rfl hc11.cel rfl) ?_
  refine ve (Eff.allocC cl 104 zero66) ?_
  rintro _ w2 ⟨b4, c2, rfl, m, hb4⟩
  replace hO := hO.mv m; replace h1 := h1.mv m; replace h2 := h2.mv m; replace hb1 := hb1.mv m; replace hc11 := hc11.mv m; replace hc27 := hc27.mv m
  refine za rfl <| WR.eff_ (Eff.storeNC agg66 rfl rfl hb4 rfl rfl ones) ?_
  rintro _ w3 ⟨hS, m⟩
  replace hO := hO.mv m; replace h1 := h1.mv m; replace h2 := h2.mv m; replace hb1 := hb1.mv m; replace hc11 := hc11.mv m; replace hc27 := hc27.mv m
  replace hb4 := hS
  refine cnil <| cseq <| WC.regionD (Kp c2 w3 []) [0, 1, 2, 0, 0, 0, 0, 0, 0, 1, 0, 1, 0, 0, 0, 0, 1, 0, 0, 0, 0, 0, 1, 0, 1, 2, 0, 0] [0, 1, 2, 3, 4, 5, 6, 7, 8, 9, 10, 11, 12, 13, 14, 15, 16, 17, 18, 19, 20, 21, 22, 23, 24, 25, 26, 27] mixed (by kernel_rfl) ?_
  have m := Mv.drew c2 w3 []
  have hCw := Mv.drew c2 w3 []
  generalize w3.drew = w4 at m hCw ⊢
  have hb10 := hb1
  have hb40 := hb4
  have hc110 := hc11
  have hc270 := hc27
  replace hO := hO.mv m; replace h1 := h1.mv m; replace h2 := h2.mv m; replace hb1 := hb1.mv m
  refine vd rfl (fun _ => Val.fieldAddr fld66_0 rfl) <| vc rfl hCw.kp (fun W hW => Val.loadB scl9 rfl (hb40.kp hW rfl).blk rfl) <| WD.eff rfl rfl rfl (Eff.pureC c2 1 (Eff.call pf76 rfl (is_ok S.tags[k].name hnx))) rfl ?_
  rintro v15 w5 ⟨c5, m, hx5, rfl⟩
  refine ⟨fun hC => hC.step hCw m rfl, ?_⟩
  replace hCw := hCw.tr m rfl
  replace hO := hO.mv m; replace h1 := h1.mv m; replace h2 := h2.mv m; replace hb1 := hb1.mv m
  refine vd rfl (fun _ => Val.not rfl) <| zdm rfl rfl ?_
  apply WD.sc false 14 _ (fun w' => w5 = w')
  case hl | hi | hk | hg | hu | hv | hs | hoff | hd => rfl
  case hC => exact hCw.kp
  case hF => exact fun _ => rfl
  case hT =>
   intro hq19
   try simp only [tstS] at hq19
   simp only [List.take_succ_cons, List.take_zero]
   refine zdm rfl rfl <| vd rfl (fun _ => Val.gtr rfl rfl) <| zdm rfl rfl ?_
   apply WD.sc true 10 _ (fun w' => w5 = w')
   case hl | hi | hk | hg | hu | hv | hs | hoff | hd => rfl
   case hC => exact hCw.kp
   case hF => exact fun _ => rfl
   case hT =>
    intro hq18
    try simp only [tstS] at hq18
    simp only [List.take_succ_cons, List.take_zero]
    refine vd rfl (fun _ => Val.fieldAddr fld66_0 rfl) <| vc rfl hCw.kp (fun W hW => Val.loadB scl9 rfl (hb40.kp hW rfl).blk rfl) <| vd rfl (fun _ => Val.fieldAddr fld26_1 rfl) <| vc rfl hCw.kp (fun W hW => Val.loadB scl23 rfl (hb10.kp hW rfl).blk rfl) <| zdm rfl rfl <| vd rfl (fun _ => Val.subI rfl rfl side side) <| vd rfl (fun _ => Val.indexAddr sl23 h2.now rfl rfl rfl (by omega) (by omega)) <| vd rfl (fun _ => Val.fieldAddrP fld66_0 rfl) <| vc rfl hCw.kp (fun W hW => Val.loadEf scl9 rfl (hc270.kp hW rfl).cel rfl) ?_
    refine vd rfl (fun _ => Val.sleq rfl rfl) ?_
    exact WD.nil ⟨rfl, Sub.drop _ 10 _ rfl rfl, rfl⟩
   rintro _ rfl
   exact WD.nil ⟨rfl, Sub.drop _ 4 _ rfl rfl, rfl⟩
  rintro _ rfl
  refine zdm rfl rfl ?_
  apply WD.sc false 6 (!isT S.things S.tags[k].digest true) (fun w' => ∃ c', Acc c5 w5 [] c' w')
  case hl | hi | hk | hg | hu | hv | hs | hoff | hd => rfl
  case hC => exact hCw.kp
  case hF => exact fun _ => ⟨_, Acc.refl _ _ _⟩
  case hT =>
   intro hq27
   try simp only [tstS] at hq27
   simp only [List.take_succ_cons, List.take_zero]
   have hKsc27 := Acc.refl c5 w5 []
   refine vd rfl (fun _ => Val.fieldAddr fld26_0 rfl) <| vc rfl hCw.kp (fun W hW => Val.loadB scl22 rfl (hb10.kp hW rfl).blk rfl) <| vd rfl (fun _ => Val.fieldAddr fld66_1 rfl) <| vc rfl hCw.kp (fun W hW => Val.loadB scl9 rfl (hb40.kp hW rfl).blk rfl) <| WD.eff rfl rfl rfl (Eff.pureC c5 1 (Eff.call pf77 rfl (mis_ok h1.now hr))) rfl ?_
   rintro v38 w6 ⟨c6, m, hx6, rfl⟩
   refine ⟨fun hC => hC.step hCw m rfl, ?_⟩
   replace hCw := hCw.tr m rfl
   replace hKsc27 := hKsc27.mv m
   refine vd rfl (fun _ => Val.not rfl) ?_
   exact WD.nil ⟨rfl, Sub.drop _ 6 _ rfl rfl, _, hKsc27⟩
  rintro w7 ⟨c7, ⟨m⟩⟩
  replace hCw := hCw.tr m rfl
  replace hO := hO.mv m; replace h1 := h1.mv m; replace h2 := h2.mv m; replace hb1 := hb1.mv m
  refine WD.nil ?_
  clear hb10 hb40 hc110 hc270
  clear hCw
  refine WC.cond rfl (fun hc4 => ?_) (fun hc4 => ?_)
  ·try simp only [tstS] at hc4
   have hv : tagAt S k = false := by
     rw [hat]
     rcases hc4 with (h | ⟨h, h'⟩) | h
     · rw [h]; rfl
     · rw [decide_eq_true h, (Bool.or_eq_true _ _).mpr h']; simp
     rw [h]; simp
   refine cseq <| cg <| za rfl <| cnil <| WC.ret1 rfl rfl ?_
   exact ⟨hO.below, by rw [tagsOk_bad ka hv]⟩
  try simp only [tstS] at hc4
  have hv : tagAt S k = true := by
    rw [hat, hc4.1.1, hc4.2, hc4.1.2]; rfl
  refine cskip <| cg <| vq (Val.addI rfl rfl side side) <| zm rfl <| cnil ?_
  exact ⟨k + 1, subs, ⟨_, hO, h1, h2, hb1, ka, below_succ hb hv⟩, by omega⟩
 try simp only [tstS] at hc2
 refine WC.exit rfl <| cseq <| cg <| vq (Val.fieldAddr fld26_1 rfl) <| vq (Val.loadB scl23 rfl hb1.blk rfl) <| vq (Val.rdlenC sl23 h2 rfl) <| vq (Val.leq rfl rfl) <| za rfl <| cnil <| WC.ret1 rfl rfl ?_
 exact ⟨hO.below, by rw [tagsOk_all fun i hi => hb i (by omega)]; exact congrArg Value.bool (by rw [Bool.eq_iff_iff]; simp; omega)⟩
theorem mmay2_ok {w : World} {vT vG vS : Value} {S : Sta} (h1 : Rd thgS w vT S.things) (h2 : Rd tgS w vG S.tags) (h3 : Rd sesS w vS S.sessions) : Calls Tryz.prog 34 #[.agg #[vT, vG, vS, I S.next]] w (Ret fun v' w' => Below w.heap.size w w' ∧ v' = .bool (staMay S)) := by
 obtain ⟨c, hO, hc⟩ := OldC.start w
 have x1 := h1.oneC; have x2 := h2.oneC; have x3 := h3.oneC
 replace h1 : RdC thgS c w [0] vT S.things := Rd.toC h1 (fun k hk => by simp [hc, hasC])
 replace h2 : RdC tgS c w [0] vG S.tags := Rd.toC h2 (fun k hk => by simp [hc, hasC])
 replace h3 : RdC sesS c w [0] vS S.sessions := Rd.toC h3 (fun k hk => by simp [hc, hasC])
 clear hc
 refine enter (n := 24) (res := #[.tmp 2]) Tryz.func34 rfl rfl rfl rfl <| cseq <| cg <| ve (Eff.boxC c 101 rfl) ?_
 rintro _ w1 ⟨b1, c1, rfl, m, hb1⟩
 replace hO := hO.mv m; replace h1 := h1.mv m; replace h2 := h2.mv m; replace h3 := h3.mv m
 refine za rfl <| cnil <| cseq <| cg <| vq (Val.fieldAddr fld26_3 rfl) <| vq (Val.loadB scl3 rfl hb1.blk rfl) <| vq (Val.geq rfl rfl) <| zm rfl ?_
 apply WR.sc true 3 _ (fun w' => w1 = w')
 case hl | hg | hu | hv | hs | hoff | hd => rfl
 case hF => exact fun _ => rfl
 case hT =>
  intro hq7
  try simp only [tstS] at hq7
  simp only [List.take_succ_cons, List.take_zero]
  refine WR.on rfl rfl <| vq (Val.fieldAddr fld26_3 rfl) <| WR.on rfl rfl <| vq (Val.loadB scl3 rfl hb1.blk rfl) <| WR.on rfl rfl <| vq (Val.leq rfl rfl) ?_
  exact WR.nil ⟨rfl, Sub.drop _ 3 _ rfl rfl, rfl⟩
 rintro _ rfl
 refine zm rfl ?_
 apply WR.sc true 2 (sesOk S) (fun w' => ∃ c', Acc c1 w1 [] c' w')
 case hl | hg | hu | hv | hs | hoff | hd => rfl
 case hF => exact fun _ => ⟨_, Acc.refl _ _ _⟩
 case hT =>
  intro hq11
  try simp only [tstS] at hq11
  simp only [List.take_succ_cons, List.take_zero]
  have hKsc11 := Acc.refl c1 w1 []
  refine WR.on rfl rfl <| vq (Val.loadBN agg26 rfl hb1.blk rfl) <| WR.on rfl rfl <| ve (Eff.pureC c1 1 (Eff.call pf49 rfl (msessions_ok h1.now h2.now h3.now))) ?_
  rintro v13 w2 ⟨c2, m, hx2, rfl⟩
  replace hKsc11 := hKsc11.mv m
  exact WR.nil ⟨rfl, Sub.drop _ 2 _ rfl rfl, _, hKsc11⟩
 rintro w3 ⟨c3, ⟨m⟩⟩
 replace hO := hO.mv m; replace h1 := h1.mv m; replace h2 := h2.mv m; replace h3 := h3.mv m; replace hb1 := hb1.mv m
 refine zm rfl ?_
 apply WR.sc true 3 (thingsOk S.things) (fun w' => ∃ c', Acc c3 w3 [] c' w')
 case hl | hg | hu | hv | hs | hoff | hd => rfl
 case hF => exact fun _ => ⟨_, Acc.refl _ _ _⟩
 case hT =>
  intro hq16
  try simp only [tstS] at hq16
  simp only [List.take_succ_cons, List.take_zero]
  have hKsc16 := Acc.refl c3 w3 []
  refine WR.on rfl rfl <| vq (Val.fieldAddr fld26_0 rfl) <| WR.on rfl rfl <| vq (Val.loadB scl22 rfl hb1.blk rfl) <| WR.on rfl rfl <| ve (Eff.pureC c3 1 (Eff.call pf50 rfl (mthings_ok h1.now))) ?_
  rintro v18 w4 ⟨c4, m, hx4, rfl⟩
  replace hKsc16 := hKsc16.mv m
  exact WR.nil ⟨rfl, Sub.drop _ 3 _ rfl rfl, _, hKsc16⟩
 rintro w5 ⟨c5, ⟨m⟩⟩
 replace hO := hO.mv m; replace h1 := h1.mv m; replace h2 := h2.mv m; replace h3 := h3.mv m; replace hb1 := hb1.mv m
 refine zm rfl ?_
 apply WR.sc true 2 (tagsOk S) (fun w' => ∃ c', Acc c5 w5 [] c' w')
 case hl | hg | hu | hv | hs | hoff | hd => rfl
 case hF => exact fun _ => ⟨_, Acc.refl _ _ _⟩
 case hT =>
  intro hq20
  try simp only [tstS] at hq20
  simp only [List.take_succ_cons, List.take_zero]
  have hr := thingsOk_rise hq20.2
  have hKsc20 := Acc.refl c5 w5 []
  refine WR.on rfl rfl <| vq (Val.loadBN agg26 rfl hb1.blk rfl) <| WR.on rfl rfl <| ve (Eff.pureC c5 1 (Eff.call pf51 rfl (mtags_ok h1.now h2.now h3.now hr))) ?_
  rintro v22 w6 ⟨c6, m, hx6, rfl⟩
  replace hKsc20 := hKsc20.mv m
  exact WR.nil ⟨rfl, Sub.drop _ 2 _ rfl rfl, _, hKsc20⟩
 rintro w7 ⟨c7, ⟨m⟩⟩
 replace hO := hO.mv m
 refine za rfl <| cnil <| WC.ret1 rfl rfl ?_
 exact ⟨hO.below, by rw [staMay]; rfl⟩
theorem mcheck2_ok {w : World} {vT vG vS : Value} {S : Sta} (h1 : Rd thgS w vT S.things) (h2 : Rd tgS w vG S.tags) (h3 : Rd sesS w vS S.sessions) : Calls Tryz.prog 30 #[.agg #[vT, vG, vS, I S.next]] w (Ret fun v' w' => Below w.heap.size w w' ∧ v' = I (if staMay S then 0 else 1)) := by
 have hK : Old w w := Old.refl w
 have x1 := h1.oneC; have x2 := h2.oneC; have x3 := h3.oneC
 refine enter (n := 6) (res := #[.tmp 2]) Tryz.func30 rfl rfl rfl rfl <| cseq <| cg <| ve (Eff.box rfl) ?_
 rintro _ w1 ⟨b1, rfl, hn1⟩
 have hk1 := hn1.below
 replace h1 := h1.up hk1; replace h2 := h2.up hk1; replace h3 := h3.up hk1; replace hK := hK.up hk1
 have hb1 := hn1.blk
 refine za rfl <| cnil <| cseq <| cseq <| cg <| vq (Val.loadBN agg26 rfl hb1 rfl) <| ve (Eff.call pf34 rfl (mmay2_ok h1 h2 h3)) ?_
 rintro v4 w2 ⟨hk2, rfl⟩
 replace hK := hK.up hk2
 refine vq (Val.not rfl) <| cnil <| WC.cond rfl (fun hc1 => ?_) (fun hc1 => ?_)
 ·try simp only [tstS] at hc1
  refine cseq <| cg <| za rfl <| cnil <| WC.ret1 rfl rfl ?_
  exact ⟨hK, by rw [show staMay S = false by simpa using hc1]; rfl⟩
 try simp only [tstS] at hc1
 refine cskip <| cseq <| cg <| za rfl <| cnil <| WC.ret1 rfl rfl ?_
 exact ⟨hK, by rw [show staMay S = true by simpa using hc1]; rfl⟩
end Go.Proofs.YtdlpibhecdfbcabGreatDoor

namespace Go.Proofs.YtdlpibhecdfbcabGreatDoor
open Go Go.Eng Go.RowKit Silo TryzT
set_option maxHeartbeats 1000000 in
theorem leads_ok {w : World} {v vR : Value} {T : List Thg} {R : List (List UInt8)} (h0 : Rd thgS w v T) (h2 : Rd strS w vR R) (hp : PlainV vR) (hr : RiseT T) (ht : ∀ t ∈ T, t.text.length ≤ 1048576) (hl : T.length ≤ 100000) (hrl : R.length ≤ 1000000) :
   Calls Tryz.prog 91 #[v, vR] w (Ret fun u w' => Below w.heap.size w w' ∧ Own w' w.heap.size 9 1 u (fromT T R).length ((fromT T R).flatMap fun x => [St x])) := by
 obtain ⟨c, hO, hc⟩ := OldC.start w
 have x1 := h0.cellsV
 have h1 : RdC thgS c w [0] v T := Rd.toC h0 (fun k hk => by simp [hc, hasC])
 replace h2 : RdC strS c w [0] vR R := Rd.toC h2 (fun k hk => by simp [hc, hasC])
 have hok := h0.okFlat
 obtain ⟨_, _, _, hlen⟩ := ordR_spec (T := T) R
 have hod : ∀ x ∈ (ordR T R).map (dgOf T), x.length ≤ 140737488355328 := fun x hx => by
   obtain ⟨i, _, rfl⟩ := List.mem_map.1 hx
   exact dgOf_ok (fun t ht => (hok t ht).1) i
 clear hc h0
 refine enter (n := 22) (res := #[.tmp 4]) Tryz.func91 rfl rfl rfl rfl <| cseq <| cg <| ve (Eff.box1C c 102 rfl ra) ?_
 rintro _ w1 ⟨b2, c1, rfl, hM1, hb2⟩
 replace hO := hO.mv hM1; replace h1 := h1.mv hM1; replace h2 := h2.mv hM1
 refine za rfl <| cnil <| cseq <| cg <| ve (Eff.allocC c1 105 zero70) ?_
 rintro _ w2 ⟨b5, c2, rfl, hM2, hb5⟩
 replace hO := hO.mv hM2; replace h1 := h1.mv hM2; replace h2 := h2.mv hM2; replace hb2 := hb2.mv hM2
 refine cnil <| cseq <| cseq <| cg <| vq (Val.loadB scl22 rfl hb2.blk rfl) <| zm rfl <| ve (Eff.pureC c2 70 (Eff.call pf124 rfl (reached_ok h1.now h2.now))) ?_
 rintro v9 w3 ⟨c3, hM3, hx3, ⟨p2, p3, rfl, hg2, hg3, hB2, hB3⟩⟩
 replace hO := hO.mv hM3; replace h1 := h1.mv hM3; replace h2 := h2.mv hM3; replace hb2 := hb2.mv hM3; replace hb5 := hb5.mv hM3
 have hp2 : BlkC _ _ 70 p2 [v] 22 := ⟨hB2, hx3 _ hg2⟩
 have hp3 : BlkC _ _ 70 p3 [vR] 70 := ⟨hB3, hx3 _ hg3⟩
 refine cnil <| cblock <| WC.rangeFunc (α := Nat) (encs := fun i => [I i]) (κ := [50, 51]) (F := [0, 70] ++ [0]) (L := ordR T R)
   (fun pre d A => OldC w d A ∧ BlkC d A 102 b2 [v] 22 ∧ (∃ xv, BlkC d A 105 b5 [xv] 70 ∧ OwnC d A 60 9 1 xv (pre.map (dgOf T)).length ((pre.map (dgOf T)).flatMap fun x => [St x])) ∧ RdC thgS d A [0] v T)
   [] (fun _ _ _ => False) [105, 60] rfl rfl pf145 (reached_iter hp2 hp3 h1 h2 hp hr ht hl hrl) rfl (fun _ => rfl) (by simp) rfl
   (fun s d A d' B ⟨g1, g2, ⟨xv, g3, g4⟩, g5⟩ m => ⟨g1.mv m rfl, g2.mv m rfl, ⟨xv, g3.mv m rfl, g4.mv m rfl⟩, g5.mv m rfl⟩) (fun p hp => by cases hp) (fun s d A d' B h _ => h.elim)
   ⟨hO, hb2, ⟨_, hb5, OwnC.nil _ _ _ _ _⟩, h1⟩ ?_ ?_ ?_ ?_
 ·clear hO h1 h2 hb2 hb5 hp2 hp3 hB2 hB3
  rintro l pre i d A ⟨hO, hb2, ⟨xv, hb5, ho⟩, h1⟩ hpre
  have him : i ∈ ordR T R := hpre.subset (by simp)
  have hil := ordR_lt i him
  have hpl := hpre.length_le
  rw [List.length_append] at hpl
  have cx := ho.cellsV; have ox := ho.oneC
  have hml : (pre.map (dgOf T)).length = pre.length := by simp
  refine cg <| za rfl <| cnil <| ⟨_, Acc.refl _ _ _, ?_⟩
  intro A2 hM2
  replace hO := hO.mv hM2; replace hb2 := hb2.mv hM2; replace hb5 := hb5.mv hM2; replace ho := ho.mv hM2; replace h1 := h1.mv hM2
  have hA := Acc.refl d A2 [105, 60]
  obtain ⟨hc14, _⟩ := RdC.elFlat h1 hil (by decide)
  refine cblock <| WC.regionD (Kp d A2 [60]) [1, 1, 0, 0, 0, 1, 2, 2, 3] [0, 1, 2, 3, 4, 5, 6, 7, 8] mixed (by kernel_rfl) ?_
  have hM4 := Mv.drew d A2 []
  have hCw := Mv.drew d A2 [60]
  generalize A2.drew = w4 at hM4 hCw ⊢
  have hb20 := hb2
  have hb50 := hb5
  have hc140 := hc14
  replace hO := hO.mv hM4; replace hb2 := hb2.mv hM4; replace hb5 := hb5.mv hM4; replace ho := ho.mv hM4; replace h1 := h1.mv hM4; replace hA := hA.mv hM4
  refine vc rfl hCw.kp (fun W hW => Val.loadB scl70 rfl (hb50.kp hW rfl).blk rfl) <| vc rfl hCw.kp (fun W hW => Val.loadB scl22 rfl (hb20.kp hW rfl).blk rfl) <| zdm rfl rfl ?_
  first | refine vd rfl (fun _ => Val.indexAddr sl22 (by assumption) rfl rfl rfl side side) ?_ | refine vd rfl (fun _ => Val.indexC sl22 (by assumption) rfl rfl side side) ?_ | refine vd rfl (fun _ => Val.indexO sl22 (by assumption) rfl rfl side side) ?_
  refine vd rfl (fun _ => Val.fieldAddrP fld60_0 rfl) <| vc rfl hCw.kp (fun W hW => Val.loadEf scl9 rfl (hc140.kp hW rfl).cel rfl) <| WD.eff rfl rfl rfl (Eff.build1C d 117 sl70 rfl rfl rfl rfl rfl) rfl ?_
  rintro _ w5 ⟨b17, c5, rfl, hM5, hb17⟩
  refine ⟨fun hC => hC.step hCw hM5 rfl, ?_⟩
  replace hCw := hCw.tr hM5 rfl
  replace hO := hO.mv hM5; replace hb2 := hb2.mv hM5; replace hb5 := hb5.mv hM5; replace ho := ho.mv hM5; replace h1 := h1.mv hM5; replace hA := hA.mv hM5
  refine WD.eff rfl rfl rfl (Eff.appendC sl70 rfl rfl ho (Src.cellsAt Tryz.underlying70 hb17.blk.cellsAt rfl ones) mxl oms) rfl ?_
  rintro v18 w6 ⟨c6, hM6, hOq⟩
  refine ⟨fun hC => hC.step hCw hM6 rfl, ?_⟩
  replace hCw := hCw.tr hM6 rfl
  clear hb17
  replace hO := hO.mv hM6; replace hb2 := hb2.mv hM6; replace hb5 := hb5.mv hM6; replace h1 := h1.mv hM6; replace hA := hA.mv hM6
  replace ho := hOq
  have cx2 := ho.cellsV; have ox2 := ho.oneC
  refine WD.wild rfl rfl rfl (Eff.storeC scl70 rfl rfl ra ra hb5 rfl) ?_
  rintro _ w7 ⟨hS, hM7⟩
  try replace hCw := hCw.tr hM7 rfl
  replace hO := hO.mv hM7; replace hb2 := hb2.mv hM7; replace ho := ho.mv hM7; replace h1 := h1.mv hM7; replace hA := hA.mv hM7
  replace hb5 := hS
  refine WD.nil ?_
  clear hb20 hb50 hc140
  clear hCw
  exact ⟨_, hA, hO, hb2, ⟨_, hb5, by rw [List.map_append, List.flatMap_append, List.length_append, List.map_singleton, dgOf_lt hil]; exact ho⟩, h1⟩
 ·clear hO h1 h2 hb2 hb5 hp2 hp3 hB2 hB3
  rintro D d B ⟨hO, hb2, ⟨xv, hb5, ho⟩, h1⟩ hD
  have hml : ((ordR T R).map (dgOf T)).length = (ordR T R).length := by simp
  refine cseq <| cg <| vq (Val.loadB scl70 rfl hb5.blk rfl) <| ve (Eff.grownO ho (Eff.call pf125 rfl (sortStrs_ok ho.own (by omega)))) ?_
  rintro v20 w8 ⟨c8, hM8, hcol, ho2⟩
  replace hO := hO.mv hM8; replace hb5 := hb5.mv hM8; replace hD := hD.mv hM8
  rw [ordR_sorted hr] at ho2
  replace ho := (⟨ho2, hcol⟩ : OwnC _ _ 60 9 1 xv _ _)
  refine cnil <| cseq <| cg <| vq (Val.loadB scl70 rfl hb5.blk rfl) <| za rfl <| cnil ?_
  obtain ⟨hTk, hMTk⟩ := hD.take
  replace hO := hO.mv hMTk; replace ho := ho.mv hMTk
  refine WC.retMR1 rfl rfl hTk (RVal.tmp rfl) ?_
  exact ⟨hO.below, ho.fromOld hO (by decide)⟩
 ·exact fun p hp => by cases hp
 exact fun _ _ _ _ h => h.elim
set_option maxHeartbeats 1000000 in
theorem pfrom_ok {w : World} {v vR : Value} {T : List Thg} {R : List (List UInt8)} (h0 : Rd thgS w v T) (h2 : Rd strS w vR R) (ht : ∀ t ∈ T, t.text.length ≤ 1048576) (hl : T.length ≤ 100000) (hrl : R.length ≤ 1000000) :
   Calls Tryz.prog 68 #[v, vR] w (Ret fun u w' => Below w.heap.size w w' ∧ Own w' w.heap.size 9 1 u (fromT T R).length ((fromT T R).flatMap fun x => [St x])) := by
 obtain ⟨c, hO, hc⟩ := OldC.start w
 have h1 : RdC thgS c w [0] v T := Rd.toC h0 (fun k hk => by simp [hc, hasC])
 have hro := h2.okFlat
 replace h2 : RdC strS c w [0] vR R := Rd.toC h2 (fun k hk => by simp [hc, hasC])
 have hok := h0.okFlat
 clear hc h0
 refine enter (n := 63) (res := #[.tmp 4]) Tryz.func68 rfl rfl rfl rfl <| cseq <| cg <| za rfl <| cnil <| cseq <| cg <| zm rfl <| vq (Val.rdlenC sl22 h1 rfl) <| ve (Eff.makeC c 50 sl125 rfl rfl side side side) ?_
 rintro v12 w1 ⟨c1, m, ho12⟩
 replace hO := hO.mv m; replace h1 := h1.mv m; replace h2 := h2.mv m
 rw [Int.toNat_natCast, bools_zero] at ho12
 refine za rfl <| cnil <| cseq <| cg <| zm rfl <| ve (Eff.pureC c1 51 (Eff.call pf97 rfl (copyStrings_ok h2.now (by omega)))) ?_
 rintro v14 w2 ⟨c2, m, hx2, ho14⟩
 replace hO := hO.mv m; replace h1 := h1.mv m; replace h2 := h2.mv m; replace ho12 := ho12.mv m
 replace ho14 := ho14.toC hx2
 refine za rfl <| cnil <| cseq <| cblock ?_
 have hT := ho14.tail
 refine WC.loop (σ := List Bool × List (List UInt8) × Value) (fun st => [(0, v), (5, v12), (6, st.2.2)]) (fun st w' => ∃ c', OldC w c' w' ∧ RdC thgS c' w' [0] v T ∧ OwnC c' w' 50 4 1 v12 T.length (st.1.flatMap fun b => [.bool b]) ∧ TailC c' w' 51 9 1 st.2.2 st.2.1.length (st.2.1.flatMap fun x => [St x]) ∧ BInv T R st.1 st.2.1 ∧ (∀ x ∈ st.2.1, x.length ≤ 140737488355328) ∧ bLeft st.1 st.2.1 ≤ R.length + 21 * T.length) (fun st => bLeft st.1 st.2.1) (List.replicate T.length false, R, v14) subs ⟨_, hO, h1, ho12, hT, BInv.start T R, hro, by simp [bLeft, List.count_replicate_self]⟩ ?_
 clear hO h1 h2 ho12 hT ho14
 rintro ⟨seen, todo, tv⟩ wl ⟨cl, hO, h1, ho12, hT, hI, hto, hbl⟩
 dsimp only at hO h1 ho12 hT hI hto hbl ⊢
 have hsl := hI.len
 obtain ⟨A5, q5, rfl, hq5, _⟩ := hT.own.formA
 have htl : todo.length ≤ R.length + 21 * T.length := by unfold bLeft at hbl; omega
 have hS := OwnC.rdFlat (n' := 1) (enc := fun b => [Value.bool b]) (ok := fun _ => True) (h0 := fun _ => rfl) (h1 := fun _ u hu => by simp at hu; subst hu; rfl) (l := seen) (by rw [hsl]; exact ho12) (by omega) (fun _ _ => trivial)
 refine cseq <| cseq <| cg <| zm rfl ?_
 first | refine vq (Val.rdlen sl70 (by assumption) rfl) ?_ | refine vq (Val.sllen Tryz.underlying70 rfl) ?_ | refine vq (Val.olen sl70 (by assumption) rfl) ?_ | refine vq (Val.rdlenC sl70 (by assumption) rfl) ?_
 refine vq (Val.gtr rfl rfl) <| cnil <| WC.cond rfl (fun hc3 => ?_) (fun hc3 => ?_)
 ·try simp only [tstS] at hc3
  obtain ⟨d, t, rfl⟩ : ∃ d t, todo = d :: t := by
    cases todo with
    | nil => simp at hc3
    | cons d t => exact ⟨d, t, rfl⟩
  have hX : RdC strS cl wl [51] _ (d :: t) := hT.rdFlat (by omega) hto
  have hlen1 : (d :: t).length = t.length + 1 := rfl
  obtain ⟨hc20, _⟩ := RdC.elFlat hX (k := 0) (by simp) (by decide)
  replace hc20 : CelC cl wl [51] (elemA (.slice A5 (d :: t).length q5) 1 0) [St d] := hc20
  refine cskip <| cblock <| cseq <| cg <| zm rfl <| zm rfl <| vq (Val.indexAddr sl70 hX.now rfl rfl rfl (by omega) (by omega)) <| vq (Val.loadE1 scl9 rfl hc20.cel) ?_
  refine ve (Eff.pureC cl 1 (Eff.call pf40 rfl (at_ok h1.now))) ?_
  rintro v22 w3 ⟨c3, m, hx3, rfl⟩
  replace hO := hO.mv m; replace h1 := h1.mv m; replace ho12 := ho12.mv m; replace hT := hT.mv m
  refine za rfl <| cnil <| cseq <| cg <| zm rfl <| vq (Val.partFrom sl70 rfl rfl (by omega) (by omega)) ?_
  replace hT := TailC.rest (enc := fun x => [St x]) hT rfl
  generalize subV (.slice A5 (d :: t).length q5) (1 : Int).toNat (d :: t).length 1 = tw at hT ⊢
  have hto2 : ∀ x ∈ t, x.length ≤ 140737488355328 := fun x hx => hto x (by simp [hx])
  have hS := OwnC.rdFlat (n' := 1) (enc := fun b => [Value.bool b]) (ok := fun _ => True) (h0 := fun _ => rfl) (h1 := fun _ u hu => by simp at hu; subst hu; rfl) (l := seen) (by rw [hsl]; exact ho12) (by omega) (fun _ _ => trivial)
  refine za rfl <| cnil <| cseq <| cg <| zm rfl <| vq (Val.geq rfl rfl) <| zm rfl ?_
  apply WR.sc true 5 _ (fun w' => w3 = w')
  case hl | hg | hu | hv | hs | hoff | hd => rfl
  case hF => exact fun _ => rfl
  case hT =>
   intro hq8
   try simp only [tstS] at hq8
   simp only [List.take_succ_cons, List.take_zero]
   obtain ⟨i0, hi0, hf, hil⟩ := at_find hq8
   have htn : (atT T d).toNat = i0 := by omega
   have hil2 : (atT T d).toNat < seen.length := by omega
   obtain ⟨hc30, _⟩ := RdC.elFlat hS hil2 (by decide)
   have hv1 : ([Value.bool seen[(atT T d).toNat]] : List Value) = [.bool (seen[(atT T d).toNat]?.getD true)] := by rw [List.getElem?_eq_getElem hil2]; rfl
   rw [hv1] at hc30
   refine WR.on rfl rfl <| zm rfl <| WR.on rfl rfl <| zm rfl <| WR.on rfl rfl <| vq (Val.indexO sl125 ho12 rfl rfl (by omega) (by omega)) ?_
   refine WR.on rfl rfl <| vq (Val.loadE1 scl4 rfl hc30.cel) <| WR.on rfl rfl <| vq (Val.not rfl) ?_
   exact WR.nil ⟨rfl, Sub.drop _ 5 _ rfl rfl, rfl⟩
  rintro _ rfl
  refine cnil <| WC.cond rfl (fun hc6 => ?_) (fun hc6 => ?_)
  ·try simp only [tstS] at hc6
   obtain ⟨hc6a, hc6b⟩ := hc6
   obtain ⟨i, hi, hf, hil⟩ := at_find hc6a
   rw [hi] at hc6b ⊢
   rw [Int.toNat_natCast] at hc6b
   have hil2 : i < seen.length := by omega
   have h0 : seen[i] = false := by rw [List.getElem?_eq_getElem hil2] at hc6b; exact hc6b
   have hbv := bLeft_visit (T := T) (d := d) (t := t) hil2 h0
   have hI2 := hI.visit hf
   obtain ⟨hc40, _⟩ := RdC.elFlat h1 hil (by decide)
   have hnl := namesT_len T[i]
   have hne := nmOf_lt (T := T) hil
   refine cseq <| cg <| zm rfl <| zm rfl <| vq (Val.indexO sl125 ho12 rfl rfl (by omega) (by omega)) ?_
   refine WR.eff_ (Eff.storeOC scl4 ho12 side rfl rfl ra ra) ?_
   rintro _ w4 ⟨hS, m⟩
   replace hO := hO.mv m; replace h1 := h1.mv m; replace hT := hT.mv m; replace hc40 := hc40.mv m
   replace ho12 := hS
   rw [Int.toNat_natCast, bools_set] at ho12
   refine cnil <| cg <| zm rfl <| zm rfl <| zm rfl ?_
   first | refine vq (Val.indexAddr sl22 (by assumption) rfl rfl rfl side side) ?_ | refine vq (Val.indexC sl22 (by assumption) rfl rfl side side) ?_ | refine vq (Val.indexO sl22 (by assumption) rfl rfl side side) ?_
   refine vq (Val.loadE agg60 rfl hc40.cel rfl) <| ve (Eff.pureC c3 52 (Eff.call pf98 rfl (named_ok T[i] (ht _ (List.getElem_mem hil))))) ?_
   rintro v42 w5 ⟨c5, m, hx5, hn⟩
   replace hO := hO.mv m; replace h1 := h1.mv m; replace ho12 := ho12.mv m; replace hT := hT.mv m
   replace hn := hn.toC hx5
   have hnr : RdS strS _ _ v42 (namesT T[i]) := hn.own.rdStrs namesT_texts (by omega)
   refine ve (Eff.appendT sl70 rfl rfl hT (Src.flat Tryz.underlying70 hnr) mxl oms) ?_
   rintro v43 w6 ⟨c6, m, hOq⟩
   replace hO := hO.mv m; replace h1 := h1.mv m; replace ho12 := ho12.mv m
   replace hT := hOq
   refine za rfl <| cnil ?_
   rw [← List.flatMap_append, ← List.length_append, ← hne] at hT
   exact ⟨(seen.set i true, t ++ nmOf T i, v43), subs, ⟨_, hO, h1, ho12, hT, hI2, fun x hx => (List.mem_append.1 hx).elim (hto2 x) (nmOf_texts x), by dsimp only; omega⟩, by dsimp only; omega⟩
  try simp only [tstS] at hc6
  have hsk : ∀ j, findT T d = some j → seen[j]? = some true := fun j hj => by
    obtain ⟨hjl, _⟩ := findT_some hj
    have hat : atT T d = j := by rw [atT, hj]
    rw [hat, decide_eq_true (Int.natCast_nonneg j), Int.toNat_natCast, Bool.true_and, List.getElem?_eq_getElem (show j < seen.length by omega)] at hc6
    rw [List.getElem?_eq_getElem (show j < seen.length by omega)]
    simpa using hc6
  have hI2 := hI.skip hsk
  have hbe : bLeft seen (d :: t) = bLeft seen t + 1 := by simp only [bLeft, List.length_cons]; omega
  refine cskip ?_
  exact ⟨(seen, t, tw), subs, ⟨_, hO, h1, ho12, hT, hI2, hto2, by dsimp only; omega⟩, by dsimp only; omega⟩
 try simp only [tstS] at hc3
 have htn : todo = [] := by
   cases todo with
   | nil => rfl
   | cons d t => simp at hc3
 subst htn
 have hd := fun (i : Nat) (hi : i < seen.length) => hI.done_get hi
 clear hI hto hbl htl hc3
 refine WC.exit rfl <| cseq <| cg <| za rfl <| cnil <| cseq <| cseq <| cg <| za rfl <| cnil <| cblock <| WC.loop (σ := Nat × Value) (fun st => [(0, v), (5, v12), (8, st.2), (9, I st.1)]) (fun st w' => ∃ c', OldC w c' w' ∧ RdC thgS c' w' [0] v T ∧ OwnC c' w' 50 4 1 v12 T.length (seen.flatMap fun b => [.bool b]) ∧ OwnC c' w' 60 9 1 st.2 (fromUpTo T R st.1).length ((fromUpTo T R st.1).flatMap fun x => [St x]) ∧ st.1 ≤ T.length) (fun st => T.length - st.1) (0, .slice none 0 0) subs ⟨_, hO, h1, ho12, OwnC.nil _ _ _ _ _, by simp⟩ ?_
 clear hO h1 ho12 hT hS
 rintro ⟨k, xv⟩ wk ⟨ck, hO, h1, ho12, ho, hk⟩
 dsimp only at hO h1 ho12 ho hk ⊢
 have hfl := fromUpTo_len T R k
 have hS := OwnC.rdFlat (n' := 1) (enc := fun b => [Value.bool b]) (ok := fun _ => True) (h0 := fun _ => rfl) (h1 := fun _ u hu => by simp at hu; subst hu; rfl) (l := seen) (by rw [hsl]; exact ho12) (by omega) (fun _ _ => trivial)
 refine cseq <| cseq <| cg <| zm rfl <| zm rfl ?_
 first | refine vq (Val.rdlen sl22 (by assumption) rfl) ?_ | refine vq (Val.sllen Tryz.underlying22 rfl) ?_ | refine vq (Val.olen sl22 (by assumption) rfl) ?_ | refine vq (Val.rdlenC sl22 (by assumption) rfl) ?_
 refine vq (Val.lss rfl rfl) <| cnil <| WC.cond rfl (fun hc11 => ?_) (fun hc11 => ?_)
 ·try simp only [tstS] at hc11
  have ka : k < T.length := by omega
  have kb : k < seen.length := by omega
  obtain ⟨hc52, _⟩ := RdC.elFlat hS kb (by decide)
  obtain ⟨hc57, _⟩ := RdC.elFlat h1 ka (by decide)
  rw [hd k kb] at hc52
  have hfs := fromUpTo_succ T R k
  rw [dgOf_lt ka] at hfs
  refine cskip <| cseq <| cblock <| cseq <| cg <| zm rfl <| zm rfl <| vq (Val.indexO sl125 ho12 rfl rfl (by omega) (by omega)) <| vq (Val.loadE1 scl4 rfl hc52.cel) ?_
  refine cnil <| WC.cond rfl (fun hc13 => ?_) (fun hc13 => ?_)
  ·try simp only [tstS] at hc13
   rw [if_pos hc13] at hfs
   refine cg <| zm rfl <| zm rfl <| zm rfl ?_
   first | refine vq (Val.indexAddr sl22 (by assumption) rfl rfl rfl side side) ?_ | refine vq (Val.indexC sl22 (by assumption) rfl rfl side side) ?_ | refine vq (Val.indexO sl22 (by assumption) rfl rfl side side) ?_
   refine vq (Val.fieldAddrP fld60_0 rfl) <| vq (Val.loadEf scl9 rfl hc57.cel rfl) <| ve (Eff.build1C ck 160 sl70 rfl rfl rfl rfl rfl) ?_
   rintro _ w7 ⟨b60, c7, rfl, m, hb60⟩
   replace hO := hO.mv m; replace h1 := h1.mv m; replace ho12 := ho12.mv m; replace ho := ho.mv m
   refine ve (Eff.appendC sl70 rfl rfl ho (Src.cellsAt Tryz.underlying70 hb60.blk.cellsAt rfl ones) mxl oms) ?_
   rintro v61 w8 ⟨c8, m, hOq⟩
   clear hb60
   replace hO := hO.mv m; replace h1 := h1.mv m; replace ho12 := ho12.mv m
   replace ho := hOq
   refine za rfl <| cnil <| cg <| zm rfl <| vq (Val.addI rfl rfl side side) <| za rfl <| cnil ?_
   first
   | exact ⟨(k + 1, xv), subs, ⟨_, hO, h1, ho12, by rw [hfs]; exact ho, ka⟩, by dsimp only; omega⟩
   | exact ⟨(k + 1, v61), subs, ⟨_, hO, h1, ho12, by rw [hfs, List.flatMap_append, List.length_append]; exact ho, ka⟩, by dsimp only; omega⟩
  try simp only [tstS] at hc13
  rw [if_neg (by rw [hc13]; decide)] at hfs
  refine cskip <| cg <| zm rfl <| vq (Val.addI rfl rfl side side) <| za rfl <| cnil ?_
  first
  | exact ⟨(k + 1, xv), subs, ⟨_, hO, h1, ho12, by rw [hfs]; exact ho, ka⟩, by dsimp only; omega⟩
  | exact ⟨(k + 1, v61), subs, ⟨_, hO, h1, ho12, by rw [hfs, List.flatMap_append, List.length_append]; exact ho, ka⟩, by dsimp only; omega⟩
 try simp only [tstS] at hc11
 have : k = T.length := by omega
 subst this
 refine WC.exit rfl <| cseq <| cg <| zm rfl <| za rfl <| cnil <| WC.ret1 rfl rfl ?_
 exact ⟨hO.below, ho.fromOld hO (by decide)⟩
end Go.Proofs.YtdlpibhecdfbcabGreatDoor

namespace Silo
open Go Go.Eng
abbrev colS : List Nat := [70, 71, 72, 73]
def repE (r : Rep) : Value := .tuple #[.agg (encRep (if r.err = 0 then r else ⟨0, [], 0⟩)).toArray, I r.err]
def SmallS (S : Sta) : Prop := (∀ t ∈ S.things, t.digest.length ≤ 140737488355328 ∧ t.text.length ≤ 1048576) ∧ (∀ t ∈ S.tags, t.name.length ≤ 140737488355328 ∧ t.digest.length ≤ 140737488355328) ∧ (∀ t ∈ S.sessions, Go.Eng.Int64 t.id ∧ t.text.length ≤ 1048576) ∧ S.things.length ≤ 200 ∧ S.tags.length ≤ 200 ∧ S.sessions.length ≤ 200 ∧ (0 ≤ S.next ∧ S.next ≤ 1073741824)
theorem lowBy_le {α : Type} (p : α → Bool) (l : List α) : lowBy p l ≤ l.length := (List.takeWhile_prefix p).length_le
theorem keepT_is {T : List Thg} {t : Thg} (h : (findT T t.digest).isSome = true) : keepT T t = some T := by rw [keepT, if_pos h]
theorem keepT_no {T : List Thg} {t : Thg} (h : (findT T t.digest).isSome = false) (hl : 60 ≤ T.length) : keepT T t = none := by rw [keepT, if_neg (by simp [h]), if_pos hl]
theorem keepT_put {T : List Thg} {t : Thg} (h : (findT T t.digest).isSome = false) (hl : ¬ 60 ≤ T.length) : keepT T t = some (T.take (lowT T t.digest) ++ t :: T.drop (lowT T t.digest)) := by rw [keepT, if_neg (by simp [h]), if_neg hl]
theorem flatMap_setAt {α : Type} {enc : α → List Value} {n : Nat} (he : ∀ x, (enc x).length = n) {l : List α} {k f : Nat} {x : α} {u : Value} (hk : k < l.length) (hf : f < n) (hx : enc x = (enc l[k]).set f u) : (l.flatMap enc).set (k * n + f) u = (l.set k x).flatMap enc := by
  have hl : l = l.take k ++ l[k] :: l.drop (k + 1) := by rw [← List.drop_eq_getElem_cons hk, List.take_append_drop]
  have hP : ((l.take k).flatMap enc).length = k * n := by rw [flatMap_len he, List.length_take, Nat.min_eq_left (by omega)]
  conv => lhs; rw [hl]
  rw [List.set_eq_take_append_cons_drop (l := l), if_pos hk, List.flatMap_append, List.flatMap_cons, List.flatMap_append, List.flatMap_cons, List.set_append_right (h := by omega), hP, Nat.add_sub_cancel_left, List.set_append_left (h := by rw [he]; exact hf), hx]
theorem _root_.Go.Eng.CelC.at_ {c : Nat → Nat} {w : World} {J : List Nat} {p : Addr} {cs : List Value} {i : Nat} {v : Value} (h : CelC c w J p cs) (hi : cs[i]? = some v) : CelC c w J (p.add i) [v] := by
 have hb : (p.add i).block = p.block := by rw [add_block]
 refine ⟨⟨fun j u hu => ?_, by rw [hb]; exact h.cel.2⟩, by rw [hb]; exact h.col⟩
 cases j with
 | zero =>
   simp at hu
   subst hu
   rw [add_zero]; exact h.cel.1 i v hi
 | succ j => simp at hu
end Silo
namespace Go.Proofs.YtdlpibhecdfbcabGreatDoor
open Go Go.Eng Go.RowKit Silo TryzT
def StaO (c : Nat → Nat) (w : World) (b : Nat) (S : Sta) : Prop := ∃ vT vG vS, BlkC c w 70 b [vT, vG, vS, I S.next] 26 ∧ OwnC c w 71 60 3 vT S.things.length (S.things.flatMap encThg) ∧ OwnC c w 72 66 2 vG S.tags.length (S.tags.flatMap encTg) ∧ OwnC c w 73 63 2 vS S.sessions.length (S.sessions.flatMap encSes)
theorem _root_.Go.Eng.OwnC.rdT {c : Nat → Nat} {w : World} {v : Value} {i : Nat} {e : TypeId} {T : List Thg} (h : OwnC c w i e 3 v T.length (T.flatMap encThg)) (hl : T.length ≤ 1048576) (hok : ∀ t ∈ T, t.digest.length ≤ 140737488355328 ∧ t.text.length ≤ 1048576) : RdC thgS c w [i] v T := h.rdFlat (by omega) fun t ht => ⟨(hok t ht).1, by have := (hok t ht).2; omega⟩
theorem _root_.Go.Eng.OwnC.rdG {c : Nat → Nat} {w : World} {v : Value} {i : Nat} {e : TypeId} {T : List Tg} (h : OwnC c w i e 2 v T.length (T.flatMap encTg)) (hl : T.length ≤ 1048576) (hok : ∀ t ∈ T, t.name.length ≤ 140737488355328 ∧ t.digest.length ≤ 140737488355328) : RdC tgS c w [i] v T := h.rdFlat (by omega) hok
theorem _root_.Go.Eng.OwnC.rdS {c : Nat → Nat} {w : World} {v : Value} {i : Nat} {e : TypeId} {T : List Ses} (h : OwnC c w i e 2 v T.length (T.flatMap encSes)) (hl : T.length ≤ 1048576) (hok : ∀ t ∈ T, Go.Eng.Int64 t.id ∧ t.text.length ≤ 1048576) : RdC sesS c w [i] v T := h.rdFlat (by omega) fun t ht => ⟨(hok t ht).1, by have := (hok t ht).2; omega⟩
set_option maxHeartbeats 1000000 in
theorem mstart_ok {c : Nat → Nat} {w : World} {b : Nat} {S : Sta} (h : StaO c w b S) (hS : SmallS S) : Calls Tryz.prog 58 #[.pointer (some ⟨b, 0, none⟩)] w (Ret fun v w' => ∃ c', Mv c w c' w' colS ∧ StaO c' w' b (doStart S).1 ∧ v = repE (doStart S).2) := by
 obtain ⟨vT, vG, vS, hb0, hoT, hoG, hoS⟩ := h
 obtain ⟨z1, z2, z3, z4, z5, z6, z7⟩ := hS
 have hJ := OldJ.start c w colS
 replace hb0 := hb0.inn (J := colS) rfl
 replace hoT := hoT.inn (J := colS) rfl
 replace hoG := hoG.inn (J := colS) rfl
 replace hoS := hoS.inn (J := colS) rfl
 generalize mask c colS = c0 at hJ hb0 hoT hoG hoS
 have q1 := hoT.oneC; have q2 := hoG.oneC; have q3 := hoS.oneC
 refine enter (n := 45) (res := #[.cell 2 51, .tmp 3]) Tryz.func58 rfl rfl rfl rfl <| cseq <| cg <| ve (Eff.allocC c0 102 zero51) ?_
 rintro _ w1 ⟨b2, c1, rfl, m, hb2⟩
 replace hJ := hJ.mv m; replace hb0 := hb0.mv m; replace hoT := hoT.mv m; replace hoG := hoG.mv m; replace hoS := hoS.mv m
 refine za rfl <| cnil <| cseq <| cseq <| cg <| zm rfl <| vq (Val.nilCheck rfl) <| vq (Val.fieldAddr fld26_2 rfl) <| vq (Val.loadB scl24 rfl hb0.blk rfl) <| vq (Val.olen sl24 hoS rfl) <| vq (Val.geq rfl rfl) <| zm rfl ?_
 apply WR.sc false 5 _ (fun w' => w1 = w')
 case hl | hg | hu | hv | hs | hoff | hd => rfl
 case hF => exact fun _ => rfl
 case hT =>
  intro hq12
  try simp only [tstS] at hq12
  simp only [List.take_succ_cons, List.take_zero]
  refine WR.on rfl rfl <| zm rfl <| WR.on rfl rfl <| vq (Val.nilCheck rfl) <| WR.on rfl rfl <| vq (Val.fieldAddr fld26_3 rfl) <| WR.on rfl rfl <| vq (Val.loadB scl3 rfl hb0.blk rfl) <| WR.on rfl rfl <| vq (Val.geq rfl rfl) ?_
  exact WR.nil ⟨rfl, Sub.drop _ 5 _ rfl rfl, rfl⟩
 rintro _ rfl
 refine cnil <| WC.cond rfl (fun hc1 => ?_) (fun hc1 => ?_)
 ·try simp only [tstS] at hc1
  refine cseq <| cg <| vq (Val.build (cells := #[.int .i64 0, .string ⟨[].toArray⟩, .int .i64 0]) rfl (by kernel_rfl)) ?_
  refine WR.eff_ (Eff.storeNC agg51 rfl rfl hb2 rfl rfl ones) ?_
  rintro _ w2 ⟨hS, m⟩
  replace hJ := hJ.mv m; replace hb0 := hb0.mv m; replace hoT := hoT.mv m; replace hoG := hoG.mv m; replace hoS := hoS.mv m
  replace hb2 := hS
  refine za rfl <| cnil <| WC.retR2 rfl (RVal.cellN agg51 rfl hb2.blk rfl) (RVal.tmp rfl) ?_
  have e : doStart S = bad S 2 := by rw [doStart, if_pos]; omega
  rw [e]
  exact ⟨_, hJ.out, ⟨vT, vG, vS, hb0.out hJ rfl, hoT.out hJ rfl, hoG.out hJ rfl, hoS.out hJ rfl⟩, rfl⟩
 try simp only [tstS] at hc1
 refine cskip <| cseq <| WC.regionD (Kp c1 w1 [73]) [0, 0, 0, 0, 1, 0, 0, 0, 1, 0, 2, 2, 0, 0, 3] [0, 1, 2, 3, 4, 5, 6, 7, 8, 9, 10, 11, 12, 13, 14] mixed (by kernel_rfl) ?_
 have m := Mv.drew c1 w1 []
 have hCw := Mv.drew c1 w1 [73]
 generalize w1.drew = w3 at m hCw ⊢
 have hb00 := hb0
 have hb20 := hb2
 replace hJ := hJ.mv m; replace hb0 := hb0.mv m; replace hoT := hoT.mv m; replace hoG := hoG.mv m; replace hoS := hoS.mv m; replace hb2 := hb2.mv m
 refine zdm rfl rfl <| zdm rfl rfl <| vd rfl (fun _ => Val.nilCheck rfl) <| vd rfl (fun _ => Val.fieldAddr fld26_2 rfl) <| vc rfl hCw.kp (fun W hW => Val.loadB scl24 rfl (hb00.kp hW rfl).blk rfl) <| zdm rfl rfl <| vd rfl (fun _ => Val.nilCheck rfl) <| vd rfl (fun _ => Val.fieldAddr fld26_3 rfl) <| vc rfl hCw.kp (fun W hW => Val.loadB scl3 rfl (hb00.kp hW rfl).blk rfl) <| vd rfl (fun _ => Val.build (cells := #[I S.next, St []]) rfl (by kernel_rfl)) ?_
 refine WD.eff rfl rfl rfl (Eff.build1C c1 128 sl24 rfl rfl rfl rfl rfl) rfl ?_
 rintro _ w4 ⟨b28, c4, rfl, m, hb28⟩
 refine ⟨fun hC => hC.step hCw m rfl, ?_⟩
 replace hCw := hCw.tr m rfl
 replace hJ := hJ.mv m; replace hb0 := hb0.mv m; replace hoT := hoT.mv m; replace hoG := hoG.mv m; replace hoS := hoS.mv m; replace hb2 := hb2.mv m
 refine WD.eff rfl rfl rfl (Eff.appendC sl24 rfl rfl hoS (Src.cellsAt Tryz.underlying24 hb28.blk.cellsAt rfl ones) mxl oms) rfl ?_
 rintro v29 w5 ⟨c5, m, hOq⟩
 refine ⟨fun hC => hC.step hCw m rfl, ?_⟩
 replace hCw := hCw.tr m rfl
 clear hb28
 replace hJ := hJ.mv m; replace hb0 := hb0.mv m; replace hoT := hoT.mv m; replace hoG := hoG.mv m; replace hb2 := hb2.mv m
 replace hoS := hOq
 have p1 := hoS.cellsV; have p2 := hoS.oneC
 refine vd rfl (fun _ => Val.nilCheck rfl) <| vd rfl (fun _ => Val.fieldAddr fld26_2 rfl) <| WD.wild rfl rfl rfl (Eff.storeC scl24 rfl rfl ra ra hb0 rfl) ?_
 rintro _ w6 ⟨hS, m⟩
 try replace hCw := hCw.tr m rfl
 replace hJ := hJ.mv m; replace hoT := hoT.mv m; replace hoG := hoG.mv m; replace hoS := hoS.mv m; replace hb2 := hb2.mv m
 replace hb0 := hS
 refine WD.nil ?_
 clear hb00 hb20
 clear hCw
 refine cseq <| cg <| zm rfl <| vq (Val.nilCheck rfl) <| vq (Val.fieldAddr fld26_3 rfl) <| vq (Val.loadB scl3 rfl hb0.blk rfl) <| vq (Val.addI rfl rfl side side) <| vq (Val.nilCheck rfl) <| vq (Val.fieldAddr fld26_3 rfl) ?_
 refine WR.eff_ (Eff.storeC scl3 rfl rfl ra ra hb0 rfl) ?_
 rintro _ w7 ⟨hS, m⟩
 replace hJ := hJ.mv m; replace hoT := hoT.mv m; replace hoG := hoG.mv m; replace hoS := hoS.mv m; replace hb2 := hb2.mv m
 replace hb0 := hS
 refine cnil <| cseq <| cg <| zm rfl <| vq (Val.nilCheck rfl) <| vq (Val.fieldAddr fld26_3 rfl) <| vq (Val.loadB scl3 rfl hb0.blk rfl) <| vq (Val.subI rfl rfl (by omega) (by omega)) ?_
 rw [show S.next + 1 - 1 = S.next by omega]
 refine vq (Val.build (cells := #[I S.next, St [], I 0]) rfl (by kernel_rfl)) ?_
 refine WR.eff_ (Eff.storeNC agg51 rfl rfl hb2 rfl rfl ones) ?_
 rintro _ w8 ⟨hS, m⟩
 replace hJ := hJ.mv m; replace hb0 := hb0.mv m; replace hoT := hoT.mv m; replace hoG := hoG.mv m; replace hoS := hoS.mv m
 replace hb2 := hS
 refine za rfl <| cnil <| WC.retR2 rfl (RVal.cellN agg51 rfl hb2.blk rfl) (RVal.tmp rfl) ?_
 have e : doStart S = ({ S with sessions := S.sessions ++ [⟨S.next, []⟩], next := S.next + 1 }, ⟨S.next, [], 0⟩) := by rw [doStart, if_neg]; omega
 rw [e]
 have eo : (S.sessions ++ [(⟨S.next, []⟩ : Ses)]).flatMap encSes = S.sessions.flatMap encSes ++ [I S.next, St []] := by rw [List.flatMap_append]; rfl
 exact ⟨_, hJ.out, ⟨vT, vG, _, hb0.out hJ rfl, hoT.out hJ rfl, hoG.out hJ rfl, by dsimp only; rw [eo, List.length_append]; exact hoS.out hJ rfl⟩, rfl⟩
set_option maxHeartbeats 1000000 in
theorem mkeep_ok {c : Nat → Nat} {w : World} {b : Nat} {vT vG vS : Value} {n : Int} {T : List Thg} {x : Thg} (hb0 : BlkC c w 70 b [vT, vG, vS, I n] 26) (hoT : OwnC c w 71 60 3 vT T.length (T.flatMap encThg)) (hr : RiseT T) (hl : T.length ≤ 200) (hok : ∀ t ∈ T, t.digest.length ≤ 140737488355328 ∧ t.text.length ≤ 1048576) : Calls Tryz.prog 81 #[.pointer (some ⟨b, 0, none⟩), .agg (encThg x).toArray] w (Ret fun v w' => ∃ c', Mv c w c' w' [70, 71] ∧ ∃ vT', v = I (if (keepT T x).isSome then 0 else 2) ∧ BlkC c' w' 70 b [vT', vG, vS, I n] 26 ∧ OwnC c' w' 71 60 3 vT' ((keepT T x).getD T).length (((keepT T x).getD T).flatMap encThg)) := by
 have hJ := OldJ.start c w [70, 71]
 replace hb0 := hb0.inn (J := [70, 71]) rfl
 replace hoT := hoT.inn (J := [70, 71]) rfl
 generalize mask c [70, 71] = c0 at hJ hb0 hoT
 have hlow := lowBy_le (fun t : Thg => Op.bytesLess t.digest x.digest) T
 refine enter (n := 37) (res := #[.tmp 4]) Tryz.func81 rfl rfl rfl rfl <| cseq <| cg <| ve (Eff.boxC c0 103 rfl) ?_
 rintro _ w1 ⟨b3, c1, rfl, m, hb3⟩
 replace hJ := hJ.mv m; replace hb0 := hb0.mv m; replace hoT := hoT.mv m
 refine za rfl <| cnil <| cseq <| WC.regionD (Kp c1 w1 []) [0, 0, 0, 1, 0, 1, 2, 0, 0, 0, 0, 0] [0, 1, 2, 3, 4, 5, 6, 7, 8, 9, 10, 11] mixed (by kernel_rfl) ?_
 have m := Mv.drew c1 w1 []
 have hCw := Mv.drew c1 w1 []
 generalize w1.drew = w2 at m hCw ⊢
 have hb00 := hb0
 have hb30 := hb3
 replace hJ := hJ.mv m; replace hb0 := hb0.mv m; replace hoT := hoT.mv m; replace hb3 := hb3.mv m
 refine zdm rfl rfl <| vd rfl (fun _ => Val.nilCheck rfl) <| vd rfl (fun _ => Val.fieldAddr fld26_0 rfl) <| vc rfl hCw.kp (fun W hW => Val.loadB scl22 rfl (hb00.kp hW rfl).blk rfl) <| vd rfl (fun _ => Val.fieldAddr fld60_0 rfl) <| vc rfl hCw.kp (fun W hW => Val.loadB scl9 rfl (hb30.kp hW rfl).blk rfl) <| WD.eff rfl rfl rfl (Eff.pureC c1 1 (Eff.call pf83 rfl (rfind_ok (hoT.rdT (by omega) hok).now hr))) rfl ?_
 rintro v14 w3 ⟨c3, m, hx3, rfl⟩
 refine ⟨fun hC => hC.step hCw m rfl, ?_⟩
 replace hCw := hCw.tr m rfl
 replace hJ := hJ.mv m; replace hb0 := hb0.mv m; replace hoT := hoT.mv m; replace hb3 := hb3.mv m
 refine zdm rfl rfl <| vd rfl (fun _ => Val.extract rfl rfl) <| vd rfl (fun _ => Val.extract rfl rfl) <| zda rfl rfl <| zda rfl rfl <| WD.nil ?_
 clear hb00 hb30
 clear hCw
 refine cseq <| cblock <| cseq <| cg <| zm rfl <| za rfl <| cnil <| WC.cond rfl (fun hc2 => ?_) (fun hc2 => ?_)
 ·try simp only [tstS] at hc2
  refine cseq <| cg <| za rfl <| cnil <| WC.ret1 rfl rfl ?_
  rw [keepT_is hc2]
  exact ⟨_, hJ.out, _, rfl, hb0.out hJ rfl, hoT.out hJ rfl⟩
 try simp only [tstS] at hc2
 refine cseq <| cg <| zm rfl <| vq (Val.nilCheck rfl) <| vq (Val.fieldAddr fld26_0 rfl) <| vq (Val.loadB scl22 rfl hb0.blk rfl) <| vq (Val.olen sl22 hoT rfl) <| vq (Val.geq rfl rfl) <| za rfl <| cnil <| WC.cond rfl (fun hc4 => ?_) (fun hc4 => ?_)
 ·try simp only [tstS] at hc4
  refine cseq <| cg <| za rfl <| cnil <| WC.ret1 rfl rfl ?_
  rw [keepT_no (by simpa using hc2) (by omega)]
  exact ⟨_, hJ.out, _, rfl, hb0.out hJ rfl, hoT.out hJ rfl⟩
 try simp only [tstS] at hc4
 refine cskip <| cseq <| WC.regionD (Kp c3 w3 [71]) [0, 0, 0, 0, 1, 0, 1, 2, 2, 0, 0, 3] [0, 1, 2, 3, 4, 5, 6, 7, 8, 9, 10, 11] mixed (by kernel_rfl) ?_
 have m := Mv.drew c3 w3 []
 have hCw := Mv.drew c3 w3 [71]
 generalize w3.drew = w4 at m hCw ⊢
 have hb00 := hb0
 have hb30 := hb3
 replace hJ := hJ.mv m; replace hb0 := hb0.mv m; replace hoT := hoT.mv m
 refine zdm rfl rfl <| zdm rfl rfl <| vd rfl (fun _ => Val.nilCheck rfl) <| vd rfl (fun _ => Val.fieldAddr fld26_0 rfl) <| vc rfl hCw.kp (fun W hW => Val.loadB scl22 rfl (hb00.kp hW rfl).blk rfl) <| zdm rfl rfl <| vc rfl hCw.kp (fun W hW => Val.loadBN agg60 rfl (hb30.kp hW rfl).blk rfl) <| WD.eff rfl rfl rfl (Eff.build1C c3 133 sl22 rfl rfl rfl rfl rfl) rfl ?_
 rintro _ w5 ⟨b33, c5, rfl, m, hb33⟩
 refine ⟨fun hC => hC.step hCw m rfl, ?_⟩
 replace hCw := hCw.tr m rfl
 replace hJ := hJ.mv m; replace hb0 := hb0.mv m; replace hoT := hoT.mv m
 refine WD.eff rfl rfl rfl (Eff.call pf114 rfl (insT_ok (k := lowT T x.digest) hoT hb33 rfl hlow (by omega))) rfl ?_
 rintro v34 w6 ⟨c6, m, hoT⟩
 refine ⟨fun hC => hC.step hCw m rfl, ?_⟩
 replace hCw := hCw.tr m rfl
 replace hJ := hJ.mv m; replace hb0 := hb0.mv m
 have p1 := hoT.cellsV; have p2 := hoT.oneC
 refine vd rfl (fun _ => Val.nilCheck rfl) <| vd rfl (fun _ => Val.fieldAddr fld26_0 rfl) <| WD.wild rfl rfl rfl (Eff.storeC scl22 rfl rfl ra ra hb0 rfl) ?_
 rintro _ w7 ⟨hS, m⟩
 try replace hCw := hCw.tr m rfl
 replace hJ := hJ.mv m; replace hoT := hoT.mv m
 replace hb0 := hS
 refine WD.nil ?_
 clear hb00 hb30
 clear hCw
 refine cseq <| cg <| za rfl <| cnil <| WC.ret1 rfl rfl ?_
 rw [keepT_put (by simpa using hc2) (by omega)]
 have hle : (T.take (lowT T x.digest) ++ x :: T.drop (lowT T x.digest)).length = T.length + 1 := by
   have hlow2 : lowT T x.digest ≤ T.length := hlow
   rw [List.length_append, List.length_cons, List.length_take, List.length_drop]; omega
 exact ⟨_, hJ.out, _, rfl, hb0.out hJ rfl, by rw [Option.getD_some, hle]; exact hoT.out hJ rfl⟩
end Go.Proofs.YtdlpibhecdfbcabGreatDoor

namespace Silo
open Go Go.Eng
def SmallO (o : MOp) : Prop := (Go.Eng.Int64 o.kind ∧ Go.Eng.Int64 o.id ∧ Go.Eng.Int64 o.n ∧ Go.Eng.Int64 o.m) ∧ o.name.length ≤ 1048576 ∧ o.digest.length ≤ 1048576 ∧ o.text.length ≤ 1048576
end Silo
namespace Go.Proofs.YtdlpibhecdfbcabGreatDoor
open Go Go.Eng Go.RowKit Silo TryzT
set_option maxHeartbeats 2000000 in
theorem mupload_ok {c : Nat → Nat} {w : World} {b : Nat} {S : Sta} {o : MOp} (h : StaO c w b S) (hS : SmallS S) (hO : SmallO o) (hrT : RiseT S.things) (hrS : RiseS S.sessions) : Calls Tryz.prog 59 #[.pointer (some ⟨b, 0, none⟩), .agg (encOp o).toArray] w (Ret fun v w' => ∃ c', Mv c w c' w' colS ∧ StaO c' w' b (doUp S o).1 ∧ v = repE (doUp S o).2) := by
 obtain ⟨vT, vG, vS, hb0, hoT, hoG, hoS⟩ := h
 obtain ⟨z1, z2, z3, z4, z5, z6, z7⟩ := hS
 obtain ⟨⟨y1, y2, y3, y4⟩, y5, y6, y7⟩ := hO
 have hJ := OldJ.start c w colS
 replace hb0 := hb0.inn (J := colS) rfl
 replace hoT := hoT.inn (J := colS) rfl
 replace hoG := hoG.inn (J := colS) rfl
 replace hoS := hoS.inn (J := colS) rfl
 generalize mask c colS = c0 at hJ hb0 hoT hoG hoS
 have q1 := hoT.oneC; have q2 := hoG.oneC; have q3 := hoS.oneC
 refine enter (n := 105) (res := #[.cell 4 51, .tmp 5]) Tryz.func59 rfl rfl rfl rfl <| cseq <| cg <| ve (Eff.boxC c0 103 rfl) ?_
 rintro _ w1 ⟨b3, c1, rfl, m, hb3⟩
 replace hJ := hJ.mv m; replace hb0 := hb0.mv m; replace hoT := hoT.mv m; replace hoG := hoG.mv m; replace hoS := hoS.mv m
 refine ve (Eff.allocC c1 104 zero51) ?_
 rintro _ w2 ⟨b4, c2, rfl, m, hb4⟩
 replace hJ := hJ.mv m; replace hb0 := hb0.mv m; replace hoT := hoT.mv m; replace hoG := hoG.mv m; replace hoS := hoS.mv m; replace hb3 := hb3.mv m
 refine za rfl <| cnil <| cseq <| WC.regionD (Kp c2 w2 []) [0, 0, 0, 1, 0, 1, 2, 0, 0, 0, 0, 0] [0, 1, 2, 3, 4, 5, 6, 7, 8, 9, 10, 11] mixed (by kernel_rfl) ?_
 have m := Mv.drew c2 w2 []
 have hCw := Mv.drew c2 w2 []
 generalize w2.drew = w3 at m hCw ⊢
 have hb00 := hb0
 have hb30 := hb3
 have hb40 := hb4
 replace hJ := hJ.mv m; replace hb0 := hb0.mv m; replace hoT := hoT.mv m; replace hoG := hoG.mv m; replace hoS := hoS.mv m; replace hb3 := hb3.mv m; replace hb4 := hb4.mv m
 refine zdm rfl rfl <| vd rfl (fun _ => Val.nilCheck rfl) <| vd rfl (fun _ => Val.fieldAddr fld26_2 rfl) <| vc rfl hCw.kp (fun W hW => Val.loadB scl24 rfl (hb00.kp hW rfl).blk rfl) <| vd rfl (fun _ => Val.fieldAddr fld33_1 rfl) <| vc rfl hCw.kp (fun W hW => Val.loadB scl3 rfl (hb30.kp hW rfl).blk rfl) <| WD.eff rfl rfl rfl (Eff.pureC c2 1 (Eff.call pf80 rfl (msession_ok (hoS.rdS (by omega) z3).now hrS))) rfl ?_
 rintro v18 w4 ⟨c4, m, hx4, rfl⟩
 refine ⟨fun hC => hC.step hCw m rfl, ?_⟩
 replace hCw := hCw.tr m rfl
 replace hJ := hJ.mv m; replace hb0 := hb0.mv m; replace hoT := hoT.mv m; replace hoG := hoG.mv m; replace hoS := hoS.mv m; replace hb3 := hb3.mv m; replace hb4 := hb4.mv m
 refine zdm rfl rfl <| vd rfl (fun _ => Val.extract rfl rfl) <| vd rfl (fun _ => Val.extract rfl rfl) <| zda rfl rfl <| zda rfl rfl <| WD.nil ?_
 clear hb00 hb30 hb40
 clear hCw
 refine cseq <| cseq <| cg <| zm rfl <| vq (Val.not rfl) <| cnil <| WC.cond rfl (fun hc2 => ?_) (fun hc2 => ?_)
 ·try simp only [tstS] at hc2
  refine cseq <| cg <| vq (Val.build (cells := #[.int .i64 0, .string ⟨[].toArray⟩, .int .i64 0]) rfl (by kernel_rfl)) ?_
  refine WR.eff_ (Eff.storeNC agg51 rfl rfl hb4 rfl rfl ones) ?_
  rintro _ w5 ⟨hS, m⟩
  replace hJ := hJ.mv m; replace hb0 := hb0.mv m; replace hoT := hoT.mv m; replace hoG := hoG.mv m; replace hoS := hoS.mv m
  replace hb4 := hS
  refine za rfl <| cnil <| WC.retR2 rfl (RVal.cellN agg51 rfl hb4.blk rfl) (RVal.tmp rfl) ?_
  have e : doUp S o = bad S 3 := by
    cases hf : findS S.sessions o.id with
    | none => rw [doUp, hf]
    | some k => rw [hf] at hc2; simp at hc2
  rw [e]
  exact ⟨_, hJ.out, ⟨vT, vG, vS, hb0.out hJ rfl, hoT.out hJ rfl, hoG.out hJ rfl, hoS.out hJ rfl⟩, rfl⟩
 try simp only [tstS] at hc2
 obtain ⟨k, hf⟩ := Option.isSome_iff_exists.1 (show (findS S.sessions o.id).isSome = true by simpa using hc2)
 have hlow : lowS S.sessions o.id = k := lowBy_find (riseS_q hrS o.id) (riseS_p o.id) hf
 obtain ⟨hk, hkq, _⟩ := List.findIdx?_eq_some_iff_getElem.1 hf
 rw [hlow]
 obtain ⟨g, cp, rfl, hncp, hm1⟩ := hoS.posForm (by omega)
 have hx : (S.sessions[k]?).getD ⟨0, []⟩ = S.sessions[k] := by rw [List.getElem?_eq_getElem hk]; rfl
 have hxt := (z3 _ (List.getElem_mem hk)).2
 obtain ⟨hc29, _⟩ := RdC.elFlat (hoS.rdS (by omega) z3) hk (by decide)
 have hc36 := hc29.at_ (i := 1) rfl
 have hc47 := hc36; have hc64 := hc36; have hc76 := hc36; have hc89 := hc36
 clear hc29
 refine cskip <| cseq <| cg <| zm rfl <| vq (Val.nilCheck rfl) <| vq (Val.fieldAddr fld26_2 rfl) <| vq (Val.loadB scl24 rfl hb0.blk rfl) <| zm rfl <| vq (Val.indexO sl24 hoS rfl rfl (by omega) (by omega)) ?_
 refine za rfl <| cnil <| cseq <| cseq <| cg <| vq (Val.fieldAddr fld33_0 rfl) <| vq (Val.loadB scl3 rfl hb3.blk rfl) <| cnil <| WC.mono (N := (fun e w' => ∃ (c' : Nat → Nat) (vT' : Value) (T' : List Thg), Sub [(4000000, .tuple #[]), (0, .pointer (some ⟨b, 0, none⟩)), (3, .pointer (some ⟨b3, 0, none⟩)), (4, .pointer (some ⟨b4, 0, none⟩)), (6, I k), (8, .pointer (some (elemA (.slice (some ⟨g, 0, none⟩) S.sessions.length cp) 2 (k : Int).toNat)))] e ∧ OldJ c w colS c' w' ∧ BlkC c' w' 70 b [vT', vG, .slice (some ⟨g, 0, none⟩) S.sessions.length cp, I S.next] 26 ∧ OwnC c' w' 71 60 3 vT' T'.length (T'.flatMap encThg) ∧ OwnC c' w' 72 66 2 vG S.tags.length (S.tags.flatMap encTg) ∧ OwnC c' w' 73 63 2 (.slice (some ⟨g, 0, none⟩) S.sessions.length cp) S.sessions.length (S.sessions.flatMap encSes) ∧ BlkC c' w' 103 b3 (encOp o) 33 ∧ BlkC c' w' 104 b4 [I 0, St [], I 0] 51 ∧ ((o.kind = 3 ∧ digestS S.sessions[k].text = o.digest ∧ keepT S.things ⟨o.digest, S.sessions[k].text, false⟩ = some T') ∨ (o.kind ≠ 2 ∧ o.kind ≠ 3 ∧ T' = S.things)))) ?_ ?_
 ·refine cblock <| cseq <| cg <| vq (Val.eql rfl rfl) <| za rfl <| cnil ?_
  refine WC.cond rfl (fun hc6 => ?_) (fun hc6 => ?_)
  ·try simp only [tstS] at hc6
   refine cseq <| cseq <| WC.regionD (Kp c4 w4 []) [0, 0, 0, 1, 0, 0, 1, 0, 0, 0] [0, 1, 2, 3, 4, 5, 6, 7, 8, 9] mixed (by kernel_rfl) ?_
   have m := Mv.drew c4 w4 []
   have hCw := Mv.drew c4 w4 []
   generalize w4.drew = w6 at m hCw ⊢
   have hb00 := hb0
   have hb30 := hb3
   have hb40 := hb4
   have hc360 := hc36
   have hc470 := hc47
   have hc640 := hc64
   have hc760 := hc76
   have hc890 := hc89
   replace hJ := hJ.mv m; replace hb0 := hb0.mv m; replace hoT := hoT.mv m; replace hoG := hoG.mv m; replace hoS := hoS.mv m; replace hb3 := hb3.mv m; replace hb4 := hb4.mv m; replace hc47 := hc47.mv m
   refine zdm rfl rfl <| vd rfl (fun _ => Val.nilCheck rfl) ?_
   first | refine vd rfl (fun _ => Val.fieldAddr fld63_1 rfl) ?_ | refine vd rfl (fun _ => Val.fieldAddrP fld63_1 rfl) ?_
   refine vc rfl hCw.kp (fun W hW => Val.loadE1 scl9 rfl (hc360.kp hW rfl).cel) <| vd rfl (fun _ => Val.slen Tryz.underlying9 rfl) <| vd rfl (fun _ => Val.fieldAddr fld33_6 rfl) <| vc rfl hCw.kp (fun W hW => Val.loadB scl9 rfl (hb30.kp hW rfl).blk rfl) <| vd rfl (fun _ => Val.slen Tryz.underlying9 rfl) <| vd rfl (fun _ => Val.addI rfl rfl side side) <| vd rfl (fun _ => Val.gtr rfl rfl) ?_
   refine WD.nil ?_
   clear hb00 hb30 hb40 hc360 hc470 hc640 hc760 hc890
   clear hCw
   refine WC.cond rfl (fun hc7 => ?_) (fun hc7 => ?_)
   ·try simp only [tstS] at hc7
    refine cseq <| cg <| vq (Val.build (cells := #[.int .i64 0, .string ⟨[].toArray⟩, .int .i64 0]) rfl (by kernel_rfl)) ?_
    refine WR.eff_ (Eff.storeNC agg51 rfl rfl hb4 rfl rfl ones) ?_
    rintro _ w7 ⟨hS, m⟩
    replace hJ := hJ.mv m; replace hb0 := hb0.mv m; replace hoT := hoT.mv m; replace hoG := hoG.mv m; replace hoS := hoS.mv m
    replace hb4 := hS
    refine za rfl <| cnil <| WC.retR2 rfl (RVal.cellN agg51 rfl hb4.blk rfl) (RVal.tmp rfl) ?_
    have e : doUp S o = bad S 2 := by rw [doUp, hf]; dsimp only; rw [hx, if_pos hc6, if_pos (by omega)]
    rw [e]
    exact ⟨_, hJ.out, ⟨vT, vG, _, hb0.out hJ rfl, hoT.out hJ rfl, hoG.out hJ rfl, hoS.out hJ rfl⟩, rfl⟩
   try simp only [tstS] at hc7
   refine cskip <| cseq <| WC.regionD (Kp c4 w6 []) [0, 0, 0, 1, 0, 1, 0, 0, 0, 3] [0, 1, 2, 3, 4, 5, 6, 7, 8, 9] mixed (by kernel_rfl) ?_
   have m := Mv.drew c4 w6 []
   have hCw := Mv.drew c4 w6 []
   generalize w6.drew = w8 at m hCw ⊢
   have hb00 := hb0
   have hb30 := hb3
   have hb40 := hb4
   have hc470 := hc47
   replace hJ := hJ.mv m; replace hb0 := hb0.mv m; replace hoT := hoT.mv m; replace hoG := hoG.mv m; replace hoS := hoS.mv m; replace hb4 := hb4.mv m; replace hc47 := hc47.mv m
   refine zdm rfl rfl <| vd rfl (fun _ => Val.nilCheck rfl) ?_
   first | refine vd rfl (fun _ => Val.fieldAddr fld63_1 rfl) ?_ | refine vd rfl (fun _ => Val.fieldAddrP fld63_1 rfl) ?_
   refine vc rfl hCw.kp (fun W hW => Val.loadE1 scl9 rfl (hc470.kp hW rfl).cel) <| vd rfl (fun _ => Val.fieldAddr fld33_6 rfl) <| vc rfl hCw.kp (fun W hW => Val.loadB scl9 rfl (hb30.kp hW rfl).blk rfl) <| vd rfl (fun _ => Val.sadd rfl rfl side) <| vd rfl (fun _ => Val.nilCheck rfl) ?_
   first | refine vd rfl (fun _ => Val.fieldAddr fld63_1 rfl) ?_ | refine vd rfl (fun _ => Val.fieldAddrP fld63_1 rfl) ?_
   have e53 : (⟨g, k * 2 + 1, none⟩ : Addr) = (elemA (.slice (some ⟨g, 0, none⟩) S.sessions.length cp) 2 (k : Int).toNat).add 1 := by simp [elemA, add_lit]
   refine WD.wild rfl rfl rfl (Eff.storeOF (j := k * 2 + 1) (x := .tmp 53) (y := .tmp 51) (u := St (S.sessions[k].text ++ o.text)) scl9 hoS rfl (by omega) (by rw [e53]; rfl) rfl rfl rfl) ?_
   rintro _ w9 ⟨c9, m, hoS2⟩
   replace hJ := hJ.mv m; replace hb0 := hb0.mv m; replace hoT := hoT.mv m; replace hoG := hoG.mv m; replace hb4 := hb4.mv m
   replace hoS := hoS2
   rw [flatMap_setAt (x := ⟨S.sessions[k].id, S.sessions[k].text ++ o.text⟩) encSes_len hk (by decide) rfl] at hoS
   clear hc47
   refine WD.nil ?_
   clear hb00 hb30 hb40 hc470
   clear hCw
   refine cseq ?_
   have hlset : (S.sessions.set k ⟨S.sessions[k].id, S.sessions[k].text ++ o.text⟩).length = S.sessions.length := List.length_set
   have hS9 := OwnC.rdFlat (n' := 2) (enc := encSes) (ok := fun _ => True) (h0 := encSes_len) (h1 := encSes_one) (l := S.sessions.set k ⟨S.sessions[k].id, S.sessions[k].text ++ o.text⟩) (by rw [hlset]; exact hoS) (by omega) (fun _ _ => trivial)
   obtain ⟨hc56, _⟩ := RdC.elFlat hS9 (k := k) (by omega) (by decide)
   rw [List.getElem_set_self] at hc56
   replace hc56 := hc56.at_ (i := 1) rfl
   refine cg <| zm rfl <| vq (Val.nilCheck rfl) ?_
   first | refine vq (Val.fieldAddr fld63_1 rfl) ?_ | refine vq (Val.fieldAddrP fld63_1 rfl) ?_
   refine vq (Val.loadE1 scl9 rfl hc56.cel) <| vq (Val.slen Tryz.underlying9 rfl) <| vq (Val.build (cells := #[I ((S.sessions[k].text ++ o.text).length : Nat), St [], I 0]) rfl (by kernel_rfl)) ?_
   refine WR.eff_ (Eff.storeNC agg51 rfl rfl hb4 rfl rfl ones) ?_
   rintro _ w9 ⟨hS, m⟩
   replace hJ := hJ.mv m; replace hb0 := hb0.mv m; replace hoT := hoT.mv m; replace hoG := hoG.mv m; replace hoS := hoS.mv m
   replace hb4 := hS
   refine za rfl <| cnil <| WC.retR2 rfl (RVal.cellN agg51 rfl hb4.blk rfl) (RVal.tmp rfl) ?_
   have e : doUp S o = ({ S with sessions := S.sessions.set k ⟨S.sessions[k].id, S.sessions[k].text ++ o.text⟩ }, ⟨((S.sessions[k].text ++ o.text).length : Nat), [], 0⟩) := by rw [doUp, hf]; dsimp only; rw [hx, if_pos hc6, if_neg (by omega)]
   rw [e]
   exact ⟨_, hJ.out, ⟨vT, vG, _, hb0.out hJ rfl, hoT.out hJ rfl, hoG.out hJ rfl, by dsimp only; rw [hlset]; exact hoS.out hJ rfl⟩, rfl⟩
  try simp only [tstS] at hc6
  refine cseq <| cg <| vq (Val.eql rfl rfl) <| za rfl <| cnil <| WC.cond rfl (fun hc11 => ?_) (fun hc11 => ?_)
  ·try simp only [tstS] at hc11
   refine cseq <| cseq <| WC.regionD (Kp c4 w4 []) [0, 0, 0, 1, 2, 0, 1, 0] [0, 1, 2, 3, 5, 6, 4, 7] mixed (by kernel_rfl) ?_
   have m := Mv.drew c4 w4 []
   have hCw := Mv.drew c4 w4 []
   generalize w4.drew = w10 at m hCw ⊢
   have hb00 := hb0
   have hb30 := hb3
   have hb40 := hb4
   have hc360 := hc36
   have hc470 := hc47
   have hc640 := hc64
   have hc760 := hc76
   have hc890 := hc89
   replace hJ := hJ.mv m; replace hb0 := hb0.mv m; replace hoT := hoT.mv m; replace hoG := hoG.mv m; replace hoS := hoS.mv m; replace hb3 := hb3.mv m; replace hb4 := hb4.mv m; replace hc36 := hc36.mv m; replace hc47 := hc47.mv m; replace hc64 := hc64.mv m; replace hc76 := hc76.mv m; replace hc89 := hc89.mv m
   refine zdm rfl rfl <| vd rfl (fun _ => Val.nilCheck rfl) ?_
   first | refine vd rfl (fun _ => Val.fieldAddr fld63_1 rfl) ?_ | refine vd rfl (fun _ => Val.fieldAddrP fld63_1 rfl) ?_
   refine vc rfl hCw.kp (fun W hW => Val.loadE1 scl9 rfl (hc640.kp hW rfl).cel) <| vd rfl (fun _ => Val.fieldAddr fld33_5 rfl) <| vc rfl hCw.kp (fun W hW => Val.loadB scl9 rfl (hb30.kp hW rfl).blk rfl) <| WD.eff rfl rfl rfl (Eff.pureC c4 1 (Eff.call pf73 rfl (of_ok S.sessions[k].text (by omega)))) rfl ?_
   rintro v66 w11 ⟨c11, m, hx11, rfl⟩
   refine ⟨fun hC => hC.step hCw m rfl, ?_⟩
   replace hCw := hCw.tr m rfl
   replace hJ := hJ.mv m; replace hb0 := hb0.mv m; replace hoT := hoT.mv m; replace hoG := hoG.mv m; replace hoS := hoS.mv m; replace hb3 := hb3.mv m; replace hb4 := hb4.mv m; replace hc36 := hc36.mv m; replace hc47 := hc47.mv m; replace hc64 := hc64.mv m; replace hc76 := hc76.mv m; replace hc89 := hc89.mv m
   refine vd rfl (fun _ => Val.sne rfl rfl) <| WD.nil ?_
   clear hb00 hb30 hb40 hc360 hc470 hc640 hc760 hc890
   clear hCw
   refine WC.cond rfl (fun hc12 => ?_) (fun hc12 => ?_)
   ·try simp only [tstS] at hc12
    refine cseq <| cg <| vq (Val.build (cells := #[.int .i64 0, .string ⟨[].toArray⟩, .int .i64 0]) rfl (by kernel_rfl)) ?_
    refine WR.eff_ (Eff.storeNC agg51 rfl rfl hb4 rfl rfl ones) ?_
    rintro _ w12 ⟨hS, m⟩
    replace hJ := hJ.mv m; replace hb0 := hb0.mv m; replace hoT := hoT.mv m; replace hoG := hoG.mv m; replace hoS := hoS.mv m
    replace hb4 := hS
    refine za rfl <| cnil <| WC.retR2 rfl (RVal.cellN agg51 rfl hb4.blk rfl) (RVal.tmp rfl) ?_
    have e : doUp S o = bad S 7 := by rw [doUp, hf]; dsimp only; rw [hx, if_neg hc6, if_pos hc11, if_neg (by intro e; rw [e] at hc12; simp at hc12)]
    rw [e]
    exact ⟨_, hJ.out, ⟨vT, vG, _, hb0.out hJ rfl, hoT.out hJ rfl, hoG.out hJ rfl, hoS.out hJ rfl⟩, rfl⟩
   try simp only [tstS] at hc12
   have hdg : digestS S.sessions[k].text = o.digest := by simpa using hc12
   refine cskip <| cseq <| WC.regionD (Kp c11 w11 [70, 71]) [0, 0, 1, 0, 0, 0, 1, 0, 2, 0] [0, 1, 2, 3, 4, 5, 6, 7, 8, 9] mixed (by kernel_rfl) ?_
   have m := Mv.drew c11 w11 []
   have hCw := Mv.drew c11 w11 [70, 71]
   generalize w11.drew = w13 at m hCw ⊢
   have hb00 := hb0
   have hb30 := hb3
   have hb40 := hb4
   have hc360 := hc36
   have hc470 := hc47
   have hc640 := hc64
   have hc760 := hc76
   have hc890 := hc89
   replace hJ := hJ.mv m; replace hb0 := hb0.mv m; replace hoT := hoT.mv m; replace hoG := hoG.mv m; replace hoS := hoS.mv m; replace hb3 := hb3.mv m; replace hb4 := hb4.mv m
   refine zdm rfl rfl <| vd rfl (fun _ => Val.fieldAddr fld33_5 rfl) <| vc rfl hCw.kp (fun W hW => Val.loadB scl9 rfl (hb30.kp hW rfl).blk rfl) <| zdm rfl rfl <| vd rfl (fun _ => Val.nilCheck rfl) ?_
   first | refine vd rfl (fun _ => Val.fieldAddr fld63_1 rfl) ?_ | refine vd rfl (fun _ => Val.fieldAddrP fld63_1 rfl) ?_
   refine vc rfl hCw.kp (fun W hW => Val.loadE1 scl9 rfl (hc760.kp hW rfl).cel) <| vd rfl (fun _ => Val.build (cells := #[St o.digest, St S.sessions[k].text, .bool false]) rfl (by kernel_rfl)) ?_
   refine WD.eff rfl rfl rfl (Eff.call pf81 rfl (mkeep_ok (x := ⟨o.digest, S.sessions[k].text, false⟩) hb0 hoT hrT (by omega) z1)) rfl ?_
   rintro v79 w14 ⟨c14, m, ⟨vT2, rfl, hb0, hoT⟩⟩
   refine ⟨fun hC => hC.step hCw m rfl, ?_⟩
   replace hCw := hCw.tr m rfl
   replace hJ := hJ.mv m; replace hoG := hoG.mv m; replace hoS := hoS.mv m; replace hb3 := hb3.mv m; replace hb4 := hb4.mv m
   refine zda rfl rfl <| WD.nil ?_
   clear hb00 hb30 hb40 hc360 hc470 hc640 hc760 hc890
   clear hCw
   refine cseq <| cg <| zm rfl <| vq (Val.neq rfl rfl) <| cnil <| WC.cond rfl (fun hc15 => ?_) (fun hc15 => ?_)
   ·try simp only [tstS] at hc15
    refine cseq <| cg <| vq (Val.build (cells := #[.int .i64 0, .string ⟨[].toArray⟩, .int .i64 0]) rfl (by kernel_rfl)) <| zm rfl ?_
    refine WR.eff_ (Eff.storeNC agg51 rfl rfl hb4 rfl rfl ones) ?_
    rintro _ w15 ⟨hS, m⟩
    replace hJ := hJ.mv m; replace hb0 := hb0.mv m; replace hoT := hoT.mv m; replace hoG := hoG.mv m; replace hoS := hoS.mv m
    replace hb4 := hS
    refine za rfl <| cnil <| WC.retR2 rfl (RVal.cellN agg51 rfl hb4.blk rfl) (RVal.tmp rfl) ?_
    cases hkT : keepT S.things ⟨o.digest, S.sessions[k].text, false⟩ with
    | some T' => rw [hkT] at hc15; simp at hc15
    | none =>
      rw [hkT] at hoT
      have e : doUp S o = bad S 2 := by rw [doUp, hf]; dsimp only; rw [hx, if_neg hc6, if_pos hc11, if_pos hdg, hkT]
      rw [e]
      exact ⟨_, hJ.out, ⟨vT2, vG, _, hb0.out hJ rfl, hoT.out hJ rfl, hoG.out hJ rfl, hoS.out hJ rfl⟩, rfl⟩
   try simp only [tstS] at hc15
   refine cskip ?_
   cases hkT : keepT S.things ⟨o.digest, S.sessions[k].text, false⟩ with
   | none => rw [hkT] at hc15; simp at hc15
   | some T' =>
     rw [hkT] at hoT
     exact ⟨_, vT2, T', subs, hJ, hb0, hoT, hoG, hoS, hb3, hb4, .inl ⟨hc11, hdg, rfl⟩⟩
  try simp only [tstS] at hc11
  refine cskip ?_
  exact ⟨_, vT, S.things, subs, hJ, hb0, hoT, hoG, hoS, hb3, hb4, .inr ⟨hc6, hc11, rfl⟩⟩
 rintro e9 w9 ⟨c9, vT', T', hsub, hJ, hb0, hoT, hoG, hoS, hb3, hb4, hcase⟩
 refine WC.sub hsub ?_
 clear hsub e9
 obtain ⟨hc29, _⟩ := RdC.elFlat (hoS.rdS (by omega) z3) hk (by decide)
 have hc89 := hc29.at_ (i := 1) rfl
 clear hc29
 refine cseq <| cg <| za rfl <| cnil <| cseq <| cseq <| cg <| vq (Val.fieldAddr fld33_0 rfl) <| vq (Val.loadB scl3 rfl hb3.blk rfl) <| vq (Val.eql rfl rfl) <| cnil <| WC.mono (N := (fun e w' => ∃ (c' : Nat → Nat), Sub [(4000000, .tuple #[]), (0, .pointer (some ⟨b, 0, none⟩)), (4, .pointer (some ⟨b4, 0, none⟩)), (6, I k), (10, I (if o.kind = 3 then (S.sessions[k].text.length : Int) else 0))] e ∧ OldJ c w colS c' w' ∧ BlkC c' w' 70 b [vT', vG, .slice (some ⟨g, 0, none⟩) S.sessions.length cp, I S.next] 26 ∧ OwnC c' w' 71 60 3 vT' T'.length (T'.flatMap encThg) ∧ OwnC c' w' 72 66 2 vG S.tags.length (S.tags.flatMap encTg) ∧ OwnC c' w' 73 63 2 (.slice (some ⟨g, 0, none⟩) S.sessions.length cp) S.sessions.length (S.sessions.flatMap encSes) ∧ BlkC c' w' 104 b4 [I 0, St [], I 0] 51)) ?_ ?_
 ·refine WC.cond rfl (fun hc18 => ?_) (fun hc18 => ?_)
  ·try simp only [tstS] at hc18
   refine cg <| zm rfl <| vq (Val.nilCheck rfl) ?_
   first | refine vq (Val.fieldAddr fld63_1 rfl) ?_ | refine vq (Val.fieldAddrP fld63_1 rfl) ?_
   refine vq (Val.loadE1 scl9 rfl hc89.cel) <| vq (Val.slen Tryz.underlying9 rfl) <| za rfl <| cnil ?_
   rw [if_pos hc18]
   exact ⟨_, subs, hJ, hb0, hoT, hoG, hoS, hb4⟩
  try simp only [tstS] at hc18
  refine cskip ?_
  rw [if_neg hc18]
  exact ⟨_, subs, hJ, hb0, hoT, hoG, hoS, hb4⟩
 rintro e8 w8 ⟨c8, hsub, hJ, hb0, hoT, hoG, hoS, hb4⟩
 refine WC.sub hsub ?_
 clear hsub e8
 have p3 := hoT.oneC
 refine cseq <| cg <| zm rfl <| zm rfl <| vq (Val.nilCheck rfl) <| vq (Val.fieldAddr fld26_2 rfl) <| vq (Val.loadB scl24 rfl hb0.blk rfl) <| zm rfl <| zm rfl <| vq (Val.addI rfl rfl side side) ?_
 refine ve (Eff.call pf82 rfl (delS_ok hoS hk (by omega))) ?_
 rintro v100 w16 ⟨c16, m, hoS⟩
 replace hJ := hJ.mv m; replace hb0 := hb0.mv m; replace hoT := hoT.mv m; replace hoG := hoG.mv m; replace hb4 := hb4.mv m
 have p1 := hoS.cellsV; have p2 := hoS.oneC
 refine vq (Val.nilCheck rfl) <| vq (Val.fieldAddr fld26_2 rfl) <| WR.eff_ (Eff.storeC scl24 rfl rfl ra ra hb0 rfl) ?_
 rintro _ w17 ⟨hS, m⟩
 replace hJ := hJ.mv m; replace hoT := hoT.mv m; replace hoG := hoG.mv m; replace hoS := hoS.mv m; replace hb4 := hb4.mv m
 replace hb0 := hS
 refine cnil <| cseq <| cg <| zm rfl <| vq (Val.build (cells := #[I (if o.kind = 3 then (S.sessions[k].text.length : Int) else 0), St [], I 0]) rfl (by kernel_rfl)) ?_
 refine WR.eff_ (Eff.storeNC agg51 rfl rfl hb4 rfl rfl ones) ?_
 rintro _ w18 ⟨hS, m⟩
 replace hJ := hJ.mv m; replace hb0 := hb0.mv m; replace hoT := hoT.mv m; replace hoG := hoG.mv m; replace hoS := hoS.mv m
 replace hb4 := hS
 refine za rfl <| cnil <| WC.retR2 rfl (RVal.cellN agg51 rfl hb4.blk rfl) (RVal.tmp rfl) ?_
 rcases hcase with ⟨k3, kd, kk⟩ | ⟨k2, k3, kk⟩
 · have e : doUp S o = ({ S with things := T', sessions := S.sessions.eraseIdx k }, ⟨(S.sessions[k].text.length : Nat), [], 0⟩) := by rw [doUp, hf]; dsimp only; rw [hx, if_neg (by omega), if_pos k3, if_pos kd, kk]
   rw [e, if_pos k3]
   exact ⟨_, hJ.out, ⟨vT', vG, _, hb0.out hJ rfl, hoT.out hJ rfl, hoG.out hJ rfl, hoS.out hJ rfl⟩, rfl⟩
 subst kk
 have e : doUp S o = ({ S with sessions := S.sessions.eraseIdx k }, ⟨0, [], 0⟩) := by rw [doUp, hf]; dsimp only; rw [hx, if_neg k2, if_neg k3]
 rw [e, if_neg k3]
 exact ⟨_, hJ.out, ⟨vT', vG, _, hb0.out hJ rfl, hoT.out hJ rfl, hoG.out hJ rfl, hoS.out hJ rfl⟩, rfl⟩
end Go.Proofs.YtdlpibhecdfbcabGreatDoor

namespace Go.Proofs.YtdlpibhecdfbcabGreatDoor
open Go Go.Eng Go.RowKit Silo TryzT
theorem askTag_ok {w : World} {x : Tg} {o : MOp} {b : Nat} (hb : Blk w b (encOp o) 33) : Calls Tryz.prog 84 #[.agg (encTg x).toArray, .pointer (some ⟨b, 0, none⟩)] w (Ret fun v w' => Below w.heap.size w w' ∧ v = .bool (x.digest == o.digest)) := by
 have hK : Old w w := Old.refl w
 refine enter (n := 9) (res := #[.tmp 3]) Tryz.func84 rfl rfl rfl rfl <| cseq <| cg <| ve (Eff.box rfl) ?_
 rintro _ w1 ⟨b2, rfl, hn2⟩
 have hk1 := hn2.below
 replace hK := hK.up hk1; replace hb := hb.up hk1
 have hb2 := hn2.blk
 refine za rfl <| cnil <| cseq <| cg <| vq (Val.fieldAddr fld66_1 rfl) <| vq (Val.loadB scl9 rfl hb2 rfl) <| vq (Val.fieldAddr fld33_5 rfl) <| vq (Val.loadB scl9 rfl hb rfl) <| vq (Val.seq_ rfl rfl) <| za rfl <| cnil <| WC.ret1 rfl rfl ?_
 exact ⟨hK, rfl⟩
set_option maxHeartbeats 2000000 in
theorem masked_ok {c : Nat → Nat} {w : World} {b : Nat} {S : Sta} {o : MOp} (h : StaO c w b S) (hS : SmallS S) (hO : SmallO o) (hrT : RiseT S.things) : Calls Tryz.prog 60 #[.pointer (some ⟨b, 0, none⟩), .agg (encOp o).toArray] w (Ret fun v w' => ∃ c', Mv c w c' w' colS ∧ StaO c' w' b (doThing S o).1 ∧ v = repE (doThing S o).2) := by
 obtain ⟨vT, vG, vS, hb0, hoT, hoG, hoS⟩ := h
 obtain ⟨z1, z2, z3, z4, z5, z6, z7⟩ := hS
 obtain ⟨⟨y1, y2, y3, y4⟩, y5, y6, y7⟩ := hO
 have hJ := OldJ.start c w colS
 replace hb0 := hb0.inn (J := colS) rfl
 replace hoT := hoT.inn (J := colS) rfl
 replace hoG := hoG.inn (J := colS) rfl
 replace hoS := hoS.inn (J := colS) rfl
 generalize mask c colS = c0 at hJ hb0 hoT hoG hoS
 have q1 := hoT.oneC; have q2 := hoG.oneC; have q3 := hoS.oneC
 refine enter (n := 107) (res := #[.cell 4 51, .tmp 5]) Tryz.func60 rfl rfl rfl rfl <| cseq <| cg <| ve (Eff.boxC c0 103 rfl) ?_
 rintro _ w1 ⟨b3, c1, rfl, hM1, hb3⟩
 replace hJ := hJ.mv hM1; replace hb0 := hb0.mv hM1; replace hoT := hoT.mv hM1; replace hoG := hoG.mv hM1; replace hoS := hoS.mv hM1
 refine ve (Eff.allocC c1 104 zero51) ?_
 rintro _ w2 ⟨b4, c2, rfl, hM2, hb4⟩
 replace hJ := hJ.mv hM2; replace hb0 := hb0.mv hM2; replace hoT := hoT.mv hM2; replace hoG := hoG.mv hM2; replace hoS := hoS.mv hM2; replace hb3 := hb3.mv hM2
 refine za rfl <| cnil <| cseq <| WC.regionD (Kp c2 w2 []) [0, 0, 0, 1, 0, 1, 2, 0, 0, 0, 0, 0] [0, 1, 2, 3, 4, 5, 6, 7, 8, 9, 10, 11] mixed (by kernel_rfl) ?_
 have hM3 := Mv.drew c2 w2 []
 have hCw := Mv.drew c2 w2 []
 generalize w2.drew = w3 at hM3 hCw ⊢
 have hb00 := hb0
 have hb30 := hb3
 have hb40 := hb4
 replace hJ := hJ.mv hM3; replace hb0 := hb0.mv hM3; replace hoT := hoT.mv hM3; replace hoG := hoG.mv hM3; replace hoS := hoS.mv hM3; replace hb3 := hb3.mv hM3; replace hb4 := hb4.mv hM3
 refine zdm rfl rfl <| vd rfl (fun _ => Val.nilCheck rfl) <| vd rfl (fun _ => Val.fieldAddr fld26_0 rfl) <| vc rfl hCw.kp (fun W hW => Val.loadB scl22 rfl (hb00.kp hW rfl).blk rfl) <| vd rfl (fun _ => Val.fieldAddr fld33_5 rfl) <| vc rfl hCw.kp (fun W hW => Val.loadB scl9 rfl (hb30.kp hW rfl).blk rfl) <| WD.eff rfl rfl rfl (Eff.pureC c2 1 (Eff.call pf83 rfl (rfind_ok (hoT.rdT (by omega) z1).now hrT))) rfl ?_
 rintro v17 w4 ⟨c4, hM4, hx4, rfl⟩
 refine ⟨fun hC => hC.step hCw hM4 rfl, ?_⟩
 replace hCw := hCw.tr hM4 rfl
 replace hJ := hJ.mv hM4; replace hb0 := hb0.mv hM4; replace hoT := hoT.mv hM4; replace hoG := hoG.mv hM4; replace hoS := hoS.mv hM4; replace hb3 := hb3.mv hM4; replace hb4 := hb4.mv hM4
 refine zdm rfl rfl <| vd rfl (fun _ => Val.extract rfl rfl) <| vd rfl (fun _ => Val.extract rfl rfl) <| zda rfl rfl <| zda rfl rfl <| WD.nil ?_
 clear hb00 hb30 hb40
 clear hCw
 refine cseq <| cseq <| cg <| zm rfl <| vq (Val.not rfl) <| cnil <| WC.cond rfl (fun hc2 => ?_) (fun hc2 => ?_)
 ·try simp only [tstS] at hc2
  refine cseq <| cg <| vq (Val.build (cells := #[.int .i64 0, .string ⟨[].toArray⟩, .int .i64 0]) rfl (by kernel_rfl)) ?_
  refine WR.eff_ (Eff.storeNC agg51 rfl rfl hb4 rfl rfl ones) ?_
  rintro _ w5 ⟨hS, hM5⟩
  replace hJ := hJ.mv hM5; replace hb0 := hb0.mv hM5; replace hoT := hoT.mv hM5; replace hoG := hoG.mv hM5; replace hoS := hoS.mv hM5
  replace hb4 := hS
  refine za rfl <| cnil <| WC.retR2 rfl (RVal.cellN agg51 rfl hb4.blk rfl) (RVal.tmp rfl) ?_
  have e : doThing S o = bad S 3 := by
    cases hf : findT S.things o.digest with
    | none => rw [doThing, hf]
    | some k => rw [hf] at hc2; simp at hc2
  rw [e]
  exact ⟨_, hJ.out, ⟨vT, vG, vS, hb0.out hJ rfl, hoT.out hJ rfl, hoG.out hJ rfl, hoS.out hJ rfl⟩, rfl⟩
 try simp only [tstS] at hc2
 obtain ⟨k, hf⟩ := Option.isSome_iff_exists.1 (show (findT S.things o.digest).isSome = true by simpa using hc2)
 have hlow := lowT_find hrT hf
 obtain ⟨hk, hkd⟩ := findT_some hf
 rw [hlow]
 have hx : ((S.things[k]?).map Thg.text).getD [] = S.things[k].text := by rw [List.getElem?_eq_getElem hk]; rfl
 have hxt := (z1 _ (List.getElem_mem hk)).2
 obtain ⟨hc28, _⟩ := RdC.elFlat (hoT.rdT (by omega) z1) hk (by decide)
 have hc29 := hc28.at_ (i := 1) rfl
 clear hc28
 refine cskip <| cseq <| cg <| zm rfl <| vq (Val.nilCheck rfl) <| vq (Val.fieldAddr fld26_0 rfl) <| vq (Val.loadB scl22 rfl hb0.blk rfl) <| zm rfl <| vq (Val.indexO sl22 hoT rfl rfl (by omega) (by omega)) ?_
 first | refine vq (Val.fieldAddr fld60_1 rfl) ?_ | refine vq (Val.fieldAddrP fld60_1 rfl) ?_
 refine vq (Val.loadE1 scl9 rfl hc29.cel) <| za rfl ?_
 clear hc29
 generalize htx : S.things[k].text = t at hx hxt ⊢
 refine cnil <| cseq <| cseq <| cg <| vq (Val.fieldAddr fld33_0 rfl) <| vq (Val.loadB scl3 rfl hb3.blk rfl) <| cnil <| cblock <| cseq <| cg <| vq (Val.eql rfl rfl) <| za rfl <| cnil <| WC.cond rfl (fun hc6 => ?_) (fun hc6 => ?_)
 ·try simp only [tstS] at hc6
  refine cseq <| cg <| zm rfl <| vq (Val.build (cells := #[I 0, St t, I 0]) rfl (by kernel_rfl)) ?_
  refine WR.eff_ (Eff.storeNC agg51 rfl rfl hb4 rfl rfl ones) ?_
  rintro _ w6 ⟨hS, hM6⟩
  replace hJ := hJ.mv hM6; replace hb0 := hb0.mv hM6; replace hoT := hoT.mv hM6; replace hoG := hoG.mv hM6; replace hoS := hoS.mv hM6
  replace hb4 := hS
  refine za rfl <| cnil <| WC.retR2 rfl (RVal.cellN agg51 rfl hb4.blk rfl) (RVal.tmp rfl) ?_
  have e : doThing S o = (S, ⟨0, t, 0⟩) := by rw [doThing, hf]; dsimp only; rw [hx, if_pos hc6]
  rw [e]
  exact ⟨_, hJ.out, ⟨vT, vG, vS, hb0.out hJ rfl, hoT.out hJ rfl, hoG.out hJ rfl, hoS.out hJ rfl⟩, rfl⟩
 try simp only [tstS] at hc6
 refine cseq <| cg <| vq (Val.eql rfl rfl) <| za rfl <| cnil <| WC.cond rfl (fun hc8 => ?_) (fun hc8 => ?_)
 ·try simp only [tstS] at hc8
  refine cseq <| cg <| zm rfl <| vq (Val.slen Tryz.underlying9 rfl) <| vq (Val.build (cells := #[I (t.length : Nat), St [], I 0]) rfl (by kernel_rfl)) ?_
  refine WR.eff_ (Eff.storeNC agg51 rfl rfl hb4 rfl rfl ones) ?_
  rintro _ w7 ⟨hS, hM7⟩
  replace hJ := hJ.mv hM7; replace hb0 := hb0.mv hM7; replace hoT := hoT.mv hM7; replace hoG := hoG.mv hM7; replace hoS := hoS.mv hM7
  replace hb4 := hS
  refine za rfl <| cnil <| WC.retR2 rfl (RVal.cellN agg51 rfl hb4.blk rfl) (RVal.tmp rfl) ?_
  have e : doThing S o = (S, ⟨(t.length : Nat), [], 0⟩) := by rw [doThing, hf]; dsimp only; rw [hx, if_neg hc6, if_pos hc8]
  rw [e]
  exact ⟨_, hJ.out, ⟨vT, vG, vS, hb0.out hJ rfl, hoT.out hJ rfl, hoG.out hJ rfl, hoS.out hJ rfl⟩, rfl⟩
 try simp only [tstS] at hc8
 refine cseq <| cg <| vq (Val.eql rfl rfl) <| za rfl <| cnil <| WC.cond rfl (fun hc10 => ?_) (fun hc10 => ?_)
 ·try simp only [tstS] at hc10
  refine cseq <| cseq <| cg <| vq (Val.fieldAddr fld33_2 rfl) <| vq (Val.loadB scl3 rfl hb3.blk rfl) <| vq (Val.lss rfl rfl) <| zm rfl ?_
  apply WR.sc false 5 _ (fun w' => w4 = w')
  case hl | hg | hu | hv | hs | hoff | hd => rfl
  case hF => exact fun _ => rfl
  case hT =>
   intro hq9
   try simp only [tstS] at hq9
   simp only [List.take_succ_cons, List.take_zero]
   refine WR.on rfl rfl <| vq (Val.fieldAddr fld33_2 rfl) <| WR.on rfl rfl <| vq (Val.loadB scl3 rfl hb3.blk rfl) <| WR.on rfl rfl <| zm rfl <| WR.on rfl rfl <| vq (Val.slen Tryz.underlying9 rfl) <| WR.on rfl rfl <| vq (Val.gtr rfl rfl) ?_
   exact WR.nil ⟨rfl, Sub.drop _ 5 _ rfl rfl, rfl⟩
  rintro _ rfl
  refine zm rfl ?_
  apply WR.sc false 3 _ (fun w' => w4 = w')
  case hl | hg | hu | hv | hs | hoff | hd => rfl
  case hF => exact fun _ => rfl
  case hT =>
   intro hq14
   try simp only [tstS] at hq14
   simp only [List.take_succ_cons, List.take_zero]
   refine WR.on rfl rfl <| vq (Val.fieldAddr fld33_3 rfl) <| WR.on rfl rfl <| vq (Val.loadB scl3 rfl hb3.blk rfl) <| WR.on rfl rfl <| vq (Val.lss rfl rfl) ?_
   exact WR.nil ⟨rfl, Sub.drop _ 3 _ rfl rfl, rfl⟩
  rintro _ rfl
  refine cnil <| WC.cond rfl (fun hc11 => ?_) (fun hc11 => ?_)
  ·try simp only [tstS] at hc11
   refine cseq <| cg <| vq (Val.build (cells := #[.int .i64 0, .string ⟨[].toArray⟩, .int .i64 0]) rfl (by kernel_rfl)) ?_
   refine WR.eff_ (Eff.storeNC agg51 rfl rfl hb4 rfl rfl ones) ?_
   rintro _ w8 ⟨hS, hM8⟩
   replace hJ := hJ.mv hM8; replace hb0 := hb0.mv hM8; replace hoT := hoT.mv hM8; replace hoG := hoG.mv hM8; replace hoS := hoS.mv hM8
   replace hb4 := hS
   refine za rfl <| cnil <| WC.retR2 rfl (RVal.cellN agg51 rfl hb4.blk rfl) (RVal.tmp rfl) ?_
   have e : doThing S o = bad S 1 := by rw [doThing, hf]; dsimp only; rw [hx, if_neg hc6, if_neg hc8, if_pos hc10, if_pos (by omega)]
   rw [e]
   exact ⟨_, hJ.out, ⟨vT, vG, vS, hb0.out hJ rfl, hoT.out hJ rfl, hoG.out hJ rfl, hoS.out hJ rfl⟩, rfl⟩
  try simp only [tstS] at hc11
  refine cskip <| cseq ?_
  obtain ⟨mm, hmm⟩ : ∃ mm : Int, mm = min o.m ((t.length : Int) - o.n) := ⟨_, rfl⟩
  refine cg <| zm rfl <| vq (Val.fieldAddr fld33_2 rfl) <| vq (Val.loadB scl3 rfl hb3.blk rfl) <| vq (Val.fieldAddr fld33_2 rfl) <| vq (Val.loadB scl3 rfl hb3.blk rfl) <| vq (Val.fieldAddr fld33_3 rfl) <| vq (Val.loadB scl3 rfl hb3.blk rfl) <| zm rfl <| vq (Val.slen Tryz.underlying9 rfl) <| vq (Val.fieldAddr fld33_2 rfl) <| vq (Val.loadB scl3 rfl hb3.blk rfl) <| vq (Val.subI rfl rfl side side) <| vq (Val.minI rfl rfl) ?_
  rw [← hmm]
  refine vq (Val.addI rfl rfl side side) <| vq (Val.sslice Tryz.underlying9 rfl rfl rfl (by omega) (by omega) (by omega)) ?_
  rw [show (o.n + mm).toNat - o.n.toNat = mm.toNat by omega]
  refine vq (Val.build (cells := #[I 0, St ((t.drop o.n.toNat).take mm.toNat), I 0]) rfl (by kernel_rfl)) ?_
  refine WR.eff_ (Eff.storeNC agg51 rfl rfl hb4 rfl rfl ones) ?_
  rintro _ w9 ⟨hS, hM9⟩
  replace hJ := hJ.mv hM9; replace hb0 := hb0.mv hM9; replace hoT := hoT.mv hM9; replace hoG := hoG.mv hM9; replace hoS := hoS.mv hM9
  replace hb4 := hS
  refine za rfl <| cnil <| WC.retR2 rfl (RVal.cellN agg51 rfl hb4.blk rfl) (RVal.tmp rfl) ?_
  have e : doThing S o = (S, ⟨0, (t.drop o.n.toNat).take mm.toNat, 0⟩) := by rw [doThing, hf]; dsimp only; rw [hx, if_neg hc6, if_neg hc8, if_pos hc10, if_neg (by omega), ← hmm]
  rw [e]
  exact ⟨_, hJ.out, ⟨vT, vG, vS, hb0.out hJ rfl, hoT.out hJ rfl, hoG.out hJ rfl, hoS.out hJ rfl⟩, rfl⟩
 try simp only [tstS] at hc10
 refine cskip <| cseq <| cg <| vq (Val.makeFunc rfl) <| za rfl <| cnil <| cseq <| cseq ?_
 have hz1 := fun t ht => (z1 t ht).2
 refine WC.regionD (Kp c4 w4 []) [0, 0, 0, 1, 0, 2, 0, 0, 0, 0, 1, 0, 1, 2, 0, 0, 0] [0, 1, 2, 3, 4, 5, 6, 7, 8, 9, 10, 11, 12, 13, 14, 15, 16] mixed (by kernel_rfl) ?_
 have hM10 := Mv.drew c4 w4 []
 have hCw := Mv.drew c4 w4 []
 generalize w4.drew = w10 at hM10 hCw ⊢
 have hb00 := hb0
 have hb30 := hb3
 have hb40 := hb4
 replace hJ := hJ.mv hM10; replace hb0 := hb0.mv hM10; replace hoT := hoT.mv hM10; replace hoG := hoG.mv hM10; replace hoS := hoS.mv hM10; replace hb3 := hb3.mv hM10; replace hb4 := hb4.mv hM10
 refine zdm rfl rfl <| vd rfl (fun _ => Val.nilCheck rfl) <| vd rfl (fun _ => Val.fieldAddr fld26_1 rfl) <| vc rfl hCw.kp (fun W hW => Val.loadB scl23 rfl (hb00.kp hW rfl).blk rfl) <| zdm rfl rfl ?_
 have hqn := fun (w' : World) (x : Tg) (hk : Below _ _ w') => askTag_ok (x := x) (hb3.blk.up hk)
 refine WD.eff rfl rfl rfl (Eff.pureC c4 1 (Eff.call pf85 rfl (conTag_ok (hoG.rdG (by omega) z2).now pf84 hqn))) rfl ?_
 rintro v82 w11 ⟨c11, hM11, hx11, rfl⟩
 refine ⟨fun hC => hC.step hCw hM11 rfl, ?_⟩
 replace hCw := hCw.tr hM11 rfl
 replace hJ := hJ.mv hM11; replace hb0 := hb0.mv hM11; replace hoT := hoT.mv hM11; replace hoG := hoG.mv hM11; replace hoS := hoS.mv hM11; replace hb4 := hb4.mv hM11
 refine zdm rfl rfl ?_
 apply WD.sc false 9 (decide (0 < ((usersT S.things o.digest).length : Int))) (fun w' => ∃ c', Acc c11 w11 [] c' w')
 case hl | hi | hk | hg | hu | hv | hs | hoff | hd => rfl
 case hC => exact hCw.kp
 case hF => exact fun _ => ⟨_, Acc.refl _ _ _⟩
 case hT =>
  intro hq16
  try simp only [tstS] at hq16
  simp only [List.take_succ_cons, List.take_zero]
  have hKsc16 := Acc.refl c11 w11 []
  refine zdm rfl rfl <| vd rfl (fun _ => Val.nilCheck rfl) <| vd rfl (fun _ => Val.fieldAddr fld26_0 rfl) <| vc rfl hCw.kp (fun W hW => Val.loadB scl22 rfl (hb00.kp hW rfl).blk rfl) <| vd rfl (fun _ => Val.fieldAddr fld33_5 rfl) <| vc rfl hCw.kp (fun W hW => Val.loadB scl9 rfl (hb30.kp hW rfl).blk rfl) <| WD.eff rfl rfl rfl (Eff.pureC c11 60 (Eff.call pf86 rfl (using_ok (hoT.rdT (by omega) z1).now hz1 (by omega)))) rfl ?_
  rintro v90 w12 ⟨c12, hM12, hx12, hu⟩
  refine ⟨fun hC => hC.step hCw hM12 rfl, ?_⟩
  replace hCw := hCw.tr hM12 rfl
  replace hKsc16 := hKsc16.mv hM12
  replace hu := hu.toC hx12
  refine vd rfl (fun _ => Val.olen sl70 hu rfl) <| vd rfl (fun _ => Val.gtr rfl rfl) ?_
  exact WD.nil ⟨rfl, Sub.drop _ 9 _ rfl rfl, _, hKsc16⟩
 rintro w13 ⟨c13, ⟨hM13⟩⟩
 replace hCw := hCw.tr hM13 rfl
 replace hJ := hJ.mv hM13; replace hb0 := hb0.mv hM13; replace hoT := hoT.mv hM13; replace hoG := hoG.mv hM13; replace hoS := hoS.mv hM13; replace hb4 := hb4.mv hM13
 refine WD.nil ?_
 clear hb00 hb30 hb40
 clear hCw
 refine WC.cond rfl (fun hc15 => ?_) (fun hc15 => ?_)
 ·try simp only [tstS] at hc15
  refine cseq <| cg <| vq (Val.build (cells := #[.int .i64 0, .string ⟨[].toArray⟩, .int .i64 0]) rfl (by kernel_rfl)) ?_
  refine WR.eff_ (Eff.storeNC agg51 rfl rfl hb4 rfl rfl ones) ?_
  rintro _ w14 ⟨hS, hM14⟩
  replace hJ := hJ.mv hM14; replace hb0 := hb0.mv hM14; replace hoT := hoT.mv hM14; replace hoG := hoG.mv hM14; replace hoS := hoS.mv hM14
  replace hb4 := hS
  refine za rfl <| cnil <| WC.retR2 rfl (RVal.cellN agg51 rfl hb4.blk rfl) (RVal.tmp rfl) ?_
  have e : doThing S o = bad S 11 := by
    rw [doThing, hf]; dsimp only
    rw [if_neg hc6, if_neg hc8, if_neg hc10, if_pos]
    rcases hc15 with h | h
    · rw [h]; rfl
    rw [Bool.or_eq_true, decide_eq_true_eq]; exact .inr (by omega)
  rw [e]
  exact ⟨_, hJ.out, ⟨vT, vG, vS, hb0.out hJ rfl, hoT.out hJ rfl, hoG.out hJ rfl, hoS.out hJ rfl⟩, rfl⟩
 try simp only [tstS] at hc15
 refine cskip <| cseq <| cg <| zm rfl <| zm rfl <| vq (Val.nilCheck rfl) <| vq (Val.fieldAddr fld26_0 rfl) <| vq (Val.loadB scl22 rfl hb0.blk rfl) <| zm rfl <| zm rfl <| vq (Val.addI rfl rfl side side) ?_
 refine ve (Eff.call pf87 rfl (delT_ok hoT hk (by omega))) ?_
 rintro v103 w15 ⟨c15, hM15, hoT⟩
 replace hJ := hJ.mv hM15; replace hb0 := hb0.mv hM15; replace hoG := hoG.mv hM15; replace hoS := hoS.mv hM15; replace hb4 := hb4.mv hM15
 have p1 := hoT.cellsV; have p2 := hoT.oneC
 refine vq (Val.nilCheck rfl) <| vq (Val.fieldAddr fld26_0 rfl) <| WR.eff_ (Eff.storeC scl22 rfl rfl ra ra hb0 rfl) ?_
 rintro _ w16 ⟨hS, hM16⟩
 replace hJ := hJ.mv hM16; replace hoT := hoT.mv hM16; replace hoG := hoG.mv hM16; replace hoS := hoS.mv hM16; replace hb4 := hb4.mv hM16
 replace hb0 := hS
 refine cnil <| cseq <| cg <| vq (Val.build (cells := #[.int .i64 0, .string ⟨[].toArray⟩, .int .i64 0]) rfl (by kernel_rfl)) ?_
 refine WR.eff_ (Eff.storeNC agg51 rfl rfl hb4 rfl rfl ones) ?_
 rintro _ w17 ⟨hS, hM17⟩
 replace hJ := hJ.mv hM17; replace hb0 := hb0.mv hM17; replace hoT := hoT.mv hM17; replace hoG := hoG.mv hM17; replace hoS := hoS.mv hM17
 replace hb4 := hS
 refine za rfl <| cnil <| WC.retR2 rfl (RVal.cellN agg51 rfl hb4.blk rfl) (RVal.tmp rfl) ?_
 have e : doThing S o = ({ S with things := S.things.eraseIdx k }, ⟨0, [], 0⟩) := by
   rw [doThing, hf]; dsimp only
   rw [if_neg hc6, if_neg hc8, if_neg hc10, if_neg]
   rw [hc15.1, decide_eq_false (by have := hc15.2; omega)]; decide
 rw [e]
 exact ⟨_, hJ.out, ⟨_, vG, vS, hb0.out hJ rfl, hoT.out hJ rfl, hoG.out hJ rfl, hoS.out hJ rfl⟩, rfl⟩
end Go.Proofs.YtdlpibhecdfbcabGreatDoor

namespace Go.Proofs.YtdlpibhecdfbcabGreatDoor
open Go Go.Eng Go.RowKit Silo TryzT
set_option maxHeartbeats 2000000 in
theorem mlisted_ok {c : Nat → Nat} {w : World} {b : Nat} {S : Sta} {o : MOp} (h : StaO c w b S) (hS : SmallS S) (hO : SmallO o) (hrT : RiseT S.things) : Calls Tryz.prog 61 #[.pointer (some ⟨b, 0, none⟩), .agg (encOp o).toArray] w (Ret fun v w' => ∃ c', Mv c w c' w' colS ∧ StaO c' w' b (doMan S o).1 ∧ v = repE (doMan S o).2) := by
 obtain ⟨vT, vG, vS, hb0, hoT, hoG, hoS⟩ := h
 obtain ⟨z1, z2, z3, z4, z5, z6, z7⟩ := hS
 obtain ⟨⟨y1, y2, y3, y4⟩, y5, y6, y7⟩ := hO
 have hJ := OldJ.start c w colS
 replace hb0 := hb0.inn (J := colS) rfl
 replace hoT := hoT.inn (J := colS) rfl
 replace hoG := hoG.inn (J := colS) rfl
 replace hoS := hoS.inn (J := colS) rfl
 generalize mask c colS = c0 at hJ hb0 hoT hoG hoS
 have q1 := hoT.oneC; have q2 := hoG.oneC; have q3 := hoS.oneC
 obtain ⟨e1, e2, e3, e4, e5⟩ := manTake_texts (s := o.text)
 refine enter (n := 43) (res := #[.cell 4 51, .tmp 5]) Tryz.func61 rfl rfl rfl rfl <| cseq <| cg <| ve (Eff.boxC c0 103 rfl) ?_
 rintro _ w1 ⟨b3, c1, rfl, hM1, hb3⟩
 replace hJ := hJ.mv hM1; replace hb0 := hb0.mv hM1; replace hoT := hoT.mv hM1; replace hoG := hoG.mv hM1; replace hoS := hoS.mv hM1
 refine ve (Eff.allocC c1 104 zero51) ?_
 rintro _ w2 ⟨b4, c2, rfl, hM2, hb4⟩
 replace hJ := hJ.mv hM2; replace hb0 := hb0.mv hM2; replace hoT := hoT.mv hM2; replace hoG := hoG.mv hM2; replace hoS := hoS.mv hM2; replace hb3 := hb3.mv hM2
 refine za rfl <| cnil <| cseq <| cg <| vq (Val.fieldAddr fld33_6 rfl) <| vq (Val.loadB scl9 rfl hb3.blk rfl) <| ve (Eff.pureC c2 7 (Eff.call pf74 rfl (mtake_own o.text (by omega)))) ?_
 rintro v13 w3 ⟨c3, hM3, hx3, ⟨u1, u2, rfl, g1, g2⟩⟩
 replace hJ := hJ.mv hM3; replace hb0 := hb0.mv hM3; replace hoT := hoT.mv hM3; replace hoG := hoG.mv hM3; replace hoS := hoS.mv hM3; replace hb3 := hb3.mv hM3; replace hb4 := hb4.mv hM3
 replace g1 := g1.toC hx3
 replace g2 := g2.toC hx3
 have q4 := g1.own.oneC; have q5 := g2.own.oneC
 refine zm rfl <| vq (Val.extract rfl rfl) <| vq (Val.extract rfl rfl) <| ve (Eff.allocC c3 106 zero85) ?_
 rintro _ w4 ⟨b6, c4, rfl, hM4, hb6⟩
 replace hJ := hJ.mv hM4; replace hb0 := hb0.mv hM4; replace hoT := hoT.mv hM4; replace hoG := hoG.mv hM4; replace hoS := hoS.mv hM4; replace hb3 := hb3.mv hM4; replace hb4 := hb4.mv hM4; replace g1 := g1.mv hM4; replace g2 := g2.mv hM4
 refine WR.eff_ (Eff.storeNC agg85 rfl rfl hb6 rfl rfl ones) ?_
 rintro _ w5 ⟨hS, hM5⟩
 replace hJ := hJ.mv hM5; replace hb0 := hb0.mv hM5; replace hoT := hoT.mv hM5; replace hoG := hoG.mv hM5; replace hoS := hoS.mv hM5; replace hb3 := hb3.mv hM5; replace hb4 := hb4.mv hM5; replace g1 := g1.mv hM5; replace g2 := g2.mv hM5
 replace hb6 := hS
 refine za rfl <| cnil <| cseq <| cseq <| cg <| zm rfl <| vq (Val.neq rfl rfl) <| cnil <| WC.cond rfl (fun hc2 => ?_) (fun hc2 => ?_)
 ·try simp only [tstS] at hc2
  refine cseq <| cg <| vq (Val.build (cells := #[.int .i64 0, .string ⟨[].toArray⟩, .int .i64 0]) rfl (by kernel_rfl)) <| zm rfl ?_
  refine WR.eff_ (Eff.storeNC agg51 rfl rfl hb4 rfl rfl ones) ?_
  rintro _ w6 ⟨hS, hM6⟩
  replace hJ := hJ.mv hM6; replace hb0 := hb0.mv hM6; replace hoT := hoT.mv hM6; replace hoG := hoG.mv hM6; replace hoS := hoS.mv hM6
  replace hb4 := hS
  refine za rfl <| cnil <| WC.retR2 rfl (RVal.cellN agg51 rfl hb4.blk rfl) (RVal.tmp rfl) ?_
  cases hm : manTake o.text with
  | some m => rw [hm] at hc2; simp at hc2
  | none =>
    have e : doMan S o = bad S 7 := by rw [doMan, hm]
    rw [e]
    exact ⟨_, hJ.out, ⟨vT, vG, vS, hb0.out hJ rfl, hoT.out hJ rfl, hoG.out hJ rfl, hoS.out hJ rfl⟩, rfl⟩
 try simp only [tstS] at hc2
 obtain ⟨m, hm⟩ : ∃ m, manTake o.text = some m := by
   cases hm : manTake o.text with
   | some m => exact ⟨m, rfl⟩
   | none => rw [hm] at hc2; simp at hc2
 rw [hm] at g1 g2 e1 e2 e3 e4 e5 hb6
 rw [Option.getD_some] at g1 g2 e1 e2 e3 e4 e5 hb6
 refine cskip <| cseq <| cseq <| WC.regionD (Kp c4 w5 []) [0, 0, 0, 1, 1, 2, 0] [0, 1, 2, 3, 4, 5, 6] mixed (by kernel_rfl) ?_
 have hM7 := Mv.drew c4 w5 []
 have hCw := Mv.drew c4 w5 []
 generalize w5.drew = w7 at hM7 hCw ⊢
 have hb00 := hb0
 have hb30 := hb3
 have hb40 := hb4
 have hb60 := hb6
 replace hJ := hJ.mv hM7; replace hb0 := hb0.mv hM7; replace hoT := hoT.mv hM7; replace hoG := hoG.mv hM7; replace hoS := hoS.mv hM7; replace hb3 := hb3.mv hM7; replace hb4 := hb4.mv hM7; replace g1 := g1.mv hM7; replace g2 := g2.mv hM7
 refine zdm rfl rfl <| vd rfl (fun _ => Val.nilCheck rfl) <| vd rfl (fun _ => Val.fieldAddr fld26_0 rfl) <| vc rfl hCw.kp (fun W hW => Val.loadB scl22 rfl (hb00.kp hW rfl).blk rfl) <| vc rfl hCw.kp (fun W hW => Val.loadBN agg85 rfl (hb60.kp hW rfl).blk rfl) <| WD.eff rfl rfl rfl (Eff.pureC c4 1 (Eff.call pf75 rfl (there_ok (cs := [I m.kind, u1, u2]) (m := m) (hoT.rdT (by omega) z1).now hrT ⟨u1, u2, rfl, g1.own.rdStrs e1 (by omega), g2.own.rdStrs e2 (by omega), e5⟩))) rfl ?_
 rintro v25 w8 ⟨c8, hM8, hx8, rfl⟩
 refine ⟨fun hC => hC.step hCw hM8 rfl, ?_⟩
 replace hCw := hCw.tr hM8 rfl
 replace hJ := hJ.mv hM8; replace hb0 := hb0.mv hM8; replace hoT := hoT.mv hM8; replace hoG := hoG.mv hM8; replace hoS := hoS.mv hM8; replace hb3 := hb3.mv hM8; replace hb4 := hb4.mv hM8
 refine vd rfl (fun _ => Val.not rfl) <| WD.nil ?_
 clear hb00 hb30 hb40 hb60
 clear hCw
 refine WC.cond rfl (fun hc4 => ?_) (fun hc4 => ?_)
 ·try simp only [tstS] at hc4
  refine cseq <| cg <| vq (Val.build (cells := #[.int .i64 0, .string ⟨[].toArray⟩, .int .i64 0]) rfl (by kernel_rfl)) ?_
  refine WR.eff_ (Eff.storeNC agg51 rfl rfl hb4 rfl rfl ones) ?_
  rintro _ w9 ⟨hS, hM9⟩
  replace hJ := hJ.mv hM9; replace hb0 := hb0.mv hM9; replace hoT := hoT.mv hM9; replace hoG := hoG.mv hM9; replace hoS := hoS.mv hM9
  replace hb4 := hS
  refine za rfl <| cnil <| WC.retR2 rfl (RVal.cellN agg51 rfl hb4.blk rfl) (RVal.tmp rfl) ?_
  have e : doMan S o = bad S 3 := by rw [doMan, hm]; dsimp only; rw [if_neg (by rw [show thereT S.things m = false by simpa using hc4]; decide)]
  rw [e]
  exact ⟨_, hJ.out, ⟨vT, vG, vS, hb0.out hJ rfl, hoT.out hJ rfl, hoG.out hJ rfl, hoS.out hJ rfl⟩, rfl⟩
 try simp only [tstS] at hc4
 have hth : thereT S.things m = true := by simpa using hc4
 refine cskip <| cseq <| cg <| vq (Val.fieldAddr fld33_6 rfl) <| vq (Val.loadB scl9 rfl hb3.blk rfl) <| ve (Eff.pureC c8 1 (Eff.call pf73 rfl (of_ok o.text (by omega)))) ?_
 rintro v30 w10 ⟨c10, hM10, hx10, rfl⟩
 replace hJ := hJ.mv hM10; replace hb0 := hb0.mv hM10; replace hoT := hoT.mv hM10; replace hoG := hoG.mv hM10; replace hoS := hoS.mv hM10; replace hb3 := hb3.mv hM10; replace hb4 := hb4.mv hM10
 refine za rfl <| cnil <| cseq <| cseq <| cg <| zm rfl <| zm rfl <| vq (Val.fieldAddr fld33_6 rfl) <| vq (Val.loadB scl9 rfl hb3.blk rfl) <| vq (Val.build (cells := #[St (digestS o.text), St o.text, .bool true]) rfl (by kernel_rfl)) ?_
 refine ve (Eff.call pf81 rfl (mkeep_ok (x := ⟨digestS o.text, o.text, true⟩) hb0 hoT hrT (by omega) z1)) ?_
 rintro v36 w11 ⟨c11, hM11, ⟨vT2, rfl, hb0, hoT⟩⟩
 replace hJ := hJ.mv hM11; replace hoG := hoG.mv hM11; replace hoS := hoS.mv hM11; replace hb4 := hb4.mv hM11
 refine za rfl <| cnil <| cseq <| cg <| zm rfl <| vq (Val.neq rfl rfl) <| cnil <| WC.cond rfl (fun hc8 => ?_) (fun hc8 => ?_)
 ·try simp only [tstS] at hc8
  refine cseq <| cg <| vq (Val.build (cells := #[.int .i64 0, .string ⟨[].toArray⟩, .int .i64 0]) rfl (by kernel_rfl)) <| zm rfl ?_
  refine WR.eff_ (Eff.storeNC agg51 rfl rfl hb4 rfl rfl ones) ?_
  rintro _ w12 ⟨hS, hM12⟩
  replace hJ := hJ.mv hM12; replace hb0 := hb0.mv hM12; replace hoT := hoT.mv hM12; replace hoG := hoG.mv hM12; replace hoS := hoS.mv hM12
  replace hb4 := hS
  refine za rfl <| cnil <| WC.retR2 rfl (RVal.cellN agg51 rfl hb4.blk rfl) (RVal.tmp rfl) ?_
  cases hkT : keepT S.things ⟨digestS o.text, o.text, true⟩ with
  | some T' => rw [hkT] at hc8; simp at hc8
  | none =>
    rw [hkT] at hoT
    have e : doMan S o = bad S 2 := by rw [doMan, hm]; dsimp only; rw [if_pos hth, hkT]
    rw [e]
    exact ⟨_, hJ.out, ⟨vT2, vG, vS, hb0.out hJ rfl, hoT.out hJ rfl, hoG.out hJ rfl, hoS.out hJ rfl⟩, rfl⟩
 try simp only [tstS] at hc8
 refine cskip <| cseq <| cg <| zm rfl <| vq (Val.build (cells := #[I 0, St (digestS o.text), I 0]) rfl (by kernel_rfl)) ?_
 refine WR.eff_ (Eff.storeNC agg51 rfl rfl hb4 rfl rfl ones) ?_
 rintro _ w13 ⟨hS, hM13⟩
 replace hJ := hJ.mv hM13; replace hb0 := hb0.mv hM13; replace hoT := hoT.mv hM13; replace hoG := hoG.mv hM13; replace hoS := hoS.mv hM13
 replace hb4 := hS
 refine za rfl <| cnil <| WC.retR2 rfl (RVal.cellN agg51 rfl hb4.blk rfl) (RVal.tmp rfl) ?_
 cases hkT : keepT S.things ⟨digestS o.text, o.text, true⟩ with
 | none => rw [hkT] at hc8; simp at hc8
 | some T' =>
   rw [hkT] at hoT
   have e : doMan S o = ({ S with things := T' }, ⟨0, digestS o.text, 0⟩) := by rw [doMan, hm]; dsimp only; rw [if_pos hth, hkT]
   rw [e]
   exact ⟨_, hJ.out, ⟨vT2, vG, vS, hb0.out hJ rfl, hoT.out hJ rfl, hoG.out hJ rfl, hoS.out hJ rfl⟩, rfl⟩
end Go.Proofs.YtdlpibhecdfbcabGreatDoor

namespace Silo
open Go Go.Eng
theorem tag_found {l : List Tg} {d : List UInt8} (hr : RiseG l) (h : (findG l d).isSome = true) : ∃ k, findG l d = some k ∧ lowG l d = k ∧ ∃ hk : k < l.length, l[k].name = d := by
  obtain ⟨k, hf⟩ := Option.isSome_iff_exists.1 h
  have hlow : lowG l d = k := lowBy_find (riseG_q hr d) (riseG_p d) hf
  obtain ⟨hk, hq, _⟩ := List.findIdx?_eq_some_iff_getElem.1 hf
  exact ⟨k, hf, hlow, hk, by simpa using hq⟩
theorem tag_none {l : List Tg} {d : List UInt8} (h : (findG l d).isSome = false) : findG l d = none := by
  cases hf : findG l d with
  | none => rfl
  | some k => rw [hf] at h; cases h
end Silo
namespace Go.Proofs.YtdlpibhecdfbcabGreatDoor
open Go Go.Eng Go.RowKit Silo TryzT
set_option maxHeartbeats 2000000 in
theorem mtagged_ok {c : Nat → Nat} {w : World} {b : Nat} {S : Sta} {o : MOp} (h : StaO c w b S) (hS : SmallS S) (hO : SmallO o) (hrT : RiseT S.things) (hrG : RiseG S.tags) (hko : o.kind = 9 ∨ o.kind = 10 ∨ o.kind = 11) : Calls Tryz.prog 62 #[.pointer (some ⟨b, 0, none⟩), .agg (encOp o).toArray] w (Ret fun v w' => ∃ c', Mv c w c' w' colS ∧ StaO c' w' b (doTag S o).1 ∧ v = repE (doTag S o).2) := by
 obtain ⟨vT, vG, vS, hb0, hoT, hoG, hoS⟩ := h
 obtain ⟨z1, z2, z3, z4, z5, z6, z7⟩ := hS
 obtain ⟨⟨y1, y2, y3, y4⟩, y5, y6, y7⟩ := hO
 have hJ := OldJ.start c w colS
 replace hb0 := hb0.inn (J := colS) rfl
 replace hoT := hoT.inn (J := colS) rfl
 replace hoG := hoG.inn (J := colS) rfl
 replace hoS := hoS.inn (J := colS) rfl
 generalize mask c colS = c0 at hJ hb0 hoT hoG hoS
 have q1 := hoT.oneC; have q2 := hoG.oneC; have q3 := hoS.oneC
 have hlw := lowBy_le (fun t : Tg => Op.bytesLess t.name o.name) S.tags
 refine enter (n := 115) (res := #[.cell 4 51, .tmp 5]) Tryz.func62 rfl rfl rfl rfl <| cseq <| cg <| ve (Eff.boxC c0 103 rfl) ?_
 rintro _ w1 ⟨b3, c1, rfl, hM1, hb3⟩
 replace hJ := hJ.mv hM1; replace hb0 := hb0.mv hM1; replace hoT := hoT.mv hM1; replace hoG := hoG.mv hM1; replace hoS := hoS.mv hM1
 refine ve (Eff.allocC c1 104 zero51) ?_
 rintro _ w2 ⟨b4, c2, rfl, hM2, hb4⟩
 replace hJ := hJ.mv hM2; replace hb0 := hb0.mv hM2; replace hoT := hoT.mv hM2; replace hoG := hoG.mv hM2; replace hoS := hoS.mv hM2; replace hb3 := hb3.mv hM2
 refine za rfl <| cnil <| cseq <| cseq <| cg <| vq (Val.fieldAddr fld33_0 rfl) <| vq (Val.loadB scl3 rfl hb3.blk rfl) <| vq (Val.eql rfl rfl) <| zm rfl ?_
 apply WR.sc true 4 (!nameOk o.name) (fun w' => ∃ c', Acc c2 w2 [] c' w')
 case hl | hg | hu | hv | hs | hoff | hd => rfl
 case hF => exact fun _ => ⟨_, Acc.refl _ _ _⟩
 case hT =>
  intro hq8
  try simp only [tstS] at hq8
  simp only [List.take_succ_cons, List.take_zero]
  have hKsc8 := Acc.refl c2 w2 []
  refine WR.on rfl rfl <| vq (Val.fieldAddr fld33_4 rfl) <| WR.on rfl rfl <| vq (Val.loadB scl9 rfl hb3.blk rfl) <| WR.on rfl rfl <| ve (Eff.pureC c2 1 (Eff.call pf76 rfl (is_ok o.name (by omega)))) ?_
  rintro v14 w3 ⟨c3, hM3, hx3, rfl⟩
  replace hKsc8 := hKsc8.mv hM3
  refine WR.on rfl rfl <| vq (Val.not rfl) ?_
  exact WR.nil ⟨rfl, Sub.drop _ 4 _ rfl rfl, _, hKsc8⟩
 rintro w4 ⟨c4, ⟨hM4⟩⟩
 replace hJ := hJ.mv hM4; replace hb0 := hb0.mv hM4; replace hoT := hoT.mv hM4; replace hoG := hoG.mv hM4; replace hoS := hoS.mv hM4; replace hb3 := hb3.mv hM4; replace hb4 := hb4.mv hM4
 refine cnil <| WC.cond rfl (fun hc1 => ?_) (fun hc1 => ?_)
 ·try simp only [tstS] at hc1
  refine cseq <| cg <| vq (Val.build (cells := #[.int .i64 0, .string ⟨[].toArray⟩, .int .i64 0]) rfl (by kernel_rfl)) ?_
  refine WR.eff_ (Eff.storeNC agg51 rfl rfl hb4 rfl rfl ones) ?_
  rintro _ w5 ⟨hS, hM5⟩
  replace hJ := hJ.mv hM5; replace hb0 := hb0.mv hM5; replace hoT := hoT.mv hM5; replace hoG := hoG.mv hM5; replace hoS := hoS.mv hM5
  replace hb4 := hS
  refine za rfl <| cnil <| WC.retR2 rfl (RVal.cellN agg51 rfl hb4.blk rfl) (RVal.tmp rfl) ?_
  have e : doTag S o = bad S 7 := by rw [doTag, if_pos hc1.1, if_neg (by rw [show nameOk o.name = false by simpa using hc1.2]; decide)]
  rw [e]
  exact ⟨_, hJ.out, ⟨vT, vG, vS, hb0.out hJ rfl, hoT.out hJ rfl, hoG.out hJ rfl, hoS.out hJ rfl⟩, rfl⟩
 try simp only [tstS] at hc1
 refine cskip <| cseq <| WC.regionD (Kp c4 w4 []) [0, 0, 0, 1, 0, 1, 2, 0, 0, 0, 0, 0] [0, 1, 2, 3, 4, 5, 6, 7, 8, 9, 10, 11] mixed (by kernel_rfl) ?_
 have hM6 := Mv.drew c4 w4 []
 have hCw := Mv.drew c4 w4 []
 generalize w4.drew = w6 at hM6 hCw ⊢
 have hb00 := hb0
 have hb30 := hb3
 have hb40 := hb4
 replace hJ := hJ.mv hM6; replace hb0 := hb0.mv hM6; replace hoT := hoT.mv hM6; replace hoG := hoG.mv hM6; replace hoS := hoS.mv hM6; replace hb3 := hb3.mv hM6; replace hb4 := hb4.mv hM6
 refine zdm rfl rfl <| vd rfl (fun _ => Val.nilCheck rfl) <| vd rfl (fun _ => Val.fieldAddr fld26_1 rfl) <| vc rfl hCw.kp (fun W hW => Val.loadB scl23 rfl (hb00.kp hW rfl).blk rfl) <| vd rfl (fun _ => Val.fieldAddr fld33_4 rfl) <| vc rfl hCw.kp (fun W hW => Val.loadB scl9 rfl (hb30.kp hW rfl).blk rfl) <| WD.eff rfl rfl rfl (Eff.pureC c4 1 (Eff.call pf88 rfl (mtag_ok (hoG.rdG (by omega) z2).now hrG))) rfl ?_
 rintro v25 w7 ⟨c7, hM7, hx7, rfl⟩
 refine ⟨fun hC => hC.step hCw hM7 rfl, ?_⟩
 replace hCw := hCw.tr hM7 rfl
 replace hJ := hJ.mv hM7; replace hb0 := hb0.mv hM7; replace hoT := hoT.mv hM7; replace hoG := hoG.mv hM7; replace hoS := hoS.mv hM7; replace hb3 := hb3.mv hM7; replace hb4 := hb4.mv hM7
 refine zdm rfl rfl <| vd rfl (fun _ => Val.extract rfl rfl) <| vd rfl (fun _ => Val.extract rfl rfl) <| zda rfl rfl <| zda rfl rfl <| WD.nil ?_
 clear hb00 hb30 hb40
 clear hCw
 refine cseq <| WC.mono (N := (fun e w' => ∃ (c' : Nat → Nat) (vG' : Value) (G' : List Tg), Sub [(4000000, .tuple #[]), (4, .pointer (some ⟨b4, 0, none⟩))] e ∧ OldJ c w colS c' w' ∧ BlkC c' w' 70 b [vT, vG', vS, I S.next] 26 ∧ OwnC c' w' 71 60 3 vT S.things.length (S.things.flatMap encThg) ∧ OwnC c' w' 72 66 2 vG' G'.length (G'.flatMap encTg) ∧ OwnC c' w' 73 63 2 vS S.sessions.length (S.sessions.flatMap encSes) ∧ BlkC c' w' 104 b4 [I 0, St [], I 0] 51 ∧ doTag S o = ({ S with tags := G' }, ⟨0, [], 0⟩))) ?_ ?_
 ·refine cblock <| cseq ?_
  refine WC.regionD (Kp c7 w7 []) [0, 1, 0, 0, 0, 0, 0, 1, 0, 1, 2, 0, 0, 0, 0, 1, 0, 0, 0, 0, 0, 0, 0] [0, 1, 2, 3, 4, 5, 6, 7, 8, 9, 10, 11, 12, 13, 14, 15, 16, 17, 18, 19, 20, 21, 22] mixed (by kernel_rfl) ?_
  have hM8 := Mv.drew c7 w7 []
  have hCw := Mv.drew c7 w7 []
  generalize w7.drew = w8 at hM8 hCw ⊢
  have hb00 := hb0
  have hb30 := hb3
  have hb40 := hb4
  replace hJ := hJ.mv hM8; replace hb0 := hb0.mv hM8; replace hoT := hoT.mv hM8; replace hoG := hoG.mv hM8; replace hoS := hoS.mv hM8; replace hb3 := hb3.mv hM8; replace hb4 := hb4.mv hM8
  refine vd rfl (fun _ => Val.fieldAddr fld33_0 rfl) <| vc rfl hCw.kp (fun W hW => Val.loadB scl3 rfl (hb30.kp hW rfl).blk rfl) <| vd rfl (fun _ => Val.eql rfl rfl) <| zdm rfl rfl ?_
  apply WD.sc true 8 (!isT S.things o.digest true) (fun w' => ∃ c', Acc c7 w8 [] c' w')
  case hl | hi | hk | hg | hu | hv | hs | hoff | hd => rfl
  case hC => exact hCw.kp
  case hF => exact fun _ => ⟨_, Acc.refl _ _ _⟩
  case hT =>
   intro hq12
   try simp only [tstS] at hq12
   simp only [List.take_succ_cons, List.take_zero]
   have hKsc12 := Acc.refl c7 w8 []
   refine zdm rfl rfl <| vd rfl (fun _ => Val.nilCheck rfl) <| vd rfl (fun _ => Val.fieldAddr fld26_0 rfl) <| vc rfl hCw.kp (fun W hW => Val.loadB scl22 rfl (hb00.kp hW rfl).blk rfl) <| vd rfl (fun _ => Val.fieldAddr fld33_5 rfl) <| vc rfl hCw.kp (fun W hW => Val.loadB scl9 rfl (hb30.kp hW rfl).blk rfl) <| WD.eff rfl rfl rfl (Eff.pureC c7 1 (Eff.call pf77 rfl (mis_ok (hoT.rdT (by omega) z1).now hrT))) rfl ?_
   rintro v54 w9 ⟨c9, hM9, hx9, rfl⟩
   refine ⟨fun hC => hC.step hCw hM9 rfl, ?_⟩
   replace hCw := hCw.tr hM9 rfl
   replace hKsc12 := hKsc12.mv hM9
   refine vd rfl (fun _ => Val.not rfl) ?_
   exact WD.nil ⟨rfl, Sub.drop _ 8 _ rfl rfl, _, hKsc12⟩
  rintro w10 ⟨c10, ⟨hM10⟩⟩
  replace hCw := hCw.tr hM10 rfl
  replace hJ := hJ.mv hM10; replace hb0 := hb0.mv hM10; replace hoT := hoT.mv hM10; replace hoG := hoG.mv hM10; replace hoS := hoS.mv hM10; replace hb3 := hb3.mv hM10; replace hb4 := hb4.mv hM10
  refine zdm rfl rfl ?_
  apply WD.sc false 7 _ (fun w' => w10 = w')
  case hl | hi | hk | hg | hu | hv | hs | hoff | hd => rfl
  case hC => exact hCw.kp
  case hF => exact fun _ => rfl
  case hT =>
   intro hq21
   try simp only [tstS] at hq21
   simp only [List.take_succ_cons, List.take_zero]
   refine vd rfl (fun _ => Val.fieldAddr fld33_0 rfl) <| vc rfl hCw.kp (fun W hW => Val.loadB scl3 rfl (hb30.kp hW rfl).blk rfl) <| vd rfl (fun _ => Val.neq rfl rfl) <| zdm rfl rfl ?_
   apply WD.sc true 2 _ (fun w' => w10 = w')
   case hl | hi | hk | hg | hu | hv | hs | hoff | hd => rfl
   case hC => exact hCw.kp
   case hF => exact fun _ => rfl
   case hT =>
    intro hq20
    try simp only [tstS] at hq20
    simp only [List.take_succ_cons, List.take_zero]
    refine zdm rfl rfl <| vd rfl (fun _ => Val.not rfl) ?_
    exact WD.nil ⟨rfl, Sub.drop _ 2 _ rfl rfl, rfl⟩
   rintro _ rfl
   exact WD.nil ⟨rfl, Sub.drop _ 5 _ rfl rfl, rfl⟩
  rintro _ rfl
  refine zda rfl rfl <| WD.nil ?_
  clear hb00 hb30 hb40
  clear hCw
  refine WC.cond rfl (fun hc5 => ?_) (fun hc5 => ?_)
  ·try simp only [tstS] at hc5
   refine cseq <| cg <| vq (Val.build (cells := #[.int .i64 0, .string ⟨[].toArray⟩, .int .i64 0]) rfl (by kernel_rfl)) ?_
   refine WR.eff_ (Eff.storeNC agg51 rfl rfl hb4 rfl rfl ones) ?_
   rintro _ w11 ⟨hS, hM11⟩
   replace hJ := hJ.mv hM11; replace hb0 := hb0.mv hM11; replace hoT := hoT.mv hM11; replace hoG := hoG.mv hM11; replace hoS := hoS.mv hM11
   replace hb4 := hS
   refine za rfl <| cnil <| WC.retR2 rfl (RVal.cellN agg51 rfl hb4.blk rfl) (RVal.tmp rfl) ?_
   have e : doTag S o = bad S 3 := by
     rcases hc5 with ⟨h9, ht⟩ | ⟨h9, hn⟩
     · have hn9 : nameOk o.name = true := by simpa [h9] using hc1
       rw [doTag, if_pos h9, if_pos hn9, if_neg (by rw [show isT S.things o.digest true = false by simpa using ht]; decide)]
     rw [doTag, if_neg h9, tag_none (by simpa using hn)]
   rw [e]
   exact ⟨_, hJ.out, ⟨vT, vG, vS, hb0.out hJ rfl, hoT.out hJ rfl, hoG.out hJ rfl, hoS.out hJ rfl⟩, rfl⟩
  try simp only [tstS] at hc5
  refine cseq <| cg <| vq (Val.fieldAddr fld33_0 rfl) <| vq (Val.loadB scl3 rfl hb3.blk rfl) <| vq (Val.eql rfl rfl) <| za rfl <| cnil <| WC.cond rfl (fun hc7 => ?_) (fun hc7 => ?_)
  ·try simp only [tstS] at hc7
   obtain ⟨k, hf, hlow, hk, hkn⟩ := tag_found hrG (by simpa [hc7] using hc5.2)
   rw [hlow]
   obtain ⟨hc76, _⟩ := RdC.elFlat (hoG.rdG (by omega) z2) hk (by decide)
   have hc77 := hc76.at_ (i := 1) rfl
   clear hc76
   refine cseq <| cg <| zm rfl <| vq (Val.nilCheck rfl) <| vq (Val.fieldAddr fld26_1 rfl) <| vq (Val.loadB scl23 rfl hb0.blk rfl) <| zm rfl <| vq (Val.indexO sl23 hoG rfl rfl (by omega) (by omega)) ?_
   first | refine vq (Val.fieldAddr fld66_1 rfl) ?_ | refine vq (Val.fieldAddrP fld66_1 rfl) ?_
   refine vq (Val.loadE1 scl9 rfl hc77.cel) <| vq (Val.build (cells := #[I 0, St S.tags[k].digest, I 0]) rfl (by kernel_rfl)) ?_
   refine WR.eff_ (Eff.storeNC agg51 rfl rfl hb4 rfl rfl ones) ?_
   rintro _ w12 ⟨hS, hM12⟩
   replace hJ := hJ.mv hM12; replace hb0 := hb0.mv hM12; replace hoT := hoT.mv hM12; replace hoG := hoG.mv hM12; replace hoS := hoS.mv hM12
   replace hb4 := hS
   refine za rfl <| cnil <| WC.retR2 rfl (RVal.cellN agg51 rfl hb4.blk rfl) (RVal.tmp rfl) ?_
   have e : doTag S o = (S, ⟨0, S.tags[k].digest, 0⟩) := by
     rw [doTag, if_neg (by omega), hf]; dsimp only
     rw [if_pos hc7, List.getElem?_eq_getElem hk]; rfl
   rw [e]
   exact ⟨_, hJ.out, ⟨vT, vG, vS, hb0.out hJ rfl, hoT.out hJ rfl, hoG.out hJ rfl, hoS.out hJ rfl⟩, rfl⟩
  try simp only [tstS] at hc7
  refine cseq <| cg <| vq (Val.fieldAddr fld33_0 rfl) <| vq (Val.loadB scl3 rfl hb3.blk rfl) <| vq (Val.eql rfl rfl) <| za rfl <| cnil <| WC.cond rfl (fun hc9 => ?_) (fun hc9 => ?_)
  ·try simp only [tstS] at hc9
   obtain ⟨k, hf, hlow, hk, hkn⟩ := tag_found hrG (by simpa [hc9] using hc5.2)
   rw [hlow]
   refine cg <| zm rfl <| zm rfl <| vq (Val.nilCheck rfl) <| vq (Val.fieldAddr fld26_1 rfl) <| vq (Val.loadB scl23 rfl hb0.blk rfl) <| zm rfl <| zm rfl <| vq (Val.addI rfl rfl side side) ?_
   refine ve (Eff.call pf89 rfl (delG_ok hoG hk (by omega))) ?_
   rintro v92 w13 ⟨c13, hM13, hoG⟩
   replace hJ := hJ.mv hM13; replace hb0 := hb0.mv hM13; replace hoT := hoT.mv hM13; replace hoS := hoS.mv hM13; replace hb4 := hb4.mv hM13
   have p1 := hoG.cellsV; have p2 := hoG.oneC
   refine vq (Val.nilCheck rfl) <| vq (Val.fieldAddr fld26_1 rfl) <| WR.eff_ (Eff.storeC scl23 rfl rfl ra ra hb0 rfl) ?_
   rintro _ w14 ⟨hS, hM14⟩
   replace hJ := hJ.mv hM14; replace hoT := hoT.mv hM14; replace hoG := hoG.mv hM14; replace hoS := hoS.mv hM14; replace hb4 := hb4.mv hM14
   replace hb0 := hS
   refine cnil ?_
   have e : doTag S o = ({ S with tags := S.tags.eraseIdx k }, ⟨0, [], 0⟩) := by
     rw [doTag, if_neg (by omega), hf]; dsimp only
     rw [if_neg hc7]
   exact ⟨_, _, S.tags.eraseIdx k, subs, hJ, hb0, hoT, hoG, hoS, hb4, e⟩
  try simp only [tstS] at hc9
  have h9 : o.kind = 9 := by omega
  have hn9 : nameOk o.name = true := by simpa [h9] using hc1
  have ht9 : isT S.things o.digest true = true := by simpa [h9] using hc5.1
  refine cseq <| cg <| zm rfl <| za rfl <| cnil <| WC.cond rfl (fun hc11 => ?_) (fun hc11 => ?_)
  ·try simp only [tstS] at hc11
   obtain ⟨k, hf, hlow, hk, hkn⟩ := tag_found hrG hc11
   rw [hlow]
   obtain ⟨g, cp, rfl, hncp, hm1⟩ := hoG.posForm (by omega)
   refine WC.regionD (Kp c10 w10 []) [0, 0, 0, 1, 0, 0, 1, 0, 0, 3] [0, 1, 2, 3, 4, 5, 6, 7, 8, 9] mixed (by kernel_rfl) ?_
   have hM15 := Mv.drew c10 w10 []
   have hCw := Mv.drew c10 w10 []
   generalize w10.drew = w15 at hM15 hCw ⊢
   have hb00 := hb0
   have hb30 := hb3
   have hb40 := hb4
   replace hJ := hJ.mv hM15; replace hb0 := hb0.mv hM15; replace hoT := hoT.mv hM15; replace hoG := hoG.mv hM15; replace hoS := hoS.mv hM15; replace hb4 := hb4.mv hM15
   refine zdm rfl rfl <| vd rfl (fun _ => Val.nilCheck rfl) <| vd rfl (fun _ => Val.fieldAddr fld26_1 rfl) <| vc rfl hCw.kp (fun W hW => Val.loadB scl23 rfl (hb00.kp hW rfl).blk rfl) <| zdm rfl rfl <| vd rfl (fun _ => Val.fieldAddr fld33_5 rfl) <| vc rfl hCw.kp (fun W hW => Val.loadB scl9 rfl (hb30.kp hW rfl).blk rfl) <| vd rfl (fun _ => Val.indexO sl23 hoG rfl rfl (by omega) (by omega)) ?_
   first | refine vd rfl (fun _ => Val.fieldAddr fld66_1 rfl) ?_ | refine vd rfl (fun _ => Val.fieldAddrP fld66_1 rfl) ?_
   have e53 : (⟨g, k * 2 + 1, none⟩ : Addr) = (elemA (.slice (some ⟨g, 0, none⟩) S.tags.length cp) 2 (k : Int).toNat).add 1 := by simp [elemA, add_lit]
   refine WD.wild rfl rfl rfl (Eff.storeOF (j := k * 2 + 1) (x := .tmp 105) (y := .tmp 103) (u := St o.digest) scl9 hoG rfl (by omega) (by rw [e53]; rfl) rfl rfl rfl) ?_
   rintro _ w19 ⟨c19, hM19, hoG2⟩
   replace hJ := hJ.mv hM19; replace hb0 := hb0.mv hM19; replace hoT := hoT.mv hM19; replace hoS := hoS.mv hM19; replace hb4 := hb4.mv hM19
   replace hoG := hoG2
   rw [flatMap_setAt (x := ⟨o.name, o.digest⟩) encTg_len hk (by decide) (by rw [← hkn]; rfl)] at hoG
   refine WD.nil ?_
   clear hb00 hb30 hb40
   clear hCw
   have e : doTag S o = ({ S with tags := S.tags.set k ⟨o.name, o.digest⟩ }, ⟨0, [], 0⟩) := by rw [doTag, if_pos h9, if_pos hn9, if_pos ht9, hf]
   exact ⟨_, _, S.tags.set k ⟨o.name, o.digest⟩, subs, hJ, hb0, hoT, by rw [List.length_set]; exact hoG, hoS, hb4, e⟩
  try simp only [tstS] at hc11
  refine cseq <| cg <| zm rfl <| vq (Val.nilCheck rfl) <| vq (Val.fieldAddr fld26_1 rfl) <| vq (Val.loadB scl23 rfl hb0.blk rfl) <| vq (Val.olen sl23 hoG rfl) <| vq (Val.geq rfl rfl) <| za rfl <| cnil <| WC.cond rfl (fun hc13 => ?_) (fun hc13 => ?_)
  ·try simp only [tstS] at hc13
   refine cseq <| cg <| vq (Val.build (cells := #[.int .i64 0, .string ⟨[].toArray⟩, .int .i64 0]) rfl (by kernel_rfl)) ?_
   refine WR.eff_ (Eff.storeNC agg51 rfl rfl hb4 rfl rfl ones) ?_
   rintro _ w16 ⟨hS, hM16⟩
   replace hJ := hJ.mv hM16; replace hb0 := hb0.mv hM16; replace hoT := hoT.mv hM16; replace hoG := hoG.mv hM16; replace hoS := hoS.mv hM16
   replace hb4 := hS
   refine za rfl <| cnil <| WC.retR2 rfl (RVal.cellN agg51 rfl hb4.blk rfl) (RVal.tmp rfl) ?_
   have e : doTag S o = bad S 2 := by rw [doTag, if_pos h9, if_pos hn9, if_pos ht9, tag_none (by simpa using hc11)]; dsimp only; rw [if_pos (by omega)]
   rw [e]
   exact ⟨_, hJ.out, ⟨vT, vG, vS, hb0.out hJ rfl, hoT.out hJ rfl, hoG.out hJ rfl, hoS.out hJ rfl⟩, rfl⟩
  try simp only [tstS] at hc13
  refine WC.regionD (Kp c10 w10 [72]) [0, 0, 0, 0, 1, 0, 0, 1, 0, 1, 0, 2, 2, 0, 0, 3] [0, 1, 2, 3, 4, 5, 6, 7, 8, 9, 10, 11, 12, 13, 14, 15] mixed (by kernel_rfl) ?_
  have hM17 := Mv.drew c10 w10 []
  have hCw := Mv.drew c10 w10 [72]
  generalize w10.drew = w17 at hM17 hCw ⊢
  have hb00 := hb0
  have hb30 := hb3
  have hb40 := hb4
  replace hJ := hJ.mv hM17; replace hb0 := hb0.mv hM17; replace hoT := hoT.mv hM17; replace hoG := hoG.mv hM17; replace hoS := hoS.mv hM17; replace hb4 := hb4.mv hM17
  refine zdm rfl rfl <| zdm rfl rfl <| vd rfl (fun _ => Val.nilCheck rfl) <| vd rfl (fun _ => Val.fieldAddr fld26_1 rfl) <| vc rfl hCw.kp (fun W hW => Val.loadB scl23 rfl (hb00.kp hW rfl).blk rfl) <| zdm rfl rfl <| vd rfl (fun _ => Val.fieldAddr fld33_4 rfl) <| vc rfl hCw.kp (fun W hW => Val.loadB scl9 rfl (hb30.kp hW rfl).blk rfl) <| vd rfl (fun _ => Val.fieldAddr fld33_5 rfl) <| vc rfl hCw.kp (fun W hW => Val.loadB scl9 rfl (hb30.kp hW rfl).blk rfl) <| vd rfl (fun _ => Val.build (cells := #[St o.name, St o.digest]) rfl (by kernel_rfl)) ?_
  refine WD.eff rfl rfl rfl (Eff.build1C c10 139 sl23 rfl rfl rfl rfl rfl) rfl ?_
  rintro _ w18 ⟨b39, c18, rfl, hM18, hb39⟩
  refine ⟨fun hC => hC.step hCw hM18 rfl, ?_⟩
  replace hCw := hCw.tr hM18 rfl
  replace hJ := hJ.mv hM18; replace hb0 := hb0.mv hM18; replace hoT := hoT.mv hM18; replace hoG := hoG.mv hM18; replace hoS := hoS.mv hM18; replace hb4 := hb4.mv hM18
  refine WD.eff rfl rfl rfl (Eff.call pf90 rfl (insG_ok (x := ⟨o.name, o.digest⟩) (k := lowG S.tags o.name) hoG hb39 rfl hlw (by omega))) rfl ?_
  rintro v40 w19 ⟨c19, hM19, hoG⟩
  refine ⟨fun hC => hC.step hCw hM19 rfl, ?_⟩
  replace hCw := hCw.tr hM19 rfl
  replace hJ := hJ.mv hM19; replace hb0 := hb0.mv hM19; replace hoT := hoT.mv hM19; replace hoS := hoS.mv hM19; replace hb4 := hb4.mv hM19
  have p1 := hoG.cellsV; have p2 := hoG.oneC
  refine vd rfl (fun _ => Val.nilCheck rfl) <| vd rfl (fun _ => Val.fieldAddr fld26_1 rfl) <| WD.wild rfl rfl rfl (Eff.storeC scl23 rfl rfl ra ra hb0 rfl) ?_
  rintro _ w20 ⟨hS, hM20⟩
  try replace hCw := hCw.tr hM20 rfl
  replace hJ := hJ.mv hM20; replace hoT := hoT.mv hM20; replace hoG := hoG.mv hM20; replace hoS := hoS.mv hM20; replace hb4 := hb4.mv hM20
  replace hb0 := hS
  refine WD.nil ?_
  clear hb00 hb30 hb40
  clear hCw
  have e : doTag S o = ({ S with tags := S.tags.take (lowG S.tags o.name) ++ ⟨o.name, o.digest⟩ :: S.tags.drop (lowG S.tags o.name) }, ⟨0, [], 0⟩) := by rw [doTag, if_pos h9, if_pos hn9, if_pos ht9, tag_none (by simpa using hc11)]; dsimp only; rw [if_neg (by omega)]
  have hle : (S.tags.take (lowG S.tags o.name) ++ (⟨o.name, o.digest⟩ : Tg) :: S.tags.drop (lowG S.tags o.name)).length = S.tags.length + 1 := by
    have hlow2 : lowG S.tags o.name ≤ S.tags.length := hlw
    rw [List.length_append, List.length_cons, List.length_take, List.length_drop]; omega
  exact ⟨_, _, _, subs, hJ, hb0, hoT, by rw [hle]; exact hoG, hoS, hb4, e⟩
 rintro e9 w9 ⟨c9, vG', G', hsub, hJ, hb0, hoT, hoG, hoS, hb4, e⟩
 refine WC.sub hsub ?_
 clear hsub e9
 refine cseq <| cg <| vq (Val.build (cells := #[.int .i64 0, .string ⟨[].toArray⟩, .int .i64 0]) rfl (by kernel_rfl)) ?_
 refine WR.eff_ (Eff.storeNC agg51 rfl rfl hb4 rfl rfl ones) ?_
 rintro _ w21 ⟨hS, hM21⟩
 replace hJ := hJ.mv hM21; replace hb0 := hb0.mv hM21; replace hoT := hoT.mv hM21; replace hoG := hoG.mv hM21; replace hoS := hoS.mv hM21
 replace hb4 := hS
 refine za rfl <| cnil <| WC.retR2 rfl (RVal.cellN agg51 rfl hb4.blk rfl) (RVal.tmp rfl) ?_
 rw [e]
 exact ⟨_, hJ.out, ⟨vT, vG', vS, hb0.out hJ rfl, hoT.out hJ rfl, hoG.out hJ rfl, hoS.out hJ rfl⟩, rfl⟩
end Go.Proofs.YtdlpibhecdfbcabGreatDoor

namespace Silo
open Go Go.Eng
theorem fromT_textsN {T : List Thg} {R : List (List UInt8)} {n : Nat} (h1 : ∀ t ∈ T, t.digest.length ≤ n) : ∀ x ∈ fromT T R, x.length ≤ n := fun x hx => by
  obtain ⟨i, _, rfl⟩ := mem_fromT.1 hx
  exact dgOf_ok h1 i
end Silo
namespace Go.Eng
open Go Go.RowKit Silo
theorem OwnC.plainV {c : Nat → Nat} {w : World} {i : Nat} {e : TypeId} {size : Nat} {v : Value} {n : Nat} {xs : List Value} (h : OwnC c w i e size v n xs) : PlainV v := by
  rcases h.own.2 with ⟨rfl, A, rfl⟩ | ⟨g, cap, cur, fz, rfl, _⟩
  · exact ⟨A, 0, 0, rfl, fun h => absurd h (Nat.lt_irrefl _)⟩
  · exact ⟨_, n, cap, rfl, fun _ => ⟨g, 0, rfl⟩⟩
end Go.Eng
namespace Go.Proofs.YtdlpibhecdfbcabGreatDoor
open Go Go.Eng Go.RowKit Silo TryzT
theorem sweepC_ok {w : World} {x : Thg} {v : Value} {l : List (List UInt8)} {b : Nat} (hb : Blk w b [v] 70) (h1 : Rd strS w v l) : Calls Tryz.prog 93 #[.agg (encThg x).toArray, .pointer (some ⟨b, 0, none⟩)] w (Ret fun u w' => Below w.heap.size w w' ∧ u = .bool (!l.contains x.digest)) := by
 have hK : Old w w := Old.refl w
 refine enter (n := 9) (res := #[.tmp 3]) Tryz.func93 rfl rfl rfl rfl <| cseq <| cg <| ve (Eff.box rfl) ?_
 rintro _ w1 ⟨b2, rfl, hn2⟩
 have hk1 := hn2.below
 replace hK := hK.up hk1; replace hb := hb.up hk1; replace h1 := h1.up hk1
 have hb2 := hn2.blk
 refine za rfl <| cnil <| cseq <| cg <| vq (Val.loadB scl70 rfl hb rfl) <| vq (Val.fieldAddr fld60_0 rfl) <| vq (Val.loadB scl9 rfl hb2 rfl) <| ve (Eff.call pf94 rfl (contains_ok h1)) ?_
 rintro v7 w2 ⟨hk2, rfl⟩
 replace hK := hK.up hk2
 refine vq (Val.not rfl) <| za rfl <| cnil <| WC.ret1 rfl rfl ?_
 exact ⟨hK, rfl⟩
set_option maxHeartbeats 2000000 in
theorem msweep_ok {c : Nat → Nat} {w : World} {b : Nat} {S : Sta} (h : StaO c w b S) (hS : SmallS S) (hrT : RiseT S.things) : Calls Tryz.prog 63 #[.pointer (some ⟨b, 0, none⟩)] w (Ret fun v w' => ∃ c', Mv c w c' w' colS ∧ StaO c' w' b (doSweep S).1 ∧ v = repE (doSweep S).2) := by
 obtain ⟨vT, vG, vS, hb0, hoT, hoG, hoS⟩ := h
 obtain ⟨z1, z2, z3, z4, z5, z6, z7⟩ := hS
 have hJ := OldJ.start c w colS
 replace hb0 := hb0.inn (J := colS) rfl
 replace hoT := hoT.inn (J := colS) rfl
 replace hoG := hoG.inn (J := colS) rfl
 replace hoS := hoS.inn (J := colS) rfl
 generalize mask c colS = c0 at hJ hb0 hoT hoG hoS
 have q1 := hoT.oneC; have q2 := hoG.oneC; have q3 := hoS.oneC
 have hz1 := fun t ht => (z1 t ht).2
 have z1d : ∀ t ∈ S.things, t.digest.length ≤ 140737488355328 ∧ t.text.length ≤ 140737488355328 := fun t ht => ⟨(z1 t ht).1, by have := (z1 t ht).2; omega⟩
 have hslen : (sweptT S).length ≤ S.things.length := List.length_filter_le _ _
 refine enter (n := 52) (res := #[.cell 2 51, .tmp 3]) Tryz.func63 rfl rfl rfl rfl <| cseq <| cg <| ve (Eff.allocC c0 102 zero51) ?_
 rintro _ w1 ⟨b2, c1, rfl, m, hb2⟩
 replace hJ := hJ.mv m; replace hb0 := hb0.mv m; replace hoT := hoT.mv m; replace hoG := hoG.mv m; replace hoS := hoS.mv m
 refine za rfl <| cnil <| cseq <| cg <| za rfl <| cnil <| cseq <| cseq <| cg <| zm rfl <| vq (Val.nilCheck rfl) <| vq (Val.fieldAddr fld26_1 rfl) <| vq (Val.loadB scl23 rfl hb0.blk rfl) <| vq (Val.olen sl23 hoG rfl) <| zm rfl <| cnil <| cblock <| WC.loop (σ := Nat × Value) (fun st => [(0, .pointer (some ⟨b, 0, none⟩)), (2, .pointer (some ⟨b2, 0, none⟩)), (4, st.2), (12, vG), (13, I S.tags.length), (14, I st.1)]) (fun st w' => ∃ c', OldJ c w colS c' w' ∧ BlkC c' w' 70 b [vT, vG, vS, I S.next] 26 ∧ OwnC c' w' 71 60 3 vT S.things.length (S.things.flatMap encThg) ∧ OwnC c' w' 72 66 2 vG S.tags.length (S.tags.flatMap encTg) ∧ OwnC c' w' 73 63 2 vS S.sessions.length (S.sessions.flatMap encSes) ∧ BlkC c' w' 102 b2 [I 0, St [], I 0] 51 ∧ OwnC c' w' 60 9 1 st.2 ((S.tags.take st.1).map Tg.digest).length (((S.tags.take st.1).map Tg.digest).flatMap fun x => [St x]) ∧ st.1 ≤ S.tags.length) (fun st => S.tags.length - st.1) (0, .slice none 0 0) subs ⟨_, hJ, hb0, hoT, hoG, hoS, hb2, OwnC.nil _ _ _ _ _, by simp⟩ ?_
 clear hJ hb0 hoT hoG hoS hb2
 rintro ⟨k, v4⟩ wl ⟨cl, hJ, hb0, hoT, hoG, hoS, hb2, ho, hk⟩
 dsimp only at hJ ho hk ⊢
 refine cseq <| cg <| vq (Val.lss rfl rfl) <| cnil <| cseq <| WC.cond rfl (fun hc3 => ?_) (fun hc3 => ?_)
 ·try simp only [tstS] at hc3
  have ka : k < S.tags.length := by omega
  obtain ⟨hc16, _⟩ := RdC.elFlat (hoG.rdG (by omega) z2) ka (by decide)
  have hll : ((S.tags.take k).map Tg.digest).length = k := by rw [List.length_map, List.length_take]; omega
  refine cskip <| cseq <| cblock <| cseq <| cg <| vq (Val.indexO sl23 hoG rfl rfl (by omega) (by omega)) <| vq (Val.loadE agg66 rfl hc16.cel rfl) ?_
  refine ve (Eff.allocC cl 106 zero66) ?_
  rintro _ w2 ⟨b6, c2, rfl, m, hb6⟩
  replace hJ := hJ.mv m; replace hb0 := hb0.mv m; replace hoT := hoT.mv m; replace hoG := hoG.mv m; replace hoS := hoS.mv m; replace hb2 := hb2.mv m; replace ho := ho.mv m
  refine WR.eff_ (Eff.storeNC agg66 rfl rfl hb6 rfl rfl ones) ?_
  rintro _ w3 ⟨hS, m⟩
  replace hJ := hJ.mv m; replace hb0 := hb0.mv m; replace hoT := hoT.mv m; replace hoG := hoG.mv m; replace hoS := hoS.mv m; replace hb2 := hb2.mv m; replace ho := ho.mv m
  replace hb6 := hS
  refine cnil <| cg <| zm rfl <| vq (Val.fieldAddr fld66_1 rfl) <| vq (Val.loadB scl9 rfl hb6.blk rfl) <| ve (Eff.build1C c2 121 sl70 rfl rfl rfl rfl rfl) ?_
  rintro _ w4 ⟨b21, c4, rfl, m, hb21⟩
  replace hJ := hJ.mv m; replace hb0 := hb0.mv m; replace hoT := hoT.mv m; replace hoG := hoG.mv m; replace hoS := hoS.mv m; replace hb2 := hb2.mv m; replace ho := ho.mv m
  refine ve (Eff.appendC sl70 rfl rfl ho (Src.cellsAt Tryz.underlying70 hb21.blk.cellsAt rfl ones) mxl oms) ?_
  rintro v22 w5 ⟨c5, m, hOq⟩
  clear hb21
  replace hJ := hJ.mv m; replace hb0 := hb0.mv m; replace hoT := hoT.mv m; replace hoG := hoG.mv m; replace hoS := hoS.mv m; replace hb2 := hb2.mv m
  replace ho := hOq
  refine za rfl <| cnil <| cg <| vq (Val.addI rfl rfl side side) <| zm rfl <| cnil ?_
  have e : (S.tags.take (k + 1)).map Tg.digest = (S.tags.take k).map Tg.digest ++ [S.tags[k].digest] := by rw [List.take_add_one, List.getElem?_eq_getElem ka, List.map_append]; rfl
  exact ⟨(k + 1, _), subs, ⟨_, hJ, hb0, hoT, hoG, hoS, hb2, by dsimp only; rw [e, List.flatMap_append, List.length_append]; exact ho, ka⟩, by dsimp only; omega⟩
 try simp only [tstS] at hc3
 have hkn : k = S.tags.length := by omega
 subst hkn
 rw [List.take_length] at ho
 have hrl : (S.tags.map Tg.digest).length = S.tags.length := List.length_map _
 have hrx : ∀ x ∈ S.tags.map Tg.digest, x.length ≤ 140737488355328 := fun x hx => by
   obtain ⟨t, ht, rfl⟩ := List.mem_map.1 hx
   exact (z2 t ht).2
 have hpv := ho.plainV
 have hft : ∀ x ∈ fromT S.things (S.tags.map Tg.digest), x.length ≤ 140737488355328 := fromT_textsN fun t ht => (z1 t ht).1
 have hfl : (fromT S.things (S.tags.map Tg.digest)).length ≤ S.things.length := fromUpTo_len _ _ _
 have hsw : sweptT S = S.things.filter fun t => (fromT S.things (S.tags.map Tg.digest)).contains t.digest := rfl
 generalize S.tags.map Tg.digest = R at ho hrl hrx hft hfl hsw
 refine WC.exit rfl <| cseq <| cg <| zm rfl <| vq (Val.nilCheck rfl) <| vq (Val.fieldAddr fld26_0 rfl) <| vq (Val.loadB scl22 rfl hb0.blk rfl) <| zm rfl <| ve (Eff.pureC cl 61 (Eff.call pf91 rfl (leads_ok (hoT.rdT (by omega) z1).now (ho.own.rdStrs hrx (by omega)) hpv hrT hz1 (by omega) (by omega)))) ?_
 rintro v29 w6 ⟨c6, m, hx6, hst⟩
 replace hJ := hJ.mv m; replace hb0 := hb0.mv m; replace hoT := hoT.mv m; replace hoG := hoG.mv m; replace hoS := hoS.mv m; replace hb2 := hb2.mv m
 replace hst := hst.toC hx6
 have p9 := hst.own.oneC; have p8 := hst.cellsV
 replace hst : RdC strS _ _ [61] v29 (fromT S.things R) := hst.rdFlat (by omega) hft
 generalize fromT S.things R = F at hst hft hfl hsw
 refine ve (Eff.allocC c6 107 zero70) ?_
 rintro _ w7 ⟨b7, c7, rfl, m, hb7⟩
 replace hJ := hJ.mv m; replace hb0 := hb0.mv m; replace hoT := hoT.mv m; replace hoG := hoG.mv m; replace hoS := hoS.mv m; replace hb2 := hb2.mv m; replace hst := hst.mv m
 refine WR.eff_ (Eff.storeC scl70 rfl rfl ra ra hb7 rfl) ?_
 rintro _ w8 ⟨hS, m⟩
 replace hJ := hJ.mv m; replace hb0 := hb0.mv m; replace hoT := hoT.mv m; replace hoG := hoG.mv m; replace hoS := hoS.mv m; replace hb2 := hb2.mv m; replace hst := hst.mv m
 replace hb7 := hS
 refine cnil <| cseq <| cg <| zm rfl <| vq (Val.nilCheck rfl) <| vq (Val.fieldAddr fld26_0 rfl) <| vq (Val.loadB scl22 rfl hb0.blk rfl) <| vq (Val.olen sl22 hoT rfl) <| za rfl <| cnil <| cseq ?_
 have hqn := fun (c' : Nat → Nat) (w' : World) (x : Thg) (hM : Mv _ _ c' w' [71]) => sweepC_ok (x := x) (hb7.mv hM rfl).blk (hst.mv hM rfl).now
 refine cg <| zm rfl <| zm rfl <| vq (Val.nilCheck rfl) <| vq (Val.fieldAddr fld26_0 rfl) <| vq (Val.loadB scl22 rfl hb0.blk rfl) <| vq (Val.makeFunc rfl) <| ve (Eff.call pf92 rfl (delF_ok hoT z1d (by omega) pf93 hqn)) ?_
 rintro v41 w9 ⟨c9, m, hoT⟩
 replace hJ := hJ.mv m; replace hb0 := hb0.mv m; replace hoG := hoG.mv m; replace hoS := hoS.mv m; replace hb2 := hb2.mv m
 have p1 := hoT.cellsV; have p2 := hoT.oneC
 simp only [Bool.not_not] at hoT
 rw [← hsw] at hoT
 refine vq (Val.nilCheck rfl) <| vq (Val.fieldAddr fld26_0 rfl) <| WR.eff_ (Eff.storeC scl22 rfl rfl ra ra hb0 rfl) ?_
 rintro _ w10 ⟨hS, m⟩
 replace hJ := hJ.mv m; replace hoT := hoT.mv m; replace hoG := hoG.mv m; replace hoS := hoS.mv m; replace hb2 := hb2.mv m
 replace hb0 := hS
 refine cnil <| cseq <| cg <| zm rfl <| zm rfl <| vq (Val.nilCheck rfl) <| vq (Val.fieldAddr fld26_0 rfl) <| vq (Val.loadB scl22 rfl hb0.blk rfl) <| vq (Val.olen sl22 hoT rfl) <| vq (Val.subI rfl rfl side side) <| vq (Val.build (cells := #[I ((S.things.length : Int) - ((sweptT S).length : Int)), St [], I 0]) rfl (by kernel_rfl)) ?_
 refine WR.eff_ (Eff.storeNC agg51 rfl rfl hb2 rfl rfl ones) ?_
 rintro _ w11 ⟨hS, m⟩
 replace hJ := hJ.mv m; replace hb0 := hb0.mv m; replace hoT := hoT.mv m; replace hoG := hoG.mv m; replace hoS := hoS.mv m
 replace hb2 := hS
 refine za rfl <| cnil <| WC.retR2 rfl (RVal.cellN agg51 rfl hb2.blk rfl) (RVal.tmp rfl) ?_
 exact ⟨_, hJ.out, ⟨_, vG, vS, hb0.out hJ rfl, hoT.out hJ rfl, hoG.out hJ rfl, hoS.out hJ rfl⟩, rfl⟩
end Go.Proofs.YtdlpibhecdfbcabGreatDoor

namespace Go.Eng
open Go Go.RowKit
theorem OwnC.outNew {c0 c : Nat → Nat} {w0 w : World} {J : List Nat} {i : Nat} {e : TypeId} {size n : Nat} {v : Value} {xs : List Value} (ho : OwnC c w i e size v n xs) (h : OldJ c0 w0 J c w) (hi : (Nat.blt 0 i && !hasC J i) = true) : OwnC (back c0 w0 c) w i e size v n xs := by
 rw [Bool.and_eq_true, Bool.not_eq_true'] at hi
 have hi0 : 0 < i := Nat.le_of_ble_eq_true hi.1
 refine ⟨ho.own, fun k hk => ?_⟩
 have hck := ho.col k hk
 unfold back
 split
 · rename_i hlt
   rw [h.col k hlt] at hck
   unfold mask at hck
   split at hck
   · rename_i hh; rw [hck, hi.2] at hh; cases hh
   omega
 exact hck
end Go.Eng
namespace Go.Proofs.YtdlpibhecdfbcabGreatDoor
open Go Go.Eng Go.RowKit Silo TryzT
set_option maxHeartbeats 1000000 in
theorem mown_ok {c : Nat → Nat} {w : World} {vT vG vS : Value} {S : Sta} (h1 : Rd thgS w vT S.things) (h2 : Rd tgS w vG S.tags) (h3 : Rd sesS w vS S.sessions) (hp1 : PlainV vT) (hp2 : PlainV vG) (hp3 : PlainV vS) (hl1 : S.things.length ≤ 1048576) (hl2 : S.tags.length ≤ 1048576) (hl3 : S.sessions.length ≤ 1048576) : Calls Tryz.prog 35 #[.agg #[vT, vG, vS, I S.next]] w (Ret fun v w' => ∃ c', Mv c w c' w' [] ∧ ∃ uT uG uS, v = .agg #[uT, uG, uS, I S.next] ∧ OwnC c' w' 71 60 3 uT S.things.length (S.things.flatMap encThg) ∧ OwnC c' w' 72 66 2 uG S.tags.length (S.tags.flatMap encTg) ∧ OwnC c' w' 73 63 2 uS S.sessions.length (S.sessions.flatMap encSes)) := by
 have hJ := OldJ.start c w []
 have q1 := h1.oneC; have q2 := h2.oneC; have q3 := h3.oneC
 replace h1 : RdC thgS (mask c []) w [0] vT S.things := Rd.toC h1 (fun k hk => by simp [mask, hasC])
 replace h2 : RdC tgS (mask c []) w [0] vG S.tags := Rd.toC h2 (fun k hk => by simp [mask, hasC])
 replace h3 : RdC sesS (mask c []) w [0] vS S.sessions := Rd.toC h3 (fun k hk => by simp [mask, hasC])
 generalize mask c [] = c0 at hJ h1 h2 h3
 refine enter (n := 16) (res := #[.cell 2 26]) Tryz.func35 rfl rfl rfl rfl <| cseq <| cg <| ve (Eff.boxC c0 101 rfl) ?_
 rintro _ w1 ⟨b1, c1, rfl, m, hb1⟩
 replace hJ := hJ.mv m; replace h1 := h1.mv m; replace h2 := h2.mv m; replace h3 := h3.mv m
 refine ve (Eff.allocC c1 102 zero26) ?_
 rintro _ w2 ⟨b2, c2, rfl, m, hb2⟩
 replace hJ := hJ.mv m; replace h1 := h1.mv m; replace h2 := h2.mv m; replace h3 := h3.mv m; replace hb1 := hb1.mv m
 refine cnil <| cseq <| WC.regionD (Kp c2 w2 []) [0, 1, 2, 0, 1, 2, 0, 1, 2, 0, 3, 0, 3, 0, 3] [0, 1, 3, 4, 6, 7, 2, 9, 5, 8, 10, 11, 12, 13, 14] mixed (by kernel_rfl) ?_
 have m := Mv.drew c2 w2 []
 have hCw := Mv.drew c2 w2 []
 generalize w2.drew = w3 at m hCw ⊢
 have hb10 := hb1
 have hb20 := hb2
 replace hJ := hJ.mv m; replace h1 := h1.mv m; replace h2 := h2.mv m; replace h3 := h3.mv m; replace hb1 := hb1.mv m; replace hb2 := hb2.mv m
 refine vd rfl (fun _ => Val.fieldAddr fld26_0 rfl) <| vc rfl hCw.kp (fun W hW => Val.loadB scl22 rfl (hb10.kp hW rfl).blk rfl) <| vd rfl (fun _ => Val.fieldAddr fld26_1 rfl) <| vc rfl hCw.kp (fun W hW => Val.loadB scl23 rfl (hb10.kp hW rfl).blk rfl) <| vd rfl (fun _ => Val.fieldAddr fld26_2 rfl) <| vc rfl hCw.kp (fun W hW => Val.loadB scl24 rfl (hb10.kp hW rfl).blk rfl) <| WD.eff rfl rfl rfl (Eff.pureC c2 71 (Eff.call pf52 rfl (cloneT_ok h1.now hp1 hl1))) rfl ?_
 rintro v5 w4 ⟨c4, m, hx4, hoT⟩
 refine ⟨fun hC => hC.step hCw m rfl, ?_⟩
 replace hCw := hCw.tr m rfl
 replace hJ := hJ.mv m; replace h2 := h2.mv m; replace h3 := h3.mv m; replace hb1 := hb1.mv m; replace hb2 := hb2.mv m
 replace hoT := hoT.toC hx4
 have p1 := hoT.cellsV; have p2 := hoT.oneC
 refine vd rfl (fun _ => Val.fieldAddr fld26_0 rfl) <| WD.eff rfl rfl rfl (Eff.pureC c4 72 (Eff.call pf53 rfl (cloneG_ok h2.now hp2 hl2))) rfl ?_
 rintro v8 w5 ⟨c5, m, hx5, hoG⟩
 refine ⟨fun hC => hC.step hCw m rfl, ?_⟩
 replace hCw := hCw.tr m rfl
 replace hJ := hJ.mv m; replace h3 := h3.mv m; replace hb1 := hb1.mv m; replace hb2 := hb2.mv m; replace hoT := hoT.mv m
 replace hoG := hoG.toC hx5
 have p3 := hoG.cellsV; have p4 := hoG.oneC
 refine WD.eff rfl rfl rfl (Eff.pureC c5 73 (Eff.call pf54 rfl (cloneS_ok h3.now hp3 hl3))) rfl ?_
 rintro v11 w6 ⟨c6, m, hx6, hoS⟩
 refine ⟨fun hC => hC.step hCw m rfl, ?_⟩
 replace hCw := hCw.tr m rfl
 replace hJ := hJ.mv m; replace hb1 := hb1.mv m; replace hb2 := hb2.mv m; replace hoT := hoT.mv m; replace hoG := hoG.mv m
 replace hoS := hoS.toC hx6
 have p5 := hoS.cellsV; have p6 := hoS.oneC
 refine WD.wild rfl rfl rfl (Eff.storeC scl22 rfl rfl ra ra hb1 rfl) ?_
 rintro _ w7 ⟨hS, m⟩
 replace hJ := hJ.mv m; replace hb2 := hb2.mv m; replace hoT := hoT.mv m; replace hoG := hoG.mv m; replace hoS := hoS.mv m
 replace hb1 := hS
 refine vd rfl (fun _ => Val.fieldAddr fld26_1 rfl) <| WD.wild rfl rfl rfl (Eff.storeC scl23 rfl rfl ra ra hb1 rfl) ?_
 rintro _ w8 ⟨hS, m⟩
 replace hJ := hJ.mv m; replace hb2 := hb2.mv m; replace hoT := hoT.mv m; replace hoG := hoG.mv m; replace hoS := hoS.mv m
 replace hb1 := hS
 refine vd rfl (fun _ => Val.fieldAddr fld26_2 rfl) <| WD.wild rfl rfl rfl (Eff.storeC scl24 rfl rfl ra ra hb1 rfl) ?_
 rintro _ w9 ⟨hS, m⟩
 replace hJ := hJ.mv m; replace hb2 := hb2.mv m; replace hoT := hoT.mv m; replace hoG := hoG.mv m; replace hoS := hoS.mv m
 replace hb1 := hS
 refine WD.nil ?_
 clear hb10 hb20
 clear hCw
 refine cseq <| cg <| vq (Val.loadBN agg26 rfl hb1.blk rfl) <| WR.eff_ (Eff.storeNC agg26 rfl rfl hb2 rfl rfl ones) ?_
 rintro _ w10 ⟨hS, m⟩
 replace hJ := hJ.mv m; replace hoT := hoT.mv m; replace hoG := hoG.mv m; replace hoS := hoS.mv m
 replace hb2 := hS
 refine cnil <| WC.retR1 rfl (RVal.cellN agg26 rfl hb2.blk rfl) ?_
 exact ⟨_, hJ.out, _, _, _, rfl, hoT.outNew hJ rfl, hoG.outNew hJ rfl, hoS.outNew hJ rfl⟩
end Go.Proofs.YtdlpibhecdfbcabGreatDoor

namespace Silo
open Go Go.Eng
def RE (r : Rep) : Prop := r.err = 0 ∨ r = ⟨0, [], r.err⟩
theorem re_start (S : Sta) : RE (doStart S).2 := by
  unfold doStart bad; split
  · exact .inr rfl
  · exact .inl rfl
theorem re_up (S : Sta) (o : MOp) : RE (doUp S o).2 := by
  unfold doUp bad
  repeat' (first | exact .inr rfl | exact .inl rfl | split | dsimp only)
theorem re_thing (S : Sta) (o : MOp) : RE (doThing S o).2 := by
  unfold doThing bad
  repeat' (first | exact .inr rfl | exact .inl rfl | split | dsimp only)
theorem re_man (S : Sta) (o : MOp) : RE (doMan S o).2 := by
  unfold doMan bad
  repeat' (first | exact .inr rfl | exact .inl rfl | split | dsimp only)
theorem re_tag (S : Sta) (o : MOp) : RE (doTag S o).2 := by
  unfold doTag bad
  repeat' (first | exact .inr rfl | exact .inl rfl | split | dsimp only)
theorem re_sweep (S : Sta) : RE (doSweep S).2 := .inl rfl
end Silo
namespace Go.Proofs.YtdlpibhecdfbcabGreatDoor
open Go Go.Eng Go.RowKit Silo TryzT
theorem StaO.mv {c c' : Nat → Nat} {w w' : World} {I : List Nat} {b : Nat} {S : Sta} (h : StaO c w b S) (m : Mv c w c' w' I) (hi : (!hasC I 70 && !hasC I 71 && !hasC I 72 && !hasC I 73) = true := by rfl) : StaO c' w' b S := by
  obtain ⟨vT, vG, vS, a, t, g, s⟩ := h
  simp only [Bool.and_eq_true, Bool.not_eq_true'] at hi
  exact ⟨vT, vG, vS, a.mv m hi.1.1.1, t.mv m hi.1.1.2, g.mv m hi.1.2, s.mv m hi.2⟩
theorem StaO.inn {c : Nat → Nat} {w : World} {b : Nat} {S : Sta} (h : StaO c w b S) : StaO (mask c colS) w b S := by
  obtain ⟨vT, vG, vS, a, t, g, s⟩ := h
  exact ⟨vT, vG, vS, a.inn rfl, t.inn rfl, g.inn rfl, s.inn rfl⟩
theorem StaO.out {c0 c : Nat → Nat} {w0 w : World} {b : Nat} {S : Sta} (h : StaO c w b S) (hJ : OldJ c0 w0 colS c w) : StaO (back c0 w0 c) w b S := by
  obtain ⟨vT, vG, vS, a, t, g, s⟩ := h
  exact ⟨vT, vG, vS, a.out hJ rfl, t.out hJ rfl, g.out hJ rfl, s.out hJ rfl⟩
set_option maxHeartbeats 2000000 in
theorem mact_ok {c : Nat → Nat} {w : World} {b : Nat} {S : Sta} {o : MOp} (h : StaO c w b S) (hS : SmallS S) (hO : SmallO o) (hrT : RiseT S.things) (hrG : RiseG S.tags) (hrS : RiseS S.sessions) : Calls Tryz.prog 45 #[.pointer (some ⟨b, 0, none⟩), .agg (encOp o).toArray] w (Ret fun v w' => ∃ c', Mv c w c' w' colS ∧ StaO c' w' b (if opOk o then (doM S o).1 else S) ∧ v = if opOk o then .tuple #[.agg (encRep (doM S o).2).toArray, I (doM S o).2.err, .bool true] else .tuple #[.agg (encRep ⟨0, [], 0⟩).toArray, I 0, .bool false]) := by
 have hJ := OldJ.start c w colS
 replace h := h.inn
 generalize mask c colS = c0 at hJ h
 refine enter (n := 69) (res := #[.cell 4 51, .tmp 5, .tmp 6]) Tryz.func45 rfl rfl rfl rfl <| cseq <| cg <| ve (Eff.boxC c0 103 rfl) ?_
 rintro _ w1 ⟨b3, c1, rfl, m, hb3⟩
 replace hJ := hJ.mv m; replace h := h.mv m
 refine ve (Eff.allocC c1 104 zero51) ?_
 rintro _ w2 ⟨b4, c2, rfl, m, hb4⟩
 replace hJ := hJ.mv m; replace h := h.mv m; replace hb3 := hb3.mv m
 refine za rfl <| za rfl <| cnil <| cseq <| cseq <| cg <| vq (Val.fieldAddr fld33_0 rfl) <| vq (Val.loadB scl3 rfl hb3.blk rfl) <| cnil <| WC.mono (N := (fun e w' => ∃ (c' : Nat → Nat) (S' : Sta) (r : Rep), Sub [(4000000, .tuple #[]), (4, .pointer (some ⟨b4, 0, none⟩)), (5, I r.err)] e ∧ OldJ c w colS c' w' ∧ StaO c' w' b S' ∧ BlkC c' w' 104 b4 (encRep (if r.err = 0 then r else ⟨0, [], 0⟩)) 51 ∧ doM S o = (S', r) ∧ RE r ∧ opOk o = true)) ?_ ?_
 ·refine cblock <| cseq <| cg <| vq (Val.eql rfl rfl) <| za rfl <| cnil ?_
  refine WC.cond rfl (fun hc3 => ?_) (fun hc3 => ?_)
  ·try simp only [tstS] at hc3
   refine cg <| zm rfl <| ve (Eff.call pf58 rfl (mstart_ok h hS)) ?_
   rintro v14 w3 ⟨c3, m, ⟨h, rfl⟩⟩
   replace hJ := hJ.mv m; replace hb4 := hb4.mv m
   refine zm rfl <| vq (Val.extract rfl rfl) <| vq (Val.extract rfl rfl) <| WR.eff_ (Eff.storeNC agg51 rfl rfl hb4 rfl rfl ones) ?_
   rintro _ w4 ⟨hS, m⟩
   replace hJ := hJ.mv m; replace h := h.mv m
   replace hb4 := hS
   refine za rfl <| cnil ?_
   have e : doM S o = doStart S := by rw [doM, if_pos hc3]
   exact ⟨_, (doStart S).1, (doStart S).2, subs, hJ, h, hb4, by rw [e], re_start S, by rw [opOk, hc3]; rfl⟩
  try simp only [tstS] at hc3
  refine cseq <| cseq <| cg <| vq (Val.eql rfl rfl) <| za rfl <| cnil ?_
  refine WC.mono (N := (fun e w' => ∃ (c' : Nat → Nat), Sub [(4000000, .tuple #[]), (0, .pointer (some ⟨b, 0, none⟩)), (3, .pointer (some ⟨b3, 0, none⟩)), (4, .pointer (some ⟨b4, 0, none⟩)), (8, I o.kind), (17, .bool (decide (o.kind = 2) || decide (o.kind = 3) || decide (o.kind = 13)))] e ∧ OldJ c w colS c' w' ∧ StaO c' w' b S ∧ BlkC c' w' 103 b3 (encOp o) 33 ∧ BlkC c' w' 104 b4 [I 0, St [], I 0] 51)) ?_ ?_
  ·refine WC.cond rfl (fun hc5 => ?_) (fun hc5 => ?_)
   ·try simp only [tstS] at hc5
    refine cskip ?_
    have hn : o.kind = 2 := by assumption
    rw [show (decide (o.kind = 2) || decide (o.kind = 3) || decide (o.kind = 13)) = decide (o.kind = 2) by simp [hn]]
    exact ⟨_, subs, hJ, h, hb3, hb4⟩
   try simp only [tstS] at hc5
   refine cseq <| cg <| vq (Val.eql rfl rfl) <| za rfl <| cnil <| WC.cond rfl (fun hc6 => ?_) (fun hc6 => ?_)
   ·try simp only [tstS] at hc6
    refine cskip ?_
    have hn : ¬ o.kind = 2 := by assumption
    by_cases h3 : o.kind = 3
    · rw [show (decide (o.kind = 2) || decide (o.kind = 3) || decide (o.kind = 13)) = decide (o.kind = 3) by simp [h3]]
      first
        | exact absurd h3 (by assumption)
        | exact ⟨_, subs, hJ, h, hb3, hb4⟩
    rw [show (decide (o.kind = 2) || decide (o.kind = 3) || decide (o.kind = 13)) = decide (o.kind = 13) by simp [hn, h3]]
    first
      | exact absurd (show o.kind = 3 by assumption) h3
      | exact ⟨_, subs, hJ, h, hb3, hb4⟩
   try simp only [tstS] at hc6
   refine cg <| vq (Val.eql rfl rfl) <| za rfl <| cnil ?_
   have hn : ¬ o.kind = 2 := by assumption
   by_cases h3 : o.kind = 3
   · rw [show (decide (o.kind = 2) || decide (o.kind = 3) || decide (o.kind = 13)) = decide (o.kind = 3) by simp [h3]]
     first
       | exact absurd h3 (by assumption)
       | exact ⟨_, subs, hJ, h, hb3, hb4⟩
   rw [show (decide (o.kind = 2) || decide (o.kind = 3) || decide (o.kind = 13)) = decide (o.kind = 13) by simp [hn, h3]]
   first
     | exact absurd (show o.kind = 3 by assumption) h3
     | exact ⟨_, subs, hJ, h, hb3, hb4⟩
  rintro e8 w8' ⟨c8', hsub, hJ, h, hb3, hb4⟩
  refine WC.sub hsub ?_
  clear hsub e8
  refine WC.cond rfl (fun hc5 => ?_) (fun hc5 => ?_)
  ·try simp only [tstS] at hc5
   have hk : o.kind = 2 ∨ o.kind = 3 ∨ o.kind = 13 := by omega
   refine cg <| zm rfl <| vq (Val.loadBN agg33 rfl hb3.blk rfl) <| ve (Eff.call pf59 rfl (mupload_ok h hS hO hrT hrS)) ?_
   rintro v24 w5 ⟨c5, m, ⟨h, rfl⟩⟩
   replace hJ := hJ.mv m; replace hb4 := hb4.mv m
   refine zm rfl <| vq (Val.extract rfl rfl) <| vq (Val.extract rfl rfl) <| WR.eff_ (Eff.storeNC agg51 rfl rfl hb4 rfl rfl ones) ?_
   rintro _ w6 ⟨hS, m⟩
   replace hJ := hJ.mv m; replace h := h.mv m
   replace hb4 := hS
   refine za rfl <| cnil ?_
   have e : doM S o = doUp S o := by rw [doM, if_neg (by omega), if_pos hk]
   exact ⟨_, (doUp S o).1, (doUp S o).2, subs, hJ, h, hb4, by rw [e], re_up S o, by rw [opOk, Bool.and_eq_true, decide_eq_true_eq, decide_eq_true_eq]; omega⟩
  try simp only [tstS] at hc5
  refine cseq <| cseq <| cg <| vq (Val.eql rfl rfl) <| za rfl <| cnil ?_
  refine WC.mono (N := (fun e w' => ∃ (c' : Nat → Nat), Sub [(4000000, .tuple #[]), (0, .pointer (some ⟨b, 0, none⟩)), (3, .pointer (some ⟨b3, 0, none⟩)), (4, .pointer (some ⟨b4, 0, none⟩)), (8, I o.kind), (27, .bool (decide (o.kind = 4) || decide (o.kind = 5) || decide (o.kind = 6) || decide (o.kind = 7)))] e ∧ OldJ c w colS c' w' ∧ StaO c' w' b S ∧ BlkC c' w' 103 b3 (encOp o) 33 ∧ BlkC c' w' 104 b4 [I 0, St [], I 0] 51)) ?_ ?_
  ·refine WC.cond rfl (fun hc9 => ?_) (fun hc9 => ?_)
   ·try simp only [tstS] at hc9
    refine cskip ?_
    have hn : o.kind = 4 := by assumption
    rw [show (decide (o.kind = 4) || decide (o.kind = 5) || decide (o.kind = 6) || decide (o.kind = 7)) = decide (o.kind = 4) by simp [hn]]
    exact ⟨_, subs, hJ, h, hb3, hb4⟩
   try simp only [tstS] at hc9
   refine cseq <| cg <| vq (Val.eql rfl rfl) <| za rfl <| cnil <| WC.cond rfl (fun hc10 => ?_) (fun hc10 => ?_)
   ·try simp only [tstS] at hc10
    refine cskip ?_
    have hn : ¬ o.kind = 4 := by assumption
    by_cases h5 : o.kind = 5
    · rw [show (decide (o.kind = 4) || decide (o.kind = 5) || decide (o.kind = 6) || decide (o.kind = 7)) = decide (o.kind = 5) by simp [h5]]
      first
        | exact absurd h5 (by assumption)
        | exact ⟨_, subs, hJ, h, hb3, hb4⟩
    by_cases h6 : o.kind = 6
    · rw [show (decide (o.kind = 4) || decide (o.kind = 5) || decide (o.kind = 6) || decide (o.kind = 7)) = decide (o.kind = 6) by simp [h6]]
      first
        | exact absurd (show o.kind = 5 by assumption) h5
        | exact absurd h6 (by assumption)
        | exact ⟨_, subs, hJ, h, hb3, hb4⟩
    rw [show (decide (o.kind = 4) || decide (o.kind = 5) || decide (o.kind = 6) || decide (o.kind = 7)) = decide (o.kind = 7) by simp [hn, h5, h6]]
    first
      | exact absurd (show o.kind = 5 by assumption) h5
      | exact absurd (show o.kind = 6 by assumption) h6
      | exact ⟨_, subs, hJ, h, hb3, hb4⟩
   try simp only [tstS] at hc10
   refine cseq <| cg <| vq (Val.eql rfl rfl) <| za rfl <| cnil <| WC.cond rfl (fun hc11 => ?_) (fun hc11 => ?_)
   ·try simp only [tstS] at hc11
    refine cskip ?_
    have hn : ¬ o.kind = 4 := by assumption
    by_cases h5 : o.kind = 5
    · rw [show (decide (o.kind = 4) || decide (o.kind = 5) || decide (o.kind = 6) || decide (o.kind = 7)) = decide (o.kind = 5) by simp [h5]]
      first
        | exact absurd h5 (by assumption)
        | exact ⟨_, subs, hJ, h, hb3, hb4⟩
    by_cases h6 : o.kind = 6
    · rw [show (decide (o.kind = 4) || decide (o.kind = 5) || decide (o.kind = 6) || decide (o.kind = 7)) = decide (o.kind = 6) by simp [h6]]
      first
        | exact absurd (show o.kind = 5 by assumption) h5
        | exact absurd h6 (by assumption)
        | exact ⟨_, subs, hJ, h, hb3, hb4⟩
    rw [show (decide (o.kind = 4) || decide (o.kind = 5) || decide (o.kind = 6) || decide (o.kind = 7)) = decide (o.kind = 7) by simp [hn, h5, h6]]
    first
      | exact absurd (show o.kind = 5 by assumption) h5
      | exact absurd (show o.kind = 6 by assumption) h6
      | exact ⟨_, subs, hJ, h, hb3, hb4⟩
   try simp only [tstS] at hc11
   refine cg <| vq (Val.eql rfl rfl) <| za rfl <| cnil ?_
   have hn : ¬ o.kind = 4 := by assumption
   by_cases h5 : o.kind = 5
   · rw [show (decide (o.kind = 4) || decide (o.kind = 5) || decide (o.kind = 6) || decide (o.kind = 7)) = decide (o.kind = 5) by simp [h5]]
     first
       | exact absurd h5 (by assumption)
       | exact ⟨_, subs, hJ, h, hb3, hb4⟩
   by_cases h6 : o.kind = 6
   · rw [show (decide (o.kind = 4) || decide (o.kind = 5) || decide (o.kind = 6) || decide (o.kind = 7)) = decide (o.kind = 6) by simp [h6]]
     first
       | exact absurd (show o.kind = 5 by assumption) h5
       | exact absurd h6 (by assumption)
       | exact ⟨_, subs, hJ, h, hb3, hb4⟩
   rw [show (decide (o.kind = 4) || decide (o.kind = 5) || decide (o.kind = 6) || decide (o.kind = 7)) = decide (o.kind = 7) by simp [hn, h5, h6]]
   first
     | exact absurd (show o.kind = 5 by assumption) h5
     | exact absurd (show o.kind = 6 by assumption) h6
     | exact ⟨_, subs, hJ, h, hb3, hb4⟩
  rintro e8 w8' ⟨c8', hsub, hJ, h, hb3, hb4⟩
  refine WC.sub hsub ?_
  clear hsub e8
  refine WC.cond rfl (fun hc9 => ?_) (fun hc9 => ?_)
  ·try simp only [tstS] at hc9
   have hk : 4 ≤ o.kind ∧ o.kind ≤ 7 := by omega
   refine cg <| zm rfl <| vq (Val.loadBN agg33 rfl hb3.blk rfl) <| ve (Eff.call pf60 rfl (masked_ok h hS hO hrT)) ?_
   rintro v35 w7 ⟨c7, m, ⟨h, rfl⟩⟩
   replace hJ := hJ.mv m; replace hb4 := hb4.mv m
   refine zm rfl <| vq (Val.extract rfl rfl) <| vq (Val.extract rfl rfl) <| WR.eff_ (Eff.storeNC agg51 rfl rfl hb4 rfl rfl ones) ?_
   rintro _ w8 ⟨hS, m⟩
   replace hJ := hJ.mv m; replace h := h.mv m
   replace hb4 := hS
   refine za rfl <| cnil ?_
   have e : doM S o = doThing S o := by rw [doM, if_neg (by omega), if_neg (by omega), if_pos hk]
   exact ⟨_, (doThing S o).1, (doThing S o).2, subs, hJ, h, hb4, by rw [e], re_thing S o, by rw [opOk, Bool.and_eq_true, decide_eq_true_eq, decide_eq_true_eq]; omega⟩
  try simp only [tstS] at hc9
  refine cseq <| cg <| vq (Val.eql rfl rfl) <| za rfl <| cnil <| WC.cond rfl (fun hc14 => ?_) (fun hc14 => ?_)
  ·try simp only [tstS] at hc14
   have hk : o.kind = 8 := by assumption
   refine cg <| zm rfl <| vq (Val.loadBN agg33 rfl hb3.blk rfl) <| ve (Eff.call pf61 rfl (mlisted_ok h hS hO hrT)) ?_
   rintro v43 w9 ⟨c9, m, ⟨h, rfl⟩⟩
   replace hJ := hJ.mv m; replace hb4 := hb4.mv m
   refine zm rfl <| vq (Val.extract rfl rfl) <| vq (Val.extract rfl rfl) <| WR.eff_ (Eff.storeNC agg51 rfl rfl hb4 rfl rfl ones) ?_
   rintro _ w10 ⟨hS, m⟩
   replace hJ := hJ.mv m; replace h := h.mv m
   replace hb4 := hS
   refine za rfl <| cnil ?_
   have e : doM S o = doMan S o := by rw [doM, if_neg (by omega), if_neg (by omega), if_neg (by omega), if_pos hk]
   exact ⟨_, (doMan S o).1, (doMan S o).2, subs, hJ, h, hb4, by rw [e], re_man S o, by rw [opOk, hk]; rfl⟩
  try simp only [tstS] at hc14
  refine cseq <| cseq <| cg <| vq (Val.eql rfl rfl) <| za rfl <| cnil ?_
  refine WC.mono (N := (fun e w' => ∃ (c' : Nat → Nat), Sub [(4000000, .tuple #[]), (0, .pointer (some ⟨b, 0, none⟩)), (3, .pointer (some ⟨b3, 0, none⟩)), (4, .pointer (some ⟨b4, 0, none⟩)), (8, I o.kind), (46, .bool (decide (o.kind = 9) || decide (o.kind = 10) || decide (o.kind = 11)))] e ∧ OldJ c w colS c' w' ∧ StaO c' w' b S ∧ BlkC c' w' 103 b3 (encOp o) 33 ∧ BlkC c' w' 104 b4 [I 0, St [], I 0] 51)) ?_ ?_
  ·refine WC.cond rfl (fun hc16 => ?_) (fun hc16 => ?_)
   ·try simp only [tstS] at hc16
    refine cskip ?_
    have hn : o.kind = 9 := by assumption
    rw [show (decide (o.kind = 9) || decide (o.kind = 10) || decide (o.kind = 11)) = decide (o.kind = 9) by simp [hn]]
    exact ⟨_, subs, hJ, h, hb3, hb4⟩
   try simp only [tstS] at hc16
   refine cseq <| cg <| vq (Val.eql rfl rfl) <| za rfl <| cnil <| WC.cond rfl (fun hc17 => ?_) (fun hc17 => ?_)
   ·try simp only [tstS] at hc17
    refine cskip ?_
    have hn : ¬ o.kind = 9 := by assumption
    by_cases h10 : o.kind = 10
    · rw [show (decide (o.kind = 9) || decide (o.kind = 10) || decide (o.kind = 11)) = decide (o.kind = 10) by simp [h10]]
      first
        | exact absurd h10 (by assumption)
        | exact ⟨_, subs, hJ, h, hb3, hb4⟩
    rw [show (decide (o.kind = 9) || decide (o.kind = 10) || decide (o.kind = 11)) = decide (o.kind = 11) by simp [hn, h10]]
    first
      | exact absurd (show o.kind = 10 by assumption) h10
      | exact ⟨_, subs, hJ, h, hb3, hb4⟩
   try simp only [tstS] at hc17
   refine cg <| vq (Val.eql rfl rfl) <| za rfl <| cnil ?_
   have hn : ¬ o.kind = 9 := by assumption
   by_cases h10 : o.kind = 10
   · rw [show (decide (o.kind = 9) || decide (o.kind = 10) || decide (o.kind = 11)) = decide (o.kind = 10) by simp [h10]]
     first
       | exact absurd h10 (by assumption)
       | exact ⟨_, subs, hJ, h, hb3, hb4⟩
   rw [show (decide (o.kind = 9) || decide (o.kind = 10) || decide (o.kind = 11)) = decide (o.kind = 11) by simp [hn, h10]]
   first
     | exact absurd (show o.kind = 10 by assumption) h10
     | exact ⟨_, subs, hJ, h, hb3, hb4⟩
  rintro e8 w8' ⟨c8', hsub, hJ, h, hb3, hb4⟩
  refine WC.sub hsub ?_
  clear hsub e8
  refine WC.cond rfl (fun hc16 => ?_) (fun hc16 => ?_)
  ·try simp only [tstS] at hc16
   have hk : o.kind = 9 ∨ o.kind = 10 ∨ o.kind = 11 := by omega
   refine cg <| zm rfl <| vq (Val.loadBN agg33 rfl hb3.blk rfl) <| ve (Eff.call pf62 rfl (mtagged_ok h hS hO hrT hrG hk)) ?_
   rintro v53 w11 ⟨c11, m, ⟨h, rfl⟩⟩
   replace hJ := hJ.mv m; replace hb4 := hb4.mv m
   refine zm rfl <| vq (Val.extract rfl rfl) <| vq (Val.extract rfl rfl) <| WR.eff_ (Eff.storeNC agg51 rfl rfl hb4 rfl rfl ones) ?_
   rintro _ w12 ⟨hS, m⟩
   replace hJ := hJ.mv m; replace h := h.mv m
   replace hb4 := hS
   refine za rfl <| cnil ?_
   have e : doM S o = doTag S o := by rw [doM, if_neg (by omega), if_neg (by omega), if_neg (by omega), if_neg (by omega), if_pos (by omega)]
   exact ⟨_, (doTag S o).1, (doTag S o).2, subs, hJ, h, hb4, by rw [e], re_tag S o, by rw [opOk, Bool.and_eq_true, decide_eq_true_eq, decide_eq_true_eq]; omega⟩
  try simp only [tstS] at hc16
  refine cseq <| cg <| vq (Val.eql rfl rfl) <| za rfl <| cnil <| WC.cond rfl (fun hc20 => ?_) (fun hc20 => ?_)
  ·try simp only [tstS] at hc20
   have hk : o.kind = 12 := by assumption
   refine cg <| zm rfl <| ve (Eff.call pf63 rfl (msweep_ok h hS hrT)) ?_
   rintro v60 w13 ⟨c13, m, ⟨h, rfl⟩⟩
   replace hJ := hJ.mv m; replace hb4 := hb4.mv m
   refine zm rfl <| vq (Val.extract rfl rfl) <| vq (Val.extract rfl rfl) <| WR.eff_ (Eff.storeNC agg51 rfl rfl hb4 rfl rfl ones) ?_
   rintro _ w14 ⟨hS, m⟩
   replace hJ := hJ.mv m; replace h := h.mv m
   replace hb4 := hS
   refine za rfl <| cnil ?_
   have e : doM S o = doSweep S := by rw [doM, if_neg (by omega), if_neg (by omega), if_neg (by omega), if_neg (by omega), if_neg (by omega)]
   exact ⟨_, (doSweep S).1, (doSweep S).2, subs, hJ, h, hb4, by rw [e], re_sweep S, by rw [opOk, hk]; rfl⟩
  try simp only [tstS] at hc20
  refine cseq <| cg <| vq (Val.loadBN agg51 rfl hb4.blk rfl) <| WR.eff_ (Eff.storeNC agg51 rfl rfl hb4 rfl rfl ones) ?_
  rintro _ w15 ⟨hS, m⟩
  replace hJ := hJ.mv m; replace h := h.mv m
  replace hb4 := hS
  refine za rfl <| za rfl <| cnil <| WC.retR3 rfl (RVal.cellN agg51 rfl hb4.blk rfl) (RVal.tmp rfl) (RVal.tmp rfl) ?_
  have e : opOk o = false := by
    cases hx : opOk o with
    | false => rfl
    | true => rw [opOk, Bool.and_eq_true, decide_eq_true_eq, decide_eq_true_eq] at hx; omega
  rw [e]
  exact ⟨_, hJ.out, h.out hJ, rfl⟩
 rintro e9 w9 ⟨c9, S', r, hsub, hJ, h, hb4, e, hre, hop⟩
 refine WC.sub hsub ?_
 clear hsub e9
 refine cseq <| cseq <| cg <| zm rfl <| vq (Val.neq rfl rfl) <| cnil <| WC.mono (N := (fun e w' => ∃ (c' : Nat → Nat), Sub [(4000000, .tuple #[]), (4, .pointer (some ⟨b4, 0, none⟩)), (5, I r.err)] e ∧ OldJ c w colS c' w' ∧ StaO c' w' b S' ∧ BlkC c' w' 104 b4 (encRep r) 51)) ?_ ?_
 ·refine WC.cond rfl (fun hc22 => ?_) (fun hc22 => ?_)
  ·try simp only [tstS] at hc22
   refine cg <| zm rfl <| vq (Val.build (cells := #[I 0, St [], I r.err]) rfl (by kernel_rfl)) ?_
   refine WR.eff_ (Eff.storeNC agg51 rfl rfl hb4 rfl rfl ones) ?_
   rintro _ w16 ⟨hS, m⟩
   replace hJ := hJ.mv m; replace h := h.mv m
   replace hb4 := hS
   refine cnil ?_
   have er : r = ⟨0, [], r.err⟩ := hre.resolve_left (by assumption)
   exact ⟨_, subs, hJ, h, by rw [er]; exact hb4⟩
  try simp only [tstS] at hc22
  refine cskip ?_
  have er : r.err = 0 := by assumption
  exact ⟨_, subs, hJ, h, by rw [if_pos er] at hb4; exact hb4⟩
 rintro e8 w8' ⟨c8', hsub, hJ, h, hb4⟩
 refine WC.sub hsub ?_
 clear hsub e8
 refine cseq <| cg <| vq (Val.loadBN agg51 rfl hb4.blk rfl) <| zm rfl <| WR.eff_ (Eff.storeNC agg51 rfl rfl hb4 rfl rfl ones) ?_
 rintro _ w17 ⟨hS, m⟩
 replace hJ := hJ.mv m; replace h := h.mv m
 replace hb4 := hS
 refine za rfl <| za rfl <| cnil <| WC.retR3 rfl (RVal.cellN agg51 rfl hb4.blk rfl) (RVal.tmp rfl) (RVal.tmp rfl) ?_
 rw [hop, e]
 exact ⟨_, hJ.out, h.out hJ, rfl⟩
end Go.Proofs.YtdlpibhecdfbcabGreatDoor

namespace Silo
open Go Go.Eng
theorem lead_drop {h : List UInt8} {f i : Nat} (hfi : f ≤ i) (hi : i ≤ h.length) (hb : ∀ j (hj : j < h.length), f ≤ j → j < i → (h[j] == 47) = false) (he : i = h.length ∨ ∃ hl : i < h.length, (h[i] == 47) = true) : leadB 47 (h.drop f) = i - f := by
 refine lead_eq (by rw [List.length_drop]; omega) (fun j hj hji => ?_) (fun hl => ?_)
 · rw [List.length_drop] at hj
   rw [List.getElem_drop, hb (f + j) (by omega) (by omega) (by omega)]; rfl
 rw [List.length_drop] at hl
 rcases he with he | ⟨h1, h2⟩
 · omega
 have e : (h.drop f)[i - f] = h[i] := by rw [List.getElem_drop]; congr 1; omega
 rw [e, h2]; rfl
theorem parts_step {h : List UInt8} {f i : Nat} (hfi : f ≤ i) (hi : i < h.length) (hb : ∀ j (hj : j < h.length), f ≤ j → j < i → (h[j] == 47) = false) (he : (h[i] == 47) = true) : parts (h.drop f) = (h.drop f).take (i - f) :: parts (h.drop (i + 1)) := by
  have hl := lead_drop hfi (by omega) hb (.inr ⟨hi, he⟩)
  rw [parts_some (by rw [hl, List.length_drop]; omega), hl, List.drop_drop]
  congr 3; omega
theorem parts_last {h : List UInt8} {f : Nat} (hfi : f ≤ h.length) (hb : ∀ j (hj : j < h.length), f ≤ j → j < h.length → (h[j] == 47) = false) : parts (h.drop f) = [(h.drop f).take (h.length - f)] := by
  have hl := lead_drop hfi (Nat.le_refl _) hb (.inl rfl)
  rw [parts_none (by rw [hl, List.length_drop]; omega), List.take_of_length_le (by rw [List.length_drop]; omega)]
theorem nameOk_parts {s : List UInt8} {x : List UInt8} (hx : x ∈ parts (cutB 58 s).1) (h : partP x = false) : nameOk s = false := by
  obtain ⟨i, hi, rfl⟩ := List.mem_iff_getElem.1 hx
  exact nameOk_bad hi h
end Silo
namespace Go.Proofs.YtdlpibhecdfbcabGreatDoor
open Go Go.Eng Go.RowKit Silo TryzT
set_option maxHeartbeats 1000000 in
theorem pname_ok {w : World} (s : List UInt8) (hs : s.length ≤ 140737488355328) : Calls Tryz.prog 39 #[St s] w (Ret fun u w' => Below w.heap.size w w' ∧ ∃ a b, u = .tuple #[a, b, .bool (nameOk s)]) := by
 obtain ⟨c, hO, hc⟩ := OldC.start w
 clear hc
 refine enter (n := 68) (res := #[.tmp 2, .tmp 3, .tmp 4]) Tryz.func39 rfl rfl rfl rfl <| cseq <| cg <| za rfl <| za rfl <| za rfl <| cnil <| cseq <| cseq <| cg <| zm rfl <| vq (Val.slen Tryz.underlying9 rfl) <| vq (Val.gtr rfl rfl) <| cnil <| WC.cond rfl (fun hc1 => ?_) (fun hc1 => ?_)
 ·try simp only [tstS] at hc1
  refine cseq <| cg <| za rfl <| za rfl <| za rfl <| cnil <| WC.ret3 rfl rfl rfl rfl ?_
  exact ⟨hO.below, _, _, by rw [nameOk, decide_eq_false (by omega)]; rfl⟩
 try simp only [tstS] at hc1
 refine cskip <| cseq <| cg <| zm rfl <| za rfl <| za rfl <| cnil <| cseq <| cseq <| cg <| za rfl <| cnil <| WC.mono (N := (fun e w' => ∃ c', Sub [(4000000, .tuple #[]), (5, St (verOf s)), (6, St (cutB 58 s).1)] e ∧ OldC w c' w')) ?_ ?_
 ·refine cblock ?_
  refine WC.loop (σ := Nat) (fun k => [(0, St s), (5, St [108, 97, 116, 101, 115, 116]), (6, St s), (7, I k)]) (fun k w' => ∃ c', OldC w c' w' ∧ k ≤ s.length ∧ ∀ i (h : i < s.length), i < k → (fun x => !(x == (58 : UInt8))) s[i] = true) (fun k => s.length - k) 0 subs ⟨_, hO, by omega, fun i _ h => absurd h (Nat.not_lt_zero _)⟩ ?_
  clear hO
  rintro k wl ⟨cl, hO, hk, hb⟩
  refine cseq <| cseq <| cg <| zm rfl <| zm rfl <| vq (Val.slen Tryz.underlying9 rfl) <| vq (Val.lss rfl rfl) <| cnil <| WC.cond rfl (fun hc5 => ?_) (fun hc5 => ?_)
  ·try simp only [tstS] at hc5
   have ka : k < s.length := by omega
   refine cskip <| cseq <| cblock <| cseq <| cg <| zm rfl <| zm rfl <| vq (Val.sindex Tryz.underlying9 rfl rfl (by omega) (at_nat ka)) <| vq (Val.eql rfl rfl) ?_
   rw [show decide ((s[k].toNat : Int) = 58) = (s[k] == 58) from byteIs _ 58]
   refine cnil <| WC.cond rfl (fun hc7 => ?_) (fun hc7 => ?_)
   ·try simp only [tstS] at hc7
    refine cseq <| WC.regionD (Kp cl wl []) [0, 0, 0, 0, 0, 0, 0, 0, 0] [0, 1, 2, 3, 4, 5, 6, 7, 8] mixed (by kernel_rfl) ?_
    have m := Mv.drew cl wl []
    have hCw := Mv.drew cl wl []
    generalize wl.drew = w1 at m hCw ⊢
    replace hO := hO.mv m
    refine zdm rfl rfl <| zdm rfl rfl <| vd rfl (fun _ => Val.ssliceTo Tryz.underlying9 rfl rfl side side) <| zdm rfl rfl <| zdm rfl rfl <| vd rfl (fun _ => Val.addI rfl rfl side side) <| vd rfl (fun _ => Val.ssliceFrom Tryz.underlying9 rfl rfl side side) <| zda rfl rfl <| zda rfl rfl ?_
    refine WD.nil ?_
    clear hCw
    refine WC.exit rfl ?_
    have hl : leadB 58 s = k := lead_eq hk hb fun h => by rw [hc7]; rfl
    have hcb : cutB 58 s = (s.take k, some (s.drop (k + 1))) := by
      unfold cutB; rw [show lead (fun x => !(x == (58 : UInt8))) s = k from hl, if_pos ka]
    have hv : verOf s = s.drop (k + 1) := by rw [verOf, hcb]
    have e1 : ((k : Int) + 1).toNat = k + 1 := by omega
    rw [hv, hcb]
    rw [e1]
    exact ⟨_, subs, hO⟩
   try simp only [tstS] at hc7
   refine cskip <| cg <| zm rfl <| vq (Val.addI rfl rfl side side) <| za rfl <| cnil ?_
   exact ⟨k + 1, subs, ⟨_, hO, ka, all_upto (p := fun x => !(x == (58 : UInt8))) ka hb (by rw [hc7]; rfl)⟩, by omega⟩
  try simp only [tstS] at hc5
  refine WC.exit rfl ?_
  have hk2 : k = s.length := by omega
  have hl : leadB 58 s = k := lead_eq hk hb fun h => by omega
  have hcb : cutB 58 s = (s, none) := by
    unfold cutB; rw [show lead (fun x => !(x == (58 : UInt8))) s = k from hl, if_neg (by omega), List.take_of_length_le (by omega)]
  have hv : verOf s = [108, 97, 116, 101, 115, 116] := by rw [verOf, hcb]
  rw [hv, hcb]
  exact ⟨_, subs, hO⟩
 rintro e5 w5' ⟨c5', hsub, hO⟩
 refine WC.sub hsub ?_
 have hal : (cutB 58 s).1.length ≤ s.length := by unfold cutB; rw [List.length_take]; omega
 have hvl : (verOf s).length ≤ 140737488355328 := verOf_len hs
 have hs40 : s.length ≤ 40 := by omega
 have hnp := fun x hx => nameOk_parts (s := s) (x := x) hx
 have hna := fun h => nameOk_all hs40 h
 generalize (cutB 58 s).1 = h at hal hnp hna ⊢
 clear hsub
 refine cseq <| cg <| za rfl <| cnil <| cseq <| cg <| za rfl <| cnil <| cseq <| cseq <| cg <| za rfl <| cnil <| cblock <| WC.loop (σ := Nat × Nat × List (List UInt8) × Value) (fun st => [(5, St (verOf s)), (6, St h), (8, st.2.2.2), (9, I st.2.1), (10, I st.1)]) (fun st w' => ∃ c', OldC w c' w' ∧ OwnC c' w' 50 9 1 st.2.2.2 st.2.2.1.length (st.2.2.1.flatMap fun x => [St x]) ∧ st.2.2.1.length ≤ st.1 ∧ st.2.1 ≤ st.1 ∧ st.1 ≤ h.length + 1 ∧ (∀ x ∈ st.2.2.1, partP x = true) ∧ (if st.1 ≤ h.length then parts h = st.2.2.1 ++ parts (h.drop st.2.1) ∧ ∀ j (hj : j < h.length), st.2.1 ≤ j → j < st.1 → (h[j] == 47) = false else parts h = st.2.2.1)) (fun st => h.length + 1 - st.1) (0, 0, [], .slice none 0 0) subs ⟨_, hO, OwnC.nil _ _ _ _ _, by simp, by simp, by simp, by simp, by simp⟩ ?_
 clear hO
 rintro ⟨i, f, L, v8⟩ wl ⟨cl, hO, ho, hLl, hfi, hi, hL, hq⟩
 dsimp only at hO ho hLl hfi hi hL hq ⊢
 refine cseq <| cseq <| cg <| zm rfl <| zm rfl <| vq (Val.slen Tryz.underlying9 rfl) <| vq (Val.leq rfl rfl) <| cnil <| WC.cond rfl (fun hc12 => ?_) (fun hc12 => ?_)
 ·try simp only [tstS] at hc12
  have ia : i ≤ h.length := by omega
  rw [if_pos ia] at hq
  obtain ⟨hq1, hq2⟩ := hq
  refine cskip <| cseq <| cblock <| cseq <| cg <| zm rfl <| zm rfl <| vq (Val.slen Tryz.underlying9 rfl) <| vq (Val.eql rfl rfl) <| zm rfl ?_
  apply WR.sc false 4 (decide (i < h.length) && (h[i]? == some 47)) (fun w' => wl = w')
  case hl | hg | hu | hv | hs | hoff | hd => rfl
  case hF => exact fun _ => rfl
  case hT =>
   intro hq9
   try simp only [tstS] at hq9
   simp only [List.take_succ_cons, List.take_zero]
   refine WR.on rfl rfl <| zm rfl <| WR.on rfl rfl <| zm rfl <| WR.on rfl rfl <| vq (Val.sindex Tryz.underlying9 rfl rfl (by omega) (at_nat (show i < h.length by omega))) ?_
   refine WR.on rfl rfl <| vq (Val.eql rfl rfl) ?_
   exact WR.nil ⟨(by rw [List.getElem?_eq_getElem (show i < h.length by omega), decide_eq_true (show i < h.length by omega)]; exact congrArg (fun b => some (Value.bool b)) (byteIs _ 47)), Sub.drop _ 4 _ rfl rfl, rfl⟩
  rintro _ rfl
  refine cnil <| WC.mono (N := (fun e w' => ∃ c' f' L' v', Sub [(4000000, .tuple #[]), (5, St (verOf s)), (6, St h), (8, v'), (9, I (f' : Nat)), (10, I i)] e ∧ OldC w c' w' ∧ OwnC c' w' 50 9 1 v' L'.length (L'.flatMap fun x => [St x]) ∧ L'.length ≤ i + 1 ∧ f' ≤ i + 1 ∧ (∀ x ∈ L', partP x = true) ∧ (if i + 1 ≤ h.length then parts h = L' ++ parts (h.drop f') ∧ ∀ j (hj : j < h.length), f' ≤ j → j < i + 1 → (h[j] == 47) = false else parts h = L'))) ?_ ?_
  ·refine WC.cond rfl (fun hc14 => ?_) (fun hc14 => ?_)
   ·try simp only [tstS] at hc14
    have hst : (if i + 1 ≤ h.length then parts h = (L ++ [(h.drop f).take (i - f)]) ++ parts (h.drop (i + 1)) else parts h = L ++ [(h.drop f).take (i - f)]) := by
      rcases Nat.eq_or_lt_of_le ia with h1 | h1
      · subst h1
        rw [if_neg (by omega), hq1, parts_last hfi hq2]
      rw [if_pos (show i + 1 ≤ h.length from h1)]
      have h2 : (h[i] == 47) = true := by
        rcases hc14 with h3 | h3
        · omega
        rw [List.getElem?_eq_getElem h1] at h3; simpa using h3.2
      rw [hq1, parts_step hfi h1 hq2 h2, List.append_assoc]; rfl
    have hmem : (h.drop f).take (i - f) ∈ parts h := by
      split at hst <;> rw [hst] <;> simp
    refine cseq <| cseq <| cg <| zm rfl <| zm rfl <| zm rfl <| vq (Val.sslice Tryz.underlying9 rfl rfl rfl (by omega) (by omega) (by omega)) ?_
    have htl : ((h.drop f).take (i - f)).length ≤ 140737488355328 := by rw [List.length_take, List.length_drop]; omega
    have htk : List.take ((i : Int).toNat - (f : Int).toNat) (List.drop (f : Int).toNat h) = (h.drop f).take (i - f) := rfl
    rw [htk]
    generalize hu : (h.drop f).take (i - f) = u at hst hmem htl htk ⊢
    refine ve (Eff.pureC cl 1 (Eff.call pf56 rfl (ppart_ok u htl))) ?_
    rintro v52 w2 ⟨c2, m, hx2, rfl⟩
    replace hO := hO.mv m; replace ho := ho.mv m
    refine vq (Val.not rfl) <| cnil <| WC.cond rfl (fun hc15 => ?_) (fun hc15 => ?_)
    ·try simp only [tstS] at hc15
     refine cseq <| cg <| za rfl <| za rfl <| za rfl <| cnil <| WC.ret3 rfl rfl rfl rfl ?_
     exact ⟨hO.below, _, _, by rw [hnp u hmem (by simpa using hc15)]⟩
    try simp only [tstS] at hc15
    refine cskip <| cseq <| cg <| zm rfl <| zm rfl <| zm rfl <| zm rfl <| vq (Val.sslice Tryz.underlying9 rfl rfl rfl (by omega) (by omega) (by omega)) ?_
    rw [htk]
    refine ve (Eff.build1C c2 159 sl70 rfl rfl rfl rfl rfl) ?_
    rintro _ w3 ⟨b59, c3, rfl, m, hb59⟩
    replace hO := hO.mv m; replace ho := ho.mv m
    refine ve (Eff.appendC sl70 rfl rfl ho (Src.cellsAt Tryz.underlying70 hb59.blk.cellsAt rfl ones) mxl oms) ?_
    rintro v60 w4 ⟨c4, m, hOq⟩
    clear hb59
    replace hO := hO.mv m
    replace ho := hOq
    refine za rfl <| cnil <| cg <| zm rfl <| vq (Val.addI rfl rfl side side) <| za rfl <| cnil ?_
    have eo : ((L ++ [u]).flatMap fun x => [St x]) = (L.flatMap fun x => [St x]) ++ [St u] := by rw [List.flatMap_append]; rfl
    exact ⟨_, i + 1, L ++ [u], _, subs, hO, by rw [eo, List.length_append]; exact ho, by simp; omega, by simp, fun x hx => (List.mem_append.1 hx).elim (hL x) (fun hx => by rw [List.mem_singleton.1 hx]; simpa using hc15), by
      by_cases h9 : i + 1 ≤ h.length
      · rw [if_pos h9] at hst ⊢; exact ⟨hst, fun j hj h1 h2 => by omega⟩
      rw [if_neg h9] at hst ⊢; exact hst⟩
   try simp only [tstS] at hc14
   refine cskip ?_
   have ib : i < h.length := by
     rcases Nat.eq_or_lt_of_le ia with h1 | h1
     · exact absurd (show (i : Int) = h.length by omega) hc14.1
     exact h1
   have h47 : (h[i] == 47) = false := by
     have h1 := hc14.2; rw [List.getElem?_eq_getElem ib, decide_eq_true ib] at h1; simpa using h1
   exact ⟨_, f, L, v8, subs, hO, ho, by omega, by omega, hL, by
     rw [if_pos (show i + 1 ≤ h.length from ib)]
     exact ⟨hq1, fun j hj h1 h2 => by
       rcases Nat.lt_or_ge j i with h3 | h3
       · exact hq2 j hj h1 h3
       have : j = i := by omega
       subst this; exact h47⟩⟩
  rintro e6 w6' ⟨c6', f', L', v', hsub, hO, ho, h1, h2, h3, h4⟩
  refine WC.sub hsub <| cg <| zm rfl <| vq (Val.addI rfl rfl side side) <| za rfl <| cnil ?_
  exact ⟨(i + 1, f', L', v'), subs, ⟨_, hO, ho, h1, h2, by dsimp only; omega, h3, h4⟩, by dsimp only; omega⟩
 try simp only [tstS] at hc12
 rw [if_neg (by omega)] at hq
 have hall := hna fun j hj => hL _ (by rw [← hq]; exact List.getElem_mem hj)
 refine WC.exit rfl <| cseq <| cseq <| cg <| zm rfl <| ve (Eff.pureC cl 1 (Eff.call pf57 rfl (pversion_ok (verOf s) hvl))) ?_
 rintro v64 w5 ⟨c5, m, hx5, rfl⟩
 replace hO := hO.mv m
 refine vq (Val.not rfl) <| cnil <| WC.cond rfl (fun hc19 => ?_) (fun hc19 => ?_)
 ·try simp only [tstS] at hc19
  refine cseq <| cg <| za rfl <| za rfl <| za rfl <| cnil <| WC.ret3 rfl rfl rfl rfl ?_
  exact ⟨hO.below, _, _, by rw [hall, show verOk (verOf s) = false by simpa using hc19]⟩
 try simp only [tstS] at hc19
 refine cskip <| cseq <| cg <| zm rfl <| zm rfl <| za rfl <| za rfl <| za rfl <| cnil <| WC.ret3 rfl rfl rfl rfl ?_
 exact ⟨hO.below, _, _, by rw [hall, show verOk (verOf s) = true by simpa using hc19]⟩
end Go.Proofs.YtdlpibhecdfbcabGreatDoor

namespace Silo
open Go Go.Eng
theorem at_neg {T : List Thg} {d : List UInt8} {sub : Bool} (h : atT T d < 0) : isT T d sub = false := by
  cases hf : findT T d with
  | none => exact isT_none hf
  | some j => rw [atT, hf] at h; simp at h; omega
theorem there_bad1 {T : List Thg} {m : Man} {k : Nat} (hk : k < m.blobs.length) (h : isT T m.blobs[k] false = false) : thereT T m = false := by
  have : (m.blobs.all fun d => isT T d false) = false := by
    rw [List.all_eq_false]
    exact ⟨_, List.getElem_mem hk, by simp [h]⟩
  rw [thereT, this]; rfl
theorem there_bad2 {T : List Thg} {m : Man} {k : Nat} (hk : k < m.subs.length) (h : isT T m.subs[k] true = false) : thereT T m = false := by
  have : (m.subs.all fun d => isT T d true) = false := by
    rw [List.all_eq_false]
    exact ⟨_, List.getElem_mem hk, by simp [h]⟩
  rw [thereT, this, Bool.and_false]
theorem there_all {T : List Thg} {m : Man} (h1 : ∀ i (hi : i < m.blobs.length), isT T m.blobs[i] false = true) (h2 : ∀ i (hi : i < m.subs.length), isT T m.subs[i] true = true) : thereT T m = true := by
 rw [thereT, Bool.and_eq_true, List.all_eq_true, List.all_eq_true]
 refine ⟨fun x hx => ?_, fun x hx => ?_⟩
 · obtain ⟨i, hi, rfl⟩ := List.mem_iff_getElem.1 hx
   exact h1 i hi
 obtain ⟨i, hi, rfl⟩ := List.mem_iff_getElem.1 hx
 exact h2 i hi
theorem upto_next {α : Type} {p : α → Bool} {l : List α} {k : Nat} (hk : k < l.length) (hb : ∀ i (h : i < l.length), i < k → p l[i] = true) (h : p l[k] = true) : ∀ i (h : i < l.length), i < k + 1 → p l[i] = true := fun i hi hik => by
  rcases Nat.lt_or_ge i k with h1 | h1
  · exact hb i hi h1
  · have : i = k := by omega
    subst this; exact h
end Silo
namespace Go.Proofs.YtdlpibhecdfbcabGreatDoor
open Go Go.Eng Go.RowKit Silo TryzT
set_option maxHeartbeats 1000000 in
theorem pnames_ok {w : World} {v : Value} {T : List Thg} (s : List UInt8) (hs : s.length ≤ 1048576) (h0 : Rd thgS w v T) : Calls Tryz.prog 38 #[v, St s] w (Ret fun v' w' => Below w.heap.size w w' ∧ v' = .bool (namesOk T s)) := by
 obtain ⟨c, hO, hc⟩ := OldC.start w
 have hsm := h0.small
 have h1 : RdC thgS c w [0] v T := Rd.toC h0 (fun k hk => by simp [hc, hasC])
 clear hc h0
 obtain ⟨e1, e2, e3, e4, e5⟩ := manTake_texts (s := s)
 refine enter (n := 65) (res := #[.tmp 4]) Tryz.func38 rfl rfl rfl rfl <| cseq <| cg <| za rfl <| cnil <| cseq <| cg <| zm rfl <| ve (Eff.pureC c 7 (Eff.call pf55 rfl (pmtake_own s hs))) ?_
 rintro v13 w1 ⟨c1, hM1, hx1, ⟨u1, u2, rfl, g1, g2⟩⟩
 replace hO := hO.mv hM1; replace h1 := h1.mv hM1
 replace g1 := g1.toC hx1
 replace g2 := g2.toC hx1
 have q1 := g1.own.oneC; have q2 := g2.own.oneC
 replace g1 : RdC strS _ _ [7] u1 ((manTake s).getD man0).blobs := g1.rdFlat (by omega) e1
 replace g2 : RdC strS _ _ [7] u2 ((manTake s).getD man0).subs := g2.rdFlat (by omega) e2
 refine zm rfl <| vq (Val.extract rfl rfl) <| vq (Val.extract rfl rfl) <| ve (Eff.allocC c1 105 zero85) ?_
 rintro _ w2 ⟨b5, c2, rfl, hM2, hb5⟩
 replace hO := hO.mv hM2; replace h1 := h1.mv hM2; replace g1 := g1.mv hM2; replace g2 := g2.mv hM2
 refine WR.eff_ (Eff.storeNC agg85 rfl rfl hb5 rfl rfl ones) ?_
 rintro _ w3 ⟨hS, hM3⟩
 replace hO := hO.mv hM3; replace h1 := h1.mv hM3; replace g1 := g1.mv hM3; replace g2 := g2.mv hM3
 replace hb5 := hS
 refine za rfl <| cnil <| cseq <| cseq <| cg <| zm rfl <| vq (Val.not rfl) <| cnil <| WC.cond rfl (fun hc2 => ?_) (fun hc2 => ?_)
 ·try simp only [tstS] at hc2
  refine cseq <| cg <| za rfl <| cnil <| WC.ret1 rfl rfl ?_
  exact ⟨hO.below, by
    cases hm : manTake s with
    | none => rw [namesOk, hm]
    | some m => rw [hm] at hc2; simp at hc2⟩
 try simp only [tstS] at hc2
 have hnm := namesOk_some (T := T) (s := s) (by simpa using hc2)
 generalize (manTake s).getD man0 = m at hnm e1 e2 e3 e4 e5 g1 g2 hb5 ⊢
 refine cskip <| cseq <| cseq <| cg <| za rfl <| cnil <| cblock <| WC.loop (σ := Nat) (fun k => [(0, v), (5, .pointer (some ⟨b5, 0, none⟩)), (7, I k)]) (fun k w' => ∃ c', OldC w c' w' ∧ RdC thgS c' w' [0] v T ∧ RdC strS c' w' [7] u1 m.blobs ∧ RdC strS c' w' [7] u2 m.subs ∧ BlkC c' w' 105 b5 [I m.kind, u1, u2] 85 ∧ k ≤ m.blobs.length ∧ ∀ i (h : i < m.blobs.length), i < k → (fun d => isT T d false) m.blobs[i] = true) (fun k => m.blobs.length - k) 0 subs ⟨_, hO, h1, g1, g2, hb5, by omega, fun i _ h => absurd h (Nat.not_lt_zero _)⟩ ?_
 clear hO h1 g1 g2 hb5
 rintro k wl ⟨cl, hO, h1, g1, g2, hb5, hk, hb⟩
 refine cseq <| cseq <| cg <| zm rfl <| vq (Val.fieldAddr fld85_1 rfl) <| vq (Val.loadB scl70 rfl hb5.blk rfl) <| vq (Val.rdlenC sl70 g1 rfl) <| vq (Val.lss rfl rfl) <| cnil <| WC.cond rfl (fun hc5 => ?_) (fun hc5 => ?_)
 ·try simp only [tstS] at hc5
  have ka : k < m.blobs.length := by omega
  obtain ⟨hc29, _⟩ := RdC.elFlat g1 ka (by decide)
  refine cskip <| cseq <| cblock <| cseq <| cg <| zm rfl <| vq (Val.fieldAddr fld85_1 rfl) <| vq (Val.loadB scl70 rfl hb5.blk rfl) <| zm rfl <| vq (Val.indexAddr sl70 g1.now rfl rfl rfl (by omega) (by omega)) <| vq (Val.loadE1 scl9 rfl hc29.cel) ?_
  refine ve (Eff.pureC cl 1 (Eff.call pf40 rfl (at_ok h1.now))) ?_
  rintro v31 w4 ⟨c4, hM4, hx4, rfl⟩
  replace hO := hO.mv hM4; replace h1 := h1.mv hM4; replace g1 := g1.mv hM4; replace g2 := g2.mv hM4; replace hb5 := hb5.mv hM4
  refine za rfl <| cnil <| cseq <| cg <| zm rfl <| vq (Val.lss rfl rfl) <| zm rfl ?_
  apply WR.sc false 5 (!isT T m.blobs[k] false) (fun w' => w4 = w')
  case hl | hg | hu | hv | hs | hoff | hd => rfl
  case hF => exact fun _ => rfl
  case hT =>
   intro hq8
   try simp only [tstS] at hq8
   simp only [List.take_succ_cons, List.take_zero]
   obtain ⟨i0, hi0, hf0, hil0⟩ := at_find (T := T) (d := m.blobs[k]) (by omega)
   have htn : (atT T m.blobs[k]).toNat = i0 := by omega
   have hf : findT T m.blobs[k] = some (atT T m.blobs[k]).toNat := by rw [htn]; exact hf0
   have hil : (atT T m.blobs[k]).toNat < T.length := by omega
   obtain ⟨hc37, _⟩ := RdC.elFlat h1 hil (by decide)
   refine WR.on rfl rfl <| zm rfl <| WR.on rfl rfl <| zm rfl <| WR.on rfl rfl <| vq (Val.indexAddr sl22 h1.now rfl rfl rfl (by omega) (by omega)) ?_
   refine WR.on rfl rfl <| vq (Val.fieldAddrP fld60_2 rfl) <| WR.on rfl rfl <| vq (Val.loadEf scl4 rfl hc37.cel rfl) ?_
   exact WR.nil ⟨(by rw [isT_at hf hil]; cases T[(atT T m.blobs[k]).toNat].manifest <;> rfl), Sub.drop _ 5 _ rfl rfl, rfl⟩
  rintro _ rfl
  refine cnil <| WC.cond rfl (fun hc8 => ?_) (fun hc8 => ?_)
  ·try simp only [tstS] at hc8
   refine cseq <| cg <| za rfl <| cnil <| WC.ret1 rfl rfl ?_
   exact ⟨hO.below, by
     have hb2 : isT T m.blobs[k] false = false := by
       rcases hc8 with h | h
       · exact at_neg h
       simpa using h
     rw [hnm, there_bad1 ka hb2]⟩
  try simp only [tstS] at hc8
  refine cskip <| cg <| zm rfl <| vq (Val.addI rfl rfl side side) <| za rfl <| cnil ?_
  exact ⟨k + 1, subs, ⟨_, hO, h1, g1, g2, hb5, ka, upto_next (p := fun d => isT T d false) ka hb (by simpa using hc8.2)⟩, by omega⟩
 try simp only [tstS] at hc5
 have hall : ∀ i (h : i < m.blobs.length), isT T m.blobs[i] false = true := fun i h => hb i h (by omega)
 clear hb
 refine WC.exit rfl <| cseq <| cseq <| cg <| za rfl <| cnil <| cblock <| WC.loop (σ := Nat) (fun k => [(0, v), (5, .pointer (some ⟨b5, 0, none⟩)), (9, I k)]) (fun k w' => ∃ c', OldC w c' w' ∧ RdC thgS c' w' [0] v T ∧ RdC strS c' w' [7] u2 m.subs ∧ BlkC c' w' 105 b5 [I m.kind, u1, u2] 85 ∧ k ≤ m.subs.length ∧ ∀ i (h : i < m.subs.length), i < k → (fun d => isT T d true) m.subs[i] = true) (fun k => m.subs.length - k) 0 subs ⟨_, hO, h1, g2, hb5, by omega, fun i _ h => absurd h (Nat.not_lt_zero _)⟩ ?_
 clear hO h1 g1 g2 hb5
 rintro j wk ⟨ck, hO, h1, g2, hb5, hj, hb⟩
 refine cseq <| cseq <| cg <| zm rfl <| vq (Val.fieldAddr fld85_2 rfl) <| vq (Val.loadB scl70 rfl hb5.blk rfl) <| vq (Val.rdlenC sl70 g2 rfl) <| vq (Val.lss rfl rfl) <| cnil <| WC.cond rfl (fun hc11 => ?_) (fun hc11 => ?_)
 ·try simp only [tstS] at hc11
  have kj : j < m.subs.length := by omega
  obtain ⟨hc52, _⟩ := RdC.elFlat g2 kj (by decide)
  refine cskip <| cseq <| cblock <| cseq <| cg <| zm rfl <| vq (Val.fieldAddr fld85_2 rfl) <| vq (Val.loadB scl70 rfl hb5.blk rfl) <| zm rfl <| vq (Val.indexAddr sl70 g2.now rfl rfl rfl (by omega) (by omega)) <| vq (Val.loadE1 scl9 rfl hc52.cel) ?_
  refine ve (Eff.pureC ck 1 (Eff.call pf40 rfl (at_ok h1.now))) ?_
  rintro v54 w5 ⟨c5, hM5, hx5, rfl⟩
  replace hO := hO.mv hM5; replace h1 := h1.mv hM5; replace g2 := g2.mv hM5; replace hb5 := hb5.mv hM5
  refine za rfl <| cnil <| cseq <| cg <| zm rfl <| vq (Val.lss rfl rfl) <| zm rfl ?_
  apply WR.sc false 6 (!isT T m.subs[j] true) (fun w' => w5 = w')
  case hl | hg | hu | hv | hs | hoff | hd => rfl
  case hF => exact fun _ => rfl
  case hT =>
   intro hq9
   try simp only [tstS] at hq9
   simp only [List.take_succ_cons, List.take_zero]
   obtain ⟨i0, hi0, hf0, hil0⟩ := at_find (T := T) (d := m.subs[j]) (by omega)
   have htn : (atT T m.subs[j]).toNat = i0 := by omega
   have hf : findT T m.subs[j] = some (atT T m.subs[j]).toNat := by rw [htn]; exact hf0
   have hil : (atT T m.subs[j]).toNat < T.length := by omega
   obtain ⟨hc60, _⟩ := RdC.elFlat h1 hil (by decide)
   refine WR.on rfl rfl <| zm rfl <| WR.on rfl rfl <| zm rfl <| WR.on rfl rfl <| vq (Val.indexAddr sl22 h1.now rfl rfl rfl (by omega) (by omega)) ?_
   refine WR.on rfl rfl <| vq (Val.fieldAddrP fld60_2 rfl) <| WR.on rfl rfl <| vq (Val.loadEf scl4 rfl hc60.cel rfl) <| WR.on rfl rfl <| vq (Val.not rfl) ?_
   exact WR.nil ⟨(by rw [isT_at hf hil]; cases T[(atT T m.subs[j]).toNat].manifest <;> rfl), Sub.drop _ 6 _ rfl rfl, rfl⟩
  rintro _ rfl
  refine cnil <| WC.cond rfl (fun hc14 => ?_) (fun hc14 => ?_)
  ·try simp only [tstS] at hc14
   refine cseq <| cg <| za rfl <| cnil <| WC.ret1 rfl rfl ?_
   exact ⟨hO.below, by
     have hb2 : isT T m.subs[j] true = false := by
       rcases hc14 with h | h
       · exact at_neg h
       simpa using h
     rw [hnm, there_bad2 kj hb2]⟩
  try simp only [tstS] at hc14
  refine cskip <| cg <| zm rfl <| vq (Val.addI rfl rfl side side) <| za rfl <| cnil ?_
  exact ⟨j + 1, subs, ⟨_, hO, h1, g2, hb5, kj, upto_next (p := fun d => isT T d true) kj hb (by simpa using hc14.2)⟩, by omega⟩
 try simp only [tstS] at hc11
 refine WC.exit rfl <| cseq <| cg <| za rfl <| cnil <| WC.ret1 rfl rfl ?_
 exact ⟨hO.below, by rw [hnm, there_all hall fun i h => hb i h (by omega)]⟩
end Go.Proofs.YtdlpibhecdfbcabGreatDoor

namespace Silo
open Go Go.Eng
theorem tagAt_int2 {S : Sta} {k : Nat} (ka : k < S.tags.length) (hp : ((k : Int) - 1).toNat < S.tags.length) : tagAt S k = (nameOk S.tags[k].name && isT S.things S.tags[k].digest true && !(decide (0 < (k : Int)) && !Op.bytesLess S.tags[((k : Int) - 1).toNat].name S.tags[k].name)) := by
  rw [tagAt_int ka hp, less_not S.tags[((k : Int) - 1).toNat].name S.tags[k].name, Bool.not_not]
theorem staMay_parts {S : Sta} (h1 : (decide (0 ≤ S.next) && decide (S.next ≤ 1073741824)) = true) (h2 : S.sessions.length ≤ 8) (h3 : thgsMay S.things = true) (h4 : S.tags.length ≤ 40) (h5 : ∀ i (hi : i < S.things.length), thingOk S.things S.things[i] = true) (h6 : ∀ i, i < S.tags.length → tagAt S i = true) (h7 : ∀ i, i < S.sessions.length → sesAt S i = true) : staMay S = true := by
  rw [staMay, h1, sesOk_all h7, things_all h3 h5, tagsOk_all h6, decide_eq_true h2, decide_eq_true h4]; rfl
theorem staMay_no {S : Sta} (h : thgsMay S.things = false ∨ 40 < S.tags.length ∨ 8 < S.sessions.length ∨ (decide (0 ≤ S.next) && decide (S.next ≤ 1073741824)) = false) : staMay S = false := by
  rcases h with h | h | h | h
  · rw [staMay, thingsOk, h]; simp
  · rw [staMay, tagsOk, decide_eq_false (show ¬ S.tags.length ≤ 40 by omega)]; simp
  · rw [staMay, sesOk, decide_eq_false (show ¬ S.sessions.length ≤ 8 by omega)]; simp
  · rw [staMay, h]; rfl
theorem staMay_bad1 {S : Sta} (h : thingsOk S.things = false) : staMay S = false := by rw [staMay, h]; simp
theorem staMay_bad2 {S : Sta} (h : tagsOk S = false) : staMay S = false := by rw [staMay, h]; simp
theorem staMay_bad3 {S : Sta} (h : sesOk S = false) : staMay S = false := by rw [staMay, h]; simp
end Silo
namespace Go.Proofs.YtdlpibhecdfbcabGreatDoor
open Go Go.Eng Go.RowKit Silo TryzT
set_option maxHeartbeats 2000000 in
theorem pstate_ok {w : World} {vT vG vS : Value} {S : Sta} (h1 : Rd thgS w vT S.things) (h2 : Rd tgS w vG S.tags) (h3 : Rd sesS w vS S.sessions) (htx : ∀ t ∈ S.things, t.text.length ≤ 1048576) : Calls Tryz.prog 17 #[.agg #[vT, vG, vS, I S.next]] w (Ret fun v' w' => Below w.heap.size w w' ∧ v' = .bool (staMay S)) := by
 obtain ⟨c, hO, hc⟩ := OldC.start w
 have x1 := h1.oneC; have x2 := h2.oneC; have x3 := h3.oneC
 have s1 := h1.small; have s2 := h2.small; have s3 := h3.small
 have hgx : ∀ t ∈ S.tags, t.name.length ≤ 140737488355328 := fun t ht => (h2.okFlat t ht).1
 replace h1 : RdC thgS c w [0] vT S.things := Rd.toC h1 (fun k hk => by simp [hc, hasC])
 replace h2 : RdC tgS c w [0] vG S.tags := Rd.toC h2 (fun k hk => by simp [hc, hasC])
 replace h3 : RdC sesS c w [0] vS S.sessions := Rd.toC h3 (fun k hk => by simp [hc, hasC])
 clear hc
 refine enter (n := 167) (res := #[.tmp 2]) Tryz.func17 rfl rfl rfl rfl <| cseq <| cg <| ve (Eff.boxC c 101 rfl) ?_
 rintro _ w1 ⟨b1, c1, rfl, m, hb1⟩
 replace hO := hO.mv m; replace h1 := h1.mv m; replace h2 := h2.mv m; replace h3 := h3.mv m
 refine za rfl <| cnil <| cseq <| cseq <| cg <| vq (Val.fieldAddr fld26_0 rfl) <| vq (Val.loadB scl22 rfl hb1.blk rfl) <| ve (Eff.pureC c1 1 (Eff.call pf36 rfl (pthings_ok h1.now))) ?_
 rintro v14 w2 ⟨c2, m, hx2, rfl⟩
 replace hO := hO.mv m; replace h1 := h1.mv m; replace h2 := h2.mv m; replace h3 := h3.mv m; replace hb1 := hb1.mv m
 refine vq (Val.not rfl) <| zm rfl ?_
 apply WR.sc false 4 _ (fun w' => w2 = w')
 case hl | hg | hu | hv | hs | hoff | hd => rfl
 case hF => exact fun _ => rfl
 case hT =>
  intro hq9
  try simp only [tstS] at hq9
  simp only [List.take_succ_cons, List.take_zero]
  refine WR.on rfl rfl <| vq (Val.fieldAddr fld26_1 rfl) <| WR.on rfl rfl <| vq (Val.loadB scl23 rfl hb1.blk rfl) <| WR.on rfl rfl <| vq (Val.rdlenC sl23 h2 rfl) <| WR.on rfl rfl <| vq (Val.gtr rfl rfl) ?_
  exact WR.nil ⟨rfl, Sub.drop _ 4 _ rfl rfl, rfl⟩
 rintro _ rfl
 refine zm rfl ?_
 apply WR.sc false 4 _ (fun w' => w2 = w')
 case hl | hg | hu | hv | hs | hoff | hd => rfl
 case hF => exact fun _ => rfl
 case hT =>
  intro hq15
  try simp only [tstS] at hq15
  simp only [List.take_succ_cons, List.take_zero]
  refine WR.on rfl rfl <| vq (Val.fieldAddr fld26_2 rfl) <| WR.on rfl rfl <| vq (Val.loadB scl24 rfl hb1.blk rfl) <| WR.on rfl rfl <| vq (Val.rdlenC sl24 h3 rfl) <| WR.on rfl rfl <| vq (Val.gtr rfl rfl) ?_
  exact WR.nil ⟨rfl, Sub.drop _ 4 _ rfl rfl, rfl⟩
 rintro _ rfl
 refine zm rfl ?_
 apply WR.sc false 4 (!(decide (0 ≤ S.next) && decide (S.next ≤ 1073741824))) (fun w' => ∃ c', Acc c2 w2 [] c' w')
 case hl | hg | hu | hv | hs | hoff | hd => rfl
 case hF => exact fun _ => ⟨_, Acc.refl _ _ _⟩
 case hT =>
  intro hq21
  try simp only [tstS] at hq21
  simp only [List.take_succ_cons, List.take_zero]
  have hKsc21 := Acc.refl c2 w2 []
  refine WR.on rfl rfl <| vq (Val.fieldAddr fld26_3 rfl) <| WR.on rfl rfl <| vq (Val.loadB scl3 rfl hb1.blk rfl) <| WR.on rfl rfl <| ve (Eff.pureC c2 1 (Eff.call pf37 rfl (num_ok S.next 1073741824))) ?_
  rintro v31 w3 ⟨c3, m, hx3, rfl⟩
  replace hKsc21 := hKsc21.mv m
  refine WR.on rfl rfl <| vq (Val.not rfl) ?_
  exact WR.nil ⟨rfl, Sub.drop _ 4 _ rfl rfl, _, hKsc21⟩
 rintro w4 ⟨c4, ⟨m⟩⟩
 replace hO := hO.mv m; replace h1 := h1.mv m; replace h2 := h2.mv m; replace h3 := h3.mv m; replace hb1 := hb1.mv m
 refine cnil <| WC.cond rfl (fun hc1 => ?_) (fun hc1 => ?_)
 ·try simp only [tstS] at hc1
  refine cseq <| cg <| za rfl <| cnil <| WC.ret1 rfl rfl ?_
  exact ⟨hO.below, by
    rw [staMay_no]
    rcases hc1 with ((h | h) | h) | h
    · exact .inl h
    · exact .inr (.inl (by omega))
    · exact .inr (.inr (.inl (by omega)))
    exact .inr (.inr (.inr h))⟩
 try simp only [tstS] at hc1
 obtain ⟨⟨⟨k1, k2⟩, k3⟩, k4⟩ := hc1
 have k5 := k4
 replace k4 : (decide (0 ≤ S.next) && decide (S.next ≤ 1073741824)) = true := by rw [Bool.and_eq_true, decide_eq_true_eq, decide_eq_true_eq]; exact k5
 refine cskip <| cseq <| cseq <| cg <| za rfl <| cnil <| cblock <| WC.loop (σ := Nat) (fun k => [(1, .pointer (some ⟨b1, 0, none⟩)), (3, I k)]) (fun k w' => ∃ c', OldC w c' w' ∧ RdC thgS c' w' [0] vT S.things ∧ RdC tgS c' w' [0] vG S.tags ∧ RdC sesS c' w' [0] vS S.sessions ∧ BlkC c' w' 101 b1 [vT, vG, vS, I S.next] 26 ∧ k ≤ S.things.length ∧ ∀ i (h : i < S.things.length), i < k → thingOk S.things S.things[i] = true) (fun k => S.things.length - k) 0 subs ⟨_, hO, h1, h2, h3, hb1, by omega, fun i _ h => absurd h (Nat.not_lt_zero _)⟩ ?_
 clear hO h1 h2 h3 hb1
 rintro k wl ⟨cl, hO, h1, h2, h3, hb1, hk, hb⟩
 refine cseq <| cseq <| cg <| zm rfl <| vq (Val.fieldAddr fld26_0 rfl) <| vq (Val.loadB scl22 rfl hb1.blk rfl) <| vq (Val.rdlenC sl22 h1 rfl) <| vq (Val.lss rfl rfl) <| cnil <| WC.cond rfl (fun hc4 => ?_) (fun hc4 => ?_)
 ·try simp only [tstS] at hc4
  have ka : k < S.things.length := by omega
  have htk := htx _ (List.getElem_mem ka)
  obtain ⟨hc44, _⟩ := RdC.elFlat h1 ka (by decide)
  refine cskip <| cseq <| cblock <| cseq <| cg <| vq (Val.fieldAddr fld26_0 rfl) <| vq (Val.loadB scl22 rfl hb1.blk rfl) <| zm rfl <| vq (Val.indexAddr sl22 h1.now rfl rfl rfl (by omega) (by omega)) ?_
  refine vq (Val.loadE agg60 rfl hc44.cel rfl) <| ve (Eff.allocC cl 104 zero60) ?_
  rintro _ w5 ⟨b4, c5, rfl, m, hb4⟩
  replace hO := hO.mv m; replace h1 := h1.mv m; replace h2 := h2.mv m; replace h3 := h3.mv m; replace hb1 := hb1.mv m; replace hc44 := hc44.mv m
  refine WR.eff_ (Eff.storeNC agg60 rfl rfl hb4 rfl rfl ones) ?_
  rintro _ w6 ⟨hS, m⟩
  replace hO := hO.mv m; replace h1 := h1.mv m; replace h2 := h2.mv m; replace h3 := h3.mv m; replace hb1 := hb1.mv m; replace hc44 := hc44.mv m
  replace hb4 := hS
  refine cnil <| cseq <| WC.regionD (Kp c5 w6 []) [0, 1, 0, 1, 2, 0, 0, 0, 1, 0, 0, 1, 0, 1, 2, 0, 0, 0] [0, 1, 2, 3, 4, 5, 6, 7, 8, 9, 10, 11, 12, 13, 14, 15, 16, 17] mixed (by kernel_rfl) ?_
  have m := Mv.drew c5 w6 []
  have hCw := Mv.drew c5 w6 []
  generalize w6.drew = w7 at m hCw ⊢
  have hb10 := hb1
  have hb40 := hb4
  have hc440 := hc44
  replace hO := hO.mv m; replace h1 := h1.mv m; replace h2 := h2.mv m; replace h3 := h3.mv m; replace hb1 := hb1.mv m
  refine vd rfl (fun _ => Val.fieldAddr fld60_0 rfl) <| vc rfl hCw.kp (fun W hW => Val.loadB scl9 rfl (hb40.kp hW rfl).blk rfl) <| vd rfl (fun _ => Val.fieldAddr fld60_1 rfl) <| vc rfl hCw.kp (fun W hW => Val.loadB scl9 rfl (hb40.kp hW rfl).blk rfl) <| WD.eff rfl rfl rfl (Eff.pureC c5 1 (Eff.call pf33 rfl (pdigest_ok S.things[k].text (by omega)))) rfl ?_
  rintro v50 w8 ⟨c8, m, hx8, rfl⟩
  refine ⟨fun hC => hC.step hCw m rfl, ?_⟩
  replace hCw := hCw.tr m rfl
  replace hO := hO.mv m; replace h1 := h1.mv m; replace h2 := h2.mv m; replace h3 := h3.mv m; replace hb1 := hb1.mv m
  refine vd rfl (fun _ => Val.sne rfl rfl) <| zdm rfl rfl ?_
  apply WD.sc false 10 (S.things[k].manifest && !namesOk S.things S.things[k].text) (fun w' => ∃ c', Acc c8 w8 [] c' w')
  case hl | hi | hk | hg | hu | hv | hs | hoff | hd => rfl
  case hC => exact hCw.kp
  case hF => exact fun _ => ⟨_, Acc.refl _ _ _⟩
  case hT =>
   intro hq17
   try simp only [tstS] at hq17
   simp only [List.take_succ_cons, List.take_zero]
   have hKsc17 := Acc.refl c8 w8 []
   refine vd rfl (fun _ => Val.fieldAddr fld60_2 rfl) <| vc rfl hCw.kp (fun W hW => Val.loadB scl4 rfl (hb40.kp hW rfl).blk rfl) <| zdm rfl rfl ?_
   apply WD.sc true 6 (!namesOk S.things S.things[k].text) (fun w' => ∃ c', Acc c8 w8 [] c' w')
   case hl | hi | hk | hg | hu | hv | hs | hoff | hd => rfl
   case hC => exact hCw.kp
   case hF => exact fun _ => ⟨_, Acc.refl _ _ _⟩
   case hT =>
    intro hq16
    try simp only [tstS] at hq16
    simp only [List.take_succ_cons, List.take_zero]
    have hKsc16 := Acc.refl c8 w8 []
    refine vd rfl (fun _ => Val.fieldAddr fld26_0 rfl) <| vc rfl hCw.kp (fun W hW => Val.loadB scl22 rfl (hb10.kp hW rfl).blk rfl) <| vd rfl (fun _ => Val.fieldAddr fld60_1 rfl) <| vc rfl hCw.kp (fun W hW => Val.loadB scl9 rfl (hb40.kp hW rfl).blk rfl) <| WD.eff rfl rfl rfl (Eff.pureC c8 1 (Eff.call pf38 rfl (pnames_ok S.things[k].text htk h1.now))) rfl ?_
    rintro v60 w9 ⟨c9, m, hx9, rfl⟩
    refine ⟨fun hC => hC.step hCw m rfl, ?_⟩
    replace hCw := hCw.tr m rfl
    replace hKsc16 := hKsc16.mv m
    refine vd rfl (fun _ => Val.not rfl) ?_
    exact WD.nil ⟨rfl, Sub.drop _ 6 _ rfl rfl, _, hKsc16⟩
   rintro w10 ⟨c10, ⟨m⟩⟩
   replace hCw := hCw.tr m rfl
   replace hKsc17 := hKsc17.mv m
   exact WD.nil ⟨rfl, Sub.drop _ 4 _ rfl rfl, _, hKsc17⟩
  rintro w11 ⟨c11, ⟨m⟩⟩
  replace hCw := hCw.tr m rfl
  replace hO := hO.mv m; replace h1 := h1.mv m; replace h2 := h2.mv m; replace h3 := h3.mv m; replace hb1 := hb1.mv m
  refine WD.nil ?_
  clear hb10 hb40 hc440
  clear hCw
  refine WC.cond rfl (fun hc7 => ?_) (fun hc7 => ?_)
  ·try simp only [tstS] at hc7
   refine cseq <| cg <| za rfl <| cnil <| WC.ret1 rfl rfl ?_
   exact ⟨hO.below, by
     have hno : thingOk S.things S.things[k] = false := by
       rw [thingOk]
       rcases hc7 with h | ⟨h, h'⟩
       · rw [show (digestS S.things[k].text == S.things[k].digest) = false by rw [beq_eq_false_iff_ne]; intro e; rw [e] at h; simp at h]; rfl
       rw [h, show namesOk S.things S.things[k].text = false by simpa using h']; simp
     rw [staMay_bad1 (things_bad ka hno)]⟩
  try simp only [tstS] at hc7
  refine cskip <| cg <| zm rfl <| vq (Val.addI rfl rfl side side) <| za rfl <| cnil ?_
  have hye : thingOk S.things S.things[k] = true := by
    rw [thingOk]
    have e1 : digestS S.things[k].text = S.things[k].digest := by
      have := hc7.1
      rw [eq_comm]; simpa using this
    rw [e1, beq_self_eq_true]
    have h2 := hc7.2
    cases hm : S.things[k].manifest with
    | false => rfl
    | true => rw [hm] at h2; simpa using h2
  exact ⟨k + 1, subs, ⟨_, hO, h1, h2, h3, hb1, ka, upto_next ka hb hye⟩, by omega⟩
 try simp only [tstS] at hc4
 have hT := fun i (hi : i < S.things.length) => hb i hi (by omega)
 clear hb
 refine WC.exit rfl <| cseq <| cseq <| cg <| za rfl <| cnil <| cblock <| WC.loop (σ := Nat) (fun k => [(1, .pointer (some ⟨b1, 0, none⟩)), (5, I k)]) (fun k w' => ∃ c', OldC w c' w' ∧ RdC thgS c' w' [0] vT S.things ∧ RdC tgS c' w' [0] vG S.tags ∧ RdC sesS c' w' [0] vS S.sessions ∧ BlkC c' w' 101 b1 [vT, vG, vS, I S.next] 26 ∧ k ≤ S.tags.length ∧ ∀ i, i < k → tagAt S i = true) (fun k => S.tags.length - k) 0 subs ⟨_, hO, h1, h2, h3, hb1, by omega, fun i h => absurd h (Nat.not_lt_zero _)⟩ ?_
 clear hO h1 h2 h3 hb1
 rintro k wl ⟨cl, hO, h1, h2, h3, hb1, hk, hb⟩
 refine cseq <| cseq <| cg <| zm rfl <| vq (Val.fieldAddr fld26_1 rfl) <| vq (Val.loadB scl23 rfl hb1.blk rfl) <| vq (Val.rdlenC sl23 h2 rfl) <| vq (Val.lss rfl rfl) <| cnil <| WC.cond rfl (fun hc10 => ?_) (fun hc10 => ?_)
 ·try simp only [tstS] at hc10
  have ka : k < S.tags.length := by omega
  have hpr : ((k : Int) - 1).toNat < S.tags.length := by omega
  have hnx := hgx _ (List.getElem_mem ka)
  obtain ⟨hc75, _⟩ := RdC.elFlat h2 ka (by decide)
  obtain ⟨hc87, _⟩ := RdC.elFlat h2 ka (by decide)
  obtain ⟨hc120, _⟩ := RdC.elFlat h2 ka (by decide)
  obtain ⟨hc114, _⟩ := RdC.elFlat h2 hpr (by decide)
  have hat := tagAt_int2 ka hpr
  refine cskip <| cseq <| cblock <| cseq <| cg <| vq (Val.fieldAddr fld26_1 rfl) <| vq (Val.loadB scl23 rfl hb1.blk rfl) <| zm rfl <| vq (Val.indexAddr sl23 h2.now rfl rfl rfl (by omega) (by omega)) ?_
  refine vq (Val.fieldAddrP fld66_0 rfl) <| vq (Val.loadEf scl9 rfl hc75.cel rfl) <| ve (Eff.pureC cl 1 (Eff.call pf39 rfl (pname_ok S.tags[k].name hnx))) ?_
  rintro v78 w12 ⟨c12, m, hx12, ⟨a1, a2, rfl⟩⟩
  replace hO := hO.mv m; replace h1 := h1.mv m; replace h2 := h2.mv m; replace h3 := h3.mv m; replace hb1 := hb1.mv m; replace hc75 := hc75.mv m; replace hc87 := hc87.mv m; replace hc120 := hc120.mv m; replace hc114 := hc114.mv m
  refine zm rfl <| vq (Val.extract rfl rfl) <| vq (Val.extract rfl rfl) <| vq (Val.extract rfl rfl) <| za rfl <| za rfl <| za rfl <| cnil <| cseq <| WC.regionD (Kp c12 w12 []) [0, 1, 0, 1, 0, 0, 0, 1, 2, 0] [0, 1, 2, 3, 4, 5, 6, 7, 8, 9] mixed (by kernel_rfl) ?_
  have m := Mv.drew c12 w12 []
  have hCw := Mv.drew c12 w12 []
  generalize w12.drew = w13 at m hCw ⊢
  have hb10 := hb1
  have hc750 := hc75
  have hc870 := hc87
  have hc1200 := hc120
  have hc1140 := hc114
  replace hO := hO.mv m; replace h1 := h1.mv m; replace h2 := h2.mv m; replace h3 := h3.mv m; replace hb1 := hb1.mv m; replace hc75 := hc75.mv m; replace hc87 := hc87.mv m; replace hc120 := hc120.mv m; replace hc114 := hc114.mv m
  refine vd rfl (fun _ => Val.fieldAddr fld26_0 rfl) <| vc rfl hCw.kp (fun W hW => Val.loadB scl22 rfl (hb10.kp hW rfl).blk rfl) <| vd rfl (fun _ => Val.fieldAddr fld26_1 rfl) <| vc rfl hCw.kp (fun W hW => Val.loadB scl23 rfl (hb10.kp hW rfl).blk rfl) <| zdm rfl rfl <| vd rfl (fun _ => Val.indexAddr sl23 h2.now rfl rfl rfl (by omega) (by omega)) <| vd rfl (fun _ => Val.fieldAddrP fld66_1 rfl) <| vc rfl hCw.kp (fun W hW => Val.loadEf scl9 rfl (hc870.kp hW rfl).cel rfl) ?_
  refine WD.eff rfl rfl rfl (Eff.pureC c12 1 (Eff.call pf40 rfl (at_ok h1.now))) rfl ?_
  rintro v90 w14 ⟨c14, m, hx14, rfl⟩
  refine ⟨fun hC => hC.step hCw m rfl, ?_⟩
  replace hCw := hCw.tr m rfl
  replace hO := hO.mv m; replace h1 := h1.mv m; replace h2 := h2.mv m; replace h3 := h3.mv m; replace hb1 := hb1.mv m; replace hc75 := hc75.mv m; replace hc87 := hc87.mv m; replace hc120 := hc120.mv m; replace hc114 := hc114.mv m
  refine zda rfl rfl <| WD.nil ?_
  clear hb10 hc750 hc870 hc1200 hc1140
  clear hCw
  refine cseq ?_
  have hcx := fun (hil : (atT S.things S.tags[k].digest).toNat < S.things.length) => (RdC.elFlat h1 hil (by decide)).1
  refine WC.regionD (Kp c14 w14 []) [0, 0, 0, 0, 0, 0, 0, 0, 1, 0, 0, 0, 1, 0, 0, 0, 0, 0, 0, 0, 1, 0, 0, 0, 0, 1, 0, 1, 0, 0, 0, 1, 0, 0, 0] [0, 1, 2, 3, 4, 5, 6, 7, 8, 9, 10, 11, 12, 13, 14, 15, 16, 17, 18, 19, 20, 21, 22, 23, 24, 25, 26, 27, 28, 29, 30, 31, 32, 33, 34] mixed (by kernel_rfl) ?_
  have m := Mv.drew c14 w14 []
  have hCw := Mv.drew c14 w14 []
  generalize w14.drew = w15 at m hCw ⊢
  have hb10 := hb1
  have hc750 := hc75
  have hc870 := hc87
  have hc1200 := hc120
  have hc1140 := hc114
  replace hO := hO.mv m; replace h1 := h1.mv m; replace h2 := h2.mv m; replace h3 := h3.mv m; replace hb1 := hb1.mv m
  refine zdm rfl rfl <| vd rfl (fun _ => Val.not rfl) <| zdm rfl rfl ?_
  apply WD.sc false 2 _ (fun w' => w15 = w')
  case hl | hi | hk | hg | hu | hv | hs | hoff | hd => rfl
  case hC => exact hCw.kp
  case hF => exact fun _ => rfl
  case hT =>
   intro hq5
   try simp only [tstS] at hq5
   simp only [List.take_succ_cons, List.take_zero]
   refine zdm rfl rfl <| vd rfl (fun _ => Val.lss rfl rfl) ?_
   exact WD.nil ⟨rfl, Sub.drop _ 2 _ rfl rfl, rfl⟩
  rintro _ rfl
  refine zdm rfl rfl ?_
  apply WD.sc false 7 (!isT S.things S.tags[k].digest true) (fun w' => w15 = w')
  case hl | hi | hk | hg | hu | hv | hs | hoff | hd => rfl
  case hC => exact hCw.kp
  case hF => exact fun _ => rfl
  case hT =>
   intro hq14
   try simp only [tstS] at hq14
   simp only [List.take_succ_cons, List.take_zero]
   obtain ⟨i0, hi0, hf0, hil0⟩ := at_find (T := S.things) (d := S.tags[k].digest) (by omega)
   have htn : (atT S.things S.tags[k].digest).toNat = i0 := by omega
   have hf : findT S.things S.tags[k].digest = some (atT S.things S.tags[k].digest).toNat := by rw [htn]; exact hf0
   have hil : (atT S.things S.tags[k].digest).toNat < S.things.length := by omega
   have hc101 := hcx hil
   refine vd rfl (fun _ => Val.fieldAddr fld26_0 rfl) <| vc rfl hCw.kp (fun W hW => Val.loadB scl22 rfl (hb10.kp hW rfl).blk rfl) <| zdm rfl rfl <| vd rfl (fun _ => Val.indexAddr sl22 h1.now rfl rfl rfl (by omega) (by omega)) <| vd rfl (fun _ => Val.fieldAddrP fld60_2 rfl) <| vc rfl hCw.kp (fun W hW => Val.loadEf scl4 rfl (hc101.kp hW rfl).cel rfl) <| vd rfl (fun _ => Val.not rfl) ?_
   exact WD.nil ⟨(by rw [isT_at hf hil]; cases S.things[(atT S.things S.tags[k].digest).toNat].manifest <;> rfl), Sub.drop _ 7 _ rfl rfl, rfl⟩
  rintro _ rfl
  refine zdm rfl rfl ?_
  apply WD.sc false 18 _ (fun w' => w15 = w')
  case hl | hi | hk | hg | hu | hv | hs | hoff | hd => rfl
  case hC => exact hCw.kp
  case hF => exact fun _ => rfl
  case hT =>
   intro hq34
   try simp only [tstS] at hq34
   simp only [List.take_succ_cons, List.take_zero]
   refine zdm rfl rfl <| vd rfl (fun _ => Val.gtr rfl rfl) <| zdm rfl rfl ?_
   apply WD.sc true 14 _ (fun w' => w15 = w')
   case hl | hi | hk | hg | hu | hv | hs | hoff | hd => rfl
   case hC => exact hCw.kp
   case hF => exact fun _ => rfl
   case hT =>
    intro hq33
    try simp only [tstS] at hq33
    simp only [List.take_succ_cons, List.take_zero]
    refine vd rfl (fun _ => Val.fieldAddr fld26_1 rfl) <| vc rfl hCw.kp (fun W hW => Val.loadB scl23 rfl (hb10.kp hW rfl).blk rfl) <| zdm rfl rfl <| vd rfl (fun _ => Val.subI rfl rfl side side) <| vd rfl (fun _ => Val.indexAddr sl23 h2.now rfl rfl rfl (by omega) (by omega)) <| vd rfl (fun _ => Val.fieldAddrP fld66_0 rfl) <| vc rfl hCw.kp (fun W hW => Val.loadEf scl9 rfl (hc1140.kp hW rfl).cel rfl) <| vd rfl (fun _ => Val.fieldAddr fld26_1 rfl) <| vc rfl hCw.kp (fun W hW => Val.loadB scl23 rfl (hb10.kp hW rfl).blk rfl) ?_
    refine zdm rfl rfl <| vd rfl (fun _ => Val.indexAddr sl23 h2.now rfl rfl rfl (by omega) (by omega)) <| vd rfl (fun _ => Val.fieldAddrP fld66_0 rfl) <| vc rfl hCw.kp (fun W hW => Val.loadEf scl9 rfl (hc1200.kp hW rfl).cel rfl) <| vd rfl (fun _ => Val.sgeq rfl rfl) ?_
    exact WD.nil ⟨rfl, Sub.drop _ 14 _ rfl rfl, rfl⟩
   rintro _ rfl
   exact WD.nil ⟨rfl, Sub.drop _ 4 _ rfl rfl, rfl⟩
  rintro _ rfl
  refine WD.nil ?_
  clear hb10 hc750 hc870 hc1200 hc1140
  clear hCw
  refine WC.cond rfl (fun hc14 => ?_) (fun hc14 => ?_)
  ·try simp only [tstS] at hc14
   have hv : tagAt S k = false := by
     rw [hat]
     rcases hc14 with ((h | h) | h) | ⟨h, h'⟩
     · rw [h]; rfl
     · rw [at_neg h]; simp
     · rw [h]; simp
     rw [decide_eq_true h, h']; simp
   refine cseq <| cg <| za rfl <| cnil <| WC.ret1 rfl rfl ?_
   exact ⟨hO.below, by rw [staMay_bad2 (tagsOk_bad ka hv)]⟩
  try simp only [tstS] at hc14
  have hv : tagAt S k = true := by
    rw [hat, hc14.1.1.1, hc14.1.2, hc14.2]; rfl
  refine cskip <| cg <| zm rfl <| vq (Val.addI rfl rfl side side) <| za rfl <| cnil ?_
  exact ⟨k + 1, subs, ⟨_, hO, h1, h2, h3, hb1, ka, below_succ hb hv⟩, by omega⟩
 try simp only [tstS] at hc10
 have hG := fun i (hi : i < S.tags.length) => hb i (by omega)
 clear hb
 refine WC.exit rfl <| cseq <| cseq <| cg <| za rfl <| cnil <| cblock <| WC.loop (σ := Nat) (fun k => [(1, .pointer (some ⟨b1, 0, none⟩)), (10, I k)]) (fun k w' => ∃ c', OldC w c' w' ∧ RdC sesS c' w' [0] vS S.sessions ∧ BlkC c' w' 101 b1 [vT, vG, vS, I S.next] 26 ∧ k ≤ S.sessions.length ∧ ∀ i, i < k → sesAt S i = true) (fun k => S.sessions.length - k) 0 subs ⟨_, hO, h3, hb1, by omega, fun i h => absurd h (Nat.not_lt_zero _)⟩ ?_
 clear hO h1 h2 h3 hb1
 rintro k wl ⟨cl, hO, h3, hb1, hk, hb⟩
 refine cseq <| cseq <| cg <| zm rfl <| vq (Val.fieldAddr fld26_2 rfl) <| vq (Val.loadB scl24 rfl hb1.blk rfl) ?_
 first | refine vq (Val.rdlen sl24 (by assumption) rfl) ?_ | refine vq (Val.sllen Tryz.underlying24 rfl) ?_ | refine vq (Val.olen sl24 (by assumption) rfl) ?_ | refine vq (Val.rdlenC sl24 (by assumption) rfl) ?_
 refine vq (Val.lss rfl rfl) <| cnil <| WC.cond rfl (fun hc17 => ?_) (fun hc17 => ?_)
 ·try simp only [tstS] at hc17
  have ka : k < S.sessions.length := by omega
  have hpr : ((k : Int) - 1).toNat < S.sessions.length := by omega
  obtain ⟨hc136, _⟩ := RdC.elFlat h3 ka (by decide)
  obtain ⟨hc159, _⟩ := RdC.elFlat h3 hpr (by decide)
  have hat := sesAt_int ka hpr
  refine cskip <| cseq <| cblock <| cseq <| cg <| vq (Val.fieldAddr fld26_2 rfl) <| vq (Val.loadB scl24 rfl hb1.blk rfl) <| zm rfl ?_
  first | refine vq (Val.indexAddr sl24 (by assumption) rfl rfl rfl side side) ?_ | refine vq (Val.indexC sl24 (by assumption) rfl rfl side side) ?_ | refine vq (Val.indexO sl24 (by assumption) rfl rfl side side) ?_
  refine vq (Val.loadE agg63 rfl hc136.cel rfl) <| ve (Eff.allocC cl 111 zero63) ?_
  rintro _ w16 ⟨b11, c16, rfl, m, hb11⟩
  replace hO := hO.mv m; replace h3 := h3.mv m; replace hb1 := hb1.mv m; replace hc136 := hc136.mv m; replace hc159 := hc159.mv m
  refine WR.eff_ (Eff.storeNC agg63 rfl rfl hb11 rfl rfl ones) ?_
  rintro _ w17 ⟨hS, m⟩
  replace hO := hO.mv m; replace h3 := h3.mv m; replace hb1 := hb1.mv m; replace hc136 := hc136.mv m; replace hc159 := hc159.mv m
  replace hb11 := hS
  refine cnil <| cseq <| WC.regionD (Kp c16 w17 []) [0, 1, 0, 1, 0, 2, 0, 0, 0, 1, 0, 0, 0, 0, 0, 0, 0, 0, 1, 0, 0, 0, 0, 1, 0, 1, 0, 0, 0] [0, 1, 2, 3, 4, 5, 6, 7, 8, 9, 10, 11, 12, 13, 14, 15, 16, 17, 18, 19, 20, 21, 22, 23, 24, 25, 26, 27, 28] mixed (by kernel_rfl) ?_
  have m := Mv.drew c16 w17 []
  have hCw := Mv.drew c16 w17 []
  generalize w17.drew = w18 at m hCw ⊢
  have hb10 := hb1
  have hb110 := hb11
  have hc1360 := hc136
  have hc1590 := hc159
  replace hO := hO.mv m; replace h3 := h3.mv m; replace hb1 := hb1.mv m
  refine vd rfl (fun _ => Val.fieldAddr fld63_0 rfl) <| vc rfl hCw.kp (fun W hW => Val.loadB scl3 rfl (hb110.kp hW rfl).blk rfl) <| vd rfl (fun _ => Val.fieldAddr fld26_3 rfl) <| vc rfl hCw.kp (fun W hW => Val.loadB scl3 rfl (hb10.kp hW rfl).blk rfl) <| vd rfl (fun _ => Val.subI rfl rfl side side) ?_
  refine WD.eff rfl rfl rfl (Eff.pureC c16 1 (Eff.call pf37 rfl (num_ok S.sessions[k].id (S.next - 1)))) rfl ?_
  rintro v143 w19 ⟨c19, m, hx19, rfl⟩
  refine ⟨fun hC => hC.step hCw m rfl, ?_⟩
  replace hCw := hCw.tr m rfl
  replace hO := hO.mv m; replace h3 := h3.mv m; replace hb1 := hb1.mv m
  refine vd rfl (fun _ => Val.not rfl) <| zdm rfl rfl ?_
  apply WD.sc false 4 _ (fun w' => w19 = w')
  case hl | hi | hk | hg | hu | hv | hs | hoff | hd => rfl
  case hC => exact hCw.kp
  case hF => exact fun _ => rfl
  case hT =>
   intro hq12
   try simp only [tstS] at hq12
   simp only [List.take_succ_cons, List.take_zero]
   refine vd rfl (fun _ => Val.fieldAddr fld63_1 rfl) <| vc rfl hCw.kp (fun W hW => Val.loadB scl9 rfl (hb110.kp hW rfl).blk rfl) <| vd rfl (fun _ => Val.slen Tryz.underlying9 rfl) <| vd rfl (fun _ => Val.gtr rfl rfl) ?_
   exact WD.nil ⟨rfl, Sub.drop _ 4 _ rfl rfl, rfl⟩
  rintro _ rfl
  refine zdm rfl rfl ?_
  apply WD.sc false 14 _ (fun w' => w19 = w')
  case hl | hi | hk | hg | hu | hv | hs | hoff | hd => rfl
  case hC => exact hCw.kp
  case hF => exact fun _ => rfl
  case hT =>
   intro hq28
   try simp only [tstS] at hq28
   simp only [List.take_succ_cons, List.take_zero]
   refine zdm rfl rfl <| vd rfl (fun _ => Val.gtr rfl rfl) <| zdm rfl rfl ?_
   apply WD.sc true 10 _ (fun w' => w19 = w')
   case hl | hi | hk | hg | hu | hv | hs | hoff | hd => rfl
   case hC => exact hCw.kp
   case hF => exact fun _ => rfl
   case hT =>
    intro hq27
    try simp only [tstS] at hq27
    simp only [List.take_succ_cons, List.take_zero]
    refine vd rfl (fun _ => Val.fieldAddr fld26_2 rfl) <| vc rfl hCw.kp (fun W hW => Val.loadB scl24 rfl (hb10.kp hW rfl).blk rfl) <| zdm rfl rfl <| vd rfl (fun _ => Val.subI rfl rfl side side) ?_
    first | refine vd rfl (fun _ => Val.indexAddr sl24 (by assumption) rfl rfl rfl side side) ?_ | refine vd rfl (fun _ => Val.indexC sl24 (by assumption) rfl rfl side side) ?_ | refine vd rfl (fun _ => Val.indexO sl24 (by assumption) rfl rfl side side) ?_
    refine vd rfl (fun _ => Val.fieldAddrP fld63_0 rfl) <| vc rfl hCw.kp (fun W hW => Val.loadEf scl3 rfl (hc1590.kp hW rfl).cel rfl) <| vd rfl (fun _ => Val.fieldAddr fld63_0 rfl) <| vc rfl hCw.kp (fun W hW => Val.loadB scl3 rfl (hb110.kp hW rfl).blk rfl) <| vd rfl (fun _ => Val.geq rfl rfl) ?_
    exact WD.nil ⟨rfl, Sub.drop _ 10 _ rfl rfl, rfl⟩
   rintro _ rfl
   exact WD.nil ⟨rfl, Sub.drop _ 4 _ rfl rfl, rfl⟩
  rintro _ rfl
  refine WD.nil ?_
  clear hb10 hb110 hc1360 hc1590
  clear hCw
  refine WC.cond rfl (fun hc20 => ?_) (fun hc20 => ?_)
  ·try simp only [tstS] at hc20
   have hv : sesAt S k = false := by
     rw [hat]
     simp only [Bool.and_eq_false_iff, Bool.not_eq_false', Bool.and_eq_true, decide_eq_false_iff_not, decide_eq_true_eq] at hc20 ⊢; omega
   refine cseq <| cg <| za rfl <| cnil <| WC.ret1 rfl rfl ?_
   exact ⟨hO.below, by rw [staMay_bad3 (sesOk_bad ka hv)]⟩
  try simp only [tstS] at hc20
  have hv : sesAt S k = true := by
    rw [hat]
    simp only [Bool.and_eq_false_iff, Bool.not_eq_true', Bool.and_eq_true, decide_eq_false_iff_not, decide_eq_true_eq] at hc20 ⊢; omega
  refine cskip <| cg <| zm rfl <| vq (Val.addI rfl rfl side side) <| za rfl <| cnil ?_
  exact ⟨k + 1, subs, ⟨_, hO, h3, hb1, ka, below_succ hb hv⟩, by omega⟩
 try simp only [tstS] at hc17
 refine WC.exit rfl <| cseq <| cg <| za rfl <| cnil <| WC.ret1 rfl rfl ?_
 exact ⟨hO.below, by rw [staMay_parts k4 (by omega) k1 (by omega) hT hG fun i hi => hb i (by omega)]⟩
end Go.Proofs.YtdlpibhecdfbcabGreatDoor

namespace Silo
open Go Go.Eng
def Sta0 : Sta := ⟨[], [], [], 0⟩
def Rep0 : Rep := ⟨0, [], 0⟩
theorem riseG_of {S : Sta} (h : tagsOk S = true) : RiseG S.tags := by
  rw [tagsOk, Bool.and_eq_true, List.all_eq_true] at h
  have hn : ∀ i (hi : i + 1 < S.tags.length), Op.bytesLess S.tags[i].name S.tags[i + 1].name = true := fun i hi => by
    have := h.2 (i + 1) (by simpa using hi)
    rw [tagAt_int2 hi (by omega)] at this
    simp only [Bool.and_eq_true, Bool.not_eq_true', Bool.and_eq_false_iff, decide_eq_false_iff_not, Bool.not_eq_false'] at this
    rcases this.2 with h1 | h1
    · omega
    · simpa using h1
  intro i j hi hj hij
  obtain ⟨k, rfl⟩ : ∃ k, j = i + 1 + k := ⟨j - (i + 1), by omega⟩
  induction k with
  | zero => exact hn i hj
  | succ k ih => exact less_trans _ _ _ (ih (by omega) (by omega)) (hn (i + 1 + k) hj)
theorem riseS_of {S : Sta} (h : sesOk S = true) : RiseS S.sessions := by
  rw [sesOk, Bool.and_eq_true, List.all_eq_true] at h
  have hn : ∀ i (hi : i + 1 < S.sessions.length), S.sessions[i].id < S.sessions[i + 1].id := fun i hi => by
    have := h.2 (i + 1) (by simpa using hi)
    rw [sesAt_int hi (by omega)] at this
    simp only [Bool.and_eq_true, Bool.not_eq_true', Bool.and_eq_false_iff, decide_eq_false_iff_not, decide_eq_true_eq] at this
    rcases this.2 with h1 | h1
    · omega
    · have e : (((i + 1 : Nat) : Int) - 1).toNat = i := by omega
      simp only [e] at h1; omega
  intro i j hi hj hij
  obtain ⟨k, rfl⟩ : ∃ k, j = i + 1 + k := ⟨j - (i + 1), by omega⟩
  induction k with
  | zero => exact hn i hj
  | succ k ih => exact Int.lt_trans (ih (by omega) (by omega)) (hn (i + 1 + k) hj)
theorem may_small {S : Sta} (h : staMay S = true) (hg : ∀ t ∈ S.tags, t.name.length ≤ 140737488355328 ∧ t.digest.length ≤ 140737488355328) (hs : ∀ t ∈ S.sessions, Go.Eng.Int64 t.id ∧ t.text.length ≤ 140737488355328) : SmallS S ∧ RiseT S.things ∧ RiseG S.tags ∧ RiseS S.sessions := by
 rw [staMay, Bool.and_eq_true, Bool.and_eq_true, Bool.and_eq_true, Bool.and_eq_true, decide_eq_true_eq, decide_eq_true_eq] at h
 obtain ⟨⟨⟨hn, h1⟩, h2⟩, h3⟩ := h
 have hm : thgsMay S.things = true := by rw [thingsOk, Bool.and_eq_true] at h2; exact h2.1
 have hl := thgsMay_len hm
 have h3' := h3; have h1' := h1
 rw [tagsOk, Bool.and_eq_true, decide_eq_true_eq] at h3'
 rw [sesOk, Bool.and_eq_true, decide_eq_true_eq, List.all_eq_true] at h1'
 refine ⟨⟨fun t ht => ?_, hg, fun t ht => ⟨(hs t ht).1, ?_⟩, by omega, by omega, by omega, hn⟩, thingsOk_rise h2, riseG_of h3, riseS_of h1⟩
 · obtain ⟨i, hi, rfl⟩ := List.mem_iff_getElem.1 ht
   have := thgsMay_at hm hi
   exact ⟨by omega, by omega⟩
 obtain ⟨i, hi, rfl⟩ := List.mem_iff_getElem.1 ht
 have := h1'.2 i (by simpa using hi)
 rw [sesAt_int hi (by omega)] at this
 simp only [Bool.and_eq_true, decide_eq_true_eq] at this
 omega
end Silo
namespace Go.Proofs.YtdlpibhecdfbcabGreatDoor
open Go Go.Eng Go.RowKit Silo TryzT
set_option maxHeartbeats 2000000 in
theorem mdo_ok {w : World} {vT vG vS : Value} {S : Sta} {o : MOp} (h1 : Rd thgS w vT S.things) (h2 : Rd tgS w vG S.tags) (h3 : Rd sesS w vS S.sessions) (hp1 : PlainV vT) (hp2 : PlainV vG) (hp3 : PlainV vS) (hO : SmallO o) : Calls Tryz.prog 27 #[.agg #[vT, vG, vS, I S.next], .agg (encOp o).toArray] w (Ret fun v w' => Below w.heap.size w w' ∧ ∃ uT uG uS S' r, v = .tuple #[.agg #[uT, uG, uS, I S'.next], .agg (encRep r).toArray, I (if staMay S && opOk o then 0 else 1)] ∧ (S' = if staMay S && opOk o then (doM S o).1 else Sta0) ∧ (r = if staMay S && opOk o then (doM S o).2 else Rep0) ∧ Own w' w.heap.size 60 3 uT S'.things.length (S'.things.flatMap encThg) ∧ Own w' w.heap.size 66 2 uG S'.tags.length (S'.tags.flatMap encTg) ∧ Own w' w.heap.size 63 2 uS S'.sessions.length (S'.sessions.flatMap encSes)) := by
 obtain ⟨c, hOl, hc⟩ := OldC.start w
 have q1 := h1.oneC; have q2 := h2.oneC; have q3 := h3.oneC
 have hgx := h2.okFlat; have hsx := h3.okFlat
 replace h1 : RdC thgS c w [0] vT S.things := Rd.toC h1 (fun k hk => by simp [hc, hasC])
 replace h2 : RdC tgS c w [0] vG S.tags := Rd.toC h2 (fun k hk => by simp [hc, hasC])
 replace h3 : RdC sesS c w [0] vS S.sessions := Rd.toC h3 (fun k hk => by simp [hc, hasC])
 clear hc
 refine enter (n := 28) (res := #[.cell 4 26, .cell 5 51, .tmp 6]) Tryz.func27 rfl rfl rfl rfl <| cseq <| cg <| ve (Eff.boxC c 102 rfl) ?_
 rintro _ w1 ⟨b2, c1, rfl, hM1, hb2⟩
 replace hOl := hOl.mv hM1; replace h1 := h1.mv hM1; replace h2 := h2.mv hM1; replace h3 := h3.mv hM1
 refine ve (Eff.boxC c1 103 rfl) ?_
 rintro _ w2 ⟨b3, c2, rfl, hM2, hb3⟩
 replace hOl := hOl.mv hM2; replace h1 := h1.mv hM2; replace h2 := h2.mv hM2; replace h3 := h3.mv hM2; replace hb2 := hb2.mv hM2
 refine ve (Eff.allocC c2 70 zero26) ?_
 rintro _ w9 ⟨b4, c9, rfl, hM9, hb4⟩
 replace hOl := hOl.mv hM9; replace h1 := h1.mv hM9; replace h2 := h2.mv hM9; replace h3 := h3.mv hM9; replace hb2 := hb2.mv hM9; replace hb3 := hb3.mv hM9
 refine ve (Eff.allocC c9 105 zero51) ?_
 rintro _ w3 ⟨b5, c3, rfl, hM3, hb5⟩
 replace hOl := hOl.mv hM3; replace h1 := h1.mv hM3; replace h2 := h2.mv hM3; replace h3 := h3.mv hM3; replace hb2 := hb2.mv hM3; replace hb3 := hb3.mv hM3; replace hb4 := hb4.mv hM3
 refine za rfl <| cnil <| cseq <| cseq <| cg <| vq (Val.loadBN agg26 rfl hb2.blk rfl) <| ve (Eff.pureC c3 1 (Eff.call pf34 rfl (mmay2_ok h1.now h2.now h3.now))) ?_
 rintro v10 w4 ⟨c4, hM4, hx4, rfl⟩
 replace hOl := hOl.mv hM4; replace h1 := h1.mv hM4; replace h2 := h2.mv hM4; replace h3 := h3.mv hM4; replace hb2 := hb2.mv hM4; replace hb3 := hb3.mv hM4; replace hb4 := hb4.mv hM4; replace hb5 := hb5.mv hM4
 refine vq (Val.not rfl) <| cnil <| WC.cond rfl (fun hc1 => ?_) (fun hc1 => ?_)
 ·try simp only [tstS] at hc1
  refine cseq <| WC.regionD (Kp c4 w4 [70]) [2, 1, 2, 3, 0] [1, 0, 2, 3, 4] mixed (by kernel_rfl) ?_
  have hM5 := Mv.drew c4 w4 []
  have hCw := Mv.drew c4 w4 [70]
  generalize w4.drew = w5 at hM5 hCw ⊢
  have hb20 := hb2
  have hb30 := hb3
  have hb40 := hb4
  have hb50 := hb5
  replace hOl := hOl.mv hM5; replace hb4 := hb4.mv hM5; replace hb5 := hb5.mv hM5
  refine vc rfl hCw.kp (fun W hW => Val.loadBN agg51 rfl (hb50.kp hW rfl).blk rfl) <| WD.eff rfl rfl rfl (Eff.val (Val.loadBN agg26 rfl hb4.blk rfl)) rfl ?_
  rintro _ _ ⟨rfl, rfl⟩
  refine ⟨id, ?_⟩
  refine WD.eff_ rfl rfl rfl (Eff.storeNC agg26 rfl rfl hb4 rfl rfl ones) ?_
  rintro _ w6 ⟨hS, hM6⟩
  refine ⟨fun hC => hC.step hCw hM6 rfl, ?_⟩
  replace hCw := hCw.tr hM6 rfl
  replace hOl := hOl.mv hM6; replace hb5 := hb5.mv hM6
  replace hb4 := hS
  refine WD.wild rfl rfl rfl (Eff.storeNC agg51 rfl rfl hb5 rfl rfl ones) ?_
  rintro _ w7 ⟨hS, hM7⟩
  try replace hCw := hCw.tr hM7 rfl
  replace hOl := hOl.mv hM7; replace hb4 := hb4.mv hM7
  replace hb5 := hS
  refine zda rfl rfl <| WD.nil ?_
  clear hb20 hb30 hb40 hb50
  clear hCw
  refine WC.retR3 rfl (RVal.cellN agg26 rfl hb4.blk rfl) (RVal.cellN agg51 rfl hb5.blk rfl) (RVal.tmp rfl) ?_
  have hm : staMay S = false := by simpa using hc1
  rw [hm]
  exact ⟨hOl.below, _, _, _, Sta0, Rep0, rfl, rfl, rfl, Own.nil _ _ _ _, Own.nil _ _ _ _, Own.nil _ _ _ _⟩
 try simp only [tstS] at hc1
 have hm : staMay S = true := by simpa using hc1
 obtain ⟨hsm, hrT, hrG, hrS⟩ := may_small hm hgx hsx
 have hs4 := hsm.2.2.2.1; have hs5 := hsm.2.2.2.2.1; have hs6 := hsm.2.2.2.2.2.1
 refine cskip <| cseq <| cg <| vq (Val.loadBN agg26 rfl hb2.blk rfl) <| ve (Eff.call pf35 rfl (mown_ok (c := c4) h1.now h2.now h3.now hp1 hp2 hp3 (by omega) (by omega) (by omega))) ?_
 rintro v15 w8 ⟨c8, hM8, ⟨uT, uG, uS, rfl, hoT, hoG, hoS⟩⟩
 replace hOl := hOl.mv hM8; replace hb2 := hb2.mv hM8; replace hb3 := hb3.mv hM8; replace hb4 := hb4.mv hM8; replace hb5 := hb5.mv hM8
 have p1 := hoT.oneC; have p2 := hoG.oneC; have p3 := hoS.oneC
 refine WR.eff_ (Eff.storeNC agg26 rfl rfl hb4 rfl rfl ones) ?_
 rintro _ w9 ⟨hS, hM9⟩
 replace hOl := hOl.mv hM9; replace hb2 := hb2.mv hM9; replace hb3 := hb3.mv hM9; replace hb5 := hb5.mv hM9; replace hoT := hoT.mv hM9; replace hoG := hoG.mv hM9; replace hoS := hoS.mv hM9
 replace hb4 := hS
 refine cnil <| cseq ?_
 have hst : StaO _ _ b4 S := ⟨uT, uG, uS, hb4, hoT, hoG, hoS⟩
 clear hb4 hoT hoG hoS
 refine cg <| vq (Val.loadBN agg33 rfl hb3.blk rfl) <| ve (Eff.call pf45 rfl (mact_ok hst hsm hO hrT hrG hrS)) ?_
 rintro v18 w10 ⟨c10, hM10, ⟨hst, hv⟩⟩
 replace hOl := hOl.mv hM10; replace hb2 := hb2.mv hM10; replace hb3 := hb3.mv hM10; replace hb5 := hb5.mv hM10
 obtain ⟨r, er, hr, hv2⟩ : ∃ r er, (r = if staMay S && opOk o then (doM S o).2 else Rep0) ∧ v18 = .tuple #[.agg (encRep r).toArray, I er, .bool (opOk o)] := by
   rw [hm]
   cases hop : opOk o with
   | false => rw [hop] at hv; exact ⟨Rep0, 0, rfl, hv⟩
   | true => rw [hop] at hv; exact ⟨(doM S o).2, _, rfl, hv⟩
 subst hv2
 clear hv
 refine zm rfl <| vq (Val.extract rfl rfl) <| vq (Val.extract rfl rfl) <| vq (Val.extract rfl rfl) <| WR.eff_ (Eff.storeNC agg51 rfl rfl hb5 rfl rfl ones) ?_
 rintro _ w11 ⟨hS, hM11⟩
 replace hOl := hOl.mv hM11; replace hb2 := hb2.mv hM11; replace hb3 := hb3.mv hM11; replace hst := hst.mv hM11
 replace hb5 := hS
 refine za rfl <| za rfl <| cnil <| cseq <| cseq ?_
 obtain ⟨xT, xG, xS, hb4, hoT, hoG, hoS⟩ := hst
 have p1 := hoT.oneC; have p2 := hoG.oneC; have p3 := hoS.oneC
 refine cg <| zm rfl <| vq (Val.not rfl) <| cnil <| WC.cond rfl (fun hc5 => ?_) (fun hc5 => ?_)
 ·try simp only [tstS] at hc5
  refine cseq <| cg <| vq (Val.build (cells := #[.slice none 0 0, .slice none 0 0, .slice none 0 0, .int .i64 0]) rfl (by kernel_rfl)) <| vq (Val.build (cells := #[.int .i64 0, .string ⟨[].toArray⟩, .int .i64 0]) rfl (by kernel_rfl)) ?_
  refine WR.eff_ (Eff.storeNC agg26 rfl rfl hb4 rfl rfl ones) ?_
  rintro _ w12 ⟨hS, hM12⟩
  replace hOl := hOl.mv hM12; replace hb5 := hb5.mv hM12; replace hoT := hoT.mv hM12; replace hoG := hoG.mv hM12; replace hoS := hoS.mv hM12
  replace hb4 := hS
  refine WR.eff_ (Eff.storeNC agg51 rfl rfl hb5 rfl rfl ones) ?_
  rintro _ w13 ⟨hS, hM13⟩
  replace hOl := hOl.mv hM13; replace hb4 := hb4.mv hM13; replace hoT := hoT.mv hM13; replace hoG := hoG.mv hM13; replace hoS := hoS.mv hM13
  replace hb5 := hS
  refine za rfl <| cnil <| WC.retR3 rfl (RVal.cellN agg26 rfl hb4.blk rfl) (RVal.cellN agg51 rfl hb5.blk rfl) (RVal.tmp rfl) ?_
  have hop : opOk o = false := by simpa using hc5
  rw [hop] at hr hoT hoG hoS ⊢
  rw [Bool.and_false]
  exact ⟨hOl.below, _, _, _, Sta0, Rep0, rfl, rfl, rfl, Own.nil _ _ _ _, Own.nil _ _ _ _, Own.nil _ _ _ _⟩
 try simp only [tstS] at hc5
 refine cskip <| cseq <| WC.regionD (Kp c10 w11 [70]) [2, 1, 2, 3, 0] [1, 0, 2, 3, 4] mixed (by kernel_rfl) ?_
 have hM14 := Mv.drew c10 w11 []
 have hCw := Mv.drew c10 w11 [70]
 generalize w11.drew = w14 at hM14 hCw ⊢
 have hb20 := hb2
 have hb30 := hb3
 have hb40 := hb4
 have hb50 := hb5
 replace hOl := hOl.mv hM14; replace hb5 := hb5.mv hM14; replace hb4 := hb4.mv hM14; replace hoT := hoT.mv hM14; replace hoG := hoG.mv hM14; replace hoS := hoS.mv hM14
 refine vc rfl hCw.kp (fun W hW => Val.loadBN agg51 rfl (hb50.kp hW rfl).blk rfl) <| WD.eff rfl rfl rfl (Eff.val (Val.loadBN agg26 rfl hb4.blk rfl)) rfl ?_
 rintro _ _ ⟨rfl, rfl⟩
 refine ⟨id, ?_⟩
 refine WD.eff_ rfl rfl rfl (Eff.storeNC agg26 rfl rfl hb4 rfl rfl ones) ?_
 rintro _ w15 ⟨hS, hM15⟩
 refine ⟨fun hC => hC.step hCw hM15 rfl, ?_⟩
 replace hCw := hCw.tr hM15 rfl
 replace hOl := hOl.mv hM15; replace hb5 := hb5.mv hM15; replace hoT := hoT.mv hM15; replace hoG := hoG.mv hM15; replace hoS := hoS.mv hM15
 replace hb4 := hS
 refine WD.wild rfl rfl rfl (Eff.storeNC agg51 rfl rfl hb5 rfl rfl ones) ?_
 rintro _ w16 ⟨hS, hM16⟩
 try replace hCw := hCw.tr hM16 rfl
 replace hOl := hOl.mv hM16; replace hb4 := hb4.mv hM16; replace hoT := hoT.mv hM16; replace hoG := hoG.mv hM16; replace hoS := hoS.mv hM16
 replace hb5 := hS
 refine zda rfl rfl <| WD.nil ?_
 clear hb20 hb30 hb40 hb50
 clear hCw
 refine WC.retR3 rfl (RVal.cellN agg26 rfl hb4.blk rfl) (RVal.cellN agg51 rfl hb5.blk rfl) (RVal.tmp rfl) ?_
 have hop : opOk o = true := by simpa using hc5
 rw [hop] at hr hoT hoG hoS ⊢
 rw [hm] at hr ⊢
 exact ⟨hOl.below, _, _, _, (doM S o).1, r, rfl, rfl, hr, hoT.fromOld hOl (by decide), hoG.fromOld hOl (by decide), hoS.fromOld hOl (by decide)⟩
end Go.Proofs.YtdlpibhecdfbcabGreatDoor

namespace Silo
open Go Go.Eng
theorem tag_eq (a b : Tg) : cellsEq (encTg a) (encTg b) = decide (a = b) := by
  obtain ⟨a1, a2⟩ := a
  obtain ⟨b1, b2⟩ := b
  rw [Bool.eq_iff_iff]
  simp [cellsEq, cellEq, encTg]
theorem session_eq (a b : Ses) : cellsEq (encSes a) (encSes b) = decide (a = b) := by
  obtain ⟨a1, a2⟩ := a
  obtain ⟨b1, b2⟩ := b
  rw [Bool.eq_iff_iff]
  simp [cellsEq, cellEq, encSes]
end Silo
namespace Go.Proofs.YtdlpibhecdfbcabGreatDoor
open Go Go.Eng Go.RowKit Silo TryzT
theorem copyTags_ok {w : World} {v : Value} {l : List Tg} (h0 : Rd tgS w v l) (hl : l.length ≤ 1048576) :
   Calls Tryz.prog 25 #[v] w (Ret fun v' w' => Below w.heap.size w w' ∧ Own w' w.heap.size 66 2 v' l.length (l.flatMap encTg)) := by
 obtain ⟨c, hO, hc⟩ := OldC.start w
 have h1 : RdC tgS c w [0] v l := Rd.toC h0 (fun k hk => by simp [hc, hasC])
 clear hc h0
 refine enter (n := 19) (res := #[.tmp 2]) Tryz.func25 rfl rfl rfl rfl <| cseq <| cg <| za rfl <| cnil <| cseq <| cg <| za rfl <| cnil <| cseq <| cseq <| cg <| za rfl <| cnil <| cblock <| WC.loop (σ := Nat × Value) (fun st => [(0, v), (3, st.2), (4, I st.1)]) (fun st w' => ∃ c', OldC w c' w' ∧ RdC tgS c' w' [0] v l ∧ OwnC c' w' 3 66 2 st.2 st.1 ((l.take st.1).flatMap encTg) ∧ st.1 ≤ l.length) (fun st => l.length - st.1) (0, .slice none 0 0) subs ⟨_, hO, h1, OwnC.nil _ _ _ _ _, by simp⟩ ?_
 clear hO h1
 rintro ⟨k, vm⟩ wl ⟨cl, hO, h1, ho, hk⟩
 dsimp only at hO h1 ho hk ⊢
 refine cseq <| cseq <| cg <| zm rfl <| zm rfl ?_
 first | refine vq (Val.rdlen sl23 (by assumption) rfl) ?_ | refine vq (Val.sllen Tryz.underlying23 rfl) ?_ | refine vq (Val.olen sl23 (by assumption) rfl) ?_ | refine vq (Val.rdlenC sl23 (by assumption) rfl) ?_
 refine vq (Val.lss rfl rfl) <| cnil <| WC.cond rfl (fun hc3 => ?_) (fun hc3 => ?_)
 ·try simp only [tstS] at hc3
  have ka : k < l.length := by omega
  obtain ⟨hc14, ok1⟩ := RdC.elFlat h1 ka (by decide)
  refine cskip <| cseq <| cblock <| cg <| zm rfl <| zm rfl <| zm rfl ?_
  first | refine vq (Val.indexAddr sl23 (by assumption) rfl rfl rfl side side) ?_ | refine vq (Val.indexC sl23 (by assumption) rfl rfl side side) ?_ | refine vq (Val.indexO sl23 (by assumption) rfl rfl side side) ?_
  refine vq (Val.loadE agg66 rfl hc14.cel rfl) <| ve (Eff.build1C cl 116 sl23 rfl rfl rfl rfl rfl) ?_
  rintro _ w1 ⟨b16, c1, rfl, m, hb16⟩
  replace hO := hO.mv m; replace h1 := h1.mv m; replace ho := ho.mv m
  refine ve (Eff.appendC sl23 rfl rfl ho (Src.cellsAt Tryz.underlying23 hb16.blk.cellsAt rfl ones) mxl oms) ?_
  rintro v17 w2 ⟨c2, m, hOq⟩
  clear hb16
  replace hO := hO.mv m; replace h1 := h1.mv m
  replace ho := hOq
  refine za rfl <| cnil <| cg <| zm rfl <| vq (Val.addI rfl rfl side side) <| za rfl <| cnil ?_
  exact ⟨(k + 1, v17), subs, ⟨_, hO, h1, by rw [take_succ_flatMap _ ka]; exact ho, ka⟩, by dsimp only; omega⟩
 try simp only [tstS] at hc3
 have : k = l.length := by omega
 subst this
 rw [List.take_length] at ho
 refine WC.exit rfl <| cseq <| cg <| zm rfl <| za rfl <| cnil <| WC.ret1 rfl rfl ?_
 exact ⟨hO.below, ho.fromOld hO (by decide)⟩
theorem eqTags_ok {w : World} {v1 v2 : Value} {a b : List Tg} (h1 : Rd tgS w v1 a) (h2 : Rd tgS w v2 b) :
   Calls Tryz.prog 42 #[v1, v2] w (Ret fun v w' => Below w.heap.size w w' ∧ v = .bool (decide (a = b))) := by
 have hK : Old w w := Old.refl w
 have la := h1.lenN
 refine enter (n := 26) (res := #[.tmp 4]) Tryz.func42 rfl rfl rfl rfl <| cseq <| cg <| za rfl <| cnil <| cseq <| cseq <| cg <| zm rfl ?_
 first | refine vq (Val.rdlen sl23 (by assumption) rfl) ?_ | refine vq (Val.sllen Tryz.underlying23 rfl) ?_
 refine zm rfl ?_
 first | refine vq (Val.rdlen sl23 (by assumption) rfl) ?_ | refine vq (Val.sllen Tryz.underlying23 rfl) ?_
 refine vq (Val.neq rfl rfl) <| cnil <| WC.cond rfl (fun hc1 => ?_) (fun hc1 => ?_)
 ·try simp only [tstS] at hc1
  have : a ≠ b := fun e => by subst e; omega
  refine cseq <| cg <| za rfl <| cnil <| WC.ret1 rfl rfl ?_
  exact ⟨hK, by simp [this]⟩
 try simp only [tstS] at hc1
 refine cskip <| cseq <| cseq <| cg <| za rfl <| cnil <| cblock <| WC.loop (σ := Nat) (fun k => [(0, v1), (1, v2), (5, I k)]) (fun k w' => Rd tgS w' v1 a ∧ Rd tgS w' v2 b ∧ Old w w' ∧ k ≤ a.length ∧ a.take k = b.take k) (fun k => a.length - k) 0 subs ⟨h1, h2, hK, by omega, rfl⟩ ?_
 rintro k wl ⟨h1, h2, hK, hk, he⟩
 have hln : a.length = b.length := by omega
 refine cseq <| cseq <| cg <| zm rfl <| zm rfl ?_
 first | refine vq (Val.rdlen sl23 (by assumption) rfl) ?_ | refine vq (Val.sllen Tryz.underlying23 rfl) ?_
 refine vq (Val.lss rfl rfl) <| cnil <| WC.cond rfl (fun hc4 => ?_) (fun hc4 => ?_)
 ·try simp only [tstS] at hc4
  have ka : k < a.length := by omega
  have kb : k < b.length := by omega
  obtain ⟨cs1, hc19, rfl, ok1⟩ := h1.el ka
  obtain ⟨cs2, hc23, rfl, ok2⟩ := h2.el kb
  have heq : cellsEq (encTg a[k]) (encTg b[k]) = decide (a[k] = b[k]) := tag_eq _ _
  refine cskip <| cseq <| cblock <| cseq <| WC.regionD (Below wl.heap.size wl) [0, 0, 0, 1, 0, 0, 0, 1, 0] [0, 1, 2, 3, 4, 5, 6, 7, 8] mixed (by kernel_rfl) ?_
  have hk1 : Below wl.heap.size wl wl.drew := (Below.refl _ _).drew
  have hCw : Below wl.heap.size wl wl.drew := (Below.refl _ _).drew
  generalize wl.drew = w1 at hk1 hCw ⊢
  have hc190 := hc19
  have hc230 := hc23
  replace h1 := h1.up hk1; replace h2 := h2.up hk1; replace hK := hK.up hk1
  refine zdm rfl rfl <| zdm rfl rfl <| vd rfl (fun _ => Val.indexAddr sl23 (by assumption) rfl rfl rfl side side) <| qc rfl rfl rfl hCw (fun W hW => Val.loadE agg66 rfl (hc190.up hW) rfl) rfl <| zdm rfl rfl <| zdm rfl rfl <| vd rfl (fun _ => Val.indexAddr sl23 (by assumption) rfl rfl rfl side side) <| qc rfl rfl rfl hCw (fun W hW => Val.loadE agg66 rfl (hc230.up hW) rfl) rfl <| vd rfl (fun _ => Val.stne flat66 rfl rfl rfl (by simp [sameKinds])) ?_
  rw [heq]
  refine WD.nil ?_
  clear hc190 hc230
  clear hCw
  refine WC.cond rfl (fun hc6 => ?_) (fun hc6 => ?_)
  ·try simp only [tstS] at hc6
   replace hc6 : a[k] ≠ b[k] := by simpa using hc6
   refine cseq <| cg <| za rfl <| cnil <| WC.ret1 rfl rfl ?_
   exact ⟨hK, by simp [take_ne ka kb hc6]⟩
  try simp only [tstS] at hc6
  replace hc6 : a[k] = b[k] := by simpa using hc6
  refine cskip <| cg <| zm rfl <| vq (Val.addI rfl rfl side side) <| za rfl <| cnil ?_
  exact ⟨k + 1, subs, ⟨h1, h2, hK, ka, take_step ka kb he hc6⟩, by omega⟩
 try simp only [tstS] at hc4
 refine WC.exit rfl <| cseq <| cg <| za rfl <| cnil <| WC.ret1 rfl rfl ?_
 exact ⟨hK, by simp [take_all he (by omega) (by omega)]⟩
theorem copySessions_ok {w : World} {v : Value} {l : List Ses} (h0 : Rd sesS w v l) (hl : l.length ≤ 1048576) :
   Calls Tryz.prog 26 #[v] w (Ret fun v' w' => Below w.heap.size w w' ∧ Own w' w.heap.size 63 2 v' l.length (l.flatMap encSes)) := by
 obtain ⟨c, hO, hc⟩ := OldC.start w
 have h1 : RdC sesS c w [0] v l := Rd.toC h0 (fun k hk => by simp [hc, hasC])
 clear hc h0
 refine enter (n := 19) (res := #[.tmp 2]) Tryz.func26 rfl rfl rfl rfl <| cseq <| cg <| za rfl <| cnil <| cseq <| cg <| za rfl <| cnil <| cseq <| cseq <| cg <| za rfl <| cnil <| cblock <| WC.loop (σ := Nat × Value) (fun st => [(0, v), (3, st.2), (4, I st.1)]) (fun st w' => ∃ c', OldC w c' w' ∧ RdC sesS c' w' [0] v l ∧ OwnC c' w' 3 63 2 st.2 st.1 ((l.take st.1).flatMap encSes) ∧ st.1 ≤ l.length) (fun st => l.length - st.1) (0, .slice none 0 0) subs ⟨_, hO, h1, OwnC.nil _ _ _ _ _, by simp⟩ ?_
 clear hO h1
 rintro ⟨k, vm⟩ wl ⟨cl, hO, h1, ho, hk⟩
 dsimp only at hO h1 ho hk ⊢
 refine cseq <| cseq <| cg <| zm rfl <| zm rfl ?_
 first | refine vq (Val.rdlen sl24 (by assumption) rfl) ?_ | refine vq (Val.sllen Tryz.underlying24 rfl) ?_ | refine vq (Val.olen sl24 (by assumption) rfl) ?_ | refine vq (Val.rdlenC sl24 (by assumption) rfl) ?_
 refine vq (Val.lss rfl rfl) <| cnil <| WC.cond rfl (fun hc3 => ?_) (fun hc3 => ?_)
 ·try simp only [tstS] at hc3
  have ka : k < l.length := by omega
  obtain ⟨hc14, ok1⟩ := RdC.elFlat h1 ka (by decide)
  refine cskip <| cseq <| cblock <| cg <| zm rfl <| zm rfl <| zm rfl ?_
  first | refine vq (Val.indexAddr sl24 (by assumption) rfl rfl rfl side side) ?_ | refine vq (Val.indexC sl24 (by assumption) rfl rfl side side) ?_ | refine vq (Val.indexO sl24 (by assumption) rfl rfl side side) ?_
  refine vq (Val.loadE agg63 rfl hc14.cel rfl) <| ve (Eff.build1C cl 116 sl24 rfl rfl rfl rfl rfl) ?_
  rintro _ w1 ⟨b16, c1, rfl, m, hb16⟩
  replace hO := hO.mv m; replace h1 := h1.mv m; replace ho := ho.mv m
  refine ve (Eff.appendC sl24 rfl rfl ho (Src.cellsAt Tryz.underlying24 hb16.blk.cellsAt rfl ones) mxl oms) ?_
  rintro v17 w2 ⟨c2, m, hOq⟩
  clear hb16
  replace hO := hO.mv m; replace h1 := h1.mv m
  replace ho := hOq
  refine za rfl <| cnil <| cg <| zm rfl <| vq (Val.addI rfl rfl side side) <| za rfl <| cnil ?_
  exact ⟨(k + 1, v17), subs, ⟨_, hO, h1, by rw [take_succ_flatMap _ ka]; exact ho, ka⟩, by dsimp only; omega⟩
 try simp only [tstS] at hc3
 have : k = l.length := by omega
 subst this
 rw [List.take_length] at ho
 refine WC.exit rfl <| cseq <| cg <| zm rfl <| za rfl <| cnil <| WC.ret1 rfl rfl ?_
 exact ⟨hO.below, ho.fromOld hO (by decide)⟩
theorem eqSessions_ok {w : World} {v1 v2 : Value} {a b : List Ses} (h1 : Rd sesS w v1 a) (h2 : Rd sesS w v2 b) :
   Calls Tryz.prog 43 #[v1, v2] w (Ret fun v w' => Below w.heap.size w w' ∧ v = .bool (decide (a = b))) := by
 have hK : Old w w := Old.refl w
 have la := h1.lenN
 refine enter (n := 26) (res := #[.tmp 4]) Tryz.func43 rfl rfl rfl rfl <| cseq <| cg <| za rfl <| cnil <| cseq <| cseq <| cg <| zm rfl ?_
 first | refine vq (Val.rdlen sl24 (by assumption) rfl) ?_ | refine vq (Val.sllen Tryz.underlying24 rfl) ?_
 refine zm rfl ?_
 first | refine vq (Val.rdlen sl24 (by assumption) rfl) ?_ | refine vq (Val.sllen Tryz.underlying24 rfl) ?_
 refine vq (Val.neq rfl rfl) <| cnil <| WC.cond rfl (fun hc1 => ?_) (fun hc1 => ?_)
 ·try simp only [tstS] at hc1
  have : a ≠ b := fun e => by subst e; omega
  refine cseq <| cg <| za rfl <| cnil <| WC.ret1 rfl rfl ?_
  exact ⟨hK, by simp [this]⟩
 try simp only [tstS] at hc1
 refine cskip <| cseq <| cseq <| cg <| za rfl <| cnil <| cblock <| WC.loop (σ := Nat) (fun k => [(0, v1), (1, v2), (5, I k)]) (fun k w' => Rd sesS w' v1 a ∧ Rd sesS w' v2 b ∧ Old w w' ∧ k ≤ a.length ∧ a.take k = b.take k) (fun k => a.length - k) 0 subs ⟨h1, h2, hK, by omega, rfl⟩ ?_
 rintro k wl ⟨h1, h2, hK, hk, he⟩
 have hln : a.length = b.length := by omega
 refine cseq <| cseq <| cg <| zm rfl <| zm rfl ?_
 first | refine vq (Val.rdlen sl24 (by assumption) rfl) ?_ | refine vq (Val.sllen Tryz.underlying24 rfl) ?_
 refine vq (Val.lss rfl rfl) <| cnil <| WC.cond rfl (fun hc4 => ?_) (fun hc4 => ?_)
 ·try simp only [tstS] at hc4
  have ka : k < a.length := by omega
  have kb : k < b.length := by omega
  obtain ⟨cs1, hc19, rfl, ok1⟩ := h1.el ka
  obtain ⟨cs2, hc23, rfl, ok2⟩ := h2.el kb
  have heq : cellsEq (encSes a[k]) (encSes b[k]) = decide (a[k] = b[k]) := session_eq _ _
  refine cskip <| cseq <| cblock <| cseq <| WC.regionD (Below wl.heap.size wl) [0, 0, 0, 1, 0, 0, 0, 1, 0] [0, 1, 2, 3, 4, 5, 6, 7, 8] mixed (by kernel_rfl) ?_
  have hk1 : Below wl.heap.size wl wl.drew := (Below.refl _ _).drew
  have hCw : Below wl.heap.size wl wl.drew := (Below.refl _ _).drew
  generalize wl.drew = w1 at hk1 hCw ⊢
  have hc190 := hc19
  have hc230 := hc23
  replace h1 := h1.up hk1; replace h2 := h2.up hk1; replace hK := hK.up hk1
  refine zdm rfl rfl <| zdm rfl rfl <| vd rfl (fun _ => Val.indexAddr sl24 (by assumption) rfl rfl rfl side side) <| qc rfl rfl rfl hCw (fun W hW => Val.loadE agg63 rfl (hc190.up hW) rfl) rfl <| zdm rfl rfl <| zdm rfl rfl <| vd rfl (fun _ => Val.indexAddr sl24 (by assumption) rfl rfl rfl side side) <| qc rfl rfl rfl hCw (fun W hW => Val.loadE agg63 rfl (hc230.up hW) rfl) rfl <| vd rfl (fun _ => Val.stne flat63 rfl rfl rfl (by simp [sameKinds])) ?_
  rw [heq]
  refine WD.nil ?_
  clear hc190 hc230
  clear hCw
  refine WC.cond rfl (fun hc6 => ?_) (fun hc6 => ?_)
  ·try simp only [tstS] at hc6
   replace hc6 : a[k] ≠ b[k] := by simpa using hc6
   refine cseq <| cg <| za rfl <| cnil <| WC.ret1 rfl rfl ?_
   exact ⟨hK, by simp [take_ne ka kb hc6]⟩
  try simp only [tstS] at hc6
  replace hc6 : a[k] = b[k] := by simpa using hc6
  refine cskip <| cg <| zm rfl <| vq (Val.addI rfl rfl side side) <| za rfl <| cnil ?_
  exact ⟨k + 1, subs, ⟨h1, h2, hK, ka, take_step ka kb he hc6⟩, by omega⟩
 try simp only [tstS] at hc4
 refine WC.exit rfl <| cseq <| cg <| za rfl <| cnil <| WC.ret1 rfl rfl ?_
 exact ⟨hK, by simp [take_all he (by omega) (by omega)]⟩
theorem copyState_ok {c : Nat → Nat} {w : World} {vT vG vS : Value} {S : Sta} (h1 : Rd thgS w vT S.things) (h2 : Rd tgS w vG S.tags) (h3 : Rd sesS w vS S.sessions) (hl1 : S.things.length ≤ 1048576) (hl2 : S.tags.length ≤ 1048576) (hl3 : S.sessions.length ≤ 1048576) : Calls Tryz.prog 13 #[.agg #[vT, vG, vS, I S.next]] w (Ret fun v w' => ∃ c', Mv c w c' w' [] ∧ ∃ uT uG uS, v = .agg #[uT, uG, uS, I S.next] ∧ OwnC c' w' 71 60 3 uT S.things.length (S.things.flatMap encThg) ∧ OwnC c' w' 72 66 2 uG S.tags.length (S.tags.flatMap encTg) ∧ OwnC c' w' 73 63 2 uS S.sessions.length (S.sessions.flatMap encSes)) := by
 have hJ := OldJ.start c w []
 have q1 := h1.oneC; have q2 := h2.oneC; have q3 := h3.oneC
 replace h1 : RdC thgS (mask c []) w [0] vT S.things := Rd.toC h1 (fun k hk => by simp [mask, hasC])
 replace h2 : RdC tgS (mask c []) w [0] vG S.tags := Rd.toC h2 (fun k hk => by simp [mask, hasC])
 replace h3 : RdC sesS (mask c []) w [0] vS S.sessions := Rd.toC h3 (fun k hk => by simp [mask, hasC])
 generalize mask c [] = c0 at hJ h1 h2 h3
 refine enter (n := 18) (res := #[.cell 2 26]) Tryz.func13 rfl rfl rfl rfl <| cseq <| cg <| ve (Eff.boxC c0 101 rfl) ?_
 rintro _ w1 ⟨b1, c1, rfl, m, hb1⟩
 replace hJ := hJ.mv m; replace h1 := h1.mv m; replace h2 := h2.mv m; replace h3 := h3.mv m
 refine ve (Eff.allocC c1 102 zero26) ?_
 rintro _ w2 ⟨b2, c2, rfl, m, hb2⟩
 replace hJ := hJ.mv m; replace h1 := h1.mv m; replace h2 := h2.mv m; replace h3 := h3.mv m; replace hb1 := hb1.mv m
 refine cnil <| cseq <| cg <| vq (Val.loadBN agg26 rfl hb1.blk rfl) <| ve (Eff.allocC c2 103 zero26) ?_
 rintro _ w3 ⟨b3, c3, rfl, m, hb3⟩
 replace hJ := hJ.mv m; replace h1 := h1.mv m; replace h2 := h2.mv m; replace h3 := h3.mv m; replace hb1 := hb1.mv m; replace hb2 := hb2.mv m
 refine WR.eff_ (Eff.storeNC agg26 rfl rfl hb3 rfl rfl ones) ?_
 rintro _ w4 ⟨hS, m⟩
 replace hJ := hJ.mv m; replace h1 := h1.mv m; replace h2 := h2.mv m; replace h3 := h3.mv m; replace hb1 := hb1.mv m; replace hb2 := hb2.mv m
 replace hb3 := hS
 refine cnil <| cseq <| cg <| vq (Val.fieldAddr fld26_0 rfl) <| vq (Val.loadB scl22 rfl hb1.blk rfl) <| ve (Eff.pureC c3 71 (Eff.call pf24 rfl (copyThings_ok h1.now hl1))) ?_
 rintro v7 w5 ⟨c5, m, hx5, hoT⟩
 replace hJ := hJ.mv m; replace h2 := h2.mv m; replace h3 := h3.mv m; replace hb1 := hb1.mv m; replace hb2 := hb2.mv m; replace hb3 := hb3.mv m
 replace hoT := hoT.toC hx5
 have p1 := hoT.cellsV; have p2 := hoT.oneC
 refine vq (Val.fieldAddr fld26_0 rfl) <| WR.eff_ (Eff.storeC scl22 rfl rfl ra ra hb3 rfl) ?_
 rintro _ w6 ⟨hS, m⟩
 replace hJ := hJ.mv m; replace h2 := h2.mv m; replace h3 := h3.mv m; replace hb1 := hb1.mv m; replace hb2 := hb2.mv m; replace hoT := hoT.mv m
 replace hb3 := hS
 refine cnil <| cseq <| cg <| vq (Val.fieldAddr fld26_1 rfl) <| vq (Val.loadB scl23 rfl hb1.blk rfl) <| ve (Eff.pureC c5 72 (Eff.call pf25 rfl (copyTags_ok h2.now hl2))) ?_
 rintro v11 w7 ⟨c7, m, hx7, hoG⟩
 replace hJ := hJ.mv m; replace h3 := h3.mv m; replace hb1 := hb1.mv m; replace hb2 := hb2.mv m; replace hb3 := hb3.mv m; replace hoT := hoT.mv m
 replace hoG := hoG.toC hx7
 have p3 := hoG.cellsV; have p4 := hoG.oneC
 refine vq (Val.fieldAddr fld26_1 rfl) <| WR.eff_ (Eff.storeC scl23 rfl rfl ra ra hb3 rfl) ?_
 rintro _ w8 ⟨hS, m⟩
 replace hJ := hJ.mv m; replace h3 := h3.mv m; replace hb1 := hb1.mv m; replace hb2 := hb2.mv m; replace hoT := hoT.mv m; replace hoG := hoG.mv m
 replace hb3 := hS
 refine cnil <| cseq <| cg <| vq (Val.fieldAddr fld26_2 rfl) <| vq (Val.loadB scl24 rfl hb1.blk rfl) <| ve (Eff.pureC c7 73 (Eff.call pf26 rfl (copySessions_ok h3.now hl3))) ?_
 rintro v15 w9 ⟨c9, m, hx9, hoS⟩
 replace hJ := hJ.mv m; replace hb2 := hb2.mv m; replace hb3 := hb3.mv m; replace hoT := hoT.mv m; replace hoG := hoG.mv m
 replace hoS := hoS.toC hx9
 have p5 := hoS.cellsV; have p6 := hoS.oneC
 refine vq (Val.fieldAddr fld26_2 rfl) <| WR.eff_ (Eff.storeC scl24 rfl rfl ra ra hb3 rfl) ?_
 rintro _ w10 ⟨hS, m⟩
 replace hJ := hJ.mv m; replace hb2 := hb2.mv m; replace hoT := hoT.mv m; replace hoG := hoG.mv m; replace hoS := hoS.mv m
 replace hb3 := hS
 refine cnil <| cseq <| cg <| vq (Val.loadBN agg26 rfl hb3.blk rfl) <| WR.eff_ (Eff.storeNC agg26 rfl rfl hb2 rfl rfl ones) ?_
 rintro _ w11 ⟨hS, m⟩
 replace hJ := hJ.mv m; replace hoT := hoT.mv m; replace hoG := hoG.mv m; replace hoS := hoS.mv m
 replace hb2 := hS
 refine cnil <| WC.retR1 rfl (RVal.cellN agg26 rfl hb2.blk rfl) ?_
 exact ⟨_, hJ.out, _, _, _, rfl, hoT.outNew hJ rfl, hoG.outNew hJ rfl, hoS.outNew hJ rfl⟩
theorem eqState_ok {w : World} {vT vG vS uT uG uS : Value} {S U : Sta} (h1 : Rd thgS w vT S.things) (h2 : Rd tgS w vG S.tags) (h3 : Rd sesS w vS S.sessions) (k1 : Rd thgS w uT U.things) (k2 : Rd tgS w uG U.tags) (k3 : Rd sesS w uS U.sessions) : Calls Tryz.prog 20 #[.agg #[vT, vG, vS, I S.next], .agg #[uT, uG, uS, I U.next]] w (Ret fun v w' => Below w.heap.size w w' ∧ v = .bool (decide (S = U))) := by
 have hK : Old w w := Old.refl w
 have q1 := h1.oneC; have q2 := h2.oneC; have q3 := h3.oneC
 have p1 := k1.oneC; have p2 := k2.oneC; have p3 := k3.oneC
 refine enter (n := 31) (res := #[.tmp 4]) Tryz.func20 rfl rfl rfl rfl <| cseq <| cg <| ve (Eff.box rfl) ?_
 rintro _ w1 ⟨b2, rfl, hn2⟩
 have hk1 := hn2.below
 replace h1 := h1.up hk1; replace h2 := h2.up hk1; replace h3 := h3.up hk1; replace k1 := k1.up hk1; replace k2 := k2.up hk1; replace k3 := k3.up hk1; replace hK := hK.up hk1
 have hb2 := hn2.blk
 refine ve (Eff.box rfl) ?_
 rintro _ w2 ⟨b3, rfl, hn3⟩
 have hk2 := hn3.below
 replace h1 := h1.up hk2; replace h2 := h2.up hk2; replace h3 := h3.up hk2; replace k1 := k1.up hk2; replace k2 := k2.up hk2; replace k3 := k3.up hk2; replace hK := hK.up hk2; replace hb2 := hb2.up hk2
 have hb3 := hn3.blk
 refine za rfl <| cnil <| cseq <| cg <| vq (Val.fieldAddr fld26_0 rfl) <| vq (Val.loadB scl22 rfl hb2 rfl) <| vq (Val.fieldAddr fld26_0 rfl) <| vq (Val.loadB scl22 rfl hb3 rfl) <| ve (Eff.call pf41 rfl (eqThings_ok h1 k1)) ?_
 rintro v9 w3 ⟨hk3, rfl⟩
 replace h2 := h2.up hk3; replace h3 := h3.up hk3; replace k2 := k2.up hk3; replace k3 := k3.up hk3; replace hK := hK.up hk3; replace hb2 := hb2.up hk3; replace hb3 := hb3.up hk3
 refine zm rfl ?_
 apply WR.sc true 5 (decide (S.tags = U.tags)) (fun w' => Below w3.heap.size w3 w')
 case hl | hg | hu | hv | hs | hoff | hd => rfl
 case hF => exact fun _ => Below.refl _ _
 case hT =>
  intro hq11
  try simp only [tstS] at hq11
  simp only [List.take_succ_cons, List.take_zero]
  have hKsc11 : Old w3 w3 := Old.refl _
  refine WR.on rfl rfl <| vq (Val.fieldAddr fld26_1 rfl) <| WR.on rfl rfl <| vq (Val.loadB scl23 rfl hb2 rfl) <| WR.on rfl rfl <| vq (Val.fieldAddr fld26_1 rfl) <| WR.on rfl rfl <| vq (Val.loadB scl23 rfl hb3 rfl) <| WR.on rfl rfl <| ve (Eff.call pf42 rfl (eqTags_ok h2 k2)) ?_
  rintro v15 w4 ⟨hk4, rfl⟩
  replace hKsc11 := hKsc11.up hk4
  exact WR.nil ⟨rfl, Sub.drop _ 5 _ rfl rfl, hKsc11⟩
 intro w5 hk5
 replace h3 := h3.up hk5; replace k3 := k3.up hk5; replace hK := hK.up hk5; replace hb2 := hb2.up hk5; replace hb3 := hb3.up hk5
 refine zm rfl ?_
 apply WR.sc true 5 (decide (S.sessions = U.sessions)) (fun w' => Below w5.heap.size w5 w')
 case hl | hg | hu | hv | hs | hoff | hd => rfl
 case hF => exact fun _ => Below.refl _ _
 case hT =>
  intro hq18
  try simp only [tstS] at hq18
  simp only [List.take_succ_cons, List.take_zero]
  have hKsc18 : Old w5 w5 := Old.refl _
  refine WR.on rfl rfl <| vq (Val.fieldAddr fld26_2 rfl) <| WR.on rfl rfl <| vq (Val.loadB scl24 rfl hb2 rfl) <| WR.on rfl rfl <| vq (Val.fieldAddr fld26_2 rfl) <| WR.on rfl rfl <| vq (Val.loadB scl24 rfl hb3 rfl) <| WR.on rfl rfl <| ve (Eff.call pf43 rfl (eqSessions_ok h3 k3)) ?_
  rintro v22 w6 ⟨hk6, rfl⟩
  replace hKsc18 := hKsc18.up hk6
  exact WR.nil ⟨rfl, Sub.drop _ 5 _ rfl rfl, hKsc18⟩
 intro w7 hk7
 replace hK := hK.up hk7; replace hb2 := hb2.up hk7; replace hb3 := hb3.up hk7
 refine zm rfl ?_
 apply WR.sc true 5 _ (fun w' => w7 = w')
 case hl | hg | hu | hv | hs | hoff | hd => rfl
 case hF => exact fun _ => rfl
 case hT =>
  intro hq25
  try simp only [tstS] at hq25
  simp only [List.take_succ_cons, List.take_zero]
  refine WR.on rfl rfl <| vq (Val.fieldAddr fld26_3 rfl) <| WR.on rfl rfl <| vq (Val.loadB scl3 rfl hb2 rfl) <| WR.on rfl rfl <| vq (Val.fieldAddr fld26_3 rfl) <| WR.on rfl rfl <| vq (Val.loadB scl3 rfl hb3 rfl) <| WR.on rfl rfl <| vq (Val.eql rfl rfl) ?_
  exact WR.nil ⟨rfl, Sub.drop _ 5 _ rfl rfl, rfl⟩
 rintro _ rfl
 refine za rfl <| cnil <| WC.ret1 rfl rfl ?_
 exact ⟨hK, by
   have e : decide (S = U) = (((decide (S.things = U.things) && decide (S.tags = U.tags)) && decide (S.sessions = U.sessions)) && decide (S.next = U.next)) := by
     cases S; cases U
     rw [Bool.eq_iff_iff]; simp [and_assoc]
   rw [e]; rfl⟩
end Go.Proofs.YtdlpibhecdfbcabGreatDoor

namespace Silo
open Go Go.Eng
def atO (o : Option Nat) : Int := match o with | some i => (i : Int) | none => -1
theorem findIdx_hit {α : Type} {q : α → Bool} {l : List α} {k : Nat} (hk : k < l.length) (h : q l[k] = true) (hn : ∀ i (hi : i < l.length), i < k → q l[i] = false) : l.findIdx? q = some k := by
  rw [List.findIdx?_eq_some_iff_getElem]
  exact ⟨hk, h, fun j hj => by rw [hn j (by omega) hj]; decide⟩
theorem findIdx_miss {α : Type} {q : α → Bool} {l : List α} (hn : ∀ i (hi : i < l.length), q l[i] = false) : l.findIdx? q = none := by
  rw [List.findIdx?_eq_none_iff]
  intro x hx
  obtain ⟨i, hi, rfl⟩ := List.mem_iff_getElem.1 hx
  exact hn i hi
theorem no_next {α : Type} {q : α → Bool} {l : List α} {k : Nat} (hk : k < l.length) (h : q l[k] = false) (hn : ∀ i (hi : i < l.length), i < k → q l[i] = false) : ∀ i (hi : i < l.length), i < k + 1 → q l[i] = false := fun i hi hik => by
  rcases Nat.lt_or_ge i k with h1 | h1
  · exact hn i hi h1
  · have : i = k := by omega
    subst this; exact h
end Silo
namespace Go.Proofs.YtdlpibhecdfbcabGreatDoor
open Go Go.Eng Go.RowKit Silo TryzT
theorem ptag_ok {w : World} {v : Value} {l : List Tg} {d : List UInt8} (h1 : Rd tgS w v l) : Calls Tryz.prog 67 #[v, St d] w (Ret fun v' w' => Below w.heap.size w w' ∧ v' = I (atO (findG l d))) := by
 have hK : Old w w := Old.refl w
 have hsm := h1.small
 refine enter (n := 20) (res := #[.tmp 4]) Tryz.func67 rfl rfl rfl rfl <| cseq <| cg <| za rfl <| cnil <| cseq <| cseq <| cg <| za rfl <| cnil <| cblock <| WC.loop (σ := Nat) (fun k => [(0, v), (1, St d), (5, I k)]) (fun k w' => Rd tgS w' v l ∧ Old w w' ∧ k ≤ l.length ∧ ∀ i (hi : i < l.length), i < k → (fun t : Tg => t.name == d) l[i] = false) (fun k => l.length - k) 0 subs ⟨h1, hK, by omega, fun i hi h => absurd h (Nat.not_lt_zero _)⟩ ?_
 clear h1 hK
 rintro k wl ⟨h1, hK, hk, hn⟩
 refine cseq <| cseq <| cg <| zm rfl <| zm rfl ?_
 first | refine vq (Val.rdlen sl23 (by assumption) rfl) ?_ | refine vq (Val.sllen Tryz.underlying23 rfl) ?_
 refine vq (Val.lss rfl rfl) <| cnil <| WC.cond rfl (fun hc2 => ?_) (fun hc2 => ?_)
 ·try simp only [tstS] at hc2
  have ka : k < l.length := by omega
  obtain ⟨cs1, hc14, rfl, ok1⟩ := h1.el ka
  refine cskip <| cseq <| cblock <| cseq <| cg <| zm rfl <| zm rfl <| vq (Val.indexAddr sl23 (by assumption) rfl rfl rfl side side) <| vq (Val.fieldAddrP fld66_0 rfl) ?_
  refine vq (Val.loadEf scl9 rfl hc14 rfl) <| zm rfl <| vq (Val.seq_ rfl rfl) <| cnil <| WC.cond rfl (fun hc4 => ?_) (fun hc4 => ?_)
  ·try simp only [tstS] at hc4
   refine cseq <| cg <| zm rfl <| za rfl <| cnil <| WC.ret1 rfl rfl ?_
   exact ⟨hK, by rw [findG, findIdx_hit (q := fun t : Tg => t.name == d) ka hc4 hn]; rfl⟩
  try simp only [tstS] at hc4
  refine cskip <| cg <| zm rfl <| vq (Val.addI rfl rfl side side) <| za rfl <| cnil ?_
  exact ⟨k + 1, subs, ⟨h1, hK, ka, no_next (q := fun t : Tg => t.name == d) ka hc4 hn⟩, by omega⟩
 try simp only [tstS] at hc2
 refine WC.exit rfl <| cseq <| cg <| za rfl <| cnil <| WC.ret1 rfl rfl ?_
 exact ⟨hK, by rw [findG, findIdx_miss fun i hi => hn i hi (by omega)]; rfl⟩
theorem psession_ok {w : World} {v : Value} {l : List Ses} {d : Int} (h1 : Rd sesS w v l) : Calls Tryz.prog 95 #[v, I d] w (Ret fun v' w' => Below w.heap.size w w' ∧ v' = I (atO (findS l d))) := by
 have hK : Old w w := Old.refl w
 have hsm := h1.small
 refine enter (n := 20) (res := #[.tmp 4]) Tryz.func95 rfl rfl rfl rfl <| cseq <| cg <| za rfl <| cnil <| cseq <| cseq <| cg <| za rfl <| cnil <| cblock <| WC.loop (σ := Nat) (fun k => [(0, v), (1, I d), (5, I k)]) (fun k w' => Rd sesS w' v l ∧ Old w w' ∧ k ≤ l.length ∧ ∀ i (hi : i < l.length), i < k → (fun t : Ses => decide (t.id = d)) l[i] = false) (fun k => l.length - k) 0 subs ⟨h1, hK, by omega, fun i hi h => absurd h (Nat.not_lt_zero _)⟩ ?_
 clear h1 hK
 rintro k wl ⟨h1, hK, hk, hn⟩
 refine cseq <| cseq <| cg <| zm rfl <| zm rfl ?_
 first | refine vq (Val.rdlen sl24 (by assumption) rfl) ?_ | refine vq (Val.sllen Tryz.underlying24 rfl) ?_
 refine vq (Val.lss rfl rfl) <| cnil <| WC.cond rfl (fun hc2 => ?_) (fun hc2 => ?_)
 ·try simp only [tstS] at hc2
  have ka : k < l.length := by omega
  obtain ⟨cs1, hc14, rfl, ok1⟩ := h1.el ka
  refine cskip <| cseq <| cblock <| cseq <| cg <| zm rfl <| zm rfl <| vq (Val.indexAddr sl24 (by assumption) rfl rfl rfl side side) <| vq (Val.fieldAddrP fld63_0 rfl) ?_
  refine vq (Val.loadEf scl3 rfl hc14 rfl) <| zm rfl <| vq (Val.eql rfl rfl) <| cnil <| WC.cond rfl (fun hc4 => ?_) (fun hc4 => ?_)
  ·try simp only [tstS] at hc4
   refine cseq <| cg <| zm rfl <| za rfl <| cnil <| WC.ret1 rfl rfl ?_
   exact ⟨hK, by rw [findS, findIdx_hit (q := fun t : Ses => decide (t.id = d)) ka (decide_eq_true hc4) hn]; rfl⟩
  try simp only [tstS] at hc4
  refine cskip <| cg <| zm rfl <| vq (Val.addI rfl rfl side side) <| za rfl <| cnil ?_
  exact ⟨k + 1, subs, ⟨h1, hK, ka, no_next (q := fun t : Ses => decide (t.id = d)) ka (decide_eq_false hc4) hn⟩, by omega⟩
 try simp only [tstS] at hc2
 refine WC.exit rfl <| cseq <| cg <| za rfl <| cnil <| WC.ret1 rfl rfl ?_
 exact ⟨hK, by rw [findS, findIdx_miss fun i hi => hn i hi (by omega)]; rfl⟩
theorem pbetween_ok {w : World} (n a b : Int) : Calls Tryz.prog 46 #[I n, I a, I b] w (Ret fun v w' => Below w.heap.size w w' ∧ v = .bool (decide (a ≤ n) && decide (n ≤ b))) := by
 refine enter (n := 15) (res := #[.tmp 6]) Tryz.func46 rfl rfl rfl rfl <| cseq <| cg <| za rfl <| cnil <| cseq <| cg <| zm rfl <| zm rfl <| vq (Val.geq rfl rfl) <| zm rfl ?_
 apply WR.sc true 3 _ (fun w' => w = w')
 case hl | hg | hu | hv | hs | hoff | hd => rfl
 case hF => exact fun _ => rfl
 case hT =>
  intro hq7
  try simp only [tstS] at hq7
  simp only [List.take_succ_cons, List.take_zero]
  refine WR.on rfl rfl <| zm rfl <| WR.on rfl rfl <| zm rfl <| WR.on rfl rfl <| vq (Val.leq rfl rfl) ?_
  exact WR.nil ⟨rfl, Sub.drop _ 3 _ rfl rfl, rfl⟩
 rintro _ rfl
 refine za rfl <| cnil <| WC.ret1 rfl rfl ?_
 exact ⟨Below.refl _ _, rfl⟩
theorem popOk_ok {w : World} (o : MOp) : Calls Tryz.prog 28 #[.agg (encOp o).toArray] w (Ret fun v w' => Below w.heap.size w w' ∧ v = .bool (opOk o)) := by
 have hK : Old w w := Old.refl w
 refine enter (n := 6) (res := #[.tmp 2]) Tryz.func28 rfl rfl rfl rfl <| cseq <| cg <| ve (Eff.box rfl) ?_
 rintro _ w1 ⟨b1, rfl, hn1⟩
 have hk1 := hn1.below
 replace hK := hK.up hk1
 have hb1 := hn1.blk
 refine za rfl <| cnil <| cseq <| cg <| vq (Val.fieldAddr fld33_0 rfl) <| vq (Val.loadB scl3 rfl hb1 rfl) <| ve (Eff.call pf46 rfl (pbetween_ok o.kind 1 13)) ?_
 rintro v5 w2 ⟨hk2, rfl⟩
 replace hK := hK.up hk2
 refine za rfl <| cnil <| WC.ret1 rfl rfl ?_
 exact ⟨hK, rfl⟩
set_option maxHeartbeats 1000000 in
theorem pwith_ok {w : World} {v : Value} {T : List Thg} {x : Thg} (h0 : Rd thgS w v T) (hl : T.length ≤ 1000) : Calls Tryz.prog 66 #[v, .agg (encThg x).toArray] w (Ret fun v' w' => Below w.heap.size w w' ∧ Own w' w.heap.size 60 3 v' (T.take (lowT T x.digest) ++ x :: T.drop (lowT T x.digest)).length ((T.take (lowT T x.digest) ++ x :: T.drop (lowT T x.digest)).flatMap encThg)) := by
 obtain ⟨c, hO, hc⟩ := OldC.start w
 have h1 : RdC thgS c w [0] v T := Rd.toC h0 (fun k hk => by simp [hc, hasC])
 obtain ⟨A, cp, rfl, hncp, hm1, _⟩ := h0.form
 clear hc h0
 refine enter (n := 33) (res := #[.tmp 4]) Tryz.func66 rfl rfl rfl rfl <| cseq <| cg <| ve (Eff.boxC c 103 rfl) ?_
 rintro _ w1 ⟨b3, c1, rfl, m, hb3⟩
 replace hO := hO.mv m; replace h1 := h1.mv m
 refine za rfl <| cnil <| cseq <| cg <| za rfl <| cnil <| cseq <| cblock <| WC.loop (σ := Nat) (fun k => [(0, .slice A T.length cp), (3, .pointer (some ⟨b3, 0, none⟩)), (5, I k)]) (fun k w' => ∃ c', OldC w c' w' ∧ RdC thgS c' w' [0] (.slice A T.length cp) T ∧ BlkC c' w' 103 b3 (encThg x) 60 ∧ k ≤ T.length ∧ ∀ i (hi : i < T.length), i < k → (fun t : Thg => Op.bytesLess t.digest x.digest) T[i] = true) (fun k => T.length - k) 0 subs ⟨_, hO, h1, hb3, by omega, fun i hi h => absurd h (Nat.not_lt_zero _)⟩ ?_
 clear hO h1 hb3
 rintro k wl ⟨cl, hO, h1, hb3, hk, hn⟩
 refine cseq <| cseq ?_
 have hcx := fun (ka : k < T.length) => (RdC.elFlat h1 ka (by decide)).1
 refine WC.regionD (Kp cl wl []) [0, 0, 0, 0, 0, 0, 0, 0, 0, 1, 0, 1, 0, 0] [0, 1, 2, 3, 4, 5, 6, 7, 8, 9, 10, 11, 12, 13] mixed (by kernel_rfl) ?_
 have m := Mv.drew cl wl []
 have hCw := Mv.drew cl wl []
 generalize wl.drew = w2 at m hCw ⊢
 have hb30 := hb3
 replace hO := hO.mv m; replace h1 := h1.mv m; replace hb3 := hb3.mv m
 refine zdm rfl rfl <| zdm rfl rfl ?_
 first | refine vd rfl (fun _ => Val.rdlen sl22 (by assumption) rfl) ?_ | refine vd rfl (fun _ => Val.sllen Tryz.underlying22 rfl) ?_ | refine vd rfl (fun _ => Val.olen sl22 (by assumption) rfl) ?_ | refine vd rfl (fun _ => Val.rdlenC sl22 (by assumption) rfl) ?_
 refine vd rfl (fun _ => Val.lss rfl rfl) <| zdm rfl rfl ?_
 apply WD.sc true 8 (decide (k < T.length) && ((T[k]?.map fun t => Op.bytesLess t.digest x.digest).getD false)) (fun w' => w2 = w')
 case hl | hi | hk | hg | hu | hv | hs | hoff | hd => rfl
 case hC => exact hCw.kp
 case hF => exact fun _ => rfl
 case hT =>
  intro hq13
  try simp only [tstS] at hq13
  simp only [List.take_succ_cons, List.take_zero]
  have hc13 := hcx (by omega)
  refine zdm rfl rfl <| zdm rfl rfl ?_
  first | refine vd rfl (fun _ => Val.indexAddr sl22 (by assumption) rfl rfl rfl side side) ?_ | refine vd rfl (fun _ => Val.indexC sl22 (by assumption) rfl rfl side side) ?_ | refine vd rfl (fun _ => Val.indexO sl22 (by assumption) rfl rfl side side) ?_
  refine vd rfl (fun _ => Val.fieldAddrP fld60_0 rfl) <| vc rfl hCw.kp (fun W hW => Val.loadEf scl9 rfl (hc13.kp hW rfl).cel rfl) <| vd rfl (fun _ => Val.fieldAddr fld60_0 rfl) <| vc rfl hCw.kp (fun W hW => Val.loadB scl9 rfl (hb30.kp hW rfl).blk rfl) <| vd rfl (fun _ => Val.slss rfl rfl) ?_
  exact WD.nil ⟨(by rw [List.getElem?_eq_getElem (show k < T.length by omega), decide_eq_true (show k < T.length by omega)]; rfl), Sub.drop _ 8 _ rfl rfl, rfl⟩
 rintro _ rfl
 refine WD.nil ?_
 clear hb30
 clear hCw
 refine WC.cond rfl (fun hc2 => ?_) (fun hc2 => ?_)
 ·try simp only [tstS] at hc2
  obtain ⟨_, ka, hc2'⟩ := hc2
  rw [List.getElem?_eq_getElem ka] at hc2'
  refine cskip <| cblock <| cg <| zm rfl <| vq (Val.addI rfl rfl side side) <| za rfl <| cnil ?_
  exact ⟨k + 1, subs, ⟨_, hO, h1, hb3, ka, upto_next (p := fun t : Thg => Op.bytesLess t.digest x.digest) ka hn hc2'⟩, by omega⟩
 try simp only [tstS] at hc2
 have hlow : lowT T x.digest = k := lowBy_eq hk hn fun hi => by
   rw [List.getElem?_eq_getElem hi] at hc2
   cases hx : Op.bytesLess T[k].digest x.digest with
   | false => rfl
   | true => simp [hi, hx] at hc2
 refine WC.exit rfl <| cseq <| WC.mono (N := fun e w' => ∃ c' v', Sub [(4000000, .tuple #[]), (4, v')] e ∧ OldC w c' w' ∧ OwnC c' w' 5 60 3 v' (k + 1 + (T.length - k)) ((T.take k).flatMap encThg ++ encThg x ++ (T.drop k).flatMap encThg)) ?_ ?_
 ·refine WC.regionT (Kp cl w2 [5]) [0, 0, 0, 2, 1, 2, 2, 0, 0, 0, 2, 0] (.quiet 0 (.quiet 1 (.quiet 2 (.quiet 4 (.quiet 7 (.quiet 8 (.quiet 9 (.two 3 (.one 5 (.one 6 (.one 10 (.quiet 11 .nil)))) 5 (.one 3 (.one 6 (.one 10 (.quiet 11 .nil)))))))))))) mixed (by kernel_rfl) ?_
  have m := Mv.drew cl w2 []
  have hCw := Mv.drew cl w2 [5]
  generalize w2.drew = w3 at m hCw ⊢
  have hb30 := hb3
  replace hO := hO.mv m; replace h1 := h1.mv m
  refine WT.val rfl rfl rfl (fun _ => Val.move rfl) rfl <| WT.val rfl rfl rfl (fun _ => Val.move rfl) rfl <| WT.val rfl rfl rfl (fun _ => Val.partTo sl22 rfl rfl (by omega) (by omega)) rfl ?_
  refine WT.valC rfl rfl rfl hCw.kp (fun W hW => Val.loadBN agg60 rfl (hb30.kp hW rfl).blk rfl) rfl <| WT.val rfl rfl rfl (fun _ => Val.move rfl) rfl <| WT.val rfl rfl rfl (fun _ => Val.move rfl) rfl <| WT.val rfl rfl rfl (fun _ => Val.partFrom sl22 rfl rfl (by omega) (by omega)) rfl ?_
  refine WT.two ?_ ?_
  ·refine WS.eff rfl rfl rfl (Eff.pureC cl 5 (Eff.call pf24 rfl (copyThings_ok (h1.now.to_ (hi := (k : Int).toNat) (by omega)) (by simp; omega)))) rfl ?_
   rintro v25 w4 ⟨c4, m, hx4, ho25⟩
   refine ⟨fun hC => hC.step hCw m rfl, ?_⟩
   replace hCw := hCw.tr m rfl
   replace hO := hO.mv m; replace h1 := h1.mv m
   replace ho25 := ho25.toC hx4
   refine WT.one <| WS.eff rfl rfl rfl (Eff.build1C c4 127 sl22 rfl rfl rfl rfl rfl) rfl ?_
   rintro _ w5 ⟨b27, c5, rfl, m, hb27⟩
   refine ⟨fun hC => hC.step hCw m rfl, ?_⟩
   replace hCw := hCw.tr m rfl
   replace hO := hO.mv m; replace h1 := h1.mv m; replace ho25 := ho25.mv m
   refine WT.one <| WS.eff rfl rfl rfl (Eff.appendC sl22 rfl rfl ho25 (Src.cellsAt Tryz.underlying22 hb27.blk.cellsAt rfl ones) mxl oms) rfl ?_
   rintro v28 w6 ⟨c6, m, hOq⟩
   refine ⟨fun hC => hC.step hCw m rfl, ?_⟩
   replace hCw := hCw.tr m rfl
   clear hb27
   replace hO := hO.mv m; replace h1 := h1.mv m
   replace ho25 := hOq
   refine WT.one <| WS.eff rfl rfl rfl (Eff.appendC sl22 rfl rfl ho25 (Src.flat Tryz.underlying22 (h1.now.from_ (lo := (k : Int).toNat) (by omega))) mxl oms) rfl ?_
   rintro v32 w7 ⟨c7, m, hOq⟩
   refine ⟨fun hC => hC.step hCw m rfl, ?_⟩
   replace hCw := hCw.tr m rfl
   replace hO := hO.mv m
   replace ho25 := hOq
   refine WT.val rfl rfl rfl (fun _ => Val.assign rfl) rfl <| WT.nil ?_
   simp only [Int.toNat_natCast] at ho25
   have e1 : (T.take k).length + 1 + (T.drop k).length = k + 1 + (T.length - k) := by simp; omega
   rw [e1] at ho25
   exact ⟨_, _, subs, hO, ho25⟩
  refine WS.eff rfl rfl rfl (Eff.build1C cl 127 sl22 rfl rfl rfl rfl rfl) rfl ?_
  rintro _ w8 ⟨b27, c8, rfl, m, hb27⟩
  refine ⟨fun hC => hC.step hCw m rfl, ?_⟩
  replace hCw := hCw.tr m rfl
  replace hO := hO.mv m; replace h1 := h1.mv m
  refine WT.one ?_
  refine WS.eff rfl rfl rfl (Eff.pureC c8 5 (Eff.call pf24 rfl (copyThings_ok (h1.now.to_ (hi := (k : Int).toNat) (by omega)) (by simp; omega)))) rfl ?_
  rintro v25 w9 ⟨c9, m, hx9, ho25⟩
  refine ⟨fun hC => hC.step hCw m rfl, ?_⟩
  replace hCw := hCw.tr m rfl
  replace hO := hO.mv m; replace h1 := h1.mv m; replace hb27 := hb27.mv m
  replace ho25 := ho25.toC hx9
  refine WT.one <| WS.eff rfl rfl rfl (Eff.appendC sl22 rfl rfl ho25 (Src.cellsAt Tryz.underlying22 hb27.blk.cellsAt rfl ones) mxl oms) rfl ?_
  rintro v28 w10 ⟨c10, m, hOq⟩
  refine ⟨fun hC => hC.step hCw m rfl, ?_⟩
  replace hCw := hCw.tr m rfl
  clear hb27
  replace hO := hO.mv m; replace h1 := h1.mv m
  replace ho25 := hOq
  refine WT.one <| WS.eff rfl rfl rfl (Eff.appendC sl22 rfl rfl ho25 (Src.flat Tryz.underlying22 (h1.now.from_ (lo := (k : Int).toNat) (by omega))) mxl oms) rfl ?_
  rintro v32 w11 ⟨c11, m, hOq⟩
  refine ⟨fun hC => hC.step hCw m rfl, ?_⟩
  replace hCw := hCw.tr m rfl
  replace hO := hO.mv m
  replace ho25 := hOq
  refine WT.val rfl rfl rfl (fun _ => Val.assign rfl) rfl <| WT.nil ?_
  simp only [Int.toNat_natCast] at ho25
  have e1 : (T.take k).length + 1 + (T.drop k).length = k + 1 + (T.length - k) := by simp; omega
  rw [e1] at ho25
  exact ⟨_, _, subs, hO, ho25⟩
 rintro e9 w9 ⟨c9, v9, hsub, hO, ho⟩
 refine WC.sub hsub ?_
 clear hsub e9
 have e1 : (T.take k).flatMap encThg ++ encThg x ++ (T.drop k).flatMap encThg = (T.take (lowT T x.digest) ++ x :: T.drop (lowT T x.digest)).flatMap encThg := by rw [hlow, List.flatMap_append, List.flatMap_cons, List.append_assoc]
 have e2 : k + 1 + (T.length - k) = (T.take (lowT T x.digest) ++ x :: T.drop (lowT T x.digest)).length := by rw [hlow, List.length_append, List.length_cons, List.length_take, List.length_drop]; omega
 rw [e1, e2] at ho
 refine WC.ret1 rfl rfl ?_
 exact ⟨hO.below, ho.fromOld hO (by decide)⟩
end Go.Proofs.YtdlpibhecdfbcabGreatDoor
