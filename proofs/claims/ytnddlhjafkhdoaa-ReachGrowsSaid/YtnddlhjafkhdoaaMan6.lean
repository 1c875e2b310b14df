/- Manifests: the law of their bytes. No condition. -/
import Derived.Test.YtnddlhjafkhdoaaMan5
set_option linter.unusedSimpArgs false
set_option linter.unusedVariables false
set_option maxRecDepth 100000
namespace Silo
open Go Go.Eng
def tW (l : List (List UInt8)) : Nat := stopSum l.length (l.map List.length)
theorem stopSum_le : ∀ (l : List Nat) (n M : Nat), (∀ x ∈ l, x ≤ M) → stopSum n l ≤ n ∨ stopSum n l ≤ 1048576 + M
  | [], n, M, _ => .inl (Nat.le_refl _)
  | x :: r, n, M, h => by
    unfold stopSum
    split
    · rename_i hn
      have hx := h x (by simp)
      rcases stopSum_le r (n + x) M (fun y hy => h y (by simp [hy])) with h1 | h1 <;> right <;> omega
    · exact .inl (Nat.le_refl _)
theorem le_sum {l : List Nat} {x : Nat} (h : x ∈ l) : x ≤ l.sum := by
  induction l with
  | nil => cases h
  | cons a r ih =>
    simp only [List.sum_cons]
    rcases List.mem_cons.1 h with rfl | h
    · omega
    · have := ih h; omega
theorem tW_small {l : List (List UInt8)} {n : Nat} (h : tW l ≤ n) (hn : n < 1048576) : l.length ≤ n ∧ ∀ x ∈ l, x.length ≤ n := by
  have e := stopSum_small (l.map List.length) l.length (by unfold tW at h; omega)
  unfold tW at h
  rw [e] at h
  refine ⟨by omega, fun x hx => ?_⟩
  have := le_sum (List.mem_map_of_mem (f := List.length) hx)
  omega
def manW (m : Man) : Nat := tW m.blobs + tW m.subs
/-- What is light enough. -/
def papersW (L : List Man) (T : List (List UInt8)) : Nat := stopSum (tW T) (L.map manW)
theorem papers_light {L : List Man} {T : List (List UInt8)} (h : papersW L T ≤ 6000) : (T.length ≤ 6000 ∧ ∀ x ∈ T, x.length ≤ 6000) ∧ ∀ m ∈ L, m.blobs.length ≤ 6000 ∧ m.subs.length ≤ 6000 := by
  unfold papersW at h
  rw [stopSum_small _ _ (by omega)] at h
  refine ⟨tW_small (n := 6000) (by omega) (by decide), fun m hm => ?_⟩
  have := le_sum (List.mem_map_of_mem (f := manW) hm)
  rw [show manW m = tW m.blobs + tW m.subs from rfl] at this
  exact ⟨(tW_small (n := 6000) (by omega) (by decide)).1, (tW_small (n := 6000) (by omega) (by decide)).1⟩
end Silo
namespace Go.Proofs.Ytnddlhjafkhdoaa
open Go Go.Eng Go.RowKit Silo TryT

theorem tW_le {w : World} {v : Value} {l : List (List UInt8)} (h : RdS strS w.heap.size w v l) : tW l ≤ 140737489403904 := by
  have h1 := h.small
  rcases stopSum_le (l.map List.length) l.length 140737488355328 (fun x hx => by obtain ⟨y, hy, rfl⟩ := List.mem_map.1 hx; exact h.okFlat y hy) with h2 | h2 <;> unfold tW <;> omega
theorem mheavy_ok {w : World} {vM vT : Value} {L : List Man} {T : List (List UInt8)} (h1 : Rd manS w vM L) (h2 : Rd strS w vT T) :
    Calls Try.prog 14 #[.agg #[vM, vT]] w (Ret fun v w' => Below w.heap.size w w' ∧ v = .bool (decide ((6000 : Int) < (papersW L T : Nat)))) := by
  have hK : Old w w := Old.refl w
  have o1 := h1.oneC
  have o2 := h2.oneC
  have hsm := h1.small
  refine enter (n := 38) (res := #[.tmp 2]) Try.func14 rfl rfl rfl rfl ?_
  refine cseq <| cregion ?_
  refine WR.eff (Eff.box rfl) rfl ?_
  rintro _ w1 ⟨b1, rfl, hn1⟩
  have hk1 := hn1.below
  replace h1 := h1.up hk1; replace h2 := h2.up hk1; replace hK := hK.up hk1
  have hb1 := hn1.blk
  refine qq (Val.assign rfl) rfl <| cnil <| cseq <| cregion ?_
  first | refine WR.val (Val.fieldAddr fld25_1 rfl) rfl ?_ | refine WR.val (Val.fieldAddrP fld25_1 rfl) rfl ?_
  refine qq (Val.loadB scl23 rfl hb1 rfl) rfl ?_
  refine WR.eff (Eff.call pf70 rfl (texts_ok h2)) rfl ?_
  rintro v7 w2 ⟨hk2, rfl⟩
  replace h1 := h1.up hk2; replace h2 := h2.up hk2; replace hK := hK.up hk2; replace hb1 := hb1.up hk2
  have ht := tW_le h2
  rw [show stopSum T.length (T.map List.length) = tW T from rfl]
  refine qq (Val.assign rfl) rfl <| cnil <| cseq <| cseq <| cregion <| qq (Val.assign rfl) rfl <| cnil <| cblock ?_
  refine WC.loop (σ := Nat) (fun k => [(1, .pointer (some ⟨b1, 0, none⟩)), (3, I ((tW T + ((L.take k).map manW).sum : Nat) : Int)), (4, I k)]) (fun k w' => Rd manS w' vM L ∧ Rd strS w' vT T ∧ Old w w' ∧ Blk w' b1 [vM, vT] 25 ∧ k ≤ L.length ∧ tW T + ((L.take k).map manW).sum ≤ 900000000000000 ∧ papersW L T = stopSum (tW T + ((L.take k).map manW).sum) ((L.drop k).map manW)) (fun k => L.length - k) 0 (by simp only [List.take_zero, List.map_nil, List.sum_nil, Nat.add_zero]; repeat (first | exact Sub.nil _ | refine Sub.cons rfl ?_ | refine Sub.consM rfl ?_)) ⟨h1, h2, hK, hb1, by omega, by simp; omega, by simp [papersW]⟩ ?_
  clear ht h1 h2 hK
  rintro k wl ⟨h1, h2, hK, hb1, hk, hn, hst⟩
  refine cseq <| cseq <| cregion <| qq (Val.move rfl) rfl ?_
  first | refine WR.val (Val.fieldAddr fld25_0 rfl) rfl ?_ | refine WR.val (Val.fieldAddrP fld25_0 rfl) rfl ?_
  refine qq (Val.loadB scl22 rfl hb1 rfl) rfl ?_
  first | refine WR.val (Val.rdlen sl22 (by assumption) rfl) rfl ?_ | refine WR.val (Val.sllen Try.underlying22 rfl) rfl ?_
  refine qq (Val.lss rfl rfl) rfl <| qq (Val.move rfl) rfl ?_
  apply WR.sc true 2 _ (fun w' => wl = w')
  case hl => rfl
  case hg => rfl
  case hu => rfl
  case hv => rfl
  case hs => rfl
  case hoff => rfl
  case hd => rfl
  case hF => exact fun _ => rfl
  case hT =>
   intro hq8
   try simp only [tstS] at hq8
   simp only [List.take_succ_cons, List.take_zero]
   refine WR.on rfl rfl ?_
   refine qq (Val.move rfl) rfl ?_
   refine WR.on rfl rfl ?_
   refine qq (Val.lss rfl rfl) rfl ?_
   exact WR.nil ⟨rfl, Sub.drop _ 2 _ rfl rfl, rfl⟩
  rintro _ rfl
  refine cnil ?_
  refine WC.cond rfl (fun hc3 => ?_) (fun hc3 => ?_)
  ·try simp only [tstS] at hc3
   obtain ⟨hc3, hc3'⟩ := hc3
   have ka : k < L.length := by omega
   obtain ⟨cs1, hc23, ⟨va, vc, rfl, ha, hc', hq⟩⟩ := h1.el ka
   replace ha : Rd strS wl va L[k].blobs := ha; replace hc' : Rd strS wl vc L[k].subs := hc'
   have hwa := tW_le ha; have hwc := tW_le hc'
   have e : manW L[k] = tW L[k].blobs + tW L[k].subs := rfl
   refine cskip <| cseq <| cblock ?_
   refine WC.regionD (Below wl.heap.size wl) [0, 0, 1, 0, 0, 0, 1, 2, 0, 0, 1, 0, 0, 0, 1, 2, 0, 0] [0, 1, 2, 3, 4, 5, 6, 9, 10, 11, 12, 13, 14, 7, 8, 15, 16, 17] mixed (by kernel_rfl) ?_
   have hk3 : Below wl.heap.size wl wl.drew := (Below.refl _ _).drew
   have hCw : Below wl.heap.size wl wl.drew := (Below.refl _ _).drew
   generalize wl.drew = w3 at hk3 hCw ⊢
   have hb10 := hb1
   have hc230 := hc23
   replace h1 := h1.up hk3; replace h2 := h2.up hk3; replace hK := hK.up hk3; replace hb1 := hb1.up hk3; replace hc23 := hc23.up hk3; replace ha := ha.up hk3; replace hc' := hc'.up hk3
   refine qd rfl rfl rfl (fun _ => Val.move rfl) rfl ?_
   first | refine WD.val rfl rfl rfl (fun _ => Val.fieldAddr fld25_0 rfl) rfl ?_ | refine WD.val rfl rfl rfl (fun _ => Val.fieldAddrP fld25_0 rfl) rfl ?_
   refine qc rfl rfl rfl hCw (fun W hW => Val.loadB scl22 rfl (hb10.up hW) rfl) rfl <| qd rfl rfl rfl (fun _ => Val.move rfl) rfl <| qd rfl rfl rfl (fun _ => Val.indexAddr sl22 (by assumption) rfl rfl rfl (by first | omega | assumption | (simp; omega) | (simp; done)) (by first | omega | assumption | (simp; omega) | (simp; done))) rfl ?_
   first | refine WD.val rfl rfl rfl (fun _ => Val.fieldAddr fld29_1 rfl) rfl ?_ | refine WD.val rfl rfl rfl (fun _ => Val.fieldAddrP fld29_1 rfl) rfl ?_
   refine qc rfl rfl rfl hCw (fun W hW => Val.loadEf scl23 rfl (hc230.up hW) rfl) rfl ?_
   first | refine WD.val rfl rfl rfl (fun _ => Val.fieldAddr fld25_0 rfl) rfl ?_ | refine WD.val rfl rfl rfl (fun _ => Val.fieldAddrP fld25_0 rfl) rfl ?_
   refine qc rfl rfl rfl hCw (fun W hW => Val.loadB scl22 rfl (hb10.up hW) rfl) rfl <| qd rfl rfl rfl (fun _ => Val.move rfl) rfl <| qd rfl rfl rfl (fun _ => Val.indexAddr sl22 (by assumption) rfl rfl rfl (by first | omega | assumption | (simp; omega) | (simp; done)) (by first | omega | assumption | (simp; omega) | (simp; done))) rfl ?_
   first | refine WD.val rfl rfl rfl (fun _ => Val.fieldAddr fld29_2 rfl) rfl ?_ | refine WD.val rfl rfl rfl (fun _ => Val.fieldAddrP fld29_2 rfl) rfl ?_
   refine qc rfl rfl rfl hCw (fun W hW => Val.loadEf scl23 rfl (hc230.up hW) rfl) rfl ?_
   refine WD.eff rfl rfl rfl (Eff.call pf70 rfl (texts_ok ha)) rfl ?_
   rintro v26 w4 ⟨hk4, rfl⟩
   refine ⟨fun hC => Below.trans hC (hk4.mono hC.size), ?_⟩
   replace hCw := Below.trans hCw (hk4.mono hCw.size)
   replace h1 := h1.up hk4; replace h2 := h2.up hk4; replace hK := hK.up hk4; replace hb1 := hb1.up hk4; replace hc23 := hc23.up hk4; replace ha := ha.up hk4; replace hc' := hc'.up hk4
   refine qd rfl rfl rfl (fun _ => Val.addI rfl rfl (by show _ ≤ ((tW T + ((L.take k).map manW).sum : Nat) : Int) + (tW L[k].blobs : Nat); omega) (by show ((tW T + ((L.take k).map manW).sum : Nat) : Int) + (tW L[k].blobs : Nat) ≤ _; omega)) rfl ?_
   refine WD.eff rfl rfl rfl (Eff.call pf70 rfl (texts_ok hc')) rfl ?_
   rintro v34 w5 ⟨hk5, rfl⟩
   refine ⟨fun hC => Below.trans hC (hk5.mono hC.size), ?_⟩
   replace hCw := Below.trans hCw (hk5.mono hCw.size)
   replace h1 := h1.up hk5; replace h2 := h2.up hk5; replace hK := hK.up hk5; replace hb1 := hb1.up hk5; replace hc23 := hc23.up hk5; replace ha := ha.up hk5; replace hc' := hc'.up hk5
   refine qd rfl rfl rfl (fun _ => Val.addI rfl rfl (by show _ ≤ ((tW T + ((L.take k).map manW).sum : Nat) : Int) + (tW L[k].blobs : Nat) + (tW L[k].subs : Nat); omega) (by show ((tW T + ((L.take k).map manW).sum : Nat) : Int) + (tW L[k].blobs : Nat) + (tW L[k].subs : Nat) ≤ _; omega)) rfl <| qd rfl rfl rfl (fun _ => Val.assign rfl) rfl ?_
   refine WD.nil ?_
   clear hb10 hc230
   clear hCw
   refine cregion <| qq (Val.move rfl) rfl <| qq (Val.addI rfl rfl (by first | omega | assumption | (simp; omega) | (simp; done)) (by first | omega | assumption | (simp; omega) | (simp; done))) rfl <| qq (Val.assign rfl) rfl <| cnil ?_
   refine ⟨k + 1, ?_, ⟨h1, h2, hK, hb1, ka, ?_, by rw [hst, stopSum_step _ ka (by omega), sum_take_succ _ ka, Nat.add_assoc]⟩, by omega⟩
   · have e2 : ((tW T + (((L.take k).map manW).sum + manW L[k]) : Nat) : Int) = ((tW T + ((L.take k).map manW).sum : Nat) : Int) + (stopSum L[k].blobs.length (L[k].blobs.map List.length) : Nat) + (stopSum L[k].subs.length (L[k].subs.map List.length) : Nat) := by
       rw [e]; unfold tW; omega
     rw [sum_take_succ _ ka, e2]
     repeat (first | exact Sub.nil _ | refine Sub.cons rfl ?_ | refine Sub.consM rfl ?_)
   · rw [sum_take_succ _ ka]; omega
  ·try simp only [tstS] at hc3
   refine WC.exit rfl ?_
   refine cseq <| cregion <| qq (Val.move rfl) rfl <| qq (Val.gtr rfl rfl) rfl <| qq (Val.assign rfl) rfl <| cnil ?_
   refine WC.ret1 rfl rfl ?_
   have e3 : papersW L T = tW T + ((L.take k).map manW).sum := by
     rw [Bool.and_eq_false_iff] at hc3
     simp only [decide_eq_false_iff_not] at hc3
     rcases Nat.lt_or_ge k L.length with h | h
     · rw [hst, stopSum_ge (by omega)]
     · rw [hst, List.drop_of_length_le h]; rfl
   exact ⟨hK, by rw [e3]⟩
end Go.Proofs.Ytnddlhjafkhdoaa
