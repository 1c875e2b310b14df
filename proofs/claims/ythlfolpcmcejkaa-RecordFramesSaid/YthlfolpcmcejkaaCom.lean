/- Lists of texts: copies, comparisons, weights; numbers. No condition. -/
import Derived.Test.YthlfolpcmcejkaaMore2
import Derived.Test.YthlfolpcmcejkaaRecSh
import Derived.Test.YthlfolpcmcejkaaDraw3
import Derived.Test.YthlfolpcmcejkaaTypes
set_option linter.unusedSimpArgs false
set_option linter.unusedVariables false
set_option maxRecDepth 100000
namespace Go.Proofs.Ythlfolpcmcejkaa
open Go Go.Eng Go.RowKit Silo TryT

theorem copyStrings_ok {w : World} {v : Value} {l : List (List UInt8)} (h1 : Rd strS w v l) (hl : l.length ≤ 1048576) :
    Calls Try.prog 15 #[v] w (Ret fun v' w' => Below w.heap.size w w' ∧ Own w' w.heap.size 9 1 v' l.length (l.flatMap fun x => [St x])) := by
  obtain ⟨B, hB⟩ : ∃ B, B = w.heap.size := ⟨_, rfl⟩
  have hBw : B ≤ w.heap.size := Nat.le_of_eq hB
  have hK : Below B w w := Below.refl _ _
  unfold Rd at h1
  rw [← hB] at h1 ⊢
  refine enter (n := 19) (res := #[.tmp 2]) Try.func15 rfl rfl rfl rfl ?_
  refine cseq <| cg <| za rfl <| cnil <| cseq <| cg <| za rfl <| cnil <| cseq ?_
  refine cseq <| cg <| za rfl <| cnil <| cblock ?_
  refine WC.loop (σ := Nat × Value) (fun st => [(0, v), (3, st.2), (4, I st.1)]) (fun st w' => RdS strS B w' v l ∧ Below B w w' ∧ B ≤ w'.heap.size ∧ st.1 ≤ l.length ∧ Own w' B 9 1 st.2 st.1 ((l.take st.1).flatMap fun x => [St x])) (fun st => l.length - st.1) (0, .slice none 0 0) subs ⟨h1, hK, hBw, by simp, Own.nil _ _ _ _⟩ ?_
  rintro ⟨k, vm⟩ wl ⟨h1, hK, hBw, hk, ho⟩
  dsimp only at hk ho ⊢
  refine cseq <| cseq <| cg <| zm rfl <| zm rfl ?_
  first | refine vq (Val.rdlen sl23 (by assumption) rfl) ?_ | refine vq (Val.sllen Try.underlying23 rfl) ?_
  refine vq (Val.lss rfl rfl) <| cnil ?_
  refine WC.cond rfl (fun hc3 => ?_) (fun hc3 => ?_)
  ·try simp only [tstS] at hc3
   have ka : k < l.length := by omega
   obtain ⟨cs1, hc14, rfl, ok1⟩ := h1.elB ka
   replace hc14 := hc14.toCel hBw
   refine cskip <| cseq <| cblock <| cg <| zm rfl <| zm rfl <| zm rfl <| vq (Val.indexAddr sl23 (by assumption) rfl rfl rfl side side) <| vq (Val.loadE1 scl9 rfl hc14) ?_
   refine ve (Eff.build1 sl23 rfl rfl rfl rfl rfl) ?_
   rintro _ w1 ⟨b16, rfl, hn16⟩
   have hk1 := hn16.below
   replace h1 := h1.upB (hk1.mono hBw); replace hK := hK.upB (hk1.mono hBw); replace ho := ho.up hk1; replace hBw := Nat.le_trans hBw hk1.size
   refine ve (Eff.append sl23 rfl rfl ho (Src.cellsAt Try.underlying23 hn16.blk.cellsAt rfl ones) mxl oms hBw) ?_
   intro v17 w2 hA17
   have hk2 := hA17.belowB ho hBw
   replace h1 := h1.upB hk2; replace hK := hK.upB hk2; replace hBw := Nat.le_trans hBw hk2.size
   replace ho := hA17.own
   refine za rfl <| cnil <| cg <| zm rfl <| vq (Val.addI rfl rfl side side) <| za rfl <| cnil ?_
   exact ⟨(k + 1, v17), subs, ⟨h1, hK, hBw, ka, by rw [take_succ_flatMap _ ka]; exact ho⟩, by simp; omega⟩
  ·try simp only [tstS] at hc3
   refine WC.exit rfl ?_
   refine cseq <| cg <| zm rfl <| za rfl <| cnil ?_
   refine WC.ret1 rfl rfl ?_
   exact ⟨hK, by
     have : k = l.length := by omega
     subst this
     rwa [List.take_of_length_le (Nat.le_refl _)] at ho⟩

theorem texts_ok {w : World} {v : Value} {l : List (List UInt8)} (h1 : Rd strS w v l) :
    Calls Try.prog 38 #[v] w (Ret fun v' w' => Below w.heap.size w w' ∧ v' = I (stopSum l.length (l.map List.length) : Nat)) := by
  have hK : Old w w := Old.refl w
  have hsm := h1.small
  refine enter (n := 25) (res := #[.tmp 2]) Try.func38 rfl rfl rfl rfl ?_
  refine cseq <| cg <| za rfl <| cnil <| cseq <| cg <| zm rfl ?_
  first | refine vq (Val.rdlen sl23 (by assumption) rfl) ?_ | refine vq (Val.sllen Try.underlying23 rfl) ?_
  refine za rfl <| cnil <| cseq <| cseq <| cg <| za rfl <| cnil <| cblock ?_
  refine WC.loop (σ := Nat) (fun k => [(0, v), (3, I ((l.length + ((l.take k).map List.length).sum : Nat) : Int)), (4, I k)]) (fun k w' => Rd strS w' v l ∧ Old w w' ∧ k ≤ l.length ∧ l.length + ((l.take k).map List.length).sum ≤ 9000000000000000000 ∧ stopSum l.length (l.map List.length) = stopSum (l.length + ((l.take k).map List.length).sum) ((l.drop k).map List.length)) (fun k => l.length - k) 0 (by simp only [List.take_zero, List.map_nil, List.sum_nil, Nat.add_zero]; repeat (first | exact Sub.nil _ | refine Sub.cons rfl ?_ | refine Sub.consM rfl ?_)) ⟨h1, hK, by omega, by simp; omega, by simp⟩ ?_
  rintro k wl ⟨h1, hK, hk, hn, hst⟩
  refine cseq <| cseq <| cg <| zm rfl <| zm rfl ?_
  first | refine vq (Val.rdlen sl23 (by assumption) rfl) ?_ | refine vq (Val.sllen Try.underlying23 rfl) ?_
  refine vq (Val.lss rfl rfl) <| zm rfl ?_
  apply WR.sc true 2 _ (fun w' => wl = w')
  case hl | hg | hu | hv | hs | hoff | hd => rfl
  case hF => exact fun _ => rfl
  case hT =>
   intro hq7
   try simp only [tstS] at hq7
   simp only [List.take_succ_cons, List.take_zero]
   refine WR.on rfl rfl ?_
   refine zm rfl ?_
   refine WR.on rfl rfl ?_
   refine vq (Val.lss rfl rfl) ?_
   exact WR.nil ⟨rfl, Sub.drop _ 2 _ rfl rfl, rfl⟩
  rintro _ rfl
  refine cnil ?_
  refine WC.cond rfl (fun hc3 => ?_) (fun hc3 => ?_)
  ·try simp only [tstS] at hc3
   obtain ⟨hc3, hc3'⟩ := hc3
   have ka : k < l.length := by omega
   obtain ⟨cs1, hc20, rfl, ok1⟩ := h1.el ka
   refine cskip <| cseq <| cblock <| cg <| zm rfl <| zm rfl <| zm rfl <| vq (Val.indexAddr sl23 (by assumption) rfl rfl rfl side side) <| vq (Val.loadE1 scl9 rfl hc20) ?_
   refine vq (Val.slen Try.underlying9 rfl) <| vq (Val.addI rfl rfl side side) <| za rfl <| cnil <| cg <| zm rfl <| vq (Val.addI rfl rfl side side) <| za rfl <| cnil ?_
   refine ⟨k + 1, ?_, ⟨h1, hK, ka, ?_, by rw [hst, stopSum_step _ ka (by omega), sum_take_succ _ ka, Nat.add_assoc]⟩, by omega⟩
   · rw [sum_take_succ _ ka, show ((l.length + (((l.take k).map List.length).sum + l[k].length) : Nat) : Int) = ((l.length + ((l.take k).map List.length).sum : Nat) : Int) + (l[k].length : Int) by omega]; repeat (first | exact Sub.nil _ | refine Sub.cons rfl ?_ | refine Sub.consM rfl ?_)
   · rw [sum_take_succ _ ka]; omega
  ·try simp only [tstS] at hc3
   refine WC.exit rfl ?_
   refine cseq <| cg <| zm rfl <| za rfl <| cnil ?_
   refine WC.ret1 rfl rfl ?_
   refine ⟨hK, ?_⟩
   rw [Bool.and_eq_false_iff] at hc3
   simp only [decide_eq_false_iff_not] at hc3
   rcases Nat.lt_or_ge k l.length with h | h
   · rw [hst, stopSum_ge (by omega)]
   · rw [hst, List.drop_of_length_le h]; rfl

theorem num_ok {w : World} (k n : Int) : Calls Try.prog 30 #[I k, I n] w (Ret fun v w' => Below w.heap.size w w' ∧ v = .bool (decide (0 ≤ k) && decide (k ≤ n))) := by
  refine enter (n := 12) (res := #[.tmp 4]) Try.func30 rfl rfl rfl rfl ?_
  refine cseq <| cg <| za rfl <| cnil <| cseq <| cg <| zm rfl <| vq (Val.geq rfl rfl) <| zm rfl ?_
  apply WR.sc true 3 _ (fun w' => w = w')
  case hl | hg | hu | hv | hs | hoff | hd => rfl
  case hF => exact fun _ => rfl
  case hT =>
   intro hq6
   try simp only [tstS] at hq6
   simp only [List.take_succ_cons, List.take_zero]
   refine WR.on rfl rfl ?_
   refine zm rfl ?_
   refine WR.on rfl rfl ?_
   refine zm rfl ?_
   refine WR.on rfl rfl ?_
   refine vq (Val.leq rfl rfl) ?_
   exact WR.nil ⟨rfl, Sub.drop _ 3 _ rfl rfl, rfl⟩
  rintro _ rfl
  refine za rfl <| cnil ?_
  refine WC.ret1 rfl rfl ?_
  exact ⟨Below.refl _ _, rfl⟩
end Go.Proofs.Ythlfolpcmcejkaa
