/- Copies, comparisons, weights of records. No condition. -/
import Derived.Test.YthlfolpcmcejkaaTypes
import Derived.Test.YthlfolpcmcejkaaRecSh
set_option linter.unusedSimpArgs false
set_option linter.unusedVariables false
set_option maxRecDepth 100000
namespace Go.Proofs.Ythlfolpcmcejkaa
open Go Go.Eng Go.RowKit Silo TryT

theorem extSlotList {p q : Int × Int} : (p.1 = q.1 ∧ p.2 = q.2) ↔ p = q := ⟨fun h => Prod.ext h.1 h.2, fun h => by rw [h]; exact ⟨rfl, rfl⟩⟩

theorem copyNumbers_ok {w : World} {v : Value} {l : List Int} (h1 : Rd intS w v l) (hl : l.length ≤ 1048576) :
    Calls Try.prog 39 #[v] w (Ret fun v' w' => Below w.heap.size w w' ∧ Own w' w.heap.size 3 1 v' l.length (l.flatMap fun x => [I x])) := by
  obtain ⟨B, hB⟩ : ∃ B, B = w.heap.size := ⟨_, rfl⟩
  have hBw : B ≤ w.heap.size := Nat.le_of_eq hB
  have hK : Below B w w := Below.refl _ _
  unfold Rd at h1
  rw [← hB] at h1 ⊢
  refine enter (n := 19) (res := #[.tmp 2]) Try.func39 rfl rfl rfl rfl ?_
  refine cseq <| cg <| za rfl <| cnil <| cseq <| cg <| za rfl <| cnil <| cseq ?_
  refine cseq <| cg <| za rfl <| cnil <| cblock ?_
  refine WC.loop (σ := Nat × Value) (fun st => [(0, v), (3, st.2), (4, I st.1)]) (fun st w' => RdS intS B w' v l ∧ Below B w w' ∧ B ≤ w'.heap.size ∧ st.1 ≤ l.length ∧ Own w' B 3 1 st.2 st.1 ((l.take st.1).flatMap fun x => [I x])) (fun st => l.length - st.1) (0, .slice none 0 0) subs ⟨h1, hK, hBw, by simp, Own.nil _ _ _ _⟩ ?_
  rintro ⟨k, vm⟩ wl ⟨h1, hK, hBw, hk, ho⟩
  dsimp only at hk ho ⊢
  refine cseq <| cseq <| cg <| zm rfl <| zm rfl ?_
  first | refine vq (Val.rdlen sl24 (by assumption) rfl) ?_ | refine vq (Val.sllen Try.underlying24 rfl) ?_
  refine vq (Val.lss rfl rfl) <| cnil ?_
  refine WC.cond rfl (fun hc3 => ?_) (fun hc3 => ?_)
  ·try simp only [tstS] at hc3
   have ka : k < l.length := by omega
   obtain ⟨cs1, hc14, rfl, ok1⟩ := h1.elB ka
   replace hc14 := hc14.toCel hBw
   refine cskip <| cseq <| cblock <| cg <| zm rfl <| zm rfl <| zm rfl <| vq (Val.indexAddr sl24 (by assumption) rfl rfl rfl side side) <| vq (Val.loadE1 scl3 rfl hc14) ?_
   refine ve (Eff.build1 sl24 rfl rfl rfl rfl rfl) ?_
   rintro _ w1 ⟨b16, rfl, hn16⟩
   have hk1 := hn16.below
   replace h1 := h1.upB (hk1.mono hBw); replace hK := hK.upB (hk1.mono hBw); replace ho := ho.up hk1; replace hBw := Nat.le_trans hBw hk1.size
   refine ve (Eff.append sl24 rfl rfl ho (Src.cellsAt Try.underlying24 hn16.blk.cellsAt rfl ones) mxl oms hBw) ?_
   intro v17 w2 hA17
   have hk2 := hA17.belowB ho hBw
   replace h1 := h1.upB hk2; replace hK := hK.upB hk2; replace hBw := Nat.le_trans hBw hk2.size
   replace ho := hA17.own
   refine za rfl <| cnil <| cg <| zm rfl <| vq (Val.addI rfl rfl side side) <| za rfl <| cnil ?_
   exact ⟨(k + 1, v17), subs, ⟨h1, hK, hBw, ka, by rw [take_succ_flatMap _ ka]; exact ho⟩, by simp; omega⟩
  ·try simp only [tstS] at hc3
   refine WC.exit rfl ?_
   refine cseq <| cg <| zm rfl <| za rfl <| cnil ?_
   refine WC.ret1 rfl rfl ?_
   exact ⟨hK, by
     have : k = l.length := by omega
     subst this
     rwa [List.take_of_length_le (Nat.le_refl _)] at ho⟩

theorem copyStrings_ok {w : World} {v : Value} {l : List (List UInt8)} (h1 : Rd strS w v l) (hl : l.length ≤ 1048576) :
    Calls Try.prog 15 #[v] w (Ret fun v' w' => Below w.heap.size w w' ∧ Own w' w.heap.size 9 1 v' l.length (l.flatMap fun x => [St x])) := by
  obtain ⟨B, hB⟩ : ∃ B, B = w.heap.size := ⟨_, rfl⟩
  have hBw : B ≤ w.heap.size := Nat.le_of_eq hB
  have hK : Below B w w := Below.refl _ _
  unfold Rd at h1
  rw [← hB] at h1 ⊢
  refine enter (n := 19) (res := #[.tmp 2]) Try.func15 rfl rfl rfl rfl ?_
  refine cseq <| cg <| za rfl <| cnil <| cseq <| cg <| za rfl <| cnil <| cseq ?_
  refine cseq <| cg <| za rfl <| cnil <| cblock ?_
  refine WC.loop (σ := Nat × Value) (fun st => [(0, v), (3, st.2), (4, I st.1)]) (fun st w' => RdS strS B w' v l ∧ Below B w w' ∧ B ≤ w'.heap.size ∧ st.1 ≤ l.length ∧ Own w' B 9 1 st.2 st.1 ((l.take st.1).flatMap fun x => [St x])) (fun st => l.length - st.1) (0, .slice none 0 0) subs ⟨h1, hK, hBw, by simp, Own.nil _ _ _ _⟩ ?_
  rintro ⟨k, vm⟩ wl ⟨h1, hK, hBw, hk, ho⟩
  dsimp only at hk ho ⊢
  refine cseq <| cseq <| cg <| zm rfl <| zm rfl ?_
  first | refine vq (Val.rdlen sl23 (by assumption) rfl) ?_ | refine vq (Val.sllen Try.underlying23 rfl) ?_
  refine vq (Val.lss rfl rfl) <| cnil ?_
  refine WC.cond rfl (fun hc3 => ?_) (fun hc3 => ?_)
  ·try simp only [tstS] at hc3
   have ka : k < l.length := by omega
   obtain ⟨cs1, hc14, rfl, ok1⟩ := h1.elB ka
   replace hc14 := hc14.toCel hBw
   refine cskip <| cseq <| cblock <| cg <| zm rfl <| zm rfl <| zm rfl <| vq (Val.indexAddr sl23 (by assumption) rfl rfl rfl side side) <| vq (Val.loadE1 scl9 rfl hc14) ?_
   refine ve (Eff.build1 sl23 rfl rfl rfl rfl rfl) ?_
   rintro _ w1 ⟨b16, rfl, hn16⟩
   have hk1 := hn16.below
   replace h1 := h1.upB (hk1.mono hBw); replace hK := hK.upB (hk1.mono hBw); replace ho := ho.up hk1; replace hBw := Nat.le_trans hBw hk1.size
   refine ve (Eff.append sl23 rfl rfl ho (Src.cellsAt Try.underlying23 hn16.blk.cellsAt rfl ones) mxl oms hBw) ?_
   intro v17 w2 hA17
   have hk2 := hA17.belowB ho hBw
   replace h1 := h1.upB hk2; replace hK := hK.upB hk2; replace hBw := Nat.le_trans hBw hk2.size
   replace ho := hA17.own
   refine za rfl <| cnil <| cg <| zm rfl <| vq (Val.addI rfl rfl side side) <| za rfl <| cnil ?_
   exact ⟨(k + 1, v17), subs, ⟨h1, hK, hBw, ka, by rw [take_succ_flatMap _ ka]; exact ho⟩, by simp; omega⟩
  ·try simp only [tstS] at hc3
   refine WC.exit rfl ?_
   refine cseq <| cg <| zm rfl <| za rfl <| cnil ?_
   refine WC.ret1 rfl rfl ?_
   exact ⟨hK, by
     have : k = l.length := by omega
     subst this
     rwa [List.take_of_length_le (Nat.le_refl _)] at ho⟩

theorem copySlotList_ok {w : World} {v : Value} {l : List (Int × Int)} (h1 : Rd slotS w v l) (hl : l.length ≤ 1048576) :
    Calls Try.prog 40 #[v] w (Ret fun v' w' => Below w.heap.size w w' ∧ Own w' w.heap.size 66 2 v' l.length (l.flatMap fun x => [I x.1, I x.2])) := by
  obtain ⟨B, hB⟩ : ∃ B, B = w.heap.size := ⟨_, rfl⟩
  have hBw : B ≤ w.heap.size := Nat.le_of_eq hB
  have hK : Below B w w := Below.refl _ _
  unfold Rd at h1
  rw [← hB] at h1 ⊢
  refine enter (n := 19) (res := #[.tmp 2]) Try.func40 rfl rfl rfl rfl ?_
  refine cseq <| cg <| za rfl <| cnil <| cseq <| cg <| za rfl <| cnil <| cseq ?_
  refine cseq <| cg <| za rfl <| cnil <| cblock ?_
  refine WC.loop (σ := Nat × Value) (fun st => [(0, v), (3, st.2), (4, I st.1)]) (fun st w' => RdS slotS B w' v l ∧ Below B w w' ∧ B ≤ w'.heap.size ∧ st.1 ≤ l.length ∧ Own w' B 66 2 st.2 st.1 ((l.take st.1).flatMap fun x => [I x.1, I x.2])) (fun st => l.length - st.1) (0, .slice none 0 0) subs ⟨h1, hK, hBw, by simp, Own.nil _ _ _ _⟩ ?_
  rintro ⟨k, vm⟩ wl ⟨h1, hK, hBw, hk, ho⟩
  dsimp only at hk ho ⊢
  refine cseq <| cseq <| cg <| zm rfl <| zm rfl ?_
  first | refine vq (Val.rdlen sl29 (by assumption) rfl) ?_ | refine vq (Val.sllen Try.underlying29 rfl) ?_
  refine vq (Val.lss rfl rfl) <| cnil ?_
  refine WC.cond rfl (fun hc3 => ?_) (fun hc3 => ?_)
  ·try simp only [tstS] at hc3
   have ka : k < l.length := by omega
   obtain ⟨cs1, hc14, rfl, ok1⟩ := h1.elB ka
   replace hc14 := hc14.toCel hBw
   refine cskip <| cseq <| cblock <| cg <| zm rfl <| zm rfl <| zm rfl <| vq (Val.indexAddr sl29 (by assumption) rfl rfl rfl side side) <| vq (Val.loadE agg66 rfl hc14 rfl) ?_
   refine ve (Eff.build1 sl29 rfl rfl rfl rfl rfl) ?_
   rintro _ w1 ⟨b16, rfl, hn16⟩
   have hk1 := hn16.below
   replace h1 := h1.upB (hk1.mono hBw); replace hK := hK.upB (hk1.mono hBw); replace ho := ho.up hk1; replace hBw := Nat.le_trans hBw hk1.size
   refine ve (Eff.append sl29 rfl rfl ho (Src.cellsAt Try.underlying29 hn16.blk.cellsAt rfl ones) mxl oms hBw) ?_
   intro v17 w2 hA17
   have hk2 := hA17.belowB ho hBw
   replace h1 := h1.upB hk2; replace hK := hK.upB hk2; replace hBw := Nat.le_trans hBw hk2.size
   replace ho := hA17.own
   refine za rfl <| cnil <| cg <| zm rfl <| vq (Val.addI rfl rfl side side) <| za rfl <| cnil ?_
   exact ⟨(k + 1, v17), subs, ⟨h1, hK, hBw, ka, by rw [take_succ_flatMap _ ka]; exact ho⟩, by simp; omega⟩
  ·try simp only [tstS] at hc3
   refine WC.exit rfl ?_
   refine cseq <| cg <| zm rfl <| za rfl <| cnil ?_
   refine WC.ret1 rfl rfl ?_
   exact ⟨hK, by
     have : k = l.length := by omega
     subst this
     rwa [List.take_of_length_le (Nat.le_refl _)] at ho⟩

theorem eqNumbers_ok {w : World} {v1 v2 : Value} {a b : List Int} (h1 : Rd intS w v1 a) (h2 : Rd intS w v2 b) :
    Calls Try.prog 48 #[v1, v2] w (Ret fun v w' => Below w.heap.size w w' ∧ v = .bool (decide (a = b))) := by
  have hK : Old w w := Old.refl w
  have la := h1.lenN
  refine enter (n := 26) (res := #[.tmp 4]) Try.func48 rfl rfl rfl rfl ?_
  refine cseq <| cg <| za rfl <| cnil <| cseq <| cseq <| cg <| zm rfl ?_
  first | refine vq (Val.rdlen sl24 (by assumption) rfl) ?_ | refine vq (Val.sllen Try.underlying24 rfl) ?_
  refine zm rfl ?_
  first | refine vq (Val.rdlen sl24 (by assumption) rfl) ?_ | refine vq (Val.sllen Try.underlying24 rfl) ?_
  refine vq (Val.neq rfl rfl) <| cnil ?_
  refine WC.cond rfl (fun hc1 => ?_) (fun hc1 => ?_)
  ·try simp only [tstS] at hc1
   have : a ≠ b := fun e => by subst e; omega
   refine cseq <| cg <| za rfl <| cnil ?_
   refine WC.ret1 rfl rfl ?_
   exact ⟨hK, by simp [this]⟩
  ·try simp only [tstS] at hc1
   refine cskip <| cseq <| cseq <| cg <| za rfl <| cnil <| cblock ?_
   refine WC.loop (σ := Nat) (fun k => [(0, v1), (1, v2), (5, I k)]) (fun k w' => Rd intS w' v1 a ∧ Rd intS w' v2 b ∧ Old w w' ∧ k ≤ a.length ∧ a.take k = b.take k) (fun k => a.length - k) 0 subs ⟨h1, h2, hK, by omega, rfl⟩ ?_
   rintro k wl ⟨h1, h2, hK, hk, he⟩
   have hln : a.length = b.length := by omega
   refine cseq <| cseq <| cg <| zm rfl <| zm rfl ?_
   first | refine vq (Val.rdlen sl24 (by assumption) rfl) ?_ | refine vq (Val.sllen Try.underlying24 rfl) ?_
   refine vq (Val.lss rfl rfl) <| cnil ?_
   refine WC.cond rfl (fun hc4 => ?_) (fun hc4 => ?_)
   ·try simp only [tstS] at hc4
    have ka : k < a.length := by omega
    have kb : k < b.length := by omega
    obtain ⟨cs1, hc19, rfl, ok1⟩ := h1.el ka
    obtain ⟨cs2, hc23, rfl, ok2⟩ := h2.el kb
    refine cskip <| cseq <| cblock <| cseq ?_
    refine WC.regionD (Below wl.heap.size wl) [0, 0, 0, 1, 0, 0, 0, 1, 0] [0, 1, 2, 3, 4, 5, 6, 7, 8] mixed (by kernel_rfl) ?_
    have hk1 : Below wl.heap.size wl wl.drew := (Below.refl _ _).drew
    have hCw : Below wl.heap.size wl wl.drew := (Below.refl _ _).drew
    generalize wl.drew = w1 at hk1 hCw ⊢
    replace h1 := h1.up hk1; replace h2 := h2.up hk1; replace hK := hK.up hk1
    refine zdm rfl rfl <| zdm rfl rfl <| vd rfl (fun _ => Val.indexAddr sl24 (by assumption) rfl rfl rfl side side) <| qc rfl rfl rfl hCw (fun W hW => Val.loadE1 scl3 rfl (hc19.up hW)) rfl <| zdm rfl rfl <| zdm rfl rfl <| vd rfl (fun _ => Val.indexAddr sl24 (by assumption) rfl rfl rfl side side) <| qc rfl rfl rfl hCw (fun W hW => Val.loadE1 scl3 rfl (hc23.up hW)) rfl <| vd rfl (fun _ => Val.neq rfl rfl) ?_
    refine WD.nil ?_
    clear hCw
    refine WC.cond rfl (fun hc6 => ?_) (fun hc6 => ?_)
    ·try simp only [tstS] at hc6
     replace hc6 : a[k] ≠ b[k] := by simpa using hc6
     refine cseq <| cg <| za rfl <| cnil ?_
     refine WC.ret1 rfl rfl ?_
     exact ⟨hK, by simp [take_ne ka kb hc6]⟩
    ·try simp only [tstS] at hc6
     replace hc6 : a[k] = b[k] := by simpa using hc6
     refine cskip <| cg <| zm rfl <| vq (Val.addI rfl rfl side side) <| za rfl <| cnil ?_
     exact ⟨k + 1, subs, ⟨h1, h2, hK, ka, take_step ka kb he hc6⟩, by omega⟩
   ·try simp only [tstS] at hc4
    refine WC.exit rfl ?_
    refine cseq <| cg <| za rfl <| cnil ?_
    refine WC.ret1 rfl rfl ?_
    exact ⟨hK, by simp [take_all he (by omega) (by omega)]⟩

theorem eqSlotList_ok {w : World} {v1 v2 : Value} {a b : List (Int × Int)} (h1 : Rd slotS w v1 a) (h2 : Rd slotS w v2 b) :
    Calls Try.prog 49 #[v1, v2] w (Ret fun v w' => Below w.heap.size w w' ∧ v = .bool (decide (a = b))) := by
  have hK : Old w w := Old.refl w
  have la := h1.lenN
  refine enter (n := 26) (res := #[.tmp 4]) Try.func49 rfl rfl rfl rfl ?_
  refine cseq <| cg <| za rfl <| cnil <| cseq <| cseq <| cg <| zm rfl ?_
  first | refine vq (Val.rdlen sl29 (by assumption) rfl) ?_ | refine vq (Val.sllen Try.underlying29 rfl) ?_
  refine zm rfl ?_
  first | refine vq (Val.rdlen sl29 (by assumption) rfl) ?_ | refine vq (Val.sllen Try.underlying29 rfl) ?_
  refine vq (Val.neq rfl rfl) <| cnil ?_
  refine WC.cond rfl (fun hc1 => ?_) (fun hc1 => ?_)
  ·try simp only [tstS] at hc1
   have : a ≠ b := fun e => by subst e; omega
   refine cseq <| cg <| za rfl <| cnil ?_
   refine WC.ret1 rfl rfl ?_
   exact ⟨hK, by simp [this]⟩
  ·try simp only [tstS] at hc1
   refine cskip <| cseq <| cseq <| cg <| za rfl <| cnil <| cblock ?_
   refine WC.loop (σ := Nat) (fun k => [(0, v1), (1, v2), (5, I k)]) (fun k w' => Rd slotS w' v1 a ∧ Rd slotS w' v2 b ∧ Old w w' ∧ k ≤ a.length ∧ a.take k = b.take k) (fun k => a.length - k) 0 subs ⟨h1, h2, hK, by omega, rfl⟩ ?_
   rintro k wl ⟨h1, h2, hK, hk, he⟩
   have hln : a.length = b.length := by omega
   refine cseq <| cseq <| cg <| zm rfl <| zm rfl ?_
   first | refine vq (Val.rdlen sl29 (by assumption) rfl) ?_ | refine vq (Val.sllen Try.underlying29 rfl) ?_
   refine vq (Val.lss rfl rfl) <| cnil ?_
   refine WC.cond rfl (fun hc4 => ?_) (fun hc4 => ?_)
   ·try simp only [tstS] at hc4
    have ka : k < a.length := by omega
    have kb : k < b.length := by omega
    obtain ⟨cs1, hc19, rfl, ok1⟩ := h1.el ka
    obtain ⟨cs2, hc23, rfl, ok2⟩ := h2.el kb
    refine cskip <| cseq <| cblock <| cseq ?_
    refine WC.regionD (Below wl.heap.size wl) [0, 0, 0, 1, 0, 0, 0, 1, 0] [0, 1, 2, 3, 4, 5, 6, 7, 8] mixed (by kernel_rfl) ?_
    have hk1 : Below wl.heap.size wl wl.drew := (Below.refl _ _).drew
    have hCw : Below wl.heap.size wl wl.drew := (Below.refl _ _).drew
    generalize wl.drew = w1 at hk1 hCw ⊢
    replace h1 := h1.up hk1; replace h2 := h2.up hk1; replace hK := hK.up hk1
    refine zdm rfl rfl <| zdm rfl rfl <| vd rfl (fun _ => Val.indexAddr sl29 (by assumption) rfl rfl rfl side side) <| qc rfl rfl rfl hCw (fun W hW => Val.loadE agg66 rfl (hc19.up hW) rfl) rfl <| zdm rfl rfl <| zdm rfl rfl <| vd rfl (fun _ => Val.indexAddr sl29 (by assumption) rfl rfl rfl side side) <| qc rfl rfl rfl hCw (fun W hW => Val.loadE agg66 rfl (hc23.up hW) rfl) rfl <| vd rfl (fun _ => Val.stne flat66 rfl rfl rfl (by simp [sameKinds])) ?_
    refine WD.nil ?_
    clear hCw
    refine WC.cond rfl (fun hc6 => ?_) (fun hc6 => ?_)
    ·try simp only [tstS] at hc6
     replace hc6 : a[k] ≠ b[k] := by intro e; simp [e, cellsEq, cellEq] at hc6
     refine cseq <| cg <| za rfl <| cnil ?_
     refine WC.ret1 rfl rfl ?_
     exact ⟨hK, by simp [take_ne ka kb hc6]⟩
    ·try simp only [tstS] at hc6
     replace hc6 : a[k] = b[k] := by simpa [cellsEq, cellEq, toList_mk, extSlotList] using hc6
     refine cskip <| cg <| zm rfl <| vq (Val.addI rfl rfl side side) <| za rfl <| cnil ?_
     exact ⟨k + 1, subs, ⟨h1, h2, hK, ka, take_step ka kb he hc6⟩, by omega⟩
   ·try simp only [tstS] at hc4
    refine WC.exit rfl ?_
    refine cseq <| cg <| za rfl <| cnil ?_
    refine WC.ret1 rfl rfl ?_
    exact ⟨hK, by simp [take_all he (by omega) (by omega)]⟩

theorem within_ok {w : World} (i n : Int) (hi : Go.Eng.Int64 i) (h0 : 0 < n) (h1 : n ≤ 9223372036854775807) : Calls Try.prog 27 #[I i, I n] w (Ret fun v w' => Below w.heap.size w w' ∧ v = I (within i n)) := by
  have e1 : IntKind.u64.wrap i = i % 18446744073709551616 := by simp [IntKind.wrap, IntKind.signed, IntKind.bits]
  have e2 : 0 ≤ i % 18446744073709551616 := Int.emod_nonneg _ (by decide)
  have e3 := within_lo i n h0
  have e4 := within_hi i n h0
  refine enter (n := 11) (res := #[.tmp 4]) Try.func27 rfl rfl rfl rfl ?_
  refine cseq <| cg <| za rfl <| cnil <| cseq <| cg <| zm rfl <| vq (Val.convInt Try.underlying3 Try.underlying79 rfl) <| zm rfl ?_
  refine vq (Val.convToU64 Try.underlying3 Try.underlying79 rfl side side) <| vq (Val.rem rfl rfl (by omega)) ?_
  have e5 : (IntKind.u64.wrap i).tmod n = within i n := by rw [e1, Int.tmod_eq_emod_of_nonneg e2]; rfl
  rw [e5]
  refine vq (Val.convTo64 Try.underlying79 Try.underlying3 rfl (by omega) (by omega)) <| za rfl <| cnil ?_
  refine WC.ret1 rfl rfl ?_
  exact ⟨Below.refl _ _, rfl⟩

theorem eqRecord_ok {w : World} {ca cb : List Value} {a b : Rec} (h1 : RdRec w ca a) (h2 : RdRec w cb b) :
    Calls Try.prog 22 #[.agg ca.toArray, .agg cb.toArray] w (Ret fun v w' => Below w.heap.size w w' ∧ v = .bool (decide (a = b))) := by
  obtain ⟨vl1, vs1, rfl, hl1, hs1, _⟩ := h1
  obtain ⟨vl2, vs2, rfl, hl2, hs2, _⟩ := h2
  have hK : Old w w := Old.refl w
  refine enter (n := 45) (res := #[.tmp 4]) Try.func22 rfl rfl rfl rfl ?_
  refine cseq <| cg ?_
  refine ve (Eff.box rfl) ?_
  rintro _ w1 ⟨b2, rfl, hn2⟩
  have hk1 := hn2.below
  replace hl1 := hl1.up hk1; replace hs1 := hs1.up hk1; replace hl2 := hl2.up hk1; replace hs2 := hs2.up hk1; replace hK := hK.up hk1
  have hb2 := hn2.blk
  refine ve (Eff.box rfl) ?_
  rintro _ w2 ⟨b3, rfl, hn3⟩
  have hk2 := hn3.below
  replace hl1 := hl1.up hk2; replace hs1 := hs1.up hk2; replace hl2 := hl2.up hk2; replace hs2 := hs2.up hk2; replace hK := hK.up hk2; replace hb2 := hb2.up hk2
  have hb3 := hn3.blk
  refine za rfl <| cnil <| cseq <| cg <| vq (Val.fieldAddr fld31_0 rfl) <| vq (Val.loadB scl3 rfl hb2 rfl) <| vq (Val.fieldAddr fld31_0 rfl) <| vq (Val.loadB scl3 rfl hb3 rfl) <| vq (Val.eql rfl rfl) ?_
  refine zm rfl ?_
  apply WR.sc true 5 _ (fun w' => w2 = w')
  case hl | hg | hu | hv | hs | hoff | hd => rfl
  case hF => exact fun _ => rfl
  case hT =>
   intro hq11
   try simp only [tstS] at hq11
   simp only [List.take_succ_cons, List.take_zero]
   refine WR.on rfl rfl ?_
   refine vq (Val.fieldAddr fld31_1 rfl) ?_
   refine WR.on rfl rfl ?_
   refine vq (Val.loadB scl3 rfl hb2 rfl) ?_
   refine WR.on rfl rfl ?_
   refine vq (Val.fieldAddr fld31_1 rfl) ?_
   refine WR.on rfl rfl ?_
   refine vq (Val.loadB scl3 rfl hb3 rfl) ?_
   refine WR.on rfl rfl ?_
   refine vq (Val.eql rfl rfl) ?_
   exact WR.nil ⟨rfl, Sub.drop _ 5 _ rfl rfl, rfl⟩
  rintro _ rfl
  refine zm rfl ?_
  apply WR.sc true 5 _ (fun w' => w2 = w')
  case hl | hg | hu | hv | hs | hoff | hd => rfl
  case hF => exact fun _ => rfl
  case hT =>
   intro hq18
   try simp only [tstS] at hq18
   simp only [List.take_succ_cons, List.take_zero]
   refine WR.on rfl rfl ?_
   refine vq (Val.fieldAddr fld31_2 rfl) ?_
   refine WR.on rfl rfl ?_
   refine vq (Val.loadB scl9 rfl hb2 rfl) ?_
   refine WR.on rfl rfl ?_
   refine vq (Val.fieldAddr fld31_2 rfl) ?_
   refine WR.on rfl rfl ?_
   refine vq (Val.loadB scl9 rfl hb3 rfl) ?_
   refine WR.on rfl rfl ?_
   refine vq (Val.seq_ rfl rfl) ?_
   exact WR.nil ⟨rfl, Sub.drop _ 5 _ rfl rfl, rfl⟩
  rintro _ rfl
  refine zm rfl ?_
  apply WR.sc true 5 _ (fun w' => w2 = w')
  case hl | hg | hu | hv | hs | hoff | hd => rfl
  case hF => exact fun _ => rfl
  case hT =>
   intro hq25
   try simp only [tstS] at hq25
   simp only [List.take_succ_cons, List.take_zero]
   refine WR.on rfl rfl ?_
   refine vq (Val.fieldAddr fld31_3 rfl) ?_
   refine WR.on rfl rfl ?_
   refine vq (Val.loadB scl9 rfl hb2 rfl) ?_
   refine WR.on rfl rfl ?_
   refine vq (Val.fieldAddr fld31_3 rfl) ?_
   refine WR.on rfl rfl ?_
   refine vq (Val.loadB scl9 rfl hb3 rfl) ?_
   refine WR.on rfl rfl ?_
   refine vq (Val.seq_ rfl rfl) ?_
   exact WR.nil ⟨rfl, Sub.drop _ 5 _ rfl rfl, rfl⟩
  rintro _ rfl
  refine zm rfl ?_
  apply WR.sc true 5 (decide (a.list = b.list)) (fun w' => Below w2.heap.size w2 w')
  case hl | hg | hu | hv | hs | hoff | hd => rfl
  case hF => exact fun _ => Below.refl _ _
  case hT =>
   intro hq32
   try simp only [tstS] at hq32
   simp only [List.take_succ_cons, List.take_zero]
   have hKsc32 : Old w2 w2 := Old.refl _
   refine WR.on rfl rfl ?_
   refine vq (Val.fieldAddr fld31_4 rfl) ?_
   refine WR.on rfl rfl ?_
   refine vq (Val.loadB scl24 rfl hb2 rfl) ?_
   refine WR.on rfl rfl ?_
   refine vq (Val.fieldAddr fld31_4 rfl) ?_
   refine WR.on rfl rfl ?_
   refine vq (Val.loadB scl24 rfl hb3 rfl) ?_
   refine WR.on rfl rfl ?_
   refine ve (Eff.call pf48 rfl (eqNumbers_ok hl1 hl2)) ?_
   rintro v36 w3 ⟨hk3, rfl⟩
   replace hl1 := hl1.up hk3; replace hs1 := hs1.up hk3; replace hl2 := hl2.up hk3; replace hs2 := hs2.up hk3; replace hK := hK.up hk3; replace hb2 := hb2.up hk3; replace hb3 := hb3.up hk3; replace hKsc32 := hKsc32.up hk3
   exact WR.nil ⟨rfl, Sub.drop _ 5 _ rfl rfl, hKsc32⟩
  intro w4 hk4
  replace hl1 := hl1.up hk4; replace hs1 := hs1.up hk4; replace hl2 := hl2.up hk4; replace hs2 := hs2.up hk4; replace hK := hK.up hk4; replace hb2 := hb2.up hk4; replace hb3 := hb3.up hk4
  refine zm rfl ?_
  apply WR.sc true 5 (decide (a.slots = b.slots)) (fun w' => Below w4.heap.size w4 w')
  case hl | hg | hu | hv | hs | hoff | hd => rfl
  case hF => exact fun _ => Below.refl _ _
  case hT =>
   intro hq39
   try simp only [tstS] at hq39
   simp only [List.take_succ_cons, List.take_zero]
   have hKsc39 : Old w4 w4 := Old.refl _
   refine WR.on rfl rfl ?_
   refine vq (Val.fieldAddr fld31_5 rfl) ?_
   refine WR.on rfl rfl ?_
   refine vq (Val.loadB scl29 rfl hb2 rfl) ?_
   refine WR.on rfl rfl ?_
   refine vq (Val.fieldAddr fld31_5 rfl) ?_
   refine WR.on rfl rfl ?_
   refine vq (Val.loadB scl29 rfl hb3 rfl) ?_
   refine WR.on rfl rfl ?_
   refine ve (Eff.call pf49 rfl (eqSlotList_ok hs1 hs2)) ?_
   rintro v43 w5 ⟨hk5, rfl⟩
   replace hl1 := hl1.up hk5; replace hs1 := hs1.up hk5; replace hl2 := hl2.up hk5; replace hs2 := hs2.up hk5; replace hK := hK.up hk5; replace hb2 := hb2.up hk5; replace hb3 := hb3.up hk5; replace hKsc39 := hKsc39.up hk5
   exact WR.nil ⟨rfl, Sub.drop _ 5 _ rfl rfl, hKsc39⟩
  intro w6 hk6
  replace hl1 := hl1.up hk6; replace hs1 := hs1.up hk6; replace hl2 := hl2.up hk6; replace hs2 := hs2.up hk6; replace hK := hK.up hk6; replace hb2 := hb2.up hk6; replace hb3 := hb3.up hk6
  refine za rfl <| cnil ?_
  refine WC.ret1 rfl rfl ?_
  exact ⟨hK, by congr 1; rw [Bool.eq_iff_iff]; cases a; cases b; simp [and_assoc]⟩

theorem copyRecord_ok {w : World} {ca : List Value} {a : Rec} (h1 : RdRec w ca a) (hn : a.list.length ≤ 1048576) (hm : a.slots.length ≤ 1048576) :
    Calls Try.prog 16 #[.agg ca.toArray] w (Ret fun v w' => Below w.heap.size w w' ∧ ∃ cs, v = .agg cs.toArray ∧ RdRec w' cs a) := by
  obtain ⟨vl, vs, rfl, hl, hs, hq⟩ := h1
  have o1 := hl.oneC
  have o2 := hs.oneC
  obtain ⟨B, hB⟩ : ∃ B, B = w.heap.size := ⟨_, rfl⟩
  have hBw : B ≤ w.heap.size := Nat.le_of_eq hB
  have hK : Below B w w := Below.refl _ _
  rw [← hB] at hl hs ⊢
  refine enter (n := 14) (res := #[.cell 2 31]) Try.func16 rfl rfl rfl rfl ?_
  refine cseq <| cg ?_
  refine ve (Eff.box rfl) ?_
  rintro _ w1 ⟨b1, rfl, hn1⟩
  have hk1 := hn1.below
  have hge1 : B ≤ b1 := by rw [hn1.at_]; exact hBw
  replace hl := hl.upB (hk1.mono hBw); replace hs := hs.upB (hk1.mono hBw); replace hK := hK.upB (hk1.mono hBw); replace hBw := Nat.le_trans hBw hk1.size
  have hb1 := hn1.blk
  refine ve (Eff.alloc zero31) ?_
  rintro _ w2 ⟨b2, rfl, hn2⟩
  have hk2 := hn2.below
  have hge2 : B ≤ b2 := by rw [hn2.at_]; exact hBw
  have hne2_b1 : b1 ≠ b2 := by have := hb1.lt; have := hn2.at_; omega
  replace hl := hl.upB (hk2.mono hBw); replace hs := hs.upB (hk2.mono hBw); replace hK := hK.upB (hk2.mono hBw); replace hb1 := hb1.up hk2; replace hBw := Nat.le_trans hBw hk2.size
  have hb2 := hn2.blk
  refine cnil <| cseq <| cg <| vq (Val.loadBN agg31 rfl hb1 rfl) ?_
  refine ve (Eff.alloc zero31) ?_
  rintro _ w3 ⟨b3, rfl, hn3⟩
  have hk3 := hn3.below
  have hge3 : B ≤ b3 := by rw [hn3.at_]; exact hBw
  have hne3_b1 : b1 ≠ b3 := by have := hb1.lt; have := hn3.at_; omega
  have hne3_b2 : b2 ≠ b3 := by have := hb2.lt; have := hn3.at_; omega
  replace hl := hl.upB (hk3.mono hBw); replace hs := hs.upB (hk3.mono hBw); replace hK := hK.upB (hk3.mono hBw); replace hb1 := hb1.up hk3; replace hb2 := hb2.up hk3; replace hBw := Nat.le_trans hBw hk3.size
  have hb3 := hn3.blk
  refine WR.eff_ (Eff.storeBN agg31 rfl rfl hb3 rfl rfl ones) ?_
  intro _ w4 hS4
  have hk4 : Below B _ _ := Blk.store_below hS4 hge3 hBw
  replace hb1 := hb1.grown hS4.grown (by simp; omega)
  replace hb2 := hb2.grown hS4.grown (by simp; omega)
  replace hl := hl.upB hk4; replace hs := hs.upB hk4; replace hK := hK.upB hk4; replace hBw := Nat.le_trans hBw hk4.size
  replace hb3 := hS4.blk
  refine cnil <| cseq <| cg <| vq (Val.fieldAddr fld31_4 rfl) <| vq (Val.loadB scl24 rfl hb1 rfl) ?_
  have hlt5_b1 := hb1.lt
  have hlt5_b2 := hb2.lt
  have hlt5_b3 := hb3.lt
  refine ve (Eff.call pf39 rfl (copyNumbers_ok (hl.mono hBw) hn)) ?_
  rintro v7 w5 ⟨hk5, ho7⟩
  replace hl := hl.upB (hk5.mono hBw); replace hs := hs.upB (hk5.mono hBw); replace hK := hK.upB (hk5.mono hBw); replace hb1 := hb1.up hk5; replace hb2 := hb2.up hk5; replace hb3 := hb3.up hk5; replace hBw := Nat.le_trans hBw hk5.size
  have c7 := ho7.cellsV; have o7 := ho7.oneC
  refine vq (Val.fieldAddr fld31_4 rfl) ?_
  refine WR.eff_ (Eff.storeB scl24 rfl rfl ra ra hb3 rfl) ?_
  intro _ w6 hS6
  have hk6 : Below B _ _ := Blk.store_below hS6 hge3 hBw
  replace hb1 := hb1.grown hS6.grown (by simp; omega)
  replace hb2 := hb2.grown hS6.grown (by simp; omega)
  replace ho7 := ho7.grown hS6.grown (fun k hk e => by have := (ho7.lt k hk).1; simp at e; omega)
  replace hl := hl.upB hk6; replace hs := hs.upB hk6; replace hK := hK.upB hk6; replace hBw := Nat.le_trans hBw hk6.size
  replace hb3 := hS6.blk
  refine cnil <| cseq <| cg <| vq (Val.fieldAddr fld31_5 rfl) <| vq (Val.loadB scl29 rfl hb1 rfl) ?_
  have hlt7_b1 := hb1.lt
  have hlt7_b2 := hb2.lt
  have hlt7_b3 := hb3.lt
  refine ve (Eff.call pf40 rfl (copySlotList_ok (hs.mono hBw) hm)) ?_
  rintro v11 w7 ⟨hk7, ho11⟩
  replace hl := hl.upB (hk7.mono hBw); replace hs := hs.upB (hk7.mono hBw); replace hK := hK.upB (hk7.mono hBw); replace hb1 := hb1.up hk7; replace hb2 := hb2.up hk7; replace hb3 := hb3.up hk7; replace ho7 := ho7.up hk7; replace hBw := Nat.le_trans hBw hk7.size
  have c11 := ho11.cellsV; have o11 := ho11.oneC
  refine vq (Val.fieldAddr fld31_5 rfl) ?_
  refine WR.eff_ (Eff.storeB scl29 rfl rfl ra ra hb3 rfl) ?_
  intro _ w8 hS8
  have hk8 : Below B _ _ := Blk.store_below hS8 hge3 hBw
  replace hb1 := hb1.grown hS8.grown (by simp; omega)
  replace hb2 := hb2.grown hS8.grown (by simp; omega)
  replace ho7 := ho7.grown hS8.grown (fun k hk e => by have := (ho7.lt k hk).1; simp at e; omega)
  replace ho11 := ho11.grown hS8.grown (fun k hk e => by have := (ho11.lt k hk).1; simp at e; omega)
  replace hl := hl.upB hk8; replace hs := hs.upB hk8; replace hK := hK.upB hk8; replace hBw := Nat.le_trans hBw hk8.size
  replace hb3 := hS8.blk
  refine cnil <| cseq <| cg <| vq (Val.loadBN agg31 rfl hb3 rfl) ?_
  refine WR.eff_ (Eff.storeBN agg31 rfl rfl hb2 rfl rfl ones) ?_
  intro _ w9 hS9
  have hk9 : Below B _ _ := Blk.store_below hS9 hge2 hBw
  replace hb1 := hb1.grown hS9.grown (by simp; omega)
  replace hb3 := hb3.grown hS9.grown (by simp; omega)
  replace ho7 := ho7.grown hS9.grown (fun k hk e => by have := (ho7.lt k hk).1; simp at e; omega)
  replace ho11 := ho11.grown hS9.grown (fun k hk e => by have := (ho11.lt k hk).1; simp at e; omega)
  replace hl := hl.upB hk9; replace hs := hs.upB hk9; replace hK := hK.upB hk9; replace hBw := Nat.le_trans hBw hk9.size
  replace hb2 := hS9.blk
  refine cnil ?_
  refine WC.retR1 rfl (RVal.cellN agg31 rfl hb2 rfl) ?_
  refine ⟨hK, _, rfl, _, _, rfl, ?_, ?_, hq⟩
  · exact ho7.rdInts hl.okFlat hl.small
  · exact rdSlots ho11 hs.okFlat hs.small

theorem texts_ok {w : World} {v : Value} {l : List (List UInt8)} (h1 : Rd strS w v l) :
    Calls Try.prog 38 #[v] w (Ret fun v' w' => Below w.heap.size w w' ∧ v' = I (stopSum l.length (l.map List.length) : Nat)) := by
  have hK : Old w w := Old.refl w
  have hsm := h1.small
  refine enter (n := 25) (res := #[.tmp 2]) Try.func38 rfl rfl rfl rfl ?_
  refine cseq <| cg <| za rfl <| cnil <| cseq <| cg <| zm rfl ?_
  first | refine vq (Val.rdlen sl23 (by assumption) rfl) ?_ | refine vq (Val.sllen Try.underlying23 rfl) ?_
  refine za rfl <| cnil <| cseq <| cseq <| cg <| za rfl <| cnil <| cblock ?_
  refine WC.loop (σ := Nat) (fun k => [(0, v), (3, I ((l.length + ((l.take k).map List.length).sum : Nat) : Int)), (4, I k)]) (fun k w' => Rd strS w' v l ∧ Old w w' ∧ k ≤ l.length ∧ l.length + ((l.take k).map List.length).sum ≤ 9000000000000000000 ∧ stopSum l.length (l.map List.length) = stopSum (l.length + ((l.take k).map List.length).sum) ((l.drop k).map List.length)) (fun k => l.length - k) 0 (by simp only [List.take_zero, List.map_nil, List.sum_nil, Nat.add_zero]; repeat (first | exact Sub.nil _ | refine Sub.cons rfl ?_ | refine Sub.consM rfl ?_)) ⟨h1, hK, by omega, by simp; omega, by simp⟩ ?_
  rintro k wl ⟨h1, hK, hk, hn, hst⟩
  refine cseq <| cseq <| cg <| zm rfl <| zm rfl ?_
  first | refine vq (Val.rdlen sl23 (by assumption) rfl) ?_ | refine vq (Val.sllen Try.underlying23 rfl) ?_
  refine vq (Val.lss rfl rfl) <| zm rfl ?_
  apply WR.sc true 2 _ (fun w' => wl = w')
  case hl | hg | hu | hv | hs | hoff | hd => rfl
  case hF => exact fun _ => rfl
  case hT =>
   intro hq7
   try simp only [tstS] at hq7
   simp only [List.take_succ_cons, List.take_zero]
   refine WR.on rfl rfl ?_
   refine zm rfl ?_
   refine WR.on rfl rfl ?_
   refine vq (Val.lss rfl rfl) ?_
   exact WR.nil ⟨rfl, Sub.drop _ 2 _ rfl rfl, rfl⟩
  rintro _ rfl
  refine cnil ?_
  refine WC.cond rfl (fun hc3 => ?_) (fun hc3 => ?_)
  ·try simp only [tstS] at hc3
   obtain ⟨hc3, hc3'⟩ := hc3
   have ka : k < l.length := by omega
   obtain ⟨cs1, hc20, rfl, ok1⟩ := h1.el ka
   refine cskip <| cseq <| cblock <| cg <| zm rfl <| zm rfl <| zm rfl <| vq (Val.indexAddr sl23 (by assumption) rfl rfl rfl side side) <| vq (Val.loadE1 scl9 rfl hc20) ?_
   refine vq (Val.slen Try.underlying9 rfl) <| vq (Val.addI rfl rfl side side) <| za rfl <| cnil <| cg <| zm rfl <| vq (Val.addI rfl rfl side side) <| za rfl <| cnil ?_
   refine ⟨k + 1, ?_, ⟨h1, hK, ka, ?_, by rw [hst, stopSum_step _ ka (by omega), sum_take_succ _ ka, Nat.add_assoc]⟩, by omega⟩
   · rw [sum_take_succ _ ka, show ((l.length + (((l.take k).map List.length).sum + l[k].length) : Nat) : Int) = ((l.length + ((l.take k).map List.length).sum : Nat) : Int) + (l[k].length : Int) by omega]; repeat (first | exact Sub.nil _ | refine Sub.cons rfl ?_ | refine Sub.consM rfl ?_)
   · rw [sum_take_succ _ ka]; omega
  ·try simp only [tstS] at hc3
   refine WC.exit rfl ?_
   refine cseq <| cg <| zm rfl <| za rfl <| cnil ?_
   refine WC.ret1 rfl rfl ?_
   refine ⟨hK, ?_⟩
   rw [Bool.and_eq_false_iff] at hc3
   simp only [decide_eq_false_iff_not] at hc3
   rcases Nat.lt_or_ge k l.length with h | h
   · rw [hst, stopSum_ge (by omega)]
   · rw [hst, List.drop_of_length_le h]; rfl

theorem recordsWeight_ok {w : World} {v : Value} {l : List Rec} (h1 : Rd recS w v l) :
    Calls Try.prog 37 #[v] w (Ret fun v' w' => Below w.heap.size w w' ∧ v' = I (stopSum l.length (l.map recW) : Nat)) := by
  have hK : Old w w := Old.refl w
  have hsm := h1.small
  refine enter (n := 47) (res := #[.tmp 2]) Try.func37 rfl rfl rfl rfl ?_
  refine cseq <| cg <| za rfl <| cnil <| cseq <| cg <| zm rfl ?_
  first | refine vq (Val.rdlen sl22 (by assumption) rfl) ?_ | refine vq (Val.sllen Try.underlying22 rfl) ?_
  refine za rfl <| cnil <| cseq <| cseq <| cg <| za rfl <| cnil <| cblock ?_
  refine WC.loop (σ := Nat) (fun k => [(0, v), (3, I ((l.length + ((l.take k).map recW).sum : Nat) : Int)), (4, I k)]) (fun k w' => Rd recS w' v l ∧ Old w w' ∧ k ≤ l.length ∧ l.length + ((l.take k).map recW).sum ≤ 9000000000000000000 ∧ stopSum l.length (l.map recW) = stopSum (l.length + ((l.take k).map recW).sum) ((l.drop k).map recW)) (fun k => l.length - k) 0 (by simp only [List.take_zero, List.map_nil, List.sum_nil, Nat.add_zero]; repeat (first | exact Sub.nil _ | refine Sub.cons rfl ?_ | refine Sub.consM rfl ?_)) ⟨h1, hK, by omega, by simp; omega, by simp⟩ ?_
  rintro k wl ⟨h1, hK, hk, hn, hst⟩
  refine cseq <| cseq <| cg <| zm rfl <| zm rfl ?_
  first | refine vq (Val.rdlen sl22 (by assumption) rfl) ?_ | refine vq (Val.sllen Try.underlying22 rfl) ?_
  refine vq (Val.lss rfl rfl) <| zm rfl ?_
  apply WR.sc true 2 _ (fun w' => wl = w')
  case hl | hg | hu | hv | hs | hoff | hd => rfl
  case hF => exact fun _ => rfl
  case hT =>
   intro hq7
   try simp only [tstS] at hq7
   simp only [List.take_succ_cons, List.take_zero]
   refine WR.on rfl rfl ?_
   refine zm rfl ?_
   refine WR.on rfl rfl ?_
   refine vq (Val.lss rfl rfl) ?_
   exact WR.nil ⟨rfl, Sub.drop _ 2 _ rfl rfl, rfl⟩
  rintro _ rfl
  refine cnil ?_
  refine WC.cond rfl (fun hc3 => ?_) (fun hc3 => ?_)
  ·try simp only [tstS] at hc3
   obtain ⟨hc3, hc3'⟩ := hc3
   have ka : k < l.length := by omega
   obtain ⟨cs1, hc20, ⟨vl, vs, rfl, hl, hs, hq⟩⟩ := h1.el ka
   have hls := hl.small; have hss := hs.small
   refine cskip <| cseq <| cblock ?_
   refine WC.regionD (Below wl.heap.size wl) [0, 0, 0, 0, 0, 1, 0, 0, 0, 0, 0, 0, 1, 0, 0, 0, 0, 0, 0, 1, 0, 0, 0, 0, 0, 0, 1, 0, 0, 0] [0, 1, 2, 3, 4, 5, 6, 7, 8, 9, 10, 11, 12, 13, 14, 15, 16, 17, 18, 19, 20, 21, 22, 23, 24, 25, 26, 27, 28, 29] mixed (by kernel_rfl) ?_
   have hk1 : Below wl.heap.size wl wl.drew := (Below.refl _ _).drew
   have hCw : Below wl.heap.size wl wl.drew := (Below.refl _ _).drew
   generalize wl.drew = w1 at hk1 hCw ⊢
   have hc200 := hc20
   replace h1 := h1.up hk1; replace hK := hK.up hk1; replace hc20 := hc20.up hk1; replace hl := hl.up hk1; replace hs := hs.up hk1
   refine zdm rfl rfl <| zdm rfl rfl <| zdm rfl rfl <| vd rfl (fun _ => Val.indexAddr sl22 (by assumption) rfl rfl rfl side side) <| vd rfl (fun _ => Val.fieldAddrP fld31_2 rfl) <| qc rfl rfl rfl hCw (fun W hW => Val.loadEf scl9 rfl (hc200.up hW) rfl) rfl <| vd rfl (fun _ => Val.slen Try.underlying9 rfl) <| vd rfl (fun _ => Val.addI rfl rfl side side) <| zdm rfl rfl ?_
   refine zdm rfl rfl <| vd rfl (fun _ => Val.indexAddr sl22 (by assumption) rfl rfl rfl side side) <| vd rfl (fun _ => Val.fieldAddrP fld31_3 rfl) <| qc rfl rfl rfl hCw (fun W hW => Val.loadEf scl9 rfl (hc200.up hW) rfl) rfl <| vd rfl (fun _ => Val.slen Try.underlying9 rfl) <| vd rfl (fun _ => Val.addI rfl rfl side side) <| zdm rfl rfl <| zdm rfl rfl <| vd rfl (fun _ => Val.indexAddr sl22 (by assumption) rfl rfl rfl side side) ?_
   refine vd rfl (fun _ => Val.fieldAddrP fld31_4 rfl) <| qc rfl rfl rfl hCw (fun W hW => Val.loadEf scl24 rfl (hc200.up hW) rfl) rfl ?_
   first | refine vd rfl (fun _ => Val.rdlen sl24 (by assumption) rfl) ?_ | refine vd rfl (fun _ => Val.sllen Try.underlying24 rfl) ?_
   refine vd rfl (fun _ => Val.addI rfl rfl side side) <| zdm rfl rfl <| zdm rfl rfl <| vd rfl (fun _ => Val.indexAddr sl22 (by assumption) rfl rfl rfl side side) <| vd rfl (fun _ => Val.fieldAddrP fld31_5 rfl) <| qc rfl rfl rfl hCw (fun W hW => Val.loadEf scl29 rfl (hc200.up hW) rfl) rfl ?_
   first | refine vd rfl (fun _ => Val.rdlen sl29 (by assumption) rfl) ?_ | refine vd rfl (fun _ => Val.sllen Try.underlying29 rfl) ?_
   refine vd rfl (fun _ => Val.addI rfl rfl side side) <| zda rfl rfl ?_
   refine WD.nil ?_
   clear hc200
   clear hCw
   refine cg <| zm rfl <| vq (Val.addI rfl rfl side side) <| za rfl <| cnil ?_
   refine ⟨k + 1, ?_, ⟨h1, hK, ka, ?_, by rw [hst, stopSum_step _ ka (by omega), sum_take_succ _ ka, Nat.add_assoc]⟩, by omega⟩
   · have e : recW l[k] = l[k].name.length + l[k].digest.length + l[k].list.length + l[k].slots.length := rfl
     have e2 : ((l.length + (((l.take k).map recW).sum + recW l[k]) : Nat) : Int) = ((l.length + ((l.take k).map recW).sum : Nat) : Int) + (l[k].name.length : Int) + (l[k].digest.length : Int) + (l[k].list.length : Int) + (l[k].slots.length : Int) := by omega
     rw [sum_take_succ _ ka, e2]
     repeat (first | exact Sub.nil _ | refine Sub.cons rfl ?_ | refine Sub.consM rfl ?_)
   · have e : recW l[k] = l[k].name.length + l[k].digest.length + l[k].list.length + l[k].slots.length := rfl
     rw [sum_take_succ _ ka]; omega
  ·try simp only [tstS] at hc3
   refine WC.exit rfl ?_
   refine cseq <| cg <| zm rfl <| za rfl <| cnil ?_
   refine WC.ret1 rfl rfl ?_
   refine ⟨hK, ?_⟩
   rw [Bool.and_eq_false_iff] at hc3
   simp only [decide_eq_false_iff_not] at hc3
   rcases Nat.lt_or_ge k l.length with h | h
   · rw [hst, stopSum_ge (by omega)]
   · rw [hst, List.drop_of_length_le h]; rfl

end Go.Proofs.Ythlfolpcmcejkaa
