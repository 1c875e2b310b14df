/- Copies, comparisons, weights of records. No condition. -/
import Derived.Test.YtjddnaefmikccaaTypes
import Derived.Test.YtjddnaefmikccaaRecSh
set_option linter.unusedSimpArgs false
set_option linter.unusedVariables false
set_option maxRecDepth 100000
namespace Go.Proofs.Ytjddnaefmikccaa
open Go Go.Eng Go.RowKit Silo TryT

theorem extSlotList {p q : Int × Int} : (p.1 = q.1 ∧ p.2 = q.2) ↔ p = q := ⟨fun h => Prod.ext h.1 h.2, fun h => by rw [h]; exact ⟨rfl, rfl⟩⟩

theorem copyNumbers_ok {w : World} {v : Value} {l : List Int} (h1 : Rd intS w v l) (hl : l.length ≤ 1048576) :
    Calls Try.prog 38 #[v] w (Ret fun v' w' => Below w.heap.size w w' ∧ Own w' w.heap.size 3 1 v' l.length (l.flatMap fun x => [I x])) := by
  obtain ⟨B, hB⟩ : ∃ B, B = w.heap.size := ⟨_, rfl⟩
  have hBw : B ≤ w.heap.size := Nat.le_of_eq hB
  have hK : Below B w w := Below.refl _ _
  unfold Rd at h1
  rw [← hB] at h1 ⊢
  refine enter (n := 19) (res := #[.tmp 2]) Try.func38 rfl rfl rfl rfl ?_
  refine cseq <| cg <| za rfl <| cnil <| cseq <| cg <| za rfl <| cnil <| cseq ?_
  refine cseq <| cg <| za rfl <| cnil <| cblock ?_
  refine WC.loop (σ := Nat × Value) (fun st => [(0, v), (3, st.2), (4, I st.1)]) (fun st w' => RdS intS B w' v l ∧ Below B w w' ∧ B ≤ w'.heap.size ∧ st.1 ≤ l.length ∧ Own w' B 3 1 st.2 st.1 ((l.take st.1).flatMap fun x => [I x])) (fun st => l.length - st.1) (0, .slice none 0 0) subs ⟨h1, hK, hBw, by simp, Own.nil _ _ _ _⟩ ?_
  rintro ⟨k, vm⟩ wl ⟨h1, hK, hBw, hk, ho⟩
  dsimp only at hk ho ⊢
  refine cseq <| cseq <| cg <| zm rfl <| zm rfl ?_
  first | refine vq (Val.rdlen sl32 (by assumption) rfl) ?_ | refine vq (Val.sllen Try.underlying32 rfl) ?_
  refine vq (Val.lss rfl rfl) <| cnil ?_
  refine WC.cond rfl (fun hc3 => ?_) (fun hc3 => ?_)
  ·try simp only [tstS] at hc3
   have ka : k < l.length := by omega
   obtain ⟨cs1, hc14, rfl, ok1⟩ := h1.elB ka
   replace hc14 := hc14.toCel hBw
   refine cskip <| cseq <| cblock <| cg <| zm rfl <| zm rfl <| zm rfl <| vq (Val.indexAddr sl32 (by assumption) rfl rfl rfl side side) <| vq (Val.loadE1 scl3 rfl hc14) ?_
   refine ve (Eff.build1 sl32 rfl rfl rfl rfl rfl) ?_
   rintro _ w1 ⟨b16, rfl, hn16⟩
   have hk1 := hn16.below
   replace h1 := h1.upB (hk1.mono hBw); replace hK := hK.upB (hk1.mono hBw); replace ho := ho.up hk1; replace hBw := Nat.le_trans hBw hk1.size
   refine ve (Eff.append sl32 rfl rfl ho (Src.cellsAt Try.underlying32 hn16.blk.cellsAt rfl ones) mxl oms hBw) ?_
   intro v17 w2 hA17
   have hk2 := hA17.belowB ho hBw
   replace h1 := h1.upB hk2; replace hK := hK.upB hk2; replace hBw := Nat.le_trans hBw hk2.size
   replace ho := hA17.own
   refine za rfl <| cnil <| cg <| zm rfl <| vq (Val.addI rfl rfl side side) <| za rfl <| cnil ?_
   exact ⟨(k + 1, v17), subs, ⟨h1, hK, hBw, ka, by rw [take_succ_flatMap _ ka]; exact ho⟩, by simp; omega⟩
  ·try simp only [tstS] at hc3
   refine WC.exit rfl ?_
   refine cseq <| cg <| zm rfl <| za rfl <| cnil ?_
   refine WC.ret1 rfl rfl ?_
   exact ⟨hK, by
     have : k = l.length := by omega
     subst this
     rwa [List.take_of_length_le (Nat.le_refl _)] at ho⟩

theorem eqNumbers_ok {w : World} {v1 v2 : Value} {a b : List Int} (h1 : Rd intS w v1 a) (h2 : Rd intS w v2 b) :
    Calls Try.prog 39 #[v1, v2] w (Ret fun v w' => Below w.heap.size w w' ∧ v = .bool (decide (a = b))) := by
  have hK : Old w w := Old.refl w
  have la := h1.lenN
  refine enter (n := 26) (res := #[.tmp 4]) Try.func39 rfl rfl rfl rfl ?_
  refine cseq <| cg <| za rfl <| cnil <| cseq <| cseq <| cg <| zm rfl ?_
  first | refine vq (Val.rdlen sl32 (by assumption) rfl) ?_ | refine vq (Val.sllen Try.underlying32 rfl) ?_
  refine zm rfl ?_
  first | refine vq (Val.rdlen sl32 (by assumption) rfl) ?_ | refine vq (Val.sllen Try.underlying32 rfl) ?_
  refine vq (Val.neq rfl rfl) <| cnil ?_
  refine WC.cond rfl (fun hc1 => ?_) (fun hc1 => ?_)
  ·try simp only [tstS] at hc1
   have : a ≠ b := fun e => by subst e; omega
   refine cseq <| cg <| za rfl <| cnil ?_
   refine WC.ret1 rfl rfl ?_
   exact ⟨hK, by simp [this]⟩
  ·try simp only [tstS] at hc1
   refine cskip <| cseq <| cseq <| cg <| za rfl <| cnil <| cblock ?_
   refine WC.loop (σ := Nat) (fun k => [(0, v1), (1, v2), (5, I k)]) (fun k w' => Rd intS w' v1 a ∧ Rd intS w' v2 b ∧ Old w w' ∧ k ≤ a.length ∧ a.take k = b.take k) (fun k => a.length - k) 0 subs ⟨h1, h2, hK, by omega, rfl⟩ ?_
   rintro k wl ⟨h1, h2, hK, hk, he⟩
   have hln : a.length = b.length := by omega
   refine cseq <| cseq <| cg <| zm rfl <| zm rfl ?_
   first | refine vq (Val.rdlen sl32 (by assumption) rfl) ?_ | refine vq (Val.sllen Try.underlying32 rfl) ?_
   refine vq (Val.lss rfl rfl) <| cnil ?_
   refine WC.cond rfl (fun hc4 => ?_) (fun hc4 => ?_)
   ·try simp only [tstS] at hc4
    have ka : k < a.length := by omega
    have kb : k < b.length := by omega
    obtain ⟨cs1, hc19, rfl, ok1⟩ := h1.el ka
    obtain ⟨cs2, hc23, rfl, ok2⟩ := h2.el kb
    refine cskip <| cseq <| cblock <| cseq ?_
    refine WC.regionD (Below wl.heap.size wl) [0, 0, 0, 1, 0, 0, 0, 1, 0] [0, 1, 2, 3, 4, 5, 6, 7, 8] mixed (by kernel_rfl) ?_
    have hk1 : Below wl.heap.size wl wl.drew := (Below.refl _ _).drew
    have hCw : Below wl.heap.size wl wl.drew := (Below.refl _ _).drew
    generalize wl.drew = w1 at hk1 hCw ⊢
    replace h1 := h1.up hk1; replace h2 := h2.up hk1; replace hK := hK.up hk1
    refine zdm rfl rfl <| zdm rfl rfl <| vd rfl (fun _ => Val.indexAddr sl32 (by assumption) rfl rfl rfl side side) <| qc rfl rfl rfl hCw (fun W hW => Val.loadE1 scl3 rfl (hc19.up hW)) rfl <| zdm rfl rfl <| zdm rfl rfl <| vd rfl (fun _ => Val.indexAddr sl32 (by assumption) rfl rfl rfl side side) <| qc rfl rfl rfl hCw (fun W hW => Val.loadE1 scl3 rfl (hc23.up hW)) rfl <| vd rfl (fun _ => Val.neq rfl rfl) ?_
    refine WD.nil ?_
    clear hCw
    refine WC.cond rfl (fun hc6 => ?_) (fun hc6 => ?_)
    ·try simp only [tstS] at hc6
     replace hc6 : a[k] ≠ b[k] := by simpa using hc6
     refine cseq <| cg <| za rfl <| cnil ?_
     refine WC.ret1 rfl rfl ?_
     exact ⟨hK, by simp [take_ne ka kb hc6]⟩
    ·try simp only [tstS] at hc6
     replace hc6 : a[k] = b[k] := by simpa using hc6
     refine cskip <| cg <| zm rfl <| vq (Val.addI rfl rfl side side) <| za rfl <| cnil ?_
     exact ⟨k + 1, subs, ⟨h1, h2, hK, ka, take_step ka kb he hc6⟩, by omega⟩
   ·try simp only [tstS] at hc4
    refine WC.exit rfl ?_
    refine cseq <| cg <| za rfl <| cnil ?_
    refine WC.ret1 rfl rfl ?_
    exact ⟨hK, by simp [take_all he (by omega) (by omega)]⟩

theorem within_ok {w : World} (i n : Int) (hi : Go.Eng.Int64 i) (h0 : 0 < n) (h1 : n ≤ 9223372036854775807) : Calls Try.prog 20 #[I i, I n] w (Ret fun v w' => Below w.heap.size w w' ∧ v = I (within i n)) := by
  have e1 : IntKind.u64.wrap i = i % 18446744073709551616 := by simp [IntKind.wrap, IntKind.signed, IntKind.bits]
  have e2 : 0 ≤ i % 18446744073709551616 := Int.emod_nonneg _ (by decide)
  have e3 := within_lo i n h0
  have e4 := within_hi i n h0
  refine enter (n := 11) (res := #[.tmp 4]) Try.func20 rfl rfl rfl rfl ?_
  refine cseq <| cg <| za rfl <| cnil <| cseq <| cg <| zm rfl <| vq (Val.convInt Try.underlying3 Try.underlying71 rfl) <| zm rfl ?_
  refine vq (Val.convToU64 Try.underlying3 Try.underlying71 rfl side side) <| vq (Val.rem rfl rfl (by omega)) ?_
  have e5 : (IntKind.u64.wrap i).tmod n = within i n := by rw [e1, Int.tmod_eq_emod_of_nonneg e2]; rfl
  rw [e5]
  refine vq (Val.convTo64 Try.underlying71 Try.underlying3 rfl (by omega) (by omega)) <| za rfl <| cnil ?_
  refine WC.ret1 rfl rfl ?_
  exact ⟨Below.refl _ _, rfl⟩

end Go.Proofs.Ytjddnaefmikccaa
