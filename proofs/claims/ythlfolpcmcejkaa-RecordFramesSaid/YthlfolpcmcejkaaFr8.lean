/- Records compared; both sides' frames as the law wants them. No condition. -/
import Derived.Test.YthlfolpcmcejkaaFr7
set_option linter.unusedSimpArgs false
set_option linter.unusedVariables false
set_option maxRecDepth 100000
namespace Silo
open Go Go.Eng
theorem takeR_ne {a b : List Rec} {k : Nat} (ka : k < a.length) (kb : k < b.length) (h : a[k] ≠ b[k]) : a ≠ b := fun e => by subst e; exact h rfl
theorem takeR_step {a b : List Rec} {k : Nat} (ka : k < a.length) (kb : k < b.length) (h : a.take k = b.take k) (e : a[k] = b[k]) : a.take (k + 1) = b.take (k + 1) := by
  rw [List.take_succ_eq_append_getElem ka, List.take_succ_eq_append_getElem kb, h, e]
end Silo
namespace Go.Eng
open Go Go.RowKit
theorem Mv.pureF {w w' : World} (c : Nat → Nat) (h : Below w.heap.size w w') (f : Nat → Nat) : ∃ c', Mv c w c' w' [] ∧ ∀ k, w.heap.size ≤ k → c' k = f k :=
  ⟨fun k => if k < w.heap.size then c k else f k, ⟨h.os, h.tape, h.output, h.size, fun k hk => if_pos hk, fun k hk _ => h.block k hk⟩, fun k hk => if_neg (Nat.not_lt.2 hk)⟩
end Go.Eng
namespace Go.Proofs.Ythlfolpcmcejkaa
open Go Go.Eng Go.RowKit Silo TryT

theorem eqRecords_ok {w : World} {v1 v2 : Value} {a b : List Rec} (h1 : Rd recS w v1 a) (h2 : Rd recS w v2 b) :
    Calls Try.prog 34 #[v1, v2] w (Ret fun v w' => Below w.heap.size w w' ∧ v = .bool (decide (a = b))) := by
  have hK : Old w w := Old.refl w
  have la := h1.lenN
  refine enter (n := 27) (res := #[.tmp 4]) Try.func34 rfl rfl rfl rfl ?_
  refine cseq <| cg <| za rfl <| cnil <| cseq <| cseq <| cg <| zm rfl ?_
  first | refine vq (Val.rdlen sl22 (by assumption) rfl) ?_ | refine vq (Val.sllen Try.underlying22 rfl) ?_
  refine zm rfl ?_
  first | refine vq (Val.rdlen sl22 (by assumption) rfl) ?_ | refine vq (Val.sllen Try.underlying22 rfl) ?_
  refine vq (Val.neq rfl rfl) <| cnil ?_
  refine WC.cond rfl (fun hc1 => ?_) (fun hc1 => ?_)
  ·try simp only [tstS] at hc1
   have : a ≠ b := fun e => by subst e; omega
   refine cseq <| cg <| za rfl <| cnil ?_
   refine WC.ret1 rfl rfl ?_
   exact ⟨hK, by simp [this]⟩
  ·try simp only [tstS] at hc1
   refine cskip <| cseq <| cseq <| cg <| za rfl <| cnil <| cblock ?_
   refine WC.loop (σ := Nat) (fun k => [(0, v1), (1, v2), (5, I k)]) (fun k w' => Rd recS w' v1 a ∧ Rd recS w' v2 b ∧ Old w w' ∧ k ≤ a.length ∧ a.take k = b.take k) (fun k => a.length - k) 0 subs ⟨h1, h2, hK, by omega, rfl⟩ ?_
   rintro k wl ⟨h1, h2, hK, hk, he⟩
   have hln : a.length = b.length := by omega
   refine cseq <| cseq <| cg <| zm rfl <| zm rfl ?_
   first | refine vq (Val.rdlen sl22 (by assumption) rfl) ?_ | refine vq (Val.sllen Try.underlying22 rfl) ?_
   refine vq (Val.lss rfl rfl) <| cnil ?_
   refine WC.cond rfl (fun hc4 => ?_) (fun hc4 => ?_)
   ·try simp only [tstS] at hc4
    have ka : k < a.length := by omega
    have kb : k < b.length := by omega
    obtain ⟨cs1, hc19, vl1, vs1, rfl, q1⟩ := h1.el ka
    obtain ⟨cs2, hc23, vl2, vs2, rfl, q2⟩ := h2.el kb
    have z1 : RdRec wl [I a[k].kind, I a[k].id, St a[k].name, St a[k].digest, vl1, vs1] a[k] := ⟨vl1, vs1, rfl, q1⟩
    have z2 : RdRec wl [I b[k].kind, I b[k].id, St b[k].name, St b[k].digest, vl2, vs2] b[k] := ⟨vl2, vs2, rfl, q2⟩
    refine cskip <| cseq <| cblock <| cseq ?_
    refine WC.regionD (Below wl.heap.size wl) [0, 0, 0, 1, 0, 0, 0, 1, 2, 0] [0, 1, 2, 3, 4, 5, 6, 7, 8, 9] mixed (by kernel_rfl) ?_
    have hk1 : Below wl.heap.size wl wl.drew := (Below.refl _ _).drew
    have hCw : Below wl.heap.size wl wl.drew := (Below.refl _ _).drew
    generalize wl.drew = w1 at hk1 hCw ⊢
    have hc190 := hc19
    have hc230 := hc23
    replace h1 := h1.up hk1; replace h2 := h2.up hk1; replace hK := hK.up hk1; replace hc19 := hc19.up hk1; replace hc23 := hc23.up hk1; replace z1 := z1.up hk1; replace z2 := z2.up hk1
    refine zdm rfl rfl <| zdm rfl rfl <| vd rfl (fun _ => Val.indexAddr sl22 (by assumption) rfl rfl rfl side side) <| qc rfl rfl rfl hCw (fun W hW => Val.loadE agg31 rfl (hc190.up hW) rfl) rfl <| zdm rfl rfl <| zdm rfl rfl <| vd rfl (fun _ => Val.indexAddr sl22 (by assumption) rfl rfl rfl side side) <| qc rfl rfl rfl hCw (fun W hW => Val.loadE agg31 rfl (hc230.up hW) rfl) rfl ?_
    refine WD.eff rfl rfl rfl (Eff.call pf22 rfl (eqRecord_ok z1 z2)) rfl ?_
    rintro v25 w2 ⟨hk2, rfl⟩
    refine ⟨fun hC => Below.trans hC (hk2.mono hC.size), ?_⟩
    replace hCw := Below.trans hCw (hk2.mono hCw.size)
    replace h1 := h1.up hk2; replace h2 := h2.up hk2; replace hK := hK.up hk2; replace hc19 := hc19.up hk2; replace hc23 := hc23.up hk2; replace z1 := z1.up hk2; replace z2 := z2.up hk2
    refine vd rfl (fun _ => Val.not rfl) ?_
    refine WD.nil ?_
    clear hc190 hc230
    clear hCw
    refine WC.cond rfl (fun hc6 => ?_) (fun hc6 => ?_)
    ·try simp only [tstS] at hc6
     replace hc6 : a[k] ≠ b[k] := by simpa using hc6
     refine cseq <| cg <| za rfl <| cnil ?_
     refine WC.ret1 rfl rfl ?_
     exact ⟨hK, by simp [takeR_ne ka kb hc6]⟩
    ·try simp only [tstS] at hc6
     replace hc6 : a[k] = b[k] := by simpa using hc6
     refine cskip <| cg <| zm rfl <| vq (Val.addI rfl rfl side side) <| za rfl <| cnil ?_
     exact ⟨k + 1, subs, ⟨h1, h2, hK, ka, takeR_step ka kb he hc6⟩, by omega⟩
   ·try simp only [tstS] at hc4
    refine WC.exit rfl ?_
    refine cseq <| cg <| za rfl <| cnil ?_
    refine WC.ret1 rfl rfl ?_
    have hk : k = a.length := by omega
    have : a = b := by rw [← List.take_length (l := a), ← hk, he, hk, hln, List.take_length]
    exact ⟨hK, by simp [this]⟩

theorem EachO.rdC {c : Nat → Nat} {w : World} {v : Value} {css : List (List Value)} {l : List Rec} (ho : OwnC c w 7 TX 6 v l.length css.flatten) (he : EachO c w css l) (hl : l.length ≤ 140737488355328) : RdC recS c w [5, 7] v l := by
  refine OwnC.rd (s := recS) ho hl he.1 rfl fun k cs x h1 h2 => ?_
  obtain ⟨vl, vs, rfl, a, b, r1, r2, r3, r4, r5⟩ := he.2 k cs x h1 h2
  intro w' hs hk
  have a' := a.foot w' hs fun k hk' hl => hk k (by simp only [hasC, List.any_cons, List.any_nil, Bool.or_false] at hk' ⊢; rw [hk']; rfl) hl
  have b' := b.foot w' hs fun k hk' hl => hk k (by simp only [hasC, List.any_cons, List.any_nil, Bool.or_false] at hk' ⊢; rw [hk']; rfl) hl
  exact ⟨vl, vs, rfl, a'.rdInts r2 r4, rdSlots b' r3 r5, r1.1, r1.2.1, r1.2.2.1, r1.2.2.2⟩
theorem framesG_len : ∀ (f : Nat) (s : List UInt8) (l : List Rec) (first bytes : Nat), (framesG f s l first bytes).1.length ≤ l.length + s.length
  | 0, s, l, first, bytes => by simp [framesG]
  | f + 1, s, l, first, bytes => by
    rw [framesG]
    cases h : takeF s with
    | none => simp
    | some x =>
      obtain ⟨r, k, z⟩ := x
      have hz := takeF_size h
      have := framesG_len f (s.drop z) (l ++ [r]) (if l = [] then k else first) (bytes + z)
      simp only [List.length_append, List.length_drop, List.length_singleton] at this
      dsimp only
      generalize framesG f (s.drop z) (l ++ [r]) (if l = [] then k else first) (bytes + z) = X at this ⊢
      generalize (if l = [] then k else first) = q
      split
      · omega
      · simp
theorem framesS_len (s : List UInt8) : (framesS s).1.length ≤ s.length := by
  have := framesG_len (s.length + 1) s [] 0 0
  simp only [List.length_nil, Nat.zero_add] at this
  exact this
theorem frames_c {c : Nat → Nat} {w : World} {s : List UInt8} (hs : s.length ≤ 1073741824) : Calls Try.prog 32 #[St s] w (Ret fun v w' => ∃ c', Mv c w c' w' [] ∧ ∃ vl css, v = .tuple #[vl, I ((framesS s).2.1 : Nat), I ((framesS s).2.2 : Nat)] ∧ OwnC c' w' 7 TX 6 vl (framesS s).1.length css.flatten ∧ EachO c' w' css (framesS s).1) := by
  refine (frames_ok hs).mono fun e w' he => ?_
  obtain ⟨v, rfl, hb, c1, vl, css, rfl, ho, hE, hO⟩ := he
  obtain ⟨c', m, hx⟩ := Mv.pureF c hb c1
  have key : ∀ {i : Nat} {e : TypeId} {size n : Nat} {u : Value} {xs : List Value}, i ≠ 0 → OwnC c1 w' i e size u n xs → OwnC c' w' i e size u n xs := fun {i e size n u xs} hi h => ⟨h.own, fun k hk => by
    have h1 := h.col k hk
    rcases Nat.lt_or_ge k w.heap.size with hk' | hk'
    · rw [hO.col k hk'] at h1; exact (hi h1.symm).elim
    · rw [hx k hk', h1]⟩
  refine ⟨_, rfl, c', m, vl, css, rfl, key (by decide) ho, hE.1, fun k cs x h1 h2 => ?_⟩
  obtain ⟨ul, us, e, a, b, r⟩ := hE.2 k cs x h1 h2
  exact ⟨ul, us, e, key (by decide) a, key (by decide) b, r⟩
theorem qframes_c {c : Nat → Nat} {w : World} {s : List UInt8} (hs : s.length ≤ 1073741824) : Calls Try.prog 33 #[St s] w (Ret fun v w' => ∃ c', Mv c w c' w' [] ∧ ∃ vl, v = .tuple #[vl, I ((framesS s).2.1 : Nat), I ((framesS s).2.2 : Nat)] ∧ RdC recS c' w' [9] vl (framesS s).1) := by
  refine (qframes_ok hs).mono fun e w' he => ?_
  obtain ⟨v, rfl, hb, c1, vl, css, rfl, ho, hE, hO⟩ := he
  obtain ⟨c', m, hx⟩ := Mv.pureF c hb fun _ => 9
  have hl := framesS_len s
  refine ⟨_, rfl, c', m, vl, rfl, Foot.mono (EachO.rdC ho hE (by omega)) fun k hk hF => ?_⟩
  rcases Nat.lt_or_ge k w.heap.size with hk' | hk'
  · rw [hO.col k hk'] at hF; simp [hasC] at hF
  · rw [hx k hk']; rfl
end Go.Proofs.Ythlfolpcmcejkaa
