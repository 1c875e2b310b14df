/- Taking a record's field: the program's. No condition. -/
import Derived.Test.YthlfolpcmcejkaaRec9
set_option linter.unusedSimpArgs false
set_option linter.unusedVariables false
set_option maxRecDepth 100000
namespace Go.Proofs.Ythlfolpcmcejkaa
open Go Go.Eng Go.RowKit Silo TryT

theorem minus_i64 {n : Nat} (h : n < 4294967296) : Go.Eng.Int64 (minus n) := by
  rcases minus_lt h with e | ⟨e, _⟩
  · rw [e]; exact ⟨by omega, by omega⟩
  · rw [e]; exact ⟨by decide, by decide⟩

theorem taken_ok {K : Nat → Prop} {w : World} {base bR bX : Nat} {s : List UInt8} {bad : Bool} {p : Rec} {vl vs : Value} {o : Option (Rec × List UInt8)} {L m c : Nat} (h : XS 72 K w w base bR bX s bad p vl vs) (hr : Rel o s bad p)
    (hL : s.length ≤ L) (hLb : L ≤ 1073741824) (hm1 : p.list.length ≤ m) (hm2 : p.slots.length ≤ m) (hmb : m ≤ 17179869184) :
    Calls Try.prog 51 #[.pointer (some ⟨bR, 0, none⟩), .pointer (some ⟨bX, 0, none⟩), .int .i32 c] w (Ret fun _ w' => ∃ s' bad' p' vl' vs', XS 72 K w w' base bR bX s' bad' p' vl' vs' ∧ Rel (o.bind (pField minus c)) s' bad' p' ∧ s'.length ≤ L ∧ p'.list.length ≤ m + L + 1 ∧ p'.slots.length ≤ m + L + 1) := by
  refine enter (n := 90) (res := #[]) Try.func51 rfl rfl rfl rfl ?_
  refine cseq <| cg <| zm rfl <| cnil <| cblock <| cseq <| cg <| vq (Val.eql rfl rfl) <| za rfl ?_
  refine cnil ?_
  refine WC.cond rfl (fun hc1 => ?_) (fun hc1 => ?_)
  ·try simp only [tstS] at hc1
   obtain rfl : c = 105 := by omega
   refine cg <| zm rfl <| zm rfl ?_
   refine ve (Eff.call pf64 rfl (pnumber_ok h.R 4 (by decide) (by decide) (by omega))) ?_
   rintro _ w1 ⟨hg, rfl, hR⟩
   replace h := h.rd hg hR
   refine vq (Val.nilCheck rfl) ?_
   first | refine vq (Val.fieldAddr fld31_1 rfl) ?_ | refine vq (Val.fieldAddrP fld31_1 rfl) ?_
   refine WR.eff_ (Eff.storeB scl3 rfl rfl rfl rfl h.X rfl) ?_
   rintro _ w2 hS
   have h2 := h.upd (p' := { p with id := minus (beNat (tkT s bad 4)) }) hS rfl rfl (minus_i64 (beNat4 _ _)) h.okK h.okN h.okD
   refine cnil ?_
   refine ⟨_, _, rfl, rfl, ?_⟩
   exact ⟨rfl, _, _, _, _, _, h2, rel_id hr, Nat.le_trans (tkS_len _ _ _) hL, by simp; omega, by simp; omega⟩
  ·try simp only [tstS] at hc1
   refine cseq <| cg <| vq (Val.eql rfl rfl) <| za rfl <| cnil ?_
   refine WC.cond rfl (fun hc3 => ?_) (fun hc3 => ?_)
   ·try simp only [tstS] at hc3
    obtain rfl : c = 110 := by omega
    refine cg <| zm rfl <| zm rfl <| zm rfl ?_
    refine ve (Eff.call pf64 rfl (pnumber_ok h.R 1 (by decide) (by decide) (by omega))) ?_
    rintro _ w1 ⟨hg, rfl, hR⟩
    replace h := h.rd hg hR
    have hl1 := tkS_len s bad 1
    rw [minus_small (beNat1 s bad)]
    refine ve (Eff.call pf65 rfl (ptake_ok h.R _ (by omega) (by omega))) ?_
    rintro _ w2 ⟨hg, rfl, hR⟩
    replace h := h.rd hg hR
    have hl2 := tkS_len (tkS s bad 1) (tkBad s bad 1) (beNat (tkT s bad 1))
    have hl3 := tkT_len2 (tkS s bad 1) (tkBad s bad 1) (beNat (tkT s bad 1))
    refine vq (Val.nilCheck rfl) ?_
    first | refine vq (Val.fieldAddr fld31_2 rfl) ?_ | refine vq (Val.fieldAddrP fld31_2 rfl) ?_
    refine WR.eff_ (Eff.storeB scl9 rfl rfl rfl rfl h.X rfl) ?_
    rintro _ w3 hS
    have h2 := h.upd (p' := { p with name := tkT (tkS s bad 1) (tkBad s bad 1) (beNat (tkT s bad 1)) }) hS rfl rfl h.okI h.okK (by simp; omega) h.okD
    refine cnil ?_
    refine ⟨_, _, rfl, rfl, ?_⟩
    exact ⟨rfl, _, _, _, _, _, h2, rel_name hr, by omega, by simp; omega, by simp; omega⟩
   ·try simp only [tstS] at hc3
    refine cseq <| cg <| vq (Val.eql rfl rfl) <| za rfl <| cnil ?_
    refine WC.cond rfl (fun hc5 => ?_) (fun hc5 => ?_)
    ·try simp only [tstS] at hc5
     obtain rfl : c = 100 := by omega
     refine cg <| zm rfl <| zm rfl ?_
     refine ve (Eff.call pf65 rfl (ptake_ok h.R 32 (by decide) (by omega))) ?_
     rintro _ w1 ⟨hg, rfl, hR⟩
     replace h := h.rd hg hR
     have hl2 := tkS_len s bad 32
     have hl3 := tkT_len2 s bad 32
     refine vq (Val.nilCheck rfl) ?_
     first | refine vq (Val.fieldAddr fld31_3 rfl) ?_ | refine vq (Val.fieldAddrP fld31_3 rfl) ?_
     refine WR.eff_ (Eff.storeB scl9 rfl rfl rfl rfl h.X rfl) ?_
     rintro _ w2 hS
     have h2 := h.upd (p' := { p with digest := tkT s bad 32 }) hS rfl rfl h.okI h.okK h.okN (by simp; omega)
     refine cnil ?_
     refine ⟨_, _, rfl, rfl, ?_⟩
     exact ⟨rfl, _, _, _, _, _, h2, rel_dig hr, by omega, by simp; omega, by simp; omega⟩
    ·try simp only [tstS] at hc5
     refine cseq <| cg <| vq (Val.eql rfl rfl) <| za rfl <| cnil ?_
     refine WC.cond rfl (fun hc7 => ?_) (fun hc7 => ?_)
     ·try simp only [tstS] at hc7
      obtain rfl : c = 108 := by omega
      refine cseq <| cg <| zm rfl ?_
      refine ve (Eff.call pf64 rfl (pnumber_ok h.R 4 (by decide) (by decide) (by omega))) ?_
      rintro _ w1 ⟨hg, rfl, hR⟩
      replace h := h.rd hg hR
      have hl2 := tkS_len s bad 4
      have hb4 := beNat4 s bad
      refine za rfl <| cnil <| cblock ?_
      have hj0 := lj_init (φ := minus) hr
      generalize o.bind (pField minus 108) = T at hj0 ⊢
      refine WC.loop (σ := Int × Nat × List UInt8 × Bool × Rec × Value) (fun st => [(0, .pointer (some ⟨bR, 0, none⟩)), (1, .pointer (some ⟨bX, 0, none⟩)), (6, I st.1)]) (fun st w' => XS 72 K w w' base bR bX st.2.2.1 st.2.2.2.1 st.2.2.2.2.1 st.2.2.2.2.2 vs ∧ LJ minus T st.2.1 st.2.2.1 st.2.2.2.1 st.2.2.2.2.1 ∧ (st.2.2.2.1 = false → (st.1 = st.2.1 ∨ (st.1 < 0 ∧ st.2.2.1.length < 4 * st.2.1)) ∧ -1 - (L : Int) + st.2.2.1.length ≤ st.1 ∧ st.2.2.2.2.1.list.length + st.2.2.1.length ≤ m + L) ∧ st.1 ≤ 4294967295 ∧ st.2.2.1.length ≤ L ∧ st.2.2.2.2.1.list.length ≤ m + L + 1 ∧ st.2.2.2.2.1.slots.length ≤ m) (fun st => bif st.2.2.2.1 then 0 else st.2.2.1.length + 1) (minus (beNat (tkT s bad 4)), beNat (tkT s bad 4), tkS s bad 4, tkBad s bad 4, p, vl) subs ⟨h, hj0, fun _ => by rcases minus_lt hb4 with e | ⟨e, e'⟩ <;> (refine ⟨?_, ?_, ?_⟩ <;> (dsimp only; omega)), by rcases minus_lt hb4 with e | ⟨e, e'⟩ <;> (dsimp only; omega), by dsimp only; omega, by dsimp only; omega, hm2⟩ ?_
      clear h hr hL hl2 hb4 hj0 hm1 hm2 hR hg s bad p vl
      rintro ⟨n, N, s, bad, p, vl⟩ wl ⟨h, hj, hJ, hn, hL, hm1, hm2⟩
      dsimp only at h hj hJ hn hL hm1 hm2 ⊢
      have hbR := h.R
      refine cseq <| cseq ?_
      skip
      refine cg <| zm rfl <| vq (Val.neq rfl rfl) <| zm rfl ?_
      apply WR.sc true 5 _ (fun w' => wl = w')
      case hl | hg | hu | hv | hs | hoff | hd => rfl
      case hF => exact fun _ => rfl
      case hT =>
       intro hq8
       try simp only [tstS] at hq8
       simp only [List.take_succ_cons, List.take_zero]
       refine WR.on rfl rfl ?_
       refine zm rfl ?_
       refine WR.on rfl rfl ?_
       refine vq (Val.nilCheck rfl) ?_
       refine WR.on rfl rfl ?_
       refine vq (Val.fieldAddr fld72_1 rfl) ?_
       refine WR.on rfl rfl ?_
       refine vq (Val.loadB scl4 rfl hbR rfl) ?_
       refine WR.on rfl rfl ?_
       refine vq (Val.not rfl) ?_
       exact WR.nil ⟨rfl, Sub.drop _ 5 _ rfl rfl, rfl⟩
      rintro _ rfl
      refine cnil ?_
      refine WC.cond rfl (fun hc9 => ?_) (fun hc9 => ?_)
      ·try simp only [tstS] at hc9
       obtain ⟨hn0, hb0⟩ := hc9
       subst hb0
       obtain ⟨hJ1, hJ2, hJ3⟩ := hJ rfl
       clear hbR
       refine cskip <| cseq <| cblock ?_
       refine WC.regionD (fun W => Blk W bX (cellsX p vl vs) TX) [0, 0, 0, 0, 1, 0, 2, 2, 2, 0, 0, 3] [0, 1, 2, 3, 4, 5, 6, 7, 8, 9, 10, 11] mixed (by kernel_rfl) ?_
       replace h := h.up (Below.refl _ _).drew
       have hC := h.X
       generalize wl.drew = wd at h hC ⊢
       refine zdm rfl rfl <| zdm rfl rfl <| vd rfl (fun _ => Val.nilCheck rfl) <| vd rfl (fun _ => Val.fieldAddr fld31_4 rfl) <| qc rfl rfl rfl hC (fun W hW => Val.loadB scl24 rfl hW rfl) rfl <| zdm rfl rfl ?_
       refine WD.eff rfl rfl rfl (Eff.call pf64 rfl (pnumber_ok h.R 4 (by decide) (by decide) (by omega))) rfl ?_
       rintro _ wn ⟨hg, rfl, hR⟩
       refine ⟨fun hC => hC.grown hg (fun e => h.ne (by injection e)), ?_⟩
       replace h := h.rd hg hR
       refine WD.eff rfl rfl rfl (Eff.build1 sl24 rfl rfl rfl rfl rfl) rfl ?_
       rintro _ wb ⟨b55, rfl, hnb⟩
       refine ⟨fun hC => hC.up hnb.below, ?_⟩
       replace h := h.up hnb.below
       refine WD.eff rfl rfl rfl (Eff.append sl24 rfl rfl h.L (Src.cellsAt Try.underlying24 hnb.blk.cellsAt rfl ones) (by rw [maxLen_eq]; omega) (by omega) h.hBw) rfl ?_
       intro v56 wa hA
       refine ⟨fun hC => hC.grown hA.grown (fun e => (h.neL bX e).2 rfl), ?_⟩
       have hXa := h.X.grown hA.grown (fun e => (h.neL bX e).2 rfl)
       refine vd rfl (fun _ => Val.nilCheck rfl) <| vd rfl (fun _ => Val.fieldAddr fld31_4 rfl) ?_
       refine WD.wild rfl rfl rfl (Eff.storeB scl24 rfl rfl hA.own.cellsV hA.own.oneC hXa rfl) ?_
       rintro _ ws hS
       have h2 := h.appL (x := minus (beNat (tkT s false 4))) hA hS (minus_i64 (beNat4 _ _))
       refine WD.nil ?_
       refine cg <| zm rfl <| vq (Val.subI rfl rfl side side) <| za rfl <| cnil ?_
       obtain ⟨M, rfl⟩ : ∃ M, N = M + 1 := ⟨N - 1, by omega⟩
       have hl2 := tkS_len s false 4
       refine ⟨(n - 1, M, tkS s false 4, tkBad s false 4, { p with list := p.list ++ [minus (beNat (tkT s false 4))] }, v56), subs, ⟨h2, lj_step hj, ?_, ?_, ?_, ?_, ?_⟩, ?_⟩
       · intro hb; have := tk4_len hb; dsimp only at hb ⊢; simp only [List.length_append, List.length_singleton]; omega
       · dsimp only; omega
       · dsimp only; omega
       · dsimp only; simp only [List.length_append, List.length_singleton]; omega
       · exact hm2
       · cases e : tkBad s false 4
         · have := tk4_len e; simp only [e, cond_false]; omega
         · simp only [e, cond_true, cond_false]; omega
      ·try simp only [tstS] at hc9
       refine WC.exit rfl ?_
       refine ⟨_, _, rfl, rfl, ?_⟩
       rw [Bool.and_eq_false_iff] at hc9
       simp only [Bool.not_eq_false', decide_eq_false_iff_not] at hc9
       exact ⟨rfl, _, _, _, _, _, h, lj_exit hj (fun hb => by subst hb; have := hJ rfl; simp at hc9; omega), hL, hm1, by omega⟩
     ·try simp only [tstS] at hc7
      refine cseq <| cg <| vq (Val.eql rfl rfl) <| za rfl <| cnil ?_
      refine WC.cond rfl (fun hc12 => ?_) (fun hc12 => ?_)
      ·try simp only [tstS] at hc12
       obtain rfl : c = 115 := by omega
       refine cseq <| cg <| zm rfl ?_
       refine ve (Eff.call pf64 rfl (pnumber_ok h.R 1 (by decide) (by decide) (by omega))) ?_
       rintro _ w1 ⟨hg, rfl, hR⟩
       replace h := h.rd hg hR
       have hl2 := tkS_len s bad 1
       have hb4 := beNat1 s bad
       rw [minus_small hb4]
       refine za rfl <| cnil <| cblock ?_
       have hj0 := sj_init (φ := minus) hr
       generalize o.bind (pField minus 115) = T at hj0 ⊢
       refine WC.loop (σ := Nat × List UInt8 × Bool × Rec × Value) (fun st => [(0, .pointer (some ⟨bR, 0, none⟩)), (1, .pointer (some ⟨bX, 0, none⟩)), (7, I st.1)]) (fun st w' => XS 72 K w w' base bR bX st.2.1 st.2.2.1 st.2.2.2.1 vl st.2.2.2.2 ∧ SJ minus T st.1 st.2.1 st.2.2.1 st.2.2.2.1 ∧ st.1 ≤ 255 ∧ st.2.1.length ≤ L ∧ st.2.2.2.1.slots.length + st.1 ≤ m + 255 ∧ st.2.2.2.1.list.length ≤ m ∧ (st.2.2.1 = false → st.2.2.2.1.slots.length + st.2.1.length ≤ m + L) ∧ st.2.2.2.1.slots.length ≤ m + L + 1) (fun st => st.1) (beNat (tkT s bad 1), tkS s bad 1, tkBad s bad 1, p, vs) subs ⟨h, hj0, by dsimp only; omega, by dsimp only; omega, by dsimp only; omega, hm1, fun _ => by dsimp only; omega, by dsimp only; omega⟩ ?_
       clear h hr hL hl2 hb4 hj0 hm1 hm2 hR hg s bad p vs
       rintro ⟨N, s, bad, p, vs⟩ wl ⟨h, hj, hn, hL, hm2, hm1, hJ, hm3⟩
       dsimp only at h hj hn hL hm1 hm2 hJ hm3 ⊢
       have hbR := h.R
       refine cseq <| cseq ?_
       skip
       refine cg <| zm rfl <| vq (Val.gtr rfl rfl) <| zm rfl ?_
       apply WR.sc true 5 _ (fun w' => wl = w')
       case hl | hg | hu | hv | hs | hoff | hd => rfl
       case hF => exact fun _ => rfl
       case hT =>
        intro hq8
        try simp only [tstS] at hq8
        simp only [List.take_succ_cons, List.take_zero]
        refine WR.on rfl rfl ?_
        refine zm rfl ?_
        refine WR.on rfl rfl ?_
        refine vq (Val.nilCheck rfl) ?_
        refine WR.on rfl rfl ?_
        refine vq (Val.fieldAddr fld72_1 rfl) ?_
        refine WR.on rfl rfl ?_
        refine vq (Val.loadB scl4 rfl hbR rfl) ?_
        refine WR.on rfl rfl ?_
        refine vq (Val.not rfl) ?_
        exact WR.nil ⟨rfl, Sub.drop _ 5 _ rfl rfl, rfl⟩
       rintro _ rfl
       refine cnil ?_
       refine WC.cond rfl (fun hc14 => ?_) (fun hc14 => ?_)
       ·try simp only [tstS] at hc14
        obtain ⟨hn0, hb0⟩ := hc14
        subst hb0
        replace hJ := hJ rfl
        clear hbR
        have hl2 := tkS_len s false 4
        have hl3 := tkS_len (tkS s false 4) (tkBad s false 4) 4
        refine cskip <| cseq <| cblock <| cseq <| cg <| zm rfl ?_
        refine ve (Eff.call pf64 rfl (pnumber_ok h.R 4 (by decide) (by decide) (by omega))) ?_
        rintro _ w5 ⟨hg, rfl, hR⟩
        replace h := h.rd hg hR
        refine vq (Val.build (cells := #[I (minus (beNat (tkT s false 4))), I 0]) rfl (by kernel_rfl)) ?_
        refine ve (Eff.alloc zero66) ?_
        rintro _ w6 ⟨b8, rfl, hn8⟩
        have hRlt := h.R.lt
        have hXlt := h.X.lt
        have hbse := h.hbR
        have h8e := hn8.at_
        have h8L : ∀ k, vl.rowOf = some k → k ≠ b8 := fun k hk => by have := (h.L.lt k hk).2; omega
        have h8S : ∀ k, vs.rowOf = some k → k ≠ b8 := fun k hk => by have := (h.S.lt k hk).2; omega
        have h8K : ¬ K b8 := fun hk => by have := (h.hF b8 hk).1; have := h.hK.size; omega
        replace h := h.up hn8.below
        have hb8 := hn8.blk
        refine WR.eff_ (Eff.storeBN agg66 rfl rfl hb8 rfl rfl ones) ?_
        intro _ w7 hS7
        replace h := h.other hS7 (by omega) (by omega) (fun k hk e => h8L k hk e) (fun k hk e => h8S k hk e) (by omega) h8K
        replace hb8 := hS7.blk
        refine cnil <| cseq <| cg <| zm rfl ?_
        refine ve (Eff.call pf64 rfl (pnumber_ok h.R 4 (by decide) (by decide) (by omega))) ?_
        rintro _ w8 ⟨hg, rfl, hR⟩
        replace hb8 := hb8.grown hg (fun e => by injection e with e; omega)
        replace h := h.rd hg hR
        refine vq (Val.fieldAddr fld66_1 rfl) ?_
        refine WR.eff_ (Eff.storeB scl3 rfl rfl rfl rfl hb8 rfl) ?_
        rintro _ w9 hS9
        replace h := h.other hS9 (by omega) (by omega) (fun k hk e => h8L k hk e) (fun k hk e => h8S k hk e) (by omega) h8K
        replace hb8 : Blk w9 b8 [I (minus (beNat (tkT s false 4))), I (minus (beNat (tkT (tkS s false 4) (tkBad s false 4) 4)))] 66 := hS9.blk
        refine cnil ?_
        refine WC.regionD (fun W => Blk W bX (cellsX p vl vs) TX ∧ Blk W b8 [I (minus (beNat (tkT s false 4))), I (minus (beNat (tkT (tkS s false 4) (tkBad s false 4) 4)))] 66) [0, 0, 0, 0, 1, 1, 2, 2, 0, 0, 3] [0, 1, 2, 3, 4, 5, 6, 7, 8, 9, 10] mixed (by kernel_rfl) ?_
        replace h := h.up (Below.refl _ _).drew
        replace hb8 := hb8.up (Below.refl _ _).drew
        have hC := And.intro h.X hb8
        generalize w9.drew = wd at h hb8 hC ⊢
        refine zdm rfl rfl <| zdm rfl rfl <| vd rfl (fun _ => Val.nilCheck rfl) <| vd rfl (fun _ => Val.fieldAddr fld31_5 rfl) <| qc rfl rfl rfl hC (fun W hW => Val.loadB scl29 rfl hW.1 rfl) rfl <| qc rfl rfl rfl hC (fun W hW => Val.loadBN agg66 rfl hW.2 rfl) rfl ?_
        refine WD.eff rfl rfl rfl (Eff.build1 sl29 rfl rfl rfl rfl rfl) rfl ?_
        rintro _ wb ⟨b55, rfl, hnb⟩
        refine ⟨fun hC => ⟨hC.1.up hnb.below, hC.2.up hnb.below⟩, ?_⟩
        replace h := h.up hnb.below
        refine WD.eff rfl rfl rfl (Eff.append sl29 rfl rfl h.S (Src.cellsAt Try.underlying29 hnb.blk.cellsAt rfl ones) (by rw [maxLen_eq]; omega) (by omega) h.hBw) rfl ?_
        intro v56 wa hA
        refine ⟨fun hC => ⟨hC.1.grown hA.grown (fun e => (h.neS bX e).2 rfl), hC.2.grown hA.grown (fun e => h8S b8 e rfl)⟩, ?_⟩
        have hXa := h.X.grown hA.grown (fun e => (h.neS bX e).2 rfl)
        refine vd rfl (fun _ => Val.nilCheck rfl) <| vd rfl (fun _ => Val.fieldAddr fld31_5 rfl) ?_
        refine WD.wild rfl rfl rfl (Eff.storeB scl29 rfl rfl hA.own.cellsV hA.own.oneC hXa rfl) ?_
        rintro _ ws hS
        have h2 := h.appS (x := (minus (beNat (tkT s false 4)), minus (beNat (tkT (tkS s false 4) (tkBad s false 4) 4)))) hA hS ⟨minus_i64 (beNat4 _ _), minus_i64 (beNat4 _ _)⟩
        refine WD.nil ?_
        refine cg <| zm rfl <| vq (Val.subI rfl rfl side side) <| za rfl <| cnil ?_
        obtain ⟨M, rfl⟩ : ∃ M, N = M + 1 := ⟨N - 1, by omega⟩
        rw [show ((M + 1 : Nat) : Int) - 1 = (M : Int) by omega]
        refine ⟨(M, tkS (tkS s false 4) (tkBad s false 4) 4, tkBad (tkS s false 4) (tkBad s false 4) 4, { p with slots := p.slots ++ [(minus (beNat (tkT s false 4)), minus (beNat (tkT (tkS s false 4) (tkBad s false 4) 4)))] }, v56), subs, ⟨h2, sj_step hj, ?_, ?_, ?_, ?_, ?_, ?_⟩, ?_⟩
        · dsimp only; omega
        · dsimp only; omega
        · dsimp only; simp only [List.length_append, List.length_singleton]; omega
        · exact hm1
        · intro hb
          dsimp only at hb ⊢
          simp only [List.length_append, List.length_singleton]
          have e1 : tkBad s false 4 = false := by
            cases e : tkBad s false 4
            · rfl
            · rw [e] at hb; cases hb
          have := tk4_len e1; omega
        · dsimp only; simp only [List.length_append, List.length_singleton]; omega
        · dsimp only; omega
       ·try simp only [tstS] at hc14
        refine WC.exit rfl ?_
        refine ⟨_, _, rfl, rfl, ?_⟩
        rw [Bool.and_eq_false_iff] at hc14
        simp only [Bool.not_eq_false', decide_eq_false_iff_not] at hc14
        exact ⟨rfl, _, _, _, _, _, h, sj_exit hj (fun hb => by subst hb; simp at hc14; omega), hL, by omega, hm3⟩
      ·try simp only [tstS] at hc12
       refine cskip ?_
       refine ⟨_, _, rfl, rfl, ?_⟩
       have e : pField minus c = fun x => some x := by
         funext x; unfold pField; split <;> first | rfl | omega
       exact ⟨rfl, _, _, _, _, _, h, by rw [e]; cases o <;> exact hr, hL, by omega, by omega⟩
end Go.Proofs.Ythlfolpcmcejkaa
