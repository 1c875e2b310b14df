/- Which record bytes are: the program. No condition. -/
import Derived.Test.YthlfolpcmcejkaaRec10
import Derived.Test.YthlfolpcmcejkaaDraw2
set_option linter.unusedSimpArgs false
set_option linter.unusedVariables false
set_option maxRecDepth 100000
namespace Go.Proofs.Ythlfolpcmcejkaa
open Go Go.Eng Go.RowKit Silo TryT

theorem rdRec0 (w : World) : RdRec w [I 0, I 0, St [], St [], .slice none 0 0, .slice none 0 0] (rec0 0) :=
  ⟨_, _, rfl, RdS.nil _ _ _, RdS.nil _ _ _, ⟨by simp [rec0], by simp [rec0]⟩, ⟨by simp [rec0], by simp [rec0]⟩, by simp [rec0], by simp [rec0]⟩

/-- A record whose lists are one's own. -/
def RecO (w : World) (base : Nat) (cs : List Value) (r : Rec) : Prop := ∃ vl vs, cs = [I r.kind, I r.id, St r.name, St r.digest, vl, vs] ∧ Own w base TI 1 vl r.list.length (flatL r.list) ∧ Own w base TSl 2 vs r.slots.length (flatS r.slots) ∧
  (Go.Eng.Int64 r.kind ∧ Go.Eng.Int64 r.id ∧ r.name.length ≤ 140737488355328 ∧ r.digest.length ≤ 140737488355328) ∧ (∀ x ∈ r.list, Go.Eng.Int64 x) ∧ (∀ x ∈ r.slots, Go.Eng.Int64 x.1 ∧ Go.Eng.Int64 x.2) ∧ r.list.length ≤ 140737488355328 ∧ r.slots.length ≤ 140737488355328
theorem RecO.rd {w : World} {base : Nat} {cs : List Value} {r : Rec} (h : RecO w base cs r) : RdRec w cs r := by
  obtain ⟨vl, vs, rfl, a, b, ⟨k1, k2, k3, k4⟩, k5, k6, k7, k8⟩ := h
  exact ⟨vl, vs, rfl, a.rdInts k5 k7, rdSlots b k6 k8, k1, k2, k3, k4⟩
theorem recO0 (w : World) (base : Nat) : RecO w base [I 0, I 0, St [], St [], .slice none 0 0, .slice none 0 0] (rec0 0) :=
  ⟨_, _, rfl, Own.nil _ _ _ _, Own.nil _ _ _ _, ⟨⟨by simp [rec0], by simp [rec0]⟩, ⟨by simp [rec0], by simp [rec0]⟩, by simp [rec0], by simp [rec0]⟩, (fun _ h => by cases h), (fun _ h => by cases h), by simp [rec0], by simp [rec0]⟩

theorem take_own {w : World} (s : List UInt8) (hs : s.length ≤ 1073741824) :
    Calls Try.prog 23 #[St s] w (Ret fun v w' => Below w.heap.size w w' ∧ ∃ cs, v = .tuple #[.agg cs.toArray, I (if (takeSpec minus s).isSome then 0 else 7)] ∧ RecO w' w.heap.size cs ((takeSpec minus s).getD (rec0 0))) := by
  have hK : Old w w := Old.refl w
  refine enter (n := 47) (res := #[.cell 2 31, .tmp 3]) Try.func23 rfl rfl rfl rfl ?_
  refine cseq <| cg ?_
  refine ve (Eff.alloc zero31) ?_
  rintro _ w1 ⟨b2, rfl, hn2⟩
  have hk1 := hn2.below
  replace hK := hK.up hk1
  have hb2 := hn2.blk
  refine za rfl <| cnil <| cseq <| cseq ?_
  have hb2e := hn2.at_
  obtain ⟨B, hB⟩ : ∃ B, B = w1.heap.size := ⟨_, rfl⟩
  have hBw : B ≤ w1.heap.size := Nat.le_of_eq hB
  replace hb2 := hb2.fix; replace hK := Old.fix hK
  rw [← hB] at hb2 hK
  refine cg <| zm rfl <| vq (Val.seq_ rfl rfl) <| cnil ?_
  refine WC.cond rfl (fun hc1 => ?_) (fun hc1 => ?_)
  ·try simp only [tstS] at hc1
   have hs0 : s = [] := by simpa using hc1
   refine cseq <| cg <| vq (Val.build (cells := #[I 0, I 0, St [], St [], .slice none 0 0, .slice none 0 0]) rfl (by kernel_rfl)) ?_
   refine WR.eff_ (Eff.storeBN agg31 rfl rfl hb2.2 rfl rfl ones) ?_
   intro _ w2 hS
   have hbz := hS.blk
   have hKz : Below w.heap.size w w2 := hK.1.trans (Blk.store_below hS (by omega) hK.1.size)
   refine za rfl <| cnil ?_
   refine WC.retR2 rfl (RVal.cellN agg31 rfl hbz rfl) (RVal.tmp rfl) ?_
   subst hs0
   exact ⟨hKz, _, rfl, recO0 _ _⟩
  ·try simp only [tstS] at hc1
   obtain ⟨kb, s, rfl⟩ : ∃ k r, s = k :: r := by
     cases s with
     | nil => simp at hc1
     | cons k r => exact ⟨k, r, rfl⟩
   have hsl : s.length ≤ 1073741823 := by simp at hs; omega
   refine cskip <| cseq ?_
   refine WC.mono (N := fun e w' => ∃ b18 b4, Sub [(4000000, .tuple #[]), (2, .pointer (some ⟨b2, 0, none⟩)), (4, .pointer (some ⟨b4, 0, none⟩)), (5, .pointer (some ⟨b18, 0, none⟩))] e ∧ Blk w' b18 [St s, .bool false] 72 ∧ Blk w' b4 [I kb.toNat, I 0, St [], St [], .slice none 0 0, .slice none 0 0] TX ∧ B ≤ b18 ∧ B ≤ b4 ∧ b18 ≠ b4 ∧ BlkB B w' b2 [I 0, I 0, St [], St [], .slice none 0 0, .slice none 0 0] TX ∧ OldB B w w' ∧ B ≤ w'.heap.size) ?_ ?_
   · refine WC.regionT (fun _ => True) [0, 0, 0, 0, 0, 0, 0, 2, 2, 3, 0] (.quiet 0 (.quiet 1 (.quiet 2 (.quiet 3 (.quiet 4 (.quiet 5 (.quiet 6 (.two 7 (.one 8 (.one 9 (.quiet 10 .nil))) 8 (.two 7 (.one 9 (.quiet 10 .nil)) 9 (.one 7 (.quiet 10 .nil)))))))))) ) mixed (by kernel_rfl) ?_
     have hd : Below B w1 w1.drew := (Below.refl _ _).drew
     replace hb2 := hb2.upB (hd); replace hK := hK.upB (hd); replace hBw := Nat.le_trans hBw (hd).size
     generalize w1.drew = wd at hd hb2 hK hBw ⊢
     refine WT.val rfl rfl rfl (fun _ => Val.move rfl) rfl ?_
     refine WT.val rfl rfl rfl (fun _ => Val.sindex Try.underlying9 rfl rfl (by decide) rfl) rfl ?_
     refine WT.val rfl rfl rfl (fun _ => Val.convU8 Try.underlying5 Try.underlying3 rfl) rfl ?_
     refine WT.val rfl rfl rfl (fun _ => Val.build (cells := #[I kb.toNat, I 0, St [], St [], .slice none 0 0, .slice none 0 0]) rfl (by kernel_rfl)) rfl ?_
     refine WT.val rfl rfl rfl (fun _ => Val.move rfl) rfl ?_
     refine WT.val rfl rfl rfl (fun _ => Val.ssliceFrom Try.underlying9 rfl rfl (by decide) (by simp; omega)) rfl ?_
     refine WT.val rfl rfl rfl (fun _ => Val.build (cells := #[St s, .bool false]) rfl (by kernel_rfl)) rfl ?_
     refine WT.two ?_ ?_
     · refine WS.eff rfl rfl rfl (Eff.box rfl) rfl ?_; rintro _ wx ⟨b18, rfl, hn18⟩; refine ⟨fun _ => trivial, ?_⟩; have hb18 := hn18.blk; have hlt18 := hb18.lt; have hat18 := hn18.at_
       have hge18 : B ≤ b18 := by omega
       replace hb2 := hb2.upB (hn18.below.mono hBw); replace hK := hK.upB (hn18.below.mono hBw); replace hBw := Nat.le_trans hBw (hn18.below.mono hBw).size
       refine WT.one ?_
       refine WS.eff rfl rfl rfl (Eff.alloc zero31) rfl ?_; rintro _ wy ⟨b4, rfl, hn4⟩; refine ⟨fun _ => trivial, ?_⟩; have hb4 := hn4.blk; have hlt4 := hb4.lt; have hat4 := hn4.at_
       have hge4 : B ≤ b4 := by omega
       have hne : b18 ≠ b4 := by omega
       replace hb2 := hb2.upB (hn4.below.mono hBw); replace hK := hK.upB (hn4.below.mono hBw); replace hBw := Nat.le_trans hBw (hn4.below.mono hBw).size
       replace hb18 := hb18.up hn4.below
       refine WT.one ?_
       refine WS.wild rfl rfl rfl (Eff.storeBN agg31 rfl rfl hb4 rfl rfl ones) ?_; intro _ wz hS; replace hb4 := hS.blk
       replace hb18 := hb18.grown hS.grown (fun e => hne (by injection e with e; exact e.symm))
       replace hb2 := hb2.upB (Blk.store_below hS hge4 hBw); replace hK := hK.upB (Blk.store_below hS hge4 hBw); replace hBw := Nat.le_trans hBw (Blk.store_below hS hge4 hBw).size
       refine WT.val rfl rfl rfl (fun _ => Val.assign rfl) rfl (WT.nil ?_); exact ⟨b18, b4, subs, hb18, hb4, hge18, hge4, hne, hb2, hK, hBw⟩
     · refine WS.eff rfl rfl rfl (Eff.alloc zero31) rfl ?_; rintro _ wy ⟨b4, rfl, hn4⟩; refine ⟨fun _ => trivial, ?_⟩; have hb4 := hn4.blk; have hlt4 := hb4.lt; have hat4 := hn4.at_
       have hge4 : B ≤ b4 := by omega
       replace hb2 := hb2.upB (hn4.below.mono hBw); replace hK := hK.upB (hn4.below.mono hBw); replace hBw := Nat.le_trans hBw (hn4.below.mono hBw).size
       refine WT.two ?_ ?_
       · refine WS.eff rfl rfl rfl (Eff.box rfl) rfl ?_; rintro _ wx ⟨b18, rfl, hn18⟩; refine ⟨fun _ => trivial, ?_⟩; have hb18 := hn18.blk; have hlt18 := hb18.lt; have hat18 := hn18.at_
         have hge18 : B ≤ b18 := by omega
         have hne : b18 ≠ b4 := by omega
         replace hb2 := hb2.upB (hn18.below.mono hBw); replace hK := hK.upB (hn18.below.mono hBw); replace hBw := Nat.le_trans hBw (hn18.below.mono hBw).size
         replace hb4 := hb4.up hn18.below
         refine WT.one ?_
         refine WS.wild rfl rfl rfl (Eff.storeBN agg31 rfl rfl hb4 rfl rfl ones) ?_; intro _ wz hS; replace hb4 := hS.blk
         replace hb18 := hb18.grown hS.grown (fun e => hne (by injection e with e; exact e.symm))
         replace hb2 := hb2.upB (Blk.store_below hS hge4 hBw); replace hK := hK.upB (Blk.store_below hS hge4 hBw); replace hBw := Nat.le_trans hBw (Blk.store_below hS hge4 hBw).size
         refine WT.val rfl rfl rfl (fun _ => Val.assign rfl) rfl (WT.nil ?_); exact ⟨b18, b4, subs, hb18, hb4, hge18, hge4, hne, hb2, hK, hBw⟩
       · refine WS.wild rfl rfl rfl (Eff.storeBN agg31 rfl rfl hb4 rfl rfl ones) ?_; intro _ wz hS; replace hb4 := hS.blk
         replace hb2 := hb2.upB (Blk.store_below hS hge4 hBw); replace hK := hK.upB (Blk.store_below hS hge4 hBw); replace hBw := Nat.le_trans hBw (Blk.store_below hS hge4 hBw).size
         have hlt4 := hb4.lt
         refine WT.one ?_
         refine WS.eff rfl rfl rfl (Eff.box rfl) rfl ?_; rintro _ wx ⟨b18, rfl, hn18⟩; refine ⟨fun _ => trivial, ?_⟩; have hb18 := hn18.blk; have hlt18 := hb18.lt; have hat18 := hn18.at_
         have hge18 : B ≤ b18 := by omega
         have hne : b18 ≠ b4 := by omega
         replace hb2 := hb2.upB (hn18.below.mono hBw); replace hK := hK.upB (hn18.below.mono hBw); replace hBw := Nat.le_trans hBw (hn18.below.mono hBw).size
         replace hb4 := hb4.up hn18.below
         refine WT.val rfl rfl rfl (fun _ => Val.assign rfl) rfl (WT.nil ?_); exact ⟨b18, b4, subs, hb18, hb4, hge18, hge4, hne, hb2, hK, hBw⟩
   clear hb2 hK hBw
   rintro _ wq ⟨b18, b4, hsub, hb18, hb4, hge18, hge4, hne4_b18, hb2, hK, hBw⟩
   refine WC.sub hsub ?_
   clear hsub
   refine cseq <| cseq <| cg <| vq (Val.fieldAddr fld31_0 rfl) <| vq (Val.loadB scl3 rfl hb4 rfl) ?_
   refine ve (Eff.call pf50 rfl (fields_ok kb.toNat)) ?_
   rintro v21 w2 ⟨hk2, rfl⟩
   replace hb2 := hb2.upB (hk2.mono hBw); replace hK := hK.upB (hk2.mono hBw); replace hb18 := hb18.up hk2; replace hb4 := hb4.up hk2; replace hBw := Nat.le_trans hBw hk2.size
   have h0 := XS.mk0 (s := s) (bad := false) hBw hge18 hge4 hne4_b18 hb18 hb4 ⟨by omega, by have := kb.toNat_lt; omega⟩
   refine ve (Eff.rangeStr Try.underlying9 rfl) ?_
   rintro _ wr ⟨hkr, b22, rfl, hb22, hit⟩
   have hBb : B ≤ b22 := by omega
   have h2R : b22 ≠ b18 := by have := h0.R.lt; omega
   have h2X : b22 ≠ b4 := by have := h0.X.lt; omega
   replace h0 := h0.up hkr
   replace hb2 := hb2.upB (hkr.mono hBw); replace hK := hK.upB (hkr.mono hBw); replace hBw := Nat.le_trans hBw hkr.size
   replace hb22 : b22 < wr.heap.size := hit.lt
   have hin : ∃ w0, XS 72 (fun k => k = b22) w0 wr B b18 b4 s false (rec0 kb.toNat) (.slice none 0 0) (.slice none 0 0) := ⟨_, h0.step (grown_refl _ _) hb22 h2R h2X (fun k hk => by simp [Value.rowOf] at hk) (fun k hk => by simp [Value.rowOf] at hk) hBb⟩
   have hl3 := fieldsB_len kb.toNat
   refine cnil <| cblock ?_
   clear h0
   refine WC.loop (σ := Nat × List UInt8 × Bool × Rec × Value × Value) (fun _ => [(2, .pointer (some ⟨b2, 0, none⟩)), (4, .pointer (some ⟨b4, 0, none⟩)), (5, .pointer (some ⟨b18, 0, none⟩)), (22, .pointer (some ⟨b22, 0, none⟩))]) (fun st w' => (∃ w0, XS 72 (fun k => k = b22) w0 w' B b18 b4 st.2.1 st.2.2.1 st.2.2.2.1 st.2.2.2.2.1 st.2.2.2.2.2) ∧ Iter w' b22 (fieldsB kb.toNat) st.1 ∧ BlkB B w' b2 [I 0, I 0, St [], St [], .slice none 0 0, .slice none 0 0] TX ∧ OldB B w w' ∧ B ≤ w'.heap.size ∧ st.1 ≤ (fieldsB kb.toNat).length ∧ Rel (pFields minus ((fieldsB kb.toNat).take st.1) (rec0 kb.toNat, s)) st.2.1 st.2.2.1 st.2.2.2.1 ∧ st.2.1.length ≤ s.length ∧ st.2.2.2.1.list.length ≤ st.1 * (s.length + 1) ∧ st.2.2.2.1.slots.length ≤ st.1 * (s.length + 1)) (fun st => (fieldsB kb.toNat).length - st.1) (0, s, false, rec0 kb.toNat, .slice none 0 0, .slice none 0 0) subs ⟨hin, hit, hb2, hK, hBw, by simp, .inr ⟨rfl, rfl⟩, by simp, by simp [rec0], by simp [rec0]⟩ ?_
   clear hit hb2 hK hBw hin hb22
   rintro ⟨j, t, bad, p, vl, vs⟩ wl ⟨⟨w0, h⟩, hit, hb2, hK, hBw, hj, hrel, htl, hm1, hm2⟩
   dsimp only at h hit hj hrel htl hm1 hm2 ⊢
   have hb18 := h.R
   have hb4 := h.X
   refine cseq <| cg ?_
   refine ve (Eff.nextStr rfl hit (fieldsB_ascii _)) ?_
   rintro _ w3 ⟨hg3, rfl, hi3⟩
   replace h := h.step hg3 hit.lt h2R h2X h.hKL h.hKS hBb
   have hk3 : Below B wl w3 := below_of_grown hg3 hBw (by simp; omega)
   replace hb2 := hb2.upB hk3; replace hK := hK.upB hk3; replace hBw := Nat.le_trans hBw hk3.size
   replace hb18 := h.R; replace hb4 := h.X
   refine vq (Val.nextOk rfl) <| cnil <| cseq ?_
   refine WC.cond rfl (fun hc5 => ?_) (fun hc5 => ?_)
   ·try simp only [tstS] at hc5
    replace hit := hi3 hc5
    refine cskip <| cblock <| cseq <| cg <| vq (Val.nextC rfl hc5) <| za rfl <| cnil <| cg <| zm rfl ?_
    refine zm rfl ?_
    have hm3 : j * (s.length + 1) ≤ 3 * (s.length + 1) := Nat.mul_le_mul_right _ (by omega)
    refine ve (Eff.call pf51 rfl (taken_ok h hrel htl (by omega) hm1 hm2 (by omega))) ?_
    rintro _ w4 ⟨t', bad', p', vl', vs', h', hrel', htl', hm1', hm2'⟩
    have hit' : Iter w4 b22 (fieldsB kb.toNat) (j + 1) := (h'.hF b22 rfl).2.trans hit
    have hk4 : Below B w3 w4 := h'.hK
    replace hb2 := hb2.upB hk4; replace hK := hK.upB hk4; replace hBw := Nat.le_trans hBw hk4.size
    refine cnil ?_
    exact ⟨(j + 1, t', bad', p', vl', vs'), subs, ⟨⟨_, h'⟩, hit', hb2, hK, hBw, hc5, by rw [pFields_step _ _ _ _ hc5]; exact hrel', htl', by rw [Nat.succ_mul]; omega, by rw [Nat.succ_mul]; omega⟩, by dsimp only; omega⟩
   ·try simp only [tstS] at hc5
    refine WC.exit rfl ?_
    refine cseq <| cseq ?_
    have hm3 : j * (s.length + 1) ≤ 3 * (s.length + 1) := Nat.mul_le_mul_right _ (by omega)
    have hj' : j = (fieldsB kb.toNat).length := by omega
    subst hj'
    rw [List.take_of_length_le (Nat.le_refl _)] at hrel
    have hend := take_end hrel
    refine cg <| zm rfl <| vq (Val.nilCheck rfl) <| vq (Val.fieldAddr fld72_1 rfl) <| vq (Val.loadB scl4 rfl hb18 rfl) <| zm rfl ?_
    apply WR.sc false 5 _ (fun w' => w3 = w')
    case hl | hg | hu | hv | hs | hoff | hd => rfl
    case hF => exact fun _ => rfl
    case hT =>
     intro hq10
     try simp only [tstS] at hq10
     simp only [List.take_succ_cons, List.take_zero]
     refine WR.on rfl rfl ?_
     refine zm rfl ?_
     refine WR.on rfl rfl ?_
     refine vq (Val.nilCheck rfl) ?_
     refine WR.on rfl rfl ?_
     refine vq (Val.fieldAddr fld72_0 rfl) ?_
     refine WR.on rfl rfl ?_
     refine vq (Val.loadB scl9 rfl hb18 rfl) ?_
     refine WR.on rfl rfl ?_
     refine vq (Val.sne rfl rfl) ?_
     exact WR.nil ⟨rfl, Sub.drop _ 5 _ rfl rfl, rfl⟩
    rintro _ rfl
    refine zm rfl ?_
    apply WR.sc false 3 (!mayB p) (fun w' => Below w3.heap.size w3 w')
    case hl | hg | hu | hv | hs | hoff | hd => rfl
    case hF => exact fun _ => Below.refl _ _
    case hT =>
     intro hq15
     try simp only [tstS] at hq15
     simp only [List.take_succ_cons, List.take_zero]
     have hKsc15 : Old w3 w3 := Old.refl _
     refine WR.on rfl rfl ?_
     refine vq (Val.loadBN agg31 rfl hb4 rfl) ?_
     refine WR.on rfl rfl ?_
     refine ve (Eff.call pf44 rfl (may_ok (h.rdRec (by omega) (by omega)))) ?_
     rintro v42 w3 ⟨hk3, rfl⟩
     replace hb2 := hb2.upB (hk3.mono hBw); replace hK := hK.upB (hk3.mono hBw); replace h := h.up hk3; replace hb18 := hb18.up hk3; replace hb4 := hb4.up hk3; replace hKsc15 := hKsc15.up hk3; replace hBw := Nat.le_trans hBw hk3.size
     refine WR.on rfl rfl ?_
     refine vq (Val.not rfl) ?_
     exact WR.nil ⟨rfl, Sub.drop _ 3 _ rfl rfl, hKsc15⟩
    intro w4 hk4
    replace hb2 := hb2.upB (hk4.mono hBw); replace hK := hK.upB (hk4.mono hBw); replace h := h.up hk4; replace hb18 := hb18.up hk4; replace hb4 := hb4.up hk4; replace hBw := Nat.le_trans hBw hk4.size
    refine cnil ?_
    refine WC.cond rfl (fun hc8 => ?_) (fun hc8 => ?_)
    ·skip
     refine cseq <| cg <| vq (Val.build (cells := #[I 0, I 0, St [], St [], .slice none 0 0, .slice none 0 0]) rfl (by kernel_rfl)) ?_
     refine WR.eff_ (Eff.storeBN agg31 rfl rfl hb2.2 rfl rfl ones) ?_
     intro _ wz hS
     have hbz := hS.blk
     have hKz : Below w.heap.size w wz := hK.1.trans (Blk.store_below hS (by omega) hK.1.size)
     refine za rfl <| cnil ?_
     refine WC.retR2 rfl (RVal.cellN agg31 rfl hbz rfl) (RVal.tmp rfl) ?_
     have e : takeSpec minus (kb :: s) = none := by
       simp only [takeSpec]
       rw [hend, if_neg]
       rintro ⟨rfl, rfl, e⟩
       rw [e] at hc8; simp at hc8
     rw [e]
     exact ⟨hKz, _, rfl, recO0 _ _⟩
    ·skip
     refine cskip <| cseq <| cg <| vq (Val.loadBN agg31 rfl hb4 rfl) ?_
     have o1 := h.L.oneC
     have o2 := h.S.oneC
     have hne2 : b2 < b18 := Nat.lt_of_lt_of_le hb2.1 hge18
     refine WR.eff_ (Eff.storeBN agg31 rfl rfl hb2.2 rfl rfl ones) ?_
     intro _ wz hS
     have hbz := hS.blk
     have hKz : Below w.heap.size w wz := hK.1.trans (Blk.store_below hS (by omega) hK.1.size)
     have hrd : RecO wz w.heap.size (cellsX p vl vs) p := ⟨vl, vs, rfl, (h.L.grown hS.grown (fun k hk e => by have := (h.L.lt k hk).1; have := hb2.1; injection e with e; omega)).base_le (by have := hk1.size; omega), (h.S.grown hS.grown (fun k hk e => by have := (h.S.lt k hk).1; have := hb2.1; injection e with e; omega)).base_le (by have := hk1.size; omega), ⟨h.okK, h.okI, by have := h.okN; omega, by have := h.okD; omega⟩, h.okL, h.okS, by omega, by omega⟩
     refine za rfl <| cnil ?_
     refine WC.retR2 rfl (RVal.cellN agg31 rfl hbz rfl) (RVal.tmp rfl) ?_
     have e : takeSpec minus (kb :: s) = some p := by
       simp only [takeSpec]
       rw [hend, if_pos]
       revert hc8
       cases bad <;> cases t <;> cases mayB p <;> simp
     rw [e]
     exact ⟨hKz, _, rfl, hrd⟩
theorem take_ok {w : World} (s : List UInt8) (hs : s.length ≤ 1073741824) :
    Calls Try.prog 23 #[St s] w (Ret fun v w' => Below w.heap.size w w' ∧ ∃ cs, v = .tuple #[.agg cs.toArray, I (if (takeSpec minus s).isSome then 0 else 7)] ∧ RdRec w' cs ((takeSpec minus s).getD (rec0 0))) := by
  refine (take_own s hs).mono fun e w' he => ?_
  obtain ⟨v, rfl, hb, cs, rfl, h⟩ := he
  exact ⟨_, rfl, hb, cs, rfl, h.rd⟩
end Go.Proofs.Ythlfolpcmcejkaa
