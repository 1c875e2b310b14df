/- The disks' law by kinds. No condition. -/
import Derived.Test.YtjddnaefmikccaaAl5
set_option linter.unusedSimpArgs false
set_option linter.unusedVariables false
set_option maxRecDepth 100000
namespace Go.Eng
open Go Go.RowKit Silo
/-- Acts' cells, one by one. -/
structure EachA (c : Nat → Nat) (w : World) (css : List (List Value)) (l : List Act10) : Prop where
  len : css.length = l.length
  each : ∀ (k : Nat) (cs : List Value) (x : Act10), css[k]? = some cs → l[k]? = some x → FtC (fun w' => actS.rd w'.heap.size w' cs x) c w [0]
theorem EachA.mv {c c' : Nat → Nat} {w w' : World} {css : List (List Value)} {l : List Act10} {I : List Nat} (h : EachA c w css l) (m : Mv c w c' w' I) (hi : apartC [0] I = true := by rfl) : EachA c' w' css l := ⟨h.len, fun k cs x h1 h2 => (h.each k cs x h1 h2).mv m hi⟩
theorem EachA.snoc {c : Nat → Nat} {w : World} {css : List (List Value)} {l : List Act10} {cs : List Value} {x : Act10} (h : EachA c w css l) (hx : FtC (fun w' => actS.rd w'.heap.size w' cs x) c w [0]) : EachA c w (css ++ [cs]) (l ++ [x]) := by
  refine ⟨by simp [h.len], fun k cs' x' h1 h2 => ?_⟩
  rcases snoc_at h1 with ⟨e1, rfl⟩ | h1
  · rcases snoc_at h2 with ⟨_, rfl⟩ | h2
    · exact hx
    · rw [List.getElem?_eq_none (by rw [e1, h.len]; exact Nat.le_refl _)] at h2; cases h2
  · rcases snoc_at h2 with ⟨e, rfl⟩ | h2
    · rw [List.getElem?_eq_none (by rw [e, h.len]; exact Nat.le_refl _)] at h1; cases h1
    · exact h.each k cs' x' h1 h2
end Go.Eng
namespace Go.Proofs.Ytjddnaefmikccaa
open Go Go.Eng Go.RowKit Silo TryT
set_option maxHeartbeats 2000000 in
theorem only10_ok {w : World} {disks sectors : Int} {vL vK : Value} {L : List Act10} {Ks : List Int} (h0 : Rd actS w vL L) (h1 : Rd intS w vK Ks) (hk0 : 0 < Ks.length) (hbig : L.length * 72 ≤ 140737488355328) (hd64 : Go.Eng.Int64 disks) (hs64 : Go.Eng.Int64 sectors) : Calls Try.prog 26 #[.agg #[I disks, I sectors, vL], vK] w (Ret fun v w' => Below w.heap.size w w' ∧ v = .bool true) := by
  obtain ⟨c, hO, hc⟩ := OldC.start w
  have hL : RdC actS c w [0] vL L := Rd.toC h0 (fun k hk => by simp [hc, hasC])
  have hK : RdC intS c w [0] vK Ks := Rd.toC h1 (fun k hk => by simp [hc, hasC])
  have hlen := h0.small; have hklen := h1.small
  have q1 := h0.oneC; have q2 := h1.oneC
  clear hc h0 h1
  refine enter (n := 38) (res := #[.tmp 4]) Try.func26 rfl rfl rfl rfl ?_
  refine cseq <| cg ?_
  refine ve (Eff.boxC c 102 rfl) ?_
  rintro _ w1 ⟨b2, c1, rfl, hM1, hb2⟩
  replace hO := hO.mv hM1; replace hL := hL.mv hM1; replace hK := hK.mv hM1
  refine za rfl <| cnil <| cseq <| cg <| vq (Val.loadBN agg24 rfl hb2.blk rfl) ?_
  refine ve (Eff.allocC c1 105 zero24) ?_
  rintro _ w2 ⟨b5, c2, rfl, hM2, hb5⟩
  replace hO := hO.mv hM2; replace hL := hL.mv hM2; replace hK := hK.mv hM2; replace hb2 := hb2.mv hM2
  refine WR.eff_ (Eff.storeNC agg24 rfl rfl hb5 rfl rfl ones) ?_
  rintro _ w3 ⟨hS, hM3⟩
  replace hO := hO.mv hM3; replace hL := hL.mv hM3; replace hK := hK.mv hM3; replace hb2 := hb2.mv hM3
  replace hb5 := hS
  refine cnil <| cseq <| cg <| vq (Val.fieldAddr fld24_2 rfl) ?_
  refine WR.eff_ (Eff.storeC scl22 rfl rfl ra ra hb5 rfl) ?_
  rintro _ w4 ⟨hS, hM4⟩
  replace hO := hO.mv hM4; replace hL := hL.mv hM4; replace hK := hK.mv hM4; replace hb2 := hb2.mv hM4
  replace hb5 := hS
  refine cnil <| cseq <| cseq <| cg <| za rfl <| cnil <| cblock ?_
  refine WC.loop (σ := List Act10) (fun s => [(1, vK), (2, .pointer (some ⟨b2, 0, none⟩)), (5, .pointer (some ⟨b5, 0, none⟩)), (6, I s.length)]) (fun s w' => s.length ≤ L.length ∧ ∃ c' yq css, OldC w c' w' ∧ RdC actS c' w' [0] vL L ∧ RdC intS c' w' [0] vK Ks ∧ BlkC c' w' 102 b2 [I disks, I sectors, vL] 24 ∧ BlkC c' w' 105 b5 [I disks, I sectors, yq] 24 ∧ OwnC c' w' 7 34 6 yq s.length css.flatten ∧ EachA c' w' css s) (fun s => L.length - s.length) [] subs ⟨by simp, _, _, [], hO, hL, hK, hb2, hb5, OwnC.nil _ _ _ _ _, ⟨rfl, fun k cs x h => by simp at h⟩⟩ ?_
  clear hO hL hK hb2 hb5
  rintro s wl ⟨hs, cl, yq, css, hO, hL, hK, hb2, hb5, ho, hE⟩
  have q3 := ho.oneC; have q4 := ho.cellsV
  refine cseq <| cseq <| cg <| zm rfl <| vq (Val.fieldAddr fld24_2 rfl) <| vq (Val.loadB scl22 rfl hb2.blk rfl) <| vq (Val.rdlen sl22 hL.now rfl) <| vq (Val.lss rfl rfl) <| cnil ?_
  refine WC.cond rfl (fun hc4 => ?_) (fun hc4 => ?_)
  ·try simp only [tstS] at hc4
   have hi' : s.length < L.length := by omega
   obtain ⟨cs, hc20, _, hf⟩ := RdC.el hL hi' (by decide)
   obtain ⟨vl, rfl, hl, hok⟩ := hf.now
   have q5 := hl.oneC
   clear hl
   have hml := Nat.mod_lt s.length hk0
   obtain ⟨hc27, hk64⟩ := RdC.elFlat hK hml (by decide)
   have hf2 : FtC (fun w' => actS.rd w'.heap.size w' [I Ks[s.length % Ks.length], I L[s.length].d, I L[s.length].s, I L[s.length].n, St L[s.length].t, vl] { L[s.length] with act := Ks[s.length % Ks.length] }) _ _ [0] := hf.imp fun w' _ ⟨vl', e1, h2, h3⟩ => by
     simp only [List.cons.injEq] at e1
     refine ⟨vl, rfl, ?_, ⟨hk64, h3.1.2⟩, h3.2⟩
     rw [e1.2.2.2.2.2.1]; exact h2
   clear hf
   refine cskip <| cseq <| cblock <| cseq <| cg <| vq (Val.fieldAddr fld24_2 rfl) <| vq (Val.loadB scl22 rfl hb2.blk rfl) <| zm rfl <| vq (Val.indexAddr sl22 hL.now rfl rfl rfl (by omega) (by omega)) ?_
   refine vq (Val.loadE agg34 rfl hc20.cel rfl) ?_
   refine ve (Eff.allocC cl 107 zero34) ?_
   rintro _ w5 ⟨b7, c5, rfl, hM5, hb7⟩
   replace hO := hO.mv hM5; replace hL := hL.mv hM5; replace hK := hK.mv hM5; replace hb2 := hb2.mv hM5; replace hb5 := hb5.mv hM5; replace ho := ho.mv hM5; replace hE := hE.mv hM5; replace hc20 := hc20.mv hM5; replace hc27 := hc27.mv hM5; replace hf2 := hf2.mv hM5
   refine WR.eff_ (Eff.storeNC agg34 rfl rfl hb7 rfl rfl ones) ?_
   rintro _ w6 ⟨hS, hM6⟩
   replace hO := hO.mv hM6; replace hL := hL.mv hM6; replace hK := hK.mv hM6; replace hb2 := hb2.mv hM6; replace hb5 := hb5.mv hM6; replace ho := ho.mv hM6; replace hE := hE.mv hM6; replace hc20 := hc20.mv hM6; replace hc27 := hc27.mv hM6; replace hf2 := hf2.mv hM6
   replace hb7 := hS
   refine cnil <| cseq <| cg <| zm rfl <| zm rfl <| zm rfl <| vq (Val.rdlen sl32 hK.now rfl) <| vq (Val.remI rfl rfl (by omega) (by omega)) ?_
   rw [show ((s.length : Int) % (Ks.length : Int)) = ((s.length % Ks.length : Nat) : Int) from rfl]
   refine vq (Val.indexAddr sl32 hK.now rfl rfl rfl (by omega) (by omega)) ?_
   rw [Int.toNat_natCast]
   refine vq (Val.loadE1 scl3 rfl hc27.cel) <| vq (Val.fieldAddr fld34_0 rfl) ?_
   refine WR.eff_ (Eff.storeC scl3 rfl rfl ra ra hb7 rfl) ?_
   rintro _ w7 ⟨hS, hM7⟩
   replace hO := hO.mv hM7; replace hL := hL.mv hM7; replace hK := hK.mv hM7; replace hb2 := hb2.mv hM7; replace hb5 := hb5.mv hM7; replace ho := ho.mv hM7; replace hE := hE.mv hM7; replace hc20 := hc20.mv hM7; replace hc27 := hc27.mv hM7; replace hf2 := hf2.mv hM7
   replace hb7 := hS
   refine cnil <| cg <| vq (Val.fieldAddr fld24_2 rfl) <| vq (Val.loadB scl22 rfl hb5.blk rfl) <| vq (Val.loadBN agg34 rfl hb7.blk rfl) ?_
   refine ve (Eff.build1C c5 133 sl22 rfl rfl rfl rfl rfl) ?_
   rintro _ w8 ⟨b33, c8, rfl, hM8, hb33⟩
   replace hO := hO.mv hM8; replace hL := hL.mv hM8; replace hK := hK.mv hM8; replace hb2 := hb2.mv hM8; replace hb5 := hb5.mv hM8; replace ho := ho.mv hM8; replace hE := hE.mv hM8; replace hc20 := hc20.mv hM8; replace hc27 := hc27.mv hM8; replace hf2 := hf2.mv hM8; replace hb7 := hb7.mv hM8
   refine ve (Eff.appendC sl22 rfl rfl ho (Src.cellsAt Try.underlying22 hb33.blk.cellsAt rfl ones) mxl oms) ?_
   rintro v34 w9 ⟨c9, hM9, hOq⟩
   clear hb33
   replace hO := hO.mv hM9; replace hL := hL.mv hM9; replace hK := hK.mv hM9; replace hb2 := hb2.mv hM9; replace hb5 := hb5.mv hM9; replace hE := hE.mv hM9; replace hc20 := hc20.mv hM9; replace hc27 := hc27.mv hM9; replace hf2 := hf2.mv hM9; replace hb7 := hb7.mv hM9
   replace ho := hOq
   have q6 := ho.oneC; have q7 := ho.cellsV
   refine vq (Val.fieldAddr fld24_2 rfl) ?_
   refine WR.eff_ (Eff.storeC scl22 rfl rfl ra ra hb5 rfl) ?_
   rintro _ w10 ⟨hS, hM10⟩
   replace hO := hO.mv hM10; replace hL := hL.mv hM10; replace hK := hK.mv hM10; replace hb2 := hb2.mv hM10; replace ho := ho.mv hM10; replace hE := hE.mv hM10; replace hc20 := hc20.mv hM10; replace hc27 := hc27.mv hM10; replace hf2 := hf2.mv hM10; replace hb7 := hb7.mv hM10
   replace hb5 := hS
   refine cnil <| cg <| zm rfl <| vq (Val.addI rfl rfl side side) <| za rfl <| cnil ?_
   have hE2 := hE.snoc hf2
   refine ⟨s ++ [{ L[s.length] with act := Ks[s.length % Ks.length] }], by rw [List.length_append]; exact subs, ⟨by rw [List.length_append]; exact hi', _, _, _, hO, hL, hK, hb2, hb5, ?_, hE2⟩, by rw [List.length_append]; simp; omega⟩
   rw [List.length_append, List.flatten_append]
   simpa using ho
  ·try simp only [tstS] at hc4
   refine WC.exit rfl ?_
   refine cseq ?_
   have hR9 : RdC actS _ _ [0, 7] yq s := OwnC.rd ho (by omega) hE.len rfl fun k cs x h1 h2 => (hE.each k cs x h1 h2).more rfl
   refine cg <| vq (Val.loadBN agg24 rfl hb5.blk rfl) ?_
   refine ve (Eff.pureC cl 1 (Eff.call pf4 rfl (arrayExact_ok hR9.now hd64 hs64))) ?_
   rintro v37 w11 ⟨c11, hM11, hx11, rfl⟩
   replace hO := hO.mv hM11; replace hL := hL.mv hM11; replace hK := hK.mv hM11; replace hb2 := hb2.mv hM11; replace hb5 := hb5.mv hM11; replace ho := ho.mv hM11; replace hE := hE.mv hM11
   refine za rfl <| cnil ?_
   refine WC.ret1 rfl rfl ?_
   exact ⟨hO.below, rfl⟩
theorem kinds_ok {c : Nat → Nat} {w : World} {b i n : Nat} {Ks : List Int} {cs : List Value} (h : BlkC c w i b cs 3) (e : cs = Ks.flatMap fun x => [I x]) (hn : Ks.length = n) (hs : Ks.length ≤ 1000) (ho' : Ks.all (fun x => decide (0 ≤ x) && decide (x ≤ 100)) = true) : Rd intS w (.slice (some ⟨b, 0, none⟩) n n) Ks := by
  have ho : ∀ x ∈ Ks, Go.Eng.Int64 x := fun x hx => by
    have := List.all_eq_true.1 ho' x hx
    simp at this
    exact ⟨by omega, by omega⟩
  have hfl : ∀ l : List Int, (l.flatMap fun x => [I x]).length = l.length := fun l => by induction l with
    | nil => rfl
    | cons a r ih => rw [List.flatMap_cons, List.length_append, ih]; simp; omega
  have hl : cs.length = n * 1 := by rw [e, ← hn, hfl]; omega
  have h2 := h.own (n := n) (size := 1) hl (by omega)
  subst hn
  rw [e] at h2
  exact (h2.rdFlat (by omega) ho : RdC intS _ _ [i] _ Ks).now
theorem arrayWrites_ok {w : World} {disks sectors : Int} {vL : Value} {L : List Act10} (h0 : Rd actS w vL L) (hbig : L.length * 72 ≤ 140737488355328) (hd64 : Go.Eng.Int64 disks) (hs64 : Go.Eng.Int64 sectors) : Calls Try.prog 5 #[.agg #[I disks, I sectors, vL]] w (Ret fun v w' => Below w.heap.size w w' ∧ v = .bool true) := by
  obtain ⟨c, hO, hc⟩ := OldC.start w
  have hL : RdC actS c w [0] vL L := Rd.toC h0 (fun k hk => by simp [hc, hasC])
  have q1 := h0.oneC
  clear hc h0
  refine enter (n := 6) (res := #[.tmp 2]) Try.func5 rfl rfl rfl rfl ?_
  refine cseq <| cg ?_
  refine ve (Eff.boxC c 101 rfl) ?_
  rintro _ w1 ⟨b1, c1, rfl, hM1, hb1⟩
  replace hO := hO.mv hM1; replace hL := hL.mv hM1
  refine za rfl <| cnil <| cseq <| cg <| vq (Val.loadBN agg24 rfl hb1.blk rfl) ?_
  refine ve (Eff.buildC c1 104 sl32 rfl rfl rfl (by simp [Value.cells]) rfl rfl) ?_
  rintro _ w2 ⟨b4, c2, rfl, hM2, hb4⟩
  replace hO := hO.mv hM2; replace hL := hL.mv hM2; replace hb1 := hb1.mv hM2
  refine ve (Eff.pureC c2 1 (Eff.call pf26 rfl (only10_ok hL.now (kinds_ok (Ks := [0, 3, 3, 7, 0, 9, 3, 10]) hb4 rfl rfl (by decide) (by decide)) (by decide) hbig hd64 hs64))) ?_
  rintro v5 w3 ⟨c3, hM3, hx3, rfl⟩
  replace hO := hO.mv hM3; replace hL := hL.mv hM3; replace hb1 := hb1.mv hM3; replace hb4 := hb4.mv hM3
  refine za rfl <| cnil ?_
  refine WC.ret1 rfl rfl ?_
  exact ⟨hO.below, rfl⟩
theorem arrayCrashes_ok {w : World} {disks sectors : Int} {vL : Value} {L : List Act10} (h0 : Rd actS w vL L) (hbig : L.length * 72 ≤ 140737488355328) (hd64 : Go.Eng.Int64 disks) (hs64 : Go.Eng.Int64 sectors) : Calls Try.prog 6 #[.agg #[I disks, I sectors, vL]] w (Ret fun v w' => Below w.heap.size w w' ∧ v = .bool true) := by
  obtain ⟨c, hO, hc⟩ := OldC.start w
  have hL : RdC actS c w [0] vL L := Rd.toC h0 (fun k hk => by simp [hc, hasC])
  have q1 := h0.oneC
  clear hc h0
  refine enter (n := 6) (res := #[.tmp 2]) Try.func6 rfl rfl rfl rfl ?_
  refine cseq <| cg ?_
  refine ve (Eff.boxC c 101 rfl) ?_
  rintro _ w1 ⟨b1, c1, rfl, hM1, hb1⟩
  replace hO := hO.mv hM1; replace hL := hL.mv hM1
  refine za rfl <| cnil <| cseq <| cg <| vq (Val.loadBN agg24 rfl hb1.blk rfl) ?_
  refine ve (Eff.buildC c1 104 sl32 rfl rfl rfl (by simp [Value.cells]) rfl rfl) ?_
  rintro _ w2 ⟨b4, c2, rfl, hM2, hb4⟩
  replace hO := hO.mv hM2; replace hL := hL.mv hM2; replace hb1 := hb1.mv hM2
  refine ve (Eff.pureC c2 1 (Eff.call pf26 rfl (only10_ok hL.now (kinds_ok (Ks := [3, 9, 3, 10, 0, 11, 9, 7]) hb4 rfl rfl (by decide) (by decide)) (by decide) hbig hd64 hs64))) ?_
  rintro v5 w3 ⟨c3, hM3, hx3, rfl⟩
  replace hO := hO.mv hM3; replace hL := hL.mv hM3; replace hb1 := hb1.mv hM3; replace hb4 := hb4.mv hM3
  refine za rfl <| cnil ?_
  refine WC.ret1 rfl rfl ?_
  exact ⟨hO.below, rfl⟩
theorem arrayFaults_ok {w : World} {disks sectors : Int} {vL : Value} {L : List Act10} (h0 : Rd actS w vL L) (hbig : L.length * 72 ≤ 140737488355328) (hd64 : Go.Eng.Int64 disks) (hs64 : Go.Eng.Int64 sectors) : Calls Try.prog 7 #[.agg #[I disks, I sectors, vL]] w (Ret fun v w' => Below w.heap.size w w' ∧ v = .bool true) := by
  obtain ⟨c, hO, hc⟩ := OldC.start w
  have hL : RdC actS c w [0] vL L := Rd.toC h0 (fun k hk => by simp [hc, hasC])
  have q1 := h0.oneC
  clear hc h0
  refine enter (n := 6) (res := #[.tmp 2]) Try.func7 rfl rfl rfl rfl ?_
  refine cseq <| cg ?_
  refine ve (Eff.boxC c 101 rfl) ?_
  rintro _ w1 ⟨b1, c1, rfl, hM1, hb1⟩
  replace hO := hO.mv hM1; replace hL := hL.mv hM1
  refine za rfl <| cnil <| cseq <| cg <| vq (Val.loadBN agg24 rfl hb1.blk rfl) ?_
  refine ve (Eff.buildC c1 104 sl32 rfl rfl rfl (by simp [Value.cells]) rfl rfl) ?_
  rintro _ w2 ⟨b4, c2, rfl, hM2, hb4⟩
  replace hO := hO.mv hM2; replace hL := hL.mv hM2; replace hb1 := hb1.mv hM2
  refine ve (Eff.pureC c2 1 (Eff.call pf26 rfl (only10_ok hL.now (kinds_ok (Ks := [3, 7, 12, 0, 13, 3, 14, 0]) hb4 rfl rfl (by decide) (by decide)) (by decide) hbig hd64 hs64))) ?_
  rintro v5 w3 ⟨c3, hM3, hx3, rfl⟩
  replace hO := hO.mv hM3; replace hL := hL.mv hM3; replace hb1 := hb1.mv hM3; replace hb4 := hb4.mv hM3
  refine za rfl <| cnil ?_
  refine WC.ret1 rfl rfl ?_
  exact ⟨hO.below, rfl⟩
end Go.Proofs.Ytjddnaefmikccaa
