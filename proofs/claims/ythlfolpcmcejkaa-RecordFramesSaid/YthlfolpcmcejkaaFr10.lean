/- The law on frames. No condition. -/
import Derived.Test.YthlfolpcmcejkaaFr9
import Derived.Test.YthlfolpcmcejkaaRec13
set_option linter.unusedSimpArgs false
set_option linter.unusedVariables false
set_option maxRecDepth 100000
namespace Silo
open Go Go.Eng
theorem ints4 (N : List Int) : ([I 0, I 1073741824, I 1073741825, I (-1)] : List Value) ++ N.flatMap (fun x => [I x]) = (0 :: 1073741824 :: 1073741825 :: -1 :: N).flatMap fun x => [I x] := rfl
end Silo
namespace Go.Proofs.Ythlfolpcmcejkaa
open Go Go.Eng Go.RowKit Silo TryT
theorem own_four {c : Nat → Nat} {w : World} {v : Value} {S : List (List UInt8)} {x1 x2 x3 x4 : List UInt8} (h : OwnC c w 3 9 1 v (S.length + 4) (S.flatMap (fun x => [St x]) ++ [St x1, St x2, St x3, St x4])) : OwnC c w 3 9 1 v (S ++ [x1, x2, x3, x4]).length ((S ++ [x1, x2, x3, x4]).flatMap fun x => [St x]) := by
  rw [List.length_append, List.flatMap_append]; exact h
theorem own_one {c : Nat → Nat} {w : World} {v : Value} {S : List (List UInt8)} {x1 : List UInt8} (h : OwnC c w 3 9 1 v (S.length + 1) (S.flatMap (fun x => [St x]) ++ [St x1])) : OwnC c w 3 9 1 v (S ++ [x1]).length ((S ++ [x1]).flatMap fun x => [St x]) := by
  rw [List.length_append, List.flatMap_append]; exact h

theorem own_ints4 {c : Nat → Nat} {w : World} {v : Value} {N : List Int} (h : OwnC c w 8 TI 1 v (4 + N.length) (([I 0, I 1073741824, I 1073741825, I (-1)] : List Value) ++ N.flatMap fun x => [I x])) : OwnC c w 8 TI 1 v (0 :: 1073741824 :: 1073741825 :: -1 :: N : List Int).length ((0 :: 1073741824 :: 1073741825 :: -1 :: N : List Int).flatMap fun x => [I x]) := by
  rw [ints4, Nat.add_comm] at h; exact h
theorem own_raw {c : Nat → Nat} {w : World} {v : Value} {L : List Raw6} {css : List (List Value)} {n : Nat} (hL : L.map (·.1) = css) (hl : L.length = n) (h : OwnC c w 7 TX 6 v n css.flatten) : OwnC c w 7 TX 6 v L.length (L.flatMap (·.1)) := by
  rw [List.flatMap_def, hL, hl]; exact h
set_option maxHeartbeats 2000000 in
theorem recordFrames_ok {w : World} {vR vS vN : Value} {R : List Rec} {S : List (List UInt8)} {N : List Int} (h0 : Rd recS w vR R) (h2 : Rd strS w vS S) (h3 : Rd intS w vN N) :
    Calls Try.prog 12 #[.agg #[vR, vS, vN]] w (Ret fun v w' => Below w.heap.size w w' ∧ v = .bool true) := by
  have o1 := h0.oneC
  have o2 := h2.oneC
  have o3 := h3.oneC
  have hsm := h0.small
  have hokN := h3.okFlat
  have x1 := h0.cellsV; have x2 := h2.cellsV; have x3 := h3.cellsV
  obtain ⟨c, hO, hc⟩ := OldC.start w
  have h1 : RdC recS c w [0] vR R := Rd.toC h0 (fun k hk => by simp [hc, hasC])
  replace h2 : RdC strS c w [0] vS S := Rd.toC h2 (fun k hk => by simp [hc, hasC])
  replace h3 : RdC intS c w [0] vN N := Rd.toC h3 (fun k hk => by simp [hc, hasC])
  clear hc h0
  refine enter (n := 174) (res := #[.tmp 2]) Try.func12 rfl rfl rfl rfl ?_
  refine cseq <| cg ?_
  refine ve (Eff.boxC c 101 rfl) ?_
  rintro _ w1 ⟨b1, c1, rfl, hM1, hb1⟩
  replace hO := hO.mv hM1; replace h1 := h1.mv hM1; replace h2 := h2.mv hM1; replace h3 := h3.mv hM1
  refine za rfl <| cnil <| cseq <| cseq <| cg <| vq (Val.loadBN agg26 rfl hb1.blk rfl) ?_
  refine ve (Eff.pureC c1 1 (Eff.call pf14 rfl (heavy_ok h1.now h2.now h3.now))) ?_
  rintro v21 w2 ⟨c2, hM2, hx2, rfl⟩
  replace hO := hO.mv hM2; replace h1 := h1.mv hM2; replace h2 := h2.mv hM2; replace h3 := h3.mv hM2; replace hb1 := hb1.mv hM2
  refine cnil ?_
  refine WC.cond rfl (fun hc1 => ?_) (fun hc1 => ?_)
  ·try simp only [tstS] at hc1
   refine cseq <| cg <| za rfl <| cnil ?_
   refine WC.ret1 rfl rfl ?_
   exact ⟨hO.below, rfl⟩
  ·try simp only [tstS] at hc1
   obtain ⟨⟨hw1, hw2⟩, hw3⟩ := hc1
   have hR := stopSum_small (R.map recW) R.length (by omega)
   have hSs := stopSum_small (S.map List.length) S.length (by omega)
   rw [hR] at hw1; rw [hSs] at hw2
   refine cskip <| cseq <| cg <| za rfl <| cnil <| cseq <| cseq <| cg <| vq (Val.fieldAddr fld26_2 rfl) ?_
   refine vq (Val.loadB scl24 rfl hb1.blk rfl) ?_
   first | refine vq (Val.rdlen sl24 (by assumption) rfl) ?_ | refine vq (Val.sllen Try.underlying24 rfl) ?_ | refine vq (Val.olen sl24 (by assumption) rfl) ?_ | refine vq (Val.rdlenC sl24 (by assumption) rfl) ?_
   refine vq (Val.gtr rfl rfl) <| cnil ?_
   refine WC.mono (N := (fun e w' => ∃ c' f, Sub [(4000000, .tuple #[]), (1, .pointer (some ⟨b1, 0, none⟩)), (3, I f)] e ∧ OldC w c' w' ∧ RdC recS c' w' [0] vR R ∧ RdC strS c' w' [0] vS S ∧ RdC intS c' w' [0] vN N ∧ BlkC c' w' 101 b1 [vR, vS, vN] 26 ∧ 0 ≤ f ∧ f ≤ 1073741804)) ?_ ?_
   ·refine WC.cond rfl (fun hc4 => ?_) (fun hc4 => ?_)
    ·try simp only [tstS] at hc4
     have hN0 : 0 < N.length := by omega
     obtain ⟨hc28, _⟩ := RdC.elFlat h3 hN0 (by decide)
     refine cg <| vq (Val.fieldAddr fld26_2 rfl) <| vq (Val.loadB scl24 rfl hb1.blk rfl) ?_
     first | refine vq (Val.indexAddr sl24 (by assumption) rfl rfl rfl side side) ?_ | refine vq (Val.indexC sl24 (by assumption) rfl rfl side side) ?_ | refine vq (Val.indexO sl24 (by assumption) rfl rfl side side) ?_
     refine vq (Val.loadE1 scl3 rfl hc28.cel) ?_
     refine ve (Eff.pureC c2 1 (Eff.call pf27 rfl (within_ok N[0] 1073741804 (hokN _ (List.getElem_mem hN0)) (by decide) (by decide)))) ?_
     rintro v30 w3 ⟨c3, hM3, hx3, rfl⟩
     replace hO := hO.mv hM3; replace h1 := h1.mv hM3; replace h2 := h2.mv hM3; replace h3 := h3.mv hM3; replace hb1 := hb1.mv hM3; replace hc28 := hc28.mv hM3
     have hwl := within_lo N[0] 1073741804 (by decide)
     have hwh := within_hi N[0] 1073741804 (by decide)
     refine za rfl <| cnil ?_
     exact ⟨_, _, subs, hO, h1, h2, h3, hb1, hwl, by omega⟩
    ·try simp only [tstS] at hc4
     refine cskip ?_
     exact ⟨_, 0, subs, hO, h1, h2, h3, hb1, by omega, by omega⟩
   ·skip
    rintro e9 w9 ⟨c9, f, hsub, hO, h1, h2, h3, hb1, hf0, hf1⟩
    refine WC.sub hsub ?_
    clear hsub e9
    refine cseq <| cg <| vq (Val.loadBN agg26 rfl hb1.blk rfl) <| zm rfl ?_
    refine ve (Eff.pureC c9 1 (Eff.call pf28 rfl (lframes_ok h1.now h2.now h3.now hf0 (by omega)))) ?_
    rintro v33 w4 ⟨c4, hM4, hx4, ⟨rfl, hsl⟩⟩
    replace hO := hO.mv hM4; replace h1 := h1.mv hM4; replace h2 := h2.mv hM4; replace h3 := h3.mv hM4; replace hb1 := hb1.mv hM4
    obtain ⟨s, hs⟩ : ∃ s, s = framesOf (R.take 8) f := ⟨_, rfl⟩
    rw [← hs] at hsl ⊢
    refine za rfl <| cnil <| cseq ?_
    refine WC.mono (N := (fun e w' => ∃ (c' : Nat → Nat) (vt : Value) (texts : List (List UInt8)), Sub [(4000000, .tuple #[]), (1, .pointer (some ⟨b1, 0, none⟩)), (4, St s), (5, vt)] e ∧ OldC w c' w' ∧ RdC recS c' w' [0] vR R ∧ RdC intS c' w' [0] vN N ∧ BlkC c' w' 101 b1 [vR, vS, vN] 26 ∧ OwnC c' w' 3 9 1 vt texts.length (texts.flatMap fun x => [St x]) ∧ (∀ x ∈ texts, x.length ≤ 1000000) ∧ texts.length ≤ 4010)) ?_ ?_
    ·refine WC.regionT (Kp c4 w4 [3]) [0, 1, 2, 0, 0, 0, 0, 0, 0, 0, 0, 0, 0, 0, 0, 0, 0, 2, 2, 0] (.quiet 0 (.quiet 1 (.quiet 3 (.quiet 4 (.quiet 5 (.quiet 6 (.quiet 7 (.quiet 8 (.quiet 9 (.quiet 10 (.quiet 11 (.quiet 12 (.quiet 13 (.quiet 14 (.quiet 15 (.quiet 16 (.two 2 (.one 17 (.one 18 (.quiet 19 .nil))) 17 (.one 2 (.one 18 (.quiet 19 .nil)))))))))))))))))))) mixed (by kernel_rfl) ?_
     have hM5 := Mv.drew c4 w4 []
     have hCw := Mv.drew c4 w4 [3]
     generalize w4.drew = w5 at hM5 hCw ⊢
     have hb10 := hb1
     replace hO := hO.mv hM5; replace h1 := h1.mv hM5; replace h2 := h2.mv hM5; replace h3 := h3.mv hM5; replace hb1 := hb1.mv hM5
     refine WT.val rfl rfl rfl (fun _ => Val.fieldAddr fld26_1 rfl) rfl ?_
     refine WT.valC rfl rfl rfl hCw.kp (fun W hW => Val.loadB scl23 rfl (hb10.kp hW rfl).blk rfl) rfl ?_
     refine WT.val rfl rfl rfl (fun _ => Val.move rfl) rfl ?_
     refine WT.val rfl rfl rfl (fun _ => Val.move rfl) rfl ?_
     refine WT.val rfl rfl rfl (fun _ => Val.move rfl) rfl ?_
     refine WT.val rfl rfl rfl (fun _ => Val.sadd rfl rfl side) rfl ?_
     refine WT.val rfl rfl rfl (fun _ => Val.move rfl) rfl ?_
     refine WT.val rfl rfl rfl (fun _ => Val.sadd rfl rfl side) rfl ?_
     refine WT.val rfl rfl rfl (fun _ => Val.move rfl) rfl ?_
     refine WT.val rfl rfl rfl (fun _ => Val.move rfl) rfl ?_
     refine WT.val rfl rfl rfl (fun _ => Val.slen Try.underlying9 rfl) rfl ?_
     refine WT.val rfl rfl rfl (fun _ => Val.move rfl) rfl ?_
     refine WT.val rfl rfl rfl (fun _ => Val.slen Try.underlying9 rfl) rfl ?_
     refine WT.val rfl rfl rfl (fun _ => Val.quoI rfl rfl side side side) rfl ?_
     refine WT.val rfl rfl rfl (fun _ => Val.subI rfl rfl side side) rfl ?_
     refine WT.val rfl rfl rfl (fun _ => Val.ssliceTo Try.underlying9 rfl rfl side side) rfl ?_
     refine WT.two ?_ ?_
     ·refine WS.eff rfl rfl rfl (Eff.pureC c4 3 (Eff.call pf15 rfl (copyStrings_ok h2.now (by omega)))) rfl ?_
      rintro v36 w6 ⟨c6, hM6, hx6, hoT⟩
      refine ⟨fun hC => hC.step hCw hM6 rfl, ?_⟩
      replace hCw := hCw.tr hM6 rfl
      replace hO := hO.mv hM6; replace h1 := h1.mv hM6; replace h2 := h2.mv hM6; replace h3 := h3.mv hM6; replace hb1 := hb1.mv hM6
      replace hoT := hoT.toC hx6
      refine WT.one ?_
      refine WS.eff rfl rfl rfl (Eff.buildC c6 151 sl23 rfl rfl rfl (by simp [Value.cells]) rfl rfl) rfl ?_
      rintro _ w7 ⟨b51, c7, rfl, hM7, hb51⟩
      refine ⟨fun hC => hC.step hCw hM7 rfl, ?_⟩
      replace hCw := hCw.tr hM7 rfl
      replace hO := hO.mv hM7; replace h1 := h1.mv hM7; replace h2 := h2.mv hM7; replace h3 := h3.mv hM7; replace hb1 := hb1.mv hM7; replace hoT := hoT.mv hM7
      refine WT.one ?_
      refine WS.eff rfl rfl rfl (Eff.appendC sl23 rfl rfl hoT (Src.cellsAt Try.underlying23 hb51.blk.cellsAt rfl ones) mxl oms) rfl ?_
      rintro v52 w8 ⟨c8, hM8, hOq⟩
      refine ⟨fun hC => hC.step hCw hM8 rfl, ?_⟩
      replace hCw := hCw.tr hM8 rfl
      clear hb51
      replace hO := hO.mv hM8; replace h1 := h1.mv hM8; replace h2 := h2.mv hM8; replace h3 := h3.mv hM8; replace hb1 := hb1.mv hM8
      replace hoT := hOq
      refine WT.val rfl rfl rfl (fun _ => Val.assign rfl) rfl ?_
      refine WT.nil ?_
      refine ⟨_, _, _, subs, hO, h1, h3, hb1, own_four hoT, fun x hx => ?_, by rw [List.length_append]; simp; omega⟩
      rcases List.mem_append.1 hx with h | h
      · have := sum_mem_le List.length h; omega
      · simp only [List.mem_cons, List.not_mem_nil, or_false] at h
        rcases h with rfl | rfl | rfl | rfl
        · omega
        · rw [List.length_append]; omega
        · rw [List.length_append]; simp; omega
        · rw [List.length_take]; omega
     ·refine WS.eff rfl rfl rfl (Eff.buildC c4 151 sl23 rfl rfl rfl (by simp [Value.cells]) rfl rfl) rfl ?_
      rintro _ w9 ⟨b51, c9, rfl, hM9, hb51⟩
      refine ⟨fun hC => hC.step hCw hM9 rfl, ?_⟩
      replace hCw := hCw.tr hM9 rfl
      replace hO := hO.mv hM9; replace h1 := h1.mv hM9; replace h2 := h2.mv hM9; replace h3 := h3.mv hM9; replace hb1 := hb1.mv hM9
      refine WT.one ?_
      refine WS.eff rfl rfl rfl (Eff.pureC c9 3 (Eff.call pf15 rfl (copyStrings_ok h2.now (by omega)))) rfl ?_
      rintro v36 w10 ⟨c10, hM10, hx10, hoT⟩
      refine ⟨fun hC => hC.step hCw hM10 rfl, ?_⟩
      replace hCw := hCw.tr hM10 rfl
      replace hO := hO.mv hM10; replace h1 := h1.mv hM10; replace h2 := h2.mv hM10; replace h3 := h3.mv hM10; replace hb1 := hb1.mv hM10; replace hb51 := hb51.mv hM10
      replace hoT := hoT.toC hx10
      refine WT.one ?_
      refine WS.eff rfl rfl rfl (Eff.appendC sl23 rfl rfl hoT (Src.cellsAt Try.underlying23 hb51.blk.cellsAt rfl ones) mxl oms) rfl ?_
      rintro v52 w11 ⟨c11, hM11, hOq⟩
      refine ⟨fun hC => hC.step hCw hM11 rfl, ?_⟩
      replace hCw := hCw.tr hM11 rfl
      clear hb51
      replace hO := hO.mv hM11; replace h1 := h1.mv hM11; replace h2 := h2.mv hM11; replace h3 := h3.mv hM11; replace hb1 := hb1.mv hM11
      replace hoT := hOq
      refine WT.val rfl rfl rfl (fun _ => Val.assign rfl) rfl ?_
      refine WT.nil ?_
      refine ⟨_, _, _, subs, hO, h1, h3, hb1, own_four hoT, fun x hx => ?_, by rw [List.length_append]; simp; omega⟩
      rcases List.mem_append.1 hx with h | h
      · have := sum_mem_le List.length h; omega
      · simp only [List.mem_cons, List.not_mem_nil, or_false] at h
        rcases h with rfl | rfl | rfl | rfl
        · omega
        · rw [List.length_append]; omega
        · rw [List.length_append]; simp; omega
        · rw [List.length_take]; omega
    ·skip
     rintro e9 w9 ⟨c9, vt, texts, hsub, hO, h1, h3, hb1, hoT, htx, htl⟩
     refine WC.sub hsub ?_
     clear hsub e9
     refine cseq <| cseq <| cg <| za rfl <| cnil <| cblock ?_
     refine WC.loop (σ := Nat × Value × List (List UInt8)) (fun st => [(1, .pointer (some ⟨b1, 0, none⟩)), (4, St s), (5, st.2.1), (6, I st.1)]) (fun st w' => ∃ c', OldC w c' w' ∧ RdC recS c' w' [0] vR R ∧ RdC intS c' w' [0] vN N ∧ BlkC c' w' 101 b1 [vR, vS, vN] 26 ∧ OwnC c' w' 3 9 1 st.2.1 st.2.2.length (st.2.2.flatMap fun x => [St x]) ∧ (∀ x ∈ st.2.2, x.length ≤ 1000000) ∧ st.2.2.length ≤ 4010 + 8 * st.1 ∧ st.1 ≤ R.length ∧ st.1 ≤ 8) (fun st => R.length - st.1) (0, vt, texts) subs ⟨_, hO, h1, h3, hb1, hoT, htx, by simpa using htl, by simp, by simp⟩ ?_
     clear hO h1 h3 hb1 hoT htx htl
     rintro ⟨i, vt, texts⟩ wl ⟨cl, hO, h1, h3, hb1, hoT, htx, htl, hi, hi8⟩
     dsimp only at hoT htx htl hi hi8 ⊢
     refine cseq <| cseq <| cg <| zm rfl <| vq (Val.fieldAddr fld26_0 rfl) <| vq (Val.loadB scl22 rfl hb1.blk rfl) ?_
     first | refine vq (Val.rdlen sl22 (by assumption) rfl) ?_ | refine vq (Val.sllen Try.underlying22 rfl) ?_ | refine vq (Val.olen sl22 (by assumption) rfl) ?_ | refine vq (Val.rdlenC sl22 (by assumption) rfl) ?_
     refine vq (Val.lss rfl rfl) <| zm rfl ?_
     apply WR.sc true 2 _ (fun w' => wl = w')
     case hl | hg | hu | hv | hs | hoff | hd => rfl
     case hF => exact fun _ => rfl
     case hT =>
      intro hq8
      try simp only [tstS] at hq8
      simp only [List.take_succ_cons, List.take_zero]
      refine WR.on rfl rfl ?_
      refine zm rfl ?_
      refine WR.on rfl rfl ?_
      refine vq (Val.lss rfl rfl) ?_
      exact WR.nil ⟨rfl, Sub.drop _ 2 _ rfl rfl, rfl⟩
     rintro _ rfl
     refine cnil ?_
     refine WC.cond rfl (fun hc9 => ?_) (fun hc9 => ?_)
     ·try simp only [tstS] at hc9
      obtain ⟨hi1, hi2⟩ := hc9
      have ka : i < R.length := by omega
      obtain ⟨cs1, hc82, _, hrd⟩ := RdC.el h1 ka (by decide)
      obtain ⟨vl1, vs1, rfl, _⟩ := id hrd.now
      refine cskip <| cseq <| cblock <| cseq <| cg ?_
      refine ve (Eff.buildC cl 8 sl24 rfl rfl rfl (by simp [Value.cells]) rfl rfl) ?_
      rintro _ w12 ⟨b64, c12, rfl, hM12, hb64⟩
      replace hO := hO.mv hM12; replace h1 := h1.mv hM12; replace h3 := h3.mv hM12; replace hb1 := hb1.mv hM12; replace hoT := hoT.mv hM12; replace hc82 := hc82.mv hM12; replace hrd := hrd.mv hM12
      have ho64 := BlkC.own (n := 4) (size := 1) hb64 rfl (by decide)
      refine vq (Val.fieldAddr fld26_2 rfl) <| vq (Val.loadB scl24 rfl hb1.blk rfl) ?_
      refine ve (Eff.appendC sl24 rfl rfl ho64 (Src.flat Try.underlying24 h3.now) mxl oms) ?_
      rintro v67 w13 ⟨c13, hM13, hOq⟩
      replace hO := hO.mv hM13; replace h1 := h1.mv hM13; replace h3 := h3.mv hM13; replace hb1 := hb1.mv hM13; replace hoT := hoT.mv hM13; replace hc82 := hc82.mv hM13; replace hrd := hrd.mv hM13
      replace ho64 := hOq
      have ho64b := own_ints4 ho64
      have hokM : ∀ x ∈ (0 :: 1073741824 :: 1073741825 :: -1 :: N : List Int), Go.Eng.Int64 x := by
        intro x hx
        simp only [List.mem_cons] at hx
        rcases hx with rfl | rfl | rfl | rfl | hx
        · exact ⟨by omega, by omega⟩
        · exact ⟨by omega, by omega⟩
        · exact ⟨by omega, by omega⟩
        · exact ⟨by omega, by omega⟩
        · exact hokN x hx
      have hML : (0 :: 1073741824 :: 1073741825 :: -1 :: N : List Int).length ≤ 104 := by simp; omega
      generalize (0 :: 1073741824 :: 1073741825 :: -1 :: N : List Int) = M at ho64b hokM hML
      have hX : RdC intS _ _ [8] v67 M := ho64b.rdFlat (by omega) hokM
      refine za rfl <| cnil <| cseq <| cg <| za rfl <| cnil <| cblock ?_
      refine WC.loop (σ := Nat × Value × List (List UInt8)) (fun st => [(1, .pointer (some ⟨b1, 0, none⟩)), (4, St s), (5, st.2.1), (6, I i), (7, v67), (8, I st.1)]) (fun st w' => ∃ c', OldC w c' w' ∧ RdC recS c' w' [0] vR R ∧ RdC intS c' w' [0] vN N ∧ BlkC c' w' 101 b1 [vR, vS, vN] 26 ∧ CelC c' w' [0] (elemA vR recS.size i) [I R[i].kind, I R[i].id, St R[i].name, St R[i].digest, vl1, vs1] ∧ FtC (fun w' => recS.rd w'.heap.size w' [I R[i].kind, I R[i].id, St R[i].name, St R[i].digest, vl1, vs1] R[i]) c' w' [0] ∧ RdC intS c' w' [8] v67 M ∧ OwnC c' w' 3 9 1 st.2.1 st.2.2.length (st.2.2.flatMap fun x => [St x]) ∧ (∀ x ∈ st.2.2, x.length ≤ 1000000) ∧ st.2.2.length ≤ 4010 + 8 * i + st.1 ∧ st.1 ≤ M.length ∧ st.1 ≤ 8) (fun st => M.length - st.1) (0, vt, texts) subs ⟨_, hO, h1, h3, hb1, hc82, hrd, hX, hoT, htx, by simpa using htl, by simp, by simp⟩ ?_
      clear hO h1 h3 hb1 hc82 hrd hX hoT htx htl
      rintro ⟨k, vt, texts⟩ wj ⟨cj, hO, h1, h3, hb1, hc82, hrd, hX, hoT, htx, htl, hk, hk8⟩
      dsimp only at hoT htx htl hk hk8 ⊢
      refine cseq <| cseq <| cg <| zm rfl <| zm rfl ?_
      first | refine vq (Val.rdlen sl24 (by assumption) rfl) ?_ | refine vq (Val.sllen Try.underlying24 rfl) ?_ | refine vq (Val.olen sl24 (by assumption) rfl) ?_ | refine vq (Val.rdlenC sl24 (by assumption) rfl) ?_
      refine vq (Val.lss rfl rfl) <| zm rfl ?_
      apply WR.sc true 2 _ (fun w' => wj = w')
      case hl | hg | hu | hv | hs | hoff | hd => rfl
      case hF => exact fun _ => rfl
      case hT =>
       intro hq7
       try simp only [tstS] at hq7
       simp only [List.take_succ_cons, List.take_zero]
       refine WR.on rfl rfl ?_
       refine zm rfl ?_
       refine WR.on rfl rfl ?_
       refine vq (Val.lss rfl rfl) ?_
       exact WR.nil ⟨rfl, Sub.drop _ 2 _ rfl rfl, rfl⟩
      rintro _ rfl
      refine cnil ?_
      refine WC.cond rfl (fun hc13 => ?_) (fun hc13 => ?_)
      ·try simp only [tstS] at hc13
       obtain ⟨hk1, hk2⟩ := hc13
       have kk : k < M.length := by omega
       obtain ⟨hc86, _⟩ := RdC.elFlat hX kk (by decide)
       have hc94 := hc82; have hc107 := hc82; have hc100 := hc86; have hc111 := hc86
       refine cskip <| cseq <| cblock <| cseq ?_
       refine WC.regionD (Kp cj wj []) [0, 1, 0, 0, 1, 0, 0, 0, 1, 2, 0, 0, 0, 0, 0] [0, 1, 2, 3, 4, 5, 6, 7, 8, 9, 10, 11, 12, 13, 14] mixed (by kernel_rfl) ?_
       have hM14 := Mv.drew cj wj []
       have hCw := Mv.drew cj wj []
       generalize wj.drew = w14 at hM14 hCw ⊢
       have hb10 := hb1
       have hc820 := hc82
       have hc860 := hc86
       have hc940 := hc94
       have hc1070 := hc107
       have hc1000 := hc100
       have hc1110 := hc111
       replace hO := hO.mv hM14; replace h1 := h1.mv hM14; replace h3 := h3.mv hM14; replace hb1 := hb1.mv hM14; replace hc82 := hc82.mv hM14; replace hrd := hrd.mv hM14; replace hX := hX.mv hM14; replace hoT := hoT.mv hM14; replace hc86 := hc86.mv hM14; replace hc94 := hc94.mv hM14; replace hc107 := hc107.mv hM14; replace hc100 := hc100.mv hM14; replace hc111 := hc111.mv hM14
       refine vd rfl (fun _ => Val.fieldAddr fld26_0 rfl) <| vc rfl hCw.kp (fun W hW => Val.loadB scl22 rfl (hb10.kp hW rfl).blk rfl) <| zdm rfl rfl ?_
       first | refine vd rfl (fun _ => Val.indexAddr sl22 (by assumption) rfl rfl rfl side side) ?_ | refine vd rfl (fun _ => Val.indexC sl22 (by assumption) rfl rfl side side) ?_ | refine vd rfl (fun _ => Val.indexO sl22 (by assumption) rfl rfl side side) ?_
       refine vc rfl hCw.kp (fun W hW => Val.loadE agg31 rfl (hc820.kp hW rfl).cel rfl) <| zdm rfl rfl <| zdm rfl rfl ?_
       first | refine vd rfl (fun _ => Val.indexAddr sl24 (by assumption) rfl rfl rfl side side) ?_ | refine vd rfl (fun _ => Val.indexC sl24 (by assumption) rfl rfl side side) ?_ | refine vd rfl (fun _ => Val.indexO sl24 (by assumption) rfl rfl side side) ?_
       refine vc rfl hCw.kp (fun W hW => Val.loadE1 scl3 rfl (hc860.kp hW rfl).cel) ?_
       refine WD.eff rfl rfl rfl (Eff.pureC cj 1 (Eff.call pf29 rfl (rframe_ok hrd.now))) rfl ?_
       rintro v88 w15 ⟨c15, hM15, hx15, rfl⟩
       refine ⟨fun hC => hC.step hCw hM15 rfl, ?_⟩
       replace hCw := hCw.tr hM15 rfl
       replace hO := hO.mv hM15; replace h1 := h1.mv hM15; replace h3 := h3.mv hM15; replace hb1 := hb1.mv hM15; replace hc82 := hc82.mv hM15; replace hrd := hrd.mv hM15; replace hX := hX.mv hM15; replace hoT := hoT.mv hM15; replace hc86 := hc86.mv hM15; replace hc94 := hc94.mv hM15; replace hc107 := hc107.mv hM15; replace hc100 := hc100.mv hM15; replace hc111 := hc111.mv hM15
       refine zdm rfl rfl <| vd rfl (fun _ => Val.extract rfl rfl) <| vd rfl (fun _ => Val.extract rfl rfl) <| zda rfl rfl <| zda rfl rfl ?_
       refine WD.nil ?_
       clear hb10 hc820 hc860 hc940 hc1070 hc1000 hc1110
       clear hCw
       refine cseq <| cg <| za rfl <| za rfl <| cnil <| cseq <| cseq <| cg <| vq (Val.fieldAddr fld26_0 rfl) ?_
       refine vq (Val.loadB scl22 rfl hb1.blk rfl) <| zm rfl ?_
       first | refine vq (Val.indexAddr sl22 (by assumption) rfl rfl rfl side side) ?_ | refine vq (Val.indexC sl22 (by assumption) rfl rfl side side) ?_ | refine vq (Val.indexO sl22 (by assumption) rfl rfl side side) ?_
       refine vq (Val.loadE agg31 rfl hc94.cel rfl) ?_
       refine ve (Eff.pureC c15 1 (Eff.call pf17 rfl (record_ok hrd.now))) ?_
       rintro v96 w16 ⟨c16, hM16, hx16, rfl⟩
       replace hO := hO.mv hM16; replace h1 := h1.mv hM16; replace h3 := h3.mv hM16; replace hb1 := hb1.mv hM16; replace hc82 := hc82.mv hM16; replace hrd := hrd.mv hM16; replace hX := hX.mv hM16; replace hoT := hoT.mv hM16; replace hc86 := hc86.mv hM16; replace hc94 := hc94.mv hM16; replace hc107 := hc107.mv hM16; replace hc100 := hc100.mv hM16; replace hc111 := hc111.mv hM16
       refine zm rfl ?_
       apply WR.sc true 5 (decide (0 ≤ M[k]) && decide (M[k] ≤ 1073741824)) (fun w' => ∃ c', Acc c16 w16 [] c' w')
       case hl | hg | hu | hv | hs | hoff | hd => rfl
       case hF => exact fun _ => ⟨_, Acc.refl _ _ _⟩
       case hT =>
        intro hq12
        try simp only [tstS] at hq12
        simp only [List.take_succ_cons, List.take_zero]
        have hKsc12 := Acc.refl c16 w16 []
        refine WR.on rfl rfl ?_
        refine zm rfl ?_
        refine WR.on rfl rfl ?_
        refine zm rfl ?_
        refine WR.on rfl rfl ?_
        first | refine vq (Val.indexAddr sl24 (by assumption) rfl rfl rfl side side) ?_ | refine vq (Val.indexC sl24 (by assumption) rfl rfl side side) ?_ | refine vq (Val.indexO sl24 (by assumption) rfl rfl side side) ?_
        refine WR.on rfl rfl ?_
        refine vq (Val.loadE1 scl3 rfl hc100.cel) ?_
        refine WR.on rfl rfl ?_
        refine ve (Eff.pureC c16 1 (Eff.call pf30 rfl (num_ok M[k] 1073741824))) ?_
        rintro v102 w17 ⟨c17, hM17, hx17, rfl⟩
        replace hO := hO.mv hM17; replace h1 := h1.mv hM17; replace h3 := h3.mv hM17; replace hb1 := hb1.mv hM17; replace hc82 := hc82.mv hM17; replace hrd := hrd.mv hM17; replace hX := hX.mv hM17; replace hoT := hoT.mv hM17; replace hc86 := hc86.mv hM17; replace hc94 := hc94.mv hM17; replace hc107 := hc107.mv hM17; replace hc100 := hc100.mv hM17; replace hc111 := hc111.mv hM17; replace hKsc12 := hKsc12.mv hM17
        exact WR.nil ⟨rfl, Sub.drop _ 5 _ rfl rfl, _, hKsc12⟩
       rintro w18 ⟨c18, ⟨hM18⟩⟩
       replace hO := hO.mv hM18; replace h1 := h1.mv hM18; replace h3 := h3.mv hM18; replace hb1 := hb1.mv hM18; replace hc82 := hc82.mv hM18; replace hrd := hrd.mv hM18; replace hX := hX.mv hM18; replace hoT := hoT.mv hM18; replace hc86 := hc86.mv hM18; replace hc94 := hc94.mv hM18; replace hc107 := hc107.mv hM18; replace hc100 := hc100.mv hM18; replace hc111 := hc111.mv hM18
       refine cnil ?_
       refine WC.cond rfl (fun hc17 => ?_) (fun hc17 => ?_)
       ·try simp only [tstS] at hc17
        have hmn : (mayB R[i] && numB M[k]) = true := by simpa [numB] using hc17
        have hmb : mayB R[i] = true := by simp at hmn; exact hmn.1
        have hfl := frameS_small hmb M[k]
        rw [if_pos hmn, if_pos hmn]
        refine cseq ?_
        refine WC.regionD (Kp c18 w18 []) [0, 1, 0, 0, 1, 0, 0, 0, 1, 2, 0, 0] [0, 1, 2, 3, 4, 5, 6, 7, 8, 9, 10, 11] mixed (by kernel_rfl) ?_
        have hM19 := Mv.drew c18 w18 []
        have hCw := Mv.drew c18 w18 []
        generalize w18.drew = w19 at hM19 hCw ⊢
        have hb10 := hb1
        have hc820 := hc82
        have hc860 := hc86
        have hc940 := hc94
        have hc1070 := hc107
        have hc1000 := hc100
        have hc1110 := hc111
        replace hO := hO.mv hM19; replace h1 := h1.mv hM19; replace h3 := h3.mv hM19; replace hb1 := hb1.mv hM19; replace hc82 := hc82.mv hM19; replace hrd := hrd.mv hM19; replace hX := hX.mv hM19; replace hoT := hoT.mv hM19; replace hc86 := hc86.mv hM19; replace hc94 := hc94.mv hM19; replace hc107 := hc107.mv hM19; replace hc100 := hc100.mv hM19; replace hc111 := hc111.mv hM19
        refine vd rfl (fun _ => Val.fieldAddr fld26_0 rfl) <| vc rfl hCw.kp (fun W hW => Val.loadB scl22 rfl (hb10.kp hW rfl).blk rfl) <| zdm rfl rfl ?_
        first | refine vd rfl (fun _ => Val.indexAddr sl22 (by assumption) rfl rfl rfl side side) ?_ | refine vd rfl (fun _ => Val.indexC sl22 (by assumption) rfl rfl side side) ?_ | refine vd rfl (fun _ => Val.indexO sl22 (by assumption) rfl rfl side side) ?_
        refine vc rfl hCw.kp (fun W hW => Val.loadE agg31 rfl (hc1070.kp hW rfl).cel rfl) <| zdm rfl rfl <| zdm rfl rfl ?_
        first | refine vd rfl (fun _ => Val.indexAddr sl24 (by assumption) rfl rfl rfl side side) ?_ | refine vd rfl (fun _ => Val.indexC sl24 (by assumption) rfl rfl side side) ?_ | refine vd rfl (fun _ => Val.indexO sl24 (by assumption) rfl rfl side side) ?_
        refine vc rfl hCw.kp (fun W hW => Val.loadE1 scl3 rfl (hc1110.kp hW rfl).cel) ?_
        refine WD.eff rfl rfl rfl (Eff.pureC c18 1 (Eff.call pf31 rfl (qframe_ok (n := M[k]) hrd.now hmb))) rfl ?_
        rintro v113 w20 ⟨c20, hM20, hx20, rfl⟩
        refine ⟨fun hC => hC.step hCw hM20 rfl, ?_⟩
        replace hCw := hCw.tr hM20 rfl
        replace hO := hO.mv hM20; replace h1 := h1.mv hM20; replace h3 := h3.mv hM20; replace hb1 := hb1.mv hM20; replace hc82 := hc82.mv hM20; replace hrd := hrd.mv hM20; replace hX := hX.mv hM20; replace hoT := hoT.mv hM20; replace hc86 := hc86.mv hM20; replace hc94 := hc94.mv hM20; replace hc107 := hc107.mv hM20; replace hc100 := hc100.mv hM20; replace hc111 := hc111.mv hM20
        refine zda rfl rfl <| zda rfl rfl ?_
        refine WD.nil ?_
        clear hb10 hc820 hc860 hc940 hc1070 hc1000 hc1110
        clear hCw
        refine cg <| zm rfl <| zm rfl <| zm rfl <| vq (Val.sadd rfl rfl side) ?_
        refine ve (Eff.build1C c20 218 sl23 rfl rfl rfl rfl rfl) ?_
        rintro _ w21 ⟨b118, c21, rfl, hM21, hb118⟩
        replace hO := hO.mv hM21; replace h1 := h1.mv hM21; replace h3 := h3.mv hM21; replace hb1 := hb1.mv hM21; replace hc82 := hc82.mv hM21; replace hrd := hrd.mv hM21; replace hX := hX.mv hM21; replace hoT := hoT.mv hM21; replace hc86 := hc86.mv hM21; replace hc94 := hc94.mv hM21; replace hc107 := hc107.mv hM21; replace hc100 := hc100.mv hM21; replace hc111 := hc111.mv hM21
        refine ve (Eff.appendC sl23 rfl rfl hoT (Src.cellsAt Try.underlying23 hb118.blk.cellsAt rfl ones) mxl oms) ?_
        rintro v119 w22 ⟨c22, hM22, hOq⟩
        clear hb118
        replace hO := hO.mv hM22; replace h1 := h1.mv hM22; replace h3 := h3.mv hM22; replace hb1 := hb1.mv hM22; replace hc82 := hc82.mv hM22; replace hrd := hrd.mv hM22; replace hX := hX.mv hM22; replace hc86 := hc86.mv hM22; replace hc94 := hc94.mv hM22; replace hc107 := hc107.mv hM22; replace hc100 := hc100.mv hM22; replace hc111 := hc111.mv hM22
        replace hoT := hOq
        have hoT2 := own_one hoT
        refine za rfl <| cnil <| cseq <| cg <| zm rfl ?_
        refine ve (Eff.pureC c22 1 (Eff.call pf20 rfl (errnum_ok _))) ?_
        rintro v121 w23 ⟨c23, hM23, hx23, rfl⟩
        replace hO := hO.mv hM23; replace h1 := h1.mv hM23; replace h3 := h3.mv hM23; replace hb1 := hb1.mv hM23; replace hc82 := hc82.mv hM23; replace hrd := hrd.mv hM23; replace hX := hX.mv hM23; replace hc86 := hc86.mv hM23; replace hc94 := hc94.mv hM23; replace hc107 := hc107.mv hM23; replace hc100 := hc100.mv hM23; replace hc111 := hc111.mv hM23; replace hoT2 := hoT2.mv hM23
        refine zm rfl <| vq (Val.neq rfl rfl) <| zm rfl ?_
        apply WR.sc false 3 _ (fun w' => w23 = w')
        case hl | hg | hu | hv | hs | hoff | hd => rfl
        case hF => exact fun _ => rfl
        case hT =>
         intro hq8
         try simp only [tstS] at hq8
         simp only [List.take_succ_cons, List.take_zero]
         refine WR.on rfl rfl ?_
         refine zm rfl ?_
         refine WR.on rfl rfl ?_
         refine zm rfl ?_
         refine WR.on rfl rfl ?_
         refine vq (Val.sne rfl rfl) ?_
         exact WR.nil ⟨rfl, Sub.drop _ 3 _ rfl rfl, rfl⟩
        rintro _ rfl
        refine cnil ?_
        refine WC.cond rfl (fun hc20 => ?_) (fun hc20 => ?_)
        ·exfalso; simp at hc20
        ·try simp only [tstS] at hc20
         refine cskip <| cg <| zm rfl <| vq (Val.addI rfl rfl side side) <| za rfl <| cnil ?_
         first
         | exact ⟨(k + 1, _, texts ++ [frameS R[i] M[k] ++ s]), subs, ⟨_, hO, h1, h3, hb1, hc82, hrd, hX, hoT2, fun x hx => (List.mem_append.1 hx).elim (htx x) (fun h => by simp only [List.mem_singleton] at h; subst h; rw [List.length_append]; omega), by dsimp only; rw [List.length_append]; simp only [List.length_singleton]; omega, by dsimp only; omega, by dsimp only; omega⟩, by dsimp only; omega⟩
         | exact ⟨(k + 1, vt, texts), subs, ⟨_, hO, h1, h3, hb1, hc82, hrd, hX, hoT, htx, by dsimp only; omega, by dsimp only; omega, by dsimp only; omega⟩, by dsimp only; omega⟩
       ·try simp only [tstS] at hc17
        have hmn : (mayB R[i] && numB M[k]) = false := by simpa [numB] using hc17
        rw [hmn, if_neg (by decide), if_neg (by decide)]
        refine cskip <| cseq <| cg <| zm rfl ?_
        refine ve (Eff.pureC c18 1 (Eff.call pf20 rfl (errnum_ok _))) ?_
        rintro v121 w24 ⟨c24, hM24, hx24, rfl⟩
        replace hO := hO.mv hM24; replace h1 := h1.mv hM24; replace h3 := h3.mv hM24; replace hb1 := hb1.mv hM24; replace hc82 := hc82.mv hM24; replace hrd := hrd.mv hM24; replace hX := hX.mv hM24; replace hoT := hoT.mv hM24; replace hc86 := hc86.mv hM24; replace hc94 := hc94.mv hM24; replace hc107 := hc107.mv hM24; replace hc100 := hc100.mv hM24; replace hc111 := hc111.mv hM24
        refine zm rfl <| vq (Val.neq rfl rfl) <| zm rfl ?_
        apply WR.sc false 3 _ (fun w' => w24 = w')
        case hl | hg | hu | hv | hs | hoff | hd => rfl
        case hF => exact fun _ => rfl
        case hT =>
         intro hq8
         try simp only [tstS] at hq8
         simp only [List.take_succ_cons, List.take_zero]
         refine WR.on rfl rfl ?_
         refine zm rfl ?_
         refine WR.on rfl rfl ?_
         refine zm rfl ?_
         refine WR.on rfl rfl ?_
         refine vq (Val.sne rfl rfl) ?_
         exact WR.nil ⟨rfl, Sub.drop _ 3 _ rfl rfl, rfl⟩
        rintro _ rfl
        refine cnil ?_
        refine WC.cond rfl (fun hc20 => ?_) (fun hc20 => ?_)
        ·exfalso; simp at hc20
        ·try simp only [tstS] at hc20
         refine cskip <| cg <| zm rfl <| vq (Val.addI rfl rfl side side) <| za rfl <| cnil ?_
         first
         | exact ⟨(k + 1, _, texts ++ [frameS R[i] M[k] ++ s]), subs, ⟨_, hO, h1, h3, hb1, hc82, hrd, hX, hoT2, fun x hx => (List.mem_append.1 hx).elim (htx x) (fun h => by simp only [List.mem_singleton] at h; subst h; rw [List.length_append]; omega), by dsimp only; rw [List.length_append]; simp only [List.length_singleton]; omega, by dsimp only; omega, by dsimp only; omega⟩, by dsimp only; omega⟩
         | exact ⟨(k + 1, vt, texts), subs, ⟨_, hO, h1, h3, hb1, hc82, hrd, hX, hoT, htx, by dsimp only; omega, by dsimp only; omega, by dsimp only; omega⟩, by dsimp only; omega⟩
      ·try simp only [tstS] at hc13
       refine WC.exit rfl ?_
       refine cg <| zm rfl <| vq (Val.addI rfl rfl side side) <| za rfl <| cnil ?_
       exact ⟨(i + 1, vt, texts), subs, ⟨_, hO, h1, h3, hb1, hoT, htx, by dsimp only; omega, by dsimp only; omega, by dsimp only; omega⟩, by dsimp only; omega⟩
     ·try simp only [tstS] at hc9
      have hX : RdC strS cl wl [3] vt texts := hoT.rdFlat (by omega) (fun x hx => by have := htx x hx; omega)
      refine WC.exit rfl ?_
      refine cseq <| cseq <| cg <| za rfl <| cnil <| cblock ?_
      refine WC.loop (σ := Nat) (fun j => [(5, vt), (13, I j)]) (fun j w' => ∃ c', OldC w c' w' ∧ RdC strS c' w' [3] vt texts ∧ j ≤ texts.length ∧ j ≤ 30) (fun j => texts.length - j) 0 subs ⟨_, hO, hX, by omega, by omega⟩ ?_
      clear hO h1 h3 hb1 hX
      rintro j wj ⟨cj, hO, hX, hj, hj30⟩
      refine cseq <| cseq <| cg <| zm rfl <| zm rfl ?_
      first | refine vq (Val.rdlen sl23 (by assumption) rfl) ?_ | refine vq (Val.sllen Try.underlying23 rfl) ?_ | refine vq (Val.olen sl23 (by assumption) rfl) ?_ | refine vq (Val.rdlenC sl23 (by assumption) rfl) ?_
      refine vq (Val.lss rfl rfl) <| zm rfl ?_
      apply WR.sc true 2 _ (fun w' => wj = w')
      case hl | hg | hu | hv | hs | hoff | hd => rfl
      case hF => exact fun _ => rfl
      case hT =>
       intro hq7
       try simp only [tstS] at hq7
       simp only [List.take_succ_cons, List.take_zero]
       refine WR.on rfl rfl ?_
       refine zm rfl ?_
       refine WR.on rfl rfl ?_
       refine vq (Val.lss rfl rfl) ?_
       exact WR.nil ⟨rfl, Sub.drop _ 2 _ rfl rfl, rfl⟩
      rintro _ rfl
      refine cnil ?_
      refine WC.cond rfl (fun hc23 => ?_) (fun hc23 => ?_)
      ·try simp only [tstS] at hc23
       obtain ⟨hj1, hj2⟩ := hc23
       have kj : j < texts.length := by omega
       obtain ⟨hc142, _⟩ := RdC.elFlat hX kj (by decide)
       have hc151 := hc142
       have hxl : texts[j].length ≤ 1073741824 := by have := htx _ (List.getElem_mem kj); omega
       have hfn := framesS_len texts[j]
       refine cskip <| cseq <| cblock <| cseq <| cg <| zm rfl <| zm rfl ?_
       first | refine vq (Val.indexAddr sl23 (by assumption) rfl rfl rfl side side) ?_ | refine vq (Val.indexC sl23 (by assumption) rfl rfl side side) ?_ | refine vq (Val.indexO sl23 (by assumption) rfl rfl side side) ?_
       refine vq (Val.loadE1 scl9 rfl hc142.cel) ?_
       refine ve (Eff.call pf32 rfl (frames_c (c := cj) (s := texts[j]) hxl)) ?_
       rintro v144 w25 ⟨c25, hM25, ⟨vl, css, rfl, hoL, hE⟩⟩
       replace hO := hO.mv hM25; replace hX := hX.mv hM25; replace hc142 := hc142.mv hM25; replace hc151 := hc151.mv hM25
       refine zm rfl <| vq (Val.extract rfl rfl) <| vq (Val.extract rfl rfl) <| vq (Val.extract rfl rfl) <| za rfl <| za rfl <| za rfl <| cnil <| cseq ?_
       refine cg <| zm rfl <| zm rfl ?_
       first | refine vq (Val.indexAddr sl23 (by assumption) rfl rfl rfl side side) ?_ | refine vq (Val.indexC sl23 (by assumption) rfl rfl side side) ?_ | refine vq (Val.indexO sl23 (by assumption) rfl rfl side side) ?_
       refine vq (Val.loadE1 scl9 rfl hc151.cel) ?_
       refine ve (Eff.call pf33 rfl (qframes_c (c := c25) (s := texts[j]) hxl)) ?_
       rintro v153 w26 ⟨c26, hM26, ⟨vpg, rfl, hq⟩⟩
       replace hO := hO.mv hM26; replace hX := hX.mv hM26; replace hc142 := hc142.mv hM26; replace hc151 := hc151.mv hM26; replace hoL := hoL.mv hM26; replace hE := hE.mv hM26
       refine zm rfl <| vq (Val.extract rfl rfl) <| vq (Val.extract rfl rfl) <| vq (Val.extract rfl rfl) <| za rfl <| za rfl <| za rfl <| cnil <| cseq ?_
       refine cseq <| cg <| zm rfl <| zm rfl ?_
       refine ve (Eff.pureC c26 1 (Eff.call pf34 rfl (eqRecords_ok (EachO.rdC hoL hE (by omega)).now hq.now))) ?_
       rintro v159 w27 ⟨c27, hM27, hx27, rfl⟩
       replace hO := hO.mv hM27; replace hX := hX.mv hM27; replace hc142 := hc142.mv hM27; replace hc151 := hc151.mv hM27; replace hoL := hoL.mv hM27; replace hE := hE.mv hM27; replace hq := hq.mv hM27
       rw [decide_eq_true rfl]
       refine vq (Val.not rfl) <| zm rfl ?_
       apply WR.sc false 3 _ (fun w' => w27 = w')
       case hl | hg | hu | hv | hs | hoff | hd => rfl
       case hF => exact fun _ => rfl
       case hT =>
        intro hq8
        try simp only [tstS] at hq8
        simp only [List.take_succ_cons, List.take_zero]
        refine WR.on rfl rfl ?_
        refine zm rfl ?_
        refine WR.on rfl rfl ?_
        refine zm rfl ?_
        refine WR.on rfl rfl ?_
        refine vq (Val.neq rfl rfl) ?_
        exact WR.nil ⟨rfl, Sub.drop _ 3 _ rfl rfl, rfl⟩
       rintro _ rfl
       refine zm rfl ?_
       apply WR.sc false 3 _ (fun w' => w27 = w')
       case hl | hg | hu | hv | hs | hoff | hd => rfl
       case hF => exact fun _ => rfl
       case hT =>
        intro hq13
        try simp only [tstS] at hq13
        simp only [List.take_succ_cons, List.take_zero]
        refine WR.on rfl rfl ?_
        refine zm rfl ?_
        refine WR.on rfl rfl ?_
        refine zm rfl ?_
        refine WR.on rfl rfl ?_
        refine vq (Val.neq rfl rfl) ?_
        exact WR.nil ⟨rfl, Sub.drop _ 3 _ rfl rfl, rfl⟩
       rintro _ rfl
       refine cnil ?_
       refine WC.cond rfl (fun hc27 => ?_) (fun hc27 => ?_)
       ·exfalso; simp at hc27
       ·try simp only [tstS] at hc27
        obtain ⟨L, hL, hLl, hr⟩ := hE.raw
        have hoL2 := own_raw hL hLl hoL
        refine cskip <| cg <| zm rfl ?_
        refine ve (Eff.call pf35 rfl (spoilR_ok hoL2 hr (by omega))) ?_
        rintro v172 w28 ⟨c28, hM28, _⟩
        replace hO := hO.mv hM28; replace hX := hX.mv hM28
        refine cnil <| cg <| zm rfl <| vq (Val.addI rfl rfl side side) <| za rfl <| cnil ?_
        exact ⟨j + 1, subs, ⟨_, hO, hX, by omega, by omega⟩, by omega⟩
      ·try simp only [tstS] at hc23
       refine WC.exit rfl ?_
       refine cseq <| cg ?_
       refine ve (Eff.pureC cj 1 (Eff.call pf25 rfl (wakes_ok))) ?_
       rintro v173 w29 ⟨c29, hM29, hx29, rfl⟩
       replace hO := hO.mv hM29; replace hX := hX.mv hM29
       refine za rfl <| cnil ?_
       refine WC.ret1 rfl rfl ?_
       exact ⟨hO.below, rfl⟩
end Go.Proofs.Ythlfolpcmcejkaa
