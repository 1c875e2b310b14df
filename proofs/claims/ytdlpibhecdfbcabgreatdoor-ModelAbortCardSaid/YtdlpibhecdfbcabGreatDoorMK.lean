/- The model: laws on top. No condition. -/
import Derived.Test.YtdlpibhecdfbcabGreatDoorM6
set_option linter.unusedSimpArgs false
set_option linter.unusedVariables false
set_option maxRecDepth 100000
namespace Silo
open Go Go.Eng
def OpOk (o : MOp) : Prop := (Go.Eng.Int64 o.kind ∧ Go.Eng.Int64 o.id ∧ Go.Eng.Int64 o.n ∧ Go.Eng.Int64 o.m) ∧ o.name.length ≤ 140737488355328 ∧ o.digest.length ≤ 140737488355328 ∧ o.text.length ≤ 140737488355328
theorem opOk_kind {o : MOp} (h : OpOk o) {k : Int} (hk : Go.Eng.Int64 k) : OpOk ⟨k, o.id, o.n, o.m, o.name, o.digest, o.text⟩ := ⟨⟨hk, h.1.2⟩, h.2⟩
end Silo
namespace Go.Eng
open Go Go.RowKit Silo
theorem BlkC.intsM {c : Nat → Nat} {w : World} {i b : Nat} {l : List Int} {e : TypeId} (h : BlkC c w i b (l.flatMap fun x => [I x]) e) (hok : ∀ x ∈ l, Go.Eng.Int64 x) (hl : l.length ≤ 100) : RdC intS c w [i] (.slice (some ⟨b, 0, none⟩) l.length l.length) l := by
  have h1 := h.own (n := l.length) (size := 1) (by rw [flatMap_len (n := 1) (fun _ => rfl)]) (by omega)
  exact h1.rdFlat (by omega) hok
end Go.Eng
namespace Go.Proofs.YtdlpibhecdfbcabGreatDoor
open Go Go.Eng Go.RowKit Silo TryzT
set_option maxHeartbeats 2000000 in
theorem each_ok {w : World} {vT vG vS vO : Value} {S : Sta} {O : List MOp} (h1 : Rd thgS w vT S.things) (h2 : Rd tgS w vG S.tags) (h3 : Rd sesS w vS S.sessions) (h4 : Rd opS w vO O) (hn : Go.Eng.Int64 S.next) (hL : O.length * 80 ≤ 140737488351232) {k : Int} (hk : Go.Eng.Int64 k) : Calls Tryz.prog 10 #[.agg #[vT, vG, vS, I S.next, vO], I k] w (Ret fun v w' => Below w.heap.size w w' ∧ v = .bool true) := by
 obtain ⟨c, hOl, hc⟩ := OldC.start w
 have q1 := h1.oneC; have q2 := h2.oneC; have q3 := h3.oneC; have q4 := h4.oneC
 have k4 := h4.okFlat
 replace h1 : RdC thgS c w [0] vT S.things := Rd.toC h1 (fun k hk => by simp [hc, hasC])
 replace h2 : RdC tgS c w [0] vG S.tags := Rd.toC h2 (fun k hk => by simp [hc, hasC])
 replace h3 : RdC sesS c w [0] vS S.sessions := Rd.toC h3 (fun k hk => by simp [hc, hasC])
 replace h4 : RdC opS c w [0] vO O := Rd.toC h4 (fun k hk => by simp [hc, hasC])
 clear hc
 refine enter (n := 36) (res := #[.tmp 4]) Tryz.func10 rfl rfl rfl rfl <| cseq <| cg <| ve (Eff.boxC c 102 rfl) ?_
 rintro _ w1 ⟨b2, c1, rfl, hM1, hb2⟩
 replace hOl := hOl.mv hM1; replace h1 := h1.mv hM1; replace h2 := h2.mv hM1; replace h3 := h3.mv hM1; replace h4 := h4.mv hM1
 refine za rfl <| cnil <| cseq <| cg <| vq (Val.fieldAddr fld29_0 rfl) <| vq (Val.loadPre (ds := [vT, vG, vS, I S.next]) (r := [vO]) agg26 rfl hb2.blk rfl rfl) <| vq (Val.build (cells := #[vT, vG, vS, I S.next, .slice none 0 0]) rfl (by kernel_rfl)) ?_
 refine ve (Eff.allocC c1 105 zero29) ?_
 rintro _ w2 ⟨b5, c2, rfl, hM2, hb5⟩
 replace hOl := hOl.mv hM2; replace h1 := h1.mv hM2; replace h2 := h2.mv hM2; replace h3 := h3.mv hM2; replace h4 := h4.mv hM2; replace hb2 := hb2.mv hM2
 refine WR.eff_ (Eff.storeNC agg29 rfl rfl hb5 rfl rfl ones) ?_
 rintro _ w3 ⟨hS, hM3⟩
 replace hOl := hOl.mv hM3; replace h1 := h1.mv hM3; replace h2 := h2.mv hM3; replace h3 := h3.mv hM3; replace h4 := h4.mv hM3; replace hb2 := hb2.mv hM3
 replace hb5 := hS
 refine cnil <| cseq <| cseq <| cg <| za rfl <| cnil <| cblock <| WC.loop (σ := Nat) (fun i => [(1, I k), (2, .pointer (some ⟨b2, 0, none⟩)), (4, .bool false), (5, .pointer (some ⟨b5, 0, none⟩)), (6, I i)]) (fun i w' => ∃ c' vQ L, OldC w c' w' ∧ RdC thgS c' w' [0] vT S.things ∧ RdC tgS c' w' [0] vG S.tags ∧ RdC sesS c' w' [0] vS S.sessions ∧ RdC opS c' w' [0] vO O ∧ BlkC c' w' 102 b2 [vT, vG, vS, I S.next, vO] 29 ∧ BlkC c' w' 105 b5 [vT, vG, vS, I S.next, vQ] 29 ∧ OwnC c' w' 9 33 7 vQ L.length (L.flatMap encOp) ∧ L.length = i ∧ i ≤ O.length ∧ ∀ o ∈ L, OpOk o) (fun i => O.length - i) 0 subs ⟨_, _, [], hOl, h1, h2, h3, h4, hb2, hb5, OwnC.nil _ _ _ _ _, rfl, by omega, fun _ h => by cases h⟩ ?_
 clear hOl h1 h2 h3 h4 hb2 hb5
 rintro i wl ⟨cl, vQ, L, hOl, h1, h2, h3, h4, hb2, hb5, ho, hLi, hi, hLo⟩
 have p1 := ho.oneC
 refine cseq <| cseq <| cg <| zm rfl <| vq (Val.fieldAddr fld29_1 rfl) <| vq (Val.loadB scl27 rfl hb2.blk rfl) ?_
 first | refine vq (Val.rdlen sl27 (by assumption) rfl) ?_ | refine vq (Val.sllen Tryz.underlying27 rfl) ?_ | refine vq (Val.olen sl27 (by assumption) rfl) ?_ | refine vq (Val.rdlenC sl27 (by assumption) rfl) ?_
 refine vq (Val.lss rfl rfl) <| cnil <| WC.cond rfl (fun hc3 => ?_) (fun hc3 => ?_)
 ·try simp only [tstS] at hc3
  have ka : i < O.length := by omega
  obtain ⟨hc21, _⟩ := RdC.elFlat h4 ka (by decide)
  have hok := k4 _ (List.getElem_mem ka)
  refine cskip <| cseq <| cblock <| cseq <| cg <| vq (Val.fieldAddr fld29_1 rfl) <| vq (Val.loadB scl27 rfl hb2.blk rfl) <| zm rfl ?_
  first | refine vq (Val.indexAddr sl27 (by assumption) rfl rfl rfl side side) ?_ | refine vq (Val.indexC sl27 (by assumption) rfl rfl side side) ?_ | refine vq (Val.indexO sl27 (by assumption) rfl rfl side side) ?_
  refine vq (Val.loadE agg33 rfl hc21.cel rfl) <| ve (Eff.allocC cl 107 zero33) ?_
  rintro _ w4 ⟨b7, c4, rfl, hM4, hb7⟩
  replace hOl := hOl.mv hM4; replace h1 := h1.mv hM4; replace h2 := h2.mv hM4; replace h3 := h3.mv hM4; replace h4 := h4.mv hM4; replace hb2 := hb2.mv hM4; replace hb5 := hb5.mv hM4; replace ho := ho.mv hM4; replace hc21 := hc21.mv hM4
  refine WR.eff_ (Eff.storeNC agg33 rfl rfl hb7 rfl rfl ones) ?_
  rintro _ w5 ⟨hS, hM5⟩
  replace hOl := hOl.mv hM5; replace h1 := h1.mv hM5; replace h2 := h2.mv hM5; replace h3 := h3.mv hM5; replace h4 := h4.mv hM5; replace hb2 := hb2.mv hM5; replace hb5 := hb5.mv hM5; replace ho := ho.mv hM5; replace hc21 := hc21.mv hM5
  replace hb7 := hS
  refine cnil <| cseq <| cseq <| cg <| zm rfl <| vq (Val.and_i64 rfl rfl) <| vq (Val.eql rfl rfl) <| cnil <| WC.mono (N := (fun e w' => ∃ (c' : Nat → Nat) (o' : MOp), Sub [(4000000, .tuple #[]), (1, I k), (2, .pointer (some ⟨b2, 0, none⟩)), (4, .bool false), (5, .pointer (some ⟨b5, 0, none⟩)), (6, I i), (7, .pointer (some ⟨b7, 0, none⟩))] e ∧ OldC w c' w' ∧ RdC thgS c' w' [0] vT S.things ∧ RdC tgS c' w' [0] vG S.tags ∧ RdC sesS c' w' [0] vS S.sessions ∧ RdC opS c' w' [0] vO O ∧ BlkC c' w' 102 b2 [vT, vG, vS, I S.next, vO] 29 ∧ BlkC c' w' 105 b5 [vT, vG, vS, I S.next, vQ] 29 ∧ OwnC c' w' 9 33 7 vQ L.length (L.flatMap encOp) ∧ BlkC c' w' 107 b7 (encOp o') 33 ∧ OpOk o')) ?_ ?_
  ·refine WC.cond rfl (fun hc6 => ?_) (fun hc6 => ?_)
   ·try simp only [tstS] at hc6
    refine cg <| zm rfl <| vq (Val.fieldAddr fld33_0 rfl) <| WR.eff_ (Eff.storeC scl3 rfl rfl ra ra hb7 rfl) ?_
    rintro _ w6 ⟨hS, hM6⟩
    replace hOl := hOl.mv hM6; replace h1 := h1.mv hM6; replace h2 := h2.mv hM6; replace h3 := h3.mv hM6; replace h4 := h4.mv hM6; replace hb2 := hb2.mv hM6; replace hb5 := hb5.mv hM6; replace ho := ho.mv hM6
    replace hb7 := hS
    refine cnil ?_
    exact ⟨_, ⟨k, O[i].id, O[i].n, O[i].m, O[i].name, O[i].digest, O[i].text⟩, subs, hOl, h1, h2, h3, h4, hb2, hb5, ho, hb7, opOk_kind hok hk⟩
   try simp only [tstS] at hc6
   refine cskip ?_
   exact ⟨_, _, subs, hOl, h1, h2, h3, h4, hb2, hb5, ho, hb7, hok⟩
  clear hOl h1 h2 h3 h4 hb2 hb5 ho hb7 hc21
  rintro e8 w8 ⟨c8, o', hsub, hOl, h1, h2, h3, h4, hb2, hb5, ho, hb7, hok'⟩
  refine WC.sub hsub ?_
  clear hsub e8
  refine cg <| vq (Val.fieldAddr fld29_1 rfl) <| vq (Val.loadB scl27 rfl hb5.blk rfl) <| vq (Val.loadBN agg33 rfl hb7.blk rfl) <| ve (Eff.build1C c8 131 sl27 rfl rfl rfl rfl rfl) ?_
  rintro _ w7 ⟨b31, c7, rfl, hM7, hb31⟩
  replace hOl := hOl.mv hM7; replace h1 := h1.mv hM7; replace h2 := h2.mv hM7; replace h3 := h3.mv hM7; replace h4 := h4.mv hM7; replace hb2 := hb2.mv hM7; replace hb5 := hb5.mv hM7; replace ho := ho.mv hM7
  refine ve (Eff.appendC sl27 rfl rfl ho (Src.cellsAt Tryz.underlying27 hb31.blk.cellsAt rfl ones) mxl oms) ?_
  rintro v32 w8 ⟨c8, hM8, hOq⟩
  clear hb31
  replace hOl := hOl.mv hM8; replace h1 := h1.mv hM8; replace h2 := h2.mv hM8; replace h3 := h3.mv hM8; replace h4 := h4.mv hM8; replace hb2 := hb2.mv hM8; replace hb5 := hb5.mv hM8
  replace ho := hOq
  have p2 := ho.oneC; have p3 := ho.cellsV
  refine vq (Val.fieldAddr fld29_1 rfl) <| WR.eff_ (Eff.storeC scl27 rfl rfl ra ra hb5 rfl) ?_
  rintro _ w9 ⟨hS, hM9⟩
  replace hOl := hOl.mv hM9; replace h1 := h1.mv hM9; replace h2 := h2.mv hM9; replace h3 := h3.mv hM9; replace h4 := h4.mv hM9; replace hb2 := hb2.mv hM9; replace ho := ho.mv hM9
  replace hb5 := hS
  refine cnil <| cg <| zm rfl <| vq (Val.addI rfl rfl side side) <| za rfl <| cnil ?_
  exact ⟨i + 1, subs, ⟨_, _, L ++ [o'], hOl, h1, h2, h3, h4, hb2, hb5, by rw [List.flatMap_append, List.length_append]; exact ho, by rw [List.length_append, hLi]; rfl, ka, fun o hx => (List.mem_append.1 hx).elim (hLo o) (fun h => by rw [List.mem_singleton.1 h]; exact hok')⟩, by omega⟩
 try simp only [tstS] at hc3
 have hq : RdC opS cl wl [9] vQ L := ho.rdFlat (by omega) hLo
 refine WC.exit rfl <| cseq <| cg <| vq (Val.loadBN agg29 rfl hb5.blk rfl) <| ve (Eff.pureC cl 1 (Eff.call pf11 rfl (modelDoes_ok h1.now h2.now h3.now hq.now hn))) ?_
 rintro v35 w10 ⟨c10, hM10, hx10, rfl⟩
 replace hOl := hOl.mv hM10
 refine za rfl <| cnil <| WC.ret1 rfl rfl ?_
 exact ⟨hOl.below, rfl⟩
end Go.Proofs.YtdlpibhecdfbcabGreatDoor
namespace Go.Proofs.YtdlpibhecdfbcabGreatDoor
open Go Go.Eng Go.RowKit Silo TryzT
theorem modelDelete_ok {w : World} {vT vG vS vO : Value} {S : Sta} {O : List MOp} (h1 : Rd thgS w vT S.things) (h2 : Rd tgS w vG S.tags) (h3 : Rd sesS w vS S.sessions) (h4 : Rd opS w vO O) (hn : Go.Eng.Int64 S.next) (hL : O.length * 80 ≤ 140737488351232) : Calls Tryz.prog 3 #[.agg #[vT, vG, vS, I S.next, vO]] w (Ret fun v w' => Below w.heap.size w w' ∧ v = .bool true) := by
 obtain ⟨c, hOl, hc⟩ := OldC.start w
 have q1 := h1.oneC; have q2 := h2.oneC; have q3 := h3.oneC; have q4 := h4.oneC
 replace h1 : RdC thgS c w [0] vT S.things := Rd.toC h1 (fun k hk => by simp [hc, hasC])
 replace h2 : RdC tgS c w [0] vG S.tags := Rd.toC h2 (fun k hk => by simp [hc, hasC])
 replace h3 : RdC sesS c w [0] vS S.sessions := Rd.toC h3 (fun k hk => by simp [hc, hasC])
 replace h4 : RdC opS c w [0] vO O := Rd.toC h4 (fun k hk => by simp [hc, hasC])
 clear hc
 refine enter (n := 5) (res := #[.tmp 2]) Tryz.func3 rfl rfl rfl rfl <| cseq <| cg <| ve (Eff.boxC c 101 rfl) ?_
 rintro _ w1 ⟨b1, c1, rfl, m, hb1⟩
 replace hOl := hOl.mv m; replace h1 := h1.mv m; replace h2 := h2.mv m; replace h3 := h3.mv m; replace h4 := h4.mv m
 refine za rfl <| cnil <| cseq <| cg <| vq (Val.loadBN agg29 rfl hb1.blk rfl) <| ve (Eff.pureC c1 1 (Eff.call pf10 rfl (each_ok (k := 7) h1.now h2.now h3.now h4.now hn hL ⟨by decide, by decide⟩))) ?_
 rintro v4 w2 ⟨c2, m, hx2, rfl⟩
 replace hOl := hOl.mv m
 refine za rfl <| cnil <| WC.ret1 rfl rfl ?_
 exact ⟨hOl.below, rfl⟩
theorem modelManifest_ok {w : World} {vT vG vS vO : Value} {S : Sta} {O : List MOp} (h1 : Rd thgS w vT S.things) (h2 : Rd tgS w vG S.tags) (h3 : Rd sesS w vS S.sessions) (h4 : Rd opS w vO O) (hn : Go.Eng.Int64 S.next) (hL : O.length * 80 ≤ 140737488351232) : Calls Tryz.prog 4 #[.agg #[vT, vG, vS, I S.next, vO]] w (Ret fun v w' => Below w.heap.size w w' ∧ v = .bool true) := by
 obtain ⟨c, hOl, hc⟩ := OldC.start w
 have q1 := h1.oneC; have q2 := h2.oneC; have q3 := h3.oneC; have q4 := h4.oneC
 replace h1 : RdC thgS c w [0] vT S.things := Rd.toC h1 (fun k hk => by simp [hc, hasC])
 replace h2 : RdC tgS c w [0] vG S.tags := Rd.toC h2 (fun k hk => by simp [hc, hasC])
 replace h3 : RdC sesS c w [0] vS S.sessions := Rd.toC h3 (fun k hk => by simp [hc, hasC])
 replace h4 : RdC opS c w [0] vO O := Rd.toC h4 (fun k hk => by simp [hc, hasC])
 clear hc
 refine enter (n := 5) (res := #[.tmp 2]) Tryz.func4 rfl rfl rfl rfl <| cseq <| cg <| ve (Eff.boxC c 101 rfl) ?_
 rintro _ w1 ⟨b1, c1, rfl, m, hb1⟩
 replace hOl := hOl.mv m; replace h1 := h1.mv m; replace h2 := h2.mv m; replace h3 := h3.mv m; replace h4 := h4.mv m
 refine za rfl <| cnil <| cseq <| cg <| vq (Val.loadBN agg29 rfl hb1.blk rfl) <| ve (Eff.pureC c1 1 (Eff.call pf10 rfl (each_ok (k := 8) h1.now h2.now h3.now h4.now hn hL ⟨by decide, by decide⟩))) ?_
 rintro v4 w2 ⟨c2, m, hx2, rfl⟩
 replace hOl := hOl.mv m
 refine za rfl <| cnil <| WC.ret1 rfl rfl ?_
 exact ⟨hOl.below, rfl⟩
theorem modelTag_ok {w : World} {vT vG vS vO : Value} {S : Sta} {O : List MOp} (h1 : Rd thgS w vT S.things) (h2 : Rd tgS w vG S.tags) (h3 : Rd sesS w vS S.sessions) (h4 : Rd opS w vO O) (hn : Go.Eng.Int64 S.next) (hL : O.length * 80 ≤ 140737488351232) : Calls Tryz.prog 5 #[.agg #[vT, vG, vS, I S.next, vO]] w (Ret fun v w' => Below w.heap.size w w' ∧ v = .bool true) := by
 obtain ⟨c, hOl, hc⟩ := OldC.start w
 have q1 := h1.oneC; have q2 := h2.oneC; have q3 := h3.oneC; have q4 := h4.oneC
 replace h1 : RdC thgS c w [0] vT S.things := Rd.toC h1 (fun k hk => by simp [hc, hasC])
 replace h2 : RdC tgS c w [0] vG S.tags := Rd.toC h2 (fun k hk => by simp [hc, hasC])
 replace h3 : RdC sesS c w [0] vS S.sessions := Rd.toC h3 (fun k hk => by simp [hc, hasC])
 replace h4 : RdC opS c w [0] vO O := Rd.toC h4 (fun k hk => by simp [hc, hasC])
 clear hc
 refine enter (n := 5) (res := #[.tmp 2]) Tryz.func5 rfl rfl rfl rfl <| cseq <| cg <| ve (Eff.boxC c 101 rfl) ?_
 rintro _ w1 ⟨b1, c1, rfl, m, hb1⟩
 replace hOl := hOl.mv m; replace h1 := h1.mv m; replace h2 := h2.mv m; replace h3 := h3.mv m; replace h4 := h4.mv m
 refine za rfl <| cnil <| cseq <| cg <| vq (Val.loadBN agg29 rfl hb1.blk rfl) <| ve (Eff.pureC c1 1 (Eff.call pf10 rfl (each_ok (k := 9) h1.now h2.now h3.now h4.now hn hL ⟨by decide, by decide⟩))) ?_
 rintro v4 w2 ⟨c2, m, hx2, rfl⟩
 replace hOl := hOl.mv m
 refine za rfl <| cnil <| WC.ret1 rfl rfl ?_
 exact ⟨hOl.below, rfl⟩
theorem modelFind_ok {w : World} {vT vG vS vO : Value} {S : Sta} {O : List MOp} (h1 : Rd thgS w vT S.things) (h2 : Rd tgS w vG S.tags) (h3 : Rd sesS w vS S.sessions) (h4 : Rd opS w vO O) (hn : Go.Eng.Int64 S.next) (hL : O.length * 80 ≤ 140737488351232) : Calls Tryz.prog 6 #[.agg #[vT, vG, vS, I S.next, vO]] w (Ret fun v w' => Below w.heap.size w w' ∧ v = .bool true) := by
 obtain ⟨c, hOl, hc⟩ := OldC.start w
 have q1 := h1.oneC; have q2 := h2.oneC; have q3 := h3.oneC; have q4 := h4.oneC
 replace h1 : RdC thgS c w [0] vT S.things := Rd.toC h1 (fun k hk => by simp [hc, hasC])
 replace h2 : RdC tgS c w [0] vG S.tags := Rd.toC h2 (fun k hk => by simp [hc, hasC])
 replace h3 : RdC sesS c w [0] vS S.sessions := Rd.toC h3 (fun k hk => by simp [hc, hasC])
 replace h4 : RdC opS c w [0] vO O := Rd.toC h4 (fun k hk => by simp [hc, hasC])
 clear hc
 refine enter (n := 5) (res := #[.tmp 2]) Tryz.func6 rfl rfl rfl rfl <| cseq <| cg <| ve (Eff.boxC c 101 rfl) ?_
 rintro _ w1 ⟨b1, c1, rfl, m, hb1⟩
 replace hOl := hOl.mv m; replace h1 := h1.mv m; replace h2 := h2.mv m; replace h3 := h3.mv m; replace h4 := h4.mv m
 refine za rfl <| cnil <| cseq <| cg <| vq (Val.loadBN agg29 rfl hb1.blk rfl) <| ve (Eff.pureC c1 1 (Eff.call pf10 rfl (each_ok (k := 10) h1.now h2.now h3.now h4.now hn hL ⟨by decide, by decide⟩))) ?_
 rintro v4 w2 ⟨c2, m, hx2, rfl⟩
 replace hOl := hOl.mv m
 refine za rfl <| cnil <| WC.ret1 rfl rfl ?_
 exact ⟨hOl.below, rfl⟩
theorem modelUntag_ok {w : World} {vT vG vS vO : Value} {S : Sta} {O : List MOp} (h1 : Rd thgS w vT S.things) (h2 : Rd tgS w vG S.tags) (h3 : Rd sesS w vS S.sessions) (h4 : Rd opS w vO O) (hn : Go.Eng.Int64 S.next) (hL : O.length * 80 ≤ 140737488351232) : Calls Tryz.prog 7 #[.agg #[vT, vG, vS, I S.next, vO]] w (Ret fun v w' => Below w.heap.size w w' ∧ v = .bool true) := by
 obtain ⟨c, hOl, hc⟩ := OldC.start w
 have q1 := h1.oneC; have q2 := h2.oneC; have q3 := h3.oneC; have q4 := h4.oneC
 replace h1 : RdC thgS c w [0] vT S.things := Rd.toC h1 (fun k hk => by simp [hc, hasC])
 replace h2 : RdC tgS c w [0] vG S.tags := Rd.toC h2 (fun k hk => by simp [hc, hasC])
 replace h3 : RdC sesS c w [0] vS S.sessions := Rd.toC h3 (fun k hk => by simp [hc, hasC])
 replace h4 : RdC opS c w [0] vO O := Rd.toC h4 (fun k hk => by simp [hc, hasC])
 clear hc
 refine enter (n := 5) (res := #[.tmp 2]) Tryz.func7 rfl rfl rfl rfl <| cseq <| cg <| ve (Eff.boxC c 101 rfl) ?_
 rintro _ w1 ⟨b1, c1, rfl, m, hb1⟩
 replace hOl := hOl.mv m; replace h1 := h1.mv m; replace h2 := h2.mv m; replace h3 := h3.mv m; replace h4 := h4.mv m
 refine za rfl <| cnil <| cseq <| cg <| vq (Val.loadBN agg29 rfl hb1.blk rfl) <| ve (Eff.pureC c1 1 (Eff.call pf10 rfl (each_ok (k := 11) h1.now h2.now h3.now h4.now hn hL ⟨by decide, by decide⟩))) ?_
 rintro v4 w2 ⟨c2, m, hx2, rfl⟩
 replace hOl := hOl.mv m
 refine za rfl <| cnil <| WC.ret1 rfl rfl ?_
 exact ⟨hOl.below, rfl⟩
theorem modelSweep_ok {w : World} {vT vG vS vO : Value} {S : Sta} {O : List MOp} (h1 : Rd thgS w vT S.things) (h2 : Rd tgS w vG S.tags) (h3 : Rd sesS w vS S.sessions) (h4 : Rd opS w vO O) (hn : Go.Eng.Int64 S.next) (hL : O.length * 80 ≤ 140737488351232) : Calls Tryz.prog 8 #[.agg #[vT, vG, vS, I S.next, vO]] w (Ret fun v w' => Below w.heap.size w w' ∧ v = .bool true) := by
 obtain ⟨c, hOl, hc⟩ := OldC.start w
 have q1 := h1.oneC; have q2 := h2.oneC; have q3 := h3.oneC; have q4 := h4.oneC
 replace h1 : RdC thgS c w [0] vT S.things := Rd.toC h1 (fun k hk => by simp [hc, hasC])
 replace h2 : RdC tgS c w [0] vG S.tags := Rd.toC h2 (fun k hk => by simp [hc, hasC])
 replace h3 : RdC sesS c w [0] vS S.sessions := Rd.toC h3 (fun k hk => by simp [hc, hasC])
 replace h4 : RdC opS c w [0] vO O := Rd.toC h4 (fun k hk => by simp [hc, hasC])
 clear hc
 refine enter (n := 5) (res := #[.tmp 2]) Tryz.func8 rfl rfl rfl rfl <| cseq <| cg <| ve (Eff.boxC c 101 rfl) ?_
 rintro _ w1 ⟨b1, c1, rfl, m, hb1⟩
 replace hOl := hOl.mv m; replace h1 := h1.mv m; replace h2 := h2.mv m; replace h3 := h3.mv m; replace h4 := h4.mv m
 refine za rfl <| cnil <| cseq <| cg <| vq (Val.loadBN agg29 rfl hb1.blk rfl) <| ve (Eff.pureC c1 1 (Eff.call pf10 rfl (each_ok (k := 12) h1.now h2.now h3.now h4.now hn hL ⟨by decide, by decide⟩))) ?_
 rintro v4 w2 ⟨c2, m, hx2, rfl⟩
 replace hOl := hOl.mv m
 refine za rfl <| cnil <| WC.ret1 rfl rfl ?_
 exact ⟨hOl.below, rfl⟩
theorem modelAbort_ok {w : World} {vT vG vS vO : Value} {S : Sta} {O : List MOp} (h1 : Rd thgS w vT S.things) (h2 : Rd tgS w vG S.tags) (h3 : Rd sesS w vS S.sessions) (h4 : Rd opS w vO O) (hn : Go.Eng.Int64 S.next) (hL : O.length * 80 ≤ 140737488351232) : Calls Tryz.prog 9 #[.agg #[vT, vG, vS, I S.next, vO]] w (Ret fun v w' => Below w.heap.size w w' ∧ v = .bool true) := by
 obtain ⟨c, hOl, hc⟩ := OldC.start w
 have q1 := h1.oneC; have q2 := h2.oneC; have q3 := h3.oneC; have q4 := h4.oneC
 replace h1 : RdC thgS c w [0] vT S.things := Rd.toC h1 (fun k hk => by simp [hc, hasC])
 replace h2 : RdC tgS c w [0] vG S.tags := Rd.toC h2 (fun k hk => by simp [hc, hasC])
 replace h3 : RdC sesS c w [0] vS S.sessions := Rd.toC h3 (fun k hk => by simp [hc, hasC])
 replace h4 : RdC opS c w [0] vO O := Rd.toC h4 (fun k hk => by simp [hc, hasC])
 clear hc
 refine enter (n := 5) (res := #[.tmp 2]) Tryz.func9 rfl rfl rfl rfl <| cseq <| cg <| ve (Eff.boxC c 101 rfl) ?_
 rintro _ w1 ⟨b1, c1, rfl, m, hb1⟩
 replace hOl := hOl.mv m; replace h1 := h1.mv m; replace h2 := h2.mv m; replace h3 := h3.mv m; replace h4 := h4.mv m
 refine za rfl <| cnil <| cseq <| cg <| vq (Val.loadBN agg29 rfl hb1.blk rfl) <| ve (Eff.pureC c1 1 (Eff.call pf10 rfl (each_ok (k := 13) h1.now h2.now h3.now h4.now hn hL ⟨by decide, by decide⟩))) ?_
 rintro v4 w2 ⟨c2, m, hx2, rfl⟩
 replace hOl := hOl.mv m
 refine za rfl <| cnil <| WC.ret1 rfl rfl ?_
 exact ⟨hOl.below, rfl⟩
end Go.Proofs.YtdlpibhecdfbcabGreatDoor
