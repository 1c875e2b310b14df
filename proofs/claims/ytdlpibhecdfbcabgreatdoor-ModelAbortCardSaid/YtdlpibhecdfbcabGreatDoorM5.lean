/- The model: its program, its page, and the laws on them: part 5. No condition. -/
import Derived.ProofKit
import Derived.SizedLaws
import Derived.Test.YtdlpibhecdfbcabGreatDoorRows
import Derived.Below
import Derived.Test.YtdlpibhecdfbcabGreatDoorM4
set_option linter.unusedSimpArgs false
set_option linter.unusedVariables false
set_option maxRecDepth 100000
namespace Go.Eng
open Go Go.RowKit
theorem OldJ.outM {c0 c : Nat → Nat} {w0 w : World} {J : List Nat} (h : OldJ c0 w0 J c w) {i j : Nat} (hj : (Nat.blt 0 j && !hasC J j) = true) : ∃ c'', Mv c0 w0 c'' w J ∧ (∀ {e : TypeId} {size n : Nat} {v : Value} {xs : List Value}, OwnC c w j e size v n xs → OwnC c'' w i e size v n xs) ∧
   (∀ {a : Nat} {e : TypeId} {size n : Nat} {v : Value} {xs : List Value}, OwnC c w a e size v n xs → (Nat.blt 0 a && hasC J a) = true → OwnC c'' w a e size v n xs) ∧ (∀ {a b : Nat} {cs : List Value} {t : TypeId}, BlkC c w a b cs t → (Nat.blt 0 a && hasC J a) = true → BlkC c'' w a b cs t) := by
 rw [Bool.and_eq_true, Bool.not_eq_true'] at hj
 have hj0 : 0 < j := Nat.le_of_ble_eq_true hj.1
 have key : ∀ {k a : Nat}, c k = a → (Nat.blt 0 a && hasC J a) = true → (if k < w0.heap.size then c0 k else if c k = j then i else c k) = a := fun {k a} hk ha => by
   rw [Bool.and_eq_true] at ha
   have ha0 : 0 < a := Nat.le_of_ble_eq_true ha.1
   split
   · rename_i hlt
     rw [h.col k hlt] at hk
     unfold mask at hk
     split at hk
     · exact hk
     omega
   rw [if_neg (fun e => by rw [← hk, e, hj.2] at ha; exact absurd ha.2 (by decide)), hk]
 refine ⟨fun k => if k < w0.heap.size then c0 k else if c k = j then i else c k, ⟨h.os, h.tape, h.output, h.size, fun k hk => by simp [hk], h.block⟩, fun {e size n v xs} ho => ⟨ho.own, fun k hk => ?_⟩, fun {a e size n v xs} ho ha => ⟨ho.own, fun k hk => key (ho.col k hk) ha⟩, fun {a b cs t} hb ha => ⟨hb.blk, key hb.col ha⟩⟩
 have hck := ho.col k hk
 have hge : ¬ k < w0.heap.size := fun hlt => by
   rw [h.col k hlt] at hck
   unfold mask at hck
   split at hck
   · rename_i hh
     rw [hck, hj.2] at hh; cases hh
   omega
 show (if k < w0.heap.size then c0 k else if c k = j then i else c k) = i
 rw [if_neg hge, if_pos hck]
end Go.Eng
namespace Silo
open Go Go.Eng
theorem at_noneI {T : List Thg} {d : List UInt8} (h : atT T d < 0) : (findT T d).isSome = false := by
  cases hf : findT T d with
  | none => rfl
  | some j => rw [atT, hf] at h; simp at h; omega
theorem at_someI {T : List Thg} {d : List UInt8} (h : ¬ atT T d < 0) : (findT T d).isSome = true := by
  cases hf : findT T d with
  | none => rw [atT, hf] at h; simp at h
  | some j => rfl
end Silo
namespace Go.Proofs.YtdlpibhecdfbcabGreatDoor
open Go Go.Eng Go.RowKit Silo TryzT
set_option maxHeartbeats 2000000 in
theorem pupload_ok {c : Nat → Nat} {w : World} {b : Nat} {S : Sta} {o : MOp} (h : StaO c w b S) (hS : SmallS S) (hO : SmallO o) : Calls Tryz.prog 64 #[.pointer (some ⟨b, 0, none⟩), .agg (encOp o).toArray] w (Ret fun v w' => ∃ c', Mv c w c' w' colS ∧ StaO c' w' b (if o.kind = 1 then doStart S else doUp S o).1 ∧ v = .agg (encRep (if o.kind = 1 then doStart S else doUp S o).2).toArray) := by
 obtain ⟨vT, vG, vS, hb0, hoT, hoG, hoS⟩ := h
 obtain ⟨z1, z2, z3, z4, z5, z6, z7⟩ := hS
 obtain ⟨⟨y1, y2, y3, y4⟩, y5, y6, y7⟩ := hO
 have hJ := OldJ.start c w colS
 replace hb0 := hb0.inn (J := colS) rfl
 replace hoT := hoT.inn (J := colS) rfl
 replace hoG := hoG.inn (J := colS) rfl
 replace hoS := hoS.inn (J := colS) rfl
 generalize mask c colS = c0 at hJ hb0 hoT hoG hoS
 have q1 := hoT.oneC; have q2 := hoG.oneC; have q3 := hoS.oneC
 refine enter (n := 174) (res := #[.cell 4 51]) Tryz.func64 rfl rfl rfl rfl <| cseq <| cg <| ve (Eff.boxC c0 103 rfl) ?_
 rintro _ w1 ⟨b3, c1, rfl, hM1, hb3⟩
 replace hJ := hJ.mv hM1; replace hb0 := hb0.mv hM1; replace hoT := hoT.mv hM1; replace hoG := hoG.mv hM1; replace hoS := hoS.mv hM1
 refine ve (Eff.allocC c1 104 zero51) ?_
 rintro _ w2 ⟨b4, c2, rfl, hM2, hb4⟩
 replace hJ := hJ.mv hM2; replace hb0 := hb0.mv hM2; replace hoT := hoT.mv hM2; replace hoG := hoG.mv hM2; replace hoS := hoS.mv hM2; replace hb3 := hb3.mv hM2
 refine cnil <| cseq <| cseq <| cg <| vq (Val.fieldAddr fld33_0 rfl) <| vq (Val.loadB scl3 rfl hb3.blk rfl) <| vq (Val.eql rfl rfl) <| cnil <| WC.cond rfl (fun hc1 => ?_) (fun hc1 => ?_)
 ·try simp only [tstS] at hc1
  rw [if_pos (by assumption)]
  refine cseq <| cseq <| cg <| zm rfl <| vq (Val.nilCheck rfl) <| vq (Val.fieldAddr fld26_2 rfl) <| vq (Val.loadB scl24 rfl hb0.blk rfl) <| vq (Val.olen sl24 hoS rfl) <| vq (Val.geq rfl rfl) <| zm rfl ?_
  apply WR.sc false 5 _ (fun w' => w2 = w')
  case hl | hg | hu | hv | hs | hoff | hd => rfl
  case hF => exact fun _ => rfl
  case hT =>
   intro hq12
   try simp only [tstS] at hq12
   simp only [List.take_succ_cons, List.take_zero]
   refine WR.on rfl rfl <| zm rfl <| WR.on rfl rfl <| vq (Val.nilCheck rfl) <| WR.on rfl rfl <| vq (Val.fieldAddr fld26_3 rfl) <| WR.on rfl rfl <| vq (Val.loadB scl3 rfl hb0.blk rfl) <| WR.on rfl rfl <| vq (Val.geq rfl rfl) ?_
   exact WR.nil ⟨rfl, Sub.drop _ 5 _ rfl rfl, rfl⟩
  rintro _ rfl
  refine cnil <| WC.cond rfl (fun hc2 => ?_) (fun hc2 => ?_)
  ·try simp only [tstS] at hc2
   refine cseq <| cg <| vq (Val.build (cells := #[I 0, St [], I 2]) rfl (by kernel_rfl)) ?_
   refine WR.eff_ (Eff.storeNC agg51 rfl rfl hb4 rfl rfl ones) ?_
   rintro _ w3 ⟨hS, hM3⟩
   replace hJ := hJ.mv hM3; replace hb0 := hb0.mv hM3; replace hoT := hoT.mv hM3; replace hoG := hoG.mv hM3; replace hoS := hoS.mv hM3
   replace hb4 := hS
   refine cnil <| WC.retR1 rfl (RVal.cellN agg51 rfl hb4.blk rfl) ?_
   have e : doStart S = bad S 2 := by rw [doStart, if_pos]; omega
   rw [e]
   exact ⟨_, hJ.out, ⟨vT, vG, vS, hb0.out hJ rfl, hoT.out hJ rfl, hoG.out hJ rfl, hoS.out hJ rfl⟩, rfl⟩
  try simp only [tstS] at hc2
  refine cskip <| cseq <| WC.regionD (Kp c2 w2 [73]) [0, 0, 0, 0, 1, 0, 0, 0, 1, 0, 2, 2, 0, 0, 3] [0, 1, 2, 3, 4, 5, 6, 7, 8, 9, 10, 11, 12, 13, 14] mixed (by kernel_rfl) ?_
  have hM4 := Mv.drew c2 w2 []
  have hCw := Mv.drew c2 w2 [73]
  generalize w2.drew = w4 at hM4 hCw ⊢
  have hb00 := hb0
  have hb30 := hb3
  have hb40 := hb4
  replace hJ := hJ.mv hM4; replace hb0 := hb0.mv hM4; replace hoT := hoT.mv hM4; replace hoG := hoG.mv hM4; replace hoS := hoS.mv hM4; replace hb4 := hb4.mv hM4
  refine zdm rfl rfl <| zdm rfl rfl <| vd rfl (fun _ => Val.nilCheck rfl) <| vd rfl (fun _ => Val.fieldAddr fld26_2 rfl) <| vc rfl hCw.kp (fun W hW => Val.loadB scl24 rfl (hb00.kp hW rfl).blk rfl) <| zdm rfl rfl <| vd rfl (fun _ => Val.nilCheck rfl) <| vd rfl (fun _ => Val.fieldAddr fld26_3 rfl) <| vc rfl hCw.kp (fun W hW => Val.loadB scl3 rfl (hb00.kp hW rfl).blk rfl) <| vd rfl (fun _ => Val.build (cells := #[I S.next, St []]) rfl (by kernel_rfl)) ?_
  refine WD.eff rfl rfl rfl (Eff.build1C c2 135 sl24 rfl rfl rfl rfl rfl) rfl ?_
  rintro _ w5 ⟨b35, c5, rfl, hM5, hb35⟩
  refine ⟨fun hC => hC.step hCw hM5 rfl, ?_⟩
  replace hCw := hCw.tr hM5 rfl
  replace hJ := hJ.mv hM5; replace hb0 := hb0.mv hM5; replace hoT := hoT.mv hM5; replace hoG := hoG.mv hM5; replace hoS := hoS.mv hM5; replace hb4 := hb4.mv hM5
  refine WD.eff rfl rfl rfl (Eff.appendC sl24 rfl rfl hoS (Src.cellsAt Tryz.underlying24 hb35.blk.cellsAt rfl ones) mxl oms) rfl ?_
  rintro v36 w6 ⟨c6, hM6, hOq⟩
  refine ⟨fun hC => hC.step hCw hM6 rfl, ?_⟩
  replace hCw := hCw.tr hM6 rfl
  clear hb35
  replace hJ := hJ.mv hM6; replace hb0 := hb0.mv hM6; replace hoT := hoT.mv hM6; replace hoG := hoG.mv hM6; replace hb4 := hb4.mv hM6
  replace hoS := hOq
  have p1 := hoS.cellsV; have p2 := hoS.oneC
  refine vd rfl (fun _ => Val.nilCheck rfl) <| vd rfl (fun _ => Val.fieldAddr fld26_2 rfl) <| WD.wild rfl rfl rfl (Eff.storeC scl24 rfl rfl ra ra hb0 rfl) ?_
  rintro _ w7 ⟨hS, hM7⟩
  try replace hCw := hCw.tr hM7 rfl
  replace hJ := hJ.mv hM7; replace hoT := hoT.mv hM7; replace hoG := hoG.mv hM7; replace hoS := hoS.mv hM7; replace hb4 := hb4.mv hM7
  replace hb0 := hS
  refine WD.nil ?_
  clear hb00 hb30 hb40
  clear hCw
  refine cseq <| cg <| zm rfl <| vq (Val.nilCheck rfl) <| vq (Val.fieldAddr fld26_3 rfl) <| vq (Val.loadB scl3 rfl hb0.blk rfl) <| vq (Val.addI rfl rfl side side) <| vq (Val.nilCheck rfl) <| vq (Val.fieldAddr fld26_3 rfl) ?_
  refine WR.eff_ (Eff.storeC scl3 rfl rfl ra ra hb0 rfl) ?_
  rintro _ w8 ⟨hS, hM8⟩
  replace hJ := hJ.mv hM8; replace hoT := hoT.mv hM8; replace hoG := hoG.mv hM8; replace hoS := hoS.mv hM8; replace hb4 := hb4.mv hM8
  replace hb0 := hS
  refine cnil <| cseq <| cg <| zm rfl <| vq (Val.nilCheck rfl) <| vq (Val.fieldAddr fld26_3 rfl) <| vq (Val.loadB scl3 rfl hb0.blk rfl) <| vq (Val.subI rfl rfl (by omega) (by omega)) ?_
  rw [show S.next + 1 - 1 = S.next by omega]
  refine vq (Val.build (cells := #[I S.next, St [], I 0]) rfl (by kernel_rfl)) ?_
  refine WR.eff_ (Eff.storeNC agg51 rfl rfl hb4 rfl rfl ones) ?_
  rintro _ w9 ⟨hS, hM9⟩
  replace hJ := hJ.mv hM9; replace hb0 := hb0.mv hM9; replace hoT := hoT.mv hM9; replace hoG := hoG.mv hM9; replace hoS := hoS.mv hM9
  replace hb4 := hS
  refine cnil <| WC.retR1 rfl (RVal.cellN agg51 rfl hb4.blk rfl) ?_
  have e : doStart S = ({ S with sessions := S.sessions ++ [⟨S.next, []⟩], next := S.next + 1 }, ⟨S.next, [], 0⟩) := by rw [doStart, if_neg]; omega
  rw [e]
  have eo : (S.sessions ++ [(⟨S.next, []⟩ : Ses)]).flatMap encSes = S.sessions.flatMap encSes ++ [I S.next, St []] := by rw [List.flatMap_append]; rfl
  exact ⟨_, hJ.out, ⟨vT, vG, _, hb0.out hJ rfl, hoT.out hJ rfl, hoG.out hJ rfl, by dsimp only; rw [eo, List.length_append]; exact hoS.out hJ rfl⟩, rfl⟩
 try simp only [tstS] at hc1
 rw [if_neg (by assumption)]
 refine cskip <| cseq <| WC.regionD (Kp c2 w2 []) [0, 0, 0, 1, 0, 1, 2, 0] [0, 1, 2, 3, 4, 5, 6, 7] mixed (by kernel_rfl) ?_
 have hM10 := Mv.drew c2 w2 []
 have hCw := Mv.drew c2 w2 []
 generalize w2.drew = w10 at hM10 hCw ⊢
 have hb00 := hb0
 have hb30 := hb3
 have hb40 := hb4
 replace hJ := hJ.mv hM10; replace hb0 := hb0.mv hM10; replace hoT := hoT.mv hM10; replace hoG := hoG.mv hM10; replace hoS := hoS.mv hM10; replace hb3 := hb3.mv hM10; replace hb4 := hb4.mv hM10
 refine zdm rfl rfl <| vd rfl (fun _ => Val.nilCheck rfl) <| vd rfl (fun _ => Val.fieldAddr fld26_2 rfl) <| vc rfl hCw.kp (fun W hW => Val.loadB scl24 rfl (hb00.kp hW rfl).blk rfl) <| vd rfl (fun _ => Val.fieldAddr fld33_1 rfl) <| vc rfl hCw.kp (fun W hW => Val.loadB scl3 rfl (hb30.kp hW rfl).blk rfl) <| WD.eff rfl rfl rfl (Eff.pureC c2 1 (Eff.call pf95 rfl (psession_ok (hoS.rdS (by omega) z3).now))) rfl ?_
 rintro v58 w11 ⟨c11, hM11, hx11, rfl⟩
 refine ⟨fun hC => hC.step hCw hM11 rfl, ?_⟩
 replace hCw := hCw.tr hM11 rfl
 replace hJ := hJ.mv hM11; replace hb0 := hb0.mv hM11; replace hoT := hoT.mv hM11; replace hoG := hoG.mv hM11; replace hoS := hoS.mv hM11; replace hb3 := hb3.mv hM11; replace hb4 := hb4.mv hM11
 refine zda rfl rfl <| WD.nil ?_
 clear hb00 hb30 hb40
 clear hCw
 refine cseq <| cseq <| cg <| zm rfl <| vq (Val.lss rfl rfl) <| cnil <| WC.cond rfl (fun hc8 => ?_) (fun hc8 => ?_)
 ·try simp only [tstS] at hc8
  refine cseq <| cg <| vq (Val.build (cells := #[I 0, St [], I 3]) rfl (by kernel_rfl)) ?_
  refine WR.eff_ (Eff.storeNC agg51 rfl rfl hb4 rfl rfl ones) ?_
  rintro _ w12 ⟨hS, hM12⟩
  replace hJ := hJ.mv hM12; replace hb0 := hb0.mv hM12; replace hoT := hoT.mv hM12; replace hoG := hoG.mv hM12; replace hoS := hoS.mv hM12
  replace hb4 := hS
  refine cnil <| WC.retR1 rfl (RVal.cellN agg51 rfl hb4.blk rfl) ?_
  have e : doUp S o = bad S 3 := by
    cases hf : findS S.sessions o.id with
    | none => rw [doUp, hf]
    | some k => rw [hf] at hc8; simp [atO] at hc8; omega
  rw [e]
  exact ⟨_, hJ.out, ⟨vT, vG, vS, hb0.out hJ rfl, hoT.out hJ rfl, hoG.out hJ rfl, hoS.out hJ rfl⟩, rfl⟩
 try simp only [tstS] at hc8
 obtain ⟨k, hf⟩ : ∃ k, findS S.sessions o.id = some k := by
   cases hf : findS S.sessions o.id with
   | none => rw [hf] at hc8; simp [atO] at hc8
   | some k => exact ⟨k, rfl⟩
 rw [show atO (findS S.sessions o.id) = (k : Int) by rw [hf]; rfl]
 obtain ⟨hk, hkq, _⟩ := List.findIdx?_eq_some_iff_getElem.1 hf
 obtain ⟨g, cp, rfl, hncp, hm1⟩ := hoS.posForm (by omega)
 have hx : (S.sessions[k]?).getD ⟨0, []⟩ = S.sessions[k] := by rw [List.getElem?_eq_getElem hk]; rfl
 have hxt := (z3 _ (List.getElem_mem hk)).2
 obtain ⟨hc29, _⟩ := RdC.elFlat (hoS.rdS (by omega) z3) hk (by decide)
 have hc75 := hc29.at_ (i := 1) rfl
 have hc92 := hc75; have hc117 := hc75
 clear hc29
 refine cskip <| cseq <| cg <| za rfl <| cnil <| cseq <| cseq <| cg <| vq (Val.fieldAddr fld33_0 rfl) <| vq (Val.loadB scl3 rfl hb3.blk rfl) <| cnil <| WC.mono (N := (fun e w' => ∃ (c' : Nat → Nat) (vT' : Value) (T' : List Thg) (n' : Int), Sub [(4000000, .tuple #[]), (0, .pointer (some ⟨b, 0, none⟩)), (4, .pointer (some ⟨b4, 0, none⟩)), (5, I k), (6, I n')] e ∧ OldJ c w colS c' w' ∧ BlkC c' w' 70 b [vT', vG, .slice (some ⟨g, 0, none⟩) S.sessions.length cp, I S.next] 26 ∧ OwnC c' w' 71 60 3 vT' T'.length (T'.flatMap encThg) ∧ OwnC c' w' 72 66 2 vG S.tags.length (S.tags.flatMap encTg) ∧ OwnC c' w' 73 63 2 (.slice (some ⟨g, 0, none⟩) S.sessions.length cp) S.sessions.length (S.sessions.flatMap encSes) ∧ BlkC c' w' 104 b4 [I 0, St [], I 0] 51 ∧ doUp S o = ({ S with things := T', sessions := S.sessions.eraseIdx k }, ⟨n', [], 0⟩))) ?_ ?_
 ·refine cblock <| cseq <| cg <| vq (Val.eql rfl rfl) <| za rfl <| cnil ?_
  refine WC.cond rfl (fun hc12 => ?_) (fun hc12 => ?_)
  ·try simp only [tstS] at hc12
   refine cseq <| cseq <| WC.regionD (Kp c11 w11 []) [0, 1, 0, 0, 0, 0, 1, 0, 0, 0, 1, 0, 0, 0] [0, 1, 2, 3, 4, 5, 6, 7, 8, 9, 10, 11, 12, 13] mixed (by kernel_rfl) ?_
   have hM13 := Mv.drew c11 w11 []
   have hCw := Mv.drew c11 w11 []
   generalize w11.drew = w13 at hM13 hCw ⊢
   have hb00 := hb0
   have hb30 := hb3
   have hb40 := hb4
   have hc750 := hc75
   have hc920 := hc92
   have hc1170 := hc117
   replace hJ := hJ.mv hM13; replace hb0 := hb0.mv hM13; replace hoT := hoT.mv hM13; replace hoG := hoG.mv hM13; replace hoS := hoS.mv hM13; replace hb3 := hb3.mv hM13; replace hb4 := hb4.mv hM13; replace hc92 := hc92.mv hM13
   refine vd rfl (fun _ => Val.fieldAddr fld33_6 rfl) <| vc rfl hCw.kp (fun W hW => Val.loadB scl9 rfl (hb30.kp hW rfl).blk rfl) <| vd rfl (fun _ => Val.slen Tryz.underlying9 rfl) <| zdm rfl rfl <| vd rfl (fun _ => Val.nilCheck rfl) <| vd rfl (fun _ => Val.fieldAddr fld26_2 rfl) <| vc rfl hCw.kp (fun W hW => Val.loadB scl24 rfl (hb00.kp hW rfl).blk rfl) <| zdm rfl rfl <| vd rfl (fun _ => Val.indexO sl24 hoS rfl rfl (by omega) (by omega)) ?_
   first | refine vd rfl (fun _ => Val.fieldAddr fld63_1 rfl) ?_ | refine vd rfl (fun _ => Val.fieldAddrP fld63_1 rfl) ?_
   refine vc rfl hCw.kp (fun W hW => Val.loadE1 scl9 rfl (hc750.kp hW rfl).cel) <| vd rfl (fun _ => Val.slen Tryz.underlying9 rfl) <| vd rfl (fun _ => Val.subI rfl rfl side side) <| vd rfl (fun _ => Val.gtr rfl rfl) ?_
   refine WD.nil ?_
   clear hb00 hb30 hb40 hc750 hc920 hc1170
   clear hCw
   refine WC.cond rfl (fun hc13 => ?_) (fun hc13 => ?_)
   ·try simp only [tstS] at hc13
    refine cseq <| cg <| vq (Val.build (cells := #[I 0, St [], I 2]) rfl (by kernel_rfl)) ?_
    refine WR.eff_ (Eff.storeNC agg51 rfl rfl hb4 rfl rfl ones) ?_
    rintro _ w14 ⟨hS, hM14⟩
    replace hJ := hJ.mv hM14; replace hb0 := hb0.mv hM14; replace hoT := hoT.mv hM14; replace hoG := hoG.mv hM14; replace hoS := hoS.mv hM14
    replace hb4 := hS
    refine cnil <| WC.retR1 rfl (RVal.cellN agg51 rfl hb4.blk rfl) ?_
    have e : doUp S o = bad S 2 := by rw [doUp, hf]; dsimp only; rw [hx, if_pos (by assumption), if_pos (by omega)]
    rw [e]
    exact ⟨_, hJ.out, ⟨_, vG, _, hb0.out hJ rfl, hoT.out hJ rfl, hoG.out hJ rfl, hoS.out hJ rfl⟩, rfl⟩
   try simp only [tstS] at hc13
   refine cskip <| cseq <| WC.regionD (Kp c11 w13 []) [0, 0, 0, 1, 0, 0, 0, 0, 1, 0, 0, 0, 1, 0, 1, 0, 0, 0, 3] [0, 1, 2, 3, 4, 5, 6, 7, 8, 9, 10, 11, 12, 13, 14, 15, 16, 17, 18] mixed (by kernel_rfl) ?_
   have hM15 := Mv.drew c11 w13 []
   have hCw := Mv.drew c11 w13 []
   generalize w13.drew = w15 at hM15 hCw ⊢
   have hb00 := hb0
   have hb30 := hb3
   have hb40 := hb4
   have hc920 := hc92
   replace hJ := hJ.mv hM15; replace hb0 := hb0.mv hM15; replace hoT := hoT.mv hM15; replace hoG := hoG.mv hM15; replace hoS := hoS.mv hM15; replace hb4 := hb4.mv hM15; replace hc92 := hc92.mv hM15
   refine zdm rfl rfl <| vd rfl (fun _ => Val.nilCheck rfl) <| vd rfl (fun _ => Val.fieldAddr fld26_2 rfl) <| vc rfl hCw.kp (fun W hW => Val.loadB scl24 rfl (hb00.kp hW rfl).blk rfl) <| zdm rfl rfl <| zdm rfl rfl <| vd rfl (fun _ => Val.nilCheck rfl) <| vd rfl (fun _ => Val.fieldAddr fld26_2 rfl) <| vc rfl hCw.kp (fun W hW => Val.loadB scl24 rfl (hb00.kp hW rfl).blk rfl) <| zdm rfl rfl <| vd rfl (fun _ => Val.indexO sl24 hoS rfl rfl (by omega) (by omega)) ?_
   first | refine vd rfl (fun _ => Val.fieldAddr fld63_1 rfl) ?_ | refine vd rfl (fun _ => Val.fieldAddrP fld63_1 rfl) ?_
   refine vc rfl hCw.kp (fun W hW => Val.loadE1 scl9 rfl (hc920.kp hW rfl).cel) <| vd rfl (fun _ => Val.fieldAddr fld33_6 rfl) <| vc rfl hCw.kp (fun W hW => Val.loadB scl9 rfl (hb30.kp hW rfl).blk rfl) <| vd rfl (fun _ => Val.sadd rfl rfl side) <| vd rfl (fun _ => Val.indexO sl24 hoS rfl rfl (by omega) (by omega)) ?_
   first | refine vd rfl (fun _ => Val.fieldAddr fld63_1 rfl) ?_ | refine vd rfl (fun _ => Val.fieldAddrP fld63_1 rfl) ?_
   have e53 : (⟨g, k * 2 + 1, none⟩ : Addr) = (elemA (.slice (some ⟨g, 0, none⟩) S.sessions.length cp) 2 (k : Int).toNat).add 1 := by simp [elemA, add_lit]
   refine WD.wild rfl rfl rfl (Eff.storeOF (j := k * 2 + 1) (x := .tmp 98) (y := .tmp 96) (u := St (S.sessions[k].text ++ o.text)) scl9 hoS rfl (by omega) (by rw [e53]; rfl) rfl rfl rfl) ?_
   rintro _ w9 ⟨c9, hM9, hoS2⟩
   replace hJ := hJ.mv hM9; replace hb0 := hb0.mv hM9; replace hoT := hoT.mv hM9; replace hoG := hoG.mv hM9; replace hb4 := hb4.mv hM9
   replace hoS := hoS2
   rw [flatMap_setAt (x := ⟨S.sessions[k].id, S.sessions[k].text ++ o.text⟩) encSes_len hk (by decide) rfl] at hoS
   clear hc92
   refine WD.nil ?_
   clear hb00 hb30 hb40 hc920
   clear hCw
   refine cseq ?_
   have hlset : (S.sessions.set k ⟨S.sessions[k].id, S.sessions[k].text ++ o.text⟩).length = S.sessions.length := List.length_set
   have hS9 := OwnC.rdFlat (n' := 2) (enc := encSes) (ok := fun _ => True) (h0 := encSes_len) (h1 := encSes_one) (l := S.sessions.set k ⟨S.sessions[k].id, S.sessions[k].text ++ o.text⟩) (by rw [hlset]; exact hoS) (by omega) (fun _ _ => trivial)
   obtain ⟨hc56, _⟩ := RdC.elFlat hS9 (k := k) (by omega) (by decide)
   rw [List.getElem_set_self] at hc56
   have hc105 := hc56.at_ (i := 1) rfl
   clear hc56
   refine cg <| zm rfl <| vq (Val.nilCheck rfl) <| vq (Val.fieldAddr fld26_2 rfl) <| vq (Val.loadB scl24 rfl hb0.blk rfl) <| zm rfl <| vq (Val.indexO sl24 hoS rfl rfl (by omega) (by omega)) ?_
   first | refine vq (Val.fieldAddr fld63_1 rfl) ?_ | refine vq (Val.fieldAddrP fld63_1 rfl) ?_
   refine vq (Val.loadE1 scl9 rfl hc105.cel) <| vq (Val.slen Tryz.underlying9 rfl) <| vq (Val.build (cells := #[I ((S.sessions[k].text ++ o.text).length : Nat), St [], I 0]) rfl (by kernel_rfl)) ?_
   refine WR.eff_ (Eff.storeNC agg51 rfl rfl hb4 rfl rfl ones) ?_
   rintro _ w16 ⟨hS, hM16⟩
   replace hJ := hJ.mv hM16; replace hb0 := hb0.mv hM16; replace hoT := hoT.mv hM16; replace hoG := hoG.mv hM16; replace hoS := hoS.mv hM16
   replace hb4 := hS
   refine cnil <| WC.retR1 rfl (RVal.cellN agg51 rfl hb4.blk rfl) ?_
   have e : doUp S o = ({ S with sessions := S.sessions.set k ⟨S.sessions[k].id, S.sessions[k].text ++ o.text⟩ }, ⟨((S.sessions[k].text ++ o.text).length : Nat), [], 0⟩) := by rw [doUp, hf]; dsimp only; rw [hx, if_pos (by assumption), if_neg (by omega)]
   rw [e]
   exact ⟨_, hJ.out, ⟨vT, vG, _, hb0.out hJ rfl, hoT.out hJ rfl, hoG.out hJ rfl, by dsimp only; rw [hlset]; exact hoS.out hJ rfl⟩, rfl⟩
  try simp only [tstS] at hc12
  refine cseq <| cg <| vq (Val.eql rfl rfl) <| za rfl <| cnil <| WC.cond rfl (fun hc17 => ?_) (fun hc17 => ?_)
  ·try simp only [tstS] at hc17
   have h3 : o.kind = 3 := by assumption
   have h2 : ¬ o.kind = 2 := by omega
   refine cseq <| cg <| zm rfl <| vq (Val.nilCheck rfl) <| vq (Val.fieldAddr fld26_2 rfl) <| vq (Val.loadB scl24 rfl hb0.blk rfl) <| zm rfl <| vq (Val.indexO sl24 hoS rfl rfl (by omega) (by omega)) ?_
   first | refine vq (Val.fieldAddr fld63_1 rfl) ?_ | refine vq (Val.fieldAddrP fld63_1 rfl) ?_
   refine vq (Val.loadE1 scl9 rfl hc117.cel) <| za rfl <| cnil <| cseq <| cseq <| WC.regionD (Kp c11 w11 []) [0, 1, 0, 2, 0] [0, 1, 2, 3, 4] mixed (by kernel_rfl) ?_
   have hM17 := Mv.drew c11 w11 []
   have hCw := Mv.drew c11 w11 []
   generalize w11.drew = w17 at hM17 hCw ⊢
   have hb00 := hb0
   have hb30 := hb3
   have hb40 := hb4
   replace hJ := hJ.mv hM17; replace hb0 := hb0.mv hM17; replace hoT := hoT.mv hM17; replace hoG := hoG.mv hM17; replace hoS := hoS.mv hM17; replace hb3 := hb3.mv hM17; replace hb4 := hb4.mv hM17
   refine vd rfl (fun _ => Val.fieldAddr fld33_5 rfl) <| vc rfl hCw.kp (fun W hW => Val.loadB scl9 rfl (hb30.kp hW rfl).blk rfl) <| zdm rfl rfl <| WD.eff rfl rfl rfl (Eff.pureC c11 1 (Eff.call pf33 rfl (pdigest_ok S.sessions[k].text (by omega)))) rfl ?_
   rintro v122 w18 ⟨c18, hM18, hx18, rfl⟩
   refine ⟨fun hC => hC.step hCw hM18 rfl, ?_⟩
   replace hCw := hCw.tr hM18 rfl
   replace hJ := hJ.mv hM18; replace hb0 := hb0.mv hM18; replace hoT := hoT.mv hM18; replace hoG := hoG.mv hM18; replace hoS := hoS.mv hM18; replace hb3 := hb3.mv hM18; replace hb4 := hb4.mv hM18
   refine vd rfl (fun _ => Val.sne rfl rfl) <| WD.nil ?_
   clear hb00 hb30 hb40
   clear hCw
   refine WC.cond rfl (fun hc19 => ?_) (fun hc19 => ?_)
   ·try simp only [tstS] at hc19
    refine cseq <| cg <| vq (Val.build (cells := #[I 0, St [], I 7]) rfl (by kernel_rfl)) ?_
    refine WR.eff_ (Eff.storeNC agg51 rfl rfl hb4 rfl rfl ones) ?_
    rintro _ w19 ⟨hS, hM19⟩
    replace hJ := hJ.mv hM19; replace hb0 := hb0.mv hM19; replace hoT := hoT.mv hM19; replace hoG := hoG.mv hM19; replace hoS := hoS.mv hM19
    replace hb4 := hS
    refine cnil <| WC.retR1 rfl (RVal.cellN agg51 rfl hb4.blk rfl) ?_
    have e : doUp S o = bad S 7 := by rw [doUp, hf]; dsimp only; rw [hx, if_neg h2, if_pos h3, if_neg (by intro e; rw [e] at hc19; simp at hc19)]
    rw [e]
    exact ⟨_, hJ.out, ⟨_, vG, _, hb0.out hJ rfl, hoT.out hJ rfl, hoG.out hJ rfl, hoS.out hJ rfl⟩, rfl⟩
   try simp only [tstS] at hc19
   have hdg : digestS S.sessions[k].text = o.digest := by rw [eq_comm]; simpa using hc19
   refine cskip <| cseq <| cseq <| WC.regionD (Kp c18 w18 []) [0, 0, 0, 1, 0, 1, 2, 0] [0, 1, 2, 3, 4, 5, 6, 7] mixed (by kernel_rfl) ?_
   have hM20 := Mv.drew c18 w18 []
   have hCw := Mv.drew c18 w18 []
   generalize w18.drew = w20 at hM20 hCw ⊢
   have hb00 := hb0
   have hb30 := hb3
   have hb40 := hb4
   replace hJ := hJ.mv hM20; replace hb0 := hb0.mv hM20; replace hoT := hoT.mv hM20; replace hoG := hoG.mv hM20; replace hoS := hoS.mv hM20; replace hb3 := hb3.mv hM20; replace hb4 := hb4.mv hM20
   refine zdm rfl rfl <| vd rfl (fun _ => Val.nilCheck rfl) <| vd rfl (fun _ => Val.fieldAddr fld26_0 rfl) <| vc rfl hCw.kp (fun W hW => Val.loadB scl22 rfl (hb00.kp hW rfl).blk rfl) <| vd rfl (fun _ => Val.fieldAddr fld33_5 rfl) <| vc rfl hCw.kp (fun W hW => Val.loadB scl9 rfl (hb30.kp hW rfl).blk rfl) <| WD.eff rfl rfl rfl (Eff.pureC c18 1 (Eff.call pf40 rfl (at_ok (hoT.rdT (by omega) z1).now))) rfl ?_
   rintro v131 w21 ⟨c21, hM21, hx21, rfl⟩
   refine ⟨fun hC => hC.step hCw hM21 rfl, ?_⟩
   replace hCw := hCw.tr hM21 rfl
   replace hJ := hJ.mv hM21; replace hb0 := hb0.mv hM21; replace hoT := hoT.mv hM21; replace hoG := hoG.mv hM21; replace hoS := hoS.mv hM21; replace hb3 := hb3.mv hM21; replace hb4 := hb4.mv hM21
   refine vd rfl (fun _ => Val.lss rfl rfl) <| WD.nil ?_
   clear hb00 hb30 hb40
   clear hCw
   refine WC.mono (N := (fun e w' => ∃ (c' : Nat → Nat) (vT' : Value) (T' : List Thg), Sub [(4000000, .tuple #[]), (0, .pointer (some ⟨b, 0, none⟩)), (4, .pointer (some ⟨b4, 0, none⟩)), (5, I k), (7, St S.sessions[k].text)] e ∧ OldJ c w colS c' w' ∧ BlkC c' w' 70 b [vT', vG, .slice (some ⟨g, 0, none⟩) S.sessions.length cp, I S.next] 26 ∧ OwnC c' w' 71 60 3 vT' T'.length (T'.flatMap encThg) ∧ OwnC c' w' 72 66 2 vG S.tags.length (S.tags.flatMap encTg) ∧ OwnC c' w' 73 63 2 (.slice (some ⟨g, 0, none⟩) S.sessions.length cp) S.sessions.length (S.sessions.flatMap encSes) ∧ BlkC c' w' 104 b4 [I 0, St [], I 0] 51 ∧ keepT S.things ⟨o.digest, S.sessions[k].text, false⟩ = some T')) ?_ ?_
   ·refine WC.cond rfl (fun hc21 => ?_) (fun hc21 => ?_)
    ·try simp only [tstS] at hc21
     refine cseq <| cseq <| cg <| zm rfl <| vq (Val.nilCheck rfl) <| vq (Val.fieldAddr fld26_0 rfl) <| vq (Val.loadB scl22 rfl hb0.blk rfl) <| vq (Val.olen sl22 hoT rfl) <| vq (Val.geq rfl rfl) <| cnil <| WC.cond rfl (fun hc22 => ?_) (fun hc22 => ?_)
     ·try simp only [tstS] at hc22
      refine cseq <| cg <| vq (Val.build (cells := #[I 0, St [], I 2]) rfl (by kernel_rfl)) ?_
      refine WR.eff_ (Eff.storeNC agg51 rfl rfl hb4 rfl rfl ones) ?_
      rintro _ w22 ⟨hS, hM22⟩
      replace hJ := hJ.mv hM22; replace hb0 := hb0.mv hM22; replace hoT := hoT.mv hM22; replace hoG := hoG.mv hM22; replace hoS := hoS.mv hM22
      replace hb4 := hS
      refine cnil <| WC.retR1 rfl (RVal.cellN agg51 rfl hb4.blk rfl) ?_
      have e : doUp S o = bad S 2 := by rw [doUp, hf]; dsimp only; rw [hx, if_neg h2, if_pos h3, if_pos hdg, keepT_no (at_noneI (by assumption)) (by omega)]
      rw [e]
      exact ⟨_, hJ.out, ⟨_, vG, _, hb0.out hJ rfl, hoT.out hJ rfl, hoG.out hJ rfl, hoS.out hJ rfl⟩, rfl⟩
     try simp only [tstS] at hc22
     refine cskip <| WC.regionD (Kp c21 w21 []) [0, 0, 0, 0, 1, 0, 1, 0, 0, 2, 0, 0, 3] [0, 1, 2, 3, 4, 5, 6, 7, 8, 9, 10, 11, 12] mixed (by kernel_rfl) ?_
     have hM23 := Mv.drew c21 w21 []
     have hCw := Mv.drew c21 w21 []
     generalize w21.drew = w23 at hM23 hCw ⊢
     have hb00 := hb0
     have hb30 := hb3
     have hb40 := hb4
     replace hJ := hJ.mv hM23; replace hb0 := hb0.mv hM23; replace hoT := hoT.mv hM23; replace hoG := hoG.mv hM23; replace hoS := hoS.mv hM23; replace hb4 := hb4.mv hM23
     refine zdm rfl rfl <| zdm rfl rfl <| vd rfl (fun _ => Val.nilCheck rfl) <| vd rfl (fun _ => Val.fieldAddr fld26_0 rfl) <| vc rfl hCw.kp (fun W hW => Val.loadB scl22 rfl (hb00.kp hW rfl).blk rfl) <| vd rfl (fun _ => Val.fieldAddr fld33_5 rfl) <| vc rfl hCw.kp (fun W hW => Val.loadB scl9 rfl (hb30.kp hW rfl).blk rfl) <| zdm rfl rfl <| vd rfl (fun _ => Val.build (cells := #[St o.digest, St S.sessions[k].text, .bool false]) rfl (by kernel_rfl)) ?_
     refine WD.eff rfl rfl rfl (Eff.pureC c21 71 (Eff.call pf66 rfl (pwith_ok (x := ⟨o.digest, S.sessions[k].text, false⟩) (hoT.rdT (by omega) z1).now (by omega)))) rfl ?_
     rintro v149 w24 ⟨c24, hM24, hx24, hoT2⟩
     refine ⟨fun hC => hC.step hCw hM24 rfl, ?_⟩
     replace hCw := hCw.tr hM24 rfl
     replace hJ := hJ.mv hM24; replace hb0 := hb0.mv hM24; replace hoG := hoG.mv hM24; replace hoS := hoS.mv hM24; replace hb4 := hb4.mv hM24
     replace hoT2 := hoT2.toC hx24
     have p1 := hoT2.cellsV; have p2 := hoT2.oneC
     refine vd rfl (fun _ => Val.nilCheck rfl) <| vd rfl (fun _ => Val.fieldAddr fld26_0 rfl) <| WD.wild rfl rfl rfl (Eff.storeC scl22 rfl rfl ra ra hb0 rfl) ?_
     rintro _ w25 ⟨hS, hM25⟩
     replace hJ := hJ.mv hM25; replace hoG := hoG.mv hM25; replace hoS := hoS.mv hM25; replace hb4 := hb4.mv hM25; replace hoT2 := hoT2.mv hM25
     replace hb0 := hS
     refine WD.nil ?_
     clear hb00 hb30 hb40
     clear hCw
     have hkT := keepT_put (t := ⟨o.digest, S.sessions[k].text, false⟩) (at_noneI (by assumption)) (by omega)
     exact ⟨_, _, _, subs, hJ, hb0, hoT2, hoG, hoS, hb4, hkT⟩
    try simp only [tstS] at hc21
    refine cskip ?_
    have hkT := keepT_is (t := ⟨o.digest, S.sessions[k].text, false⟩) (at_someI (by assumption))
    exact ⟨_, _, _, subs, hJ, hb0, hoT, hoG, hoS, hb4, hkT⟩
   rintro e8 w8 ⟨c8, vT', T', hsub, hJ, hb0, hoT, hoG, hoS, hb4, hkT⟩
   refine WC.sub hsub ?_
   clear hsub e8
   refine cg <| zm rfl <| vq (Val.slen Tryz.underlying9 rfl) <| za rfl <| cnil ?_
   have e : doUp S o = ({ S with things := T', sessions := S.sessions.eraseIdx k }, ⟨(S.sessions[k].text.length : Nat), [], 0⟩) := by rw [doUp, hf]; dsimp only; rw [hx, if_neg h2, if_pos h3, if_pos hdg, hkT]
   exact ⟨_, vT', T', (S.sessions[k].text.length : Nat), subs, hJ, hb0, hoT, hoG, hoS, hb4, e⟩
  try simp only [tstS] at hc17
  refine cskip ?_
  have e : doUp S o = ({ S with sessions := S.sessions.eraseIdx k }, ⟨0, [], 0⟩) := by rw [doUp, hf]; dsimp only; rw [hx, if_neg (by assumption), if_neg (by assumption)]
  exact ⟨_, vT, S.things, 0, subs, hJ, hb0, hoT, hoG, hoS, hb4, e⟩
 rintro e9 w9 ⟨c9, vT', T', n', hsub, hJ, hb0, hoT, hoG, hoS, hb4, e⟩
 refine WC.sub hsub ?_
 clear hsub e9
 have hSr := (hoS.rdS (by omega) z3).now
 have p3 := hoT.oneC
 refine cseq <| WC.regionD (Kp c9 w9 [99]) [0, 0, 0, 0, 1, 0, 0, 2, 0, 0, 0, 1, 0, 0, 0, 2, 0, 0, 3] [0, 1, 2, 3, 4, 5, 6, 8, 9, 10, 11, 12, 13, 14, 7, 15, 16, 17, 18] mixed (by kernel_rfl) ?_
 have hM26 := Mv.drew c9 w9 []
 have hCw := Mv.drew c9 w9 [99]
 generalize w9.drew = w26 at hM26 hCw ⊢
 have hb00 := hb0
 have hb40 := hb4
 replace hJ := hJ.mv hM26; replace hb0 := hb0.mv hM26; replace hoT := hoT.mv hM26; replace hoG := hoG.mv hM26; replace hoS := hoS.mv hM26; replace hb4 := hb4.mv hM26
 refine zdm rfl rfl <| zdm rfl rfl <| vd rfl (fun _ => Val.nilCheck rfl) <| vd rfl (fun _ => Val.fieldAddr fld26_2 rfl) <| vc rfl hCw.kp (fun W hW => Val.loadB scl24 rfl (hb00.kp hW rfl).blk rfl) <| zdm rfl rfl <| vd rfl (fun _ => Val.partTo sl24 rfl rfl (by omega) (by omega)) <| zdm rfl rfl <| vd rfl (fun _ => Val.nilCheck rfl) ?_
 refine vd rfl (fun _ => Val.fieldAddr fld26_2 rfl) <| vc rfl hCw.kp (fun W hW => Val.loadB scl24 rfl (hb00.kp hW rfl).blk rfl) <| zdm rfl rfl <| vd rfl (fun _ => Val.addI rfl rfl side side) <| vd rfl (fun _ => Val.partFrom sl24 rfl rfl (by omega) (by omega)) ?_
 refine WD.eff rfl rfl rfl (Eff.pureC c9 99 (Eff.call pf26 rfl (copySessions_ok ((hoS.rdS (by omega) z3).now.to_ (hi := (k : Int).toNat) (by omega)) (by simp; omega)))) rfl ?_
 rintro v161 w27 ⟨c27, hM27, hx27, ho2⟩
 refine ⟨fun hC => hC.step hCw hM27 rfl, ?_⟩
 replace hCw := hCw.tr hM27 rfl
 replace hJ := hJ.mv hM27; replace hb0 := hb0.mv hM27; replace hoT := hoT.mv hM27; replace hoG := hoG.mv hM27; replace hoS := hoS.mv hM27; replace hb4 := hb4.mv hM27
 replace ho2 := ho2.toC hx27
 refine WD.eff rfl rfl rfl (Eff.appendC sl24 rfl rfl ho2 (Src.flat Tryz.underlying24 ((hoS.rdS (by omega) z3).now.from_ (lo := ((k : Int) + 1).toNat) (by omega))) mxl oms) rfl ?_
 rintro v169 w28 ⟨c28, hM28, hOq⟩
 refine ⟨fun hC => hC.step hCw hM28 rfl, ?_⟩
 replace hCw := hCw.tr hM28 rfl
 replace hJ := hJ.mv hM28; replace hb0 := hb0.mv hM28; replace hoT := hoT.mv hM28; replace hoG := hoG.mv hM28; replace hb4 := hb4.mv hM28
 replace ho2 := hOq
 have p1 := ho2.cellsV; have p2 := ho2.oneC
 refine vd rfl (fun _ => Val.nilCheck rfl) <| vd rfl (fun _ => Val.fieldAddr fld26_2 rfl) <| WD.wild rfl rfl rfl (Eff.storeC scl24 rfl rfl ra ra hb0 rfl) ?_
 rintro _ w29 ⟨hS, hM29⟩
 try replace hCw := hCw.tr hM29 rfl
 replace hJ := hJ.mv hM29; replace hoT := hoT.mv hM29; replace hoG := hoG.mv hM29; replace hb4 := hb4.mv hM29; replace ho2 := ho2.mv hM29
 replace hb0 := hS
 refine WD.nil ?_
 clear hb00 hb40
 clear hCw
 refine cseq <| cg <| zm rfl <| vq (Val.build (cells := #[I n', St [], I 0]) rfl (by kernel_rfl)) ?_
 refine WR.eff_ (Eff.storeNC agg51 rfl rfl hb4 rfl rfl ones) ?_
 rintro _ w30 ⟨hS, hM30⟩
 replace hJ := hJ.mv hM30; replace hb0 := hb0.mv hM30; replace hoT := hoT.mv hM30; replace hoG := hoG.mv hM30; replace ho2 := ho2.mv hM30
 replace hb4 := hS
 refine cnil <| WC.retR1 rfl (RVal.cellN agg51 rfl hb4.blk rfl) ?_
 rw [e]
 obtain ⟨c8, hM8, ho73, hoO, hbO⟩ := hJ.outM (i := 73) (j := 99) rfl
 have ek : ((k : Int) + 1).toNat = k + 1 := by omega
 rw [ek, Int.toNat_natCast, ← List.flatMap_append, ← List.length_append, ← List.eraseIdx_eq_take_drop_succ] at ho2
 exact ⟨c8, hM8, ⟨_, vG, _, hbO hb0 rfl, hoO hoT rfl, hoO hoG rfl, ho73 ho2⟩, rfl⟩
end Go.Proofs.YtdlpibhecdfbcabGreatDoor

namespace Go.Proofs.YtdlpibhecdfbcabGreatDoor
open Go Go.Eng Go.RowKit Silo TryzT
set_option maxHeartbeats 2000000 in
theorem pthing_ok {c : Nat → Nat} {w : World} {b : Nat} {S : Sta} {o : MOp} (h : StaO c w b S) (hS : SmallS S) (hO : SmallO o) (hko : 4 ≤ o.kind ∧ o.kind ≤ 7) : Calls Tryz.prog 65 #[.pointer (some ⟨b, 0, none⟩), .agg (encOp o).toArray] w (Ret fun v w' => ∃ c', Mv c w c' w' colS ∧ StaO c' w' b (doThing S o).1 ∧ v = .agg (encRep (doThing S o).2).toArray) := by
 obtain ⟨vT, vG, vS, hb0, hoT, hoG, hoS⟩ := h
 obtain ⟨z1, z2, z3, z4, z5, z6, z7⟩ := hS
 obtain ⟨⟨y1, y2, y3, y4⟩, y5, y6, y7⟩ := hO
 have hJ := OldJ.start c w colS
 replace hb0 := hb0.inn (J := colS) rfl
 replace hoT := hoT.inn (J := colS) rfl
 replace hoG := hoG.inn (J := colS) rfl
 replace hoS := hoS.inn (J := colS) rfl
 generalize mask c colS = c0 at hJ hb0 hoT hoG hoS
 have q1 := hoT.oneC; have q2 := hoG.oneC; have q3 := hoS.oneC
 have hz1 := fun t ht => (z1 t ht).2
 refine enter (n := 117) (res := #[.cell 4 51]) Tryz.func65 rfl rfl rfl rfl <| cseq <| cg <| ve (Eff.boxC c0 103 rfl) ?_
 rintro _ w1 ⟨b3, c1, rfl, hM1, hb3⟩
 replace hJ := hJ.mv hM1; replace hb0 := hb0.mv hM1; replace hoT := hoT.mv hM1; replace hoG := hoG.mv hM1; replace hoS := hoS.mv hM1
 refine ve (Eff.allocC c1 104 zero51) ?_
 rintro _ w2 ⟨b4, c2, rfl, hM2, hb4⟩
 replace hJ := hJ.mv hM2; replace hb0 := hb0.mv hM2; replace hoT := hoT.mv hM2; replace hoG := hoG.mv hM2; replace hoS := hoS.mv hM2; replace hb3 := hb3.mv hM2
 refine cnil <| cseq <| WC.regionD (Kp c2 w2 []) [0, 0, 0, 1, 0, 1, 2, 0] [0, 1, 2, 3, 4, 5, 6, 7] mixed (by kernel_rfl) ?_
 have hM3 := Mv.drew c2 w2 []
 have hCw := Mv.drew c2 w2 []
 generalize w2.drew = w3 at hM3 hCw ⊢
 have hb00 := hb0
 have hb30 := hb3
 have hb40 := hb4
 replace hJ := hJ.mv hM3; replace hb0 := hb0.mv hM3; replace hoT := hoT.mv hM3; replace hoG := hoG.mv hM3; replace hoS := hoS.mv hM3; replace hb3 := hb3.mv hM3; replace hb4 := hb4.mv hM3
 refine zdm rfl rfl <| vd rfl (fun _ => Val.nilCheck rfl) <| vd rfl (fun _ => Val.fieldAddr fld26_0 rfl) <| vc rfl hCw.kp (fun W hW => Val.loadB scl22 rfl (hb00.kp hW rfl).blk rfl) <| vd rfl (fun _ => Val.fieldAddr fld33_5 rfl) <| vc rfl hCw.kp (fun W hW => Val.loadB scl9 rfl (hb30.kp hW rfl).blk rfl) <| WD.eff rfl rfl rfl (Eff.pureC c2 1 (Eff.call pf40 rfl (at_ok (hoT.rdT (by omega) z1).now))) rfl ?_
 rintro v14 w4 ⟨c4, hM4, hx4, rfl⟩
 refine ⟨fun hC => hC.step hCw hM4 rfl, ?_⟩
 replace hCw := hCw.tr hM4 rfl
 replace hJ := hJ.mv hM4; replace hb0 := hb0.mv hM4; replace hoT := hoT.mv hM4; replace hoG := hoG.mv hM4; replace hoS := hoS.mv hM4; replace hb3 := hb3.mv hM4; replace hb4 := hb4.mv hM4
 refine zda rfl rfl <| WD.nil ?_
 clear hb00 hb30 hb40
 clear hCw
 refine cseq <| cseq <| cg <| zm rfl <| vq (Val.lss rfl rfl) <| cnil <| WC.cond rfl (fun hc2 => ?_) (fun hc2 => ?_)
 ·try simp only [tstS] at hc2
  refine cseq <| cg <| vq (Val.build (cells := #[I 0, St [], I 3]) rfl (by kernel_rfl)) ?_
  refine WR.eff_ (Eff.storeNC agg51 rfl rfl hb4 rfl rfl ones) ?_
  rintro _ w5 ⟨hS, hM5⟩
  replace hJ := hJ.mv hM5; replace hb0 := hb0.mv hM5; replace hoT := hoT.mv hM5; replace hoG := hoG.mv hM5; replace hoS := hoS.mv hM5
  replace hb4 := hS
  refine cnil <| WC.retR1 rfl (RVal.cellN agg51 rfl hb4.blk rfl) ?_
  have e : doThing S o = bad S 3 := by
    cases hf : findT S.things o.digest with
    | none => rw [doThing, hf]
    | some k => have := at_noneI (T := S.things) (d := o.digest) (by assumption); rw [hf] at this; cases this
  rw [e]
  exact ⟨_, hJ.out, ⟨_, vG, vS, hb0.out hJ rfl, hoT.out hJ rfl, hoG.out hJ rfl, hoS.out hJ rfl⟩, rfl⟩
 try simp only [tstS] at hc2
 obtain ⟨k, hf⟩ := Option.isSome_iff_exists.1 (at_someI (T := S.things) (d := o.digest) (by assumption))
 rw [show atT S.things o.digest = (k : Int) by rw [atT, hf]]
 obtain ⟨hk, hkd⟩ := findT_some hf
 have hx : ((S.things[k]?).map Thg.text).getD [] = S.things[k].text := by rw [List.getElem?_eq_getElem hk]; rfl
 have hxt := (z1 _ (List.getElem_mem hk)).2
 obtain ⟨hc23, _⟩ := RdC.elFlat (hoT.rdT (by omega) z1) hk (by decide)
 have hc24 := hc23.at_ (i := 1) rfl
 clear hc23
 refine cskip <| cseq <| cg <| zm rfl <| vq (Val.nilCheck rfl) <| vq (Val.fieldAddr fld26_0 rfl) <| vq (Val.loadB scl22 rfl hb0.blk rfl) <| zm rfl <| vq (Val.indexO sl22 hoT rfl rfl (by omega) (by omega)) ?_
 first | refine vq (Val.fieldAddr fld60_1 rfl) ?_ | refine vq (Val.fieldAddrP fld60_1 rfl) ?_
 refine vq (Val.loadE1 scl9 rfl hc24.cel) <| za rfl ?_
 clear hc24
 generalize htx : S.things[k].text = t at hx hxt ⊢
 refine cnil <| cseq <| cseq <| cg <| vq (Val.fieldAddr fld33_0 rfl) <| vq (Val.loadB scl3 rfl hb3.blk rfl) <| cnil <| cblock <| cseq <| cg <| vq (Val.eql rfl rfl) <| za rfl <| cnil <| WC.cond rfl (fun hc6 => ?_) (fun hc6 => ?_)
 ·try simp only [tstS] at hc6
  refine cseq <| cg <| zm rfl <| vq (Val.build (cells := #[I 0, St t, I 0]) rfl (by kernel_rfl)) ?_
  refine WR.eff_ (Eff.storeNC agg51 rfl rfl hb4 rfl rfl ones) ?_
  rintro _ w6 ⟨hS, hM6⟩
  replace hJ := hJ.mv hM6; replace hb0 := hb0.mv hM6; replace hoT := hoT.mv hM6; replace hoG := hoG.mv hM6; replace hoS := hoS.mv hM6
  replace hb4 := hS
  refine cnil <| WC.retR1 rfl (RVal.cellN agg51 rfl hb4.blk rfl) ?_
  have e : doThing S o = (S, ⟨0, t, 0⟩) := by rw [doThing, hf]; dsimp only; rw [hx, if_pos (by assumption)]
  rw [e]
  exact ⟨_, hJ.out, ⟨_, vG, vS, hb0.out hJ rfl, hoT.out hJ rfl, hoG.out hJ rfl, hoS.out hJ rfl⟩, rfl⟩
 try simp only [tstS] at hc6
 have k4 : ¬ o.kind = 4 := by assumption
 refine cseq <| cg <| vq (Val.eql rfl rfl) <| za rfl <| cnil <| WC.cond rfl (fun hc8 => ?_) (fun hc8 => ?_)
 ·try simp only [tstS] at hc8
  refine cseq <| cg <| zm rfl <| vq (Val.slen Tryz.underlying9 rfl) <| vq (Val.build (cells := #[I (t.length : Nat), St [], I 0]) rfl (by kernel_rfl)) ?_
  refine WR.eff_ (Eff.storeNC agg51 rfl rfl hb4 rfl rfl ones) ?_
  rintro _ w7 ⟨hS, hM7⟩
  replace hJ := hJ.mv hM7; replace hb0 := hb0.mv hM7; replace hoT := hoT.mv hM7; replace hoG := hoG.mv hM7; replace hoS := hoS.mv hM7
  replace hb4 := hS
  refine cnil <| WC.retR1 rfl (RVal.cellN agg51 rfl hb4.blk rfl) ?_
  have e : doThing S o = (S, ⟨(t.length : Nat), [], 0⟩) := by rw [doThing, hf]; dsimp only; rw [hx, if_neg k4, if_pos (by assumption)]
  rw [e]
  exact ⟨_, hJ.out, ⟨_, vG, vS, hb0.out hJ rfl, hoT.out hJ rfl, hoG.out hJ rfl, hoS.out hJ rfl⟩, rfl⟩
 try simp only [tstS] at hc8
 have k5 : ¬ o.kind = 5 := by assumption
 refine cseq <| cg <| vq (Val.eql rfl rfl) <| za rfl <| cnil <| WC.cond rfl (fun hc10 => ?_) (fun hc10 => ?_)
 ·try simp only [tstS] at hc10
  have k6 : o.kind = 6 := by assumption
  refine cseq <| cseq <| cg <| vq (Val.fieldAddr fld33_2 rfl) <| vq (Val.loadB scl3 rfl hb3.blk rfl) <| zm rfl <| vq (Val.slen Tryz.underlying9 rfl) <| ve (Eff.pureC c4 1 (Eff.call pf37 rfl (num_ok o.n t.length))) ?_
  rintro v43 w8 ⟨c8, hM8, hx8, rfl⟩
  replace hJ := hJ.mv hM8; replace hb0 := hb0.mv hM8; replace hoT := hoT.mv hM8; replace hoG := hoG.mv hM8; replace hoS := hoS.mv hM8; replace hb3 := hb3.mv hM8; replace hb4 := hb4.mv hM8
  refine vq (Val.not rfl) <| zm rfl ?_
  apply WR.sc false 3 _ (fun w' => w8 = w')
  case hl | hg | hu | hv | hs | hoff | hd => rfl
  case hF => exact fun _ => rfl
  case hT =>
   intro hq10
   try simp only [tstS] at hq10
   simp only [List.take_succ_cons, List.take_zero]
   refine WR.on rfl rfl <| vq (Val.fieldAddr fld33_3 rfl) <| WR.on rfl rfl <| vq (Val.loadB scl3 rfl hb3.blk rfl) <| WR.on rfl rfl <| vq (Val.lss rfl rfl) ?_
   exact WR.nil ⟨rfl, Sub.drop _ 3 _ rfl rfl, rfl⟩
  rintro _ rfl
  refine cnil <| WC.cond rfl (fun hc11 => ?_) (fun hc11 => ?_)
  ·try simp only [tstS] at hc11
   refine cseq <| cg <| vq (Val.build (cells := #[I 0, St [], I 1]) rfl (by kernel_rfl)) ?_
   refine WR.eff_ (Eff.storeNC agg51 rfl rfl hb4 rfl rfl ones) ?_
   rintro _ w9 ⟨hS, hM9⟩
   replace hJ := hJ.mv hM9; replace hb0 := hb0.mv hM9; replace hoT := hoT.mv hM9; replace hoG := hoG.mv hM9; replace hoS := hoS.mv hM9
   replace hb4 := hS
   refine cnil <| WC.retR1 rfl (RVal.cellN agg51 rfl hb4.blk rfl) ?_
   have e : doThing S o = bad S 1 := by
     rw [doThing, hf]; dsimp only
     rw [hx, if_neg k4, if_neg k5, if_pos k6, if_pos]
     try simp only [Bool.and_eq_false_iff, decide_eq_false_iff_not] at hc11
     omega
   rw [e]
   exact ⟨_, hJ.out, ⟨_, vG, vS, hb0.out hJ rfl, hoT.out hJ rfl, hoG.out hJ rfl, hoS.out hJ rfl⟩, rfl⟩
  try simp only [tstS] at hc11
  refine cskip <| cseq ?_
  have hcc := hc11
  try simp only [Bool.and_eq_true, decide_eq_true_eq] at hcc
  obtain ⟨mm, hmm⟩ : ∃ mm : Int, mm = min o.m ((t.length : Int) - o.n) := ⟨_, rfl⟩
  refine cg <| zm rfl <| vq (Val.fieldAddr fld33_2 rfl) <| vq (Val.loadB scl3 rfl hb3.blk rfl) <| vq (Val.fieldAddr fld33_2 rfl) <| vq (Val.loadB scl3 rfl hb3.blk rfl) <| vq (Val.fieldAddr fld33_3 rfl) <| vq (Val.loadB scl3 rfl hb3.blk rfl) <| zm rfl <| vq (Val.slen Tryz.underlying9 rfl) <| vq (Val.fieldAddr fld33_2 rfl) <| vq (Val.loadB scl3 rfl hb3.blk rfl) <| vq (Val.subI rfl rfl side side) <| vq (Val.minI rfl rfl) ?_
  rw [← hmm]
  refine vq (Val.addI rfl rfl side side) <| vq (Val.sslice Tryz.underlying9 rfl rfl rfl (by omega) (by omega) (by omega)) ?_
  rw [show (o.n + mm).toNat - o.n.toNat = mm.toNat by omega]
  refine vq (Val.build (cells := #[I 0, St ((t.drop o.n.toNat).take mm.toNat), I 0]) rfl (by kernel_rfl)) ?_
  refine WR.eff_ (Eff.storeNC agg51 rfl rfl hb4 rfl rfl ones) ?_
  rintro _ w10 ⟨hS, hM10⟩
  replace hJ := hJ.mv hM10; replace hb0 := hb0.mv hM10; replace hoT := hoT.mv hM10; replace hoG := hoG.mv hM10; replace hoS := hoS.mv hM10
  replace hb4 := hS
  refine cnil <| WC.retR1 rfl (RVal.cellN agg51 rfl hb4.blk rfl) ?_
  have e : doThing S o = (S, ⟨0, (t.drop o.n.toNat).take mm.toNat, 0⟩) := by rw [doThing, hf]; dsimp only; rw [hx, if_neg k4, if_neg k5, if_pos k6, if_neg (by omega), ← hmm]
  rw [e]
  exact ⟨_, hJ.out, ⟨_, vG, vS, hb0.out hJ rfl, hoT.out hJ rfl, hoG.out hJ rfl, hoS.out hJ rfl⟩, rfl⟩
 try simp only [tstS] at hc10
 have k6 : ¬ o.kind = 6 := by assumption
 refine cskip <| cseq <| cseq <| cg <| za rfl <| cnil <| cblock <| WC.loop (σ := Nat) (fun i => [(0, .pointer (some ⟨b, 0, none⟩)), (3, .pointer (some ⟨b3, 0, none⟩)), (4, .pointer (some ⟨b4, 0, none⟩)), (5, I k), (7, I i)]) (fun i w' => ∃ c', OldJ c w colS c' w' ∧ BlkC c' w' 70 b [vT, vG, vS, I S.next] 26 ∧ OwnC c' w' 71 60 3 vT S.things.length (S.things.flatMap encThg) ∧ OwnC c' w' 72 66 2 vG S.tags.length (S.tags.flatMap encTg) ∧ OwnC c' w' 73 63 2 vS S.sessions.length (S.sessions.flatMap encSes) ∧ BlkC c' w' 103 b3 (encOp o) 33 ∧ BlkC c' w' 104 b4 [I 0, St [], I 0] 51 ∧ i ≤ S.tags.length ∧ ∀ x ∈ S.tags.take i, (fun g : Tg => g.digest == o.digest) x = false) (fun i => S.tags.length - i) 0 subs ⟨_, hJ, hb0, hoT, hoG, hoS, hb3, hb4, by omega, by simp⟩ ?_
 clear hJ hb0 hoT hoG hoS hb3 hb4
 rintro i wl ⟨cl, hJ, hb0, hoT, hoG, hoS, hb3, hb4, hi, hn⟩
 refine cseq <| cseq <| cg <| zm rfl <| zm rfl <| vq (Val.nilCheck rfl) <| vq (Val.fieldAddr fld26_1 rfl) <| vq (Val.loadB scl23 rfl hb0.blk rfl) <| vq (Val.olen sl23 hoG rfl) <| vq (Val.lss rfl rfl) <| cnil <| WC.cond rfl (fun hc15 => ?_) (fun hc15 => ?_)
 ·try simp only [tstS] at hc15
  have ia : i < S.tags.length := by omega
  obtain ⟨hc81, _⟩ := RdC.elFlat (hoG.rdG (by omega) z2) ia (by decide)
  have hc82 := hc81.at_ (i := 1) rfl
  clear hc81
  refine cskip <| cseq <| cblock <| cseq <| WC.regionD (Kp cl wl []) [0, 0, 0, 1, 0, 0, 0, 1, 0, 1, 0] [0, 1, 2, 3, 4, 5, 6, 7, 8, 9, 10] mixed (by kernel_rfl) ?_
  have hM11 := Mv.drew cl wl []
  have hCw := Mv.drew cl wl []
  generalize wl.drew = w11 at hM11 hCw ⊢
  have hb00 := hb0
  have hb30 := hb3
  have hb40 := hb4
  have hc820 := hc82
  replace hJ := hJ.mv hM11; replace hb0 := hb0.mv hM11; replace hoT := hoT.mv hM11; replace hoG := hoG.mv hM11; replace hoS := hoS.mv hM11; replace hb3 := hb3.mv hM11; replace hb4 := hb4.mv hM11
  refine zdm rfl rfl <| vd rfl (fun _ => Val.nilCheck rfl) <| vd rfl (fun _ => Val.fieldAddr fld26_1 rfl) <| vc rfl hCw.kp (fun W hW => Val.loadB scl23 rfl (hb00.kp hW rfl).blk rfl) <| zdm rfl rfl <| vd rfl (fun _ => Val.indexO sl23 hoG rfl rfl (by omega) (by omega)) ?_
  first | refine vd rfl (fun _ => Val.fieldAddr fld66_1 rfl) ?_ | refine vd rfl (fun _ => Val.fieldAddrP fld66_1 rfl) ?_
  refine vc rfl hCw.kp (fun W hW => Val.loadE1 scl9 rfl (hc820.kp hW rfl).cel) <| vd rfl (fun _ => Val.fieldAddr fld33_5 rfl) <| vc rfl hCw.kp (fun W hW => Val.loadB scl9 rfl (hb30.kp hW rfl).blk rfl) <| vd rfl (fun _ => Val.seq_ rfl rfl) <| WD.nil ?_
  clear hb00 hb30 hb40 hc820
  clear hCw
  refine WC.cond rfl (fun hc17 => ?_) (fun hc17 => ?_)
  ·try simp only [tstS] at hc17
   refine cseq <| cg <| vq (Val.build (cells := #[I 0, St [], I 11]) rfl (by kernel_rfl)) ?_
   refine WR.eff_ (Eff.storeNC agg51 rfl rfl hb4 rfl rfl ones) ?_
   rintro _ w12 ⟨hS, hM12⟩
   replace hJ := hJ.mv hM12; replace hb0 := hb0.mv hM12; replace hoT := hoT.mv hM12; replace hoG := hoG.mv hM12; replace hoS := hoS.mv hM12
   replace hb4 := hS
   refine cnil <| WC.retR1 rfl (RVal.cellN agg51 rfl hb4.blk rfl) ?_
   have e : doThing S o = bad S 11 := by
     rw [doThing, hf]; dsimp only
     rw [if_neg k4, if_neg k5, if_neg k6, if_pos]
     rw [List.any_eq_true.2 ⟨_, List.getElem_mem ia, hc17⟩]; rfl
   rw [e]
   exact ⟨_, hJ.out, ⟨_, vG, vS, hb0.out hJ rfl, hoT.out hJ rfl, hoG.out hJ rfl, hoS.out hJ rfl⟩, rfl⟩
  try simp only [tstS] at hc17
  refine cskip <| cg <| zm rfl <| vq (Val.addI rfl rfl side side) <| za rfl <| cnil ?_
  exact ⟨i + 1, subs, ⟨_, hJ, hb0, hoT, hoG, hoS, hb3, hb4, ia, any_next (q := fun g : Tg => g.digest == o.digest) hn ia hc17⟩, by omega⟩
 try simp only [tstS] at hc15
 have hany := any_no hn (by omega)
 refine WC.exit rfl <| cseq <| cseq ?_
 obtain ⟨gT, cpT, rfl, hncp, hm1⟩ := hoT.posForm (by omega)
 refine WC.regionD (Kp cl wl []) [0, 0, 0, 1, 0, 1, 2, 0, 0] [0, 1, 2, 3, 4, 5, 6, 7, 8] mixed (by kernel_rfl) ?_
 have hM13 := Mv.drew cl wl []
 have hCw := Mv.drew cl wl []
 generalize wl.drew = w13 at hM13 hCw ⊢
 have hb00 := hb0
 have hb30 := hb3
 have hb40 := hb4
 replace hJ := hJ.mv hM13; replace hb0 := hb0.mv hM13; replace hoT := hoT.mv hM13; replace hoG := hoG.mv hM13; replace hoS := hoS.mv hM13; replace hb3 := hb3.mv hM13; replace hb4 := hb4.mv hM13
 refine zdm rfl rfl <| vd rfl (fun _ => Val.nilCheck rfl) <| vd rfl (fun _ => Val.fieldAddr fld26_0 rfl) <| vc rfl hCw.kp (fun W hW => Val.loadB scl22 rfl (hb00.kp hW rfl).blk rfl) <| vd rfl (fun _ => Val.fieldAddr fld33_5 rfl) <| vc rfl hCw.kp (fun W hW => Val.loadB scl9 rfl (hb30.kp hW rfl).blk rfl) <| WD.eff rfl rfl rfl (Eff.pureC cl 60 (Eff.call pf96 rfl (pusers_ok (hoT.rdT (by omega) z1).now hz1 (by omega)))) rfl ?_
 rintro v94 w14 ⟨c14, hM14, hx14, hu⟩
 refine ⟨fun hC => hC.step hCw hM14 rfl, ?_⟩
 replace hCw := hCw.tr hM14 rfl
 replace hJ := hJ.mv hM14; replace hb0 := hb0.mv hM14; replace hoT := hoT.mv hM14; replace hoG := hoG.mv hM14; replace hoS := hoS.mv hM14; replace hb3 := hb3.mv hM14; replace hb4 := hb4.mv hM14
 replace hu := hu.toC hx14
 refine vd rfl (fun _ => Val.olen sl70 hu rfl) <| vd rfl (fun _ => Val.gtr rfl rfl) <| WD.nil ?_
 clear hb00 hb30 hb40
 clear hCw
 refine WC.cond rfl (fun hc19 => ?_) (fun hc19 => ?_)
 ·try simp only [tstS] at hc19
  refine cseq <| cg <| vq (Val.build (cells := #[I 0, St [], I 11]) rfl (by kernel_rfl)) ?_
  refine WR.eff_ (Eff.storeNC agg51 rfl rfl hb4 rfl rfl ones) ?_
  rintro _ w15 ⟨hS, hM15⟩
  replace hJ := hJ.mv hM15; replace hb0 := hb0.mv hM15; replace hoT := hoT.mv hM15; replace hoG := hoG.mv hM15; replace hoS := hoS.mv hM15
  replace hb4 := hS
  refine cnil <| WC.retR1 rfl (RVal.cellN agg51 rfl hb4.blk rfl) ?_
  have e : doThing S o = bad S 11 := by
    rw [doThing, hf]; dsimp only
    rw [if_neg k4, if_neg k5, if_neg k6, if_pos]
    rw [Bool.or_eq_true, decide_eq_true_eq]; exact .inr (by omega)
  rw [e]
  exact ⟨_, hJ.out, ⟨_, vG, vS, hb0.out hJ rfl, hoT.out hJ rfl, hoG.out hJ rfl, hoS.out hJ rfl⟩, rfl⟩
 try simp only [tstS] at hc19
 refine cskip <| cseq <| WC.regionD (Kp c14 w14 [99]) [0, 0, 0, 0, 1, 0, 0, 2, 0, 0, 0, 1, 0, 0, 0, 2, 0, 0, 3] [0, 1, 2, 3, 4, 5, 6, 8, 9, 10, 11, 12, 13, 14, 7, 15, 16, 17, 18] mixed (by kernel_rfl) ?_
 have hM16 := Mv.drew c14 w14 []
 have hCw := Mv.drew c14 w14 [99]
 generalize w14.drew = w16 at hM16 hCw ⊢
 have hb00 := hb0
 have hb30 := hb3
 have hb40 := hb4
 replace hJ := hJ.mv hM16; replace hb0 := hb0.mv hM16; replace hoT := hoT.mv hM16; replace hoG := hoG.mv hM16; replace hoS := hoS.mv hM16; replace hb4 := hb4.mv hM16
 refine zdm rfl rfl <| zdm rfl rfl <| vd rfl (fun _ => Val.nilCheck rfl) <| vd rfl (fun _ => Val.fieldAddr fld26_0 rfl) <| vc rfl hCw.kp (fun W hW => Val.loadB scl22 rfl (hb00.kp hW rfl).blk rfl) <| zdm rfl rfl <| vd rfl (fun _ => Val.partTo sl22 rfl rfl (by omega) (by omega)) <| zdm rfl rfl <| vd rfl (fun _ => Val.nilCheck rfl) ?_
 refine vd rfl (fun _ => Val.fieldAddr fld26_0 rfl) <| vc rfl hCw.kp (fun W hW => Val.loadB scl22 rfl (hb00.kp hW rfl).blk rfl) <| zdm rfl rfl <| vd rfl (fun _ => Val.addI rfl rfl side side) <| vd rfl (fun _ => Val.partFrom sl22 rfl rfl (by omega) (by omega)) ?_
 refine WD.eff rfl rfl rfl (Eff.pureC c14 99 (Eff.call pf24 rfl (copyThings_ok ((hoT.rdT (by omega) z1).now.to_ (hi := (k : Int).toNat) (by omega)) (by simp; omega)))) rfl ?_
 rintro v105 w17 ⟨c17, hM17, hx17, ho2⟩
 refine ⟨fun hC => hC.step hCw hM17 rfl, ?_⟩
 replace hCw := hCw.tr hM17 rfl
 replace hJ := hJ.mv hM17; replace hb0 := hb0.mv hM17; replace hoT := hoT.mv hM17; replace hoG := hoG.mv hM17; replace hoS := hoS.mv hM17; replace hb4 := hb4.mv hM17
 replace ho2 := ho2.toC hx17
 refine WD.eff rfl rfl rfl (Eff.appendC sl22 rfl rfl ho2 (Src.flat Tryz.underlying22 ((hoT.rdT (by omega) z1).now.from_ (lo := ((k : Int) + 1).toNat) (by omega))) mxl oms) rfl ?_
 rintro v113 w18 ⟨c18, hM18, hOq⟩
 refine ⟨fun hC => hC.step hCw hM18 rfl, ?_⟩
 replace hCw := hCw.tr hM18 rfl
 replace hJ := hJ.mv hM18; replace hb0 := hb0.mv hM18; replace hoG := hoG.mv hM18; replace hoS := hoS.mv hM18; replace hb4 := hb4.mv hM18
 replace ho2 := hOq
 have p1 := ho2.cellsV; have p2 := ho2.oneC
 refine vd rfl (fun _ => Val.nilCheck rfl) <| vd rfl (fun _ => Val.fieldAddr fld26_0 rfl) <| WD.wild rfl rfl rfl (Eff.storeC scl22 rfl rfl ra ra hb0 rfl) ?_
 rintro _ w19 ⟨hS, hM19⟩
 try replace hCw := hCw.tr hM19 rfl
 replace hJ := hJ.mv hM19; replace hoG := hoG.mv hM19; replace hoS := hoS.mv hM19; replace hb4 := hb4.mv hM19; replace ho2 := ho2.mv hM19
 replace hb0 := hS
 refine WD.nil ?_
 clear hb00 hb30 hb40
 clear hCw
 refine cseq <| cg <| vq (Val.build (cells := #[.int .i64 0, .string ⟨[].toArray⟩, .int .i64 0]) rfl (by kernel_rfl)) ?_
 refine WR.eff_ (Eff.storeNC agg51 rfl rfl hb4 rfl rfl ones) ?_
 rintro _ w20 ⟨hS, hM20⟩
 replace hJ := hJ.mv hM20; replace hb0 := hb0.mv hM20; replace hoG := hoG.mv hM20; replace hoS := hoS.mv hM20; replace ho2 := ho2.mv hM20
 replace hb4 := hS
 refine cnil <| WC.retR1 rfl (RVal.cellN agg51 rfl hb4.blk rfl) ?_
 have e : doThing S o = ({ S with things := S.things.eraseIdx k }, ⟨0, [], 0⟩) := by
   rw [doThing, hf]; dsimp only
   rw [if_neg k4, if_neg k5, if_neg k6, if_neg]
   rw [hany, decide_eq_false (by omega)]; decide
 rw [e]
 obtain ⟨c8, hM8, ho71, hoO, hbO⟩ := hJ.outM (i := 71) (j := 99) rfl
 have ek : ((k : Int) + 1).toNat = k + 1 := by omega
 rw [ek, Int.toNat_natCast, ← List.flatMap_append, ← List.length_append, ← List.eraseIdx_eq_take_drop_succ] at ho2
 exact ⟨c8, hM8, ⟨_, vG, vS, hbO hb0 rfl, ho71 ho2, hoO hoG rfl, hoO hoS rfl⟩, rfl⟩
end Go.Proofs.YtdlpibhecdfbcabGreatDoor

namespace Go.Proofs.YtdlpibhecdfbcabGreatDoor
open Go Go.Eng Go.RowKit Silo TryzT
set_option maxHeartbeats 4000000 in
theorem pdoes_ok {c : Nat → Nat} {w : World} {b : Nat} {S : Sta} {o : MOp} (h : StaO c w b S) (hS : SmallS S) (hO : SmallO o) (hr : RiseT S.things) : Calls Tryz.prog 47 #[.pointer (some ⟨b, 0, none⟩), .agg (encOp o).toArray] w (Ret fun v w' => ∃ c', Mv c w c' w' colS ∧ StaO c' w' b (doM S o).1 ∧ v = .agg (encRep (doM S o).2).toArray) := by
 obtain ⟨vT, vG, vS, hb0, hoT, hoG, hoS⟩ := h
 have hsm := hS
 obtain ⟨z1, z2, z3, z4, z5, z6, z7⟩ := hS
 have hsO := hO
 obtain ⟨⟨y1, y2, y3, y4⟩, y5, y6, y7⟩ := hO
 have hJ := OldJ.start c w colS
 replace hb0 := hb0.inn (J := colS) rfl
 replace hoT := hoT.inn (J := colS) rfl
 replace hoG := hoG.inn (J := colS) rfl
 replace hoS := hoS.inn (J := colS) rfl
 generalize mask c colS = c0 at hJ hb0 hoT hoG hoS
 have q1 := hoT.oneC; have q2 := hoG.oneC; have q3 := hoS.oneC
 refine enter (n := 308) (res := #[.cell 4 51]) Tryz.func47 rfl rfl rfl rfl <| cseq <| cg <| ve (Eff.boxC c0 103 rfl) ?_
 rintro _ w1 ⟨b3, c1, rfl, hM1, hb3⟩
 replace hJ := hJ.mv hM1; replace hb0 := hb0.mv hM1; replace hoT := hoT.mv hM1; replace hoG := hoG.mv hM1; replace hoS := hoS.mv hM1
 refine ve (Eff.allocC c1 104 zero51) ?_
 rintro _ w2 ⟨b4, c2, rfl, hM2, hb4⟩
 replace hJ := hJ.mv hM2; replace hb0 := hb0.mv hM2; replace hoT := hoT.mv hM2; replace hoG := hoG.mv hM2; replace hoS := hoS.mv hM2; replace hb3 := hb3.mv hM2
 refine cnil <| cseq <| cseq <| cg <| vq (Val.fieldAddr fld33_0 rfl) <| vq (Val.loadB scl3 rfl hb3.blk rfl) <| cnil <| cblock <| cseq <| cseq <| cg <| vq (Val.eql rfl rfl) <| za rfl <| cnil ?_
 refine WC.mono (N := (fun e w' => ∃ (c' : Nat → Nat), Sub [(4000000, .tuple #[]), (0, .pointer (some ⟨b, 0, none⟩)), (3, .pointer (some ⟨b3, 0, none⟩)), (4, .pointer (some ⟨b4, 0, none⟩)), (21, I o.kind), (22, .bool (decide (o.kind = 1) || decide (o.kind = 2) || decide (o.kind = 3) || decide (o.kind = 13)))] e ∧ OldJ c w colS c' w' ∧ BlkC c' w' 70 b [vT, vG, vS, I S.next] 26 ∧ OwnC c' w' 71 60 3 vT S.things.length (S.things.flatMap encThg) ∧ OwnC c' w' 72 66 2 vG S.tags.length (S.tags.flatMap encTg) ∧ OwnC c' w' 73 63 2 vS S.sessions.length (S.sessions.flatMap encSes) ∧ BlkC c' w' 103 b3 (encOp o) 33 ∧ BlkC c' w' 104 b4 [I 0, St [], I 0] 51)) ?_ ?_
 ·refine WC.cond rfl (fun hc2 => ?_) (fun hc2 => ?_)
  ·try simp only [tstS] at hc2
   refine cskip ?_
   have hn : o.kind = 1 := by assumption
   rw [show (decide (o.kind = 1) || decide (o.kind = 2) || decide (o.kind = 3) || decide (o.kind = 13)) = decide (o.kind = 1) by simp [hn]]
   exact ⟨_, subs, hJ, hb0, hoT, hoG, hoS, hb3, hb4⟩
  try simp only [tstS] at hc2
  refine cseq <| cg <| vq (Val.eql rfl rfl) <| za rfl <| cnil <| WC.cond rfl (fun hc3 => ?_) (fun hc3 => ?_)
  ·try simp only [tstS] at hc3
   refine cskip ?_
   have hn : ¬ o.kind = 1 := by assumption
   by_cases h2 : o.kind = 2
   · rw [show (decide (o.kind = 1) || decide (o.kind = 2) || decide (o.kind = 3) || decide (o.kind = 13)) = decide (o.kind = 2) by simp [h2]]
     first
       | exact absurd h2 (by assumption)
       | exact ⟨_, subs, hJ, hb0, hoT, hoG, hoS, hb3, hb4⟩
   by_cases h3 : o.kind = 3
   · rw [show (decide (o.kind = 1) || decide (o.kind = 2) || decide (o.kind = 3) || decide (o.kind = 13)) = decide (o.kind = 3) by simp [h3]]
     first
       | exact absurd (show o.kind = 2 by assumption) h2
       | exact absurd h3 (by assumption)
       | exact ⟨_, subs, hJ, hb0, hoT, hoG, hoS, hb3, hb4⟩
   rw [show (decide (o.kind = 1) || decide (o.kind = 2) || decide (o.kind = 3) || decide (o.kind = 13)) = decide (o.kind = 13) by simp [hn, h2, h3]]
   first
     | exact absurd (show o.kind = 2 by assumption) h2
     | exact absurd (show o.kind = 3 by assumption) h3
     | exact ⟨_, subs, hJ, hb0, hoT, hoG, hoS, hb3, hb4⟩
  try simp only [tstS] at hc3
  refine cseq <| cg <| vq (Val.eql rfl rfl) <| za rfl <| cnil <| WC.cond rfl (fun hc4 => ?_) (fun hc4 => ?_)
  ·try simp only [tstS] at hc4
   refine cskip ?_
   have hn : ¬ o.kind = 1 := by assumption
   by_cases h2 : o.kind = 2
   · rw [show (decide (o.kind = 1) || decide (o.kind = 2) || decide (o.kind = 3) || decide (o.kind = 13)) = decide (o.kind = 2) by simp [h2]]
     first
       | exact absurd h2 (by assumption)
       | exact ⟨_, subs, hJ, hb0, hoT, hoG, hoS, hb3, hb4⟩
   by_cases h3 : o.kind = 3
   · rw [show (decide (o.kind = 1) || decide (o.kind = 2) || decide (o.kind = 3) || decide (o.kind = 13)) = decide (o.kind = 3) by simp [h3]]
     first
       | exact absurd (show o.kind = 2 by assumption) h2
       | exact absurd h3 (by assumption)
       | exact ⟨_, subs, hJ, hb0, hoT, hoG, hoS, hb3, hb4⟩
   rw [show (decide (o.kind = 1) || decide (o.kind = 2) || decide (o.kind = 3) || decide (o.kind = 13)) = decide (o.kind = 13) by simp [hn, h2, h3]]
   first
     | exact absurd (show o.kind = 2 by assumption) h2
     | exact absurd (show o.kind = 3 by assumption) h3
     | exact ⟨_, subs, hJ, hb0, hoT, hoG, hoS, hb3, hb4⟩
  try simp only [tstS] at hc4
  refine cg <| vq (Val.eql rfl rfl) <| za rfl <| cnil ?_
  have hn : ¬ o.kind = 1 := by assumption
  by_cases h2 : o.kind = 2
  · rw [show (decide (o.kind = 1) || decide (o.kind = 2) || decide (o.kind = 3) || decide (o.kind = 13)) = decide (o.kind = 2) by simp [h2]]
    first
      | exact absurd h2 (by assumption)
      | exact ⟨_, subs, hJ, hb0, hoT, hoG, hoS, hb3, hb4⟩
  by_cases h3 : o.kind = 3
  · rw [show (decide (o.kind = 1) || decide (o.kind = 2) || decide (o.kind = 3) || decide (o.kind = 13)) = decide (o.kind = 3) by simp [h3]]
    first
      | exact absurd (show o.kind = 2 by assumption) h2
      | exact absurd h3 (by assumption)
      | exact ⟨_, subs, hJ, hb0, hoT, hoG, hoS, hb3, hb4⟩
  rw [show (decide (o.kind = 1) || decide (o.kind = 2) || decide (o.kind = 3) || decide (o.kind = 13)) = decide (o.kind = 13) by simp [hn, h2, h3]]
  first
    | exact absurd (show o.kind = 2 by assumption) h2
    | exact absurd (show o.kind = 3 by assumption) h3
    | exact ⟨_, subs, hJ, hb0, hoT, hoG, hoS, hb3, hb4⟩
 rintro e8 w8' ⟨c8', hsub, hJ, hb0, hoT, hoG, hoS, hb3, hb4⟩
 refine WC.sub hsub ?_
 clear hsub e8
 refine WC.cond rfl (fun hc2 => ?_) (fun hc2 => ?_)
 ·try simp only [tstS] at hc2
  have hk : o.kind = 1 ∨ o.kind = 2 ∨ o.kind = 3 ∨ o.kind = 13 := by omega
  have hst : StaO _ _ b S := ⟨vT, vG, vS, hb0, hoT, hoG, hoS⟩
  clear hb0 hoT hoG hoS
  refine cseq <| cg <| zm rfl <| vq (Val.loadBN agg33 rfl hb3.blk rfl) <| ve (Eff.call pf64 rfl (pupload_ok hst hsm hsO)) ?_
  rintro v29 w3 ⟨c3, hM3, ⟨hst, rfl⟩⟩
  replace hJ := hJ.mv hM3; replace hb4 := hb4.mv hM3
  refine WR.eff_ (Eff.storeNC agg51 rfl rfl hb4 rfl rfl ones) ?_
  rintro _ w4 ⟨hS, hM4⟩
  replace hJ := hJ.mv hM4; replace hst := hst.mv hM4
  replace hb4 := hS
  refine cnil <| WC.retR1 rfl (RVal.cellN agg51 rfl hb4.blk rfl) ?_
  have e : doM S o = if o.kind = 1 then doStart S else doUp S o := by
    by_cases h1 : o.kind = 1
    · rw [doM, if_pos h1, if_pos h1]
    rw [doM, if_neg h1, if_neg h1, if_pos (by omega)]
  rw [e]
  exact ⟨_, hJ.out, hst.out hJ, rfl⟩
 try simp only [tstS] at hc2
 refine cseq <| cseq <| cg <| vq (Val.eql rfl rfl) <| za rfl <| cnil ?_
 refine WC.mono (N := (fun e w' => ∃ (c' : Nat → Nat), Sub [(4000000, .tuple #[]), (0, .pointer (some ⟨b, 0, none⟩)), (3, .pointer (some ⟨b3, 0, none⟩)), (4, .pointer (some ⟨b4, 0, none⟩)), (21, I o.kind), (30, .bool (decide (o.kind = 4) || decide (o.kind = 5) || decide (o.kind = 6) || decide (o.kind = 7)))] e ∧ OldJ c w colS c' w' ∧ BlkC c' w' 70 b [vT, vG, vS, I S.next] 26 ∧ OwnC c' w' 71 60 3 vT S.things.length (S.things.flatMap encThg) ∧ OwnC c' w' 72 66 2 vG S.tags.length (S.tags.flatMap encTg) ∧ OwnC c' w' 73 63 2 vS S.sessions.length (S.sessions.flatMap encSes) ∧ BlkC c' w' 103 b3 (encOp o) 33 ∧ BlkC c' w' 104 b4 [I 0, St [], I 0] 51)) ?_ ?_
 ·refine WC.cond rfl (fun hc7 => ?_) (fun hc7 => ?_)
  ·try simp only [tstS] at hc7
   refine cskip ?_
   have hn : o.kind = 4 := by assumption
   rw [show (decide (o.kind = 4) || decide (o.kind = 5) || decide (o.kind = 6) || decide (o.kind = 7)) = decide (o.kind = 4) by simp [hn]]
   exact ⟨_, subs, hJ, hb0, hoT, hoG, hoS, hb3, hb4⟩
  try simp only [tstS] at hc7
  refine cseq <| cg <| vq (Val.eql rfl rfl) <| za rfl <| cnil <| WC.cond rfl (fun hc8 => ?_) (fun hc8 => ?_)
  ·try simp only [tstS] at hc8
   refine cskip ?_
   have hn : ¬ o.kind = 4 := by assumption
   by_cases h5 : o.kind = 5
   · rw [show (decide (o.kind = 4) || decide (o.kind = 5) || decide (o.kind = 6) || decide (o.kind = 7)) = decide (o.kind = 5) by simp [h5]]
     first
       | exact absurd h5 (by assumption)
       | exact ⟨_, subs, hJ, hb0, hoT, hoG, hoS, hb3, hb4⟩
   by_cases h6 : o.kind = 6
   · rw [show (decide (o.kind = 4) || decide (o.kind = 5) || decide (o.kind = 6) || decide (o.kind = 7)) = decide (o.kind = 6) by simp [h6]]
     first
       | exact absurd (show o.kind = 5 by assumption) h5
       | exact absurd h6 (by assumption)
       | exact ⟨_, subs, hJ, hb0, hoT, hoG, hoS, hb3, hb4⟩
   rw [show (decide (o.kind = 4) || decide (o.kind = 5) || decide (o.kind = 6) || decide (o.kind = 7)) = decide (o.kind = 7) by simp [hn, h5, h6]]
   first
     | exact absurd (show o.kind = 5 by assumption) h5
     | exact absurd (show o.kind = 6 by assumption) h6
     | exact ⟨_, subs, hJ, hb0, hoT, hoG, hoS, hb3, hb4⟩
  try simp only [tstS] at hc8
  refine cseq <| cg <| vq (Val.eql rfl rfl) <| za rfl <| cnil <| WC.cond rfl (fun hc9 => ?_) (fun hc9 => ?_)
  ·try simp only [tstS] at hc9
   refine cskip ?_
   have hn : ¬ o.kind = 4 := by assumption
   by_cases h5 : o.kind = 5
   · rw [show (decide (o.kind = 4) || decide (o.kind = 5) || decide (o.kind = 6) || decide (o.kind = 7)) = decide (o.kind = 5) by simp [h5]]
     first
       | exact absurd h5 (by assumption)
       | exact ⟨_, subs, hJ, hb0, hoT, hoG, hoS, hb3, hb4⟩
   by_cases h6 : o.kind = 6
   · rw [show (decide (o.kind = 4) || decide (o.kind = 5) || decide (o.kind = 6) || decide (o.kind = 7)) = decide (o.kind = 6) by simp [h6]]
     first
       | exact absurd (show o.kind = 5 by assumption) h5
       | exact absurd h6 (by assumption)
       | exact ⟨_, subs, hJ, hb0, hoT, hoG, hoS, hb3, hb4⟩
   rw [show (decide (o.kind = 4) || decide (o.kind = 5) || decide (o.kind = 6) || decide (o.kind = 7)) = decide (o.kind = 7) by simp [hn, h5, h6]]
   first
     | exact absurd (show o.kind = 5 by assumption) h5
     | exact absurd (show o.kind = 6 by assumption) h6
     | exact ⟨_, subs, hJ, hb0, hoT, hoG, hoS, hb3, hb4⟩
  try simp only [tstS] at hc9
  refine cg <| vq (Val.eql rfl rfl) <| za rfl <| cnil ?_
  have hn : ¬ o.kind = 4 := by assumption
  by_cases h5 : o.kind = 5
  · rw [show (decide (o.kind = 4) || decide (o.kind = 5) || decide (o.kind = 6) || decide (o.kind = 7)) = decide (o.kind = 5) by simp [h5]]
    first
      | exact absurd h5 (by assumption)
      | exact ⟨_, subs, hJ, hb0, hoT, hoG, hoS, hb3, hb4⟩
  by_cases h6 : o.kind = 6
  · rw [show (decide (o.kind = 4) || decide (o.kind = 5) || decide (o.kind = 6) || decide (o.kind = 7)) = decide (o.kind = 6) by simp [h6]]
    first
      | exact absurd (show o.kind = 5 by assumption) h5
      | exact absurd h6 (by assumption)
      | exact ⟨_, subs, hJ, hb0, hoT, hoG, hoS, hb3, hb4⟩
  rw [show (decide (o.kind = 4) || decide (o.kind = 5) || decide (o.kind = 6) || decide (o.kind = 7)) = decide (o.kind = 7) by simp [hn, h5, h6]]
  first
    | exact absurd (show o.kind = 5 by assumption) h5
    | exact absurd (show o.kind = 6 by assumption) h6
    | exact ⟨_, subs, hJ, hb0, hoT, hoG, hoS, hb3, hb4⟩
 rintro e8 w8' ⟨c8', hsub, hJ, hb0, hoT, hoG, hoS, hb3, hb4⟩
 refine WC.sub hsub ?_
 clear hsub e8
 refine WC.cond rfl (fun hc7 => ?_) (fun hc7 => ?_)
 ·try simp only [tstS] at hc7
  have hk : 4 ≤ o.kind ∧ o.kind ≤ 7 := by omega
  have hst : StaO _ _ b S := ⟨vT, vG, vS, hb0, hoT, hoG, hoS⟩
  clear hb0 hoT hoG hoS
  refine cseq <| cg <| zm rfl <| vq (Val.loadBN agg33 rfl hb3.blk rfl) <| ve (Eff.call pf65 rfl (pthing_ok hst hsm hsO hk)) ?_
  rintro v37 w5 ⟨c5, hM5, ⟨hst, rfl⟩⟩
  replace hJ := hJ.mv hM5; replace hb4 := hb4.mv hM5
  refine WR.eff_ (Eff.storeNC agg51 rfl rfl hb4 rfl rfl ones) ?_
  rintro _ w6 ⟨hS, hM6⟩
  replace hJ := hJ.mv hM6; replace hst := hst.mv hM6
  replace hb4 := hS
  refine cnil <| WC.retR1 rfl (RVal.cellN agg51 rfl hb4.blk rfl) ?_
  have e : doM S o = doThing S o := by rw [doM, if_neg (by omega), if_neg (by omega), if_pos hk]
  rw [e]
  exact ⟨_, hJ.out, hst.out hJ, rfl⟩
 try simp only [tstS] at hc7
 refine cseq <| cg <| vq (Val.eql rfl rfl) <| za rfl <| cnil <| WC.cond rfl (fun hc12 => ?_) (fun hc12 => ?_)
 ·try simp only [tstS] at hc12
  have k8 : o.kind = 8 := by assumption
  have hM : doM S o = doMan S o := by rw [doM, if_neg (by omega), if_neg (by omega), if_neg (by omega), if_pos k8]
  refine cseq <| cg <| vq (Val.fieldAddr fld33_6 rfl) <| vq (Val.loadB scl9 rfl hb3.blk rfl) <| ve (Eff.pureC c8' 7 (Eff.call pf55 rfl (pmtake_own o.text (by omega)))) ?_
  rintro v43 w7 ⟨c7, hM7, hx7, ⟨u1, u2, rfl, g1, g2⟩⟩
  replace hJ := hJ.mv hM7; replace hb0 := hb0.mv hM7; replace hoT := hoT.mv hM7; replace hoG := hoG.mv hM7; replace hoS := hoS.mv hM7; replace hb3 := hb3.mv hM7; replace hb4 := hb4.mv hM7
  replace g1 := g1.toC hx7
  replace g2 := g2.toC hx7
  have q4 := g1.own.oneC; have q5 := g2.own.oneC
  refine zm rfl <| vq (Val.extract rfl rfl) <| vq (Val.extract rfl rfl) <| ve (Eff.allocC c7 105 zero85) ?_
  rintro _ w8 ⟨b5, c8, rfl, hM8, hb5⟩
  replace hJ := hJ.mv hM8; replace hb0 := hb0.mv hM8; replace hoT := hoT.mv hM8; replace hoG := hoG.mv hM8; replace hoS := hoS.mv hM8; replace hb3 := hb3.mv hM8; replace hb4 := hb4.mv hM8
  refine WR.eff_ (Eff.storeNC agg85 rfl rfl hb5 rfl rfl ones) ?_
  rintro _ w9 ⟨hS, hM9⟩
  replace hJ := hJ.mv hM9; replace hb0 := hb0.mv hM9; replace hoT := hoT.mv hM9; replace hoG := hoG.mv hM9; replace hoS := hoS.mv hM9; replace hb3 := hb3.mv hM9; replace hb4 := hb4.mv hM9
  replace hb5 := hS
  refine za rfl <| cnil <| cseq <| cseq <| cg <| zm rfl <| vq (Val.not rfl) <| cnil <| WC.cond rfl (fun hc14 => ?_) (fun hc14 => ?_)
  ·try simp only [tstS] at hc14
   refine cseq <| cg <| vq (Val.build (cells := #[I 0, St [], I 7]) rfl (by kernel_rfl)) ?_
   refine WR.eff_ (Eff.storeNC agg51 rfl rfl hb4 rfl rfl ones) ?_
   rintro _ w10 ⟨hS, hM10⟩
   replace hJ := hJ.mv hM10; replace hb0 := hb0.mv hM10; replace hoT := hoT.mv hM10; replace hoG := hoG.mv hM10; replace hoS := hoS.mv hM10
   replace hb4 := hS
   refine cnil <| WC.retR1 rfl (RVal.cellN agg51 rfl hb4.blk rfl) ?_
   have e : doM S o = bad S 7 := by
     cases hm : manTake o.text with
     | none => rw [hM, doMan, hm]
     | some m => rw [hm] at hc14; simp at hc14
   rw [e]
   exact ⟨_, hJ.out, ⟨_, vG, vS, hb0.out hJ rfl, hoT.out hJ rfl, hoG.out hJ rfl, hoS.out hJ rfl⟩, rfl⟩
  try simp only [tstS] at hc14
  obtain ⟨m, hm⟩ : ∃ m, manTake o.text = some m := by
    cases hm : manTake o.text with
    | some m => exact ⟨m, rfl⟩
    | none => rw [hm] at hc14; simp at hc14
  refine cskip <| cseq <| cseq <| WC.regionD (Kp c8 w9 []) [0, 0, 0, 1, 0, 1, 2, 0] [0, 1, 2, 3, 4, 5, 6, 7] mixed (by kernel_rfl) ?_
  have hM11 := Mv.drew c8 w9 []
  have hCw := Mv.drew c8 w9 []
  generalize w9.drew = w11 at hM11 hCw ⊢
  have hb00 := hb0
  have hb30 := hb3
  have hb40 := hb4
  have hb50 := hb5
  replace hJ := hJ.mv hM11; replace hb0 := hb0.mv hM11; replace hoT := hoT.mv hM11; replace hoG := hoG.mv hM11; replace hoS := hoS.mv hM11; replace hb3 := hb3.mv hM11; replace hb4 := hb4.mv hM11; replace hb5 := hb5.mv hM11
  refine zdm rfl rfl <| vd rfl (fun _ => Val.nilCheck rfl) <| vd rfl (fun _ => Val.fieldAddr fld26_0 rfl) <| vc rfl hCw.kp (fun W hW => Val.loadB scl22 rfl (hb00.kp hW rfl).blk rfl) <| vd rfl (fun _ => Val.fieldAddr fld33_6 rfl) <| vc rfl hCw.kp (fun W hW => Val.loadB scl9 rfl (hb30.kp hW rfl).blk rfl) <| WD.eff rfl rfl rfl (Eff.pureC c8 1 (Eff.call pf38 rfl (pnames_ok o.text y7 (hoT.rdT (by omega) z1).now))) rfl ?_
  rintro v55 w12 ⟨c12, hM12, hx12, rfl⟩
  refine ⟨fun hC => hC.step hCw hM12 rfl, ?_⟩
  replace hCw := hCw.tr hM12 rfl
  replace hJ := hJ.mv hM12; replace hb0 := hb0.mv hM12; replace hoT := hoT.mv hM12; replace hoG := hoG.mv hM12; replace hoS := hoS.mv hM12; replace hb3 := hb3.mv hM12; replace hb4 := hb4.mv hM12; replace hb5 := hb5.mv hM12
  refine vd rfl (fun _ => Val.not rfl) <| WD.nil ?_
  clear hb00 hb30 hb40 hb50
  clear hCw
  refine WC.cond rfl (fun hc16 => ?_) (fun hc16 => ?_)
  ·try simp only [tstS] at hc16
   refine cseq <| cg <| vq (Val.build (cells := #[I 0, St [], I 3]) rfl (by kernel_rfl)) ?_
   refine WR.eff_ (Eff.storeNC agg51 rfl rfl hb4 rfl rfl ones) ?_
   rintro _ w13 ⟨hS, hM13⟩
   replace hJ := hJ.mv hM13; replace hb0 := hb0.mv hM13; replace hoT := hoT.mv hM13; replace hoG := hoG.mv hM13; replace hoS := hoS.mv hM13
   replace hb4 := hS
   refine cnil <| WC.retR1 rfl (RVal.cellN agg51 rfl hb4.blk rfl) ?_
   have e : doM S o = bad S 3 := by
     have hno : namesOk S.things o.text = false := by simpa using hc16
     rw [namesOk, hm] at hno
     rw [hM, doMan, hm]; dsimp only at hno ⊢; rw [if_neg (by rw [hno]; decide)]
   rw [e]
   exact ⟨_, hJ.out, ⟨_, vG, vS, hb0.out hJ rfl, hoT.out hJ rfl, hoG.out hJ rfl, hoS.out hJ rfl⟩, rfl⟩
  try simp only [tstS] at hc16
  have hth : thereT S.things m = true := by
    have hno : namesOk S.things o.text = true := by simpa using hc16
    rw [namesOk, hm] at hno; exact hno
  refine cskip <| cseq <| cg <| vq (Val.fieldAddr fld33_6 rfl) <| vq (Val.loadB scl9 rfl hb3.blk rfl) <| ve (Eff.pureC c12 1 (Eff.call pf33 rfl (pdigest_ok o.text (by omega)))) ?_
  rintro v60 w14 ⟨c14, hM14, hx14, rfl⟩
  replace hJ := hJ.mv hM14; replace hb0 := hb0.mv hM14; replace hoT := hoT.mv hM14; replace hoG := hoG.mv hM14; replace hoS := hoS.mv hM14; replace hb3 := hb3.mv hM14; replace hb4 := hb4.mv hM14; replace hb5 := hb5.mv hM14
  refine za rfl <| cnil <| cseq <| cseq <| cg <| zm rfl <| vq (Val.nilCheck rfl) <| vq (Val.fieldAddr fld26_0 rfl) <| vq (Val.loadB scl22 rfl hb0.blk rfl) <| zm rfl <| ve (Eff.pureC c14 1 (Eff.call pf40 rfl (at_ok (hoT.rdT (by omega) z1).now))) ?_
  rintro v66 w15 ⟨c15, hM15, hx15, rfl⟩
  replace hJ := hJ.mv hM15; replace hb0 := hb0.mv hM15; replace hoT := hoT.mv hM15; replace hoG := hoG.mv hM15; replace hoS := hoS.mv hM15; replace hb3 := hb3.mv hM15; replace hb4 := hb4.mv hM15; replace hb5 := hb5.mv hM15
  refine vq (Val.lss rfl rfl) <| cnil <| WC.mono (N := (fun e w' => ∃ (c' : Nat → Nat) (vT' : Value) (T' : List Thg), Sub [(4000000, .tuple #[]), (4, .pointer (some ⟨b4, 0, none⟩)), (7, St (digestS o.text))] e ∧ OldJ c w colS c' w' ∧ BlkC c' w' 70 b [vT', vG, vS, I S.next] 26 ∧ OwnC c' w' 71 60 3 vT' T'.length (T'.flatMap encThg) ∧ OwnC c' w' 72 66 2 vG S.tags.length (S.tags.flatMap encTg) ∧ OwnC c' w' 73 63 2 vS S.sessions.length (S.sessions.flatMap encSes) ∧ BlkC c' w' 104 b4 [I 0, St [], I 0] 51 ∧ keepT S.things ⟨digestS o.text, o.text, true⟩ = some T')) ?_ ?_
  ·refine WC.cond rfl (fun hc19 => ?_) (fun hc19 => ?_)
   ·try simp only [tstS] at hc19
    refine cseq <| cseq <| cg <| zm rfl <| vq (Val.nilCheck rfl) <| vq (Val.fieldAddr fld26_0 rfl) <| vq (Val.loadB scl22 rfl hb0.blk rfl) <| vq (Val.olen sl22 hoT rfl) <| vq (Val.geq rfl rfl) <| cnil <| WC.cond rfl (fun hc20 => ?_) (fun hc20 => ?_)
    ·try simp only [tstS] at hc20
     refine cseq <| cg <| vq (Val.build (cells := #[I 0, St [], I 2]) rfl (by kernel_rfl)) ?_
     refine WR.eff_ (Eff.storeNC agg51 rfl rfl hb4 rfl rfl ones) ?_
     rintro _ w16 ⟨hS, hM16⟩
     replace hJ := hJ.mv hM16; replace hb0 := hb0.mv hM16; replace hoT := hoT.mv hM16; replace hoG := hoG.mv hM16; replace hoS := hoS.mv hM16
     replace hb4 := hS
     refine cnil <| WC.retR1 rfl (RVal.cellN agg51 rfl hb4.blk rfl) ?_
     have e : doM S o = bad S 2 := by rw [hM, doMan, hm]; dsimp only; rw [if_pos hth, keepT_no (at_noneI (by assumption)) (by omega)]
     rw [e]
     exact ⟨_, hJ.out, ⟨_, vG, vS, hb0.out hJ rfl, hoT.out hJ rfl, hoG.out hJ rfl, hoS.out hJ rfl⟩, rfl⟩
    try simp only [tstS] at hc20
    refine cskip <| WC.regionD (Kp c15 w15 []) [0, 0, 0, 0, 1, 0, 0, 1, 0, 2, 0, 0, 3] [0, 1, 2, 3, 4, 5, 6, 7, 8, 9, 10, 11, 12] mixed (by kernel_rfl) ?_
    have hM17 := Mv.drew c15 w15 []
    have hCw := Mv.drew c15 w15 []
    generalize w15.drew = w17 at hM17 hCw ⊢
    have hb00 := hb0
    have hb30 := hb3
    have hb40 := hb4
    have hb50 := hb5
    replace hJ := hJ.mv hM17; replace hb0 := hb0.mv hM17; replace hoT := hoT.mv hM17; replace hoG := hoG.mv hM17; replace hoS := hoS.mv hM17; replace hb4 := hb4.mv hM17
    refine zdm rfl rfl <| zdm rfl rfl <| vd rfl (fun _ => Val.nilCheck rfl) <| vd rfl (fun _ => Val.fieldAddr fld26_0 rfl) <| vc rfl hCw.kp (fun W hW => Val.loadB scl22 rfl (hb00.kp hW rfl).blk rfl) <| zdm rfl rfl <| vd rfl (fun _ => Val.fieldAddr fld33_6 rfl) <| vc rfl hCw.kp (fun W hW => Val.loadB scl9 rfl (hb30.kp hW rfl).blk rfl) <| vd rfl (fun _ => Val.build (cells := #[St (digestS o.text), St o.text, .bool true]) rfl (by kernel_rfl)) ?_
    refine WD.eff rfl rfl rfl (Eff.pureC c15 71 (Eff.call pf66 rfl (pwith_ok (x := ⟨digestS o.text, o.text, true⟩) (hoT.rdT (by omega) z1).now (by omega)))) rfl ?_
    rintro v84 w18 ⟨c18, hM18, hx18, hoT2⟩
    refine ⟨fun hC => hC.step hCw hM18 rfl, ?_⟩
    replace hCw := hCw.tr hM18 rfl
    replace hJ := hJ.mv hM18; replace hb0 := hb0.mv hM18; replace hoG := hoG.mv hM18; replace hoS := hoS.mv hM18; replace hb4 := hb4.mv hM18
    replace hoT2 := hoT2.toC hx18
    have p1 := hoT2.cellsV; have p2 := hoT2.oneC
    refine vd rfl (fun _ => Val.nilCheck rfl) <| vd rfl (fun _ => Val.fieldAddr fld26_0 rfl) <| WD.wild rfl rfl rfl (Eff.storeC scl22 rfl rfl ra ra hb0 rfl) ?_
    rintro _ w19 ⟨hS, hM19⟩
    replace hJ := hJ.mv hM19; replace hoG := hoG.mv hM19; replace hoS := hoS.mv hM19; replace hb4 := hb4.mv hM19; replace hoT2 := hoT2.mv hM19
    replace hb0 := hS
    refine WD.nil ?_
    clear hb00 hb30 hb40 hb50
    clear hCw
    have hkT := keepT_put (t := ⟨digestS o.text, o.text, true⟩) (at_noneI (by assumption)) (by omega)
    exact ⟨_, _, _, subs, hJ, hb0, hoT2, hoG, hoS, hb4, hkT⟩
   try simp only [tstS] at hc19
   refine cskip ?_
   have hkT := keepT_is (t := ⟨digestS o.text, o.text, true⟩) (at_someI (by assumption))
   exact ⟨_, _, _, subs, hJ, hb0, hoT, hoG, hoS, hb4, hkT⟩
  rintro e8 w8 ⟨c8, vT', T', hsub, hJ, hb0, hoT, hoG, hoS, hb4, hkT⟩
  refine WC.sub hsub ?_
  clear hsub e8
  refine cseq <| cg <| zm rfl <| vq (Val.build (cells := #[I 0, St (digestS o.text), I 0]) rfl (by kernel_rfl)) ?_
  refine WR.eff_ (Eff.storeNC agg51 rfl rfl hb4 rfl rfl ones) ?_
  rintro _ w20 ⟨hS, hM20⟩
  replace hJ := hJ.mv hM20; replace hb0 := hb0.mv hM20; replace hoT := hoT.mv hM20; replace hoG := hoG.mv hM20; replace hoS := hoS.mv hM20
  replace hb4 := hS
  refine cnil <| WC.retR1 rfl (RVal.cellN agg51 rfl hb4.blk rfl) ?_
  have e : doM S o = ({ S with things := T' }, ⟨0, digestS o.text, 0⟩) := by rw [hM, doMan, hm]; dsimp only; rw [if_pos hth, hkT]
  rw [e]
  exact ⟨_, hJ.out, ⟨_, vG, vS, hb0.out hJ rfl, hoT.out hJ rfl, hoG.out hJ rfl, hoS.out hJ rfl⟩, rfl⟩
 try simp only [tstS] at hc12
 have k8 : ¬ o.kind = 8 := by assumption
 refine cseq <| cg <| vq (Val.eql rfl rfl) <| za rfl <| cnil <| WC.cond rfl (fun hc24 => ?_) (fun hc24 => ?_)
 ·try simp only [tstS] at hc24
  have k9 : o.kind = 9 := by assumption
  have hM : doM S o = doTag S o := by rw [doM, if_neg (by omega), if_neg (by omega), if_neg (by omega), if_neg k8, if_pos (by omega)]
  refine cseq <| cg <| vq (Val.fieldAddr fld33_4 rfl) <| vq (Val.loadB scl9 rfl hb3.blk rfl) <| ve (Eff.pureC c8' 1 (Eff.call pf39 rfl (pname_ok o.name (by omega)))) ?_
  rintro v94 w21 ⟨c21, hM21, hx21, ⟨a1, a2, rfl⟩⟩
  replace hJ := hJ.mv hM21; replace hb0 := hb0.mv hM21; replace hoT := hoT.mv hM21; replace hoG := hoG.mv hM21; replace hoS := hoS.mv hM21; replace hb3 := hb3.mv hM21; replace hb4 := hb4.mv hM21
  refine zm rfl <| vq (Val.extract rfl rfl) <| vq (Val.extract rfl rfl) <| vq (Val.extract rfl rfl) <| za rfl <| za rfl <| za rfl <| cnil <| cseq <| cseq <| cg <| zm rfl <| vq (Val.not rfl) <| cnil <| WC.cond rfl (fun hc26 => ?_) (fun hc26 => ?_)
  ·try simp only [tstS] at hc26
   refine cseq <| cg <| vq (Val.build (cells := #[I 0, St [], I 7]) rfl (by kernel_rfl)) ?_
   refine WR.eff_ (Eff.storeNC agg51 rfl rfl hb4 rfl rfl ones) ?_
   rintro _ w22 ⟨hS, hM22⟩
   replace hJ := hJ.mv hM22; replace hb0 := hb0.mv hM22; replace hoT := hoT.mv hM22; replace hoG := hoG.mv hM22; replace hoS := hoS.mv hM22
   replace hb4 := hS
   refine cnil <| WC.retR1 rfl (RVal.cellN agg51 rfl hb4.blk rfl) ?_
   have e : doM S o = bad S 7 := by rw [hM, doTag, if_pos k9, if_neg (by rw [show nameOk o.name = false by simpa using hc26]; decide)]
   rw [e]
   exact ⟨_, hJ.out, ⟨_, vG, vS, hb0.out hJ rfl, hoT.out hJ rfl, hoG.out hJ rfl, hoS.out hJ rfl⟩, rfl⟩
  try simp only [tstS] at hc26
  have hn9 : nameOk o.name = true := by simpa using hc26
  refine cskip <| cseq <| WC.regionD (Kp c21 w21 []) [0, 0, 0, 1, 0, 1, 2, 0] [0, 1, 2, 3, 4, 5, 6, 7] mixed (by kernel_rfl) ?_
  have hM23 := Mv.drew c21 w21 []
  have hCw := Mv.drew c21 w21 []
  generalize w21.drew = w23 at hM23 hCw ⊢
  have hb00 := hb0
  have hb30 := hb3
  have hb40 := hb4
  replace hJ := hJ.mv hM23; replace hb0 := hb0.mv hM23; replace hoT := hoT.mv hM23; replace hoG := hoG.mv hM23; replace hoS := hoS.mv hM23; replace hb3 := hb3.mv hM23; replace hb4 := hb4.mv hM23
  refine zdm rfl rfl <| vd rfl (fun _ => Val.nilCheck rfl) <| vd rfl (fun _ => Val.fieldAddr fld26_0 rfl) <| vc rfl hCw.kp (fun W hW => Val.loadB scl22 rfl (hb00.kp hW rfl).blk rfl) <| vd rfl (fun _ => Val.fieldAddr fld33_5 rfl) <| vc rfl hCw.kp (fun W hW => Val.loadB scl9 rfl (hb30.kp hW rfl).blk rfl) <| WD.eff rfl rfl rfl (Eff.pureC c21 1 (Eff.call pf40 rfl (at_ok (hoT.rdT (by omega) z1).now))) rfl ?_
  rintro v107 w24 ⟨c24, hM24, hx24, rfl⟩
  refine ⟨fun hC => hC.step hCw hM24 rfl, ?_⟩
  replace hCw := hCw.tr hM24 rfl
  replace hJ := hJ.mv hM24; replace hb0 := hb0.mv hM24; replace hoT := hoT.mv hM24; replace hoG := hoG.mv hM24; replace hoS := hoS.mv hM24; replace hb3 := hb3.mv hM24; replace hb4 := hb4.mv hM24
  refine zda rfl rfl <| WD.nil ?_
  clear hb00 hb30 hb40
  clear hCw
  refine cseq <| cseq <| cg <| zm rfl <| vq (Val.lss rfl rfl) <| zm rfl ?_
  apply WR.sc false 9 (!isT S.things o.digest true) (fun w' => w24 = w')
  case hl | hg | hu | hv | hs | hoff | hd => rfl
  case hF => exact fun _ => rfl
  case hT =>
   intro hq12
   try simp only [tstS] at hq12
   simp only [List.take_succ_cons, List.take_zero]
   obtain ⟨i0, hi0, hf0, hil0⟩ := at_find (T := S.things) (d := o.digest) (by omega)
   have htn : (atT S.things o.digest).toNat = i0 := by omega
   have hf : findT S.things o.digest = some (atT S.things o.digest).toNat := by rw [htn]; exact hf0
   have hil : (atT S.things o.digest).toNat < S.things.length := by omega
   obtain ⟨hc116, _⟩ := RdC.elFlat (hoT.rdT (by omega) z1) hil (by decide)
   refine WR.on rfl rfl <| zm rfl <| WR.on rfl rfl <| vq (Val.nilCheck rfl) <| WR.on rfl rfl <| vq (Val.fieldAddr fld26_0 rfl) <| WR.on rfl rfl <| vq (Val.loadB scl22 rfl hb0.blk rfl) <| WR.on rfl rfl <| zm rfl <| WR.on rfl rfl <| vq (Val.indexO sl22 hoT rfl rfl (by omega) (by omega)) ?_
   refine WR.on rfl rfl <| vq (Val.fieldAddrP fld60_2 rfl) <| WR.on rfl rfl <| vq (Val.loadEf scl4 rfl hc116.cel rfl) <| WR.on rfl rfl <| vq (Val.not rfl) ?_
   exact WR.nil ⟨(by rw [isT_at hf hil]; cases S.things[(atT S.things o.digest).toNat].manifest <;> rfl), Sub.drop _ 9 _ rfl rfl, rfl⟩
  rintro _ rfl
  refine cnil <| WC.cond rfl (fun hc29 => ?_) (fun hc29 => ?_)
  ·try simp only [tstS] at hc29
   refine cseq <| cg <| vq (Val.build (cells := #[I 0, St [], I 3]) rfl (by kernel_rfl)) ?_
   refine WR.eff_ (Eff.storeNC agg51 rfl rfl hb4 rfl rfl ones) ?_
   rintro _ w25 ⟨hS, hM25⟩
   replace hJ := hJ.mv hM25; replace hb0 := hb0.mv hM25; replace hoT := hoT.mv hM25; replace hoG := hoG.mv hM25; replace hoS := hoS.mv hM25
   replace hb4 := hS
   refine cnil <| WC.retR1 rfl (RVal.cellN agg51 rfl hb4.blk rfl) ?_
   have e : doM S o = bad S 3 := by
     have ht : isT S.things o.digest true = false := by
       rcases hc29 with h | h
       · exact at_neg h
       simpa using h
     rw [hM, doTag, if_pos k9, if_pos hn9, if_neg (by rw [ht]; decide)]
   rw [e]
   exact ⟨_, hJ.out, ⟨_, vG, vS, hb0.out hJ rfl, hoT.out hJ rfl, hoG.out hJ rfl, hoS.out hJ rfl⟩, rfl⟩
  try simp only [tstS] at hc29
  have ht9 : isT S.things o.digest true = true := by simpa using hc29.2
  refine cskip <| cseq <| WC.regionD (Kp c24 w24 []) [0, 0, 0, 1, 0, 1, 2, 0] [0, 1, 2, 3, 4, 5, 6, 7] mixed (by kernel_rfl) ?_
  have hM26 := Mv.drew c24 w24 []
  have hCw := Mv.drew c24 w24 []
  generalize w24.drew = w26 at hM26 hCw ⊢
  have hb00 := hb0
  have hb30 := hb3
  have hb40 := hb4
  replace hJ := hJ.mv hM26; replace hb0 := hb0.mv hM26; replace hoT := hoT.mv hM26; replace hoG := hoG.mv hM26; replace hoS := hoS.mv hM26; replace hb3 := hb3.mv hM26; replace hb4 := hb4.mv hM26
  refine zdm rfl rfl <| vd rfl (fun _ => Val.nilCheck rfl) <| vd rfl (fun _ => Val.fieldAddr fld26_1 rfl) <| vc rfl hCw.kp (fun W hW => Val.loadB scl23 rfl (hb00.kp hW rfl).blk rfl) <| vd rfl (fun _ => Val.fieldAddr fld33_4 rfl) <| vc rfl hCw.kp (fun W hW => Val.loadB scl9 rfl (hb30.kp hW rfl).blk rfl) <| WD.eff rfl rfl rfl (Eff.pureC c24 1 (Eff.call pf67 rfl (ptag_ok (hoG.rdG (by omega) z2).now))) rfl ?_
  rintro v128 w27 ⟨c27, hM27, hx27, rfl⟩
  refine ⟨fun hC => hC.step hCw hM27 rfl, ?_⟩
  replace hCw := hCw.tr hM27 rfl
  replace hJ := hJ.mv hM27; replace hb0 := hb0.mv hM27; replace hoT := hoT.mv hM27; replace hoG := hoG.mv hM27; replace hoS := hoS.mv hM27; replace hb3 := hb3.mv hM27; replace hb4 := hb4.mv hM27
  refine zda rfl rfl <| WD.nil ?_
  clear hb00 hb30 hb40
  clear hCw
  refine cseq <| cseq <| cg <| zm rfl <| vq (Val.geq rfl rfl) <| cnil <| WC.cond rfl (fun hc32 => ?_) (fun hc32 => ?_)
  ·try simp only [tstS] at hc32
   obtain ⟨k, hf⟩ : ∃ k, findG S.tags o.name = some k := by
     cases hf : findG S.tags o.name with
     | none => rw [hf] at hc32; simp [atO] at hc32
     | some k => exact ⟨k, rfl⟩
   rw [show atO (findG S.tags o.name) = (k : Int) by rw [hf]; rfl]
   obtain ⟨hk, hkq, _⟩ := List.findIdx?_eq_some_iff_getElem.1 hf
   have hkn : S.tags[k].name = o.name := by simpa using hkq
   obtain ⟨g, cp, rfl, hncp, hm1⟩ := hoG.posForm (by omega)
   refine cseq <| WC.regionD (Kp c27 w27 []) [0, 0, 0, 1, 0, 0, 1, 0, 0, 3] [0, 1, 2, 3, 4, 5, 6, 7, 8, 9] mixed (by kernel_rfl) ?_
   have hM28 := Mv.drew c27 w27 []
   have hCw := Mv.drew c27 w27 []
   generalize w27.drew = w28 at hM28 hCw ⊢
   have hb00 := hb0
   have hb30 := hb3
   have hb40 := hb4
   replace hJ := hJ.mv hM28; replace hb0 := hb0.mv hM28; replace hoT := hoT.mv hM28; replace hoG := hoG.mv hM28; replace hoS := hoS.mv hM28; replace hb4 := hb4.mv hM28
   refine zdm rfl rfl <| vd rfl (fun _ => Val.nilCheck rfl) <| vd rfl (fun _ => Val.fieldAddr fld26_1 rfl) <| vc rfl hCw.kp (fun W hW => Val.loadB scl23 rfl (hb00.kp hW rfl).blk rfl) <| zdm rfl rfl <| vd rfl (fun _ => Val.fieldAddr fld33_5 rfl) <| vc rfl hCw.kp (fun W hW => Val.loadB scl9 rfl (hb30.kp hW rfl).blk rfl) <| vd rfl (fun _ => Val.indexO sl23 hoG rfl rfl (by omega) (by omega)) ?_
   first | refine vd rfl (fun _ => Val.fieldAddr fld66_1 rfl) ?_ | refine vd rfl (fun _ => Val.fieldAddrP fld66_1 rfl) ?_
   have e53 : (⟨g, k * 2 + 1, none⟩ : Addr) = (elemA (.slice (some ⟨g, 0, none⟩) S.tags.length cp) 2 (k : Int).toNat).add 1 := by simp [elemA, add_lit]
   refine WD.wild rfl rfl rfl (Eff.storeOF (j := k * 2 + 1) (x := .tmp 139) (y := .tmp 137) (u := St o.digest) scl9 hoG rfl (by omega) (by rw [e53]; rfl) rfl rfl rfl) ?_
   rintro _ w19 ⟨c19, hM19, hoG2⟩
   replace hJ := hJ.mv hM19; replace hb0 := hb0.mv hM19; replace hoT := hoT.mv hM19; replace hoS := hoS.mv hM19; replace hb4 := hb4.mv hM19
   replace hoG := hoG2
   rw [flatMap_setAt (x := ⟨o.name, o.digest⟩) encTg_len hk (by decide) (by rw [← hkn]; rfl)] at hoG
   refine WD.nil ?_
   clear hb00 hb30 hb40
   clear hCw
   refine cseq <| cg <| vq (Val.build (cells := #[.int .i64 0, .string ⟨[].toArray⟩, .int .i64 0]) rfl (by kernel_rfl)) ?_
   refine WR.eff_ (Eff.storeNC agg51 rfl rfl hb4 rfl rfl ones) ?_
   rintro _ w29 ⟨hS, hM29⟩
   replace hJ := hJ.mv hM29; replace hb0 := hb0.mv hM29; replace hoT := hoT.mv hM29; replace hoG := hoG.mv hM29; replace hoS := hoS.mv hM29
   replace hb4 := hS
   refine cnil <| WC.retR1 rfl (RVal.cellN agg51 rfl hb4.blk rfl) ?_
   have e : doM S o = ({ S with tags := S.tags.set k ⟨o.name, o.digest⟩ }, ⟨0, [], 0⟩) := by rw [hM, doTag, if_pos k9, if_pos hn9, if_pos ht9, hf]
   rw [e]
   exact ⟨_, hJ.out, ⟨_, _, vS, hb0.out hJ rfl, hoT.out hJ rfl, by dsimp only; rw [List.length_set]; exact hoG.out hJ rfl, hoS.out hJ rfl⟩, rfl⟩
  try simp only [tstS] at hc32
  have hfn : findG S.tags o.name = none := by
    cases hf : findG S.tags o.name with
    | none => rfl
    | some k => rw [hf] at hc32; simp [atO] at hc32
  refine cskip <| cseq <| cseq <| cg <| zm rfl <| vq (Val.nilCheck rfl) <| vq (Val.fieldAddr fld26_1 rfl) <| vq (Val.loadB scl23 rfl hb0.blk rfl) <| vq (Val.olen sl23 hoG rfl) <| vq (Val.geq rfl rfl) <| cnil <| WC.cond rfl (fun hc35 => ?_) (fun hc35 => ?_)
  ·try simp only [tstS] at hc35
   refine cseq <| cg <| vq (Val.build (cells := #[I 0, St [], I 2]) rfl (by kernel_rfl)) ?_
   refine WR.eff_ (Eff.storeNC agg51 rfl rfl hb4 rfl rfl ones) ?_
   rintro _ w30 ⟨hS, hM30⟩
   replace hJ := hJ.mv hM30; replace hb0 := hb0.mv hM30; replace hoT := hoT.mv hM30; replace hoG := hoG.mv hM30; replace hoS := hoS.mv hM30
   replace hb4 := hS
   refine cnil <| WC.retR1 rfl (RVal.cellN agg51 rfl hb4.blk rfl) ?_
   have e : doM S o = bad S 2 := by rw [hM, doTag, if_pos k9, if_pos hn9, if_pos ht9, hfn]; dsimp only; rw [if_pos (by omega)]
   rw [e]
   exact ⟨_, hJ.out, ⟨_, vG, vS, hb0.out hJ rfl, hoT.out hJ rfl, hoG.out hJ rfl, hoS.out hJ rfl⟩, rfl⟩
  try simp only [tstS] at hc35
  refine cskip <| cseq ?_
  obtain ⟨gA, cp, rfl, hncp, hm1⟩ := hoG.own.len
  refine cg <| za rfl <| cnil <| cseq <| cblock <| WC.loop (σ := Nat) (fun k => [(0, .pointer (some ⟨b, 0, none⟩)), (3, .pointer (some ⟨b3, 0, none⟩)), (4, .pointer (some ⟨b4, 0, none⟩)), (12, I k)]) (fun k w' => ∃ c', OldJ c w colS c' w' ∧ BlkC c' w' 70 b [vT, .slice gA S.tags.length cp, vS, I S.next] 26 ∧ OwnC c' w' 71 60 3 vT S.things.length (S.things.flatMap encThg) ∧ OwnC c' w' 72 66 2 (.slice gA S.tags.length cp) S.tags.length (S.tags.flatMap encTg) ∧ OwnC c' w' 73 63 2 vS S.sessions.length (S.sessions.flatMap encSes) ∧ BlkC c' w' 103 b3 (encOp o) 33 ∧ BlkC c' w' 104 b4 [I 0, St [], I 0] 51 ∧ k ≤ S.tags.length ∧ ∀ i (hi : i < S.tags.length), i < k → (fun t : Tg => Op.bytesLess t.name o.name) S.tags[i] = true) (fun k => S.tags.length - k) 0 subs ⟨_, hJ, hb0, hoT, hoG, hoS, hb3, hb4, by omega, fun i hi h => absurd h (Nat.not_lt_zero _)⟩ ?_
  clear hJ hb0 hoT hoG hoS hb3 hb4
  rintro k wl ⟨cl, hJ, hb0, hoT, hoG, hoS, hb3, hb4, hk, hn⟩
  refine cseq <| cseq ?_
  have hcx := fun (ka : k < S.tags.length) => (RdC.elFlat (hoG.rdG (by omega) z2) ka (by decide)).1
  refine WC.regionD (Kp cl wl []) [0, 0, 0, 0, 1, 0, 0, 0, 0, 0, 0, 1, 0, 0, 0, 1, 0, 1, 0, 0] [0, 1, 2, 3, 4, 5, 6, 7, 8, 9, 10, 11, 12, 13, 14, 15, 16, 17, 18, 19] mixed (by kernel_rfl) ?_
  have hM31 := Mv.drew cl wl []
  have hCw := Mv.drew cl wl []
  generalize wl.drew = w31 at hM31 hCw ⊢
  have hb00 := hb0
  have hb30 := hb3
  have hb40 := hb4
  replace hJ := hJ.mv hM31; replace hb0 := hb0.mv hM31; replace hoT := hoT.mv hM31; replace hoG := hoG.mv hM31; replace hoS := hoS.mv hM31; replace hb3 := hb3.mv hM31; replace hb4 := hb4.mv hM31
  refine zdm rfl rfl <| zdm rfl rfl <| vd rfl (fun _ => Val.nilCheck rfl) <| vd rfl (fun _ => Val.fieldAddr fld26_1 rfl) <| vc rfl hCw.kp (fun W hW => Val.loadB scl23 rfl (hb00.kp hW rfl).blk rfl) <| vd rfl (fun _ => Val.olen sl23 hoG rfl) <| vd rfl (fun _ => Val.lss rfl rfl) <| zdm rfl rfl ?_
  apply WD.sc true 11 (decide (k < S.tags.length) && ((S.tags[k]?.map fun t => Op.bytesLess t.name o.name).getD false)) (fun w' => w31 = w')
  case hl | hi | hk | hg | hu | hv | hs | hoff | hd => rfl
  case hC => exact hCw.kp
  case hF => exact fun _ => rfl
  case hT =>
   intro hq19
   try simp only [tstS] at hq19
   simp only [List.take_succ_cons, List.take_zero]
   have hc161 := hcx (by omega)
   refine zdm rfl rfl <| vd rfl (fun _ => Val.nilCheck rfl) <| vd rfl (fun _ => Val.fieldAddr fld26_1 rfl) <| vc rfl hCw.kp (fun W hW => Val.loadB scl23 rfl (hb00.kp hW rfl).blk rfl) <| zdm rfl rfl <| vd rfl (fun _ => Val.indexO sl23 hoG rfl rfl (by omega) (by omega)) <| vd rfl (fun _ => Val.fieldAddrP fld66_0 rfl) <| vc rfl hCw.kp (fun W hW => Val.loadEf scl9 rfl (hc161.kp hW rfl).cel rfl) <| vd rfl (fun _ => Val.fieldAddr fld33_4 rfl) ?_
   refine vc rfl hCw.kp (fun W hW => Val.loadB scl9 rfl (hb30.kp hW rfl).blk rfl) <| vd rfl (fun _ => Val.slss rfl rfl) ?_
   exact WD.nil ⟨(by rw [List.getElem?_eq_getElem (show k < S.tags.length by omega), decide_eq_true (show k < S.tags.length by omega)]; rfl), Sub.drop _ 11 _ rfl rfl, rfl⟩
  rintro _ rfl
  refine WD.nil ?_
  clear hb00 hb30 hb40
  clear hCw
  refine WC.cond rfl (fun hc38 => ?_) (fun hc38 => ?_)
  ·try simp only [tstS] at hc38
   obtain ⟨_, ka, hc38'⟩ := hc38
   rw [List.getElem?_eq_getElem ka] at hc38'
   refine cskip <| cblock <| cg <| zm rfl <| vq (Val.addI rfl rfl side side) <| za rfl <| cnil ?_
   exact ⟨k + 1, subs, ⟨_, hJ, hb0, hoT, hoG, hoS, hb3, hb4, ka, upto_next (p := fun t : Tg => Op.bytesLess t.name o.name) ka hn hc38'⟩, by omega⟩
  try simp only [tstS] at hc38
  have hlow : lowG S.tags o.name = k := lowBy_eq hk hn fun hi => by
    rw [List.getElem?_eq_getElem hi] at hc38
    cases hx : Op.bytesLess S.tags[k].name o.name with
    | false => rfl
    | true => simp [hi, hx] at hc38
  refine WC.exit rfl <| cseq <| WC.mono (N := fun e w' => ∃ (c' : Nat → Nat) (v' : Value), Sub [(4000000, .tuple #[]), (4, .pointer (some ⟨b4, 0, none⟩))] e ∧ OldJ c w colS c' w' ∧ BlkC c' w' 70 b [vT, v', vS, I S.next] 26 ∧ OwnC c' w' 71 60 3 vT S.things.length (S.things.flatMap encThg) ∧ OwnC c' w' 73 63 2 vS S.sessions.length (S.sessions.flatMap encSes) ∧ BlkC c' w' 104 b4 [I 0, St [], I 0] 51 ∧ OwnC c' w' 99 66 2 v' (k + 1 + (S.tags.length - k)) ((S.tags.take k).flatMap encTg ++ encTg ⟨o.name, o.digest⟩ ++ (S.tags.drop k).flatMap encTg)) ?_ ?_
  ·refine WC.regionT (Kp cl w31 [99]) [0, 0, 0, 0, 1, 0, 0, 2, 0, 1, 0, 1, 0, 2, 2, 0, 0, 0, 1, 0, 0, 2, 0, 0, 3] (.quiet 0 (.quiet 1 (.quiet 2 (.quiet 3 (.quiet 4 (.quiet 5 (.quiet 6 (.quiet 8 (.quiet 9 (.quiet 10 (.quiet 11 (.quiet 12 (.quiet 15 (.quiet 16 (.quiet 17 (.quiet 18 (.quiet 19 (.quiet 20 (.two 7 (.one 13 (.one 14 (.one 21 (.quiet 22 (.quiet 23 (.one 24 .nil)))))) 13 (.one 7 (.one 14 (.one 21 (.quiet 22 (.quiet 23 (.one 24 .nil))))))))))))))))))))))))) mixed (by kernel_rfl) ?_
   have hM32 := Mv.drew cl w31 []
   have hCw := Mv.drew cl w31 [99]
   generalize w31.drew = w32 at hM32 hCw ⊢
   have hb00 := hb0
   have hb30 := hb3
   have hb40 := hb4
   replace hJ := hJ.mv hM32; replace hb0 := hb0.mv hM32; replace hoT := hoT.mv hM32; replace hoG := hoG.mv hM32; replace hoS := hoS.mv hM32; replace hb4 := hb4.mv hM32
   refine WT.val rfl rfl rfl (fun _ => Val.move rfl) rfl <| WT.val rfl rfl rfl (fun _ => Val.move rfl) rfl <| WT.val rfl rfl rfl (fun _ => Val.nilCheck rfl) rfl <| WT.val rfl rfl rfl (fun _ => Val.fieldAddr fld26_1 rfl) rfl <| WT.valC rfl rfl rfl hCw.kp (fun W hW => Val.loadB scl23 rfl (hb00.kp hW rfl).blk rfl) rfl <| WT.val rfl rfl rfl (fun _ => Val.move rfl) rfl <| WT.val rfl rfl rfl (fun _ => Val.partTo sl23 rfl rfl (by omega) (by omega)) rfl ?_
   refine WT.val rfl rfl rfl (fun _ => Val.fieldAddr fld33_4 rfl) rfl <| WT.valC rfl rfl rfl hCw.kp (fun W hW => Val.loadB scl9 rfl (hb30.kp hW rfl).blk rfl) rfl <| WT.val rfl rfl rfl (fun _ => Val.fieldAddr fld33_5 rfl) rfl <| WT.valC rfl rfl rfl hCw.kp (fun W hW => Val.loadB scl9 rfl (hb30.kp hW rfl).blk rfl) rfl <| WT.val rfl rfl rfl (fun _ => Val.build (cells := #[St o.name, St o.digest]) rfl (by kernel_rfl)) rfl ?_
   refine WT.val rfl rfl rfl (fun _ => Val.move rfl) rfl <| WT.val rfl rfl rfl (fun _ => Val.nilCheck rfl) rfl <| WT.val rfl rfl rfl (fun _ => Val.fieldAddr fld26_1 rfl) rfl <| WT.valC rfl rfl rfl hCw.kp (fun W hW => Val.loadB scl23 rfl (hb00.kp hW rfl).blk rfl) rfl <| WT.val rfl rfl rfl (fun _ => Val.move rfl) rfl <| WT.val rfl rfl rfl (fun _ => Val.partFrom sl23 rfl rfl (by omega) (by omega)) rfl ?_
   refine WT.two ?_ ?_
   ·refine WS.eff rfl rfl rfl (Eff.pureC cl 99 (Eff.call pf25 rfl (copyTags_ok ((hoG.rdG (by omega) z2).now.to_ (hi := (k : Int).toNat) (by omega)) (by simp; omega)))) rfl ?_
    rintro v177 w33 ⟨c33, hM33, hx33, ho2⟩
    refine ⟨fun hC => hC.step hCw hM33 rfl, ?_⟩
    replace hCw := hCw.tr hM33 rfl
    replace hJ := hJ.mv hM33; replace hb0 := hb0.mv hM33; replace hoT := hoT.mv hM33; replace hoG := hoG.mv hM33; replace hoS := hoS.mv hM33; replace hb4 := hb4.mv hM33
    replace ho2 := ho2.toC hx33
    refine WT.one <| WS.eff rfl rfl rfl (Eff.build1C c33 283 sl23 rfl rfl rfl rfl rfl) rfl ?_
    rintro _ w34 ⟨b183, c34, rfl, hM34, hb183⟩
    refine ⟨fun hC => hC.step hCw hM34 rfl, ?_⟩
    replace hCw := hCw.tr hM34 rfl
    replace hJ := hJ.mv hM34; replace hb0 := hb0.mv hM34; replace hoT := hoT.mv hM34; replace hoG := hoG.mv hM34; replace hoS := hoS.mv hM34; replace hb4 := hb4.mv hM34; replace ho2 := ho2.mv hM34
    refine WT.one <| WS.eff rfl rfl rfl (Eff.appendC sl23 rfl rfl ho2 (Src.cellsAt Tryz.underlying23 hb183.blk.cellsAt rfl ones) mxl oms) rfl ?_
    rintro v184 w35 ⟨c35, hM35, hOq⟩
    refine ⟨fun hC => hC.step hCw hM35 rfl, ?_⟩
    replace hCw := hCw.tr hM35 rfl
    clear hb183
    replace hJ := hJ.mv hM35; replace hb0 := hb0.mv hM35; replace hoT := hoT.mv hM35; replace hoG := hoG.mv hM35; replace hoS := hoS.mv hM35; replace hb4 := hb4.mv hM35
    replace ho2 := hOq
    refine WT.one <| WS.eff rfl rfl rfl (Eff.appendC sl23 rfl rfl ho2 (Src.flat Tryz.underlying23 ((hoG.rdG (by omega) z2).now.from_ (lo := (k : Int).toNat) (by omega))) mxl oms) rfl ?_
    rintro v191 w36 ⟨c36, hM36, hOq⟩
    refine ⟨fun hC => hC.step hCw hM36 rfl, ?_⟩
    replace hCw := hCw.tr hM36 rfl
    replace hJ := hJ.mv hM36; replace hb0 := hb0.mv hM36; replace hoT := hoT.mv hM36; replace hoS := hoS.mv hM36; replace hb4 := hb4.mv hM36
    replace ho2 := hOq
    have p1 := ho2.cellsV; have p2 := ho2.oneC
    refine WT.val rfl rfl rfl (fun _ => Val.nilCheck rfl) rfl <| WT.val rfl rfl rfl (fun _ => Val.fieldAddr fld26_1 rfl) rfl <| WT.one <| WS.wild rfl rfl rfl (Eff.storeC scl23 rfl rfl ra ra hb0 rfl) ?_
    rintro _ w37 ⟨hS, hM37⟩
    try replace hCw := hCw.tr hM37 rfl
    replace hJ := hJ.mv hM37; replace hoT := hoT.mv hM37; replace hoS := hoS.mv hM37; replace hb4 := hb4.mv hM37; replace ho2 := ho2.mv hM37
    replace hb0 := hS
    refine WT.nil ?_
    simp only [Int.toNat_natCast] at ho2
    have e1 : (S.tags.take k).length + 1 + (S.tags.drop k).length = k + 1 + (S.tags.length - k) := by simp; omega
    rw [e1] at ho2
    exact ⟨_, _, subs, hJ, hb0, hoT, hoS, hb4, ho2⟩
   refine WS.eff rfl rfl rfl (Eff.build1C cl 283 sl23 rfl rfl rfl rfl rfl) rfl ?_
   rintro _ w38 ⟨b183, c38, rfl, hM38, hb183⟩
   refine ⟨fun hC => hC.step hCw hM38 rfl, ?_⟩
   replace hCw := hCw.tr hM38 rfl
   replace hJ := hJ.mv hM38; replace hb0 := hb0.mv hM38; replace hoT := hoT.mv hM38; replace hoG := hoG.mv hM38; replace hoS := hoS.mv hM38; replace hb4 := hb4.mv hM38
   refine WT.one ?_
   refine WS.eff rfl rfl rfl (Eff.pureC c38 99 (Eff.call pf25 rfl (copyTags_ok ((hoG.rdG (by omega) z2).now.to_ (hi := (k : Int).toNat) (by omega)) (by simp; omega)))) rfl ?_
   rintro v177 w39 ⟨c39, hM39, hx39, ho2⟩
   refine ⟨fun hC => hC.step hCw hM39 rfl, ?_⟩
   replace hCw := hCw.tr hM39 rfl
   replace hJ := hJ.mv hM39; replace hb0 := hb0.mv hM39; replace hoT := hoT.mv hM39; replace hoG := hoG.mv hM39; replace hoS := hoS.mv hM39; replace hb4 := hb4.mv hM39; replace hb183 := hb183.mv hM39
   replace ho2 := ho2.toC hx39
   refine WT.one <| WS.eff rfl rfl rfl (Eff.appendC sl23 rfl rfl ho2 (Src.cellsAt Tryz.underlying23 hb183.blk.cellsAt rfl ones) mxl oms) rfl ?_
   rintro v184 w40 ⟨c40, hM40, hOq⟩
   refine ⟨fun hC => hC.step hCw hM40 rfl, ?_⟩
   replace hCw := hCw.tr hM40 rfl
   clear hb183
   replace hJ := hJ.mv hM40; replace hb0 := hb0.mv hM40; replace hoT := hoT.mv hM40; replace hoG := hoG.mv hM40; replace hoS := hoS.mv hM40; replace hb4 := hb4.mv hM40
   replace ho2 := hOq
   refine WT.one <| WS.eff rfl rfl rfl (Eff.appendC sl23 rfl rfl ho2 (Src.flat Tryz.underlying23 ((hoG.rdG (by omega) z2).now.from_ (lo := (k : Int).toNat) (by omega))) mxl oms) rfl ?_
   rintro v191 w41 ⟨c41, hM41, hOq⟩
   refine ⟨fun hC => hC.step hCw hM41 rfl, ?_⟩
   replace hCw := hCw.tr hM41 rfl
   replace hJ := hJ.mv hM41; replace hb0 := hb0.mv hM41; replace hoT := hoT.mv hM41; replace hoS := hoS.mv hM41; replace hb4 := hb4.mv hM41
   replace ho2 := hOq
   have p1 := ho2.cellsV; have p2 := ho2.oneC
   refine WT.val rfl rfl rfl (fun _ => Val.nilCheck rfl) rfl <| WT.val rfl rfl rfl (fun _ => Val.fieldAddr fld26_1 rfl) rfl <| WT.one <| WS.wild rfl rfl rfl (Eff.storeC scl23 rfl rfl ra ra hb0 rfl) ?_
   rintro _ w42 ⟨hS, hM42⟩
   try replace hCw := hCw.tr hM42 rfl
   replace hJ := hJ.mv hM42; replace hoT := hoT.mv hM42; replace hoS := hoS.mv hM42; replace hb4 := hb4.mv hM42; replace ho2 := ho2.mv hM42
   replace hb0 := hS
   refine WT.nil ?_
   simp only [Int.toNat_natCast] at ho2
   have e1 : (S.tags.take k).length + 1 + (S.tags.drop k).length = k + 1 + (S.tags.length - k) := by simp; omega
   rw [e1] at ho2
   exact ⟨_, _, subs, hJ, hb0, hoT, hoS, hb4, ho2⟩
  rintro e9 w9 ⟨c9, v9, hsub, hJ, hb0, hoT, hoS, hb4, ho2⟩
  refine WC.sub hsub ?_
  clear hsub e9
  have e1 : (S.tags.take k).flatMap encTg ++ encTg ⟨o.name, o.digest⟩ ++ (S.tags.drop k).flatMap encTg = (S.tags.take (lowG S.tags o.name) ++ ⟨o.name, o.digest⟩ :: S.tags.drop (lowG S.tags o.name)).flatMap encTg := by rw [hlow, List.flatMap_append, List.flatMap_cons, List.append_assoc]
  have e2 : k + 1 + (S.tags.length - k) = (S.tags.take (lowG S.tags o.name) ++ (⟨o.name, o.digest⟩ : Tg) :: S.tags.drop (lowG S.tags o.name)).length := by rw [hlow, List.length_append, List.length_cons, List.length_take, List.length_drop]; omega
  rw [e1, e2] at ho2
  have p3 := ho2.oneC
  refine cseq <| cg <| vq (Val.build (cells := #[.int .i64 0, .string ⟨[].toArray⟩, .int .i64 0]) rfl (by kernel_rfl)) ?_
  refine WR.eff_ (Eff.storeNC agg51 rfl rfl hb4 rfl rfl ones) ?_
  rintro _ w43 ⟨hS, hM43⟩
  replace hJ := hJ.mv hM43; replace hb0 := hb0.mv hM43; replace hoT := hoT.mv hM43; replace hoS := hoS.mv hM43; replace ho2 := ho2.mv hM43
  replace hb4 := hS
  refine cnil <| WC.retR1 rfl (RVal.cellN agg51 rfl hb4.blk rfl) ?_
  have e : doM S o = ({ S with tags := S.tags.take (lowG S.tags o.name) ++ ⟨o.name, o.digest⟩ :: S.tags.drop (lowG S.tags o.name) }, ⟨0, [], 0⟩) := by rw [hM, doTag, if_pos k9, if_pos hn9, if_pos ht9, hfn]; dsimp only; rw [if_neg (by omega)]
  rw [e]
  obtain ⟨c8, hM8, ho72, hoO, hbO⟩ := hJ.outM (i := 72) (j := 99) rfl
  exact ⟨c8, hM8, ⟨vT, _, vS, hbO hb0 rfl, hoO hoT rfl, ho72 ho2, hoO hoS rfl⟩, rfl⟩
 try simp only [tstS] at hc24
 have k9 : ¬ o.kind = 9 := by assumption
 refine cseq <| cseq <| cg <| vq (Val.eql rfl rfl) <| za rfl <| cnil ?_
 refine WC.mono (N := (fun e w' => ∃ (c' : Nat → Nat), Sub [(4000000, .tuple #[]), (0, .pointer (some ⟨b, 0, none⟩)), (3, .pointer (some ⟨b3, 0, none⟩)), (4, .pointer (some ⟨b4, 0, none⟩)), (21, I o.kind), (195, .bool (decide (o.kind = 10) || decide (o.kind = 11)))] e ∧ OldJ c w colS c' w' ∧ BlkC c' w' 70 b [vT, vG, vS, I S.next] 26 ∧ OwnC c' w' 71 60 3 vT S.things.length (S.things.flatMap encThg) ∧ OwnC c' w' 72 66 2 vG S.tags.length (S.tags.flatMap encTg) ∧ OwnC c' w' 73 63 2 vS S.sessions.length (S.sessions.flatMap encSes) ∧ BlkC c' w' 103 b3 (encOp o) 33 ∧ BlkC c' w' 104 b4 [I 0, St [], I 0] 51)) ?_ ?_
 ·refine WC.cond rfl (fun hc42 => ?_) (fun hc42 => ?_)
  ·try simp only [tstS] at hc42
   refine cskip ?_
   have hn : o.kind = 10 := by assumption
   rw [show (decide (o.kind = 10) || decide (o.kind = 11)) = decide (o.kind = 10) by simp [hn]]
   exact ⟨_, subs, hJ, hb0, hoT, hoG, hoS, hb3, hb4⟩
  try simp only [tstS] at hc42
  refine cg <| vq (Val.eql rfl rfl) <| za rfl <| cnil ?_
  have hn : ¬ o.kind = 10 := by assumption
  rw [show (decide (o.kind = 10) || decide (o.kind = 11)) = decide (o.kind = 11) by simp [hn]]
  first
    | exact ⟨_, subs, hJ, hb0, hoT, hoG, hoS, hb3, hb4⟩
 rintro e8 w8' ⟨c8', hsub, hJ, hb0, hoT, hoG, hoS, hb3, hb4⟩
 refine WC.sub hsub ?_
 clear hsub e8
 refine WC.cond rfl (fun hc42 => ?_) (fun hc42 => ?_)
 ·try simp only [tstS] at hc42
  have kk : o.kind = 10 ∨ o.kind = 11 := by omega
  have hM : doM S o = doTag S o := by rw [doM, if_neg (by omega), if_neg (by omega), if_neg (by omega), if_neg (by omega), if_pos (by omega)]
  refine cseq <| WC.regionD (Kp c8' w8' []) [0, 0, 0, 1, 0, 1, 2, 0] [0, 1, 2, 3, 4, 5, 6, 7] mixed (by kernel_rfl) ?_
  have hM44 := Mv.drew c8' w8' []
  have hCw := Mv.drew c8' w8' []
  generalize w8'.drew = w44 at hM44 hCw ⊢
  have hb00 := hb0
  have hb30 := hb3
  have hb40 := hb4
  replace hJ := hJ.mv hM44; replace hb0 := hb0.mv hM44; replace hoT := hoT.mv hM44; replace hoG := hoG.mv hM44; replace hoS := hoS.mv hM44; replace hb3 := hb3.mv hM44; replace hb4 := hb4.mv hM44
  refine zdm rfl rfl <| vd rfl (fun _ => Val.nilCheck rfl) <| vd rfl (fun _ => Val.fieldAddr fld26_1 rfl) <| vc rfl hCw.kp (fun W hW => Val.loadB scl23 rfl (hb00.kp hW rfl).blk rfl) <| vd rfl (fun _ => Val.fieldAddr fld33_4 rfl) <| vc rfl hCw.kp (fun W hW => Val.loadB scl9 rfl (hb30.kp hW rfl).blk rfl) <| WD.eff rfl rfl rfl (Eff.pureC c8' 1 (Eff.call pf67 rfl (ptag_ok (hoG.rdG (by omega) z2).now))) rfl ?_
  rintro v204 w45 ⟨c45, hM45, hx45, rfl⟩
  refine ⟨fun hC => hC.step hCw hM45 rfl, ?_⟩
  replace hCw := hCw.tr hM45 rfl
  replace hJ := hJ.mv hM45; replace hb0 := hb0.mv hM45; replace hoT := hoT.mv hM45; replace hoG := hoG.mv hM45; replace hoS := hoS.mv hM45; replace hb3 := hb3.mv hM45; replace hb4 := hb4.mv hM45
  refine zda rfl rfl <| WD.nil ?_
  clear hb00 hb30 hb40
  clear hCw
  refine cseq <| cseq <| cg <| zm rfl <| vq (Val.lss rfl rfl) <| cnil <| WC.cond rfl (fun hc45 => ?_) (fun hc45 => ?_)
  ·try simp only [tstS] at hc45
   refine cseq <| cg <| vq (Val.build (cells := #[I 0, St [], I 3]) rfl (by kernel_rfl)) ?_
   refine WR.eff_ (Eff.storeNC agg51 rfl rfl hb4 rfl rfl ones) ?_
   rintro _ w46 ⟨hS, hM46⟩
   replace hJ := hJ.mv hM46; replace hb0 := hb0.mv hM46; replace hoT := hoT.mv hM46; replace hoG := hoG.mv hM46; replace hoS := hoS.mv hM46
   replace hb4 := hS
   refine cnil <| WC.retR1 rfl (RVal.cellN agg51 rfl hb4.blk rfl) ?_
   have e : doM S o = bad S 3 := by
     cases hf : findG S.tags o.name with
     | none => rw [hM, doTag, if_neg k9, hf]
     | some k => rw [hf] at hc45; simp [atO] at hc45; omega
   rw [e]
   exact ⟨_, hJ.out, ⟨_, vG, vS, hb0.out hJ rfl, hoT.out hJ rfl, hoG.out hJ rfl, hoS.out hJ rfl⟩, rfl⟩
  try simp only [tstS] at hc45
  obtain ⟨k, hf⟩ : ∃ k, findG S.tags o.name = some k := by
    cases hf : findG S.tags o.name with
    | none => rw [hf] at hc45; simp [atO] at hc45
    | some k => exact ⟨k, rfl⟩
  rw [show atO (findG S.tags o.name) = (k : Int) by rw [hf]; rfl]
  obtain ⟨hk, hkq, _⟩ := List.findIdx?_eq_some_iff_getElem.1 hf
  obtain ⟨g, cp, rfl, hncp, hm1⟩ := hoG.posForm (by omega)
  have hx : ((S.tags[k]?).map Tg.digest).getD [] = S.tags[k].digest := by rw [List.getElem?_eq_getElem hk]; rfl
  obtain ⟨hc216, _⟩ := RdC.elFlat (hoG.rdG (by omega) z2) hk (by decide)
  have hc217 := hc216.at_ (i := 1) rfl
  clear hc216
  refine cskip <| cseq <| cseq <| cg <| vq (Val.fieldAddr fld33_0 rfl) <| vq (Val.loadB scl3 rfl hb3.blk rfl) <| vq (Val.eql rfl rfl) <| cnil <| WC.cond rfl (fun hc47 => ?_) (fun hc47 => ?_)
  ·try simp only [tstS] at hc47
   refine cseq <| cg <| zm rfl <| vq (Val.nilCheck rfl) <| vq (Val.fieldAddr fld26_1 rfl) <| vq (Val.loadB scl23 rfl hb0.blk rfl) <| zm rfl <| vq (Val.indexO sl23 hoG rfl rfl (by omega) (by omega)) ?_
   first | refine vq (Val.fieldAddr fld66_1 rfl) ?_ | refine vq (Val.fieldAddrP fld66_1 rfl) ?_
   refine vq (Val.loadE1 scl9 rfl hc217.cel) <| vq (Val.build (cells := #[I 0, St S.tags[k].digest, I 0]) rfl (by kernel_rfl)) ?_
   refine WR.eff_ (Eff.storeNC agg51 rfl rfl hb4 rfl rfl ones) ?_
   rintro _ w47 ⟨hS, hM47⟩
   replace hJ := hJ.mv hM47; replace hb0 := hb0.mv hM47; replace hoT := hoT.mv hM47; replace hoG := hoG.mv hM47; replace hoS := hoS.mv hM47
   replace hb4 := hS
   refine cnil <| WC.retR1 rfl (RVal.cellN agg51 rfl hb4.blk rfl) ?_
   have e : doM S o = (S, ⟨0, S.tags[k].digest, 0⟩) := by rw [hM, doTag, if_neg k9, hf]; dsimp only; rw [if_pos (by assumption), hx]
   rw [e]
   exact ⟨_, hJ.out, ⟨_, _, vS, hb0.out hJ rfl, hoT.out hJ rfl, hoG.out hJ rfl, hoS.out hJ rfl⟩, rfl⟩
  try simp only [tstS] at hc47
  refine cskip <| cseq <| WC.regionD (Kp c45 w45 [99]) [0, 0, 0, 0, 1, 0, 0, 2, 0, 0, 0, 1, 0, 0, 0, 2, 0, 0, 3] [0, 1, 2, 3, 4, 5, 6, 8, 9, 10, 11, 12, 13, 14, 7, 15, 16, 17, 18] mixed (by kernel_rfl) ?_
  have hM48 := Mv.drew c45 w45 []
  have hCw := Mv.drew c45 w45 [99]
  generalize w45.drew = w48 at hM48 hCw ⊢
  have hb00 := hb0
  have hb30 := hb3
  have hb40 := hb4
  replace hJ := hJ.mv hM48; replace hb0 := hb0.mv hM48; replace hoT := hoT.mv hM48; replace hoG := hoG.mv hM48; replace hoS := hoS.mv hM48; replace hb4 := hb4.mv hM48
  refine zdm rfl rfl <| zdm rfl rfl <| vd rfl (fun _ => Val.nilCheck rfl) <| vd rfl (fun _ => Val.fieldAddr fld26_1 rfl) <| vc rfl hCw.kp (fun W hW => Val.loadB scl23 rfl (hb00.kp hW rfl).blk rfl) <| zdm rfl rfl <| vd rfl (fun _ => Val.partTo sl23 rfl rfl (by omega) (by omega)) <| zdm rfl rfl <| vd rfl (fun _ => Val.nilCheck rfl) ?_
  refine vd rfl (fun _ => Val.fieldAddr fld26_1 rfl) <| vc rfl hCw.kp (fun W hW => Val.loadB scl23 rfl (hb00.kp hW rfl).blk rfl) <| zdm rfl rfl <| vd rfl (fun _ => Val.addI rfl rfl side side) <| vd rfl (fun _ => Val.partFrom sl23 rfl rfl (by omega) (by omega)) ?_
  refine WD.eff rfl rfl rfl (Eff.pureC c45 99 (Eff.call pf25 rfl (copyTags_ok ((hoG.rdG (by omega) z2).now.to_ (hi := (k : Int).toNat) (by omega)) (by simp; omega)))) rfl ?_
  rintro v227 w49 ⟨c49, hM49, hx49, ho2⟩
  refine ⟨fun hC => hC.step hCw hM49 rfl, ?_⟩
  replace hCw := hCw.tr hM49 rfl
  replace hJ := hJ.mv hM49; replace hb0 := hb0.mv hM49; replace hoT := hoT.mv hM49; replace hoG := hoG.mv hM49; replace hoS := hoS.mv hM49; replace hb4 := hb4.mv hM49
  replace ho2 := ho2.toC hx49
  refine WD.eff rfl rfl rfl (Eff.appendC sl23 rfl rfl ho2 (Src.flat Tryz.underlying23 ((hoG.rdG (by omega) z2).now.from_ (lo := ((k : Int) + 1).toNat) (by omega))) mxl oms) rfl ?_
  rintro v235 w50 ⟨c50, hM50, hOq⟩
  refine ⟨fun hC => hC.step hCw hM50 rfl, ?_⟩
  replace hCw := hCw.tr hM50 rfl
  replace hJ := hJ.mv hM50; replace hb0 := hb0.mv hM50; replace hoT := hoT.mv hM50; replace hoS := hoS.mv hM50; replace hb4 := hb4.mv hM50
  replace ho2 := hOq
  have p1 := ho2.cellsV; have p2 := ho2.oneC
  refine vd rfl (fun _ => Val.nilCheck rfl) <| vd rfl (fun _ => Val.fieldAddr fld26_1 rfl) <| WD.wild rfl rfl rfl (Eff.storeC scl23 rfl rfl ra ra hb0 rfl) ?_
  rintro _ w51 ⟨hS, hM51⟩
  try replace hCw := hCw.tr hM51 rfl
  replace hJ := hJ.mv hM51; replace hoT := hoT.mv hM51; replace hoS := hoS.mv hM51; replace hb4 := hb4.mv hM51; replace ho2 := ho2.mv hM51
  replace hb0 := hS
  refine WD.nil ?_
  clear hb00 hb30 hb40
  clear hCw
  refine cseq <| cg <| vq (Val.build (cells := #[.int .i64 0, .string ⟨[].toArray⟩, .int .i64 0]) rfl (by kernel_rfl)) ?_
  refine WR.eff_ (Eff.storeNC agg51 rfl rfl hb4 rfl rfl ones) ?_
  rintro _ w52 ⟨hS, hM52⟩
  replace hJ := hJ.mv hM52; replace hb0 := hb0.mv hM52; replace hoT := hoT.mv hM52; replace hoS := hoS.mv hM52; replace ho2 := ho2.mv hM52
  replace hb4 := hS
  refine cnil <| WC.retR1 rfl (RVal.cellN agg51 rfl hb4.blk rfl) ?_
  have e : doM S o = ({ S with tags := S.tags.eraseIdx k }, ⟨0, [], 0⟩) := by rw [hM, doTag, if_neg k9, hf]; dsimp only; rw [if_neg (by assumption)]
  rw [e]
  obtain ⟨c8, hM8, ho72, hoO, hbO⟩ := hJ.outM (i := 72) (j := 99) rfl
  have ek : ((k : Int) + 1).toNat = k + 1 := by omega
  rw [ek, Int.toNat_natCast, ← List.flatMap_append, ← List.length_append, ← List.eraseIdx_eq_take_drop_succ] at ho2
  exact ⟨c8, hM8, ⟨vT, _, vS, hbO hb0 rfl, hoO hoT rfl, ho72 ho2, hoO hoS rfl⟩, rfl⟩
 try simp only [tstS] at hc42
 have hM : doM S o = doSweep S := by rw [doM, if_neg (by omega), if_neg (by omega), if_neg (by omega), if_neg (by omega), if_neg (by omega)]
 refine cskip <| cseq <| cg <| za rfl <| cnil <| cseq <| cseq <| cg <| za rfl <| cnil <| cblock <| WC.loop (σ := Nat × Value) (fun st => [(0, .pointer (some ⟨b, 0, none⟩)), (4, .pointer (some ⟨b4, 0, none⟩)), (14, st.2), (15, I st.1)]) (fun st w' => ∃ c', OldJ c w colS c' w' ∧ BlkC c' w' 70 b [vT, vG, vS, I S.next] 26 ∧ OwnC c' w' 71 60 3 vT S.things.length (S.things.flatMap encThg) ∧ OwnC c' w' 72 66 2 vG S.tags.length (S.tags.flatMap encTg) ∧ OwnC c' w' 73 63 2 vS S.sessions.length (S.sessions.flatMap encSes) ∧ BlkC c' w' 104 b4 [I 0, St [], I 0] 51 ∧ OwnC c' w' 60 9 1 st.2 ((S.tags.take st.1).map Tg.digest).length (((S.tags.take st.1).map Tg.digest).flatMap fun x => [St x]) ∧ st.1 ≤ S.tags.length) (fun st => S.tags.length - st.1) (0, .slice none 0 0) subs ⟨_, hJ, hb0, hoT, hoG, hoS, hb4, OwnC.nil _ _ _ _ _, by simp⟩ ?_
 clear hJ hb0 hoT hoG hoS hb3 hb4
 rintro ⟨k, v4⟩ wl ⟨cl, hJ, hb0, hoT, hoG, hoS, hb4, ho, hk⟩
 dsimp only at hJ ho hk ⊢
 refine cseq <| cseq <| cg <| zm rfl <| zm rfl <| vq (Val.nilCheck rfl) <| vq (Val.fieldAddr fld26_1 rfl) <| vq (Val.loadB scl23 rfl hb0.blk rfl) <| vq (Val.olen sl23 hoG rfl) <| vq (Val.lss rfl rfl) <| cnil <| WC.cond rfl (fun hc53 => ?_) (fun hc53 => ?_)
 ·try simp only [tstS] at hc53
  have ka : k < S.tags.length := by omega
  obtain ⟨hc254, _⟩ := RdC.elFlat (hoG.rdG (by omega) z2) ka (by decide)
  have hc255 := hc254.at_ (i := 1) rfl
  clear hc254
  have hll : ((S.tags.take k).map Tg.digest).length = k := by rw [List.length_map, List.length_take]; omega
  refine cskip <| cseq <| cblock <| cg <| zm rfl <| zm rfl <| vq (Val.nilCheck rfl) <| vq (Val.fieldAddr fld26_1 rfl) <| vq (Val.loadB scl23 rfl hb0.blk rfl) <| zm rfl <| vq (Val.indexO sl23 hoG rfl rfl (by omega) (by omega)) ?_
  first | refine vq (Val.fieldAddr fld66_1 rfl) ?_ | refine vq (Val.fieldAddrP fld66_1 rfl) ?_
  refine vq (Val.loadE1 scl9 rfl hc255.cel) <| ve (Eff.build1C cl 357 sl70 rfl rfl rfl rfl rfl) ?_
  rintro _ w53 ⟨b257, c53, rfl, hM53, hb257⟩
  replace hJ := hJ.mv hM53; replace hb0 := hb0.mv hM53; replace hoT := hoT.mv hM53; replace hoG := hoG.mv hM53; replace hoS := hoS.mv hM53; replace hb4 := hb4.mv hM53; replace ho := ho.mv hM53
  refine ve (Eff.appendC sl70 rfl rfl ho (Src.cellsAt Tryz.underlying70 hb257.blk.cellsAt rfl ones) mxl oms) ?_
  rintro v258 w54 ⟨c54, hM54, hOq⟩
  clear hb257
  replace hJ := hJ.mv hM54; replace hb0 := hb0.mv hM54; replace hoT := hoT.mv hM54; replace hoG := hoG.mv hM54; replace hoS := hoS.mv hM54; replace hb4 := hb4.mv hM54
  replace ho := hOq
  refine za rfl <| cnil <| cg <| zm rfl <| vq (Val.addI rfl rfl side side) <| za rfl <| cnil ?_
  have e : (S.tags.take (k + 1)).map Tg.digest = (S.tags.take k).map Tg.digest ++ [S.tags[k].digest] := by rw [List.take_add_one, List.getElem?_eq_getElem ka, List.map_append]; rfl
  exact ⟨(k + 1, _), subs, ⟨_, hJ, hb0, hoT, hoG, hoS, hb4, by dsimp only; rw [e, List.flatMap_append, List.length_append]; exact ho, ka⟩, by dsimp only; omega⟩
 try simp only [tstS] at hc53
 have hkn : k = S.tags.length := by omega
 subst hkn
 rw [List.take_length] at ho
 have hrl : (S.tags.map Tg.digest).length = S.tags.length := List.length_map _
 have hrx : ∀ x ∈ S.tags.map Tg.digest, x.length ≤ 140737488355328 := fun x hx => by
   obtain ⟨t, ht, rfl⟩ := List.mem_map.1 hx
   exact (z2 t ht).2
 have hz1 := fun t ht => (z1 t ht).2
 have hft : ∀ x ∈ fromT S.things (S.tags.map Tg.digest), x.length ≤ 140737488355328 := fromT_textsN fun t ht => (z1 t ht).1
 have hfl : (fromT S.things (S.tags.map Tg.digest)).length ≤ S.things.length := fromUpTo_len _ _ _
 have hsw : sweptT S = S.things.filter fun t => (fromT S.things (S.tags.map Tg.digest)).contains t.digest := rfl
 generalize S.tags.map Tg.digest = R at ho hrl hrx hft hfl hsw
 refine WC.exit rfl <| cseq <| cg <| zm rfl <| vq (Val.nilCheck rfl) <| vq (Val.fieldAddr fld26_0 rfl) <| vq (Val.loadB scl22 rfl hb0.blk rfl) <| zm rfl <| ve (Eff.pureC cl 61 (Eff.call pf68 rfl (pfrom_ok (hoT.rdT (by omega) z1).now (ho.own.rdStrs hrx (by omega)) hz1 (by omega) (by omega)))) ?_
 rintro v264 w55 ⟨c55, hM55, hx55, hst⟩
 replace hJ := hJ.mv hM55; replace hb0 := hb0.mv hM55; replace hoT := hoT.mv hM55; replace hoG := hoG.mv hM55; replace hoS := hoS.mv hM55; replace hb4 := hb4.mv hM55; replace ho := ho.mv hM55
 replace hst := hst.toC hx55
 have p9 := hst.own.oneC; have p8 := hst.cellsV
 refine za rfl <| cnil <| cseq ?_
 replace hst : RdC strS _ _ [61] v264 (fromT S.things R) := hst.rdFlat (by omega) hft
 generalize fromT S.things R = F at hst hft hfl hsw
 refine cg <| za rfl <| cnil <| cseq <| cseq <| cg <| za rfl <| cnil <| cblock <| WC.loop (σ := Nat × Value) (fun st => [(0, .pointer (some ⟨b, 0, none⟩)), (4, .pointer (some ⟨b4, 0, none⟩)), (16, v264), (17, st.2), (18, I st.1)]) (fun st w' => ∃ c', OldJ c w colS c' w' ∧ BlkC c' w' 70 b [vT, vG, vS, I S.next] 26 ∧ OwnC c' w' 71 60 3 vT S.things.length (S.things.flatMap encThg) ∧ OwnC c' w' 72 66 2 vG S.tags.length (S.tags.flatMap encTg) ∧ OwnC c' w' 73 63 2 vS S.sessions.length (S.sessions.flatMap encSes) ∧ BlkC c' w' 104 b4 [I 0, St [], I 0] 51 ∧ RdC strS c' w' [61] v264 F ∧ OwnC c' w' 99 60 3 st.2 ((S.things.take st.1).filter fun t => F.contains t.digest).length (((S.things.take st.1).filter fun t => F.contains t.digest).flatMap encThg) ∧ st.1 ≤ S.things.length) (fun st => S.things.length - st.1) (0, .slice none 0 0) subs ⟨_, hJ, hb0, hoT, hoG, hoS, hb4, hst, OwnC.nil _ _ _ _ _, by simp⟩ ?_
 clear hJ hb0 hoT hoG hoS hb4 hst ho
 rintro ⟨k, v4⟩ wl ⟨cl, hJ, hb0, hoT, hoG, hoS, hb4, hst, ho, hk⟩
 dsimp only at hJ ho hk ⊢
 have hll : ((S.things.take k).filter fun t => F.contains t.digest).length ≤ 200 := Nat.le_trans (List.length_filter_le _ _) (by rw [List.length_take]; omega)
 refine cseq <| cseq <| cg <| zm rfl <| zm rfl <| vq (Val.nilCheck rfl) <| vq (Val.fieldAddr fld26_0 rfl) <| vq (Val.loadB scl22 rfl hb0.blk rfl) <| vq (Val.olen sl22 hoT rfl) <| vq (Val.lss rfl rfl) <| cnil <| WC.cond rfl (fun hc59 => ?_) (fun hc59 => ?_)
 ·try simp only [tstS] at hc59
  have ka : k < S.things.length := by omega
  obtain ⟨hc280, _⟩ := RdC.elFlat (hoT.rdT (by omega) z1) ka (by decide)
  have hc290 := hc280
  have hfs := filter_take_succ (p := fun t : Thg => F.contains t.digest) ka
  refine cskip <| cseq <| cblock <| cseq <| cg <| zm rfl <| zm rfl <| vq (Val.nilCheck rfl) <| vq (Val.fieldAddr fld26_0 rfl) <| vq (Val.loadB scl22 rfl hb0.blk rfl) <| zm rfl <| vq (Val.indexO sl22 hoT rfl rfl (by omega) (by omega)) <| vq (Val.fieldAddrP fld60_0 rfl) <| vq (Val.loadEf scl9 rfl hc280.cel rfl) ?_
  refine ve (Eff.pureC cl 1 (Eff.call pf69 rfl (zhas_ok hst.now))) ?_
  rintro v283 w56 ⟨c56, hM56, hx56, rfl⟩
  replace hJ := hJ.mv hM56; replace hb0 := hb0.mv hM56; replace hoT := hoT.mv hM56; replace hoG := hoG.mv hM56; replace hoS := hoS.mv hM56; replace hb4 := hb4.mv hM56; replace hst := hst.mv hM56; replace ho := ho.mv hM56; replace hc290 := hc290.mv hM56
  refine cnil <| WC.cond rfl (fun hc61 => ?_) (fun hc61 => ?_)
  ·try simp only [tstS] at hc61
   refine cg <| zm rfl <| zm rfl <| vq (Val.nilCheck rfl) <| vq (Val.fieldAddr fld26_0 rfl) <| vq (Val.loadB scl22 rfl hb0.blk rfl) <| zm rfl <| vq (Val.indexO sl22 hoT rfl rfl (by omega) (by omega)) <| vq (Val.loadE agg60 rfl hc290.cel rfl) ?_
   refine ve (Eff.build1C c56 392 sl22 rfl rfl rfl rfl rfl) ?_
   rintro _ w57 ⟨b292, c57, rfl, hM57, hb292⟩
   replace hJ := hJ.mv hM57; replace hb0 := hb0.mv hM57; replace hoT := hoT.mv hM57; replace hoG := hoG.mv hM57; replace hoS := hoS.mv hM57; replace hb4 := hb4.mv hM57; replace hst := hst.mv hM57; replace ho := ho.mv hM57
   refine ve (Eff.appendC sl22 rfl rfl ho (Src.cellsAt Tryz.underlying22 hb292.blk.cellsAt rfl ones) mxl oms) ?_
   rintro v293 w58 ⟨c58, hM58, hOq⟩
   clear hb292
   replace hJ := hJ.mv hM58; replace hb0 := hb0.mv hM58; replace hoT := hoT.mv hM58; replace hoG := hoG.mv hM58; replace hoS := hoS.mv hM58; replace hb4 := hb4.mv hM58; replace hst := hst.mv hM58
   replace ho := hOq
   refine za rfl <| cnil <| cg <| zm rfl <| vq (Val.addI rfl rfl side side) <| za rfl <| cnil ?_
   first
   | rw [if_neg (by simp_all)] at hfs; rw [List.append_nil] at hfs; exact ⟨(k + 1, _), subs, ⟨_, hJ, hb0, hoT, hoG, hoS, hb4, hst, by dsimp only; rw [hfs]; exact ho, ka⟩, by dsimp only; omega⟩
   | rw [if_pos (by assumption)] at hfs; exact ⟨(k + 1, _), subs, ⟨_, hJ, hb0, hoT, hoG, hoS, hb4, hst, by dsimp only; rw [hfs, List.flatMap_append, List.length_append]; exact ho, ka⟩, by dsimp only; omega⟩
  try simp only [tstS] at hc61
  refine cskip <| cg <| zm rfl <| vq (Val.addI rfl rfl side side) <| za rfl <| cnil ?_
  first
  | rw [if_neg (by simp_all)] at hfs; rw [List.append_nil] at hfs; exact ⟨(k + 1, _), subs, ⟨_, hJ, hb0, hoT, hoG, hoS, hb4, hst, by dsimp only; rw [hfs]; exact ho, ka⟩, by dsimp only; omega⟩
  | rw [if_pos (by assumption)] at hfs; exact ⟨(k + 1, _), subs, ⟨_, hJ, hb0, hoT, hoG, hoS, hb4, hst, by dsimp only; rw [hfs, List.flatMap_append, List.length_append]; exact ho, ka⟩, by dsimp only; omega⟩
 try simp only [tstS] at hc59
 have hkn : k = S.things.length := by omega
 subst hkn
 rw [List.take_length, ← hsw] at ho
 have p8 := ho.cellsV; have p9 := ho.oneC
 have hslen : (sweptT S).length ≤ S.things.length := List.length_filter_le _ _
 refine WC.exit rfl <| cseq <| cg <| zm rfl <| vq (Val.nilCheck rfl) <| vq (Val.fieldAddr fld26_0 rfl) <| vq (Val.loadB scl22 rfl hb0.blk rfl) <| vq (Val.olen sl22 hoT rfl) <| zm rfl <| vq (Val.olen sl22 ho rfl) <| vq (Val.subI rfl rfl side side) <| za rfl <| cnil <| cseq <| cg <| zm rfl <| zm rfl <| vq (Val.nilCheck rfl) <| vq (Val.fieldAddr fld26_0 rfl) ?_
 refine WR.eff_ (Eff.storeC scl22 rfl rfl ra ra hb0 rfl) ?_
 rintro _ w59 ⟨hS, hM59⟩
 replace hJ := hJ.mv hM59; replace hoG := hoG.mv hM59; replace hoS := hoS.mv hM59; replace hb4 := hb4.mv hM59; replace ho := ho.mv hM59
 replace hb0 := hS
 refine cnil <| cseq <| cg <| zm rfl <| vq (Val.build (cells := #[I ((S.things.length : Int) - ((sweptT S).length : Int)), St [], I 0]) rfl (by kernel_rfl)) ?_
 refine WR.eff_ (Eff.storeNC agg51 rfl rfl hb4 rfl rfl ones) ?_
 rintro _ w60 ⟨hS, hM60⟩
 replace hJ := hJ.mv hM60; replace hb0 := hb0.mv hM60; replace hoG := hoG.mv hM60; replace hoS := hoS.mv hM60; replace ho := ho.mv hM60
 replace hb4 := hS
 refine cnil <| WC.retR1 rfl (RVal.cellN agg51 rfl hb4.blk rfl) ?_
 rw [hM]
 obtain ⟨c8, hM8, ho71, hoO, hbO⟩ := hJ.outM (i := 71) (j := 99) rfl
 exact ⟨c8, hM8, ⟨_, vG, vS, hbO hb0 rfl, ho71 ho, hoO hoG rfl, hoO hoS rfl⟩, rfl⟩
end Go.Proofs.YtdlpibhecdfbcabGreatDoor

namespace Go.Proofs.YtdlpibhecdfbcabGreatDoor
open Go Go.Eng Go.RowKit Silo TryzT
set_option maxHeartbeats 1000000 in
theorem mopened_ok {w : World} {vT vG vS : Value} {S : Sta} (h1 : Rd thgS w vT S.things) (h2 : Rd tgS w vG S.tags) (h3 : Rd sesS w vS S.sessions) (hp1 : PlainV vT) (hp2 : PlainV vG) (hp3 : PlainV vS) : Calls Tryz.prog 16 #[.agg #[vT, vG, vS, I S.next]] w (Ret fun v w' => Below w.heap.size w w' ∧ ∃ uT uG uS S', v = .tuple #[.agg #[uT, uG, uS, I S'.next], I (if staMay S then 0 else 1)] ∧ (S' = if staMay S then openedS S else Sta0) ∧ Own w' w.heap.size 60 3 uT S'.things.length (S'.things.flatMap encThg) ∧ Own w' w.heap.size 66 2 uG S'.tags.length (S'.tags.flatMap encTg) ∧ Own w' w.heap.size 63 2 uS S'.sessions.length (S'.sessions.flatMap encSes)) := by
 obtain ⟨c, hOl, hc⟩ := OldC.start w
 have q1 := h1.oneC; have q2 := h2.oneC; have q3 := h3.oneC
 have hgx := h2.okFlat; have hsx := h3.okFlat
 replace h1 : RdC thgS c w [0] vT S.things := Rd.toC h1 (fun k hk => by simp [hc, hasC])
 replace h2 : RdC tgS c w [0] vG S.tags := Rd.toC h2 (fun k hk => by simp [hc, hasC])
 replace h3 : RdC sesS c w [0] vS S.sessions := Rd.toC h3 (fun k hk => by simp [hc, hasC])
 clear hc
 refine enter (n := 13) (res := #[.cell 2 26, .tmp 3]) Tryz.func16 rfl rfl rfl rfl <| cseq <| cg <| ve (Eff.boxC c 101 rfl) ?_
 rintro _ w1 ⟨b1, c1, rfl, m, hb1⟩
 replace hOl := hOl.mv m; replace h1 := h1.mv m; replace h2 := h2.mv m; replace h3 := h3.mv m
 refine ve (Eff.allocC c1 102 zero26) ?_
 rintro _ w2 ⟨b2, c2, rfl, m, hb2⟩
 replace hOl := hOl.mv m; replace h1 := h1.mv m; replace h2 := h2.mv m; replace h3 := h3.mv m; replace hb1 := hb1.mv m
 refine za rfl <| cnil <| cseq <| cseq <| cg <| vq (Val.loadBN agg26 rfl hb1.blk rfl) <| ve (Eff.pureC c2 1 (Eff.call pf34 rfl (mmay2_ok h1.now h2.now h3.now))) ?_
 rintro v5 w3 ⟨c3, m, hx3, rfl⟩
 replace hOl := hOl.mv m; replace h1 := h1.mv m; replace h2 := h2.mv m; replace h3 := h3.mv m; replace hb1 := hb1.mv m; replace hb2 := hb2.mv m
 refine vq (Val.not rfl) <| cnil <| WC.cond rfl (fun hc1 => ?_) (fun hc1 => ?_)
 ·try simp only [tstS] at hc1
  refine cseq <| cg <| vq (Val.build (cells := #[.slice none 0 0, .slice none 0 0, .slice none 0 0, .int .i64 0]) rfl (by kernel_rfl)) ?_
  refine WR.eff_ (Eff.storeNC agg26 rfl rfl hb2 rfl rfl ones) ?_
  rintro _ w4 ⟨hS, m⟩
  replace hOl := hOl.mv m
  replace hb2 := hS
  refine za rfl <| cnil <| WC.retR2 rfl (RVal.cellN agg26 rfl hb2.blk rfl) (RVal.tmp rfl) ?_
  have hm : staMay S = false := by simpa using hc1
  rw [hm]
  exact ⟨hOl.below, _, _, _, Sta0, rfl, rfl, Own.nil _ _ _ _, Own.nil _ _ _ _, Own.nil _ _ _ _⟩
 try simp only [tstS] at hc1
 have hm : staMay S = true := by simpa using hc1
 obtain ⟨hsm, hrT, hrG, hrS⟩ := may_small hm hgx hsx
 have hs4 := hsm.2.2.2.1; have hs5 := hsm.2.2.2.2.1; have hs6 := hsm.2.2.2.2.2.1
 refine cskip <| cseq <| cg <| vq (Val.loadBN agg26 rfl hb1.blk rfl) <| ve (Eff.call pf35 rfl (mown_ok (c := c3) h1.now h2.now h3.now hp1 hp2 hp3 (by omega) (by omega) (by omega))) ?_
 rintro v9 w5 ⟨c5, m, ⟨uT, uG, uS, rfl, hoT, hoG, hoS⟩⟩
 replace hOl := hOl.mv m; replace hb1 := hb1.mv m; replace hb2 := hb2.mv m
 have p1 := hoT.oneC; have p2 := hoG.oneC; have p3 := hoS.oneC
 refine WR.eff_ (Eff.storeNC agg26 rfl rfl hb1 rfl rfl ones) ?_
 rintro _ w6 ⟨hS, m⟩
 replace hOl := hOl.mv m; replace hb2 := hb2.mv m; replace hoT := hoT.mv m; replace hoG := hoG.mv m
 replace hb1 := hS
 refine cnil <| cseq <| cg <| vq (Val.fieldAddr fld26_2 rfl) <| WR.eff_ (Eff.storeC scl24 rfl rfl ra ra hb1 rfl) ?_
 rintro _ w7 ⟨hS, m⟩
 replace hOl := hOl.mv m; replace hb2 := hb2.mv m; replace hoT := hoT.mv m; replace hoG := hoG.mv m
 replace hb1 := hS
 refine vq (Val.fieldAddr fld26_3 rfl) <| WR.eff_ (Eff.storeC scl3 rfl rfl ra ra hb1 rfl) ?_
 rintro _ w8 ⟨hS, m⟩
 replace hOl := hOl.mv m; replace hb2 := hb2.mv m; replace hoT := hoT.mv m; replace hoG := hoG.mv m
 replace hb1 := hS
 refine cnil <| cseq <| cg <| vq (Val.loadBN agg26 rfl hb1.blk rfl) <| WR.eff_ (Eff.storeNC agg26 rfl rfl hb2 rfl rfl ones) ?_
 rintro _ w9 ⟨hS, m⟩
 replace hOl := hOl.mv m; replace hoT := hoT.mv m; replace hoG := hoG.mv m
 replace hb2 := hS
 refine za rfl <| cnil <| WC.retR2 rfl (RVal.cellN agg26 rfl hb2.blk rfl) (RVal.tmp rfl) ?_
 rw [hm]
 exact ⟨hOl.below, _, _, _, openedS S, rfl, rfl, hoT.fromOld hOl (by decide), hoG.fromOld hOl (by decide), Own.nil _ _ _ _⟩
end Go.Proofs.YtdlpibhecdfbcabGreatDoor

namespace Silo
open Go Go.Eng
def putT (T : List Thg) (t : Thg) : List Thg := T.take (lowT T t.digest) ++ t :: T.drop (lowT T t.digest)
theorem lowBy_lt {α : Type} {p : α → Bool} : ∀ {l : List α} {k : Nat} (hk : k < l.length), k < lowBy p l → p l[k] = true
  | a :: r, 0, _, h => by
    cases hp : p a with
    | true => exact hp
    | false => simp [lowBy, List.takeWhile_cons, hp] at h
  | a :: r, k + 1, hk, h => by
    cases hp : p a with
    | true =>
      simp only [lowBy, List.takeWhile_cons, hp, if_true, List.length_cons] at h
      have := lowBy_lt (p := p) (l := r) (k := k) (by simpa using hk) (by unfold lowBy; omega)
      simpa using this
    | false => simp [lowBy, List.takeWhile_cons, hp] at h
theorem lowBy_ge {α : Type} {p : α → Bool} : ∀ {l : List α} (h : lowBy p l < l.length), p l[lowBy p l] = false
  | a :: r, h => by
    by_cases hp : p a = true
    · have e : lowBy p (a :: r) = lowBy p r + 1 := by simp [lowBy, List.takeWhile_cons, hp]
      simp only [e, List.getElem_cons_succ]
      exact lowBy_ge (l := r) (by rw [e] at h; simpa using h)
    · have e : lowBy p (a :: r) = 0 := by simp [lowBy, List.takeWhile_cons, hp]
      simp only [e, List.getElem_cons_zero]
      simpa using hp
theorem mem_putT {T : List Thg} {t x : Thg} : x ∈ putT T t ↔ x = t ∨ x ∈ T := by
  have hm : x ∈ T ↔ x ∈ T.take (lowT T t.digest) ∨ x ∈ T.drop (lowT T t.digest) := by rw [← List.mem_append, List.take_append_drop]
  rw [putT, List.mem_append, List.mem_cons, hm]
  constructor
  · rintro (h | h | h)
    · exact .inr (.inl h)
    · exact .inl h
    · exact .inr (.inr h)
  · rintro (h | h | h)
    · exact .inr (.inl h)
    · exact .inl h
    · exact .inr (.inr h)
theorem putT_len (T : List Thg) (t : Thg) : (putT T t).length = T.length + 1 := by
  have := lowBy_le (fun x : Thg => Op.bytesLess x.digest t.digest) T
  have h2 : lowT T t.digest ≤ T.length := this
  simp only [putT, List.length_append, List.length_cons, List.length_take, List.length_drop]; omega
theorem riseT_pair {T : List Thg} : RiseT T ↔ (T.map Thg.digest).Pairwise L := by
  rw [List.pairwise_iff_getElem]
  constructor
  · intro h i j hi hj hij
    simp only [List.length_map] at hi hj
    simpa using h i j hi hj hij
  · intro h i j hi hj hij
    have := h i j (by simpa using hi) (by simpa using hj) hij
    rwa [List.getElem_map, List.getElem_map] at this
theorem riseT_putT {T : List Thg} (hr : RiseT T) {t : Thg} (hn : ∀ x ∈ T, x.digest ≠ t.digest) : RiseT (putT T t) := by
  have hk : lowT T t.digest ≤ T.length := lowBy_le _ T
  rw [riseT_pair]
  rw [putT, List.map_append, List.map_cons]
  have e1 : (T.take (lowT T t.digest)).map Thg.digest = (T.map Thg.digest).take (lowT T t.digest) := List.map_take
  have e2 : (T.drop (lowT T t.digest)).map Thg.digest = (T.map Thg.digest).drop (lowT T t.digest) := List.map_drop
  rw [e1, e2]
  have := rise_insert (x := T.map Thg.digest) (t := t.digest) (k := lowT T t.digest) (riseT_pair.1 hr) (by simpa using hk) (fun j hj hjk => by
    simp only [List.length_map] at hj
    simp only [List.getElem_map]
    exact lowBy_lt (p := fun x : Thg => Op.bytesLess x.digest t.digest) hj hjk) (fun hk' => by
    simp only [List.length_map] at hk'
    simp only [List.getElem_map]
    have h1 : ¬ L T[lowT T t.digest].digest t.digest := by
      have := lowBy_ge (p := fun x : Thg => Op.bytesLess x.digest t.digest) (l := T) hk'
      intro hL
      have e : Op.bytesLess T[lowT T t.digest].digest t.digest = false := this
      unfold L at hL
      rw [e] at hL; cases hL
    exact L_total h1 (hn _ (List.getElem_mem hk')))
  simpa using this
def oneOk (t : Thg) : Prop := t.digest.length = 32 ∧ t.text.length ≤ 2000 ∧ (t.manifest = true → (manTake t.text).isSome = true)
theorem thgsMay_of {T : List Thg} : thgsMay T = true ↔ T.length ≤ 60 ∧ RiseT T ∧ ∀ t ∈ T, oneOk t := by
 constructor
 · intro h
   refine ⟨thgsMay_len h, thgsMay_rise h, fun t ht => ?_⟩
   obtain ⟨i, hi, rfl⟩ := List.mem_iff_getElem.1 ht
   obtain ⟨h1, h2, h3, _⟩ := thgsMay_at h hi
   exact ⟨h1, h2, h3⟩
 rintro ⟨h1, h2, h3⟩
 refine thgsMay_iff.2 ⟨h1, fun i hi => ?_⟩
 obtain ⟨a, b, c⟩ := h3 _ (List.getElem_mem hi)
 unfold thgAt
 rw [List.getElem?_eq_getElem hi]
 simp only [Bool.and_eq_true, Bool.or_eq_true, decide_eq_true_eq, Bool.not_eq_true']
 refine ⟨⟨⟨a, b⟩, ?_⟩, ?_⟩
 · rcases Nat.eq_zero_or_pos i with h | h
   · exact .inl h
   right
   have := h2 (i - 1) i (by omega) hi (by omega)
   rw [List.getElem?_eq_getElem (show i - 1 < T.length by omega)]
   exact this
 cases hm : T[i].manifest with
 | false => exact .inl rfl
 | true => exact .inr (c hm)
end Silo

namespace Silo
open Go Go.Eng
theorem fromT_find {T : List Thg} (hr : RiseT T) {R : List (List UInt8)} {d : List UInt8} (hd : d ∈ fromT T R) : ∃ i, findT T d = some i ∧ Reach T R i := by
  obtain ⟨i, hi, e⟩ := mem_fromT.1 hd
  rw [dgOf_lt hi.lt] at e
  exact ⟨i, findT_at hr hi.lt e, hi⟩
theorem fromT_closed {T : List Thg} {R : List (List UInt8)} {i j : Nat} {n : List UInt8} (hi : Reach T R i) (hn : n ∈ nmOf T i) (hf : findT T n = some j) : n ∈ fromT T R := by
  obtain ⟨hj, e⟩ := findT_some hf
  exact mem_fromT.2 ⟨j, .step hi hn hf, by rw [dgOf_lt hj]; exact e⟩
end Silo

namespace Silo
open Go Go.Eng
theorem isT_iff {T : List Thg} (hr : RiseT T) {d : List UInt8} {sub : Bool} : isT T d sub = true ↔ ∃ t ∈ T, t.digest = d ∧ t.manifest = sub := by
  unfold isT
  cases hf : findT T d with
  | none =>
    constructor
    · intro h; cases h
    · rintro ⟨t, ht, e, _⟩
      obtain ⟨i, hi, rfl⟩ := List.mem_iff_getElem.1 ht
      exact absurd e (findT_none hf i hi)
  | some i =>
    obtain ⟨hi, e⟩ := findT_some hf
    simp only [List.getElem?_eq_getElem hi, Option.map_some, Option.getD_some, beq_iff_eq]
    constructor
    · intro h; exact ⟨_, List.getElem_mem hi, e, h⟩
    · rintro ⟨t, ht, e2, h⟩
      obtain ⟨j, hj, rfl⟩ := List.mem_iff_getElem.1 ht
      have := hr.inj hi hj (by rw [e, e2])
      subst this; exact h
def allThere (T : List Thg) (t : Thg) : Prop := t.manifest = true → ∃ m, manTake t.text = some m ∧ (∀ d ∈ m.blobs, ∃ x ∈ T, x.digest = d ∧ x.manifest = false) ∧ ∀ d ∈ m.subs, ∃ x ∈ T, x.digest = d ∧ x.manifest = true
theorem thereT_iff {T : List Thg} (hr : RiseT T) {m : Man} : thereT T m = true ↔ (∀ d ∈ m.blobs, ∃ x ∈ T, x.digest = d ∧ x.manifest = false) ∧ ∀ d ∈ m.subs, ∃ x ∈ T, x.digest = d ∧ x.manifest = true := by
  simp only [thereT, Bool.and_eq_true, List.all_eq_true, isT_iff hr]
theorem thingsOk_of {T : List Thg} : thingsOk T = true ↔ T.length ≤ 60 ∧ RiseT T ∧ (∀ t ∈ T, oneOk t) ∧ (∀ t ∈ T, digestS t.text = t.digest) ∧ ∀ t ∈ T, allThere T t := by
 simp only [thingsOk, Bool.and_eq_true, thgsMay_of, List.all_eq_true, thingOk, beq_iff_eq, Bool.or_eq_true, Bool.not_eq_true']
 constructor
 · rintro ⟨⟨h1, h2, h3⟩, h4⟩
   refine ⟨h1, h2, h3, fun t ht => (h4 t ht).1, fun t ht hm => ?_⟩
   rcases (h4 t ht).2 with h | h
   · rw [hm] at h; cases h
   unfold namesOk at h
   cases hk : manTake t.text with
   | none => rw [hk] at h; cases h
   | some m => rw [hk] at h; exact ⟨m, rfl, (thereT_iff h2).1 h⟩
 rintro ⟨h1, h2, h3, h4, h5⟩
 refine ⟨⟨h1, h2, h3⟩, fun t ht => ⟨h4 t ht, ?_⟩⟩
 cases hm : t.manifest with
 | false => exact .inl rfl
 | true =>
   obtain ⟨m, hk, h6⟩ := h5 t ht hm
   right
   unfold namesOk
   rw [hk]
   exact (thereT_iff h2).2 h6
theorem allThere.mono {T T' : List Thg} {t : Thg} (h : allThere T t) (hs : ∀ x ∈ T, x ∈ T') : allThere T' t := fun hm => by
 obtain ⟨m, h1, h2, h3⟩ := h hm
 refine ⟨m, h1, fun d hd => ?_, fun d hd => ?_⟩
 · obtain ⟨x, hx, e⟩ := h2 d hd; exact ⟨x, hs x hx, e⟩
 obtain ⟨x, hx, e⟩ := h3 d hd; exact ⟨x, hs x hx, e⟩
theorem keepT_eq {T : List Thg} {t : Thg} : keepT T t = if (findT T t.digest).isSome then some T else if 60 ≤ T.length then none else some (putT T t) := rfl
theorem keepT_ok {T T' : List Thg} {t : Thg} (h : keepT T t = some T') (hT : thingsOk T = true) (ho : oneOk t) (hd : digestS t.text = t.digest) (ha : allThere T t) : thingsOk T' = true ∧ ∀ x ∈ T, x ∈ T' := by
 rw [keepT_eq] at h
 split at h
 · injection h with h; subst h; exact ⟨hT, fun _ h => h⟩
 rename_i hn
 split at h
 · cases h
 injection h with h; subst h
 obtain ⟨h1, h2, h3, h4, h5⟩ := thingsOk_of.1 hT
 have hs : ∀ x ∈ T, x ∈ putT T t := fun x hx => mem_putT.2 (.inr hx)
 refine ⟨thingsOk_of.2 ⟨by rw [putT_len]; omega, riseT_putT h2 fun x hx e => ?_, fun x hx => ?_, fun x hx => ?_, fun x hx => ?_⟩, hs⟩
 · obtain ⟨i, hi, rfl⟩ := List.mem_iff_getElem.1 hx
   rw [findT_at h2 hi e] at hn
   exact hn rfl
 · rcases mem_putT.1 hx with h | h
   · subst h; exact ho
   exact h3 x h
 · rcases mem_putT.1 hx with h | h
   · subst h; exact hd
   exact h4 x h
 rcases mem_putT.1 hx with h | h
 · subst h; exact ha.mono hs
 exact (h5 x h).mono hs
theorem manTake_len {s : List UInt8} {m : Man} (h : manTake s = some m) : s.length ≤ 2000 ∧ manMay m = true := by
  unfold manTake at h
  split at h
  · rename_i hc
    split at h
    · rename_i hm
      injection h with h; subst h
      have h1 := ((manMay_iff _).1 hm).2.1
      simp only [manOf, chunks_length] at h1
      exact ⟨by omega, hm⟩
    · cases h
  · cases h
theorem namesT_some {t : Thg} {m : Man} (hm : t.manifest = true) (h : manTake t.text = some m) : namesT t = m.blobs ++ m.subs := by rw [namesT, if_pos hm, h]
theorem filter_ok {T : List Thg} {p : Thg → Bool} (hT : thingsOk T = true) (hc : ∀ t ∈ T, p t = true → ∀ d ∈ namesT t, ∀ x ∈ T, x.digest = d → p x = true) : thingsOk (T.filter p) = true := by
 obtain ⟨h1, h2, h3, h4, h5⟩ := thingsOk_of.1 hT
 refine thingsOk_of.2 ⟨Nat.le_trans (List.length_filter_le _ _) h1, ?_, fun t ht => h3 t (List.mem_filter.1 ht).1, fun t ht => h4 t (List.mem_filter.1 ht).1, fun t ht hm => ?_⟩
 · rw [riseT_pair] at h2 ⊢
   rw [List.pairwise_map] at h2 ⊢
   exact h2.filter _
 obtain ⟨htT, htp⟩ := List.mem_filter.1 ht
 obtain ⟨m, hk, hb, hs⟩ := h5 t htT hm
 have hn := namesT_some hm hk
 refine ⟨m, hk, fun d hd => ?_, fun d hd => ?_⟩
 · obtain ⟨x, hx, e⟩ := hb d hd
   exact ⟨x, List.mem_filter.2 ⟨hx, hc t htT htp d (by rw [hn]; simp [hd]) x hx e.1⟩, e⟩
 obtain ⟨x, hx, e⟩ := hs d hd
 exact ⟨x, List.mem_filter.2 ⟨hx, hc t htT htp d (by rw [hn]; simp [hd]) x hx e.1⟩, e⟩
theorem eraseIdx_filter {T : List Thg} (hr : RiseT T) {i : Nat} (hi : i < T.length) : T.eraseIdx i = T.filter fun t => !(t.digest == T[i].digest) := by
  have h1 : ∀ t ∈ T.take i, (!(t.digest == T[i].digest)) = true := fun t ht => by
    obtain ⟨j, hj, rfl⟩ := List.mem_iff_getElem.1 ht
    rw [List.length_take] at hj
    have := hr j i (by omega) hi (by omega)
    rw [List.getElem_take]
    simp only [Bool.not_eq_true', beq_eq_false_iff_ne]
    intro e; rw [e] at this; exact L_irrefl _ this
  have h2 : ∀ t ∈ T.drop (i + 1), (!(t.digest == T[i].digest)) = true := fun t ht => by
    obtain ⟨j, hj, rfl⟩ := List.mem_iff_getElem.1 ht
    have hj2 := hj
    rw [List.length_drop] at hj2
    have hlt : i + 1 + j < T.length := by omega
    have := hr i (i + 1 + j) hi hlt (by omega)
    have eg : (T.drop (i + 1))[j] = T[i + 1 + j] := List.getElem_drop
    rw [eg]
    simp only [Bool.not_eq_true', beq_eq_false_iff_ne]
    intro e; rw [e] at this; exact L_irrefl _ this
  rw [List.eraseIdx_eq_take_drop_succ]
  have hT : ∀ p : Thg → Bool, T.filter p = (T.take i ++ T[i] :: T.drop (i + 1)).filter p := fun p => by rw [← List.drop_eq_getElem_cons hi, List.take_append_drop]
  rw [hT]
  rw [List.filter_append, List.filter_cons]
  simp only [beq_self_eq_true, Bool.not_true, Bool.false_eq_true, if_false]
  rw [List.filter_eq_self.2 h1, List.filter_eq_self.2 h2]
theorem pairwise_next {α : Type} {R : α → α → Prop} (ht : ∀ a b c, R a b → R b c → R a c) {l : List α} (h : ∀ i (hi : i + 1 < l.length), R l[i] l[i + 1]) : l.Pairwise R := by
  rw [List.pairwise_iff_getElem]
  intro i j hi hj hij
  obtain ⟨k, rfl⟩ : ∃ k, j = i + 1 + k := ⟨j - (i + 1), by omega⟩
  clear hij
  induction k with
  | zero => exact h i hj
  | succ k ih => exact ht _ _ _ (ih (by omega)) (h (i + 1 + k) hj)
theorem tagsOk_of {S : Sta} : tagsOk S = true ↔ S.tags.length ≤ 40 ∧ (S.tags.map Tg.name).Pairwise L ∧ ∀ t ∈ S.tags, nameOk t.name = true ∧ isT S.things t.digest true = true := by
 simp only [tagsOk, Bool.and_eq_true, decide_eq_true_eq, List.all_eq_true, List.mem_range]
 constructor
 · rintro ⟨h1, h2⟩
   have h3 : ∀ i (hi : i < S.tags.length), nameOk S.tags[i].name = true ∧ isT S.things S.tags[i].digest true = true ∧ (i = 0 ∨ L ((S.tags[i - 1]?.map Tg.name).getD []) S.tags[i].name) := fun i hi => by
     have := h2 i hi
     unfold tagAt at this
     rw [List.getElem?_eq_getElem hi] at this
     simp only [Bool.and_eq_true, Bool.or_eq_true, decide_eq_true_eq] at this
     exact ⟨this.1.1, this.1.2, this.2⟩
   refine ⟨h1, pairwise_next (R := L) (fun _ _ _ => L_trans) fun i hi => ?_, fun t ht => ?_⟩
   · simp only [List.length_map] at hi
     have := (h3 (i + 1) hi).2.2
     simp only [Nat.add_sub_cancel, List.getElem?_eq_getElem (show i < S.tags.length by omega), Option.map_some, Option.getD_some] at this
     simpa using this.resolve_left (by omega)
   obtain ⟨i, hi, rfl⟩ := List.mem_iff_getElem.1 ht
   exact ⟨(h3 i hi).1, (h3 i hi).2.1⟩
 rintro ⟨h1, h2, h3⟩
 refine ⟨h1, fun i hi => ?_⟩
 unfold tagAt
 rw [List.getElem?_eq_getElem hi]
 simp only [Bool.and_eq_true, Bool.or_eq_true, decide_eq_true_eq]
 obtain ⟨a, b⟩ := h3 _ (List.getElem_mem hi)
 refine ⟨⟨a, b⟩, ?_⟩
 rcases Nat.eq_zero_or_pos i with h | h
 · exact .inl h
 right
 rw [List.getElem?_eq_getElem (show i - 1 < S.tags.length by omega)]
 have := List.pairwise_iff_getElem.1 h2 (i - 1) i (by simp; omega) (by simpa using hi) (by omega)
 simpa using this
theorem sesOk_of {S : Sta} : sesOk S = true ↔ S.sessions.length ≤ 8 ∧ (S.sessions.map Ses.id).Pairwise (· < ·) ∧ ∀ x ∈ S.sessions, (0 ≤ x.id ∧ x.id < S.next) ∧ x.text.length ≤ 2000 := by
 simp only [sesOk, Bool.and_eq_true, decide_eq_true_eq, List.all_eq_true, List.mem_range]
 constructor
 · rintro ⟨h1, h2⟩
   have h3 : ∀ i (hi : i < S.sessions.length), ((0 ≤ S.sessions[i].id ∧ S.sessions[i].id < S.next) ∧ S.sessions[i].text.length ≤ 2000) ∧ (i = 0 ∨ ((S.sessions[i - 1]?.map Ses.id).getD 0) < S.sessions[i].id) := fun i hi => by
     have := h2 i hi
     unfold sesAt at this
     rw [List.getElem?_eq_getElem hi] at this
     simp only [Bool.and_eq_true, Bool.or_eq_true, decide_eq_true_eq] at this
     exact ⟨⟨this.1.1, this.1.2⟩, this.2⟩
   refine ⟨h1, pairwise_next (R := fun a b : Int => a < b) (fun _ _ _ h h' => Int.lt_trans h h') fun i hi => ?_, fun t ht => ?_⟩
   · simp only [List.length_map] at hi
     have := (h3 (i + 1) hi).2
     simp only [Nat.add_sub_cancel, List.getElem?_eq_getElem (show i < S.sessions.length by omega), Option.map_some, Option.getD_some] at this
     simpa using this.resolve_left (by omega)
   obtain ⟨i, hi, rfl⟩ := List.mem_iff_getElem.1 ht
   exact (h3 i hi).1
 rintro ⟨h1, h2, h3⟩
 refine ⟨h1, fun i hi => ?_⟩
 unfold sesAt
 rw [List.getElem?_eq_getElem hi]
 simp only [Bool.and_eq_true, Bool.or_eq_true, decide_eq_true_eq]
 obtain ⟨a, b⟩ := h3 _ (List.getElem_mem hi)
 refine ⟨⟨a, b⟩, ?_⟩
 rcases Nat.eq_zero_or_pos i with h | h
 · exact .inl h
 right
 rw [List.getElem?_eq_getElem (show i - 1 < S.sessions.length by omega)]
 have := List.pairwise_iff_getElem.1 h2 (i - 1) i (by simp; omega) (by simpa using hi) (by omega)
 simpa using this
structure May (S : Sta) : Prop where
  lo : 0 ≤ S.next
  hi : S.next ≤ 1073741824
  ses : sesOk S = true
  things : thingsOk S.things = true
  tags : tagsOk S = true
theorem staMay_of {S : Sta} : staMay S = true ↔ May S := by
  simp only [staMay, Bool.and_eq_true, decide_eq_true_eq]
  exact ⟨fun ⟨⟨⟨⟨a, b⟩, c⟩, d⟩, e⟩ => ⟨a, b, c, d, e⟩, fun ⟨a, b, c, d, e⟩ => ⟨⟨⟨⟨a, b⟩, c⟩, d⟩, e⟩⟩
theorem May.rise {S : Sta} (h : May S) : RiseT S.things := (thingsOk_of.1 h.things).2.1
theorem tags_stay {S : Sta} {T' : List Thg} (h : May S) (hr : RiseT T') (hs : ∀ t ∈ S.tags, ∀ x ∈ S.things, x.digest = t.digest → x ∈ T') : tagsOk { S with things := T' } = true := by
 obtain ⟨h1, h2, h3⟩ := tagsOk_of.1 h.tags
 refine tagsOk_of.2 ⟨h1, h2, fun t ht => ⟨(h3 t ht).1, ?_⟩⟩
 obtain ⟨x, hx, e, hm⟩ := (isT_iff h.rise).1 (h3 t ht).2
 exact (isT_iff hr).2 ⟨x, hs t ht x hx e, e, hm⟩
theorem ses_sub {S : Sta} {l : List Ses} (h : sesOk S = true) (hs : l.Sublist S.sessions) : sesOk { S with sessions := l } = true := by
  obtain ⟨h1, h2, h3⟩ := sesOk_of.1 h
  exact sesOk_of.2 ⟨Nat.le_trans hs.length_le h1, h2.sublist (hs.map _), fun x hx => h3 x (hs.subset hx)⟩
theorem May.with_things {S : Sta} {T' : List Thg} (h : May S) (hT : thingsOk T' = true) (hs : ∀ t ∈ S.tags, ∀ x ∈ S.things, x.digest = t.digest → x ∈ T') : May { S with things := T' } :=
  ⟨h.lo, h.hi, h.ses, hT, tags_stay h (thingsOk_of.1 hT).2.1 hs⟩
theorem May.with_ses {S : Sta} {l : List Ses} (h : May S) (hs : l.Sublist S.sessions) : May { S with sessions := l } := ⟨h.lo, h.hi, ses_sub h.ses hs, h.things, h.tags⟩
theorem findS_some {l : List Ses} {id : Int} {k : Nat} (h : findS l id = some k) : ∃ hk : k < l.length, l[k].id = id := by
  unfold findS at h
  rw [List.findIdx?_eq_some_iff_getElem] at h
  obtain ⟨hi, h1, _⟩ := h
  exact ⟨hi, by simpa using h1⟩
theorem findG_some {l : List Tg} {d : List UInt8} {k : Nat} (h : findG l d = some k) : ∃ hk : k < l.length, l[k].name = d := by
  unfold findG at h
  rw [List.findIdx?_eq_some_iff_getElem] at h
  obtain ⟨hi, h1, _⟩ := h
  exact ⟨hi, by simpa using h1⟩
theorem findG_none {l : List Tg} {d : List UInt8} (h : findG l d = none) : ∀ t ∈ l, t.name ≠ d := by
  unfold findG at h
  rw [List.findIdx?_eq_none_iff] at h
  intro t ht e
  have := h t ht
  simp [e] at this
theorem doStart_may {S : Sta} (h : May S) : May (doStart S).1 := by
 unfold doStart
 split
 · exact h
 rename_i hc
 obtain ⟨h1, h2, h3⟩ := sesOk_of.1 h.ses
 have hlo := h.lo
 refine ⟨by dsimp only; omega, by dsimp only; omega, sesOk_of.2 ⟨by simp; omega, ?_, fun x hx => ?_⟩, h.things, h.tags⟩
 · simp only [List.map_append, List.map_cons, List.map_nil]
   rw [List.pairwise_append]
   refine ⟨h2, by simp, fun a ha b hb => ?_⟩
   simp at hb; subst hb
   obtain ⟨x, hx, rfl⟩ := List.mem_map.1 ha
   exact (h3 x hx).1.2
 rcases List.mem_append.1 hx with h4 | h4
 · have := h3 x h4; dsimp only; omega
 simp at h4; subst h4
 exact ⟨⟨hlo, by dsimp only; omega⟩, by simp⟩
theorem doUp_may {S : Sta} {o : MOp} (h : May S) : May (doUp S o).1 := by
 unfold doUp
 cases hf : findS S.sessions o.id with
 | none => exact h
 | some k =>
   obtain ⟨hk, hid⟩ := findS_some hf
   obtain ⟨h1, h2, h3⟩ := sesOk_of.1 h.ses
   obtain ⟨hx1, hx2⟩ := h3 _ (List.getElem_mem hk)
   simp only [List.getElem?_eq_getElem hk, Option.getD_some]
   split
   · split
     · exact h
     rename_i hc
     refine ⟨h.lo, h.hi, sesOk_of.2 ⟨by simpa using h1, ?_, fun x hx => ?_⟩, h.things, h.tags⟩
     · have : (S.sessions.set k ⟨S.sessions[k].id, S.sessions[k].text ++ o.text⟩).map Ses.id = S.sessions.map Ses.id := by
         rw [List.map_set]
         apply List.ext_getElem?
         intro i
         rw [List.getElem?_set]
         split
         · rename_i e; subst e; simp [hk]
         rfl
       simp only [this]; exact h2
     rcases List.mem_or_eq_of_mem_set hx with h4 | h4
     · exact h3 x h4
     subst h4; exact ⟨hx1, by simp only [List.length_append]; omega⟩
   split
   · split
     · rename_i hd
       have ho : oneOk ⟨o.digest, S.sessions[k].text, false⟩ := ⟨by rw [← hd]; exact digestS_length _, hx2, fun h => by cases h⟩
       cases hkp : keepT S.things ⟨o.digest, S.sessions[k].text, false⟩ with
       | none => exact h
       | some T' =>
         obtain ⟨g1, g2⟩ := keepT_ok hkp h.things ho hd (fun h => by cases h)
         exact (h.with_things g1 (fun t _ x hx _ => g2 x hx)).with_ses (List.eraseIdx_sublist _ _)
     exact h
   exact h.with_ses (List.eraseIdx_sublist _ _)
theorem doThing_may {S : Sta} {o : MOp} (h : May S) : May (doThing S o).1 := by
 unfold doThing
 cases hf : findT S.things o.digest with
 | none => exact h
 | some i =>
   obtain ⟨hi, e⟩ := findT_some hf
   dsimp only
   split
   · exact h
   split
   · exact h
   split
   · unfold bad; split <;> exact h
   split
   · exact h
   rename_i hc
   simp only [Bool.or_eq_true, not_or, Bool.not_eq_true, decide_eq_false_iff_not] at hc
   obtain ⟨hc1, hc2⟩ := hc
   have hu : usersT S.things o.digest = [] := List.eq_nil_of_length_eq_zero (by omega)
   have hr := h.rise
   have hfil := eraseIdx_filter hr hi
   dsimp only
   refine h.with_things ?_ fun t ht x hx ex => ?_
   · rw [hfil]
     refine filter_ok h.things fun t ht hp d hd x hx ex => ?_
     simp only [Bool.not_eq_true', beq_eq_false_iff_ne]
     intro e2
     have : t.digest ∈ usersT S.things o.digest := by
       simp only [usersT, List.mem_map, List.mem_filter]
       exact ⟨t, ⟨ht, by rw [List.contains_iff_mem, ← e, ← e2, ex]; exact hd⟩, rfl⟩
     rw [hu] at this; cases this
   rw [hfil]
   refine List.mem_filter.2 ⟨hx, ?_⟩
   simp only [Bool.not_eq_true', beq_eq_false_iff_ne]
   intro e2
   have := List.any_eq_false.1 hc1 t ht
   rw [← ex, e2, e] at this
   simp at this
theorem doMan_may {S : Sta} {o : MOp} (h : May S) : May (doMan S o).1 := by
  unfold doMan
  cases hm : manTake o.text with
  | none => exact h
  | some m =>
    dsimp only
    split
    · rename_i ht
      have hl := (manTake_len hm).1
      have ho : oneOk ⟨digestS o.text, o.text, true⟩ := ⟨digestS_length _, hl, fun _ => by rw [hm]; rfl⟩
      cases hkp : keepT S.things ⟨digestS o.text, o.text, true⟩ with
      | none => exact h
      | some T' =>
        obtain ⟨g1, g2⟩ := keepT_ok hkp h.things ho rfl (fun _ => ⟨m, hm, (thereT_iff h.rise).1 ht⟩)
        exact h.with_things g1 (fun t _ x hx _ => g2 x hx)
    · exact h
theorem doTag_may {S : Sta} {o : MOp} (h : May S) : May (doTag S o).1 := by
 unfold doTag
 obtain ⟨h1, h2, h3⟩ := tagsOk_of.1 h.tags
 split
 · split
   · rename_i hn
     split
     · rename_i ht
       cases hf : findG S.tags o.name with
       | some k =>
         obtain ⟨hk, e⟩ := findG_some hf
         refine ⟨h.lo, h.hi, h.ses, h.things, tagsOk_of.2 ⟨by simpa using h1, ?_, fun t ht' => ?_⟩⟩
         · have : (S.tags.set k ⟨o.name, o.digest⟩).map Tg.name = S.tags.map Tg.name := by
             rw [List.map_set]
             apply List.ext_getElem?
             intro i
             rw [List.getElem?_set]
             split
             · rename_i e2; subst e2; simp [hk, e]
             rfl
           simp only [this]; exact h2
         rcases List.mem_or_eq_of_mem_set ht' with h4 | h4
         · exact h3 t h4
         subst h4; exact ⟨hn, ht⟩
       | none =>
         dsimp only
         split
         · exact h
         rename_i hc
         have hne := findG_none hf
         have hlow : lowG S.tags o.name ≤ S.tags.length := lowBy_le _ _
         refine ⟨h.lo, h.hi, h.ses, h.things, tagsOk_of.2 ⟨?_, ?_, fun t ht' => ?_⟩⟩
         · simp only [List.length_append, List.length_cons, List.length_take, List.length_drop]; omega
         · simp only [List.map_append, List.map_cons, List.map_take, List.map_drop]
           have := rise_insert (x := S.tags.map Tg.name) (t := o.name) (k := lowG S.tags o.name) h2 (by simpa using hlow) (fun j hj hjk => by
             simp only [List.length_map] at hj
             simp only [List.getElem_map]
             exact lowBy_lt (p := fun t : Tg => Op.bytesLess t.name o.name) hj hjk) (fun hk' => by
             simp only [List.length_map] at hk'
             simp only [List.getElem_map]
             have h5 : ¬ L S.tags[lowG S.tags o.name].name o.name := by
               have := lowBy_ge (p := fun t : Tg => Op.bytesLess t.name o.name) (l := S.tags) hk'
               unfold L
               exact (by simpa using this : ¬ Op.bytesLess S.tags[lowBy (fun t => Op.bytesLess t.name o.name) S.tags].name o.name = true)
             exact L_total h5 (hne _ (List.getElem_mem hk')))
           simpa using this
         rcases List.mem_append.1 ht' with h4 | h4
         · exact h3 t (List.mem_of_mem_take h4)
         rcases List.mem_cons.1 h4 with h5 | h5
         · subst h5; exact ⟨hn, ht⟩
         exact h3 t (List.mem_of_mem_drop h5)
     exact h
   exact h
 cases hf : findG S.tags o.name with
 | none => exact h
 | some k =>
   dsimp only
   split
   · exact h
   have hs := List.eraseIdx_sublist S.tags k
   exact ⟨h.lo, h.hi, h.ses, h.things, tagsOk_of.2 ⟨Nat.le_trans hs.length_le h1, h2.sublist (hs.map _), fun t ht => h3 t (hs.subset ht)⟩⟩
theorem swept_mem {S : Sta} {t : Thg} : t ∈ sweptT S ↔ t ∈ S.things ∧ t.digest ∈ fromT S.things (S.tags.map Tg.digest) := by
  unfold sweptT
  rw [List.mem_filter, List.contains_iff_mem]
theorem doSweep_may {S : Sta} (h : May S) : May (doSweep S).1 := by
 unfold doSweep
 have hr := h.rise
 refine h.with_things ?_ fun t ht x hx ex => ?_
 · unfold sweptT
   refine filter_ok h.things fun t ht hp d hd x hx ex => ?_
   rw [List.contains_iff_mem] at hp ⊢
   obtain ⟨i, hf, hre⟩ := fromT_find hr hp
   obtain ⟨hi, e⟩ := findT_some hf
   obtain ⟨j, hj, rfl⟩ := List.mem_iff_getElem.1 ht
   have hij := hr.inj hi hj e
   subst hij
   obtain ⟨q, hq, rfl⟩ := List.mem_iff_getElem.1 hx
   have hfq := findT_at hr hq ex
   rw [ex]
   exact fromT_closed hre (by rw [nmOf_lt hi]; exact hd) hfq
 obtain ⟨q, hq, rfl⟩ := List.mem_iff_getElem.1 hx
 rw [swept_mem]
 refine ⟨hx, mem_fromT.2 ⟨q, .root (d := t.digest) (List.mem_map.2 ⟨t, ht, rfl⟩) (findT_at hr hq ex), by rw [dgOf_lt hq]⟩⟩
theorem doM_may {S : Sta} {o : MOp} (h : May S) : May (doM S o).1 := by
  unfold doM
  split
  · exact doStart_may h
  · split
    · exact doUp_may h
    · split
      · exact doThing_may h
      · split
        · exact doMan_may h
        · split
          · exact doTag_may h
          · exact doSweep_may h
theorem swept_twice {S : Sta} (h : May S) : sweptT (doSweep S).1 = sweptT S := by
 have hr := h.rise
 have hm : May (doSweep S).1 := doSweep_may h
 have hr2 := hm.rise
 show (sweptT S).filter _ = sweptT S
 rw [List.filter_eq_self]
 intro t ht
 rw [List.contains_iff_mem]
 obtain ⟨htS, hf⟩ := swept_mem.1 ht
 obtain ⟨i, hfi, hre⟩ := fromT_find hr hf
 -- what is reached among all is reached among what stays
 have key : ∀ i, Reach S.things (S.tags.map Tg.digest) i → dgOf S.things i ∈ fromT (sweptT S) (S.tags.map Tg.digest) := by
   intro i hi
   have stay : ∀ j, Reach S.things (S.tags.map Tg.digest) j → ∃ k, ∃ hk : k < (sweptT S).length, ∃ hj : j < S.things.length, (sweptT S)[k] = S.things[j] := fun j hj => by
     have hjl := hj.lt
     have hm : S.things[j] ∈ sweptT S := swept_mem.2 ⟨List.getElem_mem hjl, mem_fromT.2 ⟨j, hj, by rw [dgOf_lt hjl]⟩⟩
     obtain ⟨k, hk, e⟩ := List.mem_iff_getElem.1 hm
     exact ⟨k, hk, hjl, e⟩
   have key2 : ∀ i, Reach S.things (S.tags.map Tg.digest) i → ∃ k, Reach (sweptT S) (S.tags.map Tg.digest) k ∧ ∃ hk : k < (sweptT S).length, ∃ hi : i < S.things.length, (sweptT S)[k] = S.things[i] := by
     intro i hi
     induction hi with
     | root hd hf =>
       obtain ⟨k, hk, hj, e⟩ := stay _ (.root hd hf)
       obtain ⟨_, e2⟩ := findT_some hf
       exact ⟨k, .root hd (findT_at hr2 hk (by show (sweptT S)[k].digest = _; rw [e]; first | done | exact e2)), hk, hj, e⟩
     | step hp hd hf ih =>
       obtain ⟨k, hk, hj, e⟩ := stay _ (.step hp hd hf)
       obtain ⟨_, e2⟩ := findT_some hf
       obtain ⟨kp, hrp, hkp, hip, ep⟩ := ih
       refine ⟨k, .step hrp ?_ (findT_at hr2 hk (show (sweptT S)[k].digest = _ from (by rw [e] : (sweptT S)[k].digest = _).trans e2)), hk, hj, e⟩
       rw [nmOf_lt hkp, ep, ← nmOf_lt hip]; exact hd
   obtain ⟨k, hrk, hk, hil, e⟩ := key2 i hi
   exact mem_fromT.2 ⟨k, hrk, by rw [dgOf_lt hk, e, dgOf_lt hil]⟩
 have := key i hre
 obtain ⟨hi, e⟩ := findT_some hfi
 rw [dgOf_lt hi, e] at this
 exact this
end Silo

namespace Silo
open Go Go.Eng
def Stays (S : Sta) (r : Res) : Prop := r.2.err = 0 ∨ r.1 = S
theorem stays_start (S : Sta) : Stays S (doStart S) := by
  unfold Stays doStart bad; split
  · exact .inr rfl
  · exact .inl rfl
theorem stays_up (S : Sta) (o : MOp) : Stays S (doUp S o) := by
  unfold Stays doUp bad
  repeat' (first | exact .inr rfl | exact .inl rfl | split | dsimp only)
theorem stays_thing (S : Sta) (o : MOp) : Stays S (doThing S o) := by
  unfold Stays doThing bad
  repeat' (first | exact .inr rfl | exact .inl rfl | split | dsimp only)
theorem stays_man (S : Sta) (o : MOp) : Stays S (doMan S o) := by
  unfold Stays doMan bad
  repeat' (first | exact .inr rfl | exact .inl rfl | split | dsimp only)
theorem stays_tag (S : Sta) (o : MOp) : Stays S (doTag S o) := by
  unfold Stays doTag bad
  repeat' (first | exact .inr rfl | exact .inl rfl | split | dsimp only)
theorem stays_sweep (S : Sta) : Stays S (doSweep S) := .inl rfl
theorem doM_stays (S : Sta) (o : MOp) : Stays S (doM S o) := by
  unfold doM
  split
  · exact stays_start S
  · split
    · exact stays_up S o
    · split
      · exact stays_thing S o
      · split
        · exact stays_man S o
        · split
          · exact stays_tag S o
          · exact stays_sweep S
theorem doM_re (S : Sta) (o : MOp) : RE (doM S o).2 := by
  unfold doM
  split
  · exact re_start S
  · split
    · exact re_up S o
    · split
      · exact re_thing S o
      · split
        · exact re_man S o
        · split
          · exact re_tag S o
          · exact re_sweep S
def Bnd (S : Sta) : Prop := (∀ t ∈ S.things, t.digest.length ≤ 1048576 ∧ t.text.length ≤ 1048576) ∧ (∀ t ∈ S.tags, t.name.length ≤ 1048576 ∧ t.digest.length ≤ 1048576) ∧ (∀ t ∈ S.sessions, Go.Eng.Int64 t.id ∧ t.text.length ≤ 1048576) ∧ S.things.length ≤ 1048576 ∧ S.tags.length ≤ 1048576 ∧ S.sessions.length ≤ 1048576 ∧ Go.Eng.Int64 S.next
theorem nameOk_len {s : List UInt8} (h : nameOk s = true) : s.length ≤ 40 := by
  simp only [nameOk, Bool.and_eq_true, decide_eq_true_eq] at h
  exact h.1.1
theorem may_bnd {S : Sta} (h : staMay S = true) : Bnd S := by
 have hm := staMay_of.1 h
 obtain ⟨t1, tr, t2, t3, _⟩ := thingsOk_of.1 hm.things
 obtain ⟨g1, _, g3⟩ := tagsOk_of.1 hm.tags
 obtain ⟨s1, _, s3⟩ := sesOk_of.1 hm.ses
 have := hm.lo; have := hm.hi
 have td : ∀ t ∈ S.things, t.digest.length ≤ 1048576 ∧ t.text.length ≤ 1048576 := fun t ht => by
   obtain ⟨a, b, _⟩ := t2 t ht
   exact ⟨by omega, by omega⟩
 refine ⟨td, fun t ht => ?_, fun t ht => ?_, by omega, by omega, by omega, ⟨by omega, by omega⟩⟩
 · obtain ⟨a, b⟩ := g3 t ht
   have := nameOk_len a
   obtain ⟨x, hx, e, _⟩ := (isT_iff tr).1 b
   rw [← e]
   exact ⟨by omega, (td x hx).1⟩
 obtain ⟨⟨a, b⟩, d⟩ := s3 t ht
 exact ⟨⟨by omega, by omega⟩, by omega⟩
theorem Bnd.small {S : Sta} (h : Bnd S) (hm : staMay S = true) : SmallS S ∧ RiseT S.things := by
  obtain ⟨a, b, _⟩ := may_small hm (fun t ht => by have := h.2.1 t ht; omega) (fun t ht => by have := h.2.2.1 t ht; exact ⟨this.1, by omega⟩)
  exact ⟨a, b⟩
theorem Bnd.next {S : Sta} {o : MOp} (hm : staMay S = true) : Bnd (doM S o).1 := may_bnd (staMay_of.2 (doM_may (staMay_of.1 hm)))
def tgW (t : Tg) : Nat := t.name.length + t.digest.length
def sesW (t : Ses) : Nat := t.text.length
def opW (o : MOp) : Nat := o.name.length + o.digest.length + o.text.length
def staW1 (S : Sta) : Nat := stopSum (thgsW S.things + S.tags.length + S.sessions.length) (S.tags.map tgW)
def staW (S : Sta) : Nat := stopSum (staW1 S) (S.sessions.map sesW)
def opsW (l : List MOp) : Nat := stopSum l.length (l.map opW)
theorem staW_light {S : Sta} (h : staW S ≤ 12000) (hs : ∀ t ∈ S.sessions, Go.Eng.Int64 t.id) (hn : Go.Eng.Int64 S.next) : Bnd S := by
 unfold staW at h
 have e1 := stopSum_small (S.sessions.map sesW) (staW1 S) (by omega)
 rw [e1] at h
 have h2 : stopSum (thgsW S.things + S.tags.length + S.sessions.length) (S.tags.map tgW) ≤ 12000 := by unfold staW1 at h; omega
 have e2 := stopSum_small (S.tags.map tgW) (thgsW S.things + S.tags.length + S.sessions.length) (by omega)
 rw [e2] at h2
 obtain ⟨a, b⟩ := thgsW_small (T := S.things) (n := 12000) (by omega) (by decide)
 refine ⟨fun t ht => by have := b t ht; omega, fun t ht => ?_, fun t ht => ⟨hs t ht, ?_⟩, by omega, by omega, by omega, hn⟩
 · have := le_sum (List.mem_map_of_mem (f := tgW) ht)
   have e3 : tgW t = t.name.length + t.digest.length := rfl
   omega
 have := le_sum (List.mem_map_of_mem (f := sesW) ht)
 have e3 : sesW t = t.text.length := rfl
 omega
theorem opsW_light {l : List MOp} (h : opsW l ≤ 9000) : l.length ≤ 9000 ∧ ∀ o ∈ l, o.name.length ≤ 9000 ∧ o.digest.length ≤ 9000 ∧ o.text.length ≤ 9000 := by
 unfold opsW at h
 have e := stopSum_small (l.map opW) l.length (by omega)
 rw [e] at h
 refine ⟨by omega, fun o ho => ?_⟩
 have := le_sum (List.mem_map_of_mem (f := opW) ho)
 have e3 : opW o = o.name.length + o.digest.length + o.text.length := rfl
 omega
end Silo

namespace Go.Proofs.YtdlpibhecdfbcabGreatDoor
open Go Go.Eng Go.RowKit Silo TryzT
set_option maxHeartbeats 2000000 in
theorem pdo_ok {w : World} {vT vG vS : Value} {S : Sta} {o : MOp} (h1 : Rd thgS w vT S.things) (h2 : Rd tgS w vG S.tags) (h3 : Rd sesS w vS S.sessions) (hm : staMay S = true) (hB : Bnd S) (hO : SmallO o) : Calls Tryz.prog 29 #[.agg #[vT, vG, vS, I S.next], .agg (encOp o).toArray] w (Ret fun v w' => Below w.heap.size w w' ∧ ∃ uT uG uS, v = .tuple #[.agg #[uT, uG, uS, I (doM S o).1.next], .agg (encRep (doM S o).2).toArray] ∧ Own w' w.heap.size 60 3 uT (doM S o).1.things.length ((doM S o).1.things.flatMap encThg) ∧ Own w' w.heap.size 66 2 uG (doM S o).1.tags.length ((doM S o).1.tags.flatMap encTg) ∧ Own w' w.heap.size 63 2 uS (doM S o).1.sessions.length ((doM S o).1.sessions.flatMap encSes)) := by
 obtain ⟨c, hOl, hc⟩ := OldC.start w
 obtain ⟨hsm, hrT⟩ := hB.small hm
 have q1 := h1.oneC; have q2 := h2.oneC; have q3 := h3.oneC
 have z4 := hsm.2.2.2.1; have z5 := hsm.2.2.2.2.1; have z6 := hsm.2.2.2.2.2.1
 replace h1 : RdC thgS c w [0] vT S.things := Rd.toC h1 (fun k hk => by simp [hc, hasC])
 replace h2 : RdC tgS c w [0] vG S.tags := Rd.toC h2 (fun k hk => by simp [hc, hasC])
 replace h3 : RdC sesS c w [0] vS S.sessions := Rd.toC h3 (fun k hk => by simp [hc, hasC])
 clear hc
 refine enter (n := 22) (res := #[.cell 4 26, .cell 5 51]) Tryz.func29 rfl rfl rfl rfl <| cseq <| cg <| ve (Eff.boxC c 102 rfl) ?_
 rintro _ w1 ⟨b2, c1, rfl, m, hb2⟩
 replace hOl := hOl.mv m; replace h1 := h1.mv m; replace h2 := h2.mv m; replace h3 := h3.mv m
 refine ve (Eff.boxC c1 103 rfl) ?_
 rintro _ w2 ⟨b3, c2, rfl, m, hb3⟩
 replace hOl := hOl.mv m; replace h1 := h1.mv m; replace h2 := h2.mv m; replace h3 := h3.mv m; replace hb2 := hb2.mv m
 refine ve (Eff.allocC c2 104 zero26) ?_
 rintro _ w3 ⟨b4, c3, rfl, m, hb4⟩
 replace hOl := hOl.mv m; replace h1 := h1.mv m; replace h2 := h2.mv m; replace h3 := h3.mv m; replace hb2 := hb2.mv m; replace hb3 := hb3.mv m
 refine ve (Eff.allocC c3 105 zero51) ?_
 rintro _ w4 ⟨b5, c4, rfl, m, hb5⟩
 replace hOl := hOl.mv m; replace h1 := h1.mv m; replace h2 := h2.mv m; replace h3 := h3.mv m; replace hb2 := hb2.mv m; replace hb3 := hb3.mv m; replace hb4 := hb4.mv m
 refine cnil <| cseq <| cg <| vq (Val.loadBN agg26 rfl hb2.blk rfl) <| ve (Eff.call pf13 rfl (copyState_ok (c := c4) h1.now h2.now h3.now (by omega) (by omega) (by omega))) ?_
 rintro v9 w5 ⟨c5, m, ⟨uT, uG, uS, rfl, hoT, hoG, hoS⟩⟩
 replace hOl := hOl.mv m; replace h1 := h1.mv m; replace h2 := h2.mv m; replace h3 := h3.mv m; replace hb2 := hb2.mv m; replace hb3 := hb3.mv m; replace hb4 := hb4.mv m; replace hb5 := hb5.mv m
 have p1 := hoT.oneC; have p2 := hoG.oneC; have p3 := hoS.oneC
 refine ve (Eff.allocC c5 70 zero26) ?_
 rintro _ w19 ⟨b6, c19, rfl, m, hb6⟩
 replace hOl := hOl.mv m; replace h1 := h1.mv m; replace h2 := h2.mv m; replace h3 := h3.mv m; replace hb2 := hb2.mv m; replace hb3 := hb3.mv m; replace hb4 := hb4.mv m; replace hb5 := hb5.mv m; replace hoT := hoT.mv m; replace hoG := hoG.mv m; replace hoS := hoS.mv m
 refine WR.eff_ (Eff.storeNC agg26 rfl rfl hb6 rfl rfl ones) ?_
 rintro _ w6 ⟨hS, m⟩
 replace hOl := hOl.mv m; replace h1 := h1.mv m; replace h2 := h2.mv m; replace h3 := h3.mv m; replace hb2 := hb2.mv m; replace hb3 := hb3.mv m; replace hb4 := hb4.mv m; replace hb5 := hb5.mv m; replace hoT := hoT.mv m; replace hoG := hoG.mv m; replace hoS := hoS.mv m
 replace hb6 := hS
 refine cnil <| cseq ?_
 have hst : StaO _ _ b6 S := ⟨uT, uG, uS, hb6, hoT, hoG, hoS⟩
 clear hb6 hoT hoG hoS
 refine cg <| vq (Val.loadBN agg33 rfl hb3.blk rfl) <| ve (Eff.call pf47 rfl (pdoes_ok hst hsm hO hrT)) ?_
 rintro v11 w7 ⟨c7, m, ⟨hst, rfl⟩⟩
 replace hOl := hOl.mv m; replace h1 := h1.mv m; replace h2 := h2.mv m; replace h3 := h3.mv m; replace hb2 := hb2.mv m; replace hb3 := hb3.mv m; replace hb4 := hb4.mv m; replace hb5 := hb5.mv m
 have hsy := doM_stays S o
 have hre := doM_re S o
 generalize doM S o = D at hst hsy hre ⊢
 obtain ⟨S1, r⟩ := D
 dsimp only [Stays] at hst hsy hre ⊢
 refine ve (Eff.allocC c7 107 zero51) ?_
 rintro _ w8 ⟨b7, c8, rfl, m, hb7⟩
 replace hOl := hOl.mv m; replace h1 := h1.mv m; replace h2 := h2.mv m; replace h3 := h3.mv m; replace hb2 := hb2.mv m; replace hb3 := hb3.mv m; replace hb4 := hb4.mv m; replace hb5 := hb5.mv m; replace hst := hst.mv m
 refine WR.eff_ (Eff.storeNC agg51 rfl rfl hb7 rfl rfl ones) ?_
 rintro _ w9 ⟨hS, m⟩
 replace hOl := hOl.mv m; replace h1 := h1.mv m; replace h2 := h2.mv m; replace h3 := h3.mv m; replace hb2 := hb2.mv m; replace hb3 := hb3.mv m; replace hb4 := hb4.mv m; replace hb5 := hb5.mv m; replace hst := hst.mv m
 replace hb7 := hS
 refine cnil <| cseq <| cseq ?_
 obtain ⟨xT, xG, xS, hb6, hoT, hoG, hoS⟩ := hst
 have p1 := hoT.oneC; have p2 := hoG.oneC; have p3 := hoS.oneC
 refine cg <| vq (Val.fieldAddr fld51_2 rfl) <| vq (Val.loadB scl3 rfl hb7.blk rfl) <| vq (Val.neq rfl rfl) <| cnil <| WC.cond rfl (fun hc3 => ?_) (fun hc3 => ?_)
 ·try simp only [tstS] at hc3
  obtain rfl : S1 = S := hsy.resolve_left (by assumption)
  obtain hr : r = ⟨0, [], r.err⟩ := hre.resolve_left (by assumption)
  refine cseq <| WC.regionD (Kp c8 w9 [104]) [2, 2, 0, 1, 0, 2, 3] [2, 3, 4, 0, 1, 5, 6] mixed (by kernel_rfl) ?_
  have m := Mv.drew c8 w9 []
  have hCw := Mv.drew c8 w9 [104]
  generalize w9.drew = w10 at m hCw ⊢
  have hb20 := hb2
  have hb30 := hb3
  have hb40 := hb4
  have hb50 := hb5
  have hb60 := hb6
  have hb70 := hb7
  replace hOl := hOl.mv m; replace h1 := h1.mv m; replace h2 := h2.mv m; replace h3 := h3.mv m; replace hb2 := hb2.mv m; replace hb4 := hb4.mv m; replace hb5 := hb5.mv m
  refine vd rfl (fun _ => Val.fieldAddr fld51_2 rfl) <| vc rfl hCw.kp (fun W hW => Val.loadB scl3 rfl (hb70.kp hW rfl).blk rfl) <| vd rfl (fun _ => Val.build (cells := #[I 0, St [], I r.err]) rfl (by kernel_rfl)) ?_
  refine WD.eff rfl rfl rfl (Eff.val (Val.loadBN agg26 rfl hb2.blk rfl)) rfl ?_
  rintro _ _ ⟨rfl, rfl⟩
  refine ⟨id, ?_⟩
  refine WD.eff rfl rfl rfl (Eff.call pf13 rfl (copyState_ok (c := c8) h1.now h2.now h3.now (by omega) (by omega) (by omega))) rfl ?_
  rintro v16 w11 ⟨c11, m, ⟨yT, yG, yS, rfl, kT, kG, kS⟩⟩
  refine ⟨fun hC => hC.step hCw m rfl, ?_⟩
  replace hCw := hCw.tr m rfl
  replace hOl := hOl.mv m; replace hb4 := hb4.mv m; replace hb5 := hb5.mv m
  have p4 := kT.oneC; have p5 := kG.oneC; have p6 := kS.oneC
  refine WD.eff_ rfl rfl rfl (Eff.storeNC agg26 rfl rfl hb4 rfl rfl ones) ?_
  rintro _ w12 ⟨hS, m⟩
  refine ⟨fun hC => hC.step hCw m rfl, ?_⟩
  replace hCw := hCw.tr m rfl
  replace hOl := hOl.mv m; replace hb5 := hb5.mv m; replace kT := kT.mv m; replace kG := kG.mv m; replace kS := kS.mv m
  replace hb4 := hS
  refine WD.wild rfl rfl rfl (Eff.storeNC agg51 rfl rfl hb5 rfl rfl ones) ?_
  rintro _ w13 ⟨hS, m⟩
  try replace hCw := hCw.tr m rfl
  replace hOl := hOl.mv m; replace hb4 := hb4.mv m; replace kT := kT.mv m; replace kG := kG.mv m; replace kS := kS.mv m
  replace hb5 := hS
  refine WD.nil ?_
  clear hb20 hb30 hb40 hb50 hb60 hb70
  clear hCw
  refine WC.retR2 rfl (RVal.cellN agg26 rfl hb4.blk rfl) (RVal.cellN agg51 rfl hb5.blk rfl) ?_
  rw [hr]
  exact ⟨hOl.below, _, _, _, rfl, kT.fromOld hOl (by decide), kG.fromOld hOl (by decide), kS.fromOld hOl (by decide)⟩
 try simp only [tstS] at hc3
 refine cskip <| cseq <| WC.regionD (Kp c8 w9 [104]) [2, 1, 2, 3] [1, 0, 2, 3] mixed (by kernel_rfl) ?_
 have m := Mv.drew c8 w9 []
 have hCw := Mv.drew c8 w9 [104]
 generalize w9.drew = w14 at m hCw ⊢
 have hb20 := hb2
 have hb30 := hb3
 have hb40 := hb4
 have hb50 := hb5
 have hb60 := hb6
 have hb70 := hb7
 replace hOl := hOl.mv m; replace hb4 := hb4.mv m; replace hb5 := hb5.mv m; replace hb6 := hb6.mv m; replace hoT := hoT.mv m; replace hoG := hoG.mv m; replace hoS := hoS.mv m
 refine vc rfl hCw.kp (fun W hW => Val.loadBN agg51 rfl (hb70.kp hW rfl).blk rfl) <| WD.eff rfl rfl rfl (Eff.val (Val.loadBN agg26 rfl hb6.blk rfl)) rfl ?_
 rintro _ _ ⟨rfl, rfl⟩
 refine ⟨id, ?_⟩
 refine WD.eff_ rfl rfl rfl (Eff.storeNC agg26 rfl rfl hb4 rfl rfl ones) ?_
 rintro _ w15 ⟨hS, m⟩
 refine ⟨fun hC => hC.step hCw m rfl, ?_⟩
 replace hCw := hCw.tr m rfl
 replace hOl := hOl.mv m; replace hb5 := hb5.mv m; replace hoT := hoT.mv m; replace hoG := hoG.mv m; replace hoS := hoS.mv m
 replace hb4 := hS
 refine WD.wild rfl rfl rfl (Eff.storeNC agg51 rfl rfl hb5 rfl rfl ones) ?_
 rintro _ w16 ⟨hS, m⟩
 try replace hCw := hCw.tr m rfl
 replace hOl := hOl.mv m; replace hb4 := hb4.mv m; replace hoT := hoT.mv m; replace hoG := hoG.mv m; replace hoS := hoS.mv m
 replace hb5 := hS
 refine WD.nil ?_
 clear hb20 hb30 hb40 hb50 hb60 hb70
 clear hCw
 refine WC.retR2 rfl (RVal.cellN agg26 rfl hb4.blk rfl) (RVal.cellN agg51 rfl hb5.blk rfl) ?_
 exact ⟨hOl.below, _, _, _, rfl, hoT.fromOld hOl (by decide), hoG.fromOld hOl (by decide), hoS.fromOld hOl (by decide)⟩
set_option maxHeartbeats 2000000 in
theorem popened_ok {w : World} {vT vG vS : Value} {S : Sta} (h1 : Rd thgS w vT S.things) (h2 : Rd tgS w vG S.tags) (h3 : Rd sesS w vS S.sessions) (hB : Bnd S) : Calls Tryz.prog 18 #[.agg #[vT, vG, vS, I S.next]] w (Ret fun v w' => Below w.heap.size w w' ∧ ∃ uT uG, v = .agg #[uT, uG, .slice none 0 0, I 0] ∧ Own w' w.heap.size 60 3 uT S.things.length (S.things.flatMap encThg) ∧ Own w' w.heap.size 66 2 uG S.tags.length (S.tags.flatMap encTg)) := by
 obtain ⟨c, hOl, hc⟩ := OldC.start w
 have q1 := h1.oneC; have q2 := h2.oneC; have q3 := h3.oneC
 obtain ⟨_, _, _, z4, z5, z6, z7⟩ := hB
 replace h1 : RdC thgS c w [0] vT S.things := Rd.toC h1 (fun k hk => by simp [hc, hasC])
 replace h2 : RdC tgS c w [0] vG S.tags := Rd.toC h2 (fun k hk => by simp [hc, hasC])
 replace h3 : RdC sesS c w [0] vS S.sessions := Rd.toC h3 (fun k hk => by simp [hc, hasC])
 clear hc
 refine enter (n := 8) (res := #[.cell 2 26]) Tryz.func18 rfl rfl rfl rfl <| cseq <| cg <| ve (Eff.boxC c 101 rfl) ?_
 rintro _ w1 ⟨b1, c1, rfl, m, hb1⟩
 replace hOl := hOl.mv m; replace h1 := h1.mv m; replace h2 := h2.mv m; replace h3 := h3.mv m
 refine ve (Eff.allocC c1 102 zero26) ?_
 rintro _ w2 ⟨b2, c2, rfl, m, hb2⟩
 replace hOl := hOl.mv m; replace h1 := h1.mv m; replace h2 := h2.mv m; replace h3 := h3.mv m; replace hb1 := hb1.mv m
 refine cnil <| cseq <| cg <| vq (Val.loadBN agg26 rfl hb1.blk rfl) <| ve (Eff.call pf13 rfl (copyState_ok (c := c2) h1.now h2.now h3.now z4 z5 z6)) ?_
 rintro v4 w3 ⟨c3, m, ⟨uT, uG, uS, rfl, hoT, hoG, hoS⟩⟩
 replace hOl := hOl.mv m; replace hb1 := hb1.mv m; replace hb2 := hb2.mv m
 have p1 := hoT.oneC; have p2 := hoG.oneC; have p3 := hoS.oneC
 refine WR.eff_ (Eff.storeNC agg26 rfl rfl hb1 rfl rfl ones) ?_
 rintro _ w4 ⟨hS, m⟩
 replace hOl := hOl.mv m; replace hb2 := hb2.mv m; replace hoT := hoT.mv m; replace hoG := hoG.mv m
 replace hb1 := hS
 refine cnil <| cseq <| cg <| vq (Val.fieldAddr fld26_2 rfl) <| WR.eff_ (Eff.storeC scl24 rfl rfl ra ra hb1 rfl) ?_
 rintro _ w5 ⟨hS, m⟩
 replace hOl := hOl.mv m; replace hb2 := hb2.mv m; replace hoT := hoT.mv m; replace hoG := hoG.mv m
 replace hb1 := hS
 refine vq (Val.fieldAddr fld26_3 rfl) <| WR.eff_ (Eff.storeC scl3 rfl rfl ra ra hb1 rfl) ?_
 rintro _ w6 ⟨hS, m⟩
 replace hOl := hOl.mv m; replace hb2 := hb2.mv m; replace hoT := hoT.mv m; replace hoG := hoG.mv m
 replace hb1 := hS
 refine cnil <| cseq <| cg <| vq (Val.loadBN agg26 rfl hb1.blk rfl) <| WR.eff_ (Eff.storeNC agg26 rfl rfl hb2 rfl rfl ones) ?_
 rintro _ w7 ⟨hS, m⟩
 replace hOl := hOl.mv m; replace hoT := hoT.mv m; replace hoG := hoG.mv m
 replace hb2 := hS
 refine cnil <| WC.retR1 rfl (RVal.cellN agg26 rfl hb2.blk rfl) ?_
 exact ⟨hOl.below, _, _, rfl, hoT.fromOld hOl (by decide), hoG.fromOld hOl (by decide)⟩
end Go.Proofs.YtdlpibhecdfbcabGreatDoor

namespace Silo
open Go Go.Eng
theorem tgW_le {w : World} {v : Value} {l : List Tg} (h : RdS tgS w.heap.size w v l) : ∀ t ∈ l, tgW t ≤ 281474976710656 := fun t ht => by
  have h3 := h.okFlat t ht
  have e : tgW t = t.name.length + t.digest.length := rfl
  omega
theorem sesW_le {w : World} {v : Value} {l : List Ses} (h : RdS sesS w.heap.size w v l) : ∀ t ∈ l, sesW t ≤ 140737488355328 := fun t ht => by
  have h3 := h.okFlat t ht
  have e : sesW t = t.text.length := rfl
  omega
theorem opW_le {w : World} {v : Value} {l : List MOp} (h : RdS opS w.heap.size w v l) : ∀ t ∈ l, opW t ≤ 422212465065984 := fun t ht => by
  have h3 := (h.okFlat t ht).2
  have e : opW t = t.name.length + t.digest.length + t.text.length := rfl
  omega
theorem rep_eq (a b : Rep) : cellsEq (encRep a) (encRep b) = decide (a = b) := by
  obtain ⟨a1, a2, a3⟩ := a
  obtain ⟨b1, b2, b3⟩ := b
  rw [Bool.eq_iff_iff]
  simp [cellsEq, cellEq, encRep, and_assoc]
theorem start_wakes : staMay Sta0 = true ∧ doM Sta0 ⟨1, 0, 0, 0, [], [], []⟩ = (⟨[], [], [⟨0, []⟩], 1⟩, ⟨0, [], 0⟩) := by
 refine ⟨by decide, ?_⟩
 rw [doM, if_pos rfl]
 rfl
end Silo
namespace Go.Eng
open Go
theorem Val.loadPre {P : Program} {env : Env} {w : World} {ty t n : Nat} {x : Operand} {b : Nat} {cs ds r : List Value} {T : TypeId} (ht : aggT P t = some n) (hx : evO env x = some (.pointer (some ⟨b, 0, none⟩))) (hb : Blk w b cs T) (hd : cs = ds ++ r) (hl : ds.length = n) : Val P env w (.load t x) ty (.agg ds.toArray) :=
  Val.loadN ht hx (fun j u hj => hb.cellsAt j u (by
    rw [hd]
    have hlt : j < ds.length := by
      rcases Nat.lt_or_ge j ds.length with h | h
      · exact h
      · rw [List.getElem?_eq_none h] at hj; cases hj
    rw [List.getElem?_append_left hlt]; exact hj)) hl
end Go.Eng
namespace Go.Proofs.YtdlpibhecdfbcabGreatDoor
open Go Go.Eng Go.RowKit Silo TryzT
theorem lnum_ok {w : World} (e : Int) : Calls Tryz.prog 19 #[I e] w (Ret fun v w' => Below w.heap.size w w' ∧ v = I e) := by
 refine enter (n := 4) (res := #[.tmp 2]) Tryz.func19 rfl rfl rfl rfl <| cseq <| cg <| za rfl <| cnil <| cseq <| cg <| zm rfl <| za rfl <| cnil <| WC.ret1 rfl rfl ?_
 exact ⟨Below.refl _ _, rfl⟩
theorem lwithin_ok {w : World} (i n : Int) (hi : Go.Eng.Int64 i) (h0 : 0 < n) (h1 : n ≤ 9223372036854775807) : Calls Tryz.prog 32 #[I i, I n] w (Ret fun v w' => Below w.heap.size w w' ∧ v = I (within i n)) := by
 have e1 : IntKind.u64.wrap i = i % 18446744073709551616 := by simp [IntKind.wrap, IntKind.signed, IntKind.bits]
 have e2 : 0 ≤ i % 18446744073709551616 := Int.emod_nonneg _ (by decide)
 have e3 := within_lo i n h0
 have e4 := within_hi i n h0
 refine enter (n := 11) (res := #[.tmp 4]) Tryz.func32 rfl rfl rfl rfl <| cseq <| cg <| za rfl <| cnil <| cseq <| cg <| zm rfl <| vq (Val.convInt Tryz.underlying3 Tryz.underlying83 rfl) <| zm rfl <| vq (Val.convToU64 Tryz.underlying3 Tryz.underlying83 rfl side side) <| vq (Val.rem rfl rfl (by omega)) ?_
 have e5 : (IntKind.u64.wrap i).tmod n = within i n := by rw [e1, Int.tmod_eq_emod_of_nonneg e2]; rfl
 rw [e5]
 refine vq (Val.convTo64 Tryz.underlying83 Tryz.underlying3 rfl (by omega) (by omega)) <| za rfl <| cnil ?_
 refine WC.ret1 rfl rfl ?_
 exact ⟨Below.refl _ _, rfl⟩
theorem opsWeight_ok {w : World} {v : Value} {l : List MOp} (h1 : Rd opS w v l) :
   Calls Tryz.prog 23 #[v] w (Ret fun v' w' => Below w.heap.size w w' ∧ v' = I (opsW l : Nat)) := by
 have hK : Old w w := Old.refl w
 have hsm := h1.small
 refine enter (n := 40) (res := #[.tmp 2]) Tryz.func23 rfl rfl rfl rfl <| cseq <| cg <| za rfl <| cnil <| cseq <| cg <| zm rfl ?_
 first | refine vq (Val.rdlen sl27 (by assumption) rfl) ?_ | refine vq (Val.sllen Tryz.underlying27 rfl) ?_
 refine za rfl <| cnil <| cseq <| cseq <| cg <| za rfl <| cnil <| cblock ?_
 refine WC.loop (σ := Nat) (fun k => [(0, v), (3, I ((l.length + ((l.take k).map opW).sum : Nat) : Int)), (4, I k)]) (fun k w' => Rd opS w' v l ∧ Old w w' ∧ k ≤ l.length ∧ l.length + ((l.take k).map opW).sum ≤ 900000000000000 ∧ opsW l = stopSum (l.length + ((l.take k).map opW).sum) ((l.drop k).map opW)) (fun k => l.length - k) 0 (by simp only [List.take_zero, List.map_nil, List.sum_nil, Nat.add_zero]; repeat (first | exact Sub.nil _ | refine Sub.cons rfl ?_ | refine Sub.consM rfl ?_)) ⟨h1, hK, by omega, by simp; omega, by simp [opsW]⟩ ?_
 rintro k wl ⟨h1, hK, hk, hn, hst⟩
 refine cseq <| cseq <| cg <| zm rfl <| zm rfl ?_
 first | refine vq (Val.rdlen sl27 (by assumption) rfl) ?_ | refine vq (Val.sllen Tryz.underlying27 rfl) ?_
 refine vq (Val.lss rfl rfl) <| zm rfl ?_
 apply WR.sc true 2 _ (fun w' => wl = w')
 case hl | hg | hu | hv | hs | hoff | hd => rfl
 case hF => exact fun _ => rfl
 case hT =>
  intro hq7
  try simp only [tstS] at hq7
  simp only [List.take_succ_cons, List.take_zero]
  refine WR.on rfl rfl <| zm rfl <| WR.on rfl rfl <| vq (Val.lss rfl rfl) ?_
  exact WR.nil ⟨rfl, Sub.drop _ 2 _ rfl rfl, rfl⟩
 rintro _ rfl
 refine cnil <| WC.cond rfl (fun hc3 => ?_) (fun hc3 => ?_)
 ·try simp only [tstS] at hc3
  obtain ⟨hc3, hc3'⟩ := hc3
  have ka : k < l.length := by omega
  have hw := opW_le h1 _ (List.getElem_mem ka)
  obtain ⟨cs1, hc20, rfl, ok1⟩ := h1.el ka
  have hc27 := hc20; have hc34 := hc20
  have e : opW l[k] = l[k].name.length + l[k].digest.length + l[k].text.length := rfl
  obtain ⟨_, ok1, ok2, ok3⟩ := ok1
  refine cskip <| cseq <| cblock <| WC.regionD (Below wl.heap.size wl) [0, 0, 0, 0, 0, 1, 0, 0, 0, 0, 0, 0, 1, 0, 0, 0, 0, 0, 0, 1, 0, 0, 0] [0, 1, 2, 3, 4, 5, 6, 7, 8, 9, 10, 11, 12, 13, 14, 15, 16, 17, 18, 19, 20, 21, 22] mixed (by kernel_rfl) ?_
  have hk1 : Below wl.heap.size wl wl.drew := (Below.refl _ _).drew
  have hCw : Below wl.heap.size wl wl.drew := (Below.refl _ _).drew
  generalize wl.drew = w1 at hk1 hCw ⊢
  have hc200 := hc20
  have hc270 := hc27
  have hc340 := hc34
  replace h1 := h1.up hk1; replace hK := hK.up hk1
  refine zdm rfl rfl <| zdm rfl rfl <| zdm rfl rfl <| vd rfl (fun _ => Val.indexAddr sl27 (by assumption) rfl rfl rfl side side) <| vd rfl (fun _ => Val.fieldAddrP fld33_4 rfl) <| qc rfl rfl rfl hCw (fun W hW => Val.loadEf scl9 rfl (hc200.up hW) rfl) rfl <| vd rfl (fun _ => Val.slen Tryz.underlying9 rfl) <| vd rfl (fun _ => Val.addI rfl rfl side side) <| zdm rfl rfl ?_
  refine zdm rfl rfl <| vd rfl (fun _ => Val.indexAddr sl27 (by assumption) rfl rfl rfl side side) <| vd rfl (fun _ => Val.fieldAddrP fld33_5 rfl) <| qc rfl rfl rfl hCw (fun W hW => Val.loadEf scl9 rfl (hc270.up hW) rfl) rfl <| vd rfl (fun _ => Val.slen Tryz.underlying9 rfl) <| vd rfl (fun _ => Val.addI rfl rfl side side) <| zdm rfl rfl <| zdm rfl rfl <| vd rfl (fun _ => Val.indexAddr sl27 (by assumption) rfl rfl rfl side side) ?_
  refine vd rfl (fun _ => Val.fieldAddrP fld33_6 rfl) <| qc rfl rfl rfl hCw (fun W hW => Val.loadEf scl9 rfl (hc340.up hW) rfl) rfl <| vd rfl (fun _ => Val.slen Tryz.underlying9 rfl) <| vd rfl (fun _ => Val.addI rfl rfl side side) <| zda rfl rfl ?_
  refine WD.nil ?_
  clear hc200 hc270 hc340
  clear hCw
  refine cg <| zm rfl <| vq (Val.addI rfl rfl side side) <| za rfl <| cnil ?_
  refine ⟨k + 1, ?_, ⟨h1, hK, ka, ?_, by rw [hst, stopSum_step _ ka (by omega), sum_take_succ _ ka, Nat.add_assoc]⟩, by omega⟩
  · rw [sum_take_succ _ ka, e, show ((l.length + (((l.take k).map opW).sum + (l[k].name.length + l[k].digest.length + l[k].text.length)) : Nat) : Int) = ((l.length + ((l.take k).map opW).sum : Nat) : Int) + (l[k].name.length : Int) + (l[k].digest.length : Int) + (l[k].text.length : Int) by omega]; repeat (first | exact Sub.nil _ | refine Sub.cons rfl ?_ | refine Sub.consM rfl ?_)
  rw [sum_take_succ _ ka]; omega
 try simp only [tstS] at hc3
 refine WC.exit rfl <| cseq <| cg <| zm rfl <| za rfl <| cnil <| WC.ret1 rfl rfl <| ⟨hK, ?_⟩
 rw [Bool.and_eq_false_iff] at hc3
 simp only [decide_eq_false_iff_not] at hc3
 rcases Nat.lt_or_ge k l.length with h | h
 · rw [hst, stopSum_ge (by omega)]
 rw [hst, List.drop_of_length_le h]; rfl
set_option maxHeartbeats 1000000 in
theorem stateWeight_ok {w : World} {vT vG vS : Value} {S : Sta} (h1 : Rd thgS w vT S.things) (h2 : Rd tgS w vG S.tags) (h3 : Rd sesS w vS S.sessions) :
   Calls Tryz.prog 22 #[.agg #[vT, vG, vS, I S.next]] w (Ret fun v' w' => Below w.heap.size w w' ∧ v' = I (staW S : Nat)) := by
 have hK : Old w w := Old.refl w
 have q1 := h1.oneC; have q2 := h2.oneC; have q3 := h3.oneC
 have s1 := thgsW_le h1; have s2 := h2.small; have s3 := h3.small
 obtain ⟨n0, hn0⟩ : ∃ n0, n0 = thgsW S.things + S.tags.length + S.sessions.length := ⟨_, rfl⟩
 refine enter (n := 66) (res := #[.tmp 2]) Tryz.func22 rfl rfl rfl rfl <| cseq <| cg <| ve (Eff.box rfl) ?_
 rintro _ w1 ⟨b1, rfl, hn1⟩
 have hk1 := hn1.below
 replace h1 := h1.up hk1; replace h2 := h2.up hk1; replace h3 := h3.up hk1; replace hK := hK.up hk1
 have hb1 := hn1.blk
 refine za rfl <| cnil <| cseq <| WC.regionD (Below w1.heap.size w1) [0, 1, 2, 0, 1, 0, 0, 0, 1, 0, 0, 0] [0, 1, 3, 4, 5, 7, 8, 9, 2, 6, 10, 11] mixed (by kernel_rfl) ?_
 have hk2 : Below w1.heap.size w1 w1.drew := (Below.refl _ _).drew
 have hCw : Below w1.heap.size w1 w1.drew := (Below.refl _ _).drew
 generalize w1.drew = w2 at hk2 hCw ⊢
 have hb10 := hb1
 replace h1 := h1.up hk2; replace h2 := h2.up hk2; replace h3 := h3.up hk2; replace hK := hK.up hk2; replace hb1 := hb1.up hk2
 refine vd rfl (fun _ => Val.fieldAddr fld26_0 rfl) <| qc rfl rfl rfl hCw (fun W hW => Val.loadB scl22 rfl (hb10.up hW) rfl) rfl <| vd rfl (fun _ => Val.fieldAddr fld26_1 rfl) <| qc rfl rfl rfl hCw (fun W hW => Val.loadB scl23 rfl (hb10.up hW) rfl) rfl ?_
 first | refine vd rfl (fun _ => Val.rdlen sl23 (by assumption) rfl) ?_ | refine vd rfl (fun _ => Val.sllen Tryz.underlying23 rfl) ?_
 refine vd rfl (fun _ => Val.fieldAddr fld26_2 rfl) <| qc rfl rfl rfl hCw (fun W hW => Val.loadB scl24 rfl (hb10.up hW) rfl) rfl ?_
 first | refine vd rfl (fun _ => Val.rdlen sl24 (by assumption) rfl) ?_ | refine vd rfl (fun _ => Val.sllen Tryz.underlying24 rfl) ?_
 refine WD.eff rfl rfl rfl (Eff.call pf44 rfl (thgsWeight_ok h1)) rfl ?_
 rintro v8 w3 ⟨hk3, rfl⟩
 refine ⟨fun hC => Below.trans hC (hk3.mono hC.size), ?_⟩
 replace hCw := Below.trans hCw (hk3.mono hCw.size)
 replace h1 := h1.up hk3; replace h2 := h2.up hk3; replace h3 := h3.up hk3; replace hK := hK.up hk3; replace hb1 := hb1.up hk3
 refine vd rfl (fun _ => Val.addI rfl rfl side side) <| vd rfl (fun _ => Val.addI rfl rfl side side) <| zda rfl rfl ?_
 refine WD.nil ?_
 clear hb10
 clear hCw
 refine cseq <| cseq ?_
 rw [show (thgsW S.things : Int) + (S.tags.length : Int) + (S.sessions.length : Int) = ((n0 : Nat) : Int) by omega]
 refine cg <| za rfl <| cnil <| cblock ?_
 refine WC.loop (σ := Nat) (fun k => [(1, .pointer (some ⟨b1, 0, none⟩)), (3, I ((n0 + ((S.tags.take k).map tgW).sum : Nat) : Int)), (4, I k)]) (fun k w' => Rd thgS w' vT S.things ∧ Rd tgS w' vG S.tags ∧ Rd sesS w' vS S.sessions ∧ Old w w' ∧ Blk w' b1 [vT, vG, vS, I S.next] 26 ∧ k ≤ S.tags.length ∧ n0 + ((S.tags.take k).map tgW).sum ≤ 900000000000000 ∧ staW1 S = stopSum (n0 + ((S.tags.take k).map tgW).sum) ((S.tags.drop k).map tgW)) (fun k => S.tags.length - k) 0 (by simp only [List.take_zero, List.map_nil, List.sum_nil, Nat.add_zero]; repeat (first | exact Sub.nil _ | refine Sub.cons rfl ?_ | refine Sub.consM rfl ?_)) ⟨h1, h2, h3, hK, hb1, by omega, by simp; omega, by simp [staW1, hn0]⟩ ?_
 clear h1 h2 h3 hK
 rintro k wl ⟨h1, h2, h3, hK, hb1, hk, hn, hst⟩
 refine cseq <| cseq <| cg <| zm rfl <| vq (Val.fieldAddr fld26_1 rfl) <| vq (Val.loadB scl23 rfl hb1 rfl) ?_
 first | refine vq (Val.rdlen sl23 (by assumption) rfl) ?_ | refine vq (Val.sllen Tryz.underlying23 rfl) ?_
 refine vq (Val.lss rfl rfl) <| zm rfl ?_
 apply WR.sc true 2 _ (fun w' => wl = w')
 case hl | hg | hu | hv | hs | hoff | hd => rfl
 case hF => exact fun _ => rfl
 case hT =>
  intro hq8
  try simp only [tstS] at hq8
  simp only [List.take_succ_cons, List.take_zero]
  refine WR.on rfl rfl <| zm rfl <| WR.on rfl rfl <| vq (Val.lss rfl rfl) ?_
  exact WR.nil ⟨rfl, Sub.drop _ 2 _ rfl rfl, rfl⟩
 rintro _ rfl
 refine cnil <| WC.cond rfl (fun hc3 => ?_) (fun hc3 => ?_)
 ·try simp only [tstS] at hc3
  obtain ⟨hc3, hc3'⟩ := hc3
  have ka : k < S.tags.length := by omega
  have hw := tgW_le h2 _ (List.getElem_mem ka)
  obtain ⟨cs1, hc32, rfl, ok1⟩ := h2.el ka
  have hc40 := hc32
  have e : tgW S.tags[k] = S.tags[k].name.length + S.tags[k].digest.length := rfl
  obtain ⟨ok1, ok2⟩ := ok1
  refine cskip <| cseq <| cblock <| WC.regionD (Below wl.heap.size wl) [0, 0, 1, 0, 0, 0, 1, 0, 0, 0, 1, 0, 0, 0, 1, 0, 0, 0] [0, 1, 2, 3, 4, 5, 6, 7, 8, 9, 10, 11, 12, 13, 14, 15, 16, 17] mixed (by kernel_rfl) ?_
  have hk4 : Below wl.heap.size wl wl.drew := (Below.refl _ _).drew
  have hCw : Below wl.heap.size wl wl.drew := (Below.refl _ _).drew
  generalize wl.drew = w4 at hk4 hCw ⊢
  have hb10 := hb1
  have hc320 := hc32
  have hc400 := hc40
  replace h1 := h1.up hk4; replace h2 := h2.up hk4; replace h3 := h3.up hk4; replace hK := hK.up hk4; replace hb1 := hb1.up hk4
  refine zdm rfl rfl <| vd rfl (fun _ => Val.fieldAddr fld26_1 rfl) <| qc rfl rfl rfl hCw (fun W hW => Val.loadB scl23 rfl (hb10.up hW) rfl) rfl <| zdm rfl rfl <| vd rfl (fun _ => Val.indexAddr sl23 (by assumption) rfl rfl rfl side side) <| vd rfl (fun _ => Val.fieldAddrP fld66_0 rfl) <| qc rfl rfl rfl hCw (fun W hW => Val.loadEf scl9 rfl (hc320.up hW) rfl) rfl <| vd rfl (fun _ => Val.slen Tryz.underlying9 rfl) <| vd rfl (fun _ => Val.addI rfl rfl side side) ?_
  refine vd rfl (fun _ => Val.fieldAddr fld26_1 rfl) <| qc rfl rfl rfl hCw (fun W hW => Val.loadB scl23 rfl (hb10.up hW) rfl) rfl <| zdm rfl rfl <| vd rfl (fun _ => Val.indexAddr sl23 (by assumption) rfl rfl rfl side side) <| vd rfl (fun _ => Val.fieldAddrP fld66_1 rfl) <| qc rfl rfl rfl hCw (fun W hW => Val.loadEf scl9 rfl (hc400.up hW) rfl) rfl <| vd rfl (fun _ => Val.slen Tryz.underlying9 rfl) <| vd rfl (fun _ => Val.addI rfl rfl side side) <| zda rfl rfl ?_
  refine WD.nil ?_
  clear hb10 hc320 hc400
  clear hCw
  refine cg <| zm rfl <| vq (Val.addI rfl rfl side side) <| za rfl <| cnil ?_
  refine ⟨k + 1, ?_, ⟨h1, h2, h3, hK, hb1, ka, ?_, by rw [hst, stopSum_step _ ka (by omega), sum_take_succ _ ka, Nat.add_assoc]⟩, by omega⟩
  · rw [sum_take_succ _ ka, e, show ((n0 + (((S.tags.take k).map tgW).sum + (S.tags[k].name.length + S.tags[k].digest.length)) : Nat) : Int) = ((n0 + ((S.tags.take k).map tgW).sum : Nat) : Int) + (S.tags[k].name.length : Int) + (S.tags[k].digest.length : Int) by omega]; repeat (first | exact Sub.nil _ | refine Sub.cons rfl ?_ | refine Sub.consM rfl ?_)
  rw [sum_take_succ _ ka]; omega
 try simp only [tstS] at hc3
 refine WC.exit rfl <| cseq <| cseq ?_
 have hw1 : staW1 S = n0 + ((S.tags.take k).map tgW).sum := by
   rw [Bool.and_eq_false_iff] at hc3
   simp only [decide_eq_false_iff_not] at hc3
   rcases Nat.lt_or_ge k S.tags.length with h | h
   · rw [hst, stopSum_ge (by omega)]
   rw [hst, List.drop_of_length_le h]; rfl
 have hw1l : staW1 S ≤ 900000000000000 := by omega
 rw [← hw1]
 clear hst hn hw1
 refine cg <| za rfl <| cnil <| cblock ?_
 refine WC.loop (σ := Nat) (fun k => [(1, .pointer (some ⟨b1, 0, none⟩)), (3, I ((staW1 S + ((S.sessions.take k).map sesW).sum : Nat) : Int)), (5, I k)]) (fun k w' => Rd thgS w' vT S.things ∧ Rd tgS w' vG S.tags ∧ Rd sesS w' vS S.sessions ∧ Old w w' ∧ Blk w' b1 [vT, vG, vS, I S.next] 26 ∧ k ≤ S.sessions.length ∧ staW1 S + ((S.sessions.take k).map sesW).sum ≤ 1800000000000000 ∧ staW S = stopSum (staW1 S + ((S.sessions.take k).map sesW).sum) ((S.sessions.drop k).map sesW)) (fun k => S.sessions.length - k) 0 (by simp only [List.take_zero, List.map_nil, List.sum_nil, Nat.add_zero]; repeat (first | exact Sub.nil _ | refine Sub.cons rfl ?_ | refine Sub.consM rfl ?_)) ⟨h1, h2, h3, hK, hb1, by omega, by simp; omega, by simp [staW]⟩ ?_
 clear h1 h2 h3 hK hb1
 rintro j wm ⟨h1, h2, h3, hK, hb1, hj, hn, hst⟩
 refine cseq <| cseq <| cg <| zm rfl <| vq (Val.fieldAddr fld26_2 rfl) <| vq (Val.loadB scl24 rfl hb1 rfl) ?_
 first | refine vq (Val.rdlen sl24 (by assumption) rfl) ?_ | refine vq (Val.sllen Tryz.underlying24 rfl) ?_
 refine vq (Val.lss rfl rfl) <| zm rfl ?_
 apply WR.sc true 2 _ (fun w' => wm = w')
 case hl | hg | hu | hv | hs | hoff | hd => rfl
 case hF => exact fun _ => rfl
 case hT =>
  intro hq8
  try simp only [tstS] at hq8
  simp only [List.take_succ_cons, List.take_zero]
  refine WR.on rfl rfl <| zm rfl <| WR.on rfl rfl <| vq (Val.lss rfl rfl) ?_
  exact WR.nil ⟨rfl, Sub.drop _ 2 _ rfl rfl, rfl⟩
 rintro _ rfl
 refine cnil <| WC.cond rfl (fun hc7 => ?_) (fun hc7 => ?_)
 ·try simp only [tstS] at hc7
  obtain ⟨hc7, hc7'⟩ := hc7
  have ja : j < S.sessions.length := by omega
  have hw := sesW_le h3 _ (List.getElem_mem ja)
  obtain ⟨cs2, hc60, rfl, ok2⟩ := h3.el ja
  have e : sesW S.sessions[j] = S.sessions[j].text.length := rfl
  obtain ⟨_, ok2⟩ := ok2
  refine cskip <| cseq <| cblock <| cg <| zm rfl <| vq (Val.fieldAddr fld26_2 rfl) <| vq (Val.loadB scl24 rfl hb1 rfl) <| zm rfl <| vq (Val.indexAddr sl24 (by assumption) rfl rfl rfl side side) ?_
  refine vq (Val.fieldAddrP fld63_1 rfl) <| vq (Val.loadEf scl9 rfl hc60 rfl) <| vq (Val.slen Tryz.underlying9 rfl) <| vq (Val.addI rfl rfl side side) <| za rfl <| cnil <| cg <| zm rfl <| vq (Val.addI rfl rfl side side) ?_
  refine za rfl <| cnil <| ⟨j + 1, ?_, ⟨h1, h2, h3, hK, hb1, ja, ?_, by rw [hst, stopSum_step _ ja (by omega), sum_take_succ _ ja, Nat.add_assoc]⟩, by omega⟩
  · rw [sum_take_succ _ ja, e, show ((staW1 S + (((S.sessions.take j).map sesW).sum + S.sessions[j].text.length) : Nat) : Int) = ((staW1 S + ((S.sessions.take j).map sesW).sum : Nat) : Int) + (S.sessions[j].text.length : Int) by omega]; repeat (first | exact Sub.nil _ | refine Sub.cons rfl ?_ | refine Sub.consM rfl ?_)
  rw [sum_take_succ _ ja]; omega
 try simp only [tstS] at hc7
 refine WC.exit rfl <| cseq <| cg <| zm rfl <| za rfl <| cnil <| WC.ret1 rfl rfl <| ⟨hK, ?_⟩
 rw [Bool.and_eq_false_iff] at hc7
 simp only [decide_eq_false_iff_not] at hc7
 rcases Nat.lt_or_ge j S.sessions.length with h | h
 · rw [hst, stopSum_ge (by omega)]
 rw [hst, List.drop_of_length_le h]; rfl
theorem lheavy_ok {w : World} {vT vG vS vO : Value} {S : Sta} {O : List MOp} (h1 : Rd thgS w vT S.things) (h2 : Rd tgS w vG S.tags) (h3 : Rd sesS w vS S.sessions) (h4 : Rd opS w vO O) :
   Calls Tryz.prog 12 #[.agg #[vT, vG, vS, I S.next, vO]] w (Ret fun v' w' => Below w.heap.size w w' ∧ v' = .bool (decide ((12000 : Int) < (staW S : Nat)) || decide ((9000 : Int) < (opsW O : Nat)))) := by
 have hK : Old w w := Old.refl w
 have q1 := h1.oneC; have q2 := h2.oneC; have q3 := h3.oneC; have q4 := h4.oneC
 refine enter (n := 13) (res := #[.tmp 2]) Tryz.func12 rfl rfl rfl rfl <| cseq <| cg <| ve (Eff.box rfl) ?_
 rintro _ w1 ⟨b1, rfl, hn1⟩
 have hk1 := hn1.below
 replace h1 := h1.up hk1; replace h2 := h2.up hk1; replace h3 := h3.up hk1; replace h4 := h4.up hk1; replace hK := hK.up hk1
 have hb1 := hn1.blk
 refine za rfl <| cnil <| cseq <| cg <| vq (Val.fieldAddr fld29_0 rfl) <| vq (Val.loadPre (ds := [vT, vG, vS, I S.next]) (r := [vO]) agg26 rfl hb1 rfl rfl) <| ve (Eff.call pf22 rfl (stateWeight_ok h1 h2 h3)) ?_
 rintro v5 w2 ⟨hk2, rfl⟩
 replace h4 := h4.up hk2; replace hK := hK.up hk2; replace hb1 := hb1.up hk2
 refine vq (Val.gtr rfl rfl) <| zm rfl ?_
 apply WR.sc false 4 (decide ((9000 : Int) < (opsW O : Nat))) (fun w' => Below w2.heap.size w2 w')
 case hl | hg | hu | hv | hs | hoff | hd => rfl
 case hF => exact fun _ => Below.refl _ _
 case hT =>
  intro hq9
  try simp only [tstS] at hq9
  simp only [List.take_succ_cons, List.take_zero]
  have hKsc9 : Old w2 w2 := Old.refl _
  refine WR.on rfl rfl <| vq (Val.fieldAddr fld29_1 rfl) <| WR.on rfl rfl <| vq (Val.loadB scl27 rfl hb1 rfl) <| WR.on rfl rfl <| ve (Eff.call pf23 rfl (opsWeight_ok h4)) ?_
  rintro v10 w3 ⟨hk3, rfl⟩
  replace hKsc9 := hKsc9.up hk3
  refine WR.on rfl rfl <| vq (Val.gtr rfl rfl) ?_
  exact WR.nil ⟨rfl, Sub.drop _ 4 _ rfl rfl, hKsc9⟩
 intro w4 hk4
 replace hK := hK.up hk4
 refine za rfl <| cnil <| WC.ret1 rfl rfl ?_
 exact ⟨hK, rfl⟩
theorem lwakes_ok {w : World} : Calls Tryz.prog 21 #[] w (Ret fun v' w' => Below w.heap.size w w' ∧ v' = .bool true) := by
 obtain ⟨e1, e2⟩ := start_wakes
 have hsO : SmallO ⟨1, 0, 0, 0, [], [], []⟩ := ⟨⟨⟨by decide, by decide⟩, ⟨by decide, by decide⟩, ⟨by decide, by decide⟩, ⟨by decide, by decide⟩⟩, by decide, by decide, by decide⟩
 have hpl : PlainV (.slice none 0 0) := ⟨_, _, _, rfl, fun h => absurd h (by decide)⟩
 obtain ⟨c, hO, hc⟩ := OldC.start w
 clear hc
 refine enter (n := 30) (res := #[.tmp 0]) Tryz.func21 rfl rfl rfl rfl <| cseq <| cg <| za rfl <| cnil <| cseq <| cg <| vq (Val.build (cells := #[.slice none 0 0, .slice none 0 0, .slice none 0 0, I 0]) rfl (by kernel_rfl)) <| vq (Val.build (cells := #[I 1, I 0, I 0, I 0, St [], St [], St []]) rfl (by kernel_rfl)) ?_
 refine ve (Eff.pureC c 5 (Eff.call pf27 rfl (mdo_ok (S := Sta0) (o := ⟨1, 0, 0, 0, [], [], []⟩) (RdS.nil _ _ _) (RdS.nil _ _ _) (RdS.nil _ _ _) hpl hpl hpl hsO))) ?_
 rintro v7 w1 ⟨c1, m, hx1, ⟨uT, uG, uS, S', r, rfl, hS', hr, hoT, hoG, hoS⟩⟩
 replace hO := hO.mv m
 replace hoT := hoT.toC hx1
 replace hoG := hoG.toC hx1
 replace hoS := hoS.toC hx1
 rw [e1, show opOk ⟨1, 0, 0, 0, [], [], []⟩ = true by decide, e2] at hS' hr
 simp only [Bool.and_self, if_true] at hS' hr
 subst hS'; subst hr
 rw [e1, show opOk ⟨1, 0, 0, 0, [], [], []⟩ = true by decide, show (if (true && true) = true then (0 : Int) else 1) = 0 from rfl]
 have p1 := hoT.oneC; have p2 := hoG.oneC; have p3 := hoS.oneC
 refine zm rfl <| vq (Val.extract rfl rfl) <| vq (Val.extract rfl rfl) <| vq (Val.extract rfl rfl) <| ve (Eff.allocC c1 101 zero26) ?_
 rintro _ w2 ⟨b1, c2, rfl, m, hb1⟩
 replace hO := hO.mv m
 refine ve (Eff.allocC c2 102 zero51) ?_
 rintro _ w3 ⟨b2, c3, rfl, m, hb2⟩
 replace hO := hO.mv m; replace hb1 := hb1.mv m
 refine WR.eff_ (Eff.storeNC agg26 rfl rfl hb1 rfl rfl ones) ?_
 rintro _ w4 ⟨hS, m⟩
 replace hO := hO.mv m; replace hb2 := hb2.mv m
 replace hb1 := hS
 refine WR.eff_ (Eff.storeNC agg51 rfl rfl hb2 rfl rfl ones) ?_
 rintro _ w5 ⟨hS, m⟩
 replace hO := hO.mv m; replace hb1 := hb1.mv m
 replace hb2 := hS
 refine za rfl <| cnil <| cseq <| cg <| zm rfl <| ve (Eff.pureC c3 1 (Eff.call pf19 rfl (lnum_ok _))) ?_
 rintro v12 w6 ⟨c6, m, hx6, rfl⟩
 replace hO := hO.mv m; replace hb1 := hb1.mv m; replace hb2 := hb2.mv m
 refine vq (Val.eql rfl rfl) <| zm rfl ?_
 apply WR.sc true 3 true (fun w' => ∃ c', Acc c6 w6 [] c' w')
 case hl | hg | hu | hv | hs | hoff | hd => rfl
 case hF => exact fun _ => ⟨_, Acc.refl _ _ _⟩
 case hT =>
  intro hq7
  try simp only [tstS] at hq7
  simp only [List.take_succ_cons, List.take_zero]
  have hKsc7 := Acc.refl c6 w6 []
  refine WR.on rfl rfl <| vq (Val.loadBN agg51 rfl hb2.blk rfl) <| WR.on rfl rfl <| vq (Val.build (cells := #[I 0, St [], I 0]) rfl (by kernel_rfl)) ?_
  refine WR.on rfl rfl <| vq (Val.steq flat51 rfl rfl rfl (by simp [sameKinds])) ?_
  rw [rep_eq ⟨0, [], 0⟩ ⟨0, [], 0⟩]
  exact WR.nil ⟨rfl, Sub.drop _ 3 _ rfl rfl, _, hKsc7⟩
 rintro w7 ⟨c7, ⟨m⟩⟩
 replace hO := hO.mv m; replace hb1 := hb1.mv m
 refine zm rfl ?_
 apply WR.sc true 4 true (fun w' => ∃ c', Acc c7 w7 [] c' w')
 case hl | hg | hu | hv | hs | hoff | hd => rfl
 case hF => exact fun _ => ⟨_, Acc.refl _ _ _⟩
 case hT =>
  intro hq13
  try simp only [tstS] at hq13
  simp only [List.take_succ_cons, List.take_zero]
  have hKsc13 := Acc.refl c7 w7 []
  refine WR.on rfl rfl <| vq (Val.fieldAddr fld26_2 rfl) <| WR.on rfl rfl <| vq (Val.loadB scl24 rfl hb1.blk rfl) <| WR.on rfl rfl ?_
  first | refine vq (Val.rdlen sl24 (by assumption) rfl) ?_ | refine vq (Val.sllen Tryz.underlying24 rfl) ?_ | refine vq (Val.olen sl24 (by assumption) rfl) ?_ | refine vq (Val.rdlenC sl24 (by assumption) rfl) ?_
  refine WR.on rfl rfl <| vq (Val.eql rfl rfl) ?_
  exact WR.nil ⟨rfl, Sub.drop _ 4 _ rfl rfl, _, hKsc13⟩
 rintro w8 ⟨c8, ⟨m⟩⟩
 replace hO := hO.mv m; replace hb1 := hb1.mv m
 refine zm rfl ?_
 apply WR.sc true 3 true (fun w' => ∃ c', Acc c8 w8 [] c' w')
 case hl | hg | hu | hv | hs | hoff | hd => rfl
 case hF => exact fun _ => ⟨_, Acc.refl _ _ _⟩
 case hT =>
  intro hq18
  try simp only [tstS] at hq18
  simp only [List.take_succ_cons, List.take_zero]
  have hKsc18 := Acc.refl c8 w8 []
  refine WR.on rfl rfl <| vq (Val.fieldAddr fld26_3 rfl) <| WR.on rfl rfl <| vq (Val.loadB scl3 rfl hb1.blk rfl) <| WR.on rfl rfl <| vq (Val.eql rfl rfl) ?_
  exact WR.nil ⟨rfl, Sub.drop _ 3 _ rfl rfl, _, hKsc18⟩
 rintro w9 ⟨c9, ⟨m⟩⟩
 replace hO := hO.mv m
 refine za rfl <| cnil <| WC.ret1 rfl rfl ?_
 exact ⟨hO.below, rfl⟩
end Go.Proofs.YtdlpibhecdfbcabGreatDoor

namespace Go.Eng
open Go Go.RowKit
theorem Mv.pureG {w w' : World} (c : Nat → Nat) (h : Below w.heap.size w w') (f : Nat → Nat) : ∃ c', Mv c w c' w' [] ∧ ∀ k, w.heap.size ≤ k → c' k = f k :=
  ⟨fun k => if k < w.heap.size then c k else f k, ⟨h.os, h.tape, h.output, h.size, fun k hk => if_pos hk, fun k hk _ => h.block k hk⟩, fun k hk => if_neg (Nat.not_lt.2 hk)⟩
theorem Own.typ {w : World} {base : Nat} {e : TypeId} {size n : Nat} {v : Value} {xs : List Value} (h : Own w base e size v n xs) {k : Nat} (hk : v.rowOf = some k) : ∃ cur fz, w.heap[k]? = some (.cells cur e fz) := by
  rcases h.2 with ⟨rfl, A, rfl⟩ | ⟨g, cap, cur, fz, rfl, _, hg, _, _, _, _, _, hc⟩
  · rw [rowOf_zero] at hk; cases hk
  · rw [rowOf_slice hc] at hk; cases hk; exact ⟨_, _, hg⟩
theorem Own.apart {w : World} {b1 b2 : Nat} {e1 e2 : TypeId} {s1 s2 n1 n2 : Nat} {v1 v2 : Value} {x1 x2 : List Value} (h1 : Own w b1 e1 s1 v1 n1 x1) (h2 : Own w b2 e2 s2 v2 n2 x2) (he : e1 ≠ e2) {k : Nat} (hk : v2.rowOf = some k) : ¬ v1.rowOf = some k := fun hk1 => by
  obtain ⟨_, _, a⟩ := h1.typ hk1
  obtain ⟨_, _, b⟩ := h2.typ hk
  rw [a] at b
  simp only [Option.some.injEq, Obj.cells.injEq] at b
  exact he b.2.1
theorem mvThree {c : Nat → Nat} {w w' : World} {e1 e2 e3 : TypeId} {s1 s2 s3 n1 n2 n3 : Nat} {v1 v2 v3 : Value} {x1 x2 x3 : List Value} (h : Below w.heap.size w w') (h1 : Own w' w.heap.size e1 s1 v1 n1 x1) (h2 : Own w' w.heap.size e2 s2 v2 n2 x2) (h3 : Own w' w.heap.size e3 s3 v3 n3 x3) (e12 : e1 ≠ e2) (e13 : e1 ≠ e3) (e23 : e2 ≠ e3) :
   ∃ c', Mv c w c' w' [] ∧ OwnC c' w' 81 e1 s1 v1 n1 x1 ∧ OwnC c' w' 82 e2 s2 v2 n2 x2 ∧ OwnC c' w' 83 e3 s3 v3 n3 x3 := by
 obtain ⟨c', m, hx⟩ := Mv.pureG c h (fun k => if v1.rowOf = some k then 81 else if v2.rowOf = some k then 82 else 83)
 refine ⟨c', m, ⟨h1.base_le (Nat.zero_le _), fun k hk => ?_⟩, ⟨h2.base_le (Nat.zero_le _), fun k hk => ?_⟩, ⟨h3.base_le (Nat.zero_le _), fun k hk => ?_⟩⟩
 · rw [hx k (h1.lt k hk).1, if_pos hk]
 · rw [hx k (h2.lt k hk).1, if_neg (h1.apart h2 e12 hk), if_pos hk]
 rw [hx k (h3.lt k hk).1, if_neg (h1.apart h3 e13 hk), if_neg (h2.apart h3 e23 hk)]
end Go.Eng
namespace Go.Proofs.YtdlpibhecdfbcabGreatDoor
open Go Go.Eng Go.RowKit Silo TryzT
theorem mdoC_ok {c : Nat → Nat} {w : World} {vT vG vS : Value} {S : Sta} {o : MOp} (h1 : Rd thgS w vT S.things) (h2 : Rd tgS w vG S.tags) (h3 : Rd sesS w vS S.sessions) (hp1 : PlainV vT) (hp2 : PlainV vG) (hp3 : PlainV vS) (hO : SmallO o) : Calls Tryz.prog 27 #[.agg #[vT, vG, vS, I S.next], .agg (encOp o).toArray] w (Ret fun v w' => ∃ c', Mv c w c' w' [] ∧ ∃ uT uG uS S' r, v = .tuple #[.agg #[uT, uG, uS, I S'.next], .agg (encRep r).toArray, I (if staMay S && opOk o then 0 else 1)] ∧ (S' = if staMay S && opOk o then (doM S o).1 else Sta0) ∧ (r = if staMay S && opOk o then (doM S o).2 else Rep0) ∧ OwnC c' w' 81 60 3 uT S'.things.length (S'.things.flatMap encThg) ∧ OwnC c' w' 82 66 2 uG S'.tags.length (S'.tags.flatMap encTg) ∧ OwnC c' w' 83 63 2 uS S'.sessions.length (S'.sessions.flatMap encSes)) := by
 refine (mdo_ok h1 h2 h3 hp1 hp2 hp3 hO).mono fun e w' he => ?_
 obtain ⟨v, rfl, hb, uT, uG, uS, S', r, rfl, hS, hr, a, b, d⟩ := he
 obtain ⟨c', m, ka, kb, kd⟩ := mvThree (c := c) hb a b d (by decide) (by decide) (by decide)
 exact ⟨_, rfl, c', m, uT, uG, uS, S', r, rfl, hS, hr, ka, kb, kd⟩
set_option maxHeartbeats 1000000 in
theorem spoilS_ok {c : Nat → Nat} {w : World} {uT uG uS : Value} {n : Int} {a b d : Nat} {xs ys zs : List Value} (hoT : OwnC c w 81 60 3 uT a xs) (hoG : OwnC c w 82 66 2 uG b ys) (hoS : OwnC c w 83 63 2 uS d zs) (l1 : a ≤ 1048576) (l2 : b ≤ 1048576) (l3 : d ≤ 1048576) :
   Calls Tryz.prog 31 #[.agg #[uT, uG, uS, I n]] w (Ret fun _ w' => ∃ c', Mv c w c' w' [81, 82, 83] ∧ True) := by
 have hJ := OldJ.start c w [81, 82, 83]
 replace hoT := hoT.inn (J := [81, 82, 83]) rfl
 replace hoG := hoG.inn (J := [81, 82, 83]) rfl
 replace hoS := hoS.inn (J := [81, 82, 83]) rfl
 generalize mask c [81, 82, 83] = c0 at hJ hoT hoG hoS
 have q1 := hoT.oneC; have q2 := hoG.oneC; have q3 := hoS.oneC
 refine enter (n := 41) (res := #[]) Tryz.func31 rfl rfl rfl rfl <| cseq <| cg <| ve (Eff.boxC c0 101 rfl) ?_
 rintro _ w1 ⟨b1, c1, rfl, m, hb1⟩
 replace hJ := hJ.mv m; replace hoT := hoT.mv m; replace hoG := hoG.mv m; replace hoS := hoS.mv m
 refine cnil <| cseq <| cseq <| cg <| za rfl <| cnil <| cblock <| WC.loop (σ := Nat) (fun k => [(1, .pointer (some ⟨b1, 0, none⟩)), (2, I k)]) (fun k w' => ∃ c' xs', OldJ c w [81, 82, 83] c' w' ∧ OwnC c' w' 81 60 3 uT a xs' ∧ OwnC c' w' 82 66 2 uG b ys ∧ OwnC c' w' 83 63 2 uS d zs ∧ BlkC c' w' 101 b1 [uT, uG, uS, I n] 26 ∧ k ≤ a) (fun k => a - k) 0 subs ⟨_, _, hJ, hoT, hoG, hoS, hb1, by omega⟩ ?_
 clear hJ hoT hoG hoS hb1
 rintro k wl ⟨cl, xs', hJ, hoT, hoG, hoS, hb1, hk⟩
 refine cseq <| cseq <| cg <| zm rfl <| vq (Val.fieldAddr fld26_0 rfl) <| vq (Val.loadB scl22 rfl hb1.blk rfl) <| vq (Val.olen sl22 hoT rfl) <| vq (Val.lss rfl rfl) <| cnil <| WC.cond rfl (fun hc2 => ?_) (fun hc2 => ?_)
 ·try simp only [tstS] at hc2
  have ka : k < a := by omega
  refine cskip <| cseq <| cblock <| cg <| vq (Val.fieldAddr fld26_0 rfl) <| vq (Val.loadB scl22 rfl hb1.blk rfl) <| zm rfl <| vq (Val.build (cells := #[St [], St [115, 112, 111, 105, 108, 116], .bool false]) rfl (by kernel_rfl)) <| vq (Val.indexO sl22 hoT rfl rfl (by omega) (by omega)) ?_
  refine WR.eff_ ((Eff.storeON (j := k) agg60 hoT (by omega) rfl rfl rfl ones)) ?_
  rintro _ w2 ⟨c2, m, hoT⟩
  replace hJ := hJ.mv m; replace hoG := hoG.mv m; replace hoS := hoS.mv m; replace hb1 := hb1.mv m
  refine cnil <| cg <| zm rfl <| vq (Val.addI rfl rfl side side) <| za rfl <| cnil ?_
  exact ⟨k + 1, subs, ⟨_, _, hJ, hoT, hoG, hoS, hb1, ka⟩, by omega⟩
 try simp only [tstS] at hc2
 refine WC.exit rfl <| cseq <| cseq <| cg <| za rfl <| cnil <| cblock <| WC.loop (σ := Nat) (fun k => [(1, .pointer (some ⟨b1, 0, none⟩)), (3, I k)]) (fun k w' => ∃ c' xs' ys', OldJ c w [81, 82, 83] c' w' ∧ OwnC c' w' 81 60 3 uT a xs' ∧ OwnC c' w' 82 66 2 uG b ys' ∧ OwnC c' w' 83 63 2 uS d zs ∧ BlkC c' w' 101 b1 [uT, uG, uS, I n] 26 ∧ k ≤ b) (fun k => b - k) 0 subs ⟨_, _, _, hJ, hoT, hoG, hoS, hb1, by omega⟩ ?_
 clear hJ hoT hoG hoS hb1
 rintro k2 wl2 ⟨cl2, xs2, ys', hJ, hoT, hoG, hoS, hb1, hk2⟩
 refine cseq <| cseq <| cg <| zm rfl <| vq (Val.fieldAddr fld26_1 rfl) <| vq (Val.loadB scl23 rfl hb1.blk rfl) <| vq (Val.olen sl23 hoG rfl) <| vq (Val.lss rfl rfl) <| cnil <| WC.cond rfl (fun hc6 => ?_) (fun hc6 => ?_)
 ·try simp only [tstS] at hc6
  have ka : k2 < b := by omega
  refine cskip <| cseq <| cblock <| cg <| vq (Val.fieldAddr fld26_1 rfl) <| vq (Val.loadB scl23 rfl hb1.blk rfl) <| zm rfl <| vq (Val.build (cells := #[St [], St []]) rfl (by kernel_rfl)) <| vq (Val.indexO sl23 hoG rfl rfl (by omega) (by omega)) ?_
  refine WR.eff_ ((Eff.storeON (j := k2) agg66 hoG (by omega) rfl rfl rfl ones)) ?_
  rintro _ w3 ⟨c3, m, hoG⟩
  replace hJ := hJ.mv m; replace hoT := hoT.mv m; replace hoS := hoS.mv m; replace hb1 := hb1.mv m
  refine cnil <| cg <| zm rfl <| vq (Val.addI rfl rfl side side) <| za rfl <| cnil ?_
  exact ⟨k2 + 1, subs, ⟨_, _, _, hJ, hoT, hoG, hoS, hb1, ka⟩, by omega⟩
 try simp only [tstS] at hc6
 refine WC.exit rfl <| cseq <| cg <| za rfl <| cnil <| cblock <| WC.loop (σ := Nat) (fun k => [(1, .pointer (some ⟨b1, 0, none⟩)), (4, I k)]) (fun k w' => ∃ c' xs' ys' zs', OldJ c w [81, 82, 83] c' w' ∧ OwnC c' w' 81 60 3 uT a xs' ∧ OwnC c' w' 82 66 2 uG b ys' ∧ OwnC c' w' 83 63 2 uS d zs' ∧ BlkC c' w' 101 b1 [uT, uG, uS, I n] 26 ∧ k ≤ d) (fun k => d - k) 0 subs ⟨_, _, _, _, hJ, hoT, hoG, hoS, hb1, by omega⟩ ?_
 clear hJ hoT hoG hoS hb1
 rintro k3 wl3 ⟨cl3, xs3, ys3, zs', hJ, hoT, hoG, hoS, hb1, hk3⟩
 refine cseq <| cseq <| cg <| zm rfl <| vq (Val.fieldAddr fld26_2 rfl) <| vq (Val.loadB scl24 rfl hb1.blk rfl) <| vq (Val.olen sl24 hoS rfl) <| vq (Val.lss rfl rfl) <| cnil <| WC.cond rfl (fun hc10 => ?_) (fun hc10 => ?_)
 ·try simp only [tstS] at hc10
  have ka : k3 < d := by omega
  refine cskip <| cseq <| cblock <| cg <| vq (Val.fieldAddr fld26_2 rfl) <| vq (Val.loadB scl24 rfl hb1.blk rfl) <| zm rfl <| vq (Val.build (cells := #[I (-9), St []]) rfl (by kernel_rfl)) <| vq (Val.indexO sl24 hoS rfl rfl (by omega) (by omega)) ?_
  refine WR.eff_ ((Eff.storeON (j := k3) agg63 hoS (by omega) rfl rfl rfl ones)) ?_
  rintro _ w4 ⟨c4, m, hoS⟩
  replace hJ := hJ.mv m; replace hoT := hoT.mv m; replace hoG := hoG.mv m; replace hb1 := hb1.mv m
  refine cnil <| cg <| zm rfl <| vq (Val.addI rfl rfl side side) <| za rfl <| cnil ?_
  exact ⟨k3 + 1, subs, ⟨_, _, _, _, hJ, hoT, hoG, hoS, hb1, ka⟩, by omega⟩
 try simp only [tstS] at hc10
 refine WC.exit rfl <| ⟨_, _, rfl, rfl, ?_⟩
 exact ⟨rfl, _, hJ.out, trivial⟩
end Go.Proofs.YtdlpibhecdfbcabGreatDoor

namespace Go.Eng
open Go
theorem Val.and_i64 {P : Program} {env : Env} {w : World} {ty t ty2 : TypeId} {x y : Operand} {m n : Int} (hx : evO env x = some (I m)) (hy : evO env y = some (I n)) : Val P env w (.binOp .and t x y ty2) ty (I (IntKind.i64.wrap ((BitVec.ofInt IntKind.i64.bits m &&& BitVec.ofInt IntKind.i64.bits n).toNat : Int))) :=
  Val.bitop (k := .i64) hx hy (.inr (.inl ⟨rfl, rfl⟩))
theorem wrap_i64 (n : Int) : Int64 (IntKind.i64.wrap n) := by
  simp only [Int64, IntKind.wrap, IntKind.signed, IntKind.bits]
  simp
  constructor
  · split <;> omega
  · split <;> omega
end Go.Eng
namespace Go.Proofs.YtdlpibhecdfbcabGreatDoor
open Go Go.Eng Go.RowKit Silo TryzT
set_option maxHeartbeats 2000000 in
theorem aimed_ok {w : World} {vT vG vS : Value} {S : Sta} {o : MOp} {i : Int} (h1 : Rd thgS w vT S.things) (h2 : Rd tgS w vG S.tags) (h3 : Rd sesS w vS S.sessions) (hB : Bnd S) (hs : SmallO o) (hi : 0 ≤ i ∧ i ≤ 100) : Calls Tryz.prog 15 #[.agg #[vT, vG, vS, I S.next], .agg (encOp o).toArray, I i] w (Ret fun v w' => Below w.heap.size w w' ∧ ∃ o', SmallO o' ∧ v = .agg (encOp o').toArray) := by
 obtain ⟨c, hO, hc⟩ := OldC.start w
 have q1 := h1.oneC; have q2 := h2.oneC; have q3 := h3.oneC
 obtain ⟨z1, z2, z3, z4, z5, z6, z7⟩ := hB
 obtain ⟨⟨y1, y2, y3, y4⟩, y5, y6, y7⟩ := id hs
 replace h1 : RdC thgS c w [0] vT S.things := Rd.toC h1 (fun k hk => by simp [hc, hasC])
 replace h2 : RdC tgS c w [0] vG S.tags := Rd.toC h2 (fun k hk => by simp [hc, hasC])
 replace h3 : RdC sesS c w [0] vS S.sessions := Rd.toC h3 (fun k hk => by simp [hc, hasC])
 clear hc
 refine enter (n := 117) (res := #[.cell 6 33]) Tryz.func15 rfl rfl rfl rfl <| cseq <| cg <| ve (Eff.boxC c 103 rfl) ?_
 rintro _ w1 ⟨b3, c1, rfl, hM1, hb3⟩
 replace hO := hO.mv hM1; replace h1 := h1.mv hM1; replace h2 := h2.mv hM1; replace h3 := h3.mv hM1
 refine ve (Eff.boxC c1 104 rfl) ?_
 rintro _ w2 ⟨b4, c2, rfl, hM2, hb4⟩
 replace hO := hO.mv hM2; replace h1 := h1.mv hM2; replace h2 := h2.mv hM2; replace h3 := h3.mv hM2; replace hb3 := hb3.mv hM2
 refine ve (Eff.allocC c2 106 zero33) ?_
 rintro _ w3 ⟨b6, c3, rfl, hM3, hb6⟩
 replace hO := hO.mv hM3; replace h1 := h1.mv hM3; replace h2 := h2.mv hM3; replace h3 := h3.mv hM3; replace hb3 := hb3.mv hM3; replace hb4 := hb4.mv hM3
 refine cnil <| cseq <| cseq <| cg <| vq (Val.fieldAddr fld26_0 rfl) <| vq (Val.loadB scl22 rfl hb3.blk rfl) <| vq (Val.rdlenC sl22 h1 rfl) <| vq (Val.gtr rfl rfl) <| zm rfl ?_
 apply WR.sc true 3 _ (fun w' => w3 = w')
 case hl | hg | hu | hv | hs | hoff | hd => rfl
 case hF => exact fun _ => rfl
 case hT =>
  intro hq8
  try simp only [tstS] at hq8
  simp only [List.take_succ_cons, List.take_zero]
  refine WR.on rfl rfl <| zm rfl <| WR.on rfl rfl <| vq (Val.and_i64 rfl rfl) <| WR.on rfl rfl <| vq (Val.eql rfl rfl) ?_
  exact WR.nil ⟨rfl, Sub.drop _ 3 _ rfl rfl, rfl⟩
 rintro _ rfl
 refine zm rfl ?_
 apply WR.sc true 3 _ (fun w' => w3 = w')
 case hl | hg | hu | hv | hs | hoff | hd => rfl
 case hF => exact fun _ => rfl
 case hT =>
  intro hq13
  try simp only [tstS] at hq13
  simp only [List.take_succ_cons, List.take_zero]
  refine WR.on rfl rfl <| vq (Val.fieldAddr fld33_0 rfl) <| WR.on rfl rfl <| vq (Val.loadB scl3 rfl hb4.blk rfl) <| WR.on rfl rfl <| vq (Val.neq rfl rfl) ?_
  exact WR.nil ⟨rfl, Sub.drop _ 3 _ rfl rfl, rfl⟩
 rintro _ rfl
 refine cnil <| WC.mono (N := (fun e w' => ∃ (c' : Nat → Nat) (o' : MOp), Sub [(4000000, .tuple #[]), (2, I i), (3, .pointer (some ⟨b3, 0, none⟩)), (4, .pointer (some ⟨b4, 0, none⟩)), (6, .pointer (some ⟨b6, 0, none⟩))] e ∧ OldC w c' w' ∧ RdC thgS c' w' [0] vT S.things ∧ RdC tgS c' w' [0] vG S.tags ∧ RdC sesS c' w' [0] vS S.sessions ∧ BlkC c' w' 103 b3 [vT, vG, vS, I S.next] 26 ∧ BlkC c' w' 104 b4 (encOp o') 33 ∧ BlkC c' w' 106 b6 [I 0, I 0, I 0, I 0, St [], St [], St []] 33 ∧ SmallO o')) ?_ ?_
 ·refine WC.cond rfl (fun hc1 => ?_) (fun hc1 => ?_)
  ·try simp only [tstS] at hc1
   have k0 : 0 < S.things.length := by
     omega
   obtain ⟨x, hx⟩ : ∃ x, x = within (IntKind.i64.wrap (o.n + i)) S.things.length := ⟨_, rfl⟩
   have x1 := within_lo (IntKind.i64.wrap (o.n + i)) S.things.length (by omega)
   have x2 := within_hi (IntKind.i64.wrap (o.n + i)) S.things.length (by omega)
   rw [← hx] at x1 x2
   have ka : x.toNat < S.things.length := by omega
   obtain ⟨hc32, _⟩ := RdC.elFlat h1 ka (by decide)
   have zz := z1 _ (List.getElem_mem ka)
   refine WC.regionD (Kp c3 w3 []) [0, 1, 0, 1, 0, 0, 0, 1, 0, 2, 0, 0, 1, 0, 3] [0, 1, 2, 3, 4, 5, 6, 7, 8, 9, 10, 11, 12, 13, 14] mixed (by kernel_rfl) ?_
   have hM4 := Mv.drew c3 w3 []
   have hCw := Mv.drew c3 w3 []
   generalize w3.drew = w4 at hM4 hCw ⊢
   have hb30 := hb3
   have hb40 := hb4
   have hb60 := hb6
   have hc320 := hc32
   replace hO := hO.mv hM4; replace h1 := h1.mv hM4; replace h2 := h2.mv hM4; replace h3 := h3.mv hM4; replace hb3 := hb3.mv hM4; replace hb4 := hb4.mv hM4; replace hb6 := hb6.mv hM4
   refine vd rfl (fun _ => Val.fieldAddr fld26_0 rfl) <| vc rfl hCw.kp (fun W hW => Val.loadB scl22 rfl (hb30.kp hW rfl).blk rfl) <| vd rfl (fun _ => Val.fieldAddr fld33_2 rfl) <| vc rfl hCw.kp (fun W hW => Val.loadB scl3 rfl (hb40.kp hW rfl).blk rfl) <| zdm rfl rfl <| vd rfl (fun _ => Val.add rfl rfl) <| vd rfl (fun _ => Val.fieldAddr fld26_0 rfl) <| vc rfl hCw.kp (fun W hW => Val.loadB scl22 rfl (hb30.kp hW rfl).blk rfl) <| vd rfl (fun _ => Val.rdlenC sl22 h1 rfl) <| WD.eff rfl rfl rfl (Eff.pureC c3 1 (Eff.call pf32 rfl (lwithin_ok (IntKind.i64.wrap (o.n + i)) S.things.length (wrap_i64 _) (by omega) (by omega)))) rfl ?_
   rintro v31 w5 ⟨c5, hM5, hx5, rfl⟩
   refine ⟨fun hC => hC.step hCw hM5 rfl, ?_⟩
   replace hCw := hCw.tr hM5 rfl
   replace hO := hO.mv hM5; replace h1 := h1.mv hM5; replace h2 := h2.mv hM5; replace h3 := h3.mv hM5; replace hb3 := hb3.mv hM5; replace hb4 := hb4.mv hM5; replace hb6 := hb6.mv hM5
   rw [← hx]
   refine vd rfl (fun _ => Val.indexAddr sl22 h1.now rfl rfl rfl (by omega) (by omega)) <| vd rfl (fun _ => Val.fieldAddrP fld60_0 rfl) <| vc rfl hCw.kp (fun W hW => Val.loadEf scl9 rfl (hc320.kp hW rfl).cel rfl) <| vd rfl (fun _ => Val.fieldAddr fld33_5 rfl) ?_
   refine WD.wild rfl rfl rfl (Eff.storeC scl9 rfl rfl ra ra hb4 rfl) ?_
   rintro _ w6 ⟨hS, hM6⟩
   replace hO := hO.mv hM6; replace h1 := h1.mv hM6; replace h2 := h2.mv hM6; replace h3 := h3.mv hM6; replace hb3 := hb3.mv hM6; replace hb6 := hb6.mv hM6
   replace hb4 := hS
   refine WD.nil ?_
   clear hb30 hb40 hb60 hc320
   clear hCw
   exact ⟨_, ⟨o.kind, o.id, o.n, o.m, o.name, S.things[x.toNat].digest, o.text⟩, subs, hO, h1, h2, h3, hb3, hb4, hb6, ⟨⟨y1, y2, y3, y4⟩, y5, zz.1, y7⟩⟩
  try simp only [tstS] at hc1
  refine cskip ?_
  exact ⟨_, _, subs, hO, h1, h2, h3, hb3, hb4, hb6, hs⟩
 clear hO h1 h2 h3 hb3 hb4 hb6 hs
 rintro e8 w8 ⟨c8, o1, hsub, hO, h1, h2, h3, hb3, hb4, hb6, hs⟩
 refine WC.sub hsub ?_
 clear hsub e8
 obtain ⟨⟨y1, y2, y3, y4⟩, y5, y6, y7⟩ := id hs
 refine cseq <| cseq <| cg <| vq (Val.fieldAddr fld26_2 rfl) <| vq (Val.loadB scl24 rfl hb3.blk rfl) <| vq (Val.rdlenC sl24 h3 rfl) <| vq (Val.gtr rfl rfl) <| zm rfl ?_
 apply WR.sc true 3 _ (fun w' => w8 = w')
 case hl | hg | hu | hv | hs | hoff | hd => rfl
 case hF => exact fun _ => rfl
 case hT =>
  intro hq8
  try simp only [tstS] at hq8
  simp only [List.take_succ_cons, List.take_zero]
  refine WR.on rfl rfl <| zm rfl <| WR.on rfl rfl <| vq (Val.rem rfl rfl (by omega)) ?_
  refine WR.on rfl rfl <| vq (Val.gtr rfl rfl) ?_
  exact WR.nil ⟨rfl, Sub.drop _ 3 _ rfl rfl, rfl⟩
 rintro _ rfl
 refine cnil <| WC.mono (N := (fun e w' => ∃ (c' : Nat → Nat) (o' : MOp), Sub [(4000000, .tuple #[]), (2, I i), (3, .pointer (some ⟨b3, 0, none⟩)), (4, .pointer (some ⟨b4, 0, none⟩)), (6, .pointer (some ⟨b6, 0, none⟩))] e ∧ OldC w c' w' ∧ RdC thgS c' w' [0] vT S.things ∧ RdC tgS c' w' [0] vG S.tags ∧ RdC sesS c' w' [0] vS S.sessions ∧ BlkC c' w' 103 b3 [vT, vG, vS, I S.next] 26 ∧ BlkC c' w' 104 b4 (encOp o') 33 ∧ BlkC c' w' 106 b6 [I 0, I 0, I 0, I 0, St [], St [], St []] 33 ∧ SmallO o')) ?_ ?_
 ·refine WC.cond rfl (fun hc3 => ?_) (fun hc3 => ?_)
  ·try simp only [tstS] at hc3
   have k0 : 0 < S.sessions.length := by
     omega
   obtain ⟨x, hx⟩ : ∃ x, x = within o1.id S.sessions.length := ⟨_, rfl⟩
   have x1 := within_lo o1.id S.sessions.length (by omega)
   have x2 := within_hi o1.id S.sessions.length (by omega)
   rw [← hx] at x1 x2
   have ka : x.toNat < S.sessions.length := by omega
   obtain ⟨hc54, _⟩ := RdC.elFlat h3 ka (by decide)
   have hc70 := hc54.at_ (i := 1) rfl
   have zz := z3 _ (List.getElem_mem ka)
   refine cseq <| cg <| vq (Val.fieldAddr fld33_1 rfl) <| vq (Val.loadB scl3 rfl hb4.blk rfl) <| vq (Val.fieldAddr fld26_2 rfl) <| vq (Val.loadB scl24 rfl hb3.blk rfl) <| vq (Val.rdlenC sl24 h3 rfl) <| ve (Eff.pureC c8 1 (Eff.call pf32 rfl (lwithin_ok o1.id S.sessions.length y2 (by omega) (by omega)))) ?_
   rintro v50 w7 ⟨c7, hM7, hx7, rfl⟩
   replace hO := hO.mv hM7; replace h1 := h1.mv hM7; replace h2 := h2.mv hM7; replace h3 := h3.mv hM7; replace hb3 := hb3.mv hM7; replace hb4 := hb4.mv hM7; replace hb6 := hb6.mv hM7; replace hc54 := hc54.mv hM7; replace hc70 := hc70.mv hM7
   rw [← hx]
   refine za rfl <| cnil <| cseq <| cg <| vq (Val.fieldAddr fld26_2 rfl) <| vq (Val.loadB scl24 rfl hb3.blk rfl) <| zm rfl <| vq (Val.indexAddr sl24 h3.now rfl rfl rfl (by omega) (by omega)) <| vq (Val.fieldAddrP fld63_0 rfl) ?_
   refine vq (Val.loadEf scl3 rfl hc54.cel rfl) <| vq (Val.fieldAddr fld33_1 rfl) <| WR.eff_ (Eff.storeC scl3 rfl rfl ra ra hb4 rfl) ?_
   rintro _ w8 ⟨hS, hM8⟩
   replace hO := hO.mv hM8; replace h1 := h1.mv hM8; replace h2 := h2.mv hM8; replace h3 := h3.mv hM8; replace hb3 := hb3.mv hM8; replace hb6 := hb6.mv hM8; replace hc70 := hc70.mv hM8
   replace hb4 := hS
   refine cnil <| cseq <| cg <| vq (Val.fieldAddr fld33_0 rfl) <| vq (Val.loadB scl3 rfl hb4.blk rfl) <| vq (Val.eql rfl rfl) <| zm rfl ?_
   apply WR.sc true 3 _ (fun w' => w8 = w')
   case hl | hg | hu | hv | hs | hoff | hd => rfl
   case hF => exact fun _ => rfl
   case hT =>
    intro hq7
    try simp only [tstS] at hq7
    simp only [List.take_succ_cons, List.take_zero]
    refine WR.on rfl rfl <| zm rfl <| WR.on rfl rfl <| vq (Val.rem rfl rfl (by omega)) ?_
    refine WR.on rfl rfl <| vq (Val.gtr rfl rfl) ?_
    exact WR.nil ⟨rfl, Sub.drop _ 3 _ rfl rfl, rfl⟩
   rintro _ rfl
   refine cnil <| WC.mono (N := (fun e w' => ∃ (c' : Nat → Nat) (o' : MOp), Sub [(4000000, .tuple #[]), (2, I i), (3, .pointer (some ⟨b3, 0, none⟩)), (4, .pointer (some ⟨b4, 0, none⟩)), (6, .pointer (some ⟨b6, 0, none⟩))] e ∧ OldC w c' w' ∧ RdC thgS c' w' [0] vT S.things ∧ RdC tgS c' w' [0] vG S.tags ∧ RdC sesS c' w' [0] vS S.sessions ∧ BlkC c' w' 103 b3 [vT, vG, vS, I S.next] 26 ∧ BlkC c' w' 104 b4 (encOp o') 33 ∧ BlkC c' w' 106 b6 [I 0, I 0, I 0, I 0, St [], St [], St []] 33 ∧ SmallO o')) ?_ ?_
   ·refine WC.cond rfl (fun hc6 => ?_) (fun hc6 => ?_)
    ·try simp only [tstS] at hc6
     refine cg <| vq (Val.fieldAddr fld26_2 rfl) <| vq (Val.loadB scl24 rfl hb3.blk rfl) <| zm rfl <| vq (Val.indexAddr sl24 h3.now rfl rfl rfl (by omega) (by omega)) ?_
     first | refine vq (Val.fieldAddr fld63_1 rfl) ?_ | refine vq (Val.fieldAddrP fld63_1 rfl) ?_
     refine vq (Val.loadE1 scl9 rfl hc70.cel) <| ve (Eff.pureC c7 1 (Eff.call pf33 rfl (pdigest_ok S.sessions[x.toNat].text (by omega)))) ?_
     rintro v72 w9 ⟨c9, hM9, hx9, rfl⟩
     replace hO := hO.mv hM9; replace h1 := h1.mv hM9; replace h2 := h2.mv hM9; replace h3 := h3.mv hM9; replace hb3 := hb3.mv hM9; replace hb4 := hb4.mv hM9; replace hb6 := hb6.mv hM9
     refine vq (Val.fieldAddr fld33_5 rfl) <| WR.eff_ (Eff.storeC scl9 rfl rfl ra ra hb4 rfl) ?_
     rintro _ w10 ⟨hS, hM10⟩
     replace hO := hO.mv hM10; replace h1 := h1.mv hM10; replace h2 := h2.mv hM10; replace h3 := h3.mv hM10; replace hb3 := hb3.mv hM10; replace hb6 := hb6.mv hM10
     replace hb4 := hS
     refine cnil ?_
     have hdl := digestS_length S.sessions[x.toNat].text
     exact ⟨_, ⟨o1.kind, S.sessions[x.toNat].id, o1.n, o1.m, o1.name, digestS S.sessions[x.toNat].text, o1.text⟩, subs, hO, h1, h2, h3, hb3, hb4, hb6, ⟨⟨y1, zz.1, y3, y4⟩, y5, by dsimp only; omega, y7⟩⟩
    try simp only [tstS] at hc6
    refine cskip ?_
    exact ⟨_, ⟨o1.kind, S.sessions[x.toNat].id, o1.n, o1.m, o1.name, o1.digest, o1.text⟩, subs, hO, h1, h2, h3, hb3, hb4, hb6, ⟨⟨y1, zz.1, y3, y4⟩, y5, y6, y7⟩⟩
   clear hO h1 h2 h3 hb3 hb4 hb6 hs
   rintro e8 w8 ⟨c8, o2, hsub, hO, h1, h2, h3, hb3, hb4, hb6, hs⟩
   exact ⟨_, _, hsub, hO, h1, h2, h3, hb3, hb4, hb6, hs⟩
  try simp only [tstS] at hc3
  refine cskip ?_
  exact ⟨_, _, subs, hO, h1, h2, h3, hb3, hb4, hb6, hs⟩
 clear hO h1 h2 h3 hb3 hb4 hb6 hs
 rintro e8 w8 ⟨c8, o3, hsub, hO, h1, h2, h3, hb3, hb4, hb6, hs⟩
 refine WC.sub hsub ?_
 clear hsub e8
 obtain ⟨⟨y1, y2, y3, y4⟩, y5, y6, y7⟩ := id hs
 refine cseq <| cseq <| cg <| vq (Val.fieldAddr fld26_1 rfl) <| vq (Val.loadB scl23 rfl hb3.blk rfl) <| vq (Val.rdlenC sl23 h2 rfl) <| vq (Val.gtr rfl rfl) <| zm rfl ?_
 apply WR.sc true 3 _ (fun w' => w8 = w')
 case hl | hg | hu | hv | hs | hoff | hd => rfl
 case hF => exact fun _ => rfl
 case hT =>
  intro hq8
  try simp only [tstS] at hq8
  simp only [List.take_succ_cons, List.take_zero]
  refine WR.on rfl rfl <| zm rfl <| WR.on rfl rfl <| vq (Val.rem rfl rfl (by omega)) ?_
  refine WR.on rfl rfl <| vq (Val.gtr rfl rfl) ?_
  exact WR.nil ⟨rfl, Sub.drop _ 3 _ rfl rfl, rfl⟩
 rintro _ rfl
 refine zm rfl ?_
 apply WR.sc true 3 _ (fun w' => w8 = w')
 case hl | hg | hu | hv | hs | hoff | hd => rfl
 case hF => exact fun _ => rfl
 case hT =>
  intro hq13
  try simp only [tstS] at hq13
  simp only [List.take_succ_cons, List.take_zero]
  refine WR.on rfl rfl <| vq (Val.fieldAddr fld33_0 rfl) <| WR.on rfl rfl <| vq (Val.loadB scl3 rfl hb4.blk rfl) <| WR.on rfl rfl <| vq (Val.neq rfl rfl) ?_
  exact WR.nil ⟨rfl, Sub.drop _ 3 _ rfl rfl, rfl⟩
 rintro _ rfl
 refine cnil <| WC.mono (N := (fun e w' => ∃ (c' : Nat → Nat) (o' : MOp), Sub [(4000000, .tuple #[]), (2, I i), (3, .pointer (some ⟨b3, 0, none⟩)), (4, .pointer (some ⟨b4, 0, none⟩)), (6, .pointer (some ⟨b6, 0, none⟩))] e ∧ OldC w c' w' ∧ RdC thgS c' w' [0] vT S.things ∧ RdC tgS c' w' [0] vG S.tags ∧ RdC sesS c' w' [0] vS S.sessions ∧ BlkC c' w' 103 b3 [vT, vG, vS, I S.next] 26 ∧ BlkC c' w' 104 b4 (encOp o') 33 ∧ BlkC c' w' 106 b6 [I 0, I 0, I 0, I 0, St [], St [], St []] 33 ∧ SmallO o')) ?_ ?_
 ·refine WC.cond rfl (fun hc8 => ?_) (fun hc8 => ?_)
  ·try simp only [tstS] at hc8
   have k0 : 0 < S.tags.length := by
     omega
   obtain ⟨x, hx⟩ : ∃ x, x = within o3.n S.tags.length := ⟨_, rfl⟩
   have x1 := within_lo o3.n S.tags.length (by omega)
   have x2 := within_hi o3.n S.tags.length (by omega)
   rw [← hx] at x1 x2
   have ka : x.toNat < S.tags.length := by omega
   obtain ⟨hc96, _⟩ := RdC.elFlat h2 ka (by decide)
   have zz := z2 _ (List.getElem_mem ka)
   refine WC.regionD (Kp c8 w8 []) [0, 1, 0, 1, 0, 1, 0, 2, 0, 0, 1, 0, 3] [0, 1, 2, 3, 4, 5, 6, 7, 8, 9, 10, 11, 12] mixed (by kernel_rfl) ?_
   have hM11 := Mv.drew c8 w8 []
   have hCw := Mv.drew c8 w8 []
   generalize w8.drew = w11 at hM11 hCw ⊢
   have hb30 := hb3
   have hb40 := hb4
   have hb60 := hb6
   have hc960 := hc96
   replace hO := hO.mv hM11; replace h1 := h1.mv hM11; replace h2 := h2.mv hM11; replace h3 := h3.mv hM11; replace hb3 := hb3.mv hM11; replace hb4 := hb4.mv hM11; replace hb6 := hb6.mv hM11
   refine vd rfl (fun _ => Val.fieldAddr fld26_1 rfl) <| vc rfl hCw.kp (fun W hW => Val.loadB scl23 rfl (hb30.kp hW rfl).blk rfl) <| vd rfl (fun _ => Val.fieldAddr fld33_2 rfl) <| vc rfl hCw.kp (fun W hW => Val.loadB scl3 rfl (hb40.kp hW rfl).blk rfl) <| vd rfl (fun _ => Val.fieldAddr fld26_1 rfl) <| vc rfl hCw.kp (fun W hW => Val.loadB scl23 rfl (hb30.kp hW rfl).blk rfl) <| vd rfl (fun _ => Val.rdlenC sl23 h2 rfl) <| WD.eff rfl rfl rfl (Eff.pureC c8 1 (Eff.call pf32 rfl (lwithin_ok o3.n S.tags.length y3 (by omega) (by omega)))) rfl ?_
   rintro v95 w12 ⟨c12, hM12, hx12, rfl⟩
   refine ⟨fun hC => hC.step hCw hM12 rfl, ?_⟩
   replace hCw := hCw.tr hM12 rfl
   replace hO := hO.mv hM12; replace h1 := h1.mv hM12; replace h2 := h2.mv hM12; replace h3 := h3.mv hM12; replace hb3 := hb3.mv hM12; replace hb4 := hb4.mv hM12; replace hb6 := hb6.mv hM12
   rw [← hx]
   refine vd rfl (fun _ => Val.indexAddr sl23 h2.now rfl rfl rfl (by omega) (by omega)) <| vd rfl (fun _ => Val.fieldAddrP fld66_0 rfl) <| vc rfl hCw.kp (fun W hW => Val.loadEf scl9 rfl (hc960.kp hW rfl).cel rfl) <| vd rfl (fun _ => Val.fieldAddr fld33_4 rfl) ?_
   refine WD.wild rfl rfl rfl (Eff.storeC scl9 rfl rfl ra ra hb4 rfl) ?_
   rintro _ w13 ⟨hS, hM13⟩
   replace hO := hO.mv hM13; replace h1 := h1.mv hM13; replace h2 := h2.mv hM13; replace h3 := h3.mv hM13; replace hb3 := hb3.mv hM13; replace hb6 := hb6.mv hM13
   replace hb4 := hS
   refine WD.nil ?_
   clear hb30 hb40 hb60 hc960
   clear hCw
   exact ⟨_, ⟨o3.kind, o3.id, o3.n, o3.m, S.tags[x.toNat].name, o3.digest, o3.text⟩, subs, hO, h1, h2, h3, hb3, hb4, hb6, ⟨⟨y1, y2, y3, y4⟩, zz.1, y6, y7⟩⟩
  try simp only [tstS] at hc8
  refine cskip ?_
  exact ⟨_, _, subs, hO, h1, h2, h3, hb3, hb4, hb6, hs⟩
 clear hO h1 h2 h3 hb3 hb4 hb6 hs
 rintro e8 w8 ⟨c8, o4, hsub, hO, h1, h2, h3, hb3, hb4, hb6, hs⟩
 refine WC.sub hsub ?_
 clear hsub e8
 obtain ⟨⟨y1, y2, y3, y4⟩, y5, y6, y7⟩ := id hs
 refine cseq <| cseq <| cg <| vq (Val.fieldAddr fld33_0 rfl) <| vq (Val.loadB scl3 rfl hb4.blk rfl) <| vq (Val.eql rfl rfl) <| zm rfl ?_
 apply WR.sc true 3 _ (fun w' => w8 = w')
 case hl | hg | hu | hv | hs | hoff | hd => rfl
 case hF => exact fun _ => rfl
 case hT =>
  intro hq7
  try simp only [tstS] at hq7
  simp only [List.take_succ_cons, List.take_zero]
  refine WR.on rfl rfl <| zm rfl <| WR.on rfl rfl <| vq (Val.rem rfl rfl (by omega)) ?_
  refine WR.on rfl rfl <| vq (Val.eql rfl rfl) ?_
  exact WR.nil ⟨rfl, Sub.drop _ 3 _ rfl rfl, rfl⟩
 rintro _ rfl
 refine cnil <| WC.mono (N := (fun e w' => ∃ (c' : Nat → Nat) (o' : MOp), Sub [(4000000, .tuple #[]), (2, I i), (3, .pointer (some ⟨b3, 0, none⟩)), (4, .pointer (some ⟨b4, 0, none⟩)), (6, .pointer (some ⟨b6, 0, none⟩))] e ∧ OldC w c' w' ∧ RdC thgS c' w' [0] vT S.things ∧ RdC tgS c' w' [0] vG S.tags ∧ RdC sesS c' w' [0] vS S.sessions ∧ BlkC c' w' 103 b3 [vT, vG, vS, I S.next] 26 ∧ BlkC c' w' 104 b4 (encOp o') 33 ∧ BlkC c' w' 106 b6 [I 0, I 0, I 0, I 0, St [], St [], St []] 33 ∧ SmallO o')) ?_ ?_
 ·refine WC.cond rfl (fun hc10 => ?_) (fun hc10 => ?_)
  ·try simp only [tstS] at hc10
   have x1 := within_lo o4.n 40 (by omega)
   have x2 := within_hi o4.n 40 (by omega)
   have x3 := within_lo o4.m 50 (by omega)
   have x4 := within_hi o4.m 50 (by omega)
   refine WC.mono (N := (fun e w' => ∃ (c' : Nat → Nat) (o' : MOp), Sub [(4000000, .tuple #[]), (2, I i), (3, .pointer (some ⟨b3, 0, none⟩)), (4, .pointer (some ⟨b4, 0, none⟩)), (6, .pointer (some ⟨b6, 0, none⟩))] e ∧ OldC w c' w' ∧ RdC thgS c' w' [0] vT S.things ∧ RdC tgS c' w' [0] vG S.tags ∧ RdC sesS c' w' [0] vS S.sessions ∧ BlkC c' w' 103 b3 [vT, vG, vS, I S.next] 26 ∧ BlkC c' w' 104 b4 (encOp o') 33 ∧ BlkC c' w' 106 b6 [I 0, I 0, I 0, I 0, St [], St [], St []] 33 ∧ SmallO o')) ?_ ?_
   ·refine WC.regionT (Kp c8 w8 [104]) [0, 2, 2, 0, 2, 2, 0, 2, 0, 3] (.quiet 0 (.quiet 3 (.two 1 (.two 2 (.one 4 (.quiet 6 (.one 5 (.one 7 (.quiet 8 (.one 9 .nil)))))) 4 (.one 2 (.quiet 6 (.one 5 (.one 7 (.quiet 8 (.one 9 .nil))))))) 4 (.one 1 (.one 2 (.quiet 6 (.one 5 (.one 7 (.quiet 8 (.one 9 .nil)))))))))) mixed (by kernel_rfl) ?_
    have hM14 := Mv.drew c8 w8 []
    have hCw := Mv.drew c8 w8 [104]
    generalize w8.drew = w14 at hM14 hCw ⊢
    have hb30 := hb3
    have hb40 := hb4
    have hb60 := hb6
    replace hO := hO.mv hM14; replace h1 := h1.mv hM14; replace h2 := h2.mv hM14; replace h3 := h3.mv hM14; replace hb3 := hb3.mv hM14; replace hb4 := hb4.mv hM14; replace hb6 := hb6.mv hM14
    refine WT.val rfl rfl rfl (fun _ => Val.fieldAddr fld33_2 rfl) rfl <| WT.val rfl rfl rfl (fun _ => Val.fieldAddr fld33_3 rfl) rfl <| WT.two ?_ ?_
    ·refine WS.eff rfl rfl rfl (Eff.val (Val.loadB scl3 rfl hb4.blk rfl)) rfl ?_
     rintro _ _ ⟨rfl, rfl⟩
     refine ⟨id, ?_⟩
     refine WT.two ?_ ?_
     ·refine WS.eff rfl rfl rfl (Eff.pureC c8 1 (Eff.call pf32 rfl (lwithin_ok o4.n 40 y3 (by omega) (by omega)))) rfl ?_
      rintro v110 w15 ⟨c15, hM15, hx15, rfl⟩
      refine ⟨fun hC => hC.step hCw hM15 rfl, ?_⟩
      replace hCw := hCw.tr hM15 rfl
      replace hO := hO.mv hM15; replace h1 := h1.mv hM15; replace h2 := h2.mv hM15; replace h3 := h3.mv hM15; replace hb3 := hb3.mv hM15; replace hb4 := hb4.mv hM15; replace hb6 := hb6.mv hM15
      refine WT.one <| WS.eff rfl rfl rfl (Eff.val (Val.loadB scl3 rfl hb4.blk rfl)) rfl ?_
      rintro _ _ ⟨rfl, rfl⟩
      refine ⟨id, ?_⟩
      refine WT.val rfl rfl rfl (fun _ => Val.fieldAddr fld33_2 rfl) rfl <| WT.one <| WS.eff rfl rfl rfl (Eff.pureC c15 1 (Eff.call pf32 rfl (lwithin_ok o4.m 50 y4 (by omega) (by omega)))) rfl ?_
      rintro v113 w16 ⟨c16, hM16, hx16, rfl⟩
      refine ⟨fun hC => hC.step hCw hM16 rfl, ?_⟩
      replace hCw := hCw.tr hM16 rfl
      replace hO := hO.mv hM16; replace h1 := h1.mv hM16; replace h2 := h2.mv hM16; replace h3 := h3.mv hM16; replace hb3 := hb3.mv hM16; replace hb4 := hb4.mv hM16; replace hb6 := hb6.mv hM16
      refine WT.one <| WS.eff_ rfl rfl rfl (Eff.storeC scl3 rfl rfl ra ra hb4 rfl) ?_
      rintro _ w17 ⟨hS, hM17⟩
      refine ⟨fun hC => hC.step hCw hM17 rfl, ?_⟩
      replace hCw := hCw.tr hM17 rfl
      replace hO := hO.mv hM17; replace h1 := h1.mv hM17; replace h2 := h2.mv hM17; replace h3 := h3.mv hM17; replace hb3 := hb3.mv hM17; replace hb6 := hb6.mv hM17
      replace hb4 := hS
      refine WT.val rfl rfl rfl (fun _ => Val.fieldAddr fld33_3 rfl) rfl <| WT.one <| WS.wild rfl rfl rfl (Eff.storeC scl3 rfl rfl ra ra hb4 rfl) ?_
      rintro _ w18 ⟨hS, hM18⟩
      try replace hCw := hCw.tr hM18 rfl
      replace hO := hO.mv hM18; replace h1 := h1.mv hM18; replace h2 := h2.mv hM18; replace h3 := h3.mv hM18; replace hb3 := hb3.mv hM18; replace hb6 := hb6.mv hM18
      replace hb4 := hS
      refine WT.nil ?_
      exact ⟨_, ⟨o4.kind, o4.id, within o4.n 40, within o4.m 50, o4.name, o4.digest, o4.text⟩, subs, hO, h1, h2, h3, hb3, hb4, hb6, ⟨⟨y1, y2, ⟨by dsimp only; omega, by dsimp only; omega⟩, ⟨by dsimp only; omega, by dsimp only; omega⟩⟩, y5, y6, y7⟩⟩
     refine WS.eff rfl rfl rfl (Eff.val (Val.loadB scl3 rfl hb4.blk rfl)) rfl ?_
     rintro _ _ ⟨rfl, rfl⟩
     refine ⟨id, ?_⟩
     refine WT.one <| WS.eff rfl rfl rfl (Eff.pureC c8 1 (Eff.call pf32 rfl (lwithin_ok o4.n 40 y3 (by omega) (by omega)))) rfl ?_
     rintro v110 w19 ⟨c19, hM19, hx19, rfl⟩
     refine ⟨fun hC => hC.step hCw hM19 rfl, ?_⟩
     replace hCw := hCw.tr hM19 rfl
     replace hO := hO.mv hM19; replace h1 := h1.mv hM19; replace h2 := h2.mv hM19; replace h3 := h3.mv hM19; replace hb3 := hb3.mv hM19; replace hb4 := hb4.mv hM19; replace hb6 := hb6.mv hM19
     refine WT.val rfl rfl rfl (fun _ => Val.fieldAddr fld33_2 rfl) rfl <| WT.one <| WS.eff rfl rfl rfl (Eff.pureC c19 1 (Eff.call pf32 rfl (lwithin_ok o4.m 50 y4 (by omega) (by omega)))) rfl ?_
     rintro v113 w20 ⟨c20, hM20, hx20, rfl⟩
     refine ⟨fun hC => hC.step hCw hM20 rfl, ?_⟩
     replace hCw := hCw.tr hM20 rfl
     replace hO := hO.mv hM20; replace h1 := h1.mv hM20; replace h2 := h2.mv hM20; replace h3 := h3.mv hM20; replace hb3 := hb3.mv hM20; replace hb4 := hb4.mv hM20; replace hb6 := hb6.mv hM20
     refine WT.one <| WS.eff_ rfl rfl rfl (Eff.storeC scl3 rfl rfl ra ra hb4 rfl) ?_
     rintro _ w21 ⟨hS, hM21⟩
     refine ⟨fun hC => hC.step hCw hM21 rfl, ?_⟩
     replace hCw := hCw.tr hM21 rfl
     replace hO := hO.mv hM21; replace h1 := h1.mv hM21; replace h2 := h2.mv hM21; replace h3 := h3.mv hM21; replace hb3 := hb3.mv hM21; replace hb6 := hb6.mv hM21
     replace hb4 := hS
     refine WT.val rfl rfl rfl (fun _ => Val.fieldAddr fld33_3 rfl) rfl <| WT.one <| WS.wild rfl rfl rfl (Eff.storeC scl3 rfl rfl ra ra hb4 rfl) ?_
     rintro _ w22 ⟨hS, hM22⟩
     try replace hCw := hCw.tr hM22 rfl
     replace hO := hO.mv hM22; replace h1 := h1.mv hM22; replace h2 := h2.mv hM22; replace h3 := h3.mv hM22; replace hb3 := hb3.mv hM22; replace hb6 := hb6.mv hM22
     replace hb4 := hS
     refine WT.nil ?_
     exact ⟨_, ⟨o4.kind, o4.id, within o4.n 40, within o4.m 50, o4.name, o4.digest, o4.text⟩, subs, hO, h1, h2, h3, hb3, hb4, hb6, ⟨⟨y1, y2, ⟨by dsimp only; omega, by dsimp only; omega⟩, ⟨by dsimp only; omega, by dsimp only; omega⟩⟩, y5, y6, y7⟩⟩
    refine WS.eff rfl rfl rfl (Eff.val (Val.loadB scl3 rfl hb4.blk rfl)) rfl ?_
    rintro _ _ ⟨rfl, rfl⟩
    refine ⟨id, ?_⟩
    refine WT.one <| WS.eff rfl rfl rfl (Eff.val (Val.loadB scl3 rfl hb4.blk rfl)) rfl ?_
    rintro _ _ ⟨rfl, rfl⟩
    refine ⟨id, ?_⟩
    refine WT.one <| WS.eff rfl rfl rfl (Eff.pureC c8 1 (Eff.call pf32 rfl (lwithin_ok o4.n 40 y3 (by omega) (by omega)))) rfl ?_
    rintro v110 w23 ⟨c23, hM23, hx23, rfl⟩
    refine ⟨fun hC => hC.step hCw hM23 rfl, ?_⟩
    replace hCw := hCw.tr hM23 rfl
    replace hO := hO.mv hM23; replace h1 := h1.mv hM23; replace h2 := h2.mv hM23; replace h3 := h3.mv hM23; replace hb3 := hb3.mv hM23; replace hb4 := hb4.mv hM23; replace hb6 := hb6.mv hM23
    refine WT.val rfl rfl rfl (fun _ => Val.fieldAddr fld33_2 rfl) rfl <| WT.one <| WS.eff rfl rfl rfl (Eff.pureC c23 1 (Eff.call pf32 rfl (lwithin_ok o4.m 50 y4 (by omega) (by omega)))) rfl ?_
    rintro v113 w24 ⟨c24, hM24, hx24, rfl⟩
    refine ⟨fun hC => hC.step hCw hM24 rfl, ?_⟩
    replace hCw := hCw.tr hM24 rfl
    replace hO := hO.mv hM24; replace h1 := h1.mv hM24; replace h2 := h2.mv hM24; replace h3 := h3.mv hM24; replace hb3 := hb3.mv hM24; replace hb4 := hb4.mv hM24; replace hb6 := hb6.mv hM24
    refine WT.one <| WS.eff_ rfl rfl rfl (Eff.storeC scl3 rfl rfl ra ra hb4 rfl) ?_
    rintro _ w25 ⟨hS, hM25⟩
    refine ⟨fun hC => hC.step hCw hM25 rfl, ?_⟩
    replace hCw := hCw.tr hM25 rfl
    replace hO := hO.mv hM25; replace h1 := h1.mv hM25; replace h2 := h2.mv hM25; replace h3 := h3.mv hM25; replace hb3 := hb3.mv hM25; replace hb6 := hb6.mv hM25
    replace hb4 := hS
    refine WT.val rfl rfl rfl (fun _ => Val.fieldAddr fld33_3 rfl) rfl <| WT.one <| WS.wild rfl rfl rfl (Eff.storeC scl3 rfl rfl ra ra hb4 rfl) ?_
    rintro _ w26 ⟨hS, hM26⟩
    try replace hCw := hCw.tr hM26 rfl
    replace hO := hO.mv hM26; replace h1 := h1.mv hM26; replace h2 := h2.mv hM26; replace h3 := h3.mv hM26; replace hb3 := hb3.mv hM26; replace hb6 := hb6.mv hM26
    replace hb4 := hS
    refine WT.nil ?_
    exact ⟨_, ⟨o4.kind, o4.id, within o4.n 40, within o4.m 50, o4.name, o4.digest, o4.text⟩, subs, hO, h1, h2, h3, hb3, hb4, hb6, ⟨⟨y1, y2, ⟨by dsimp only; omega, by dsimp only; omega⟩, ⟨by dsimp only; omega, by dsimp only; omega⟩⟩, y5, y6, y7⟩⟩
   clear hO h1 h2 h3 hb3 hb4 hb6 hs
   rintro e8 w8 ⟨c8, o5, hsub, hO, h1, h2, h3, hb3, hb4, hb6, hs⟩
   exact ⟨_, _, hsub, hO, h1, h2, h3, hb3, hb4, hb6, hs⟩
  try simp only [tstS] at hc10
  refine cskip ?_
  exact ⟨_, _, subs, hO, h1, h2, h3, hb3, hb4, hb6, hs⟩
 clear hO h1 h2 h3 hb3 hb4 hb6 hs
 rintro e8 w8 ⟨c8, o5, hsub, hO, h1, h2, h3, hb3, hb4, hb6, hs⟩
 refine WC.sub hsub ?_
 clear hsub e8
 obtain ⟨⟨y1, y2, y3, y4⟩, y5, y6, y7⟩ := id hs
 refine cseq <| cg <| vq (Val.loadBN agg33 rfl hb4.blk rfl) <| WR.eff_ (Eff.storeNC agg33 rfl rfl hb6 rfl rfl ones) ?_
 rintro _ w27 ⟨hS, hM27⟩
 replace hO := hO.mv hM27
 replace hb6 := hS
 refine cnil <| WC.retR1 rfl (RVal.cellN agg33 rfl hb6.blk rfl) ?_
 exact ⟨hO.below, _, hs, rfl⟩
end Go.Proofs.YtdlpibhecdfbcabGreatDoor

namespace Silo
open Go Go.Eng
end Silo
namespace Go.Proofs.YtdlpibhecdfbcabGreatDoor
open Go Go.Eng Go.RowKit Silo TryzT
end Go.Proofs.YtdlpibhecdfbcabGreatDoor

namespace Silo
open Go Go.Eng
end Silo
namespace Go.Proofs.YtdlpibhecdfbcabGreatDoor
open Go Go.Eng Go.RowKit Silo TryzT
end Go.Proofs.YtdlpibhecdfbcabGreatDoor

namespace Silo
open Go Go.Eng
theorem eqe (b : Bool) : (!(decide ((if b = true then (0 : Int) else 1) = 0) == b)) = false := by cases b <;> decide
end Silo
namespace Go.Proofs.YtdlpibhecdfbcabGreatDoor
open Go Go.Eng Go.RowKit Silo TryzT
end Go.Proofs.YtdlpibhecdfbcabGreatDoor

namespace Silo
open Go Go.Eng
theorem Bnd.r1 {S : Sta} (h : Bnd S) : ∀ t ∈ S.things, t.digest.length ≤ 140737488355328 ∧ t.text.length ≤ 1048576 := fun t ht => by have := h.1 t ht; omega
theorem Bnd.r2 {S : Sta} (h : Bnd S) : ∀ t ∈ S.tags, t.name.length ≤ 140737488355328 ∧ t.digest.length ≤ 140737488355328 := fun t ht => by have := h.2.1 t ht; omega
theorem Bnd.r3 {S : Sta} (h : Bnd S) : ∀ t ∈ S.sessions, Go.Eng.Int64 t.id ∧ t.text.length ≤ 1048576 := h.2.2.1
theorem Bnd.l1 {S : Sta} (h : Bnd S) : S.things.length ≤ 1048576 := h.2.2.2.1
theorem Bnd.l2 {S : Sta} (h : Bnd S) : S.tags.length ≤ 1048576 := h.2.2.2.2.1
theorem Bnd.l3 {S : Sta} (h : Bnd S) : S.sessions.length ≤ 1048576 := h.2.2.2.2.2.1
theorem bnd0 : Bnd Sta0 := may_bnd (by decide)
theorem bnd_if {S : Sta} {o : MOp} : Bnd (if staMay S && opOk o then (doM S o).1 else Sta0) := by
  split
  · rename_i h
    rw [Bool.and_eq_true] at h
    exact Bnd.next h.1
  · exact bnd0
end Silo
namespace Go.Proofs.YtdlpibhecdfbcabGreatDoor
open Go Go.Eng Go.RowKit Silo TryzT
set_option maxHeartbeats 4000000 in
theorem step_ok {w : World} {vT vG vS : Value} {S : Sta} {o : MOp} (h1 : Rd thgS w vT S.things) (h2 : Rd tgS w vG S.tags) (h3 : Rd sesS w vS S.sessions) (hB : Bnd S) (hO : SmallO o) : Calls Tryz.prog 14 #[.agg #[vT, vG, vS, I S.next], .agg (encOp o).toArray] w (Ret fun v w' => Below w.heap.size w w' ∧ ∃ uT uG uS S', v = .tuple #[.agg #[uT, uG, uS, I S'.next], .bool true] ∧ Bnd S' ∧ ((uT = vT ∧ uG = vG ∧ uS = vS ∧ S' = S) ∨ (Own w' w.heap.size 60 3 uT S'.things.length (S'.things.flatMap encThg) ∧ Own w' w.heap.size 66 2 uG S'.tags.length (S'.tags.flatMap encTg) ∧ Own w' w.heap.size 63 2 uS S'.sessions.length (S'.sessions.flatMap encSes)))) := by
 obtain ⟨c, hOl, hc⟩ := OldC.start w
 have q1 := h1.oneC; have q2 := h2.oneC; have q3 := h3.oneC
 have htx : ∀ t ∈ S.things, t.text.length ≤ 1048576 := fun t ht => (hB.r1 t ht).2
 obtain ⟨bb, hbb⟩ : ∃ bb, bb = (staMay S && opOk o) := ⟨_, rfl⟩
 obtain ⟨S1, hS1⟩ : ∃ S1, S1 = (if staMay S && opOk o then (doM S o).1 else Sta0) := ⟨_, rfl⟩
 obtain ⟨r1, hr1⟩ : ∃ r1, r1 = (if staMay S && opOk o then (doM S o).2 else Rep0) := ⟨_, rfl⟩
 have hB1 : Bnd S1 := by rw [hS1]; exact bnd_if
 replace h1 : RdC thgS c w [0] vT S.things := Rd.toC h1 (fun k hk => by simp [hc, hasC])
 replace h2 : RdC tgS c w [0] vG S.tags := Rd.toC h2 (fun k hk => by simp [hc, hasC])
 replace h3 : RdC sesS c w [0] vS S.sessions := Rd.toC h3 (fun k hk => by simp [hc, hasC])
 clear hc
 refine enter (n := 78) (res := #[.cell 4 26, .tmp 5]) Tryz.func14 rfl rfl rfl rfl <| cseq <| cg <| ve (Eff.boxC c 102 rfl) ?_
 rintro _ w1 ⟨b2, c1, rfl, m, hb2⟩
 replace hOl := hOl.mv m; replace h1 := h1.mv m; replace h2 := h2.mv m; replace h3 := h3.mv m
 refine ve (Eff.boxC c1 103 rfl) ?_
 rintro _ w2 ⟨b3, c2, rfl, m, hb3⟩
 replace hOl := hOl.mv m; replace h1 := h1.mv m; replace h2 := h2.mv m; replace h3 := h3.mv m; replace hb2 := hb2.mv m
 refine ve (Eff.allocC c2 104 zero26) ?_
 rintro _ w3 ⟨b4, c3, rfl, m, hb4⟩
 replace hOl := hOl.mv m; replace h1 := h1.mv m; replace h2 := h2.mv m; replace h3 := h3.mv m; replace hb2 := hb2.mv m; replace hb3 := hb3.mv m
 refine za rfl <| cnil <| cseq <| cg <| vq (Val.loadBN agg26 rfl hb2.blk rfl) <| ve (Eff.call pf13 rfl (copyState_ok (c := c3) h1.now h2.now h3.now hB.l1 hB.l2 hB.l3)) ?_
 rintro v15 w4 ⟨c4, m, ⟨iT, iG, iS, rfl, kT, kG, kS⟩⟩
 replace hOl := hOl.mv m; replace h1 := h1.mv m; replace h2 := h2.mv m; replace h3 := h3.mv m; replace hb2 := hb2.mv m; replace hb3 := hb3.mv m; replace hb4 := hb4.mv m
 have p1 := kT.oneC; have p2 := kG.oneC; have p3 := kS.oneC
 refine ve (Eff.allocC c4 106 zero26) ?_
 rintro _ w5 ⟨b6, c5, rfl, m, hb6⟩
 replace hOl := hOl.mv m; replace h1 := h1.mv m; replace h2 := h2.mv m; replace h3 := h3.mv m; replace hb2 := hb2.mv m; replace hb3 := hb3.mv m; replace hb4 := hb4.mv m; replace kT := kT.mv m; replace kG := kG.mv m; replace kS := kS.mv m
 refine WR.eff_ (Eff.storeNC agg26 rfl rfl hb6 rfl rfl ones) ?_
 rintro _ w6 ⟨hS, m⟩
 replace hOl := hOl.mv m; replace h1 := h1.mv m; replace h2 := h2.mv m; replace h3 := h3.mv m; replace hb2 := hb2.mv m; replace hb3 := hb3.mv m; replace hb4 := hb4.mv m; replace kT := kT.mv m; replace kG := kG.mv m; replace kS := kS.mv m
 replace hb6 := hS
 refine cnil <| cseq <| cg <| vq (Val.loadBN agg26 rfl hb6.blk rfl) <| vq (Val.loadBN agg33 rfl hb3.blk rfl) <| ve (Eff.call pf27 rfl (mdoC_ok (c := c5) (kT.rdT hB.l1 hB.r1).now (kG.rdG hB.l2 hB.r2).now (kS.rdS hB.l3 hB.r3).now kT.plainV kG.plainV kS.plainV hO)) ?_
 rintro v19 w7 ⟨c7, m, ⟨uT, uG, uS, S', r, rfl, hS', hr, xT, xG, xS⟩⟩
 replace hOl := hOl.mv m; replace h1 := h1.mv m; replace h2 := h2.mv m; replace h3 := h3.mv m; replace hb2 := hb2.mv m; replace hb3 := hb3.mv m; replace hb4 := hb4.mv m; replace kT := kT.mv m; replace kG := kG.mv m; replace kS := kS.mv m; replace hb6 := hb6.mv m
 rw [← hS1] at hS'
 rw [← hr1] at hr
 subst hS'; subst hr
 rw [← hbb]
 have p4 := xT.oneC; have p5 := xG.oneC; have p6 := xS.oneC
 refine zm rfl <| vq (Val.extract rfl rfl) <| vq (Val.extract rfl rfl) <| vq (Val.extract rfl rfl) <| ve (Eff.allocC c7 107 zero26) ?_
 rintro _ w8 ⟨b7, c8, rfl, m, hb7⟩
 replace hOl := hOl.mv m; replace h1 := h1.mv m; replace h2 := h2.mv m; replace h3 := h3.mv m; replace hb2 := hb2.mv m; replace hb3 := hb3.mv m; replace hb4 := hb4.mv m; replace kT := kT.mv m; replace kG := kG.mv m; replace kS := kS.mv m; replace hb6 := hb6.mv m; replace xT := xT.mv m; replace xG := xG.mv m; replace xS := xS.mv m
 refine ve (Eff.allocC c8 108 zero51) ?_
 rintro _ w9 ⟨b8, c9, rfl, m, hb8⟩
 replace hOl := hOl.mv m; replace h1 := h1.mv m; replace h2 := h2.mv m; replace h3 := h3.mv m; replace hb2 := hb2.mv m; replace hb3 := hb3.mv m; replace hb4 := hb4.mv m; replace kT := kT.mv m; replace kG := kG.mv m; replace kS := kS.mv m; replace hb6 := hb6.mv m; replace xT := xT.mv m; replace xG := xG.mv m; replace xS := xS.mv m; replace hb7 := hb7.mv m
 refine WR.eff_ (Eff.storeNC agg26 rfl rfl hb7 rfl rfl ones) ?_
 rintro _ w10 ⟨hS, m⟩
 replace hOl := hOl.mv m; replace h1 := h1.mv m; replace h2 := h2.mv m; replace h3 := h3.mv m; replace hb2 := hb2.mv m; replace hb3 := hb3.mv m; replace hb4 := hb4.mv m; replace kT := kT.mv m; replace kG := kG.mv m; replace kS := kS.mv m; replace hb6 := hb6.mv m; replace xT := xT.mv m; replace xG := xG.mv m; replace xS := xS.mv m; replace hb8 := hb8.mv m
 replace hb7 := hS
 refine WR.eff_ (Eff.storeNC agg51 rfl rfl hb8 rfl rfl ones) ?_
 rintro _ w11 ⟨hS, m⟩
 replace hOl := hOl.mv m; replace h1 := h1.mv m; replace h2 := h2.mv m; replace h3 := h3.mv m; replace hb2 := hb2.mv m; replace hb3 := hb3.mv m; replace hb4 := hb4.mv m; replace kT := kT.mv m; replace kG := kG.mv m; replace kS := kS.mv m; replace hb6 := hb6.mv m; replace xT := xT.mv m; replace xG := xG.mv m; replace xS := xS.mv m; replace hb7 := hb7.mv m
 replace hb8 := hS
 refine za rfl <| cnil <| cseq <| cg <| za rfl <| cnil <| cseq <| cg <| ve (Eff.allocC c9 111 zero26) ?_
 rintro _ w12 ⟨b11, c12, rfl, m, hb11⟩
 replace hOl := hOl.mv m; replace h1 := h1.mv m; replace h2 := h2.mv m; replace h3 := h3.mv m; replace hb2 := hb2.mv m; replace hb3 := hb3.mv m; replace hb4 := hb4.mv m; replace kT := kT.mv m; replace kG := kG.mv m; replace kS := kS.mv m; replace hb6 := hb6.mv m; replace xT := xT.mv m; replace xG := xG.mv m; replace xS := xS.mv m; replace hb7 := hb7.mv m; replace hb8 := hb8.mv m
 refine cnil <| cseq <| cg <| ve (Eff.allocC c12 112 zero51) ?_
 rintro _ w13 ⟨b12, c13, rfl, m, hb12⟩
 replace hOl := hOl.mv m; replace h1 := h1.mv m; replace h2 := h2.mv m; replace h3 := h3.mv m; replace hb2 := hb2.mv m; replace hb3 := hb3.mv m; replace hb4 := hb4.mv m; replace kT := kT.mv m; replace kG := kG.mv m; replace kS := kS.mv m; replace hb6 := hb6.mv m; replace xT := xT.mv m; replace xG := xG.mv m; replace xS := xS.mv m; replace hb7 := hb7.mv m; replace hb8 := hb8.mv m; replace hb11 := hb11.mv m
 refine cnil <| cseq <| cg <| vq (Val.loadBN agg26 rfl hb2.blk rfl) <| ve (Eff.pureC c13 1 (Eff.call pf17 rfl (pstate_ok h1.now h2.now h3.now htx))) ?_
 rintro v24 w14 ⟨c14, m, hx14, rfl⟩
 replace hOl := hOl.mv m; replace h1 := h1.mv m; replace h2 := h2.mv m; replace h3 := h3.mv m; replace hb2 := hb2.mv m; replace hb3 := hb3.mv m; replace hb4 := hb4.mv m; replace kT := kT.mv m; replace kG := kG.mv m; replace kS := kS.mv m; replace hb6 := hb6.mv m; replace xT := xT.mv m; replace xG := xG.mv m; replace xS := xS.mv m; replace hb7 := hb7.mv m; replace hb8 := hb8.mv m; replace hb11 := hb11.mv m; replace hb12 := hb12.mv m
 refine za rfl <| cnil <| cseq <| cseq <| cg <| zm rfl <| zm rfl ?_
 apply WR.sc true 2 (opOk o) (fun w' => ∃ c', Acc c14 w14 [] c' w')
 case hl | hg | hu | hv | hs | hoff | hd => rfl
 case hF => exact fun _ => ⟨_, Acc.refl _ _ _⟩
 case hT =>
  intro hq4
  try simp only [tstS] at hq4
  simp only [List.take_succ_cons, List.take_zero]
  have hKsc4 := Acc.refl c14 w14 []
  refine WR.on rfl rfl <| vq (Val.loadBN agg33 rfl hb3.blk rfl) <| WR.on rfl rfl <| ve (Eff.pureC c14 1 (Eff.call pf28 rfl (popOk_ok o))) ?_
  rintro v28 w15 ⟨c15, m, hx15, rfl⟩
  replace hKsc4 := hKsc4.mv m
  exact WR.nil ⟨rfl, Sub.drop _ 2 _ rfl rfl, _, hKsc4⟩
 rintro w16 ⟨c16, ⟨m⟩⟩
 replace hOl := hOl.mv m; replace h1 := h1.mv m; replace h2 := h2.mv m; replace h3 := h3.mv m; replace hb2 := hb2.mv m; replace hb3 := hb3.mv m; replace hb4 := hb4.mv m; replace kT := kT.mv m; replace kG := kG.mv m; replace kS := kS.mv m; replace hb6 := hb6.mv m; replace xT := xT.mv m; replace xG := xG.mv m; replace xS := xS.mv m; replace hb7 := hb7.mv m; replace hb8 := hb8.mv m; replace hb11 := hb11.mv m; replace hb12 := hb12.mv m
 refine cnil <| WC.mono (N := (fun e w' => ∃ (c' : Nat → Nat) (yT yG yS : Value), Sub [(4000000, .tuple #[]), (2, .pointer (some ⟨b2, 0, none⟩)), (4, .pointer (some ⟨b4, 0, none⟩)), (5, .bool false), (6, .pointer (some ⟨b6, 0, none⟩)), (7, .pointer (some ⟨b7, 0, none⟩)), (8, .pointer (some ⟨b8, 0, none⟩)), (9, I (if bb then 0 else 1)), (10, I (if bb then 0 else 1)), (11, .pointer (some ⟨b11, 0, none⟩)), (12, .pointer (some ⟨b12, 0, none⟩)), (13, .bool (staMay S))] e ∧ OldC w c' w' ∧ RdC thgS c' w' [0] vT S.things ∧ RdC tgS c' w' [0] vG S.tags ∧ RdC sesS c' w' [0] vS S.sessions ∧ BlkC c' w' 102 b2 [vT, vG, vS, I S.next] 26 ∧ BlkC c' w' 104 b4 [.slice none 0 0, .slice none 0 0, .slice none 0 0, I 0] 26 ∧ BlkC c' w' 106 b6 [iT, iG, iS, I S.next] 26 ∧ BlkC c' w' 107 b7 [uT, uG, uS, I S'.next] 26 ∧ BlkC c' w' 108 b8 (encRep r) 51 ∧ BlkC c' w' 111 b11 [yT, yG, yS, I S'.next] 26 ∧ BlkC c' w' 112 b12 (encRep r) 51 ∧ OwnC c' w' 71 60 3 iT S.things.length (S.things.flatMap encThg) ∧ OwnC c' w' 72 66 2 iG S.tags.length (S.tags.flatMap encTg) ∧ OwnC c' w' 73 63 2 iS S.sessions.length (S.sessions.flatMap encSes) ∧ OwnC c' w' 81 60 3 uT S'.things.length (S'.things.flatMap encThg) ∧ OwnC c' w' 82 66 2 uG S'.tags.length (S'.tags.flatMap encTg) ∧ OwnC c' w' 83 63 2 uS S'.sessions.length (S'.sessions.flatMap encSes) ∧ OwnC c' w' 5 60 3 yT S'.things.length (S'.things.flatMap encThg) ∧ OwnC c' w' 5 66 2 yG S'.tags.length (S'.tags.flatMap encTg) ∧ OwnC c' w' 5 63 2 yS S'.sessions.length (S'.sessions.flatMap encSes))) ?_ ?_
 ·refine WC.cond rfl (fun hc7 => ?_) (fun hc7 => ?_)
  ·try simp only [tstS] at hc7
   have hm : staMay S = true := by simp_all
   have ho : opOk o = true := by simp_all
   have hb1 : bb = true := by rw [hbb, hm, ho]; rfl
   rw [hm, ho] at hS1 hr1
   simp only [Bool.and_self, if_true] at hS1 hr1
   refine cseq <| cg <| za rfl <| cnil <| cg <| vq (Val.loadBN agg26 rfl hb2.blk rfl) <| vq (Val.loadBN agg33 rfl hb3.blk rfl) <| ve (Eff.pureC c16 5 (Eff.call pf29 rfl (pdo_ok h1.now h2.now h3.now hm hB hO))) ?_
   rintro v33 w17 ⟨c17, m, hx17, ⟨yT, yG, yS, rfl, y1, y2, y3⟩⟩
   replace hOl := hOl.mv m; replace h1 := h1.mv m; replace h2 := h2.mv m; replace h3 := h3.mv m; replace hb2 := hb2.mv m; replace hb4 := hb4.mv m; replace kT := kT.mv m; replace kG := kG.mv m; replace kS := kS.mv m; replace hb6 := hb6.mv m; replace xT := xT.mv m; replace xG := xG.mv m; replace xS := xS.mv m; replace hb7 := hb7.mv m; replace hb8 := hb8.mv m; replace hb11 := hb11.mv m; replace hb12 := hb12.mv m
   replace y1 := y1.toC hx17
   replace y2 := y2.toC hx17
   replace y3 := y3.toC hx17
   rw [← hS1] at y1 y2 y3
   rw [← hS1, ← hr1]
   have p7 := y1.oneC; have p8 := y2.oneC; have p9 := y3.oneC
   refine zm rfl <| vq (Val.extract rfl rfl) <| vq (Val.extract rfl rfl) <| WR.eff_ (Eff.storeNC agg26 rfl rfl hb11 rfl rfl ones) ?_
   rintro _ w18 ⟨hS, m⟩
   replace hOl := hOl.mv m; replace h1 := h1.mv m; replace h2 := h2.mv m; replace h3 := h3.mv m; replace hb2 := hb2.mv m; replace hb4 := hb4.mv m; replace kT := kT.mv m; replace kG := kG.mv m; replace kS := kS.mv m; replace hb6 := hb6.mv m; replace xT := xT.mv m; replace xG := xG.mv m; replace xS := xS.mv m; replace hb7 := hb7.mv m; replace hb8 := hb8.mv m; replace hb12 := hb12.mv m; replace y1 := y1.mv m; replace y2 := y2.mv m; replace y3 := y3.mv m
   replace hb11 := hS
   refine WR.eff_ (Eff.storeNC agg51 rfl rfl hb12 rfl rfl ones) ?_
   rintro _ w19 ⟨hS, m⟩
   replace hOl := hOl.mv m; replace h1 := h1.mv m; replace h2 := h2.mv m; replace h3 := h3.mv m; replace hb2 := hb2.mv m; replace hb4 := hb4.mv m; replace kT := kT.mv m; replace kG := kG.mv m; replace kS := kS.mv m; replace hb6 := hb6.mv m; replace xT := xT.mv m; replace xG := xG.mv m; replace xS := xS.mv m; replace hb7 := hb7.mv m; replace hb8 := hb8.mv m; replace hb11 := hb11.mv m; replace y1 := y1.mv m; replace y2 := y2.mv m; replace y3 := y3.mv m
   replace hb12 := hS
   refine cnil ?_
   rw [hm, hb1]
   exact ⟨_, yT, yG, yS, subs, hOl, h1, h2, h3, hb2, hb4, hb6, hb7, hb8, hb11, hb12, kT, kG, kS, xT, xG, xS, y1, y2, y3⟩
  try simp only [tstS] at hc7
  refine cskip ?_
  have hb1 : bb = false := by simp_all
  rw [← hbb, hb1] at hS1 hr1
  simp only [Bool.false_eq_true, if_false] at hS1 hr1
  rw [hb1]
  subst hS1; subst hr1
  exact ⟨_, _, _, _, subs, hOl, h1, h2, h3, hb2, hb4, hb6, hb7, hb8, hb11, hb12, kT, kG, kS, xT, xG, xS, OwnC.nil _ _ _ _ _, OwnC.nil _ _ _ _ _, OwnC.nil _ _ _ _ _⟩
 rintro e8 w8 ⟨c8, yT, yG, yS, hsub, hOl, h1, h2, h3, hb2, hb4, hb6, hb7, hb8, hb11, hb12, kT, kG, kS, xT, xG, xS, y1, y2, y3⟩
 refine WC.sub hsub ?_
 clear hsub e8
 have p7 := y1.oneC; have p8 := y2.oneC; have p9 := y3.oneC
 refine cseq <| cseq <| cg <| zm rfl <| ve (Eff.pureC c8 1 (Eff.call pf19 rfl (lnum_ok _))) ?_
 rintro v37 w20 ⟨c20, m, hx20, rfl⟩
 replace hOl := hOl.mv m; replace h1 := h1.mv m; replace h2 := h2.mv m; replace h3 := h3.mv m; replace hb2 := hb2.mv m; replace hb4 := hb4.mv m; replace hb6 := hb6.mv m; replace hb7 := hb7.mv m; replace hb8 := hb8.mv m; replace hb11 := hb11.mv m; replace hb12 := hb12.mv m; replace kT := kT.mv m; replace kG := kG.mv m; replace kS := kS.mv m; replace xT := xT.mv m; replace xG := xG.mv m; replace xS := xS.mv m; replace y1 := y1.mv m; replace y2 := y2.mv m; replace y3 := y3.mv m
 refine zm rfl <| vq (Val.neq rfl rfl) ?_
 rw [decide_eq_true rfl]
 refine zm rfl <| WR.onEq rfl rfl rfl <| vq (Val.loadBN agg51 rfl hb8.blk rfl) <| WR.onEq rfl rfl rfl <| vq (Val.loadBN agg51 rfl hb12.blk rfl) <| WR.onEq rfl rfl rfl <| vq (Val.stne flat51 rfl rfl rfl (by simp [sameKinds])) ?_
 rw [rep_eq r r, decide_eq_true rfl]
 refine WR.pickOn (by rfl) rfl rfl rfl ?_
 refine zm rfl <| WR.onEq rfl rfl rfl <| vq (Val.loadBN agg26 rfl hb7.blk rfl) <| WR.onEq rfl rfl rfl <| vq (Val.loadBN agg26 rfl hb11.blk rfl) <| WR.onEq rfl rfl rfl <| ve (Eff.pureC c20 1 (Eff.call pf20 rfl (eqState_ok (xT.rdT hB1.l1 hB1.r1).now (xG.rdG hB1.l2 hB1.r2).now (xS.rdS hB1.l3 hB1.r3).now (y1.rdT hB1.l1 hB1.r1).now (y2.rdG hB1.l2 hB1.r2).now (y3.rdS hB1.l3 hB1.r3).now))) ?_
 rintro v48 w21 ⟨c21, m, hx21, rfl⟩
 replace hOl := hOl.mv m; replace h1 := h1.mv m; replace h2 := h2.mv m; replace h3 := h3.mv m; replace hb2 := hb2.mv m; replace hb4 := hb4.mv m; replace hb6 := hb6.mv m; replace hb7 := hb7.mv m; replace hb11 := hb11.mv m; replace kT := kT.mv m; replace kG := kG.mv m; replace kS := kS.mv m; replace xT := xT.mv m; replace xG := xG.mv m; replace xS := xS.mv m; replace y1 := y1.mv m; replace y2 := y2.mv m; replace y3 := y3.mv m
 rw [decide_eq_true rfl]
 refine WR.onEq rfl rfl rfl <| vq (Val.not rfl) <| WR.pickOn (by rfl) rfl rfl rfl ?_
 refine zm rfl <| WR.onEq rfl rfl rfl <| vq (Val.loadBN agg26 rfl hb6.blk rfl) <| WR.onEq rfl rfl rfl <| vq (Val.loadBN agg26 rfl hb2.blk rfl) <| WR.onEq rfl rfl rfl <| ve (Eff.pureC c21 1 (Eff.call pf20 rfl (eqState_ok (kT.rdT hB.l1 hB.r1).now (kG.rdG hB.l2 hB.r2).now (kS.rdS hB.l3 hB.r3).now h1.now h2.now h3.now))) ?_
 rintro v54 w22 ⟨c22, m, hx22, rfl⟩
 replace hOl := hOl.mv m; replace h1 := h1.mv m; replace h2 := h2.mv m; replace h3 := h3.mv m; replace hb2 := hb2.mv m; replace hb4 := hb4.mv m; replace hb6 := hb6.mv m; replace hb7 := hb7.mv m; replace hb11 := hb11.mv m; replace kT := kT.mv m; replace kG := kG.mv m; replace kS := kS.mv m; replace xT := xT.mv m; replace xG := xG.mv m; replace xS := xS.mv m; replace y1 := y1.mv m; replace y2 := y2.mv m; replace y3 := y3.mv m
 rw [decide_eq_true rfl]
 refine WR.onEq rfl rfl rfl <| vq (Val.not rfl) <| WR.pickOn (by rfl) rfl rfl rfl ?_
 refine zm rfl <| WR.onEq rfl rfl rfl <| vq (Val.loadBN agg26 rfl hb6.blk rfl) <| WR.onEq rfl rfl rfl <| ve (Eff.pureC c22 1 (Eff.call pf30 rfl (mcheck2_ok (kT.rdT hB.l1 hB.r1).now (kG.rdG hB.l2 hB.r2).now (kS.rdS hB.l3 hB.r3).now))) ?_
 rintro v59 w23 ⟨c23, m, hx23, rfl⟩
 replace hOl := hOl.mv m; replace h1 := h1.mv m; replace h2 := h2.mv m; replace h3 := h3.mv m; replace hb2 := hb2.mv m; replace hb4 := hb4.mv m; replace hb6 := hb6.mv m; replace hb7 := hb7.mv m; replace hb11 := hb11.mv m; replace kT := kT.mv m; replace kG := kG.mv m; replace kS := kS.mv m; replace xT := xT.mv m; replace xG := xG.mv m; replace xS := xS.mv m; replace y1 := y1.mv m; replace y2 := y2.mv m; replace y3 := y3.mv m
 refine WR.onEq rfl rfl rfl <| ve (Eff.pureC c23 1 (Eff.call pf19 rfl (lnum_ok _))) ?_
 rintro v60 w24 ⟨c24, m, hx24, rfl⟩
 replace hOl := hOl.mv m; replace h1 := h1.mv m; replace h2 := h2.mv m; replace h3 := h3.mv m; replace hb2 := hb2.mv m; replace hb4 := hb4.mv m; replace hb6 := hb6.mv m; replace hb7 := hb7.mv m; replace hb11 := hb11.mv m; replace kT := kT.mv m; replace kG := kG.mv m; replace kS := kS.mv m; replace xT := xT.mv m; replace xG := xG.mv m; replace xS := xS.mv m; replace y1 := y1.mv m; replace y2 := y2.mv m; replace y3 := y3.mv m
 refine WR.onEq rfl rfl rfl <| vq (Val.eql rfl rfl) <| WR.onEq rfl rfl rfl <| zm rfl <| WR.onEq rfl rfl rfl <| vq (Val.bneq Tryz.underlying4 rfl rfl) ?_
 rw [eqe]
 refine WR.pickOn (by rfl) rfl rfl rfl ?_
 refine cnil <| WC.cond_false rfl <| cskip <| cseq <| cg <| vq (Val.loadBN agg26 rfl hb7.blk rfl) <| ve (Eff.call pf31 rfl (spoilS_ok xT xG xS hB1.l1 hB1.l2 hB1.l3)) ?_
 rintro v67 w25 ⟨c25, m, _⟩
 replace hOl := hOl.mv m; replace h1 := h1.mv m; replace h2 := h2.mv m; replace h3 := h3.mv m; replace hb2 := hb2.mv m; replace hb4 := hb4.mv m; replace hb6 := hb6.mv m; replace hb11 := hb11.mv m; replace kT := kT.mv m; replace kG := kG.mv m; replace kS := kS.mv m; replace y1 := y1.mv m; replace y2 := y2.mv m; replace y3 := y3.mv m
 refine cnil <| cseq <| cseq <| cg <| vq (Val.loadBN agg26 rfl hb6.blk rfl) <| vq (Val.loadBN agg26 rfl hb2.blk rfl) <| ve (Eff.pureC c25 1 (Eff.call pf20 rfl (eqState_ok (kT.rdT hB.l1 hB.r1).now (kG.rdG hB.l2 hB.r2).now (kS.rdS hB.l3 hB.r3).now h1.now h2.now h3.now))) ?_
 rintro v70 w26 ⟨c26, m, hx26, rfl⟩
 replace hOl := hOl.mv m; replace hb2 := hb2.mv m; replace hb4 := hb4.mv m; replace hb11 := hb11.mv m; replace y1 := y1.mv m; replace y2 := y2.mv m; replace y3 := y3.mv m
 rw [decide_eq_true rfl]
 refine vq (Val.not rfl) <| cnil <| WC.cond_false rfl <| cskip <| cseq <| cseq <| cg <| zm rfl <| vq (Val.neq rfl rfl) <| cnil <| WC.cond rfl (fun hc15 => ?_) (fun hc15 => ?_)
 ·try simp only [tstS] at hc15
  refine cseq <| cg <| vq (Val.loadBN agg26 rfl hb2.blk rfl) <| WR.eff_ (Eff.storeNC agg26 rfl rfl hb4 rfl rfl ones) ?_
  rintro _ w27 ⟨hS, m⟩
  replace hOl := hOl.mv m
  replace hb4 := hS
  refine za rfl <| cnil <| WC.retR2 rfl (RVal.cellN agg26 rfl hb4.blk rfl) (RVal.tmp rfl) ?_
  exact ⟨hOl.below, _, _, _, S, rfl, hB, .inl ⟨rfl, rfl, rfl, rfl⟩⟩
 try simp only [tstS] at hc15
 refine cskip <| cseq <| cg <| vq (Val.loadBN agg26 rfl hb11.blk rfl) <| ve (Eff.call pf13 rfl (copyState_ok (c := c26) (y1.rdT hB1.l1 hB1.r1).now (y2.rdG hB1.l2 hB1.r2).now (y3.rdS hB1.l3 hB1.r3).now hB1.l1 hB1.l2 hB1.l3)) ?_
 rintro v77 w28 ⟨c28, m, ⟨zT, zG, zS, rfl, zT1, zG1, zS1⟩⟩
 replace hOl := hOl.mv m; replace hb4 := hb4.mv m
 have p1 := zT1.oneC; have p2 := zG1.oneC; have p3 := zS1.oneC
 refine WR.eff_ (Eff.storeNC agg26 rfl rfl hb4 rfl rfl ones) ?_
 rintro _ w29 ⟨hS, m⟩
 replace hOl := hOl.mv m; replace zT1 := zT1.mv m; replace zG1 := zG1.mv m; replace zS1 := zS1.mv m
 replace hb4 := hS
 refine za rfl <| cnil <| WC.retR2 rfl (RVal.cellN agg26 rfl hb4.blk rfl) (RVal.tmp rfl) ?_
 exact ⟨hOl.below, zT, zG, zS, S', rfl, hB1, .inr ⟨zT1.fromOld hOl (by decide), zG1.fromOld hOl (by decide), zS1.fromOld hOl (by decide)⟩⟩
end Go.Proofs.YtdlpibhecdfbcabGreatDoor

namespace Silo
open Go Go.Eng
theorem bnd_opened {S : Sta} (h : Bnd S) : Bnd (if staMay S then openedS S else Sta0) := by
 split
 · refine ⟨h.1, h.2.1, fun t ht => ?_, h.l1, h.l2, by simp [openedS], ⟨by simp [openedS], by simp [openedS]⟩⟩
   simp [openedS] at ht
 exact bnd0
theorem op_small {O : List MOp} (h : opsW O ≤ 9000) (hi : ∀ o ∈ O, (Go.Eng.Int64 o.kind ∧ Go.Eng.Int64 o.id ∧ Go.Eng.Int64 o.n ∧ Go.Eng.Int64 o.m) ∧ o.name.length ≤ 140737488355328 ∧ o.digest.length ≤ 140737488355328 ∧ o.text.length ≤ 140737488355328) : ∀ o ∈ O, SmallO o := fun o ho => by
  obtain ⟨_, h2⟩ := opsW_light h
  have := h2 o ho
  exact ⟨(hi o ho).1, by omega, by omega, by omega⟩
end Silo
namespace Go.Eng
open Go Go.RowKit Silo
theorem Own.plainV {w : World} {base : Nat} {e : TypeId} {size n : Nat} {v : Value} {xs : List Value} (h : Own w base e size v n xs) : PlainV v := by
  obtain ⟨A, q, e, _, hA⟩ := h.formA
  exact ⟨A, _, q, e, hA⟩
end Go.Eng
namespace Go.Proofs.YtdlpibhecdfbcabGreatDoor
open Go Go.Eng Go.RowKit Silo TryzT
theorem stepC_ok {c : Nat → Nat} {w : World} {vT vG vS : Value} {S : Sta} {o : MOp} (h1 : RdC thgS c w [4, 71] vT S.things) (h2 : RdC tgS c w [4, 72] vG S.tags) (h3 : RdC sesS c w [4, 73] vS S.sessions) (p1 : PlainV vT) (p2 : PlainV vG) (p3 : PlainV vS) (hB : Bnd S) (hO : SmallO o) : Calls Tryz.prog 14 #[.agg #[vT, vG, vS, I S.next], .agg (encOp o).toArray] w (Ret fun v w' => ∃ c', Mv c w c' w' [] ∧ ∃ uT uG uS S', v = .tuple #[.agg #[uT, uG, uS, I S'.next], .bool true] ∧ Bnd S' ∧ PlainV uT ∧ PlainV uG ∧ PlainV uS ∧ RdC thgS c' w' [4, 71] uT S'.things ∧ RdC tgS c' w' [4, 72] uG S'.tags ∧ RdC sesS c' w' [4, 73] uS S'.sessions) := by
 refine (step_ok h1.now h2.now h3.now hB hO).mono fun e w' he => ?_
 obtain ⟨v, rfl, hb, uT, uG, uS, S', rfl, hB', hc⟩ := he
 obtain ⟨c', m, hx⟩ := Mv.pure c 4 hb
 refine ⟨_, rfl, c', m, uT, uG, uS, S', rfl, hB', ?_⟩
 rcases hc with ⟨rfl, rfl, rfl, rfl⟩ | ⟨a, b, d⟩
 · exact ⟨p1, p2, p3, h1.mv m rfl, h2.mv m rfl, h3.mv m rfl⟩
 exact ⟨a.plainV, b.plainV, d.plainV, ((a.toC hx).rdT hB'.l1 hB'.r1).more rfl, ((b.toC hx).rdG hB'.l2 hB'.r2).more rfl, ((d.toC hx).rdS hB'.l3 hB'.r3).more rfl⟩
set_option maxHeartbeats 4000000 in
theorem modelDoes_ok {w : World} {vT vG vS vO : Value} {S : Sta} {O : List MOp} (h1 : Rd thgS w vT S.things) (h2 : Rd tgS w vG S.tags) (h3 : Rd sesS w vS S.sessions) (h4 : Rd opS w vO O) (hn : Go.Eng.Int64 S.next) : Calls Tryz.prog 11 #[.agg #[vT, vG, vS, I S.next, vO]] w (Ret fun v w' => Below w.heap.size w w' ∧ v = .bool true) := by
 obtain ⟨c, hOl, hc⟩ := OldC.start w
 have q1 := h1.oneC; have q2 := h2.oneC; have q3 := h3.oneC; have q4 := h4.oneC
 have k3 := h3.okFlat; have k4 := h4.okFlat
 replace h1 : RdC thgS c w [0] vT S.things := Rd.toC h1 (fun k hk => by simp [hc, hasC])
 replace h2 : RdC tgS c w [0] vG S.tags := Rd.toC h2 (fun k hk => by simp [hc, hasC])
 replace h3 : RdC sesS c w [0] vS S.sessions := Rd.toC h3 (fun k hk => by simp [hc, hasC])
 replace h4 : RdC opS c w [0] vO O := Rd.toC h4 (fun k hk => by simp [hc, hasC])
 clear hc
 refine enter (n := 64) (res := #[.tmp 2]) Tryz.func11 rfl rfl rfl rfl <| cseq <| cg <| ve (Eff.boxC c 101 rfl) ?_
 rintro _ w1 ⟨b1, c1, rfl, m, hb1⟩
 replace hOl := hOl.mv m; replace h1 := h1.mv m; replace h2 := h2.mv m; replace h3 := h3.mv m; replace h4 := h4.mv m
 refine za rfl <| cnil <| cseq <| cseq <| cg <| vq (Val.loadBN agg29 rfl hb1.blk rfl) <| ve (Eff.pureC c1 1 (Eff.call pf12 rfl (lheavy_ok h1.now h2.now h3.now h4.now))) ?_
 rintro v12 w2 ⟨c2, m, hx2, rfl⟩
 replace hOl := hOl.mv m; replace h1 := h1.mv m; replace h2 := h2.mv m; replace h3 := h3.mv m; replace h4 := h4.mv m; replace hb1 := hb1.mv m
 refine cnil <| WC.cond rfl (fun hc1 => ?_) (fun hc1 => ?_)
 ·try simp only [tstS] at hc1
  refine cseq <| cg <| za rfl <| cnil <| WC.ret1 rfl rfl ?_
  exact ⟨hOl.below, rfl⟩
 try simp only [tstS] at hc1
 have hB : Bnd S := staW_light (by omega) (fun t ht => (k3 t ht).1) hn
 have hOs := op_small (O := O) (by omega) k4
 refine cskip <| cseq <| cg <| vq (Val.fieldAddr fld29_0 rfl) <| vq (Val.loadPre (ds := [vT, vG, vS, I S.next]) (r := [vO]) agg26 rfl hb1.blk rfl rfl) <| ve (Eff.call pf13 rfl (copyState_ok (c := c2) h1.now h2.now h3.now hB.l1 hB.l2 hB.l3)) ?_
 rintro v15 w3 ⟨c3, m, ⟨iT, iG, iS, rfl, kT, kG, kS⟩⟩
 replace hOl := hOl.mv m; replace h1 := h1.mv m; replace h2 := h2.mv m; replace h3 := h3.mv m; replace h4 := h4.mv m; replace hb1 := hb1.mv m
 have p1 := kT.oneC; have p2 := kG.oneC; have p3 := kS.oneC
 refine ve (Eff.allocC c3 103 zero26) ?_
 rintro _ w4 ⟨b3, c4, rfl, m, hb3⟩
 replace hOl := hOl.mv m; replace h1 := h1.mv m; replace h2 := h2.mv m; replace h3 := h3.mv m; replace h4 := h4.mv m; replace hb1 := hb1.mv m; replace kT := kT.mv m; replace kG := kG.mv m; replace kS := kS.mv m
 refine WR.eff_ (Eff.storeNC agg26 rfl rfl hb3 rfl rfl ones) ?_
 rintro _ w5 ⟨hS, m⟩
 replace hOl := hOl.mv m; replace h1 := h1.mv m; replace h2 := h2.mv m; replace h3 := h3.mv m; replace h4 := h4.mv m; replace hb1 := hb1.mv m; replace kT := kT.mv m; replace kG := kG.mv m; replace kS := kS.mv m
 replace hb3 := hS
 refine cnil <| cseq <| cseq <| cg <| za rfl <| cnil <| cblock <| WC.loop (σ := Nat) (fun i => [(1, .pointer (some ⟨b1, 0, none⟩)), (2, .bool false), (3, .pointer (some ⟨b3, 0, none⟩)), (4, I i)]) (fun i w' => ∃ c' sT sG sS S', OldC w c' w' ∧ RdC opS c' w' [0] vO O ∧ BlkC c' w' 101 b1 [vT, vG, vS, I S.next, vO] 29 ∧ BlkC c' w' 103 b3 [sT, sG, sS, I S'.next] 26 ∧ RdC thgS c' w' [4, 71] sT S'.things ∧ RdC tgS c' w' [4, 72] sG S'.tags ∧ RdC sesS c' w' [4, 73] sS S'.sessions ∧ Bnd S' ∧ PlainV sT ∧ PlainV sG ∧ PlainV sS ∧ i ≤ 12 ∧ i ≤ O.length) (fun i => 12 - i) 0 subs ⟨_, _, _, _, S, hOl, h4, hb1, hb3, (kT.rdT hB.l1 hB.r1).more rfl, (kG.rdG hB.l2 hB.r2).more rfl, (kS.rdS hB.l3 hB.r3).more rfl, hB, kT.plainV, kG.plainV, kS.plainV, by omega, by omega⟩ ?_
 clear hOl h1 h2 h3 h4 hb1 hb3 kT kG kS
 rintro i wl ⟨cl, sT, sG, sS, S', hOl, h4, hb1, hb3, x1, x2, x3, hB', pT, pG, pS, hi, hiO⟩
 have hsO := h4.now.small
 have p4 := x1.now.oneC; have p5 := x2.now.oneC; have p6 := x3.now.oneC
 refine cseq <| cseq <| cg <| zm rfl <| vq (Val.fieldAddr fld29_1 rfl) <| vq (Val.loadB scl27 rfl hb1.blk rfl) ?_
 first | refine vq (Val.rdlen sl27 (by assumption) rfl) ?_ | refine vq (Val.sllen Tryz.underlying27 rfl) ?_ | refine vq (Val.olen sl27 (by assumption) rfl) ?_ | refine vq (Val.rdlenC sl27 (by assumption) rfl) ?_
 refine vq (Val.lss rfl rfl) <| zm rfl ?_
 apply WR.sc true 2 _ (fun w' => wl = w')
 case hl | hg | hu | hv | hs | hoff | hd => rfl
 case hF => exact fun _ => rfl
 case hT =>
  intro hq8
  try simp only [tstS] at hq8
  simp only [List.take_succ_cons, List.take_zero]
  refine WR.on rfl rfl <| zm rfl <| WR.on rfl rfl <| vq (Val.lss rfl rfl) ?_
  exact WR.nil ⟨rfl, Sub.drop _ 2 _ rfl rfl, rfl⟩
 rintro _ rfl
 refine cnil <| WC.cond rfl (fun hc5 => ?_) (fun hc5 => ?_)
 ·try simp only [tstS] at hc5
  obtain ⟨hc5, hc5'⟩ := hc5
  have ka : i < O.length := by omega
  obtain ⟨hc33, _⟩ := RdC.elFlat h4 ka (by decide)
  have hsm := hOs _ (List.getElem_mem ka)
  refine cskip <| cseq <| cblock <| cseq <| WC.mono (N := (fun e w' => ∃ (c' : Nat → Nat) (b5 : Nat) (uT uG uS : Value) (S2 : Sta), Sub [(4000000, .tuple #[]), (1, .pointer (some ⟨b1, 0, none⟩)), (2, .bool false), (3, .pointer (some ⟨b3, 0, none⟩)), (4, I i), (5, .pointer (some ⟨b5, 0, none⟩)), (6, .bool true)] e ∧ OldC w c' w' ∧ RdC opS c' w' [0] vO O ∧ BlkC c' w' 101 b1 [vT, vG, vS, I S.next, vO] 29 ∧ BlkC c' w' 103 b3 [sT, sG, sS, I S'.next] 26 ∧ BlkC c' w' 105 b5 [uT, uG, uS, I S2.next] 26 ∧ RdC thgS c' w' [4, 71] uT S2.things ∧ RdC tgS c' w' [4, 72] uG S2.tags ∧ RdC sesS c' w' [4, 73] uS S2.sessions ∧ Bnd S2 ∧ PlainV uT ∧ PlainV uG ∧ PlainV uS)) ?_ ?_
  ·refine WC.regionT (Kp cl wl []) [1, 1, 0, 1, 0, 0, 1, 0, 2, 2, 0, 0, 0, 2, 3, 0] (.quiet 0 (.quiet 1 (.quiet 2 (.quiet 3 (.quiet 4 (.quiet 5 (.quiet 6 (.quiet 7 (.two 8 (.two 9 (.quiet 10 (.quiet 11 (.quiet 12 (.one 13 (.one 14 (.quiet 15 .nil)))))) 13 (.one 9 (.quiet 10 (.quiet 11 (.quiet 12 (.one 14 (.quiet 15 .nil))))))) 13 (.one 8 (.one 9 (.quiet 10 (.quiet 11 (.quiet 12 (.one 14 (.quiet 15 .nil)))))))))))))))) mixed (by kernel_rfl) ?_
   have m := Mv.drew cl wl []
   have hCw := Mv.drew cl wl []
   generalize wl.drew = w6 at m hCw ⊢
   have hb10 := hb1
   have hb30 := hb3
   have hc330 := hc33
   replace hOl := hOl.mv m; replace h4 := h4.mv m; replace hb1 := hb1.mv m; replace hb3 := hb3.mv m; replace x1 := x1.mv m; replace x2 := x2.mv m; replace x3 := x3.mv m
   refine WT.valC rfl rfl rfl hCw.kp (fun W hW => Val.loadBN agg26 rfl (hb30.kp hW rfl).blk rfl) rfl <| WT.valC rfl rfl rfl hCw.kp (fun W hW => Val.loadBN agg26 rfl (hb30.kp hW rfl).blk rfl) rfl <| WT.val rfl rfl rfl (fun _ => Val.fieldAddr fld29_1 rfl) rfl <| WT.valC rfl rfl rfl hCw.kp (fun W hW => Val.loadB scl27 rfl (hb10.kp hW rfl).blk rfl) rfl <| WT.val rfl rfl rfl (fun _ => Val.move rfl) rfl ?_
   first | refine WT.val rfl rfl rfl (fun _ => Val.indexAddr sl27 (by assumption) rfl rfl rfl side side) rfl ?_ | refine WT.val rfl rfl rfl (fun _ => Val.indexC sl27 (by assumption) rfl rfl side side) rfl ?_ | refine WT.val rfl rfl rfl (fun _ => Val.indexO sl27 (by assumption) rfl rfl side side) rfl ?_
   refine WT.valC rfl rfl rfl hCw.kp (fun W hW => Val.loadE agg33 rfl (hc330.kp hW rfl).cel rfl) rfl <| WT.val rfl rfl rfl (fun _ => Val.move rfl) rfl <| WT.two ?_ ?_
   ·refine WS.eff rfl rfl rfl (Eff.pureC cl 1 (Eff.call pf15 rfl (aimed_ok x1.now x2.now x3.now hB' hsm ⟨by omega, by omega⟩))) rfl ?_
    rintro v36 w7 ⟨c7, m, hx7, ⟨o', hsm', rfl⟩⟩
    refine ⟨fun hC => hC.step hCw m rfl, ?_⟩
    replace hCw := hCw.tr m rfl
    replace hOl := hOl.mv m; replace h4 := h4.mv m; replace hb1 := hb1.mv m; replace hb3 := hb3.mv m; replace x1 := x1.mv m; replace x2 := x2.mv m; replace x3 := x3.mv m
    refine WT.two ?_ ?_
    ·refine WS.eff rfl rfl rfl (Eff.call pf14 rfl (stepC_ok x1 x2 x3 pT pG pS hB' hsm')) rfl ?_
     rintro v37 w8 ⟨c8, m, ⟨uT, uG, uS, S2, rfl, hB2, pT2, pG2, pS2, y1, y2, y3⟩⟩
     refine ⟨fun hC => hC.step hCw m rfl, ?_⟩
     replace hCw := hCw.tr m rfl
     replace hOl := hOl.mv m; replace h4 := h4.mv m; replace hb1 := hb1.mv m; replace hb3 := hb3.mv m
     have p7 := y1.now.oneC; have p8 := y2.now.oneC; have p9 := y3.now.oneC
     refine WT.val rfl rfl rfl (fun _ => Val.move rfl) rfl <| WT.val rfl rfl rfl (fun _ => Val.extract rfl rfl) rfl <| WT.val rfl rfl rfl (fun _ => Val.extract rfl rfl) rfl <| WT.one <| WS.eff rfl rfl rfl (Eff.allocC c8 105 zero26) rfl ?_
     rintro _ w9 ⟨b5, c9, rfl, m, hb5⟩
     refine ⟨fun hC => hC.step hCw m rfl, ?_⟩
     replace hCw := hCw.tr m rfl
     replace hOl := hOl.mv m; replace h4 := h4.mv m; replace hb1 := hb1.mv m; replace hb3 := hb3.mv m; replace y1 := y1.mv m; replace y2 := y2.mv m; replace y3 := y3.mv m
     refine WT.one <| WS.wild rfl rfl rfl (Eff.storeNC agg26 rfl rfl hb5 rfl rfl ones) ?_
     rintro _ w10 ⟨hS, m⟩
     replace hOl := hOl.mv m; replace h4 := h4.mv m; replace hb1 := hb1.mv m; replace hb3 := hb3.mv m; replace y1 := y1.mv m; replace y2 := y2.mv m; replace y3 := y3.mv m
     replace hb5 := hS
     refine WT.val rfl rfl rfl (fun _ => Val.assign rfl) rfl <| WT.nil ?_
     exact ⟨_, _, uT, uG, uS, S2, subs, hOl, h4, hb1, hb3, hb5, y1, y2, y3, hB2, pT2, pG2, pS2⟩
    refine WS.eff rfl rfl rfl (Eff.allocC c7 105 zero26) rfl ?_
    rintro _ w11 ⟨b5, c11, rfl, m, hb5⟩
    refine ⟨fun hC => hC.step hCw m rfl, ?_⟩
    replace hCw := hCw.tr m rfl
    replace hOl := hOl.mv m; replace h4 := h4.mv m; replace hb1 := hb1.mv m; replace hb3 := hb3.mv m; replace x1 := x1.mv m; replace x2 := x2.mv m; replace x3 := x3.mv m
    refine WT.one <| WS.eff rfl rfl rfl (Eff.call pf14 rfl (stepC_ok x1 x2 x3 pT pG pS hB' hsm')) rfl ?_
    rintro v37 w12 ⟨c12, m, ⟨uT, uG, uS, S2, rfl, hB2, pT2, pG2, pS2, y1, y2, y3⟩⟩
    refine ⟨fun hC => hC.step hCw m rfl, ?_⟩
    replace hCw := hCw.tr m rfl
    replace hOl := hOl.mv m; replace h4 := h4.mv m; replace hb1 := hb1.mv m; replace hb3 := hb3.mv m; replace hb5 := hb5.mv m
    have p7 := y1.now.oneC; have p8 := y2.now.oneC; have p9 := y3.now.oneC
    refine WT.val rfl rfl rfl (fun _ => Val.move rfl) rfl <| WT.val rfl rfl rfl (fun _ => Val.extract rfl rfl) rfl <| WT.val rfl rfl rfl (fun _ => Val.extract rfl rfl) rfl <| WT.one <| WS.wild rfl rfl rfl (Eff.storeNC agg26 rfl rfl hb5 rfl rfl ones) ?_
    rintro _ w13 ⟨hS, m⟩
    replace hOl := hOl.mv m; replace h4 := h4.mv m; replace hb1 := hb1.mv m; replace hb3 := hb3.mv m; replace y1 := y1.mv m; replace y2 := y2.mv m; replace y3 := y3.mv m
    replace hb5 := hS
    refine WT.val rfl rfl rfl (fun _ => Val.assign rfl) rfl <| WT.nil ?_
    exact ⟨_, _, uT, uG, uS, S2, subs, hOl, h4, hb1, hb3, hb5, y1, y2, y3, hB2, pT2, pG2, pS2⟩
   refine WS.eff rfl rfl rfl (Eff.allocC cl 105 zero26) rfl ?_
   rintro _ w14 ⟨b5, c14, rfl, m, hb5⟩
   refine ⟨fun hC => hC.step hCw m rfl, ?_⟩
   replace hCw := hCw.tr m rfl
   replace hOl := hOl.mv m; replace h4 := h4.mv m; replace hb1 := hb1.mv m; replace hb3 := hb3.mv m; replace x1 := x1.mv m; replace x2 := x2.mv m; replace x3 := x3.mv m
   refine WT.one <| WS.eff rfl rfl rfl (Eff.pureC c14 1 (Eff.call pf15 rfl (aimed_ok x1.now x2.now x3.now hB' hsm ⟨by omega, by omega⟩))) rfl ?_
   rintro v36 w15 ⟨c15, m, hx15, ⟨o', hsm', rfl⟩⟩
   refine ⟨fun hC => hC.step hCw m rfl, ?_⟩
   replace hCw := hCw.tr m rfl
   replace hOl := hOl.mv m; replace h4 := h4.mv m; replace hb1 := hb1.mv m; replace hb3 := hb3.mv m; replace x1 := x1.mv m; replace x2 := x2.mv m; replace x3 := x3.mv m; replace hb5 := hb5.mv m
   refine WT.one <| WS.eff rfl rfl rfl (Eff.call pf14 rfl (stepC_ok x1 x2 x3 pT pG pS hB' hsm')) rfl ?_
   rintro v37 w16 ⟨c16, m, ⟨uT, uG, uS, S2, rfl, hB2, pT2, pG2, pS2, y1, y2, y3⟩⟩
   refine ⟨fun hC => hC.step hCw m rfl, ?_⟩
   replace hCw := hCw.tr m rfl
   replace hOl := hOl.mv m; replace h4 := h4.mv m; replace hb1 := hb1.mv m; replace hb3 := hb3.mv m; replace hb5 := hb5.mv m
   have p7 := y1.now.oneC; have p8 := y2.now.oneC; have p9 := y3.now.oneC
   refine WT.val rfl rfl rfl (fun _ => Val.move rfl) rfl <| WT.val rfl rfl rfl (fun _ => Val.extract rfl rfl) rfl <| WT.val rfl rfl rfl (fun _ => Val.extract rfl rfl) rfl <| WT.one <| WS.wild rfl rfl rfl (Eff.storeNC agg26 rfl rfl hb5 rfl rfl ones) ?_
   rintro _ w17 ⟨hS, m⟩
   replace hOl := hOl.mv m; replace h4 := h4.mv m; replace hb1 := hb1.mv m; replace hb3 := hb3.mv m; replace y1 := y1.mv m; replace y2 := y2.mv m; replace y3 := y3.mv m
   replace hb5 := hS
   refine WT.val rfl rfl rfl (fun _ => Val.assign rfl) rfl <| WT.nil ?_
   exact ⟨_, _, uT, uG, uS, S2, subs, hOl, h4, hb1, hb3, hb5, y1, y2, y3, hB2, pT2, pG2, pS2⟩
  clear hOl h4 hb1 hb3 x1 x2 x3 hc33
  rintro e9 w9 ⟨c9, b5, uT, uG, uS, S2, hsub, hOl, h4, hb1, hb3, hb5, y1, y2, y3, hB2, pT2, pG2, pS2⟩
  refine WC.sub hsub ?_
  clear hsub e9
  have p7 := y1.now.oneC; have p8 := y2.now.oneC; have p9 := y3.now.oneC
  refine cseq <| cseq <| cg <| zm rfl <| vq (Val.not rfl) <| cnil <| WC.cond_false rfl <| cskip <| cg <| vq (Val.loadBN agg26 rfl hb5.blk rfl) <| WR.eff_ (Eff.storeNC agg26 rfl rfl hb3 rfl rfl ones) ?_
  rintro _ w18 ⟨hS, m⟩
  replace hOl := hOl.mv m; replace h4 := h4.mv m; replace hb1 := hb1.mv m; replace y1 := y1.mv m; replace y2 := y2.mv m; replace y3 := y3.mv m
  replace hb3 := hS
  refine cnil <| cg <| zm rfl <| vq (Val.addI rfl rfl side side) <| za rfl <| cnil ?_
  exact ⟨i + 1, subs, ⟨_, uT, uG, uS, S2, hOl, h4, hb1, hb3, y1, y2, y3, hB2, pT2, pG2, pS2, by omega, by omega⟩, by omega⟩
 try simp only [tstS] at hc5
 have htx : ∀ t ∈ S'.things, t.text.length ≤ 1048576 := fun t ht => (hB'.r1 t ht).2
 obtain ⟨X, hX⟩ : ∃ X, X = (if staMay S' then openedS S' else Sta0) := ⟨_, rfl⟩
 have hBX : Bnd X := by rw [hX]; exact bnd_opened hB'
 refine WC.exit rfl <| cseq <| cg <| vq (Val.loadBN agg26 rfl hb3.blk rfl) <| ve (Eff.pureC cl 6 (Eff.call pf16 rfl (mopened_ok x1.now x2.now x3.now pT pG pS))) ?_
 rintro v45 w19 ⟨c19, m, hx19, ⟨uT, uG, uS, X', rfl, hX', u1, u2, u3⟩⟩
 replace hOl := hOl.mv m; replace hb3 := hb3.mv m; replace x1 := x1.mv m; replace x2 := x2.mv m; replace x3 := x3.mv m
 replace u1 := u1.toC hx19
 replace u2 := u2.toC hx19
 replace u3 := u3.toC hx19
 rw [← hX] at hX'
 subst hX'
 have p7 := u1.oneC; have p8 := u2.oneC; have p9 := u3.oneC
 refine zm rfl <| vq (Val.extract rfl rfl) <| vq (Val.extract rfl rfl) <| ve (Eff.allocC c19 107 zero26) ?_
 rintro _ w20 ⟨b7, c20, rfl, m, hb7⟩
 replace hOl := hOl.mv m; replace hb3 := hb3.mv m; replace x1 := x1.mv m; replace x2 := x2.mv m; replace x3 := x3.mv m; replace u1 := u1.mv m; replace u2 := u2.mv m; replace u3 := u3.mv m
 refine WR.eff_ (Eff.storeNC agg26 rfl rfl hb7 rfl rfl ones) ?_
 rintro _ w21 ⟨hS, m⟩
 replace hOl := hOl.mv m; replace hb3 := hb3.mv m; replace x1 := x1.mv m; replace x2 := x2.mv m; replace x3 := x3.mv m; replace u1 := u1.mv m; replace u2 := u2.mv m; replace u3 := u3.mv m
 replace hb7 := hS
 refine za rfl <| cnil <| cseq <| cg <| za rfl <| cnil <| cseq <| cg <| ve (Eff.allocC c20 110 zero26) ?_
 rintro _ w22 ⟨b10, c22, rfl, m, hb10⟩
 replace hOl := hOl.mv m; replace hb3 := hb3.mv m; replace x1 := x1.mv m; replace x2 := x2.mv m; replace x3 := x3.mv m; replace u1 := u1.mv m; replace u2 := u2.mv m; replace u3 := u3.mv m; replace hb7 := hb7.mv m
 refine cnil <| cseq <| cseq <| cg <| vq (Val.loadBN agg26 rfl hb3.blk rfl) <| ve (Eff.pureC c22 1 (Eff.call pf17 rfl (pstate_ok x1.now x2.now x3.now htx))) ?_
 rintro v49 w23 ⟨c23, m, hx23, rfl⟩
 replace hOl := hOl.mv m; replace hb3 := hb3.mv m; replace x1 := x1.mv m; replace x2 := x2.mv m; replace x3 := x3.mv m; replace u1 := u1.mv m; replace u2 := u2.mv m; replace u3 := u3.mv m; replace hb7 := hb7.mv m; replace hb10 := hb10.mv m
 refine cnil <| WC.mono (N := (fun e w' => ∃ (c' : Nat → Nat) (yT yG yS : Value), Sub [(4000000, .tuple #[]), (2, .bool false), (7, .pointer (some ⟨b7, 0, none⟩)), (8, I (if staMay S' then 0 else 1)), (9, I (if staMay S' then 0 else 1)), (10, .pointer (some ⟨b10, 0, none⟩))] e ∧ OldC w c' w' ∧ BlkC c' w' 107 b7 [uT, uG, uS, I X'.next] 26 ∧ BlkC c' w' 110 b10 [yT, yG, yS, I X'.next] 26 ∧ OwnC c' w' 6 60 3 uT X'.things.length (X'.things.flatMap encThg) ∧ OwnC c' w' 6 66 2 uG X'.tags.length (X'.tags.flatMap encTg) ∧ OwnC c' w' 6 63 2 uS X'.sessions.length (X'.sessions.flatMap encSes) ∧ OwnC c' w' 7 60 3 yT X'.things.length (X'.things.flatMap encThg) ∧ OwnC c' w' 7 66 2 yG X'.tags.length (X'.tags.flatMap encTg) ∧ OwnC c' w' 7 63 2 yS X'.sessions.length (X'.sessions.flatMap encSes))) ?_ ?_
 ·refine WC.cond rfl (fun hc14 => ?_) (fun hc14 => ?_)
  ·try simp only [tstS] at hc14
   have hm : staMay S' = true := by assumption
   rw [hm, if_pos rfl] at hX
   subst hX
   refine cg <| vq (Val.loadBN agg26 rfl hb3.blk rfl) <| ve (Eff.pureC c23 7 (Eff.call pf18 rfl (popened_ok x1.now x2.now x3.now hB'))) ?_
   rintro v51 w24 ⟨c24, m, hx24, ⟨yT, yG, rfl, y1, y2⟩⟩
   replace hOl := hOl.mv m; replace u1 := u1.mv m; replace u2 := u2.mv m; replace u3 := u3.mv m; replace hb7 := hb7.mv m; replace hb10 := hb10.mv m
   replace y1 := y1.toC hx24
   replace y2 := y2.toC hx24
   have pa := y1.oneC; have pb := y2.oneC
   refine za rfl <| WR.eff_ (Eff.storeNC agg26 rfl rfl hb10 rfl rfl ones) ?_
   rintro _ w25 ⟨hS, m⟩
   replace hOl := hOl.mv m; replace u1 := u1.mv m; replace u2 := u2.mv m; replace u3 := u3.mv m; replace hb7 := hb7.mv m; replace y1 := y1.mv m; replace y2 := y2.mv m
   replace hb10 := hS
   refine cnil ?_
   rw [hm]
   exact ⟨_, yT, yG, .slice none 0 0, subs, hOl, hb7, hb10, u1, u2, u3, y1, y2, OwnC.nil _ _ _ _ _⟩
  try simp only [tstS] at hc14
  refine cskip ?_
  have hm : staMay S' = false := by simp_all
  rw [hm] at hX ⊢
  simp only [Bool.false_eq_true, if_false] at hX
  subst hX
  exact ⟨_, _, _, _, subs, hOl, hb7, hb10, u1, u2, u3, OwnC.nil _ _ _ _ _, OwnC.nil _ _ _ _ _, OwnC.nil _ _ _ _ _⟩
 rintro e8 w8 ⟨c8, yT, yG, yS, hsub, hOl, hb7, hb10, u1, u2, u3, y1, y2, y3⟩
 refine WC.sub hsub ?_
 clear hsub e8
 have pa := y1.oneC; have pb := y2.oneC; have pc := y3.oneC
 refine cseq <| cg <| zm rfl <| ve (Eff.pureC c8 1 (Eff.call pf19 rfl (lnum_ok _))) ?_
 rintro v53 w26 ⟨c26, m, hx26, rfl⟩
 replace hOl := hOl.mv m; replace hb7 := hb7.mv m; replace hb10 := hb10.mv m; replace u1 := u1.mv m; replace u2 := u2.mv m; replace u3 := u3.mv m; replace y1 := y1.mv m; replace y2 := y2.mv m; replace y3 := y3.mv m
 refine zm rfl <| vq (Val.eql rfl rfl) ?_
 rw [decide_eq_true rfl]
 refine zm rfl <| WR.onEq rfl rfl rfl <| vq (Val.loadBN agg26 rfl hb7.blk rfl) <| WR.onEq rfl rfl rfl <| vq (Val.loadBN agg26 rfl hb10.blk rfl) <| WR.onEq rfl rfl rfl <| ve (Eff.pureC c26 1 (Eff.call pf20 rfl (eqState_ok (u1.rdT hBX.l1 hBX.r1).now (u2.rdG hBX.l2 hBX.r2).now (u3.rdS hBX.l3 hBX.r3).now (y1.rdT hBX.l1 hBX.r1).now (y2.rdG hBX.l2 hBX.r2).now (y3.rdS hBX.l3 hBX.r3).now))) ?_
 rintro v59 w27 ⟨c27, m, hx27, rfl⟩
 replace hOl := hOl.mv m
 rw [decide_eq_true rfl]
 refine WR.pickOn (by rfl) rfl rfl rfl ?_
 refine zm rfl <| WR.onEq rfl rfl rfl <| ve (Eff.pureC c27 1 (Eff.call pf21 rfl (lwakes_ok))) ?_
 rintro v62 w28 ⟨c28, m, hx28, rfl⟩
 replace hOl := hOl.mv m
 refine WR.pickOn (by rfl) rfl rfl rfl ?_
 refine za rfl <| cnil <| WC.ret1 rfl rfl ?_
 exact ⟨hOl.below, rfl⟩
end Go.Proofs.YtdlpibhecdfbcabGreatDoor

namespace Go.Eng
open Go Go.RowKit
section
variable {H : Type} {enc : TypeId × Value → H} {P : Program} {W : World} {base : Nat} {sp : Nat → Bool} {held : Bool}
def Opens (enc : TypeId × Value → H) (P : Program) (W : World) (base : Nat) (sp : Nat → Bool) (held : Bool) {α : Type} (s : Shape α) (ok : α → Prop) (e : TypeId) : Prop :=
  ∀ n cs y, DataW.trod enc P W base sp held n e cs = some y → (∀ x ∈ DataW.weights P e y.1, x ≤ reachBytes) → ∃ x, s.rd W.heap.size W cs x ∧ ok x
theorem weightsAll_mem {P : Program} {e : TypeId} : ∀ {l : List (DataW H)} {d : DataW H}, d ∈ l → ∀ n ∈ d.weights P e, n ∈ DataW.weightsAll P e l
  | x :: r, d, hd, n, hn => by
    simp only [DataW.weightsAll, List.mem_append]
    rcases List.mem_cons.1 hd with rfl | hd
    · exact .inl hn
    · exact .inr (weightsAll_mem hd n hn)
theorem open_rd {α : Type} {s : Shape α} {ok : α → Prop} {t e : TypeId} {n : Nat} {v : Value} {y : DataW H × List MemPlace} (ht : P.underlying t = some (.slice e)) (hc : P.cellsOf e = s.size) (hs0 : 0 < s.size) (hb : 1 ≤ P.bytesOf e) (he : Opens enc P W base sp held s ok e)
   (h : DataW.trod enc P W base sp held n t [v] = some y) (hw : ∀ x ∈ DataW.weights P t y.1, x ≤ reachBytes) : ∃ l, RdS s W.heap.size W v l ∧ (∀ x ∈ l, ok x) ∧ l.length * P.bytesOf e ≤ 140737488351232 := by
 rcases DataW.trod_slice ht h with ⟨h0, _⟩ | ⟨a, len, cap, elems, rest, n', _, h0, rfl, _, hl, hm, hlen, hel, _, _⟩
 · have : v = .slice none 0 0 := by simpa using h0
   subst this
   exact ⟨[], RdS.nil _ _ _, by simp, by simp⟩
 have : v = .slice (some a) len cap := by simpa using h0
 subst this
 have hwt : (elems.length + rest.length) * P.bytesOf e ≤ reachBytes ∧ ∀ d ∈ elems, ∀ x ∈ DataW.weights P e d.1, x ≤ reachBytes := by
   constructor
   · have := hw (((elems.map (·.1)).length + (rest.map (·.1)).length) * P.bytesOf e) (by simp only [DataW.weights, ht, List.mem_cons]; exact Or.inl trivial)
     simpa using this
   intro d hd x hx
   refine hw x ?_
   simp only [DataW.weights, ht, List.mem_cons, List.mem_append]
   exact .inr (.inl (weightsAll_mem (List.mem_map.2 ⟨d, hd, rfl⟩) x hx))
 have hcap : len ≤ 140737488351232 := by
   have h1 := hwt.1
   have h2 : (elems.length + rest.length) * 1 ≤ (elems.length + rest.length) * P.bytesOf e := Nat.mul_le_mul_left _ hb
   simp only [reachBytes] at h1
   omega
 have key : ∀ i, i < len → ∃ (x : α), (∃ (cs : List Value), cellsAt W (a.add (i * s.size)) cs ∧ s.rd W.heap.size W cs x) ∧ ok x := by
   intro i hi
   have h1 := hel i hi
   rw [List.getElem?_eq_getElem (by omega)] at h1
   obtain ⟨cs, hcs, htr⟩ := Option.bind_eq_some_iff.1 h1
   obtain ⟨_, hlc, hcell⟩ := World.cells?_some hcs
   obtain ⟨x, hx, hok⟩ := he _ cs _ htr (hwt.2 _ (List.getElem_mem _))
   refine ⟨x, ⟨cs, fun j u hj => ?_, hx⟩, hok⟩
   have hjl : j < cs.length := by
     rcases Nat.lt_or_ge j cs.length with h' | h'
     · exact h'
     rw [List.getElem?_eq_none h'] at hj; cases hj
   rw [← hc, hcell j (by omega)]
   exact hj
 refine ⟨List.ofFn fun i : Fin len => (key i i.2).choose, ⟨?_, ?_, ?_, ?_⟩, ?_, ?_⟩
 · refine ⟨some a, cap, by rw [List.length_ofFn], by rw [List.length_ofFn]; exact hl, hm, fun b hb' h0 => ?_⟩
   injection hb' with hb'
   subst hb'
   rw [List.length_ofFn] at h0
   obtain ⟨x, ⟨cs, hca, hx⟩, _⟩ := key 0 h0
   have hl2 := s.len hx
   have := hca.block (by omega)
   rwa [add_block] at this
 · intro i x hi
   have hil : i < len := by
     rcases Nat.lt_or_ge i len with h' | h'
     · exact h'
     rw [List.getElem?_eq_none (by rw [List.length_ofFn]; exact h')] at hi; cases hi
   rw [List.getElem?_eq_getElem (by rw [List.length_ofFn]; exact hil)] at hi
   simp only [List.getElem_ofFn, Option.some.injEq] at hi
   subst hi
   exact (key i hil).choose_spec.1
 · intro _; exact ⟨a, cap, by rw [List.length_ofFn]⟩
 · rw [List.length_ofFn]; omega
 · intro x hx
   rw [List.mem_ofFn] at hx
   obtain ⟨i, rfl⟩ := hx
   exact (key i i.2).choose_spec.2
 rw [List.length_ofFn]
 have h1 := hwt.1
 have h2 : len * P.bytesOf e ≤ (elems.length + rest.length) * P.bytesOf e := Nat.mul_le_mul_right _ (by omega)
 simp only [reachBytes] at h1
 omega
theorem trod_i64 {e : TypeId} {n : Nat} {cs : List Value} {y : DataW H × List MemPlace} (he : P.underlying e = some (.int .i64)) (h : DataW.trod enc P W base sp held n e cs = some y) : ∃ k, cs = [I k] ∧ Int64 k := by
  obtain ⟨k, rfl, _, hw⟩ := DataW.trod_int he h
  have h2 : -9223372036854775808 ≤ k ∧ k ≤ 9223372036854775807 := by simpa [Lit.wf, IntKind.min, IntKind.max, IntKind.signed, IntKind.bits] using hw
  exact ⟨k, rfl, h2⟩
theorem trod_str {e : TypeId} {n : Nat} {cs : List Value} {y : DataW H × List MemPlace} (he : P.underlying e = some .string) (h : DataW.trod enc P W base sp held n e cs = some y) (hw : ∀ x ∈ DataW.weights P e y.1, x ≤ reachBytes) : ∃ l, cs = [St l] ∧ l.length ≤ 140737488351232 := by
  obtain ⟨s, rfl, rfl, _⟩ := DataW.trod_string he h
  have := hw s.data.toList.length (by simp [DataW.weights])
  exact ⟨s.data.toList, rfl, by simp only [reachBytes] at this; omega⟩
end
end Go.Eng

namespace Go.Eng
open Go Go.RowKit
section
variable {H : Type} {enc : TypeId × Value → H} {P : Program} {W : World} {base : Nat} {sp : Nat → Bool} {held : Bool}
end
end Go.Eng

namespace Go.Proofs.YtdlpibhecdfbcabGreatDoor
open Go Go.Eng Go.ChangeShapes Go.WideShapes Go.ChangeAt Go.RowKit
section
variable {H : Type} {enc : TypeId × Value → H} {P : Program}
theorem post_of_below {f : Func} {s : ChangeSpec} {apart fresh handsOn again : Bool} {W W' : World} {args : Array Value} {v : Value} {ds gs : List (DataW H)} {before pa pv : List MemPlace}
   (hW : DataW.Whole enc P f.params.toList s.vars apart W args.toList ds gs before)
   (hres : ∀ (b : Nat) (sp : Nat → Bool) (hd : Bool), DataW.TrodAll enc P W' b sp hd f.resultTypes.toList (v.resultList f.resultTypes.size) (s.fn H (ds ++ gs)).results [])
   (hargs : ∀ sp : Nat → Bool, (∀ p ∈ before, sp p.block = true) → DataW.TrodAll enc P W' 0 sp true f.params.toList args.toList (s.fn H (ds ++ gs)).args pa)
   (hvars : ∀ sp : Nat → Bool, (∀ p ∈ before, sp p.block = true) → DataW.TrodVars enc P W' sp s.vars (s.fn H (ds ++ gs)).vars pv)
   (hps : before = pa ++ pv) (hb : Below W.heap.size W W')
   (hok : ∀ (j : Nat) (t : TypeId) (r : Value), f.resultTypes[j]? = some t → (v.resultList f.resultTypes.size)[j]? = some r → Value.okWide P W' .any 0 t r) :
   s.post enc P f apart fresh handsOn again W args v W' := by
 have hlt : ∀ p ∈ before, p.block < W.heap.size := fun p hp => hW.lt p hp
 have hold : ∀ p ∈ before, (fun b => decide (b < W.heap.size)) p.block = true := fun p hp => by simpa using hlt p hp
 refine ⟨ds, gs, before, [], pa, pv, hW, hres _ _ _, hargs _ hold, hvars _ hold, World.keptBut_mono (fun p hp => ⟨hp, ?_⟩) (hb.frame (· ∈ before)), fun _ => ?_⟩
 · rw [hps, List.mem_append] at hp
   exact Or.inr hp
 obtain ⟨_, _, _, _, _, hz, hn⟩ := hW
 refine ⟨hok, _, _, ([] ++ pa) ++ pv, ⟨[] ++ pa, pv, trodAll_append (hargs _ (fun _ _ => rfl)) (hres _ _ _), hvars _ (fun _ _ => rfl), rfl, ?_, ?_⟩, ?_⟩
 · intro b off hp
   have hin : MemPlace.cell b off ∈ before := by rw [hps]; simpa using hp
   rw [hb.frozen (hlt _ hin)]
   exact hz b off hin
 · intro ha
   have := hn ha
   rw [hps] at this
   simpa using this
 intro p hp _
 rw [hps]
 simpa using hp
end
theorem own : ownKnob Tryz.prog.godebug = none := by kernel_rfl
theorem laidOut : laidOutB Tryz.prog = true := by kernel_rfl
theorem cells_int : Tryz.prog.cellsOf 3 = 1 := by kernel_rfl
theorem cells_str : Tryz.prog.cellsOf 9 = 1 := by kernel_rfl
end Go.Proofs.YtdlpibhecdfbcabGreatDoor
