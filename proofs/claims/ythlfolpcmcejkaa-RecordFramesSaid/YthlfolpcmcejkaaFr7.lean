/- Records spoilt by the law; records compared. No condition. -/
import Derived.Test.YthlfolpcmcejkaaFr6
import Derived.Test.YthlfolpcmcejkaaRec14
set_option linter.unusedSimpArgs false
set_option linter.unusedVariables false
set_option maxRecDepth 100000
namespace Go.Proofs.Ythlfolpcmcejkaa
open Go Go.Eng Go.RowKit Silo TryT

set_option maxHeartbeats 1000000 in
theorem spoilR_ok {c : Nat → Nat} {w : World} {v : Value} {L : List Raw6} (ho : OwnC c w 7 TX 6 v L.length (L.flatMap (·.1))) (hr : AllR c w L) (hn : L.length ≤ 1073741824) : Calls Try.prog 35 #[v] w (Ret fun _ w' => ∃ c', Mv c w c' w' [5, 7] ∧ True) := by
  have hA := Acc.refl c w [5, 7]
  obtain ⟨A, cp, hv, _⟩ := ho.own.len
  refine enter (n := 25) (res := #[]) Try.func35 rfl rfl rfl rfl ?_
  refine cseq <| cg <| za rfl <| cnil <| cblock ?_
  refine WC.loop (σ := Nat) (fun k => [(0, v), (2, I k)]) (fun k w' => ∃ c' L', OwnC c' w' 7 TX 6 v L.length (L'.flatMap (·.1)) ∧ AllR c' w' L' ∧ Acc c w [5, 7] c' w' ∧ L'.length = L.length ∧ k ≤ L.length) (fun k => L.length - k) 0 subs ⟨_, _, ho, hr, hA, rfl, by omega⟩ ?_
  clear ho hr hA
  rintro k wl ⟨cl, L', ho, hr, hA, hL, hk⟩
  refine cseq <| cseq <| cg <| zm rfl <| zm rfl ?_
  subst hv
  refine vq (Val.olen sl22 ho rfl) <| vq (Val.lss rfl rfl) <| cnil ?_
  refine WC.cond rfl (fun hc1 => ?_) (fun hc1 => ?_)
  ·try simp only [tstS] at hc1
   have hk2 : k < L'.length := by omega
   have hX : RdC rawS cl wl [7] (.slice A L.length cp) L' := OwnC.rdFlat (by rw [hL]; exact ho) (by omega) fun _ _ => trivial
   obtain ⟨ca, cb, cd, ce, vl, vs, n1, n2, hcs, y1, y2, y3, y4⟩ := hr.all _ (List.getElem_mem hk2)
   obtain ⟨hc11, _⟩ := RdC.elFlat hX hk2 (by decide)
   have hc17 := hc11
   rw [hcs] at hc11 hc17
   refine cskip <| cseq <| cblock <| cseq <| cg <| zm rfl <| zm rfl <| vq (Val.indexO sl22 ho rfl rfl (by omega) (by omega)) <| vq (Val.fieldAddrP fld31_4 rfl) ?_
   refine vq (Val.loadEf scl24 rfl hc11.cel rfl) ?_
   refine ve (Eff.call pf58 rfl (snumbers_c y1 y2)) ?_
   rintro v14 w1 ⟨c1, hM1, hs1⟩
   replace ho := ho.mv hM1; replace hA := hA.mv hM1; replace hc11 := hc11.mv hM1; replace hc17 := hc17.mv hM1
   replace hr := hr.soft hM1 hs1
   replace y3 := y3.soft hM1 hs1
   refine cnil <| cseq <| cg <| zm rfl <| zm rfl <| vq (Val.indexO sl22 ho rfl rfl (by omega) (by omega)) <| vq (Val.fieldAddrP fld31_5 rfl) <| vq (Val.loadEf scl29 rfl hc17.cel rfl) ?_
   refine ve (Eff.call pf59 rfl (sslots_c y3 y4)) ?_
   rintro v20 w2 ⟨c2, hM2, hs2⟩
   replace ho := ho.mv hM2; replace hA := hA.mv hM2; replace hc11 := hc11.mv hM2; replace hc17 := hc17.mv hM2
   replace hr := hr.soft hM2 hs2
   refine cnil <| cg <| zm rfl <| zm rfl <| vq (Val.build (cells := #[I (-9), I 0, St [], St [], .slice none 0 0, .slice none 0 0]) rfl (by kernel_rfl)) <| vq (Val.indexO sl22 ho rfl rfl (by omega) (by omega)) ?_
   have hn0 : SomeR c2 w2 [I (-9), I 0, St [], St [], .slice none 0 0, .slice none 0 0] := ⟨_, _, _, _, _, _, 0, 0, rfl, ⟨_, OwnC.nil _ _ _ _ _⟩, by omega, ⟨_, OwnC.nil _ _ _ _ _⟩, by omega⟩
   have hr2 : AllR c2 w2 (L'.set k ⟨[I (-9), I 0, St [], St [], .slice none 0 0, .slice none 0 0], rfl, ones⟩) := ⟨fun x hx => by
     rcases List.mem_or_eq_of_mem_set hx with h | rfl
     · exact hr.all x h
     · exact hn0⟩
   refine WR.eff_ (Eff.storeON (j := k) (cs := [I (-9), I 0, St [], St [], .slice none 0 0, .slice none 0 0]) agg31 ho (by omega) rfl rfl rfl ones) ?_
   rintro v24 w3 ⟨c3, hM3, ho3⟩
   replace hA := hA.mv hM3
   replace hr2 := hr2.mv hM3
   rw [raw_put (x := ⟨[I (-9), I 0, St [], St [], .slice none 0 0, .slice none 0 0], rfl, ones⟩) hk2] at ho3
   refine cnil <| cg <| zm rfl <| vq (Val.addI rfl rfl side side) <| za rfl <| cnil ?_
   exact ⟨k + 1, subs, ⟨_, _, ho3, hr2, hA, by rw [List.length_set]; exact hL, by omega⟩, by omega⟩
  ·try simp only [tstS] at hc1
   refine WC.exit rfl ?_
   refine ⟨_, _, rfl, rfl, ?_⟩
   exact ⟨rfl, _, hA.mvs, trivial⟩
end Go.Proofs.Ythlfolpcmcejkaa
