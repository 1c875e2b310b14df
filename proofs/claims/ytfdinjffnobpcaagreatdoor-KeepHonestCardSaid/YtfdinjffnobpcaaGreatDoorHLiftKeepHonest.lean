/- The law, lifted: its row's facts. No condition. -/
import Derived.Test.YtfdinjffnobpcaaGreatDoorHLiftK2
set_option linter.unusedSimpArgs false
set_option linter.unusedVariables false
set_option maxRecDepth 100000
set_option maxHeartbeats 4000000
open Go.Proofs.K
namespace Go.Proofs.YtfdinjffnobpcaaGreatDoor
open Go Go.Eng Go.ChangeShapes Go.WideShapes Go.ChangeAt Go.RowKit
theorem PB(os:Os)(b6:os.Started)(H:Type)(enc:TypeId×Value→H):
 ReturnsInHanded {} Tryz.checked os 3 .any (fun w args=>(Rows.keepHonestSpec.pre enc Tryz.prog Tryz.f3 Rows.keepHonestRow.domain false w args∧laidMetH Tryz.prog Rows.keepHonestRow.laid w)∧sizedMet enc Tryz.prog Tryz.f3 (OpenSpec.ofChange Rows.keepHonestSpec) false w args)
  (Rows.keepHonestSpec.post enc Tryz.prog Tryz.f3 false true false false):=by
 refine returnsInHanded_of_change_and (C:=Tryz.checked) (X:=fun w _=>laidMetH Tryz.prog Rows.keepHonestRow.laid w) (fun _ _ _ hh h=>h.of_heap hh) own b6 (by kernel_rfl) Tryz.func3
  (ChangeSpec.witness_shaped (enc:=enc) (C:=Tryz.checked) (os:=os) (X:=fun w _=>laidMetH Tryz.prog Rows.keepHonestRow.laid w) false (World.laidAll Tryz.prog os Rows.keepHonestRow.laid) #[.agg #[.int .i64 0, .int .i64 0, .int .i64 0, .int .i64 0, .int .i64 0, .slice none 0 0, .slice none 0 0, .slice none 0 0, .slice none 0 0]] 8 (World.laidAll_os _ _ _)
   (World.shaped_of_ZipB (by kernel_rfl) (by kernel_rfl)) (by kernel_rfl) (by kernel_rfl) (by kernel_rfl)
   (by rw[MakeChecks.laidMetH_plain _ _ _ (by kernel_rfl)];exact laidMet_laidAll _ (by kernel_rfl) (by kernel_rfl))) ?_
 intro W base args ds a6 b9 U o _ J _ _
 have R:∀(j:Nat) t v,Tryz.f3.params[j]?=some t→args[j]?=some v→Value.okWide Tryz.prog W .any base t v:=U
 have I:(DataW.weightsEach Tryz.prog (Tryz.f3.params.toList++Rows.keepHonestSpec.plain.varTypes Tryz.prog) (ds++a6)).all (·≤reachBytes)=true:=J
 have f:=o
 obtain⟨p,q,l,a7,rfl,c0,c1⟩:=o
 have i:DataW.TrodAll enc Tryz.prog W 0 (fun _=>true) true Tryz.f3.params.toList args.toList ds p:=l
 rw[Tryz.params3] at i R I
 obtain⟨b7,a1,rfl,rfl,g⟩:=trodAll_one i
 obtain⟨rfl,rfl⟩:=trodVars_none a7
 clear l U J
 simp only[List.append_nil] at f
 have b1:∀x∈DataW.weights Tryz.prog 28 a1,x≤reachBytes:=fun x hx=>by
  have:=List.all_eq_true.1 I x (DataW.weights_mem_each (j:=0) rfl rfl x hx)
  simpa using this
 have b0:∀x∈p,x.block<W.heap.size:=fun x hx=>f.lt x hx
 obtain⟨c2,c3,c4,c5,c6,vL,c9,c8,c7,L,K,O,D,rfl,hi,b2,b3,b4,b5⟩:=bU (base:=0) (R 0 28 b7 rfl rfl) g b1
 refine(Uh hi b2 b3 b4 b5).mono fun e b8 a8=>?_
 obtain⟨v,rfl,r,rfl⟩:=a8
 exact⟨_,rfl,Ui (pa:=p) (pv:=[]) f (fun _ _ _=>trodAll_mk1 (shut_bool Tryz.underlying4 true)) (fun sp hs=>trodAll_mk1 (WideElems.Trod_stays laidOut (by kernel_rfl) (of_decide_eq_true (by kernel_rfl)) g (fun x hx=>r.same (b0 x hx)) (fun x hx=>hs x hx)))
  (fun _ _=>rfl) (by simp) r (ok_one (by kernel_rfl) rfl (okWide_bool_mk Tryz.underlying4 true))⟩
theorem Qy:Rows.KeepHonestSaid:=
 OpenClaim.holds_of_wide 3 Tryz.f3 rfl rfl rfl rfl rfl rfl rfl ⟨rfl,rfl,rfl,rfl,rfl⟩ rfl rfl rfl rfl rfl HM Tryz.func3 oy Rx Rw
  (fun os f H enc _=>PB os f H enc)
theorem keepHonest_card:Rows.KeepHonestCardSaid:=
 Claim7.holds_tied_plain_at .later [] [.data, .pinned] true Rows.keepHonestCard.stood.harness false Qy (fun _ h=>by cases h) zG (fun _ h=>by cases h) keepHonest_row_tie rfl ⟨rfl,rfl⟩ zH rfl
  (fun f fn g i=>by
   obtain rfl:f=3:=Option.some.inj (HM.symm.trans g) |>.symm
   obtain rfl:fn=Tryz.f3:=(Option.some.inj (Tryz.func3.symm.trans i)).symm
   exact⟨zI,fun j t ht=>by
    rw[Tryz.params3] at ht
    have l:t∈[28]:=by simpa using Array.mem_of_getElem? ht
    exact(show Tryz.prog.wantsStandIn t=false by simpa using List.all_eq_true.1 zJ t l)⟩)
  zK
#print axioms keepHonest_card
end Go.Proofs.YtfdinjffnobpcaaGreatDoor
