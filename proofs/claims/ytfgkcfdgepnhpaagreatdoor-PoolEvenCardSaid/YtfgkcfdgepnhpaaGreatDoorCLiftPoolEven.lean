/- The law, lifted: its row's facts. No condition. -/
import Derived.Test.YtfgkcfdgepnhpaaGreatDoorCLiftE2
set_option linter.unusedSimpArgs false
set_option linter.unusedVariables false
set_option maxRecDepth 100000
set_option maxHeartbeats 4000000
open Go.Eng
namespace Go.Proofs.YtfgkcfdgepnhpaaGreatDoor
open Go Go.Eng Go.ChangeShapes Go.WideShapes Go.ChangeAt Go.RowKit
theorem TJ(os:Os)(b3:os.Started)(H:Type)(enc:TypeId×Value→H):
 ReturnsInHanded {} Tryz.checked os 3 .any (fun w args=>(Rows.poolEvenSpec.pre enc Tryz.prog Tryz.f3 Rows.poolEvenRow.domain false w args∧laidMetH Tryz.prog Rows.poolEvenRow.laid w)∧sizedMet enc Tryz.prog Tryz.f3 (OpenSpec.ofChange Rows.poolEvenSpec) false w args)
  (Rows.poolEvenSpec.post enc Tryz.prog Tryz.f3 false true false false):=by
 refine returnsInHanded_of_change_and (C:=Tryz.checked) (X:=fun w _=>laidMetH Tryz.prog Rows.poolEvenRow.laid w) (fun _ _ _ hh h=>h.of_heap hh) own b3 (by kernel_rfl) Tryz.func3
  (ChangeSpec.witness_shaped (enc:=enc) (C:=Tryz.checked) (os:=os) (X:=fun w _=>laidMetH Tryz.prog Rows.poolEvenRow.laid w) false (World.laidAll Tryz.prog os Rows.poolEvenRow.laid) #[.agg #[.int .i64 0, .int .i64 0, .int .i64 0, .int .i64 0, .int .i64 0, .slice none 0 0, .slice none 0 0]] 8 (World.laidAll_os _ _ _)
   (World.shaped_of_ZipB (by kernel_rfl) (by kernel_rfl)) (by kernel_rfl) (by kernel_rfl) (by kernel_rfl)
   (by rw[MakeChecks.laidMetH_plain _ _ _ (by kernel_rfl)];exact laidMet_laidAll _ (by kernel_rfl) (by kernel_rfl))) ?_
 intro W base args ds a1 b6 U o _ J _ _
 have R:∀(j:Nat) t v,Tryz.f3.params[j]?=some t→args[j]?=some v→Value.okWide Tryz.prog W .any base t v:=U
 have I:(DataW.weightsEach Tryz.prog (Tryz.f3.params.toList++Rows.poolEvenSpec.plain.varTypes Tryz.prog) (ds++a1)).all (·≤reachBytes)=true:=J
 have f:=o
 obtain⟨p,q,l,a6,rfl,b7,b8⟩:=o
 have i:DataW.TrodAll enc Tryz.prog W 0 (fun _=>true) true Tryz.f3.params.toList args.toList ds p:=l
 rw[Tryz.params3] at i R I
 obtain⟨b4,d0,rfl,rfl,g⟩:=trodAll_one i
 obtain⟨rfl,rfl⟩:=trodVars_none a6
 clear l U J
 simp only[List.append_nil] at f
 have b0:∀x∈DataW.weights Tryz.prog 25 d0,x≤reachBytes:=fun x hx=>by
  have:=List.all_eq_true.1 I x (DataW.weights_mem_each (j:=0) rfl rfl x hx)
  simpa using this
 have a8:∀x∈p,x.block<W.heap.size:=fun x hx=>f.lt x hx
 obtain⟨b9,c0,c1,c2,c3,vL,c4,L,K,rfl,hi,b1,b2⟩:=ft (base:=0) (R 0 25 b4 rfl rfl) g b0
 refine(dw hi b1 b2).mono fun e b5 a7=>?_
 obtain⟨v,rfl,r,rfl⟩:=a7
 exact⟨_,rfl,WM (pa:=p) (pv:=[]) f (fun _ _ _=>trodAll_mk1 (shut_bool Tryz.underlying4 true)) (fun sp hs=>trodAll_mk1 (WideElems.Trod_stays laidOut (by kernel_rfl) (of_decide_eq_true (by kernel_rfl)) g (fun x hx=>r.same (a8 x hx)) (fun x hx=>hs x hx)))
  (fun _ _=>rfl) (by simp) r (ok_one (by kernel_rfl) rfl (okWide_bool_mk Tryz.underlying4 true))⟩
theorem Wm:Rows.PoolEvenSaid:=
 OpenClaim.holds_of_wide 3 Tryz.f3 rfl rfl rfl rfl rfl rfl rfl ⟨rfl,rfl,rfl,rfl,rfl⟩ rfl rfl rfl rfl rfl Lx Tryz.func3 rX WO WN
  (fun os f H enc _=>TJ os f H enc)
theorem poolEven_card:Rows.PoolEvenCardSaid:=
 Claim7.holds_tied_plain_at .later [] [.data, .pinned] true Rows.poolEvenCard.stood.harness false Wm (fun _ h=>by cases h) kc1 (fun _ h=>by cases h) poolEven_row_tie rfl ⟨rfl,rfl⟩ kc2 rfl
  (fun f fn hf g=>by
   obtain rfl:f=3:=Option.some.inj (Lx.symm.trans hf) |>.symm
   obtain rfl:fn=Tryz.f3:=(Option.some.inj (Tryz.func3.symm.trans g)).symm
   exact⟨kc3,fun j t ht=>by
    rw[Tryz.params3] at ht
    have i:t∈[25]:=by simpa using Array.mem_of_getElem? ht
    exact(show Tryz.prog.wantsStandIn t=false by simpa using List.all_eq_true.1 kc4 t i)⟩)
  kc5
#print axioms poolEven_card
end Go.Proofs.YtfgkcfdgepnhpaaGreatDoor
