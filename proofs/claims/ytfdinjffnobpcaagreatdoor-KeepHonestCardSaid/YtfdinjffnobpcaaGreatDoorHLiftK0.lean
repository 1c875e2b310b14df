/- The law, lifted: its row's facts. No condition. -/
import Derived.Test.YtfdinjffnobpcaaGreatDoorH6
import Derived.Test.YtfdinjffnobpcaaGreatDoorRows
import Derived.Test.YtfdinjffnobpcaaGreatDoorTie
import Derived.Test.YtfdinjffnobpcaaGreatDoorCards
import Derived.Lay
import Derived.Stop.Joined
import Derived.ProofKit
import Derived.SizedLaws
import Derived.Below
set_option linter.unusedSimpArgs false
set_option linter.unusedVariables false
set_option maxRecDepth 100000
set_option maxHeartbeats 4000000
open Go.Proofs.K
namespace Go.Proofs.YtfdinjffnobpcaaGreatDoor
open Go Go.Eng Go.ChangeShapes Go.WideShapes Go.ChangeAt Go.RowKit
section
variable {H:Type} {enc:TypeId×Value→H} {P:Program}
theorem Ui{f:Func}{s:ChangeSpec}{apart fresh b1 a8:Bool}{W i:World}{args:Array Value}{v:Value}{ds l:List (DataW H)}{g pa pv:List MemPlace}
 (C:DataW.Whole enc P f.params.toList s.vars apart W args.toList ds l g)
 (a6:∀(b:Nat) (sp:Nat→Bool) (hd:Bool),DataW.TrodAll enc P i b sp hd f.resultTypes.toList (v.resultList f.resultTypes.size) (s.fn H (ds++l)).results [])
 (I:∀sp:Nat→Bool,(∀p∈g,sp p.block=true)→DataW.TrodAll enc P i 0 sp true f.params.toList args.toList (s.fn H (ds++l)).args pa)
 (a7:∀sp:Nat→Bool,(∀p∈g,sp p.block=true)→DataW.TrodVars enc P i sp s.vars (s.fn H (ds++l)).vars pv)
 (o:g=pa++pv)(J:Below W.heap.size W i)
 (b3:∀(j:Nat) (t:TypeId) (r:Value),f.resultTypes[j]?=some t→(v.resultList f.resultTypes.size)[j]?=some r→Value.okWide P i .any 0 t r):
 s.post enc P f apart fresh b1 a8 W args v i:=by
 have U:∀p∈g,p.block<W.heap.size:=fun p hp=>C.lt p hp
 have a1:∀p∈g,(fun b=>decide (b<W.heap.size)) p.block=true:=fun p hp=>by simpa using U p hp
 refine⟨ds,l,g,[],pa,pv,C,a6 _ _ _,I _ a1,a7 _ a1,World.keptBut_mono (fun p hp=>⟨hp,?_⟩) (J.frame (·∈g)),fun _=>?_⟩
 ·rw[o,List.mem_append] at hp
  exact Or.inr hp
 ·obtain⟨_,_,_,_,_,b4,b2⟩:=C
  refine⟨b3,_,_,([]++pa)++pv,⟨[]++pa,pv,trodAll_append (I _ (fun _ _=>rfl)) (a6 _ _ _),a7 _ (fun _ _=>rfl),rfl,?_,?_⟩,?_⟩
  ·intro b off hp
   have R:MemPlace.cell b off∈g:=by rw[o];simpa using hp
   rw[J.frozen (U _ R)]
   exact b4 b off R
  ·intro b0
   have:=b2 b0
   rw[o] at this
   simpa using this
  ·intro p hp _
   rw[o]
   simpa using hp
end
theorem own:ownKnob Tryz.prog.godebug=none:=by kernel_rfl
theorem laidOut:laidOutB Tryz.prog=true:=by kernel_rfl
theorem Kn:Tryz.prog.cellsOf 3=1:=by kernel_rfl
theorem VJ:Tryz.prog.cellsOf 9=1:=by kernel_rfl
theorem VK:1≤Tryz.prog.bytesOf 3:=of_decide_eq_true (by kernel_rfl)
theorem ZZ:Tryz.prog.cellsOf 23=1:=by kernel_rfl
theorem aa:Tryz.prog.cellsOf 40=7:=by kernel_rfl
theorem VL:Tryz.prog.cellsOf 98=4:=by kernel_rfl
theorem lx:Tryz.prog.cellsOf 26=1:=by kernel_rfl
theorem ly:Tryz.prog.cellsOf 22=1:=by kernel_rfl
theorem VM:Tryz.prog.cellsOf 25=7:=by kernel_rfl
theorem gx:Tryz.prog.cellsOf 28=9:=by kernel_rfl
theorem lz:1≤Tryz.prog.bytesOf 40:=of_decide_eq_true (by kernel_rfl)
theorem gy:1≤Tryz.prog.bytesOf 98:=of_decide_eq_true (by kernel_rfl)
theorem bU{H:Type}{enc:TypeId×Value→H}{W:World}{base:Nat}{sp:Nat→Bool}{held:Bool}{v:Value}{d:DataW H}{ps:List MemPlace}
 (J:Value.okWide Tryz.prog W .any base 28 v)(h:DataW.Trod enc Tryz.prog W base sp held 28 v d ps)(f:∀x∈DataW.weights Tryz.prog 28 d,x≤reachBytes):
 ∃g i j l o vL t r p,∃(L:List Silo.Py) (K:List Int) (O:List Silo.Kf) (D:List Int),v= .agg #[I g,I i,I j,I l,I o,vL,t,r,p]∧(Int64 g∧Int64 i∧Int64 j∧Int64 l∧Int64 o)∧Rd Silo.Pz W vL L∧Rd Bw W t K∧Rd Silo.ew W r O∧Rd Bw W p D:=by
 have C:=fun n cs y h f=>bK (enc:=enc) (P:=Tryz.prog) (W:=W) (base:=base) (sp:=sp) (held:=held) (n:=n) (cs:=cs) (y:=y) Tryz.underlying25 rfl Tryz.underlying3 Tryz.underlying3 Tryz.underlying3 Tryz.underlying3 Tryz.underlying3 Tryz.underlying22 Tryz.underlying23 (by rw[Kn,ly,ZZ]) VM
  (gp Tryz.underlying98 rfl Tryz.underlying3 Tryz.underlying3 Tryz.underlying3 Tryz.underlying9 (by rw[Kn,VJ]) VL)
  (Us Tryz.underlying3) VL Kn gy VK h f
 exact bM Tryz.underlying28 rfl (by rw[VM,lx,ZZ]) gx C Tryz.underlying26
  (li Tryz.underlying40 rfl Tryz.underlying3 Tryz.underlying3 Tryz.underlying3 Tryz.underlying3 Tryz.underlying9 Tryz.underlying9 Tryz.underlying9 (by rw[Kn,VJ]) aa) aa lz Tryz.underlying23
  (Us Tryz.underlying3) Kn VK J h f
end Go.Proofs.YtfdinjffnobpcaaGreatDoor
