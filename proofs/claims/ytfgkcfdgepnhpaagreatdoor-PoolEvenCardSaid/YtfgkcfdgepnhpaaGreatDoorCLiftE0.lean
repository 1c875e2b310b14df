/- The law, lifted: its row's facts. No condition. -/
import Derived.Test.YtfgkcfdgepnhpaaGreatDoorC6
import Derived.Test.YtfgkcfdgepnhpaaGreatDoorRows
import Derived.Test.YtfgkcfdgepnhpaaGreatDoorTie
import Derived.Test.YtfgkcfdgepnhpaaGreatDoorCards
import Derived.Lay
import Derived.Stop.Joined
import Derived.ProofKit
import Derived.SizedLaws
import Derived.Below
set_option linter.unusedSimpArgs false
set_option linter.unusedVariables false
set_option maxRecDepth 100000
set_option maxHeartbeats 4000000
open Go.Eng
namespace Go.Proofs.YtfgkcfdgepnhpaaGreatDoor
open Go Go.Eng Go.ChangeShapes Go.WideShapes Go.ChangeAt Go.RowKit
section
variable {H:Type} {enc:TypeId×Value→H} {P:Program}
theorem WM{f:Func}{s:ChangeSpec}{apart fresh b1 a8:Bool}{W i:World}{args:Array Value}{v:Value}{ds l:List (DataW H)}{g pa pv:List MemPlace}
 (C:DataW.Whole enc P f.params.toList s.vars apart W args.toList ds l g)
 (a6:∀(b:Nat) (sp:Nat→Bool) (hd:Bool),DataW.TrodAll enc P i b sp hd f.resultTypes.toList (v.resultList f.resultTypes.size) (s.fn H (ds++l)).results [])
 (I:∀sp:Nat→Bool,(∀p∈g,sp p.block=true)→DataW.TrodAll enc P i 0 sp true f.params.toList args.toList (s.fn H (ds++l)).args pa)
 (a7:∀sp:Nat→Bool,(∀p∈g,sp p.block=true)→DataW.TrodVars enc P i sp s.vars (s.fn H (ds++l)).vars pv)
 (o:g=pa++pv)(J:Below W.heap.size W i)
 (b3:∀(j:Nat) (t:TypeId) (r:Value),f.resultTypes[j]?=some t→(v.resultList f.resultTypes.size)[j]?=some r→Value.okWide P i .any 0 t r):
 s.post enc P f apart fresh b1 a8 W args v i:=by
 have U:∀p∈g,p.block<W.heap.size:=fun p hp=>C.lt p hp
 have a1:∀p∈g,(fun b=>decide (b<W.heap.size)) p.block=true:=fun p hp=>by simpa using U p hp
 refine⟨ds,l,g,[],pa,pv,C,a6 _ _ _,I _ a1,a7 _ a1,World.keptBut_mono (fun p hp=>⟨hp,?_⟩) (J.frame (·∈g)),fun _=>?_⟩
 ·rw[o,List.mem_append] at hp
  exact Or.inr hp
 ·obtain⟨_,_,_,_,_,b4,b2⟩:=C
  refine⟨b3,_,_,([]++pa)++pv,⟨[]++pa,pv,trodAll_append (I _ (fun _ _=>rfl)) (a6 _ _ _),a7 _ (fun _ _=>rfl),rfl,?_,?_⟩,?_⟩
  ·intro b off hp
   have R:MemPlace.cell b off∈g:=by rw[o];simpa using hp
   rw[J.frozen (U _ R)]
   exact b4 b off R
  ·intro b0
   have:=b2 b0
   rw[o] at this
   simpa using this
  ·intro p hp _
   rw[o]
   simpa using hp
end
theorem own:ownKnob Tryz.prog.godebug=none:=by kernel_rfl
theorem laidOut:laidOutB Tryz.prog=true:=by kernel_rfl
theorem SG:Tryz.prog.cellsOf 3=1:=by kernel_rfl
theorem kJ:Tryz.prog.cellsOf 9=1:=by kernel_rfl
theorem kK:1≤Tryz.prog.bytesOf 3:=of_decide_eq_true (by kernel_rfl)
theorem pk:Tryz.prog.cellsOf 23=1:=by kernel_rfl
theorem Yy:Tryz.prog.cellsOf 43=4:=by kernel_rfl
theorem pn:Tryz.prog.cellsOf 22=1:=by kernel_rfl
theorem kL:Tryz.prog.cellsOf 25=7:=by kernel_rfl
theorem kM:1≤Tryz.prog.bytesOf 43:=of_decide_eq_true (by kernel_rfl)
theorem ft{H:Type}{enc:TypeId×Value→H}{W:World}{base:Nat}{sp:Nat→Bool}{held:Bool}{v:Value}{d:DataW H}{C:List MemPlace}
 (r:Value.okWide Tryz.prog W .any base 25 v)(h:DataW.Trod enc Tryz.prog W base sp held 25 v d C)(t:∀x∈DataW.weights Tryz.prog 25 d,x≤reachBytes):
 ∃f g i j l vL o,∃(L:List Yc) (K:List Int),v= .agg #[I f,I g,I i,I j,I l,vL,o]∧(Int64 f∧Int64 g∧Int64 i∧Int64 j∧Int64 l)∧Rd RH W vL L∧Rd Cg W o K:=
 eK Tryz.underlying25 rfl Tryz.underlying3 Tryz.underlying3 Tryz.underlying3 Tryz.underlying3 Tryz.underlying3 Tryz.underlying22 Tryz.underlying23 (by rw[SG,pn,pk]) kL
  (jG Tryz.underlying43 rfl Tryz.underlying3 Tryz.underlying3 Tryz.underlying3 Tryz.underlying9 (by rw[SG,kJ]) Yy)
  (hY Tryz.underlying3) Yy SG kM kK r h t
end Go.Proofs.YtfgkcfdgepnhpaaGreatDoor
