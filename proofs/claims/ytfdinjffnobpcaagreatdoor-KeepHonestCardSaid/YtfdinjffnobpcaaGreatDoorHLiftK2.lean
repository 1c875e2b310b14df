/- The law, lifted: its row's facts. No condition. -/
import Derived.Test.YtfdinjffnobpcaaGreatDoorHLiftK1
import Derived.Test.YtfdinjffnobpcaaGreatDoorRows
import Derived.Test.YtfdinjffnobpcaaGreatDoorCards
import Derived.JoinedOf
set_option linter.unusedSimpArgs false
set_option linter.unusedVariables false
set_option maxRecDepth 100000
set_option maxHeartbeats 4000000
open Go.Proofs.K
namespace Go.Proofs.YtfdinjffnobpcaaGreatDoor
open Go Go.ChangeShapes Go.WideShapes
theorem HM:Tryz.prog.funcNamed "silo/silolaw24.KeepHonest"=some 3:=by kernel_rfl
theorem zG:Rows.keepHonestRow.wfByText (OpenSpec.ofChange Rows.keepHonestSpec)=true:=by kernel_rfl
theorem zH:Tryz.prog.mainIs=some (Rows.keepHonestCard.stood.harness.1,Rows.keepHonestCard.stood.harness.2.toList):=by kernel_rfl
theorem zI:false=Tryz.prog.looks []:=by kernel_rfl
theorem zJ:([28].all fun u=> !Tryz.prog.wantsStandIn u)=true:=by kernel_rfl
theorem oz{P:Program}(h:(P.funcs.toList.all fun f=> !f.goes)=true)(f:FuncId):P.goes f=false:=by
 have i:∀x∈P.funcs.toList,x.goes=false:=fun x hx=>by simpa using List.all_eq_true.1 h x hx
 have j:∀g:FuncId,(P.funcs[g]?).any Func.goes=false:=fun g=>by
  cases hg:P.funcs[g]? with
  |none=>rfl
  |some x=>exact i x (Array.mem_toList_iff.2 (Array.mem_of_getElem? hg))
 have l:P.funcs.any Func.goes=false:=by
  rw[←Array.any_toList,List.any_eq_false]
  exact fun x hx=>by rw[i x hx];simp
 rw[Program.goes,l,Bool.and_false,Bool.or_false,List.any_eq_false]
 exact fun g _=>by rw[j g];simp
theorem kg:(Tryz.prog.funcs.toList.all fun f=> !f.goes)=true:=by kernel_rfl
theorem zK:false=Rows.keepHonestRow.goesBy Tryz.prog:=by
 show false=(((Tryz.prog.funcNamed "silo/silolaw24.KeepHonest").any Tryz.prog.goes)||false)
 rw[HM,Option.any_some,oz kg];rfl
theorem Rw:Tryz.f3.isWrapper Tryz.prog Rows.keepHonestRow.wrapper Rows.keepHonestRow.mainSum:=by
 unfold Func.isWrapper
 first|(rw[if_pos (by as_aux_lemma=>decide +kernel)];as_aux_lemma=>kernel_rfl)|(rw[if_neg (by as_aux_lemma=>decide +kernel)];exact⟨rfl,rfl⟩)
theorem Rx:Tryz.f3.isInstance Tryz.prog Rows.keepHonestRow.origin Rows.keepHonestRow.targs:=of_decide_eq_true (by as_aux_lemma=>kernel_rfl)
end Go.Proofs.YtfdinjffnobpcaaGreatDoor
