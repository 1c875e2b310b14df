/- The law, lifted: its row's facts. No condition. -/
import Derived.Test.YtfgkcfdgepnhpaaGreatDoorCLiftE1
import Derived.Test.YtfgkcfdgepnhpaaGreatDoorRows
import Derived.Test.YtfgkcfdgepnhpaaGreatDoorCards
import Derived.JoinedOf
set_option linter.unusedSimpArgs false
set_option linter.unusedVariables false
set_option maxRecDepth 100000
set_option maxHeartbeats 4000000
open Go.Eng
namespace Go.Proofs.YtfgkcfdgepnhpaaGreatDoor
open Go Go.ChangeShapes Go.WideShapes
theorem Lx:Tryz.prog.funcNamed "silo/silolaw23.PoolEven"=some 3:=by kernel_rfl
theorem kc1:Rows.poolEvenRow.wfByText (OpenSpec.ofChange Rows.poolEvenSpec)=true:=by kernel_rfl
theorem kc2:Tryz.prog.mainIs=some (Rows.poolEvenCard.stood.harness.1,Rows.poolEvenCard.stood.harness.2.toList):=by kernel_rfl
theorem kc3:false=Tryz.prog.looks []:=by kernel_rfl
theorem kc4:([25].all fun u=> !Tryz.prog.wantsStandIn u)=true:=by kernel_rfl
theorem rY{P:Program}(h:(P.funcs.toList.all fun f=> !f.goes)=true)(f:FuncId):P.goes f=false:=by
 have i:∀x∈P.funcs.toList,x.goes=false:=fun x hx=>by simpa using List.all_eq_true.1 h x hx
 have j:∀g:FuncId,(P.funcs[g]?).any Func.goes=false:=fun g=>by
  cases hg:P.funcs[g]? with
  |none=>rfl
  |some x=>exact i x (Array.mem_toList_iff.2 (Array.mem_of_getElem? hg))
 have l:P.funcs.any Func.goes=false:=by
  rw[←Array.any_toList,List.any_eq_false]
  exact fun x hx=>by rw[i x hx];simp
 rw[Program.goes,l,Bool.and_false,Bool.or_false,List.any_eq_false]
 exact fun g _=>by rw[j g];simp
theorem kg:(Tryz.prog.funcs.toList.all fun f=> !f.goes)=true:=by kernel_rfl
theorem kc5:false=Rows.poolEvenRow.goesBy Tryz.prog:=by
 show false=(((Tryz.prog.funcNamed "silo/silolaw23.PoolEven").any Tryz.prog.goes)||false)
 rw[Lx,Option.any_some,rY kg];rfl
theorem WN:Tryz.f3.isWrapper Tryz.prog Rows.poolEvenRow.wrapper Rows.poolEvenRow.mainSum:=by
 unfold Func.isWrapper
 first|(rw[if_pos (by as_aux_lemma=>decide+kernel)];as_aux_lemma=>kernel_rfl)|(rw[if_neg (by as_aux_lemma=>decide+kernel)];exact⟨rfl,rfl⟩)
theorem WO:Tryz.f3.isInstance Tryz.prog Rows.poolEvenRow.origin Rows.poolEvenRow.targs:=of_decide_eq_true (by as_aux_lemma=>kernel_rfl)
end Go.Proofs.YtfgkcfdgepnhpaaGreatDoor
