/- The law, lifted: its row's facts. No condition. -/
import Derived.Test.YtfgkcfdgepnhpaaGreatDoorCLiftE0
import Derived.Test.YtfgkcfdgepnhpaaGreatDoorRows
import Derived.JoinedOf
set_option linter.unusedSimpArgs false
set_option linter.unusedVariables false
set_option maxRecDepth 100000
set_option maxHeartbeats 4000000
open Go.Eng
namespace Go.Proofs.YtfgkcfdgepnhpaaGreatDoor
open Go Go.ChangeShapes Go.WideShapes
theorem kf1:Rows.poolEvenRow.wf (OpenSpec.ofChange Rows.poolEvenSpec)=true:=by kernel_rfl
theorem kf2:laidOutB Tryz.prog=true:=by kernel_rfl
theorem kf3:mapsRowed Tryz.prog=true:=by kernel_rfl
theorem kf4:Tryz.f3.params.all (Tryz.prog.readableRec ·)=true:=by kernel_rfl
theorem kf5:namedTie Tryz.prog Rows.poolEvenRow.named Rows.poolEvenSpec.vars=true:=by kernel_rfl
theorem kf6:(Rows.poolEvenRow.stops==[])=true:=by kernel_rfl
theorem kf7:(Tryz.prog.stops==[])=true:=by kernel_rfl
theorem kf8:(Rows.poolEvenRow.knobs==[])=true:=by kernel_rfl
theorem kf9:(Tryz.prog.stopKnobs==[])=true:=by kernel_rfl
theorem aaV:(Rows.poolEvenRow.inPlace==Tryz.prog.inPlace 3)=true:=by kernel_rfl
theorem aaW:(Rows.poolEvenRow.unfollowed==Tryz.prog.unfollowed 3)=true:=by kernel_rfl
theorem aaX:(Rows.poolEvenRow.recurses==Tryz.prog.recurses 3)=true:=by kernel_rfl
theorem aaY:(Rows.poolEvenRow.named==Tryz.prog.varsNamed 3)=true:=by kernel_rfl
theorem aaZ:(Rows.poolEvenRow.maps==(Tryz.f3.params.toList++Rows.poolEvenSpec.plain.varTypes Tryz.prog).any (Tryz.prog.mapsRec ·))=true:=by kernel_rfl
theorem aa0:(Rows.poolEvenRow.ifaces==(Tryz.f3.params.toList++Rows.poolEvenSpec.plain.varTypes Tryz.prog).any (Tryz.prog.ifacesRec ·))=true:=by kernel_rfl
theorem aa1:(Rows.poolEvenRow.mapsOut==Tryz.prog.mapsAmong Tryz.f3.resultTypes.toList)=true:=by kernel_rfl
theorem aa2:(Rows.poolEvenRow.loops==(Tryz.f3.params.toList++Rows.poolEvenSpec.plain.varTypes Tryz.prog).any (Tryz.prog.loopsFrom ·))=true:=by kernel_rfl
theorem aa3:(Rows.poolEvenRow.wideKeys==(Tryz.f3.params.toList++Rows.poolEvenSpec.plain.varTypes Tryz.prog++Tryz.f3.resultTypes.toList).any (Tryz.prog.wideKeysFrom ·))=true:=by kernel_rfl
theorem aa4:Rows.poolEvenSpec.vars.all (Tryz.prog.varReadable ·)=true:=by kernel_rfl
theorem aa5:Tryz.f3.resultTypes.all (fun t=>Tryz.prog.readableRec t&&decide (t<Tryz.prog.types.size))=true:=by kernel_rfl
theorem aa6:(Rows.poolEvenRow.ifacesOut==Tryz.f3.resultTypes.toList.any (Tryz.prog.ifacesRec ·))=true:=by kernel_rfl
theorem aa7:(Rows.poolEvenRow.loopsOut==Tryz.f3.resultTypes.toList.any (Tryz.prog.loopsFrom ·))=true:=by kernel_rfl
theorem aa8:(Rows.poolEvenRow.plainKeys==Tryz.prog.plainKeys)=true:=by kernel_rfl
theorem aa9:Rows.poolEvenRow.shortTexts.isNone=true:=by kernel_rfl
theorem aba:Tryz.prog.stopsHeard=true:=by kernel_rfl
theorem abb:Tryz.prog.mayEnter=true:=by kernel_rfl
theorem abc:(Rows.poolEvenRow.lifted==Tryz.prog.liftsFinal)=true:=by kernel_rfl
theorem abd:(Tryz.prog.make==some Rows.poolEvenRow.make)=true:=by kernel_rfl
theorem abe:(Rows.poolEvenRow.kinds==(if Rows.poolEvenRow.domain.isEmpty then[] else Tryz.f3.params.toList.map fun t=>match Tryz.prog.underlying t with|some (.int k)=>some k|_=>none))=true:=by kernel_rfl
theorem abf:(Rows.poolEvenRow.pinned==Rows.poolEvenRow.pinnedBy)=true:=by kernel_rfl
theorem abg:(Rows.poolEvenRow.veiled==(Tryz.f3.params.toList++Rows.poolEvenSpec.plain.varTypes Tryz.prog++Tryz.f3.resultTypes.toList).any (Tryz.prog.veiledRec ·))=true:=by kernel_rfl
theorem abh:Rows.poolEvenRow.veiledFits Tryz.prog Tryz.f3.params.toList (Tryz.f3.params.toList++Rows.poolEvenSpec.plain.varTypes Tryz.prog++Tryz.f3.resultTypes.toList)=true:=by kernel_rfl
theorem Iz{a b:Bool}(f:a=true)(g:b=true):(a&&b)=true:=by rw[f,g];rfl
theorem rX:joinedFacts Tryz.prog 3 Tryz.f3 Rows.poolEvenSpec Rows.poolEvenRow=true:=by
 unfold joinedFacts
 exact Iz (Iz (Iz (Iz (Iz (Iz (Iz (Iz (Iz (Iz (Iz (Iz (Iz (Iz (Iz (Iz (Iz (Iz (Iz (Iz (Iz (Iz (Iz (Iz (Iz (Iz (Iz (Iz (Iz (Iz (Iz (kf1) kf2) kf3) kf4) kf5) kf6) kf7) kf8) kf9) aaV) aaW) aaX) aaY) aaZ) aa0) aa1) aa2) aa3) aa4) aa5) aa6) aa7) aa8) aa9) aba) abb) abc) abd) abe) abf) abg) abh
end Go.Proofs.YtfgkcfdgepnhpaaGreatDoor
