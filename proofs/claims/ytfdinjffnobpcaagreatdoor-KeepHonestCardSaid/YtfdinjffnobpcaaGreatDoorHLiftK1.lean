/- The law, lifted: its row's facts. No condition. -/
import Derived.Test.YtfdinjffnobpcaaGreatDoorHLiftK0
import Derived.Test.YtfdinjffnobpcaaGreatDoorRows
import Derived.JoinedOf
set_option linter.unusedSimpArgs false
set_option linter.unusedVariables false
set_option maxRecDepth 100000
set_option maxHeartbeats 4000000
open Go.Proofs.K
namespace Go.Proofs.YtfdinjffnobpcaaGreatDoor
open Go Go.ChangeShapes Go.WideShapes
theorem zx:Rows.keepHonestRow.wf (OpenSpec.ofChange Rows.keepHonestSpec)=true:=by kernel_rfl
theorem zy:laidOutB Tryz.prog=true:=by kernel_rfl
theorem zz:mapsRowed Tryz.prog=true:=by kernel_rfl
theorem zA:Tryz.f3.params.all (Tryz.prog.readableRec ·)=true:=by kernel_rfl
theorem zB:namedTie Tryz.prog Rows.keepHonestRow.named Rows.keepHonestSpec.vars=true:=by kernel_rfl
theorem zC:(Rows.keepHonestRow.stops==[])=true:=by kernel_rfl
theorem zD:(Tryz.prog.stops==[])=true:=by kernel_rfl
theorem zE:(Rows.keepHonestRow.knobs==[])=true:=by kernel_rfl
theorem zF:(Tryz.prog.stopKnobs==[])=true:=by kernel_rfl
theorem yF:(Rows.keepHonestRow.inPlace==Tryz.prog.inPlace 3)=true:=by kernel_rfl
theorem yG:(Rows.keepHonestRow.unfollowed==Tryz.prog.unfollowed 3)=true:=by kernel_rfl
theorem yH:(Rows.keepHonestRow.recurses==Tryz.prog.recurses 3)=true:=by kernel_rfl
theorem yI:(Rows.keepHonestRow.named==Tryz.prog.varsNamed 3)=true:=by kernel_rfl
theorem yJ:(Rows.keepHonestRow.maps==(Tryz.f3.params.toList++Rows.keepHonestSpec.plain.varTypes Tryz.prog).any (Tryz.prog.mapsRec ·))=true:=by kernel_rfl
theorem yK:(Rows.keepHonestRow.ifaces==(Tryz.f3.params.toList++Rows.keepHonestSpec.plain.varTypes Tryz.prog).any (Tryz.prog.ifacesRec ·))=true:=by kernel_rfl
theorem yL:(Rows.keepHonestRow.mapsOut==Tryz.prog.mapsAmong Tryz.f3.resultTypes.toList)=true:=by kernel_rfl
theorem yM:(Rows.keepHonestRow.loops==(Tryz.f3.params.toList++Rows.keepHonestSpec.plain.varTypes Tryz.prog).any (Tryz.prog.loopsFrom ·))=true:=by kernel_rfl
theorem yN:(Rows.keepHonestRow.wideKeys==(Tryz.f3.params.toList++Rows.keepHonestSpec.plain.varTypes Tryz.prog++Tryz.f3.resultTypes.toList).any (Tryz.prog.wideKeysFrom ·))=true:=by kernel_rfl
theorem yO:Rows.keepHonestSpec.vars.all (Tryz.prog.varReadable ·)=true:=by kernel_rfl
theorem yP:Tryz.f3.resultTypes.all (fun t=>Tryz.prog.readableRec t&&decide (t<Tryz.prog.types.size))=true:=by kernel_rfl
theorem yQ:(Rows.keepHonestRow.ifacesOut==Tryz.f3.resultTypes.toList.any (Tryz.prog.ifacesRec ·))=true:=by kernel_rfl
theorem yR:(Rows.keepHonestRow.loopsOut==Tryz.f3.resultTypes.toList.any (Tryz.prog.loopsFrom ·))=true:=by kernel_rfl
theorem yS:(Rows.keepHonestRow.plainKeys==Tryz.prog.plainKeys)=true:=by kernel_rfl
theorem yT:Rows.keepHonestRow.shortTexts.isNone=true:=by kernel_rfl
theorem yU:Tryz.prog.stopsHeard=true:=by kernel_rfl
theorem yV:Tryz.prog.mayEnter=true:=by kernel_rfl
theorem yW:(Rows.keepHonestRow.lifted==Tryz.prog.liftsFinal)=true:=by kernel_rfl
theorem yX:(Tryz.prog.make==some Rows.keepHonestRow.make)=true:=by kernel_rfl
theorem yY:(Rows.keepHonestRow.kinds==(if Rows.keepHonestRow.domain.isEmpty then[] else Tryz.f3.params.toList.map fun t=>match Tryz.prog.underlying t with|some (.int k)=>some k|_=>none))=true:=by kernel_rfl
theorem yZ:(Rows.keepHonestRow.pinned==Rows.keepHonestRow.pinnedBy)=true:=by kernel_rfl
theorem zb:(Rows.keepHonestRow.veiled==(Tryz.f3.params.toList++Rows.keepHonestSpec.plain.varTypes Tryz.prog++Tryz.f3.resultTypes.toList).any (Tryz.prog.veiledRec ·))=true:=by kernel_rfl
theorem zc:Rows.keepHonestRow.veiledFits Tryz.prog Tryz.f3.params.toList (Tryz.f3.params.toList++Rows.keepHonestSpec.plain.varTypes Tryz.prog++Tryz.f3.resultTypes.toList)=true:=by kernel_rfl
theorem GI{a b:Bool}(f:a=true)(g:b=true):(a&&b)=true:=by rw[f,g];rfl
theorem oy:joinedFacts Tryz.prog 3 Tryz.f3 Rows.keepHonestSpec Rows.keepHonestRow=true:=by
 unfold joinedFacts
 exact GI (GI (GI (GI (GI (GI (GI (GI (GI (GI (GI (GI (GI (GI (GI (GI (GI (GI (GI (GI (GI (GI (GI (GI (GI (GI (GI (GI (GI (GI (GI (zx) zy) zz) zA) zB) zC) zD) zE) zF) yF) yG) yH) yI) yJ) yK) yL) yM) yN) yO) yP) yQ) yR) yS) yT) yU) yV) yW) yX) yY) yZ) zb) zc
end Go.Proofs.YtfdinjffnobpcaaGreatDoor
