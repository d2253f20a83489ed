/- What the card of CkptResets asks of the program, fact by fact. No condition. -/
import Derived.Test.YtaplpeoikebedaaGreatDoorRows
import Derived.JoinedOf
import Derived.RowKit
namespace Go.Proofs.YtaplpeoikebedaaGreatDoor.ckptResetsFacts
open Go.RowKit
set_option maxRecDepth 100000
theorem k0 : (Rows.ckptResetsRow.wf (OpenSpec.ofChange Rows.ckptResetsSpec)) = true := by kernel_rfl
theorem k1 : (laidOutB Tryz.prog) = true := by kernel_rfl
theorem k2 : (mapsRowed Tryz.prog) = true := by kernel_rfl
theorem k3 : (Tryz.f13.params.all (Tryz.prog.readableRec ·)) = true := by kernel_rfl
theorem k4 : (namedTie Tryz.prog Rows.ckptResetsRow.named Rows.ckptResetsSpec.vars) = true := by kernel_rfl
theorem k5 : ((Rows.ckptResetsRow.stops == [])) = true := by kernel_rfl
theorem k6 : ((Tryz.prog.stops == [])) = true := by kernel_rfl
theorem k7 : ((Rows.ckptResetsRow.knobs == [])) = true := by kernel_rfl
theorem k8 : ((Tryz.prog.stopKnobs == [])) = true := by kernel_rfl
theorem k9 : ((Rows.ckptResetsRow.inPlace == Tryz.prog.inPlace 13)) = true := by kernel_rfl
theorem k10 : ((Rows.ckptResetsRow.unfollowed == Tryz.prog.unfollowed 13)) = true := by kernel_rfl
theorem k11 : ((Rows.ckptResetsRow.recurses == Tryz.prog.recurses 13)) = true := by kernel_rfl
theorem k12 : ((Rows.ckptResetsRow.named == Tryz.prog.varsNamed 13)) = true := by kernel_rfl
theorem k13 : ((Rows.ckptResetsRow.maps == (Tryz.f13.params.toList ++ Rows.ckptResetsSpec.plain.varTypes Tryz.prog).any (Tryz.prog.mapsRec ·))) = true := by kernel_rfl
theorem k14 : ((Rows.ckptResetsRow.ifaces == (Tryz.f13.params.toList ++ Rows.ckptResetsSpec.plain.varTypes Tryz.prog).any (Tryz.prog.ifacesRec ·))) = true := by kernel_rfl
theorem k15 : ((Rows.ckptResetsRow.mapsOut == Tryz.prog.mapsAmong Tryz.f13.resultTypes.toList)) = true := by kernel_rfl
theorem k16 : ((Rows.ckptResetsRow.loops == (Tryz.f13.params.toList ++ Rows.ckptResetsSpec.plain.varTypes Tryz.prog).any (Tryz.prog.loopsFrom ·))) = true := by kernel_rfl
theorem k17 : ((Rows.ckptResetsRow.wideKeys == (Tryz.f13.params.toList ++ Rows.ckptResetsSpec.plain.varTypes Tryz.prog ++ Tryz.f13.resultTypes.toList).any (Tryz.prog.wideKeysFrom ·))) = true := by kernel_rfl
theorem k18 : (Rows.ckptResetsSpec.vars.all (Tryz.prog.varReadable ·)) = true := by kernel_rfl
theorem k19 : (Tryz.f13.resultTypes.all (fun t => Tryz.prog.readableRec t && decide (t < Tryz.prog.types.size))) = true := by kernel_rfl
theorem k20 : ((Rows.ckptResetsRow.ifacesOut == Tryz.f13.resultTypes.toList.any (Tryz.prog.ifacesRec ·))) = true := by kernel_rfl
theorem k21 : ((Rows.ckptResetsRow.loopsOut == Tryz.f13.resultTypes.toList.any (Tryz.prog.loopsFrom ·))) = true := by kernel_rfl
theorem k22 : ((Rows.ckptResetsRow.plainKeys == Tryz.prog.plainKeys)) = true := by kernel_rfl
theorem k23 : (Rows.ckptResetsRow.shortTexts.isNone) = true := by kernel_rfl
theorem k24 : (Tryz.prog.stopsHeard) = true := by kernel_rfl
theorem k25 : (Tryz.prog.mayEnter) = true := by kernel_rfl
theorem k26 : ((Rows.ckptResetsRow.lifted == Tryz.prog.liftsFinal)) = true := by kernel_rfl
theorem k27 : ((Tryz.prog.make == some Rows.ckptResetsRow.make)) = true := by kernel_rfl
theorem k28 : ((Rows.ckptResetsRow.kinds == (if Rows.ckptResetsRow.domain.isEmpty then [] else Tryz.f13.params.toList.map fun t => match Tryz.prog.underlying t with | some (.int k) => some k | _ => none))) = true := by kernel_rfl
theorem k29 : ((Rows.ckptResetsRow.pinned == Rows.ckptResetsRow.pinnedBy)) = true := by kernel_rfl
theorem k30 : ((Rows.ckptResetsRow.veiled == (Tryz.f13.params.toList ++ Rows.ckptResetsSpec.plain.varTypes Tryz.prog ++ Tryz.f13.resultTypes.toList).any (Tryz.prog.veiledRec ·))) = true := by kernel_rfl
theorem k31 : (Rows.ckptResetsRow.veiledFits Tryz.prog Tryz.f13.params.toList (Tryz.f13.params.toList ++ Rows.ckptResetsSpec.plain.varTypes Tryz.prog ++ Tryz.f13.resultTypes.toList)) = true := by kernel_rfl
theorem and2 {x y : Bool} (hx : x = true) (hy : y = true) : (x && y) = true := by rw [hx, hy]; rfl
theorem closed : joinedFacts Tryz.prog 13 Tryz.f13 Rows.ckptResetsSpec Rows.ckptResetsRow = true := and2 (and2 (and2 (and2 (and2 (and2 (and2 (and2 (and2 (and2 (and2 (and2 (and2 (and2 (and2 (and2 (and2 (and2 (and2 (and2 (and2 (and2 (and2 (and2 (and2 (and2 (and2 (and2 (and2 (and2 (and2 k0 k1) k2) k3) k4) k5) k6) k7) k8) k9) k10) k11) k12) k13) k14) k15) k16) k17) k18) k19) k20) k21) k22) k23) k24) k25) k26) k27) k28) k29) k30) k31
end Go.Proofs.YtaplpeoikebedaaGreatDoor.ckptResetsFacts
