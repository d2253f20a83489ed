/- What the card of CkptPages asks of the program, fact by fact. No condition. -/
import Derived.Test.YtaplpeoikebedaaGreatDoorRows
import Derived.JoinedOf
import Derived.RowKit
namespace Go.Proofs.YtaplpeoikebedaaGreatDoor.ckptPagesFacts
open Go.RowKit
set_option maxRecDepth 100000
theorem k0 : (Rows.ckptPagesRow.wf (OpenSpec.ofChange Rows.ckptPagesSpec)) = true := by kernel_rfl
theorem k1 : (laidOutB Tryz.prog) = true := by kernel_rfl
theorem k2 : (mapsRowed Tryz.prog) = true := by kernel_rfl
theorem k3 : (Tryz.f11.params.all (Tryz.prog.readableRec ·)) = true := by kernel_rfl
theorem k4 : (namedTie Tryz.prog Rows.ckptPagesRow.named Rows.ckptPagesSpec.vars) = true := by kernel_rfl
theorem k5 : ((Rows.ckptPagesRow.stops == [])) = true := by kernel_rfl
theorem k6 : ((Tryz.prog.stops == [])) = true := by kernel_rfl
theorem k7 : ((Rows.ckptPagesRow.knobs == [])) = true := by kernel_rfl
theorem k8 : ((Tryz.prog.stopKnobs == [])) = true := by kernel_rfl
theorem k9 : ((Rows.ckptPagesRow.inPlace == Tryz.prog.inPlace 11)) = true := by kernel_rfl
theorem k10 : ((Rows.ckptPagesRow.unfollowed == Tryz.prog.unfollowed 11)) = true := by kernel_rfl
theorem k11 : ((Rows.ckptPagesRow.recurses == Tryz.prog.recurses 11)) = true := by kernel_rfl
theorem k12 : ((Rows.ckptPagesRow.named == Tryz.prog.varsNamed 11)) = true := by kernel_rfl
theorem k13 : ((Rows.ckptPagesRow.maps == (Tryz.f11.params.toList ++ Rows.ckptPagesSpec.plain.varTypes Tryz.prog).any (Tryz.prog.mapsRec ·))) = true := by kernel_rfl
theorem k14 : ((Rows.ckptPagesRow.ifaces == (Tryz.f11.params.toList ++ Rows.ckptPagesSpec.plain.varTypes Tryz.prog).any (Tryz.prog.ifacesRec ·))) = true := by kernel_rfl
theorem k15 : ((Rows.ckptPagesRow.mapsOut == Tryz.prog.mapsAmong Tryz.f11.resultTypes.toList)) = true := by kernel_rfl
theorem k16 : ((Rows.ckptPagesRow.loops == (Tryz.f11.params.toList ++ Rows.ckptPagesSpec.plain.varTypes Tryz.prog).any (Tryz.prog.loopsFrom ·))) = true := by kernel_rfl
theorem k17 : ((Rows.ckptPagesRow.wideKeys == (Tryz.f11.params.toList ++ Rows.ckptPagesSpec.plain.varTypes Tryz.prog ++ Tryz.f11.resultTypes.toList).any (Tryz.prog.wideKeysFrom ·))) = true := by kernel_rfl
theorem k18 : (Rows.ckptPagesSpec.vars.all (Tryz.prog.varReadable ·)) = true := by kernel_rfl
theorem k19 : (Tryz.f11.resultTypes.all (fun t => Tryz.prog.readableRec t && decide (t < Tryz.prog.types.size))) = true := by kernel_rfl
theorem k20 : ((Rows.ckptPagesRow.ifacesOut == Tryz.f11.resultTypes.toList.any (Tryz.prog.ifacesRec ·))) = true := by kernel_rfl
theorem k21 : ((Rows.ckptPagesRow.loopsOut == Tryz.f11.resultTypes.toList.any (Tryz.prog.loopsFrom ·))) = true := by kernel_rfl
theorem k22 : ((Rows.ckptPagesRow.plainKeys == Tryz.prog.plainKeys)) = true := by kernel_rfl
theorem k23 : (Rows.ckptPagesRow.shortTexts.isNone) = true := by kernel_rfl
theorem k24 : (Tryz.prog.stopsHeard) = true := by kernel_rfl
theorem k25 : (Tryz.prog.mayEnter) = true := by kernel_rfl
theorem k26 : ((Rows.ckptPagesRow.lifted == Tryz.prog.liftsFinal)) = true := by kernel_rfl
theorem k27 : ((Tryz.prog.make == some Rows.ckptPagesRow.make)) = true := by kernel_rfl
theorem k28 : ((Rows.ckptPagesRow.kinds == (if Rows.ckptPagesRow.domain.isEmpty then [] else Tryz.f11.params.toList.map fun t => match Tryz.prog.underlying t with | some (.int k) => some k | _ => none))) = true := by kernel_rfl
theorem k29 : ((Rows.ckptPagesRow.pinned == Rows.ckptPagesRow.pinnedBy)) = true := by kernel_rfl
theorem k30 : ((Rows.ckptPagesRow.veiled == (Tryz.f11.params.toList ++ Rows.ckptPagesSpec.plain.varTypes Tryz.prog ++ Tryz.f11.resultTypes.toList).any (Tryz.prog.veiledRec ·))) = true := by kernel_rfl
theorem k31 : (Rows.ckptPagesRow.veiledFits Tryz.prog Tryz.f11.params.toList (Tryz.f11.params.toList ++ Rows.ckptPagesSpec.plain.varTypes Tryz.prog ++ Tryz.f11.resultTypes.toList)) = true := by kernel_rfl
theorem and2 {x y : Bool} (hx : x = true) (hy : y = true) : (x && y) = true := by rw [hx, hy]; rfl
theorem closed : joinedFacts Tryz.prog 11 Tryz.f11 Rows.ckptPagesSpec Rows.ckptPagesRow = true := and2 (and2 (and2 (and2 (and2 (and2 (and2 (and2 (and2 (and2 (and2 (and2 (and2 (and2 (and2 (and2 (and2 (and2 (and2 (and2 (and2 (and2 (and2 (and2 (and2 (and2 (and2 (and2 (and2 (and2 (and2 k0 k1) k2) k3) k4) k5) k6) k7) k8) k9) k10) k11) k12) k13) k14) k15) k16) k17) k18) k19) k20) k21) k22) k23) k24) k25) k26) k27) k28) k29) k30) k31
end Go.Proofs.YtaplpeoikebedaaGreatDoor.ckptPagesFacts
