/- The closed facts of the row, one by one. -/
import Derived.Test.YtdomoelfhjdioaaGreatDoorRows
import Derived.Test.YtdomoelfhjdioaaGreatDoorCards
import Derived.JoinedOf
import Derived.KernelRfl
namespace Go.Proofs.YtdomoelfhjdioaaGreatDoor.topMarks
open Go
theorem and2 {a b : Bool} (h : a = true) (k : b = true) : (a && b) = true := by rw [h, k]; rfl
theorem kf0 : (Rows.topMarksRow.wf (OpenSpec.ofChange Rows.topMarksSpec)) = true := by kernel_rfl
theorem kf1 : (laidOutB Tryz.pinned.checked.prog) = true := by kernel_rfl
theorem kf2 : (mapsRowed Tryz.pinned.checked.prog) = true := by kernel_rfl
theorem kf3 : (Tryz.f3.params.all (Tryz.pinned.checked.prog.readableRec ·)) = true := by kernel_rfl
theorem kf4 : (namedTie Tryz.pinned.checked.prog Rows.topMarksRow.named Rows.topMarksSpec.vars) = true := by kernel_rfl
theorem kf5 : ((Rows.topMarksRow.stops == [])) = true := by kernel_rfl
theorem kf6 : ((Tryz.pinned.checked.prog.stops == [])) = true := by kernel_rfl
theorem kf7 : ((Rows.topMarksRow.knobs == [])) = true := by kernel_rfl
theorem kf8 : ((Tryz.pinned.checked.prog.stopKnobs == [])) = true := by kernel_rfl
theorem kf9 : ((Rows.topMarksRow.inPlace == Tryz.pinned.checked.prog.inPlace 3)) = true := by kernel_rfl
theorem kf10 : ((Rows.topMarksRow.unfollowed == Tryz.pinned.checked.prog.unfollowed 3)) = true := by kernel_rfl
theorem kf11 : ((Rows.topMarksRow.recurses == Tryz.pinned.checked.prog.recurses 3)) = true := by kernel_rfl
theorem kf12 : ((Rows.topMarksRow.named == Tryz.pinned.checked.prog.varsNamed 3)) = true := by kernel_rfl
theorem kf13 : ((Rows.topMarksRow.maps == (Tryz.f3.params.toList ++ Rows.topMarksSpec.plain.varTypes Tryz.pinned.checked.prog).any (Tryz.pinned.checked.prog.mapsRec ·))) = true := by kernel_rfl
theorem kf14 : ((Rows.topMarksRow.ifaces == (Tryz.f3.params.toList ++ Rows.topMarksSpec.plain.varTypes Tryz.pinned.checked.prog).any (Tryz.pinned.checked.prog.ifacesRec ·))) = true := by kernel_rfl
theorem kf15 : ((Rows.topMarksRow.mapsOut == Tryz.pinned.checked.prog.mapsAmong Tryz.f3.resultTypes.toList)) = true := by kernel_rfl
theorem kf16 : ((Rows.topMarksRow.loops == (Tryz.f3.params.toList ++ Rows.topMarksSpec.plain.varTypes Tryz.pinned.checked.prog).any (Tryz.pinned.checked.prog.loopsFrom ·))) = true := by kernel_rfl
theorem kf17 : ((Rows.topMarksRow.wideKeys == (Tryz.f3.params.toList ++ Rows.topMarksSpec.plain.varTypes Tryz.pinned.checked.prog ++ Tryz.f3.resultTypes.toList).any (Tryz.pinned.checked.prog.wideKeysFrom ·))) = true := by kernel_rfl
theorem kf18 : (Rows.topMarksSpec.vars.all (Tryz.pinned.checked.prog.varReadable ·)) = true := by kernel_rfl
theorem kf19 : (Tryz.f3.resultTypes.all (fun t => Tryz.pinned.checked.prog.readableRec t && decide (t < Tryz.pinned.checked.prog.types.size))) = true := by kernel_rfl
theorem kf20 : ((Rows.topMarksRow.ifacesOut == Tryz.f3.resultTypes.toList.any (Tryz.pinned.checked.prog.ifacesRec ·))) = true := by kernel_rfl
theorem kf21 : ((Rows.topMarksRow.loopsOut == Tryz.f3.resultTypes.toList.any (Tryz.pinned.checked.prog.loopsFrom ·))) = true := by kernel_rfl
theorem kf22 : ((Rows.topMarksRow.plainKeys == Tryz.pinned.checked.prog.plainKeys)) = true := by kernel_rfl
theorem kf23 : (Rows.topMarksRow.shortTexts.isNone) = true := by kernel_rfl
theorem kf24 : (Tryz.pinned.checked.prog.stopsHeard) = true := by kernel_rfl
theorem kf25 : (Tryz.pinned.checked.prog.mayEnter) = true := by kernel_rfl
theorem kf26 : ((Rows.topMarksRow.lifted == Tryz.pinned.checked.prog.liftsFinal)) = true := by kernel_rfl
theorem kf27 : ((Tryz.pinned.checked.prog.make == some Rows.topMarksRow.make)) = true := by kernel_rfl
theorem kf28 : ((Rows.topMarksRow.kinds == (if Rows.topMarksRow.domain.isEmpty then [] else Tryz.f3.params.toList.map fun t => match Tryz.pinned.checked.prog.underlying t with | some (.int k) => some k | _ => none))) = true := by kernel_rfl
theorem kf29 : ((Rows.topMarksRow.pinned == Rows.topMarksRow.pinnedBy)) = true := by kernel_rfl
theorem kf30 : ((Rows.topMarksRow.veiled == (Tryz.f3.params.toList ++ Rows.topMarksSpec.plain.varTypes Tryz.pinned.checked.prog ++ Tryz.f3.resultTypes.toList).any (Tryz.pinned.checked.prog.veiledRec ·))) = true := by kernel_rfl
theorem kf31 : (Rows.topMarksRow.veiledFits Tryz.pinned.checked.prog Tryz.f3.params.toList (Tryz.f3.params.toList ++ Rows.topMarksSpec.plain.varTypes Tryz.pinned.checked.prog ++ Tryz.f3.resultTypes.toList)) = true := by kernel_rfl
set_option maxRecDepth 100000 in
theorem closed : joinedFacts Tryz.pinned.checked.prog 3 Tryz.f3 Rows.topMarksSpec Rows.topMarksRow = true := by unfold joinedFacts; exact (and2 (and2 (and2 (and2 (and2 (and2 (and2 (and2 (and2 (and2 (and2 (and2 (and2 (and2 (and2 (and2 (and2 (and2 (and2 (and2 (and2 (and2 (and2 (and2 (and2 (and2 (and2 (and2 (and2 (and2 (and2 kf0 kf1) kf2) kf3) kf4) kf5) kf6) kf7) kf8) kf9) kf10) kf11) kf12) kf13) kf14) kf15) kf16) kf17) kf18) kf19) kf20) kf21) kf22) kf23) kf24) kf25) kf26) kf27) kf28) kf29) kf30) kf31)
theorem kw1 : Tryz.pinned.checked.prog.funcNamed Rows.topMarksRow.func = some 3 := by kernel_rfl
theorem kw2 : Tryz.f3.isInstance Tryz.pinned.checked.prog Rows.topMarksRow.origin Rows.topMarksRow.targs := of_decide_eq_true (by kernel_rfl)
theorem kw3 : Tryz.f3.isWrapper Tryz.pinned.checked.prog Rows.topMarksRow.wrapper Rows.topMarksRow.mainSum := by unfold Func.isWrapper; first | (rw [if_pos (by decide +kernel)]; kernel_rfl) | (rw [if_neg (by decide +kernel)]; exact ⟨rfl, rfl⟩)
theorem kw4 : false = Rows.topMarksRow.goesBy Tryz.pinned.checked.prog := by kernel_rfl
theorem kw5 : Rows.topMarksCard.stood.looks = Tryz.pinned.checked.prog.looks [] := by kernel_rfl
end Go.Proofs.YtdomoelfhjdioaaGreatDoor.topMarks
