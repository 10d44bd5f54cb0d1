/- Whatever is handed in, tapestry/tapestrylaw09.PlaceSteps answers true, and what it read reads behind the call as it read before: the row placeStepsRow, with no condition ahead of it. Road: an interpreter over the loaded code, sound once for all programs; functions on plain data that it is shown to compute; a plain law of these. -/
import Derived.Test.YtamllgdaepjcfaaPCL1
import Derived.ProofKit
namespace Go.Proofs.Ytamllgdaepjcfaa
open Go Go.X Go.ChangeShapes Go.WideShapes Go.ChangeAt Go.RowKit
set_option maxRecDepth 100000
theorem sys_ok : SysOK Try.prog S where
  tab := tab_is_ok
  mixed := by kernel_rfl
  fn := fnOf_spec (by
    intro p hp
    simp only [List.mem_cons, List.not_mem_nil, or_false] at hp
    rcases hp with rfl | rfl | rfl | rfl | rfl | rfl | rfl | rfl | rfl | rfl | rfl
    · exact ⟨Try.func9, by kernel_rfl⟩
    · exact ⟨Try.func20, by kernel_rfl⟩
    · exact ⟨Try.func21, by kernel_rfl⟩
    · exact ⟨Try.func22, by kernel_rfl⟩
    · exact ⟨Try.func23, by kernel_rfl⟩
    · exact ⟨Try.func38, by kernel_rfl⟩
    · exact ⟨Try.func39, by kernel_rfl⟩
    · exact ⟨Try.func61, by kernel_rfl⟩
    · exact ⟨Try.func62, by kernel_rfl⟩
    · exact ⟨Try.func63, by kernel_rfl⟩
    · exact ⟨Try.func64, by kernel_rfl⟩)
  foreign := fun f g h => by cases h
theorem Try.own : ownKnob Try.prog.godebug = none := by kernel_rfl
theorem Try.laidOut : laidOutB Try.prog = true := by kernel_rfl
theorem placeSteps_lifted (os : Os) (started : os.Started) (H : Type) (enc : TypeId × Go.Value → H) :
    ReturnsInHanded {} Try.checked os 9 .any (Rows.placeStepsSpec.pre6 enc Try.prog Try.f9 Rows.placeStepsRow.domain false) (Rows.placeStepsSpec.post enc Try.prog Try.f9 false true false false) := by
  refine returnsInHanded_of_change (C := Try.checked) Try.own started (by kernel_rfl) Try.func9
    (ChangeSpec.witness6 (enc := enc) (C := Try.checked) false ⟨#[], #[.slice none 0 0, .slice none 0 0], []⟩ 8 (by kernel_rfl) (by kernel_rfl) (by kernel_rfl) (by kernel_rfl)) ?_
  intro W base args dd gs before hval hW _ _
  exact law_post sys_ok (L := [31, 3]) (by kernel_rfl) Try.laidOut (f := 9) (fn := Try.f9) (ts := [31, 31]) rfl (by decide) (by
      intro t ht
      simp only [List.mem_cons, List.not_mem_nil, or_false] at ht
      rcases ht with rfl | rfl <;> exact ⟨by kernel_rfl, of_decide_eq_true (by kernel_rfl)⟩) (rt := 4) rfl (by kernel_rfl) (s := Rows.placeStepsSpec) rfl hval hW
    (fun d hd => by
      match d, hd with
      | [_, _], _ => exact ⟨rfl, rfl, rfl⟩) law9
theorem placeSteps_holds : Rows.PlaceStepsSaid :=
  OpenClaim.holds_of_wide 9 Try.f9 rfl rfl rfl rfl rfl rfl rfl ⟨rfl, rfl, rfl, rfl, rfl⟩ rfl rfl rfl rfl rfl (by kernel_rfl) Try.func9 (by kernel_rfl)
    (of_decide_eq_true (by kernel_rfl)) (by unfold Func.isWrapper; first | (rw [if_pos (by decide +kernel)]; kernel_rfl) | (rw [if_neg (by decide +kernel)]; exact ⟨rfl, rfl⟩))
    (fun os started H enc _ => placeSteps_lifted os started H enc)
#print axioms placeSteps_holds
end Go.Proofs.Ytamllgdaepjcfaa
