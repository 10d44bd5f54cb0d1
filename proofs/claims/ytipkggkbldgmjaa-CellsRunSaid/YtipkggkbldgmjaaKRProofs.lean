/- Whatever is handed in, tapestry/tapestrylaw13.CellsRun answers true, and what it read reads behind the call as it read before: the row cellsRunRow, with no condition ahead of it. Road: an interpreter over the loaded code, sound once for all programs; functions on plain data that it is shown to compute; a plain law of these. -/
import Derived.Test.YtipkggkbldgmjaaKRL3
import Derived.Test.YtipkggkbldgmjaaKRK
import Derived.ProofKit
namespace Go.Proofs.Ytipkggkbldgmjaa
open Go Go.X Go.ChangeShapes Go.WideShapes Go.ChangeAt Go.RowKit
set_option maxRecDepth 100000
theorem sys_ok : SysOK Try.prog S where
  tab := tab_is_ok
  mixed := by kernel_rfl
  fn := fnOf_spec (by
    intro p hp
    simp only [List.mem_cons, List.not_mem_nil, or_false] at hp
    rcases hp with rfl | rfl | rfl | rfl | rfl | rfl | rfl | rfl | rfl | rfl | rfl | rfl | rfl | rfl | rfl | rfl | rfl | rfl
    · exact ⟨Try.func5, by kernel_rfl⟩
    · exact ⟨Try.func13, by kernel_rfl⟩
    · exact ⟨Try.func14, by kernel_rfl⟩
    · exact ⟨Try.func15, by kernel_rfl⟩
    · exact ⟨Try.func16, by kernel_rfl⟩
    · exact ⟨Try.func32, by kernel_rfl⟩
    · exact ⟨Try.func33, by kernel_rfl⟩
    · exact ⟨Try.func35, by kernel_rfl⟩
    · exact ⟨Try.func36, by kernel_rfl⟩
    · exact ⟨Try.func37, by kernel_rfl⟩
    · exact ⟨Try.func55, by kernel_rfl⟩
    · exact ⟨Try.func56, by kernel_rfl⟩
    · exact ⟨Try.func57, by kernel_rfl⟩
    · exact ⟨Try.func58, by kernel_rfl⟩
    · exact ⟨Try.func72, by kernel_rfl⟩
    · exact ⟨Try.func73, by kernel_rfl⟩
    · exact ⟨Try.func74, by kernel_rfl⟩
    · exact ⟨Try.func75, by kernel_rfl⟩)
  foreign := pickOf_spec (by
    intro p hp
    simp only [List.mem_cons, List.not_mem_nil, or_false] at hp
    rcases hp with rfl
    · exact closed_foreign sys0_ok XFL_ok rfl closed17)
theorem Try.own : ownKnob Try.prog.godebug = none := by kernel_rfl
theorem Try.laidOut : laidOutB Try.prog = true := by kernel_rfl
theorem cellsRun_lifted (os : Os) (started : os.Started) (H : Type) (enc : TypeId × Go.Value → H) :
    ReturnsInHanded {} Try.checked os 5 .any (Rows.cellsRunSpec.pre6 enc Try.prog Try.f5 Rows.cellsRunRow.domain false) (Rows.cellsRunSpec.post enc Try.prog Try.f5 false true false false) := by
  refine returns_sized (C := Try.checked) Try.own started (by kernel_rfl) Try.func5
    (ChangeSpec.witness6 (enc := enc) (C := Try.checked) false ⟨#[], #[.slice none 0 0, .slice none 0 0], []⟩ 8 (by kernel_rfl) (by kernel_rfl) (by kernel_rfl) (by kernel_rfl)) ?_
  intro W base args dd gs before hval hW hz
  exact law_post sys_ok (L := [24, 27, 23, 2, 9, 22, 49, 25, 4]) (by kernel_rfl) Try.laidOut (f := 5) (fn := Try.f5) (ts := [24, 24]) rfl (by decide) (by
      intro t ht
      simp only [List.mem_cons, List.not_mem_nil, or_false] at ht
      rcases ht with rfl | rfl <;> exact ⟨by kernel_rfl, of_decide_eq_true (by kernel_rfl)⟩) (rt := 4) rfl (by kernel_rfl) (s := Rows.cellsRunSpec) rfl hval hW hz
    (fun d hd => by
      match d, hd with
      | [_, _], _ => exact ⟨rfl, rfl, rfl⟩) law5
theorem cellsRun_holds : Rows.CellsRunSaid :=
  OpenClaim.holds_of_wide 5 Try.f5 rfl rfl rfl rfl rfl rfl rfl ⟨rfl, rfl, rfl, rfl, rfl⟩ rfl rfl rfl rfl rfl (by kernel_rfl) Try.func5 (by kernel_rfl)
    (of_decide_eq_true (by kernel_rfl)) (by unfold Func.isWrapper; first | (rw [if_pos (by decide +kernel)]; kernel_rfl) | (rw [if_neg (by decide +kernel)]; exact ⟨rfl, rfl⟩))
    (fun os started H enc _ => cellsRun_lifted os started H enc)
#print axioms cellsRun_holds
end Go.Proofs.Ytipkggkbldgmjaa
