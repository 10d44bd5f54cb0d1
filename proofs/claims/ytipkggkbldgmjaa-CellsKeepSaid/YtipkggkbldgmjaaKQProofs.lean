/- Whatever is handed in, tapestry/tapestrylaw13.CellsKeep answers true, and what it read reads behind the call as it read before: the row cellsKeepRow, with no condition ahead of it. Road: an interpreter over the loaded code, sound once for all programs; functions on plain data that it is shown to compute; a plain law of these. -/
import Derived.Test.YtipkggkbldgmjaaKQL8
import Derived.Test.YtipkggkbldgmjaaKQK
import Derived.ProofKit
namespace Go.Proofs.Ytipkggkbldgmjaa
open Go Go.X Go.ChangeShapes Go.WideShapes Go.ChangeAt Go.RowKit
set_option maxRecDepth 100000
theorem sys_ok : SysOK Try.prog S where
  tab := tab_is_ok
  mixed := by kernel_rfl
  fn := fnOf_spec (by
    intro p hp
    simp only [List.mem_cons, List.not_mem_nil, or_false] at hp
    rcases hp with rfl | rfl | rfl | rfl | rfl | rfl | rfl | rfl | rfl | rfl | rfl | rfl | rfl | rfl | rfl | rfl | rfl | rfl | rfl | rfl | rfl | rfl | rfl | rfl | rfl | rfl | rfl | rfl | rfl | rfl | rfl | rfl | rfl | rfl | rfl | rfl | rfl | rfl | rfl | rfl | rfl | rfl | rfl | rfl | rfl | rfl | rfl | rfl | rfl | rfl | rfl | rfl | rfl | rfl | rfl | rfl | rfl | rfl
    · exact ⟨Try.func6, by kernel_rfl⟩
    · exact ⟨Try.func8, by kernel_rfl⟩
    · exact ⟨Try.func18, by kernel_rfl⟩
    · exact ⟨Try.func19, by kernel_rfl⟩
    · exact ⟨Try.func20, by kernel_rfl⟩
    · exact ⟨Try.func21, by kernel_rfl⟩
    · exact ⟨Try.func22, by kernel_rfl⟩
    · exact ⟨Try.func24, by kernel_rfl⟩
    · exact ⟨Try.func26, by kernel_rfl⟩
    · exact ⟨Try.func27, by kernel_rfl⟩
    · exact ⟨Try.func28, by kernel_rfl⟩
    · exact ⟨Try.func32, by kernel_rfl⟩
    · exact ⟨Try.func36, by kernel_rfl⟩
    · exact ⟨Try.func40, by kernel_rfl⟩
    · exact ⟨Try.func41, by kernel_rfl⟩
    · exact ⟨Try.func42, by kernel_rfl⟩
    · exact ⟨Try.func43, by kernel_rfl⟩
    · exact ⟨Try.func44, by kernel_rfl⟩
    · exact ⟨Try.func45, by kernel_rfl⟩
    · exact ⟨Try.func46, by kernel_rfl⟩
    · exact ⟨Try.func48, by kernel_rfl⟩
    · exact ⟨Try.func49, by kernel_rfl⟩
    · exact ⟨Try.func50, by kernel_rfl⟩
    · exact ⟨Try.func51, by kernel_rfl⟩
    · exact ⟨Try.func54, by kernel_rfl⟩
    · exact ⟨Try.func55, by kernel_rfl⟩
    · exact ⟨Try.func60, by kernel_rfl⟩
    · exact ⟨Try.func61, by kernel_rfl⟩
    · exact ⟨Try.func62, by kernel_rfl⟩
    · exact ⟨Try.func63, by kernel_rfl⟩
    · exact ⟨Try.func64, by kernel_rfl⟩
    · exact ⟨Try.func65, by kernel_rfl⟩
    · exact ⟨Try.func66, by kernel_rfl⟩
    · exact ⟨Try.func67, by kernel_rfl⟩
    · exact ⟨Try.func68, by kernel_rfl⟩
    · exact ⟨Try.func69, by kernel_rfl⟩
    · exact ⟨Try.func70, by kernel_rfl⟩
    · exact ⟨Try.func72, by kernel_rfl⟩
    · exact ⟨Try.func73, by kernel_rfl⟩
    · exact ⟨Try.func81, by kernel_rfl⟩
    · exact ⟨Try.func82, by kernel_rfl⟩
    · exact ⟨Try.func83, by kernel_rfl⟩
    · exact ⟨Try.func84, by kernel_rfl⟩
    · exact ⟨Try.func85, by kernel_rfl⟩
    · exact ⟨Try.func86, by kernel_rfl⟩
    · exact ⟨Try.func87, by kernel_rfl⟩
    · exact ⟨Try.func89, by kernel_rfl⟩
    · exact ⟨Try.func90, by kernel_rfl⟩
    · exact ⟨Try.func91, by kernel_rfl⟩
    · exact ⟨Try.func92, by kernel_rfl⟩
    · exact ⟨Try.func93, by kernel_rfl⟩
    · exact ⟨Try.func94, by kernel_rfl⟩
    · exact ⟨Try.func95, by kernel_rfl⟩
    · exact ⟨Try.func96, by kernel_rfl⟩
    · exact ⟨Try.func97, by kernel_rfl⟩
    · exact ⟨Try.func98, by kernel_rfl⟩
    · exact ⟨Try.func99, by kernel_rfl⟩
    · exact ⟨Try.func100, by kernel_rfl⟩)
  foreign := pickOf_spec (by
    intro p hp
    simp only [List.mem_cons, List.not_mem_nil, or_false] at hp
    rcases hp with rfl
    · exact closed_foreign sys0_ok XFL_ok rfl closed17)
theorem Try.own : ownKnob Try.prog.godebug = none := by kernel_rfl
theorem Try.laidOut : laidOutB Try.prog = true := by kernel_rfl
theorem cellsKeep_lifted (os : Os) (started : os.Started) (H : Type) (enc : TypeId × Go.Value → H) :
    ReturnsInHanded {} Try.checked os 6 .any (Rows.cellsKeepSpec.pre6 enc Try.prog Try.f6 Rows.cellsKeepRow.domain false) (Rows.cellsKeepSpec.post enc Try.prog Try.f6 false true false false) := by
  refine returns_sized (C := Try.checked) Try.own started (by kernel_rfl) Try.func6
    (ChangeSpec.witness6 (enc := enc) (C := Try.checked) false ⟨#[], #[.agg #[.slice none 0 0, .string ByteArray.empty, .string ByteArray.empty, .int .u8 0, .int .i64 0, .string ByteArray.empty, .slice none 0 0, .slice none 0 0, .int .u8 0, .string ByteArray.empty, .bool false]], []⟩ 8 (by kernel_rfl) (by kernel_rfl) (by kernel_rfl) (by kernel_rfl)) ?_
  intro W base args dd gs before hval hW hz
  exact law_post sys_ok (L := [38, 33, 61, 58, 9, 27, 23, 2, 24, 22, 49, 25, 4, 59, 105, 99, 103, 100, 101, 93]) (by kernel_rfl) Try.laidOut (f := 6) (fn := Try.f6) (ts := [38]) rfl (by decide) (by
      intro t ht
      simp only [List.mem_cons, List.not_mem_nil, or_false] at ht
      subst ht; exact ⟨by kernel_rfl, of_decide_eq_true (by kernel_rfl)⟩) (rt := 4) rfl (by kernel_rfl) (s := Rows.cellsKeepSpec) rfl hval hW hz
    (fun d hd => by
      match d, hd with
      | [_], _ => exact ⟨rfl, rfl, rfl⟩) law6
theorem cellsKeep_holds : Rows.CellsKeepSaid :=
  OpenClaim.holds_of_wide 6 Try.f6 rfl rfl rfl rfl rfl rfl rfl ⟨rfl, rfl, rfl, rfl, rfl⟩ rfl rfl rfl rfl rfl (by kernel_rfl) Try.func6 (by kernel_rfl)
    (of_decide_eq_true (by kernel_rfl)) (by unfold Func.isWrapper; first | (rw [if_pos (by decide +kernel)]; kernel_rfl) | (rw [if_neg (by decide +kernel)]; exact ⟨rfl, rfl⟩))
    (fun os started H enc _ => cellsKeep_lifted os started H enc)
#print axioms cellsKeep_holds
end Go.Proofs.Ytipkggkbldgmjaa
