/- Whatever is handed in, tapestry/tapestrylaw01.ValueSames answers true, and what it read reads behind the call as it read before: the row valueSamesRow, with no condition ahead of it. Road: an interpreter over the loaded code, sound once for all programs; functions on plain data that it is shown to compute; a plain law of these. -/
import Derived.Test.YtamllgdaepjcfaaVSL1
import Derived.ProofKit
namespace Go.Proofs.Ytamllgdaepjcfaa
open Go Go.X Go.ChangeShapes Go.WideShapes Go.ChangeAt Go.RowKit
set_option maxRecDepth 100000
theorem sys_ok : SysOK Try.prog S where
  tab := tab_is_ok
  mixed := by kernel_rfl
  fn := fnOf_spec (by
    intro p hp
    simp only [List.mem_cons, List.not_mem_nil, or_false] at hp
    rcases hp with rfl | rfl | rfl | rfl | rfl | rfl | rfl | rfl | rfl | rfl | rfl | rfl | rfl | rfl | rfl
    · exact ⟨Try.func7, by kernel_rfl⟩
    · exact ⟨Try.func19, by kernel_rfl⟩
    · exact ⟨Try.func28, by kernel_rfl⟩
    · exact ⟨Try.func29, by kernel_rfl⟩
    · exact ⟨Try.func30, by kernel_rfl⟩
    · exact ⟨Try.func31, by kernel_rfl⟩
    · exact ⟨Try.func32, by kernel_rfl⟩
    · exact ⟨Try.func53, by kernel_rfl⟩
    · exact ⟨Try.func54, by kernel_rfl⟩
    · exact ⟨Try.func55, by kernel_rfl⟩
    · exact ⟨Try.func56, by kernel_rfl⟩
    · exact ⟨Try.func57, by kernel_rfl⟩
    · exact ⟨Try.func66, by kernel_rfl⟩
    · exact ⟨Try.func67, by kernel_rfl⟩
    · exact ⟨Try.func68, by kernel_rfl⟩)
  foreign := fun f g h => by cases h
theorem Try.own : ownKnob Try.prog.godebug = none := by kernel_rfl
theorem Try.laidOut : laidOutB Try.prog = true := by kernel_rfl
theorem valueSames_lifted (os : Os) (started : os.Started) (H : Type) (enc : TypeId × Go.Value → H) :
    ReturnsInHanded {} Try.checked os 7 .any (Rows.valueSamesSpec.pre6 enc Try.prog Try.f7 Rows.valueSamesRow.domain false) (Rows.valueSamesSpec.post enc Try.prog Try.f7 false true false false) := by
  refine returnsInHanded_of_change (C := Try.checked) Try.own started (by kernel_rfl) Try.func7
    (ChangeSpec.witness6 (enc := enc) (C := Try.checked) false ⟨#[], #[.agg #[.int .u8 0, .int .i64 0, .string ByteArray.empty, .slice none 0 0, .slice none 0 0, .int .u8 0, .string ByteArray.empty, .bool false], .agg #[.int .u8 0, .int .i64 0, .string ByteArray.empty, .slice none 0 0, .slice none 0 0, .int .u8 0, .string ByteArray.empty, .bool false]], []⟩ 8 (by kernel_rfl) (by kernel_rfl) (by kernel_rfl) (by kernel_rfl)) ?_
  intro W base args dd gs before hval hW _ _
  exact law_post sys_ok (L := [27, 23, 2, 9, 24, 25, 99, 22, 4]) (by kernel_rfl) Try.laidOut (f := 7) (fn := Try.f7) (ts := [27, 27]) rfl (by decide) (by
      intro t ht
      simp only [List.mem_cons, List.not_mem_nil, or_false] at ht
      rcases ht with rfl | rfl <;> exact ⟨by kernel_rfl, of_decide_eq_true (by kernel_rfl)⟩) (rt := 4) rfl (by kernel_rfl) (s := Rows.valueSamesSpec) rfl hval hW
    (fun d hd => by
      match d, hd with
      | [_, _], _ => exact ⟨rfl, rfl, rfl⟩) law7
theorem valueSames_holds : Rows.ValueSamesSaid :=
  OpenClaim.holds_of_wide 7 Try.f7 rfl rfl rfl rfl rfl rfl rfl ⟨rfl, rfl, rfl, rfl, rfl⟩ rfl rfl rfl rfl rfl (by kernel_rfl) Try.func7 (by kernel_rfl)
    (of_decide_eq_true (by kernel_rfl)) (by unfold Func.isWrapper; first | (rw [if_pos (by decide +kernel)]; kernel_rfl) | (rw [if_neg (by decide +kernel)]; exact ⟨rfl, rfl⟩))
    (fun os started H enc _ => valueSames_lifted os started H enc)
#print axioms valueSames_holds
end Go.Proofs.Ytamllgdaepjcfaa
