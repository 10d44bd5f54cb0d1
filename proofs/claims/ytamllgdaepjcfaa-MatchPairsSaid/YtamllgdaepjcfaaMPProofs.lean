/- Whatever is handed in, tapestry/tapestrylaw08.MatchPairs answers true, and what it read reads behind the call as it read before: the row matchPairsRow, with no condition ahead of it. Road: an interpreter over the loaded code, sound once for all programs; functions on plain data that it is shown to compute; a plain law of these. -/
import Derived.Test.YtamllgdaepjcfaaMPL5
import Derived.ProofKit
namespace Go.Proofs.Ytamllgdaepjcfaa
open Go Go.X Go.ChangeShapes Go.WideShapes Go.ChangeAt Go.RowKit
set_option maxRecDepth 100000
theorem sys_ok : SysOK Try.prog S where
  tab := tab_is_ok
  mixed := by kernel_rfl
  fn := fnOf_spec (by
    intro p hp
    simp only [List.mem_cons, List.not_mem_nil, or_false] at hp
    rcases hp with rfl | rfl | rfl | rfl | rfl | rfl | rfl | rfl | rfl | rfl | rfl | rfl | rfl | rfl | rfl
    · exact ⟨Try.func6, by kernel_rfl⟩
    · exact ⟨Try.func17, by kernel_rfl⟩
    · exact ⟨Try.func19, by kernel_rfl⟩
    · exact ⟨Try.func24, by kernel_rfl⟩
    · exact ⟨Try.func25, by kernel_rfl⟩
    · exact ⟨Try.func26, by kernel_rfl⟩
    · exact ⟨Try.func27, by kernel_rfl⟩
    · exact ⟨Try.func28, by kernel_rfl⟩
    · exact ⟨Try.func45, by kernel_rfl⟩
    · exact ⟨Try.func51, by kernel_rfl⟩
    · exact ⟨Try.func52, by kernel_rfl⟩
    · exact ⟨Try.func53, by kernel_rfl⟩
    · exact ⟨Try.func54, by kernel_rfl⟩
    · exact ⟨Try.func65, by kernel_rfl⟩
    · exact ⟨Try.func66, by kernel_rfl⟩)
  foreign := fun f g h => by cases h
theorem Try.own : ownKnob Try.prog.godebug = none := by kernel_rfl
theorem Try.laidOut : laidOutB Try.prog = true := by kernel_rfl
theorem matchPairs_lifted (os : Os) (started : os.Started) (H : Type) (enc : TypeId × Go.Value → H) :
    ReturnsInHanded {} Try.checked os 6 .any (Rows.matchPairsSpec.pre6 enc Try.prog Try.f6 Rows.matchPairsRow.domain false) (Rows.matchPairsSpec.post enc Try.prog Try.f6 false true false false) := by
  refine returnsInHanded_of_change (C := Try.checked) Try.own started (by kernel_rfl) Try.func6
    (ChangeSpec.witness6 (enc := enc) (C := Try.checked) false ⟨#[], #[.slice none 0 0, .slice none 0 0], []⟩ 8 (by kernel_rfl) (by kernel_rfl) (by kernel_rfl) (by kernel_rfl)) ?_
  intro W base args dd gs before hval hW _ _
  exact law_post sys_ok (L := [38, 29, 9, 22, 27, 23, 2, 24, 25, 99, 4]) (by kernel_rfl) Try.laidOut (f := 6) (fn := Try.f6) (ts := [38, 38]) rfl (by decide) (by
      intro t ht
      simp only [List.mem_cons, List.not_mem_nil, or_false] at ht
      rcases ht with rfl | rfl <;> exact ⟨by kernel_rfl, of_decide_eq_true (by kernel_rfl)⟩) (rt := 4) rfl (by kernel_rfl) (s := Rows.matchPairsSpec) rfl hval hW
    (fun d hd => by
      match d, hd with
      | [_, _], _ => exact ⟨rfl, rfl, rfl⟩) law6
theorem matchPairs_holds : Rows.MatchPairsSaid :=
  OpenClaim.holds_of_wide 6 Try.f6 rfl rfl rfl rfl rfl rfl rfl ⟨rfl, rfl, rfl, rfl, rfl⟩ rfl rfl rfl rfl rfl (by kernel_rfl) Try.func6 (by kernel_rfl)
    (of_decide_eq_true (by kernel_rfl)) (by unfold Func.isWrapper; first | (rw [if_pos (by decide +kernel)]; kernel_rfl) | (rw [if_neg (by decide +kernel)]; exact ⟨rfl, rfl⟩))
    (fun os started H enc _ => matchPairs_lifted os started H enc)
#print axioms matchPairs_holds
end Go.Proofs.Ytamllgdaepjcfaa
