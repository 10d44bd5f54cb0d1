/- Whatever is handed in, tapestry/tapestrylaw17.TaleChecks answers true, and what it read reads behind the call as it read before: the row taleChecksRow, with no condition ahead of it. Road: an interpreter over the loaded code, sound once for all programs; functions on plain data that it is shown to compute; a plain law of these. -/
import Derived.Test.YtamllgdaepjcfaaTCL3
import Derived.ProofKit
namespace Go.Proofs.Ytamllgdaepjcfaa
open Go Go.X Go.ChangeShapes Go.WideShapes Go.ChangeAt Go.RowKit
set_option maxRecDepth 100000
theorem sys_ok : SysOK Try.prog S where
  tab := tab_is_ok
  mixed := by kernel_rfl
  fn := fnOf_spec (by
    intro p hp
    simp only [List.mem_cons, List.not_mem_nil, or_false] at hp
    rcases hp with rfl | rfl | rfl | rfl | rfl | rfl | rfl | rfl | rfl | rfl | rfl | rfl | rfl
    · exact ⟨Try.func8, by kernel_rfl⟩
    · exact ⟨Try.func19, by kernel_rfl⟩
    · exact ⟨Try.func33, by kernel_rfl⟩
    · exact ⟨Try.func34, by kernel_rfl⟩
    · exact ⟨Try.func35, by kernel_rfl⟩
    · exact ⟨Try.func36, by kernel_rfl⟩
    · exact ⟨Try.func37, by kernel_rfl⟩
    · exact ⟨Try.func58, by kernel_rfl⟩
    · exact ⟨Try.func59, by kernel_rfl⟩
    · exact ⟨Try.func60, by kernel_rfl⟩
    · exact ⟨Try.func69, by kernel_rfl⟩
    · exact ⟨Try.func70, by kernel_rfl⟩
    · exact ⟨Try.func71, by kernel_rfl⟩)
  foreign := fun f g h => by cases h
theorem Try.own : ownKnob Try.prog.godebug = none := by kernel_rfl
theorem Try.laidOut : laidOutB Try.prog = true := by kernel_rfl
theorem taleChecks_lifted (os : Os) (started : os.Started) (H : Type) (enc : TypeId × Go.Value → H) :
    ReturnsInHanded {} Try.checked os 8 .any (Rows.taleChecksSpec.pre6 enc Try.prog Try.f8 Rows.taleChecksRow.domain false) (Rows.taleChecksSpec.post enc Try.prog Try.f8 false true false false) := by
  refine returnsInHanded_of_change (C := Try.checked) Try.own started (by kernel_rfl) Try.func8
    (ChangeSpec.witness6 (enc := enc) (C := Try.checked) false ⟨#[], #[.slice none 0 0], []⟩ 8 (by kernel_rfl) (by kernel_rfl) (by kernel_rfl) (by kernel_rfl)) ?_
  intro W base args dd gs before hval hW _ _
  exact law_post sys_ok (L := [45, 70, 68, 3, 9, 4]) (by kernel_rfl) Try.laidOut (f := 8) (fn := Try.f8) (ts := [45]) rfl (by decide) (by
      intro t ht
      simp only [List.mem_cons, List.not_mem_nil, or_false] at ht
      subst ht; exact ⟨by kernel_rfl, of_decide_eq_true (by kernel_rfl)⟩) (rt := 4) rfl (by kernel_rfl) (s := Rows.taleChecksSpec) rfl hval hW
    (fun d hd => by
      match d, hd with
      | [_], _ => exact ⟨rfl, rfl, rfl⟩) law8
theorem taleChecks_holds : Rows.TaleChecksSaid :=
  OpenClaim.holds_of_wide 8 Try.f8 rfl rfl rfl rfl rfl rfl rfl ⟨rfl, rfl, rfl, rfl, rfl⟩ rfl rfl rfl rfl rfl (by kernel_rfl) Try.func8 (by kernel_rfl)
    (of_decide_eq_true (by kernel_rfl)) (by unfold Func.isWrapper; first | (rw [if_pos (by decide +kernel)]; kernel_rfl) | (rw [if_neg (by decide +kernel)]; exact ⟨rfl, rfl⟩))
    (fun os started H enc _ => taleChecks_lifted os started H enc)
#print axioms taleChecks_holds
end Go.Proofs.Ytamllgdaepjcfaa
