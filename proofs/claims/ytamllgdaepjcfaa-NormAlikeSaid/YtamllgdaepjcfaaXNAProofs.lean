/- Whatever two children are handed in, tapestrylaw07.NormAlike answers true, and both read behind the call as they read before: the row normAlikeRow, with no condition ahead of it. Road: an interpreter over the loaded code, sound once for all programs; this law by evaluation. -/
import Derived.Test.YtamllgdaepjcfaaXNA
import Derived.ProofKit
namespace Go.Proofs.Ytamllgdaepjcfaa
open Go Go.X Go.ChangeShapes Go.WideShapes Go.ChangeAt Go.RowKit
set_option maxRecDepth 100000

theorem Try.own : ownKnob Try.prog.godebug = none := by kernel_rfl
theorem Try.laidOut : laidOutB Try.prog = true := by kernel_rfl

theorem normAlike_lifted (os : Os) (started : os.Started) (H : Type) (enc : TypeId × Value → H) :
    ReturnsInHanded {} Try.checked os 3 .any (Rows.normAlikeSpec.pre6 enc Try.prog Try.f3 Rows.normAlikeRow.domain false) (Rows.normAlikeSpec.post enc Try.prog Try.f3 false true false false) := by
  refine returnsInHanded_of_change (C := Try.checked) Try.own started (by kernel_rfl) Try.func3
    (ChangeSpec.witness6 (enc := enc) (C := Try.checked) false ⟨#[], #[.agg #[.string ByteArray.empty, .int .u8 0, .string ByteArray.empty, .int .u8 0, .int .i64 0, .string ByteArray.empty, .slice none 0 0, .slice none 0 0, .int .u8 0, .string ByteArray.empty, .bool false], .agg #[.string ByteArray.empty, .int .u8 0, .string ByteArray.empty, .int .u8 0, .int .i64 0, .string ByteArray.empty, .slice none 0 0, .slice none 0 0, .int .u8 0, .string ByteArray.empty, .bool false]], []⟩ 8 (by kernel_rfl) (by kernel_rfl) (by kernel_rfl) (by kernel_rfl)) ?_
  intro W base args dd gs before hval hW _ _
  exact law_post NA.sys (L := [4, 2, 9, 22, 23, 24, 25, 27, 29, 99]) (by kernel_rfl) Try.laidOut (f := 3) (fn := Try.f3) (ts := [29, 29]) rfl (by decide) (by
      intro t ht
      simp only [List.mem_cons, List.not_mem_nil, or_false] at ht
      rcases ht with rfl | rfl <;> exact ⟨by kernel_rfl, of_decide_eq_true (by kernel_rfl)⟩) (rt := 4) rfl (by kernel_rfl) (s := Rows.normAlikeSpec) rfl hval hW
    (fun d hd => by
      match d, hd with
      | [_, _], _ => exact ⟨rfl, rfl, rfl⟩) NA.law

theorem normAlike_holds : Rows.NormAlikeSaid :=
  OpenClaim.holds_of_wide 3 Try.f3 rfl rfl rfl rfl rfl rfl rfl ⟨rfl, rfl, rfl, rfl, rfl⟩ rfl rfl rfl rfl rfl (by kernel_rfl) Try.func3 (by kernel_rfl)
    (of_decide_eq_true (by kernel_rfl)) (by unfold Func.isWrapper; first | (rw [if_pos (by decide +kernel)]; kernel_rfl) | (rw [if_neg (by decide +kernel)]; exact ⟨rfl, rfl⟩))
    (fun os started H enc _ => normAlike_lifted os started H enc)
#print axioms normAlike_holds
end Go.Proofs.Ytamllgdaepjcfaa
