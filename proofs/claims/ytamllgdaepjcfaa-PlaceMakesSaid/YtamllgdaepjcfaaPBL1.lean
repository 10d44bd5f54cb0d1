/- place: Steps as it tells data; the examples. -/
import Derived.Test.YtamllgdaepjcfaaPBL0
import Derived.Test.YtamllgdaepjcfaaPBO
import Derived.Test.YtamllgdaepjcfaaPBV
namespace Go.Proofs.Ytamllgdaepjcfaa
open Go Go.X
set_option linter.unusedVariables false
set_option linter.unusedSimpArgs false
set_option maxRecDepth 100000
theorem call_of {f : Nat} {args : List PV} {st : St} {r : PV × St} (h : Sat ((real (call S)).cf f args st) (fun q => q = r)) : call S f args st = some r := by
  obtain ⟨_, h1, rfl⟩ := h; exact h1
theorem maxLen_eq : maxLen = 9223372036854775807 := by decide
theorem steps_ok (fu : Nat) (old next : List Int) (x y : Option (List Int)) (h1 : old.length ≤ 1048576) (h2 : next.length ≤ 1048576) : P38 fu ⟨old, x⟩ ⟨next, y⟩ = some ⟨stepsOf old next, none⟩ := by
  unfold P38
  dsimp only
  obtain ⟨m1, e1, g1⟩ := row_ok fu old x h1
  obtain ⟨m2, e2, g2⟩ := row_ok fu next y h2
  have l1 := rowL_len next
  rw [e1, Option.bind_some]
  dsimp only
  rw [e2, Option.bind_some]
  dsimp only
  rw [from_ok fu m1 (rowL old) (rowL next) g1 (by omega), Option.bind_some]
  dsimp only
  rw [moves_ok fu _ none (by simp; omega), Option.bind_some]
  dsimp only
  rw [stepsLoop_ok fu (rowL next) _ none none (by simp [mvs_len]) (by omega), Option.bind_some]
  rfl
theorem alive_ok (fu : Nat) : P42 fu = some true := by
  unfold P42
  rw [moves_ok fu [2, 0, -1, 5] (some []) (by decide), Option.bind_some]
  dsimp only
  rw [steps_ok fu [1, 2, 3] [1, 4, 3] (some []) (some []) (by decide) (by decide), Option.bind_some]
  dsimp only
  rw [steps_ok fu [1, 2] [2, 1] (some []) (some []) (by decide) (by decide), Option.bind_some]
  dsimp only
  have a1 : (mvs [2, 0, -1, 5]).2 = [false, true, true, false] := by decide
  have a2 : stepsOf [1, 2, 3] [1, 4, 3] = [PlaceStep.mk 4 3] := by rfl
  have a3 : stepsOf [1, 2] [2, 1] = [PlaceStep.mk 1 0] := by rfl
  rw [a1, a2, a3]
  rfl
end Go.Proofs.Ytamllgdaepjcfaa
