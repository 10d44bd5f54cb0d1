/- Plain data, and how it lies in cells: printed by a small program. -/
import Derived.Test.YtamllgdaepjcfaaPMC
namespace Go.Proofs.Ytamllgdaepjcfaa
open Go Go.X
set_option linter.unusedVariables false
set_option linter.unusedSimpArgs false
set_option maxRecDepth 100000
structure Enc where
  L_i_i64 : List Int → List (List D)
  X_i_i64 : Option (List Int) → Option (List (List D))
  L_bool : List Bool → List (List D)
  X_bool : Option (List Bool) → Option (List (List D))
noncomputable def theEnc : Enc := { L_i_i64 := List.map (fun x => [.int .i64 x]), X_i_i64 := Option.map (List.map (fun x => [.int .i64 x])), L_bool := List.map (fun x => [.bool x]), X_bool := Option.map (List.map (fun x => [.bool x])) }
def ce_i_i64 (E : Enc) : Int → List D
  | x => [.int .i64 x]
theorem ro_i_i64 {E : Enc} (hE : theEnc = E) : RowsOf E.L_i_i64 E.X_i_i64 (ce_i_i64 E) 1 := by
  subst hE
  have hc : ∀ x, [.int .i64 x] = ce_i_i64 theEnc x := fun x => by first | rfl | (simp only [ce_i_i64]; rfl)
  refine ⟨fun l => ?_, fun x => ?_, fun x => ?_⟩
  · exact congrArg (fun f => List.map f l) (funext hc)
  · rfl
  · rfl
def ce_bool (E : Enc) : Bool → List D
  | x => [.bool x]
theorem ro_bool {E : Enc} (hE : theEnc = E) : RowsOf E.L_bool E.X_bool (ce_bool E) 1 := by
  subst hE
  have hc : ∀ x, [.bool x] = ce_bool theEnc x := fun x => by first | rfl | (simp only [ce_bool]; rfl)
  refine ⟨fun l => ?_, fun x => ?_, fun x => ?_⟩
  · exact congrArg (fun f => List.map f l) (funext hc)
  · rfl
  · rfl
noncomputable def S : X.Sys := { fn := fnOf [(4, Try.f4), (19, Try.f19), (20, Try.f20), (21, Try.f21), (22, Try.f22), (23, Try.f23)], tab := tab, foreign := fun _ => none }
end Go.Proofs.Ytamllgdaepjcfaa
