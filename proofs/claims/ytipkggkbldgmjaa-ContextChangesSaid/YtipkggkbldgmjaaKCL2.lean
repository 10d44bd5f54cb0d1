/- Values on plain data: being the same, as the program tells it. -/
import Derived.Test.YtipkggkbldgmjaaKCL1
namespace Go.Proofs.Ytipkggkbldgmjaa
open Go Go.X
set_option linter.unusedVariables false
set_option linter.unusedSimpArgs false
set_option maxRecDepth 100000
theorem eqV_st (fu : Nat) (p : Value → Value → Option Bool) (a b : List Value) : P36_s0 fu p a b = stAll a b p := by
  funext i
  unfold P36_s0 stAll
  dsimp only
  cases decide (i < ln a)
  · rfl
  · cases idx a i with
    | none => rfl
    | some x =>
      obtain ⟨_, _, _, ⟨_, _⟩, ⟨_, _⟩, _, _, _⟩ := x
      cases idx b i with
      | none => rfl
      | some y =>
        obtain ⟨_, _, _, ⟨_, _⟩, ⟨_, _⟩, _, _, _⟩ := y
        rfl
theorem eqF_st (fu : Nat) (p : Field → Field → Option Bool) (a b : List Field) : P72_s0 fu p a b = stAll a b p := by
  funext i
  unfold P72_s0 stAll
  dsimp only
  cases decide (i < ln a)
  · rfl
  · cases idx a i with
    | none => rfl
    | some x =>
      obtain ⟨_, ⟨_, _, _, ⟨_, _⟩, ⟨_, _⟩, _, _, _⟩⟩ := x
      cases idx b i with
      | none => rfl
      | some y =>
        obtain ⟨_, ⟨_, _, _, ⟨_, _⟩, ⟨_, _⟩, _, _, _⟩⟩ := y
        rfl
/-- Fields, held against each other. -/
def fld (p : Value → Value → Option Bool) : Field → Field → Option Bool
  | ⟨n, v⟩, ⟨m, w⟩ => bif seq n m then p v w else some false
theorem sameF_fld (fu : Nat) (a b : Field) : P73 (fu + 1) a b = fld (P32 fu) a b := by
  obtain ⟨n, ⟨_, _, _, ⟨_, _⟩, ⟨_, _⟩, _, _, _⟩⟩ := a
  obtain ⟨m, ⟨_, _, _, ⟨_, _⟩, ⟨_, _⟩, _, _, _⟩⟩ := b
  rw [P73.eq_2]
  simp only [Pb73, bind_id, fld]

end Go.Proofs.Ytipkggkbldgmjaa
