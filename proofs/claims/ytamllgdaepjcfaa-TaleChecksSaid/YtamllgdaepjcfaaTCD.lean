/- Functions on plain data: printed by a small program. -/
import Derived.Test.YtamllgdaepjcfaaTCE
namespace Go.Proofs.Ytamllgdaepjcfaa
open Go Go.X
set_option linter.unusedVariables false
set_option linter.unusedSimpArgs false
set_option maxRecDepth 100000
/-- (*tapestry/tale.story).goes -/
noncomputable def P58x1 (fu : Nat) (a1 : Note) (b0 : Bool × Bool × Bool) (b1 : List (Talerun × Bool)) : Option (Bool × (Bool × Bool × Bool) × (List (Talerun × Bool))) :=
  match a1 with
  | ⟨a1_Kind, a1_Inst, a1_Name, a1_Late, a1_Text⟩ =>
    match b0 with
    | ⟨b0_0, b0_1, b0_2⟩ =>
      bif a1_Kind == 1 then
        some (!b0_2, (true, b0_1, b0_2), b1)
      else
        bif a1_Kind == 2 then
          bif b0_0 then
            bif !b0_1 then
              some (!b0_2, (b0_0, true, b0_2), b1)
            else
              some (false, (b0_0, true, b0_2), b1)
          else
            some (false, (b0_0, true, b0_2), b1)
        else
          bif a1_Kind == 4 then
            bif !(decide (0 < (ln b1))) then
              bif b0_2 then
                some (false, (b0_0, b0_1, b0_2), b1)
              else
                some (b0_1, (b0_0, b0_1, true), b1)
            else
              some (false, (b0_0, b0_1, b0_2), b1)
          else
            bif a1_Kind == 5 then
              (
              match mget b1 (Talerun.mk a1_Name a1_Late) with
              | none =>
                bif b0_1 then
                  some (!b0_2, (b0_0, b0_1, b0_2), (mset b1 (Talerun.mk a1_Name a1_Late) true))
                else
                  some (false, (b0_0, b0_1, b0_2), (mset b1 (Talerun.mk a1_Name a1_Late) true))
              | some x11 =>
                bif x11 then
                  some (false, (b0_0, b0_1, b0_2), b1)
                else
                  bif b0_1 then
                    some (!b0_2, (b0_0, b0_1, b0_2), (mset b1 (Talerun.mk a1_Name a1_Late) true))
                  else
                    some (false, (b0_0, b0_1, b0_2), (mset b1 (Talerun.mk a1_Name a1_Late) true))
              )
            else
              bif a1_Kind == 3 then
                bif b0_1 then
                  some (!b0_2, (b0_0, b0_1, b0_2), b1)
                else
                  some (false, (b0_0, b0_1, b0_2), b1)
              else
                bif a1_Kind == 6 then
                  (
                  match mget b1 (Talerun.mk a1_Name a1_Late) with
                  | none =>
                    some (false, (b0_0, b0_1, b0_2), (mrem b1 (Talerun.mk a1_Name a1_Late)))
                  | some x23 =>
                    bif x23 then
                      bif b0_1 then
                        some (!b0_2, (b0_0, b0_1, b0_2), (mrem b1 (Talerun.mk a1_Name a1_Late)))
                      else
                        some (false, (b0_0, b0_1, b0_2), (mrem b1 (Talerun.mk a1_Name a1_Late)))
                    else
                      some (false, (b0_0, b0_1, b0_2), (mrem b1 (Talerun.mk a1_Name a1_Late)))
                  )
                else
                  some (true, (b0_0, b0_1, b0_2), b1)
end Go.Proofs.Ytamllgdaepjcfaa
