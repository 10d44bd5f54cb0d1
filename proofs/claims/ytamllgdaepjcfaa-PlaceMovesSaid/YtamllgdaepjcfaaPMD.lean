/- Functions on plain data: printed by a small program. -/
import Derived.Test.YtamllgdaepjcfaaPME
namespace Go.Proofs.Ytamllgdaepjcfaa
open Go Go.X
set_option linter.unusedVariables false
set_option linter.unusedSimpArgs false
set_option maxRecDepth 100000
/-- tapestry/tapestrylaw01.Beyond -/
noncomputable def P19_s0 (fu : Nat) (a0_l : List Int) : (Bool × Int × Int) → Option ((Bool × Int × Int) ⊕ ((Bool × Int × Int) ⊕ (Bool × Int × Int)))
  | (i1, i2, i3) =>
    bif decide (i3 < (ln a0_l)) then
      (idx a0_l i3).bind fun x7 =>
        bif decide (1048576 < (w64 (i2 + x7))) then
          some (.inr (.inr (true, w64 (i2 + x7), i3)))
        else
          some (.inl (i1, w64 (i2 + x7), w64 (i3 + 1)))
    else
      some (.inr (.inl (i1, i2, i3)))
noncomputable def P19 (fu : Nat) (a0 : Sl Int) : Option (Bool) :=
  match a0 with
  | ⟨a0_l, a0_x⟩ =>
    (wl (P19_s0 fu a0_l) (false, 0, 0)).bind fun q =>
      match q with
      | .inl (o11, o12, o13) =>
        some false
      | .inr (o14, o15, o16) =>
        some o14
/-- tapestry/tapestrylaw01.TwinInts -/
noncomputable def P20_s0 (fu : Nat) (a0_l : List Int) : ((List Int) × Int) → Option (((List Int) × Int) ⊕ (((List Int) × Int)))
  | (l10, i11) =>
    bif decide (i11 < (ln a0_l)) then
      (idx a0_l i11).bind fun x15 =>
        bif room 8 (ln (l10 ++ [x15])) then
          bif decide (ln (l10 ++ [x15]) ≤ w64 ((ln a0_l) + 1)) then
            some (.inl ((l10 ++ [x15]), w64 (i11 + 1)))
          else none
        else none
    else
      some (.inr (l10, i11))
noncomputable def P20 (fu : Nat) (a0 : Sl Int) : Option (Sl Int) :=
  match a0 with
  | ⟨a0_l, a0_x⟩ =>
    bif decide (0 ≤ 0) then
      bif decide (0 ≤ w64 ((ln a0_l) + 1)) then
        bif room 8 (w64 ((ln a0_l) + 1)) then
          (wl (P20_s0 fu a0_l) ((List.replicate (Int.toNat 0) 0), 0)).bind fun q =>
            match q with
            | (o24, o25) =>
              bif room 8 (ln (o24 ++ [7777])) then
                bif decide (ln (o24 ++ [7777]) ≤ w64 ((ln a0_l) + 1)) then
                  bif (w64 ((ln a0_l) + 1) == ln (o24 ++ [7777])) then
                    bif decide (0 ≤ 0) then
                      bif decide (0 ≤ ln a0_l) then
                        bif decide (ln a0_l ≤ ln ((o24 ++ [7777]) ++ [])) then
                          some (Sl.mk (cut ((o24 ++ [7777]) ++ []) 0 (ln a0_l)) (some (cut ((o24 ++ [7777]) ++ []) (ln a0_l) (ln ((o24 ++ [7777]) ++ [])))))
                        else none
                      else none
                    else none
                  else
                    bif decide (0 ≤ 0) then
                      bif decide (0 ≤ ln a0_l) then
                        bif decide (ln a0_l ≤ ln (o24 ++ [7777])) then
                          some (Sl.mk (cut (o24 ++ [7777]) 0 (ln a0_l)) none)
                        else none
                      else none
                    else none
                else none
              else none
        else none
      else none
    else none
/-- tapestry/place.Moves -/
noncomputable def P21_s0 (fu : Nat) (a0_l : List Int) : ((List Bool) × Int × Int) → Option (((List Bool) × Int × Int) ⊕ (((List Bool) × Int × Int)))
  | (l5, i6, i7) =>
    bif decide (i7 < (ln a0_l)) then
      (idx a0_l i7).bind fun x9 =>
        bif !(decide (x9 < i6)) then
          bif room 1 (ln (l5 ++ [decide (x9 < i6)])) then
            some (.inl ((l5 ++ [decide (x9 < i6)]), x9, w64 (i7 + 1)))
          else none
        else
          bif room 1 (ln (l5 ++ [decide (x9 < i6)])) then
            some (.inl ((l5 ++ [decide (x9 < i6)]), i6, w64 (i7 + 1)))
          else none
    else
      some (.inr (l5, i6, i7))
noncomputable def P21 (fu : Nat) (a0 : Sl Int) : Option (List Bool) :=
  match a0 with
  | ⟨a0_l, a0_x⟩ =>
    (wl (P21_s0 fu a0_l) (([] : List Bool), 0, 0)).bind fun q =>
      match q with
      | (o23, o24, o25) =>
        some o23
/-- tapestry/tapestryref09.Moves -/
noncomputable def P22_s0 (fu : Nat) (a0_l : List Int) : ((List Bool) × Int × Int) → Option (((List Bool) × Int × Int) ⊕ (((List Bool) × Int × Int)))
  | (l3, i4, i5) =>
    bif decide (i5 < (ln a0_l)) then
      (idx a0_l i5).bind fun x9 =>
        bif !(decide (x9 < i4)) then
          (idx a0_l i5).bind fun x12 =>
            bif room 1 (ln (l3 ++ [decide (x12 < 0)])) then
              (idx a0_l i5).bind fun x19 =>
                bif decide (i4 ≤ x19) then
                  some (.inl ((l3 ++ [decide (x12 < 0)]), x19, w64 (i5 + 1)))
                else
                  some (.inl ((l3 ++ [decide (x12 < 0)]), i4, w64 (i5 + 1)))
            else none
        else
          bif room 1 (ln (l3 ++ [true])) then
            (idx a0_l i5).bind fun x27 =>
              bif decide (i4 ≤ x27) then
                some (.inl ((l3 ++ [true]), x27, w64 (i5 + 1)))
              else
                some (.inl ((l3 ++ [true]), i4, w64 (i5 + 1)))
          else none
    else
      some (.inr (l3, i4, i5))
noncomputable def P22 (fu : Nat) (a0 : Sl Int) : Option (Sl Bool) :=
  match a0 with
  | ⟨a0_l, a0_x⟩ =>
    (wl (P22_s0 fu a0_l) (([] : List Bool), (-1), 0)).bind fun q =>
      match q with
      | (o31, o32, o33) =>
        some (Sl.mk o31 none)
/-- tapestry/tapestrylaw01.LeftInts -/
noncomputable def P23_s0 (fu : Nat) (a0_l : List Int) (a1_l : List Int) : Int → Option (Int ⊕ (Int ⊕ Int))
  | i18 =>
    bif decide (i18 < (ln a1_l)) then
      (idx a0_l i18).bind fun x22 =>
        (idx a1_l i18).bind fun x24 =>
          bif !(x22 == x24) then
            some (.inr (.inr i18))
          else
            some (.inl (w64 (i18 + 1)))
    else
      some (.inr (.inl i18))
noncomputable def P23 (fu : Nat) (a0 : Sl Int) (a1 : Sl Int) : Option (Bool) :=
  match a0 with
  | ⟨a0_l, none⟩ =>
    match a1 with
    | ⟨a1_l, a1_x⟩ =>
      bif !(!((ln a0_l) == (ln a1_l))) then none else
        some false
  | ⟨a0_l, some a0_h⟩ =>
    match a1 with
    | ⟨a1_l, a1_x⟩ =>
      bif !(!((ln a0_l) == (ln a1_l))) then
        bif decide ((ln (a0_l ++ a0_h)) ≤ (ln a1_l)) then
          some false
        else
          (wl (P23_s0 fu a0_l a1_l) 0).bind fun q =>
            match q with
            | .inl o28 =>
              bif decide (0 ≤ 0) then
                bif decide (0 ≤ w64 ((ln a1_l) + 1)) then
                  bif decide (w64 ((ln a1_l) + 1) ≤ ln (a0_l ++ a0_h)) then
                    (idx (cut (a0_l ++ a0_h) 0 (w64 ((ln a1_l) + 1))) (ln a1_l)).bind fun x46 =>
                      some (x46 == 7777)
                  else none
                else none
              else none
            | .inr o48 =>
              some false
      else
        some false
/-- tapestry/tapestrylaw09.PlaceMoves -/
noncomputable def P4_s0 (fu : Nat) (r12 : List Bool) (r16_l : List Bool) : ((List Bool) × Int) → Option (((List Bool) × Int) ⊕ (((List Bool) × Int) ⊕ ((List Bool) × Int)))
  | (l27, i28) =>
    bif decide (i28 < (ln l27)) then
      (idx l27 i28).bind fun x30 =>
        (idx r16_l i28).bind fun x32 =>
          bif !(!(x30 == x32)) then
            (idx r12 i28).bind fun x35 =>
              (idx r16_l i28).bind fun x37 =>
                bif !(x35 == x37) then
                  some (.inr (.inr (l27, i28)))
                else
                  (idx l27 i28).bind fun x40 =>
                    (idx l27 i28).bind fun x42 =>
                      (idx r12 i28).bind fun x47 =>
                        (idx r16_l i28).bind fun x49 =>
                          bif !(x47 == x49) then
                            some (.inr (.inr ((List.set l27 (Int.toNat i28) (!x40)), i28)))
                          else
                            some (.inl ((List.set l27 (Int.toNat i28) (!x40)), w64 (i28 + 1)))
          else
            some (.inr (.inr (l27, i28)))
    else
      some (.inr (.inl (l27, i28)))
noncomputable def P4 (fu : Nat) (a0 : Sl Int) : Option (Bool) :=
  match a0 with
  | ⟨a0_l, a0_x⟩ =>
    (P19 fu (Sl.mk [ln a0_l] (some []))).bind fun r3 =>
      bif r3 then
        some true
      else
        (P20 fu (Sl.mk a0_l a0_x)).bind fun ⟨r6_l, r6_x⟩ =>
          (P21 fu (Sl.mk r6_l r6_x)).bind fun r8 =>
            (P21 fu (Sl.mk r6_l r6_x)).bind fun r12 =>
              (P22 fu (Sl.mk a0_l a0_x)).bind fun ⟨r16_l, r16_x⟩ =>
                bif !(!((ln r8) == (ln r16_l))) then
                  bif !(!((ln r12) == (ln r16_l))) then
                    (P23 fu (Sl.mk r6_l r6_x) (Sl.mk a0_l a0_x)).bind fun r24 =>
                      bif !r24 then
                        some false
                      else
                        (wl (P4_s0 fu r12 r16_l) (r8, 0)).bind fun q =>
                          match q with
                          | .inl (o53, o54) =>
                            some true
                          | .inr (o55, o56) =>
                            some false
                  else
                    some false
                else
                  some false
end Go.Proofs.Ytamllgdaepjcfaa
