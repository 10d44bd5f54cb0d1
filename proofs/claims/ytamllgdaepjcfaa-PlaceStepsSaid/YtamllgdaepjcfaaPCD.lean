/- Functions on plain data: printed by a small program. -/
import Derived.Test.YtamllgdaepjcfaaPCE
namespace Go.Proofs.Ytamllgdaepjcfaa
open Go Go.X
set_option linter.unusedVariables false
set_option linter.unusedSimpArgs false
set_option maxRecDepth 100000
/-- tapestry/tapestrylaw01.TwinInts -/
noncomputable def P20_s0 (fu : Nat) (a0_l : List Int) : ((List Int) × Int) → Option (((List Int) × Int) ⊕ (((List Int) × Int)))
  | (l10, i11) =>
    bif decide (i11 < (ln a0_l)) then
      (idx a0_l i11).bind fun x15 =>
        bif room 8 (ln (l10 ++ [x15])) then
          bif decide (ln (l10 ++ [x15]) ≤ w64 ((ln a0_l) + 1)) then
            some (.inl ((l10 ++ [x15]), w64 (i11 + 1)))
          else none
        else none
    else
      some (.inr (l10, i11))
noncomputable def P20 (fu : Nat) (a0 : Sl Int) : Option ((Sl Int)) :=
  match a0 with
  | ⟨a0_l, a0_x⟩ =>
    bif decide (0 ≤ 0) then
      bif decide (0 ≤ w64 ((ln a0_l) + 1)) then
        bif room 8 (w64 ((ln a0_l) + 1)) then
          (wl (P20_s0 fu a0_l) ((List.replicate (Int.toNat 0) 0), 0)).bind fun q =>
            match q with
            | (o24, o25) =>
              bif room 8 (ln (o24 ++ [7777])) then
                bif decide (ln (o24 ++ [7777]) ≤ w64 ((ln a0_l) + 1)) then
                  bif (w64 ((ln a0_l) + 1) == ln (o24 ++ [7777])) then
                    bif decide (0 ≤ 0) then
                      bif decide (0 ≤ ln a0_l) then
                        bif decide (ln a0_l ≤ ln ((o24 ++ [7777]) ++ [])) then
                          some (Sl.mk (cut ((o24 ++ [7777]) ++ []) 0 (ln a0_l)) (some (cut ((o24 ++ [7777]) ++ []) (ln a0_l) (ln ((o24 ++ [7777]) ++ [])))))
                        else none
                      else none
                    else none
                  else
                    bif decide (0 ≤ 0) then
                      bif decide (0 ≤ ln a0_l) then
                        bif decide (ln a0_l ≤ ln (o24 ++ [7777])) then
                          some (Sl.mk (cut (o24 ++ [7777]) 0 (ln a0_l)) none)
                        else none
                      else none
                    else none
                else none
              else none
        else none
      else none
    else none
/-- tapestry/place.row -/
noncomputable def P61_s0 (fu : Nat) (a0_l : List Int) : ((List Int) × (List (Int × Int)) × Int) → Option (((List Int) × (List (Int × Int)) × Int) ⊕ (((List Int) × (List (Int × Int)) × Int)))
  | (l7, m8, i9) =>
    bif decide (i9 < (ln a0_l)) then
      (idx a0_l i9).bind fun x11 =>
        (
        match mget m8 x11 with
        | none =>
          bif room 8 (ln (l7 ++ [x11])) then
            some (.inl ((l7 ++ [x11]), (mset m8 x11 (ln l7)), w64 (i9 + 1)))
          else none
        | some x13 =>
          some (.inl (l7, m8, w64 (i9 + 1)))
        )
    else
      some (.inr (l7, m8, i9))
noncomputable def P61 (fu : Nat) (a0 : Sl Int) : Option ((Sl Int) × (List (Int × Int))) :=
  match a0 with
  | ⟨a0_l, a0_x⟩ =>
    (wl (P61_s0 fu a0_l) (([] : List Int), ([] : List (Int × Int)), 0)).bind fun q =>
      match q with
      | (o23, o24, o25) =>
        some ((Sl.mk o23 none), o24)
/-- tapestry/place.Moves -/
noncomputable def P21_s0 (fu : Nat) (a0_l : List Int) : ((List Bool) × Int × Int) → Option (((List Bool) × Int × Int) ⊕ (((List Bool) × Int × Int)))
  | (l5, i6, i7) =>
    bif decide (i7 < (ln a0_l)) then
      (idx a0_l i7).bind fun x9 =>
        bif !(decide (x9 < i6)) then
          bif room 1 (ln (l5 ++ [decide (x9 < i6)])) then
            some (.inl ((l5 ++ [decide (x9 < i6)]), x9, w64 (i7 + 1)))
          else none
        else
          bif room 1 (ln (l5 ++ [decide (x9 < i6)])) then
            some (.inl ((l5 ++ [decide (x9 < i6)]), i6, w64 (i7 + 1)))
          else none
    else
      some (.inr (l5, i6, i7))
noncomputable def P21 (fu : Nat) (a0 : Sl Int) : Option ((Sl Bool)) :=
  match a0 with
  | ⟨a0_l, a0_x⟩ =>
    (wl (P21_s0 fu a0_l) (([] : List Bool), 0, 0)).bind fun q =>
      match q with
      | (o23, o24, o25) =>
        some (Sl.mk o23 none)
/-- tapestry/place.Steps$1 -/
noncomputable def P62x1_s0 (fu : Nat) (b0_l : List Int) (b1_l : List Bool) : (Int × Int) → Option ((Int × Int) ⊕ ((Int × Int) ⊕ (Int × Int)))
  | (i1, i2) =>
    bif decide (i2 < (ln b0_l)) then
      (idx b1_l i2).bind fun x6 =>
        bif !x6 then
          (idx b0_l i2).bind fun x9 =>
            some (.inr (.inr (x9, i2)))
        else
          some (.inl (i1, w64 (i2 + 1)))
    else
      some (.inr (.inl (i1, i2)))
noncomputable def P62x1 (fu : Nat) (a0 : Int) (b0 : Sl Int) (b1 : Sl Bool) : Option (Int) :=
  match b0 with
  | ⟨b0_l, b0_x⟩ =>
    match b1 with
    | ⟨b1_l, b1_x⟩ =>
      (wl (P62x1_s0 fu b0_l b1_l) (0, w64 (a0 + 1))).bind fun q =>
        match q with
        | .inl (o12, o13) =>
          some 0
        | .inr (o14, o15) =>
          some o14
/-- tapestry/place.Steps -/
noncomputable def P38_s0 (fu : Nat) (r5 : List (Int × Int)) (r7_l : List Int) : ((List Int) × Int) → Option (((List Int) × Int) ⊕ (((List Int) × Int)))
  | (l13, i14) =>
    bif decide (i14 < (ln r7_l)) then
      (idx r7_l i14).bind fun x16 =>
        (
        match mget r5 x16 with
        | none =>
          bif room 8 (ln (l13 ++ [(-1)])) then
            some (.inl ((l13 ++ [(-1)]), w64 (i14 + 1)))
          else none
        | some x18 =>
          bif room 8 (ln (l13 ++ [x18])) then
            some (.inl ((l13 ++ [x18]), w64 (i14 + 1)))
          else none
        )
    else
      some (.inr (l13, i14))
noncomputable def P38_s1 (fu : Nat) (r7_l : List Int) (r7_x : Option (List Int)) (r33_l : List Bool) (r33_x : Option (List Bool)) : ((List PlaceStep) × Int) → Option (((List PlaceStep) × Int) ⊕ (((List PlaceStep) × Int)))
  | (l37, i38) =>
    bif decide (i38 < (ln r7_l)) then
      (idx r7_l i38).bind fun x40 =>
        (idx r33_l i38).bind fun x42 =>
          bif x42 then
            (P62x1 fu i38 (Sl.mk r7_l r7_x) (Sl.mk r33_l r33_x)).bind fun r46 =>
              bif room 16 (ln (l37 ++ [(PlaceStep.mk x40 r46)])) then
                some (.inl ((l37 ++ [(PlaceStep.mk x40 r46)]), w64 (i38 + 1)))
              else none
          else
            some (.inl (l37, w64 (i38 + 1)))
    else
      some (.inr (l37, i38))
noncomputable def P38 (fu : Nat) (a0 : Sl Int) (a1 : Sl Int) : Option ((List PlaceStep)) :=
  match a0 with
  | ⟨a0_l, a0_x⟩ =>
    match a1 with
    | ⟨a1_l, a1_x⟩ =>
      (P61 fu (Sl.mk a0_l a0_x)).bind fun ⟨⟨r4_l, r4_x⟩, r5⟩ =>
        (P61 fu (Sl.mk a1_l a1_x)).bind fun ⟨⟨r7_l, r7_x⟩, r8⟩ =>
          (wl (P38_s0 fu r5 r7_l) (([] : List Int), 0)).bind fun q =>
            match q with
            | (o31, o32) =>
              (P21 fu (Sl.mk o31 none)).bind fun ⟨r33_l, r33_x⟩ =>
                (wl (P38_s1 fu r7_l r7_x r33_l r33_x) (([] : List PlaceStep), 0)).bind fun q =>
                  match q with
                  | (o53, o54) =>
                    some o53
/-- tapestry/tapestryref09.place -/
noncomputable def P64_s0 (fu : Nat) (a0_l : List Int) (a1 : Int) : (Int × Int) → Option ((Int × Int) ⊕ ((Int × Int) ⊕ (Int × Int)))
  | (i1, i2) =>
    bif decide (i2 < (ln a0_l)) then
      (idx a0_l i2).bind fun x6 =>
        bif x6 == a1 then
          some (.inr (.inr (i2, i2)))
        else
          some (.inl (i1, w64 (i2 + 1)))
    else
      some (.inr (.inl (i1, i2)))
noncomputable def P64 (fu : Nat) (a0 : Sl Int) (a1 : Int) : Option (Int) :=
  match a0 with
  | ⟨a0_l, a0_x⟩ =>
    (wl (P64_s0 fu a0_l a1) (0, 0)).bind fun q =>
      match q with
      | .inl (o10, o11) =>
        some (-1)
      | .inr (o12, o13) =>
        some o12
/-- tapestry/tapestryref09.row -/
noncomputable def P63_s0 (fu : Nat) (a0_l : List Int) : ((List Int) × Int) → Option (((List Int) × Int) ⊕ (((List Int) × Int)))
  | (l3, i4) =>
    bif decide (i4 < (ln a0_l)) then
      (idx a0_l i4).bind fun x8 =>
        (P64 fu (Sl.mk l3 none) x8).bind fun r10 =>
          bif decide (r10 < 0) then
            (idx a0_l i4).bind fun x13 =>
              bif room 8 (ln (l3 ++ [x13])) then
                some (.inl ((l3 ++ [x13]), w64 (i4 + 1)))
              else none
          else
            some (.inl (l3, w64 (i4 + 1)))
    else
      some (.inr (l3, i4))
noncomputable def P63 (fu : Nat) (a0 : Sl Int) : Option ((Sl Int)) :=
  match a0 with
  | ⟨a0_l, a0_x⟩ =>
    (wl (P63_s0 fu a0_l) (([] : List Int), 0)).bind fun q =>
      match q with
      | (o21, o22) =>
        some (Sl.mk o21 none)
/-- tapestry/tapestryref09.Moves -/
noncomputable def P22_s0 (fu : Nat) (a0_l : List Int) : ((List Bool) × Int × Int) → Option (((List Bool) × Int × Int) ⊕ (((List Bool) × Int × Int)))
  | (l3, i4, i5) =>
    bif decide (i5 < (ln a0_l)) then
      (idx a0_l i5).bind fun x9 =>
        bif !(decide (x9 < i4)) then
          (idx a0_l i5).bind fun x12 =>
            bif room 1 (ln (l3 ++ [decide (x12 < 0)])) then
              (idx a0_l i5).bind fun x19 =>
                bif decide (i4 ≤ x19) then
                  some (.inl ((l3 ++ [decide (x12 < 0)]), x19, w64 (i5 + 1)))
                else
                  some (.inl ((l3 ++ [decide (x12 < 0)]), i4, w64 (i5 + 1)))
            else none
        else
          bif room 1 (ln (l3 ++ [true])) then
            (idx a0_l i5).bind fun x27 =>
              bif decide (i4 ≤ x27) then
                some (.inl ((l3 ++ [true]), x27, w64 (i5 + 1)))
              else
                some (.inl ((l3 ++ [true]), i4, w64 (i5 + 1)))
          else none
    else
      some (.inr (l3, i4, i5))
noncomputable def P22 (fu : Nat) (a0 : Sl Int) : Option ((Sl Bool)) :=
  match a0 with
  | ⟨a0_l, a0_x⟩ =>
    (wl (P22_s0 fu a0_l) (([] : List Bool), (-1), 0)).bind fun q =>
      match q with
      | (o31, o32, o33) =>
        some (Sl.mk o31 none)
/-- tapestry/tapestryref09.Steps -/
noncomputable def P39_s0 (fu : Nat) (a0_l : List Int) (a0_x : Option (List Int)) (r1_l : List Int) : ((List Int) × Int) → Option (((List Int) × Int) ⊕ (((List Int) × Int)))
  | (l5, i6) =>
    bif decide (i6 < (ln r1_l)) then
      (P63 fu (Sl.mk a0_l a0_x)).bind fun ⟨r10_l, r10_x⟩ =>
        (idx r1_l i6).bind fun x12 =>
          (P64 fu (Sl.mk r10_l r10_x) x12).bind fun r14 =>
            bif room 8 (ln (l5 ++ [r14])) then
              some (.inl ((l5 ++ [r14]), w64 (i6 + 1)))
            else none
    else
      some (.inr (l5, i6))
noncomputable def P39_s2 (fu : Nat) (r1_l : List Int) (r24_l : List Bool) (i29 : Int) : (Int × Int) → Option ((Int × Int) ⊕ ((Int × Int)))
  | (i38, i39) =>
    bif decide (i29 < i39) then
      (idx r24_l i39).bind fun x41 =>
        bif !x41 then
          (idx r1_l i39).bind fun x44 =>
            some (.inl (x44, w64 (i39 - 1)))
        else
          some (.inl (i38, w64 (i39 - 1)))
    else
      some (.inr (i38, i39))
noncomputable def P39_s1 (fu : Nat) (r1_l : List Int) (r24_l : List Bool) : ((List Ref09Step) × Int) → Option (((List Ref09Step) × Int) ⊕ (((List Ref09Step) × Int)))
  | (l28, i29) =>
    bif decide (i29 < (ln r1_l)) then
      (idx r24_l i29).bind fun x33 =>
        bif !x33 then
          some (.inl (l28, w64 (i29 + 1)))
        else
          (wl (P39_s2 fu r1_l r24_l i29) (0, w64 ((ln r1_l) - 1))).bind fun q =>
            match q with
            | (o47, o48) =>
              (idx r1_l i29).bind fun x49 =>
                bif room 16 (ln (l28 ++ [(Ref09Step.mk x49 o47)])) then
                  some (.inl ((l28 ++ [(Ref09Step.mk x49 o47)]), w64 (i29 + 1)))
                else none
    else
      some (.inr (l28, i29))
noncomputable def P39 (fu : Nat) (a0 : Sl Int) (a1 : Sl Int) : Option ((Sl Ref09Step)) :=
  match a0 with
  | ⟨a0_l, a0_x⟩ =>
    match a1 with
    | ⟨a1_l, a1_x⟩ =>
      (P63 fu (Sl.mk a1_l a1_x)).bind fun ⟨r1_l, r1_x⟩ =>
        (wl (P39_s0 fu a0_l a0_x r1_l) (([] : List Int), 0)).bind fun q =>
          match q with
          | (o22, o23) =>
            (P22 fu (Sl.mk o22 none)).bind fun ⟨r24_l, r24_x⟩ =>
              (wl (P39_s1 fu r1_l r24_l) (([] : List Ref09Step), 0)).bind fun q =>
                match q with
                | (o57, o58) =>
                  some (Sl.mk o57 none)
/-- tapestry/tapestrylaw01.LeftInts -/
noncomputable def P23_s0 (fu : Nat) (a0_l : List Int) (a1_l : List Int) : Int → Option (Int ⊕ (Int ⊕ Int))
  | i18 =>
    bif decide (i18 < (ln a1_l)) then
      (idx a0_l i18).bind fun x22 =>
        (idx a1_l i18).bind fun x24 =>
          bif !(x22 == x24) then
            some (.inr (.inr i18))
          else
            some (.inl (w64 (i18 + 1)))
    else
      some (.inr (.inl i18))
noncomputable def P23 (fu : Nat) (a0 : Sl Int) (a1 : Sl Int) : Option (Bool) :=
  match a0 with
  | ⟨a0_l, none⟩ =>
    match a1 with
    | ⟨a1_l, a1_x⟩ =>
      bif !(!((ln a0_l) == (ln a1_l))) then none else
        some false
  | ⟨a0_l, some a0_h⟩ =>
    match a1 with
    | ⟨a1_l, a1_x⟩ =>
      bif !(!((ln a0_l) == (ln a1_l))) then
        bif decide ((ln (a0_l ++ a0_h)) ≤ (ln a1_l)) then
          some false
        else
          (wl (P23_s0 fu a0_l a1_l) 0).bind fun q =>
            match q with
            | .inl o28 =>
              bif decide (0 ≤ 0) then
                bif decide (0 ≤ w64 ((ln a1_l) + 1)) then
                  bif decide (w64 ((ln a1_l) + 1) ≤ ln (a0_l ++ a0_h)) then
                    (idx (cut (a0_l ++ a0_h) 0 (w64 ((ln a1_l) + 1))) (ln a1_l)).bind fun x46 =>
                      some (x46 == 7777)
                  else none
                else none
              else none
            | .inr o48 =>
              some false
      else
        some false
/-- tapestry/tapestrylaw09.PlaceSteps -/
noncomputable def P9_s0 (fu : Nat) (r16 : List PlaceStep) (r19_l : List Ref09Step) : ((List PlaceStep) × Int) → Option (((List PlaceStep) × Int) ⊕ (((List PlaceStep) × Int) ⊕ ((List PlaceStep) × Int)))
  | (l33, i34) =>
    bif decide (i34 < (ln l33)) then
      (idx l33 i34).bind fun ⟨x36_Node, x36_Before⟩ =>
        (idx r19_l i34).bind fun ⟨x38_Node, x38_Before⟩ =>
          bif !(!(x36_Node == x38_Node)) then
            (idx l33 i34).bind fun ⟨x41_Node, x41_Before⟩ =>
              (idx r19_l i34).bind fun ⟨x43_Node, x43_Before⟩ =>
                bif !(!(x41_Before == x43_Before)) then
                  (idx l33 i34).bind fun ⟨x46_Node, x46_Before⟩ =>
                    (idx r16 i34).bind fun ⟨x48_Node, x48_Before⟩ =>
                      bif !((x46_Node == x48_Node) && ((x46_Before == x48_Before) && true)) then
                        some (.inr (.inr (l33, i34)))
                      else
                        (idx l33 i34).bind fun ⟨x51_Node, x51_Before⟩ =>
                          (idx r16 i34).bind fun ⟨x56_Node, x56_Before⟩ =>
                            (idx r19_l i34).bind fun ⟨x58_Node, x58_Before⟩ =>
                              bif !(x56_Node == x58_Node) then
                                some (.inr (.inr ((List.set l33 (Int.toNat i34) (PlaceStep.mk (-9) (-9))), i34)))
                              else
                                some (.inl ((List.set l33 (Int.toNat i34) (PlaceStep.mk (-9) (-9))), w64 (i34 + 1)))
                else
                  some (.inr (.inr (l33, i34)))
          else
            some (.inr (.inr (l33, i34)))
    else
      some (.inr (.inl (l33, i34)))
noncomputable def P9 (fu : Nat) (a0 : Sl Int) (a1 : Sl Int) : Option (Bool) :=
  match a0 with
  | ⟨a0_l, a0_x⟩ =>
    match a1 with
    | ⟨a1_l, a1_x⟩ =>
      bif !(decide (500 < (ln a0_l))) then
        bif decide (500 < (ln a1_l)) then
          some true
        else
          (P20 fu (Sl.mk a0_l a0_x)).bind fun ⟨r7_l, r7_x⟩ =>
            (P20 fu (Sl.mk a1_l a1_x)).bind fun ⟨r9_l, r9_x⟩ =>
              (P38 fu (Sl.mk r7_l r7_x) (Sl.mk r9_l r9_x)).bind fun r12 =>
                (P38 fu (Sl.mk r7_l r7_x) (Sl.mk r9_l r9_x)).bind fun r16 =>
                  (P39 fu (Sl.mk a0_l a0_x) (Sl.mk a1_l a1_x)).bind fun ⟨r19_l, r19_x⟩ =>
                    bif !(!((ln r12) == (ln r19_l))) then
                      bif !(!((ln r16) == (ln r19_l))) then
                        (P23 fu (Sl.mk r7_l r7_x) (Sl.mk a0_l a0_x)).bind fun r27 =>
                          bif !(!r27) then
                            (P23 fu (Sl.mk r9_l r9_x) (Sl.mk a1_l a1_x)).bind fun r30 =>
                              bif !r30 then
                                some false
                              else
                                (wl (P9_s0 fu r16 r19_l) (r12, 0)).bind fun q =>
                                  match q with
                                  | .inl (o62, o63) =>
                                    some true
                                  | .inr (o64, o65) =>
                                    some false
                          else
                            some false
                      else
                        some false
                    else
                      some false
      else
        some true
end Go.Proofs.Ytamllgdaepjcfaa
