/- Functions on plain data: printed by a small program. -/
import Derived.Test.YtamllgdaepjcfaaPAE
namespace Go.Proofs.Ytamllgdaepjcfaa
open Go Go.X
set_option linter.unusedVariables false
set_option linter.unusedSimpArgs false
set_option maxRecDepth 100000
/-- tapestry/tapestrylaw09.has -/
noncomputable def P44_s0 (fu : Nat) (a0_l : List Int) (a1 : Int) : (Bool × Int) → Option ((Bool × Int) ⊕ ((Bool × Int) ⊕ (Bool × Int)))
  | (i1, i2) =>
    bif decide (i2 < (ln a0_l)) then
      (idx a0_l i2).bind fun x6 =>
        bif x6 == a1 then
          some (.inr (.inr (true, i2)))
        else
          some (.inl (i1, w64 (i2 + 1)))
    else
      some (.inr (.inl (i1, i2)))
noncomputable def P44 (fu : Nat) (a0 : Sl Int) (a1 : Int) : Option (Bool) :=
  match a0 with
  | ⟨a0_l, a0_x⟩ =>
    (wl (P44_s0 fu a0_l a1) (false, 0)).bind fun q =>
      match q with
      | .inl (o10, o11) =>
        some false
      | .inr (o12, o13) =>
        some o12
/-- tapestry/tapestrylaw09.row -/
noncomputable def P40_s0 (fu : Nat) (a0_l : List Int) : ((List Int) × Int) → Option (((List Int) × Int) ⊕ (((List Int) × Int)))
  | (l3, i4) =>
    bif decide (i4 < (ln a0_l)) then
      bif decide ((ln l3) < 200) then
        (idx a0_l i4).bind fun x9 =>
          (P44 fu (Sl.mk l3 none) (w64 ((w64 x9) + 1))).bind fun r11 =>
            bif !r11 then
              bif room 8 (ln (l3 ++ [w64 ((w64 x9) + 1)])) then
                some (.inl ((l3 ++ [w64 ((w64 x9) + 1)]), w64 (i4 + 1)))
              else none
            else
              some (.inl (l3, w64 (i4 + 1)))
      else
        some (.inr (l3, i4))
    else
      some (.inr (l3, i4))
noncomputable def P40 (fu : Nat) (a0 : Sl Int) : Option ((Sl Int)) :=
  match a0 with
  | ⟨a0_l, a0_x⟩ =>
    (wl (P40_s0 fu a0_l) (([] : List Int), 0)).bind fun q =>
      match q with
      | (o20, o21) =>
        some (Sl.mk o20 none)
/-- tapestry/place.Moves -/
noncomputable def P21_s0 (fu : Nat) (a0_l : List Int) : ((List Bool) × Int × Int) → Option (((List Bool) × Int × Int) ⊕ (((List Bool) × Int × Int)))
  | (l5, i6, i7) =>
    bif decide (i7 < (ln a0_l)) then
      (idx a0_l i7).bind fun x9 =>
        bif !(decide (x9 < i6)) then
          bif room 1 (ln (l5 ++ [decide (x9 < i6)])) then
            some (.inl ((l5 ++ [decide (x9 < i6)]), x9, w64 (i7 + 1)))
          else none
        else
          bif room 1 (ln (l5 ++ [decide (x9 < i6)])) then
            some (.inl ((l5 ++ [decide (x9 < i6)]), i6, w64 (i7 + 1)))
          else none
    else
      some (.inr (l5, i6, i7))
noncomputable def P21 (fu : Nat) (a0 : Sl Int) : Option ((Sl Bool)) :=
  match a0 with
  | ⟨a0_l, a0_x⟩ =>
    (wl (P21_s0 fu a0_l) (([] : List Bool), 0, 0)).bind fun q =>
      match q with
      | (o23, o24, o25) =>
        some (Sl.mk o23 none)
/-- tapestry/place.row -/
noncomputable def P61_s0 (fu : Nat) (a0_l : List Int) : ((List Int) × (List (Int × Int)) × Int) → Option (((List Int) × (List (Int × Int)) × Int) ⊕ (((List Int) × (List (Int × Int)) × Int)))
  | (l7, m8, i9) =>
    bif decide (i9 < (ln a0_l)) then
      (idx a0_l i9).bind fun x11 =>
        (
        match mget m8 x11 with
        | none =>
          bif room 8 (ln (l7 ++ [x11])) then
            some (.inl ((l7 ++ [x11]), (mset m8 x11 (ln l7)), w64 (i9 + 1)))
          else none
        | some x13 =>
          some (.inl (l7, m8, w64 (i9 + 1)))
        )
    else
      some (.inr (l7, m8, i9))
noncomputable def P61 (fu : Nat) (a0 : Sl Int) : Option ((Sl Int) × (List (Int × Int))) :=
  match a0 with
  | ⟨a0_l, a0_x⟩ =>
    (wl (P61_s0 fu a0_l) (([] : List Int), ([] : List (Int × Int)), 0)).bind fun q =>
      match q with
      | (o23, o24, o25) =>
        some ((Sl.mk o23 none), o24)
/-- tapestry/place.Steps$1 -/
noncomputable def P62x1_s0 (fu : Nat) (b0_l : List Int) (b1_l : List Bool) : (Int × Int) → Option ((Int × Int) ⊕ ((Int × Int) ⊕ (Int × Int)))
  | (i1, i2) =>
    bif decide (i2 < (ln b0_l)) then
      (idx b1_l i2).bind fun x6 =>
        bif !x6 then
          (idx b0_l i2).bind fun x9 =>
            some (.inr (.inr (x9, i2)))
        else
          some (.inl (i1, w64 (i2 + 1)))
    else
      some (.inr (.inl (i1, i2)))
noncomputable def P62x1 (fu : Nat) (a0 : Int) (b0 : Sl Int) (b1 : Sl Bool) : Option (Int) :=
  match b0 with
  | ⟨b0_l, b0_x⟩ =>
    match b1 with
    | ⟨b1_l, b1_x⟩ =>
      (wl (P62x1_s0 fu b0_l b1_l) (0, w64 (a0 + 1))).bind fun q =>
        match q with
        | .inl (o12, o13) =>
          some 0
        | .inr (o14, o15) =>
          some o14
/-- tapestry/place.Steps -/
noncomputable def P38_s0 (fu : Nat) (r5 : List (Int × Int)) (r7_l : List Int) : ((List Int) × Int) → Option (((List Int) × Int) ⊕ (((List Int) × Int)))
  | (l13, i14) =>
    bif decide (i14 < (ln r7_l)) then
      (idx r7_l i14).bind fun x16 =>
        (
        match mget r5 x16 with
        | none =>
          bif room 8 (ln (l13 ++ [(-1)])) then
            some (.inl ((l13 ++ [(-1)]), w64 (i14 + 1)))
          else none
        | some x18 =>
          bif room 8 (ln (l13 ++ [x18])) then
            some (.inl ((l13 ++ [x18]), w64 (i14 + 1)))
          else none
        )
    else
      some (.inr (l13, i14))
noncomputable def P38_s1 (fu : Nat) (r7_l : List Int) (r7_x : Option (List Int)) (r33_l : List Bool) (r33_x : Option (List Bool)) : ((List PlaceStep) × Int) → Option (((List PlaceStep) × Int) ⊕ (((List PlaceStep) × Int)))
  | (l37, i38) =>
    bif decide (i38 < (ln r7_l)) then
      (idx r7_l i38).bind fun x40 =>
        (idx r33_l i38).bind fun x42 =>
          bif x42 then
            (P62x1 fu i38 (Sl.mk r7_l r7_x) (Sl.mk r33_l r33_x)).bind fun r46 =>
              bif room 16 (ln (l37 ++ [(PlaceStep.mk x40 r46)])) then
                some (.inl ((l37 ++ [(PlaceStep.mk x40 r46)]), w64 (i38 + 1)))
              else none
          else
            some (.inl (l37, w64 (i38 + 1)))
    else
      some (.inr (l37, i38))
noncomputable def P38 (fu : Nat) (a0 : Sl Int) (a1 : Sl Int) : Option ((Sl PlaceStep)) :=
  match a0 with
  | ⟨a0_l, a0_x⟩ =>
    match a1 with
    | ⟨a1_l, a1_x⟩ =>
      (P61 fu (Sl.mk a0_l a0_x)).bind fun ⟨⟨r4_l, r4_x⟩, r5⟩ =>
        (P61 fu (Sl.mk a1_l a1_x)).bind fun ⟨⟨r7_l, r7_x⟩, r8⟩ =>
          (wl (P38_s0 fu r5 r7_l) (([] : List Int), 0)).bind fun q =>
            match q with
            | (o31, o32) =>
              (P21 fu (Sl.mk o31 none)).bind fun ⟨r33_l, r33_x⟩ =>
                (wl (P38_s1 fu r7_l r7_x r33_l r33_x) (([] : List PlaceStep), 0)).bind fun q =>
                  match q with
                  | (o53, o54) =>
                    some (Sl.mk o53 none)
/-- tapestry/tapestrylaw09.alive -/
noncomputable def P42 (fu : Nat)  : Option (Bool) :=
  (P21 fu (Sl.mk [2, 0, (-1), 5] (some []))).bind fun ⟨r1_l, r1_x⟩ =>
    (P38 fu (Sl.mk [1, 2, 3] (some [])) (Sl.mk [1, 4, 3] (some []))).bind fun ⟨r3_l, r3_x⟩ =>
      (P38 fu (Sl.mk [1, 2] (some [])) (Sl.mk [2, 1] (some []))).bind fun ⟨r5_l, r5_x⟩ =>
        bif (ln r1_l) == 4 then
          (idx r1_l 0).bind fun x10 =>
            bif !x10 then
              (idx r1_l 1).bind fun x13 =>
                bif x13 then
                  (idx r1_l 2).bind fun x16 =>
                    bif x16 then
                      (idx r1_l 3).bind fun x19 =>
                        bif !x19 then
                          bif (ln r3_l) == 1 then
                            (idx r3_l 0).bind fun ⟨x25_Node, x25_Before⟩ =>
                              bif (x25_Node == 4) && ((x25_Before == 3) && true) then
                                bif (ln r5_l) == 1 then
                                  (idx r5_l 0).bind fun ⟨x31_Node, x31_Before⟩ =>
                                    some ((x31_Node == 1) && ((x31_Before == 0) && true))
                                else
                                  some false
                              else
                                some false
                          else
                            some false
                        else
                          some false
                    else
                      some false
                else
                  some false
            else
              some false
        else
          some false
/-- tapestry/tapestrylaw09.without -/
noncomputable def P41_s0 (fu : Nat) (a0_l : List Int) (a1_l : List Int) (a1_x : Option (List Int)) : ((List Int) × Int) → Option (((List Int) × Int) ⊕ (((List Int) × Int)))
  | (l3, i4) =>
    bif decide (i4 < (ln a0_l)) then
      (idx a0_l i4).bind fun x8 =>
        (P44 fu (Sl.mk a1_l a1_x) x8).bind fun r10 =>
          bif r10 then
            (idx a0_l i4).bind fun x13 =>
              bif room 8 (ln (l3 ++ [x13])) then
                some (.inl ((l3 ++ [x13]), w64 (i4 + 1)))
              else none
          else
            some (.inl (l3, w64 (i4 + 1)))
    else
      some (.inr (l3, i4))
noncomputable def P41 (fu : Nat) (a0 : Sl Int) (a1 : Sl Int) : Option ((Sl Int)) :=
  match a0 with
  | ⟨a0_l, a0_x⟩ =>
    match a1 with
    | ⟨a1_l, a1_x⟩ =>
      (wl (P41_s0 fu a0_l a1_l a1_x) (([] : List Int), 0)).bind fun q =>
        match q with
        | (o21, o22) =>
          some (Sl.mk o21 none)
/-- tapestry/tapestrylaw09.PlaceStays -/
noncomputable def P11_s1 (fu : Nat) (r1_l : List Int) (r3_l : List Int) (i25 : Int) : (Int × Int) → Option ((Int × Int) ⊕ ((Int × Int)))
  | (i29, i30) =>
    bif decide (i30 < (ln r1_l)) then
      (idx r1_l i30).bind fun x34 =>
        (idx r3_l i25).bind fun x36 =>
          bif x34 == x36 then
            some (.inl (i30, w64 (i30 + 1)))
          else
            some (.inl (i29, w64 (i30 + 1)))
    else
      some (.inr (i29, i30))
noncomputable def P11_s0 (fu : Nat) (r1_l : List Int) (r3_l : List Int) : ((List Int) × Int) → Option (((List Int) × Int) ⊕ (((List Int) × Int)))
  | (l24, i25) =>
    bif decide (i25 < (ln r3_l)) then
      (wl (P11_s1 fu r1_l r3_l i25) ((-1), 0)).bind fun q =>
        match q with
        | (o40, o41) =>
          bif room 8 (ln (l24 ++ [o40])) then
            some (.inl ((l24 ++ [o40]), w64 (i25 + 1)))
          else none
    else
      some (.inr (l24, i25))
noncomputable def P11_s2 (fu : Nat) (r3_l : List Int) (r20_l : List PlaceStep) (r50_l : List Bool) : (Int × Int) → Option ((Int × Int) ⊕ ((Int × Int) ⊕ (Int × Int)))
  | (i52, i53) =>
    bif decide (i53 < (ln r3_l)) then
      (idx r50_l i53).bind fun x57 =>
        bif !x57 then
          some (.inl (i52, w64 (i53 + 1)))
        else
          bif !(decide ((ln r20_l) ≤ i52)) then
            (idx r20_l i52).bind fun ⟨x63_Node, x63_Before⟩ =>
              (idx r3_l i53).bind fun x65 =>
                bif !(x63_Node == x65) then
                  some (.inr (.inr (i52, i53)))
                else
                  some (.inl (w64 (i52 + 1), w64 (i53 + 1)))
          else
            some (.inr (.inr (i52, i53)))
    else
      some (.inr (.inl (i52, i53)))
noncomputable def P11 (fu : Nat) (a0 : Sl Int) (a1 : Sl Int) : Option (Bool) :=
  match a0 with
  | ⟨a0_l, a0_x⟩ =>
    match a1 with
    | ⟨a1_l, a1_x⟩ =>
      (P40 fu (Sl.mk a0_l a0_x)).bind fun ⟨r1_l, r1_x⟩ =>
        (P40 fu (Sl.mk a1_l a1_x)).bind fun ⟨r3_l, r3_x⟩ =>
          (P42 fu).bind fun r5 =>
            bif !(!r5) then
              (P38 fu (Sl.mk r1_l r1_x) (Sl.mk r1_l r1_x)).bind fun ⟨r8_l, r8_x⟩ =>
                bif !(!((ln r8_l) == 0)) then
                  (P41 fu (Sl.mk r1_l r1_x) (Sl.mk r3_l r3_x)).bind fun ⟨r13_l, r13_x⟩ =>
                    (P38 fu (Sl.mk r1_l r1_x) (Sl.mk r13_l r13_x)).bind fun ⟨r15_l, r15_x⟩ =>
                      bif !((ln r15_l) == 0) then
                        some false
                      else
                        (P38 fu (Sl.mk r1_l r1_x) (Sl.mk r3_l r3_x)).bind fun ⟨r20_l, r20_x⟩ =>
                          (wl (P11_s0 fu r1_l r3_l) (([] : List Int), 0)).bind fun q =>
                            match q with
                            | (o48, o49) =>
                              (P21 fu (Sl.mk o48 none)).bind fun ⟨r50_l, r50_x⟩ =>
                                (wl (P11_s2 fu r3_l r20_l r50_l) (0, 0)).bind fun q =>
                                  match q with
                                  | .inl (o69, o70) =>
                                    bif o69 == (ln r20_l) then
                                      some ((ln r50_l) == (ln r3_l))
                                    else
                                      some false
                                  | .inr (o78, o79) =>
                                    some false
                else
                  some false
            else
              some false
end Go.Proofs.Ytamllgdaepjcfaa
