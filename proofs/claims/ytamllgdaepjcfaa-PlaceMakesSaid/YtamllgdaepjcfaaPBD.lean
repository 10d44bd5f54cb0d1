/- Functions on plain data: printed by a small program. -/
import Derived.Test.YtamllgdaepjcfaaPBE
namespace Go.Proofs.Ytamllgdaepjcfaa
open Go Go.X
set_option linter.unusedVariables false
set_option linter.unusedSimpArgs false
set_option maxRecDepth 100000
/-- tapestry/tapestrylaw09.has -/
noncomputable def P44_s0 (fu : Nat) (a0_l : List Int) (a1 : Int) : (Bool × Int) → Option ((Bool × Int) ⊕ ((Bool × Int) ⊕ (Bool × Int)))
  | (i1, i2) =>
    bif decide (i2 < (ln a0_l)) then
      (idx a0_l i2).bind fun x6 =>
        bif x6 == a1 then
          some (.inr (.inr (true, i2)))
        else
          some (.inl (i1, w64 (i2 + 1)))
    else
      some (.inr (.inl (i1, i2)))
noncomputable def P44 (fu : Nat) (a0 : Sl Int) (a1 : Int) : Option (Bool) :=
  match a0 with
  | ⟨a0_l, a0_x⟩ =>
    (wl (P44_s0 fu a0_l a1) (false, 0)).bind fun q =>
      match q with
      | .inl (o10, o11) =>
        some false
      | .inr (o12, o13) =>
        some o12
/-- tapestry/tapestrylaw09.row -/
noncomputable def P40_s0 (fu : Nat) (a0_l : List Int) : ((List Int) × Int) → Option (((List Int) × Int) ⊕ (((List Int) × Int)))
  | (l3, i4) =>
    bif decide (i4 < (ln a0_l)) then
      bif decide ((ln l3) < 200) then
        (idx a0_l i4).bind fun x9 =>
          (P44 fu (Sl.mk l3 none) (w64 ((w64 x9) + 1))).bind fun r11 =>
            bif !r11 then
              bif room 8 (ln (l3 ++ [w64 ((w64 x9) + 1)])) then
                some (.inl ((l3 ++ [w64 ((w64 x9) + 1)]), w64 (i4 + 1)))
              else none
            else
              some (.inl (l3, w64 (i4 + 1)))
      else
        some (.inr (l3, i4))
    else
      some (.inr (l3, i4))
noncomputable def P40 (fu : Nat) (a0 : Sl Int) : Option ((Sl Int)) :=
  match a0 with
  | ⟨a0_l, a0_x⟩ =>
    (wl (P40_s0 fu a0_l) (([] : List Int), 0)).bind fun q =>
      match q with
      | (o20, o21) =>
        some (Sl.mk o20 none)
/-- tapestry/tapestrylaw09.without -/
noncomputable def P41_s0 (fu : Nat) (a0_l : List Int) (a1_l : List Int) (a1_x : Option (List Int)) : ((List Int) × Int) → Option (((List Int) × Int) ⊕ (((List Int) × Int)))
  | (l3, i4) =>
    bif decide (i4 < (ln a0_l)) then
      (idx a0_l i4).bind fun x8 =>
        (P44 fu (Sl.mk a1_l a1_x) x8).bind fun r10 =>
          bif r10 then
            (idx a0_l i4).bind fun x13 =>
              bif room 8 (ln (l3 ++ [x13])) then
                some (.inl ((l3 ++ [x13]), w64 (i4 + 1)))
              else none
          else
            some (.inl (l3, w64 (i4 + 1)))
    else
      some (.inr (l3, i4))
noncomputable def P41 (fu : Nat) (a0 : Sl Int) (a1 : Sl Int) : Option ((Sl Int)) :=
  match a0 with
  | ⟨a0_l, a0_x⟩ =>
    match a1 with
    | ⟨a1_l, a1_x⟩ =>
      (wl (P41_s0 fu a0_l a1_l a1_x) (([] : List Int), 0)).bind fun q =>
        match q with
        | (o21, o22) =>
          some (Sl.mk o21 none)
/-- tapestry/place.row -/
noncomputable def P61_s0 (fu : Nat) (a0_l : List Int) : ((List Int) × (List (Int × Int)) × Int) → Option (((List Int) × (List (Int × Int)) × Int) ⊕ (((List Int) × (List (Int × Int)) × Int)))
  | (l7, m8, i9) =>
    bif decide (i9 < (ln a0_l)) then
      (idx a0_l i9).bind fun x11 =>
        (
        match mget m8 x11 with
        | none =>
          bif room 8 (ln (l7 ++ [x11])) then
            some (.inl ((l7 ++ [x11]), (mset m8 x11 (ln l7)), w64 (i9 + 1)))
          else none
        | some x13 =>
          some (.inl (l7, m8, w64 (i9 + 1)))
        )
    else
      some (.inr (l7, m8, i9))
noncomputable def P61 (fu : Nat) (a0 : Sl Int) : Option ((Sl Int) × (List (Int × Int))) :=
  match a0 with
  | ⟨a0_l, a0_x⟩ =>
    (wl (P61_s0 fu a0_l) (([] : List Int), ([] : List (Int × Int)), 0)).bind fun q =>
      match q with
      | (o23, o24, o25) =>
        some ((Sl.mk o23 none), o24)
/-- tapestry/place.Moves -/
noncomputable def P21_s0 (fu : Nat) (a0_l : List Int) : ((List Bool) × Int × Int) → Option (((List Bool) × Int × Int) ⊕ (((List Bool) × Int × Int)))
  | (l5, i6, i7) =>
    bif decide (i7 < (ln a0_l)) then
      (idx a0_l i7).bind fun x9 =>
        bif !(decide (x9 < i6)) then
          bif room 1 (ln (l5 ++ [decide (x9 < i6)])) then
            some (.inl ((l5 ++ [decide (x9 < i6)]), x9, w64 (i7 + 1)))
          else none
        else
          bif room 1 (ln (l5 ++ [decide (x9 < i6)])) then
            some (.inl ((l5 ++ [decide (x9 < i6)]), i6, w64 (i7 + 1)))
          else none
    else
      some (.inr (l5, i6, i7))
noncomputable def P21 (fu : Nat) (a0 : Sl Int) : Option ((Sl Bool)) :=
  match a0 with
  | ⟨a0_l, a0_x⟩ =>
    (wl (P21_s0 fu a0_l) (([] : List Bool), 0, 0)).bind fun q =>
      match q with
      | (o23, o24, o25) =>
        some (Sl.mk o23 none)
/-- tapestry/place.Steps$1 -/
noncomputable def P62x1_s0 (fu : Nat) (b0_l : List Int) (b1_l : List Bool) : (Int × Int) → Option ((Int × Int) ⊕ ((Int × Int) ⊕ (Int × Int)))
  | (i1, i2) =>
    bif decide (i2 < (ln b0_l)) then
      (idx b1_l i2).bind fun x6 =>
        bif !x6 then
          (idx b0_l i2).bind fun x9 =>
            some (.inr (.inr (x9, i2)))
        else
          some (.inl (i1, w64 (i2 + 1)))
    else
      some (.inr (.inl (i1, i2)))
noncomputable def P62x1 (fu : Nat) (a0 : Int) (b0 : Sl Int) (b1 : Sl Bool) : Option (Int) :=
  match b0 with
  | ⟨b0_l, b0_x⟩ =>
    match b1 with
    | ⟨b1_l, b1_x⟩ =>
      (wl (P62x1_s0 fu b0_l b1_l) (0, w64 (a0 + 1))).bind fun q =>
        match q with
        | .inl (o12, o13) =>
          some 0
        | .inr (o14, o15) =>
          some o14
/-- tapestry/place.Steps -/
noncomputable def P38_s0 (fu : Nat) (r5 : List (Int × Int)) (r7_l : List Int) : ((List Int) × Int) → Option (((List Int) × Int) ⊕ (((List Int) × Int)))
  | (l13, i14) =>
    bif decide (i14 < (ln r7_l)) then
      (idx r7_l i14).bind fun x16 =>
        (
        match mget r5 x16 with
        | none =>
          bif room 8 (ln (l13 ++ [(-1)])) then
            some (.inl ((l13 ++ [(-1)]), w64 (i14 + 1)))
          else none
        | some x18 =>
          bif room 8 (ln (l13 ++ [x18])) then
            some (.inl ((l13 ++ [x18]), w64 (i14 + 1)))
          else none
        )
    else
      some (.inr (l13, i14))
noncomputable def P38_s1 (fu : Nat) (r7_l : List Int) (r7_x : Option (List Int)) (r33_l : List Bool) (r33_x : Option (List Bool)) : ((List PlaceStep) × Int) → Option (((List PlaceStep) × Int) ⊕ (((List PlaceStep) × Int)))
  | (l37, i38) =>
    bif decide (i38 < (ln r7_l)) then
      (idx r7_l i38).bind fun x40 =>
        (idx r33_l i38).bind fun x42 =>
          bif x42 then
            (P62x1 fu i38 (Sl.mk r7_l r7_x) (Sl.mk r33_l r33_x)).bind fun r46 =>
              bif room 16 (ln (l37 ++ [(PlaceStep.mk x40 r46)])) then
                some (.inl ((l37 ++ [(PlaceStep.mk x40 r46)]), w64 (i38 + 1)))
              else none
          else
            some (.inl (l37, w64 (i38 + 1)))
    else
      some (.inr (l37, i38))
noncomputable def P38 (fu : Nat) (a0 : Sl Int) (a1 : Sl Int) : Option ((Sl PlaceStep)) :=
  match a0 with
  | ⟨a0_l, a0_x⟩ =>
    match a1 with
    | ⟨a1_l, a1_x⟩ =>
      (P61 fu (Sl.mk a0_l a0_x)).bind fun ⟨⟨r4_l, r4_x⟩, r5⟩ =>
        (P61 fu (Sl.mk a1_l a1_x)).bind fun ⟨⟨r7_l, r7_x⟩, r8⟩ =>
          (wl (P38_s0 fu r5 r7_l) (([] : List Int), 0)).bind fun q =>
            match q with
            | (o31, o32) =>
              (P21 fu (Sl.mk o31 none)).bind fun ⟨r33_l, r33_x⟩ =>
                (wl (P38_s1 fu r7_l r7_x r33_l r33_x) (([] : List PlaceStep), 0)).bind fun q =>
                  match q with
                  | (o53, o54) =>
                    some (Sl.mk o53 none)
/-- tapestry/tapestrylaw09.alive -/
noncomputable def P42 (fu : Nat)  : Option (Bool) :=
  (P21 fu (Sl.mk [2, 0, (-1), 5] (some []))).bind fun ⟨r1_l, r1_x⟩ =>
    (P38 fu (Sl.mk [1, 2, 3] (some [])) (Sl.mk [1, 4, 3] (some []))).bind fun ⟨r3_l, r3_x⟩ =>
      (P38 fu (Sl.mk [1, 2] (some [])) (Sl.mk [2, 1] (some []))).bind fun ⟨r5_l, r5_x⟩ =>
        bif (ln r1_l) == 4 then
          (idx r1_l 0).bind fun x10 =>
            bif !x10 then
              (idx r1_l 1).bind fun x13 =>
                bif x13 then
                  (idx r1_l 2).bind fun x16 =>
                    bif x16 then
                      (idx r1_l 3).bind fun x19 =>
                        bif !x19 then
                          bif (ln r3_l) == 1 then
                            (idx r3_l 0).bind fun ⟨x25_Node, x25_Before⟩ =>
                              bif (x25_Node == 4) && ((x25_Before == 3) && true) then
                                bif (ln r5_l) == 1 then
                                  (idx r5_l 0).bind fun ⟨x31_Node, x31_Before⟩ =>
                                    some ((x31_Node == 1) && ((x31_Before == 0) && true))
                                else
                                  some false
                              else
                                some false
                          else
                            some false
                        else
                          some false
                    else
                      some false
                else
                  some false
            else
              some false
        else
          some false
/-- tapestry/tapestrylaw09.step -/
noncomputable def P43_s0 (fu : Nat) (a0_l : List Int) (a1_Node : Int) (a1_Before : Int) : ((List Int) × Bool × Int) → Option (((List Int) × Bool × Int) ⊕ (((List Int) × Bool × Int)))
  | (l3, i4, i5) =>
    bif decide (i5 < (ln a0_l)) then
      (idx a0_l i5).bind fun x9 =>
        bif x9 == a1_Before then
          bif room 8 (ln (l3 ++ [a1_Node])) then
            (idx a0_l i5).bind fun x17 =>
              bif !(x17 == a1_Node) then
                (idx a0_l i5).bind fun x20 =>
                  bif room 8 (ln ((l3 ++ [a1_Node]) ++ [x20])) then
                    some (.inl (((l3 ++ [a1_Node]) ++ [x20]), true, w64 (i5 + 1)))
                  else none
              else
                some (.inl ((l3 ++ [a1_Node]), true, w64 (i5 + 1)))
          else none
        else
          (idx a0_l i5).bind fun x27 =>
            bif !(x27 == a1_Node) then
              (idx a0_l i5).bind fun x30 =>
                bif room 8 (ln (l3 ++ [x30])) then
                  some (.inl ((l3 ++ [x30]), i4, w64 (i5 + 1)))
                else none
            else
              some (.inl (l3, i4, w64 (i5 + 1)))
    else
      some (.inr (l3, i4, i5))
noncomputable def P43 (fu : Nat) (a0 : Sl Int) (a1 : PlaceStep) : Option ((Sl Int) × Bool) :=
  match a0 with
  | ⟨a0_l, a0_x⟩ =>
    match a1 with
    | ⟨a1_Node, a1_Before⟩ =>
      (wl (P43_s0 fu a0_l a1_Node a1_Before) (([] : List Int), false, 0)).bind fun q =>
        match q with
        | (o38, o39, o40) =>
          bif a1_Before == 0 then
            bif room 8 (ln (o38 ++ [a1_Node])) then
              some ((Sl.mk (o38 ++ [a1_Node]) none), true)
            else none
          else
            some ((Sl.mk o38 none), o39)
/-- tapestry/tapestrylaw01.SameInts -/
noncomputable def P45_s0 (fu : Nat) (a0_l : List Int) (a1_l : List Int) : Int → Option (Int ⊕ (Int ⊕ Int))
  | i6 =>
    bif decide (i6 < (ln a0_l)) then
      (idx a0_l i6).bind fun x10 =>
        (idx a1_l i6).bind fun x12 =>
          bif !(x10 == x12) then
            some (.inr (.inr i6))
          else
            some (.inl (w64 (i6 + 1)))
    else
      some (.inr (.inl i6))
noncomputable def P45 (fu : Nat) (a0 : Sl Int) (a1 : Sl Int) : Option (Bool) :=
  match a0 with
  | ⟨a0_l, a0_x⟩ =>
    match a1 with
    | ⟨a1_l, a1_x⟩ =>
      bif !((ln a0_l) == (ln a1_l)) then
        some false
      else
        (wl (P45_s0 fu a0_l a1_l) 0).bind fun q =>
          match q with
          | .inl o16 =>
            some true
          | .inr o17 =>
            some false
/-- tapestry/tapestrylaw09.PlaceMakes -/
noncomputable def P10_s0 (fu : Nat) (r3_l : List Int) (r3_x : Option (List Int)) (r7_l : List PlaceStep) : ((List Int) × (Option (List Int)) × Int) → Option (((List Int) × (Option (List Int)) × Int) ⊕ (((List Int) × (Option (List Int)) × Int) ⊕ ((List Int) × (Option (List Int)) × Int)))
  | (i17_l, i17_x, i18) =>
    bif decide (i18 < (ln r7_l)) then
      (idx r7_l i18).bind fun ⟨x22_Node, x22_Before⟩ =>
        (P43 fu (Sl.mk i17_l i17_x) (PlaceStep.mk x22_Node x22_Before)).bind fun ⟨⟨r24_l, r24_x⟩, r25⟩ =>
          bif !(!r25) then
            (idx r7_l i18).bind fun ⟨x28_Node, x28_Before⟩ =>
              (P44 fu (Sl.mk r3_l r3_x) x28_Node).bind fun r30 =>
                bif !r30 then
                  some (.inr (.inr (r24_l, r24_x, i18)))
                else
                  some (.inl (r24_l, r24_x, w64 (i18 + 1)))
          else
            some (.inr (.inr (r24_l, r24_x, i18)))
    else
      some (.inr (.inl (i17_l, i17_x, i18)))
noncomputable def P10 (fu : Nat) (a0 : Sl Int) (a1 : Sl Int) : Option (Bool) :=
  match a0 with
  | ⟨a0_l, a0_x⟩ =>
    match a1 with
    | ⟨a1_l, a1_x⟩ =>
      (P40 fu (Sl.mk a0_l a0_x)).bind fun ⟨r1_l, r1_x⟩ =>
        (P40 fu (Sl.mk a1_l a1_x)).bind fun ⟨r3_l, r3_x⟩ =>
          (P41 fu (Sl.mk r1_l r1_x) (Sl.mk r3_l r3_x)).bind fun ⟨r5_l, r5_x⟩ =>
            (P38 fu (Sl.mk r1_l r1_x) (Sl.mk r3_l r3_x)).bind fun ⟨r7_l, r7_x⟩ =>
              (P42 fu).bind fun r9 =>
                bif !(!r9) then
                  bif decide ((ln r3_l) < (ln r7_l)) then
                    some false
                  else
                    (wl (P10_s0 fu r3_l r3_x r7_l) (r5_l, r5_x, 0)).bind fun q =>
                      match q with
                      | .inl (o34, o35, o36) =>
                        (P45 fu (Sl.mk o34 o35) (Sl.mk r3_l r3_x)).bind fun r37 =>
                          some r37
                      | .inr (o39, o40, o41) =>
                        some false
                else
                  some false
end Go.Proofs.Ytamllgdaepjcfaa
