/- Functions on plain data: printed by a small program. -/
import Derived.Test.YtipkggkbldgmjaaKQE
namespace Go.Proofs.Ytipkggkbldgmjaa
open Go Go.X
set_option linter.unusedVariables false
set_option linter.unusedSimpArgs false
set_option maxRecDepth 100000
/-- slices.Index[[]tapestry/api.CellKind,tapestry/api.CellKind] -/
noncomputable def P87_s0 (fu : Nat) (a0_l : List Int) (a1 : Int) : (Int × Int) → Option ((Int × Int) ⊕ ((Int × Int) ⊕ (Int × Int)))
  | (i3, i4) =>
    bif decide (i4 < (ln a0_l)) then
      (idx a0_l i4).bind fun x6 =>
        bif a1 == x6 then
          some (.inr (.inr (i4, i4)))
        else
          some (.inl (i3, w64 (i4 + 1)))
    else
      some (.inr (.inl (i3, i4)))
noncomputable def P87 (fu : Nat) (a0 : Sl Int) (a1 : Int) : Option (Int) :=
  match a0 with
  | ⟨a0_l, a0_x⟩ =>
    (wl (P87_s0 fu a0_l a1) (0, 0)).bind fun q =>
      match q with
      | .inl (o10, o11) =>
        some (-1)
      | .inr (o12, o13) =>
        some o12
/-- slices.Contains[[]tapestry/api.CellKind,tapestry/api.CellKind] -/
noncomputable def P68 (fu : Nat) (a0 : Sl Int) (a1 : Int) : Option (Bool) :=
  match a0 with
  | ⟨a0_l, a0_x⟩ =>
    (P87 fu (Sl.mk a0_l a0_x) a1).bind fun r1 =>
      some (decide (0 ≤ r1))
/-- tapestry/cells.state$1 -/
noncomputable def P60x1 (fu : Nat) (a0 : Cell) (b0 : ByteArray) : Option (Bool) :=
  match a0 with
  | ⟨a0_Kind, a0_Name, ⟨a0_Value__Kind, a0_Value__N, a0_Value__S, ⟨a0_Value__L_l, a0_Value__L_x⟩, ⟨a0_Value__F_l, a0_Value__F_x⟩, a0_Value__Elem, a0_Value__Key, a0_Value__HasKey⟩, ⟨a0_Next_Kind, a0_Next_N, a0_Next_S, ⟨a0_Next_L_l, a0_Next_L_x⟩, ⟨a0_Next_F_l, a0_Next_F_x⟩, a0_Next_Elem, a0_Next_Key, a0_Next_HasKey⟩, ⟨a0_Deps_l, a0_Deps_x⟩, ⟨a0_Do_l, a0_Do_x⟩, ⟨a0_Undo_l, a0_Undo_x⟩, ⟨a0_Env_l, a0_Env_x⟩, a0_Runs, a0_Ran, ⟨a0_Old_l, a0_Old_x⟩, ⟨a0_Past_l, a0_Past_x⟩⟩ =>
    some (seq a0_Name b0)
/-- tapestry/cells.find$1 -/
noncomputable def P67x1 (fu : Nat) (a0 : Cell) (b0 : Sl Int) (b2 : ByteArray) : Option (Bool) :=
  match a0 with
  | ⟨a0_Kind, a0_Name, ⟨a0_Value__Kind, a0_Value__N, a0_Value__S, ⟨a0_Value__L_l, a0_Value__L_x⟩, ⟨a0_Value__F_l, a0_Value__F_x⟩, a0_Value__Elem, a0_Value__Key, a0_Value__HasKey⟩, ⟨a0_Next_Kind, a0_Next_N, a0_Next_S, ⟨a0_Next_L_l, a0_Next_L_x⟩, ⟨a0_Next_F_l, a0_Next_F_x⟩, a0_Next_Elem, a0_Next_Key, a0_Next_HasKey⟩, ⟨a0_Deps_l, a0_Deps_x⟩, ⟨a0_Do_l, a0_Do_x⟩, ⟨a0_Undo_l, a0_Undo_x⟩, ⟨a0_Env_l, a0_Env_x⟩, a0_Runs, a0_Ran, ⟨a0_Old_l, a0_Old_x⟩, ⟨a0_Past_l, a0_Past_x⟩⟩ =>
    match b0 with
    | ⟨b0_l, b0_x⟩ =>
      (
        (P68 fu (Sl.mk b0_l b0_x) a0_Kind).bind fun r1 =>
          bif r1 then
            (P60x1 fu (Cell.mk a0_Kind a0_Name (Value.mk a0_Value__Kind a0_Value__N a0_Value__S (Sl.mk a0_Value__L_l a0_Value__L_x) (Sl.mk a0_Value__F_l a0_Value__F_x) a0_Value__Elem a0_Value__Key a0_Value__HasKey) (Value.mk a0_Next_Kind a0_Next_N a0_Next_S (Sl.mk a0_Next_L_l a0_Next_L_x) (Sl.mk a0_Next_F_l a0_Next_F_x) a0_Next_Elem a0_Next_Key a0_Next_HasKey) (Sl.mk a0_Deps_l a0_Deps_x) (Sl.mk a0_Do_l a0_Do_x) (Sl.mk a0_Undo_l a0_Undo_x) (Sl.mk a0_Env_l a0_Env_x) a0_Runs a0_Ran (Sl.mk a0_Old_l a0_Old_x) (Sl.mk a0_Past_l a0_Past_x)) b2).bind fun r5 =>
              some r5
          else
            some false
      ).bind fun (q : Bool) =>
        match q with
        | i6 =>
          some i6
/-- slices.IndexFunc[[]tapestry/api.Cell,tapestry/api.Cell] -/
noncomputable def P54x1_s0 (fu : Nat) (a0_l : List Cell) (b0_l : List Int) (b0_x : Option (List Int)) (b2 : ByteArray) : (Int × Int) → Option ((Int × Int) ⊕ ((Int × Int) ⊕ (Int × Int)))
  | (i3, i4) =>
    bif decide (i4 < (ln a0_l)) then
      (idx a0_l i4).bind fun ⟨x6_Kind, x6_Name, ⟨x6_Value__Kind, x6_Value__N, x6_Value__S, ⟨x6_Value__L_l, x6_Value__L_x⟩, ⟨x6_Value__F_l, x6_Value__F_x⟩, x6_Value__Elem, x6_Value__Key, x6_Value__HasKey⟩, ⟨x6_Next_Kind, x6_Next_N, x6_Next_S, ⟨x6_Next_L_l, x6_Next_L_x⟩, ⟨x6_Next_F_l, x6_Next_F_x⟩, x6_Next_Elem, x6_Next_Key, x6_Next_HasKey⟩, ⟨x6_Deps_l, x6_Deps_x⟩, ⟨x6_Do_l, x6_Do_x⟩, ⟨x6_Undo_l, x6_Undo_x⟩, ⟨x6_Env_l, x6_Env_x⟩, x6_Runs, x6_Ran, ⟨x6_Old_l, x6_Old_x⟩, ⟨x6_Past_l, x6_Past_x⟩⟩ =>
        (P67x1 fu (Cell.mk x6_Kind x6_Name (Value.mk x6_Value__Kind x6_Value__N x6_Value__S (Sl.mk x6_Value__L_l x6_Value__L_x) (Sl.mk x6_Value__F_l x6_Value__F_x) x6_Value__Elem x6_Value__Key x6_Value__HasKey) (Value.mk x6_Next_Kind x6_Next_N x6_Next_S (Sl.mk x6_Next_L_l x6_Next_L_x) (Sl.mk x6_Next_F_l x6_Next_F_x) x6_Next_Elem x6_Next_Key x6_Next_HasKey) (Sl.mk x6_Deps_l x6_Deps_x) (Sl.mk x6_Do_l x6_Do_x) (Sl.mk x6_Undo_l x6_Undo_x) (Sl.mk x6_Env_l x6_Env_x) x6_Runs x6_Ran (Sl.mk x6_Old_l x6_Old_x) (Sl.mk x6_Past_l x6_Past_x)) (Sl.mk b0_l b0_x) b2).bind fun r9 =>
          bif r9 then
            some (.inr (.inr (i4, i4)))
          else
            some (.inl (i3, w64 (i4 + 1)))
    else
      some (.inr (.inl (i3, i4)))
noncomputable def P54x1 (fu : Nat) (a0 : Sl Cell) (b0 : Sl Int) (b2 : ByteArray) : Option (Int) :=
  match a0 with
  | ⟨a0_l, a0_x⟩ =>
    match b0 with
    | ⟨b0_l, b0_x⟩ =>
      (wl (P54x1_s0 fu a0_l b0_l b0_x b2) (0, 0)).bind fun q =>
        match q with
        | .inl (o12, o13) =>
          some (-1)
        | .inr (o14, o15) =>
          some o14
/-- tapestry/cells.find -/
noncomputable def P45x1 (fu : Nat) (a0 : Sl Cell) (a2 : Sl Int) (b0 : ByteArray) : Option (Int) :=
  match a0 with
  | ⟨a0_l, a0_x⟩ =>
    match a2 with
    | ⟨a2_l, a2_x⟩ =>
      (P54x1 fu (Sl.mk a0_l a0_x) (Sl.mk a2_l a2_x) b0).bind fun r2 =>
        some r2
/-- tapestry/cells.state -/
noncomputable def P40 (fu : Nat) (a0 : Sl Cell) (a1 : ByteArray) : Option (Int) :=
  match a0 with
  | ⟨a0_l, a0_x⟩ =>
    (P45x1 fu (Sl.mk a0_l a0_x) (Sl.mk [1] (some [])) a1).bind fun r2 =>
      some r2
/-- tapestry/value.name -/
noncomputable def P82 (fu : Nat) (a0 : ByteArray) : Option (Bool) :=
  (
    bif !(seq a0 ByteArray.empty) then
      some (decide ((a0.size : Int) ≤ 4096))
    else
      some false
  ).bind fun (q : Bool) =>
    match q with
    | i2 =>
      some i2
/-- tapestry/value.own -/
noncomputable def P89 (fu : Nat) (a0 : Int) : Option ((Sl ByteArray) × Bool) :=
  (
    bif a0 == 6 then
      some (.inr ([(⟨#[118, 97, 108, 117, 101]⟩ : ByteArray)], (some [])))
    else
      (
        bif a0 == 7 then
          (some [(⟨#[97, 103, 97, 105, 110]⟩ : ByteArray), (⟨#[101, 108, 115, 101]⟩ : ByteArray)]).bind fun l3 =>
            some (.inr (l3, (some [])))
        else
          (
            bif a0 == 8 then
              some (.inr ([(⟨#[101, 108, 115, 101]⟩ : ByteArray)], (some [])))
            else
              (
                bif a0 == 4 then
                  some true
                else
                  some (a0 == 5)
              ).bind fun (q : Bool) =>
                match q with
                | i8 =>
                  bif i8 then
                    some (.inr ([], (some [])))
                  else
                    some (.inl ())
          ).bind fun (q : Unit ⊕ ((List ByteArray) × (Option (List ByteArray)))) =>
            match q with
            | .inl _ =>
              some (.inl ())
            | .inr (i11_l, i11_x) =>
              some (.inr (i11_l, i11_x))
      ).bind fun (q : Unit ⊕ ((List ByteArray) × (Option (List ByteArray)))) =>
        match q with
        | .inl _ =>
          some (.inl ())
        | .inr (i13_l, i13_x) =>
          some (.inr (i13_l, i13_x))
  ).bind fun (q : Unit ⊕ ((List ByteArray) × (Option (List ByteArray)))) =>
    match q with
    | .inl _ =>
      some ((Sl.mk [] (some [])), false)
    | .inr (i15_l, i15_x) =>
      some ((Sl.mk i15_l i15_x), true)
/-- slices.EqualFunc[[]tapestry/api.Field,[]string,tapestry/api.Field,string] -/
noncomputable def P90_s0 (fu : Nat) (a2 : (Field → ByteArray → Option (Bool))) (a0_l : List Field) (a1_l : List ByteArray) : Int → Option (Int ⊕ (Int ⊕ Int))
  | i8 =>
    bif decide (i8 < (ln a0_l)) then
      (idx a0_l i8).bind fun ⟨x10_Name, ⟨x10_Value__Kind, x10_Value__N, x10_Value__S, ⟨x10_Value__L_l, x10_Value__L_x⟩, ⟨x10_Value__F_l, x10_Value__F_x⟩, x10_Value__Elem, x10_Value__Key, x10_Value__HasKey⟩⟩ =>
        (idx a1_l i8).bind fun x12 =>
          (a2 (Field.mk x10_Name (Value.mk x10_Value__Kind x10_Value__N x10_Value__S (Sl.mk x10_Value__L_l x10_Value__L_x) (Sl.mk x10_Value__F_l x10_Value__F_x) x10_Value__Elem x10_Value__Key x10_Value__HasKey)) x12).bind fun r14 =>
            bif !r14 then
              some (.inr (.inr i8))
            else
              some (.inl (w64 (i8 + 1)))
    else
      some (.inr (.inl i8))
noncomputable def P90 (fu : Nat) (a0 : Sl Field) (a1 : Sl ByteArray) (a2 : (Field → ByteArray → Option (Bool))) : Option (Bool) :=
  match a0 with
  | ⟨a0_l, a0_x⟩ =>
    match a1 with
    | ⟨a1_l, a1_x⟩ =>
      bif !((ln a0_l) == (ln a1_l)) then
        some false
      else
        (wl (P90_s0 fu a2 a0_l a1_l) 0).bind fun q =>
          match q with
          | .inl o18 =>
            some true
          | .inr o19 =>
            some false
/-- tapestry/value.elem$1 -/
noncomputable def P91 (fu : Nat) (a0 : Field) (a1 : ByteArray) : Option (Bool) :=
  match a0 with
  | ⟨a0_Name, ⟨a0_Value__Kind, a0_Value__N, a0_Value__S, ⟨a0_Value__L_l, a0_Value__L_x⟩, ⟨a0_Value__F_l, a0_Value__F_x⟩, a0_Value__Elem, a0_Value__Key, a0_Value__HasKey⟩⟩ =>
    some (seq a0_Name a1)
/-- tapestry/value.elem -/
noncomputable def P83 (fu : Nat) (a0 : Value) : Option (Bool) :=
  match a0 with
  | ⟨a0_Kind, a0_N, a0_S, ⟨a0_L_l, a0_L_x⟩, ⟨a0_F_l, a0_F_x⟩, a0_Elem, a0_Key, a0_HasKey⟩ =>
    (
      bif !(!(a0_N == 0)) then
        bif !(decide (a0_Elem ≤ 0)) then
          bif !(decide (9 ≤ a0_Elem)) then
            bif !(decide (4096 < (a0_Key.size : Int))) then
              bif !a0_HasKey then
                some (!(seq a0_Key ByteArray.empty))
              else
                some false
            else
              some true
          else
            some true
        else
          some true
      else
        some true
    ).bind fun (q : Bool) =>
      match q with
      | i6 =>
        bif i6 then
          some false
        else
          (P89 fu a0_Elem).bind fun ⟨⟨r8_l, r8_x⟩, r9⟩ =>
            (
              bif r9 then
                (P90 fu (Sl.mk a0_F_l a0_F_x) (Sl.mk r8_l r8_x) (P91 fu)).bind fun r12 =>
                  some (!r12)
              else
                some false
            ).bind fun (q : Bool) =>
              match q with
              | i14 =>
                bif i14 then
                  some false
                else
                  (
                    bif a0_Elem == 4 then
                      some true
                    else
                      (
                        bif a0_Elem == 7 then
                          some true
                        else
                          some (a0_Elem == 8)
                      ).bind fun (q : Bool) =>
                        match q with
                        | i18 =>
                          some i18
                  ).bind fun (q : Bool) =>
                    match q with
                    | i20 =>
                      bif i20 then
                        some (seq a0_S ByteArray.empty)
                      else
                        (P82 fu a0_S).bind fun r22 =>
                          some r22
/-- slices.Index[[]tapestry/api.Kind,tapestry/api.Kind] -/
noncomputable def P92_s0 (fu : Nat) (a0_l : List Int) (a1 : Int) : (Int × Int) → Option ((Int × Int) ⊕ ((Int × Int) ⊕ (Int × Int)))
  | (i3, i4) =>
    bif decide (i4 < (ln a0_l)) then
      (idx a0_l i4).bind fun x6 =>
        bif a1 == x6 then
          some (.inr (.inr (i4, i4)))
        else
          some (.inl (i3, w64 (i4 + 1)))
    else
      some (.inr (.inl (i3, i4)))
noncomputable def P92 (fu : Nat) (a0 : Sl Int) (a1 : Int) : Option (Int) :=
  match a0 with
  | ⟨a0_l, a0_x⟩ =>
    (wl (P92_s0 fu a0_l a1) (0, 0)).bind fun q =>
      match q with
      | .inl (o10, o11) =>
        some (-1)
      | .inr (o12, o13) =>
        some o12
/-- slices.Contains[[]tapestry/api.Kind,tapestry/api.Kind] -/
noncomputable def P85 (fu : Nat) (a0 : Sl Int) (a1 : Int) : Option (Bool) :=
  match a0 with
  | ⟨a0_l, a0_x⟩ =>
    (P92 fu (Sl.mk a0_l a0_x) a1).bind fun r1 =>
      some (decide (0 ≤ r1))
/-- tapestry/value.alone$1 -/
noncomputable def P84x1 (fu : Nat) (a0 : Sl Int) (b0 : Value) : Option (Bool) :=
  match a0 with
  | ⟨a0_l, a0_x⟩ =>
    match b0 with
    | ⟨b0_Kind, b0_N, b0_S, ⟨b0_L_l, b0_L_x⟩, ⟨b0_F_l, b0_F_x⟩, b0_Elem, b0_Key, b0_HasKey⟩ =>
      (P85 fu (Sl.mk a0_l a0_x) b0_Kind).bind fun r1 =>
        some r1
/-- tapestry/value.alone -/
noncomputable def P63_s0 (fu : Nat) (a0_F_l : List Field) : Int → Option (Int ⊕ (Int ⊕ Int))
  | i3 =>
    bif decide (i3 < (ln a0_F_l)) then
      (idx a0_F_l i3).bind fun ⟨x5_Name, ⟨x5_Value__Kind, x5_Value__N, x5_Value__S, ⟨x5_Value__L_l, x5_Value__L_x⟩, ⟨x5_Value__F_l, x5_Value__F_x⟩, x5_Value__Elem, x5_Value__Key, x5_Value__HasKey⟩⟩ =>
        (
          (P82 fu x5_Name).bind fun r7 =>
            bif !(!r7) then
              bif decide (0 < i3) then
                (idx a0_F_l (w64 (i3 - 1))).bind fun ⟨x11_Name, ⟨x11_Value__Kind, x11_Value__N, x11_Value__S, ⟨x11_Value__L_l, x11_Value__L_x⟩, ⟨x11_Value__F_l, x11_Value__F_x⟩, x11_Value__Elem, x11_Value__Key, x11_Value__HasKey⟩⟩ =>
                  some (!(slt x11_Name x5_Name))
              else
                some false
            else
              some true
        ).bind fun (q : Bool) =>
          match q with
          | i13 =>
            bif i13 then
              some (.inr (.inr i3))
            else
              some (.inl (w64 (i3 + 1)))
    else
      some (.inr (.inl i3))
noncomputable def P63 (fu : Nat) (a0 : Value) : Option (Bool) :=
  match a0 with
  | ⟨a0_Kind, a0_N, a0_S, ⟨a0_L_l, a0_L_x⟩, ⟨a0_F_l, a0_F_x⟩, a0_Elem, a0_Key, a0_HasKey⟩ =>
    (wl (P63_s0 fu a0_F_l) 0).bind fun q =>
      match q with
      | .inl o17 =>
        bif a0_Kind == 6 then
          (P83 fu (Value.mk a0_Kind a0_N a0_S (Sl.mk a0_L_l a0_L_x) (Sl.mk a0_F_l a0_F_x) a0_Elem a0_Key a0_HasKey)).bind fun r19 =>
            some r19
        else
          (
            bif decide (a0_Kind ≤ 7) then
              bif a0_Elem == 0 then
                bif seq a0_Key ByteArray.empty then
                  bif !a0_HasKey then
                    bif decide ((a0_S.size : Int) ≤ 4096) then
                      bif !(a0_N == 0) then
                        (some [1, 7]).bind fun l27 =>
                          (P84x1 fu (Sl.mk l27 (some [])) (Value.mk a0_Kind a0_N a0_S (Sl.mk a0_L_l a0_L_x) (Sl.mk a0_F_l a0_F_x) a0_Elem a0_Key a0_HasKey)).bind fun r31 =>
                            bif !r31 then
                              (P84x1 fu (Sl.mk [2] (some [])) (Value.mk a0_Kind a0_N a0_S (Sl.mk a0_L_l a0_L_x) (Sl.mk a0_F_l a0_F_x) a0_Elem a0_Key a0_HasKey)).bind fun r34 =>
                                bif r34 then
                                  bif a0_N == 1 then
                                    bif !(seq a0_S ByteArray.empty) then
                                      (some [3, 7]).bind fun l38 =>
                                        (P84x1 fu (Sl.mk l38 (some [])) (Value.mk a0_Kind a0_N a0_S (Sl.mk a0_L_l a0_L_x) (Sl.mk a0_F_l a0_F_x) a0_Elem a0_Key a0_HasKey)).bind fun r42 =>
                                          bif r42 then
                                            bif !((ln a0_L_l) == 0) then
                                              (P84x1 fu (Sl.mk [4] (some [])) (Value.mk a0_Kind a0_N a0_S (Sl.mk a0_L_l a0_L_x) (Sl.mk a0_F_l a0_F_x) a0_Elem a0_Key a0_HasKey)).bind fun r48 =>
                                                bif r48 then
                                                  bif !((ln a0_F_l) == 0) then
                                                    (some [5, 7]).bind fun l53 =>
                                                      (P84x1 fu (Sl.mk l53 (some [])) (Value.mk a0_Kind a0_N a0_S (Sl.mk a0_L_l a0_L_x) (Sl.mk a0_F_l a0_F_x) a0_Elem a0_Key a0_HasKey)).bind fun r57 =>
                                                        some r57
                                                  else
                                                    some true
                                                else
                                                  some false
                                            else
                                              bif !((ln a0_F_l) == 0) then
                                                (some [5, 7]).bind fun l61 =>
                                                  (P84x1 fu (Sl.mk l61 (some [])) (Value.mk a0_Kind a0_N a0_S (Sl.mk a0_L_l a0_L_x) (Sl.mk a0_F_l a0_F_x) a0_Elem a0_Key a0_HasKey)).bind fun r65 =>
                                                    some r65
                                              else
                                                some true
                                          else
                                            some false
                                    else
                                      bif !((ln a0_L_l) == 0) then
                                        (P84x1 fu (Sl.mk [4] (some [])) (Value.mk a0_Kind a0_N a0_S (Sl.mk a0_L_l a0_L_x) (Sl.mk a0_F_l a0_F_x) a0_Elem a0_Key a0_HasKey)).bind fun r70 =>
                                          bif r70 then
                                            bif !((ln a0_F_l) == 0) then
                                              (some [5, 7]).bind fun l75 =>
                                                (P84x1 fu (Sl.mk l75 (some [])) (Value.mk a0_Kind a0_N a0_S (Sl.mk a0_L_l a0_L_x) (Sl.mk a0_F_l a0_F_x) a0_Elem a0_Key a0_HasKey)).bind fun r79 =>
                                                  some r79
                                            else
                                              some true
                                          else
                                            some false
                                      else
                                        bif !((ln a0_F_l) == 0) then
                                          (some [5, 7]).bind fun l83 =>
                                            (P84x1 fu (Sl.mk l83 (some [])) (Value.mk a0_Kind a0_N a0_S (Sl.mk a0_L_l a0_L_x) (Sl.mk a0_F_l a0_F_x) a0_Elem a0_Key a0_HasKey)).bind fun r87 =>
                                              some r87
                                        else
                                          some true
                                  else
                                    some false
                                else
                                  some false
                            else
                              bif !(seq a0_S ByteArray.empty) then
                                (some [3, 7]).bind fun l89 =>
                                  (P84x1 fu (Sl.mk l89 (some [])) (Value.mk a0_Kind a0_N a0_S (Sl.mk a0_L_l a0_L_x) (Sl.mk a0_F_l a0_F_x) a0_Elem a0_Key a0_HasKey)).bind fun r93 =>
                                    bif r93 then
                                      bif !((ln a0_L_l) == 0) then
                                        (P84x1 fu (Sl.mk [4] (some [])) (Value.mk a0_Kind a0_N a0_S (Sl.mk a0_L_l a0_L_x) (Sl.mk a0_F_l a0_F_x) a0_Elem a0_Key a0_HasKey)).bind fun r99 =>
                                          bif r99 then
                                            bif !((ln a0_F_l) == 0) then
                                              (some [5, 7]).bind fun l104 =>
                                                (P84x1 fu (Sl.mk l104 (some [])) (Value.mk a0_Kind a0_N a0_S (Sl.mk a0_L_l a0_L_x) (Sl.mk a0_F_l a0_F_x) a0_Elem a0_Key a0_HasKey)).bind fun r108 =>
                                                  some r108
                                            else
                                              some true
                                          else
                                            some false
                                      else
                                        bif !((ln a0_F_l) == 0) then
                                          (some [5, 7]).bind fun l112 =>
                                            (P84x1 fu (Sl.mk l112 (some [])) (Value.mk a0_Kind a0_N a0_S (Sl.mk a0_L_l a0_L_x) (Sl.mk a0_F_l a0_F_x) a0_Elem a0_Key a0_HasKey)).bind fun r116 =>
                                              some r116
                                        else
                                          some true
                                    else
                                      some false
                              else
                                bif !((ln a0_L_l) == 0) then
                                  (P84x1 fu (Sl.mk [4] (some [])) (Value.mk a0_Kind a0_N a0_S (Sl.mk a0_L_l a0_L_x) (Sl.mk a0_F_l a0_F_x) a0_Elem a0_Key a0_HasKey)).bind fun r121 =>
                                    bif r121 then
                                      bif !((ln a0_F_l) == 0) then
                                        (some [5, 7]).bind fun l126 =>
                                          (P84x1 fu (Sl.mk l126 (some [])) (Value.mk a0_Kind a0_N a0_S (Sl.mk a0_L_l a0_L_x) (Sl.mk a0_F_l a0_F_x) a0_Elem a0_Key a0_HasKey)).bind fun r130 =>
                                            some r130
                                      else
                                        some true
                                    else
                                      some false
                                else
                                  bif !((ln a0_F_l) == 0) then
                                    (some [5, 7]).bind fun l134 =>
                                      (P84x1 fu (Sl.mk l134 (some [])) (Value.mk a0_Kind a0_N a0_S (Sl.mk a0_L_l a0_L_x) (Sl.mk a0_F_l a0_F_x) a0_Elem a0_Key a0_HasKey)).bind fun r138 =>
                                        some r138
                                  else
                                    some true
                      else
                        bif !(seq a0_S ByteArray.empty) then
                          (some [3, 7]).bind fun l140 =>
                            (P84x1 fu (Sl.mk l140 (some [])) (Value.mk a0_Kind a0_N a0_S (Sl.mk a0_L_l a0_L_x) (Sl.mk a0_F_l a0_F_x) a0_Elem a0_Key a0_HasKey)).bind fun r144 =>
                              bif r144 then
                                bif !((ln a0_L_l) == 0) then
                                  (P84x1 fu (Sl.mk [4] (some [])) (Value.mk a0_Kind a0_N a0_S (Sl.mk a0_L_l a0_L_x) (Sl.mk a0_F_l a0_F_x) a0_Elem a0_Key a0_HasKey)).bind fun r150 =>
                                    bif r150 then
                                      bif !((ln a0_F_l) == 0) then
                                        (some [5, 7]).bind fun l155 =>
                                          (P84x1 fu (Sl.mk l155 (some [])) (Value.mk a0_Kind a0_N a0_S (Sl.mk a0_L_l a0_L_x) (Sl.mk a0_F_l a0_F_x) a0_Elem a0_Key a0_HasKey)).bind fun r159 =>
                                            some r159
                                      else
                                        some true
                                    else
                                      some false
                                else
                                  bif !((ln a0_F_l) == 0) then
                                    (some [5, 7]).bind fun l163 =>
                                      (P84x1 fu (Sl.mk l163 (some [])) (Value.mk a0_Kind a0_N a0_S (Sl.mk a0_L_l a0_L_x) (Sl.mk a0_F_l a0_F_x) a0_Elem a0_Key a0_HasKey)).bind fun r167 =>
                                        some r167
                                  else
                                    some true
                              else
                                some false
                        else
                          bif !((ln a0_L_l) == 0) then
                            (P84x1 fu (Sl.mk [4] (some [])) (Value.mk a0_Kind a0_N a0_S (Sl.mk a0_L_l a0_L_x) (Sl.mk a0_F_l a0_F_x) a0_Elem a0_Key a0_HasKey)).bind fun r172 =>
                              bif r172 then
                                bif !((ln a0_F_l) == 0) then
                                  (some [5, 7]).bind fun l177 =>
                                    (P84x1 fu (Sl.mk l177 (some [])) (Value.mk a0_Kind a0_N a0_S (Sl.mk a0_L_l a0_L_x) (Sl.mk a0_F_l a0_F_x) a0_Elem a0_Key a0_HasKey)).bind fun r181 =>
                                      some r181
                                else
                                  some true
                              else
                                some false
                          else
                            bif !((ln a0_F_l) == 0) then
                              (some [5, 7]).bind fun l185 =>
                                (P84x1 fu (Sl.mk l185 (some [])) (Value.mk a0_Kind a0_N a0_S (Sl.mk a0_L_l a0_L_x) (Sl.mk a0_F_l a0_F_x) a0_Elem a0_Key a0_HasKey)).bind fun r189 =>
                                  some r189
                            else
                              some true
                    else
                      some false
                  else
                    some false
                else
                  some false
              else
                some false
            else
              some false
          ).bind fun (q : Bool) =>
            match q with
            | i190 =>
              some i190
      | .inr o192 =>
        some false
/-- tapestry/value.Check$1 -/
noncomputable def P62x1 (fu : Nat) (a0 : Value) (a1 : Int) (b0 : Int) (b1 : Bool) : Option (Bool × Int × Bool) :=
  match a0 with
  | ⟨a0_Kind, a0_N, a0_S, ⟨a0_L_l, a0_L_x⟩, ⟨a0_F_l, a0_F_x⟩, a0_Elem, a0_Key, a0_HasKey⟩ =>
    (
      (P63 fu (Value.mk a0_Kind a0_N a0_S (Sl.mk a0_L_l a0_L_x) (Sl.mk a0_F_l a0_F_x) a0_Elem a0_Key a0_HasKey)).bind fun r1 =>
        bif r1 then
          bif decide ((w64 (b0 + 1)) ≤ 4096) then
            some (decide (a1 ≤ 64))
          else
            some false
        else
          some false
    ).bind fun (q : Bool) =>
      match q with
      | g5 =>
        some (g5, w64 (b0 + 1), g5)
/-- tapestry/value.each$1 -/
noncomputable def P81x1_s0 (fu : Nat) (p81x1 : Value → Int → Int → Bool → Option (Bool × Int × Bool)) (a0_L_l : List Value) (a1 : Int) : (Int × Bool × Int) → Option ((Int × Bool × Int) ⊕ ((Int × Bool × Int) ⊕ (Int × Bool × Int)))
  | (g8, g9, i10) =>
    bif decide (i10 < (ln a0_L_l)) then
      (idx a0_L_l i10).bind fun ⟨x12_Kind, x12_N, x12_S, ⟨x12_L_l, x12_L_x⟩, ⟨x12_F_l, x12_F_x⟩, x12_Elem, x12_Key, x12_HasKey⟩ =>
        (p81x1 (Value.mk x12_Kind x12_N x12_S (Sl.mk x12_L_l x12_L_x) (Sl.mk x12_F_l x12_F_x) x12_Elem x12_Key x12_HasKey) (w64 (a1 + 1)) g8 g9).bind fun ⟨r15, wr16, wr17⟩ =>
          bif !r15 then
            some (.inr (.inr (wr16, wr17, i10)))
          else
            some (.inl (wr16, wr17, w64 (i10 + 1)))
    else
      some (.inr (.inl (g8, g9, i10)))
noncomputable def P81x1_s1 (fu : Nat) (p81x1 : Value → Int → Int → Bool → Option (Bool × Int × Bool)) (a0_F_l : List Field) (a1 : Int) : (Int × Bool × Int) → Option ((Int × Bool × Int) ⊕ ((Int × Bool × Int) ⊕ (Int × Bool × Int)))
  | (g25, g26, i27) =>
    bif decide (i27 < (ln a0_F_l)) then
      (idx a0_F_l i27).bind fun ⟨x29_Name, ⟨x29_Value__Kind, x29_Value__N, x29_Value__S, ⟨x29_Value__L_l, x29_Value__L_x⟩, ⟨x29_Value__F_l, x29_Value__F_x⟩, x29_Value__Elem, x29_Value__Key, x29_Value__HasKey⟩⟩ =>
        (p81x1 (Value.mk x29_Value__Kind x29_Value__N x29_Value__S (Sl.mk x29_Value__L_l x29_Value__L_x) (Sl.mk x29_Value__F_l x29_Value__F_x) x29_Value__Elem x29_Value__Key x29_Value__HasKey) (w64 (a1 + 1)) g25 g26).bind fun ⟨r32, wr33, wr34⟩ =>
          bif !r32 then
            some (.inr (.inr (wr33, wr34, i27)))
          else
            some (.inl (wr33, wr34, w64 (i27 + 1)))
    else
      some (.inr (.inl (g25, g26, i27)))
noncomputable def Pb81x1 (fu : Nat) (p81x1 : Value → Int → Int → Bool → Option (Bool × Int × Bool)) (a0 : Value) (a1 : Int) (b1 : Int) (b2 : Bool) : Option (Bool × Int × Bool) :=
  match a0 with
  | ⟨a0_Kind, a0_N, a0_S, ⟨a0_L_l, a0_L_x⟩, ⟨a0_F_l, a0_F_x⟩, a0_Elem, a0_Key, a0_HasKey⟩ =>
    (P62x1 fu (Value.mk a0_Kind a0_N a0_S (Sl.mk a0_L_l a0_L_x) (Sl.mk a0_F_l a0_F_x) a0_Elem a0_Key a0_HasKey) a1 b1 b2).bind fun ⟨r2, wr3, wr4⟩ =>
      bif !r2 then
        some (false, wr3, wr4)
      else
        (wl (P81x1_s0 fu p81x1 a0_L_l a1) (wr3, wr4, 0)).bind fun q =>
          match q with
          | .inl (o20, o21, o22) =>
            (wl (P81x1_s1 fu p81x1 a0_F_l a1) (o20, o21, 0)).bind fun q =>
              match q with
              | .inl (o37, o38, o39) =>
                some (true, o37, o38)
              | .inr (o40, o41, o42) =>
                some (false, o40, o41)
          | .inr (o43, o44, o45) =>
            some (false, o43, o44)
/-- tapestry/value.each$1 -/
noncomputable def P81x1 : Nat → Value → Int → Int → Bool → Option (Bool × Int × Bool)
  | 0 => fun _ _ _ _ => none
  | fu + 1 => fun a0 a1 a2 a3 => Pb81x1 fu (P81x1 fu) a0 a1 a2 a3

/-- tapestry/value.each -/
noncomputable def P61x1 (fu : Nat) (a0 : Value) (b0 : Int) (b1 : Bool) : Option (Int × Bool) :=
  match a0 with
  | ⟨a0_Kind, a0_N, a0_S, ⟨a0_L_l, a0_L_x⟩, ⟨a0_F_l, a0_F_x⟩, a0_Elem, a0_Key, a0_HasKey⟩ =>
    (P81x1 fu (Value.mk a0_Kind a0_N a0_S (Sl.mk a0_L_l a0_L_x) (Sl.mk a0_F_l a0_F_x) a0_Elem a0_Key a0_HasKey) 1 b0 b1).bind fun ⟨r2, wr3, wr4⟩ =>
      some (wr3, wr4)
/-- tapestry/value.Check -/
noncomputable def P41 (fu : Nat) (a0 : Value) : Option (Bool) :=
  match a0 with
  | ⟨a0_Kind, a0_N, a0_S, ⟨a0_L_l, a0_L_x⟩, ⟨a0_F_l, a0_F_x⟩, a0_Elem, a0_Key, a0_HasKey⟩ =>
    (P61x1 fu (Value.mk a0_Kind a0_N a0_S (Sl.mk a0_L_l a0_L_x) (Sl.mk a0_F_l a0_F_x) a0_Elem a0_Key a0_HasKey) 0 true).bind fun ⟨wr2, wr3⟩ =>
      some wr3
/-- slices.Clone[[]tapestry/api.Cell,tapestry/api.Cell] -/
noncomputable def P64 (fu : Nat) (a0 : Sl Cell) : Option ((List Cell)) :=
  match a0 with
  | ⟨a0_l, a0_x⟩ =>
    bif ln a0_l == 0 then
      agree (
        some ([] : List Cell)
      ) (
        (
          bif ln a0_l == 0 then
            some ([] : List Cell)
          else
            bif room 400 (ln (([] : List Cell) ++ a0_l)) then
              some (([] : List Cell) ++ a0_l)
            else none
        ).bind fun (q : (List Cell)) =>
          match q with
          | l14 =>
            some l14
      )
    else
      (
        bif ln a0_l == 0 then
          some ([] : List Cell)
        else
          bif room 400 (ln (([] : List Cell) ++ a0_l)) then
            some (([] : List Cell) ++ a0_l)
          else none
      ).bind fun (q : (List Cell)) =>
        match q with
        | l26 =>
          some l26
/-- slices.Clone[[]tapestry/api.Value,tapestry/api.Value] -/
noncomputable def P69 (fu : Nat) (a0 : Sl Value) : Option ((List Value)) :=
  match a0 with
  | ⟨a0_l, a0_x⟩ =>
    bif ln a0_l == 0 then
      agree (
        some ([] : List Value)
      ) (
        (
          bif ln a0_l == 0 then
            some ([] : List Value)
          else
            bif room 112 (ln (([] : List Value) ++ a0_l)) then
              some (([] : List Value) ++ a0_l)
            else none
        ).bind fun (q : (List Value)) =>
          match q with
          | l14 =>
            some l14
      )
    else
      (
        bif ln a0_l == 0 then
          some ([] : List Value)
        else
          bif room 112 (ln (([] : List Value) ++ a0_l)) then
            some (([] : List Value) ++ a0_l)
          else none
      ).bind fun (q : (List Value)) =>
        match q with
        | l26 =>
          some l26
/-- slices.Clone[[]tapestry/api.Field,tapestry/api.Field] -/
noncomputable def P48 (fu : Nat) (a0 : Sl Field) : Option ((List Field)) :=
  match a0 with
  | ⟨a0_l, a0_x⟩ =>
    bif ln a0_l == 0 then
      agree (
        some ([] : List Field)
      ) (
        (
          bif ln a0_l == 0 then
            some ([] : List Field)
          else
            bif room 128 (ln (([] : List Field) ++ a0_l)) then
              some (([] : List Field) ++ a0_l)
            else none
        ).bind fun (q : (List Field)) =>
          match q with
          | l14 =>
            some l14
      )
    else
      (
        bif ln a0_l == 0 then
          some ([] : List Field)
        else
          bif room 128 (ln (([] : List Field) ++ a0_l)) then
            some (([] : List Field) ++ a0_l)
          else none
      ).bind fun (q : (List Field)) =>
        match q with
        | l26 =>
          some l26
/-- slices.Clip[[]tapestry/api.Value,tapestry/api.Value] -/
noncomputable def P70 (fu : Nat) (a0 : Sl Value) : Option ((Sl Value)) :=
  match a0 with
  | ⟨a0_l, a0_x⟩ =>
    bif decide (0 ≤ 0) then
      bif decide (0 ≤ ln a0_l) then
        bif decide (ln a0_l ≤ ln a0_l) then
          bif decide (ln a0_l ≤ ln a0_l) then
            some (Sl.mk (cut a0_l 0 (ln a0_l)) (some (cut a0_l (ln a0_l) (ln a0_l))))
          else none
        else none
      else none
    else none
/-- slices.Clip[[]tapestry/api.Field,tapestry/api.Field] -/
noncomputable def P49 (fu : Nat) (a0 : Sl Field) : Option ((Sl Field)) :=
  match a0 with
  | ⟨a0_l, a0_x⟩ =>
    bif decide (0 ≤ 0) then
      bif decide (0 ≤ ln a0_l) then
        bif decide (ln a0_l ≤ ln a0_l) then
          bif decide (ln a0_l ≤ ln a0_l) then
            some (Sl.mk (cut a0_l 0 (ln a0_l)) (some (cut a0_l (ln a0_l) (ln a0_l))))
          else none
        else none
      else none
    else none
/-- tapestry/twin.Fields -/
noncomputable def P24_s0 (fu : Nat) (p26 : Value → Option (Value)) (r2 : List Field) : ((List Field) × Int) → Option (((List Field) × Int) ⊕ (((List Field) × Int)))
  | (l5, i6) =>
    bif decide (i6 < (ln r2)) then
      (idx l5 i6).bind fun ⟨x8_Name, ⟨x8_Value__Kind, x8_Value__N, x8_Value__S, ⟨x8_Value__L_l, x8_Value__L_x⟩, ⟨x8_Value__F_l, x8_Value__F_x⟩, x8_Value__Elem, x8_Value__Key, x8_Value__HasKey⟩⟩ =>
        (p26 (Value.mk x8_Value__Kind x8_Value__N x8_Value__S (Sl.mk x8_Value__L_l x8_Value__L_x) (Sl.mk x8_Value__F_l x8_Value__F_x) x8_Value__Elem x8_Value__Key x8_Value__HasKey)).bind fun ⟨r10_Kind, r10_N, r10_S, ⟨r10_L_l, r10_L_x⟩, ⟨r10_F_l, r10_F_x⟩, r10_Elem, r10_Key, r10_HasKey⟩ =>
          (idx l5 i6).bind fun ⟨x12_Name, ⟨x12_Value__Kind, x12_Value__N, x12_Value__S, ⟨x12_Value__L_l, x12_Value__L_x⟩, ⟨x12_Value__F_l, x12_Value__F_x⟩, x12_Value__Elem, x12_Value__Key, x12_Value__HasKey⟩⟩ =>
            some (.inl ((List.set l5 (Int.toNat i6) (Field.mk x12_Name (Value.mk r10_Kind r10_N r10_S (Sl.mk r10_L_l r10_L_x) (Sl.mk r10_F_l r10_F_x) r10_Elem r10_Key r10_HasKey))), w64 (i6 + 1)))
    else
      some (.inr (l5, i6))
noncomputable def Pb24 (fu : Nat) (p24 : (Sl Field) → Option ((Sl Field))) (p26 : Value → Option (Value)) (p50 : (Sl Value) → Option ((Sl Value))) (a0 : Sl Field) : Option ((Sl Field)) :=
  match a0 with
  | ⟨a0_l, a0_x⟩ =>
    (P48 fu (Sl.mk a0_l a0_x)).bind fun r2 =>
      (wl (P24_s0 fu p26 r2) (r2, 0)).bind fun q =>
        match q with
        | (o18, o19) =>
          (P49 fu (Sl.mk o18 none)).bind fun ⟨r20_l, r20_x⟩ =>
            some (Sl.mk r20_l r20_x)
/-- tapestry/twin.Value -/
noncomputable def Pb26 (fu : Nat) (p24 : (Sl Field) → Option ((Sl Field))) (p26 : Value → Option (Value)) (p50 : (Sl Value) → Option ((Sl Value))) (a0 : Value) : Option (Value) :=
  match a0 with
  | ⟨a0_Kind, a0_N, a0_S, ⟨a0_L_l, a0_L_x⟩, ⟨a0_F_l, a0_F_x⟩, a0_Elem, a0_Key, a0_HasKey⟩ =>
    (p50 (Sl.mk a0_L_l a0_L_x)).bind fun ⟨r1_l, r1_x⟩ =>
      (p24 (Sl.mk a0_F_l a0_F_x)).bind fun ⟨r3_l, r3_x⟩ =>
        some (Value.mk a0_Kind a0_N a0_S (Sl.mk r1_l r1_x) (Sl.mk r3_l r3_x) a0_Elem a0_Key a0_HasKey)
/-- tapestry/twin.Values -/
noncomputable def P50_s0 (fu : Nat) (p26 : Value → Option (Value)) (r2 : List Value) : ((List Value) × Int) → Option (((List Value) × Int) ⊕ (((List Value) × Int)))
  | (l5, i6) =>
    bif decide (i6 < (ln r2)) then
      (idx l5 i6).bind fun ⟨x8_Kind, x8_N, x8_S, ⟨x8_L_l, x8_L_x⟩, ⟨x8_F_l, x8_F_x⟩, x8_Elem, x8_Key, x8_HasKey⟩ =>
        (p26 (Value.mk x8_Kind x8_N x8_S (Sl.mk x8_L_l x8_L_x) (Sl.mk x8_F_l x8_F_x) x8_Elem x8_Key x8_HasKey)).bind fun ⟨r10_Kind, r10_N, r10_S, ⟨r10_L_l, r10_L_x⟩, ⟨r10_F_l, r10_F_x⟩, r10_Elem, r10_Key, r10_HasKey⟩ =>
          (idx l5 i6).bind fun ⟨x12_Kind, x12_N, x12_S, ⟨x12_L_l, x12_L_x⟩, ⟨x12_F_l, x12_F_x⟩, x12_Elem, x12_Key, x12_HasKey⟩ =>
            some (.inl ((List.set l5 (Int.toNat i6) (Value.mk r10_Kind r10_N r10_S (Sl.mk r10_L_l r10_L_x) (Sl.mk r10_F_l r10_F_x) r10_Elem r10_Key r10_HasKey)), w64 (i6 + 1)))
    else
      some (.inr (l5, i6))
noncomputable def Pb50 (fu : Nat) (p24 : (Sl Field) → Option ((Sl Field))) (p26 : Value → Option (Value)) (p50 : (Sl Value) → Option ((Sl Value))) (a0 : Sl Value) : Option ((Sl Value)) :=
  match a0 with
  | ⟨a0_l, a0_x⟩ =>
    (P69 fu (Sl.mk a0_l a0_x)).bind fun r2 =>
      (wl (P50_s0 fu p26 r2) (r2, 0)).bind fun q =>
        match q with
        | (o18, o19) =>
          (P70 fu (Sl.mk o18 none)).bind fun ⟨r20_l, r20_x⟩ =>
            some (Sl.mk r20_l r20_x)
mutual
noncomputable def P24 : Nat → (Sl Field) → Option ((Sl Field))
  | 0 => fun _ => none
  | fu + 1 => fun a0 => Pb24 fu (P24 fu) (P26 fu) (P50 fu) a0
noncomputable def P26 : Nat → Value → Option (Value)
  | 0 => fun _ => none
  | fu + 1 => fun a0 => Pb26 fu (P24 fu) (P26 fu) (P50 fu) a0
noncomputable def P50 : Nat → (Sl Value) → Option ((Sl Value))
  | 0 => fun _ => none
  | fu + 1 => fun a0 => Pb50 fu (P24 fu) (P26 fu) (P50 fu) a0
end
/-- slices.Clone[[]tapestry/api.Act,tapestry/api.Act] -/
noncomputable def P93 (fu : Nat) (a0 : Sl Act) : Option ((List Act)) :=
  match a0 with
  | ⟨a0_l, a0_x⟩ =>
    bif ln a0_l == 0 then
      agree (
        some ([] : List Act)
      ) (
        (
          bif ln a0_l == 0 then
            some ([] : List Act)
          else
            bif room 200 (ln (([] : List Act) ++ a0_l)) then
              some (([] : List Act) ++ a0_l)
            else none
        ).bind fun (q : (List Act)) =>
          match q with
          | l14 =>
            some l14
      )
    else
      (
        bif ln a0_l == 0 then
          some ([] : List Act)
        else
          bif room 200 (ln (([] : List Act) ++ a0_l)) then
            some (([] : List Act) ++ a0_l)
          else none
      ).bind fun (q : (List Act)) =>
        match q with
        | l26 =>
          some l26
/-- slices.Clone[[]tapestry/api.Expr,tapestry/api.Expr] -/
noncomputable def P99 (fu : Nat) (a0 : Sl Expr) : Option ((List Expr)) :=
  match a0 with
  | ⟨a0_l, a0_x⟩ =>
    bif ln a0_l == 0 then
      agree (
        some ([] : List Expr)
      ) (
        (
          bif ln a0_l == 0 then
            some ([] : List Expr)
          else
            bif room 176 (ln (([] : List Expr) ++ a0_l)) then
              some (([] : List Expr) ++ a0_l)
            else none
        ).bind fun (q : (List Expr)) =>
          match q with
          | l14 =>
            some l14
      )
    else
      (
        bif ln a0_l == 0 then
          some ([] : List Expr)
        else
          bif room 176 (ln (([] : List Expr) ++ a0_l)) then
            some (([] : List Expr) ++ a0_l)
          else none
      ).bind fun (q : (List Expr)) =>
        match q with
        | l26 =>
          some l26
/-- slices.Clone[[]string,string] -/
noncomputable def P98 (fu : Nat) (a0 : Sl ByteArray) : Option ((List ByteArray)) :=
  match a0 with
  | ⟨a0_l, a0_x⟩ =>
    bif ln a0_l == 0 then
      agree (
        some ([] : List ByteArray)
      ) (
        (
          bif ln a0_l == 0 then
            some ([] : List ByteArray)
          else
            bif room 16 (ln (([] : List ByteArray) ++ a0_l)) then
              some (([] : List ByteArray) ++ a0_l)
            else none
        ).bind fun (q : (List ByteArray)) =>
          match q with
          | l14 =>
            some l14
      )
    else
      (
        bif ln a0_l == 0 then
          some ([] : List ByteArray)
        else
          bif room 16 (ln (([] : List ByteArray) ++ a0_l)) then
            some (([] : List ByteArray) ++ a0_l)
          else none
      ).bind fun (q : (List ByteArray)) =>
        match q with
        | l26 =>
          some l26
/-- slices.Clip[[]string,string] -/
noncomputable def P97 (fu : Nat) (a0 : Sl ByteArray) : Option ((Sl ByteArray)) :=
  match a0 with
  | ⟨a0_l, a0_x⟩ =>
    bif decide (0 ≤ 0) then
      bif decide (0 ≤ ln a0_l) then
        bif decide (ln a0_l ≤ ln a0_l) then
          bif decide (ln a0_l ≤ ln a0_l) then
            some (Sl.mk (cut a0_l 0 (ln a0_l)) (some (cut a0_l (ln a0_l) (ln a0_l))))
          else none
        else none
      else none
    else none
/-- slices.Clip[[]tapestry/api.Act,tapestry/api.Act] -/
noncomputable def P95 (fu : Nat) (a0 : Sl Act) : Option ((Sl Act)) :=
  match a0 with
  | ⟨a0_l, a0_x⟩ =>
    bif decide (0 ≤ 0) then
      bif decide (0 ≤ ln a0_l) then
        bif decide (ln a0_l ≤ ln a0_l) then
          bif decide (ln a0_l ≤ ln a0_l) then
            some (Sl.mk (cut a0_l 0 (ln a0_l)) (some (cut a0_l (ln a0_l) (ln a0_l))))
          else none
        else none
      else none
    else none
/-- slices.Clip[[]tapestry/api.Expr,tapestry/api.Expr] -/
noncomputable def P100 (fu : Nat) (a0 : Sl Expr) : Option ((Sl Expr)) :=
  match a0 with
  | ⟨a0_l, a0_x⟩ =>
    bif decide (0 ≤ 0) then
      bif decide (0 ≤ ln a0_l) then
        bif decide (ln a0_l ≤ ln a0_l) then
          bif decide (ln a0_l ≤ ln a0_l) then
            some (Sl.mk (cut a0_l 0 (ln a0_l)) (some (cut a0_l (ln a0_l) (ln a0_l))))
          else none
        else none
      else none
    else none
/-- tapestry/twin.Acts -/
noncomputable def P86_s0 (fu : Nat) (p94 : Expr → Option (Expr)) (r2 : List Act) : ((List Act) × Int) → Option (((List Act) × Int) ⊕ (((List Act) × Int)))
  | (l5, i6) =>
    bif decide (i6 < (ln r2)) then
      (idx l5 i6).bind fun ⟨x8_Kind, x8_Name, ⟨x8_Expr__Kind, x8_Expr__N, x8_Expr__S, ⟨x8_Expr__Args_l, x8_Expr__Args_x⟩, ⟨x8_Expr__Names_l, x8_Expr__Names_x⟩, ⟨x8_Expr__Vals_l, x8_Expr__Vals_x⟩, x8_Expr__Elem, ⟨x8_Expr__Key_l, x8_Expr__Key_x⟩, ⟨x8_Expr__Acts_l, x8_Expr__Acts_x⟩, x8_Expr__Site⟩⟩ =>
        (p94 (Expr.mk x8_Expr__Kind x8_Expr__N x8_Expr__S (Sl.mk x8_Expr__Args_l x8_Expr__Args_x) (Sl.mk x8_Expr__Names_l x8_Expr__Names_x) (Sl.mk x8_Expr__Vals_l x8_Expr__Vals_x) x8_Expr__Elem (Sl.mk x8_Expr__Key_l x8_Expr__Key_x) (Sl.mk x8_Expr__Acts_l x8_Expr__Acts_x) x8_Expr__Site)).bind fun ⟨r10_Kind, r10_N, r10_S, ⟨r10_Args_l, r10_Args_x⟩, ⟨r10_Names_l, r10_Names_x⟩, ⟨r10_Vals_l, r10_Vals_x⟩, r10_Elem, ⟨r10_Key_l, r10_Key_x⟩, ⟨r10_Acts_l, r10_Acts_x⟩, r10_Site⟩ =>
          (idx l5 i6).bind fun ⟨x12_Kind, x12_Name, ⟨x12_Expr__Kind, x12_Expr__N, x12_Expr__S, ⟨x12_Expr__Args_l, x12_Expr__Args_x⟩, ⟨x12_Expr__Names_l, x12_Expr__Names_x⟩, ⟨x12_Expr__Vals_l, x12_Expr__Vals_x⟩, x12_Expr__Elem, ⟨x12_Expr__Key_l, x12_Expr__Key_x⟩, ⟨x12_Expr__Acts_l, x12_Expr__Acts_x⟩, x12_Expr__Site⟩⟩ =>
            some (.inl ((List.set l5 (Int.toNat i6) (Act.mk x12_Kind x12_Name (Expr.mk r10_Kind r10_N r10_S (Sl.mk r10_Args_l r10_Args_x) (Sl.mk r10_Names_l r10_Names_x) (Sl.mk r10_Vals_l r10_Vals_x) r10_Elem (Sl.mk r10_Key_l r10_Key_x) (Sl.mk r10_Acts_l r10_Acts_x) r10_Site))), w64 (i6 + 1)))
    else
      some (.inr (l5, i6))
noncomputable def Pb86 (fu : Nat) (p86 : (Sl Act) → Option ((Sl Act))) (p94 : Expr → Option (Expr)) (p96 : (Sl Expr) → Option ((Sl Expr))) (a0 : Sl Act) : Option ((Sl Act)) :=
  match a0 with
  | ⟨a0_l, a0_x⟩ =>
    (P93 fu (Sl.mk a0_l a0_x)).bind fun r2 =>
      (wl (P86_s0 fu p94 r2) (r2, 0)).bind fun q =>
        match q with
        | (o18, o19) =>
          (P95 fu (Sl.mk o18 none)).bind fun ⟨r20_l, r20_x⟩ =>
            some (Sl.mk r20_l r20_x)
/-- tapestry/twin.Expr -/
noncomputable def Pb94 (fu : Nat) (p86 : (Sl Act) → Option ((Sl Act))) (p94 : Expr → Option (Expr)) (p96 : (Sl Expr) → Option ((Sl Expr))) (a0 : Expr) : Option (Expr) :=
  match a0 with
  | ⟨a0_Kind, a0_N, a0_S, ⟨a0_Args_l, a0_Args_x⟩, ⟨a0_Names_l, a0_Names_x⟩, ⟨a0_Vals_l, a0_Vals_x⟩, a0_Elem, ⟨a0_Key_l, a0_Key_x⟩, ⟨a0_Acts_l, a0_Acts_x⟩, a0_Site⟩ =>
    (p96 (Sl.mk a0_Args_l a0_Args_x)).bind fun ⟨r1_l, r1_x⟩ =>
      (p96 (Sl.mk a0_Vals_l a0_Vals_x)).bind fun ⟨r3_l, r3_x⟩ =>
        (p96 (Sl.mk a0_Key_l a0_Key_x)).bind fun ⟨r5_l, r5_x⟩ =>
          (P98 fu (Sl.mk a0_Names_l a0_Names_x)).bind fun r8 =>
            (P97 fu (Sl.mk r8 none)).bind fun ⟨r11_l, r11_x⟩ =>
              (p86 (Sl.mk a0_Acts_l a0_Acts_x)).bind fun ⟨r13_l, r13_x⟩ =>
                some (Expr.mk a0_Kind a0_N a0_S (Sl.mk r1_l r1_x) (Sl.mk r11_l r11_x) (Sl.mk r3_l r3_x) a0_Elem (Sl.mk r5_l r5_x) (Sl.mk r13_l r13_x) a0_Site)
/-- tapestry/twin.exprs -/
noncomputable def P96_s0 (fu : Nat) (p94 : Expr → Option (Expr)) (r2 : List Expr) : ((List Expr) × Int) → Option (((List Expr) × Int) ⊕ (((List Expr) × Int)))
  | (l5, i6) =>
    bif decide (i6 < (ln r2)) then
      (idx l5 i6).bind fun ⟨x8_Kind, x8_N, x8_S, ⟨x8_Args_l, x8_Args_x⟩, ⟨x8_Names_l, x8_Names_x⟩, ⟨x8_Vals_l, x8_Vals_x⟩, x8_Elem, ⟨x8_Key_l, x8_Key_x⟩, ⟨x8_Acts_l, x8_Acts_x⟩, x8_Site⟩ =>
        (p94 (Expr.mk x8_Kind x8_N x8_S (Sl.mk x8_Args_l x8_Args_x) (Sl.mk x8_Names_l x8_Names_x) (Sl.mk x8_Vals_l x8_Vals_x) x8_Elem (Sl.mk x8_Key_l x8_Key_x) (Sl.mk x8_Acts_l x8_Acts_x) x8_Site)).bind fun ⟨r10_Kind, r10_N, r10_S, ⟨r10_Args_l, r10_Args_x⟩, ⟨r10_Names_l, r10_Names_x⟩, ⟨r10_Vals_l, r10_Vals_x⟩, r10_Elem, ⟨r10_Key_l, r10_Key_x⟩, ⟨r10_Acts_l, r10_Acts_x⟩, r10_Site⟩ =>
          (idx l5 i6).bind fun ⟨x12_Kind, x12_N, x12_S, ⟨x12_Args_l, x12_Args_x⟩, ⟨x12_Names_l, x12_Names_x⟩, ⟨x12_Vals_l, x12_Vals_x⟩, x12_Elem, ⟨x12_Key_l, x12_Key_x⟩, ⟨x12_Acts_l, x12_Acts_x⟩, x12_Site⟩ =>
            some (.inl ((List.set l5 (Int.toNat i6) (Expr.mk r10_Kind r10_N r10_S (Sl.mk r10_Args_l r10_Args_x) (Sl.mk r10_Names_l r10_Names_x) (Sl.mk r10_Vals_l r10_Vals_x) r10_Elem (Sl.mk r10_Key_l r10_Key_x) (Sl.mk r10_Acts_l r10_Acts_x) r10_Site)), w64 (i6 + 1)))
    else
      some (.inr (l5, i6))
noncomputable def Pb96 (fu : Nat) (p86 : (Sl Act) → Option ((Sl Act))) (p94 : Expr → Option (Expr)) (p96 : (Sl Expr) → Option ((Sl Expr))) (a0 : Sl Expr) : Option ((Sl Expr)) :=
  match a0 with
  | ⟨a0_l, a0_x⟩ =>
    (P99 fu (Sl.mk a0_l a0_x)).bind fun r2 =>
      (wl (P96_s0 fu p94 r2) (r2, 0)).bind fun q =>
        match q with
        | (o18, o19) =>
          (P100 fu (Sl.mk o18 none)).bind fun ⟨r20_l, r20_x⟩ =>
            some (Sl.mk r20_l r20_x)
mutual
noncomputable def P86 : Nat → (Sl Act) → Option ((Sl Act))
  | 0 => fun _ => none
  | fu + 1 => fun a0 => Pb86 fu (P86 fu) (P94 fu) (P96 fu) a0
noncomputable def P94 : Nat → Expr → Option (Expr)
  | 0 => fun _ => none
  | fu + 1 => fun a0 => Pb94 fu (P86 fu) (P94 fu) (P96 fu) a0
noncomputable def P96 : Nat → (Sl Expr) → Option ((Sl Expr))
  | 0 => fun _ => none
  | fu + 1 => fun a0 => Pb96 fu (P86 fu) (P94 fu) (P96 fu) a0
end
/-- tapestry/twin.Cell -/
noncomputable def P65 (fu : Nat) (a0 : Cell) : Option (Cell) :=
  match a0 with
  | ⟨a0_Kind, a0_Name, ⟨a0_Value__Kind, a0_Value__N, a0_Value__S, ⟨a0_Value__L_l, a0_Value__L_x⟩, ⟨a0_Value__F_l, a0_Value__F_x⟩, a0_Value__Elem, a0_Value__Key, a0_Value__HasKey⟩, ⟨a0_Next_Kind, a0_Next_N, a0_Next_S, ⟨a0_Next_L_l, a0_Next_L_x⟩, ⟨a0_Next_F_l, a0_Next_F_x⟩, a0_Next_Elem, a0_Next_Key, a0_Next_HasKey⟩, ⟨a0_Deps_l, a0_Deps_x⟩, ⟨a0_Do_l, a0_Do_x⟩, ⟨a0_Undo_l, a0_Undo_x⟩, ⟨a0_Env_l, a0_Env_x⟩, a0_Runs, a0_Ran, ⟨a0_Old_l, a0_Old_x⟩, ⟨a0_Past_l, a0_Past_x⟩⟩ =>
    (P26 fu (Value.mk a0_Value__Kind a0_Value__N a0_Value__S (Sl.mk a0_Value__L_l a0_Value__L_x) (Sl.mk a0_Value__F_l a0_Value__F_x) a0_Value__Elem a0_Value__Key a0_Value__HasKey)).bind fun ⟨r1_Kind, r1_N, r1_S, ⟨r1_L_l, r1_L_x⟩, ⟨r1_F_l, r1_F_x⟩, r1_Elem, r1_Key, r1_HasKey⟩ =>
      (P26 fu (Value.mk a0_Next_Kind a0_Next_N a0_Next_S (Sl.mk a0_Next_L_l a0_Next_L_x) (Sl.mk a0_Next_F_l a0_Next_F_x) a0_Next_Elem a0_Next_Key a0_Next_HasKey)).bind fun ⟨r3_Kind, r3_N, r3_S, ⟨r3_L_l, r3_L_x⟩, ⟨r3_F_l, r3_F_x⟩, r3_Elem, r3_Key, r3_HasKey⟩ =>
        (P50 fu (Sl.mk a0_Deps_l a0_Deps_x)).bind fun ⟨r5_l, r5_x⟩ =>
          (P86 fu (Sl.mk a0_Do_l a0_Do_x)).bind fun ⟨r7_l, r7_x⟩ =>
            (P86 fu (Sl.mk a0_Undo_l a0_Undo_x)).bind fun ⟨r9_l, r9_x⟩ =>
              (P86 fu (Sl.mk a0_Old_l a0_Old_x)).bind fun ⟨r11_l, r11_x⟩ =>
                (P24 fu (Sl.mk a0_Env_l a0_Env_x)).bind fun ⟨r13_l, r13_x⟩ =>
                  (P24 fu (Sl.mk a0_Past_l a0_Past_x)).bind fun ⟨r15_l, r15_x⟩ =>
                    some (Cell.mk a0_Kind a0_Name (Value.mk r1_Kind r1_N r1_S (Sl.mk r1_L_l r1_L_x) (Sl.mk r1_F_l r1_F_x) r1_Elem r1_Key r1_HasKey) (Value.mk r3_Kind r3_N r3_S (Sl.mk r3_L_l r3_L_x) (Sl.mk r3_F_l r3_F_x) r3_Elem r3_Key r3_HasKey) (Sl.mk r5_l r5_x) (Sl.mk r7_l r7_x) (Sl.mk r9_l r9_x) (Sl.mk r13_l r13_x) a0_Runs a0_Ran (Sl.mk r11_l r11_x) (Sl.mk r15_l r15_x))
/-- slices.Clip[[]tapestry/api.Cell,tapestry/api.Cell] -/
noncomputable def P66 (fu : Nat) (a0 : List Cell) : Option ((List Cell)) :=
  bif decide (0 ≤ ln a0) then
    bif decide (ln a0 ≤ ln a0) then
      bif decide (ln a0 ≤ ln a0) then
        some (cut a0 0 (ln a0))
      else none
    else none
  else none
/-- tapestry/twin.Cells -/
noncomputable def P42_s0 (fu : Nat) (r4 : List Cell) : ((List Cell) × Int) → Option (((List Cell) × Int) ⊕ (((List Cell) × Int)))
  | (l7, i8) =>
    bif decide (i8 < (ln r4)) then
      (idx l7 i8).bind fun ⟨x10_Kind, x10_Name, ⟨x10_Value__Kind, x10_Value__N, x10_Value__S, ⟨x10_Value__L_l, x10_Value__L_x⟩, ⟨x10_Value__F_l, x10_Value__F_x⟩, x10_Value__Elem, x10_Value__Key, x10_Value__HasKey⟩, ⟨x10_Next_Kind, x10_Next_N, x10_Next_S, ⟨x10_Next_L_l, x10_Next_L_x⟩, ⟨x10_Next_F_l, x10_Next_F_x⟩, x10_Next_Elem, x10_Next_Key, x10_Next_HasKey⟩, ⟨x10_Deps_l, x10_Deps_x⟩, ⟨x10_Do_l, x10_Do_x⟩, ⟨x10_Undo_l, x10_Undo_x⟩, ⟨x10_Env_l, x10_Env_x⟩, x10_Runs, x10_Ran, ⟨x10_Old_l, x10_Old_x⟩, ⟨x10_Past_l, x10_Past_x⟩⟩ =>
        (P65 fu (Cell.mk x10_Kind x10_Name (Value.mk x10_Value__Kind x10_Value__N x10_Value__S (Sl.mk x10_Value__L_l x10_Value__L_x) (Sl.mk x10_Value__F_l x10_Value__F_x) x10_Value__Elem x10_Value__Key x10_Value__HasKey) (Value.mk x10_Next_Kind x10_Next_N x10_Next_S (Sl.mk x10_Next_L_l x10_Next_L_x) (Sl.mk x10_Next_F_l x10_Next_F_x) x10_Next_Elem x10_Next_Key x10_Next_HasKey) (Sl.mk x10_Deps_l x10_Deps_x) (Sl.mk x10_Do_l x10_Do_x) (Sl.mk x10_Undo_l x10_Undo_x) (Sl.mk x10_Env_l x10_Env_x) x10_Runs x10_Ran (Sl.mk x10_Old_l x10_Old_x) (Sl.mk x10_Past_l x10_Past_x))).bind fun ⟨r12_Kind, r12_Name, ⟨r12_Value__Kind, r12_Value__N, r12_Value__S, ⟨r12_Value__L_l, r12_Value__L_x⟩, ⟨r12_Value__F_l, r12_Value__F_x⟩, r12_Value__Elem, r12_Value__Key, r12_Value__HasKey⟩, ⟨r12_Next_Kind, r12_Next_N, r12_Next_S, ⟨r12_Next_L_l, r12_Next_L_x⟩, ⟨r12_Next_F_l, r12_Next_F_x⟩, r12_Next_Elem, r12_Next_Key, r12_Next_HasKey⟩, ⟨r12_Deps_l, r12_Deps_x⟩, ⟨r12_Do_l, r12_Do_x⟩, ⟨r12_Undo_l, r12_Undo_x⟩, ⟨r12_Env_l, r12_Env_x⟩, r12_Runs, r12_Ran, ⟨r12_Old_l, r12_Old_x⟩, ⟨r12_Past_l, r12_Past_x⟩⟩ =>
          (idx l7 i8).bind fun ⟨x14_Kind, x14_Name, ⟨x14_Value__Kind, x14_Value__N, x14_Value__S, ⟨x14_Value__L_l, x14_Value__L_x⟩, ⟨x14_Value__F_l, x14_Value__F_x⟩, x14_Value__Elem, x14_Value__Key, x14_Value__HasKey⟩, ⟨x14_Next_Kind, x14_Next_N, x14_Next_S, ⟨x14_Next_L_l, x14_Next_L_x⟩, ⟨x14_Next_F_l, x14_Next_F_x⟩, x14_Next_Elem, x14_Next_Key, x14_Next_HasKey⟩, ⟨x14_Deps_l, x14_Deps_x⟩, ⟨x14_Do_l, x14_Do_x⟩, ⟨x14_Undo_l, x14_Undo_x⟩, ⟨x14_Env_l, x14_Env_x⟩, x14_Runs, x14_Ran, ⟨x14_Old_l, x14_Old_x⟩, ⟨x14_Past_l, x14_Past_x⟩⟩ =>
            some (.inl ((List.set l7 (Int.toNat i8) (Cell.mk r12_Kind r12_Name (Value.mk r12_Value__Kind r12_Value__N r12_Value__S (Sl.mk r12_Value__L_l r12_Value__L_x) (Sl.mk r12_Value__F_l r12_Value__F_x) r12_Value__Elem r12_Value__Key r12_Value__HasKey) (Value.mk r12_Next_Kind r12_Next_N r12_Next_S (Sl.mk r12_Next_L_l r12_Next_L_x) (Sl.mk r12_Next_F_l r12_Next_F_x) r12_Next_Elem r12_Next_Key r12_Next_HasKey) (Sl.mk r12_Deps_l r12_Deps_x) (Sl.mk r12_Do_l r12_Do_x) (Sl.mk r12_Undo_l r12_Undo_x) (Sl.mk r12_Env_l r12_Env_x) r12_Runs r12_Ran (Sl.mk r12_Old_l r12_Old_x) (Sl.mk r12_Past_l r12_Past_x))), w64 (i8 + 1)))
    else
      some (.inr (l7, i8))
noncomputable def P42 (fu : Nat) (a0 : Sl Cell) : Option ((List Cell)) :=
  match a0 with
  | ⟨a0_l, a0_x⟩ =>
    (P64 fu (Sl.mk a0_l a0_x)).bind fun r4 =>
      (wl (P42_s0 fu r4) (r4, 0)).bind fun q =>
        match q with
        | (o20, o21) =>
          (P66 fu o20).bind fun r23 =>
            some r23
/-- tapestry/cells.Set -/
noncomputable def P18 (fu : Nat) (a0 : Sl Cell) (a1 : ByteArray) (a2 : Value) : Option ((Sl Cell) × Bool) :=
  match a0 with
  | ⟨a0_l, a0_x⟩ =>
    match a2 with
    | ⟨a2_Kind, a2_N, a2_S, ⟨a2_L_l, a2_L_x⟩, ⟨a2_F_l, a2_F_x⟩, a2_Elem, a2_Key, a2_HasKey⟩ =>
      (P40 fu (Sl.mk a0_l a0_x) a1).bind fun r1 =>
        (
          bif !(decide (r1 < 0)) then
            (P41 fu (Value.mk a2_Kind a2_N a2_S (Sl.mk a2_L_l a2_L_x) (Sl.mk a2_F_l a2_F_x) a2_Elem a2_Key a2_HasKey)).bind fun r4 =>
              some (!r4)
          else
            some true
        ).bind fun (q : Bool) =>
          match q with
          | i6 =>
            bif i6 then
              some ((Sl.mk [] (some [])), false)
            else
              (P42 fu (Sl.mk a0_l a0_x)).bind fun r9 =>
                (P26 fu (Value.mk a2_Kind a2_N a2_S (Sl.mk a2_L_l a2_L_x) (Sl.mk a2_F_l a2_F_x) a2_Elem a2_Key a2_HasKey)).bind fun ⟨r12_Kind, r12_N, r12_S, ⟨r12_L_l, r12_L_x⟩, ⟨r12_F_l, r12_F_x⟩, r12_Elem, r12_Key, r12_HasKey⟩ =>
                  (idx r9 r1).bind fun ⟨x14_Kind, x14_Name, ⟨x14_Value__Kind, x14_Value__N, x14_Value__S, ⟨x14_Value__L_l, x14_Value__L_x⟩, ⟨x14_Value__F_l, x14_Value__F_x⟩, x14_Value__Elem, x14_Value__Key, x14_Value__HasKey⟩, ⟨x14_Next_Kind, x14_Next_N, x14_Next_S, ⟨x14_Next_L_l, x14_Next_L_x⟩, ⟨x14_Next_F_l, x14_Next_F_x⟩, x14_Next_Elem, x14_Next_Key, x14_Next_HasKey⟩, ⟨x14_Deps_l, x14_Deps_x⟩, ⟨x14_Do_l, x14_Do_x⟩, ⟨x14_Undo_l, x14_Undo_x⟩, ⟨x14_Env_l, x14_Env_x⟩, x14_Runs, x14_Ran, ⟨x14_Old_l, x14_Old_x⟩, ⟨x14_Past_l, x14_Past_x⟩⟩ =>
                    some ((Sl.mk (List.set r9 (Int.toNat r1) (Cell.mk x14_Kind x14_Name (Value.mk x14_Value__Kind x14_Value__N x14_Value__S (Sl.mk x14_Value__L_l x14_Value__L_x) (Sl.mk x14_Value__F_l x14_Value__F_x) x14_Value__Elem x14_Value__Key x14_Value__HasKey) (Value.mk r12_Kind r12_N r12_S (Sl.mk r12_L_l r12_L_x) (Sl.mk r12_F_l r12_F_x) r12_Elem r12_Key r12_HasKey) (Sl.mk x14_Deps_l x14_Deps_x) (Sl.mk x14_Do_l x14_Do_x) (Sl.mk x14_Undo_l x14_Undo_x) (Sl.mk x14_Env_l x14_Env_x) x14_Runs x14_Ran (Sl.mk x14_Old_l x14_Old_x) (Sl.mk x14_Past_l x14_Past_x))) none), true)
/-- tapestry/tapestrylaw13.lives -/
noncomputable def P17 (fu : Nat) : Option (Bool) :=
  some true
/-- tapestry/cells.Next -/
noncomputable def P19 (fu : Nat) (a0 : Sl Cell) (a1 : ByteArray) : Option (Value × Bool) :=
  match a0 with
  | ⟨a0_l, a0_x⟩ =>
    (P40 fu (Sl.mk a0_l a0_x) a1).bind fun r1 =>
      bif decide (r1 < 0) then
        some ((Value.mk 0 0 ByteArray.empty (Sl.mk [] (some [])) (Sl.mk [] (some [])) 0 ByteArray.empty false), false)
      else
        (idx a0_l r1).bind fun ⟨x4_Kind, x4_Name, ⟨x4_Value__Kind, x4_Value__N, x4_Value__S, ⟨x4_Value__L_l, x4_Value__L_x⟩, ⟨x4_Value__F_l, x4_Value__F_x⟩, x4_Value__Elem, x4_Value__Key, x4_Value__HasKey⟩, ⟨x4_Next_Kind, x4_Next_N, x4_Next_S, ⟨x4_Next_L_l, x4_Next_L_x⟩, ⟨x4_Next_F_l, x4_Next_F_x⟩, x4_Next_Elem, x4_Next_Key, x4_Next_HasKey⟩, ⟨x4_Deps_l, x4_Deps_x⟩, ⟨x4_Do_l, x4_Do_x⟩, ⟨x4_Undo_l, x4_Undo_x⟩, ⟨x4_Env_l, x4_Env_x⟩, x4_Runs, x4_Ran, ⟨x4_Old_l, x4_Old_x⟩, ⟨x4_Past_l, x4_Past_x⟩⟩ =>
          (P26 fu (Value.mk x4_Next_Kind x4_Next_N x4_Next_S (Sl.mk x4_Next_L_l x4_Next_L_x) (Sl.mk x4_Next_F_l x4_Next_F_x) x4_Next_Elem x4_Next_Key x4_Next_HasKey)).bind fun ⟨r6_Kind, r6_N, r6_S, ⟨r6_L_l, r6_L_x⟩, ⟨r6_F_l, r6_F_x⟩, r6_Elem, r6_Key, r6_HasKey⟩ =>
            some ((Value.mk r6_Kind r6_N r6_S (Sl.mk r6_L_l r6_L_x) (Sl.mk r6_F_l r6_F_x) r6_Elem r6_Key r6_HasKey), true)
/-- tapestry/tapestrylaw01.SameValues -/
noncomputable def P27_s0 (fu : Nat) (p8 : Value → Value → Option (Bool)) (a0_l : List Value) (a1_l : List Value) : Int → Option (Int ⊕ (Int ⊕ Int))
  | i6 =>
    bif decide (i6 < (ln a0_l)) then
      (idx a0_l i6).bind fun ⟨x10_Kind, x10_N, x10_S, ⟨x10_L_l, x10_L_x⟩, ⟨x10_F_l, x10_F_x⟩, x10_Elem, x10_Key, x10_HasKey⟩ =>
        (idx a1_l i6).bind fun ⟨x12_Kind, x12_N, x12_S, ⟨x12_L_l, x12_L_x⟩, ⟨x12_F_l, x12_F_x⟩, x12_Elem, x12_Key, x12_HasKey⟩ =>
          (p8 (Value.mk x10_Kind x10_N x10_S (Sl.mk x10_L_l x10_L_x) (Sl.mk x10_F_l x10_F_x) x10_Elem x10_Key x10_HasKey) (Value.mk x12_Kind x12_N x12_S (Sl.mk x12_L_l x12_L_x) (Sl.mk x12_F_l x12_F_x) x12_Elem x12_Key x12_HasKey)).bind fun r14 =>
            bif !r14 then
              some (.inr (.inr i6))
            else
              some (.inl (w64 (i6 + 1)))
    else
      some (.inr (.inl i6))
noncomputable def Pb27 (fu : Nat) (p27 : (Sl Value) → (Sl Value) → Option (Bool)) (p28 : (Sl Field) → (Sl Field) → Option (Bool)) (p51 : Field → Field → Option (Bool)) (p8 : Value → Value → Option (Bool)) (a0 : Sl Value) (a1 : Sl Value) : Option (Bool) :=
  match a0 with
  | ⟨a0_l, a0_x⟩ =>
    match a1 with
    | ⟨a1_l, a1_x⟩ =>
      bif !((ln a0_l) == (ln a1_l)) then
        some false
      else
        (wl (P27_s0 fu p8 a0_l a1_l) 0).bind fun q =>
          match q with
          | .inl o18 =>
            some true
          | .inr o19 =>
            some false
/-- tapestry/tapestrylaw01.SameFields -/
noncomputable def P28_s0 (fu : Nat) (p51 : Field → Field → Option (Bool)) (a0_l : List Field) (a1_l : List Field) : Int → Option (Int ⊕ (Int ⊕ Int))
  | i6 =>
    bif decide (i6 < (ln a0_l)) then
      (idx a0_l i6).bind fun ⟨x10_Name, ⟨x10_Value__Kind, x10_Value__N, x10_Value__S, ⟨x10_Value__L_l, x10_Value__L_x⟩, ⟨x10_Value__F_l, x10_Value__F_x⟩, x10_Value__Elem, x10_Value__Key, x10_Value__HasKey⟩⟩ =>
        (idx a1_l i6).bind fun ⟨x12_Name, ⟨x12_Value__Kind, x12_Value__N, x12_Value__S, ⟨x12_Value__L_l, x12_Value__L_x⟩, ⟨x12_Value__F_l, x12_Value__F_x⟩, x12_Value__Elem, x12_Value__Key, x12_Value__HasKey⟩⟩ =>
          (p51 (Field.mk x10_Name (Value.mk x10_Value__Kind x10_Value__N x10_Value__S (Sl.mk x10_Value__L_l x10_Value__L_x) (Sl.mk x10_Value__F_l x10_Value__F_x) x10_Value__Elem x10_Value__Key x10_Value__HasKey)) (Field.mk x12_Name (Value.mk x12_Value__Kind x12_Value__N x12_Value__S (Sl.mk x12_Value__L_l x12_Value__L_x) (Sl.mk x12_Value__F_l x12_Value__F_x) x12_Value__Elem x12_Value__Key x12_Value__HasKey))).bind fun r14 =>
            bif !r14 then
              some (.inr (.inr i6))
            else
              some (.inl (w64 (i6 + 1)))
    else
      some (.inr (.inl i6))
noncomputable def Pb28 (fu : Nat) (p27 : (Sl Value) → (Sl Value) → Option (Bool)) (p28 : (Sl Field) → (Sl Field) → Option (Bool)) (p51 : Field → Field → Option (Bool)) (p8 : Value → Value → Option (Bool)) (a0 : Sl Field) (a1 : Sl Field) : Option (Bool) :=
  match a0 with
  | ⟨a0_l, a0_x⟩ =>
    match a1 with
    | ⟨a1_l, a1_x⟩ =>
      bif !((ln a0_l) == (ln a1_l)) then
        some false
      else
        (wl (P28_s0 fu p51 a0_l a1_l) 0).bind fun q =>
          match q with
          | .inl o18 =>
            some true
          | .inr o19 =>
            some false
/-- tapestry/tapestrylaw01.SameField -/
noncomputable def Pb51 (fu : Nat) (p27 : (Sl Value) → (Sl Value) → Option (Bool)) (p28 : (Sl Field) → (Sl Field) → Option (Bool)) (p51 : Field → Field → Option (Bool)) (p8 : Value → Value → Option (Bool)) (a0 : Field) (a1 : Field) : Option (Bool) :=
  match a0 with
  | ⟨a0_Name, ⟨a0_Value__Kind, a0_Value__N, a0_Value__S, ⟨a0_Value__L_l, a0_Value__L_x⟩, ⟨a0_Value__F_l, a0_Value__F_x⟩, a0_Value__Elem, a0_Value__Key, a0_Value__HasKey⟩⟩ =>
    match a1 with
    | ⟨a1_Name, ⟨a1_Value__Kind, a1_Value__N, a1_Value__S, ⟨a1_Value__L_l, a1_Value__L_x⟩, ⟨a1_Value__F_l, a1_Value__F_x⟩, a1_Value__Elem, a1_Value__Key, a1_Value__HasKey⟩⟩ =>
      (
        bif seq a0_Name a1_Name then
          (p8 (Value.mk a0_Value__Kind a0_Value__N a0_Value__S (Sl.mk a0_Value__L_l a0_Value__L_x) (Sl.mk a0_Value__F_l a0_Value__F_x) a0_Value__Elem a0_Value__Key a0_Value__HasKey) (Value.mk a1_Value__Kind a1_Value__N a1_Value__S (Sl.mk a1_Value__L_l a1_Value__L_x) (Sl.mk a1_Value__F_l a1_Value__F_x) a1_Value__Elem a1_Value__Key a1_Value__HasKey)).bind fun r2 =>
            some r2
        else
          some false
      ).bind fun (q : Bool) =>
        match q with
        | i4 =>
          some i4
/-- tapestry/tapestrylaw01.SameValue -/
noncomputable def Pb8 (fu : Nat) (p27 : (Sl Value) → (Sl Value) → Option (Bool)) (p28 : (Sl Field) → (Sl Field) → Option (Bool)) (p51 : Field → Field → Option (Bool)) (p8 : Value → Value → Option (Bool)) (a0 : Value) (a1 : Value) : Option (Bool) :=
  match a0 with
  | ⟨a0_Kind, a0_N, a0_S, ⟨a0_L_l, a0_L_x⟩, ⟨a0_F_l, a0_F_x⟩, a0_Elem, a0_Key, a0_HasKey⟩ =>
    match a1 with
    | ⟨a1_Kind, a1_N, a1_S, ⟨a1_L_l, a1_L_x⟩, ⟨a1_F_l, a1_F_x⟩, a1_Elem, a1_Key, a1_HasKey⟩ =>
      (
        bif a0_Kind == a1_Kind then
          bif a0_N == a1_N then
            bif seq a0_S a1_S then
              (p27 (Sl.mk a0_L_l a0_L_x) (Sl.mk a1_L_l a1_L_x)).bind fun r4 =>
                bif r4 then
                  (p28 (Sl.mk a0_F_l a0_F_x) (Sl.mk a1_F_l a1_F_x)).bind fun r7 =>
                    bif r7 then
                      bif a0_Elem == a1_Elem then
                        bif seq a0_Key a1_Key then
                          some (a0_HasKey == a1_HasKey)
                        else
                          some false
                      else
                        some false
                    else
                      some false
                else
                  some false
            else
              some false
          else
            some false
        else
          some false
      ).bind fun (q : Bool) =>
        match q with
        | i12 =>
          some i12
mutual
noncomputable def P27 : Nat → (Sl Value) → (Sl Value) → Option (Bool)
  | 0 => fun _ _ => none
  | fu + 1 => fun a0 a1 => Pb27 fu (P27 fu) (P28 fu) (P51 fu) (P8 fu) a0 a1
noncomputable def P28 : Nat → (Sl Field) → (Sl Field) → Option (Bool)
  | 0 => fun _ _ => none
  | fu + 1 => fun a0 a1 => Pb28 fu (P27 fu) (P28 fu) (P51 fu) (P8 fu) a0 a1
noncomputable def P51 : Nat → Field → Field → Option (Bool)
  | 0 => fun _ _ => none
  | fu + 1 => fun a0 a1 => Pb51 fu (P27 fu) (P28 fu) (P51 fu) (P8 fu) a0 a1
noncomputable def P8 : Nat → Value → Value → Option (Bool)
  | 0 => fun _ _ => none
  | fu + 1 => fun a0 a1 => Pb8 fu (P27 fu) (P28 fu) (P51 fu) (P8 fu) a0 a1
end
/-- slices.EqualFunc[[]tapestry/api.Cell,[]tapestry/api.Cell,tapestry/api.Cell,tapestry/api.Cell] -/
noncomputable def P43_s0 (fu : Nat) (a2 : (Cell → Cell → Option (Bool))) (a0_l : List Cell) (a1_l : List Cell) : Int → Option (Int ⊕ (Int ⊕ Int))
  | i8 =>
    bif decide (i8 < (ln a0_l)) then
      (idx a0_l i8).bind fun ⟨x10_Kind, x10_Name, ⟨x10_Value__Kind, x10_Value__N, x10_Value__S, ⟨x10_Value__L_l, x10_Value__L_x⟩, ⟨x10_Value__F_l, x10_Value__F_x⟩, x10_Value__Elem, x10_Value__Key, x10_Value__HasKey⟩, ⟨x10_Next_Kind, x10_Next_N, x10_Next_S, ⟨x10_Next_L_l, x10_Next_L_x⟩, ⟨x10_Next_F_l, x10_Next_F_x⟩, x10_Next_Elem, x10_Next_Key, x10_Next_HasKey⟩, ⟨x10_Deps_l, x10_Deps_x⟩, ⟨x10_Do_l, x10_Do_x⟩, ⟨x10_Undo_l, x10_Undo_x⟩, ⟨x10_Env_l, x10_Env_x⟩, x10_Runs, x10_Ran, ⟨x10_Old_l, x10_Old_x⟩, ⟨x10_Past_l, x10_Past_x⟩⟩ =>
        (idx a1_l i8).bind fun ⟨x12_Kind, x12_Name, ⟨x12_Value__Kind, x12_Value__N, x12_Value__S, ⟨x12_Value__L_l, x12_Value__L_x⟩, ⟨x12_Value__F_l, x12_Value__F_x⟩, x12_Value__Elem, x12_Value__Key, x12_Value__HasKey⟩, ⟨x12_Next_Kind, x12_Next_N, x12_Next_S, ⟨x12_Next_L_l, x12_Next_L_x⟩, ⟨x12_Next_F_l, x12_Next_F_x⟩, x12_Next_Elem, x12_Next_Key, x12_Next_HasKey⟩, ⟨x12_Deps_l, x12_Deps_x⟩, ⟨x12_Do_l, x12_Do_x⟩, ⟨x12_Undo_l, x12_Undo_x⟩, ⟨x12_Env_l, x12_Env_x⟩, x12_Runs, x12_Ran, ⟨x12_Old_l, x12_Old_x⟩, ⟨x12_Past_l, x12_Past_x⟩⟩ =>
          (a2 (Cell.mk x10_Kind x10_Name (Value.mk x10_Value__Kind x10_Value__N x10_Value__S (Sl.mk x10_Value__L_l x10_Value__L_x) (Sl.mk x10_Value__F_l x10_Value__F_x) x10_Value__Elem x10_Value__Key x10_Value__HasKey) (Value.mk x10_Next_Kind x10_Next_N x10_Next_S (Sl.mk x10_Next_L_l x10_Next_L_x) (Sl.mk x10_Next_F_l x10_Next_F_x) x10_Next_Elem x10_Next_Key x10_Next_HasKey) (Sl.mk x10_Deps_l x10_Deps_x) (Sl.mk x10_Do_l x10_Do_x) (Sl.mk x10_Undo_l x10_Undo_x) (Sl.mk x10_Env_l x10_Env_x) x10_Runs x10_Ran (Sl.mk x10_Old_l x10_Old_x) (Sl.mk x10_Past_l x10_Past_x)) (Cell.mk x12_Kind x12_Name (Value.mk x12_Value__Kind x12_Value__N x12_Value__S (Sl.mk x12_Value__L_l x12_Value__L_x) (Sl.mk x12_Value__F_l x12_Value__F_x) x12_Value__Elem x12_Value__Key x12_Value__HasKey) (Value.mk x12_Next_Kind x12_Next_N x12_Next_S (Sl.mk x12_Next_L_l x12_Next_L_x) (Sl.mk x12_Next_F_l x12_Next_F_x) x12_Next_Elem x12_Next_Key x12_Next_HasKey) (Sl.mk x12_Deps_l x12_Deps_x) (Sl.mk x12_Do_l x12_Do_x) (Sl.mk x12_Undo_l x12_Undo_x) (Sl.mk x12_Env_l x12_Env_x) x12_Runs x12_Ran (Sl.mk x12_Old_l x12_Old_x) (Sl.mk x12_Past_l x12_Past_x))).bind fun r14 =>
            bif !r14 then
              some (.inr (.inr i8))
            else
              some (.inl (w64 (i8 + 1)))
    else
      some (.inr (.inl i8))
noncomputable def P43 (fu : Nat) (a0 : Sl Cell) (a1 : Sl Cell) (a2 : (Cell → Cell → Option (Bool))) : Option (Bool) :=
  match a0 with
  | ⟨a0_l, a0_x⟩ =>
    match a1 with
    | ⟨a1_l, a1_x⟩ =>
      bif !((ln a0_l) == (ln a1_l)) then
        some false
      else
        (wl (P43_s0 fu a2 a0_l a1_l) 0).bind fun q =>
          match q with
          | .inl o18 =>
            some true
          | .inr o19 =>
            some false
/-- tapestry/cells.Order$1 -/
noncomputable def P44 (fu : Nat) (a0 : Cell) (a1 : Cell) : Option (Bool) :=
  match a0 with
  | ⟨a0_Kind, a0_Name, ⟨a0_Value__Kind, a0_Value__N, a0_Value__S, ⟨a0_Value__L_l, a0_Value__L_x⟩, ⟨a0_Value__F_l, a0_Value__F_x⟩, a0_Value__Elem, a0_Value__Key, a0_Value__HasKey⟩, ⟨a0_Next_Kind, a0_Next_N, a0_Next_S, ⟨a0_Next_L_l, a0_Next_L_x⟩, ⟨a0_Next_F_l, a0_Next_F_x⟩, a0_Next_Elem, a0_Next_Key, a0_Next_HasKey⟩, ⟨a0_Deps_l, a0_Deps_x⟩, ⟨a0_Do_l, a0_Do_x⟩, ⟨a0_Undo_l, a0_Undo_x⟩, ⟨a0_Env_l, a0_Env_x⟩, a0_Runs, a0_Ran, ⟨a0_Old_l, a0_Old_x⟩, ⟨a0_Past_l, a0_Past_x⟩⟩ =>
    match a1 with
    | ⟨a1_Kind, a1_Name, ⟨a1_Value__Kind, a1_Value__N, a1_Value__S, ⟨a1_Value__L_l, a1_Value__L_x⟩, ⟨a1_Value__F_l, a1_Value__F_x⟩, a1_Value__Elem, a1_Value__Key, a1_Value__HasKey⟩, ⟨a1_Next_Kind, a1_Next_N, a1_Next_S, ⟨a1_Next_L_l, a1_Next_L_x⟩, ⟨a1_Next_F_l, a1_Next_F_x⟩, a1_Next_Elem, a1_Next_Key, a1_Next_HasKey⟩, ⟨a1_Deps_l, a1_Deps_x⟩, ⟨a1_Do_l, a1_Do_x⟩, ⟨a1_Undo_l, a1_Undo_x⟩, ⟨a1_Env_l, a1_Env_x⟩, a1_Runs, a1_Ran, ⟨a1_Old_l, a1_Old_x⟩, ⟨a1_Past_l, a1_Past_x⟩⟩ =>
      (
        bif a0_Kind == a1_Kind then
          some (seq a0_Name a1_Name)
        else
          some false
      ).bind fun (q : Bool) =>
        match q with
        | i2 =>
          some i2
/-- tapestry/cells.Order -/
noncomputable def P20 (fu : Nat) (a0 : Sl Cell) (a1 : Sl Cell) : Option (Bool) :=
  match a0 with
  | ⟨a0_l, a0_x⟩ =>
    match a1 with
    | ⟨a1_l, a1_x⟩ =>
      (P43 fu (Sl.mk a0_l a0_x) (Sl.mk a1_l a1_x) (P44 fu)).bind fun r1 =>
        some r1
/-- tapestry/cells.Settle -/
noncomputable def P22_s0 (fu : Nat) (r2 : List Cell) : ((List Cell) × Int) → Option (((List Cell) × Int) ⊕ (((List Cell) × Int)))
  | (l5, i6) =>
    bif decide (i6 < (ln r2)) then
      (idx l5 i6).bind fun ⟨x8_Kind, x8_Name, ⟨x8_Value__Kind, x8_Value__N, x8_Value__S, ⟨x8_Value__L_l, x8_Value__L_x⟩, ⟨x8_Value__F_l, x8_Value__F_x⟩, x8_Value__Elem, x8_Value__Key, x8_Value__HasKey⟩, ⟨x8_Next_Kind, x8_Next_N, x8_Next_S, ⟨x8_Next_L_l, x8_Next_L_x⟩, ⟨x8_Next_F_l, x8_Next_F_x⟩, x8_Next_Elem, x8_Next_Key, x8_Next_HasKey⟩, ⟨x8_Deps_l, x8_Deps_x⟩, ⟨x8_Do_l, x8_Do_x⟩, ⟨x8_Undo_l, x8_Undo_x⟩, ⟨x8_Env_l, x8_Env_x⟩, x8_Runs, x8_Ran, ⟨x8_Old_l, x8_Old_x⟩, ⟨x8_Past_l, x8_Past_x⟩⟩ =>
        (
          bif x8_Kind == 1 then
            (idx l5 i6).bind fun ⟨x11_Kind, x11_Name, ⟨x11_Value__Kind, x11_Value__N, x11_Value__S, ⟨x11_Value__L_l, x11_Value__L_x⟩, ⟨x11_Value__F_l, x11_Value__F_x⟩, x11_Value__Elem, x11_Value__Key, x11_Value__HasKey⟩, ⟨x11_Next_Kind, x11_Next_N, x11_Next_S, ⟨x11_Next_L_l, x11_Next_L_x⟩, ⟨x11_Next_F_l, x11_Next_F_x⟩, x11_Next_Elem, x11_Next_Key, x11_Next_HasKey⟩, ⟨x11_Deps_l, x11_Deps_x⟩, ⟨x11_Do_l, x11_Do_x⟩, ⟨x11_Undo_l, x11_Undo_x⟩, ⟨x11_Env_l, x11_Env_x⟩, x11_Runs, x11_Ran, ⟨x11_Old_l, x11_Old_x⟩, ⟨x11_Past_l, x11_Past_x⟩⟩ =>
              (P26 fu (Value.mk x11_Next_Kind x11_Next_N x11_Next_S (Sl.mk x11_Next_L_l x11_Next_L_x) (Sl.mk x11_Next_F_l x11_Next_F_x) x11_Next_Elem x11_Next_Key x11_Next_HasKey)).bind fun ⟨r13_Kind, r13_N, r13_S, ⟨r13_L_l, r13_L_x⟩, ⟨r13_F_l, r13_F_x⟩, r13_Elem, r13_Key, r13_HasKey⟩ =>
                (idx l5 i6).bind fun ⟨x15_Kind, x15_Name, ⟨x15_Value__Kind, x15_Value__N, x15_Value__S, ⟨x15_Value__L_l, x15_Value__L_x⟩, ⟨x15_Value__F_l, x15_Value__F_x⟩, x15_Value__Elem, x15_Value__Key, x15_Value__HasKey⟩, ⟨x15_Next_Kind, x15_Next_N, x15_Next_S, ⟨x15_Next_L_l, x15_Next_L_x⟩, ⟨x15_Next_F_l, x15_Next_F_x⟩, x15_Next_Elem, x15_Next_Key, x15_Next_HasKey⟩, ⟨x15_Deps_l, x15_Deps_x⟩, ⟨x15_Do_l, x15_Do_x⟩, ⟨x15_Undo_l, x15_Undo_x⟩, ⟨x15_Env_l, x15_Env_x⟩, x15_Runs, x15_Ran, ⟨x15_Old_l, x15_Old_x⟩, ⟨x15_Past_l, x15_Past_x⟩⟩ =>
                  some (List.set l5 (Int.toNat i6) (Cell.mk x15_Kind x15_Name (Value.mk r13_Kind r13_N r13_S (Sl.mk r13_L_l r13_L_x) (Sl.mk r13_F_l r13_F_x) r13_Elem r13_Key r13_HasKey) (Value.mk x15_Next_Kind x15_Next_N x15_Next_S (Sl.mk x15_Next_L_l x15_Next_L_x) (Sl.mk x15_Next_F_l x15_Next_F_x) x15_Next_Elem x15_Next_Key x15_Next_HasKey) (Sl.mk x15_Deps_l x15_Deps_x) (Sl.mk x15_Do_l x15_Do_x) (Sl.mk x15_Undo_l x15_Undo_x) (Sl.mk x15_Env_l x15_Env_x) x15_Runs x15_Ran (Sl.mk x15_Old_l x15_Old_x) (Sl.mk x15_Past_l x15_Past_x)))
          else
            some l5
        ).bind fun (q : (List Cell)) =>
          match q with
          | l20 =>
            some (.inl (l20, w64 (i6 + 1)))
    else
      some (.inr (l5, i6))
noncomputable def P22 (fu : Nat) (a0 : Sl Cell) : Option ((Sl Cell)) :=
  match a0 with
  | ⟨a0_l, a0_x⟩ =>
    (P42 fu (Sl.mk a0_l a0_x)).bind fun r2 =>
      (wl (P22_s0 fu r2) (r2, 0)).bind fun q =>
        match q with
        | (o23, o24) =>
          some (Sl.mk o23 none)
/-- slices.EqualFunc[[]tapestry/api.Value,[]tapestry/api.Value,tapestry/api.Value,tapestry/api.Value] -/
noncomputable def P36_s0 (fu : Nat) (a2 : (Value → Value → Option (Bool))) (a0_l : List Value) (a1_l : List Value) : Int → Option (Int ⊕ (Int ⊕ Int))
  | i8 =>
    bif decide (i8 < (ln a0_l)) then
      (idx a0_l i8).bind fun ⟨x10_Kind, x10_N, x10_S, ⟨x10_L_l, x10_L_x⟩, ⟨x10_F_l, x10_F_x⟩, x10_Elem, x10_Key, x10_HasKey⟩ =>
        (idx a1_l i8).bind fun ⟨x12_Kind, x12_N, x12_S, ⟨x12_L_l, x12_L_x⟩, ⟨x12_F_l, x12_F_x⟩, x12_Elem, x12_Key, x12_HasKey⟩ =>
          (a2 (Value.mk x10_Kind x10_N x10_S (Sl.mk x10_L_l x10_L_x) (Sl.mk x10_F_l x10_F_x) x10_Elem x10_Key x10_HasKey) (Value.mk x12_Kind x12_N x12_S (Sl.mk x12_L_l x12_L_x) (Sl.mk x12_F_l x12_F_x) x12_Elem x12_Key x12_HasKey)).bind fun r14 =>
            bif !r14 then
              some (.inr (.inr i8))
            else
              some (.inl (w64 (i8 + 1)))
    else
      some (.inr (.inl i8))
noncomputable def P36 (fu : Nat) (a0 : Sl Value) (a1 : Sl Value) (a2 : (Value → Value → Option (Bool))) : Option (Bool) :=
  match a0 with
  | ⟨a0_l, a0_x⟩ =>
    match a1 with
    | ⟨a1_l, a1_x⟩ =>
      bif !((ln a0_l) == (ln a1_l)) then
        some false
      else
        (wl (P36_s0 fu a2 a0_l a1_l) 0).bind fun q =>
          match q with
          | .inl o18 =>
            some true
          | .inr o19 =>
            some false
/-- slices.EqualFunc[[]tapestry/api.Field,[]tapestry/api.Field,tapestry/api.Field,tapestry/api.Field] -/
noncomputable def P72_s0 (fu : Nat) (a2 : (Field → Field → Option (Bool))) (a0_l : List Field) (a1_l : List Field) : Int → Option (Int ⊕ (Int ⊕ Int))
  | i8 =>
    bif decide (i8 < (ln a0_l)) then
      (idx a0_l i8).bind fun ⟨x10_Name, ⟨x10_Value__Kind, x10_Value__N, x10_Value__S, ⟨x10_Value__L_l, x10_Value__L_x⟩, ⟨x10_Value__F_l, x10_Value__F_x⟩, x10_Value__Elem, x10_Value__Key, x10_Value__HasKey⟩⟩ =>
        (idx a1_l i8).bind fun ⟨x12_Name, ⟨x12_Value__Kind, x12_Value__N, x12_Value__S, ⟨x12_Value__L_l, x12_Value__L_x⟩, ⟨x12_Value__F_l, x12_Value__F_x⟩, x12_Value__Elem, x12_Value__Key, x12_Value__HasKey⟩⟩ =>
          (a2 (Field.mk x10_Name (Value.mk x10_Value__Kind x10_Value__N x10_Value__S (Sl.mk x10_Value__L_l x10_Value__L_x) (Sl.mk x10_Value__F_l x10_Value__F_x) x10_Value__Elem x10_Value__Key x10_Value__HasKey)) (Field.mk x12_Name (Value.mk x12_Value__Kind x12_Value__N x12_Value__S (Sl.mk x12_Value__L_l x12_Value__L_x) (Sl.mk x12_Value__F_l x12_Value__F_x) x12_Value__Elem x12_Value__Key x12_Value__HasKey))).bind fun r14 =>
            bif !r14 then
              some (.inr (.inr i8))
            else
              some (.inl (w64 (i8 + 1)))
    else
      some (.inr (.inl i8))
noncomputable def P72 (fu : Nat) (a0 : Sl Field) (a1 : Sl Field) (a2 : (Field → Field → Option (Bool))) : Option (Bool) :=
  match a0 with
  | ⟨a0_l, a0_x⟩ =>
    match a1 with
    | ⟨a1_l, a1_x⟩ =>
      bif !((ln a0_l) == (ln a1_l)) then
        some false
      else
        (wl (P72_s0 fu a2 a0_l a1_l) 0).bind fun q =>
          match q with
          | .inl o18 =>
            some true
          | .inr o19 =>
            some false
/-- tapestry/value.Same -/
noncomputable def Pb32 (fu : Nat) (p32 : Value → Value → Option (Bool)) (p55 : (Sl Field) → (Sl Field) → Option (Bool)) (p73 : Field → Field → Option (Bool)) (a0 : Value) (a1 : Value) : Option (Bool) :=
  match a0 with
  | ⟨a0_Kind, a0_N, a0_S, ⟨a0_L_l, a0_L_x⟩, ⟨a0_F_l, a0_F_x⟩, a0_Elem, a0_Key, a0_HasKey⟩ =>
    match a1 with
    | ⟨a1_Kind, a1_N, a1_S, ⟨a1_L_l, a1_L_x⟩, ⟨a1_F_l, a1_F_x⟩, a1_Elem, a1_Key, a1_HasKey⟩ =>
      (
        bif a0_Kind == a1_Kind then
          bif a0_N == a1_N then
            bif seq a0_S a1_S then
              bif a0_Elem == a1_Elem then
                bif seq a0_Key a1_Key then
                  bif a0_HasKey == a1_HasKey then
                    (P36 fu (Sl.mk a0_L_l a0_L_x) (Sl.mk a1_L_l a1_L_x) p32).bind fun r7 =>
                      bif r7 then
                        (p55 (Sl.mk a0_F_l a0_F_x) (Sl.mk a1_F_l a1_F_x)).bind fun r10 =>
                          some r10
                      else
                        some false
                  else
                    some false
                else
                  some false
              else
                some false
            else
              some false
          else
            some false
        else
          some false
      ).bind fun (q : Bool) =>
        match q with
        | i12 =>
          some i12
/-- tapestry/value.sameFields -/
noncomputable def Pb55 (fu : Nat) (p32 : Value → Value → Option (Bool)) (p55 : (Sl Field) → (Sl Field) → Option (Bool)) (p73 : Field → Field → Option (Bool)) (a0 : Sl Field) (a1 : Sl Field) : Option (Bool) :=
  match a0 with
  | ⟨a0_l, a0_x⟩ =>
    match a1 with
    | ⟨a1_l, a1_x⟩ =>
      (P72 fu (Sl.mk a0_l a0_x) (Sl.mk a1_l a1_x) p73).bind fun r1 =>
        some r1
/-- tapestry/value.sameFields$1 -/
noncomputable def Pb73 (fu : Nat) (p32 : Value → Value → Option (Bool)) (p55 : (Sl Field) → (Sl Field) → Option (Bool)) (p73 : Field → Field → Option (Bool)) (a0 : Field) (a1 : Field) : Option (Bool) :=
  match a0 with
  | ⟨a0_Name, ⟨a0_Value__Kind, a0_Value__N, a0_Value__S, ⟨a0_Value__L_l, a0_Value__L_x⟩, ⟨a0_Value__F_l, a0_Value__F_x⟩, a0_Value__Elem, a0_Value__Key, a0_Value__HasKey⟩⟩ =>
    match a1 with
    | ⟨a1_Name, ⟨a1_Value__Kind, a1_Value__N, a1_Value__S, ⟨a1_Value__L_l, a1_Value__L_x⟩, ⟨a1_Value__F_l, a1_Value__F_x⟩, a1_Value__Elem, a1_Value__Key, a1_Value__HasKey⟩⟩ =>
      (
        bif seq a0_Name a1_Name then
          (p32 (Value.mk a0_Value__Kind a0_Value__N a0_Value__S (Sl.mk a0_Value__L_l a0_Value__L_x) (Sl.mk a0_Value__F_l a0_Value__F_x) a0_Value__Elem a0_Value__Key a0_Value__HasKey) (Value.mk a1_Value__Kind a1_Value__N a1_Value__S (Sl.mk a1_Value__L_l a1_Value__L_x) (Sl.mk a1_Value__F_l a1_Value__F_x) a1_Value__Elem a1_Value__Key a1_Value__HasKey)).bind fun r2 =>
            some r2
        else
          some false
      ).bind fun (q : Bool) =>
        match q with
        | i4 =>
          some i4
mutual
noncomputable def P32 : Nat → Value → Value → Option (Bool)
  | 0 => fun _ _ => none
  | fu + 1 => fun a0 a1 => Pb32 fu (P32 fu) (P55 fu) (P73 fu) a0 a1
noncomputable def P55 : Nat → (Sl Field) → (Sl Field) → Option (Bool)
  | 0 => fun _ _ => none
  | fu + 1 => fun a0 a1 => Pb55 fu (P32 fu) (P55 fu) (P73 fu) a0 a1
noncomputable def P73 : Nat → Field → Field → Option (Bool)
  | 0 => fun _ _ => none
  | fu + 1 => fun a0 a1 => Pb73 fu (P32 fu) (P55 fu) (P73 fu) a0 a1
end
/-- tapestry/cells.Dirty$1 -/
noncomputable def P46 (fu : Nat) (a0 : Cell) : Option (Bool) :=
  match a0 with
  | ⟨a0_Kind, a0_Name, ⟨a0_Value__Kind, a0_Value__N, a0_Value__S, ⟨a0_Value__L_l, a0_Value__L_x⟩, ⟨a0_Value__F_l, a0_Value__F_x⟩, a0_Value__Elem, a0_Value__Key, a0_Value__HasKey⟩, ⟨a0_Next_Kind, a0_Next_N, a0_Next_S, ⟨a0_Next_L_l, a0_Next_L_x⟩, ⟨a0_Next_F_l, a0_Next_F_x⟩, a0_Next_Elem, a0_Next_Key, a0_Next_HasKey⟩, ⟨a0_Deps_l, a0_Deps_x⟩, ⟨a0_Do_l, a0_Do_x⟩, ⟨a0_Undo_l, a0_Undo_x⟩, ⟨a0_Env_l, a0_Env_x⟩, a0_Runs, a0_Ran, ⟨a0_Old_l, a0_Old_x⟩, ⟨a0_Past_l, a0_Past_x⟩⟩ =>
    (P32 fu (Value.mk a0_Value__Kind a0_Value__N a0_Value__S (Sl.mk a0_Value__L_l a0_Value__L_x) (Sl.mk a0_Value__F_l a0_Value__F_x) a0_Value__Elem a0_Value__Key a0_Value__HasKey) (Value.mk a0_Next_Kind a0_Next_N a0_Next_S (Sl.mk a0_Next_L_l a0_Next_L_x) (Sl.mk a0_Next_F_l a0_Next_F_x) a0_Next_Elem a0_Next_Key a0_Next_HasKey)).bind fun r1 =>
      some (!r1)
/-- tapestry/cells.find$1 -/
noncomputable def P67x2 (fu : Nat) (a0 : Cell) (b0 : Sl Int) : Option (Bool) :=
  match a0 with
  | ⟨a0_Kind, a0_Name, ⟨a0_Value__Kind, a0_Value__N, a0_Value__S, ⟨a0_Value__L_l, a0_Value__L_x⟩, ⟨a0_Value__F_l, a0_Value__F_x⟩, a0_Value__Elem, a0_Value__Key, a0_Value__HasKey⟩, ⟨a0_Next_Kind, a0_Next_N, a0_Next_S, ⟨a0_Next_L_l, a0_Next_L_x⟩, ⟨a0_Next_F_l, a0_Next_F_x⟩, a0_Next_Elem, a0_Next_Key, a0_Next_HasKey⟩, ⟨a0_Deps_l, a0_Deps_x⟩, ⟨a0_Do_l, a0_Do_x⟩, ⟨a0_Undo_l, a0_Undo_x⟩, ⟨a0_Env_l, a0_Env_x⟩, a0_Runs, a0_Ran, ⟨a0_Old_l, a0_Old_x⟩, ⟨a0_Past_l, a0_Past_x⟩⟩ =>
    match b0 with
    | ⟨b0_l, b0_x⟩ =>
      (
        (P68 fu (Sl.mk b0_l b0_x) a0_Kind).bind fun r1 =>
          bif r1 then
            (P46 fu (Cell.mk a0_Kind a0_Name (Value.mk a0_Value__Kind a0_Value__N a0_Value__S (Sl.mk a0_Value__L_l a0_Value__L_x) (Sl.mk a0_Value__F_l a0_Value__F_x) a0_Value__Elem a0_Value__Key a0_Value__HasKey) (Value.mk a0_Next_Kind a0_Next_N a0_Next_S (Sl.mk a0_Next_L_l a0_Next_L_x) (Sl.mk a0_Next_F_l a0_Next_F_x) a0_Next_Elem a0_Next_Key a0_Next_HasKey) (Sl.mk a0_Deps_l a0_Deps_x) (Sl.mk a0_Do_l a0_Do_x) (Sl.mk a0_Undo_l a0_Undo_x) (Sl.mk a0_Env_l a0_Env_x) a0_Runs a0_Ran (Sl.mk a0_Old_l a0_Old_x) (Sl.mk a0_Past_l a0_Past_x))).bind fun r4 =>
              some r4
          else
            some false
      ).bind fun (q : Bool) =>
        match q with
        | i6 =>
          some i6
/-- slices.IndexFunc[[]tapestry/api.Cell,tapestry/api.Cell] -/
noncomputable def P54x2_s0 (fu : Nat) (a0_l : List Cell) (b0_l : List Int) (b0_x : Option (List Int)) : (Int × Int) → Option ((Int × Int) ⊕ ((Int × Int) ⊕ (Int × Int)))
  | (i3, i4) =>
    bif decide (i4 < (ln a0_l)) then
      (idx a0_l i4).bind fun ⟨x6_Kind, x6_Name, ⟨x6_Value__Kind, x6_Value__N, x6_Value__S, ⟨x6_Value__L_l, x6_Value__L_x⟩, ⟨x6_Value__F_l, x6_Value__F_x⟩, x6_Value__Elem, x6_Value__Key, x6_Value__HasKey⟩, ⟨x6_Next_Kind, x6_Next_N, x6_Next_S, ⟨x6_Next_L_l, x6_Next_L_x⟩, ⟨x6_Next_F_l, x6_Next_F_x⟩, x6_Next_Elem, x6_Next_Key, x6_Next_HasKey⟩, ⟨x6_Deps_l, x6_Deps_x⟩, ⟨x6_Do_l, x6_Do_x⟩, ⟨x6_Undo_l, x6_Undo_x⟩, ⟨x6_Env_l, x6_Env_x⟩, x6_Runs, x6_Ran, ⟨x6_Old_l, x6_Old_x⟩, ⟨x6_Past_l, x6_Past_x⟩⟩ =>
        (P67x2 fu (Cell.mk x6_Kind x6_Name (Value.mk x6_Value__Kind x6_Value__N x6_Value__S (Sl.mk x6_Value__L_l x6_Value__L_x) (Sl.mk x6_Value__F_l x6_Value__F_x) x6_Value__Elem x6_Value__Key x6_Value__HasKey) (Value.mk x6_Next_Kind x6_Next_N x6_Next_S (Sl.mk x6_Next_L_l x6_Next_L_x) (Sl.mk x6_Next_F_l x6_Next_F_x) x6_Next_Elem x6_Next_Key x6_Next_HasKey) (Sl.mk x6_Deps_l x6_Deps_x) (Sl.mk x6_Do_l x6_Do_x) (Sl.mk x6_Undo_l x6_Undo_x) (Sl.mk x6_Env_l x6_Env_x) x6_Runs x6_Ran (Sl.mk x6_Old_l x6_Old_x) (Sl.mk x6_Past_l x6_Past_x)) (Sl.mk b0_l b0_x)).bind fun r9 =>
          bif r9 then
            some (.inr (.inr (i4, i4)))
          else
            some (.inl (i3, w64 (i4 + 1)))
    else
      some (.inr (.inl (i3, i4)))
noncomputable def P54x2 (fu : Nat) (a0 : Sl Cell) (b0 : Sl Int) : Option (Int) :=
  match a0 with
  | ⟨a0_l, a0_x⟩ =>
    match b0 with
    | ⟨b0_l, b0_x⟩ =>
      (wl (P54x2_s0 fu a0_l b0_l b0_x) (0, 0)).bind fun q =>
        match q with
        | .inl (o12, o13) =>
          some (-1)
        | .inr (o14, o15) =>
          some o14
/-- tapestry/cells.find -/
noncomputable def P45x2 (fu : Nat) (a0 : Sl Cell) (a2 : Sl Int) : Option (Int) :=
  match a0 with
  | ⟨a0_l, a0_x⟩ =>
    match a2 with
    | ⟨a2_l, a2_x⟩ =>
      (P54x2 fu (Sl.mk a0_l a0_x) (Sl.mk a2_l a2_x)).bind fun r2 =>
        some r2
/-- tapestry/cells.Dirty -/
noncomputable def P21 (fu : Nat) (a0 : Sl Cell) : Option (Bool) :=
  match a0 with
  | ⟨a0_l, a0_x⟩ =>
    (P45x2 fu (Sl.mk a0_l a0_x) (Sl.mk [1] (some []))).bind fun r1 =>
      some (decide (0 ≤ r1))
/-- tapestry/tapestrylaw13.CellsKeep -/
noncomputable def P6 (fu : Nat) (a0 : Law13Kept) : Option (Bool) :=
  match a0 with
  | ⟨⟨a0_L_l, a0_L_x⟩, a0_Name, a0_Other, ⟨a0_Value__Kind, a0_Value__N, a0_Value__S, ⟨a0_Value__L_l, a0_Value__L_x⟩, ⟨a0_Value__F_l, a0_Value__F_x⟩, a0_Value__Elem, a0_Value__Key, a0_Value__HasKey⟩⟩ =>
    (P18 fu (Sl.mk a0_L_l a0_L_x) a0_Name (Value.mk a0_Value__Kind a0_Value__N a0_Value__S (Sl.mk a0_Value__L_l a0_Value__L_x) (Sl.mk a0_Value__F_l a0_Value__F_x) a0_Value__Elem a0_Value__Key a0_Value__HasKey)).bind fun ⟨⟨r1_l, r1_x⟩, r2⟩ =>
      bif !r2 then
        (
          bif (ln r1_l) == 0 then
            (P17 fu).bind fun r8 =>
              some r8
          else
            some false
        ).bind fun (q : Bool) =>
          match q with
          | i10 =>
            some i10
      else
        (P19 fu (Sl.mk r1_l r1_x) a0_Name).bind fun ⟨⟨r12_Kind, r12_N, r12_S, ⟨r12_L_l, r12_L_x⟩, ⟨r12_F_l, r12_F_x⟩, r12_Elem, r12_Key, r12_HasKey⟩, r13⟩ =>
          (P19 fu (Sl.mk r1_l r1_x) a0_Other).bind fun ⟨⟨r15_Kind, r15_N, r15_S, ⟨r15_L_l, r15_L_x⟩, ⟨r15_F_l, r15_F_x⟩, r15_Elem, r15_Key, r15_HasKey⟩, r16⟩ =>
            (P19 fu (Sl.mk a0_L_l a0_L_x) a0_Other).bind fun ⟨⟨r18_Kind, r18_N, r18_S, ⟨r18_L_l, r18_L_x⟩, ⟨r18_F_l, r18_F_x⟩, r18_Elem, r18_Key, r18_HasKey⟩, r19⟩ =>
              (
                bif !(!r13) then
                  (P8 fu (Value.mk r12_Kind r12_N r12_S (Sl.mk r12_L_l r12_L_x) (Sl.mk r12_F_l r12_F_x) r12_Elem r12_Key r12_HasKey) (Value.mk a0_Value__Kind a0_Value__N a0_Value__S (Sl.mk a0_Value__L_l a0_Value__L_x) (Sl.mk a0_Value__F_l a0_Value__F_x) a0_Value__Elem a0_Value__Key a0_Value__HasKey)).bind fun r22 =>
                    bif !(!r22) then
                      bif !(!(r16 == r19)) then
                        bif !(seq a0_Other a0_Name) then
                          (P8 fu (Value.mk r15_Kind r15_N r15_S (Sl.mk r15_L_l r15_L_x) (Sl.mk r15_F_l r15_F_x) r15_Elem r15_Key r15_HasKey) (Value.mk r18_Kind r18_N r18_S (Sl.mk r18_L_l r18_L_x) (Sl.mk r18_F_l r18_F_x) r18_Elem r18_Key r18_HasKey)).bind fun r27 =>
                            some (!r27)
                        else
                          some false
                      else
                        some true
                    else
                      some true
                else
                  some true
              ).bind fun (q : Bool) =>
                match q with
                | i29 =>
                  bif i29 then
                    some false
                  else
                    (
                      (P20 fu (Sl.mk a0_L_l a0_L_x) (Sl.mk r1_l r1_x)).bind fun r31 =>
                        bif r31 then
                          (P22 fu (Sl.mk r1_l r1_x)).bind fun ⟨r34_l, r34_x⟩ =>
                            (P21 fu (Sl.mk r34_l r34_x)).bind fun r36 =>
                              bif !r36 then
                                (P17 fu).bind fun r39 =>
                                  some r39
                              else
                                some false
                        else
                          some false
                    ).bind fun (q : Bool) =>
                      match q with
                      | i41 =>
                        some i41
end Go.Proofs.Ytipkggkbldgmjaa
