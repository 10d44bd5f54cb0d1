/- Functions on plain data: printed by a small program. -/
import Derived.Test.YtamllgdaepjcfaaVSE
namespace Go.Proofs.Ytamllgdaepjcfaa
open Go Go.X
set_option linter.unusedVariables false
set_option linter.unusedSimpArgs false
set_option maxRecDepth 100000
/-- tapestry/tapestrylaw01.Beyond -/
noncomputable def P19_s0 (fu : Nat) (a0_l : List Int) : (Bool × Int × Int) → Option ((Bool × Int × Int) ⊕ ((Bool × Int × Int) ⊕ (Bool × Int × Int)))
  | (i1, i2, i3) =>
    bif decide (i3 < (ln a0_l)) then
      (idx a0_l i3).bind fun x7 =>
        bif decide (1048576 < (w64 (i2 + x7))) then
          some (.inr (.inr (true, w64 (i2 + x7), i3)))
        else
          some (.inl (i1, w64 (i2 + x7), w64 (i3 + 1)))
    else
      some (.inr (.inl (i1, i2, i3)))
noncomputable def P19 (fu : Nat) (a0 : Sl Int) : Option (Bool) :=
  match a0 with
  | ⟨a0_l, a0_x⟩ =>
    (wl (P19_s0 fu a0_l) (false, 0, 0)).bind fun q =>
      match q with
      | .inl (o11, o12, o13) =>
        some false
      | .inr (o14, o15, o16) =>
        some o14
/-- tapestry/tapestrylaw01.ValueSize -/
noncomputable def Pb28 (fu : Nat) (p28 : Value → Option (Int)) (p53 : (Sl Value) → Option (Int)) (p54 : (Sl Field) → Option (Int)) (p66 : Field → Option (Int)) (a0 : Value) : Option (Int) :=
  match a0 with
  | ⟨a0_Kind, a0_N, a0_S, ⟨a0_L_l, a0_L_x⟩, ⟨a0_F_l, a0_F_x⟩, a0_Elem, a0_Key, a0_HasKey⟩ =>
    bif decide ((w64 ((w64 (1 + (a0_S.size : Int))) + (a0_Key.size : Int))) ≤ 1048576) then
      (p53 (Sl.mk a0_L_l a0_L_x)).bind fun r2 =>
        bif decide ((w64 ((w64 ((w64 (1 + (a0_S.size : Int))) + (a0_Key.size : Int))) + r2)) ≤ 1048576) then
          (p54 (Sl.mk a0_F_l a0_F_x)).bind fun r5 =>
            some (w64 ((w64 ((w64 ((w64 (1 + (a0_S.size : Int))) + (a0_Key.size : Int))) + r2)) + r5))
        else
          some (w64 ((w64 ((w64 (1 + (a0_S.size : Int))) + (a0_Key.size : Int))) + r2))
    else
      bif decide ((w64 ((w64 (1 + (a0_S.size : Int))) + (a0_Key.size : Int))) ≤ 1048576) then
        (p54 (Sl.mk a0_F_l a0_F_x)).bind fun r8 =>
          some (w64 ((w64 ((w64 (1 + (a0_S.size : Int))) + (a0_Key.size : Int))) + r8))
      else
        some (w64 ((w64 (1 + (a0_S.size : Int))) + (a0_Key.size : Int)))
/-- tapestry/tapestrylaw01.ValuesSize -/
noncomputable def P53_s0 (fu : Nat) (p28 : Value → Option (Int)) (a0_l : List Value) : (Int × Int) → Option ((Int × Int) ⊕ ((Int × Int)))
  | (i3, i4) =>
    bif decide (i4 < (ln a0_l)) then
      bif decide (i3 ≤ 1048576) then
        (idx a0_l i4).bind fun ⟨x9_Kind, x9_N, x9_S, ⟨x9_L_l, x9_L_x⟩, ⟨x9_F_l, x9_F_x⟩, x9_Elem, x9_Key, x9_HasKey⟩ =>
          (p28 (Value.mk x9_Kind x9_N x9_S (Sl.mk x9_L_l x9_L_x) (Sl.mk x9_F_l x9_F_x) x9_Elem x9_Key x9_HasKey)).bind fun r11 =>
            some (.inl (w64 (i3 + r11), w64 (i4 + 1)))
      else
        some (.inr (i3, i4))
    else
      some (.inr (i3, i4))
noncomputable def Pb53 (fu : Nat) (p28 : Value → Option (Int)) (p53 : (Sl Value) → Option (Int)) (p54 : (Sl Field) → Option (Int)) (p66 : Field → Option (Int)) (a0 : Sl Value) : Option (Int) :=
  match a0 with
  | ⟨a0_l, a0_x⟩ =>
    (wl (P53_s0 fu p28 a0_l) (ln a0_l, 0)).bind fun q =>
      match q with
      | (o14, o15) =>
        some o14
/-- tapestry/tapestrylaw01.FieldsSize -/
noncomputable def P54_s0 (fu : Nat) (p66 : Field → Option (Int)) (a0_l : List Field) : (Int × Int) → Option ((Int × Int) ⊕ ((Int × Int)))
  | (i3, i4) =>
    bif decide (i4 < (ln a0_l)) then
      bif decide (i3 ≤ 1048576) then
        (idx a0_l i4).bind fun ⟨x9_Name, ⟨x9_Value_Kind, x9_Value_N, x9_Value_S, ⟨x9_Value_L_l, x9_Value_L_x⟩, ⟨x9_Value_F_l, x9_Value_F_x⟩, x9_Value_Elem, x9_Value_Key, x9_Value_HasKey⟩⟩ =>
          (p66 (Field.mk x9_Name (Value.mk x9_Value_Kind x9_Value_N x9_Value_S (Sl.mk x9_Value_L_l x9_Value_L_x) (Sl.mk x9_Value_F_l x9_Value_F_x) x9_Value_Elem x9_Value_Key x9_Value_HasKey))).bind fun r11 =>
            some (.inl (w64 (i3 + r11), w64 (i4 + 1)))
      else
        some (.inr (i3, i4))
    else
      some (.inr (i3, i4))
noncomputable def Pb54 (fu : Nat) (p28 : Value → Option (Int)) (p53 : (Sl Value) → Option (Int)) (p54 : (Sl Field) → Option (Int)) (p66 : Field → Option (Int)) (a0 : Sl Field) : Option (Int) :=
  match a0 with
  | ⟨a0_l, a0_x⟩ =>
    (wl (P54_s0 fu p66 a0_l) (ln a0_l, 0)).bind fun q =>
      match q with
      | (o14, o15) =>
        some o14
/-- tapestry/tapestrylaw01.FieldSize -/
noncomputable def Pb66 (fu : Nat) (p28 : Value → Option (Int)) (p53 : (Sl Value) → Option (Int)) (p54 : (Sl Field) → Option (Int)) (p66 : Field → Option (Int)) (a0 : Field) : Option (Int) :=
  match a0 with
  | ⟨a0_Name, ⟨a0_Value_Kind, a0_Value_N, a0_Value_S, ⟨a0_Value_L_l, a0_Value_L_x⟩, ⟨a0_Value_F_l, a0_Value_F_x⟩, a0_Value_Elem, a0_Value_Key, a0_Value_HasKey⟩⟩ =>
    bif decide ((w64 (1 + (a0_Name.size : Int))) ≤ 1048576) then
      (p28 (Value.mk a0_Value_Kind a0_Value_N a0_Value_S (Sl.mk a0_Value_L_l a0_Value_L_x) (Sl.mk a0_Value_F_l a0_Value_F_x) a0_Value_Elem a0_Value_Key a0_Value_HasKey)).bind fun r2 =>
        some (w64 ((w64 (1 + (a0_Name.size : Int))) + r2))
    else
      some (w64 (1 + (a0_Name.size : Int)))
mutual
noncomputable def P28 : Nat → Value → Option (Int)
  | 0 => fun _ => none
  | fu + 1 => fun a0 => Pb28 fu (P28 fu) (P53 fu) (P54 fu) (P66 fu) a0
noncomputable def P53 : Nat → (Sl Value) → Option (Int)
  | 0 => fun _ => none
  | fu + 1 => fun a0 => Pb53 fu (P28 fu) (P53 fu) (P54 fu) (P66 fu) a0
noncomputable def P54 : Nat → (Sl Field) → Option (Int)
  | 0 => fun _ => none
  | fu + 1 => fun a0 => Pb54 fu (P28 fu) (P53 fu) (P54 fu) (P66 fu) a0
noncomputable def P66 : Nat → Field → Option (Int)
  | 0 => fun _ => none
  | fu + 1 => fun a0 => Pb66 fu (P28 fu) (P53 fu) (P54 fu) (P66 fu) a0
end
/-- slices.EqualFunc[[]tapestry/api.Value,[]tapestry/api.Value,tapestry/api.Value,tapestry/api.Value] -/
noncomputable def P55_s0 (fu : Nat) (a2 : (Value → Value → Option (Bool))) (a0_l : List Value) (a1_l : List Value) : Int → Option (Int ⊕ (Int ⊕ Int))
  | i8 =>
    bif decide (i8 < (ln a0_l)) then
      (idx a0_l i8).bind fun ⟨x10_Kind, x10_N, x10_S, ⟨x10_L_l, x10_L_x⟩, ⟨x10_F_l, x10_F_x⟩, x10_Elem, x10_Key, x10_HasKey⟩ =>
        (idx a1_l i8).bind fun ⟨x12_Kind, x12_N, x12_S, ⟨x12_L_l, x12_L_x⟩, ⟨x12_F_l, x12_F_x⟩, x12_Elem, x12_Key, x12_HasKey⟩ =>
          (a2 (Value.mk x10_Kind x10_N x10_S (Sl.mk x10_L_l x10_L_x) (Sl.mk x10_F_l x10_F_x) x10_Elem x10_Key x10_HasKey) (Value.mk x12_Kind x12_N x12_S (Sl.mk x12_L_l x12_L_x) (Sl.mk x12_F_l x12_F_x) x12_Elem x12_Key x12_HasKey)).bind fun r14 =>
            bif !r14 then
              some (.inr (.inr i8))
            else
              some (.inl (w64 (i8 + 1)))
    else
      some (.inr (.inl i8))
noncomputable def P55 (fu : Nat) (a0 : Sl Value) (a1 : Sl Value) (a2 : (Value → Value → Option (Bool))) : Option (Bool) :=
  match a0 with
  | ⟨a0_l, a0_x⟩ =>
    match a1 with
    | ⟨a1_l, a1_x⟩ =>
      bif !((ln a0_l) == (ln a1_l)) then
        some false
      else
        (wl (P55_s0 fu a2 a0_l a1_l) 0).bind fun q =>
          match q with
          | .inl o18 =>
            some true
          | .inr o19 =>
            some false
/-- slices.EqualFunc[[]tapestry/api.Field,[]tapestry/api.Field,tapestry/api.Field,tapestry/api.Field] -/
noncomputable def P67_s0 (fu : Nat) (a2 : (Field → Field → Option (Bool))) (a0_l : List Field) (a1_l : List Field) : Int → Option (Int ⊕ (Int ⊕ Int))
  | i8 =>
    bif decide (i8 < (ln a0_l)) then
      (idx a0_l i8).bind fun ⟨x10_Name, ⟨x10_Value_Kind, x10_Value_N, x10_Value_S, ⟨x10_Value_L_l, x10_Value_L_x⟩, ⟨x10_Value_F_l, x10_Value_F_x⟩, x10_Value_Elem, x10_Value_Key, x10_Value_HasKey⟩⟩ =>
        (idx a1_l i8).bind fun ⟨x12_Name, ⟨x12_Value_Kind, x12_Value_N, x12_Value_S, ⟨x12_Value_L_l, x12_Value_L_x⟩, ⟨x12_Value_F_l, x12_Value_F_x⟩, x12_Value_Elem, x12_Value_Key, x12_Value_HasKey⟩⟩ =>
          (a2 (Field.mk x10_Name (Value.mk x10_Value_Kind x10_Value_N x10_Value_S (Sl.mk x10_Value_L_l x10_Value_L_x) (Sl.mk x10_Value_F_l x10_Value_F_x) x10_Value_Elem x10_Value_Key x10_Value_HasKey)) (Field.mk x12_Name (Value.mk x12_Value_Kind x12_Value_N x12_Value_S (Sl.mk x12_Value_L_l x12_Value_L_x) (Sl.mk x12_Value_F_l x12_Value_F_x) x12_Value_Elem x12_Value_Key x12_Value_HasKey))).bind fun r14 =>
            bif !r14 then
              some (.inr (.inr i8))
            else
              some (.inl (w64 (i8 + 1)))
    else
      some (.inr (.inl i8))
noncomputable def P67 (fu : Nat) (a0 : Sl Field) (a1 : Sl Field) (a2 : (Field → Field → Option (Bool))) : Option (Bool) :=
  match a0 with
  | ⟨a0_l, a0_x⟩ =>
    match a1 with
    | ⟨a1_l, a1_x⟩ =>
      bif !((ln a0_l) == (ln a1_l)) then
        some false
      else
        (wl (P67_s0 fu a2 a0_l a1_l) 0).bind fun q =>
          match q with
          | .inl o18 =>
            some true
          | .inr o19 =>
            some false
/-- tapestry/value.Same -/
noncomputable def Pb29 (fu : Nat) (p29 : Value → Value → Option (Bool)) (p56 : (Sl Field) → (Sl Field) → Option (Bool)) (p68 : Field → Field → Option (Bool)) (a0 : Value) (a1 : Value) : Option (Bool) :=
  match a0 with
  | ⟨a0_Kind, a0_N, a0_S, ⟨a0_L_l, a0_L_x⟩, ⟨a0_F_l, a0_F_x⟩, a0_Elem, a0_Key, a0_HasKey⟩ =>
    match a1 with
    | ⟨a1_Kind, a1_N, a1_S, ⟨a1_L_l, a1_L_x⟩, ⟨a1_F_l, a1_F_x⟩, a1_Elem, a1_Key, a1_HasKey⟩ =>
      bif a0_Kind == a1_Kind then
        bif a0_N == a1_N then
          bif seq a0_S a1_S then
            bif a0_Elem == a1_Elem then
              bif seq a0_Key a1_Key then
                bif a0_HasKey == a1_HasKey then
                  (P55 fu (Sl.mk a0_L_l a0_L_x) (Sl.mk a1_L_l a1_L_x) p29).bind fun r7 =>
                    bif r7 then
                      (p56 (Sl.mk a0_F_l a0_F_x) (Sl.mk a1_F_l a1_F_x)).bind fun r10 =>
                        some r10
                    else
                      some false
                else
                  some false
              else
                some false
            else
              some false
          else
            some false
        else
          some false
      else
        some false
/-- tapestry/value.sameFields -/
noncomputable def Pb56 (fu : Nat) (p29 : Value → Value → Option (Bool)) (p56 : (Sl Field) → (Sl Field) → Option (Bool)) (p68 : Field → Field → Option (Bool)) (a0 : Sl Field) (a1 : Sl Field) : Option (Bool) :=
  match a0 with
  | ⟨a0_l, a0_x⟩ =>
    match a1 with
    | ⟨a1_l, a1_x⟩ =>
      (P67 fu (Sl.mk a0_l a0_x) (Sl.mk a1_l a1_x) p68).bind fun r1 =>
        some r1
/-- tapestry/value.sameFields$1 -/
noncomputable def Pb68 (fu : Nat) (p29 : Value → Value → Option (Bool)) (p56 : (Sl Field) → (Sl Field) → Option (Bool)) (p68 : Field → Field → Option (Bool)) (a0 : Field) (a1 : Field) : Option (Bool) :=
  match a0 with
  | ⟨a0_Name, ⟨a0_Value_Kind, a0_Value_N, a0_Value_S, ⟨a0_Value_L_l, a0_Value_L_x⟩, ⟨a0_Value_F_l, a0_Value_F_x⟩, a0_Value_Elem, a0_Value_Key, a0_Value_HasKey⟩⟩ =>
    match a1 with
    | ⟨a1_Name, ⟨a1_Value_Kind, a1_Value_N, a1_Value_S, ⟨a1_Value_L_l, a1_Value_L_x⟩, ⟨a1_Value_F_l, a1_Value_F_x⟩, a1_Value_Elem, a1_Value_Key, a1_Value_HasKey⟩⟩ =>
      bif seq a0_Name a1_Name then
        (p29 (Value.mk a0_Value_Kind a0_Value_N a0_Value_S (Sl.mk a0_Value_L_l a0_Value_L_x) (Sl.mk a0_Value_F_l a0_Value_F_x) a0_Value_Elem a0_Value_Key a0_Value_HasKey) (Value.mk a1_Value_Kind a1_Value_N a1_Value_S (Sl.mk a1_Value_L_l a1_Value_L_x) (Sl.mk a1_Value_F_l a1_Value_F_x) a1_Value_Elem a1_Value_Key a1_Value_HasKey)).bind fun r2 =>
          some r2
      else
        some false
mutual
noncomputable def P29 : Nat → Value → Value → Option (Bool)
  | 0 => fun _ _ => none
  | fu + 1 => fun a0 a1 => Pb29 fu (P29 fu) (P56 fu) (P68 fu) a0 a1
noncomputable def P56 : Nat → (Sl Field) → (Sl Field) → Option (Bool)
  | 0 => fun _ _ => none
  | fu + 1 => fun a0 a1 => Pb56 fu (P29 fu) (P56 fu) (P68 fu) a0 a1
noncomputable def P68 : Nat → Field → Field → Option (Bool)
  | 0 => fun _ _ => none
  | fu + 1 => fun a0 a1 => Pb68 fu (P29 fu) (P56 fu) (P68 fu) a0 a1
end
/-- tapestry/tapestryref01.Same -/
noncomputable def P30_s0 (fu : Nat) (p30 : Value → Value → Option (Bool)) (a0_L_l : List Value) (a1_L_l : List Value) : Int → Option (Int ⊕ (Int ⊕ Int))
  | i12 =>
    bif decide (i12 < (ln a0_L_l)) then
      (idx a0_L_l i12).bind fun ⟨x16_Kind, x16_N, x16_S, ⟨x16_L_l, x16_L_x⟩, ⟨x16_F_l, x16_F_x⟩, x16_Elem, x16_Key, x16_HasKey⟩ =>
        (idx a1_L_l i12).bind fun ⟨x18_Kind, x18_N, x18_S, ⟨x18_L_l, x18_L_x⟩, ⟨x18_F_l, x18_F_x⟩, x18_Elem, x18_Key, x18_HasKey⟩ =>
          (p30 (Value.mk x16_Kind x16_N x16_S (Sl.mk x16_L_l x16_L_x) (Sl.mk x16_F_l x16_F_x) x16_Elem x16_Key x16_HasKey) (Value.mk x18_Kind x18_N x18_S (Sl.mk x18_L_l x18_L_x) (Sl.mk x18_F_l x18_F_x) x18_Elem x18_Key x18_HasKey)).bind fun r20 =>
            bif !r20 then
              some (.inr (.inr i12))
            else
              some (.inl (w64 (i12 + 1)))
    else
      some (.inr (.inl i12))
noncomputable def Pb30 (fu : Nat) (p30 : Value → Value → Option (Bool)) (p57 : (Sl Field) → (Sl Field) → Option (Bool)) (a0 : Value) (a1 : Value) : Option (Bool) :=
  match a0 with
  | ⟨a0_Kind, a0_N, a0_S, ⟨a0_L_l, a0_L_x⟩, ⟨a0_F_l, a0_F_x⟩, a0_Elem, a0_Key, a0_HasKey⟩ =>
    match a1 with
    | ⟨a1_Kind, a1_N, a1_S, ⟨a1_L_l, a1_L_x⟩, ⟨a1_F_l, a1_F_x⟩, a1_Elem, a1_Key, a1_HasKey⟩ =>
      bif !(!(a0_Kind == a1_Kind)) then
        bif !(!(a0_N == a1_N)) then
          bif !(!(seq a0_S a1_S)) then
            bif !(!(a0_Elem == a1_Elem)) then
              bif !(!(seq a0_Key a1_Key)) then
                bif !(!(a0_HasKey == a1_HasKey)) then
                  bif !((ln a0_L_l) == (ln a1_L_l)) then
                    some false
                  else
                    (wl (P30_s0 fu p30 a0_L_l a1_L_l) 0).bind fun q =>
                      match q with
                      | .inl o24 =>
                        (p57 (Sl.mk a0_F_l a0_F_x) (Sl.mk a1_F_l a1_F_x)).bind fun r25 =>
                          some r25
                      | .inr o27 =>
                        some false
                else
                  some false
              else
                some false
            else
              some false
          else
            some false
        else
          some false
      else
        some false
/-- tapestry/tapestryref01.sameFields -/
noncomputable def P57_s0 (fu : Nat) (p30 : Value → Value → Option (Bool)) (a0_l : List Field) (a1_l : List Field) : Int → Option (Int ⊕ (Int ⊕ Int))
  | i6 =>
    bif decide (i6 < (ln a0_l)) then
      (idx a0_l i6).bind fun ⟨x10_Name, ⟨x10_Value_Kind, x10_Value_N, x10_Value_S, ⟨x10_Value_L_l, x10_Value_L_x⟩, ⟨x10_Value_F_l, x10_Value_F_x⟩, x10_Value_Elem, x10_Value_Key, x10_Value_HasKey⟩⟩ =>
        (idx a1_l i6).bind fun ⟨x12_Name, ⟨x12_Value_Kind, x12_Value_N, x12_Value_S, ⟨x12_Value_L_l, x12_Value_L_x⟩, ⟨x12_Value_F_l, x12_Value_F_x⟩, x12_Value_Elem, x12_Value_Key, x12_Value_HasKey⟩⟩ =>
          bif !(!(seq x10_Name x12_Name)) then
            (idx a0_l i6).bind fun ⟨x15_Name, ⟨x15_Value_Kind, x15_Value_N, x15_Value_S, ⟨x15_Value_L_l, x15_Value_L_x⟩, ⟨x15_Value_F_l, x15_Value_F_x⟩, x15_Value_Elem, x15_Value_Key, x15_Value_HasKey⟩⟩ =>
              (idx a1_l i6).bind fun ⟨x17_Name, ⟨x17_Value_Kind, x17_Value_N, x17_Value_S, ⟨x17_Value_L_l, x17_Value_L_x⟩, ⟨x17_Value_F_l, x17_Value_F_x⟩, x17_Value_Elem, x17_Value_Key, x17_Value_HasKey⟩⟩ =>
                (p30 (Value.mk x15_Value_Kind x15_Value_N x15_Value_S (Sl.mk x15_Value_L_l x15_Value_L_x) (Sl.mk x15_Value_F_l x15_Value_F_x) x15_Value_Elem x15_Value_Key x15_Value_HasKey) (Value.mk x17_Value_Kind x17_Value_N x17_Value_S (Sl.mk x17_Value_L_l x17_Value_L_x) (Sl.mk x17_Value_F_l x17_Value_F_x) x17_Value_Elem x17_Value_Key x17_Value_HasKey)).bind fun r19 =>
                  bif !r19 then
                    some (.inr (.inr i6))
                  else
                    some (.inl (w64 (i6 + 1)))
          else
            some (.inr (.inr i6))
    else
      some (.inr (.inl i6))
noncomputable def Pb57 (fu : Nat) (p30 : Value → Value → Option (Bool)) (p57 : (Sl Field) → (Sl Field) → Option (Bool)) (a0 : Sl Field) (a1 : Sl Field) : Option (Bool) :=
  match a0 with
  | ⟨a0_l, a0_x⟩ =>
    match a1 with
    | ⟨a1_l, a1_x⟩ =>
      bif !((ln a0_l) == (ln a1_l)) then
        some false
      else
        (wl (P57_s0 fu p30 a0_l a1_l) 0).bind fun q =>
          match q with
          | .inl o23 =>
            some true
          | .inr o24 =>
            some false
mutual
noncomputable def P30 : Nat → Value → Value → Option (Bool)
  | 0 => fun _ _ => none
  | fu + 1 => fun a0 a1 => Pb30 fu (P30 fu) (P57 fu) a0 a1
noncomputable def P57 : Nat → (Sl Field) → (Sl Field) → Option (Bool)
  | 0 => fun _ _ => none
  | fu + 1 => fun a0 a1 => Pb57 fu (P30 fu) (P57 fu) a0 a1
end
/-- tapestry/value.Shallow -/
noncomputable def P31 (fu : Nat) (a0 : Value) (a1 : Value) : Option (Bool) :=
  match a0 with
  | ⟨a0_Kind, a0_N, a0_S, ⟨a0_L_l, a0_L_x⟩, ⟨a0_F_l, a0_F_x⟩, a0_Elem, a0_Key, a0_HasKey⟩ =>
    match a1 with
    | ⟨a1_Kind, a1_N, a1_S, ⟨a1_L_l, a1_L_x⟩, ⟨a1_F_l, a1_F_x⟩, a1_Elem, a1_Key, a1_HasKey⟩ =>
      bif a0_Kind == 5 then
        bif a1_Kind == 5 then
          (P56 fu (Sl.mk a0_F_l a0_F_x) (Sl.mk a1_F_l a1_F_x)).bind fun r3 =>
            some r3
        else
          some false
      else
        some false
/-- tapestry/tapestryref01.Shallow -/
noncomputable def P32 (fu : Nat) (a0 : Value) (a1 : Value) : Option (Bool) :=
  match a0 with
  | ⟨a0_Kind, a0_N, a0_S, ⟨a0_L_l, a0_L_x⟩, ⟨a0_F_l, a0_F_x⟩, a0_Elem, a0_Key, a0_HasKey⟩ =>
    match a1 with
    | ⟨a1_Kind, a1_N, a1_S, ⟨a1_L_l, a1_L_x⟩, ⟨a1_F_l, a1_F_x⟩, a1_Elem, a1_Key, a1_HasKey⟩ =>
      bif a0_Kind == 5 then
        bif a1_Kind == 5 then
          (P57 fu (Sl.mk a0_F_l a0_F_x) (Sl.mk a1_F_l a1_F_x)).bind fun r3 =>
            some r3
        else
          some false
      else
        some false
/-- tapestry/tapestrylaw01.ValueSames -/
noncomputable def P7 (fu : Nat) (a0 : Value) (a1 : Value) : Option (Bool) :=
  match a0 with
  | ⟨a0_Kind, a0_N, a0_S, ⟨a0_L_l, a0_L_x⟩, ⟨a0_F_l, a0_F_x⟩, a0_Elem, a0_Key, a0_HasKey⟩ =>
    match a1 with
    | ⟨a1_Kind, a1_N, a1_S, ⟨a1_L_l, a1_L_x⟩, ⟨a1_F_l, a1_F_x⟩, a1_Elem, a1_Key, a1_HasKey⟩ =>
      (P28 fu (Value.mk a0_Kind a0_N a0_S (Sl.mk a0_L_l a0_L_x) (Sl.mk a0_F_l a0_F_x) a0_Elem a0_Key a0_HasKey)).bind fun r1 =>
        (P28 fu (Value.mk a1_Kind a1_N a1_S (Sl.mk a1_L_l a1_L_x) (Sl.mk a1_F_l a1_F_x) a1_Elem a1_Key a1_HasKey)).bind fun r3 =>
          (P19 fu (Sl.mk [r1, r3] (some []))).bind fun r5 =>
            bif r5 then
              some true
            else
              (P29 fu (Value.mk a0_Kind a0_N a0_S (Sl.mk a0_L_l a0_L_x) (Sl.mk a0_F_l a0_F_x) a0_Elem a0_Key a0_HasKey) (Value.mk a1_Kind a1_N a1_S (Sl.mk a1_L_l a1_L_x) (Sl.mk a1_F_l a1_F_x) a1_Elem a1_Key a1_HasKey)).bind fun r8 =>
                (P30 fu (Value.mk a0_Kind a0_N a0_S (Sl.mk a0_L_l a0_L_x) (Sl.mk a0_F_l a0_F_x) a0_Elem a0_Key a0_HasKey) (Value.mk a1_Kind a1_N a1_S (Sl.mk a1_L_l a1_L_x) (Sl.mk a1_F_l a1_F_x) a1_Elem a1_Key a1_HasKey)).bind fun r10 =>
                  bif r8 == r10 then
                    (P31 fu (Value.mk a0_Kind a0_N a0_S (Sl.mk a0_L_l a0_L_x) (Sl.mk a0_F_l a0_F_x) a0_Elem a0_Key a0_HasKey) (Value.mk a1_Kind a1_N a1_S (Sl.mk a1_L_l a1_L_x) (Sl.mk a1_F_l a1_F_x) a1_Elem a1_Key a1_HasKey)).bind fun r13 =>
                      (P32 fu (Value.mk a0_Kind a0_N a0_S (Sl.mk a0_L_l a0_L_x) (Sl.mk a0_F_l a0_F_x) a0_Elem a0_Key a0_HasKey) (Value.mk a1_Kind a1_N a1_S (Sl.mk a1_L_l a1_L_x) (Sl.mk a1_F_l a1_F_x) a1_Elem a1_Key a1_HasKey)).bind fun r15 =>
                        some (r13 == r15)
                  else
                    some false
end Go.Proofs.Ytamllgdaepjcfaa
