/- Functions on plain data: printed by a small program. -/
import Derived.Test.YtipkggkbldgmjaaKRE
namespace Go.Proofs.Ytipkggkbldgmjaa
open Go Go.X
set_option linter.unusedVariables false
set_option linter.unusedSimpArgs false
set_option maxRecDepth 100000
/-- tapestry/tapestrylaw01.TwinValues -/
noncomputable def P13_s0 (fu : Nat) (p35 : Value → Option (Value)) (a0_l : List Value) : ((List Value) × Int) → Option (((List Value) × Int) ⊕ (((List Value) × Int)))
  | (l10, i11) =>
    bif decide (i11 < (ln a0_l)) then
      (idx a0_l i11).bind fun ⟨x15_Kind, x15_N, x15_S, ⟨x15_L_l, x15_L_x⟩, ⟨x15_F_l, x15_F_x⟩, x15_Elem, x15_Key, x15_HasKey⟩ =>
        (p35 (Value.mk x15_Kind x15_N x15_S (Sl.mk x15_L_l x15_L_x) (Sl.mk x15_F_l x15_F_x) x15_Elem x15_Key x15_HasKey)).bind fun ⟨r17_Kind, r17_N, r17_S, ⟨r17_L_l, r17_L_x⟩, ⟨r17_F_l, r17_F_x⟩, r17_Elem, r17_Key, r17_HasKey⟩ =>
          bif room 112 (ln (l10 ++ [(Value.mk r17_Kind r17_N r17_S (Sl.mk r17_L_l r17_L_x) (Sl.mk r17_F_l r17_F_x) r17_Elem r17_Key r17_HasKey)])) then
            bif decide (ln (l10 ++ [(Value.mk r17_Kind r17_N r17_S (Sl.mk r17_L_l r17_L_x) (Sl.mk r17_F_l r17_F_x) r17_Elem r17_Key r17_HasKey)]) ≤ w64 ((ln a0_l) + 1)) then
              some (.inl ((l10 ++ [(Value.mk r17_Kind r17_N r17_S (Sl.mk r17_L_l r17_L_x) (Sl.mk r17_F_l r17_F_x) r17_Elem r17_Key r17_HasKey)]), w64 (i11 + 1)))
            else none
          else none
    else
      some (.inr (l10, i11))
noncomputable def Pb13 (fu : Nat) (p13 : (Sl Value) → Option ((Sl Value))) (p35 : Value → Option (Value)) (p57 : (Sl Field) → Option ((Sl Field))) (p74 : Field → Option (Field)) (a0 : Sl Value) : Option ((Sl Value)) :=
  match a0 with
  | ⟨a0_l, a0_x⟩ =>
    bif decide (0 ≤ 0) then
      bif decide (0 ≤ w64 ((ln a0_l) + 1)) then
        bif room 112 (w64 ((ln a0_l) + 1)) then
          (wl (P13_s0 fu p35 a0_l) ((List.replicate (Int.toNat 0) (Value.mk 0 0 ByteArray.empty (Sl.mk [] (some [])) (Sl.mk [] (some [])) 0 ByteArray.empty false)), 0)).bind fun q =>
            match q with
            | (o26, o27) =>
              bif room 112 (ln (o26 ++ [(Value.mk 0 0 (⟨#[115, 112, 97, 114, 101]⟩ : ByteArray) (Sl.mk [] (some [])) (Sl.mk [] (some [])) 0 ByteArray.empty false)])) then
                bif decide (ln (o26 ++ [(Value.mk 0 0 (⟨#[115, 112, 97, 114, 101]⟩ : ByteArray) (Sl.mk [] (some [])) (Sl.mk [] (some [])) 0 ByteArray.empty false)]) ≤ w64 ((ln a0_l) + 1)) then
                  bif (w64 ((ln a0_l) + 1) == ln (o26 ++ [(Value.mk 0 0 (⟨#[115, 112, 97, 114, 101]⟩ : ByteArray) (Sl.mk [] (some [])) (Sl.mk [] (some [])) 0 ByteArray.empty false)])) then
                    bif decide (0 ≤ 0) then
                      bif decide (0 ≤ ln a0_l) then
                        bif decide (ln a0_l ≤ ln ((o26 ++ [(Value.mk 0 0 (⟨#[115, 112, 97, 114, 101]⟩ : ByteArray) (Sl.mk [] (some [])) (Sl.mk [] (some [])) 0 ByteArray.empty false)]) ++ [])) then
                          some (Sl.mk (cut ((o26 ++ [(Value.mk 0 0 (⟨#[115, 112, 97, 114, 101]⟩ : ByteArray) (Sl.mk [] (some [])) (Sl.mk [] (some [])) 0 ByteArray.empty false)]) ++ []) 0 (ln a0_l)) (some (cut ((o26 ++ [(Value.mk 0 0 (⟨#[115, 112, 97, 114, 101]⟩ : ByteArray) (Sl.mk [] (some [])) (Sl.mk [] (some [])) 0 ByteArray.empty false)]) ++ []) (ln a0_l) (ln ((o26 ++ [(Value.mk 0 0 (⟨#[115, 112, 97, 114, 101]⟩ : ByteArray) (Sl.mk [] (some [])) (Sl.mk [] (some [])) 0 ByteArray.empty false)]) ++ [])))))
                        else none
                      else none
                    else none
                  else
                    bif decide (0 ≤ 0) then
                      bif decide (0 ≤ ln a0_l) then
                        bif decide (ln a0_l ≤ ln (o26 ++ [(Value.mk 0 0 (⟨#[115, 112, 97, 114, 101]⟩ : ByteArray) (Sl.mk [] (some [])) (Sl.mk [] (some [])) 0 ByteArray.empty false)])) then
                          some (Sl.mk (cut (o26 ++ [(Value.mk 0 0 (⟨#[115, 112, 97, 114, 101]⟩ : ByteArray) (Sl.mk [] (some [])) (Sl.mk [] (some [])) 0 ByteArray.empty false)]) 0 (ln a0_l)) none)
                        else none
                      else none
                    else none
                else none
              else none
        else none
      else none
    else none
/-- tapestry/tapestrylaw01.TwinValue -/
noncomputable def Pb35 (fu : Nat) (p13 : (Sl Value) → Option ((Sl Value))) (p35 : Value → Option (Value)) (p57 : (Sl Field) → Option ((Sl Field))) (p74 : Field → Option (Field)) (a0 : Value) : Option (Value) :=
  match a0 with
  | ⟨a0_Kind, a0_N, a0_S, ⟨a0_L_l, a0_L_x⟩, ⟨a0_F_l, a0_F_x⟩, a0_Elem, a0_Key, a0_HasKey⟩ =>
    (p13 (Sl.mk a0_L_l a0_L_x)).bind fun ⟨r1_l, r1_x⟩ =>
      (p57 (Sl.mk a0_F_l a0_F_x)).bind fun ⟨r3_l, r3_x⟩ =>
        some (Value.mk a0_Kind a0_N a0_S (Sl.mk r1_l r1_x) (Sl.mk r3_l r3_x) a0_Elem a0_Key a0_HasKey)
/-- tapestry/tapestrylaw01.TwinFields -/
noncomputable def P57_s0 (fu : Nat) (p74 : Field → Option (Field)) (a0_l : List Field) : ((List Field) × Int) → Option (((List Field) × Int) ⊕ (((List Field) × Int)))
  | (l10, i11) =>
    bif decide (i11 < (ln a0_l)) then
      (idx a0_l i11).bind fun ⟨x15_Name, ⟨x15_Value__Kind, x15_Value__N, x15_Value__S, ⟨x15_Value__L_l, x15_Value__L_x⟩, ⟨x15_Value__F_l, x15_Value__F_x⟩, x15_Value__Elem, x15_Value__Key, x15_Value__HasKey⟩⟩ =>
        (p74 (Field.mk x15_Name (Value.mk x15_Value__Kind x15_Value__N x15_Value__S (Sl.mk x15_Value__L_l x15_Value__L_x) (Sl.mk x15_Value__F_l x15_Value__F_x) x15_Value__Elem x15_Value__Key x15_Value__HasKey))).bind fun ⟨r17_Name, ⟨r17_Value__Kind, r17_Value__N, r17_Value__S, ⟨r17_Value__L_l, r17_Value__L_x⟩, ⟨r17_Value__F_l, r17_Value__F_x⟩, r17_Value__Elem, r17_Value__Key, r17_Value__HasKey⟩⟩ =>
          bif room 128 (ln (l10 ++ [(Field.mk r17_Name (Value.mk r17_Value__Kind r17_Value__N r17_Value__S (Sl.mk r17_Value__L_l r17_Value__L_x) (Sl.mk r17_Value__F_l r17_Value__F_x) r17_Value__Elem r17_Value__Key r17_Value__HasKey))])) then
            bif decide (ln (l10 ++ [(Field.mk r17_Name (Value.mk r17_Value__Kind r17_Value__N r17_Value__S (Sl.mk r17_Value__L_l r17_Value__L_x) (Sl.mk r17_Value__F_l r17_Value__F_x) r17_Value__Elem r17_Value__Key r17_Value__HasKey))]) ≤ w64 ((ln a0_l) + 1)) then
              some (.inl ((l10 ++ [(Field.mk r17_Name (Value.mk r17_Value__Kind r17_Value__N r17_Value__S (Sl.mk r17_Value__L_l r17_Value__L_x) (Sl.mk r17_Value__F_l r17_Value__F_x) r17_Value__Elem r17_Value__Key r17_Value__HasKey))]), w64 (i11 + 1)))
            else none
          else none
    else
      some (.inr (l10, i11))
noncomputable def Pb57 (fu : Nat) (p13 : (Sl Value) → Option ((Sl Value))) (p35 : Value → Option (Value)) (p57 : (Sl Field) → Option ((Sl Field))) (p74 : Field → Option (Field)) (a0 : Sl Field) : Option ((Sl Field)) :=
  match a0 with
  | ⟨a0_l, a0_x⟩ =>
    bif decide (0 ≤ 0) then
      bif decide (0 ≤ w64 ((ln a0_l) + 1)) then
        bif room 128 (w64 ((ln a0_l) + 1)) then
          (wl (P57_s0 fu p74 a0_l) ((List.replicate (Int.toNat 0) (Field.mk ByteArray.empty (Value.mk 0 0 ByteArray.empty (Sl.mk [] (some [])) (Sl.mk [] (some [])) 0 ByteArray.empty false))), 0)).bind fun q =>
            match q with
            | (o26, o27) =>
              bif room 128 (ln (o26 ++ [(Field.mk (⟨#[115, 112, 97, 114, 101]⟩ : ByteArray) (Value.mk 0 0 ByteArray.empty (Sl.mk [] (some [])) (Sl.mk [] (some [])) 0 ByteArray.empty false))])) then
                bif decide (ln (o26 ++ [(Field.mk (⟨#[115, 112, 97, 114, 101]⟩ : ByteArray) (Value.mk 0 0 ByteArray.empty (Sl.mk [] (some [])) (Sl.mk [] (some [])) 0 ByteArray.empty false))]) ≤ w64 ((ln a0_l) + 1)) then
                  bif (w64 ((ln a0_l) + 1) == ln (o26 ++ [(Field.mk (⟨#[115, 112, 97, 114, 101]⟩ : ByteArray) (Value.mk 0 0 ByteArray.empty (Sl.mk [] (some [])) (Sl.mk [] (some [])) 0 ByteArray.empty false))])) then
                    bif decide (0 ≤ 0) then
                      bif decide (0 ≤ ln a0_l) then
                        bif decide (ln a0_l ≤ ln ((o26 ++ [(Field.mk (⟨#[115, 112, 97, 114, 101]⟩ : ByteArray) (Value.mk 0 0 ByteArray.empty (Sl.mk [] (some [])) (Sl.mk [] (some [])) 0 ByteArray.empty false))]) ++ [])) then
                          some (Sl.mk (cut ((o26 ++ [(Field.mk (⟨#[115, 112, 97, 114, 101]⟩ : ByteArray) (Value.mk 0 0 ByteArray.empty (Sl.mk [] (some [])) (Sl.mk [] (some [])) 0 ByteArray.empty false))]) ++ []) 0 (ln a0_l)) (some (cut ((o26 ++ [(Field.mk (⟨#[115, 112, 97, 114, 101]⟩ : ByteArray) (Value.mk 0 0 ByteArray.empty (Sl.mk [] (some [])) (Sl.mk [] (some [])) 0 ByteArray.empty false))]) ++ []) (ln a0_l) (ln ((o26 ++ [(Field.mk (⟨#[115, 112, 97, 114, 101]⟩ : ByteArray) (Value.mk 0 0 ByteArray.empty (Sl.mk [] (some [])) (Sl.mk [] (some [])) 0 ByteArray.empty false))]) ++ [])))))
                        else none
                      else none
                    else none
                  else
                    bif decide (0 ≤ 0) then
                      bif decide (0 ≤ ln a0_l) then
                        bif decide (ln a0_l ≤ ln (o26 ++ [(Field.mk (⟨#[115, 112, 97, 114, 101]⟩ : ByteArray) (Value.mk 0 0 ByteArray.empty (Sl.mk [] (some [])) (Sl.mk [] (some [])) 0 ByteArray.empty false))])) then
                          some (Sl.mk (cut (o26 ++ [(Field.mk (⟨#[115, 112, 97, 114, 101]⟩ : ByteArray) (Value.mk 0 0 ByteArray.empty (Sl.mk [] (some [])) (Sl.mk [] (some [])) 0 ByteArray.empty false))]) 0 (ln a0_l)) none)
                        else none
                      else none
                    else none
                else none
              else none
        else none
      else none
    else none
/-- tapestry/tapestrylaw01.TwinField -/
noncomputable def Pb74 (fu : Nat) (p13 : (Sl Value) → Option ((Sl Value))) (p35 : Value → Option (Value)) (p57 : (Sl Field) → Option ((Sl Field))) (p74 : Field → Option (Field)) (a0 : Field) : Option (Field) :=
  match a0 with
  | ⟨a0_Name, ⟨a0_Value__Kind, a0_Value__N, a0_Value__S, ⟨a0_Value__L_l, a0_Value__L_x⟩, ⟨a0_Value__F_l, a0_Value__F_x⟩, a0_Value__Elem, a0_Value__Key, a0_Value__HasKey⟩⟩ =>
    (p35 (Value.mk a0_Value__Kind a0_Value__N a0_Value__S (Sl.mk a0_Value__L_l a0_Value__L_x) (Sl.mk a0_Value__F_l a0_Value__F_x) a0_Value__Elem a0_Value__Key a0_Value__HasKey)).bind fun ⟨r1_Kind, r1_N, r1_S, ⟨r1_L_l, r1_L_x⟩, ⟨r1_F_l, r1_F_x⟩, r1_Elem, r1_Key, r1_HasKey⟩ =>
      some (Field.mk a0_Name (Value.mk r1_Kind r1_N r1_S (Sl.mk r1_L_l r1_L_x) (Sl.mk r1_F_l r1_F_x) r1_Elem r1_Key r1_HasKey))
mutual
noncomputable def P13 : Nat → (Sl Value) → Option ((Sl Value))
  | 0 => fun _ => none
  | fu + 1 => fun a0 => Pb13 fu (P13 fu) (P35 fu) (P57 fu) (P74 fu) a0
noncomputable def P35 : Nat → Value → Option (Value)
  | 0 => fun _ => none
  | fu + 1 => fun a0 => Pb35 fu (P13 fu) (P35 fu) (P57 fu) (P74 fu) a0
noncomputable def P57 : Nat → (Sl Field) → Option ((Sl Field))
  | 0 => fun _ => none
  | fu + 1 => fun a0 => Pb57 fu (P13 fu) (P35 fu) (P57 fu) (P74 fu) a0
noncomputable def P74 : Nat → Field → Option (Field)
  | 0 => fun _ => none
  | fu + 1 => fun a0 => Pb74 fu (P13 fu) (P35 fu) (P57 fu) (P74 fu) a0
end
/-- slices.EqualFunc[[]tapestry/api.Value,[]tapestry/api.Value,tapestry/api.Value,tapestry/api.Value] -/
noncomputable def P36_s0 (fu : Nat) (a2 : (Value → Value → Option (Bool))) (a0_l : List Value) (a1_l : List Value) : Int → Option (Int ⊕ (Int ⊕ Int))
  | i8 =>
    bif decide (i8 < (ln a0_l)) then
      (idx a0_l i8).bind fun ⟨x10_Kind, x10_N, x10_S, ⟨x10_L_l, x10_L_x⟩, ⟨x10_F_l, x10_F_x⟩, x10_Elem, x10_Key, x10_HasKey⟩ =>
        (idx a1_l i8).bind fun ⟨x12_Kind, x12_N, x12_S, ⟨x12_L_l, x12_L_x⟩, ⟨x12_F_l, x12_F_x⟩, x12_Elem, x12_Key, x12_HasKey⟩ =>
          (a2 (Value.mk x10_Kind x10_N x10_S (Sl.mk x10_L_l x10_L_x) (Sl.mk x10_F_l x10_F_x) x10_Elem x10_Key x10_HasKey) (Value.mk x12_Kind x12_N x12_S (Sl.mk x12_L_l x12_L_x) (Sl.mk x12_F_l x12_F_x) x12_Elem x12_Key x12_HasKey)).bind fun r14 =>
            bif !r14 then
              some (.inr (.inr i8))
            else
              some (.inl (w64 (i8 + 1)))
    else
      some (.inr (.inl i8))
noncomputable def P36 (fu : Nat) (a0 : Sl Value) (a1 : Sl Value) (a2 : (Value → Value → Option (Bool))) : Option (Bool) :=
  match a0 with
  | ⟨a0_l, a0_x⟩ =>
    match a1 with
    | ⟨a1_l, a1_x⟩ =>
      bif !((ln a0_l) == (ln a1_l)) then
        some false
      else
        (wl (P36_s0 fu a2 a0_l a1_l) 0).bind fun q =>
          match q with
          | .inl o18 =>
            some true
          | .inr o19 =>
            some false
/-- slices.EqualFunc[[]tapestry/api.Field,[]tapestry/api.Field,tapestry/api.Field,tapestry/api.Field] -/
noncomputable def P72_s0 (fu : Nat) (a2 : (Field → Field → Option (Bool))) (a0_l : List Field) (a1_l : List Field) : Int → Option (Int ⊕ (Int ⊕ Int))
  | i8 =>
    bif decide (i8 < (ln a0_l)) then
      (idx a0_l i8).bind fun ⟨x10_Name, ⟨x10_Value__Kind, x10_Value__N, x10_Value__S, ⟨x10_Value__L_l, x10_Value__L_x⟩, ⟨x10_Value__F_l, x10_Value__F_x⟩, x10_Value__Elem, x10_Value__Key, x10_Value__HasKey⟩⟩ =>
        (idx a1_l i8).bind fun ⟨x12_Name, ⟨x12_Value__Kind, x12_Value__N, x12_Value__S, ⟨x12_Value__L_l, x12_Value__L_x⟩, ⟨x12_Value__F_l, x12_Value__F_x⟩, x12_Value__Elem, x12_Value__Key, x12_Value__HasKey⟩⟩ =>
          (a2 (Field.mk x10_Name (Value.mk x10_Value__Kind x10_Value__N x10_Value__S (Sl.mk x10_Value__L_l x10_Value__L_x) (Sl.mk x10_Value__F_l x10_Value__F_x) x10_Value__Elem x10_Value__Key x10_Value__HasKey)) (Field.mk x12_Name (Value.mk x12_Value__Kind x12_Value__N x12_Value__S (Sl.mk x12_Value__L_l x12_Value__L_x) (Sl.mk x12_Value__F_l x12_Value__F_x) x12_Value__Elem x12_Value__Key x12_Value__HasKey))).bind fun r14 =>
            bif !r14 then
              some (.inr (.inr i8))
            else
              some (.inl (w64 (i8 + 1)))
    else
      some (.inr (.inl i8))
noncomputable def P72 (fu : Nat) (a0 : Sl Field) (a1 : Sl Field) (a2 : (Field → Field → Option (Bool))) : Option (Bool) :=
  match a0 with
  | ⟨a0_l, a0_x⟩ =>
    match a1 with
    | ⟨a1_l, a1_x⟩ =>
      bif !((ln a0_l) == (ln a1_l)) then
        some false
      else
        (wl (P72_s0 fu a2 a0_l a1_l) 0).bind fun q =>
          match q with
          | .inl o18 =>
            some true
          | .inr o19 =>
            some false
/-- tapestry/value.Same -/
noncomputable def Pb32 (fu : Nat) (p32 : Value → Value → Option (Bool)) (p55 : (Sl Field) → (Sl Field) → Option (Bool)) (p73 : Field → Field → Option (Bool)) (a0 : Value) (a1 : Value) : Option (Bool) :=
  match a0 with
  | ⟨a0_Kind, a0_N, a0_S, ⟨a0_L_l, a0_L_x⟩, ⟨a0_F_l, a0_F_x⟩, a0_Elem, a0_Key, a0_HasKey⟩ =>
    match a1 with
    | ⟨a1_Kind, a1_N, a1_S, ⟨a1_L_l, a1_L_x⟩, ⟨a1_F_l, a1_F_x⟩, a1_Elem, a1_Key, a1_HasKey⟩ =>
      (
        bif a0_Kind == a1_Kind then
          bif a0_N == a1_N then
            bif seq a0_S a1_S then
              bif a0_Elem == a1_Elem then
                bif seq a0_Key a1_Key then
                  bif a0_HasKey == a1_HasKey then
                    (P36 fu (Sl.mk a0_L_l a0_L_x) (Sl.mk a1_L_l a1_L_x) p32).bind fun r7 =>
                      bif r7 then
                        (p55 (Sl.mk a0_F_l a0_F_x) (Sl.mk a1_F_l a1_F_x)).bind fun r10 =>
                          some r10
                      else
                        some false
                  else
                    some false
                else
                  some false
              else
                some false
            else
              some false
          else
            some false
        else
          some false
      ).bind fun (q : Bool) =>
        match q with
        | i12 =>
          some i12
/-- tapestry/value.sameFields -/
noncomputable def Pb55 (fu : Nat) (p32 : Value → Value → Option (Bool)) (p55 : (Sl Field) → (Sl Field) → Option (Bool)) (p73 : Field → Field → Option (Bool)) (a0 : Sl Field) (a1 : Sl Field) : Option (Bool) :=
  match a0 with
  | ⟨a0_l, a0_x⟩ =>
    match a1 with
    | ⟨a1_l, a1_x⟩ =>
      (P72 fu (Sl.mk a0_l a0_x) (Sl.mk a1_l a1_x) p73).bind fun r1 =>
        some r1
/-- tapestry/value.sameFields$1 -/
noncomputable def Pb73 (fu : Nat) (p32 : Value → Value → Option (Bool)) (p55 : (Sl Field) → (Sl Field) → Option (Bool)) (p73 : Field → Field → Option (Bool)) (a0 : Field) (a1 : Field) : Option (Bool) :=
  match a0 with
  | ⟨a0_Name, ⟨a0_Value__Kind, a0_Value__N, a0_Value__S, ⟨a0_Value__L_l, a0_Value__L_x⟩, ⟨a0_Value__F_l, a0_Value__F_x⟩, a0_Value__Elem, a0_Value__Key, a0_Value__HasKey⟩⟩ =>
    match a1 with
    | ⟨a1_Name, ⟨a1_Value__Kind, a1_Value__N, a1_Value__S, ⟨a1_Value__L_l, a1_Value__L_x⟩, ⟨a1_Value__F_l, a1_Value__F_x⟩, a1_Value__Elem, a1_Value__Key, a1_Value__HasKey⟩⟩ =>
      (
        bif seq a0_Name a1_Name then
          (p32 (Value.mk a0_Value__Kind a0_Value__N a0_Value__S (Sl.mk a0_Value__L_l a0_Value__L_x) (Sl.mk a0_Value__F_l a0_Value__F_x) a0_Value__Elem a0_Value__Key a0_Value__HasKey) (Value.mk a1_Value__Kind a1_Value__N a1_Value__S (Sl.mk a1_Value__L_l a1_Value__L_x) (Sl.mk a1_Value__F_l a1_Value__F_x) a1_Value__Elem a1_Value__Key a1_Value__HasKey)).bind fun r2 =>
            some r2
        else
          some false
      ).bind fun (q : Bool) =>
        match q with
        | i4 =>
          some i4
mutual
noncomputable def P32 : Nat → Value → Value → Option (Bool)
  | 0 => fun _ _ => none
  | fu + 1 => fun a0 a1 => Pb32 fu (P32 fu) (P55 fu) (P73 fu) a0 a1
noncomputable def P55 : Nat → (Sl Field) → (Sl Field) → Option (Bool)
  | 0 => fun _ _ => none
  | fu + 1 => fun a0 a1 => Pb55 fu (P32 fu) (P55 fu) (P73 fu) a0 a1
noncomputable def P73 : Nat → Field → Field → Option (Bool)
  | 0 => fun _ _ => none
  | fu + 1 => fun a0 a1 => Pb73 fu (P32 fu) (P55 fu) (P73 fu) a0 a1
end
/-- tapestry/cells.Runs -/
noncomputable def P14 (fu : Nat) (a0 : Sl Value) (a1 : Sl Value) : Option (Bool) :=
  match a0 with
  | ⟨a0_l, a0_x⟩ =>
    match a1 with
    | ⟨a1_l, a1_x⟩ =>
      (P36 fu (Sl.mk a0_l a0_x) (Sl.mk a1_l a1_x) (P32 fu)).bind fun r1 =>
        some (!r1)
/-- tapestry/tapestryref01.Same -/
noncomputable def P33_s0 (fu : Nat) (p33 : Value → Value → Option (Bool)) (a0_L_l : List Value) (a1_L_l : List Value) : Int → Option (Int ⊕ (Int ⊕ Int))
  | i13 =>
    bif decide (i13 < (ln a0_L_l)) then
      (idx a0_L_l i13).bind fun ⟨x17_Kind, x17_N, x17_S, ⟨x17_L_l, x17_L_x⟩, ⟨x17_F_l, x17_F_x⟩, x17_Elem, x17_Key, x17_HasKey⟩ =>
        (idx a1_L_l i13).bind fun ⟨x19_Kind, x19_N, x19_S, ⟨x19_L_l, x19_L_x⟩, ⟨x19_F_l, x19_F_x⟩, x19_Elem, x19_Key, x19_HasKey⟩ =>
          (p33 (Value.mk x17_Kind x17_N x17_S (Sl.mk x17_L_l x17_L_x) (Sl.mk x17_F_l x17_F_x) x17_Elem x17_Key x17_HasKey) (Value.mk x19_Kind x19_N x19_S (Sl.mk x19_L_l x19_L_x) (Sl.mk x19_F_l x19_F_x) x19_Elem x19_Key x19_HasKey)).bind fun r21 =>
            bif !r21 then
              some (.inr (.inr i13))
            else
              some (.inl (w64 (i13 + 1)))
    else
      some (.inr (.inl i13))
noncomputable def Pb33 (fu : Nat) (p33 : Value → Value → Option (Bool)) (p56 : (Sl Field) → (Sl Field) → Option (Bool)) (a0 : Value) (a1 : Value) : Option (Bool) :=
  match a0 with
  | ⟨a0_Kind, a0_N, a0_S, ⟨a0_L_l, a0_L_x⟩, ⟨a0_F_l, a0_F_x⟩, a0_Elem, a0_Key, a0_HasKey⟩ =>
    match a1 with
    | ⟨a1_Kind, a1_N, a1_S, ⟨a1_L_l, a1_L_x⟩, ⟨a1_F_l, a1_F_x⟩, a1_Elem, a1_Key, a1_HasKey⟩ =>
      (
        bif !(!(a0_Kind == a1_Kind)) then
          bif !(!(a0_N == a1_N)) then
            bif !(!(seq a0_S a1_S)) then
              bif !(!(a0_Elem == a1_Elem)) then
                bif !(!(seq a0_Key a1_Key)) then
                  bif !(!(a0_HasKey == a1_HasKey)) then
                    some (!((ln a0_L_l) == (ln a1_L_l)))
                  else
                    some true
                else
                  some true
              else
                some true
            else
              some true
          else
            some true
        else
          some true
      ).bind fun (q : Bool) =>
        match q with
        | i11 =>
          bif i11 then
            some false
          else
            (wl (P33_s0 fu p33 a0_L_l a1_L_l) 0).bind fun q =>
              match q with
              | .inl o25 =>
                (p56 (Sl.mk a0_F_l a0_F_x) (Sl.mk a1_F_l a1_F_x)).bind fun r26 =>
                  some r26
              | .inr o28 =>
                some false
/-- tapestry/tapestryref01.sameFields -/
noncomputable def P56_s0 (fu : Nat) (p33 : Value → Value → Option (Bool)) (a0_l : List Field) (a1_l : List Field) : Int → Option (Int ⊕ (Int ⊕ Int))
  | i6 =>
    bif decide (i6 < (ln a0_l)) then
      (
        (idx a0_l i6).bind fun ⟨x10_Name, ⟨x10_Value__Kind, x10_Value__N, x10_Value__S, ⟨x10_Value__L_l, x10_Value__L_x⟩, ⟨x10_Value__F_l, x10_Value__F_x⟩, x10_Value__Elem, x10_Value__Key, x10_Value__HasKey⟩⟩ =>
          (idx a1_l i6).bind fun ⟨x12_Name, ⟨x12_Value__Kind, x12_Value__N, x12_Value__S, ⟨x12_Value__L_l, x12_Value__L_x⟩, ⟨x12_Value__F_l, x12_Value__F_x⟩, x12_Value__Elem, x12_Value__Key, x12_Value__HasKey⟩⟩ =>
            bif !(!(seq x10_Name x12_Name)) then
              (idx a0_l i6).bind fun ⟨x15_Name, ⟨x15_Value__Kind, x15_Value__N, x15_Value__S, ⟨x15_Value__L_l, x15_Value__L_x⟩, ⟨x15_Value__F_l, x15_Value__F_x⟩, x15_Value__Elem, x15_Value__Key, x15_Value__HasKey⟩⟩ =>
                (idx a1_l i6).bind fun ⟨x17_Name, ⟨x17_Value__Kind, x17_Value__N, x17_Value__S, ⟨x17_Value__L_l, x17_Value__L_x⟩, ⟨x17_Value__F_l, x17_Value__F_x⟩, x17_Value__Elem, x17_Value__Key, x17_Value__HasKey⟩⟩ =>
                  (p33 (Value.mk x15_Value__Kind x15_Value__N x15_Value__S (Sl.mk x15_Value__L_l x15_Value__L_x) (Sl.mk x15_Value__F_l x15_Value__F_x) x15_Value__Elem x15_Value__Key x15_Value__HasKey) (Value.mk x17_Value__Kind x17_Value__N x17_Value__S (Sl.mk x17_Value__L_l x17_Value__L_x) (Sl.mk x17_Value__F_l x17_Value__F_x) x17_Value__Elem x17_Value__Key x17_Value__HasKey)).bind fun r19 =>
                    some (!r19)
            else
              some true
      ).bind fun (q : Bool) =>
        match q with
        | i21 =>
          bif i21 then
            some (.inr (.inr i6))
          else
            some (.inl (w64 (i6 + 1)))
    else
      some (.inr (.inl i6))
noncomputable def Pb56 (fu : Nat) (p33 : Value → Value → Option (Bool)) (p56 : (Sl Field) → (Sl Field) → Option (Bool)) (a0 : Sl Field) (a1 : Sl Field) : Option (Bool) :=
  match a0 with
  | ⟨a0_l, a0_x⟩ =>
    match a1 with
    | ⟨a1_l, a1_x⟩ =>
      bif !((ln a0_l) == (ln a1_l)) then
        some false
      else
        (wl (P56_s0 fu p33 a0_l a1_l) 0).bind fun q =>
          match q with
          | .inl o25 =>
            some true
          | .inr o26 =>
            some false
mutual
noncomputable def P33 : Nat → Value → Value → Option (Bool)
  | 0 => fun _ _ => none
  | fu + 1 => fun a0 a1 => Pb33 fu (P33 fu) (P56 fu) a0 a1
noncomputable def P56 : Nat → (Sl Field) → (Sl Field) → Option (Bool)
  | 0 => fun _ _ => none
  | fu + 1 => fun a0 a1 => Pb56 fu (P33 fu) (P56 fu) a0 a1
end
/-- tapestry/tapestryref13.Runs -/
noncomputable def P15_s0 (fu : Nat) (a0_l : List Value) (a1_l : List Value) : (Bool × Int) → Option ((Bool × Int) ⊕ ((Bool × Int) ⊕ (Bool × Int)))
  | (i6, i7) =>
    bif decide (i7 < (ln a0_l)) then
      (idx a0_l i7).bind fun ⟨x11_Kind, x11_N, x11_S, ⟨x11_L_l, x11_L_x⟩, ⟨x11_F_l, x11_F_x⟩, x11_Elem, x11_Key, x11_HasKey⟩ =>
        (idx a1_l i7).bind fun ⟨x13_Kind, x13_N, x13_S, ⟨x13_L_l, x13_L_x⟩, ⟨x13_F_l, x13_F_x⟩, x13_Elem, x13_Key, x13_HasKey⟩ =>
          (P33 fu (Value.mk x11_Kind x11_N x11_S (Sl.mk x11_L_l x11_L_x) (Sl.mk x11_F_l x11_F_x) x11_Elem x11_Key x11_HasKey) (Value.mk x13_Kind x13_N x13_S (Sl.mk x13_L_l x13_L_x) (Sl.mk x13_F_l x13_F_x) x13_Elem x13_Key x13_HasKey)).bind fun r15 =>
            bif !r15 then
              some (.inr (.inr (true, i7)))
            else
              some (.inl (i6, w64 (i7 + 1)))
    else
      some (.inr (.inl (i6, i7)))
noncomputable def P15 (fu : Nat) (a0 : Sl Value) (a1 : Sl Value) : Option (Bool) :=
  match a0 with
  | ⟨a0_l, a0_x⟩ =>
    match a1 with
    | ⟨a1_l, a1_x⟩ =>
      bif !((ln a0_l) == (ln a1_l)) then
        some true
      else
        (wl (P15_s0 fu a0_l a1_l) (false, 0)).bind fun q =>
          match q with
          | .inl (o19, o20) =>
            some false
          | .inr (o21, o22) =>
            some o21
/-- tapestry/tapestrylaw01.LeftValues -/
noncomputable def P16_s0 (fu : Nat) (p37 : Value → Value → Option (Bool)) (a0_l : List Value) (a1_l : List Value) : Int → Option (Int ⊕ (Int ⊕ Int))
  | i19 =>
    bif decide (i19 < (ln a1_l)) then
      (idx a0_l i19).bind fun ⟨x23_Kind, x23_N, x23_S, ⟨x23_L_l, x23_L_x⟩, ⟨x23_F_l, x23_F_x⟩, x23_Elem, x23_Key, x23_HasKey⟩ =>
        (idx a1_l i19).bind fun ⟨x25_Kind, x25_N, x25_S, ⟨x25_L_l, x25_L_x⟩, ⟨x25_F_l, x25_F_x⟩, x25_Elem, x25_Key, x25_HasKey⟩ =>
          (p37 (Value.mk x23_Kind x23_N x23_S (Sl.mk x23_L_l x23_L_x) (Sl.mk x23_F_l x23_F_x) x23_Elem x23_Key x23_HasKey) (Value.mk x25_Kind x25_N x25_S (Sl.mk x25_L_l x25_L_x) (Sl.mk x25_F_l x25_F_x) x25_Elem x25_Key x25_HasKey)).bind fun r27 =>
            bif !r27 then
              some (.inr (.inr i19))
            else
              some (.inl (w64 (i19 + 1)))
    else
      some (.inr (.inl i19))
noncomputable def Pb16 (fu : Nat) (p16 : (Sl Value) → (Sl Value) → Option (Bool)) (p37 : Value → Value → Option (Bool)) (p58 : (Sl Field) → (Sl Field) → Option (Bool)) (p75 : Field → Field → Option (Bool)) (a0 : Sl Value) (a1 : Sl Value) : Option (Bool) :=
  match a0 with
  | ⟨a0_l, none⟩ =>
    match a1 with
    | ⟨a1_l, a1_x⟩ =>
      bif !(!((ln a0_l) == (ln a1_l))) then none else
        some false
  | ⟨a0_l, some a0_h⟩ =>
    match a1 with
    | ⟨a1_l, a1_x⟩ =>
      (
        bif !(!((ln a0_l) == (ln a1_l))) then
          some (decide ((ln (a0_l ++ a0_h)) ≤ (ln a1_l)))
        else
          some true
      ).bind fun (q : Bool) =>
        match q with
        | i17 =>
          bif i17 then
            some false
          else
            (wl (P16_s0 fu p37 a0_l a1_l) 0).bind fun q =>
              match q with
              | .inl o31 =>
                bif decide (0 ≤ 0) then
                  bif decide (0 ≤ w64 ((ln a1_l) + 1)) then
                    bif decide (w64 ((ln a1_l) + 1) ≤ ln (a0_l ++ a0_h)) then
                      (idx (cut (a0_l ++ a0_h) 0 (w64 ((ln a1_l) + 1))) (ln a1_l)).bind fun ⟨x49_Kind, x49_N, x49_S, ⟨x49_L_l, x49_L_x⟩, ⟨x49_F_l, x49_F_x⟩, x49_Elem, x49_Key, x49_HasKey⟩ =>
                        some (seq x49_S (⟨#[115, 112, 97, 114, 101]⟩ : ByteArray))
                    else none
                  else none
                else none
              | .inr o51 =>
                some false
/-- tapestry/tapestrylaw01.LeftValue -/
noncomputable def Pb37 (fu : Nat) (p16 : (Sl Value) → (Sl Value) → Option (Bool)) (p37 : Value → Value → Option (Bool)) (p58 : (Sl Field) → (Sl Field) → Option (Bool)) (p75 : Field → Field → Option (Bool)) (a0 : Value) (a1 : Value) : Option (Bool) :=
  match a0 with
  | ⟨a0_Kind, a0_N, a0_S, ⟨a0_L_l, a0_L_x⟩, ⟨a0_F_l, a0_F_x⟩, a0_Elem, a0_Key, a0_HasKey⟩ =>
    match a1 with
    | ⟨a1_Kind, a1_N, a1_S, ⟨a1_L_l, a1_L_x⟩, ⟨a1_F_l, a1_F_x⟩, a1_Elem, a1_Key, a1_HasKey⟩ =>
      (
        bif a0_Kind == a1_Kind then
          bif a0_N == a1_N then
            bif seq a0_S a1_S then
              (p16 (Sl.mk a0_L_l a0_L_x) (Sl.mk a1_L_l a1_L_x)).bind fun r4 =>
                bif r4 then
                  (p58 (Sl.mk a0_F_l a0_F_x) (Sl.mk a1_F_l a1_F_x)).bind fun r7 =>
                    bif r7 then
                      bif a0_Elem == a1_Elem then
                        bif seq a0_Key a1_Key then
                          some (a0_HasKey == a1_HasKey)
                        else
                          some false
                      else
                        some false
                    else
                      some false
                else
                  some false
            else
              some false
          else
            some false
        else
          some false
      ).bind fun (q : Bool) =>
        match q with
        | i12 =>
          some i12
/-- tapestry/tapestrylaw01.LeftFields -/
noncomputable def P58_s0 (fu : Nat) (p75 : Field → Field → Option (Bool)) (a0_l : List Field) (a1_l : List Field) : Int → Option (Int ⊕ (Int ⊕ Int))
  | i19 =>
    bif decide (i19 < (ln a1_l)) then
      (idx a0_l i19).bind fun ⟨x23_Name, ⟨x23_Value__Kind, x23_Value__N, x23_Value__S, ⟨x23_Value__L_l, x23_Value__L_x⟩, ⟨x23_Value__F_l, x23_Value__F_x⟩, x23_Value__Elem, x23_Value__Key, x23_Value__HasKey⟩⟩ =>
        (idx a1_l i19).bind fun ⟨x25_Name, ⟨x25_Value__Kind, x25_Value__N, x25_Value__S, ⟨x25_Value__L_l, x25_Value__L_x⟩, ⟨x25_Value__F_l, x25_Value__F_x⟩, x25_Value__Elem, x25_Value__Key, x25_Value__HasKey⟩⟩ =>
          (p75 (Field.mk x23_Name (Value.mk x23_Value__Kind x23_Value__N x23_Value__S (Sl.mk x23_Value__L_l x23_Value__L_x) (Sl.mk x23_Value__F_l x23_Value__F_x) x23_Value__Elem x23_Value__Key x23_Value__HasKey)) (Field.mk x25_Name (Value.mk x25_Value__Kind x25_Value__N x25_Value__S (Sl.mk x25_Value__L_l x25_Value__L_x) (Sl.mk x25_Value__F_l x25_Value__F_x) x25_Value__Elem x25_Value__Key x25_Value__HasKey))).bind fun r27 =>
            bif !r27 then
              some (.inr (.inr i19))
            else
              some (.inl (w64 (i19 + 1)))
    else
      some (.inr (.inl i19))
noncomputable def Pb58 (fu : Nat) (p16 : (Sl Value) → (Sl Value) → Option (Bool)) (p37 : Value → Value → Option (Bool)) (p58 : (Sl Field) → (Sl Field) → Option (Bool)) (p75 : Field → Field → Option (Bool)) (a0 : Sl Field) (a1 : Sl Field) : Option (Bool) :=
  match a0 with
  | ⟨a0_l, none⟩ =>
    match a1 with
    | ⟨a1_l, a1_x⟩ =>
      bif !(!((ln a0_l) == (ln a1_l))) then none else
        some false
  | ⟨a0_l, some a0_h⟩ =>
    match a1 with
    | ⟨a1_l, a1_x⟩ =>
      (
        bif !(!((ln a0_l) == (ln a1_l))) then
          some (decide ((ln (a0_l ++ a0_h)) ≤ (ln a1_l)))
        else
          some true
      ).bind fun (q : Bool) =>
        match q with
        | i17 =>
          bif i17 then
            some false
          else
            (wl (P58_s0 fu p75 a0_l a1_l) 0).bind fun q =>
              match q with
              | .inl o31 =>
                bif decide (0 ≤ 0) then
                  bif decide (0 ≤ w64 ((ln a1_l) + 1)) then
                    bif decide (w64 ((ln a1_l) + 1) ≤ ln (a0_l ++ a0_h)) then
                      (idx (cut (a0_l ++ a0_h) 0 (w64 ((ln a1_l) + 1))) (ln a1_l)).bind fun ⟨x49_Name, ⟨x49_Value__Kind, x49_Value__N, x49_Value__S, ⟨x49_Value__L_l, x49_Value__L_x⟩, ⟨x49_Value__F_l, x49_Value__F_x⟩, x49_Value__Elem, x49_Value__Key, x49_Value__HasKey⟩⟩ =>
                        some (seq x49_Name (⟨#[115, 112, 97, 114, 101]⟩ : ByteArray))
                    else none
                  else none
                else none
              | .inr o51 =>
                some false
/-- tapestry/tapestrylaw01.LeftField -/
noncomputable def Pb75 (fu : Nat) (p16 : (Sl Value) → (Sl Value) → Option (Bool)) (p37 : Value → Value → Option (Bool)) (p58 : (Sl Field) → (Sl Field) → Option (Bool)) (p75 : Field → Field → Option (Bool)) (a0 : Field) (a1 : Field) : Option (Bool) :=
  match a0 with
  | ⟨a0_Name, ⟨a0_Value__Kind, a0_Value__N, a0_Value__S, ⟨a0_Value__L_l, a0_Value__L_x⟩, ⟨a0_Value__F_l, a0_Value__F_x⟩, a0_Value__Elem, a0_Value__Key, a0_Value__HasKey⟩⟩ =>
    match a1 with
    | ⟨a1_Name, ⟨a1_Value__Kind, a1_Value__N, a1_Value__S, ⟨a1_Value__L_l, a1_Value__L_x⟩, ⟨a1_Value__F_l, a1_Value__F_x⟩, a1_Value__Elem, a1_Value__Key, a1_Value__HasKey⟩⟩ =>
      (
        bif seq a0_Name a1_Name then
          (p37 (Value.mk a0_Value__Kind a0_Value__N a0_Value__S (Sl.mk a0_Value__L_l a0_Value__L_x) (Sl.mk a0_Value__F_l a0_Value__F_x) a0_Value__Elem a0_Value__Key a0_Value__HasKey) (Value.mk a1_Value__Kind a1_Value__N a1_Value__S (Sl.mk a1_Value__L_l a1_Value__L_x) (Sl.mk a1_Value__F_l a1_Value__F_x) a1_Value__Elem a1_Value__Key a1_Value__HasKey)).bind fun r2 =>
            some r2
        else
          some false
      ).bind fun (q : Bool) =>
        match q with
        | i4 =>
          some i4
mutual
noncomputable def P16 : Nat → (Sl Value) → (Sl Value) → Option (Bool)
  | 0 => fun _ _ => none
  | fu + 1 => fun a0 a1 => Pb16 fu (P16 fu) (P37 fu) (P58 fu) (P75 fu) a0 a1
noncomputable def P37 : Nat → Value → Value → Option (Bool)
  | 0 => fun _ _ => none
  | fu + 1 => fun a0 a1 => Pb37 fu (P16 fu) (P37 fu) (P58 fu) (P75 fu) a0 a1
noncomputable def P58 : Nat → (Sl Field) → (Sl Field) → Option (Bool)
  | 0 => fun _ _ => none
  | fu + 1 => fun a0 a1 => Pb58 fu (P16 fu) (P37 fu) (P58 fu) (P75 fu) a0 a1
noncomputable def P75 : Nat → Field → Field → Option (Bool)
  | 0 => fun _ _ => none
  | fu + 1 => fun a0 a1 => Pb75 fu (P16 fu) (P37 fu) (P58 fu) (P75 fu) a0 a1
end
/-- tapestry/tapestrylaw13.lives -/
noncomputable def P17 (fu : Nat) : Option (Bool) :=
  some true
/-- tapestry/tapestrylaw13.CellsRun -/
noncomputable def P5 (fu : Nat) (a0 : Sl Value) (a1 : Sl Value) : Option (Bool) :=
  match a0 with
  | ⟨a0_l, a0_x⟩ =>
    match a1 with
    | ⟨a1_l, a1_x⟩ =>
      (P13 fu (Sl.mk a0_l a0_x)).bind fun ⟨r1_l, r1_x⟩ =>
        (P13 fu (Sl.mk a1_l a1_x)).bind fun ⟨r3_l, r3_x⟩ =>
          (
            (P14 fu (Sl.mk r1_l r1_x) (Sl.mk r3_l r3_x)).bind fun r5 =>
              (P15 fu (Sl.mk a0_l a0_x) (Sl.mk a1_l a1_x)).bind fun r7 =>
                bif r5 == r7 then
                  (P16 fu (Sl.mk r1_l r1_x) (Sl.mk a0_l a0_x)).bind fun r10 =>
                    bif r10 then
                      (P16 fu (Sl.mk r3_l r3_x) (Sl.mk a1_l a1_x)).bind fun r13 =>
                        bif r13 then
                          (P17 fu).bind fun r16 =>
                            some r16
                        else
                          some false
                    else
                      some false
                else
                  some false
          ).bind fun (q : Bool) =>
            match q with
            | i18 =>
              some i18
end Go.Proofs.Ytipkggkbldgmjaa
