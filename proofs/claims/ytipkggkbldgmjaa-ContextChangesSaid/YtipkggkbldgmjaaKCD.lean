/- Functions on plain data: printed by a small program. -/
import Derived.Test.YtipkggkbldgmjaaKCE
namespace Go.Proofs.Ytipkggkbldgmjaa
open Go Go.X
set_option linter.unusedVariables false
set_option linter.unusedSimpArgs false
set_option maxRecDepth 100000
/-- slices.Clone[[]tapestry/api.Value,tapestry/api.Value] -/
noncomputable def P69 (fu : Nat) (a0 : Sl Value) : Option ((List Value)) :=
  match a0 with
  | ⟨a0_l, a0_x⟩ =>
    bif ln a0_l == 0 then
      agree (
        some ([] : List Value)
      ) (
        (
          bif ln a0_l == 0 then
            some ([] : List Value)
          else
            bif room 112 (ln (([] : List Value) ++ a0_l)) then
              some (([] : List Value) ++ a0_l)
            else none
        ).bind fun (q : (List Value)) =>
          match q with
          | l14 =>
            some l14
      )
    else
      (
        bif ln a0_l == 0 then
          some ([] : List Value)
        else
          bif room 112 (ln (([] : List Value) ++ a0_l)) then
            some (([] : List Value) ++ a0_l)
          else none
      ).bind fun (q : (List Value)) =>
        match q with
        | l26 =>
          some l26
/-- slices.Clone[[]tapestry/api.Field,tapestry/api.Field] -/
noncomputable def P48 (fu : Nat) (a0 : Sl Field) : Option ((List Field)) :=
  match a0 with
  | ⟨a0_l, a0_x⟩ =>
    bif ln a0_l == 0 then
      agree (
        some ([] : List Field)
      ) (
        (
          bif ln a0_l == 0 then
            some ([] : List Field)
          else
            bif room 128 (ln (([] : List Field) ++ a0_l)) then
              some (([] : List Field) ++ a0_l)
            else none
        ).bind fun (q : (List Field)) =>
          match q with
          | l14 =>
            some l14
      )
    else
      (
        bif ln a0_l == 0 then
          some ([] : List Field)
        else
          bif room 128 (ln (([] : List Field) ++ a0_l)) then
            some (([] : List Field) ++ a0_l)
          else none
      ).bind fun (q : (List Field)) =>
        match q with
        | l26 =>
          some l26
/-- slices.Clip[[]tapestry/api.Value,tapestry/api.Value] -/
noncomputable def P70 (fu : Nat) (a0 : Sl Value) : Option ((Sl Value)) :=
  match a0 with
  | ⟨a0_l, a0_x⟩ =>
    bif decide (0 ≤ 0) then
      bif decide (0 ≤ ln a0_l) then
        bif decide (ln a0_l ≤ ln a0_l) then
          bif decide (ln a0_l ≤ ln a0_l) then
            some (Sl.mk (cut a0_l 0 (ln a0_l)) (some (cut a0_l (ln a0_l) (ln a0_l))))
          else none
        else none
      else none
    else none
/-- slices.Clip[[]tapestry/api.Field,tapestry/api.Field] -/
noncomputable def P49 (fu : Nat) (a0 : Sl Field) : Option ((Sl Field)) :=
  match a0 with
  | ⟨a0_l, a0_x⟩ =>
    bif decide (0 ≤ 0) then
      bif decide (0 ≤ ln a0_l) then
        bif decide (ln a0_l ≤ ln a0_l) then
          bif decide (ln a0_l ≤ ln a0_l) then
            some (Sl.mk (cut a0_l 0 (ln a0_l)) (some (cut a0_l (ln a0_l) (ln a0_l))))
          else none
        else none
      else none
    else none
/-- tapestry/twin.Fields -/
noncomputable def P24_s0 (fu : Nat) (p26 : Value → Option (Value)) (r2 : List Field) : ((List Field) × Int) → Option (((List Field) × Int) ⊕ (((List Field) × Int)))
  | (l5, i6) =>
    bif decide (i6 < (ln r2)) then
      (idx l5 i6).bind fun ⟨x8_Name, ⟨x8_Value__Kind, x8_Value__N, x8_Value__S, ⟨x8_Value__L_l, x8_Value__L_x⟩, ⟨x8_Value__F_l, x8_Value__F_x⟩, x8_Value__Elem, x8_Value__Key, x8_Value__HasKey⟩⟩ =>
        (p26 (Value.mk x8_Value__Kind x8_Value__N x8_Value__S (Sl.mk x8_Value__L_l x8_Value__L_x) (Sl.mk x8_Value__F_l x8_Value__F_x) x8_Value__Elem x8_Value__Key x8_Value__HasKey)).bind fun ⟨r10_Kind, r10_N, r10_S, ⟨r10_L_l, r10_L_x⟩, ⟨r10_F_l, r10_F_x⟩, r10_Elem, r10_Key, r10_HasKey⟩ =>
          (idx l5 i6).bind fun ⟨x12_Name, ⟨x12_Value__Kind, x12_Value__N, x12_Value__S, ⟨x12_Value__L_l, x12_Value__L_x⟩, ⟨x12_Value__F_l, x12_Value__F_x⟩, x12_Value__Elem, x12_Value__Key, x12_Value__HasKey⟩⟩ =>
            some (.inl ((List.set l5 (Int.toNat i6) (Field.mk x12_Name (Value.mk r10_Kind r10_N r10_S (Sl.mk r10_L_l r10_L_x) (Sl.mk r10_F_l r10_F_x) r10_Elem r10_Key r10_HasKey))), w64 (i6 + 1)))
    else
      some (.inr (l5, i6))
noncomputable def Pb24 (fu : Nat) (p24 : (Sl Field) → Option ((Sl Field))) (p26 : Value → Option (Value)) (p50 : (Sl Value) → Option ((Sl Value))) (a0 : Sl Field) : Option ((Sl Field)) :=
  match a0 with
  | ⟨a0_l, a0_x⟩ =>
    (P48 fu (Sl.mk a0_l a0_x)).bind fun r2 =>
      (wl (P24_s0 fu p26 r2) (r2, 0)).bind fun q =>
        match q with
        | (o18, o19) =>
          (P49 fu (Sl.mk o18 none)).bind fun ⟨r20_l, r20_x⟩ =>
            some (Sl.mk r20_l r20_x)
/-- tapestry/twin.Value -/
noncomputable def Pb26 (fu : Nat) (p24 : (Sl Field) → Option ((Sl Field))) (p26 : Value → Option (Value)) (p50 : (Sl Value) → Option ((Sl Value))) (a0 : Value) : Option (Value) :=
  match a0 with
  | ⟨a0_Kind, a0_N, a0_S, ⟨a0_L_l, a0_L_x⟩, ⟨a0_F_l, a0_F_x⟩, a0_Elem, a0_Key, a0_HasKey⟩ =>
    (p50 (Sl.mk a0_L_l a0_L_x)).bind fun ⟨r1_l, r1_x⟩ =>
      (p24 (Sl.mk a0_F_l a0_F_x)).bind fun ⟨r3_l, r3_x⟩ =>
        some (Value.mk a0_Kind a0_N a0_S (Sl.mk r1_l r1_x) (Sl.mk r3_l r3_x) a0_Elem a0_Key a0_HasKey)
/-- tapestry/twin.Values -/
noncomputable def P50_s0 (fu : Nat) (p26 : Value → Option (Value)) (r2 : List Value) : ((List Value) × Int) → Option (((List Value) × Int) ⊕ (((List Value) × Int)))
  | (l5, i6) =>
    bif decide (i6 < (ln r2)) then
      (idx l5 i6).bind fun ⟨x8_Kind, x8_N, x8_S, ⟨x8_L_l, x8_L_x⟩, ⟨x8_F_l, x8_F_x⟩, x8_Elem, x8_Key, x8_HasKey⟩ =>
        (p26 (Value.mk x8_Kind x8_N x8_S (Sl.mk x8_L_l x8_L_x) (Sl.mk x8_F_l x8_F_x) x8_Elem x8_Key x8_HasKey)).bind fun ⟨r10_Kind, r10_N, r10_S, ⟨r10_L_l, r10_L_x⟩, ⟨r10_F_l, r10_F_x⟩, r10_Elem, r10_Key, r10_HasKey⟩ =>
          (idx l5 i6).bind fun ⟨x12_Kind, x12_N, x12_S, ⟨x12_L_l, x12_L_x⟩, ⟨x12_F_l, x12_F_x⟩, x12_Elem, x12_Key, x12_HasKey⟩ =>
            some (.inl ((List.set l5 (Int.toNat i6) (Value.mk r10_Kind r10_N r10_S (Sl.mk r10_L_l r10_L_x) (Sl.mk r10_F_l r10_F_x) r10_Elem r10_Key r10_HasKey)), w64 (i6 + 1)))
    else
      some (.inr (l5, i6))
noncomputable def Pb50 (fu : Nat) (p24 : (Sl Field) → Option ((Sl Field))) (p26 : Value → Option (Value)) (p50 : (Sl Value) → Option ((Sl Value))) (a0 : Sl Value) : Option ((Sl Value)) :=
  match a0 with
  | ⟨a0_l, a0_x⟩ =>
    (P69 fu (Sl.mk a0_l a0_x)).bind fun r2 =>
      (wl (P50_s0 fu p26 r2) (r2, 0)).bind fun q =>
        match q with
        | (o18, o19) =>
          (P70 fu (Sl.mk o18 none)).bind fun ⟨r20_l, r20_x⟩ =>
            some (Sl.mk r20_l r20_x)
mutual
noncomputable def P24 : Nat → (Sl Field) → Option ((Sl Field))
  | 0 => fun _ => none
  | fu + 1 => fun a0 => Pb24 fu (P24 fu) (P26 fu) (P50 fu) a0
noncomputable def P26 : Nat → Value → Option (Value)
  | 0 => fun _ => none
  | fu + 1 => fun a0 => Pb26 fu (P24 fu) (P26 fu) (P50 fu) a0
noncomputable def P50 : Nat → (Sl Value) → Option ((Sl Value))
  | 0 => fun _ => none
  | fu + 1 => fun a0 => Pb50 fu (P24 fu) (P26 fu) (P50 fu) a0
end
/-- a round of tapestry/context.Get -/
noncomputable def P117x1 (fu : Nat) (a1 : Value) (b0 : Option X.Ex) (b1 : Value) : Option (Bool × (Option X.Ex) × Value) :=
  match a1 with
  | ⟨a1_Kind, a1_N, a1_S, ⟨a1_L_l, a1_L_x⟩, ⟨a1_F_l, a1_F_x⟩, a1_Elem, a1_Key, a1_HasKey⟩ =>
    match b1 with
    | ⟨b1_Kind, b1_N, b1_S, ⟨b1_L_l, b1_L_x⟩, ⟨b1_F_l, b1_F_x⟩, b1_Elem, b1_Key, b1_HasKey⟩ =>
      match b0 with
      | none =>
        (P26 fu (Value.mk a1_Kind a1_N a1_S (Sl.mk a1_L_l a1_L_x) (Sl.mk a1_F_l a1_F_x) a1_Elem a1_Key a1_HasKey)).bind fun ⟨r1_Kind, r1_N, r1_S, ⟨r1_L_l, r1_L_x⟩, ⟨r1_F_l, r1_F_x⟩, r1_Elem, r1_Key, r1_HasKey⟩ =>
          some (false, (some .ret), (Value.mk r1_Kind r1_N r1_S (Sl.mk r1_L_l r1_L_x) (Sl.mk r1_F_l r1_F_x) r1_Elem r1_Key r1_HasKey))
      | some _ => none
/-- a round of tapestry/context.behind$1 -/
noncomputable def P118x1 (fu : Nat) (a1 : Int) (a2 : Field) (d0 : ByteArray) (b0 : Option X.Ex) (b2 : Option X.Ex) (b3 : Value) : Option (Bool × (Option X.Ex) × (Option X.Ex) × Value) :=
  match a2 with
  | ⟨a2_Name, ⟨a2_Value__Kind, a2_Value__N, a2_Value__S, ⟨a2_Value__L_l, a2_Value__L_x⟩, ⟨a2_Value__F_l, a2_Value__F_x⟩, a2_Value__Elem, a2_Value__Key, a2_Value__HasKey⟩⟩ =>
    match b3 with
    | ⟨b3_Kind, b3_N, b3_S, ⟨b3_L_l, b3_L_x⟩, ⟨b3_F_l, b3_F_x⟩, b3_Elem, b3_Key, b3_HasKey⟩ =>
      match b0 with
      | none =>
        (
          bif seq a2_Name d0 then
            match b2 with
            | none =>
              (P117x1 fu (Value.mk a2_Value__Kind a2_Value__N a2_Value__S (Sl.mk a2_Value__L_l a2_Value__L_x) (Sl.mk a2_Value__F_l a2_Value__F_x) a2_Value__Elem a2_Value__Key a2_Value__HasKey) none (Value.mk b3_Kind b3_N b3_S (Sl.mk b3_L_l b3_L_x) (Sl.mk b3_F_l b3_F_x) b3_Elem b3_Key b3_HasKey)).bind fun ⟨r3, wr4, ⟨wr5_Kind, wr5_N, wr5_S, ⟨wr5_L_l, wr5_L_x⟩, ⟨wr5_F_l, wr5_F_x⟩, wr5_Elem, wr5_Key, wr5_HasKey⟩⟩ =>
                some (wr4, wr5_Kind, wr5_N, wr5_S, wr5_L_l, wr5_L_x, wr5_F_l, wr5_F_x, wr5_Elem, wr5_Key, wr5_HasKey, !r3)
            | some _ => none
          else
            some (b2, b3_Kind, b3_N, b3_S, b3_L_l, b3_L_x, b3_F_l, b3_F_x, b3_Elem, b3_Key, b3_HasKey, false)
        ).bind fun (q : (Option X.Ex) × Int × Int × ByteArray × (List Value) × (Option (List Value)) × (List Field) × (Option (List Field)) × Int × ByteArray × Bool × Bool) =>
          match q with
          | (g6, g7_Kind, g7_N, g7_S, g7_L_l, g7_L_x, g7_F_l, g7_F_x, g7_Elem, g7_Key, g7_HasKey, i8) =>
            bif i8 then
              some (false, (some .ret), g6, (Value.mk g7_Kind g7_N g7_S (Sl.mk g7_L_l g7_L_x) (Sl.mk g7_F_l g7_F_x) g7_Elem g7_Key g7_HasKey))
            else
              some (true, none, g6, (Value.mk g7_Kind g7_N g7_S (Sl.mk g7_L_l g7_L_x) (Sl.mk g7_F_l g7_F_x) g7_Elem g7_Key g7_HasKey))
      | some _ => none
/-- slices.Backward[[]tapestry/api.Field,tapestry/api.Field]$1 -/
noncomputable def P71x1_s0 (fu : Nat) (d0 : ByteArray) (a1_l : List Field) : ((Option X.Ex) × (Option X.Ex) × Int × Int × ByteArray × (List Value) × (Option (List Value)) × (List Field) × (Option (List Field)) × Int × ByteArray × Bool × Int) → Option (((Option X.Ex) × (Option X.Ex) × Int × Int × ByteArray × (List Value) × (Option (List Value)) × (List Field) × (Option (List Field)) × Int × ByteArray × Bool × Int) ⊕ (((Option X.Ex) × (Option X.Ex) × Int × Int × ByteArray × (List Value) × (Option (List Value)) × (List Field) × (Option (List Field)) × Int × ByteArray × Bool × Int) ⊕ ((Option X.Ex) × (Option X.Ex) × Int × Int × ByteArray × (List Value) × (Option (List Value)) × (List Field) × (Option (List Field)) × Int × ByteArray × Bool × Int)))
  | (g3, g4, g5_Kind, g5_N, g5_S, g5_L_l, g5_L_x, g5_F_l, g5_F_x, g5_Elem, g5_Key, g5_HasKey, i6) =>
    bif decide (0 ≤ i6) then
      (idx a1_l i6).bind fun ⟨x8_Name, ⟨x8_Value__Kind, x8_Value__N, x8_Value__S, ⟨x8_Value__L_l, x8_Value__L_x⟩, ⟨x8_Value__F_l, x8_Value__F_x⟩, x8_Value__Elem, x8_Value__Key, x8_Value__HasKey⟩⟩ =>
        match g3 with
        | none =>
          (P118x1 fu i6 (Field.mk x8_Name (Value.mk x8_Value__Kind x8_Value__N x8_Value__S (Sl.mk x8_Value__L_l x8_Value__L_x) (Sl.mk x8_Value__F_l x8_Value__F_x) x8_Value__Elem x8_Value__Key x8_Value__HasKey)) d0 none g4 (Value.mk g5_Kind g5_N g5_S (Sl.mk g5_L_l g5_L_x) (Sl.mk g5_F_l g5_F_x) g5_Elem g5_Key g5_HasKey)).bind fun ⟨r11, wr12, wr13, ⟨wr14_Kind, wr14_N, wr14_S, ⟨wr14_L_l, wr14_L_x⟩, ⟨wr14_F_l, wr14_F_x⟩, wr14_Elem, wr14_Key, wr14_HasKey⟩⟩ =>
            bif !r11 then
              some (.inr (.inr (wr12, wr13, wr14_Kind, wr14_N, wr14_S, wr14_L_l, wr14_L_x, wr14_F_l, wr14_F_x, wr14_Elem, wr14_Key, wr14_HasKey, i6)))
            else
              some (.inl (wr12, wr13, wr14_Kind, wr14_N, wr14_S, wr14_L_l, wr14_L_x, wr14_F_l, wr14_F_x, wr14_Elem, wr14_Key, wr14_HasKey, w64 (i6 - 1)))
        | some _ => none
    else
      some (.inr (.inl (g3, g4, g5_Kind, g5_N, g5_S, g5_L_l, g5_L_x, g5_F_l, g5_F_x, g5_Elem, g5_Key, g5_HasKey, i6)))
noncomputable def P71x1 (fu : Nat) (a1 : Sl Field) (d0 : ByteArray) (b0 : Option X.Ex) (b2 : Option X.Ex) (b3 : Value) : Option ((Option X.Ex) × (Option X.Ex) × Value) :=
  match a1 with
  | ⟨a1_l, a1_x⟩ =>
    match b3 with
    | ⟨b3_Kind, b3_N, b3_S, ⟨b3_L_l, b3_L_x⟩, ⟨b3_F_l, b3_F_x⟩, b3_Elem, b3_Key, b3_HasKey⟩ =>
      (wl (P71x1_s0 fu d0 a1_l) (b0, b2, b3_Kind, b3_N, b3_S, b3_L_l, b3_L_x, b3_F_l, b3_F_x, b3_Elem, b3_Key, b3_HasKey, w64 ((ln a1_l) - 1))).bind fun q =>
        match q with
        | .inl (o17, o18, o19, o20, o21, o22, o23, o24, o25, o26, o27, o28, o29) =>
          some (o17, o18, (Value.mk o19 o20 o21 (Sl.mk o22 o23) (Sl.mk o24 o25) o26 o27 o28))
        | .inr (o30, o31, o32, o33, o34, o35, o36, o37, o38, o39, o40, o41, o42) =>
          some (o30, o31, (Value.mk o32 o33 o34 (Sl.mk o35 o36) (Sl.mk o37 o38) o39 o40 o41))
/-- tapestry/context.behind$1 -/
noncomputable def P52x1 (fu : Nat) (a1 : Sl Field) (a2 : ByteArray) (b0 : Option X.Ex) (b1 : Value) : Option ((Option X.Ex) × Value) :=
  match a1 with
  | ⟨a1_l, a1_x⟩ =>
    match b1 with
    | ⟨b1_Kind, b1_N, b1_S, ⟨b1_L_l, b1_L_x⟩, ⟨b1_F_l, b1_F_x⟩, b1_Elem, b1_Key, b1_HasKey⟩ =>
      (P71x1 fu (Sl.mk a1_l a1_x) a2 none b0 (Value.mk b1_Kind b1_N b1_S (Sl.mk b1_L_l b1_L_x) (Sl.mk b1_F_l b1_F_x) b1_Elem b1_Key b1_HasKey)).bind fun ⟨wr2, wr3, ⟨wr4_Kind, wr4_N, wr4_S, ⟨wr4_L_l, wr4_L_x⟩, ⟨wr4_F_l, wr4_F_x⟩, wr4_Elem, wr4_Key, wr4_HasKey⟩⟩ =>
        match wr2 with
        | none =>
          some (wr3, (Value.mk wr4_Kind wr4_N wr4_S (Sl.mk wr4_L_l wr4_L_x) (Sl.mk wr4_F_l wr4_F_x) wr4_Elem wr4_Key wr4_HasKey))
        | some .ret =>
          some (wr3, (Value.mk wr4_Kind wr4_N wr4_S (Sl.mk wr4_L_l wr4_L_x) (Sl.mk wr4_F_l wr4_F_x) wr4_Elem wr4_Key wr4_HasKey))
        | _ => none
/-- tapestry/context.Get -/
noncomputable def P9 (fu : Nat) (a0 : Sl Field) (a1 : ByteArray) : Option (Value) :=
  match a0 with
  | ⟨a0_l, a0_x⟩ =>
    (P52x1 fu (Sl.mk a0_l a0_x) a1 none (Value.mk 0 0 ByteArray.empty (Sl.mk [] (some [])) (Sl.mk [] (some [])) 0 ByteArray.empty false)).bind fun ⟨wr2, ⟨wr3_Kind, wr3_N, wr3_S, ⟨wr3_L_l, wr3_L_x⟩, ⟨wr3_F_l, wr3_F_x⟩, wr3_Elem, wr3_Key, wr3_HasKey⟩⟩ =>
      match wr2 with
      | none =>
        some (Value.mk 0 0 ByteArray.empty (Sl.mk [] (some [])) (Sl.mk [] (some [])) 0 ByteArray.empty false)
      | some .ret =>
        some (Value.mk wr3_Kind wr3_N wr3_S (Sl.mk wr3_L_l wr3_L_x) (Sl.mk wr3_F_l wr3_F_x) wr3_Elem wr3_Key wr3_HasKey)
      | _ => none
/-- slices.EqualFunc[[]tapestry/api.Value,[]tapestry/api.Value,tapestry/api.Value,tapestry/api.Value] -/
noncomputable def P36_s0 (fu : Nat) (a2 : (Value → Value → Option (Bool))) (a0_l : List Value) (a1_l : List Value) : Int → Option (Int ⊕ (Int ⊕ Int))
  | i8 =>
    bif decide (i8 < (ln a0_l)) then
      (idx a0_l i8).bind fun ⟨x10_Kind, x10_N, x10_S, ⟨x10_L_l, x10_L_x⟩, ⟨x10_F_l, x10_F_x⟩, x10_Elem, x10_Key, x10_HasKey⟩ =>
        (idx a1_l i8).bind fun ⟨x12_Kind, x12_N, x12_S, ⟨x12_L_l, x12_L_x⟩, ⟨x12_F_l, x12_F_x⟩, x12_Elem, x12_Key, x12_HasKey⟩ =>
          (a2 (Value.mk x10_Kind x10_N x10_S (Sl.mk x10_L_l x10_L_x) (Sl.mk x10_F_l x10_F_x) x10_Elem x10_Key x10_HasKey) (Value.mk x12_Kind x12_N x12_S (Sl.mk x12_L_l x12_L_x) (Sl.mk x12_F_l x12_F_x) x12_Elem x12_Key x12_HasKey)).bind fun r14 =>
            bif !r14 then
              some (.inr (.inr i8))
            else
              some (.inl (w64 (i8 + 1)))
    else
      some (.inr (.inl i8))
noncomputable def P36 (fu : Nat) (a0 : Sl Value) (a1 : Sl Value) (a2 : (Value → Value → Option (Bool))) : Option (Bool) :=
  match a0 with
  | ⟨a0_l, a0_x⟩ =>
    match a1 with
    | ⟨a1_l, a1_x⟩ =>
      bif !((ln a0_l) == (ln a1_l)) then
        some false
      else
        (wl (P36_s0 fu a2 a0_l a1_l) 0).bind fun q =>
          match q with
          | .inl o18 =>
            some true
          | .inr o19 =>
            some false
/-- slices.EqualFunc[[]tapestry/api.Field,[]tapestry/api.Field,tapestry/api.Field,tapestry/api.Field] -/
noncomputable def P72_s0 (fu : Nat) (a2 : (Field → Field → Option (Bool))) (a0_l : List Field) (a1_l : List Field) : Int → Option (Int ⊕ (Int ⊕ Int))
  | i8 =>
    bif decide (i8 < (ln a0_l)) then
      (idx a0_l i8).bind fun ⟨x10_Name, ⟨x10_Value__Kind, x10_Value__N, x10_Value__S, ⟨x10_Value__L_l, x10_Value__L_x⟩, ⟨x10_Value__F_l, x10_Value__F_x⟩, x10_Value__Elem, x10_Value__Key, x10_Value__HasKey⟩⟩ =>
        (idx a1_l i8).bind fun ⟨x12_Name, ⟨x12_Value__Kind, x12_Value__N, x12_Value__S, ⟨x12_Value__L_l, x12_Value__L_x⟩, ⟨x12_Value__F_l, x12_Value__F_x⟩, x12_Value__Elem, x12_Value__Key, x12_Value__HasKey⟩⟩ =>
          (a2 (Field.mk x10_Name (Value.mk x10_Value__Kind x10_Value__N x10_Value__S (Sl.mk x10_Value__L_l x10_Value__L_x) (Sl.mk x10_Value__F_l x10_Value__F_x) x10_Value__Elem x10_Value__Key x10_Value__HasKey)) (Field.mk x12_Name (Value.mk x12_Value__Kind x12_Value__N x12_Value__S (Sl.mk x12_Value__L_l x12_Value__L_x) (Sl.mk x12_Value__F_l x12_Value__F_x) x12_Value__Elem x12_Value__Key x12_Value__HasKey))).bind fun r14 =>
            bif !r14 then
              some (.inr (.inr i8))
            else
              some (.inl (w64 (i8 + 1)))
    else
      some (.inr (.inl i8))
noncomputable def P72 (fu : Nat) (a0 : Sl Field) (a1 : Sl Field) (a2 : (Field → Field → Option (Bool))) : Option (Bool) :=
  match a0 with
  | ⟨a0_l, a0_x⟩ =>
    match a1 with
    | ⟨a1_l, a1_x⟩ =>
      bif !((ln a0_l) == (ln a1_l)) then
        some false
      else
        (wl (P72_s0 fu a2 a0_l a1_l) 0).bind fun q =>
          match q with
          | .inl o18 =>
            some true
          | .inr o19 =>
            some false
/-- tapestry/value.Same -/
noncomputable def Pb32 (fu : Nat) (p32 : Value → Value → Option (Bool)) (p55 : (Sl Field) → (Sl Field) → Option (Bool)) (p73 : Field → Field → Option (Bool)) (a0 : Value) (a1 : Value) : Option (Bool) :=
  match a0 with
  | ⟨a0_Kind, a0_N, a0_S, ⟨a0_L_l, a0_L_x⟩, ⟨a0_F_l, a0_F_x⟩, a0_Elem, a0_Key, a0_HasKey⟩ =>
    match a1 with
    | ⟨a1_Kind, a1_N, a1_S, ⟨a1_L_l, a1_L_x⟩, ⟨a1_F_l, a1_F_x⟩, a1_Elem, a1_Key, a1_HasKey⟩ =>
      (
        bif a0_Kind == a1_Kind then
          bif a0_N == a1_N then
            bif seq a0_S a1_S then
              bif a0_Elem == a1_Elem then
                bif seq a0_Key a1_Key then
                  bif a0_HasKey == a1_HasKey then
                    (P36 fu (Sl.mk a0_L_l a0_L_x) (Sl.mk a1_L_l a1_L_x) p32).bind fun r7 =>
                      bif r7 then
                        (p55 (Sl.mk a0_F_l a0_F_x) (Sl.mk a1_F_l a1_F_x)).bind fun r10 =>
                          some r10
                      else
                        some false
                  else
                    some false
                else
                  some false
              else
                some false
            else
              some false
          else
            some false
        else
          some false
      ).bind fun (q : Bool) =>
        match q with
        | i12 =>
          some i12
/-- tapestry/value.sameFields -/
noncomputable def Pb55 (fu : Nat) (p32 : Value → Value → Option (Bool)) (p55 : (Sl Field) → (Sl Field) → Option (Bool)) (p73 : Field → Field → Option (Bool)) (a0 : Sl Field) (a1 : Sl Field) : Option (Bool) :=
  match a0 with
  | ⟨a0_l, a0_x⟩ =>
    match a1 with
    | ⟨a1_l, a1_x⟩ =>
      (P72 fu (Sl.mk a0_l a0_x) (Sl.mk a1_l a1_x) p73).bind fun r1 =>
        some r1
/-- tapestry/value.sameFields$1 -/
noncomputable def Pb73 (fu : Nat) (p32 : Value → Value → Option (Bool)) (p55 : (Sl Field) → (Sl Field) → Option (Bool)) (p73 : Field → Field → Option (Bool)) (a0 : Field) (a1 : Field) : Option (Bool) :=
  match a0 with
  | ⟨a0_Name, ⟨a0_Value__Kind, a0_Value__N, a0_Value__S, ⟨a0_Value__L_l, a0_Value__L_x⟩, ⟨a0_Value__F_l, a0_Value__F_x⟩, a0_Value__Elem, a0_Value__Key, a0_Value__HasKey⟩⟩ =>
    match a1 with
    | ⟨a1_Name, ⟨a1_Value__Kind, a1_Value__N, a1_Value__S, ⟨a1_Value__L_l, a1_Value__L_x⟩, ⟨a1_Value__F_l, a1_Value__F_x⟩, a1_Value__Elem, a1_Value__Key, a1_Value__HasKey⟩⟩ =>
      (
        bif seq a0_Name a1_Name then
          (p32 (Value.mk a0_Value__Kind a0_Value__N a0_Value__S (Sl.mk a0_Value__L_l a0_Value__L_x) (Sl.mk a0_Value__F_l a0_Value__F_x) a0_Value__Elem a0_Value__Key a0_Value__HasKey) (Value.mk a1_Value__Kind a1_Value__N a1_Value__S (Sl.mk a1_Value__L_l a1_Value__L_x) (Sl.mk a1_Value__F_l a1_Value__F_x) a1_Value__Elem a1_Value__Key a1_Value__HasKey)).bind fun r2 =>
            some r2
        else
          some false
      ).bind fun (q : Bool) =>
        match q with
        | i4 =>
          some i4
mutual
noncomputable def P32 : Nat → Value → Value → Option (Bool)
  | 0 => fun _ _ => none
  | fu + 1 => fun a0 a1 => Pb32 fu (P32 fu) (P55 fu) (P73 fu) a0 a1
noncomputable def P55 : Nat → (Sl Field) → (Sl Field) → Option (Bool)
  | 0 => fun _ _ => none
  | fu + 1 => fun a0 a1 => Pb55 fu (P32 fu) (P55 fu) (P73 fu) a0 a1
noncomputable def P73 : Nat → Field → Field → Option (Bool)
  | 0 => fun _ _ => none
  | fu + 1 => fun a0 a1 => Pb73 fu (P32 fu) (P55 fu) (P73 fu) a0 a1
end
/-- tapestry/context.Changed$1 -/
noncomputable def P31x1 (fu : Nat) (a0 : Cell) (b0 : Sl Field) : Option (Bool) :=
  match a0 with
  | ⟨a0_Kind, a0_Name, ⟨a0_Value__Kind, a0_Value__N, a0_Value__S, ⟨a0_Value__L_l, a0_Value__L_x⟩, ⟨a0_Value__F_l, a0_Value__F_x⟩, a0_Value__Elem, a0_Value__Key, a0_Value__HasKey⟩, ⟨a0_Next_Kind, a0_Next_N, a0_Next_S, ⟨a0_Next_L_l, a0_Next_L_x⟩, ⟨a0_Next_F_l, a0_Next_F_x⟩, a0_Next_Elem, a0_Next_Key, a0_Next_HasKey⟩, ⟨a0_Deps_l, a0_Deps_x⟩, ⟨a0_Do_l, a0_Do_x⟩, ⟨a0_Undo_l, a0_Undo_x⟩, ⟨a0_Env_l, a0_Env_x⟩, a0_Runs, a0_Ran, ⟨a0_Old_l, a0_Old_x⟩, ⟨a0_Past_l, a0_Past_x⟩⟩ =>
    match b0 with
    | ⟨b0_l, b0_x⟩ =>
      (
        bif a0_Kind == 3 then
          (P9 fu (Sl.mk b0_l b0_x) a0_Name).bind fun ⟨r2_Kind, r2_N, r2_S, ⟨r2_L_l, r2_L_x⟩, ⟨r2_F_l, r2_F_x⟩, r2_Elem, r2_Key, r2_HasKey⟩ =>
            (P32 fu (Value.mk a0_Value__Kind a0_Value__N a0_Value__S (Sl.mk a0_Value__L_l a0_Value__L_x) (Sl.mk a0_Value__F_l a0_Value__F_x) a0_Value__Elem a0_Value__Key a0_Value__HasKey) (Value.mk r2_Kind r2_N r2_S (Sl.mk r2_L_l r2_L_x) (Sl.mk r2_F_l r2_F_x) r2_Elem r2_Key r2_HasKey)).bind fun r4 =>
              some (!r4)
        else
          some false
      ).bind fun (q : Bool) =>
        match q with
        | i6 =>
          some i6
/-- slices.IndexFunc[[]tapestry/api.Cell,tapestry/api.Cell] -/
noncomputable def P54x1_s0 (fu : Nat) (a0_l : List Cell) (b0_l : List Field) (b0_x : Option (List Field)) : (Int × Int) → Option ((Int × Int) ⊕ ((Int × Int) ⊕ (Int × Int)))
  | (i3, i4) =>
    bif decide (i4 < (ln a0_l)) then
      (idx a0_l i4).bind fun ⟨x6_Kind, x6_Name, ⟨x6_Value__Kind, x6_Value__N, x6_Value__S, ⟨x6_Value__L_l, x6_Value__L_x⟩, ⟨x6_Value__F_l, x6_Value__F_x⟩, x6_Value__Elem, x6_Value__Key, x6_Value__HasKey⟩, ⟨x6_Next_Kind, x6_Next_N, x6_Next_S, ⟨x6_Next_L_l, x6_Next_L_x⟩, ⟨x6_Next_F_l, x6_Next_F_x⟩, x6_Next_Elem, x6_Next_Key, x6_Next_HasKey⟩, ⟨x6_Deps_l, x6_Deps_x⟩, ⟨x6_Do_l, x6_Do_x⟩, ⟨x6_Undo_l, x6_Undo_x⟩, ⟨x6_Env_l, x6_Env_x⟩, x6_Runs, x6_Ran, ⟨x6_Old_l, x6_Old_x⟩, ⟨x6_Past_l, x6_Past_x⟩⟩ =>
        (P31x1 fu (Cell.mk x6_Kind x6_Name (Value.mk x6_Value__Kind x6_Value__N x6_Value__S (Sl.mk x6_Value__L_l x6_Value__L_x) (Sl.mk x6_Value__F_l x6_Value__F_x) x6_Value__Elem x6_Value__Key x6_Value__HasKey) (Value.mk x6_Next_Kind x6_Next_N x6_Next_S (Sl.mk x6_Next_L_l x6_Next_L_x) (Sl.mk x6_Next_F_l x6_Next_F_x) x6_Next_Elem x6_Next_Key x6_Next_HasKey) (Sl.mk x6_Deps_l x6_Deps_x) (Sl.mk x6_Do_l x6_Do_x) (Sl.mk x6_Undo_l x6_Undo_x) (Sl.mk x6_Env_l x6_Env_x) x6_Runs x6_Ran (Sl.mk x6_Old_l x6_Old_x) (Sl.mk x6_Past_l x6_Past_x)) (Sl.mk b0_l b0_x)).bind fun r9 =>
          bif r9 then
            some (.inr (.inr (i4, i4)))
          else
            some (.inl (i3, w64 (i4 + 1)))
    else
      some (.inr (.inl (i3, i4)))
noncomputable def P54x1 (fu : Nat) (a0 : Sl Cell) (b0 : Sl Field) : Option (Int) :=
  match a0 with
  | ⟨a0_l, a0_x⟩ =>
    match b0 with
    | ⟨b0_l, b0_x⟩ =>
      (wl (P54x1_s0 fu a0_l b0_l b0_x) (0, 0)).bind fun q =>
        match q with
        | .inl (o12, o13) =>
          some (-1)
        | .inr (o14, o15) =>
          some o14
/-- slices.ContainsFunc[[]tapestry/api.Cell,tapestry/api.Cell] -/
noncomputable def P30x1 (fu : Nat) (a0 : Sl Cell) (b0 : Sl Field) : Option (Bool) :=
  match a0 with
  | ⟨a0_l, a0_x⟩ =>
    match b0 with
    | ⟨b0_l, b0_x⟩ =>
      (P54x1 fu (Sl.mk a0_l a0_x) (Sl.mk b0_l b0_x)).bind fun r2 =>
        some (decide (0 ≤ r2))
/-- tapestry/context.Changed -/
noncomputable def P11 (fu : Nat) (a0 : Sl Cell) (a1 : Sl Field) : Option (Bool) :=
  match a0 with
  | ⟨a0_l, a0_x⟩ =>
    match a1 with
    | ⟨a1_l, a1_x⟩ =>
      (P30x1 fu (Sl.mk a0_l a0_x) (Sl.mk a1_l a1_x)).bind fun r2 =>
        some r2
/-- tapestry/tapestryref14.Get -/
noncomputable def P34_s0 (fu : Nat) (a0_l : List Field) (a1 : ByteArray) : (Int × Int × ByteArray × (List Value) × (Option (List Value)) × (List Field) × (Option (List Field)) × Int × ByteArray × Bool × Int) → Option ((Int × Int × ByteArray × (List Value) × (Option (List Value)) × (List Field) × (Option (List Field)) × Int × ByteArray × Bool × Int) ⊕ ((Int × Int × ByteArray × (List Value) × (Option (List Value)) × (List Field) × (Option (List Field)) × Int × ByteArray × Bool × Int) ⊕ (Int × Int × ByteArray × (List Value) × (Option (List Value)) × (List Field) × (Option (List Field)) × Int × ByteArray × Bool × Int)))
  | (c3, c4, c5, c6_l, c6_x, c7_l, c7_x, c8, c9, c10, i11) =>
    bif decide (0 ≤ i11) then
      (idx a0_l i11).bind fun ⟨x13_Name, ⟨x13_Value__Kind, x13_Value__N, x13_Value__S, ⟨x13_Value__L_l, x13_Value__L_x⟩, ⟨x13_Value__F_l, x13_Value__F_x⟩, x13_Value__Elem, x13_Value__Key, x13_Value__HasKey⟩⟩ =>
        bif seq x13_Name a1 then
          (idx a0_l i11).bind fun ⟨x16_Name, ⟨x16_Value__Kind, x16_Value__N, x16_Value__S, ⟨x16_Value__L_l, x16_Value__L_x⟩, ⟨x16_Value__F_l, x16_Value__F_x⟩, x16_Value__Elem, x16_Value__Key, x16_Value__HasKey⟩⟩ =>
            some (.inr (.inr (x16_Value__Kind, x16_Value__N, x16_Value__S, x16_Value__L_l, x16_Value__L_x, x16_Value__F_l, x16_Value__F_x, x16_Value__Elem, x16_Value__Key, x16_Value__HasKey, i11)))
        else
          some (.inl (c3, c4, c5, c6_l, c6_x, c7_l, c7_x, c8, c9, c10, w64 (i11 - 1)))
    else
      some (.inr (.inl (c3, c4, c5, c6_l, c6_x, c7_l, c7_x, c8, c9, c10, i11)))
noncomputable def P34 (fu : Nat) (a0 : Sl Field) (a1 : ByteArray) : Option (Value) :=
  match a0 with
  | ⟨a0_l, a0_x⟩ =>
    (wl (P34_s0 fu a0_l a1) (0, 0, ByteArray.empty, [], (some []), [], (some []), 0, ByteArray.empty, false, w64 ((ln a0_l) - 1))).bind fun q =>
      match q with
      | .inl (o19, o20, o21, o22, o23, o24, o25, o26, o27, o28, o29) =>
        some (Value.mk 0 0 ByteArray.empty (Sl.mk [] (some [])) (Sl.mk [] (some [])) 0 ByteArray.empty false)
      | .inr (o30, o31, o32, o33, o34, o35, o36, o37, o38, o39, o40) =>
        some (Value.mk o30 o31 o32 (Sl.mk o33 o34) (Sl.mk o35 o36) o37 o38 o39)
/-- tapestry/tapestryref01.Same -/
noncomputable def P33_s0 (fu : Nat) (p33 : Value → Value → Option (Bool)) (a0_L_l : List Value) (a1_L_l : List Value) : Int → Option (Int ⊕ (Int ⊕ Int))
  | i13 =>
    bif decide (i13 < (ln a0_L_l)) then
      (idx a0_L_l i13).bind fun ⟨x17_Kind, x17_N, x17_S, ⟨x17_L_l, x17_L_x⟩, ⟨x17_F_l, x17_F_x⟩, x17_Elem, x17_Key, x17_HasKey⟩ =>
        (idx a1_L_l i13).bind fun ⟨x19_Kind, x19_N, x19_S, ⟨x19_L_l, x19_L_x⟩, ⟨x19_F_l, x19_F_x⟩, x19_Elem, x19_Key, x19_HasKey⟩ =>
          (p33 (Value.mk x17_Kind x17_N x17_S (Sl.mk x17_L_l x17_L_x) (Sl.mk x17_F_l x17_F_x) x17_Elem x17_Key x17_HasKey) (Value.mk x19_Kind x19_N x19_S (Sl.mk x19_L_l x19_L_x) (Sl.mk x19_F_l x19_F_x) x19_Elem x19_Key x19_HasKey)).bind fun r21 =>
            bif !r21 then
              some (.inr (.inr i13))
            else
              some (.inl (w64 (i13 + 1)))
    else
      some (.inr (.inl i13))
noncomputable def Pb33 (fu : Nat) (p33 : Value → Value → Option (Bool)) (p56 : (Sl Field) → (Sl Field) → Option (Bool)) (a0 : Value) (a1 : Value) : Option (Bool) :=
  match a0 with
  | ⟨a0_Kind, a0_N, a0_S, ⟨a0_L_l, a0_L_x⟩, ⟨a0_F_l, a0_F_x⟩, a0_Elem, a0_Key, a0_HasKey⟩ =>
    match a1 with
    | ⟨a1_Kind, a1_N, a1_S, ⟨a1_L_l, a1_L_x⟩, ⟨a1_F_l, a1_F_x⟩, a1_Elem, a1_Key, a1_HasKey⟩ =>
      (
        bif !(!(a0_Kind == a1_Kind)) then
          bif !(!(a0_N == a1_N)) then
            bif !(!(seq a0_S a1_S)) then
              bif !(!(a0_Elem == a1_Elem)) then
                bif !(!(seq a0_Key a1_Key)) then
                  bif !(!(a0_HasKey == a1_HasKey)) then
                    some (!((ln a0_L_l) == (ln a1_L_l)))
                  else
                    some true
                else
                  some true
              else
                some true
            else
              some true
          else
            some true
        else
          some true
      ).bind fun (q : Bool) =>
        match q with
        | i11 =>
          bif i11 then
            some false
          else
            (wl (P33_s0 fu p33 a0_L_l a1_L_l) 0).bind fun q =>
              match q with
              | .inl o25 =>
                (p56 (Sl.mk a0_F_l a0_F_x) (Sl.mk a1_F_l a1_F_x)).bind fun r26 =>
                  some r26
              | .inr o28 =>
                some false
/-- tapestry/tapestryref01.sameFields -/
noncomputable def P56_s0 (fu : Nat) (p33 : Value → Value → Option (Bool)) (a0_l : List Field) (a1_l : List Field) : Int → Option (Int ⊕ (Int ⊕ Int))
  | i6 =>
    bif decide (i6 < (ln a0_l)) then
      (
        (idx a0_l i6).bind fun ⟨x10_Name, ⟨x10_Value__Kind, x10_Value__N, x10_Value__S, ⟨x10_Value__L_l, x10_Value__L_x⟩, ⟨x10_Value__F_l, x10_Value__F_x⟩, x10_Value__Elem, x10_Value__Key, x10_Value__HasKey⟩⟩ =>
          (idx a1_l i6).bind fun ⟨x12_Name, ⟨x12_Value__Kind, x12_Value__N, x12_Value__S, ⟨x12_Value__L_l, x12_Value__L_x⟩, ⟨x12_Value__F_l, x12_Value__F_x⟩, x12_Value__Elem, x12_Value__Key, x12_Value__HasKey⟩⟩ =>
            bif !(!(seq x10_Name x12_Name)) then
              (idx a0_l i6).bind fun ⟨x15_Name, ⟨x15_Value__Kind, x15_Value__N, x15_Value__S, ⟨x15_Value__L_l, x15_Value__L_x⟩, ⟨x15_Value__F_l, x15_Value__F_x⟩, x15_Value__Elem, x15_Value__Key, x15_Value__HasKey⟩⟩ =>
                (idx a1_l i6).bind fun ⟨x17_Name, ⟨x17_Value__Kind, x17_Value__N, x17_Value__S, ⟨x17_Value__L_l, x17_Value__L_x⟩, ⟨x17_Value__F_l, x17_Value__F_x⟩, x17_Value__Elem, x17_Value__Key, x17_Value__HasKey⟩⟩ =>
                  (p33 (Value.mk x15_Value__Kind x15_Value__N x15_Value__S (Sl.mk x15_Value__L_l x15_Value__L_x) (Sl.mk x15_Value__F_l x15_Value__F_x) x15_Value__Elem x15_Value__Key x15_Value__HasKey) (Value.mk x17_Value__Kind x17_Value__N x17_Value__S (Sl.mk x17_Value__L_l x17_Value__L_x) (Sl.mk x17_Value__F_l x17_Value__F_x) x17_Value__Elem x17_Value__Key x17_Value__HasKey)).bind fun r19 =>
                    some (!r19)
            else
              some true
      ).bind fun (q : Bool) =>
        match q with
        | i21 =>
          bif i21 then
            some (.inr (.inr i6))
          else
            some (.inl (w64 (i6 + 1)))
    else
      some (.inr (.inl i6))
noncomputable def Pb56 (fu : Nat) (p33 : Value → Value → Option (Bool)) (p56 : (Sl Field) → (Sl Field) → Option (Bool)) (a0 : Sl Field) (a1 : Sl Field) : Option (Bool) :=
  match a0 with
  | ⟨a0_l, a0_x⟩ =>
    match a1 with
    | ⟨a1_l, a1_x⟩ =>
      bif !((ln a0_l) == (ln a1_l)) then
        some false
      else
        (wl (P56_s0 fu p33 a0_l a1_l) 0).bind fun q =>
          match q with
          | .inl o25 =>
            some true
          | .inr o26 =>
            some false
mutual
noncomputable def P33 : Nat → Value → Value → Option (Bool)
  | 0 => fun _ _ => none
  | fu + 1 => fun a0 a1 => Pb33 fu (P33 fu) (P56 fu) a0 a1
noncomputable def P56 : Nat → (Sl Field) → (Sl Field) → Option (Bool)
  | 0 => fun _ _ => none
  | fu + 1 => fun a0 a1 => Pb56 fu (P33 fu) (P56 fu) a0 a1
end
/-- tapestry/tapestryref14.Changed -/
noncomputable def P12_s0 (fu : Nat) (a0_l : List Cell) (a1_l : List Field) (a1_x : Option (List Field)) : (Bool × Int) → Option ((Bool × Int) ⊕ ((Bool × Int) ⊕ (Bool × Int)))
  | (i1, i2) =>
    bif decide (i2 < (ln a0_l)) then
      (
        (idx a0_l i2).bind fun ⟨x6_Kind, x6_Name, ⟨x6_Value__Kind, x6_Value__N, x6_Value__S, ⟨x6_Value__L_l, x6_Value__L_x⟩, ⟨x6_Value__F_l, x6_Value__F_x⟩, x6_Value__Elem, x6_Value__Key, x6_Value__HasKey⟩, ⟨x6_Next_Kind, x6_Next_N, x6_Next_S, ⟨x6_Next_L_l, x6_Next_L_x⟩, ⟨x6_Next_F_l, x6_Next_F_x⟩, x6_Next_Elem, x6_Next_Key, x6_Next_HasKey⟩, ⟨x6_Deps_l, x6_Deps_x⟩, ⟨x6_Do_l, x6_Do_x⟩, ⟨x6_Undo_l, x6_Undo_x⟩, ⟨x6_Env_l, x6_Env_x⟩, x6_Runs, x6_Ran, ⟨x6_Old_l, x6_Old_x⟩, ⟨x6_Past_l, x6_Past_x⟩⟩ =>
          bif x6_Kind == 3 then
            (idx a0_l i2).bind fun ⟨x9_Kind, x9_Name, ⟨x9_Value__Kind, x9_Value__N, x9_Value__S, ⟨x9_Value__L_l, x9_Value__L_x⟩, ⟨x9_Value__F_l, x9_Value__F_x⟩, x9_Value__Elem, x9_Value__Key, x9_Value__HasKey⟩, ⟨x9_Next_Kind, x9_Next_N, x9_Next_S, ⟨x9_Next_L_l, x9_Next_L_x⟩, ⟨x9_Next_F_l, x9_Next_F_x⟩, x9_Next_Elem, x9_Next_Key, x9_Next_HasKey⟩, ⟨x9_Deps_l, x9_Deps_x⟩, ⟨x9_Do_l, x9_Do_x⟩, ⟨x9_Undo_l, x9_Undo_x⟩, ⟨x9_Env_l, x9_Env_x⟩, x9_Runs, x9_Ran, ⟨x9_Old_l, x9_Old_x⟩, ⟨x9_Past_l, x9_Past_x⟩⟩ =>
              (idx a0_l i2).bind fun ⟨x11_Kind, x11_Name, ⟨x11_Value__Kind, x11_Value__N, x11_Value__S, ⟨x11_Value__L_l, x11_Value__L_x⟩, ⟨x11_Value__F_l, x11_Value__F_x⟩, x11_Value__Elem, x11_Value__Key, x11_Value__HasKey⟩, ⟨x11_Next_Kind, x11_Next_N, x11_Next_S, ⟨x11_Next_L_l, x11_Next_L_x⟩, ⟨x11_Next_F_l, x11_Next_F_x⟩, x11_Next_Elem, x11_Next_Key, x11_Next_HasKey⟩, ⟨x11_Deps_l, x11_Deps_x⟩, ⟨x11_Do_l, x11_Do_x⟩, ⟨x11_Undo_l, x11_Undo_x⟩, ⟨x11_Env_l, x11_Env_x⟩, x11_Runs, x11_Ran, ⟨x11_Old_l, x11_Old_x⟩, ⟨x11_Past_l, x11_Past_x⟩⟩ =>
                (P34 fu (Sl.mk a1_l a1_x) x11_Name).bind fun ⟨r13_Kind, r13_N, r13_S, ⟨r13_L_l, r13_L_x⟩, ⟨r13_F_l, r13_F_x⟩, r13_Elem, r13_Key, r13_HasKey⟩ =>
                  (P33 fu (Value.mk x9_Value__Kind x9_Value__N x9_Value__S (Sl.mk x9_Value__L_l x9_Value__L_x) (Sl.mk x9_Value__F_l x9_Value__F_x) x9_Value__Elem x9_Value__Key x9_Value__HasKey) (Value.mk r13_Kind r13_N r13_S (Sl.mk r13_L_l r13_L_x) (Sl.mk r13_F_l r13_F_x) r13_Elem r13_Key r13_HasKey)).bind fun r15 =>
                    some (!r15)
          else
            some false
      ).bind fun (q : Bool) =>
        match q with
        | i17 =>
          bif i17 then
            some (.inr (.inr (true, i2)))
          else
            some (.inl (i1, w64 (i2 + 1)))
    else
      some (.inr (.inl (i1, i2)))
noncomputable def P12 (fu : Nat) (a0 : Sl Cell) (a1 : Sl Field) : Option (Bool) :=
  match a0 with
  | ⟨a0_l, a0_x⟩ =>
    match a1 with
    | ⟨a1_l, a1_x⟩ =>
      (wl (P12_s0 fu a0_l a1_l a1_x) (false, 0)).bind fun q =>
        match q with
        | .inl (o21, o22) =>
          some false
        | .inr (o23, o24) =>
          some o23
/-- tapestry/tapestrylaw14.lives -/
noncomputable def P10 (fu : Nat) : Option (Bool) :=
  some true
/-- tapestry/tapestrylaw14.ContextChanges -/
noncomputable def P4 (fu : Nat) (a0 : Sl Cell) (a1 : Sl Field) : Option (Bool) :=
  match a0 with
  | ⟨a0_l, a0_x⟩ =>
    match a1 with
    | ⟨a1_l, a1_x⟩ =>
      (
        (P11 fu (Sl.mk a0_l a0_x) (Sl.mk a1_l a1_x)).bind fun r1 =>
          (P12 fu (Sl.mk a0_l a0_x) (Sl.mk a1_l a1_x)).bind fun r3 =>
            bif r1 == r3 then
              (P10 fu).bind fun r6 =>
                some r6
            else
              some false
      ).bind fun (q : Bool) =>
        match q with
        | i8 =>
          some i8
end Go.Proofs.Ytipkggkbldgmjaa
