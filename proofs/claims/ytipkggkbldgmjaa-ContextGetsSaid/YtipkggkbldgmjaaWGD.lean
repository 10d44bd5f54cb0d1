/- Functions on plain data: printed by a small program. -/
import Derived.Test.YtipkggkbldgmjaaWGE
namespace Go.Proofs.Ytipkggkbldgmjaa
open Go Go.X
set_option linter.unusedVariables false
set_option linter.unusedSimpArgs false
set_option maxRecDepth 100000
/-- slices.Clone[[]tapestry/api.Field,tapestry/api.Field] -/
noncomputable def P48 (fu : Nat) (a0 : Sl Field) : Option ((List Field)) :=
  match a0 with
  | ⟨a0_l, a0_x⟩ =>
    bif ln a0_l == 0 then
      agree (
        some ([] : List Field)
      ) (
        (
          bif ln a0_l == 0 then
            some ([] : List Field)
          else
            bif room 128 (ln (([] : List Field) ++ a0_l)) then
              some (([] : List Field) ++ a0_l)
            else none
        ).bind fun (q : (List Field)) =>
          match q with
          | l14 =>
            some l14
      )
    else
      (
        bif ln a0_l == 0 then
          some ([] : List Field)
        else
          bif room 128 (ln (([] : List Field) ++ a0_l)) then
            some (([] : List Field) ++ a0_l)
          else none
      ).bind fun (q : (List Field)) =>
        match q with
        | l26 =>
          some l26
/-- slices.Clone[[]tapestry/api.Value,tapestry/api.Value] -/
noncomputable def P69 (fu : Nat) (a0 : Sl Value) : Option ((List Value)) :=
  match a0 with
  | ⟨a0_l, a0_x⟩ =>
    bif ln a0_l == 0 then
      agree (
        some ([] : List Value)
      ) (
        (
          bif ln a0_l == 0 then
            some ([] : List Value)
          else
            bif room 112 (ln (([] : List Value) ++ a0_l)) then
              some (([] : List Value) ++ a0_l)
            else none
        ).bind fun (q : (List Value)) =>
          match q with
          | l14 =>
            some l14
      )
    else
      (
        bif ln a0_l == 0 then
          some ([] : List Value)
        else
          bif room 112 (ln (([] : List Value) ++ a0_l)) then
            some (([] : List Value) ++ a0_l)
          else none
      ).bind fun (q : (List Value)) =>
        match q with
        | l26 =>
          some l26
/-- slices.Clip[[]tapestry/api.Field,tapestry/api.Field] -/
noncomputable def P49 (fu : Nat) (a0 : List Field) : Option ((List Field)) :=
  bif decide (0 ≤ ln a0) then
    bif decide (ln a0 ≤ ln a0) then
      bif decide (ln a0 ≤ ln a0) then
        some (cut a0 0 (ln a0))
      else none
    else none
  else none
/-- slices.Clip[[]tapestry/api.Value,tapestry/api.Value] -/
noncomputable def P70 (fu : Nat) (a0 : Sl Value) : Option ((Sl Value)) :=
  match a0 with
  | ⟨a0_l, a0_x⟩ =>
    bif decide (0 ≤ 0) then
      bif decide (0 ≤ ln a0_l) then
        bif decide (ln a0_l ≤ ln a0_l) then
          bif decide (ln a0_l ≤ ln a0_l) then
            some (Sl.mk (cut a0_l 0 (ln a0_l)) (some (cut a0_l (ln a0_l) (ln a0_l))))
          else none
        else none
      else none
    else none
/-- tapestry/twin.Fields -/
noncomputable def P24_s0 (fu : Nat) (p26 : Value → Option (Value)) (r4 : List Field) : ((List Field) × Int) → Option (((List Field) × Int) ⊕ (((List Field) × Int)))
  | (l7, i8) =>
    bif decide (i8 < (ln r4)) then
      (idx l7 i8).bind fun ⟨x10_Name, ⟨x10_Value__Kind, x10_Value__N, x10_Value__S, ⟨x10_Value__L_l, x10_Value__L_x⟩, ⟨x10_Value__F_l, x10_Value__F_x⟩, x10_Value__Elem, x10_Value__Key, x10_Value__HasKey⟩⟩ =>
        (p26 (Value.mk x10_Value__Kind x10_Value__N x10_Value__S (Sl.mk x10_Value__L_l x10_Value__L_x) (Sl.mk x10_Value__F_l x10_Value__F_x) x10_Value__Elem x10_Value__Key x10_Value__HasKey)).bind fun ⟨r12_Kind, r12_N, r12_S, ⟨r12_L_l, r12_L_x⟩, ⟨r12_F_l, r12_F_x⟩, r12_Elem, r12_Key, r12_HasKey⟩ =>
          (idx l7 i8).bind fun ⟨x14_Name, ⟨x14_Value__Kind, x14_Value__N, x14_Value__S, ⟨x14_Value__L_l, x14_Value__L_x⟩, ⟨x14_Value__F_l, x14_Value__F_x⟩, x14_Value__Elem, x14_Value__Key, x14_Value__HasKey⟩⟩ =>
            some (.inl ((List.set l7 (Int.toNat i8) (Field.mk x14_Name (Value.mk r12_Kind r12_N r12_S (Sl.mk r12_L_l r12_L_x) (Sl.mk r12_F_l r12_F_x) r12_Elem r12_Key r12_HasKey))), w64 (i8 + 1)))
    else
      some (.inr (l7, i8))
noncomputable def Pb24 (fu : Nat) (p24 : (Sl Field) → Option ((List Field))) (p26 : Value → Option (Value)) (p50 : (Sl Value) → Option ((Sl Value))) (a0 : Sl Field) : Option ((List Field)) :=
  match a0 with
  | ⟨a0_l, a0_x⟩ =>
    (P48 fu (Sl.mk a0_l a0_x)).bind fun r4 =>
      (wl (P24_s0 fu p26 r4) (r4, 0)).bind fun q =>
        match q with
        | (o20, o21) =>
          (P49 fu o20).bind fun r23 =>
            some r23
/-- tapestry/twin.Value -/
noncomputable def Pb26 (fu : Nat) (p24 : (Sl Field) → Option ((List Field))) (p26 : Value → Option (Value)) (p50 : (Sl Value) → Option ((Sl Value))) (a0 : Value) : Option (Value) :=
  match a0 with
  | ⟨a0_Kind, a0_N, a0_S, ⟨a0_L_l, a0_L_x⟩, ⟨a0_F_l, a0_F_x⟩, a0_Elem, a0_Key, a0_HasKey⟩ =>
    (p50 (Sl.mk a0_L_l a0_L_x)).bind fun ⟨r1_l, r1_x⟩ =>
      (p24 (Sl.mk a0_F_l a0_F_x)).bind fun r4 =>
        some (Value.mk a0_Kind a0_N a0_S (Sl.mk r1_l r1_x) (Sl.mk r4 none) a0_Elem a0_Key a0_HasKey)
/-- tapestry/twin.Values -/
noncomputable def P50_s0 (fu : Nat) (p26 : Value → Option (Value)) (r2 : List Value) : ((List Value) × Int) → Option (((List Value) × Int) ⊕ (((List Value) × Int)))
  | (l5, i6) =>
    bif decide (i6 < (ln r2)) then
      (idx l5 i6).bind fun ⟨x8_Kind, x8_N, x8_S, ⟨x8_L_l, x8_L_x⟩, ⟨x8_F_l, x8_F_x⟩, x8_Elem, x8_Key, x8_HasKey⟩ =>
        (p26 (Value.mk x8_Kind x8_N x8_S (Sl.mk x8_L_l x8_L_x) (Sl.mk x8_F_l x8_F_x) x8_Elem x8_Key x8_HasKey)).bind fun ⟨r10_Kind, r10_N, r10_S, ⟨r10_L_l, r10_L_x⟩, ⟨r10_F_l, r10_F_x⟩, r10_Elem, r10_Key, r10_HasKey⟩ =>
          (idx l5 i6).bind fun ⟨x12_Kind, x12_N, x12_S, ⟨x12_L_l, x12_L_x⟩, ⟨x12_F_l, x12_F_x⟩, x12_Elem, x12_Key, x12_HasKey⟩ =>
            some (.inl ((List.set l5 (Int.toNat i6) (Value.mk r10_Kind r10_N r10_S (Sl.mk r10_L_l r10_L_x) (Sl.mk r10_F_l r10_F_x) r10_Elem r10_Key r10_HasKey)), w64 (i6 + 1)))
    else
      some (.inr (l5, i6))
noncomputable def Pb50 (fu : Nat) (p24 : (Sl Field) → Option ((List Field))) (p26 : Value → Option (Value)) (p50 : (Sl Value) → Option ((Sl Value))) (a0 : Sl Value) : Option ((Sl Value)) :=
  match a0 with
  | ⟨a0_l, a0_x⟩ =>
    (P69 fu (Sl.mk a0_l a0_x)).bind fun r2 =>
      (wl (P50_s0 fu p26 r2) (r2, 0)).bind fun q =>
        match q with
        | (o18, o19) =>
          (P70 fu (Sl.mk o18 none)).bind fun ⟨r20_l, r20_x⟩ =>
            some (Sl.mk r20_l r20_x)
mutual
noncomputable def P24 : Nat → (Sl Field) → Option ((List Field))
  | 0 => fun _ => none
  | fu + 1 => fun a0 => Pb24 fu (P24 fu) (P26 fu) (P50 fu) a0
noncomputable def P26 : Nat → Value → Option (Value)
  | 0 => fun _ => none
  | fu + 1 => fun a0 => Pb26 fu (P24 fu) (P26 fu) (P50 fu) a0
noncomputable def P50 : Nat → (Sl Value) → Option ((Sl Value))
  | 0 => fun _ => none
  | fu + 1 => fun a0 => Pb50 fu (P24 fu) (P26 fu) (P50 fu) a0
end
/-- tapestry/context.With$1 -/
noncomputable def P25x1 (fu : Nat) (a0 : Field) (a1 : ByteArray) : Option (Bool) :=
  match a0 with
  | ⟨a0_Name, ⟨a0_Value__Kind, a0_Value__N, a0_Value__S, ⟨a0_Value__L_l, a0_Value__L_x⟩, ⟨a0_Value__F_l, a0_Value__F_x⟩, a0_Value__Elem, a0_Value__Key, a0_Value__HasKey⟩⟩ =>
    some (seq a0_Name a1)
/-- slices.IndexFunc[[]tapestry/api.Field,tapestry/api.Field] -/
noncomputable def P47x1_s0 (fu : Nat) (d0 : ByteArray) (b0 : List Field) : (Int × Int) → Option ((Int × Int) ⊕ ((Int × Int) ⊕ (Int × Int)))
  | (i1, i2) =>
    bif decide (i2 < (ln b0)) then
      (idx b0 i2).bind fun ⟨x4_Name, ⟨x4_Value__Kind, x4_Value__N, x4_Value__S, ⟨x4_Value__L_l, x4_Value__L_x⟩, ⟨x4_Value__F_l, x4_Value__F_x⟩, x4_Value__Elem, x4_Value__Key, x4_Value__HasKey⟩⟩ =>
        (P25x1 fu (Field.mk x4_Name (Value.mk x4_Value__Kind x4_Value__N x4_Value__S (Sl.mk x4_Value__L_l x4_Value__L_x) (Sl.mk x4_Value__F_l x4_Value__F_x) x4_Value__Elem x4_Value__Key x4_Value__HasKey)) d0).bind fun r6 =>
          bif r6 then
            some (.inr (.inr (i2, i2)))
          else
            some (.inl (i1, w64 (i2 + 1)))
    else
      some (.inr (.inl (i1, i2)))
noncomputable def P47x1 (fu : Nat) (d0 : ByteArray) (b0 : List Field) : Option (Int) :=
  (wl (P47x1_s0 fu d0 b0) (0, 0)).bind fun q =>
    match q with
    | .inl (o10, o11) =>
      some (-1)
    | .inr (o12, o13) =>
      some o12
/-- slices.DeleteFunc[[]tapestry/api.Field,tapestry/api.Field] -/
noncomputable def P23x1_s0 (fu : Nat) (d0 : ByteArray) : ((List Field) × Int × Int) → Option (((List Field) × Int × Int) ⊕ (((List Field) × Int × Int)))
  | (l6, i7, i8) =>
    bif decide (i8 < (ln l6)) then
      (idx l6 i8).bind fun ⟨x10_Name, ⟨x10_Value__Kind, x10_Value__N, x10_Value__S, ⟨x10_Value__L_l, x10_Value__L_x⟩, ⟨x10_Value__F_l, x10_Value__F_x⟩, x10_Value__Elem, x10_Value__Key, x10_Value__HasKey⟩⟩ =>
        (P25x1 fu (Field.mk x10_Name (Value.mk x10_Value__Kind x10_Value__N x10_Value__S (Sl.mk x10_Value__L_l x10_Value__L_x) (Sl.mk x10_Value__F_l x10_Value__F_x) x10_Value__Elem x10_Value__Key x10_Value__HasKey)) d0).bind fun r12 =>
          (
            bif !r12 then
              (idx l6 i7).bind fun ⟨x15_Name, ⟨x15_Value__Kind, x15_Value__N, x15_Value__S, ⟨x15_Value__L_l, x15_Value__L_x⟩, ⟨x15_Value__F_l, x15_Value__F_x⟩, x15_Value__Elem, x15_Value__Key, x15_Value__HasKey⟩⟩ =>
                some ((List.set l6 (Int.toNat i7) (Field.mk x10_Name (Value.mk x10_Value__Kind x10_Value__N x10_Value__S (Sl.mk x10_Value__L_l x10_Value__L_x) (Sl.mk x10_Value__F_l x10_Value__F_x) x10_Value__Elem x10_Value__Key x10_Value__HasKey))), w64 (i7 + 1))
            else
              some (l6, i7)
          ).bind fun (q : (List Field) × Int) =>
            match q with
            | (l20, i21) =>
              some (.inl (l20, i21, w64 (i8 + 1)))
    else
      some (.inr (l6, i7, i8))
noncomputable def P23x1 (fu : Nat) (a0 : List Field) (d0 : ByteArray) : Option ((List Field)) :=
  (P47x1 fu d0 a0).bind fun r4 =>
    bif r4 == (-1) then
      some a0
    else
      (wl (P23x1_s0 fu d0) (a0, r4, w64 (r4 + 1))).bind fun q =>
        match q with
        | (o24, o25, o26) =>
          bif decide (0 ≤ o25) then
            bif decide (o25 ≤ ln o24) then
              bif decide (0 ≤ o25) then
                bif decide (o25 ≤ ln o24) then
                  some (cut ((cut o24 0 o25) ++ (List.replicate (Int.toNat (ln o24 - o25)) (Field.mk ByteArray.empty (Value.mk 0 0 ByteArray.empty (Sl.mk [] (some [])) (Sl.mk [] (some [])) 0 ByteArray.empty false)))) 0 o25)
                else none
              else none
            else none
          else none
/-- tapestry/context.With -/
noncomputable def P7 (fu : Nat) (a0 : Sl Field) (a1 : ByteArray) (a2 : Value) : Option ((Sl Field)) :=
  match a0 with
  | ⟨a0_l, a0_x⟩ =>
    match a2 with
    | ⟨a2_Kind, a2_N, a2_S, ⟨a2_L_l, a2_L_x⟩, ⟨a2_F_l, a2_F_x⟩, a2_Elem, a2_Key, a2_HasKey⟩ =>
      (P24 fu (Sl.mk a0_l a0_x)).bind fun r2 =>
        (P23x1 fu r2 a1).bind fun r6 =>
          (P26 fu (Value.mk a2_Kind a2_N a2_S (Sl.mk a2_L_l a2_L_x) (Sl.mk a2_F_l a2_F_x) a2_Elem a2_Key a2_HasKey)).bind fun ⟨r9_Kind, r9_N, r9_S, ⟨r9_L_l, r9_L_x⟩, ⟨r9_F_l, r9_F_x⟩, r9_Elem, r9_Key, r9_HasKey⟩ =>
            bif room 128 (ln (r6 ++ [(Field.mk a1 (Value.mk r9_Kind r9_N r9_S (Sl.mk r9_L_l r9_L_x) (Sl.mk r9_F_l r9_F_x) r9_Elem r9_Key r9_HasKey))])) then
              some (Sl.mk (r6 ++ [(Field.mk a1 (Value.mk r9_Kind r9_N r9_S (Sl.mk r9_L_l r9_L_x) (Sl.mk r9_F_l r9_F_x) r9_Elem r9_Key r9_HasKey))]) none)
            else none
/-- a round of tapestry/context.Get -/
noncomputable def P117x1 (fu : Nat) (a1 : Value) (b0 : Option X.Ex) (b1 : Value) : Option (Bool × (Option X.Ex) × Value) :=
  match a1 with
  | ⟨a1_Kind, a1_N, a1_S, ⟨a1_L_l, a1_L_x⟩, ⟨a1_F_l, a1_F_x⟩, a1_Elem, a1_Key, a1_HasKey⟩ =>
    match b1 with
    | ⟨b1_Kind, b1_N, b1_S, ⟨b1_L_l, b1_L_x⟩, ⟨b1_F_l, b1_F_x⟩, b1_Elem, b1_Key, b1_HasKey⟩ =>
      match b0 with
      | none =>
        (P26 fu (Value.mk a1_Kind a1_N a1_S (Sl.mk a1_L_l a1_L_x) (Sl.mk a1_F_l a1_F_x) a1_Elem a1_Key a1_HasKey)).bind fun ⟨r1_Kind, r1_N, r1_S, ⟨r1_L_l, r1_L_x⟩, ⟨r1_F_l, r1_F_x⟩, r1_Elem, r1_Key, r1_HasKey⟩ =>
          some (false, (some .ret), (Value.mk r1_Kind r1_N r1_S (Sl.mk r1_L_l r1_L_x) (Sl.mk r1_F_l r1_F_x) r1_Elem r1_Key r1_HasKey))
      | some _ => none
/-- a round of tapestry/context.behind$1 -/
noncomputable def P118x1 (fu : Nat) (a1 : Int) (a2 : Field) (d0 : ByteArray) (b0 : Option X.Ex) (b2 : Option X.Ex) (b3 : Value) : Option (Bool × (Option X.Ex) × (Option X.Ex) × Value) :=
  match a2 with
  | ⟨a2_Name, ⟨a2_Value__Kind, a2_Value__N, a2_Value__S, ⟨a2_Value__L_l, a2_Value__L_x⟩, ⟨a2_Value__F_l, a2_Value__F_x⟩, a2_Value__Elem, a2_Value__Key, a2_Value__HasKey⟩⟩ =>
    match b3 with
    | ⟨b3_Kind, b3_N, b3_S, ⟨b3_L_l, b3_L_x⟩, ⟨b3_F_l, b3_F_x⟩, b3_Elem, b3_Key, b3_HasKey⟩ =>
      match b0 with
      | none =>
        (
          bif seq a2_Name d0 then
            match b2 with
            | none =>
              (P117x1 fu (Value.mk a2_Value__Kind a2_Value__N a2_Value__S (Sl.mk a2_Value__L_l a2_Value__L_x) (Sl.mk a2_Value__F_l a2_Value__F_x) a2_Value__Elem a2_Value__Key a2_Value__HasKey) none (Value.mk b3_Kind b3_N b3_S (Sl.mk b3_L_l b3_L_x) (Sl.mk b3_F_l b3_F_x) b3_Elem b3_Key b3_HasKey)).bind fun ⟨r3, wr4, ⟨wr5_Kind, wr5_N, wr5_S, ⟨wr5_L_l, wr5_L_x⟩, ⟨wr5_F_l, wr5_F_x⟩, wr5_Elem, wr5_Key, wr5_HasKey⟩⟩ =>
                some (wr4, wr5_Kind, wr5_N, wr5_S, wr5_L_l, wr5_L_x, wr5_F_l, wr5_F_x, wr5_Elem, wr5_Key, wr5_HasKey, !r3)
            | some _ => none
          else
            some (b2, b3_Kind, b3_N, b3_S, b3_L_l, b3_L_x, b3_F_l, b3_F_x, b3_Elem, b3_Key, b3_HasKey, false)
        ).bind fun (q : (Option X.Ex) × Int × Int × ByteArray × (List Value) × (Option (List Value)) × (List Field) × (Option (List Field)) × Int × ByteArray × Bool × Bool) =>
          match q with
          | (g6, g7_Kind, g7_N, g7_S, g7_L_l, g7_L_x, g7_F_l, g7_F_x, g7_Elem, g7_Key, g7_HasKey, i8) =>
            bif i8 then
              some (false, (some .ret), g6, (Value.mk g7_Kind g7_N g7_S (Sl.mk g7_L_l g7_L_x) (Sl.mk g7_F_l g7_F_x) g7_Elem g7_Key g7_HasKey))
            else
              some (true, none, g6, (Value.mk g7_Kind g7_N g7_S (Sl.mk g7_L_l g7_L_x) (Sl.mk g7_F_l g7_F_x) g7_Elem g7_Key g7_HasKey))
      | some _ => none
/-- slices.Backward[[]tapestry/api.Field,tapestry/api.Field]$1 -/
noncomputable def P71x1_s0 (fu : Nat) (d0 : ByteArray) (a1_l : List Field) : ((Option X.Ex) × (Option X.Ex) × Int × Int × ByteArray × (List Value) × (Option (List Value)) × (List Field) × (Option (List Field)) × Int × ByteArray × Bool × Int) → Option (((Option X.Ex) × (Option X.Ex) × Int × Int × ByteArray × (List Value) × (Option (List Value)) × (List Field) × (Option (List Field)) × Int × ByteArray × Bool × Int) ⊕ (((Option X.Ex) × (Option X.Ex) × Int × Int × ByteArray × (List Value) × (Option (List Value)) × (List Field) × (Option (List Field)) × Int × ByteArray × Bool × Int) ⊕ ((Option X.Ex) × (Option X.Ex) × Int × Int × ByteArray × (List Value) × (Option (List Value)) × (List Field) × (Option (List Field)) × Int × ByteArray × Bool × Int)))
  | (g3, g4, g5_Kind, g5_N, g5_S, g5_L_l, g5_L_x, g5_F_l, g5_F_x, g5_Elem, g5_Key, g5_HasKey, i6) =>
    bif decide (0 ≤ i6) then
      (idx a1_l i6).bind fun ⟨x8_Name, ⟨x8_Value__Kind, x8_Value__N, x8_Value__S, ⟨x8_Value__L_l, x8_Value__L_x⟩, ⟨x8_Value__F_l, x8_Value__F_x⟩, x8_Value__Elem, x8_Value__Key, x8_Value__HasKey⟩⟩ =>
        match g3 with
        | none =>
          (P118x1 fu i6 (Field.mk x8_Name (Value.mk x8_Value__Kind x8_Value__N x8_Value__S (Sl.mk x8_Value__L_l x8_Value__L_x) (Sl.mk x8_Value__F_l x8_Value__F_x) x8_Value__Elem x8_Value__Key x8_Value__HasKey)) d0 none g4 (Value.mk g5_Kind g5_N g5_S (Sl.mk g5_L_l g5_L_x) (Sl.mk g5_F_l g5_F_x) g5_Elem g5_Key g5_HasKey)).bind fun ⟨r11, wr12, wr13, ⟨wr14_Kind, wr14_N, wr14_S, ⟨wr14_L_l, wr14_L_x⟩, ⟨wr14_F_l, wr14_F_x⟩, wr14_Elem, wr14_Key, wr14_HasKey⟩⟩ =>
            bif !r11 then
              some (.inr (.inr (wr12, wr13, wr14_Kind, wr14_N, wr14_S, wr14_L_l, wr14_L_x, wr14_F_l, wr14_F_x, wr14_Elem, wr14_Key, wr14_HasKey, i6)))
            else
              some (.inl (wr12, wr13, wr14_Kind, wr14_N, wr14_S, wr14_L_l, wr14_L_x, wr14_F_l, wr14_F_x, wr14_Elem, wr14_Key, wr14_HasKey, w64 (i6 - 1)))
        | some _ => none
    else
      some (.inr (.inl (g3, g4, g5_Kind, g5_N, g5_S, g5_L_l, g5_L_x, g5_F_l, g5_F_x, g5_Elem, g5_Key, g5_HasKey, i6)))
noncomputable def P71x1 (fu : Nat) (a1 : Sl Field) (d0 : ByteArray) (b0 : Option X.Ex) (b2 : Option X.Ex) (b3 : Value) : Option ((Option X.Ex) × (Option X.Ex) × Value) :=
  match a1 with
  | ⟨a1_l, a1_x⟩ =>
    match b3 with
    | ⟨b3_Kind, b3_N, b3_S, ⟨b3_L_l, b3_L_x⟩, ⟨b3_F_l, b3_F_x⟩, b3_Elem, b3_Key, b3_HasKey⟩ =>
      (wl (P71x1_s0 fu d0 a1_l) (b0, b2, b3_Kind, b3_N, b3_S, b3_L_l, b3_L_x, b3_F_l, b3_F_x, b3_Elem, b3_Key, b3_HasKey, w64 ((ln a1_l) - 1))).bind fun q =>
        match q with
        | .inl (o17, o18, o19, o20, o21, o22, o23, o24, o25, o26, o27, o28, o29) =>
          some (o17, o18, (Value.mk o19 o20 o21 (Sl.mk o22 o23) (Sl.mk o24 o25) o26 o27 o28))
        | .inr (o30, o31, o32, o33, o34, o35, o36, o37, o38, o39, o40, o41, o42) =>
          some (o30, o31, (Value.mk o32 o33 o34 (Sl.mk o35 o36) (Sl.mk o37 o38) o39 o40 o41))
/-- tapestry/context.behind$1 -/
noncomputable def P52x1 (fu : Nat) (a1 : Sl Field) (a2 : ByteArray) (b0 : Option X.Ex) (b1 : Value) : Option ((Option X.Ex) × Value) :=
  match a1 with
  | ⟨a1_l, a1_x⟩ =>
    match b1 with
    | ⟨b1_Kind, b1_N, b1_S, ⟨b1_L_l, b1_L_x⟩, ⟨b1_F_l, b1_F_x⟩, b1_Elem, b1_Key, b1_HasKey⟩ =>
      (P71x1 fu (Sl.mk a1_l a1_x) a2 none b0 (Value.mk b1_Kind b1_N b1_S (Sl.mk b1_L_l b1_L_x) (Sl.mk b1_F_l b1_F_x) b1_Elem b1_Key b1_HasKey)).bind fun ⟨wr2, wr3, ⟨wr4_Kind, wr4_N, wr4_S, ⟨wr4_L_l, wr4_L_x⟩, ⟨wr4_F_l, wr4_F_x⟩, wr4_Elem, wr4_Key, wr4_HasKey⟩⟩ =>
        match wr2 with
        | none =>
          some (wr3, (Value.mk wr4_Kind wr4_N wr4_S (Sl.mk wr4_L_l wr4_L_x) (Sl.mk wr4_F_l wr4_F_x) wr4_Elem wr4_Key wr4_HasKey))
        | some .ret =>
          some (wr3, (Value.mk wr4_Kind wr4_N wr4_S (Sl.mk wr4_L_l wr4_L_x) (Sl.mk wr4_F_l wr4_F_x) wr4_Elem wr4_Key wr4_HasKey))
        | _ => none
/-- tapestry/context.Get -/
noncomputable def P9 (fu : Nat) (a0 : Sl Field) (a1 : ByteArray) : Option (Value) :=
  match a0 with
  | ⟨a0_l, a0_x⟩ =>
    (P52x1 fu (Sl.mk a0_l a0_x) a1 none (Value.mk 0 0 ByteArray.empty (Sl.mk [] (some [])) (Sl.mk [] (some [])) 0 ByteArray.empty false)).bind fun ⟨wr2, ⟨wr3_Kind, wr3_N, wr3_S, ⟨wr3_L_l, wr3_L_x⟩, ⟨wr3_F_l, wr3_F_x⟩, wr3_Elem, wr3_Key, wr3_HasKey⟩⟩ =>
      match wr2 with
      | none =>
        some (Value.mk 0 0 ByteArray.empty (Sl.mk [] (some [])) (Sl.mk [] (some [])) 0 ByteArray.empty false)
      | some .ret =>
        some (Value.mk wr3_Kind wr3_N wr3_S (Sl.mk wr3_L_l wr3_L_x) (Sl.mk wr3_F_l wr3_F_x) wr3_Elem wr3_Key wr3_HasKey)
      | _ => none
/-- tapestry/tapestrylaw01.SameValues -/
noncomputable def P27_s0 (fu : Nat) (p8 : Value → Value → Option (Bool)) (a0_l : List Value) (a1_l : List Value) : Int → Option (Int ⊕ (Int ⊕ Int))
  | i6 =>
    bif decide (i6 < (ln a0_l)) then
      (idx a0_l i6).bind fun ⟨x10_Kind, x10_N, x10_S, ⟨x10_L_l, x10_L_x⟩, ⟨x10_F_l, x10_F_x⟩, x10_Elem, x10_Key, x10_HasKey⟩ =>
        (idx a1_l i6).bind fun ⟨x12_Kind, x12_N, x12_S, ⟨x12_L_l, x12_L_x⟩, ⟨x12_F_l, x12_F_x⟩, x12_Elem, x12_Key, x12_HasKey⟩ =>
          (p8 (Value.mk x10_Kind x10_N x10_S (Sl.mk x10_L_l x10_L_x) (Sl.mk x10_F_l x10_F_x) x10_Elem x10_Key x10_HasKey) (Value.mk x12_Kind x12_N x12_S (Sl.mk x12_L_l x12_L_x) (Sl.mk x12_F_l x12_F_x) x12_Elem x12_Key x12_HasKey)).bind fun r14 =>
            bif !r14 then
              some (.inr (.inr i6))
            else
              some (.inl (w64 (i6 + 1)))
    else
      some (.inr (.inl i6))
noncomputable def Pb27 (fu : Nat) (p27 : (Sl Value) → (Sl Value) → Option (Bool)) (p28 : (Sl Field) → (Sl Field) → Option (Bool)) (p51 : Field → Field → Option (Bool)) (p8 : Value → Value → Option (Bool)) (a0 : Sl Value) (a1 : Sl Value) : Option (Bool) :=
  match a0 with
  | ⟨a0_l, a0_x⟩ =>
    match a1 with
    | ⟨a1_l, a1_x⟩ =>
      bif !((ln a0_l) == (ln a1_l)) then
        some false
      else
        (wl (P27_s0 fu p8 a0_l a1_l) 0).bind fun q =>
          match q with
          | .inl o18 =>
            some true
          | .inr o19 =>
            some false
/-- tapestry/tapestrylaw01.SameFields -/
noncomputable def P28_s0 (fu : Nat) (p51 : Field → Field → Option (Bool)) (a0_l : List Field) (a1_l : List Field) : Int → Option (Int ⊕ (Int ⊕ Int))
  | i6 =>
    bif decide (i6 < (ln a0_l)) then
      (idx a0_l i6).bind fun ⟨x10_Name, ⟨x10_Value__Kind, x10_Value__N, x10_Value__S, ⟨x10_Value__L_l, x10_Value__L_x⟩, ⟨x10_Value__F_l, x10_Value__F_x⟩, x10_Value__Elem, x10_Value__Key, x10_Value__HasKey⟩⟩ =>
        (idx a1_l i6).bind fun ⟨x12_Name, ⟨x12_Value__Kind, x12_Value__N, x12_Value__S, ⟨x12_Value__L_l, x12_Value__L_x⟩, ⟨x12_Value__F_l, x12_Value__F_x⟩, x12_Value__Elem, x12_Value__Key, x12_Value__HasKey⟩⟩ =>
          (p51 (Field.mk x10_Name (Value.mk x10_Value__Kind x10_Value__N x10_Value__S (Sl.mk x10_Value__L_l x10_Value__L_x) (Sl.mk x10_Value__F_l x10_Value__F_x) x10_Value__Elem x10_Value__Key x10_Value__HasKey)) (Field.mk x12_Name (Value.mk x12_Value__Kind x12_Value__N x12_Value__S (Sl.mk x12_Value__L_l x12_Value__L_x) (Sl.mk x12_Value__F_l x12_Value__F_x) x12_Value__Elem x12_Value__Key x12_Value__HasKey))).bind fun r14 =>
            bif !r14 then
              some (.inr (.inr i6))
            else
              some (.inl (w64 (i6 + 1)))
    else
      some (.inr (.inl i6))
noncomputable def Pb28 (fu : Nat) (p27 : (Sl Value) → (Sl Value) → Option (Bool)) (p28 : (Sl Field) → (Sl Field) → Option (Bool)) (p51 : Field → Field → Option (Bool)) (p8 : Value → Value → Option (Bool)) (a0 : Sl Field) (a1 : Sl Field) : Option (Bool) :=
  match a0 with
  | ⟨a0_l, a0_x⟩ =>
    match a1 with
    | ⟨a1_l, a1_x⟩ =>
      bif !((ln a0_l) == (ln a1_l)) then
        some false
      else
        (wl (P28_s0 fu p51 a0_l a1_l) 0).bind fun q =>
          match q with
          | .inl o18 =>
            some true
          | .inr o19 =>
            some false
/-- tapestry/tapestrylaw01.SameField -/
noncomputable def Pb51 (fu : Nat) (p27 : (Sl Value) → (Sl Value) → Option (Bool)) (p28 : (Sl Field) → (Sl Field) → Option (Bool)) (p51 : Field → Field → Option (Bool)) (p8 : Value → Value → Option (Bool)) (a0 : Field) (a1 : Field) : Option (Bool) :=
  match a0 with
  | ⟨a0_Name, ⟨a0_Value__Kind, a0_Value__N, a0_Value__S, ⟨a0_Value__L_l, a0_Value__L_x⟩, ⟨a0_Value__F_l, a0_Value__F_x⟩, a0_Value__Elem, a0_Value__Key, a0_Value__HasKey⟩⟩ =>
    match a1 with
    | ⟨a1_Name, ⟨a1_Value__Kind, a1_Value__N, a1_Value__S, ⟨a1_Value__L_l, a1_Value__L_x⟩, ⟨a1_Value__F_l, a1_Value__F_x⟩, a1_Value__Elem, a1_Value__Key, a1_Value__HasKey⟩⟩ =>
      (
        bif seq a0_Name a1_Name then
          (p8 (Value.mk a0_Value__Kind a0_Value__N a0_Value__S (Sl.mk a0_Value__L_l a0_Value__L_x) (Sl.mk a0_Value__F_l a0_Value__F_x) a0_Value__Elem a0_Value__Key a0_Value__HasKey) (Value.mk a1_Value__Kind a1_Value__N a1_Value__S (Sl.mk a1_Value__L_l a1_Value__L_x) (Sl.mk a1_Value__F_l a1_Value__F_x) a1_Value__Elem a1_Value__Key a1_Value__HasKey)).bind fun r2 =>
            some r2
        else
          some false
      ).bind fun (q : Bool) =>
        match q with
        | i4 =>
          some i4
/-- tapestry/tapestrylaw01.SameValue -/
noncomputable def Pb8 (fu : Nat) (p27 : (Sl Value) → (Sl Value) → Option (Bool)) (p28 : (Sl Field) → (Sl Field) → Option (Bool)) (p51 : Field → Field → Option (Bool)) (p8 : Value → Value → Option (Bool)) (a0 : Value) (a1 : Value) : Option (Bool) :=
  match a0 with
  | ⟨a0_Kind, a0_N, a0_S, ⟨a0_L_l, a0_L_x⟩, ⟨a0_F_l, a0_F_x⟩, a0_Elem, a0_Key, a0_HasKey⟩ =>
    match a1 with
    | ⟨a1_Kind, a1_N, a1_S, ⟨a1_L_l, a1_L_x⟩, ⟨a1_F_l, a1_F_x⟩, a1_Elem, a1_Key, a1_HasKey⟩ =>
      (
        bif a0_Kind == a1_Kind then
          bif a0_N == a1_N then
            bif seq a0_S a1_S then
              (p27 (Sl.mk a0_L_l a0_L_x) (Sl.mk a1_L_l a1_L_x)).bind fun r4 =>
                bif r4 then
                  (p28 (Sl.mk a0_F_l a0_F_x) (Sl.mk a1_F_l a1_F_x)).bind fun r7 =>
                    bif r7 then
                      bif a0_Elem == a1_Elem then
                        bif seq a0_Key a1_Key then
                          some (a0_HasKey == a1_HasKey)
                        else
                          some false
                      else
                        some false
                    else
                      some false
                else
                  some false
            else
              some false
          else
            some false
        else
          some false
      ).bind fun (q : Bool) =>
        match q with
        | i12 =>
          some i12
mutual
noncomputable def P27 : Nat → (Sl Value) → (Sl Value) → Option (Bool)
  | 0 => fun _ _ => none
  | fu + 1 => fun a0 a1 => Pb27 fu (P27 fu) (P28 fu) (P51 fu) (P8 fu) a0 a1
noncomputable def P28 : Nat → (Sl Field) → (Sl Field) → Option (Bool)
  | 0 => fun _ _ => none
  | fu + 1 => fun a0 a1 => Pb28 fu (P27 fu) (P28 fu) (P51 fu) (P8 fu) a0 a1
noncomputable def P51 : Nat → Field → Field → Option (Bool)
  | 0 => fun _ _ => none
  | fu + 1 => fun a0 a1 => Pb51 fu (P27 fu) (P28 fu) (P51 fu) (P8 fu) a0 a1
noncomputable def P8 : Nat → Value → Value → Option (Bool)
  | 0 => fun _ _ => none
  | fu + 1 => fun a0 a1 => Pb8 fu (P27 fu) (P28 fu) (P51 fu) (P8 fu) a0 a1
end
/-- tapestry/tapestrylaw14.lives -/
noncomputable def P10 (fu : Nat) : Option (Bool) :=
  some true
/-- tapestry/tapestrylaw14.ContextGets -/
noncomputable def P3 (fu : Nat) (a0 : Sl Field) (a1 : ByteArray) (a2 : ByteArray) : Option (Bool) :=
  match a0 with
  | ⟨a0_l, a0_x⟩ =>
    (P7 fu (Sl.mk a0_l a0_x) a1 (Value.mk 3 0 (⟨#[110, 101, 119]⟩ : ByteArray) (Sl.mk [] (some [])) (Sl.mk [] (some [])) 0 ByteArray.empty false)).bind fun ⟨r1_l, r1_x⟩ =>
      (P9 fu (Sl.mk r1_l r1_x) a1).bind fun ⟨r3_Kind, r3_N, r3_S, ⟨r3_L_l, r3_L_x⟩, ⟨r3_F_l, r3_F_x⟩, r3_Elem, r3_Key, r3_HasKey⟩ =>
        (P8 fu (Value.mk r3_Kind r3_N r3_S (Sl.mk r3_L_l r3_L_x) (Sl.mk r3_F_l r3_F_x) r3_Elem r3_Key r3_HasKey) (Value.mk 3 0 (⟨#[110, 101, 119]⟩ : ByteArray) (Sl.mk [] (some [])) (Sl.mk [] (some [])) 0 ByteArray.empty false)).bind fun r5 =>
          bif !r5 then
            some false
          else
            (
              bif !(seq a2 a1) then
                (P9 fu (Sl.mk r1_l r1_x) a2).bind fun ⟨r9_Kind, r9_N, r9_S, ⟨r9_L_l, r9_L_x⟩, ⟨r9_F_l, r9_F_x⟩, r9_Elem, r9_Key, r9_HasKey⟩ =>
                  (P9 fu (Sl.mk a0_l a0_x) a2).bind fun ⟨r11_Kind, r11_N, r11_S, ⟨r11_L_l, r11_L_x⟩, ⟨r11_F_l, r11_F_x⟩, r11_Elem, r11_Key, r11_HasKey⟩ =>
                    (P8 fu (Value.mk r9_Kind r9_N r9_S (Sl.mk r9_L_l r9_L_x) (Sl.mk r9_F_l r9_F_x) r9_Elem r9_Key r9_HasKey) (Value.mk r11_Kind r11_N r11_S (Sl.mk r11_L_l r11_L_x) (Sl.mk r11_F_l r11_F_x) r11_Elem r11_Key r11_HasKey)).bind fun r13 =>
                      bif r13 then
                        (P10 fu).bind fun r16 =>
                          some r16
                      else
                        some false
              else
                (P10 fu).bind fun r18 =>
                  some r18
            ).bind fun (q : Bool) =>
              match q with
              | i20 =>
                some i20
end Go.Proofs.Ytipkggkbldgmjaa
