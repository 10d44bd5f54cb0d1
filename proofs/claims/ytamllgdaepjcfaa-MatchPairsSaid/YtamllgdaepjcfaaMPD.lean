/- Functions on plain data: printed by a small program. -/
import Derived.Test.YtamllgdaepjcfaaMPE
namespace Go.Proofs.Ytamllgdaepjcfaa
open Go Go.X
set_option linter.unusedVariables false
set_option linter.unusedSimpArgs false
set_option maxRecDepth 100000
/-- tapestry/norm.Alike -/
noncomputable def P17 (fu : Nat) (a0 : Child) (a1 : Child) : Option (Bool) :=
  match a0 with
  | ⟨a0_Key, a0_Kind, a0_Name, ⟨a0_Value_Kind, a0_Value_N, a0_Value_S, ⟨a0_Value_L_l, a0_Value_L_x⟩, ⟨a0_Value_F_l, a0_Value_F_x⟩, a0_Value_Elem, a0_Value_Key, a0_Value_HasKey⟩⟩ =>
    match a1 with
    | ⟨a1_Key, a1_Kind, a1_Name, ⟨a1_Value_Kind, a1_Value_N, a1_Value_S, ⟨a1_Value_L_l, a1_Value_L_x⟩, ⟨a1_Value_F_l, a1_Value_F_x⟩, a1_Value_Elem, a1_Value_Key, a1_Value_HasKey⟩⟩ =>
      bif a0_Kind == a1_Kind then
        some (seq a0_Name a1_Name)
      else
        some false
/-- tapestry/match.Match -/
noncomputable def P26_s0 (fu : Nat) (a0_l : List Child) : ((List (ByteArray × Int)) × Int) → Option (((List (ByteArray × Int)) × Int) ⊕ (((List (ByteArray × Int)) × Int)))
  | (m7, i8) =>
    bif decide (0 ≤ i8) then
      (idx a0_l i8).bind fun ⟨x10_Key, x10_Kind, x10_Name, ⟨x10_Value_Kind, x10_Value_N, x10_Value_S, ⟨x10_Value_L_l, x10_Value_L_x⟩, ⟨x10_Value_F_l, x10_Value_F_x⟩, x10_Value_Elem, x10_Value_Key, x10_Value_HasKey⟩⟩ =>
        some (.inl ((mset m7 x10_Key i8), w64 (i8 - 1)))
    else
      some (.inr (m7, i8))
noncomputable def P26_s1 (fu : Nat) (a0_l : List Child) (a1_l : List Child) : ((List Int) × (List (ByteArray × Int)) × Int) → Option (((List Int) × (List (ByteArray × Int)) × Int) ⊕ (((List Int) × (List (ByteArray × Int)) × Int)))
  | (l19, m20, i21) =>
    bif decide (i21 < (ln a1_l)) then
      (idx a1_l i21).bind fun ⟨x23_Key, x23_Kind, x23_Name, ⟨x23_Value_Kind, x23_Value_N, x23_Value_S, ⟨x23_Value_L_l, x23_Value_L_x⟩, ⟨x23_Value_F_l, x23_Value_F_x⟩, x23_Value_Elem, x23_Value_Key, x23_Value_HasKey⟩⟩ =>
        (
        match mget m20 x23_Key with
        | none =>
          bif room 8 (ln (l19 ++ [(-1)])) then
            some (.inl ((l19 ++ [(-1)]), m20, w64 (i21 + 1)))
          else none
        | some x25 =>
          (idx a0_l x25).bind fun ⟨x32_Key, x32_Kind, x32_Name, ⟨x32_Value_Kind, x32_Value_N, x32_Value_S, ⟨x32_Value_L_l, x32_Value_L_x⟩, ⟨x32_Value_F_l, x32_Value_F_x⟩, x32_Value_Elem, x32_Value_Key, x32_Value_HasKey⟩⟩ =>
            (P17 fu (Child.mk x32_Key x32_Kind x32_Name (Value.mk x32_Value_Kind x32_Value_N x32_Value_S (Sl.mk x32_Value_L_l x32_Value_L_x) (Sl.mk x32_Value_F_l x32_Value_F_x) x32_Value_Elem x32_Value_Key x32_Value_HasKey)) (Child.mk x23_Key x23_Kind x23_Name (Value.mk x23_Value_Kind x23_Value_N x23_Value_S (Sl.mk x23_Value_L_l x23_Value_L_x) (Sl.mk x23_Value_F_l x23_Value_F_x) x23_Value_Elem x23_Value_Key x23_Value_HasKey))).bind fun r34 =>
              bif !r34 then
                bif room 8 (ln (l19 ++ [(-1)])) then
                  some (.inl ((l19 ++ [(-1)]), m20, w64 (i21 + 1)))
                else none
              else
                bif room 8 (ln (l19 ++ [x25])) then
                  some (.inl ((l19 ++ [x25]), (mrem m20 x23_Key), w64 (i21 + 1)))
                else none
        )
    else
      some (.inr (l19, m20, i21))
noncomputable def P26 (fu : Nat) (a0 : Sl Child) (a1 : Sl Child) : Option (Sl Int) :=
  match a0 with
  | ⟨a0_l, a0_x⟩ =>
    match a1 with
    | ⟨a1_l, a1_x⟩ =>
      (wl (P26_s0 fu a0_l) (([] : List (ByteArray × Int)), w64 ((ln a0_l) - 1))).bind fun q =>
        match q with
        | (o15, o16) =>
          (wl (P26_s1 fu a0_l a1_l) (([] : List Int), o15, 0)).bind fun q =>
            match q with
            | (o50, o51, o52) =>
              some (Sl.mk o50 none)
/-- tapestry/tapestrylaw01.SameInts -/
noncomputable def P45_s0 (fu : Nat) (a0_l : List Int) (a1_l : List Int) : Int → Option (Int ⊕ (Int ⊕ Int))
  | i6 =>
    bif decide (i6 < (ln a0_l)) then
      (idx a0_l i6).bind fun x10 =>
        (idx a1_l i6).bind fun x12 =>
          bif !(x10 == x12) then
            some (.inr (.inr i6))
          else
            some (.inl (w64 (i6 + 1)))
    else
      some (.inr (.inl i6))
noncomputable def P45 (fu : Nat) (a0 : Sl Int) (a1 : Sl Int) : Option (Bool) :=
  match a0 with
  | ⟨a0_l, a0_x⟩ =>
    match a1 with
    | ⟨a1_l, a1_x⟩ =>
      bif !((ln a0_l) == (ln a1_l)) then
        some false
      else
        (wl (P45_s0 fu a0_l a1_l) 0).bind fun q =>
          match q with
          | .inl o16 =>
            some true
          | .inr o17 =>
            some false
/-- tapestry/tapestrylaw08.child -/
noncomputable def P51 (fu : Nat) (a0 : ByteArray) (a1 : Int) : Option (Child) :=
  some (Child.mk a0 a1 ByteArray.empty (Value.mk 0 0 ByteArray.empty (Sl.mk [] (some [])) (Sl.mk [] (some [])) 0 ByteArray.empty false))
/-- tapestry/tapestrylaw08.alive -/
noncomputable def P24 (fu : Nat)  : Option (Bool) :=
  (P51 fu (⟨#[107, 58, 120]⟩ : ByteArray) 1).bind fun ⟨r1_Key, r1_Kind, r1_Name, ⟨r1_Value_Kind, r1_Value_N, r1_Value_S, ⟨r1_Value_L_l, r1_Value_L_x⟩, ⟨r1_Value_F_l, r1_Value_F_x⟩, r1_Value_Elem, r1_Value_Key, r1_Value_HasKey⟩⟩ =>
    (P51 fu (⟨#[107, 58, 121]⟩ : ByteArray) 1).bind fun ⟨r3_Key, r3_Kind, r3_Name, ⟨r3_Value_Kind, r3_Value_N, r3_Value_S, ⟨r3_Value_L_l, r3_Value_L_x⟩, ⟨r3_Value_F_l, r3_Value_F_x⟩, r3_Value_Elem, r3_Value_Key, r3_Value_HasKey⟩⟩ =>
      (P51 fu (⟨#[107, 58, 121]⟩ : ByteArray) 1).bind fun ⟨r5_Key, r5_Kind, r5_Name, ⟨r5_Value_Kind, r5_Value_N, r5_Value_S, ⟨r5_Value_L_l, r5_Value_L_x⟩, ⟨r5_Value_F_l, r5_Value_F_x⟩, r5_Value_Elem, r5_Value_Key, r5_Value_HasKey⟩⟩ =>
        (P51 fu (⟨#[105, 58, 49]⟩ : ByteArray) 1).bind fun ⟨r7_Key, r7_Kind, r7_Name, ⟨r7_Value_Kind, r7_Value_N, r7_Value_S, ⟨r7_Value_L_l, r7_Value_L_x⟩, ⟨r7_Value_F_l, r7_Value_F_x⟩, r7_Value_Elem, r7_Value_Key, r7_Value_HasKey⟩⟩ =>
          (P51 fu (⟨#[107, 58, 120]⟩ : ByteArray) 2).bind fun ⟨r9_Key, r9_Kind, r9_Name, ⟨r9_Value_Kind, r9_Value_N, r9_Value_S, ⟨r9_Value_L_l, r9_Value_L_x⟩, ⟨r9_Value_F_l, r9_Value_F_x⟩, r9_Value_Elem, r9_Value_Key, r9_Value_HasKey⟩⟩ =>
            (P26 fu (Sl.mk [(Child.mk r1_Key r1_Kind r1_Name (Value.mk r1_Value_Kind r1_Value_N r1_Value_S (Sl.mk r1_Value_L_l r1_Value_L_x) (Sl.mk r1_Value_F_l r1_Value_F_x) r1_Value_Elem r1_Value_Key r1_Value_HasKey)), (Child.mk r3_Key r3_Kind r3_Name (Value.mk r3_Value_Kind r3_Value_N r3_Value_S (Sl.mk r3_Value_L_l r3_Value_L_x) (Sl.mk r3_Value_F_l r3_Value_F_x) r3_Value_Elem r3_Value_Key r3_Value_HasKey))] (some [])) (Sl.mk [(Child.mk r5_Key r5_Kind r5_Name (Value.mk r5_Value_Kind r5_Value_N r5_Value_S (Sl.mk r5_Value_L_l r5_Value_L_x) (Sl.mk r5_Value_F_l r5_Value_F_x) r5_Value_Elem r5_Value_Key r5_Value_HasKey)), (Child.mk r7_Key r7_Kind r7_Name (Value.mk r7_Value_Kind r7_Value_N r7_Value_S (Sl.mk r7_Value_L_l r7_Value_L_x) (Sl.mk r7_Value_F_l r7_Value_F_x) r7_Value_Elem r7_Value_Key r7_Value_HasKey)), (Child.mk r9_Key r9_Kind r9_Name (Value.mk r9_Value_Kind r9_Value_N r9_Value_S (Sl.mk r9_Value_L_l r9_Value_L_x) (Sl.mk r9_Value_F_l r9_Value_F_x) r9_Value_Elem r9_Value_Key r9_Value_HasKey))] (some []))).bind fun ⟨r11_l, r11_x⟩ =>
              (P45 fu (Sl.mk r11_l r11_x) (Sl.mk [1, (-1), (-1)] (some []))).bind fun r13 =>
                bif r13 then
                  bif decide (0 ≤ 0) then
                    bif decide (0 ≤ 1) then
                      bif decide (1 ≤ ln ([(Child.mk r1_Key r1_Kind r1_Name (Value.mk r1_Value_Kind r1_Value_N r1_Value_S (Sl.mk r1_Value_L_l r1_Value_L_x) (Sl.mk r1_Value_F_l r1_Value_F_x) r1_Value_Elem r1_Value_Key r1_Value_HasKey)), (Child.mk r3_Key r3_Kind r3_Name (Value.mk r3_Value_Kind r3_Value_N r3_Value_S (Sl.mk r3_Value_L_l r3_Value_L_x) (Sl.mk r3_Value_F_l r3_Value_F_x) r3_Value_Elem r3_Value_Key r3_Value_HasKey))] ++ [])) then
                        (idx [(Child.mk r1_Key r1_Kind r1_Name (Value.mk r1_Value_Kind r1_Value_N r1_Value_S (Sl.mk r1_Value_L_l r1_Value_L_x) (Sl.mk r1_Value_F_l r1_Value_F_x) r1_Value_Elem r1_Value_Key r1_Value_HasKey)), (Child.mk r3_Key r3_Kind r3_Name (Value.mk r3_Value_Kind r3_Value_N r3_Value_S (Sl.mk r3_Value_L_l r3_Value_L_x) (Sl.mk r3_Value_F_l r3_Value_F_x) r3_Value_Elem r3_Value_Key r3_Value_HasKey))] 0).bind fun ⟨x29_Key, x29_Kind, x29_Name, ⟨x29_Value_Kind, x29_Value_N, x29_Value_S, ⟨x29_Value_L_l, x29_Value_L_x⟩, ⟨x29_Value_F_l, x29_Value_F_x⟩, x29_Value_Elem, x29_Value_Key, x29_Value_HasKey⟩⟩ =>
                          (idx [(Child.mk r1_Key r1_Kind r1_Name (Value.mk r1_Value_Kind r1_Value_N r1_Value_S (Sl.mk r1_Value_L_l r1_Value_L_x) (Sl.mk r1_Value_F_l r1_Value_F_x) r1_Value_Elem r1_Value_Key r1_Value_HasKey)), (Child.mk r3_Key r3_Kind r3_Name (Value.mk r3_Value_Kind r3_Value_N r3_Value_S (Sl.mk r3_Value_L_l r3_Value_L_x) (Sl.mk r3_Value_F_l r3_Value_F_x) r3_Value_Elem r3_Value_Key r3_Value_HasKey))] 0).bind fun ⟨x31_Key, x31_Kind, x31_Name, ⟨x31_Value_Kind, x31_Value_N, x31_Value_S, ⟨x31_Value_L_l, x31_Value_L_x⟩, ⟨x31_Value_F_l, x31_Value_F_x⟩, x31_Value_Elem, x31_Value_Key, x31_Value_HasKey⟩⟩ =>
                            (P26 fu (Sl.mk (cut ([(Child.mk r1_Key r1_Kind r1_Name (Value.mk r1_Value_Kind r1_Value_N r1_Value_S (Sl.mk r1_Value_L_l r1_Value_L_x) (Sl.mk r1_Value_F_l r1_Value_F_x) r1_Value_Elem r1_Value_Key r1_Value_HasKey)), (Child.mk r3_Key r3_Kind r3_Name (Value.mk r3_Value_Kind r3_Value_N r3_Value_S (Sl.mk r3_Value_L_l r3_Value_L_x) (Sl.mk r3_Value_F_l r3_Value_F_x) r3_Value_Elem r3_Value_Key r3_Value_HasKey))] ++ []) 0 1) (some (cut ([(Child.mk r1_Key r1_Kind r1_Name (Value.mk r1_Value_Kind r1_Value_N r1_Value_S (Sl.mk r1_Value_L_l r1_Value_L_x) (Sl.mk r1_Value_F_l r1_Value_F_x) r1_Value_Elem r1_Value_Key r1_Value_HasKey)), (Child.mk r3_Key r3_Kind r3_Name (Value.mk r3_Value_Kind r3_Value_N r3_Value_S (Sl.mk r3_Value_L_l r3_Value_L_x) (Sl.mk r3_Value_F_l r3_Value_F_x) r3_Value_Elem r3_Value_Key r3_Value_HasKey))] ++ []) 1 (ln ([(Child.mk r1_Key r1_Kind r1_Name (Value.mk r1_Value_Kind r1_Value_N r1_Value_S (Sl.mk r1_Value_L_l r1_Value_L_x) (Sl.mk r1_Value_F_l r1_Value_F_x) r1_Value_Elem r1_Value_Key r1_Value_HasKey)), (Child.mk r3_Key r3_Kind r3_Name (Value.mk r3_Value_Kind r3_Value_N r3_Value_S (Sl.mk r3_Value_L_l r3_Value_L_x) (Sl.mk r3_Value_F_l r3_Value_F_x) r3_Value_Elem r3_Value_Key r3_Value_HasKey))] ++ []))))) (Sl.mk [(Child.mk x29_Key x29_Kind x29_Name (Value.mk x29_Value_Kind x29_Value_N x29_Value_S (Sl.mk x29_Value_L_l x29_Value_L_x) (Sl.mk x29_Value_F_l x29_Value_F_x) x29_Value_Elem x29_Value_Key x29_Value_HasKey)), (Child.mk x31_Key x31_Kind x31_Name (Value.mk x31_Value_Kind x31_Value_N x31_Value_S (Sl.mk x31_Value_L_l x31_Value_L_x) (Sl.mk x31_Value_F_l x31_Value_F_x) x31_Value_Elem x31_Value_Key x31_Value_HasKey))] (some []))).bind fun ⟨r33_l, r33_x⟩ =>
                              (P45 fu (Sl.mk r33_l r33_x) (Sl.mk [0, (-1)] (some []))).bind fun r35 =>
                                bif r35 then
                                  (P26 fu (Sl.mk [(Child.mk r1_Key r1_Kind r1_Name (Value.mk r1_Value_Kind r1_Value_N r1_Value_S (Sl.mk r1_Value_L_l r1_Value_L_x) (Sl.mk r1_Value_F_l r1_Value_F_x) r1_Value_Elem r1_Value_Key r1_Value_HasKey)), (Child.mk r3_Key r3_Kind r3_Name (Value.mk r3_Value_Kind r3_Value_N r3_Value_S (Sl.mk r3_Value_L_l r3_Value_L_x) (Sl.mk r3_Value_F_l r3_Value_F_x) r3_Value_Elem r3_Value_Key r3_Value_HasKey))] (some [])) (Sl.mk [] (some []))).bind fun ⟨r38_l, r38_x⟩ =>
                                    some ((ln r38_l) == 0)
                                else
                                  some false
                      else none
                    else none
                  else none
                else
                  some false
/-- tapestry/tapestrylaw01.Beyond -/
noncomputable def P19_s0 (fu : Nat) (a0_l : List Int) : (Bool × Int × Int) → Option ((Bool × Int × Int) ⊕ ((Bool × Int × Int) ⊕ (Bool × Int × Int)))
  | (i1, i2, i3) =>
    bif decide (i3 < (ln a0_l)) then
      (idx a0_l i3).bind fun x7 =>
        bif decide (1048576 < (w64 (i2 + x7))) then
          some (.inr (.inr (true, w64 (i2 + x7), i3)))
        else
          some (.inl (i1, w64 (i2 + x7), w64 (i3 + 1)))
    else
      some (.inr (.inl (i1, i2, i3)))
noncomputable def P19 (fu : Nat) (a0 : Sl Int) : Option (Bool) :=
  match a0 with
  | ⟨a0_l, a0_x⟩ =>
    (wl (P19_s0 fu a0_l) (false, 0, 0)).bind fun q =>
      match q with
      | .inl (o11, o12, o13) =>
        some false
      | .inr (o14, o15, o16) =>
        some o14
/-- tapestry/tapestrylaw01.ValueSize -/
noncomputable def Pb28 (fu : Nat) (p28 : Value → Option (Int)) (p53 : (Sl Value) → Option (Int)) (p54 : (Sl Field) → Option (Int)) (p66 : Field → Option (Int)) (a0 : Value) : Option (Int) :=
  match a0 with
  | ⟨a0_Kind, a0_N, a0_S, ⟨a0_L_l, a0_L_x⟩, ⟨a0_F_l, a0_F_x⟩, a0_Elem, a0_Key, a0_HasKey⟩ =>
    bif decide ((w64 ((w64 (1 + (a0_S.size : Int))) + (a0_Key.size : Int))) ≤ 1048576) then
      (p53 (Sl.mk a0_L_l a0_L_x)).bind fun r2 =>
        bif decide ((w64 ((w64 ((w64 (1 + (a0_S.size : Int))) + (a0_Key.size : Int))) + r2)) ≤ 1048576) then
          (p54 (Sl.mk a0_F_l a0_F_x)).bind fun r5 =>
            some (w64 ((w64 ((w64 ((w64 (1 + (a0_S.size : Int))) + (a0_Key.size : Int))) + r2)) + r5))
        else
          some (w64 ((w64 ((w64 (1 + (a0_S.size : Int))) + (a0_Key.size : Int))) + r2))
    else
      bif decide ((w64 ((w64 (1 + (a0_S.size : Int))) + (a0_Key.size : Int))) ≤ 1048576) then
        (p54 (Sl.mk a0_F_l a0_F_x)).bind fun r8 =>
          some (w64 ((w64 ((w64 (1 + (a0_S.size : Int))) + (a0_Key.size : Int))) + r8))
      else
        some (w64 ((w64 (1 + (a0_S.size : Int))) + (a0_Key.size : Int)))
/-- tapestry/tapestrylaw01.ValuesSize -/
noncomputable def P53_s0 (fu : Nat) (p28 : Value → Option (Int)) (a0_l : List Value) : (Int × Int) → Option ((Int × Int) ⊕ ((Int × Int)))
  | (i3, i4) =>
    bif decide (i4 < (ln a0_l)) then
      bif decide (i3 ≤ 1048576) then
        (idx a0_l i4).bind fun ⟨x9_Kind, x9_N, x9_S, ⟨x9_L_l, x9_L_x⟩, ⟨x9_F_l, x9_F_x⟩, x9_Elem, x9_Key, x9_HasKey⟩ =>
          (p28 (Value.mk x9_Kind x9_N x9_S (Sl.mk x9_L_l x9_L_x) (Sl.mk x9_F_l x9_F_x) x9_Elem x9_Key x9_HasKey)).bind fun r11 =>
            some (.inl (w64 (i3 + r11), w64 (i4 + 1)))
      else
        some (.inr (i3, i4))
    else
      some (.inr (i3, i4))
noncomputable def Pb53 (fu : Nat) (p28 : Value → Option (Int)) (p53 : (Sl Value) → Option (Int)) (p54 : (Sl Field) → Option (Int)) (p66 : Field → Option (Int)) (a0 : Sl Value) : Option (Int) :=
  match a0 with
  | ⟨a0_l, a0_x⟩ =>
    (wl (P53_s0 fu p28 a0_l) (ln a0_l, 0)).bind fun q =>
      match q with
      | (o14, o15) =>
        some o14
/-- tapestry/tapestrylaw01.FieldsSize -/
noncomputable def P54_s0 (fu : Nat) (p66 : Field → Option (Int)) (a0_l : List Field) : (Int × Int) → Option ((Int × Int) ⊕ ((Int × Int)))
  | (i3, i4) =>
    bif decide (i4 < (ln a0_l)) then
      bif decide (i3 ≤ 1048576) then
        (idx a0_l i4).bind fun ⟨x9_Name, ⟨x9_Value_Kind, x9_Value_N, x9_Value_S, ⟨x9_Value_L_l, x9_Value_L_x⟩, ⟨x9_Value_F_l, x9_Value_F_x⟩, x9_Value_Elem, x9_Value_Key, x9_Value_HasKey⟩⟩ =>
          (p66 (Field.mk x9_Name (Value.mk x9_Value_Kind x9_Value_N x9_Value_S (Sl.mk x9_Value_L_l x9_Value_L_x) (Sl.mk x9_Value_F_l x9_Value_F_x) x9_Value_Elem x9_Value_Key x9_Value_HasKey))).bind fun r11 =>
            some (.inl (w64 (i3 + r11), w64 (i4 + 1)))
      else
        some (.inr (i3, i4))
    else
      some (.inr (i3, i4))
noncomputable def Pb54 (fu : Nat) (p28 : Value → Option (Int)) (p53 : (Sl Value) → Option (Int)) (p54 : (Sl Field) → Option (Int)) (p66 : Field → Option (Int)) (a0 : Sl Field) : Option (Int) :=
  match a0 with
  | ⟨a0_l, a0_x⟩ =>
    (wl (P54_s0 fu p66 a0_l) (ln a0_l, 0)).bind fun q =>
      match q with
      | (o14, o15) =>
        some o14
/-- tapestry/tapestrylaw01.FieldSize -/
noncomputable def Pb66 (fu : Nat) (p28 : Value → Option (Int)) (p53 : (Sl Value) → Option (Int)) (p54 : (Sl Field) → Option (Int)) (p66 : Field → Option (Int)) (a0 : Field) : Option (Int) :=
  match a0 with
  | ⟨a0_Name, ⟨a0_Value_Kind, a0_Value_N, a0_Value_S, ⟨a0_Value_L_l, a0_Value_L_x⟩, ⟨a0_Value_F_l, a0_Value_F_x⟩, a0_Value_Elem, a0_Value_Key, a0_Value_HasKey⟩⟩ =>
    bif decide ((w64 (1 + (a0_Name.size : Int))) ≤ 1048576) then
      (p28 (Value.mk a0_Value_Kind a0_Value_N a0_Value_S (Sl.mk a0_Value_L_l a0_Value_L_x) (Sl.mk a0_Value_F_l a0_Value_F_x) a0_Value_Elem a0_Value_Key a0_Value_HasKey)).bind fun r2 =>
        some (w64 ((w64 (1 + (a0_Name.size : Int))) + r2))
    else
      some (w64 (1 + (a0_Name.size : Int)))
mutual
noncomputable def P28 : Nat → Value → Option (Int)
  | 0 => fun _ => none
  | fu + 1 => fun a0 => Pb28 fu (P28 fu) (P53 fu) (P54 fu) (P66 fu) a0
noncomputable def P53 : Nat → (Sl Value) → Option (Int)
  | 0 => fun _ => none
  | fu + 1 => fun a0 => Pb53 fu (P28 fu) (P53 fu) (P54 fu) (P66 fu) a0
noncomputable def P54 : Nat → (Sl Field) → Option (Int)
  | 0 => fun _ => none
  | fu + 1 => fun a0 => Pb54 fu (P28 fu) (P53 fu) (P54 fu) (P66 fu) a0
noncomputable def P66 : Nat → Field → Option (Int)
  | 0 => fun _ => none
  | fu + 1 => fun a0 => Pb66 fu (P28 fu) (P53 fu) (P54 fu) (P66 fu) a0
end
/-- tapestry/tapestrylaw01.ChildSize -/
noncomputable def P65 (fu : Nat) (a0 : Child) : Option (Int) :=
  match a0 with
  | ⟨a0_Key, a0_Kind, a0_Name, ⟨a0_Value_Kind, a0_Value_N, a0_Value_S, ⟨a0_Value_L_l, a0_Value_L_x⟩, ⟨a0_Value_F_l, a0_Value_F_x⟩, a0_Value_Elem, a0_Value_Key, a0_Value_HasKey⟩⟩ =>
    bif decide ((w64 ((w64 (1 + (a0_Key.size : Int))) + (a0_Name.size : Int))) ≤ 1048576) then
      (P28 fu (Value.mk a0_Value_Kind a0_Value_N a0_Value_S (Sl.mk a0_Value_L_l a0_Value_L_x) (Sl.mk a0_Value_F_l a0_Value_F_x) a0_Value_Elem a0_Value_Key a0_Value_HasKey)).bind fun r2 =>
        some (w64 ((w64 ((w64 (1 + (a0_Key.size : Int))) + (a0_Name.size : Int))) + r2))
    else
      some (w64 ((w64 (1 + (a0_Key.size : Int))) + (a0_Name.size : Int)))
/-- tapestry/tapestrylaw01.ChildrenSize -/
noncomputable def P52_s0 (fu : Nat) (a0_l : List Child) : (Int × Int) → Option ((Int × Int) ⊕ ((Int × Int)))
  | (i3, i4) =>
    bif decide (i4 < (ln a0_l)) then
      bif decide (i3 ≤ 1048576) then
        (idx a0_l i4).bind fun ⟨x9_Key, x9_Kind, x9_Name, ⟨x9_Value_Kind, x9_Value_N, x9_Value_S, ⟨x9_Value_L_l, x9_Value_L_x⟩, ⟨x9_Value_F_l, x9_Value_F_x⟩, x9_Value_Elem, x9_Value_Key, x9_Value_HasKey⟩⟩ =>
          (P65 fu (Child.mk x9_Key x9_Kind x9_Name (Value.mk x9_Value_Kind x9_Value_N x9_Value_S (Sl.mk x9_Value_L_l x9_Value_L_x) (Sl.mk x9_Value_F_l x9_Value_F_x) x9_Value_Elem x9_Value_Key x9_Value_HasKey))).bind fun r11 =>
            some (.inl (w64 (i3 + r11), w64 (i4 + 1)))
      else
        some (.inr (i3, i4))
    else
      some (.inr (i3, i4))
noncomputable def P52 (fu : Nat) (a0 : Sl Child) : Option (Int) :=
  match a0 with
  | ⟨a0_l, a0_x⟩ =>
    (wl (P52_s0 fu a0_l) (ln a0_l, 0)).bind fun q =>
      match q with
      | (o14, o15) =>
        some o14
/-- tapestry/tapestrylaw08.beyond -/
noncomputable def P25 (fu : Nat) (a0 : Sl Child) (a1 : Sl Child) : Option (Bool) :=
  match a0 with
  | ⟨a0_l, a0_x⟩ =>
    match a1 with
    | ⟨a1_l, a1_x⟩ =>
      bif !(decide (500 < (ln a0_l))) then
        bif !(decide (500 < (ln a1_l))) then
          (P52 fu (Sl.mk a0_l a0_x)).bind fun r7 =>
            (P52 fu (Sl.mk a1_l a1_x)).bind fun r9 =>
              (P19 fu (Sl.mk [r7, r9] (some []))).bind fun r11 =>
                some r11
        else
          some true
      else
        some true
/-- tapestry/tapestrylaw08.unlike -/
noncomputable def P27_s1 (fu : Nat) (a0_l : List Child) (i1 : Int) : Int → Option (Int ⊕ (Int ⊕ Int))
  | i5 =>
    bif decide (i5 < i1) then
      (idx a0_l i1).bind fun ⟨x7_Key, x7_Kind, x7_Name, ⟨x7_Value_Kind, x7_Value_N, x7_Value_S, ⟨x7_Value_L_l, x7_Value_L_x⟩, ⟨x7_Value_F_l, x7_Value_F_x⟩, x7_Value_Elem, x7_Value_Key, x7_Value_HasKey⟩⟩ =>
        (idx a0_l i5).bind fun ⟨x9_Key, x9_Kind, x9_Name, ⟨x9_Value_Kind, x9_Value_N, x9_Value_S, ⟨x9_Value_L_l, x9_Value_L_x⟩, ⟨x9_Value_F_l, x9_Value_F_x⟩, x9_Value_Elem, x9_Value_Key, x9_Value_HasKey⟩⟩ =>
          bif seq x7_Key x9_Key then
            some (.inr (.inr i5))
          else
            some (.inl (w64 (i5 + 1)))
    else
      some (.inr (.inl i5))
noncomputable def P27_s0 (fu : Nat) (a0_l : List Child) : Int → Option (Int ⊕ (Int ⊕ Int))
  | i1 =>
    bif decide (i1 < (ln a0_l)) then
      (wl (P27_s1 fu a0_l i1) 0).bind fun q =>
        match q with
        | .inl o13 =>
          some (.inl (w64 (i1 + 1)))
        | .inr o14 =>
          some (.inr (.inr i1))
    else
      some (.inr (.inl i1))
noncomputable def P27 (fu : Nat) (a0 : Sl Child) : Option (Bool) :=
  match a0 with
  | ⟨a0_l, a0_x⟩ =>
    (wl (P27_s0 fu a0_l) 0).bind fun q =>
      match q with
      | .inl o16 =>
        some true
      | .inr o17 =>
        some false
/-- tapestry/tapestrylaw08.MatchPairs -/
noncomputable def P6_s0 (fu : Nat) (a0_l : List Child) : ((List Child) × Int) → Option (((List Child) × Int) ⊕ (((List Child) × Int)))
  | (l23, i24) =>
    bif decide (0 ≤ i24) then
      (idx a0_l i24).bind fun ⟨x26_Key, x26_Kind, x26_Name, ⟨x26_Value_Kind, x26_Value_N, x26_Value_S, ⟨x26_Value_L_l, x26_Value_L_x⟩, ⟨x26_Value_F_l, x26_Value_F_x⟩, x26_Value_Elem, x26_Value_Key, x26_Value_HasKey⟩⟩ =>
        bif room 152 (ln (l23 ++ [(Child.mk x26_Key x26_Kind x26_Name (Value.mk x26_Value_Kind x26_Value_N x26_Value_S (Sl.mk x26_Value_L_l x26_Value_L_x) (Sl.mk x26_Value_F_l x26_Value_F_x) x26_Value_Elem x26_Value_Key x26_Value_HasKey))])) then
          some (.inl ((l23 ++ [(Child.mk x26_Key x26_Kind x26_Name (Value.mk x26_Value_Kind x26_Value_N x26_Value_S (Sl.mk x26_Value_L_l x26_Value_L_x) (Sl.mk x26_Value_F_l x26_Value_F_x) x26_Value_Elem x26_Value_Key x26_Value_HasKey))]), w64 (i24 - 1)))
        else none
    else
      some (.inr (l23, i24))
noncomputable def P6_s1 (fu : Nat) (a0_l : List Child) (r15_l : List Int) (r17_l : List Int) (r36_l : List Int) : (Int × Int) → Option ((Int × Int) ⊕ ((Int × Int) ⊕ (Int × Int)))
  | (i48, i49) =>
    bif decide (i49 < (ln r15_l)) then
      (idx r15_l i49).bind fun x53 =>
        (idx r36_l i49).bind fun x55 =>
          bif !((decide (x53 < 0)) == (decide (x55 < 0))) then
            some (.inr (.inr (i48, i49)))
          else
            (idx r15_l i49).bind fun x58 =>
              bif decide (0 ≤ x58) then
                (idx r15_l i49).bind fun x61 =>
                  (idx r17_l x61).bind fun x63 =>
                    bif !(!(x63 == i49)) then
                      (idx r36_l i49).bind fun x66 =>
                        (idx r15_l i49).bind fun x70 =>
                          bif !(x66 == (w64 ((w64 ((ln a0_l) - 1)) - x70))) then
                            some (.inr (.inr (w64 (i48 + 1), i49)))
                          else
                            some (.inl (w64 (i48 + 1), w64 (i49 + 1)))
                    else
                      some (.inr (.inr (w64 (i48 + 1), i49)))
              else
                some (.inl (i48, w64 (i49 + 1)))
    else
      some (.inr (.inl (i48, i49)))
noncomputable def P6_s2 (fu : Nat) (r17_l : List Int) : (Int × Int) → Option ((Int × Int) ⊕ ((Int × Int)))
  | (i76, i77) =>
    bif decide (i77 < (ln r17_l)) then
      (idx r17_l i77).bind fun x81 =>
        bif decide (0 ≤ x81) then
          some (.inl (w64 (i76 - 1), w64 (i77 + 1)))
        else
          some (.inl (i76, w64 (i77 + 1)))
    else
      some (.inr (i76, i77))
noncomputable def P6 (fu : Nat) (a0 : Sl Child) (a1 : Sl Child) : Option (Bool) :=
  match a0 with
  | ⟨a0_l, a0_x⟩ =>
    match a1 with
    | ⟨a1_l, a1_x⟩ =>
      (P24 fu).bind fun r1 =>
        bif !(!r1) then
          (P25 fu (Sl.mk a0_l a0_x) (Sl.mk a1_l a1_x)).bind fun r4 =>
            bif !r4 then
              (P27 fu (Sl.mk a0_l a0_x)).bind fun r7 =>
                bif !(!r7) then
                  (P27 fu (Sl.mk a1_l a1_x)).bind fun r10 =>
                    bif !r10 then
                      (P24 fu).bind fun r13 =>
                        some r13
                    else
                      (P26 fu (Sl.mk a0_l a0_x) (Sl.mk a1_l a1_x)).bind fun ⟨r15_l, r15_x⟩ =>
                        (P26 fu (Sl.mk a1_l a1_x) (Sl.mk a0_l a0_x)).bind fun ⟨r17_l, r17_x⟩ =>
                          (wl (P6_s0 fu a0_l) (([] : List Child), w64 ((ln a0_l) - 1))).bind fun q =>
                            match q with
                            | (o34, o35) =>
                              (P26 fu (Sl.mk o34 none) (Sl.mk a1_l a1_x)).bind fun ⟨r36_l, r36_x⟩ =>
                                bif !(!((ln r17_l) == (ln a0_l))) then
                                  bif !((ln r36_l) == (ln r15_l)) then
                                    some false
                                  else
                                    (wl (P6_s1 fu a0_l r15_l r17_l r36_l) (0, 0)).bind fun q =>
                                      match q with
                                      | .inl (o74, o75) =>
                                        (wl (P6_s2 fu r17_l) (o74, 0)).bind fun q =>
                                          match q with
                                          | (o85, o86) =>
                                            some (o85 == 0)
                                      | .inr (o87, o88) =>
                                        some false
                                else
                                  some false
                else
                  (P24 fu).bind fun r89 =>
                    some r89
            else
              (P24 fu).bind fun r91 =>
                some r91
        else
          (P24 fu).bind fun r93 =>
            some r93
end Go.Proofs.Ytamllgdaepjcfaa
