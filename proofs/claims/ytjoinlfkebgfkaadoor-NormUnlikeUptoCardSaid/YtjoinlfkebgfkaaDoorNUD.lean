/- Functions on plain data: printed by a small program. -/
import Derived.Test.YtjoinlfkebgfkaaDoorNUE
namespace Go.Proofs.YtjoinlfkebgfkaaDoor
open Go Go.X
set_option linter.unusedVariables false
set_option linter.unusedSimpArgs false
set_option maxRecDepth 100000
/-- tapestry/tapestrylaw07.alive -/
noncomputable def P6 (fu : Nat) : Option (Bool) :=
  some true
/-- tapestry/tapestrylaw01.ValueSize -/
noncomputable def Pb13 (fu : Nat) (p13 : Value → Option (Int)) (p20 : (Sl Field) → Option (Int)) (p28 : Field → Option (Int)) (p8 : (Sl Value) → Option (Int)) (a0 : Value) : Option (Int) :=
  match a0 with
  | ⟨a0_a, a0_b, a0_c, ⟨a0_dl, a0_dx⟩, ⟨a0_el, a0_ex⟩, a0_f, a0_g, a0_h⟩ =>
    (
      bif decide ((w64 ((w64 (1 + (a0_c.size : Int))) + (a0_g.size : Int))) ≤ 1048576) then
        (p8 (Sl.mk a0_dl a0_dx)).bind fun r2 =>
          some (w64 ((w64 ((w64 (1 + (a0_c.size : Int))) + (a0_g.size : Int))) + r2))
      else
        some (w64 ((w64 (1 + (a0_c.size : Int))) + (a0_g.size : Int)))
    ).bind fun (q : Int) =>
      match q with
      | i4 =>
        (
          bif decide (i4 ≤ 1048576) then
            (p20 (Sl.mk a0_el a0_ex)).bind fun r6 =>
              some (w64 (i4 + r6))
          else
            some i4
        ).bind fun (q : Int) =>
          match q with
          | i8 =>
            some i8
/-- tapestry/tapestrylaw01.FieldsSize -/
noncomputable def P20_s0 (fu : Nat) (p28 : Field → Option (Int)) (a0_l : List Field) : (Int × Int) → Option ((Int × Int) ⊕ ((Int × Int)))
  | (i3, i4) =>
    (
      bif decide (i4 < (ln a0_l)) then
        some (decide (i3 ≤ 1048576))
      else
        some false
    ).bind fun (q : Bool) =>
      match q with
      | i8 =>
        bif i8 then
          (idx a0_l i4).bind fun ⟨x10_a, ⟨x10_ba, x10_bb, x10_bc, ⟨x10_bdl, x10_bdx⟩, ⟨x10_bel, x10_bex⟩, x10_bf, x10_bg, x10_bh⟩⟩ =>
            (p28 (Field.mk x10_a (Value.mk x10_ba x10_bb x10_bc (Sl.mk x10_bdl x10_bdx) (Sl.mk x10_bel x10_bex) x10_bf x10_bg x10_bh))).bind fun r12 =>
              some (.inl (w64 (i3 + r12), w64 (i4 + 1)))
        else
          some (.inr (i3, i4))
noncomputable def Pb20 (fu : Nat) (p13 : Value → Option (Int)) (p20 : (Sl Field) → Option (Int)) (p28 : Field → Option (Int)) (p8 : (Sl Value) → Option (Int)) (a0 : Sl Field) : Option (Int) :=
  match a0 with
  | ⟨a0_l, a0_x⟩ =>
    (wl (P20_s0 fu p28 a0_l) (ln a0_l, 0)).bind fun q =>
      match q with
      | (o16, o17) =>
        some o16
/-- tapestry/tapestrylaw01.FieldSize -/
noncomputable def Pb28 (fu : Nat) (p13 : Value → Option (Int)) (p20 : (Sl Field) → Option (Int)) (p28 : Field → Option (Int)) (p8 : (Sl Value) → Option (Int)) (a0 : Field) : Option (Int) :=
  match a0 with
  | ⟨a0_a, ⟨a0_ba, a0_bb, a0_bc, ⟨a0_bdl, a0_bdx⟩, ⟨a0_bel, a0_bex⟩, a0_bf, a0_bg, a0_bh⟩⟩ =>
    (
      bif decide ((w64 (1 + (a0_a.size : Int))) ≤ 1048576) then
        (p13 (Value.mk a0_ba a0_bb a0_bc (Sl.mk a0_bdl a0_bdx) (Sl.mk a0_bel a0_bex) a0_bf a0_bg a0_bh)).bind fun r2 =>
          some (w64 ((w64 (1 + (a0_a.size : Int))) + r2))
      else
        some (w64 (1 + (a0_a.size : Int)))
    ).bind fun (q : Int) =>
      match q with
      | i4 =>
        some i4
/-- tapestry/tapestrylaw01.ValuesSize -/
noncomputable def P8_s0 (fu : Nat) (p13 : Value → Option (Int)) (a0_l : List Value) : (Int × Int) → Option ((Int × Int) ⊕ ((Int × Int)))
  | (i3, i4) =>
    (
      bif decide (i4 < (ln a0_l)) then
        some (decide (i3 ≤ 1048576))
      else
        some false
    ).bind fun (q : Bool) =>
      match q with
      | i8 =>
        bif i8 then
          (idx a0_l i4).bind fun ⟨x10_a, x10_b, x10_c, ⟨x10_dl, x10_dx⟩, ⟨x10_el, x10_ex⟩, x10_f, x10_g, x10_h⟩ =>
            (p13 (Value.mk x10_a x10_b x10_c (Sl.mk x10_dl x10_dx) (Sl.mk x10_el x10_ex) x10_f x10_g x10_h)).bind fun r12 =>
              some (.inl (w64 (i3 + r12), w64 (i4 + 1)))
        else
          some (.inr (i3, i4))
noncomputable def Pb8 (fu : Nat) (p13 : Value → Option (Int)) (p20 : (Sl Field) → Option (Int)) (p28 : Field → Option (Int)) (p8 : (Sl Value) → Option (Int)) (a0 : Sl Value) : Option (Int) :=
  match a0 with
  | ⟨a0_l, a0_x⟩ =>
    (wl (P8_s0 fu p13 a0_l) (ln a0_l, 0)).bind fun q =>
      match q with
      | (o16, o17) =>
        some o16
mutual
noncomputable def P13 : Nat → Value → Option (Int)
  | 0 => fun _ => none
  | fu + 1 => fun a0 => Pb13 fu (P13 fu) (P20 fu) (P28 fu) (P8 fu) a0
noncomputable def P20 : Nat → (Sl Field) → Option (Int)
  | 0 => fun _ => none
  | fu + 1 => fun a0 => Pb20 fu (P13 fu) (P20 fu) (P28 fu) (P8 fu) a0
noncomputable def P28 : Nat → Field → Option (Int)
  | 0 => fun _ => none
  | fu + 1 => fun a0 => Pb28 fu (P13 fu) (P20 fu) (P28 fu) (P8 fu) a0
noncomputable def P8 : Nat → (Sl Value) → Option (Int)
  | 0 => fun _ => none
  | fu + 1 => fun a0 => Pb8 fu (P13 fu) (P20 fu) (P28 fu) (P8 fu) a0
end
/-- tapestry/tapestrylaw01.Beyond -/
noncomputable def P7_s0 (fu : Nat) (a0_l : List Int) : (Bool × Int × Int) → Option ((Bool × Int × Int) ⊕ ((Bool × Int × Int) ⊕ (Bool × Int × Int)))
  | (i1, i2, i3) =>
    bif decide (i3 < (ln a0_l)) then
      (idx a0_l i3).bind fun x7 =>
        bif decide (1048576 < (w64 (i2 + x7))) then
          some (.inr (.inr (true, w64 (i2 + x7), i3)))
        else
          some (.inl (i1, w64 (i2 + x7), w64 (i3 + 1)))
    else
      some (.inr (.inl (i1, i2, i3)))
noncomputable def P7 (fu : Nat) (a0 : Sl Int) : Option (Bool) :=
  match a0 with
  | ⟨a0_l, a0_x⟩ =>
    (wl (P7_s0 fu a0_l) (false, 0, 0)).bind fun q =>
      match q with
      | .inl (o11, o12, o13) =>
        some false
      | .inr (o14, o15, o16) =>
        some o14
/-- internal/strconv.FormatInt -/
def P23 (fu : Nat) (a0 : Int) (a1 : Int) : Option (ByteArray) :=
  bif a1 == 10 then bif inI64 a0 then some (itoaB a0) else none else none
/-- strconv.FormatInt -/
noncomputable def P16 (fu : Nat) (a0 : Int) (a1 : Int) : Option (ByteArray) :=
  (P23 fu a0 a1).bind fun r1 =>
    some r1
/-- tapestry/norm.text -/
noncomputable def P15 (fu : Nat) (a0 : ByteArray) : Option (Child) :=
  some (Child.mk ByteArray.empty 9 ByteArray.empty (Value.mk 3 0 a0 (Sl.mk [] (some [])) (Sl.mk [] (some [])) 0 ByteArray.empty false))
/-- slices.Clone[[]tapestry/api.Value,tapestry/api.Value] -/
noncomputable def P43 (fu : Nat) (a0 : Sl Value) : Option ((List Value)) :=
  match a0 with
  | ⟨a0_l, a0_x⟩ =>
    bif ln a0_l == 0 then
      agree (
        some ([] : List Value)
      ) (
        (
          bif ln a0_l == 0 then
            some ([] : List Value)
          else
            bif room 112 (ln (([] : List Value) ++ a0_l)) then
              some (([] : List Value) ++ a0_l)
            else none
        ).bind fun (q : (List Value)) =>
          match q with
          | l14 =>
            some l14
      )
    else
      (
        bif ln a0_l == 0 then
          some ([] : List Value)
        else
          bif room 112 (ln (([] : List Value) ++ a0_l)) then
            some (([] : List Value) ++ a0_l)
          else none
      ).bind fun (q : (List Value)) =>
        match q with
        | l26 =>
          some l26
/-- tapestry/copies.each[tapestry/api.Value] -/
noncomputable def P33_s0 (fu : Nat) (a1 : (Value → Option (Value))) (r2 : List Value) : ((List Value) × Int) → Option (((List Value) × Int) ⊕ (((List Value) × Int)))
  | (l5, i6) =>
    bif decide (i6 < (ln r2)) then
      (idx l5 i6).bind fun ⟨x8_a, x8_b, x8_c, ⟨x8_dl, x8_dx⟩, ⟨x8_el, x8_ex⟩, x8_f, x8_g, x8_h⟩ =>
        (a1 (Value.mk x8_a x8_b x8_c (Sl.mk x8_dl x8_dx) (Sl.mk x8_el x8_ex) x8_f x8_g x8_h)).bind fun ⟨r10_a, r10_b, r10_c, ⟨r10_dl, r10_dx⟩, ⟨r10_el, r10_ex⟩, r10_f, r10_g, r10_h⟩ =>
          (idx l5 i6).bind fun ⟨x12_a, x12_b, x12_c, ⟨x12_dl, x12_dx⟩, ⟨x12_el, x12_ex⟩, x12_f, x12_g, x12_h⟩ =>
            some (.inl ((List.set l5 (Int.toNat i6) (Value.mk r10_a r10_b r10_c (Sl.mk r10_dl r10_dx) (Sl.mk r10_el r10_ex) r10_f r10_g r10_h)), w64 (i6 + 1)))
    else
      some (.inr (l5, i6))
noncomputable def P33 (fu : Nat) (a0 : Sl Value) (a1 : (Value → Option (Value))) : Option ((Sl Value)) :=
  match a0 with
  | ⟨a0_l, a0_x⟩ =>
    (P43 fu (Sl.mk a0_l a0_x)).bind fun r2 =>
      (wl (P33_s0 fu a1 r2) (r2, 0)).bind fun q =>
        match q with
        | (o18, o19) =>
          some (Sl.mk o18 none)
/-- slices.Clone[[]tapestry/api.Field,tapestry/api.Field] -/
noncomputable def P44 (fu : Nat) (a0 : Sl Field) : Option ((List Field)) :=
  match a0 with
  | ⟨a0_l, a0_x⟩ =>
    bif ln a0_l == 0 then
      agree (
        some ([] : List Field)
      ) (
        (
          bif ln a0_l == 0 then
            some ([] : List Field)
          else
            bif room 128 (ln (([] : List Field) ++ a0_l)) then
              some (([] : List Field) ++ a0_l)
            else none
        ).bind fun (q : (List Field)) =>
          match q with
          | l14 =>
            some l14
      )
    else
      (
        bif ln a0_l == 0 then
          some ([] : List Field)
        else
          bif room 128 (ln (([] : List Field) ++ a0_l)) then
            some (([] : List Field) ++ a0_l)
          else none
      ).bind fun (q : (List Field)) =>
        match q with
        | l26 =>
          some l26
/-- tapestry/copies.each[tapestry/api.Field] -/
noncomputable def P34_s0 (fu : Nat) (a1 : (Field → Option (Field))) (r2 : List Field) : ((List Field) × Int) → Option (((List Field) × Int) ⊕ (((List Field) × Int)))
  | (l5, i6) =>
    bif decide (i6 < (ln r2)) then
      (idx l5 i6).bind fun ⟨x8_a, ⟨x8_ba, x8_bb, x8_bc, ⟨x8_bdl, x8_bdx⟩, ⟨x8_bel, x8_bex⟩, x8_bf, x8_bg, x8_bh⟩⟩ =>
        (a1 (Field.mk x8_a (Value.mk x8_ba x8_bb x8_bc (Sl.mk x8_bdl x8_bdx) (Sl.mk x8_bel x8_bex) x8_bf x8_bg x8_bh))).bind fun ⟨r10_a, ⟨r10_ba, r10_bb, r10_bc, ⟨r10_bdl, r10_bdx⟩, ⟨r10_bel, r10_bex⟩, r10_bf, r10_bg, r10_bh⟩⟩ =>
          (idx l5 i6).bind fun ⟨x12_a, ⟨x12_ba, x12_bb, x12_bc, ⟨x12_bdl, x12_bdx⟩, ⟨x12_bel, x12_bex⟩, x12_bf, x12_bg, x12_bh⟩⟩ =>
            some (.inl ((List.set l5 (Int.toNat i6) (Field.mk r10_a (Value.mk r10_ba r10_bb r10_bc (Sl.mk r10_bdl r10_bdx) (Sl.mk r10_bel r10_bex) r10_bf r10_bg r10_bh))), w64 (i6 + 1)))
    else
      some (.inr (l5, i6))
noncomputable def P34 (fu : Nat) (a0 : Sl Field) (a1 : (Field → Option (Field))) : Option ((Sl Field)) :=
  match a0 with
  | ⟨a0_l, a0_x⟩ =>
    (P44 fu (Sl.mk a0_l a0_x)).bind fun r2 =>
      (wl (P34_s0 fu a1 r2) (r2, 0)).bind fun q =>
        match q with
        | (o18, o19) =>
          some (Sl.mk o18 none)
/-- tapestry/copies.Value -/
noncomputable def Pb17 (fu : Nat) (p17 : Value → Option (Value)) (p24 : (Sl Value) → Option ((Sl Value))) (p25 : (Sl Field) → Option ((Sl Field))) (p35 : Field → Option (Field)) (a0 : Value) : Option (Value) :=
  match a0 with
  | ⟨a0_a, a0_b, a0_c, ⟨a0_dl, a0_dx⟩, ⟨a0_el, a0_ex⟩, a0_f, a0_g, a0_h⟩ =>
    (p24 (Sl.mk a0_dl a0_dx)).bind fun ⟨r1_l, r1_x⟩ =>
      (p25 (Sl.mk a0_el a0_ex)).bind fun ⟨r3_l, r3_x⟩ =>
        some (Value.mk a0_a a0_b a0_c (Sl.mk r1_l r1_x) (Sl.mk r3_l r3_x) a0_f a0_g a0_h)
/-- tapestry/copies.Values -/
noncomputable def Pb24 (fu : Nat) (p17 : Value → Option (Value)) (p24 : (Sl Value) → Option ((Sl Value))) (p25 : (Sl Field) → Option ((Sl Field))) (p35 : Field → Option (Field)) (a0 : Sl Value) : Option ((Sl Value)) :=
  match a0 with
  | ⟨a0_l, a0_x⟩ =>
    (P33 fu (Sl.mk a0_l a0_x) p17).bind fun ⟨r1_l, r1_x⟩ =>
      some (Sl.mk r1_l r1_x)
/-- tapestry/copies.Fields -/
noncomputable def Pb25 (fu : Nat) (p17 : Value → Option (Value)) (p24 : (Sl Value) → Option ((Sl Value))) (p25 : (Sl Field) → Option ((Sl Field))) (p35 : Field → Option (Field)) (a0 : Sl Field) : Option ((Sl Field)) :=
  match a0 with
  | ⟨a0_l, a0_x⟩ =>
    (P34 fu (Sl.mk a0_l a0_x) p35).bind fun ⟨r1_l, r1_x⟩ =>
      some (Sl.mk r1_l r1_x)
/-- tapestry/copies.Fields$1 -/
noncomputable def Pb35 (fu : Nat) (p17 : Value → Option (Value)) (p24 : (Sl Value) → Option ((Sl Value))) (p25 : (Sl Field) → Option ((Sl Field))) (p35 : Field → Option (Field)) (a0 : Field) : Option (Field) :=
  match a0 with
  | ⟨a0_a, ⟨a0_ba, a0_bb, a0_bc, ⟨a0_bdl, a0_bdx⟩, ⟨a0_bel, a0_bex⟩, a0_bf, a0_bg, a0_bh⟩⟩ =>
    (p17 (Value.mk a0_ba a0_bb a0_bc (Sl.mk a0_bdl a0_bdx) (Sl.mk a0_bel a0_bex) a0_bf a0_bg a0_bh)).bind fun ⟨r1_a, r1_b, r1_c, ⟨r1_dl, r1_dx⟩, ⟨r1_el, r1_ex⟩, r1_f, r1_g, r1_h⟩ =>
      some (Field.mk a0_a (Value.mk r1_a r1_b r1_c (Sl.mk r1_dl r1_dx) (Sl.mk r1_el r1_ex) r1_f r1_g r1_h))
mutual
noncomputable def P17 : Nat → Value → Option (Value)
  | 0 => fun _ => none
  | fu + 1 => fun a0 => Pb17 fu (P17 fu) (P24 fu) (P25 fu) (P35 fu) a0
noncomputable def P24 : Nat → (Sl Value) → Option ((Sl Value))
  | 0 => fun _ => none
  | fu + 1 => fun a0 => Pb24 fu (P17 fu) (P24 fu) (P25 fu) (P35 fu) a0
noncomputable def P25 : Nat → (Sl Field) → Option ((Sl Field))
  | 0 => fun _ => none
  | fu + 1 => fun a0 => Pb25 fu (P17 fu) (P24 fu) (P25 fu) (P35 fu) a0
noncomputable def P35 : Nat → Field → Option (Field)
  | 0 => fun _ => none
  | fu + 1 => fun a0 => Pb35 fu (P17 fu) (P24 fu) (P25 fu) (P35 fu) a0
end
/-- internal/strconv.Itoa -/
noncomputable def P26 (fu : Nat) (a0 : Int) : Option (ByteArray) :=
  (P23 fu a0 10).bind fun r1 =>
    some r1
/-- strconv.Itoa -/
noncomputable def P18 (fu : Nat) (a0 : Int) : Option (ByteArray) :=
  (P26 fu a0).bind fun r1 =>
    some r1
/-- a round of tapestry/norm.Kids -/
noncomputable def P70x1 (fu : Nat) (a1 : Int) (a2 : Value) (b0 : Option X.Ex) (b2 : List Child) (b4 : List (ByteArray × Bool)) : Option (Bool × (Option X.Ex) × (List Child) × (List (ByteArray × Bool))) :=
  match a2 with
  | ⟨a2_a, a2_b, a2_c, ⟨a2_dl, a2_dx⟩, ⟨a2_el, a2_ex⟩, a2_f, a2_g, a2_h⟩ =>
    match b0 with
    | none =>
      bif (ln b2) == 4096 then
        some (false, (some (.exit 0)), b2, b4)
      else
        (
          bif a2_a == 1 then
            (P16 fu a2_b 10).bind fun r3 =>
              (P15 fu r3).bind fun ⟨r5_a, r5_b, r5_c, ⟨r5_da, r5_db, r5_dc, ⟨r5_ddl, r5_ddx⟩, ⟨r5_del, r5_dex⟩, r5_df, r5_dg, r5_dh⟩⟩ =>
                some (.inl (r5_a, r5_b, r5_c, r5_da, r5_db, r5_dc, r5_ddl, r5_ddx, r5_del, r5_dex, r5_df, r5_dg, r5_dh))
          else
            (
              bif a2_a == 3 then
                (P15 fu a2_c).bind fun ⟨r8_a, r8_b, r8_c, ⟨r8_da, r8_db, r8_dc, ⟨r8_ddl, r8_ddx⟩, ⟨r8_del, r8_dex⟩, r8_df, r8_dg, r8_dh⟩⟩ =>
                  some (.inl (r8_a, r8_b, r8_c, r8_da, r8_db, r8_dc, r8_ddl, r8_ddx, r8_del, r8_dex, r8_df, r8_dg, r8_dh))
              else
                (
                  bif a2_a == 6 then
                    bif decide (0 < a2_f) then
                      some (decide (a2_f < 9))
                    else
                      some false
                  else
                    some false
                ).bind fun (q : Bool) =>
                  match q with
                  | i12 =>
                    bif i12 then
                      (P17 fu (Value.mk a2_a a2_b a2_c (Sl.mk a2_dl a2_dx) (Sl.mk a2_el a2_ex) a2_f a2_g a2_h)).bind fun ⟨r14_a, r14_b, r14_c, ⟨r14_dl, r14_dx⟩, ⟨r14_el, r14_ex⟩, r14_f, r14_g, r14_h⟩ =>
                        some (.inl (ByteArray.empty, a2_f, a2_c, r14_a, r14_b, r14_c, r14_dl, r14_dx, r14_el, r14_ex, r14_f, r14_g, r14_h))
                    else
                      some (.inr ())
            ).bind fun (q : (ByteArray × Int × ByteArray × Int × Int × ByteArray × (List Value) × (Option (List Value)) × (List Field) × (Option (List Field)) × Int × ByteArray × Bool) ⊕ Unit) =>
              match q with
              | .inl (c17, c18, c19, c20, c21, c22, c23_l, c23_x, c24_l, c24_x, c25, c26, c27) =>
                some (.inl (c17, c18, c19, c20, c21, c22, c23_l, c23_x, c24_l, c24_x, c25, c26, c27))
              | .inr _ =>
                some (.inr ())
        ).bind fun (q : (ByteArray × Int × ByteArray × Int × Int × ByteArray × (List Value) × (Option (List Value)) × (List Field) × (Option (List Field)) × Int × ByteArray × Bool) ⊕ Unit) =>
          match q with
          | .inl (c29, c30, c31, c32, c33, c34, c35_l, c35_x, c36_l, c36_x, c37, c38, c39) =>
            (P18 fu a1).bind fun r40 =>
              bif decide (((⟨#[105, 58]⟩ : ByteArray).size : Int) + (r40.size : Int) ≤ 9223372036854775807) then
                (
                  bif a2_a == 6 then
                    bif a2_h then
                      (
                      match mget b4 a2_g with
                      | none =>
                        some true
                      | some x45 =>
                        some (!x45)
                      )
                    else
                      some false
                  else
                    some false
                ).bind fun (q : Bool) =>
                  match q with
                  | i47 =>
                    (
                      bif i47 then
                        bif decide (((⟨#[107, 58]⟩ : ByteArray).size : Int) + (a2_g.size : Int) ≤ 9223372036854775807) then
                          some (((⟨#[107, 58]⟩ : ByteArray) ++ a2_g), (mset b4 a2_g true))
                        else none
                      else
                        some (((⟨#[105, 58]⟩ : ByteArray) ++ r40), b4)
                    ).bind fun (q : ByteArray × (List (ByteArray × Bool))) =>
                      match q with
                      | (c52, g53) =>
                        bif room 152 (ln (b2 ++ [(Child.mk c52 c30 c31 (Value.mk c32 c33 c34 (Sl.mk c35_l c35_x) (Sl.mk c36_l c36_x) c37 c38 c39))])) then
                          some (true, none, (b2 ++ [(Child.mk c52 c30 c31 (Value.mk c32 c33 c34 (Sl.mk c35_l c35_x) (Sl.mk c36_l c36_x) c37 c38 c39))]), g53)
                        else none
              else none
          | .inr _ =>
            some (true, none, b2, b4)
    | some _ => none
/-- tapestry/norm.flat$1$1 -/
noncomputable def P22x1_s0 (fu : Nat) (p22x1 : (Sl Value) → (Option X.Ex) → (List Child) → (List (ByteArray × Bool)) → Int → Option (Bool × (Option X.Ex) × (List Child) × (List (ByteArray × Bool)) × Int)) (a0_l : List Value) : ((Option X.Ex) × (List Child) × (List (ByteArray × Bool)) × Int × Int) → Option (((Option X.Ex) × (List Child) × (List (ByteArray × Bool)) × Int × Int) ⊕ (((Option X.Ex) × (List Child) × (List (ByteArray × Bool)) × Int × Int) ⊕ ((Option X.Ex) × (List Child) × (List (ByteArray × Bool)) × Int × Int)))
  | (g3, g4, g5, g6, i7) =>
    bif decide (i7 < (ln a0_l)) then
      (idx a0_l i7).bind fun ⟨x9_a, x9_b, x9_c, ⟨x9_dl, x9_dx⟩, ⟨x9_el, x9_ex⟩, x9_f, x9_g, x9_h⟩ =>
        bif x9_a == 4 then
          (p22x1 (Sl.mk x9_dl x9_dx) g3 g4 g5 g6).bind fun ⟨r13, wr14, wr15, wr18, wr19⟩ =>
            bif !r13 then
              some (.inr (.inr (wr14, wr15, wr18, wr19, i7)))
            else
              some (.inl (wr14, wr15, wr18, wr19, w64 (i7 + 1)))
        else
          match g3 with
          | none =>
            (P70x1 fu g6 (Value.mk x9_a x9_b x9_c (Sl.mk x9_dl x9_dx) (Sl.mk x9_el x9_ex) x9_f x9_g x9_h) none g4 g5).bind fun ⟨r22, wr23, wr24, wr27⟩ =>
              bif !r22 then
                some (.inr (.inr (wr23, wr24, wr27, g6, i7)))
              else
                some (.inl (wr23, wr24, wr27, w64 (g6 + 1), w64 (i7 + 1)))
          | some _ => none
    else
      some (.inr (.inl (g3, g4, g5, g6, i7)))
noncomputable def Pb22x1 (fu : Nat) (p22x1 : (Sl Value) → (Option X.Ex) → (List Child) → (List (ByteArray × Bool)) → Int → Option (Bool × (Option X.Ex) × (List Child) × (List (ByteArray × Bool)) × Int)) (a0 : Sl Value) (b2 : Option X.Ex) (b4 : List Child) (b6 : List (ByteArray × Bool)) (b7 : Int) : Option (Bool × (Option X.Ex) × (List Child) × (List (ByteArray × Bool)) × Int) :=
  match a0 with
  | ⟨a0_l, a0_x⟩ =>
    (wl (P22x1_s0 fu p22x1 a0_l) (b2, b4, b6, b7, 0)).bind fun q =>
      match q with
      | .inl (o30, o31, o32, o33, o34) =>
        some (true, o30, o31, o32, o33)
      | .inr (o35, o36, o37, o38, o39) =>
        some (false, o35, o36, o37, o38)
/-- tapestry/norm.flat$1$1 -/
noncomputable def P22x1 : Nat → (Sl Value) → (Option X.Ex) → (List Child) → (List (ByteArray × Bool)) → Int → Option (Bool × (Option X.Ex) × (List Child) × (List (ByteArray × Bool)) × Int)
  | 0 => fun _ _ _ _ _ => none
  | fu + 1 => fun a0 a1 a2 a3 a4 => Pb22x1 fu (P22x1 fu) a0 a1 a2 a3 a4

/-- tapestry/norm.flat$1 -/
noncomputable def P21x1 (fu : Nat) (a1 : Sl Value) (b0 : Option X.Ex) (b2 : List Child) (b4 : List (ByteArray × Bool)) : Option ((Option X.Ex) × (List Child) × (List (ByteArray × Bool))) :=
  match a1 with
  | ⟨a1_l, a1_x⟩ =>
    (P22x1 fu (Sl.mk a1_l a1_x) b0 b2 b4 0).bind fun ⟨r2, wr3, wr4, wr7, wr8⟩ =>
      some (wr3, wr4, wr7)
/-- tapestry/norm.Kids -/
noncomputable def P9 (fu : Nat) (a0 : Sl Value) : Option ((Sl Child)) :=
  match a0 with
  | ⟨a0_l, a0_x⟩ =>
    (P21x1 fu (Sl.mk a0_l a0_x) none ([] : List Child) ([] : List (ByteArray × Bool))).bind fun ⟨wr6, wr7, wr10⟩ =>
      match wr6 with
      | none =>
        some (Sl.mk wr7 none)
      | some (.exit 0) =>
        some (Sl.mk wr7 none)
      | _ => none
/-- tapestry/tapestrylaw07.NormUnlike -/
noncomputable def P3_s1 (fu : Nat) (r12_l : List Child) (i17 : Int) (x21_a : ByteArray) : Int → Option (Int ⊕ (Int ⊕ Int))
  | i56 =>
    (
      bif decide (i56 < i17) then
        some (decide (i17 < 400))
      else
        some false
    ).bind fun (q : Bool) =>
      match q with
      | i58 =>
        bif i58 then
          (idx r12_l i56).bind fun ⟨x60_a, x60_b, x60_c, ⟨x60_da, x60_db, x60_dc, ⟨x60_ddl, x60_ddx⟩, ⟨x60_del, x60_dex⟩, x60_df, x60_dg, x60_dh⟩⟩ =>
            bif seq x60_a x21_a then
              some (.inr (.inr i56))
            else
              some (.inl (w64 (i56 + 1)))
        else
          some (.inr (.inl i56))
noncomputable def P3_s0 (fu : Nat) (r12_l : List Child) : Int → Option (Int ⊕ (Int ⊕ Int))
  | i17 =>
    bif decide (i17 < (ln r12_l)) then
      (idx r12_l i17).bind fun ⟨x21_a, x21_b, x21_c, ⟨x21_da, x21_db, x21_dc, ⟨x21_ddl, x21_ddx⟩, ⟨x21_del, x21_dex⟩, x21_df, x21_dg, x21_dh⟩⟩ =>
        (
          bif !(decide ((x21_a.size : Int) < 2)) then
            bif decide (0 ≤ 0) then
              bif decide (0 ≤ 2) then
                bif decide (2 ≤ (x21_a.size : Int)) then
                  bif !(seq (x21_a.extract (Int.toNat 0) (Int.toNat 2)) (⟨#[107, 58]⟩ : ByteArray)) then
                    bif decide (0 ≤ 0) then
                      bif decide (0 ≤ 2) then
                        bif decide (2 ≤ (x21_a.size : Int)) then
                          bif !(!(seq (x21_a.extract (Int.toNat 0) (Int.toNat 2)) (⟨#[105, 58]⟩ : ByteArray))) then
                            (idx r12_l i17).bind fun ⟨x32_a, x32_b, x32_c, ⟨x32_da, x32_db, x32_dc, ⟨x32_ddl, x32_ddx⟩, ⟨x32_del, x32_dex⟩, x32_df, x32_dg, x32_dh⟩⟩ =>
                              bif !(x32_b == 0) then
                                (idx r12_l i17).bind fun ⟨x35_a, x35_b, x35_c, ⟨x35_da, x35_db, x35_dc, ⟨x35_ddl, x35_ddx⟩, ⟨x35_del, x35_dex⟩, x35_df, x35_dg, x35_dh⟩⟩ =>
                                  bif !(decide (9 < x35_b)) then
                                    (idx r12_l i17).bind fun ⟨x38_a, x38_b, x38_c, ⟨x38_da, x38_db, x38_dc, ⟨x38_ddl, x38_ddx⟩, ⟨x38_del, x38_dex⟩, x38_df, x38_dg, x38_dh⟩⟩ =>
                                      bif x38_b == 9 then
                                        (idx r12_l i17).bind fun ⟨x41_a, x41_b, x41_c, ⟨x41_da, x41_db, x41_dc, ⟨x41_ddl, x41_ddx⟩, ⟨x41_del, x41_dex⟩, x41_df, x41_dg, x41_dh⟩⟩ =>
                                          some (!(seq x41_c ByteArray.empty))
                                      else
                                        some false
                                  else
                                    some true
                              else
                                some true
                          else
                            some true
                        else none
                      else none
                    else none
                  else
                    (idx r12_l i17).bind fun ⟨x43_a, x43_b, x43_c, ⟨x43_da, x43_db, x43_dc, ⟨x43_ddl, x43_ddx⟩, ⟨x43_del, x43_dex⟩, x43_df, x43_dg, x43_dh⟩⟩ =>
                      bif !(x43_b == 0) then
                        (idx r12_l i17).bind fun ⟨x46_a, x46_b, x46_c, ⟨x46_da, x46_db, x46_dc, ⟨x46_ddl, x46_ddx⟩, ⟨x46_del, x46_dex⟩, x46_df, x46_dg, x46_dh⟩⟩ =>
                          bif !(decide (9 < x46_b)) then
                            (idx r12_l i17).bind fun ⟨x49_a, x49_b, x49_c, ⟨x49_da, x49_db, x49_dc, ⟨x49_ddl, x49_ddx⟩, ⟨x49_del, x49_dex⟩, x49_df, x49_dg, x49_dh⟩⟩ =>
                              bif x49_b == 9 then
                                (idx r12_l i17).bind fun ⟨x52_a, x52_b, x52_c, ⟨x52_da, x52_db, x52_dc, ⟨x52_ddl, x52_ddx⟩, ⟨x52_del, x52_dex⟩, x52_df, x52_dg, x52_dh⟩⟩ =>
                                  some (!(seq x52_c ByteArray.empty))
                              else
                                some false
                          else
                            some true
                      else
                        some true
                else none
              else none
            else none
          else
            some true
        ).bind fun (q : Bool) =>
          match q with
          | i54 =>
            bif i54 then
              some (.inr (.inr i17))
            else
              (wl (P3_s1 fu r12_l i17 x21_a) 0).bind fun q =>
                match q with
                | .inl o65 =>
                  some (.inl (w64 (i17 + 1)))
                | .inr o66 =>
                  some (.inr (.inr i17))
    else
      some (.inr (.inl i17))
noncomputable def P3 (fu : Nat) (a0 : Sl Value) : Option (Bool) :=
  match a0 with
  | ⟨a0_l, a0_x⟩ =>
    (
      (P6 fu).bind fun r1 =>
        bif !(!r1) then
          (P8 fu (Sl.mk a0_l a0_x)).bind fun r4 =>
            (P7 fu (Sl.mk [r4] (some []))).bind fun r6 =>
              some r6
        else
          some true
    ).bind fun (q : Bool) =>
      match q with
      | i8 =>
        bif i8 then
          (P6 fu).bind fun r10 =>
            some r10
        else
          (P9 fu (Sl.mk a0_l a0_x)).bind fun ⟨r12_l, r12_x⟩ =>
            bif decide (4096 < (ln r12_l)) then
              some false
            else
              (wl (P3_s0 fu r12_l) 0).bind fun q =>
                match q with
                | .inl o69 =>
                  some true
                | .inr o70 =>
                  some false
/-- tapestry/tapestrylaw01.SameValue -/
noncomputable def Pb27 (fu : Nat) (p27 : Value → Value → Option (Bool)) (p36 : (Sl Value) → (Sl Value) → Option (Bool)) (p37 : (Sl Field) → (Sl Field) → Option (Bool)) (p45 : Field → Field → Option (Bool)) (a0 : Value) (a1 : Value) : Option (Bool) :=
  match a0 with
  | ⟨a0_a, a0_b, a0_c, ⟨a0_dl, a0_dx⟩, ⟨a0_el, a0_ex⟩, a0_f, a0_g, a0_h⟩ =>
    match a1 with
    | ⟨a1_a, a1_b, a1_c, ⟨a1_dl, a1_dx⟩, ⟨a1_el, a1_ex⟩, a1_f, a1_g, a1_h⟩ =>
      (
        bif a0_a == a1_a then
          bif a0_b == a1_b then
            bif seq a0_c a1_c then
              (p36 (Sl.mk a0_dl a0_dx) (Sl.mk a1_dl a1_dx)).bind fun r4 =>
                bif r4 then
                  (p37 (Sl.mk a0_el a0_ex) (Sl.mk a1_el a1_ex)).bind fun r7 =>
                    bif r7 then
                      bif a0_f == a1_f then
                        bif seq a0_g a1_g then
                          some (a0_h == a1_h)
                        else
                          some false
                      else
                        some false
                    else
                      some false
                else
                  some false
            else
              some false
          else
            some false
        else
          some false
      ).bind fun (q : Bool) =>
        match q with
        | i12 =>
          some i12
/-- tapestry/tapestrylaw01.SameValues -/
noncomputable def P36_s0 (fu : Nat) (p27 : Value → Value → Option (Bool)) (a0_l : List Value) (a1_l : List Value) : Int → Option (Int ⊕ (Int ⊕ Int))
  | i6 =>
    bif decide (i6 < (ln a0_l)) then
      (idx a0_l i6).bind fun ⟨x10_a, x10_b, x10_c, ⟨x10_dl, x10_dx⟩, ⟨x10_el, x10_ex⟩, x10_f, x10_g, x10_h⟩ =>
        (idx a1_l i6).bind fun ⟨x12_a, x12_b, x12_c, ⟨x12_dl, x12_dx⟩, ⟨x12_el, x12_ex⟩, x12_f, x12_g, x12_h⟩ =>
          (p27 (Value.mk x10_a x10_b x10_c (Sl.mk x10_dl x10_dx) (Sl.mk x10_el x10_ex) x10_f x10_g x10_h) (Value.mk x12_a x12_b x12_c (Sl.mk x12_dl x12_dx) (Sl.mk x12_el x12_ex) x12_f x12_g x12_h)).bind fun r14 =>
            bif !r14 then
              some (.inr (.inr i6))
            else
              some (.inl (w64 (i6 + 1)))
    else
      some (.inr (.inl i6))
noncomputable def Pb36 (fu : Nat) (p27 : Value → Value → Option (Bool)) (p36 : (Sl Value) → (Sl Value) → Option (Bool)) (p37 : (Sl Field) → (Sl Field) → Option (Bool)) (p45 : Field → Field → Option (Bool)) (a0 : Sl Value) (a1 : Sl Value) : Option (Bool) :=
  match a0 with
  | ⟨a0_l, a0_x⟩ =>
    match a1 with
    | ⟨a1_l, a1_x⟩ =>
      bif !((ln a0_l) == (ln a1_l)) then
        some false
      else
        (wl (P36_s0 fu p27 a0_l a1_l) 0).bind fun q =>
          match q with
          | .inl o18 =>
            some true
          | .inr o19 =>
            some false
/-- tapestry/tapestrylaw01.SameFields -/
noncomputable def P37_s0 (fu : Nat) (p45 : Field → Field → Option (Bool)) (a0_l : List Field) (a1_l : List Field) : Int → Option (Int ⊕ (Int ⊕ Int))
  | i6 =>
    bif decide (i6 < (ln a0_l)) then
      (idx a0_l i6).bind fun ⟨x10_a, ⟨x10_ba, x10_bb, x10_bc, ⟨x10_bdl, x10_bdx⟩, ⟨x10_bel, x10_bex⟩, x10_bf, x10_bg, x10_bh⟩⟩ =>
        (idx a1_l i6).bind fun ⟨x12_a, ⟨x12_ba, x12_bb, x12_bc, ⟨x12_bdl, x12_bdx⟩, ⟨x12_bel, x12_bex⟩, x12_bf, x12_bg, x12_bh⟩⟩ =>
          (p45 (Field.mk x10_a (Value.mk x10_ba x10_bb x10_bc (Sl.mk x10_bdl x10_bdx) (Sl.mk x10_bel x10_bex) x10_bf x10_bg x10_bh)) (Field.mk x12_a (Value.mk x12_ba x12_bb x12_bc (Sl.mk x12_bdl x12_bdx) (Sl.mk x12_bel x12_bex) x12_bf x12_bg x12_bh))).bind fun r14 =>
            bif !r14 then
              some (.inr (.inr i6))
            else
              some (.inl (w64 (i6 + 1)))
    else
      some (.inr (.inl i6))
noncomputable def Pb37 (fu : Nat) (p27 : Value → Value → Option (Bool)) (p36 : (Sl Value) → (Sl Value) → Option (Bool)) (p37 : (Sl Field) → (Sl Field) → Option (Bool)) (p45 : Field → Field → Option (Bool)) (a0 : Sl Field) (a1 : Sl Field) : Option (Bool) :=
  match a0 with
  | ⟨a0_l, a0_x⟩ =>
    match a1 with
    | ⟨a1_l, a1_x⟩ =>
      bif !((ln a0_l) == (ln a1_l)) then
        some false
      else
        (wl (P37_s0 fu p45 a0_l a1_l) 0).bind fun q =>
          match q with
          | .inl o18 =>
            some true
          | .inr o19 =>
            some false
/-- tapestry/tapestrylaw01.SameField -/
noncomputable def Pb45 (fu : Nat) (p27 : Value → Value → Option (Bool)) (p36 : (Sl Value) → (Sl Value) → Option (Bool)) (p37 : (Sl Field) → (Sl Field) → Option (Bool)) (p45 : Field → Field → Option (Bool)) (a0 : Field) (a1 : Field) : Option (Bool) :=
  match a0 with
  | ⟨a0_a, ⟨a0_ba, a0_bb, a0_bc, ⟨a0_bdl, a0_bdx⟩, ⟨a0_bel, a0_bex⟩, a0_bf, a0_bg, a0_bh⟩⟩ =>
    match a1 with
    | ⟨a1_a, ⟨a1_ba, a1_bb, a1_bc, ⟨a1_bdl, a1_bdx⟩, ⟨a1_bel, a1_bex⟩, a1_bf, a1_bg, a1_bh⟩⟩ =>
      (
        bif seq a0_a a1_a then
          (p27 (Value.mk a0_ba a0_bb a0_bc (Sl.mk a0_bdl a0_bdx) (Sl.mk a0_bel a0_bex) a0_bf a0_bg a0_bh) (Value.mk a1_ba a1_bb a1_bc (Sl.mk a1_bdl a1_bdx) (Sl.mk a1_bel a1_bex) a1_bf a1_bg a1_bh)).bind fun r2 =>
            some r2
        else
          some false
      ).bind fun (q : Bool) =>
        match q with
        | i4 =>
          some i4
mutual
noncomputable def P27 : Nat → Value → Value → Option (Bool)
  | 0 => fun _ _ => none
  | fu + 1 => fun a0 a1 => Pb27 fu (P27 fu) (P36 fu) (P37 fu) (P45 fu) a0 a1
noncomputable def P36 : Nat → (Sl Value) → (Sl Value) → Option (Bool)
  | 0 => fun _ _ => none
  | fu + 1 => fun a0 a1 => Pb36 fu (P27 fu) (P36 fu) (P37 fu) (P45 fu) a0 a1
noncomputable def P37 : Nat → (Sl Field) → (Sl Field) → Option (Bool)
  | 0 => fun _ _ => none
  | fu + 1 => fun a0 a1 => Pb37 fu (P27 fu) (P36 fu) (P37 fu) (P45 fu) a0 a1
noncomputable def P45 : Nat → Field → Field → Option (Bool)
  | 0 => fun _ _ => none
  | fu + 1 => fun a0 a1 => Pb45 fu (P27 fu) (P36 fu) (P37 fu) (P45 fu) a0 a1
end
/-- tapestry/tapestrylaw01.SameChild -/
noncomputable def P19 (fu : Nat) (a0 : Child) (a1 : Child) : Option (Bool) :=
  match a0 with
  | ⟨a0_a, a0_b, a0_c, ⟨a0_da, a0_db, a0_dc, ⟨a0_ddl, a0_ddx⟩, ⟨a0_del, a0_dex⟩, a0_df, a0_dg, a0_dh⟩⟩ =>
    match a1 with
    | ⟨a1_a, a1_b, a1_c, ⟨a1_da, a1_db, a1_dc, ⟨a1_ddl, a1_ddx⟩, ⟨a1_del, a1_dex⟩, a1_df, a1_dg, a1_dh⟩⟩ =>
      (
        bif seq a0_a a1_a then
          bif a0_b == a1_b then
            bif seq a0_c a1_c then
              (P27 fu (Value.mk a0_da a0_db a0_dc (Sl.mk a0_ddl a0_ddx) (Sl.mk a0_del a0_dex) a0_df a0_dg a0_dh) (Value.mk a1_da a1_db a1_dc (Sl.mk a1_ddl a1_ddx) (Sl.mk a1_del a1_dex) a1_df a1_dg a1_dh)).bind fun r4 =>
                some r4
            else
              some false
          else
            some false
        else
          some false
      ).bind fun (q : Bool) =>
        match q with
        | i6 =>
          some i6
/-- tapestry/tapestrylaw01.SameChildren -/
noncomputable def P10_s0 (fu : Nat) (a0_l : List Child) (a1_l : List Child) : Int → Option (Int ⊕ (Int ⊕ Int))
  | i6 =>
    bif decide (i6 < (ln a0_l)) then
      (idx a0_l i6).bind fun ⟨x10_a, x10_b, x10_c, ⟨x10_da, x10_db, x10_dc, ⟨x10_ddl, x10_ddx⟩, ⟨x10_del, x10_dex⟩, x10_df, x10_dg, x10_dh⟩⟩ =>
        (idx a1_l i6).bind fun ⟨x12_a, x12_b, x12_c, ⟨x12_da, x12_db, x12_dc, ⟨x12_ddl, x12_ddx⟩, ⟨x12_del, x12_dex⟩, x12_df, x12_dg, x12_dh⟩⟩ =>
          (P19 fu (Child.mk x10_a x10_b x10_c (Value.mk x10_da x10_db x10_dc (Sl.mk x10_ddl x10_ddx) (Sl.mk x10_del x10_dex) x10_df x10_dg x10_dh)) (Child.mk x12_a x12_b x12_c (Value.mk x12_da x12_db x12_dc (Sl.mk x12_ddl x12_ddx) (Sl.mk x12_del x12_dex) x12_df x12_dg x12_dh))).bind fun r14 =>
            bif !r14 then
              some (.inr (.inr i6))
            else
              some (.inl (w64 (i6 + 1)))
    else
      some (.inr (.inl i6))
noncomputable def P10 (fu : Nat) (a0 : Sl Child) (a1 : Sl Child) : Option (Bool) :=
  match a0 with
  | ⟨a0_l, a0_x⟩ =>
    match a1 with
    | ⟨a1_l, a1_x⟩ =>
      bif !((ln a0_l) == (ln a1_l)) then
        some false
      else
        (wl (P10_s0 fu a0_l a1_l) 0).bind fun q =>
          match q with
          | .inl o18 =>
            some true
          | .inr o19 =>
            some false
/-- tapestry/tapestrylaw07.NormLists -/
noncomputable def P4 (fu : Nat) (a0 : Sl Value) (a1 : Int) (a2 : Int) : Option (Bool) :=
  match a0 with
  | ⟨a0_l, none⟩ =>
    (
      (P6 fu).bind fun r1 =>
        bif !(!r1) then
          (P8 fu (Sl.mk a0_l none)).bind fun r4 =>
            (P7 fu (Sl.mk [r4] (some []))).bind fun r6 =>
              some r6
        else
          some true
    ).bind fun (q : Bool) =>
      match q with
      | i8 =>
        bif i8 then
          (P6 fu).bind fun r10 =>
            some r10
        else
          bif (w64 ((ln a0_l) + 1) == 0) then none else
            bif (w64 ((w64 ((ln a0_l) - (Int.tmod (w64 a1) (w64 ((ln a0_l) + 1))))) + 1) == 0) then none else
              (
                bif decide (0 ≤ 0) then
                  bif decide (0 ≤ Int.tmod (w64 a1) (w64 ((ln a0_l) + 1))) then
                    bif decide (Int.tmod (w64 a1) (w64 ((ln a0_l) + 1)) ≤ ln a0_l) then
                      bif ln (cut a0_l 0 (Int.tmod (w64 a1) (w64 ((ln a0_l) + 1)))) == 0 then
                        some ([] : List Value)
                      else
                        bif room 112 (ln (([] : List Value) ++ (cut a0_l 0 (Int.tmod (w64 a1) (w64 ((ln a0_l) + 1)))))) then
                          some (([] : List Value) ++ (cut a0_l 0 (Int.tmod (w64 a1) (w64 ((ln a0_l) + 1)))))
                        else none
                    else none
                  else none
                else none
              ).bind fun (q : (List Value)) =>
                match q with
                | l33 =>
                  bif decide (0 ≤ Int.tmod (w64 a1) (w64 ((ln a0_l) + 1))) then
                    bif decide (Int.tmod (w64 a1) (w64 ((ln a0_l) + 1)) ≤ w64 ((Int.tmod (w64 a1) (w64 ((ln a0_l) + 1))) + (Int.tmod (w64 a2) (w64 ((w64 ((ln a0_l) - (Int.tmod (w64 a1) (w64 ((ln a0_l) + 1))))) + 1))))) then
                      bif decide (w64 ((Int.tmod (w64 a1) (w64 ((ln a0_l) + 1))) + (Int.tmod (w64 a2) (w64 ((w64 ((ln a0_l) - (Int.tmod (w64 a1) (w64 ((ln a0_l) + 1))))) + 1)))) ≤ ln a0_l) then
                        bif room 112 (ln (l33 ++ [(Value.mk 4 0 ByteArray.empty (Sl.mk (cut a0_l (Int.tmod (w64 a1) (w64 ((ln a0_l) + 1))) (w64 ((Int.tmod (w64 a1) (w64 ((ln a0_l) + 1))) + (Int.tmod (w64 a2) (w64 ((w64 ((ln a0_l) - (Int.tmod (w64 a1) (w64 ((ln a0_l) + 1))))) + 1)))))) none) (Sl.mk [] (some [])) 0 ByteArray.empty false)])) then
                          (
                            bif decide (0 ≤ w64 ((Int.tmod (w64 a1) (w64 ((ln a0_l) + 1))) + (Int.tmod (w64 a2) (w64 ((w64 ((ln a0_l) - (Int.tmod (w64 a1) (w64 ((ln a0_l) + 1))))) + 1))))) then
                              bif decide (w64 ((Int.tmod (w64 a1) (w64 ((ln a0_l) + 1))) + (Int.tmod (w64 a2) (w64 ((w64 ((ln a0_l) - (Int.tmod (w64 a1) (w64 ((ln a0_l) + 1))))) + 1)))) ≤ ln a0_l) then
                                bif decide (ln a0_l ≤ ln a0_l) then
                                  bif ln (cut a0_l (w64 ((Int.tmod (w64 a1) (w64 ((ln a0_l) + 1))) + (Int.tmod (w64 a2) (w64 ((w64 ((ln a0_l) - (Int.tmod (w64 a1) (w64 ((ln a0_l) + 1))))) + 1))))) (ln a0_l)) == 0 then
                                    some (l33 ++ [(Value.mk 4 0 ByteArray.empty (Sl.mk (cut a0_l (Int.tmod (w64 a1) (w64 ((ln a0_l) + 1))) (w64 ((Int.tmod (w64 a1) (w64 ((ln a0_l) + 1))) + (Int.tmod (w64 a2) (w64 ((w64 ((ln a0_l) - (Int.tmod (w64 a1) (w64 ((ln a0_l) + 1))))) + 1)))))) none) (Sl.mk [] (some [])) 0 ByteArray.empty false)])
                                  else
                                    bif room 112 (ln ((l33 ++ [(Value.mk 4 0 ByteArray.empty (Sl.mk (cut a0_l (Int.tmod (w64 a1) (w64 ((ln a0_l) + 1))) (w64 ((Int.tmod (w64 a1) (w64 ((ln a0_l) + 1))) + (Int.tmod (w64 a2) (w64 ((w64 ((ln a0_l) - (Int.tmod (w64 a1) (w64 ((ln a0_l) + 1))))) + 1)))))) none) (Sl.mk [] (some [])) 0 ByteArray.empty false)]) ++ (cut a0_l (w64 ((Int.tmod (w64 a1) (w64 ((ln a0_l) + 1))) + (Int.tmod (w64 a2) (w64 ((w64 ((ln a0_l) - (Int.tmod (w64 a1) (w64 ((ln a0_l) + 1))))) + 1))))) (ln a0_l)))) then
                                      some ((l33 ++ [(Value.mk 4 0 ByteArray.empty (Sl.mk (cut a0_l (Int.tmod (w64 a1) (w64 ((ln a0_l) + 1))) (w64 ((Int.tmod (w64 a1) (w64 ((ln a0_l) + 1))) + (Int.tmod (w64 a2) (w64 ((w64 ((ln a0_l) - (Int.tmod (w64 a1) (w64 ((ln a0_l) + 1))))) + 1)))))) none) (Sl.mk [] (some [])) 0 ByteArray.empty false)]) ++ (cut a0_l (w64 ((Int.tmod (w64 a1) (w64 ((ln a0_l) + 1))) + (Int.tmod (w64 a2) (w64 ((w64 ((ln a0_l) - (Int.tmod (w64 a1) (w64 ((ln a0_l) + 1))))) + 1))))) (ln a0_l)))
                                    else none
                                else none
                              else none
                            else none
                          ).bind fun (q : (List Value)) =>
                            match q with
                            | l59 =>
                              (P9 fu (Sl.mk a0_l none)).bind fun ⟨r60_l, r60_x⟩ =>
                                (
                                  (P9 fu (Sl.mk l59 none)).bind fun ⟨r62_l, r62_x⟩ =>
                                    (P10 fu (Sl.mk r62_l r62_x) (Sl.mk r60_l r60_x)).bind fun r64 =>
                                      bif r64 then
                                        (P9 fu (Sl.mk [(Value.mk 4 0 ByteArray.empty (Sl.mk [(Value.mk 4 0 ByteArray.empty (Sl.mk l59 none) (Sl.mk [] (some [])) 0 ByteArray.empty false)] (some [])) (Sl.mk [] (some [])) 0 ByteArray.empty false)] (some []))).bind fun ⟨r67_l, r67_x⟩ =>
                                          (P10 fu (Sl.mk r67_l r67_x) (Sl.mk r60_l r60_x)).bind fun r69 =>
                                            some r69
                                      else
                                        some false
                                ).bind fun (q : Bool) =>
                                  match q with
                                  | i71 =>
                                    some i71
                        else none
                      else none
                    else none
                  else none
  | ⟨a0_l, some a0_h⟩ =>
    (
      (P6 fu).bind fun r76 =>
        bif !(!r76) then
          (P8 fu (Sl.mk a0_l (some a0_h))).bind fun r79 =>
            (P7 fu (Sl.mk [r79] (some []))).bind fun r81 =>
              some r81
        else
          some true
    ).bind fun (q : Bool) =>
      match q with
      | i83 =>
        bif i83 then
          (P6 fu).bind fun r85 =>
            some r85
        else
          bif (w64 ((ln a0_l) + 1) == 0) then none else
            bif (w64 ((w64 ((ln a0_l) - (Int.tmod (w64 a1) (w64 ((ln a0_l) + 1))))) + 1) == 0) then none else
              (
                bif decide (0 ≤ 0) then
                  bif decide (0 ≤ Int.tmod (w64 a1) (w64 ((ln a0_l) + 1))) then
                    bif decide (Int.tmod (w64 a1) (w64 ((ln a0_l) + 1)) ≤ ln (a0_l ++ a0_h)) then
                      bif ln (cut (a0_l ++ a0_h) 0 (Int.tmod (w64 a1) (w64 ((ln a0_l) + 1)))) == 0 then
                        some ([] : List Value)
                      else
                        bif room 112 (ln (([] : List Value) ++ (cut (a0_l ++ a0_h) 0 (Int.tmod (w64 a1) (w64 ((ln a0_l) + 1)))))) then
                          some (([] : List Value) ++ (cut (a0_l ++ a0_h) 0 (Int.tmod (w64 a1) (w64 ((ln a0_l) + 1)))))
                        else none
                    else none
                  else none
                else none
              ).bind fun (q : (List Value)) =>
                match q with
                | l114 =>
                  bif decide (0 ≤ Int.tmod (w64 a1) (w64 ((ln a0_l) + 1))) then
                    bif decide (Int.tmod (w64 a1) (w64 ((ln a0_l) + 1)) ≤ w64 ((Int.tmod (w64 a1) (w64 ((ln a0_l) + 1))) + (Int.tmod (w64 a2) (w64 ((w64 ((ln a0_l) - (Int.tmod (w64 a1) (w64 ((ln a0_l) + 1))))) + 1))))) then
                      bif decide (w64 ((Int.tmod (w64 a1) (w64 ((ln a0_l) + 1))) + (Int.tmod (w64 a2) (w64 ((w64 ((ln a0_l) - (Int.tmod (w64 a1) (w64 ((ln a0_l) + 1))))) + 1)))) ≤ ln (a0_l ++ a0_h)) then
                        bif room 112 (ln (l114 ++ [(Value.mk 4 0 ByteArray.empty (Sl.mk (cut (a0_l ++ a0_h) (Int.tmod (w64 a1) (w64 ((ln a0_l) + 1))) (w64 ((Int.tmod (w64 a1) (w64 ((ln a0_l) + 1))) + (Int.tmod (w64 a2) (w64 ((w64 ((ln a0_l) - (Int.tmod (w64 a1) (w64 ((ln a0_l) + 1))))) + 1)))))) (some (cut (a0_l ++ a0_h) (w64 ((Int.tmod (w64 a1) (w64 ((ln a0_l) + 1))) + (Int.tmod (w64 a2) (w64 ((w64 ((ln a0_l) - (Int.tmod (w64 a1) (w64 ((ln a0_l) + 1))))) + 1))))) (ln (a0_l ++ a0_h))))) (Sl.mk [] (some [])) 0 ByteArray.empty false)])) then
                          (
                            bif decide (0 ≤ w64 ((Int.tmod (w64 a1) (w64 ((ln a0_l) + 1))) + (Int.tmod (w64 a2) (w64 ((w64 ((ln a0_l) - (Int.tmod (w64 a1) (w64 ((ln a0_l) + 1))))) + 1))))) then
                              bif decide (w64 ((Int.tmod (w64 a1) (w64 ((ln a0_l) + 1))) + (Int.tmod (w64 a2) (w64 ((w64 ((ln a0_l) - (Int.tmod (w64 a1) (w64 ((ln a0_l) + 1))))) + 1)))) ≤ ln a0_l) then
                                bif decide (ln a0_l ≤ ln (a0_l ++ a0_h)) then
                                  bif ln (cut (a0_l ++ a0_h) (w64 ((Int.tmod (w64 a1) (w64 ((ln a0_l) + 1))) + (Int.tmod (w64 a2) (w64 ((w64 ((ln a0_l) - (Int.tmod (w64 a1) (w64 ((ln a0_l) + 1))))) + 1))))) (ln a0_l)) == 0 then
                                    some (l114 ++ [(Value.mk 4 0 ByteArray.empty (Sl.mk (cut (a0_l ++ a0_h) (Int.tmod (w64 a1) (w64 ((ln a0_l) + 1))) (w64 ((Int.tmod (w64 a1) (w64 ((ln a0_l) + 1))) + (Int.tmod (w64 a2) (w64 ((w64 ((ln a0_l) - (Int.tmod (w64 a1) (w64 ((ln a0_l) + 1))))) + 1)))))) (some (cut (a0_l ++ a0_h) (w64 ((Int.tmod (w64 a1) (w64 ((ln a0_l) + 1))) + (Int.tmod (w64 a2) (w64 ((w64 ((ln a0_l) - (Int.tmod (w64 a1) (w64 ((ln a0_l) + 1))))) + 1))))) (ln (a0_l ++ a0_h))))) (Sl.mk [] (some [])) 0 ByteArray.empty false)])
                                  else
                                    bif room 112 (ln ((l114 ++ [(Value.mk 4 0 ByteArray.empty (Sl.mk (cut (a0_l ++ a0_h) (Int.tmod (w64 a1) (w64 ((ln a0_l) + 1))) (w64 ((Int.tmod (w64 a1) (w64 ((ln a0_l) + 1))) + (Int.tmod (w64 a2) (w64 ((w64 ((ln a0_l) - (Int.tmod (w64 a1) (w64 ((ln a0_l) + 1))))) + 1)))))) (some (cut (a0_l ++ a0_h) (w64 ((Int.tmod (w64 a1) (w64 ((ln a0_l) + 1))) + (Int.tmod (w64 a2) (w64 ((w64 ((ln a0_l) - (Int.tmod (w64 a1) (w64 ((ln a0_l) + 1))))) + 1))))) (ln (a0_l ++ a0_h))))) (Sl.mk [] (some [])) 0 ByteArray.empty false)]) ++ (cut (a0_l ++ a0_h) (w64 ((Int.tmod (w64 a1) (w64 ((ln a0_l) + 1))) + (Int.tmod (w64 a2) (w64 ((w64 ((ln a0_l) - (Int.tmod (w64 a1) (w64 ((ln a0_l) + 1))))) + 1))))) (ln a0_l)))) then
                                      some ((l114 ++ [(Value.mk 4 0 ByteArray.empty (Sl.mk (cut (a0_l ++ a0_h) (Int.tmod (w64 a1) (w64 ((ln a0_l) + 1))) (w64 ((Int.tmod (w64 a1) (w64 ((ln a0_l) + 1))) + (Int.tmod (w64 a2) (w64 ((w64 ((ln a0_l) - (Int.tmod (w64 a1) (w64 ((ln a0_l) + 1))))) + 1)))))) (some (cut (a0_l ++ a0_h) (w64 ((Int.tmod (w64 a1) (w64 ((ln a0_l) + 1))) + (Int.tmod (w64 a2) (w64 ((w64 ((ln a0_l) - (Int.tmod (w64 a1) (w64 ((ln a0_l) + 1))))) + 1))))) (ln (a0_l ++ a0_h))))) (Sl.mk [] (some [])) 0 ByteArray.empty false)]) ++ (cut (a0_l ++ a0_h) (w64 ((Int.tmod (w64 a1) (w64 ((ln a0_l) + 1))) + (Int.tmod (w64 a2) (w64 ((w64 ((ln a0_l) - (Int.tmod (w64 a1) (w64 ((ln a0_l) + 1))))) + 1))))) (ln a0_l)))
                                    else none
                                else none
                              else none
                            else none
                          ).bind fun (q : (List Value)) =>
                            match q with
                            | l152 =>
                              (P9 fu (Sl.mk a0_l (some a0_h))).bind fun ⟨r153_l, r153_x⟩ =>
                                (
                                  (P9 fu (Sl.mk l152 none)).bind fun ⟨r155_l, r155_x⟩ =>
                                    (P10 fu (Sl.mk r155_l r155_x) (Sl.mk r153_l r153_x)).bind fun r157 =>
                                      bif r157 then
                                        (P9 fu (Sl.mk [(Value.mk 4 0 ByteArray.empty (Sl.mk [(Value.mk 4 0 ByteArray.empty (Sl.mk l152 none) (Sl.mk [] (some [])) 0 ByteArray.empty false)] (some [])) (Sl.mk [] (some [])) 0 ByteArray.empty false)] (some []))).bind fun ⟨r160_l, r160_x⟩ =>
                                          (P10 fu (Sl.mk r160_l r160_x) (Sl.mk r153_l r153_x)).bind fun r162 =>
                                            some r162
                                      else
                                        some false
                                ).bind fun (q : Bool) =>
                                  match q with
                                  | i164 =>
                                    some i164
                        else none
                      else none
                    else none
                  else none
end Go.Proofs.YtjoinlfkebgfkaaDoor
