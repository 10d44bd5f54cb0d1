/- Functions on plain data: printed by a small program. -/
import Derived.Test.YtdmpjlpkmokllaaDoorVEE
namespace Go.Proofs.YtdmpjlpkmokllaaDoor
open Go Go.X
set_option linter.unusedVariables false
set_option linter.unusedSimpArgs false
set_option maxRecDepth 100000
/-- tapestry/tapestrylaw01.alive -/
noncomputable def P12 (fu : Nat) : Option (Bool) :=
  some true
/-- tapestry/tapestrylaw01.ValueSize -/
noncomputable def Pb14 (fu : Nat) (p14 : Value → Option (Int)) (p27 : (Sl Value) → Option (Int)) (p32 : (Sl Field) → Option (Int)) (p49 : Field → Option (Int)) (a0 : Value) : Option (Int) :=
  match a0 with
  | ⟨a0_a, a0_b, a0_c, ⟨a0_dl, a0_dx⟩, ⟨a0_el, a0_ex⟩, a0_f, a0_g, a0_h⟩ =>
    (
      bif decide ((w64 ((w64 (1 + (a0_c.size : Int))) + (a0_g.size : Int))) ≤ 1048576) then
        (p27 (Sl.mk a0_dl a0_dx)).bind fun r2 =>
          some (w64 ((w64 ((w64 (1 + (a0_c.size : Int))) + (a0_g.size : Int))) + r2))
      else
        some (w64 ((w64 (1 + (a0_c.size : Int))) + (a0_g.size : Int)))
    ).bind fun (q : Int) =>
      match q with
      | i4 =>
        (
          bif decide (i4 ≤ 1048576) then
            (p32 (Sl.mk a0_el a0_ex)).bind fun r6 =>
              some (w64 (i4 + r6))
          else
            some i4
        ).bind fun (q : Int) =>
          match q with
          | i8 =>
            some i8
/-- tapestry/tapestrylaw01.ValuesSize -/
noncomputable def P27_s0 (fu : Nat) (p14 : Value → Option (Int)) (a0_l : List Value) : (Int × Int) → Option ((Int × Int) ⊕ ((Int × Int)))
  | (i3, i4) =>
    (
      bif decide (i4 < (ln a0_l)) then
        some (decide (i3 ≤ 1048576))
      else
        some false
    ).bind fun (q : Bool) =>
      match q with
      | i8 =>
        bif i8 then
          (idx a0_l i4).bind fun ⟨x10_a, x10_b, x10_c, ⟨x10_dl, x10_dx⟩, ⟨x10_el, x10_ex⟩, x10_f, x10_g, x10_h⟩ =>
            (p14 (Value.mk x10_a x10_b x10_c (Sl.mk x10_dl x10_dx) (Sl.mk x10_el x10_ex) x10_f x10_g x10_h)).bind fun r12 =>
              some (.inl (w64 (i3 + r12), w64 (i4 + 1)))
        else
          some (.inr (i3, i4))
noncomputable def Pb27 (fu : Nat) (p14 : Value → Option (Int)) (p27 : (Sl Value) → Option (Int)) (p32 : (Sl Field) → Option (Int)) (p49 : Field → Option (Int)) (a0 : Sl Value) : Option (Int) :=
  match a0 with
  | ⟨a0_l, a0_x⟩ =>
    (wl (P27_s0 fu p14 a0_l) (ln a0_l, 0)).bind fun q =>
      match q with
      | (o16, o17) =>
        some o16
/-- tapestry/tapestrylaw01.FieldsSize -/
noncomputable def P32_s0 (fu : Nat) (p49 : Field → Option (Int)) (a0_l : List Field) : (Int × Int) → Option ((Int × Int) ⊕ ((Int × Int)))
  | (i3, i4) =>
    (
      bif decide (i4 < (ln a0_l)) then
        some (decide (i3 ≤ 1048576))
      else
        some false
    ).bind fun (q : Bool) =>
      match q with
      | i8 =>
        bif i8 then
          (idx a0_l i4).bind fun ⟨x10_a, ⟨x10_ba, x10_bb, x10_bc, ⟨x10_bdl, x10_bdx⟩, ⟨x10_bel, x10_bex⟩, x10_bf, x10_bg, x10_bh⟩⟩ =>
            (p49 (Field.mk x10_a (Value.mk x10_ba x10_bb x10_bc (Sl.mk x10_bdl x10_bdx) (Sl.mk x10_bel x10_bex) x10_bf x10_bg x10_bh))).bind fun r12 =>
              some (.inl (w64 (i3 + r12), w64 (i4 + 1)))
        else
          some (.inr (i3, i4))
noncomputable def Pb32 (fu : Nat) (p14 : Value → Option (Int)) (p27 : (Sl Value) → Option (Int)) (p32 : (Sl Field) → Option (Int)) (p49 : Field → Option (Int)) (a0 : Sl Field) : Option (Int) :=
  match a0 with
  | ⟨a0_l, a0_x⟩ =>
    (wl (P32_s0 fu p49 a0_l) (ln a0_l, 0)).bind fun q =>
      match q with
      | (o16, o17) =>
        some o16
/-- tapestry/tapestrylaw01.FieldSize -/
noncomputable def Pb49 (fu : Nat) (p14 : Value → Option (Int)) (p27 : (Sl Value) → Option (Int)) (p32 : (Sl Field) → Option (Int)) (p49 : Field → Option (Int)) (a0 : Field) : Option (Int) :=
  match a0 with
  | ⟨a0_a, ⟨a0_ba, a0_bb, a0_bc, ⟨a0_bdl, a0_bdx⟩, ⟨a0_bel, a0_bex⟩, a0_bf, a0_bg, a0_bh⟩⟩ =>
    (
      bif decide ((w64 (1 + (a0_a.size : Int))) ≤ 1048576) then
        (p14 (Value.mk a0_ba a0_bb a0_bc (Sl.mk a0_bdl a0_bdx) (Sl.mk a0_bel a0_bex) a0_bf a0_bg a0_bh)).bind fun r2 =>
          some (w64 ((w64 (1 + (a0_a.size : Int))) + r2))
      else
        some (w64 (1 + (a0_a.size : Int)))
    ).bind fun (q : Int) =>
      match q with
      | i4 =>
        some i4
mutual
noncomputable def P14 : Nat → Value → Option (Int)
  | 0 => fun _ => none
  | fu + 1 => fun a0 => Pb14 fu (P14 fu) (P27 fu) (P32 fu) (P49 fu) a0
noncomputable def P27 : Nat → (Sl Value) → Option (Int)
  | 0 => fun _ => none
  | fu + 1 => fun a0 => Pb27 fu (P14 fu) (P27 fu) (P32 fu) (P49 fu) a0
noncomputable def P32 : Nat → (Sl Field) → Option (Int)
  | 0 => fun _ => none
  | fu + 1 => fun a0 => Pb32 fu (P14 fu) (P27 fu) (P32 fu) (P49 fu) a0
noncomputable def P49 : Nat → Field → Option (Int)
  | 0 => fun _ => none
  | fu + 1 => fun a0 => Pb49 fu (P14 fu) (P27 fu) (P32 fu) (P49 fu) a0
end
/-- tapestry/tapestrylaw01.Beyond -/
noncomputable def P13_s0 (fu : Nat) (a0_l : List Int) : (Bool × Int × Int) → Option ((Bool × Int × Int) ⊕ ((Bool × Int × Int) ⊕ (Bool × Int × Int)))
  | (i1, i2, i3) =>
    bif decide (i3 < (ln a0_l)) then
      (idx a0_l i3).bind fun x7 =>
        bif decide (1048576 < (w64 (i2 + x7))) then
          some (.inr (.inr (true, w64 (i2 + x7), i3)))
        else
          some (.inl (i1, w64 (i2 + x7), w64 (i3 + 1)))
    else
      some (.inr (.inl (i1, i2, i3)))
noncomputable def P13 (fu : Nat) (a0 : Sl Int) : Option (Bool) :=
  match a0 with
  | ⟨a0_l, a0_x⟩ =>
    (wl (P13_s0 fu a0_l) (false, 0, 0)).bind fun q =>
      match q with
      | .inl (o11, o12, o13) =>
        some false
      | .inr (o14, o15, o16) =>
        some o14
/-- slices.EqualFunc[[]tapestry/api.Value,[]tapestry/api.Value,tapestry/api.Value,tapestry/api.Value] -/
noncomputable def P38_s0 (fu : Nat) (a2 : (Value → Value → Option (Bool))) (a0_l : List Value) (a1_l : List Value) : Int → Option (Int ⊕ (Int ⊕ Int))
  | i8 =>
    bif decide (i8 < (ln a0_l)) then
      (idx a0_l i8).bind fun ⟨x10_a, x10_b, x10_c, ⟨x10_dl, x10_dx⟩, ⟨x10_el, x10_ex⟩, x10_f, x10_g, x10_h⟩ =>
        (idx a1_l i8).bind fun ⟨x12_a, x12_b, x12_c, ⟨x12_dl, x12_dx⟩, ⟨x12_el, x12_ex⟩, x12_f, x12_g, x12_h⟩ =>
          (a2 (Value.mk x10_a x10_b x10_c (Sl.mk x10_dl x10_dx) (Sl.mk x10_el x10_ex) x10_f x10_g x10_h) (Value.mk x12_a x12_b x12_c (Sl.mk x12_dl x12_dx) (Sl.mk x12_el x12_ex) x12_f x12_g x12_h)).bind fun r14 =>
            bif !r14 then
              some (.inr (.inr i8))
            else
              some (.inl (w64 (i8 + 1)))
    else
      some (.inr (.inl i8))
noncomputable def P38 (fu : Nat) (a0 : Sl Value) (a1 : Sl Value) (a2 : (Value → Value → Option (Bool))) : Option (Bool) :=
  match a0 with
  | ⟨a0_l, a0_x⟩ =>
    match a1 with
    | ⟨a1_l, a1_x⟩ =>
      bif !((ln a0_l) == (ln a1_l)) then
        some false
      else
        (wl (P38_s0 fu a2 a0_l a1_l) 0).bind fun q =>
          match q with
          | .inl o18 =>
            some true
          | .inr o19 =>
            some false
/-- slices.EqualFunc[[]tapestry/api.Field,[]tapestry/api.Field,tapestry/api.Field,tapestry/api.Field] -/
noncomputable def P62_s0 (fu : Nat) (a2 : (Field → Field → Option (Bool))) (a0_l : List Field) (a1_l : List Field) : Int → Option (Int ⊕ (Int ⊕ Int))
  | i8 =>
    bif decide (i8 < (ln a0_l)) then
      (idx a0_l i8).bind fun ⟨x10_a, ⟨x10_ba, x10_bb, x10_bc, ⟨x10_bdl, x10_bdx⟩, ⟨x10_bel, x10_bex⟩, x10_bf, x10_bg, x10_bh⟩⟩ =>
        (idx a1_l i8).bind fun ⟨x12_a, ⟨x12_ba, x12_bb, x12_bc, ⟨x12_bdl, x12_bdx⟩, ⟨x12_bel, x12_bex⟩, x12_bf, x12_bg, x12_bh⟩⟩ =>
          (a2 (Field.mk x10_a (Value.mk x10_ba x10_bb x10_bc (Sl.mk x10_bdl x10_bdx) (Sl.mk x10_bel x10_bex) x10_bf x10_bg x10_bh)) (Field.mk x12_a (Value.mk x12_ba x12_bb x12_bc (Sl.mk x12_bdl x12_bdx) (Sl.mk x12_bel x12_bex) x12_bf x12_bg x12_bh))).bind fun r14 =>
            bif !r14 then
              some (.inr (.inr i8))
            else
              some (.inl (w64 (i8 + 1)))
    else
      some (.inr (.inl i8))
noncomputable def P62 (fu : Nat) (a0 : Sl Field) (a1 : Sl Field) (a2 : (Field → Field → Option (Bool))) : Option (Bool) :=
  match a0 with
  | ⟨a0_l, a0_x⟩ =>
    match a1 with
    | ⟨a1_l, a1_x⟩ =>
      bif !((ln a0_l) == (ln a1_l)) then
        some false
      else
        (wl (P62_s0 fu a2 a0_l a1_l) 0).bind fun q =>
          match q with
          | .inl o18 =>
            some true
          | .inr o19 =>
            some false
/-- tapestry/value.Same -/
noncomputable def Pb17 (fu : Nat) (p17 : Value → Value → Option (Bool)) (p39 : (Sl Field) → (Sl Field) → Option (Bool)) (p63 : Field → Field → Option (Bool)) (a0 : Value) (a1 : Value) : Option (Bool) :=
  match a0 with
  | ⟨a0_a, a0_b, a0_c, ⟨a0_dl, a0_dx⟩, ⟨a0_el, a0_ex⟩, a0_f, a0_g, a0_h⟩ =>
    match a1 with
    | ⟨a1_a, a1_b, a1_c, ⟨a1_dl, a1_dx⟩, ⟨a1_el, a1_ex⟩, a1_f, a1_g, a1_h⟩ =>
      (
        bif a0_a == a1_a then
          bif a0_b == a1_b then
            bif seq a0_c a1_c then
              bif a0_f == a1_f then
                bif seq a0_g a1_g then
                  bif a0_h == a1_h then
                    (P38 fu (Sl.mk a0_dl a0_dx) (Sl.mk a1_dl a1_dx) p17).bind fun r7 =>
                      bif r7 then
                        (p39 (Sl.mk a0_el a0_ex) (Sl.mk a1_el a1_ex)).bind fun r10 =>
                          some r10
                      else
                        some false
                  else
                    some false
                else
                  some false
              else
                some false
            else
              some false
          else
            some false
        else
          some false
      ).bind fun (q : Bool) =>
        match q with
        | i12 =>
          some i12
/-- tapestry/value.sameFields -/
noncomputable def Pb39 (fu : Nat) (p17 : Value → Value → Option (Bool)) (p39 : (Sl Field) → (Sl Field) → Option (Bool)) (p63 : Field → Field → Option (Bool)) (a0 : Sl Field) (a1 : Sl Field) : Option (Bool) :=
  match a0 with
  | ⟨a0_l, a0_x⟩ =>
    match a1 with
    | ⟨a1_l, a1_x⟩ =>
      (P62 fu (Sl.mk a0_l a0_x) (Sl.mk a1_l a1_x) p63).bind fun r1 =>
        some r1
/-- tapestry/value.sameFields$1 -/
noncomputable def Pb63 (fu : Nat) (p17 : Value → Value → Option (Bool)) (p39 : (Sl Field) → (Sl Field) → Option (Bool)) (p63 : Field → Field → Option (Bool)) (a0 : Field) (a1 : Field) : Option (Bool) :=
  match a0 with
  | ⟨a0_a, ⟨a0_ba, a0_bb, a0_bc, ⟨a0_bdl, a0_bdx⟩, ⟨a0_bel, a0_bex⟩, a0_bf, a0_bg, a0_bh⟩⟩ =>
    match a1 with
    | ⟨a1_a, ⟨a1_ba, a1_bb, a1_bc, ⟨a1_bdl, a1_bdx⟩, ⟨a1_bel, a1_bex⟩, a1_bf, a1_bg, a1_bh⟩⟩ =>
      (
        bif seq a0_a a1_a then
          (p17 (Value.mk a0_ba a0_bb a0_bc (Sl.mk a0_bdl a0_bdx) (Sl.mk a0_bel a0_bex) a0_bf a0_bg a0_bh) (Value.mk a1_ba a1_bb a1_bc (Sl.mk a1_bdl a1_bdx) (Sl.mk a1_bel a1_bex) a1_bf a1_bg a1_bh)).bind fun r2 =>
            some r2
        else
          some false
      ).bind fun (q : Bool) =>
        match q with
        | i4 =>
          some i4
mutual
noncomputable def P17 : Nat → Value → Value → Option (Bool)
  | 0 => fun _ _ => none
  | fu + 1 => fun a0 a1 => Pb17 fu (P17 fu) (P39 fu) (P63 fu) a0 a1
noncomputable def P39 : Nat → (Sl Field) → (Sl Field) → Option (Bool)
  | 0 => fun _ _ => none
  | fu + 1 => fun a0 a1 => Pb39 fu (P17 fu) (P39 fu) (P63 fu) a0 a1
noncomputable def P63 : Nat → Field → Field → Option (Bool)
  | 0 => fun _ _ => none
  | fu + 1 => fun a0 a1 => Pb63 fu (P17 fu) (P39 fu) (P63 fu) a0 a1
end
/-- tapestry/tapestrylaw01.TwinValue -/
noncomputable def Pb21 (fu : Nat) (p21 : Value → Option (Value)) (p42 : (Sl Value) → Option ((Sl Value))) (p43 : (Sl Field) → Option ((Sl Field))) (p64 : Field → Option (Field)) (a0 : Value) : Option (Value) :=
  match a0 with
  | ⟨a0_a, a0_b, a0_c, ⟨a0_dl, a0_dx⟩, ⟨a0_el, a0_ex⟩, a0_f, a0_g, a0_h⟩ =>
    (p42 (Sl.mk a0_dl a0_dx)).bind fun ⟨r1_l, r1_x⟩ =>
      (p43 (Sl.mk a0_el a0_ex)).bind fun ⟨r3_l, r3_x⟩ =>
        some (Value.mk a0_a a0_b a0_c (Sl.mk r1_l r1_x) (Sl.mk r3_l r3_x) a0_f a0_g a0_h)
/-- tapestry/tapestrylaw01.TwinValues -/
noncomputable def P42_s0 (fu : Nat) (p21 : Value → Option (Value)) (a0_l : List Value) : ((List Value) × Int) → Option (((List Value) × Int) ⊕ (((List Value) × Int)))
  | (l10, i11) =>
    bif decide (i11 < (ln a0_l)) then
      (idx a0_l i11).bind fun ⟨x15_a, x15_b, x15_c, ⟨x15_dl, x15_dx⟩, ⟨x15_el, x15_ex⟩, x15_f, x15_g, x15_h⟩ =>
        (p21 (Value.mk x15_a x15_b x15_c (Sl.mk x15_dl x15_dx) (Sl.mk x15_el x15_ex) x15_f x15_g x15_h)).bind fun ⟨r17_a, r17_b, r17_c, ⟨r17_dl, r17_dx⟩, ⟨r17_el, r17_ex⟩, r17_f, r17_g, r17_h⟩ =>
          bif room 112 (ln (l10 ++ [(Value.mk r17_a r17_b r17_c (Sl.mk r17_dl r17_dx) (Sl.mk r17_el r17_ex) r17_f r17_g r17_h)])) then
            bif decide (ln (l10 ++ [(Value.mk r17_a r17_b r17_c (Sl.mk r17_dl r17_dx) (Sl.mk r17_el r17_ex) r17_f r17_g r17_h)]) ≤ w64 ((ln a0_l) + 1)) then
              some (.inl ((l10 ++ [(Value.mk r17_a r17_b r17_c (Sl.mk r17_dl r17_dx) (Sl.mk r17_el r17_ex) r17_f r17_g r17_h)]), w64 (i11 + 1)))
            else none
          else none
    else
      some (.inr (l10, i11))
noncomputable def Pb42 (fu : Nat) (p21 : Value → Option (Value)) (p42 : (Sl Value) → Option ((Sl Value))) (p43 : (Sl Field) → Option ((Sl Field))) (p64 : Field → Option (Field)) (a0 : Sl Value) : Option ((Sl Value)) :=
  match a0 with
  | ⟨a0_l, a0_x⟩ =>
    bif decide (0 ≤ 0) then
      bif decide (0 ≤ w64 ((ln a0_l) + 1)) then
        bif room 112 (w64 ((ln a0_l) + 1)) then
          (wl (P42_s0 fu p21 a0_l) ((List.replicate (Int.toNat 0) (Value.mk 0 0 ByteArray.empty (Sl.mk [] (some [])) (Sl.mk [] (some [])) 0 ByteArray.empty false)), 0)).bind fun q =>
            match q with
            | (o26, o27) =>
              bif room 112 (ln (o26 ++ [(Value.mk 0 0 (⟨#[115, 112, 97, 114, 101]⟩ : ByteArray) (Sl.mk [] (some [])) (Sl.mk [] (some [])) 0 ByteArray.empty false)])) then
                bif decide (ln (o26 ++ [(Value.mk 0 0 (⟨#[115, 112, 97, 114, 101]⟩ : ByteArray) (Sl.mk [] (some [])) (Sl.mk [] (some [])) 0 ByteArray.empty false)]) ≤ w64 ((ln a0_l) + 1)) then
                  bif (w64 ((ln a0_l) + 1) == ln (o26 ++ [(Value.mk 0 0 (⟨#[115, 112, 97, 114, 101]⟩ : ByteArray) (Sl.mk [] (some [])) (Sl.mk [] (some [])) 0 ByteArray.empty false)])) then
                    bif decide (0 ≤ 0) then
                      bif decide (0 ≤ ln a0_l) then
                        bif decide (ln a0_l ≤ ln ((o26 ++ [(Value.mk 0 0 (⟨#[115, 112, 97, 114, 101]⟩ : ByteArray) (Sl.mk [] (some [])) (Sl.mk [] (some [])) 0 ByteArray.empty false)]) ++ [])) then
                          some (Sl.mk (cut ((o26 ++ [(Value.mk 0 0 (⟨#[115, 112, 97, 114, 101]⟩ : ByteArray) (Sl.mk [] (some [])) (Sl.mk [] (some [])) 0 ByteArray.empty false)]) ++ []) 0 (ln a0_l)) (some (cut ((o26 ++ [(Value.mk 0 0 (⟨#[115, 112, 97, 114, 101]⟩ : ByteArray) (Sl.mk [] (some [])) (Sl.mk [] (some [])) 0 ByteArray.empty false)]) ++ []) (ln a0_l) (ln ((o26 ++ [(Value.mk 0 0 (⟨#[115, 112, 97, 114, 101]⟩ : ByteArray) (Sl.mk [] (some [])) (Sl.mk [] (some [])) 0 ByteArray.empty false)]) ++ [])))))
                        else none
                      else none
                    else none
                  else
                    bif decide (0 ≤ 0) then
                      bif decide (0 ≤ ln a0_l) then
                        bif decide (ln a0_l ≤ ln (o26 ++ [(Value.mk 0 0 (⟨#[115, 112, 97, 114, 101]⟩ : ByteArray) (Sl.mk [] (some [])) (Sl.mk [] (some [])) 0 ByteArray.empty false)])) then
                          some (Sl.mk (cut (o26 ++ [(Value.mk 0 0 (⟨#[115, 112, 97, 114, 101]⟩ : ByteArray) (Sl.mk [] (some [])) (Sl.mk [] (some [])) 0 ByteArray.empty false)]) 0 (ln a0_l)) none)
                        else none
                      else none
                    else none
                else none
              else none
        else none
      else none
    else none
/-- tapestry/tapestrylaw01.TwinFields -/
noncomputable def P43_s0 (fu : Nat) (p64 : Field → Option (Field)) (a0_l : List Field) : ((List Field) × Int) → Option (((List Field) × Int) ⊕ (((List Field) × Int)))
  | (l10, i11) =>
    bif decide (i11 < (ln a0_l)) then
      (idx a0_l i11).bind fun ⟨x15_a, ⟨x15_ba, x15_bb, x15_bc, ⟨x15_bdl, x15_bdx⟩, ⟨x15_bel, x15_bex⟩, x15_bf, x15_bg, x15_bh⟩⟩ =>
        (p64 (Field.mk x15_a (Value.mk x15_ba x15_bb x15_bc (Sl.mk x15_bdl x15_bdx) (Sl.mk x15_bel x15_bex) x15_bf x15_bg x15_bh))).bind fun ⟨r17_a, ⟨r17_ba, r17_bb, r17_bc, ⟨r17_bdl, r17_bdx⟩, ⟨r17_bel, r17_bex⟩, r17_bf, r17_bg, r17_bh⟩⟩ =>
          bif room 128 (ln (l10 ++ [(Field.mk r17_a (Value.mk r17_ba r17_bb r17_bc (Sl.mk r17_bdl r17_bdx) (Sl.mk r17_bel r17_bex) r17_bf r17_bg r17_bh))])) then
            bif decide (ln (l10 ++ [(Field.mk r17_a (Value.mk r17_ba r17_bb r17_bc (Sl.mk r17_bdl r17_bdx) (Sl.mk r17_bel r17_bex) r17_bf r17_bg r17_bh))]) ≤ w64 ((ln a0_l) + 1)) then
              some (.inl ((l10 ++ [(Field.mk r17_a (Value.mk r17_ba r17_bb r17_bc (Sl.mk r17_bdl r17_bdx) (Sl.mk r17_bel r17_bex) r17_bf r17_bg r17_bh))]), w64 (i11 + 1)))
            else none
          else none
    else
      some (.inr (l10, i11))
noncomputable def Pb43 (fu : Nat) (p21 : Value → Option (Value)) (p42 : (Sl Value) → Option ((Sl Value))) (p43 : (Sl Field) → Option ((Sl Field))) (p64 : Field → Option (Field)) (a0 : Sl Field) : Option ((Sl Field)) :=
  match a0 with
  | ⟨a0_l, a0_x⟩ =>
    bif decide (0 ≤ 0) then
      bif decide (0 ≤ w64 ((ln a0_l) + 1)) then
        bif room 128 (w64 ((ln a0_l) + 1)) then
          (wl (P43_s0 fu p64 a0_l) ((List.replicate (Int.toNat 0) (Field.mk ByteArray.empty (Value.mk 0 0 ByteArray.empty (Sl.mk [] (some [])) (Sl.mk [] (some [])) 0 ByteArray.empty false))), 0)).bind fun q =>
            match q with
            | (o26, o27) =>
              bif room 128 (ln (o26 ++ [(Field.mk (⟨#[115, 112, 97, 114, 101]⟩ : ByteArray) (Value.mk 0 0 ByteArray.empty (Sl.mk [] (some [])) (Sl.mk [] (some [])) 0 ByteArray.empty false))])) then
                bif decide (ln (o26 ++ [(Field.mk (⟨#[115, 112, 97, 114, 101]⟩ : ByteArray) (Value.mk 0 0 ByteArray.empty (Sl.mk [] (some [])) (Sl.mk [] (some [])) 0 ByteArray.empty false))]) ≤ w64 ((ln a0_l) + 1)) then
                  bif (w64 ((ln a0_l) + 1) == ln (o26 ++ [(Field.mk (⟨#[115, 112, 97, 114, 101]⟩ : ByteArray) (Value.mk 0 0 ByteArray.empty (Sl.mk [] (some [])) (Sl.mk [] (some [])) 0 ByteArray.empty false))])) then
                    bif decide (0 ≤ 0) then
                      bif decide (0 ≤ ln a0_l) then
                        bif decide (ln a0_l ≤ ln ((o26 ++ [(Field.mk (⟨#[115, 112, 97, 114, 101]⟩ : ByteArray) (Value.mk 0 0 ByteArray.empty (Sl.mk [] (some [])) (Sl.mk [] (some [])) 0 ByteArray.empty false))]) ++ [])) then
                          some (Sl.mk (cut ((o26 ++ [(Field.mk (⟨#[115, 112, 97, 114, 101]⟩ : ByteArray) (Value.mk 0 0 ByteArray.empty (Sl.mk [] (some [])) (Sl.mk [] (some [])) 0 ByteArray.empty false))]) ++ []) 0 (ln a0_l)) (some (cut ((o26 ++ [(Field.mk (⟨#[115, 112, 97, 114, 101]⟩ : ByteArray) (Value.mk 0 0 ByteArray.empty (Sl.mk [] (some [])) (Sl.mk [] (some [])) 0 ByteArray.empty false))]) ++ []) (ln a0_l) (ln ((o26 ++ [(Field.mk (⟨#[115, 112, 97, 114, 101]⟩ : ByteArray) (Value.mk 0 0 ByteArray.empty (Sl.mk [] (some [])) (Sl.mk [] (some [])) 0 ByteArray.empty false))]) ++ [])))))
                        else none
                      else none
                    else none
                  else
                    bif decide (0 ≤ 0) then
                      bif decide (0 ≤ ln a0_l) then
                        bif decide (ln a0_l ≤ ln (o26 ++ [(Field.mk (⟨#[115, 112, 97, 114, 101]⟩ : ByteArray) (Value.mk 0 0 ByteArray.empty (Sl.mk [] (some [])) (Sl.mk [] (some [])) 0 ByteArray.empty false))])) then
                          some (Sl.mk (cut (o26 ++ [(Field.mk (⟨#[115, 112, 97, 114, 101]⟩ : ByteArray) (Value.mk 0 0 ByteArray.empty (Sl.mk [] (some [])) (Sl.mk [] (some [])) 0 ByteArray.empty false))]) 0 (ln a0_l)) none)
                        else none
                      else none
                    else none
                else none
              else none
        else none
      else none
    else none
/-- tapestry/tapestrylaw01.TwinField -/
noncomputable def Pb64 (fu : Nat) (p21 : Value → Option (Value)) (p42 : (Sl Value) → Option ((Sl Value))) (p43 : (Sl Field) → Option ((Sl Field))) (p64 : Field → Option (Field)) (a0 : Field) : Option (Field) :=
  match a0 with
  | ⟨a0_a, ⟨a0_ba, a0_bb, a0_bc, ⟨a0_bdl, a0_bdx⟩, ⟨a0_bel, a0_bex⟩, a0_bf, a0_bg, a0_bh⟩⟩ =>
    (p21 (Value.mk a0_ba a0_bb a0_bc (Sl.mk a0_bdl a0_bdx) (Sl.mk a0_bel a0_bex) a0_bf a0_bg a0_bh)).bind fun ⟨r1_a, r1_b, r1_c, ⟨r1_dl, r1_dx⟩, ⟨r1_el, r1_ex⟩, r1_f, r1_g, r1_h⟩ =>
      some (Field.mk a0_a (Value.mk r1_a r1_b r1_c (Sl.mk r1_dl r1_dx) (Sl.mk r1_el r1_ex) r1_f r1_g r1_h))
mutual
noncomputable def P21 : Nat → Value → Option (Value)
  | 0 => fun _ => none
  | fu + 1 => fun a0 => Pb21 fu (P21 fu) (P42 fu) (P43 fu) (P64 fu) a0
noncomputable def P42 : Nat → (Sl Value) → Option ((Sl Value))
  | 0 => fun _ => none
  | fu + 1 => fun a0 => Pb42 fu (P21 fu) (P42 fu) (P43 fu) (P64 fu) a0
noncomputable def P43 : Nat → (Sl Field) → Option ((Sl Field))
  | 0 => fun _ => none
  | fu + 1 => fun a0 => Pb43 fu (P21 fu) (P42 fu) (P43 fu) (P64 fu) a0
noncomputable def P64 : Nat → Field → Option (Field)
  | 0 => fun _ => none
  | fu + 1 => fun a0 => Pb64 fu (P21 fu) (P42 fu) (P43 fu) (P64 fu) a0
end
/-- tapestry/value.Shallow -/
noncomputable def P22 (fu : Nat) (a0 : Value) (a1 : Value) : Option (Bool) :=
  match a0 with
  | ⟨a0_a, a0_b, a0_c, ⟨a0_dl, a0_dx⟩, ⟨a0_el, a0_ex⟩, a0_f, a0_g, a0_h⟩ =>
    match a1 with
    | ⟨a1_a, a1_b, a1_c, ⟨a1_dl, a1_dx⟩, ⟨a1_el, a1_ex⟩, a1_f, a1_g, a1_h⟩ =>
      (
        bif a0_a == 5 then
          bif a1_a == 5 then
            (P39 fu (Sl.mk a0_el a0_ex) (Sl.mk a1_el a1_ex)).bind fun r3 =>
              some r3
          else
            some false
        else
          some false
      ).bind fun (q : Bool) =>
        match q with
        | i5 =>
          some i5
/-- tapestry/value.name -/
noncomputable def P51 (fu : Nat) (a0 : ByteArray) : Option (Bool) :=
  (
    bif !(seq a0 ByteArray.empty) then
      some (decide ((a0.size : Int) ≤ 4096))
    else
      some false
  ).bind fun (q : Bool) =>
    match q with
    | i2 =>
      some i2
/-- tapestry/value.own -/
noncomputable def P84 (fu : Nat) (a0 : Int) : Option ((Sl ByteArray) × Bool) :=
  (
    bif a0 == 6 then
      some (.inr ([(⟨#[118, 97, 108, 117, 101]⟩ : ByteArray)], (some [])))
    else
      (
        bif a0 == 7 then
          (some [(⟨#[97, 103, 97, 105, 110]⟩ : ByteArray), (⟨#[101, 108, 115, 101]⟩ : ByteArray)]).bind fun l3 =>
            some (.inr (l3, (some [])))
        else
          (
            bif a0 == 8 then
              some (.inr ([(⟨#[101, 108, 115, 101]⟩ : ByteArray)], (some [])))
            else
              (
                bif a0 == 4 then
                  some true
                else
                  some (a0 == 5)
              ).bind fun (q : Bool) =>
                match q with
                | i8 =>
                  bif i8 then
                    some (.inr ([], (some [])))
                  else
                    some (.inl ())
          ).bind fun (q : Unit ⊕ ((List ByteArray) × (Option (List ByteArray)))) =>
            match q with
            | .inl _ =>
              some (.inl ())
            | .inr (i11_l, i11_x) =>
              some (.inr (i11_l, i11_x))
      ).bind fun (q : Unit ⊕ ((List ByteArray) × (Option (List ByteArray)))) =>
        match q with
        | .inl _ =>
          some (.inl ())
        | .inr (i13_l, i13_x) =>
          some (.inr (i13_l, i13_x))
  ).bind fun (q : Unit ⊕ ((List ByteArray) × (Option (List ByteArray)))) =>
    match q with
    | .inl _ =>
      some ((Sl.mk [] (some [])), false)
    | .inr (i15_l, i15_x) =>
      some ((Sl.mk i15_l i15_x), true)
/-- slices.EqualFunc[[]tapestry/api.Field,[]string,tapestry/api.Field,string] -/
noncomputable def P85_s0 (fu : Nat) (a2 : (Field → ByteArray → Option (Bool))) (a0_l : List Field) (a1_l : List ByteArray) : Int → Option (Int ⊕ (Int ⊕ Int))
  | i8 =>
    bif decide (i8 < (ln a0_l)) then
      (idx a0_l i8).bind fun ⟨x10_a, ⟨x10_ba, x10_bb, x10_bc, ⟨x10_bdl, x10_bdx⟩, ⟨x10_bel, x10_bex⟩, x10_bf, x10_bg, x10_bh⟩⟩ =>
        (idx a1_l i8).bind fun x12 =>
          (a2 (Field.mk x10_a (Value.mk x10_ba x10_bb x10_bc (Sl.mk x10_bdl x10_bdx) (Sl.mk x10_bel x10_bex) x10_bf x10_bg x10_bh)) x12).bind fun r14 =>
            bif !r14 then
              some (.inr (.inr i8))
            else
              some (.inl (w64 (i8 + 1)))
    else
      some (.inr (.inl i8))
noncomputable def P85 (fu : Nat) (a0 : Sl Field) (a1 : Sl ByteArray) (a2 : (Field → ByteArray → Option (Bool))) : Option (Bool) :=
  match a0 with
  | ⟨a0_l, a0_x⟩ =>
    match a1 with
    | ⟨a1_l, a1_x⟩ =>
      bif !((ln a0_l) == (ln a1_l)) then
        some false
      else
        (wl (P85_s0 fu a2 a0_l a1_l) 0).bind fun q =>
          match q with
          | .inl o18 =>
            some true
          | .inr o19 =>
            some false
/-- tapestry/value.elem$1 -/
noncomputable def P86 (fu : Nat) (a0 : Field) (a1 : ByteArray) : Option (Bool) :=
  match a0 with
  | ⟨a0_a, ⟨a0_ba, a0_bb, a0_bc, ⟨a0_bdl, a0_bdx⟩, ⟨a0_bel, a0_bex⟩, a0_bf, a0_bg, a0_bh⟩⟩ =>
    some (seq a0_a a1)
/-- tapestry/value.elem -/
noncomputable def P52 (fu : Nat) (a0 : Value) : Option (Bool) :=
  match a0 with
  | ⟨a0_a, a0_b, a0_c, ⟨a0_dl, a0_dx⟩, ⟨a0_el, a0_ex⟩, a0_f, a0_g, a0_h⟩ =>
    (
      bif !(!(a0_b == 0)) then
        bif !(decide (a0_f ≤ 0)) then
          bif !(decide (9 ≤ a0_f)) then
            bif !(decide (4096 < (a0_g.size : Int))) then
              bif !a0_h then
                some (!(seq a0_g ByteArray.empty))
              else
                some false
            else
              some true
          else
            some true
        else
          some true
      else
        some true
    ).bind fun (q : Bool) =>
      match q with
      | i6 =>
        bif i6 then
          some false
        else
          (P84 fu a0_f).bind fun ⟨⟨r8_l, r8_x⟩, r9⟩ =>
            (
              bif r9 then
                (P85 fu (Sl.mk a0_el a0_ex) (Sl.mk r8_l r8_x) (P86 fu)).bind fun r12 =>
                  some (!r12)
              else
                some false
            ).bind fun (q : Bool) =>
              match q with
              | i14 =>
                bif i14 then
                  some false
                else
                  (
                    bif a0_f == 4 then
                      some true
                    else
                      (
                        bif a0_f == 7 then
                          some true
                        else
                          some (a0_f == 8)
                      ).bind fun (q : Bool) =>
                        match q with
                        | i18 =>
                          some i18
                  ).bind fun (q : Bool) =>
                    match q with
                    | i20 =>
                      bif i20 then
                        some (seq a0_c ByteArray.empty)
                      else
                        (P51 fu a0_c).bind fun r22 =>
                          some r22
/-- slices.Index[[]tapestry/api.Kind,tapestry/api.Kind] -/
noncomputable def P87_s0 (fu : Nat) (a0_l : List Int) (a1 : Int) : (Int × Int) → Option ((Int × Int) ⊕ ((Int × Int) ⊕ (Int × Int)))
  | (i3, i4) =>
    bif decide (i4 < (ln a0_l)) then
      (idx a0_l i4).bind fun x6 =>
        bif a1 == x6 then
          some (.inr (.inr (i4, i4)))
        else
          some (.inl (i3, w64 (i4 + 1)))
    else
      some (.inr (.inl (i3, i4)))
noncomputable def P87 (fu : Nat) (a0 : Sl Int) (a1 : Int) : Option (Int) :=
  match a0 with
  | ⟨a0_l, a0_x⟩ =>
    (wl (P87_s0 fu a0_l a1) (0, 0)).bind fun q =>
      match q with
      | .inl (o10, o11) =>
        some (-1)
      | .inr (o12, o13) =>
        some o12
/-- slices.Contains[[]tapestry/api.Kind,tapestry/api.Kind] -/
noncomputable def P54 (fu : Nat) (a0 : Sl Int) (a1 : Int) : Option (Bool) :=
  match a0 with
  | ⟨a0_l, a0_x⟩ =>
    (P87 fu (Sl.mk a0_l a0_x) a1).bind fun r1 =>
      some (decide (0 ≤ r1))
/-- tapestry/value.alone$1 -/
noncomputable def P53x1 (fu : Nat) (a0 : Sl Int) (a1 : Value) : Option (Bool) :=
  match a0 with
  | ⟨a0_l, a0_x⟩ =>
    match a1 with
    | ⟨a1_a, a1_b, a1_c, ⟨a1_dl, a1_dx⟩, ⟨a1_el, a1_ex⟩, a1_f, a1_g, a1_h⟩ =>
      (P54 fu (Sl.mk a0_l a0_x) a1_a).bind fun r1 =>
        some r1
/-- tapestry/value.alone -/
noncomputable def P35_s0 (fu : Nat) (a0_el : List Field) : Int → Option (Int ⊕ (Int ⊕ Int))
  | i3 =>
    bif decide (i3 < (ln a0_el)) then
      (idx a0_el i3).bind fun ⟨x5_a, ⟨x5_ba, x5_bb, x5_bc, ⟨x5_bdl, x5_bdx⟩, ⟨x5_bel, x5_bex⟩, x5_bf, x5_bg, x5_bh⟩⟩ =>
        (
          (P51 fu x5_a).bind fun r7 =>
            bif !(!r7) then
              bif decide (0 < i3) then
                (idx a0_el (w64 (i3 - 1))).bind fun ⟨x11_a, ⟨x11_ba, x11_bb, x11_bc, ⟨x11_bdl, x11_bdx⟩, ⟨x11_bel, x11_bex⟩, x11_bf, x11_bg, x11_bh⟩⟩ =>
                  some (!(slt x11_a x5_a))
              else
                some false
            else
              some true
        ).bind fun (q : Bool) =>
          match q with
          | i13 =>
            bif i13 then
              some (.inr (.inr i3))
            else
              some (.inl (w64 (i3 + 1)))
    else
      some (.inr (.inl i3))
noncomputable def P35 (fu : Nat) (a0 : Value) : Option (Bool) :=
  match a0 with
  | ⟨a0_a, a0_b, a0_c, ⟨a0_dl, a0_dx⟩, ⟨a0_el, a0_ex⟩, a0_f, a0_g, a0_h⟩ =>
    (wl (P35_s0 fu a0_el) 0).bind fun q =>
      match q with
      | .inl o17 =>
        bif a0_a == 6 then
          (P52 fu (Value.mk a0_a a0_b a0_c (Sl.mk a0_dl a0_dx) (Sl.mk a0_el a0_ex) a0_f a0_g a0_h)).bind fun r19 =>
            some r19
        else
          (
            bif decide (a0_a ≤ 7) then
              bif a0_f == 0 then
                bif seq a0_g ByteArray.empty then
                  bif !a0_h then
                    bif decide ((a0_c.size : Int) ≤ 4096) then
                      bif !(a0_b == 0) then
                        (some [1, 7]).bind fun l27 =>
                          (P53x1 fu (Sl.mk l27 (some [])) (Value.mk a0_a a0_b a0_c (Sl.mk a0_dl a0_dx) (Sl.mk a0_el a0_ex) a0_f a0_g a0_h)).bind fun r30 =>
                            bif !r30 then
                              (P53x1 fu (Sl.mk [2] (some [])) (Value.mk a0_a a0_b a0_c (Sl.mk a0_dl a0_dx) (Sl.mk a0_el a0_ex) a0_f a0_g a0_h)).bind fun r33 =>
                                bif r33 then
                                  bif a0_b == 1 then
                                    bif !(seq a0_c ByteArray.empty) then
                                      (some [3, 7]).bind fun l38 =>
                                        (P53x1 fu (Sl.mk l38 (some [])) (Value.mk a0_a a0_b a0_c (Sl.mk a0_dl a0_dx) (Sl.mk a0_el a0_ex) a0_f a0_g a0_h)).bind fun r41 =>
                                          bif r41 then
                                            bif !((ln a0_dl) == 0) then
                                              (P53x1 fu (Sl.mk [4] (some [])) (Value.mk a0_a a0_b a0_c (Sl.mk a0_dl a0_dx) (Sl.mk a0_el a0_ex) a0_f a0_g a0_h)).bind fun r47 =>
                                                bif r47 then
                                                  bif !((ln a0_el) == 0) then
                                                    (some [5, 7]).bind fun l53 =>
                                                      (P53x1 fu (Sl.mk l53 (some [])) (Value.mk a0_a a0_b a0_c (Sl.mk a0_dl a0_dx) (Sl.mk a0_el a0_ex) a0_f a0_g a0_h)).bind fun r56 =>
                                                        some r56
                                                  else
                                                    some true
                                                else
                                                  some false
                                            else
                                              bif !((ln a0_el) == 0) then
                                                (some [5, 7]).bind fun l61 =>
                                                  (P53x1 fu (Sl.mk l61 (some [])) (Value.mk a0_a a0_b a0_c (Sl.mk a0_dl a0_dx) (Sl.mk a0_el a0_ex) a0_f a0_g a0_h)).bind fun r64 =>
                                                    some r64
                                              else
                                                some true
                                          else
                                            some false
                                    else
                                      bif !((ln a0_dl) == 0) then
                                        (P53x1 fu (Sl.mk [4] (some [])) (Value.mk a0_a a0_b a0_c (Sl.mk a0_dl a0_dx) (Sl.mk a0_el a0_ex) a0_f a0_g a0_h)).bind fun r69 =>
                                          bif r69 then
                                            bif !((ln a0_el) == 0) then
                                              (some [5, 7]).bind fun l75 =>
                                                (P53x1 fu (Sl.mk l75 (some [])) (Value.mk a0_a a0_b a0_c (Sl.mk a0_dl a0_dx) (Sl.mk a0_el a0_ex) a0_f a0_g a0_h)).bind fun r78 =>
                                                  some r78
                                            else
                                              some true
                                          else
                                            some false
                                      else
                                        bif !((ln a0_el) == 0) then
                                          (some [5, 7]).bind fun l83 =>
                                            (P53x1 fu (Sl.mk l83 (some [])) (Value.mk a0_a a0_b a0_c (Sl.mk a0_dl a0_dx) (Sl.mk a0_el a0_ex) a0_f a0_g a0_h)).bind fun r86 =>
                                              some r86
                                        else
                                          some true
                                  else
                                    some false
                                else
                                  some false
                            else
                              bif !(seq a0_c ByteArray.empty) then
                                (some [3, 7]).bind fun l89 =>
                                  (P53x1 fu (Sl.mk l89 (some [])) (Value.mk a0_a a0_b a0_c (Sl.mk a0_dl a0_dx) (Sl.mk a0_el a0_ex) a0_f a0_g a0_h)).bind fun r92 =>
                                    bif r92 then
                                      bif !((ln a0_dl) == 0) then
                                        (P53x1 fu (Sl.mk [4] (some [])) (Value.mk a0_a a0_b a0_c (Sl.mk a0_dl a0_dx) (Sl.mk a0_el a0_ex) a0_f a0_g a0_h)).bind fun r98 =>
                                          bif r98 then
                                            bif !((ln a0_el) == 0) then
                                              (some [5, 7]).bind fun l104 =>
                                                (P53x1 fu (Sl.mk l104 (some [])) (Value.mk a0_a a0_b a0_c (Sl.mk a0_dl a0_dx) (Sl.mk a0_el a0_ex) a0_f a0_g a0_h)).bind fun r107 =>
                                                  some r107
                                            else
                                              some true
                                          else
                                            some false
                                      else
                                        bif !((ln a0_el) == 0) then
                                          (some [5, 7]).bind fun l112 =>
                                            (P53x1 fu (Sl.mk l112 (some [])) (Value.mk a0_a a0_b a0_c (Sl.mk a0_dl a0_dx) (Sl.mk a0_el a0_ex) a0_f a0_g a0_h)).bind fun r115 =>
                                              some r115
                                        else
                                          some true
                                    else
                                      some false
                              else
                                bif !((ln a0_dl) == 0) then
                                  (P53x1 fu (Sl.mk [4] (some [])) (Value.mk a0_a a0_b a0_c (Sl.mk a0_dl a0_dx) (Sl.mk a0_el a0_ex) a0_f a0_g a0_h)).bind fun r120 =>
                                    bif r120 then
                                      bif !((ln a0_el) == 0) then
                                        (some [5, 7]).bind fun l126 =>
                                          (P53x1 fu (Sl.mk l126 (some [])) (Value.mk a0_a a0_b a0_c (Sl.mk a0_dl a0_dx) (Sl.mk a0_el a0_ex) a0_f a0_g a0_h)).bind fun r129 =>
                                            some r129
                                      else
                                        some true
                                    else
                                      some false
                                else
                                  bif !((ln a0_el) == 0) then
                                    (some [5, 7]).bind fun l134 =>
                                      (P53x1 fu (Sl.mk l134 (some [])) (Value.mk a0_a a0_b a0_c (Sl.mk a0_dl a0_dx) (Sl.mk a0_el a0_ex) a0_f a0_g a0_h)).bind fun r137 =>
                                        some r137
                                  else
                                    some true
                      else
                        bif !(seq a0_c ByteArray.empty) then
                          (some [3, 7]).bind fun l140 =>
                            (P53x1 fu (Sl.mk l140 (some [])) (Value.mk a0_a a0_b a0_c (Sl.mk a0_dl a0_dx) (Sl.mk a0_el a0_ex) a0_f a0_g a0_h)).bind fun r143 =>
                              bif r143 then
                                bif !((ln a0_dl) == 0) then
                                  (P53x1 fu (Sl.mk [4] (some [])) (Value.mk a0_a a0_b a0_c (Sl.mk a0_dl a0_dx) (Sl.mk a0_el a0_ex) a0_f a0_g a0_h)).bind fun r149 =>
                                    bif r149 then
                                      bif !((ln a0_el) == 0) then
                                        (some [5, 7]).bind fun l155 =>
                                          (P53x1 fu (Sl.mk l155 (some [])) (Value.mk a0_a a0_b a0_c (Sl.mk a0_dl a0_dx) (Sl.mk a0_el a0_ex) a0_f a0_g a0_h)).bind fun r158 =>
                                            some r158
                                      else
                                        some true
                                    else
                                      some false
                                else
                                  bif !((ln a0_el) == 0) then
                                    (some [5, 7]).bind fun l163 =>
                                      (P53x1 fu (Sl.mk l163 (some [])) (Value.mk a0_a a0_b a0_c (Sl.mk a0_dl a0_dx) (Sl.mk a0_el a0_ex) a0_f a0_g a0_h)).bind fun r166 =>
                                        some r166
                                  else
                                    some true
                              else
                                some false
                        else
                          bif !((ln a0_dl) == 0) then
                            (P53x1 fu (Sl.mk [4] (some [])) (Value.mk a0_a a0_b a0_c (Sl.mk a0_dl a0_dx) (Sl.mk a0_el a0_ex) a0_f a0_g a0_h)).bind fun r171 =>
                              bif r171 then
                                bif !((ln a0_el) == 0) then
                                  (some [5, 7]).bind fun l177 =>
                                    (P53x1 fu (Sl.mk l177 (some [])) (Value.mk a0_a a0_b a0_c (Sl.mk a0_dl a0_dx) (Sl.mk a0_el a0_ex) a0_f a0_g a0_h)).bind fun r180 =>
                                      some r180
                                else
                                  some true
                              else
                                some false
                          else
                            bif !((ln a0_el) == 0) then
                              (some [5, 7]).bind fun l185 =>
                                (P53x1 fu (Sl.mk l185 (some [])) (Value.mk a0_a a0_b a0_c (Sl.mk a0_dl a0_dx) (Sl.mk a0_el a0_ex) a0_f a0_g a0_h)).bind fun r188 =>
                                  some r188
                            else
                              some true
                    else
                      some false
                  else
                    some false
                else
                  some false
              else
                some false
            else
              some false
          ).bind fun (q : Bool) =>
            match q with
            | i190 =>
              some i190
      | .inr o192 =>
        some false
/-- tapestry/value.Check$1 -/
noncomputable def P34x1 (fu : Nat) (a0 : Value) (a1 : Int) (b0 : Int) (b1 : Bool) : Option (Bool × Int × Bool) :=
  match a0 with
  | ⟨a0_a, a0_b, a0_c, ⟨a0_dl, a0_dx⟩, ⟨a0_el, a0_ex⟩, a0_f, a0_g, a0_h⟩ =>
    (
      (P35 fu (Value.mk a0_a a0_b a0_c (Sl.mk a0_dl a0_dx) (Sl.mk a0_el a0_ex) a0_f a0_g a0_h)).bind fun r1 =>
        bif r1 then
          bif decide ((w64 (b0 + 1)) ≤ 4096) then
            some (decide (a1 ≤ 64))
          else
            some false
        else
          some false
    ).bind fun (q : Bool) =>
      match q with
      | g5 =>
        some (g5, w64 (b0 + 1), g5)
/-- tapestry/value.each$1 -/
noncomputable def P50x1_s0 (fu : Nat) (p50x1 : Value → Int → Int → Bool → Option (Bool × Int × Bool)) (a0_dl : List Value) (a1 : Int) : (Int × Bool × Int) → Option ((Int × Bool × Int) ⊕ ((Int × Bool × Int) ⊕ (Int × Bool × Int)))
  | (g8, g9, i10) =>
    bif decide (i10 < (ln a0_dl)) then
      (idx a0_dl i10).bind fun ⟨x12_a, x12_b, x12_c, ⟨x12_dl, x12_dx⟩, ⟨x12_el, x12_ex⟩, x12_f, x12_g, x12_h⟩ =>
        (p50x1 (Value.mk x12_a x12_b x12_c (Sl.mk x12_dl x12_dx) (Sl.mk x12_el x12_ex) x12_f x12_g x12_h) (w64 (a1 + 1)) g8 g9).bind fun ⟨r15, wr16, wr17⟩ =>
          bif !r15 then
            some (.inr (.inr (wr16, wr17, i10)))
          else
            some (.inl (wr16, wr17, w64 (i10 + 1)))
    else
      some (.inr (.inl (g8, g9, i10)))
noncomputable def P50x1_s1 (fu : Nat) (p50x1 : Value → Int → Int → Bool → Option (Bool × Int × Bool)) (a0_el : List Field) (a1 : Int) : (Int × Bool × Int) → Option ((Int × Bool × Int) ⊕ ((Int × Bool × Int) ⊕ (Int × Bool × Int)))
  | (g25, g26, i27) =>
    bif decide (i27 < (ln a0_el)) then
      (idx a0_el i27).bind fun ⟨x29_a, ⟨x29_ba, x29_bb, x29_bc, ⟨x29_bdl, x29_bdx⟩, ⟨x29_bel, x29_bex⟩, x29_bf, x29_bg, x29_bh⟩⟩ =>
        (p50x1 (Value.mk x29_ba x29_bb x29_bc (Sl.mk x29_bdl x29_bdx) (Sl.mk x29_bel x29_bex) x29_bf x29_bg x29_bh) (w64 (a1 + 1)) g25 g26).bind fun ⟨r32, wr33, wr34⟩ =>
          bif !r32 then
            some (.inr (.inr (wr33, wr34, i27)))
          else
            some (.inl (wr33, wr34, w64 (i27 + 1)))
    else
      some (.inr (.inl (g25, g26, i27)))
noncomputable def Pb50x1 (fu : Nat) (p50x1 : Value → Int → Int → Bool → Option (Bool × Int × Bool)) (a0 : Value) (a1 : Int) (b1 : Int) (b2 : Bool) : Option (Bool × Int × Bool) :=
  match a0 with
  | ⟨a0_a, a0_b, a0_c, ⟨a0_dl, a0_dx⟩, ⟨a0_el, a0_ex⟩, a0_f, a0_g, a0_h⟩ =>
    (P34x1 fu (Value.mk a0_a a0_b a0_c (Sl.mk a0_dl a0_dx) (Sl.mk a0_el a0_ex) a0_f a0_g a0_h) a1 b1 b2).bind fun ⟨r2, wr3, wr4⟩ =>
      bif !r2 then
        some (false, wr3, wr4)
      else
        (wl (P50x1_s0 fu p50x1 a0_dl a1) (wr3, wr4, 0)).bind fun q =>
          match q with
          | .inl (o20, o21, o22) =>
            (wl (P50x1_s1 fu p50x1 a0_el a1) (o20, o21, 0)).bind fun q =>
              match q with
              | .inl (o37, o38, o39) =>
                some (true, o37, o38)
              | .inr (o40, o41, o42) =>
                some (false, o40, o41)
          | .inr (o43, o44, o45) =>
            some (false, o43, o44)
/-- tapestry/value.each$1 -/
noncomputable def P50x1 : Nat → Value → Int → Int → Bool → Option (Bool × Int × Bool)
  | 0 => fun _ _ _ _ => none
  | fu + 1 => fun a0 a1 a2 a3 => Pb50x1 fu (P50x1 fu) a0 a1 a2 a3

/-- tapestry/value.each -/
noncomputable def P33x1 (fu : Nat) (a0 : Value) (b0 : Int) (b1 : Bool) : Option (Int × Bool) :=
  match a0 with
  | ⟨a0_a, a0_b, a0_c, ⟨a0_dl, a0_dx⟩, ⟨a0_el, a0_ex⟩, a0_f, a0_g, a0_h⟩ =>
    (P50x1 fu (Value.mk a0_a a0_b a0_c (Sl.mk a0_dl a0_dx) (Sl.mk a0_el a0_ex) a0_f a0_g a0_h) 1 b0 b1).bind fun ⟨r2, wr3, wr4⟩ =>
      some (wr3, wr4)
/-- tapestry/value.Check -/
noncomputable def P15 (fu : Nat) (a0 : Value) : Option (Bool) :=
  match a0 with
  | ⟨a0_a, a0_b, a0_c, ⟨a0_dl, a0_dx⟩, ⟨a0_el, a0_ex⟩, a0_f, a0_g, a0_h⟩ =>
    (P33x1 fu (Value.mk a0_a a0_b a0_c (Sl.mk a0_dl a0_dx) (Sl.mk a0_el a0_ex) a0_f a0_g a0_h) 0 true).bind fun ⟨wr2, wr3⟩ =>
      some wr3
/-- tapestry/tapestrylaw01.ValueEqual -/
noncomputable def P6 (fu : Nat) (a0 : Value) (a1 : Value) (a2 : Value) : Option (Bool) :=
  match a0 with
  | ⟨a0_a, a0_b, a0_c, ⟨a0_dl, a0_dx⟩, ⟨a0_el, a0_ex⟩, a0_f, a0_g, a0_h⟩ =>
    match a1 with
    | ⟨a1_a, a1_b, a1_c, ⟨a1_dl, a1_dx⟩, ⟨a1_el, a1_ex⟩, a1_f, a1_g, a1_h⟩ =>
      match a2 with
      | ⟨a2_a, a2_b, a2_c, ⟨a2_dl, a2_dx⟩, ⟨a2_el, a2_ex⟩, a2_f, a2_g, a2_h⟩ =>
        (
          (P12 fu).bind fun r1 =>
            bif !(!r1) then
              (P14 fu (Value.mk a0_a a0_b a0_c (Sl.mk a0_dl a0_dx) (Sl.mk a0_el a0_ex) a0_f a0_g a0_h)).bind fun r4 =>
                (P14 fu (Value.mk a1_a a1_b a1_c (Sl.mk a1_dl a1_dx) (Sl.mk a1_el a1_ex) a1_f a1_g a1_h)).bind fun r6 =>
                  (P14 fu (Value.mk a2_a a2_b a2_c (Sl.mk a2_dl a2_dx) (Sl.mk a2_el a2_ex) a2_f a2_g a2_h)).bind fun r8 =>
                    (some [r4, r6, r8]).bind fun l10 =>
                      (P13 fu (Sl.mk l10 (some []))).bind fun r13 =>
                        some r13
            else
              some true
        ).bind fun (q : Bool) =>
          match q with
          | i15 =>
            bif i15 then
              (P12 fu).bind fun r17 =>
                some r17
            else
              (P17 fu (Value.mk a0_a a0_b a0_c (Sl.mk a0_dl a0_dx) (Sl.mk a0_el a0_ex) a0_f a0_g a0_h) (Value.mk a1_a a1_b a1_c (Sl.mk a1_dl a1_dx) (Sl.mk a1_el a1_ex) a1_f a1_g a1_h)).bind fun r19 =>
                (P17 fu (Value.mk a1_a a1_b a1_c (Sl.mk a1_dl a1_dx) (Sl.mk a1_el a1_ex) a1_f a1_g a1_h) (Value.mk a2_a a2_b a2_c (Sl.mk a2_dl a2_dx) (Sl.mk a2_el a2_ex) a2_f a2_g a2_h)).bind fun r21 =>
                  (P17 fu (Value.mk a0_a a0_b a0_c (Sl.mk a0_dl a0_dx) (Sl.mk a0_el a0_ex) a0_f a0_g a0_h) (Value.mk a2_a a2_b a2_c (Sl.mk a2_dl a2_dx) (Sl.mk a2_el a2_ex) a2_f a2_g a2_h)).bind fun r23 =>
                    (
                      (P21 fu (Value.mk a0_a a0_b a0_c (Sl.mk a0_dl a0_dx) (Sl.mk a0_el a0_ex) a0_f a0_g a0_h)).bind fun ⟨r25_a, r25_b, r25_c, ⟨r25_dl, r25_dx⟩, ⟨r25_el, r25_ex⟩, r25_f, r25_g, r25_h⟩ =>
                        (P17 fu (Value.mk a0_a a0_b a0_c (Sl.mk a0_dl a0_dx) (Sl.mk a0_el a0_ex) a0_f a0_g a0_h) (Value.mk r25_a r25_b r25_c (Sl.mk r25_dl r25_dx) (Sl.mk r25_el r25_ex) r25_f r25_g r25_h)).bind fun r27 =>
                          bif !(!r27) then
                            (P17 fu (Value.mk a1_a a1_b a1_c (Sl.mk a1_dl a1_dx) (Sl.mk a1_el a1_ex) a1_f a1_g a1_h) (Value.mk a0_a a0_b a0_c (Sl.mk a0_dl a0_dx) (Sl.mk a0_el a0_ex) a0_f a0_g a0_h)).bind fun r30 =>
                              bif !(!(r30 == r19)) then
                                bif r19 then
                                  bif r21 then
                                    bif !(!r23) then
                                      (P22 fu (Value.mk a0_a a0_b a0_c (Sl.mk a0_dl a0_dx) (Sl.mk a0_el a0_ex) a0_f a0_g a0_h) (Value.mk a1_a a1_b a1_c (Sl.mk a1_dl a1_dx) (Sl.mk a1_el a1_ex) a1_f a1_g a1_h)).bind fun r36 =>
                                        (P22 fu (Value.mk a1_a a1_b a1_c (Sl.mk a1_dl a1_dx) (Sl.mk a1_el a1_ex) a1_f a1_g a1_h) (Value.mk a0_a a0_b a0_c (Sl.mk a0_dl a0_dx) (Sl.mk a0_el a0_ex) a0_f a0_g a0_h)).bind fun r38 =>
                                          some (!(r36 == r38))
                                    else
                                      some true
                                  else
                                    (P22 fu (Value.mk a0_a a0_b a0_c (Sl.mk a0_dl a0_dx) (Sl.mk a0_el a0_ex) a0_f a0_g a0_h) (Value.mk a1_a a1_b a1_c (Sl.mk a1_dl a1_dx) (Sl.mk a1_el a1_ex) a1_f a1_g a1_h)).bind fun r40 =>
                                      (P22 fu (Value.mk a1_a a1_b a1_c (Sl.mk a1_dl a1_dx) (Sl.mk a1_el a1_ex) a1_f a1_g a1_h) (Value.mk a0_a a0_b a0_c (Sl.mk a0_dl a0_dx) (Sl.mk a0_el a0_ex) a0_f a0_g a0_h)).bind fun r42 =>
                                        some (!(r40 == r42))
                                else
                                  (P22 fu (Value.mk a0_a a0_b a0_c (Sl.mk a0_dl a0_dx) (Sl.mk a0_el a0_ex) a0_f a0_g a0_h) (Value.mk a1_a a1_b a1_c (Sl.mk a1_dl a1_dx) (Sl.mk a1_el a1_ex) a1_f a1_g a1_h)).bind fun r44 =>
                                    (P22 fu (Value.mk a1_a a1_b a1_c (Sl.mk a1_dl a1_dx) (Sl.mk a1_el a1_ex) a1_f a1_g a1_h) (Value.mk a0_a a0_b a0_c (Sl.mk a0_dl a0_dx) (Sl.mk a0_el a0_ex) a0_f a0_g a0_h)).bind fun r46 =>
                                      some (!(r44 == r46))
                              else
                                some true
                          else
                            some true
                    ).bind fun (q : Bool) =>
                      match q with
                      | i48 =>
                        bif i48 then
                          some false
                        else
                          (
                            bif a0_a == 5 then
                              some (a1_a == 5)
                            else
                              some false
                          ).bind fun (q : Bool) =>
                            match q with
                            | i51 =>
                              (
                                bif !i51 then
                                  (P22 fu (Value.mk a0_a a0_b a0_c (Sl.mk a0_dl a0_dx) (Sl.mk a0_el a0_ex) a0_f a0_g a0_h) (Value.mk a1_a a1_b a1_c (Sl.mk a1_dl a1_dx) (Sl.mk a1_el a1_ex) a1_f a1_g a1_h)).bind fun r53 =>
                                    some r53
                                else
                                  some false
                              ).bind fun (q : Bool) =>
                                match q with
                                | i55 =>
                                  bif i55 then
                                    some false
                                  else
                                    (
                                      bif !(!i51) then
                                        (P15 fu (Value.mk a0_a a0_b a0_c (Sl.mk a0_dl a0_dx) (Sl.mk a0_el a0_ex) a0_f a0_g a0_h)).bind fun r58 =>
                                          bif !(!r58) then
                                            (P15 fu (Value.mk a1_a a1_b a1_c (Sl.mk a1_dl a1_dx) (Sl.mk a1_el a1_ex) a1_f a1_g a1_h)).bind fun r61 =>
                                              bif !(!r61) then
                                                (P22 fu (Value.mk a0_a a0_b a0_c (Sl.mk a0_dl a0_dx) (Sl.mk a0_el a0_ex) a0_f a0_g a0_h) (Value.mk a1_a a1_b a1_c (Sl.mk a1_dl a1_dx) (Sl.mk a1_el a1_ex) a1_f a1_g a1_h)).bind fun r64 =>
                                                  some (r64 == r19)
                                              else
                                                some true
                                          else
                                            some true
                                      else
                                        some true
                                    ).bind fun (q : Bool) =>
                                      match q with
                                      | i66 =>
                                        some i66
end Go.Proofs.YtdmpjlpkmokllaaDoor
