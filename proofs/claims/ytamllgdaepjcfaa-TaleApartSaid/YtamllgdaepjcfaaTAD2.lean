/- Functions on plain data: printed by a small program. -/
import Derived.Test.YtamllgdaepjcfaaTAH
namespace Go.Proofs.Ytamllgdaepjcfaa
open Go Go.X
set_option linter.unusedVariables false
set_option linter.unusedSimpArgs false
set_option maxRecDepth 100000
/-- tapestry/tapestrylaw17.note -/
noncomputable def P49 (fu : Nat) (a0 : Int) (a1 : Int) : Option (Note) :=
  some (Note.mk a0 a1 ByteArray.empty false ByteArray.empty)
/-- tapestry/tale.Count -/
noncomputable def P48_s0 (fu : Nat) (a0_l : List Note) (a1 : Int) : (Int × Int) → Option ((Int × Int) ⊕ ((Int × Int)))
  | (i3, i4) =>
    bif decide (i4 < (ln a0_l)) then
      (idx a0_l i4).bind fun ⟨x6_Kind, x6_Inst, x6_Name, x6_Late, x6_Text⟩ =>
        (
          bif x6_Kind == a1 then
            some (w64 (i3 + 1))
          else
            some i3
        ).bind fun (q : Int) =>
          match q with
          | i9 =>
            some (.inl (i9, w64 (i4 + 1)))
    else
      some (.inr (i3, i4))
noncomputable def P48 (fu : Nat) (a0 : Sl Note) (a1 : Int) : Option (Int) :=
  match a0 with
  | ⟨a0_l, a0_x⟩ =>
    (wl (P48_s0 fu a0_l a1) (0, 0)).bind fun q =>
      match q with
      | (o12, o13) =>
        some o12
/-- tapestry/tale.Of -/
noncomputable def P47_s0 (fu : Nat) (a0_l : List Note) (a1 : Int) : ((List Note) × Int) → Option (((List Note) × Int) ⊕ (((List Note) × Int)))
  | (l5, i6) =>
    bif decide (i6 < (ln a0_l)) then
      (idx a0_l i6).bind fun ⟨x8_Kind, x8_Inst, x8_Name, x8_Late, x8_Text⟩ =>
        (
          bif x8_Inst == a1 then
            bif room 56 (ln (l5 ++ [(Note.mk x8_Kind x8_Inst x8_Name x8_Late x8_Text)])) then
              some (l5 ++ [(Note.mk x8_Kind x8_Inst x8_Name x8_Late x8_Text)])
            else none
          else
            some l5
        ).bind fun (q : (List Note)) =>
          match q with
          | l16 =>
            some (.inl (l16, w64 (i6 + 1)))
    else
      some (.inr (l5, i6))
noncomputable def P47 (fu : Nat) (a0 : Sl Note) (a1 : Int) : Option ((Sl Note)) :=
  match a0 with
  | ⟨a0_l, a0_x⟩ =>
    (wl (P47_s0 fu a0_l a1) (([] : List Note), 0)).bind fun q =>
      match q with
      | (o19, o20) =>
        some (Sl.mk o19 none)
/-- tapestry/tapestrylaw17.alive -/
noncomputable def P46 (fu : Nat)  : Option (Bool) :=
  (P49 fu 5 1).bind fun ⟨r1_Kind, r1_Inst, r1_Name, r1_Late, r1_Text⟩ =>
    (P49 fu 6 1).bind fun ⟨r3_Kind, r3_Inst, r3_Name, r3_Late, r3_Text⟩ =>
      (P49 fu 1 1).bind fun ⟨r5_Kind, r5_Inst, r5_Name, r5_Late, r5_Text⟩ =>
        (P49 fu 2 1).bind fun ⟨r7_Kind, r7_Inst, r7_Name, r7_Late, r7_Text⟩ =>
          (P49 fu 7 1).bind fun ⟨r9_Kind, r9_Inst, r9_Name, r9_Late, r9_Text⟩ =>
            (P49 fu 4 1).bind fun ⟨r11_Kind, r11_Inst, r11_Name, r11_Late, r11_Text⟩ =>
              (some [(Note.mk r5_Kind r5_Inst r5_Name r5_Late r5_Text), (Note.mk r7_Kind r7_Inst r7_Name r7_Late r7_Text), (Note.mk r1_Kind r1_Inst r1_Name r1_Late r1_Text), (Note.mk r3_Kind r3_Inst r3_Name r3_Late r3_Text), (Note.mk r9_Kind r9_Inst r9_Name r9_Late r9_Text), (Note.mk r11_Kind r11_Inst r11_Name r11_Late r11_Text)]).bind fun l13 =>
                (P35 fu (Sl.mk l13 (some []))).bind fun ⟨r16, r17⟩ =>
                  bif decide (0 ≤ 1) then
                    bif decide (1 ≤ ln l13) then
                      bif decide (ln l13 ≤ ln (l13 ++ [])) then
                        (P35 fu (Sl.mk (cut (l13 ++ []) 1 (ln l13)) (some (cut (l13 ++ []) (ln l13) (ln (l13 ++ [])))))).bind fun ⟨r32, r33⟩ =>
                          (P49 fu 1 1).bind fun ⟨r35_Kind, r35_Inst, r35_Name, r35_Late, r35_Text⟩ =>
                            bif room 56 (ln (l13 ++ [(Note.mk r35_Kind r35_Inst r35_Name r35_Late r35_Text)])) then
                              (P35 fu (Sl.mk (l13 ++ [(Note.mk r35_Kind r35_Inst r35_Name r35_Late r35_Text)]) none)).bind fun ⟨r44, r45⟩ =>
                                (
                                  bif r16 == 6 then
                                    bif r17 == 0 then
                                      bif r32 == 0 then
                                        bif r33 == 1 then
                                          bif r44 == 6 then
                                            bif r45 == 1 then
                                              (P48 fu (Sl.mk l13 (some [])) 5).bind fun r53 =>
                                                bif r53 == 1 then
                                                  (P47 fu (Sl.mk l13 (some [])) 2).bind fun ⟨r56_l, r56_x⟩ =>
                                                    some ((ln r56_l) == 0)
                                                else
                                                  some false
                                            else
                                              some false
                                          else
                                            some false
                                        else
                                          some false
                                      else
                                        some false
                                    else
                                      some false
                                  else
                                    some false
                                ).bind fun (q : Bool) =>
                                  match q with
                                  | i60 =>
                                    some i60
                            else none
                      else none
                    else none
                  else none
/-- tapestry/tapestrylaw17.TaleApart -/
noncomputable def P14_s0 (fu : Nat) (a0_l : List Note) (a0_x : Option (List Note)) : (Bool × Int) → Option ((Bool × Int) ⊕ ((Bool × Int)))
  | (i13, i14) =>
    bif decide (i14 < (ln a0_l)) then
      (idx a0_l i14).bind fun ⟨x18_Kind, x18_Inst, x18_Name, x18_Late, x18_Text⟩ =>
        (P47 fu (Sl.mk a0_l a0_x) x18_Inst).bind fun ⟨r20_l, r20_x⟩ =>
          (P35 fu (Sl.mk r20_l r20_x)).bind fun ⟨r22, r23⟩ =>
            (
              bif i13 then
                some (r23 == 0)
              else
                some false
            ).bind fun (q : Bool) =>
              match q with
              | i26 =>
                some (.inl (i26, w64 (i14 + 1)))
    else
      some (.inr (i13, i14))
noncomputable def P14_s1 (fu : Nat) (a0_l : List Note) (r11 : Int) : Int → Option (Int ⊕ (Int ⊕ Int))
  | i32 =>
    bif decide (i32 < (ln a0_l)) then
      (
        (idx a0_l i32).bind fun ⟨x36_Kind, x36_Inst, x36_Name, x36_Late, x36_Text⟩ =>
          (idx a0_l (w64 (i32 - 1))).bind fun ⟨x38_Kind, x38_Inst, x38_Name, x38_Late, x38_Text⟩ =>
            bif !(x36_Inst == x38_Inst) then
              some (decide (i32 < 40))
            else
              some false
      ).bind fun (q : Bool) =>
        match q with
        | i41 =>
          (
            bif i41 then
              (
                bif ln a0_l == 0 then
                  some ([] : List Note)
                else
                  bif room 56 (ln (([] : List Note) ++ a0_l)) then
                    some (([] : List Note) ++ a0_l)
                  else none
              ).bind fun (q : (List Note)) =>
                match q with
                | l51 =>
                  (idx a0_l (w64 (i32 - 1))).bind fun ⟨x52_Kind, x52_Inst, x52_Name, x52_Late, x52_Text⟩ =>
                    (idx l51 i32).bind fun ⟨x54_Kind, x54_Inst, x54_Name, x54_Late, x54_Text⟩ =>
                      (idx a0_l i32).bind fun ⟨x59_Kind, x59_Inst, x59_Name, x59_Late, x59_Text⟩ =>
                        (idx (List.set l51 (Int.toNat i32) (Note.mk x52_Kind x52_Inst x52_Name x52_Late x52_Text)) (w64 (i32 - 1))).bind fun ⟨x61_Kind, x61_Inst, x61_Name, x61_Late, x61_Text⟩ =>
                          (P35 fu (Sl.mk (List.set (List.set l51 (Int.toNat i32) (Note.mk x52_Kind x52_Inst x52_Name x52_Late x52_Text)) (Int.toNat (w64 (i32 - 1))) (Note.mk x59_Kind x59_Inst x59_Name x59_Late x59_Text)) none)).bind fun ⟨r66, r67⟩ =>
                            bif !(r67 == r11) then
                              some (.inr ())
                            else
                              some (.inl ())
            else
              some (.inl ())
          ).bind fun (q : Unit ⊕ Unit) =>
            match q with
            | .inl _ =>
              some (.inl (w64 (i32 + 1)))
            | .inr _ =>
              some (.inr (.inr i32))
    else
      some (.inr (.inl i32))
noncomputable def P14 (fu : Nat) (a0 : Sl Note) : Option (Bool) :=
  match a0 with
  | ⟨a0_l, a0_x⟩ =>
    (
      (P46 fu).bind fun r1 =>
        bif !(!r1) then
          some (decide (300 < (ln a0_l)))
        else
          some true
    ).bind fun (q : Bool) =>
      match q with
      | i6 =>
        bif i6 then
          (P46 fu).bind fun r8 =>
            some r8
        else
          (P35 fu (Sl.mk a0_l a0_x)).bind fun ⟨r10, r11⟩ =>
            (wl (P14_s0 fu a0_l a0_x) (true, 0)).bind fun q =>
              match q with
              | (o29, o30) =>
                bif !(o29 == (r11 == 0)) then
                  some false
                else
                  (wl (P14_s1 fu a0_l r11) 1).bind fun q =>
                    match q with
                    | .inl o74 =>
                      some true
                    | .inr o75 =>
                      some false
end Go.Proofs.Ytamllgdaepjcfaa
