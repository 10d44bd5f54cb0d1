/- Functions on plain data: printed by a small program. -/
import Derived.Test.YtamllgdaepjcfaaTBH
namespace Go.Proofs.Ytamllgdaepjcfaa
open Go Go.X
set_option linter.unusedVariables false
set_option linter.unusedSimpArgs false
set_option maxRecDepth 100000
/-- tapestry/tapestrylaw17.note -/
noncomputable def P49 (fu : Nat) (a0 : Int) (a1 : Int) : Option (Note) :=
  some (Note.mk a0 a1 ByteArray.empty false ByteArray.empty)
/-- tapestry/tale.Count -/
noncomputable def P48_s0 (fu : Nat) (a0_l : List Note) (a1 : Int) : (Int × Int) → Option ((Int × Int) ⊕ ((Int × Int)))
  | (i3, i4) =>
    bif decide (i4 < (ln a0_l)) then
      (idx a0_l i4).bind fun ⟨x6_Kind, x6_Inst, x6_Name, x6_Late, x6_Text⟩ =>
        (
          bif x6_Kind == a1 then
            some (w64 (i3 + 1))
          else
            some i3
        ).bind fun (q : Int) =>
          match q with
          | i9 =>
            some (.inl (i9, w64 (i4 + 1)))
    else
      some (.inr (i3, i4))
noncomputable def P48 (fu : Nat) (a0 : Sl Note) (a1 : Int) : Option (Int) :=
  match a0 with
  | ⟨a0_l, a0_x⟩ =>
    (wl (P48_s0 fu a0_l a1) (0, 0)).bind fun q =>
      match q with
      | (o12, o13) =>
        some o12
/-- tapestry/tale.Of -/
noncomputable def P47_s0 (fu : Nat) (a0_l : List Note) (a1 : Int) : ((List Note) × Int) → Option (((List Note) × Int) ⊕ (((List Note) × Int)))
  | (l5, i6) =>
    bif decide (i6 < (ln a0_l)) then
      (idx a0_l i6).bind fun ⟨x8_Kind, x8_Inst, x8_Name, x8_Late, x8_Text⟩ =>
        (
          bif x8_Inst == a1 then
            bif room 56 (ln (l5 ++ [(Note.mk x8_Kind x8_Inst x8_Name x8_Late x8_Text)])) then
              some (l5 ++ [(Note.mk x8_Kind x8_Inst x8_Name x8_Late x8_Text)])
            else none
          else
            some l5
        ).bind fun (q : (List Note)) =>
          match q with
          | l16 =>
            some (.inl (l16, w64 (i6 + 1)))
    else
      some (.inr (l5, i6))
noncomputable def P47 (fu : Nat) (a0 : Sl Note) (a1 : Int) : Option ((Sl Note)) :=
  match a0 with
  | ⟨a0_l, a0_x⟩ =>
    (wl (P47_s0 fu a0_l a1) (([] : List Note), 0)).bind fun q =>
      match q with
      | (o19, o20) =>
        some (Sl.mk o19 none)
/-- tapestry/tapestrylaw17.alive -/
noncomputable def P46 (fu : Nat)  : Option (Bool) :=
  (P49 fu 5 1).bind fun ⟨r1_Kind, r1_Inst, r1_Name, r1_Late, r1_Text⟩ =>
    (P49 fu 6 1).bind fun ⟨r3_Kind, r3_Inst, r3_Name, r3_Late, r3_Text⟩ =>
      (P49 fu 1 1).bind fun ⟨r5_Kind, r5_Inst, r5_Name, r5_Late, r5_Text⟩ =>
        (P49 fu 2 1).bind fun ⟨r7_Kind, r7_Inst, r7_Name, r7_Late, r7_Text⟩ =>
          (P49 fu 7 1).bind fun ⟨r9_Kind, r9_Inst, r9_Name, r9_Late, r9_Text⟩ =>
            (P49 fu 4 1).bind fun ⟨r11_Kind, r11_Inst, r11_Name, r11_Late, r11_Text⟩ =>
              (some [(Note.mk r5_Kind r5_Inst r5_Name r5_Late r5_Text), (Note.mk r7_Kind r7_Inst r7_Name r7_Late r7_Text), (Note.mk r1_Kind r1_Inst r1_Name r1_Late r1_Text), (Note.mk r3_Kind r3_Inst r3_Name r3_Late r3_Text), (Note.mk r9_Kind r9_Inst r9_Name r9_Late r9_Text), (Note.mk r11_Kind r11_Inst r11_Name r11_Late r11_Text)]).bind fun l13 =>
                (P35 fu (Sl.mk l13 (some []))).bind fun ⟨r16, r17⟩ =>
                  bif decide (0 ≤ 1) then
                    bif decide (1 ≤ ln l13) then
                      bif decide (ln l13 ≤ ln (l13 ++ [])) then
                        (P35 fu (Sl.mk (cut (l13 ++ []) 1 (ln l13)) (some (cut (l13 ++ []) (ln l13) (ln (l13 ++ [])))))).bind fun ⟨r32, r33⟩ =>
                          (P49 fu 1 1).bind fun ⟨r35_Kind, r35_Inst, r35_Name, r35_Late, r35_Text⟩ =>
                            bif room 56 (ln (l13 ++ [(Note.mk r35_Kind r35_Inst r35_Name r35_Late r35_Text)])) then
                              (P35 fu (Sl.mk (l13 ++ [(Note.mk r35_Kind r35_Inst r35_Name r35_Late r35_Text)]) none)).bind fun ⟨r44, r45⟩ =>
                                (
                                  bif r16 == 6 then
                                    bif r17 == 0 then
                                      bif r32 == 0 then
                                        bif r33 == 1 then
                                          bif r44 == 6 then
                                            bif r45 == 1 then
                                              (P48 fu (Sl.mk l13 (some [])) 5).bind fun r53 =>
                                                bif r53 == 1 then
                                                  (P47 fu (Sl.mk l13 (some [])) 2).bind fun ⟨r56_l, r56_x⟩ =>
                                                    some ((ln r56_l) == 0)
                                                else
                                                  some false
                                            else
                                              some false
                                          else
                                            some false
                                        else
                                          some false
                                      else
                                        some false
                                    else
                                      some false
                                  else
                                    some false
                                ).bind fun (q : Bool) =>
                                  match q with
                                  | i60 =>
                                    some i60
                            else none
                      else none
                    else none
                  else none
/-- tapestry/tapestrylaw17.TaleBeginnings -/
noncomputable def P13_s0 (fu : Nat) (a0_l : List Note) (r10 : Int) : Int → Option (Int ⊕ (Int ⊕ Int))
  | i23 =>
    bif decide (i23 ≤ (ln a0_l)) then
      bif decide (0 ≤ 0) then
        bif decide (0 ≤ i23) then
          bif decide (i23 ≤ ln a0_l) then
            (P35 fu (Sl.mk (cut a0_l 0 i23) none)).bind fun ⟨r34, r35⟩ =>
              (
                bif decide (i23 ≤ r10) then
                  bif !(!(r34 == i23)) then
                    bif !(!(r35 == 0)) then
                      bif decide (r10 < i23) then
                        bif !(!(r34 == r10)) then
                          some (!(r35 == 1))
                        else
                          some true
                      else
                        some false
                    else
                      some true
                  else
                    some true
                else
                  bif decide (r10 < i23) then
                    bif !(!(r34 == r10)) then
                      some (!(r35 == 1))
                    else
                      some true
                  else
                    some false
              ).bind fun (q : Bool) =>
                match q with
                | i44 =>
                  bif i44 then
                    some (.inr (.inr i23))
                  else
                    some (.inl (w64 (i23 + 1)))
          else none
        else none
      else none
    else
      some (.inr (.inl i23))
noncomputable def P13_s1 (fu : Nat) (a0_l : List Note) (a0_h : List Note) (r61 : Int) : Int → Option (Int ⊕ (Int ⊕ Int))
  | i74 =>
    bif decide (i74 ≤ (ln a0_l)) then
      bif decide (0 ≤ 0) then
        bif decide (0 ≤ i74) then
          bif decide (i74 ≤ ln (a0_l ++ a0_h)) then
            (P35 fu (Sl.mk (cut (a0_l ++ a0_h) 0 i74) (some (cut (a0_l ++ a0_h) i74 (ln (a0_l ++ a0_h)))))).bind fun ⟨r91, r92⟩ =>
              (
                bif decide (i74 ≤ r61) then
                  bif !(!(r91 == i74)) then
                    bif !(!(r92 == 0)) then
                      bif decide (r61 < i74) then
                        bif !(!(r91 == r61)) then
                          some (!(r92 == 1))
                        else
                          some true
                      else
                        some false
                    else
                      some true
                  else
                    some true
                else
                  bif decide (r61 < i74) then
                    bif !(!(r91 == r61)) then
                      some (!(r92 == 1))
                    else
                      some true
                  else
                    some false
              ).bind fun (q : Bool) =>
                match q with
                | i101 =>
                  bif i101 then
                    some (.inr (.inr i74))
                  else
                    some (.inl (w64 (i74 + 1)))
          else none
        else none
      else none
    else
      some (.inr (.inl i74))
noncomputable def P13 (fu : Nat) (a0 : Sl Note) : Option (Bool) :=
  match a0 with
  | ⟨a0_l, none⟩ =>
    (
      (P46 fu).bind fun r1 =>
        bif !(!r1) then
          some (decide (300 < (ln a0_l)))
        else
          some true
    ).bind fun (q : Bool) =>
      match q with
      | i6 =>
        bif i6 then
          (P46 fu).bind fun r8 =>
            some r8
        else
          (P35 fu (Sl.mk a0_l none)).bind fun ⟨r10, r11⟩ =>
            (
              bif !(decide (r10 < 0)) then
                bif !(decide ((ln a0_l) < r10)) then
                  bif !(!((r11 == 0) == (r10 == (ln a0_l)))) then
                    bif !(r11 == 0) then
                      some (!(r11 == 1))
                    else
                      some false
                  else
                    some true
                else
                  some true
              else
                some true
            ).bind fun (q : Bool) =>
              match q with
              | i21 =>
                bif i21 then
                  some false
                else
                  (wl (P13_s0 fu a0_l r10) 0).bind fun q =>
                    match q with
                    | .inl o48 =>
                      some true
                    | .inr o49 =>
                      some false
  | ⟨a0_l, some a0_h⟩ =>
    (
      (P46 fu).bind fun r52 =>
        bif !(!r52) then
          some (decide (300 < (ln a0_l)))
        else
          some true
    ).bind fun (q : Bool) =>
      match q with
      | i57 =>
        bif i57 then
          (P46 fu).bind fun r59 =>
            some r59
        else
          (P35 fu (Sl.mk a0_l (some a0_h))).bind fun ⟨r61, r62⟩ =>
            (
              bif !(decide (r61 < 0)) then
                bif !(decide ((ln a0_l) < r61)) then
                  bif !(!((r62 == 0) == (r61 == (ln a0_l)))) then
                    bif !(r62 == 0) then
                      some (!(r62 == 1))
                    else
                      some false
                  else
                    some true
                else
                  some true
              else
                some true
            ).bind fun (q : Bool) =>
              match q with
              | i72 =>
                bif i72 then
                  some false
                else
                  (wl (P13_s1 fu a0_l a0_h r61) 0).bind fun q =>
                    match q with
                    | .inl o105 =>
                      some true
                    | .inr o106 =>
                      some false
end Go.Proofs.Ytamllgdaepjcfaa
