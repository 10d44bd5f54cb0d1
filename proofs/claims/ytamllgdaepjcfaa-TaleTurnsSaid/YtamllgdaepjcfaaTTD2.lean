/- Functions on plain data: printed by a small program. -/
import Derived.Test.YtamllgdaepjcfaaTTH
namespace Go.Proofs.Ytamllgdaepjcfaa
open Go Go.X
set_option linter.unusedVariables false
set_option linter.unusedSimpArgs false
set_option maxRecDepth 100000
/-- tapestry/tapestrylaw17.note -/
noncomputable def P49 (fu : Nat) (a0 : Int) (a1 : Int) : Option (Note) :=
  some (Note.mk a0 a1 ByteArray.empty false ByteArray.empty)
/-- tapestry/tale.Count -/
noncomputable def P48_s0 (fu : Nat) (a0_l : List Note) (a1 : Int) : (Int × Int) → Option ((Int × Int) ⊕ ((Int × Int)))
  | (i3, i4) =>
    bif decide (i4 < (ln a0_l)) then
      (idx a0_l i4).bind fun ⟨x6_Kind, x6_Inst, x6_Name, x6_Late, x6_Text⟩ =>
        (
          bif x6_Kind == a1 then
            some (w64 (i3 + 1))
          else
            some i3
        ).bind fun (q : Int) =>
          match q with
          | i9 =>
            some (.inl (i9, w64 (i4 + 1)))
    else
      some (.inr (i3, i4))
noncomputable def P48 (fu : Nat) (a0 : Sl Note) (a1 : Int) : Option (Int) :=
  match a0 with
  | ⟨a0_l, a0_x⟩ =>
    (wl (P48_s0 fu a0_l a1) (0, 0)).bind fun q =>
      match q with
      | (o12, o13) =>
        some o12
/-- tapestry/tale.Of -/
noncomputable def P47_s0 (fu : Nat) (a0_l : List Note) (a1 : Int) : ((List Note) × Int) → Option (((List Note) × Int) ⊕ (((List Note) × Int)))
  | (l5, i6) =>
    bif decide (i6 < (ln a0_l)) then
      (idx a0_l i6).bind fun ⟨x8_Kind, x8_Inst, x8_Name, x8_Late, x8_Text⟩ =>
        (
          bif x8_Inst == a1 then
            bif room 56 (ln (l5 ++ [(Note.mk x8_Kind x8_Inst x8_Name x8_Late x8_Text)])) then
              some (l5 ++ [(Note.mk x8_Kind x8_Inst x8_Name x8_Late x8_Text)])
            else none
          else
            some l5
        ).bind fun (q : (List Note)) =>
          match q with
          | l16 =>
            some (.inl (l16, w64 (i6 + 1)))
    else
      some (.inr (l5, i6))
noncomputable def P47 (fu : Nat) (a0 : Sl Note) (a1 : Int) : Option ((Sl Note)) :=
  match a0 with
  | ⟨a0_l, a0_x⟩ =>
    (wl (P47_s0 fu a0_l a1) (([] : List Note), 0)).bind fun q =>
      match q with
      | (o19, o20) =>
        some (Sl.mk o19 none)
/-- tapestry/tapestrylaw17.alive -/
noncomputable def P46 (fu : Nat)  : Option (Bool) :=
  (P49 fu 5 1).bind fun ⟨r1_Kind, r1_Inst, r1_Name, r1_Late, r1_Text⟩ =>
    (P49 fu 6 1).bind fun ⟨r3_Kind, r3_Inst, r3_Name, r3_Late, r3_Text⟩ =>
      (P49 fu 1 1).bind fun ⟨r5_Kind, r5_Inst, r5_Name, r5_Late, r5_Text⟩ =>
        (P49 fu 2 1).bind fun ⟨r7_Kind, r7_Inst, r7_Name, r7_Late, r7_Text⟩ =>
          (P49 fu 7 1).bind fun ⟨r9_Kind, r9_Inst, r9_Name, r9_Late, r9_Text⟩ =>
            (P49 fu 4 1).bind fun ⟨r11_Kind, r11_Inst, r11_Name, r11_Late, r11_Text⟩ =>
              (some [(Note.mk r5_Kind r5_Inst r5_Name r5_Late r5_Text), (Note.mk r7_Kind r7_Inst r7_Name r7_Late r7_Text), (Note.mk r1_Kind r1_Inst r1_Name r1_Late r1_Text), (Note.mk r3_Kind r3_Inst r3_Name r3_Late r3_Text), (Note.mk r9_Kind r9_Inst r9_Name r9_Late r9_Text), (Note.mk r11_Kind r11_Inst r11_Name r11_Late r11_Text)]).bind fun l13 =>
                (P35 fu (Sl.mk l13 (some []))).bind fun ⟨r16, r17⟩ =>
                  bif decide (0 ≤ 1) then
                    bif decide (1 ≤ ln l13) then
                      bif decide (ln l13 ≤ ln (l13 ++ [])) then
                        (P35 fu (Sl.mk (cut (l13 ++ []) 1 (ln l13)) (some (cut (l13 ++ []) (ln l13) (ln (l13 ++ [])))))).bind fun ⟨r32, r33⟩ =>
                          (P49 fu 1 1).bind fun ⟨r35_Kind, r35_Inst, r35_Name, r35_Late, r35_Text⟩ =>
                            bif room 56 (ln (l13 ++ [(Note.mk r35_Kind r35_Inst r35_Name r35_Late r35_Text)])) then
                              (P35 fu (Sl.mk (l13 ++ [(Note.mk r35_Kind r35_Inst r35_Name r35_Late r35_Text)]) none)).bind fun ⟨r44, r45⟩ =>
                                (
                                  bif r16 == 6 then
                                    bif r17 == 0 then
                                      bif r32 == 0 then
                                        bif r33 == 1 then
                                          bif r44 == 6 then
                                            bif r45 == 1 then
                                              (P48 fu (Sl.mk l13 (some [])) 5).bind fun r53 =>
                                                bif r53 == 1 then
                                                  (P47 fu (Sl.mk l13 (some [])) 2).bind fun ⟨r56_l, r56_x⟩ =>
                                                    some ((ln r56_l) == 0)
                                                else
                                                  some false
                                            else
                                              some false
                                          else
                                            some false
                                        else
                                          some false
                                      else
                                        some false
                                    else
                                      some false
                                  else
                                    some false
                                ).bind fun (q : Bool) =>
                                  match q with
                                  | i60 =>
                                    some i60
                            else none
                      else none
                    else none
                  else none
/-- tapestry/tapestrylaw01.SameNotes -/
noncomputable def P50_s0 (fu : Nat) (a0_l : List Note) (a1_l : List Note) : Int → Option (Int ⊕ (Int ⊕ Int))
  | i6 =>
    bif decide (i6 < (ln a0_l)) then
      (idx a0_l i6).bind fun ⟨x10_Kind, x10_Inst, x10_Name, x10_Late, x10_Text⟩ =>
        (idx a1_l i6).bind fun ⟨x12_Kind, x12_Inst, x12_Name, x12_Late, x12_Text⟩ =>
          bif !((x10_Kind == x12_Kind) && ((x10_Inst == x12_Inst) && ((seq x10_Name x12_Name) && ((x10_Late == x12_Late) && ((seq x10_Text x12_Text) && true))))) then
            some (.inr (.inr i6))
          else
            some (.inl (w64 (i6 + 1)))
    else
      some (.inr (.inl i6))
noncomputable def P50 (fu : Nat) (a0 : Sl Note) (a1 : Sl Note) : Option (Bool) :=
  match a0 with
  | ⟨a0_l, a0_x⟩ =>
    match a1 with
    | ⟨a1_l, a1_x⟩ =>
      bif !((ln a0_l) == (ln a1_l)) then
        some false
      else
        (wl (P50_s0 fu a0_l a1_l) 0).bind fun q =>
          match q with
          | .inl o16 =>
            some true
          | .inr o17 =>
            some false
/-- tapestry/tapestrylaw17.TaleTurns -/
noncomputable def P16 (fu : Nat) (a0 : Sl Note) (a1 : Int) (a2 : Int) (a3 : Int) : Option (Bool) :=
  match a0 with
  | ⟨a0_l, none⟩ =>
    (
      (P46 fu).bind fun r1 =>
        bif !(!r1) then
          some (decide (300 < (ln a0_l)))
        else
          some true
    ).bind fun (q : Bool) =>
      match q with
      | i6 =>
        bif i6 then
          (P46 fu).bind fun r8 =>
            some r8
        else
          (
            bif decide (1 ≤ a2) then
              some (decide (a2 ≤ 6))
            else
              some false
          ).bind fun (q : Bool) =>
            match q with
            | i11 =>
              bif i11 then
                some true
              else
                bif (w64 ((ln a0_l) + 1) == 0) then none else
                  (
                    bif decide (0 ≤ 0) then
                      bif decide (0 ≤ Int.tmod (w64 a1) (w64 ((ln a0_l) + 1))) then
                        bif decide (Int.tmod (w64 a1) (w64 ((ln a0_l) + 1)) ≤ ln a0_l) then
                          bif ln (cut a0_l 0 (Int.tmod (w64 a1) (w64 ((ln a0_l) + 1)))) == 0 then
                            some ([] : List Note)
                          else
                            bif room 56 (ln (([] : List Note) ++ (cut a0_l 0 (Int.tmod (w64 a1) (w64 ((ln a0_l) + 1)))))) then
                              some (([] : List Note) ++ (cut a0_l 0 (Int.tmod (w64 a1) (w64 ((ln a0_l) + 1)))))
                            else none
                        else none
                      else none
                    else none
                  ).bind fun (q : (List Note)) =>
                    match q with
                    | l31 =>
                      (P49 fu a2 a3).bind fun ⟨r32_Kind, r32_Inst, r32_Name, r32_Late, r32_Text⟩ =>
                        bif room 56 (ln (l31 ++ [(Note.mk r32_Kind r32_Inst r32_Name r32_Late r32_Text)])) then
                          (
                            bif decide (0 ≤ Int.tmod (w64 a1) (w64 ((ln a0_l) + 1))) then
                              bif decide (Int.tmod (w64 a1) (w64 ((ln a0_l) + 1)) ≤ ln a0_l) then
                                bif decide (ln a0_l ≤ ln a0_l) then
                                  bif ln (cut a0_l (Int.tmod (w64 a1) (w64 ((ln a0_l) + 1))) (ln a0_l)) == 0 then
                                    some (l31 ++ [(Note.mk r32_Kind r32_Inst r32_Name r32_Late r32_Text)])
                                  else
                                    bif room 56 (ln ((l31 ++ [(Note.mk r32_Kind r32_Inst r32_Name r32_Late r32_Text)]) ++ (cut a0_l (Int.tmod (w64 a1) (w64 ((ln a0_l) + 1))) (ln a0_l)))) then
                                      some ((l31 ++ [(Note.mk r32_Kind r32_Inst r32_Name r32_Late r32_Text)]) ++ (cut a0_l (Int.tmod (w64 a1) (w64 ((ln a0_l) + 1))) (ln a0_l)))
                                    else none
                                else none
                              else none
                            else none
                          ).bind fun (q : (List Note)) =>
                            match q with
                            | l52 =>
                              (P35 fu (Sl.mk a0_l none)).bind fun ⟨r53, r54⟩ =>
                                (P35 fu (Sl.mk l52 none)).bind fun ⟨r56, r57⟩ =>
                                  (
                                    bif !(r54 == 0) then
                                      some (decide ((Int.tmod (w64 a1) (w64 ((ln a0_l) + 1))) ≤ r53))
                                    else
                                      some true
                                  ).bind fun (q : Bool) =>
                                    match q with
                                    | i60 =>
                                      (
                                        bif i60 then
                                          some (w64 (r53 + 1))
                                        else
                                          some r53
                                      ).bind fun (q : Int) =>
                                        match q with
                                        | i62 =>
                                          (
                                            bif r57 == r54 then
                                              bif r56 == i62 then
                                                (P47 fu (Sl.mk l52 none) a3).bind fun ⟨r65_l, r65_x⟩ =>
                                                  (P47 fu (Sl.mk a0_l none) a3).bind fun ⟨r69_l, r69_x⟩ =>
                                                    bif (ln r65_l) == (w64 ((ln r69_l) + 1)) then
                                                      (P47 fu (Sl.mk l52 none) (w64 (a3 + 1))).bind fun ⟨r74_l, r74_x⟩ =>
                                                        (P47 fu (Sl.mk a0_l none) (w64 (a3 + 1))).bind fun ⟨r76_l, r76_x⟩ =>
                                                          (P50 fu (Sl.mk r74_l r74_x) (Sl.mk r76_l r76_x)).bind fun r78 =>
                                                            some r78
                                                    else
                                                      some false
                                              else
                                                some false
                                            else
                                              some false
                                          ).bind fun (q : Bool) =>
                                            match q with
                                            | i80 =>
                                              some i80
                        else none
  | ⟨a0_l, some a0_h⟩ =>
    (
      (P46 fu).bind fun r88 =>
        bif !(!r88) then
          some (decide (300 < (ln a0_l)))
        else
          some true
    ).bind fun (q : Bool) =>
      match q with
      | i93 =>
        bif i93 then
          (P46 fu).bind fun r95 =>
            some r95
        else
          (
            bif decide (1 ≤ a2) then
              some (decide (a2 ≤ 6))
            else
              some false
          ).bind fun (q : Bool) =>
            match q with
            | i98 =>
              bif i98 then
                some true
              else
                bif (w64 ((ln a0_l) + 1) == 0) then none else
                  (
                    bif decide (0 ≤ 0) then
                      bif decide (0 ≤ Int.tmod (w64 a1) (w64 ((ln a0_l) + 1))) then
                        bif decide (Int.tmod (w64 a1) (w64 ((ln a0_l) + 1)) ≤ ln (a0_l ++ a0_h)) then
                          bif ln (cut (a0_l ++ a0_h) 0 (Int.tmod (w64 a1) (w64 ((ln a0_l) + 1)))) == 0 then
                            some ([] : List Note)
                          else
                            bif room 56 (ln (([] : List Note) ++ (cut (a0_l ++ a0_h) 0 (Int.tmod (w64 a1) (w64 ((ln a0_l) + 1)))))) then
                              some (([] : List Note) ++ (cut (a0_l ++ a0_h) 0 (Int.tmod (w64 a1) (w64 ((ln a0_l) + 1)))))
                            else none
                        else none
                      else none
                    else none
                  ).bind fun (q : (List Note)) =>
                    match q with
                    | l124 =>
                      (P49 fu a2 a3).bind fun ⟨r125_Kind, r125_Inst, r125_Name, r125_Late, r125_Text⟩ =>
                        bif room 56 (ln (l124 ++ [(Note.mk r125_Kind r125_Inst r125_Name r125_Late r125_Text)])) then
                          (
                            bif decide (0 ≤ Int.tmod (w64 a1) (w64 ((ln a0_l) + 1))) then
                              bif decide (Int.tmod (w64 a1) (w64 ((ln a0_l) + 1)) ≤ ln a0_l) then
                                bif decide (ln a0_l ≤ ln (a0_l ++ a0_h)) then
                                  bif ln (cut (a0_l ++ a0_h) (Int.tmod (w64 a1) (w64 ((ln a0_l) + 1))) (ln a0_l)) == 0 then
                                    some (l124 ++ [(Note.mk r125_Kind r125_Inst r125_Name r125_Late r125_Text)])
                                  else
                                    bif room 56 (ln ((l124 ++ [(Note.mk r125_Kind r125_Inst r125_Name r125_Late r125_Text)]) ++ (cut (a0_l ++ a0_h) (Int.tmod (w64 a1) (w64 ((ln a0_l) + 1))) (ln a0_l)))) then
                                      some ((l124 ++ [(Note.mk r125_Kind r125_Inst r125_Name r125_Late r125_Text)]) ++ (cut (a0_l ++ a0_h) (Int.tmod (w64 a1) (w64 ((ln a0_l) + 1))) (ln a0_l)))
                                    else none
                                else none
                              else none
                            else none
                          ).bind fun (q : (List Note)) =>
                            match q with
                            | l151 =>
                              (P35 fu (Sl.mk a0_l (some a0_h))).bind fun ⟨r152, r153⟩ =>
                                (P35 fu (Sl.mk l151 none)).bind fun ⟨r155, r156⟩ =>
                                  (
                                    bif !(r153 == 0) then
                                      some (decide ((Int.tmod (w64 a1) (w64 ((ln a0_l) + 1))) ≤ r152))
                                    else
                                      some true
                                  ).bind fun (q : Bool) =>
                                    match q with
                                    | i159 =>
                                      (
                                        bif i159 then
                                          some (w64 (r152 + 1))
                                        else
                                          some r152
                                      ).bind fun (q : Int) =>
                                        match q with
                                        | i161 =>
                                          (
                                            bif r156 == r153 then
                                              bif r155 == i161 then
                                                (P47 fu (Sl.mk l151 none) a3).bind fun ⟨r164_l, r164_x⟩ =>
                                                  (P47 fu (Sl.mk a0_l (some a0_h)) a3).bind fun ⟨r168_l, r168_x⟩ =>
                                                    bif (ln r164_l) == (w64 ((ln r168_l) + 1)) then
                                                      (P47 fu (Sl.mk l151 none) (w64 (a3 + 1))).bind fun ⟨r173_l, r173_x⟩ =>
                                                        (P47 fu (Sl.mk a0_l (some a0_h)) (w64 (a3 + 1))).bind fun ⟨r175_l, r175_x⟩ =>
                                                          (P50 fu (Sl.mk r173_l r173_x) (Sl.mk r175_l r175_x)).bind fun r177 =>
                                                            some r177
                                                    else
                                                      some false
                                              else
                                                some false
                                            else
                                              some false
                                          ).bind fun (q : Bool) =>
                                            match q with
                                            | i179 =>
                                              some i179
                        else none
end Go.Proofs.Ytamllgdaepjcfaa
