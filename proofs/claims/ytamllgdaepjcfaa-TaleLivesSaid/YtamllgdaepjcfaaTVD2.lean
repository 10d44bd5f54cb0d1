/- Functions on plain data: printed by a small program. -/
import Derived.Test.YtamllgdaepjcfaaTVH
namespace Go.Proofs.Ytamllgdaepjcfaa
open Go Go.X
set_option linter.unusedVariables false
set_option linter.unusedSimpArgs false
set_option maxRecDepth 100000
/-- tapestry/tapestrylaw17.note -/
noncomputable def P49 (fu : Nat) (a0 : Int) (a1 : Int) : Option (Note) :=
  some (Note.mk a0 a1 ByteArray.empty false ByteArray.empty)
/-- tapestry/tale.Count -/
noncomputable def P48_s0 (fu : Nat) (a0_l : List Note) (a1 : Int) : (Int × Int) → Option ((Int × Int) ⊕ ((Int × Int)))
  | (i3, i4) =>
    bif decide (i4 < (ln a0_l)) then
      (idx a0_l i4).bind fun ⟨x6_Kind, x6_Inst, x6_Name, x6_Late, x6_Text⟩ =>
        (
          bif x6_Kind == a1 then
            some (w64 (i3 + 1))
          else
            some i3
        ).bind fun (q : Int) =>
          match q with
          | i9 =>
            some (.inl (i9, w64 (i4 + 1)))
    else
      some (.inr (i3, i4))
noncomputable def P48 (fu : Nat) (a0 : Sl Note) (a1 : Int) : Option (Int) :=
  match a0 with
  | ⟨a0_l, a0_x⟩ =>
    (wl (P48_s0 fu a0_l a1) (0, 0)).bind fun q =>
      match q with
      | (o12, o13) =>
        some o12
/-- tapestry/tale.Of -/
noncomputable def P47_s0 (fu : Nat) (a0_l : List Note) (a1 : Int) : ((List Note) × Int) → Option (((List Note) × Int) ⊕ (((List Note) × Int)))
  | (l5, i6) =>
    bif decide (i6 < (ln a0_l)) then
      (idx a0_l i6).bind fun ⟨x8_Kind, x8_Inst, x8_Name, x8_Late, x8_Text⟩ =>
        (
          bif x8_Inst == a1 then
            bif room 56 (ln (l5 ++ [(Note.mk x8_Kind x8_Inst x8_Name x8_Late x8_Text)])) then
              some (l5 ++ [(Note.mk x8_Kind x8_Inst x8_Name x8_Late x8_Text)])
            else none
          else
            some l5
        ).bind fun (q : (List Note)) =>
          match q with
          | l16 =>
            some (.inl (l16, w64 (i6 + 1)))
    else
      some (.inr (l5, i6))
noncomputable def P47 (fu : Nat) (a0 : Sl Note) (a1 : Int) : Option ((Sl Note)) :=
  match a0 with
  | ⟨a0_l, a0_x⟩ =>
    (wl (P47_s0 fu a0_l a1) (([] : List Note), 0)).bind fun q =>
      match q with
      | (o19, o20) =>
        some (Sl.mk o19 none)
/-- tapestry/tapestrylaw17.alive -/
noncomputable def P46 (fu : Nat)  : Option (Bool) :=
  (P49 fu 5 1).bind fun ⟨r1_Kind, r1_Inst, r1_Name, r1_Late, r1_Text⟩ =>
    (P49 fu 6 1).bind fun ⟨r3_Kind, r3_Inst, r3_Name, r3_Late, r3_Text⟩ =>
      (P49 fu 1 1).bind fun ⟨r5_Kind, r5_Inst, r5_Name, r5_Late, r5_Text⟩ =>
        (P49 fu 2 1).bind fun ⟨r7_Kind, r7_Inst, r7_Name, r7_Late, r7_Text⟩ =>
          (P49 fu 7 1).bind fun ⟨r9_Kind, r9_Inst, r9_Name, r9_Late, r9_Text⟩ =>
            (P49 fu 4 1).bind fun ⟨r11_Kind, r11_Inst, r11_Name, r11_Late, r11_Text⟩ =>
              (some [(Note.mk r5_Kind r5_Inst r5_Name r5_Late r5_Text), (Note.mk r7_Kind r7_Inst r7_Name r7_Late r7_Text), (Note.mk r1_Kind r1_Inst r1_Name r1_Late r1_Text), (Note.mk r3_Kind r3_Inst r3_Name r3_Late r3_Text), (Note.mk r9_Kind r9_Inst r9_Name r9_Late r9_Text), (Note.mk r11_Kind r11_Inst r11_Name r11_Late r11_Text)]).bind fun l13 =>
                (P35 fu (Sl.mk l13 (some []))).bind fun ⟨r16, r17⟩ =>
                  bif decide (0 ≤ 1) then
                    bif decide (1 ≤ ln l13) then
                      bif decide (ln l13 ≤ ln (l13 ++ [])) then
                        (P35 fu (Sl.mk (cut (l13 ++ []) 1 (ln l13)) (some (cut (l13 ++ []) (ln l13) (ln (l13 ++ [])))))).bind fun ⟨r32, r33⟩ =>
                          (P49 fu 1 1).bind fun ⟨r35_Kind, r35_Inst, r35_Name, r35_Late, r35_Text⟩ =>
                            bif room 56 (ln (l13 ++ [(Note.mk r35_Kind r35_Inst r35_Name r35_Late r35_Text)])) then
                              (P35 fu (Sl.mk (l13 ++ [(Note.mk r35_Kind r35_Inst r35_Name r35_Late r35_Text)]) none)).bind fun ⟨r44, r45⟩ =>
                                (
                                  bif r16 == 6 then
                                    bif r17 == 0 then
                                      bif r32 == 0 then
                                        bif r33 == 1 then
                                          bif r44 == 6 then
                                            bif r45 == 1 then
                                              (P48 fu (Sl.mk l13 (some [])) 5).bind fun r53 =>
                                                bif r53 == 1 then
                                                  (P47 fu (Sl.mk l13 (some [])) 2).bind fun ⟨r56_l, r56_x⟩ =>
                                                    some ((ln r56_l) == 0)
                                                else
                                                  some false
                                            else
                                              some false
                                          else
                                            some false
                                        else
                                          some false
                                      else
                                        some false
                                    else
                                      some false
                                  else
                                    some false
                                ).bind fun (q : Bool) =>
                                  match q with
                                  | i60 =>
                                    some i60
                            else none
                      else none
                    else none
                  else none
/-- tapestry/tapestrylaw17.TaleLives -/
noncomputable def P15_s2 (fu : Nat) (r21_l : List Note) : Int → Option (Int ⊕ (Int ⊕ Int))
  | i54 =>
    bif decide (i54 < (ln r21_l)) then
      (
        (idx r21_l i54).bind fun ⟨x58_Kind, x58_Inst, x58_Name, x58_Late, x58_Text⟩ =>
          bif decide (1 ≤ x58_Kind) then
            (idx r21_l i54).bind fun ⟨x61_Kind, x61_Inst, x61_Name, x61_Late, x61_Text⟩ =>
              some (decide (x61_Kind ≤ 6))
          else
            some false
      ).bind fun (q : Bool) =>
        match q with
        | i63 =>
          bif i63 then
            some (.inr (.inr i54))
          else
            some (.inl (w64 (i54 + 1)))
    else
      some (.inr (.inl i54))
noncomputable def P15_s1 (fu : Nat) (r21_l : List Note) : Int → Option (Int ⊕ (Int ⊕ Int))
  | i47 =>
    bif decide (i47 < (ln r21_l)) then
      (idx r21_l i47).bind fun ⟨x51_Kind, x51_Inst, x51_Name, x51_Late, x51_Text⟩ =>
        bif !(x51_Kind == 4) then
          some (.inl (w64 (i47 + 1)))
        else
          (wl (P15_s2 fu r21_l) (w64 (i47 + 1))).bind fun q =>
            match q with
            | .inl o67 =>
              some (.inl (w64 (i47 + 1)))
            | .inr o68 =>
              some (.inr (.inr i47))
    else
      some (.inr (.inl i47))
noncomputable def P15_s0 (fu : Nat) (a0_l : List Note) (a0_x : Option (List Note)) (r11 : Int) : Int → Option (Int ⊕ (Int ⊕ Int))
  | i13 =>
    (
      bif decide (i13 < (ln a0_l)) then
        some (r11 == 0)
      else
        some false
    ).bind fun (q : Bool) =>
      match q with
      | i17 =>
        bif i17 then
          (idx a0_l i13).bind fun ⟨x19_Kind, x19_Inst, x19_Name, x19_Late, x19_Text⟩ =>
            (P47 fu (Sl.mk a0_l a0_x) x19_Inst).bind fun ⟨r21_l, r21_x⟩ =>
              (P48 fu (Sl.mk r21_l r21_x) 4).bind fun r23 =>
                (
                  (P48 fu (Sl.mk r21_l r21_x) 2).bind fun r25 =>
                    bif !(decide (1 < r25)) then
                      bif !(decide (1 < r23)) then
                        (P48 fu (Sl.mk r21_l r21_x) 2).bind fun r29 =>
                          bif !(decide (r29 < r23)) then
                            (P48 fu (Sl.mk r21_l r21_x) 2).bind fun r32 =>
                              bif decide (0 < r32) then
                                (P48 fu (Sl.mk r21_l r21_x) 1).bind fun r35 =>
                                  some (r35 == 0)
                              else
                                some false
                          else
                            some true
                      else
                        some true
                    else
                      some true
                ).bind fun (q : Bool) =>
                  match q with
                  | i37 =>
                    bif i37 then
                      some (.inr (.inr i13))
                    else
                      (P48 fu (Sl.mk r21_l r21_x) 5).bind fun r39 =>
                        (P48 fu (Sl.mk r21_l r21_x) 6).bind fun r41 =>
                          (
                            bif !(decide ((w64 (r39 - r41)) < 0)) then
                              bif r23 == 1 then
                                some (!((w64 (r39 - r41)) == 0))
                              else
                                some false
                            else
                              some true
                          ).bind fun (q : Bool) =>
                            match q with
                            | i45 =>
                              bif i45 then
                                some (.inr (.inr i13))
                              else
                                (wl (P15_s1 fu r21_l) 0).bind fun q =>
                                  match q with
                                  | .inl o70 =>
                                    some (.inl (w64 (i13 + 1)))
                                  | .inr o71 =>
                                    some (.inr (.inr i13))
        else
          some (.inr (.inl i13))
noncomputable def P15 (fu : Nat) (a0 : Sl Note) : Option (Bool) :=
  match a0 with
  | ⟨a0_l, a0_x⟩ =>
    (
      (P46 fu).bind fun r1 =>
        bif !(!r1) then
          some (decide (300 < (ln a0_l)))
        else
          some true
    ).bind fun (q : Bool) =>
      match q with
      | i6 =>
        bif i6 then
          (P46 fu).bind fun r8 =>
            some r8
        else
          (P35 fu (Sl.mk a0_l a0_x)).bind fun ⟨r10, r11⟩ =>
            (wl (P15_s0 fu a0_l a0_x r11) 0).bind fun q =>
              match q with
              | .inl o76 =>
                some true
              | .inr o77 =>
                some false
end Go.Proofs.Ytamllgdaepjcfaa
