/- Functions on plain data: printed by a small program. -/
import Derived.Test.YtamllgdaepjcfaaTCH
namespace Go.Proofs.Ytamllgdaepjcfaa
open Go Go.X
set_option linter.unusedVariables false
set_option linter.unusedSimpArgs false
set_option maxRecDepth 100000
/-- tapestry/tapestrylaw01.NotesSize -/
noncomputable def P33_s0 (fu : Nat) (a0_l : List Note) : (Int × Int) → Option ((Int × Int) ⊕ ((Int × Int)))
  | (i3, i4) =>
    (
      bif decide (i4 < (ln a0_l)) then
        some (decide (i3 ≤ 1048576))
      else
        some false
    ).bind fun (q : Bool) =>
      match q with
      | i8 =>
        bif i8 then
          (idx a0_l i4).bind fun ⟨x10_Kind, x10_Inst, x10_Name, x10_Late, x10_Text⟩ =>
            (idx a0_l i4).bind fun ⟨x12_Kind, x12_Inst, x12_Name, x12_Late, x12_Text⟩ =>
              some (.inl (w64 ((w64 (i3 + (x10_Name.size : Int))) + (x12_Text.size : Int)), w64 (i4 + 1)))
        else
          some (.inr (i3, i4))
noncomputable def P33 (fu : Nat) (a0 : Sl Note) : Option (Int) :=
  match a0 with
  | ⟨a0_l, a0_x⟩ =>
    (wl (P33_s0 fu a0_l) (ln a0_l, 0)).bind fun q =>
      match q with
      | (o16, o17) =>
        some o16
/-- tapestry/tapestrylaw01.Beyond -/
noncomputable def P19_s0 (fu : Nat) (a0_l : List Int) : (Bool × Int × Int) → Option ((Bool × Int × Int) ⊕ ((Bool × Int × Int) ⊕ (Bool × Int × Int)))
  | (i1, i2, i3) =>
    bif decide (i3 < (ln a0_l)) then
      (idx a0_l i3).bind fun x7 =>
        bif decide (1048576 < (w64 (i2 + x7))) then
          some (.inr (.inr (true, w64 (i2 + x7), i3)))
        else
          some (.inl (i1, w64 (i2 + x7), w64 (i3 + 1)))
    else
      some (.inr (.inl (i1, i2, i3)))
noncomputable def P19 (fu : Nat) (a0 : Sl Int) : Option (Bool) :=
  match a0 with
  | ⟨a0_l, a0_x⟩ =>
    (wl (P19_s0 fu a0_l) (false, 0, 0)).bind fun q =>
      match q with
      | .inl (o11, o12, o13) =>
        some false
      | .inr (o14, o15, o16) =>
        some o14
/-- tapestry/tapestrylaw01.TwinNotes -/
noncomputable def P34_s0 (fu : Nat) (a0_l : List Note) : ((List Note) × Int) → Option (((List Note) × Int) ⊕ (((List Note) × Int)))
  | (l10, i11) =>
    bif decide (i11 < (ln a0_l)) then
      (idx a0_l i11).bind fun ⟨x15_Kind, x15_Inst, x15_Name, x15_Late, x15_Text⟩ =>
        bif room 56 (ln (l10 ++ [(Note.mk x15_Kind x15_Inst x15_Name x15_Late x15_Text)])) then
          bif decide (ln (l10 ++ [(Note.mk x15_Kind x15_Inst x15_Name x15_Late x15_Text)]) ≤ w64 ((ln a0_l) + 1)) then
            some (.inl ((l10 ++ [(Note.mk x15_Kind x15_Inst x15_Name x15_Late x15_Text)]), w64 (i11 + 1)))
          else none
        else none
    else
      some (.inr (l10, i11))
noncomputable def P34 (fu : Nat) (a0 : Sl Note) : Option ((Sl Note)) :=
  match a0 with
  | ⟨a0_l, a0_x⟩ =>
    bif decide (0 ≤ 0) then
      bif decide (0 ≤ w64 ((ln a0_l) + 1)) then
        bif room 56 (w64 ((ln a0_l) + 1)) then
          (wl (P34_s0 fu a0_l) ((List.replicate (Int.toNat 0) (Note.mk 0 0 ByteArray.empty false ByteArray.empty)), 0)).bind fun q =>
            match q with
            | (o24, o25) =>
              bif room 56 (ln (o24 ++ [(Note.mk 0 7777 ByteArray.empty false ByteArray.empty)])) then
                bif decide (ln (o24 ++ [(Note.mk 0 7777 ByteArray.empty false ByteArray.empty)]) ≤ w64 ((ln a0_l) + 1)) then
                  bif (w64 ((ln a0_l) + 1) == ln (o24 ++ [(Note.mk 0 7777 ByteArray.empty false ByteArray.empty)])) then
                    bif decide (0 ≤ 0) then
                      bif decide (0 ≤ ln a0_l) then
                        bif decide (ln a0_l ≤ ln ((o24 ++ [(Note.mk 0 7777 ByteArray.empty false ByteArray.empty)]) ++ [])) then
                          some (Sl.mk (cut ((o24 ++ [(Note.mk 0 7777 ByteArray.empty false ByteArray.empty)]) ++ []) 0 (ln a0_l)) (some (cut ((o24 ++ [(Note.mk 0 7777 ByteArray.empty false ByteArray.empty)]) ++ []) (ln a0_l) (ln ((o24 ++ [(Note.mk 0 7777 ByteArray.empty false ByteArray.empty)]) ++ [])))))
                        else none
                      else none
                    else none
                  else
                    bif decide (0 ≤ 0) then
                      bif decide (0 ≤ ln a0_l) then
                        bif decide (ln a0_l ≤ ln (o24 ++ [(Note.mk 0 7777 ByteArray.empty false ByteArray.empty)])) then
                          some (Sl.mk (cut (o24 ++ [(Note.mk 0 7777 ByteArray.empty false ByteArray.empty)]) 0 (ln a0_l)) none)
                        else none
                      else none
                    else none
                else none
              else none
        else none
      else none
    else none
/-- tapestry/tapestryref17.Of -/
noncomputable def P60_s0 (fu : Nat) (a0_l : List Note) (a1 : Int) : ((List Note) × Int) → Option (((List Note) × Int) ⊕ (((List Note) × Int)))
  | (l3, i4) =>
    bif decide (i4 < (ln a0_l)) then
      (idx a0_l i4).bind fun ⟨x8_Kind, x8_Inst, x8_Name, x8_Late, x8_Text⟩ =>
        (
          bif x8_Inst == a1 then
            (idx a0_l i4).bind fun ⟨x11_Kind, x11_Inst, x11_Name, x11_Late, x11_Text⟩ =>
              bif room 56 (ln (l3 ++ [(Note.mk x11_Kind x11_Inst x11_Name x11_Late x11_Text)])) then
                some (l3 ++ [(Note.mk x11_Kind x11_Inst x11_Name x11_Late x11_Text)])
              else none
          else
            some l3
        ).bind fun (q : (List Note)) =>
          match q with
          | l18 =>
            some (.inl (l18, w64 (i4 + 1)))
    else
      some (.inr (l3, i4))
noncomputable def P60 (fu : Nat) (a0 : Sl Note) (a1 : Int) : Option ((Sl Note)) :=
  match a0 with
  | ⟨a0_l, a0_x⟩ =>
    (wl (P60_s0 fu a0_l a1) (([] : List Note), 0)).bind fun q =>
      match q with
      | (o21, o22) =>
        some (Sl.mk o21 none)
/-- tapestry/tapestryref17.Count -/
noncomputable def P69_s0 (fu : Nat) (a0_l : List Note) (a1 : Int) : (Int × Int) → Option ((Int × Int) ⊕ ((Int × Int)))
  | (i1, i2) =>
    bif decide (i2 < (ln a0_l)) then
      (idx a0_l i2).bind fun ⟨x6_Kind, x6_Inst, x6_Name, x6_Late, x6_Text⟩ =>
        (
          bif x6_Kind == a1 then
            some (w64 (i1 + 1))
          else
            some i1
        ).bind fun (q : Int) =>
          match q with
          | i9 =>
            some (.inl (i9, w64 (i2 + 1)))
    else
      some (.inr (i1, i2))
noncomputable def P69 (fu : Nat) (a0 : Sl Note) (a1 : Int) : Option (Int) :=
  match a0 with
  | ⟨a0_l, a0_x⟩ =>
    (wl (P69_s0 fu a0_l a1) (0, 0)).bind fun q =>
      match q with
      | (o12, o13) =>
        some o12
/-- tapestry/tapestryref17.runs -/
noncomputable def P70_s0 (fu : Nat) (a0_l : List Note) (a1 : ByteArray) (a2 : Bool) : (Bool × Int) → Option ((Bool × Int) ⊕ ((Bool × Int)))
  | (i1, i2) =>
    bif decide (i2 < (ln a0_l)) then
      (
        (idx a0_l i2).bind fun ⟨x6_Kind, x6_Inst, x6_Name, x6_Late, x6_Text⟩ =>
          bif seq x6_Name a1 then
            (idx a0_l i2).bind fun ⟨x9_Kind, x9_Inst, x9_Name, x9_Late, x9_Text⟩ =>
              bif x9_Late == a2 then
                (idx a0_l i2).bind fun ⟨x12_Kind, x12_Inst, x12_Name, x12_Late, x12_Text⟩ =>
                  bif !(x12_Kind == 5) then
                    (idx a0_l i2).bind fun ⟨x15_Kind, x15_Inst, x15_Name, x15_Late, x15_Text⟩ =>
                      some (x15_Kind == 6)
                  else
                    some true
              else
                some false
          else
            some false
      ).bind fun (q : Bool) =>
        match q with
        | i17 =>
          (
            bif i17 then
              (idx a0_l i2).bind fun ⟨x19_Kind, x19_Inst, x19_Name, x19_Late, x19_Text⟩ =>
                some (x19_Kind == 5)
            else
              some i1
          ).bind fun (q : Bool) =>
            match q with
            | i21 =>
              some (.inl (i21, w64 (i2 + 1)))
    else
      some (.inr (i1, i2))
noncomputable def P70 (fu : Nat) (a0 : Sl Note) (a1 : ByteArray) (a2 : Bool) : Option (Bool) :=
  match a0 with
  | ⟨a0_l, a0_x⟩ =>
    (wl (P70_s0 fu a0_l a1 a2) (false, 0)).bind fun q =>
      match q with
      | (o25, o26) =>
        some o25
/-- tapestry/tapestryref17.still -/
noncomputable def P71_s0 (fu : Nat) (a0_l : List Note) (a0_x : Option (List Note)) : (Bool × Int) → Option ((Bool × Int) ⊕ ((Bool × Int) ⊕ (Bool × Int)))
  | (i1, i2) =>
    bif decide (i2 < (ln a0_l)) then
      (
        (idx a0_l i2).bind fun ⟨x6_Kind, x6_Inst, x6_Name, x6_Late, x6_Text⟩ =>
          bif x6_Kind == 5 then
            (idx a0_l i2).bind fun ⟨x9_Kind, x9_Inst, x9_Name, x9_Late, x9_Text⟩ =>
              (idx a0_l i2).bind fun ⟨x11_Kind, x11_Inst, x11_Name, x11_Late, x11_Text⟩ =>
                (P70 fu (Sl.mk a0_l a0_x) x9_Name x11_Late).bind fun r13 =>
                  some r13
          else
            some false
      ).bind fun (q : Bool) =>
        match q with
        | i15 =>
          bif i15 then
            some (.inr (.inr (true, i2)))
          else
            some (.inl (i1, w64 (i2 + 1)))
    else
      some (.inr (.inl (i1, i2)))
noncomputable def P71 (fu : Nat) (a0 : Sl Note) : Option (Bool) :=
  match a0 with
  | ⟨a0_l, a0_x⟩ =>
    (wl (P71_s0 fu a0_l a0_x) (false, 0)).bind fun q =>
      match q with
      | .inl (o19, o20) =>
        some false
      | .inr (o21, o22) =>
        some o21
/-- tapestry/tapestryref17.can -/
noncomputable def P59 (fu : Nat) (a0 : Sl Note) (a1 : Note) : Option (Bool) :=
  match a0 with
  | ⟨a0_l, a0_x⟩ =>
    match a1 with
    | ⟨a1_Kind, a1_Inst, a1_Name, a1_Late, a1_Text⟩ =>
      (P69 fu (Sl.mk a0_l a0_x) 2).bind fun r1 =>
        (P69 fu (Sl.mk a0_l a0_x) 4).bind fun r3 =>
          (
            bif a1_Kind == 1 then
              some (.inr (!(decide (0 < r3))))
            else
              (
                bif a1_Kind == 2 then
                  (
                    (P69 fu (Sl.mk a0_l a0_x) 1).bind fun r7 =>
                      bif decide (0 < r7) then
                        bif !(decide (0 < r1)) then
                          some (!(decide (0 < r3)))
                        else
                          some false
                      else
                        some false
                  ).bind fun (q : Bool) =>
                    match q with
                    | i11 =>
                      some (.inr i11)
                else
                  (
                    bif a1_Kind == 3 then
                      (
                        bif decide (0 < r1) then
                          some (!(decide (0 < r3)))
                        else
                          some false
                      ).bind fun (q : Bool) =>
                        match q with
                        | i15 =>
                          some (.inr i15)
                    else
                      (
                        bif a1_Kind == 5 then
                          (
                            bif decide (0 < r1) then
                              bif !(decide (0 < r3)) then
                                (P70 fu (Sl.mk a0_l a0_x) a1_Name a1_Late).bind fun r20 =>
                                  some (!r20)
                              else
                                some false
                            else
                              some false
                          ).bind fun (q : Bool) =>
                            match q with
                            | i22 =>
                              some (.inr i22)
                        else
                          (
                            bif a1_Kind == 6 then
                              (
                                bif decide (0 < r1) then
                                  bif !(decide (0 < r3)) then
                                    (P70 fu (Sl.mk a0_l a0_x) a1_Name a1_Late).bind fun r27 =>
                                      some r27
                                  else
                                    some false
                                else
                                  some false
                              ).bind fun (q : Bool) =>
                                match q with
                                | i29 =>
                                  some (.inr i29)
                            else
                              bif a1_Kind == 4 then
                                (
                                  bif decide (0 < r1) then
                                    bif !(decide (0 < r3)) then
                                      (P71 fu (Sl.mk a0_l a0_x)).bind fun r34 =>
                                        some (!r34)
                                    else
                                      some false
                                  else
                                    some false
                                ).bind fun (q : Bool) =>
                                  match q with
                                  | i36 =>
                                    some (.inr i36)
                              else
                                some (.inl ())
                          ).bind fun (q : Unit ⊕ Bool) =>
                            match q with
                            | .inl _ =>
                              some (.inl ())
                            | .inr i38 =>
                              some (.inr i38)
                      ).bind fun (q : Unit ⊕ Bool) =>
                        match q with
                        | .inl _ =>
                          some (.inl ())
                        | .inr i40 =>
                          some (.inr i40)
                  ).bind fun (q : Unit ⊕ Bool) =>
                    match q with
                    | .inl _ =>
                      some (.inl ())
                    | .inr i42 =>
                      some (.inr i42)
              ).bind fun (q : Unit ⊕ Bool) =>
                match q with
                | .inl _ =>
                  some (.inl ())
                | .inr i44 =>
                  some (.inr i44)
          ).bind fun (q : Unit ⊕ Bool) =>
            match q with
            | .inl _ =>
              some true
            | .inr i46 =>
              some i46
/-- tapestry/tapestryref17.Check -/
noncomputable def P36_s0 (fu : Nat) (a0_l : List Note) : (Int × Int × Int) → Option ((Int × Int × Int) ⊕ ((Int × Int × Int) ⊕ (Int × Int × Int)))
  | (i1, i2, i3) =>
    bif decide (i3 < (ln a0_l)) then
      bif decide (0 ≤ 0) then
        bif decide (0 ≤ i3) then
          bif decide (i3 ≤ ln a0_l) then
            (idx a0_l i3).bind fun ⟨x14_Kind, x14_Inst, x14_Name, x14_Late, x14_Text⟩ =>
              (P60 fu (Sl.mk (cut a0_l 0 i3) none) x14_Inst).bind fun ⟨r16_l, r16_x⟩ =>
                (idx a0_l i3).bind fun ⟨x18_Kind, x18_Inst, x18_Name, x18_Late, x18_Text⟩ =>
                  (P59 fu (Sl.mk r16_l r16_x) (Note.mk x18_Kind x18_Inst x18_Name x18_Late x18_Text)).bind fun r20 =>
                    bif !r20 then
                      some (.inr (.inr (i3, 1, i3)))
                    else
                      some (.inl (i1, i2, w64 (i3 + 1)))
          else none
        else none
      else none
    else
      some (.inr (.inl (i1, i2, i3)))
noncomputable def P36_s1 (fu : Nat) (a0_l : List Note) (a0_h : List Note) : (Int × Int × Int) → Option ((Int × Int × Int) ⊕ ((Int × Int × Int) ⊕ (Int × Int × Int)))
  | (i32, i33, i34) =>
    bif decide (i34 < (ln a0_l)) then
      bif decide (0 ≤ 0) then
        bif decide (0 ≤ i34) then
          bif decide (i34 ≤ ln (a0_l ++ a0_h)) then
            (idx a0_l i34).bind fun ⟨x51_Kind, x51_Inst, x51_Name, x51_Late, x51_Text⟩ =>
              (P60 fu (Sl.mk (cut (a0_l ++ a0_h) 0 i34) (some (cut (a0_l ++ a0_h) i34 (ln (a0_l ++ a0_h))))) x51_Inst).bind fun ⟨r53_l, r53_x⟩ =>
                (idx a0_l i34).bind fun ⟨x55_Kind, x55_Inst, x55_Name, x55_Late, x55_Text⟩ =>
                  (P59 fu (Sl.mk r53_l r53_x) (Note.mk x55_Kind x55_Inst x55_Name x55_Late x55_Text)).bind fun r57 =>
                    bif !r57 then
                      some (.inr (.inr (i34, 1, i34)))
                    else
                      some (.inl (i32, i33, w64 (i34 + 1)))
          else none
        else none
      else none
    else
      some (.inr (.inl (i32, i33, i34)))
noncomputable def P36 (fu : Nat) (a0 : Sl Note) : Option (Int × Int) :=
  match a0 with
  | ⟨a0_l, none⟩ =>
    (wl (P36_s0 fu a0_l) (0, 0, 0)).bind fun q =>
      match q with
      | .inl (o24, o25, o26) =>
        some (ln a0_l, 0)
      | .inr (o29, o30, o31) =>
        some (o29, o30)
  | ⟨a0_l, some a0_h⟩ =>
    (wl (P36_s1 fu a0_l a0_h) (0, 0, 0)).bind fun q =>
      match q with
      | .inl (o61, o62, o63) =>
        some (ln a0_l, 0)
      | .inr (o66, o67, o68) =>
        some (o66, o67)
/-- tapestry/tapestrylaw01.LeftNotes -/
noncomputable def P37_s0 (fu : Nat) (a0_l : List Note) (a1_l : List Note) : Int → Option (Int ⊕ (Int ⊕ Int))
  | i19 =>
    bif decide (i19 < (ln a1_l)) then
      (idx a0_l i19).bind fun ⟨x23_Kind, x23_Inst, x23_Name, x23_Late, x23_Text⟩ =>
        (idx a1_l i19).bind fun ⟨x25_Kind, x25_Inst, x25_Name, x25_Late, x25_Text⟩ =>
          bif !((x23_Kind == x25_Kind) && ((x23_Inst == x25_Inst) && ((seq x23_Name x25_Name) && ((x23_Late == x25_Late) && ((seq x23_Text x25_Text) && true))))) then
            some (.inr (.inr i19))
          else
            some (.inl (w64 (i19 + 1)))
    else
      some (.inr (.inl i19))
noncomputable def P37 (fu : Nat) (a0 : Sl Note) (a1 : Sl Note) : Option (Bool) :=
  match a0 with
  | ⟨a0_l, none⟩ =>
    match a1 with
    | ⟨a1_l, a1_x⟩ =>
      bif !(!((ln a0_l) == (ln a1_l))) then none else
        some false
  | ⟨a0_l, some a0_h⟩ =>
    match a1 with
    | ⟨a1_l, a1_x⟩ =>
      (
        bif !(!((ln a0_l) == (ln a1_l))) then
          some (decide ((ln (a0_l ++ a0_h)) ≤ (ln a1_l)))
        else
          some true
      ).bind fun (q : Bool) =>
        match q with
        | i17 =>
          bif i17 then
            some false
          else
            (wl (P37_s0 fu a0_l a1_l) 0).bind fun q =>
              match q with
              | .inl o29 =>
                bif decide (0 ≤ 0) then
                  bif decide (0 ≤ w64 ((ln a1_l) + 1)) then
                    bif decide (w64 ((ln a1_l) + 1) ≤ ln (a0_l ++ a0_h)) then
                      (idx (cut (a0_l ++ a0_h) 0 (w64 ((ln a1_l) + 1))) (ln a1_l)).bind fun ⟨x47_Kind, x47_Inst, x47_Name, x47_Late, x47_Text⟩ =>
                        some (x47_Inst == 7777)
                    else none
                  else none
                else none
              | .inr o49 =>
                some false
/-- tapestry/tapestrylaw17.TaleChecks -/
noncomputable def P8 (fu : Nat) (a0 : Sl Note) : Option (Bool) :=
  match a0 with
  | ⟨a0_l, a0_x⟩ =>
    (
      bif !(decide (400 < (ln a0_l))) then
        (P33 fu (Sl.mk a0_l a0_x)).bind fun r4 =>
          (P19 fu (Sl.mk [r4] (some []))).bind fun r6 =>
            some r6
      else
        some true
    ).bind fun (q : Bool) =>
      match q with
      | i8 =>
        bif i8 then
          some true
        else
          (P34 fu (Sl.mk a0_l a0_x)).bind fun ⟨r10_l, r10_x⟩ =>
            (P35 fu (Sl.mk r10_l r10_x)).bind fun ⟨r12, r13⟩ =>
              (P36 fu (Sl.mk a0_l a0_x)).bind fun ⟨r15, r16⟩ =>
                (
                  bif r12 == r15 then
                    bif r13 == r16 then
                      (P37 fu (Sl.mk r10_l r10_x) (Sl.mk a0_l a0_x)).bind fun r20 =>
                        some r20
                    else
                      some false
                  else
                    some false
                ).bind fun (q : Bool) =>
                  match q with
                  | i22 =>
                    some i22
end Go.Proofs.Ytamllgdaepjcfaa
