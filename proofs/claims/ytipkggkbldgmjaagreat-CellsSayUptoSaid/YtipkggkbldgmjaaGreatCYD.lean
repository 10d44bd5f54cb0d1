/- Functions on plain data: printed by a small program. -/
import Derived.Test.YtipkggkbldgmjaaGreatCYD0
namespace Go.Proofs.YtipkggkbldgmjaaGreat
open Go Go.X
set_option linter.unusedVariables false
set_option linter.unusedSimpArgs false
set_option maxRecDepth 100000
noncomputable def ahn (fu : Nat) (GN : Value → Option (Bool)) (QM : (Sl Value) → Option (Bool)) (Nf : (Sl Field) → Option (Bool)) (RF : Value → Option (Bool)) (a0 : Value) : Option (Bool) :=
 match a0 with
 | ⟨aD, aO, bN, ⟨aK, aS⟩, ⟨au, aA⟩, bO, bT, aQ⟩ =>
  (
   bif !(!(aO == 0)) then
    bif !aQ then
     some (!(seq bT ByteArray.empty))
    else
     some false
   else
    some true
  ).bind fun (q : Bool) =>
   match q with
   | i3 =>
    (
     bif !i3 then
      some (decide (4096 < (bT.size : Int)))
     else
      some true
    ).bind fun (q : Bool) =>
     match q with
     | i5 =>
      (
       bif !i5 then
        (Nf (Sl.mk au aA)).bind fun r7 =>
         some (!r7)
       else
        some true
      ).bind fun (q : Bool) =>
       match q with
       | i9 =>
        (
         bif !i9 then
          (QM (Sl.mk aK aS)).bind fun r11 =>
           some (!r11)
         else
          some true
        ).bind fun (q : Bool) =>
         match q with
         | zw =>
          bif zw then
           some false
          else
           (
            bif bO == 1 then
             some true
            else
             (
              bif bO == 2 then
               some true
              else
               some (bO == 3)
             ).bind fun (q : Bool) =>
              match q with
              | i17 =>
               some i17
           ).bind fun (q : Bool) =>
            match q with
            | i19 =>
             bif i19 then
              (TS fu bN).bind fun X5 =>
               some X5
             else
              bif bO == 4 then
               bif seq bN ByteArray.empty then
                some ((ln au) == 0)
               else
                some false
              else
               bif bO == 5 then
                (TS fu bN).bind fun r28 =>
                 bif r28 then
                  some ((ln au) == 0)
                 else
                  some false
               else
                bif bO == 6 then
                 (TS fu bN).bind fun r34 =>
                  bif r34 then
                   (VO fu (Sl.mk au aA) (Sl.mk [(⟨#[118, 97, 108, 117, 101]⟩ : ByteArray)] (some []))).bind fun r37 =>
                    some r37
                  else
                   some false
                else
                 bif bO == 7 then
                  bif seq bN ByteArray.empty then
                   (some [(⟨#[97, 103, 97, 105, 110]⟩ : ByteArray), (⟨#[101, 108, 115, 101]⟩ : ByteArray)]).bind fun l41 =>
                    (VO fu (Sl.mk au aA) (Sl.mk l41 (some []))).bind fun r44 =>
                     some r44
                  else
                   some false
                 else
                  bif bO == 8 then
                   bif seq bN ByteArray.empty then
                    (VO fu (Sl.mk au aA) (Sl.mk [(⟨#[101, 108, 115, 101]⟩ : ByteArray)] (some []))).bind fun r48 =>
                     some r48
                   else
                    some false
                  else
                   some false
mutual
noncomputable def Uv : Nat → Value → Option (Bool)
 | 0 => fun _ => none
 | fu + 1 => fun a0 => ahk fu (Uv fu) (P93 fu) (P94 fu) (P95 fu) a0
noncomputable def P93 : Nat → (Sl Value) → Option (Bool)
 | 0 => fun _ => none
 | fu + 1 => fun a0 => ahl fu (Uv fu) (P93 fu) (P94 fu) (P95 fu) a0
noncomputable def P94 : Nat → (Sl Field) → Option (Bool)
 | 0 => fun _ => none
 | fu + 1 => fun a0 => ahm fu (Uv fu) (P93 fu) (P94 fu) (P95 fu) a0
noncomputable def P95 : Nat → Value → Option (Bool)
 | 0 => fun _ => none
 | fu + 1 => fun a0 => ahn fu (Uv fu) (P93 fu) (P94 fu) (P95 fu) a0
end
noncomputable def JH (fu : Nat) (p79 : Value → Option (Int)) (aK : List Value) : (Int × Int) → Option ((Int × Int) ⊕ ((Int × Int)))
 | (i1, i2) =>
  bif decide (i2 < (ln aK)) then
   (idx aK i2).bind fun ⟨sj, vK, TM, ⟨FL, FM⟩, ⟨mW, mX⟩, TN, TP, TQ⟩ =>
    (p79 (Value.mk sj vK TM (Sl.mk FL FM) (Sl.mk mW mX) TN TP TQ)).bind fun r8 =>
     some (.inl (fq (i1 + r8), fq (i2 + 1)))
  else
   some (.inr (i1, i2))
noncomputable def JI (fu : Nat) (p79 : Value → Option (Int)) (au : List Field) : (Int × Int) → Option ((Int × Int) ⊕ ((Int × Int)))
 | (zw, qy) =>
  bif decide (qy < (ln au)) then
   (idx au qy).bind fun ⟨aqd, ⟨ad6, ad7, ad8, ⟨Yp, Yq⟩, ⟨Yr, Yt⟩, ad9, aea, aeb⟩⟩ =>
    (p79 (Value.mk ad6 ad7 ad8 (Sl.mk Yp Yq) (Sl.mk Yr Yt) ad9 aea aeb)).bind fun r20 =>
     some (.inl (fq (zw + r20), fq (qy + 1)))
  else
   some (.inr (zw, qy))
noncomputable def aho (fu : Nat) (p79 : Value → Option (Int)) (a0 : Value) : Option (Int) :=
 match a0 with
 | ⟨aD, aO, bN, ⟨aK, aS⟩, ⟨au, aA⟩, bO, bT, aQ⟩ =>
  (wl (JH fu p79 aK) (1, 0)).bind fun q =>
   match q with
   | (K4, wX) =>
    (wl (JI fu p79 au) (K4, 0)).bind fun q =>
     match q with
     | (o23, sI) =>
      some o23
noncomputable def P79 : Nat → Value → Option (Int)
 | 0 => fun _ => none
 | fu + 1 => fun a0 => aho fu (P79 fu) a0
noncomputable def JJ (fu : Nat) (p80 : Value → Option (Int)) (aK : List Value) : (Int × Int) → Option ((Int × Int) ⊕ ((Int × Int)))
 | (i1, i2) =>
  bif decide (i2 < (ln aK)) then
   (
    (idx aK i2).bind fun ⟨sj, vK, TM, ⟨FL, FM⟩, ⟨mW, mX⟩, TN, TP, TQ⟩ =>
     (p80 (Value.mk sj vK TM (Sl.mk FL FM) (Sl.mk mW mX) TN TP TQ)).bind fun r8 =>
      bif decide (i1 ≤ r8) then
       some r8
      else
       some i1
   ).bind fun (q : Int) =>
    match q with
    | i11 =>
     some (.inl (i11, fq (i2 + 1)))
  else
   some (.inr (i1, i2))
noncomputable def JK (fu : Nat) (p80 : Value → Option (Int)) (au : List Field) : (Int × Int) → Option ((Int × Int) ⊕ ((Int × Int)))
 | (i16, i17) =>
  bif decide (i17 < (ln au)) then
   (
    (idx au i17).bind fun ⟨aqe, ⟨aec, aed, aee, ⟨Yu, Yv⟩, ⟨Yw, Yx⟩, aef, aeg, aeh⟩⟩ =>
     (p80 (Value.mk aec aed aee (Sl.mk Yu Yv) (Sl.mk Yw Yx) aef aeg aeh)).bind fun r23 =>
      bif decide (i16 ≤ r23) then
       some r23
      else
       some i16
   ).bind fun (q : Int) =>
    match q with
    | i26 =>
     some (.inl (i26, fq (i17 + 1)))
  else
   some (.inr (i16, i17))
noncomputable def ahp (fu : Nat) (p80 : Value → Option (Int)) (a0 : Value) : Option (Int) :=
 match a0 with
 | ⟨aD, aO, bN, ⟨aK, aS⟩, ⟨au, aA⟩, bO, bT, aQ⟩ =>
  (wl (JJ fu p80 aK) (0, 0)).bind fun q =>
   match q with
   | (Mj, KS) =>
    (wl (JK fu p80 au) (Mj, 0)).bind fun q =>
     match q with
     | (Uu, o30) =>
      some (fq (Uu + 1))
noncomputable def P80 : Nat → Value → Option (Int)
 | 0 => fun _ => none
 | fu + 1 => fun a0 => ahp fu (P80 fu) a0
noncomputable def P54 (fu : Nat) (a0 : Value) : Option (Bool) :=
 match a0 with
 | ⟨aD, aO, bN, ⟨aK, aS⟩, ⟨au, aA⟩, bO, bT, aQ⟩ =>
  (
   (Uv fu (Value.mk aD aO bN (Sl.mk aK aS) (Sl.mk au aA) bO bT aQ)).bind fun r1 =>
    bif r1 then
     (P79 fu (Value.mk aD aO bN (Sl.mk aK aS) (Sl.mk au aA) bO bT aQ)).bind fun r4 =>
      bif decide (r4 ≤ 4096) then
       (P80 fu (Value.mk aD aO bN (Sl.mk aK aS) (Sl.mk au aA) bO bT aQ)).bind fun r7 =>
        some (decide (r7 ≤ 64))
      else
       some false
    else
     some false
  ).bind fun (q : Bool) =>
   match q with
   | i9 =>
    some i9
noncomputable def P55 (fu : Nat) (a0 : Cell) : Option (Bool) :=
 match a0 with
 | ⟨aD, aO, ⟨cu, cB, cK, ⟨bA, bB⟩, ⟨bC, bE⟩, dz, cO, dA⟩, ⟨dD, dF, dG, ⟨bH, bI⟩, ⟨bJ, bK⟩, dH, dI, dJ⟩, ⟨au, aA⟩, ⟨dh, dM⟩, ⟨dN, dP⟩, ⟨cZ, dw⟩, eX, eH, ⟨dK, dQ⟩, ⟨dn, dO⟩⟩ =>
  (
   bif (fq ((fq ((fq ((fq ((ln dh) + (ln dN))) + (ln cZ))) + (ln dK))) + (ln dn))) == 0 then
    some (!eX)
   else
    some false
  ).bind fun (q : Bool) =>
   match q with
   | i12 =>
    (
     bif i12 then
      some (!eH)
     else
      some false
    ).bind fun (q : Bool) =>
     match q with
     | qy =>
      some qy
noncomputable def P56 (fu : Nat) (a0 : Value) : Option (Bool) :=
 match a0 with
 | ⟨aD, aO, bN, ⟨aK, aS⟩, ⟨au, aA⟩, bO, bT, aQ⟩ =>
  (VG fu (Value.mk aD aO bN (Sl.mk aK aS) (Sl.mk au aA) bO bT aQ) (Value.mk 0 0 ByteArray.empty (Sl.mk [] (some [])) (Sl.mk [] (some [])) 0 ByteArray.empty false)).bind fun r1 =>
   some r1
noncomputable def JL (fu : Nat) (ah : List Value) : Int → Option (Int ⊕ (Int ⊕ Int))
 | i1 =>
  bif decide (i1 < (ln ah)) then
   (idx ah i1).bind fun ⟨qB, ad1, ad2, ⟨TT, TU⟩, ⟨TV, TW⟩, ad3, ad4, ad5⟩ =>
    (P54 fu (Value.mk qB ad1 ad2 (Sl.mk TT TU) (Sl.mk TV TW) ad3 ad4 ad5)).bind fun r7 =>
     bif !r7 then
      some (.inr (.inr i1))
     else
      some (.inl (fq (i1 + 1)))
  else
   some (.inr (.inl i1))
noncomputable def P57 (fu : Nat) (a0 : Sl Value) : Option (Bool) :=
 match a0 with
 | ⟨ah, aY⟩ =>
  (wl (JL fu ah) 0).bind fun q =>
   match q with
   | .inl K4 =>
    some true
   | .inr wX =>
    some false
noncomputable def JM (fu : Nat) (ah : List Field) : Int → Option (Int ⊕ (Int ⊕ Int))
 | i1 =>
  bif decide (i1 < (ln ah)) then
   (idx ah i1).bind fun ⟨qB, ⟨xG, xH, xI, ⟨qc, qd⟩, ⟨qg, qh⟩, xJ, xK, xL⟩⟩ =>
    (P53 fu qB).bind fun r7 =>
     bif !(!r7) then
      bif decide (0 < i1) then
       (idx ah i1).bind fun ⟨qb, ⟨AL, AO, AP, ⟨uV, uW⟩, ⟨uX, uY⟩, AQ, AU, AV⟩⟩ =>
        (idx ah (fq (i1 - 1))).bind fun ⟨Dn, ⟨VP, VQ, VR, ⟨QN, QO⟩, ⟨QS, QT⟩, VT, VU, VW⟩⟩ =>
         (
          bif !(slt qb Dn || seq qb Dn) then
           (idx ah i1).bind fun ⟨TY, ⟨JB, JC, JD, ⟨Dp, Dq⟩, ⟨Dr, Dt⟩, JE, JF, JG⟩⟩ =>
            (P54 fu (Value.mk JB JC JD (Sl.mk Dp Dq) (Sl.mk Dr Dt) JE JF JG)).bind fun TR =>
             some (!TR)
          else
           some true
         ).bind fun (q : Bool) =>
          match q with
          | i20 =>
           bif i20 then
            some (.inr (.inr i1))
           else
            some (.inl (fq (i1 + 1)))
      else
       (idx ah i1).bind fun ⟨mY, ⟨xQ, xR, xS, ⟨qN, qO⟩, ⟨qP, qQ⟩, xU, xV, xW⟩⟩ =>
        (P54 fu (Value.mk xQ xR xS (Sl.mk qN qO) (Sl.mk qP qQ) xU xV xW)).bind fun Yl =>
         bif !Yl then
          some (.inr (.inr i1))
         else
          some (.inl (fq (i1 + 1)))
     else
      some (.inr (.inr i1))
  else
   some (.inr (.inl i1))
noncomputable def P58 (fu : Nat) (a0 : Sl Field) : Option (Bool) :=
 match a0 with
 | ⟨ah, aY⟩ =>
  (wl (JM fu ah) 0).bind fun q =>
   match q with
   | .inl Uu =>
    some true
   | .inr o30 =>
    some false
noncomputable def P27 (fu : Nat) (a0 : Cell) : Option (Bool) :=
 match a0 with
 | ⟨aD, aO, ⟨cu, cB, cK, ⟨bA, bB⟩, ⟨bC, bE⟩, dz, cO, dA⟩, ⟨dD, dF, dG, ⟨bH, bI⟩, ⟨bJ, bK⟩, dH, dI, dJ⟩, ⟨au, aA⟩, ⟨dh, dM⟩, ⟨dN, dP⟩, ⟨cZ, dw⟩, eX, eH, ⟨dK, dQ⟩, ⟨dn, dO⟩⟩ =>
  (
   bif aD == 1 then
    (
     (P53 fu aO).bind fun r2 =>
      bif r2 then
       (P54 fu (Value.mk cu cB cK (Sl.mk bA bB) (Sl.mk bC bE) dz cO dA)).bind fun r5 =>
        some r5
      else
       some false
    ).bind fun (q : Bool) =>
     match q with
     | i7 =>
      (
       bif i7 then
        (P54 fu (Value.mk dD dF dG (Sl.mk bH bI) (Sl.mk bJ bK) dH dI dJ)).bind fun r9 =>
         some r9
       else
        some false
      ).bind fun (q : Bool) =>
       match q with
       | i11 =>
        (
         bif i11 then
          some ((ln au) == 0)
         else
          some false
        ).bind fun (q : Bool) =>
         match q with
         | TL =>
          (
           bif TL then
            (P55 fu (Cell.mk aD aO (Value.mk cu cB cK (Sl.mk bA bB) (Sl.mk bC bE) dz cO dA) (Value.mk dD dF dG (Sl.mk bH bI) (Sl.mk bJ bK) dH dI dJ) (Sl.mk au aA) (Sl.mk dh dM) (Sl.mk dN dP) (Sl.mk cZ dw) eX eH (Sl.mk dK dQ) (Sl.mk dn dO))).bind fun r17 =>
             some r17
           else
            some false
          ).bind fun (q : Bool) =>
           match q with
           | i19 =>
            some (.inr i19)
   else
    (
     bif aD == 2 then
      (
       (P53 fu aO).bind fun Yl =>
        bif Yl then
         (P54 fu (Value.mk cu cB cK (Sl.mk bA bB) (Sl.mk bC bE) dz cO dA)).bind fun r28 =>
          some r28
        else
         some false
      ).bind fun (q : Bool) =>
       match q with
       | i30 =>
        (
         bif i30 then
          (P56 fu (Value.mk dD dF dG (Sl.mk bH bI) (Sl.mk bJ bK) dH dI dJ)).bind fun r32 =>
           some r32
         else
          some false
        ).bind fun (q : Bool) =>
         match q with
         | i34 =>
          (
           bif i34 then
            (P57 fu (Sl.mk au aA)).bind fun r36 =>
             some r36
           else
            some false
          ).bind fun (q : Bool) =>
           match q with
           | i38 =>
            (
             bif i38 then
              (P55 fu (Cell.mk aD aO (Value.mk cu cB cK (Sl.mk bA bB) (Sl.mk bC bE) dz cO dA) (Value.mk dD dF dG (Sl.mk bH bI) (Sl.mk bJ bK) dH dI dJ) (Sl.mk au aA) (Sl.mk dh dM) (Sl.mk dN dP) (Sl.mk cZ dw) eX eH (Sl.mk dK dQ) (Sl.mk dn dO))).bind fun r40 =>
               some r40
             else
              some false
            ).bind fun (q : Bool) =>
             match q with
             | i42 =>
              some (.inr i42)
     else
      (
       bif aD == 3 then
        (
         (P53 fu aO).bind fun r48 =>
          bif r48 then
           (P54 fu (Value.mk cu cB cK (Sl.mk bA bB) (Sl.mk bC bE) dz cO dA)).bind fun r51 =>
            some r51
          else
           some false
        ).bind fun (q : Bool) =>
         match q with
         | i53 =>
          (
           bif i53 then
            (P56 fu (Value.mk dD dF dG (Sl.mk bH bI) (Sl.mk bJ bK) dH dI dJ)).bind fun r55 =>
             some r55
           else
            some false
          ).bind fun (q : Bool) =>
           match q with
           | i57 =>
            (
             bif i57 then
              some ((ln au) == 0)
             else
              some false
            ).bind fun (q : Bool) =>
             match q with
             | i61 =>
              (
               bif i61 then
                (P55 fu (Cell.mk aD aO (Value.mk cu cB cK (Sl.mk bA bB) (Sl.mk bC bE) dz cO dA) (Value.mk dD dF dG (Sl.mk bH bI) (Sl.mk bJ bK) dH dI dJ) (Sl.mk au aA) (Sl.mk dh dM) (Sl.mk dN dP) (Sl.mk cZ dw) eX eH (Sl.mk dK dQ) (Sl.mk dn dO))).bind fun r63 =>
                 some r63
               else
                some false
              ).bind fun (q : Bool) =>
               match q with
               | i65 =>
                some (.inr i65)
       else
        (
         bif aD == 4 then
          some true
         else
          some (aD == 5)
        ).bind fun (q : Bool) =>
         match q with
         | i71 =>
          bif i71 then
           (
            bif seq aO ByteArray.empty then
             (P56 fu (Value.mk cu cB cK (Sl.mk bA bB) (Sl.mk bC bE) dz cO dA)).bind fun r74 =>
              some r74
            else
             some false
           ).bind fun (q : Bool) =>
            match q with
            | i76 =>
             (
              bif i76 then
               (P56 fu (Value.mk dD dF dG (Sl.mk bH bI) (Sl.mk bJ bK) dH dI dJ)).bind fun r78 =>
                some r78
              else
               some false
             ).bind fun (q : Bool) =>
              match q with
              | i80 =>
               (
                bif i80 then
                 (P57 fu (Sl.mk au aA)).bind fun r82 =>
                  some r82
                else
                 some false
               ).bind fun (q : Bool) =>
                match q with
                | i84 =>
                 (
                  bif i84 then
                   (P58 fu (Sl.mk cZ dw)).bind fun r86 =>
                    some r86
                  else
                   some false
                 ).bind fun (q : Bool) =>
                  match q with
                  | i88 =>
                   (
                    bif i88 then
                     (P58 fu (Sl.mk dn dO)).bind fun r90 =>
                      some r90
                    else
                     some false
                   ).bind fun (q : Bool) =>
                    match q with
                    | i92 =>
                     (
                      bif i92 then
                       bif !eH then
                        some ((fq ((ln dK) + (ln dn))) == 0)
                       else
                        some true
                      else
                       some false
                     ).bind fun (q : Bool) =>
                      match q with
                      | i99 =>
                       some (.inr i99)
          else
           some (.inl ())
      ).bind fun (q : Unit ⊕ Bool) =>
       match q with
       | .inl _ =>
        some (.inl ())
       | .inr i107 =>
        some (.inr i107)
    ).bind fun (q : Unit ⊕ Bool) =>
     match q with
     | .inl _ =>
      some (.inl ())
     | .inr i109 =>
      some (.inr i109)
  ).bind fun (q : Unit ⊕ Bool) =>
   match q with
   | .inl _ =>
    some false
   | .inr ahq =>
    some ahq
noncomputable def JN (fu : Nat) (ah : List Cell) (aY : Option (List Cell)) : Int → Option (Int ⊕ (Int ⊕ Int))
 | i4 =>
  bif decide (i4 < (ln ah)) then
   (
    (idx ah i4).bind fun ⟨F8, K5, ⟨ML, MN, MO, ⟨EA, EB⟩, ⟨EC, ED⟩, MP, MQ, MR⟩, ⟨MS, MU, MV, ⟨EF, EG⟩, ⟨EH, EI⟩, MW, MX, MZ⟩, ⟨Dh, Di⟩, ⟨M0, M4⟩, ⟨M5, M6⟩, ⟨M7, M8⟩, aac, aad, ⟨M9, Na⟩, ⟨Nb, Nc⟩⟩ =>
     (P27 fu (Cell.mk F8 K5 (Value.mk ML MN MO (Sl.mk EA EB) (Sl.mk EC ED) MP MQ MR) (Value.mk MS MU MV (Sl.mk EF EG) (Sl.mk EH EI) MW MX MZ) (Sl.mk Dh Di) (Sl.mk M0 M4) (Sl.mk M5 M6) (Sl.mk M7 M8) aac aad (Sl.mk M9 Na) (Sl.mk Nb Nc))).bind fun r10 =>
      bif !(!r10) then
       (idx ah i4).bind fun ⟨Dn, aqf, ⟨amn, amo, amq, ⟨ahr, ahs⟩, ⟨aht, ahu⟩, amr, ams, amt⟩, ⟨amu, amv, amw, ⟨ahv, ahw⟩, ⟨ahx, ahy⟩, amx, amy, amA⟩, ⟨amB, amC⟩, ⟨amD, amE⟩, ⟨amF, amG⟩, ⟨amH, amI⟩, aqg, aqh, ⟨amJ, amK⟩, ⟨amL, amM⟩⟩ =>
        bif Dn == 1 then
         (idx ah i4).bind fun ⟨TY, aj0, ⟨amN, amO, amP, ⟨ahz, ahA⟩, ⟨ahB, ahC⟩, amQ, amR, amS⟩, ⟨amT, amU, amV, ⟨ahD, ahE⟩, ⟨ahF, ahG⟩, amW, amX, amY⟩, ⟨amZ, am0⟩, ⟨am1, am2⟩, ⟨am3, am4⟩, ⟨am5, am6⟩, aqi, aqj, ⟨am7, am8⟩, ⟨am9, ana⟩⟩ =>
          (P19 fu (Sl.mk ah aY) aj0).bind fun TR =>
           some (!(TR == i4))
        else
         some false
      else
       some true
   ).bind fun (q : Bool) =>
    match q with
    | i20 =>
     bif i20 then
      some (.inr (.inr i4))
     else
      some (.inl (fq (i4 + 1)))
  else
   some (.inr (.inl i4))
noncomputable def P12 (fu : Nat) (a0 : Sl Cell) : Option (Bool) :=
 match a0 with
 | ⟨ah, aY⟩ =>
  bif decide (4096 < (ln ah)) then
   some false
  else
   (wl (JN fu ah aY) 0).bind fun q =>
    match q with
    | .inl sI =>
     some true
    | .inr Vu =>
     some false
noncomputable def ahH (fu : Nat) (K7 : Value → Value → Option (Bool)) (p28 : (Sl Value) → (Sl Value) → Option (Bool)) (p29 : (Sl Field) → (Sl Field) → Option (Bool)) (p59 : Field → Field → Option (Bool)) (a0 : Value) (a1 : Value) : Option (Bool) :=
 match a0 with
 | ⟨aD, aO, bN, ⟨aK, aS⟩, ⟨au, aA⟩, bO, bT, aQ⟩ =>
  match a1 with
  | ⟨iL, jT, oQ, ⟨jh, ku⟩, ⟨iU, iV⟩, su, kT, sw⟩ =>
   (
    bif aD == iL then
     bif aO == jT then
      bif seq bN oQ then
       (p28 (Sl.mk aK aS) (Sl.mk jh ku)).bind fun r4 =>
        bif r4 then
         (p29 (Sl.mk au aA) (Sl.mk iU iV)).bind fun r7 =>
          bif r7 then
           bif bO == su then
            bif seq bT kT then
             some (aQ == sw)
            else
             some false
           else
            some false
          else
           some false
        else
         some false
      else
       some false
     else
      some false
    else
     some false
   ).bind fun (q : Bool) =>
    match q with
    | i12 =>
     some i12
noncomputable def QU (fu : Nat) (K7 : Value → Value → Option (Bool)) (ah : List Value) (aL : List Value) : Int → Option (Int ⊕ (Int ⊕ Int))
 | i6 =>
  bif decide (i6 < (ln ah)) then
   (idx ah i6).bind fun ⟨jv, zh, TH, ⟨Js, Jt⟩, ⟨rC, rD⟩, TI, TJ, TK⟩ =>
    (idx aL i6).bind fun ⟨iX, oz, wY, ⟨pR, pU⟩, ⟨kR, kS⟩, wZ, w9, xq⟩ =>
     (K7 (Value.mk jv zh TH (Sl.mk Js Jt) (Sl.mk rC rD) TI TJ TK) (Value.mk iX oz wY (Sl.mk pR pU) (Sl.mk kR kS) wZ w9 xq)).bind fun FK =>
      bif !FK then
       some (.inr (.inr i6))
      else
       some (.inl (fq (i6 + 1)))
  else
   some (.inr (.inl i6))
noncomputable def ahI (fu : Nat) (K7 : Value → Value → Option (Bool)) (p28 : (Sl Value) → (Sl Value) → Option (Bool)) (p29 : (Sl Field) → (Sl Field) → Option (Bool)) (p59 : Field → Field → Option (Bool)) (a0 : Sl Value) (a1 : Sl Value) : Option (Bool) :=
 match a0 with
 | ⟨ah, aY⟩ =>
  match a1 with
  | ⟨aL, dS⟩ =>
   bif !((ln ah) == (ln aL)) then
    some false
   else
    (wl (QU fu K7 ah aL) 0).bind fun q =>
     match q with
     | .inl rA =>
      some true
     | .inr xu =>
      some false
noncomputable def QV (fu : Nat) (p59 : Field → Field → Option (Bool)) (ah : List Field) (aL : List Field) : Int → Option (Int ⊕ (Int ⊕ Int))
 | i6 =>
  bif decide (i6 < (ln ah)) then
   (idx ah i6).bind fun ⟨jv, ⟨nT, nU, nV, ⟨lu, lC⟩, ⟨lD, lF⟩, nW, nX, nY⟩⟩ =>
    (idx aL i6).bind fun ⟨iX, ⟨uP, uQ, uR, ⟨oK, oN⟩, ⟨oO, oP⟩, uS, uT, uU⟩⟩ =>
     (p59 (Field.mk jv (Value.mk nT nU nV (Sl.mk lu lC) (Sl.mk lD lF) nW nX nY)) (Field.mk iX (Value.mk uP uQ uR (Sl.mk oK oN) (Sl.mk oO oP) uS uT uU))).bind fun FK =>
      bif !FK then
       some (.inr (.inr i6))
      else
       some (.inl (fq (i6 + 1)))
  else
   some (.inr (.inl i6))
noncomputable def ahJ (fu : Nat) (K7 : Value → Value → Option (Bool)) (p28 : (Sl Value) → (Sl Value) → Option (Bool)) (p29 : (Sl Field) → (Sl Field) → Option (Bool)) (p59 : Field → Field → Option (Bool)) (a0 : Sl Field) (a1 : Sl Field) : Option (Bool) :=
 match a0 with
 | ⟨ah, aY⟩ =>
  match a1 with
  | ⟨aL, dS⟩ =>
   bif !((ln ah) == (ln aL)) then
    some false
   else
    (wl (QV fu p59 ah aL) 0).bind fun q =>
     match q with
     | .inl rA =>
      some true
     | .inr xu =>
      some false
noncomputable def ahK (fu : Nat) (K7 : Value → Value → Option (Bool)) (p28 : (Sl Value) → (Sl Value) → Option (Bool)) (p29 : (Sl Field) → (Sl Field) → Option (Bool)) (p59 : Field → Field → Option (Bool)) (a0 : Field) (a1 : Field) : Option (Bool) :=
 match a0 with
 | ⟨aD, ⟨og, oh, om, ⟨kM, kN⟩, ⟨kP, kQ⟩, oo, oq, ou⟩⟩ =>
  match a1 with
  | ⟨iL, ⟨xw, xA, xB, ⟨pV, pW⟩, ⟨pX, pY⟩, xC, xD, xE⟩⟩ =>
   (
    bif seq aD iL then
     (K7 (Value.mk og oh om (Sl.mk kM kN) (Sl.mk kP kQ) oo oq ou) (Value.mk xw xA xB (Sl.mk pV pW) (Sl.mk pX pY) xC xD xE)).bind fun r2 =>
      some r2
    else
     some false
   ).bind fun (q : Bool) =>
    match q with
    | i4 =>
     some i4
mutual
noncomputable def P13 : Nat → Value → Value → Option (Bool)
 | 0 => fun _ _ => none
 | fu + 1 => fun a0 a1 => ahH fu (P13 fu) (P28 fu) (P29 fu) (P59 fu) a0 a1
noncomputable def P28 : Nat → (Sl Value) → (Sl Value) → Option (Bool)
 | 0 => fun _ _ => none
 | fu + 1 => fun a0 a1 => ahI fu (P13 fu) (P28 fu) (P29 fu) (P59 fu) a0 a1
noncomputable def P29 : Nat → (Sl Field) → (Sl Field) → Option (Bool)
 | 0 => fun _ _ => none
 | fu + 1 => fun a0 a1 => ahJ fu (P13 fu) (P28 fu) (P29 fu) (P59 fu) a0 a1
noncomputable def P59 : Nat → Field → Field → Option (Bool)
 | 0 => fun _ _ => none
 | fu + 1 => fun a0 a1 => ahK fu (P13 fu) (P28 fu) (P29 fu) (P59 fu) a0 a1
end
noncomputable def ahL (fu : Nat) (p60 : Value → Value → Option (Bool)) (p61 : (Sl Value) → (Sl Value) → Option (Bool)) (p63 : (Sl Field) → (Sl Field) → Option (Bool)) (Ng : Field → Field → Option (Bool)) (a0 : Value) (a1 : Value) : Option (Bool) :=
 match a0 with
 | ⟨aD, aO, bN, ⟨aK, aS⟩, ⟨au, aA⟩, bO, bT, aQ⟩ =>
  match a1 with
  | ⟨iL, jT, oQ, ⟨jh, ku⟩, ⟨iU, iV⟩, su, kT, sw⟩ =>
   (
    bif aD == iL then
     bif aO == jT then
      bif seq bN oQ then
       (p61 (Sl.mk aK aS) (Sl.mk jh ku)).bind fun r4 =>
        bif r4 then
         (p63 (Sl.mk au aA) (Sl.mk iU iV)).bind fun r7 =>
          bif r7 then
           bif bO == su then
            bif seq bT kT then
             some (aQ == sw)
            else
             some false
           else
            some false
          else
           some false
        else
         some false
      else
       some false
     else
      some false
    else
     some false
   ).bind fun (q : Bool) =>
    match q with
    | i12 =>
     some i12
noncomputable def QW (fu : Nat) (p60 : Value → Value → Option (Bool)) (ah : List Value) (aL : List Value) : Int → Option (Int ⊕ (Int ⊕ Int))
 | i19 =>
  bif decide (i19 < (ln aL)) then
   (idx ah i19).bind fun ⟨mY, xX, T9, ⟨JO, JQ⟩, ⟨xY, xZ⟩, aj1, Ua, aj2⟩ =>
    (idx aL i19).bind fun ⟨qR, yc, Ub, ⟨JR, JU⟩, ⟨yg, yh⟩, aj3, Uc, aj4⟩ =>
     (p60 (Value.mk mY xX T9 (Sl.mk JO JQ) (Sl.mk xY xZ) aj1 Ua aj2) (Value.mk qR yc Ub (Sl.mk JR JU) (Sl.mk yg yh) aj3 Uc aj4)).bind fun Yy =>
      bif !Yy then
       some (.inr (.inr i19))
      else
       some (.inl (fq (i19 + 1)))
  else
   some (.inr (.inl i19))
noncomputable def aei (fu : Nat) (p60 : Value → Value → Option (Bool)) (p61 : (Sl Value) → (Sl Value) → Option (Bool)) (p63 : (Sl Field) → (Sl Field) → Option (Bool)) (Ng : Field → Field → Option (Bool)) (a0 : Sl Value) (a1 : Sl Value) : Option (Bool) :=
 match a0 with
 | ⟨ah, none⟩ =>
  match a1 with
  | ⟨aL, dS⟩ =>
   bif !(!((ln ah) == (ln aL))) then none else
    some false
 | ⟨ah, some aQ⟩ =>
  match a1 with
  | ⟨aL, dS⟩ =>
   (
    bif !(!((ln ah) == (ln aL))) then
     some (decide ((ln (ah ++ aQ)) ≤ (ln aL)))
    else
     some true
   ).bind fun (q : Bool) =>
    match q with
    | i17 =>
     bif i17 then
      some false
     else
      (wl (QW fu p60 ah aL) 0).bind fun q =>
       match q with
       | .inl QX =>
        bif decide (0 ≤ 0) then
         bif decide (0 ≤ fq ((ln aL) + 1)) then
          bif decide (fq ((ln aL) + 1) ≤ ln (ah ++ aQ)) then
           (idx (cut (ah ++ aQ) 0 (fq ((ln aL) + 1))) (ln aL)).bind fun ⟨zx, Du, Ud, ⟨VX, VY⟩, ⟨JV, JW⟩, aqk, aej, aql⟩ =>
            some (seq Ud (⟨#[115, 112, 97, 114, 101]⟩ : ByteArray))
          else none
         else none
        else none
       | .inr QY =>
        some false
noncomputable def QZ (fu : Nat) (Ng : Field → Field → Option (Bool)) (ah : List Field) (aL : List Field) : Int → Option (Int ⊕ (Int ⊕ Int))
 | i19 =>
  bif decide (i19 < (ln aL)) then
   (idx ah i19).bind fun ⟨mY, ⟨xQ, xR, xS, ⟨qN, qO⟩, ⟨qP, qQ⟩, xU, xV, xW⟩⟩ =>
    (idx aL i19).bind fun ⟨qR, ⟨aek, ael, aem, ⟨Yz, YA⟩, ⟨YB, YC⟩, aen, aeo, aep⟩⟩ =>
     (Ng (Field.mk mY (Value.mk xQ xR xS (Sl.mk qN qO) (Sl.mk qP qQ) xU xV xW)) (Field.mk qR (Value.mk aek ael aem (Sl.mk Yz YA) (Sl.mk YB YC) aen aeo aep))).bind fun Yy =>
      bif !Yy then
       some (.inr (.inr i19))
      else
       some (.inl (fq (i19 + 1)))
  else
   some (.inr (.inl i19))
noncomputable def aer (fu : Nat) (p60 : Value → Value → Option (Bool)) (p61 : (Sl Value) → (Sl Value) → Option (Bool)) (p63 : (Sl Field) → (Sl Field) → Option (Bool)) (Ng : Field → Field → Option (Bool)) (a0 : Sl Field) (a1 : Sl Field) : Option (Bool) :=
 match a0 with
 | ⟨ah, none⟩ =>
  match a1 with
  | ⟨aL, dS⟩ =>
   bif !(!((ln ah) == (ln aL))) then none else
    some false
 | ⟨ah, some aQ⟩ =>
  match a1 with
  | ⟨aL, dS⟩ =>
   (
    bif !(!((ln ah) == (ln aL))) then
     some (decide ((ln (ah ++ aQ)) ≤ (ln aL)))
    else
     some true
   ).bind fun (q : Bool) =>
    match q with
    | i17 =>
     bif i17 then
      some false
     else
      (wl (QZ fu Ng ah aL) 0).bind fun q =>
       match q with
       | .inl QX =>
        bif decide (0 ≤ 0) then
         bif decide (0 ≤ fq ((ln aL) + 1)) then
          bif decide (fq ((ln aL) + 1) ≤ ln (ah ++ aQ)) then
           (idx (cut (ah ++ aQ) 0 (fq ((ln aL) + 1))) (ln aL)).bind fun ⟨zx, ⟨anb, anc, ane, ⟨ahM, ahN⟩, ⟨ahO, ahP⟩, anf, ang, anh⟩⟩ =>
            some (seq zx (⟨#[115, 112, 97, 114, 101]⟩ : ByteArray))
          else none
         else none
        else none
       | .inr QY =>
        some false
noncomputable def aes (fu : Nat) (p60 : Value → Value → Option (Bool)) (p61 : (Sl Value) → (Sl Value) → Option (Bool)) (p63 : (Sl Field) → (Sl Field) → Option (Bool)) (Ng : Field → Field → Option (Bool)) (a0 : Field) (a1 : Field) : Option (Bool) :=
 match a0 with
 | ⟨aD, ⟨og, oh, om, ⟨kM, kN⟩, ⟨kP, kQ⟩, oo, oq, ou⟩⟩ =>
  match a1 with
  | ⟨iL, ⟨xw, xA, xB, ⟨pV, pW⟩, ⟨pX, pY⟩, xC, xD, xE⟩⟩ =>
   (
    bif seq aD iL then
     (p60 (Value.mk og oh om (Sl.mk kM kN) (Sl.mk kP kQ) oo oq ou) (Value.mk xw xA xB (Sl.mk pV pW) (Sl.mk pX pY) xC xD xE)).bind fun r2 =>
      some r2
    else
     some false
   ).bind fun (q : Bool) =>
    match q with
    | i4 =>
     some i4
mutual
noncomputable def P60 : Nat → Value → Value → Option (Bool)
 | 0 => fun _ _ => none
 | fu + 1 => fun a0 a1 => ahL fu (P60 fu) (P61 fu) (P63 fu) (P82 fu) a0 a1
noncomputable def P61 : Nat → (Sl Value) → (Sl Value) → Option (Bool)
 | 0 => fun _ _ => none
 | fu + 1 => fun a0 a1 => aei fu (P60 fu) (P61 fu) (P63 fu) (P82 fu) a0 a1
noncomputable def P63 : Nat → (Sl Field) → (Sl Field) → Option (Bool)
 | 0 => fun _ _ => none
 | fu + 1 => fun a0 a1 => aer fu (P60 fu) (P61 fu) (P63 fu) (P82 fu) a0 a1
noncomputable def P82 : Nat → Field → Field → Option (Bool)
 | 0 => fun _ _ => none
 | fu + 1 => fun a0 a1 => aes fu (P60 fu) (P61 fu) (P63 fu) (P82 fu) a0 a1
end
noncomputable def GQ (fu : Nat) (ah : List ByteArray) (aL : List ByteArray) : Int → Option (Int ⊕ (Int ⊕ Int))
 | i19 =>
  bif decide (i19 < (ln aL)) then
   (idx ah i19).bind fun x23 =>
    (idx aL i19).bind fun x25 =>
     bif !(seq x23 x25) then
      some (.inr (.inr i19))
     else
      some (.inl (fq (i19 + 1)))
  else
   some (.inr (.inl i19))
noncomputable def aae (fu : Nat) (a0 : Sl ByteArray) (a1 : Sl ByteArray) : Option (Bool) :=
 match a0 with
 | ⟨ah, none⟩ =>
  match a1 with
  | ⟨aL, dS⟩ =>
   bif !(!((ln ah) == (ln aL))) then none else
    some false
 | ⟨ah, some aQ⟩ =>
  match a1 with
  | ⟨aL, dS⟩ =>
   (
    bif !(!((ln ah) == (ln aL))) then
     some (decide ((ln (ah ++ aQ)) ≤ (ln aL)))
    else
     some true
   ).bind fun (q : Bool) =>
    match q with
    | i17 =>
     bif i17 then
      some false
     else
      (wl (GQ fu ah aL) 0).bind fun q =>
       match q with
       | .inl Uu =>
        bif decide (0 ≤ 0) then
         bif decide (0 ≤ fq ((ln aL) + 1)) then
          bif decide (fq ((ln aL) + 1) ≤ ln (ah ++ aQ)) then
           (idx (cut (ah ++ aQ) 0 (fq ((ln aL) + 1))) (ln aL)).bind fun x47 =>
            some (seq x47 (⟨#[115, 112, 97, 114, 101]⟩ : ByteArray))
          else none
         else none
        else none
       | .inr o49 =>
        some false
noncomputable def GR (fu : Nat) (K8 : Expr → Expr → Option (Bool)) (ah : List Expr) (aL : List Expr) : Int → Option (Int ⊕ (Int ⊕ Int))
 | i19 =>
  bif decide (i19 < (ln aL)) then
   (idx ah i19).bind fun ⟨mY, xX, T9, ⟨JO, JQ⟩, ⟨xY, xZ⟩, ⟨JX, JY⟩, Ua, ⟨JZ, J2⟩, ⟨aeu, aev⟩, Ue⟩ =>
    (idx aL i19).bind fun ⟨qR, yc, Ub, ⟨JR, JU⟩, ⟨yg, yh⟩, ⟨J3, J4⟩, Uc, ⟨J5, J6⟩, ⟨aew, aex⟩, Uf⟩ =>
     (K8 (Expr.mk mY xX T9 (Sl.mk JO JQ) (Sl.mk xY xZ) (Sl.mk JX JY) Ua (Sl.mk JZ J2) (Sl.mk aeu aev) Ue) (Expr.mk qR yc Ub (Sl.mk JR JU) (Sl.mk yg yh) (Sl.mk J3 J4) Uc (Sl.mk J5 J6) (Sl.mk aew aex) Uf)).bind fun Yy =>
      bif !Yy then
       some (.inr (.inr i19))
      else
       some (.inl (fq (i19 + 1)))
  else
   some (.inr (.inl i19))
noncomputable def Ug (fu : Nat) (sD : (Sl Expr) → (Sl Expr) → Option (Bool)) (p62 : (Sl Act) → (Sl Act) → Option (Bool)) (Nh : Act → Act → Option (Bool)) (K8 : Expr → Expr → Option (Bool)) (a0 : Sl Expr) (a1 : Sl Expr) : Option (Bool) :=
 match a0 with
 | ⟨ah, none⟩ =>
  match a1 with
  | ⟨aL, dS⟩ =>
   bif !(!((ln ah) == (ln aL))) then none else
    some false
 | ⟨ah, some aQ⟩ =>
  match a1 with
  | ⟨aL, dS⟩ =>
   (
    bif !(!((ln ah) == (ln aL))) then
     some (decide ((ln (ah ++ aQ)) ≤ (ln aL)))
    else
     some true
   ).bind fun (q : Bool) =>
    match q with
    | i17 =>
     bif i17 then
      some false
     else
      (wl (GR fu K8 ah aL) 0).bind fun q =>
       match q with
       | .inl QX =>
        bif decide (0 ≤ 0) then
         bif decide (0 ≤ fq ((ln aL) + 1)) then
          bif decide (fq ((ln aL) + 1) ≤ ln (ah ++ aQ)) then
           (idx (cut (ah ++ aQ) 0 (fq ((ln aL) + 1))) (ln aL)).bind fun ⟨zx, Du, Ud, ⟨VX, VY⟩, ⟨JV, JW⟩, ⟨VZ, V3⟩, aej, ⟨V4, V5⟩, ⟨ani, anj⟩, aey⟩ =>
            some (seq Ud (⟨#[115, 112, 97, 114, 101]⟩ : ByteArray))
          else none
         else none
        else none
       | .inr QY =>
        some false
noncomputable def Q0 (fu : Nat) (Nh : Act → Act → Option (Bool)) (ah : List Act) (aL : List Act) : Int → Option (Int ⊕ (Int ⊕ Int))
 | i19 =>
  bif decide (i19 < (ln aL)) then
   (idx ah i19).bind fun ⟨mY, xX, ⟨J7, J8, J9, ⟨Dv, Dw⟩, ⟨Dx, Dy⟩, ⟨YD, YE⟩, Ka, ⟨YF, YG⟩, ⟨YH, YI⟩, aez⟩⟩ =>
    (idx aL i19).bind fun ⟨qR, yc, ⟨Kc, Ke, Kg, ⟨Dz, DC⟩, ⟨DF, DI⟩, ⟨YJ, YK⟩, Kh, ⟨YL, YM⟩, ⟨YN, YO⟩, aeA⟩⟩ =>
     (Nh (Act.mk mY xX (Expr.mk J7 J8 J9 (Sl.mk Dv Dw) (Sl.mk Dx Dy) (Sl.mk YD YE) Ka (Sl.mk YF YG) (Sl.mk YH YI) aez)) (Act.mk qR yc (Expr.mk Kc Ke Kg (Sl.mk Dz DC) (Sl.mk DF DI) (Sl.mk YJ YK) Kh (Sl.mk YL YM) (Sl.mk YN YO) aeA))).bind fun Yy =>
      bif !Yy then
       some (.inr (.inr i19))
      else
       some (.inl (fq (i19 + 1)))
  else
   some (.inr (.inl i19))
noncomputable def aeB (fu : Nat) (sD : (Sl Expr) → (Sl Expr) → Option (Bool)) (p62 : (Sl Act) → (Sl Act) → Option (Bool)) (Nh : Act → Act → Option (Bool)) (K8 : Expr → Expr → Option (Bool)) (a0 : Sl Act) (a1 : Sl Act) : Option (Bool) :=
 match a0 with
 | ⟨ah, none⟩ =>
  match a1 with
  | ⟨aL, dS⟩ =>
   bif !(!((ln ah) == (ln aL))) then none else
    some false
 | ⟨ah, some aQ⟩ =>
  match a1 with
  | ⟨aL, dS⟩ =>
   (
    bif !(!((ln ah) == (ln aL))) then
     some (decide ((ln (ah ++ aQ)) ≤ (ln aL)))
    else
     some true
   ).bind fun (q : Bool) =>
    match q with
    | i17 =>
     bif i17 then
      some false
     else
      (wl (Q0 fu Nh ah aL) 0).bind fun q =>
       match q with
       | .inl QX =>
        bif decide (0 ≤ 0) then
         bif decide (0 ≤ fq ((ln aL) + 1)) then
          bif decide (fq ((ln aL) + 1) ≤ ln (ah ++ aQ)) then
           (idx (cut (ah ++ aQ) 0 (fq ((ln aL) + 1))) (ln aL)).bind fun ⟨zx, Du, ⟨V6, V7, V8, ⟨Q5, Q6⟩, ⟨Q7, Q8⟩, ⟨ahQ, ahR⟩, V9, ⟨ahS, ahT⟩, ⟨ahU, ahV⟩, ank⟩⟩ =>
            some (seq Du (⟨#[115, 112, 97, 114, 101]⟩ : ByteArray))
          else none
         else none
        else none
       | .inr QY =>
        some false
noncomputable def aeC (fu : Nat) (sD : (Sl Expr) → (Sl Expr) → Option (Bool)) (p62 : (Sl Act) → (Sl Act) → Option (Bool)) (Nh : Act → Act → Option (Bool)) (K8 : Expr → Expr → Option (Bool)) (a0 : Act) (a1 : Act) : Option (Bool) :=
 match a0 with
 | ⟨aD, aO, ⟨cu, cB, cK, ⟨bA, bB⟩, ⟨bC, bE⟩, ⟨Eo, Ep⟩, cO, ⟨Er, Es⟩, ⟨Et, Eu⟩, Mf⟩⟩ =>
  match a1 with
  | ⟨iL, jT, ⟨zi, zk, zl, ⟨rE, rF⟩, ⟨rG, rH⟩, ⟨Wd, Wh⟩, zm, ⟨Wi, Wj⟩, ⟨Wm, Wn⟩, aeD⟩⟩ =>
   (
    bif aD == iL then
     bif seq aO jT then
      (K8 (Expr.mk cu cB cK (Sl.mk bA bB) (Sl.mk bC bE) (Sl.mk Eo Ep) cO (Sl.mk Er Es) (Sl.mk Et Eu) Mf) (Expr.mk zi zk zl (Sl.mk rE rF) (Sl.mk rG rH) (Sl.mk Wd Wh) zm (Sl.mk Wi Wj) (Sl.mk Wm Wn) aeD)).bind fun r3 =>
       some r3
     else
      some false
    else
     some false
   ).bind fun (q : Bool) =>
    match q with
    | i5 =>
     some i5
noncomputable def ahW (fu : Nat) (sD : (Sl Expr) → (Sl Expr) → Option (Bool)) (p62 : (Sl Act) → (Sl Act) → Option (Bool)) (Nh : Act → Act → Option (Bool)) (K8 : Expr → Expr → Option (Bool)) (a0 : Expr) (a1 : Expr) : Option (Bool) :=
 match a0 with
 | ⟨aD, aO, bN, ⟨aK, aS⟩, ⟨au, aA⟩, ⟨dh, dM⟩, bT, ⟨cZ, dw⟩, ⟨Mg, Mh⟩, eH⟩ =>
  match a1 with
  | ⟨iL, jT, oQ, ⟨jh, ku⟩, ⟨iU, iV⟩, ⟨zn, zo⟩, kT, ⟨zq, zu⟩, ⟨aeE, aeF⟩, K6⟩ =>
   (
    bif aD == iL then
     bif aO == jT then
      bif seq bN oQ then
       (sD (Sl.mk aK aS) (Sl.mk jh ku)).bind fun r4 =>
        bif r4 then
         (aae fu (Sl.mk au aA) (Sl.mk iU iV)).bind fun r7 =>
          bif r7 then
           (sD (Sl.mk dh dM) (Sl.mk zn zo)).bind fun r10 =>
            bif r10 then
             bif bT == kT then
              (sD (Sl.mk cZ dw) (Sl.mk zq zu)).bind fun FK =>
               bif FK then
                (p62 (Sl.mk Mg Mh) (Sl.mk aeE aeF)).bind fun r17 =>
                 bif r17 then
                  some (seq eH K6)
                 else
                  some false
               else
                some false
             else
              some false
            else
             some false
          else
           some false
        else
         some false
      else
       some false
     else
      some false
    else
     some false
   ).bind fun (q : Bool) =>
    match q with
    | i20 =>
     some i20
mutual
noncomputable def Wo : Nat → (Sl Expr) → (Sl Expr) → Option (Bool)
 | 0 => fun _ _ => none
 | fu + 1 => fun a0 a1 => Ug fu (Wo fu) (P62 fu) (P81 fu) (P96 fu) a0 a1
noncomputable def P62 : Nat → (Sl Act) → (Sl Act) → Option (Bool)
 | 0 => fun _ _ => none
 | fu + 1 => fun a0 a1 => aeB fu (Wo fu) (P62 fu) (P81 fu) (P96 fu) a0 a1
noncomputable def P81 : Nat → Act → Act → Option (Bool)
 | 0 => fun _ _ => none
 | fu + 1 => fun a0 a1 => aeC fu (Wo fu) (P62 fu) (P81 fu) (P96 fu) a0 a1
noncomputable def P96 : Nat → Expr → Expr → Option (Bool)
 | 0 => fun _ _ => none
 | fu + 1 => fun a0 a1 => ahW fu (Wo fu) (P62 fu) (P81 fu) (P96 fu) a0 a1
end
noncomputable def P30 (fu : Nat) (a0 : Cell) (a1 : Cell) : Option (Bool) :=
 match a0 with
 | ⟨aD, aO, ⟨cu, cB, cK, ⟨bA, bB⟩, ⟨bC, bE⟩, dz, cO, dA⟩, ⟨dD, dF, dG, ⟨bH, bI⟩, ⟨bJ, bK⟩, dH, dI, dJ⟩, ⟨au, aA⟩, ⟨dh, dM⟩, ⟨dN, dP⟩, ⟨cZ, dw⟩, eX, eH, ⟨dK, dQ⟩, ⟨dn, dO⟩⟩ =>
  match a1 with
  | ⟨iL, jT, ⟨zi, zk, zl, ⟨rE, rF⟩, ⟨rG, rH⟩, Ml, zm, Mq⟩, ⟨Mr, Ms, Mv, ⟨Ev, Ew⟩, ⟨Ey, Ez⟩, Mw, Mx, MB⟩, ⟨iU, iV⟩, ⟨zn, zo⟩, ⟨MC, ME⟩, ⟨zq, zu⟩, Z6, K6, ⟨MF, MG⟩, ⟨MH, MI⟩⟩ =>
   (
    bif aD == iL then
     bif seq aO jT then
      (P60 fu (Value.mk cu cB cK (Sl.mk bA bB) (Sl.mk bC bE) dz cO dA) (Value.mk zi zk zl (Sl.mk rE rF) (Sl.mk rG rH) Ml zm Mq)).bind fun r3 =>
       bif r3 then
        (P60 fu (Value.mk dD dF dG (Sl.mk bH bI) (Sl.mk bJ bK) dH dI dJ) (Value.mk Mr Ms Mv (Sl.mk Ev Ew) (Sl.mk Ey Ez) Mw Mx MB)).bind fun r6 =>
         bif r6 then
          (P61 fu (Sl.mk au aA) (Sl.mk iU iV)).bind fun r9 =>
           bif r9 then
            (P62 fu (Sl.mk dh dM) (Sl.mk zn zo)).bind fun r12 =>
             bif r12 then
              (P62 fu (Sl.mk dN dP) (Sl.mk MC ME)).bind fun sJ =>
               bif sJ then
                (P63 fu (Sl.mk cZ dw) (Sl.mk zq zu)).bind fun TR =>
                 bif TR then
                  bif eX == Z6 then
                   bif eH == K6 then
                    (P62 fu (Sl.mk dK dQ) (Sl.mk MF MG)).bind fun r23 =>
                     bif r23 then
                      (P63 fu (Sl.mk dn dO) (Sl.mk MH MI)).bind fun r26 =>
                       some r26
                     else
                      some false
                   else
                    some false
                  else
                   some false
                 else
                  some false
               else
                some false
             else
              some false
           else
            some false
         else
          some false
       else
        some false
     else
      some false
    else
     some false
   ).bind fun (q : Bool) =>
    match q with
    | i28 =>
     some i28
noncomputable def Q9 (fu : Nat) (ah : List Cell) (aL : List Cell) : Int → Option (Int ⊕ (Int ⊕ Int))
 | i19 =>
  bif decide (i19 < (ln aL)) then
   (idx ah i19).bind fun ⟨mY, xX, ⟨J7, J8, J9, ⟨Dv, Dw⟩, ⟨Dx, Dy⟩, aeG, Ka, aeH⟩, ⟨aeI, aeJ, aeK, ⟨YP, YQ⟩, ⟨YR, YS⟩, aeL, aeM, aeN⟩, ⟨xY, xZ⟩, ⟨JX, JY⟩, ⟨aeO, aeP⟩, ⟨JZ, J2⟩, aj5, Ue, ⟨aeQ, aeR⟩, ⟨aeS, aeT⟩⟩ =>
    (idx aL i19).bind fun ⟨qR, yc, ⟨Kc, Ke, Kg, ⟨Dz, DC⟩, ⟨DF, DI⟩, aeU, Kh, aeV⟩, ⟨aeW, aeX, aeY, ⟨YT, YU⟩, ⟨YV, YW⟩, aeZ, ae0, ae1⟩, ⟨yg, yh⟩, ⟨J3, J4⟩, ⟨ae2, ae3⟩, ⟨J5, J6⟩, aj6, Uf, ⟨ae4, ae5⟩, ⟨ae6, ae7⟩⟩ =>
     (P30 fu (Cell.mk mY xX (Value.mk J7 J8 J9 (Sl.mk Dv Dw) (Sl.mk Dx Dy) aeG Ka aeH) (Value.mk aeI aeJ aeK (Sl.mk YP YQ) (Sl.mk YR YS) aeL aeM aeN) (Sl.mk xY xZ) (Sl.mk JX JY) (Sl.mk aeO aeP) (Sl.mk JZ J2) aj5 Ue (Sl.mk aeQ aeR) (Sl.mk aeS aeT)) (Cell.mk qR yc (Value.mk Kc Ke Kg (Sl.mk Dz DC) (Sl.mk DF DI) aeU Kh aeV) (Value.mk aeW aeX aeY (Sl.mk YT YU) (Sl.mk YV YW) aeZ ae0 ae1) (Sl.mk yg yh) (Sl.mk J3 J4) (Sl.mk ae2 ae3) (Sl.mk J5 J6) aj6 Uf (Sl.mk ae4 ae5) (Sl.mk ae6 ae7))).bind fun Yy =>
      bif !Yy then
       some (.inr (.inr i19))
      else
       some (.inl (fq (i19 + 1)))
  else
   some (.inr (.inl i19))
noncomputable def P14 (fu : Nat) (a0 : Sl Cell) (a1 : Sl Cell) : Option (Bool) :=
 match a0 with
 | ⟨ah, none⟩ =>
  match a1 with
  | ⟨aL, dS⟩ =>
   bif !(!((ln ah) == (ln aL))) then none else
    some false
 | ⟨ah, some aQ⟩ =>
  match a1 with
  | ⟨aL, dS⟩ =>
   (
    bif !(!((ln ah) == (ln aL))) then
     some (decide ((ln (ah ++ aQ)) ≤ (ln aL)))
    else
     some true
   ).bind fun (q : Bool) =>
    match q with
    | i17 =>
     bif i17 then
      some false
     else
      (wl (Q9 fu ah aL) 0).bind fun q =>
       match q with
       | .inl QX =>
        bif decide (0 ≤ 0) then
         bif decide (0 ≤ fq ((ln aL) + 1)) then
          bif decide (fq ((ln aL) + 1) ≤ ln (ah ++ aQ)) then
           (idx (cut (ah ++ aQ) 0 (fq ((ln aL) + 1))) (ln aL)).bind fun ⟨zx, Du, ⟨V6, V7, V8, ⟨Q5, Q6⟩, ⟨Q7, Q8⟩, anl, V9, anm⟩, ⟨ano, anp, anq, ⟨ahX, ahY⟩, ⟨ahZ, ah0⟩, anr, ant, anu⟩, ⟨JV, JW⟩, ⟨VZ, V3⟩, ⟨anv, anw⟩, ⟨V4, V5⟩, aqm, aey, ⟨anx, anz⟩, ⟨anA, anB⟩⟩ =>
            some (seq Du (⟨#[115, 112, 97, 114, 101]⟩ : ByteArray))
          else none
         else none
        else none
       | .inr QY =>
        some false
noncomputable def P15 (fu : Nat) : Option (Bool) :=
 some true
noncomputable def P3 (fu : Nat) (a0 : Sl Cell) (a1 : Sl Cell) (a2 : ByteArray) : Option (Bool) :=
 match a0 with
 | ⟨ah, aY⟩ =>
  match a1 with
  | ⟨aL, dS⟩ =>
   (P4 fu (Sl.mk ah aY)).bind fun ⟨wV, wW⟩ =>
    (P4 fu (Sl.mk aL dS)).bind fun ⟨Cq, Cr⟩ =>
     (P5 fu (Sl.mk wV wW) a2).bind fun ⟨⟨ah1, ah2, ah3, ⟨YX, YZ⟩, ⟨Y0, Y1⟩, ah4, ah5, ah6⟩, r6⟩ =>
      (P6 fu (Sl.mk ah aY) a2).bind fun ⟨⟨ah7, ah8, ah9, ⟨Y2, Y3⟩, ⟨Y4, Y5⟩, aia, aib, aic⟩, r9⟩ =>
       (
        (P7 fu (Sl.mk wV wW) (Sl.mk Cq Cr)).bind fun r11 =>
         (P8 fu (Sl.mk ah aY) (Sl.mk aL dS)).bind fun r13 =>
          bif !(!(r11 == r13)) then
           (P9 fu (Sl.mk wV wW)).bind fun r16 =>
            (P10 fu (Sl.mk ah aY)).bind fun TR =>
             bif !(!(r16 == TR)) then
              (P11 fu (Sl.mk wV wW)).bind fun X5 =>
               (P12 fu (Sl.mk ah aY)).bind fun r23 =>
                some (!(X5 == r23))
             else
              some true
          else
           some true
       ).bind fun (q : Bool) =>
        match q with
        | i25 =>
         bif i25 then
          some false
         else
          (
           bif r6 == r9 then
            (P13 fu (Value.mk ah1 ah2 ah3 (Sl.mk YX YZ) (Sl.mk Y0 Y1) ah4 ah5 ah6) (Value.mk ah7 ah8 ah9 (Sl.mk Y2 Y3) (Sl.mk Y4 Y5) aia aib aic)).bind fun r28 =>
             bif r28 then
              (P14 fu (Sl.mk wV wW) (Sl.mk ah aY)).bind fun r31 =>
               bif r31 then
                (P14 fu (Sl.mk Cq Cr) (Sl.mk aL dS)).bind fun r34 =>
                 bif r34 then
                  (P15 fu).bind fun r37 =>
                   some r37
                 else
                  some false
               else
                some false
             else
              some false
           else
            some false
          ).bind fun (q : Bool) =>
           match q with
           | i39 =>
            some i39
end Go.Proofs.YtipkggkbldgmjaaGreat
