/- Functions on plain data: printed by a small program. -/
import Derived.Test.YtedfkehkcaaplaaTWE
namespace Go.Proofs.Ytedfkehkcaaplaa
open Go Go.X
set_option linter.unusedVariables false
set_option linter.unusedSimpArgs false
set_option maxRecDepth 100000
noncomputable def P7 (fu : Nat) : Option (Bool) :=
 some true
noncomputable def amA (fu : Nat) (p49 : Value → Option (Int)) (p72 : (Sl Value) → Option (Int)) (p73 : (Sl Field) → Option (Int)) (TA : Field → Option (Int)) (a0 : Value) : Option (Int) :=
 match a0 with
 | ⟨bn, gG, kr, ⟨aZ, bf⟩, ⟨aF, aJ⟩, dM, dI, dN⟩ =>
  (
   bif decide ((gD ((gD (1 + (kr.size : Int))) + (dI.size : Int))) ≤ 1048576) then
    (p72 (Sl.mk aZ bf)).bind fun r2 =>
     some (gD ((gD ((gD (1 + (kr.size : Int))) + (dI.size : Int))) + r2))
   else
    some (gD ((gD (1 + (kr.size : Int))) + (dI.size : Int)))
  ).bind fun (q : Int) =>
   match q with
   | i4 =>
    (
     bif decide (i4 ≤ 1048576) then
      (p73 (Sl.mk aF aJ)).bind fun r6 =>
       some (gD (i4 + r6))
     else
      some i4
    ).bind fun (q : Int) =>
     match q with
     | i8 =>
      some i8
noncomputable def Vb (fu : Nat) (p49 : Value → Option (Int)) (aj : List Value) : (Int × Int) → Option ((Int × Int) ⊕ ((Int × Int)))
 | (i3, i4) =>
  (
   bif decide (i4 < (ln aj)) then
    some (decide (i3 ≤ 1048576))
   else
    some false
  ).bind fun (q : Bool) =>
   match q with
   | i8 =>
    bif i8 then
     (idx aj i4).bind fun ⟨gI, j6, qc, ⟨mo, mq⟩, ⟨jD, jE⟩, yA, qd, yB⟩ =>
      (p49 (Value.mk gI j6 qc (Sl.mk mo mq) (Sl.mk jD jE) yA qd yB)).bind fun LZ =>
       some (.inl (gD (i3 + LZ), gD (i4 + 1)))
    else
     some (.inr (i3, i4))
noncomputable def amB (fu : Nat) (p49 : Value → Option (Int)) (p72 : (Sl Value) → Option (Int)) (p73 : (Sl Field) → Option (Int)) (TA : Field → Option (Int)) (a0 : Sl Value) : Option (Int) :=
 match a0 with
 | ⟨aj, bF⟩ =>
  (wl (Vb fu p49 aj) (ln aj, 0)).bind fun q =>
   match q with
   | (o16, CO) =>
    some o16
noncomputable def Vd (fu : Nat) (TA : Field → Option (Int)) (aj : List Field) : (Int × Int) → Option ((Int × Int) ⊕ ((Int × Int)))
 | (i3, i4) =>
  (
   bif decide (i4 < (ln aj)) then
    some (decide (i3 ≤ 1048576))
   else
    some false
  ).bind fun (q : Bool) =>
   match q with
   | i8 =>
    bif i8 then
     (idx aj i4).bind fun ⟨gI, ⟨qD, qE, qF, ⟨yC, yD⟩, ⟨yE, yF⟩, DZ, D5, D6⟩⟩ =>
      (TA (Field.mk gI (Value.mk qD qE qF (Sl.mk yC yD) (Sl.mk yE yF) DZ D5 D6))).bind fun LZ =>
       some (.inl (gD (i3 + LZ), gD (i4 + 1)))
    else
     some (.inr (i3, i4))
noncomputable def amC (fu : Nat) (p49 : Value → Option (Int)) (p72 : (Sl Value) → Option (Int)) (p73 : (Sl Field) → Option (Int)) (TA : Field → Option (Int)) (a0 : Sl Field) : Option (Int) :=
 match a0 with
 | ⟨aj, bF⟩ =>
  (wl (Vd fu TA aj) (ln aj, 0)).bind fun q =>
   match q with
   | (o16, CO) =>
    some o16
noncomputable def aia (fu : Nat) (p49 : Value → Option (Int)) (p72 : (Sl Value) → Option (Int)) (p73 : (Sl Field) → Option (Int)) (TA : Field → Option (Int)) (a0 : Field) : Option (Int) :=
 match a0 with
 | ⟨bn, ⟨bK, aL, bL, ⟨qG, qH⟩, ⟨qI, qJ⟩, yG, yH, yI⟩⟩ =>
  (
   bif decide ((gD (1 + (bn.size : Int))) ≤ 1048576) then
    (p49 (Value.mk bK aL bL (Sl.mk qG qH) (Sl.mk qI qJ) yG yH yI)).bind fun r2 =>
     some (gD ((gD (1 + (bn.size : Int))) + r2))
   else
    some (gD (1 + (bn.size : Int)))
  ).bind fun (q : Int) =>
   match q with
   | i4 =>
    some i4
mutual
noncomputable def P49 : Nat → Value → Option (Int)
 | 0 => fun _ => none
 | fu + 1 => fun a0 => amA fu (P49 fu) (P72 fu) (P73 fu) (P93 fu) a0
noncomputable def P72 : Nat → (Sl Value) → Option (Int)
 | 0 => fun _ => none
 | fu + 1 => fun a0 => amB fu (P49 fu) (P72 fu) (P73 fu) (P93 fu) a0
noncomputable def P73 : Nat → (Sl Field) → Option (Int)
 | 0 => fun _ => none
 | fu + 1 => fun a0 => amC fu (P49 fu) (P72 fu) (P73 fu) (P93 fu) a0
noncomputable def P93 : Nat → Field → Option (Int)
 | 0 => fun _ => none
 | fu + 1 => fun a0 => aia fu (P49 fu) (P72 fu) (P73 fu) (P93 fu) a0
end
noncomputable def P45 (fu : Nat) (a0 : Child) : Option (Int) :=
 match a0 with
 | ⟨bn, gG, kr, ⟨lG, lH, lJ, ⟨jd, je⟩, ⟨jf, jh⟩, lK, lM, lQ⟩⟩ =>
  (
   bif decide ((gD ((gD (1 + (bn.size : Int))) + (kr.size : Int))) ≤ 1048576) then
    (P49 fu (Value.mk lG lH lJ (Sl.mk jd je) (Sl.mk jf jh) lK lM lQ)).bind fun r2 =>
     some (gD ((gD ((gD (1 + (bn.size : Int))) + (kr.size : Int))) + r2))
   else
    some (gD ((gD (1 + (bn.size : Int))) + (kr.size : Int)))
  ).bind fun (q : Int) =>
   match q with
   | i4 =>
    some i4
noncomputable def Ve (fu : Nat) (aj : List ByteArray) : (Int × Int) → Option ((Int × Int) ⊕ ((Int × Int)))
 | (i3, i4) =>
  (
   bif decide (i4 < (ln aj)) then
    some (decide (i3 ≤ 1048576))
   else
    some false
  ).bind fun (q : Bool) =>
   match q with
   | i8 =>
    bif i8 then
     (idx aj i4).bind fun x10 =>
      some (.inl (gD (i3 + (x10.size : Int)), gD (i4 + 1)))
    else
     some (.inr (i3, i4))
noncomputable def aib (fu : Nat) (a0 : Sl ByteArray) : Option (Int) :=
 match a0 with
 | ⟨aj, bF⟩ =>
  (wl (Ve fu aj) (ln aj, 0)).bind fun q =>
   match q with
   | (Vf, o15) =>
    some Vf
noncomputable def adz (fu : Nat) (zA : Act → Option (Int)) (yV : Expr → Option (Int)) (zB : (Sl Expr) → Option (Int)) (Xm : (Sl Act) → Option (Int)) (a0 : Act) : Option (Int) :=
 match a0 with
 | ⟨bn, gG, ⟨lT, lU, lV, ⟨ji, jk⟩, ⟨jl, jm⟩, ⟨yX, yY⟩, lW, ⟨yZ, y5⟩, ⟨y7, y8⟩, FK⟩⟩ =>
  (
   bif decide ((gD (1 + (gG.size : Int))) ≤ 1048576) then
    (yV (Expr.mk lT lU lV (Sl.mk ji jk) (Sl.mk jl jm) (Sl.mk yX yY) lW (Sl.mk yZ y5) (Sl.mk y7 y8) FK)).bind fun r2 =>
     some (gD ((gD (1 + (gG.size : Int))) + r2))
   else
    some (gD (1 + (gG.size : Int)))
  ).bind fun (q : Int) =>
   match q with
   | i4 =>
    some i4
noncomputable def adA (fu : Nat) (zA : Act → Option (Int)) (yV : Expr → Option (Int)) (zB : (Sl Expr) → Option (Int)) (Xm : (Sl Act) → Option (Int)) (a0 : Expr) : Option (Int) :=
 match a0 with
 | ⟨bn, gG, kr, ⟨aZ, bf⟩, ⟨aF, aJ⟩, ⟨jS, jT⟩, dI, ⟨jU, jV⟩, ⟨wL, wM⟩, dD⟩ =>
  (
   bif decide ((gD ((gD (1 + (kr.size : Int))) + (dD.size : Int))) ≤ 1048576) then
    (zB (Sl.mk aZ bf)).bind fun r2 =>
     some (gD ((gD ((gD (1 + (kr.size : Int))) + (dD.size : Int))) + r2))
   else
    some (gD ((gD (1 + (kr.size : Int))) + (dD.size : Int)))
  ).bind fun (q : Int) =>
   match q with
   | i4 =>
    (
     bif decide (i4 ≤ 1048576) then
      (aib fu (Sl.mk aF aJ)).bind fun r6 =>
       some (gD (i4 + r6))
     else
      some i4
    ).bind fun (q : Int) =>
     match q with
     | i8 =>
      (
       bif decide (i8 ≤ 1048576) then
        (zB (Sl.mk jS jT)).bind fun Xn =>
         some (gD (i8 + Xn))
       else
        some i8
      ).bind fun (q : Int) =>
       match q with
       | i12 =>
        (
         bif decide (i12 ≤ 1048576) then
          (zB (Sl.mk jU jV)).bind fun zC =>
           some (gD (i12 + zC))
         else
          some i12
        ).bind fun (q : Int) =>
         match q with
         | i16 =>
          (
           bif decide (i16 ≤ 1048576) then
            (Xm (Sl.mk wL wM)).bind fun YL =>
             some (gD (i16 + YL))
           else
            some i16
          ).bind fun (q : Int) =>
           match q with
           | i20 =>
            some i20
noncomputable def MO (fu : Nat) (yV : Expr → Option (Int)) (aj : List Expr) : (Int × Int) → Option ((Int × Int) ⊕ ((Int × Int)))
 | (i3, i4) =>
  (
   bif decide (i4 < (ln aj)) then
    some (decide (i3 ≤ 1048576))
   else
    some false
  ).bind fun (q : Bool) =>
   match q with
   | i8 =>
    bif i8 then
     (idx aj i4).bind fun ⟨gI, j6, qc, ⟨mo, mq⟩, ⟨jD, jE⟩, ⟨wN, wO⟩, qd, ⟨wP, wQ⟩, ⟨Pm, Pn⟩, tH⟩ =>
      (yV (Expr.mk gI j6 qc (Sl.mk mo mq) (Sl.mk jD jE) (Sl.mk wN wO) qd (Sl.mk wP wQ) (Sl.mk Pm Pn) tH)).bind fun LZ =>
       some (.inl (gD (i3 + LZ), gD (i4 + 1)))
    else
     some (.inr (i3, i4))
noncomputable def adB (fu : Nat) (zA : Act → Option (Int)) (yV : Expr → Option (Int)) (zB : (Sl Expr) → Option (Int)) (Xm : (Sl Act) → Option (Int)) (a0 : Sl Expr) : Option (Int) :=
 match a0 with
 | ⟨aj, bF⟩ =>
  (wl (MO fu yV aj) (ln aj, 0)).bind fun q =>
   match q with
   | (o16, CO) =>
    some o16
noncomputable def Vg (fu : Nat) (zA : Act → Option (Int)) (aj : List Act) : (Int × Int) → Option ((Int × Int) ⊕ ((Int × Int)))
 | (i3, i4) =>
  (
   bif decide (i4 < (ln aj)) then
    some (decide (i3 ≤ 1048576))
   else
    some false
  ).bind fun (q : Bool) =>
   match q with
   | i8 =>
    bif i8 then
     (idx aj i4).bind fun ⟨gI, j6, ⟨wR, wS, wT, ⟨qK, qL⟩, ⟨qM, qN⟩, ⟨Jh, Ji⟩, wU, ⟨Jj, Jk⟩, ⟨Jl, Jm⟩, Po⟩⟩ =>
      (zA (Act.mk gI j6 (Expr.mk wR wS wT (Sl.mk qK qL) (Sl.mk qM qN) (Sl.mk Jh Ji) wU (Sl.mk Jj Jk) (Sl.mk Jl Jm) Po))).bind fun LZ =>
       some (.inl (gD (i3 + LZ), gD (i4 + 1)))
    else
     some (.inr (i3, i4))
noncomputable def amD (fu : Nat) (zA : Act → Option (Int)) (yV : Expr → Option (Int)) (zB : (Sl Expr) → Option (Int)) (Xm : (Sl Act) → Option (Int)) (a0 : Sl Act) : Option (Int) :=
 match a0 with
 | ⟨aj, bF⟩ =>
  (wl (Vg fu zA aj) (ln aj, 0)).bind fun q =>
   match q with
   | (o16, CO) =>
    some o16
mutual
noncomputable def YM : Nat → Act → Option (Int)
 | 0 => fun _ => none
 | fu + 1 => fun a0 => adz fu (YM fu) (Sg fu) (abj fu) (P92 fu) a0
noncomputable def Sg : Nat → Expr → Option (Int)
 | 0 => fun _ => none
 | fu + 1 => fun a0 => adA fu (YM fu) (Sg fu) (abj fu) (P92 fu) a0
noncomputable def abj : Nat → (Sl Expr) → Option (Int)
 | 0 => fun _ => none
 | fu + 1 => fun a0 => adB fu (YM fu) (Sg fu) (abj fu) (P92 fu) a0
noncomputable def P92 : Nat → (Sl Act) → Option (Int)
 | 0 => fun _ => none
 | fu + 1 => fun a0 => amD fu (YM fu) (Sg fu) (abj fu) (P92 fu) a0
end
noncomputable def P71 (fu : Nat) (a0 : Cell) : Option (Int) :=
 match a0 with
 | ⟨bn, gG, ⟨lT, lU, lV, ⟨ji, jk⟩, ⟨jl, jm⟩, tJ, lW, tK⟩, ⟨lG, lH, lJ, ⟨jd, je⟩, ⟨jf, jh⟩, lK, lM, lQ⟩, ⟨aF, aJ⟩, ⟨jS, jT⟩, ⟨tL, tN⟩, ⟨jU, jV⟩, Fv, dD, ⟨tO, tQ⟩, ⟨bB, bH⟩⟩ =>
  (
   bif decide ((gD (1 + (gG.size : Int))) ≤ 1048576) then
    (P49 fu (Value.mk lT lU lV (Sl.mk ji jk) (Sl.mk jl jm) tJ lW tK)).bind fun r2 =>
     some (gD ((gD (1 + (gG.size : Int))) + r2))
   else
    some (gD (1 + (gG.size : Int)))
  ).bind fun (q : Int) =>
   match q with
   | i4 =>
    (
     bif decide (i4 ≤ 1048576) then
      (P49 fu (Value.mk lG lH lJ (Sl.mk jd je) (Sl.mk jf jh) lK lM lQ)).bind fun r6 =>
       some (gD (i4 + r6))
     else
      some i4
    ).bind fun (q : Int) =>
     match q with
     | i8 =>
      (
       bif decide (i8 ≤ 1048576) then
        (P72 fu (Sl.mk aF aJ)).bind fun Xn =>
         some (gD (i8 + Xn))
       else
        some i8
      ).bind fun (q : Int) =>
       match q with
       | i12 =>
        (
         bif decide (i12 ≤ 1048576) then
          (P92 fu (Sl.mk jS jT)).bind fun zC =>
           some (gD (i12 + zC))
         else
          some i12
        ).bind fun (q : Int) =>
         match q with
         | i16 =>
          (
           bif decide (i16 ≤ 1048576) then
            (P92 fu (Sl.mk tL tN)).bind fun YL =>
             some (gD (i16 + YL))
           else
            some i16
          ).bind fun (q : Int) =>
           match q with
           | i20 =>
            (
             bif decide (i20 ≤ 1048576) then
              (P73 fu (Sl.mk jU jV)).bind fun r22 =>
               some (gD (i20 + r22))
             else
              some i20
            ).bind fun (q : Int) =>
             match q with
             | i24 =>
              (
               bif decide (i24 ≤ 1048576) then
                (P92 fu (Sl.mk tO tQ)).bind fun r26 =>
                 some (gD (i24 + r26))
               else
                some i24
              ).bind fun (q : Int) =>
               match q with
               | i28 =>
                (
                 bif decide (i28 ≤ 1048576) then
                  (P73 fu (Sl.mk bB bH)).bind fun r30 =>
                   some (gD (i28 + r30))
                 else
                  some i28
                ).bind fun (q : Int) =>
                 match q with
                 | i32 =>
                  some i32
noncomputable def Vh (fu : Nat) (aj : List Cell) : (Int × Int) → Option ((Int × Int) ⊕ ((Int × Int)))
 | (i3, i4) =>
  (
   bif decide (i4 < (ln aj)) then
    some (decide (i3 ≤ 1048576))
   else
    some false
  ).bind fun (q : Bool) =>
   match q with
   | i8 =>
    bif i8 then
     (idx aj i4).bind fun ⟨gI, j6, ⟨wR, wS, wT, ⟨qK, qL⟩, ⟨qM, qN⟩, Pp, wU, Pq⟩, ⟨wV, wW, wX, ⟨qO, qP⟩, ⟨qQ, qR⟩, wY, wZ, w9⟩, ⟨jD, jE⟩, ⟨wN, wO⟩, ⟨Pt, Pv⟩, ⟨wP, wQ⟩, YN, tH, ⟨Pw, Px⟩, ⟨xq, xu⟩⟩ =>
      (P71 fu (Cell.mk gI j6 (Value.mk wR wS wT (Sl.mk qK qL) (Sl.mk qM qN) Pp wU Pq) (Value.mk wV wW wX (Sl.mk qO qP) (Sl.mk qQ qR) wY wZ w9) (Sl.mk jD jE) (Sl.mk wN wO) (Sl.mk Pt Pv) (Sl.mk wP wQ) YN tH (Sl.mk Pw Px) (Sl.mk xq xu))).bind fun LZ =>
       some (.inl (gD (i3 + LZ), gD (i4 + 1)))
    else
     some (.inr (i3, i4))
noncomputable def P46 (fu : Nat) (a0 : Sl Cell) : Option (Int) :=
 match a0 with
 | ⟨aj, bF⟩ =>
  (wl (Vh fu aj) (ln aj, 0)).bind fun q =>
   match q with
   | (o16, CO) =>
    some o16
noncomputable def Vi (fu : Nat) (aj : List Child) : (Int × Int) → Option ((Int × Int) ⊕ ((Int × Int)))
 | (i3, i4) =>
  (
   bif decide (i4 < (ln aj)) then
    some (decide (i3 ≤ 1048576))
   else
    some false
  ).bind fun (q : Bool) =>
   match q with
   | i8 =>
    bif i8 then
     (idx aj i4).bind fun ⟨gI, j6, qc, ⟨wV, wW, wX, ⟨qO, qP⟩, ⟨qQ, qR⟩, wY, wZ, w9⟩⟩ =>
      (P45 fu (Child.mk gI j6 qc (Value.mk wV wW wX (Sl.mk qO qP) (Sl.mk qQ qR) wY wZ w9))).bind fun LZ =>
       some (.inl (gD (i3 + LZ), gD (i4 + 1)))
    else
     some (.inr (i3, i4))
noncomputable def P47 (fu : Nat) (a0 : Sl Child) : Option (Int) :=
 match a0 with
 | ⟨aj, bF⟩ =>
  (wl (Vi fu aj) (ln aj, 0)).bind fun q =>
   match q with
   | (o16, CO) =>
    some o16
noncomputable def amE (fu : Nat) (p16 : Inst → Option (Int)) (p48 : (Sl Inst) → Option (Int)) (a0 : Inst) : Option (Int) :=
 match a0 with
 | ⟨bn, ⟨bK, aL, bL, ⟨aT, aU, aV, ⟨av, ay⟩, ⟨aA, aB⟩, aW, aX, aY⟩⟩, ⟨bU, cO⟩, ⟨aZ, bf⟩, ⟨aF, aJ⟩, dM, dI, dN, ⟨bX, bY, bZ, ⟨aP, aQ⟩, ⟨aR, aS⟩, cu, cB, cK⟩, dD, dY, ⟨bB, bH⟩, eB, eD⟩ =>
  (
   bif decide ((gD (1 + (dD.size : Int))) ≤ 1048576) then
    (P45 fu (Child.mk bK aL bL (Value.mk aT aU aV (Sl.mk av ay) (Sl.mk aA aB) aW aX aY))).bind fun r2 =>
     some (gD ((gD (1 + (dD.size : Int))) + r2))
   else
    some (gD (1 + (dD.size : Int)))
  ).bind fun (q : Int) =>
   match q with
   | i4 =>
    (
     bif decide (i4 ≤ 1048576) then
      (P46 fu (Sl.mk bU cO)).bind fun r6 =>
       some (gD (i4 + r6))
     else
      some i4
    ).bind fun (q : Int) =>
     match q with
     | i8 =>
      (
       bif decide (i8 ≤ 1048576) then
        (P47 fu (Sl.mk aZ bf)).bind fun Xn =>
         some (gD (i8 + Xn))
       else
        some i8
      ).bind fun (q : Int) =>
       match q with
       | i12 =>
        (
         bif decide (i12 ≤ 1048576) then
          (p48 (Sl.mk aF aJ)).bind fun zC =>
           some (gD (i12 + zC))
         else
          some i12
        ).bind fun (q : Int) =>
         match q with
         | i16 =>
          (
           bif decide (i16 ≤ 1048576) then
            (P49 fu (Value.mk bX bY bZ (Sl.mk aP aQ) (Sl.mk aR aS) cu cB cK)).bind fun YL =>
             some (gD (i16 + YL))
           else
            some i16
          ).bind fun (q : Int) =>
           match q with
           | i20 =>
            (
             bif decide (i20 ≤ 1048576) then
              (p48 (Sl.mk bB bH)).bind fun r22 =>
               some (gD (i20 + r22))
             else
              some i20
            ).bind fun (q : Int) =>
             match q with
             | i24 =>
              some i24
noncomputable def Vj (fu : Nat) (p16 : Inst → Option (Int)) (aj : List Inst) : (Int × Int) → Option ((Int × Int) ⊕ ((Int × Int)))
 | (i3, i4) =>
  (
   bif decide (i4 < (ln aj)) then
    some (decide (i3 ≤ 1048576))
   else
    some false
  ).bind fun (q : Bool) =>
   match q with
   | i8 =>
    bif i8 then
     (idx aj i4).bind fun ⟨gI, ⟨qD, qE, qF, ⟨Jo, Jp, Jq, ⟨D7, D8⟩, ⟨D9, Ea⟩, Jr, Js, Jt⟩⟩, ⟨Py, Pz⟩, ⟨mo, mq⟩, ⟨jD, jE⟩, yA, qd, yB, ⟨PD, PE, PG, ⟨Ju, Jv⟩, ⟨Jw, Jy⟩, PI, PK, PL⟩, tH, YO, ⟨xq, xu⟩, YP, YQ⟩ =>
      (p16 (Inst.mk gI (Child.mk qD qE qF (Value.mk Jo Jp Jq (Sl.mk D7 D8) (Sl.mk D9 Ea) Jr Js Jt)) (Sl.mk Py Pz) (Sl.mk mo mq) (Sl.mk jD jE) yA qd yB (Value.mk PD PE PG (Sl.mk Ju Jv) (Sl.mk Jw Jy) PI PK PL) tH YO (Sl.mk xq xu) YP YQ)).bind fun LZ =>
       some (.inl (gD (i3 + LZ), gD (i4 + 1)))
    else
     some (.inr (i3, i4))
noncomputable def amF (fu : Nat) (p16 : Inst → Option (Int)) (p48 : (Sl Inst) → Option (Int)) (a0 : Sl Inst) : Option (Int) :=
 match a0 with
 | ⟨aj, bF⟩ =>
  (wl (Vj fu p16 aj) (ln aj, 0)).bind fun q =>
   match q with
   | (o16, CO) =>
    some o16
mutual
noncomputable def P16 : Nat → Inst → Option (Int)
 | 0 => fun _ => none
 | fu + 1 => fun a0 => amE fu (P16 fu) (P48 fu) a0
noncomputable def P48 : Nat → (Sl Inst) → Option (Int)
 | 0 => fun _ => none
 | fu + 1 => fun a0 => amF fu (P16 fu) (P48 fu) a0
end
noncomputable def PN (fu : Nat) (aj : List Int) : (Bool × Int × Int) → Option ((Bool × Int × Int) ⊕ ((Bool × Int × Int) ⊕ (Bool × Int × Int)))
 | (i1, i2, i3) =>
  bif decide (i3 < (ln aj)) then
   (idx aj i3).bind fun x7 =>
    bif decide (1048576 < (gD (i2 + x7))) then
     some (.inr (.inr (true, gD (i2 + x7), i3)))
    else
     some (.inl (i1, gD (i2 + x7), gD (i3 + 1)))
  else
   some (.inr (.inl (i1, i2, i3)))
noncomputable def P23 (fu : Nat) (a0 : Sl Int) : Option (Bool) :=
 match a0 with
 | ⟨aj, bF⟩ =>
  (wl (PN fu aj) (false, 0, 0)).bind fun q =>
   match q with
   | .inl (o11, o12, o13) =>
    some false
   | .inr (Vf, o15, o16) =>
    some Vf
noncomputable def PO (fu : Nat) (p24 : Inst → Int → Option (Int)) (aF : List Inst) (a1 : Int) : (Int × Int) → Option ((Int × Int) ⊕ ((Int × Int)))
 | (i9, i10) =>
  (
   bif decide (i10 < (ln aF)) then
    some (decide (i9 < 1048576))
   else
    some false
  ).bind fun (q : Bool) =>
   match q with
   | YR =>
    bif YR then
     (idx aF i10).bind fun ⟨ao4, ⟨aic, aie, aif, ⟨adC, adD, adE, ⟨YS, YT⟩, ⟨YU, YV⟩, adF, adG, adH⟩⟩, ⟨aii, aij⟩, ⟨aik, ail⟩, ⟨ain, aio⟩, ao5, ao6, ao7, ⟨aip, aiq, air, ⟨adI, adJ⟩, ⟨adK, adL⟩, ais, ait, aiu⟩, ao8, ao9, ⟨aiv, aiw⟩, apa, apb⟩ =>
      (p24 (Inst.mk ao4 (Child.mk aic aie aif (Value.mk adC adD adE (Sl.mk YS YT) (Sl.mk YU YV) adF adG adH)) (Sl.mk aii aij) (Sl.mk aik ail) (Sl.mk ain aio) ao5 ao6 ao7 (Value.mk aip aiq air (Sl.mk adI adJ) (Sl.mk adK adL) ais ait aiu) ao8 ao9 (Sl.mk aiv aiw) apa apb) (gD (a1 + 1))).bind fun YL =>
       some (.inl (gD (i9 + YL), gD (i10 + 1)))
    else
     some (.inr (i9, i10))
noncomputable def PS (fu : Nat) (p24 : Inst → Int → Option (Int)) (bB : List Inst) (a1 : Int) : (Int × Int) → Option ((Int × Int) ⊕ ((Int × Int)))
 | (i24, i25) =>
  (
   bif decide (i25 < (ln bB)) then
    some (decide (i24 < 1048576))
   else
    some false
  ).bind fun (q : Bool) =>
   match q with
   | i29 =>
    bif i29 then
     (idx bB i25).bind fun ⟨apc, ⟨aix, aiy, aiz, ⟨adM, adN, adO, ⟨YW, YX⟩, ⟨YZ, Y0⟩, adP, adQ, adR⟩⟩, ⟨aiA, aiB⟩, ⟨aiC, aiD⟩, ⟨aiE, aiF⟩, apd, ape, apf, ⟨aiG, aiH, aiI, ⟨adS, adT⟩, ⟨adU, adV⟩, aiJ, aiK, aiL⟩, apg, aph, ⟨aiM, aiN⟩, apj, apk⟩ =>
      (p24 (Inst.mk apc (Child.mk aix aiy aiz (Value.mk adM adN adO (Sl.mk YW YX) (Sl.mk YZ Y0) adP adQ adR)) (Sl.mk aiA aiB) (Sl.mk aiC aiD) (Sl.mk aiE aiF) apd ape apf (Value.mk aiG aiH aiI (Sl.mk adS adT) (Sl.mk adU adV) aiJ aiK aiL) apg aph (Sl.mk aiM aiN) apj apk) (gD (a1 + 1))).bind fun r33 =>
       some (.inl (gD (i24 + r33), gD (i25 + 1)))
    else
     some (.inr (i24, i25))
noncomputable def amG (fu : Nat) (p24 : Inst → Int → Option (Int)) (a0 : Inst) (a1 : Int) : Option (Int) :=
 match a0 with
 | ⟨bn, ⟨bK, aL, bL, ⟨aT, aU, aV, ⟨av, ay⟩, ⟨aA, aB⟩, aW, aX, aY⟩⟩, ⟨bU, cO⟩, ⟨aZ, bf⟩, ⟨aF, aJ⟩, dM, dI, dN, ⟨bX, bY, bZ, ⟨aP, aQ⟩, ⟨aR, aS⟩, cu, cB, cK⟩, dD, dY, ⟨bB, bH⟩, eB, eD⟩ =>
  (P45 fu (Child.mk bK aL bL (Value.mk aT aU aV (Sl.mk av ay) (Sl.mk aA aB) aW aX aY))).bind fun r1 =>
   (P46 fu (Sl.mk bU cO)).bind fun r3 =>
    (P47 fu (Sl.mk aZ bf)).bind fun r5 =>
     (P49 fu (Value.mk bX bY bZ (Sl.mk aP aQ) (Sl.mk aR aS) cu cB cK)).bind fun r7 =>
      (wl (PO fu p24 aF a1) (gD (a1 * (gD ((gD ((gD ((gD (1 + r1)) + r3)) + r5)) + r7))), 0)).bind fun q =>
       match q with
       | (o22, o23) =>
        (wl (PS fu p24 bB a1) (o22, 0)).bind fun q =>
         match q with
         | (o37, o38) =>
          some o37
noncomputable def P24 : Nat → Inst → Int → Option (Int)
 | 0 => fun _ _ => none
 | fu + 1 => fun a0 a1 => amG fu (P24 fu) a0 a1
noncomputable def P8 (fu : Nat) (a0 : Inst) : Option (Bool) :=
 match a0 with
 | ⟨bn, ⟨bK, aL, bL, ⟨aT, aU, aV, ⟨av, ay⟩, ⟨aA, aB⟩, aW, aX, aY⟩⟩, ⟨bU, cO⟩, ⟨aZ, bf⟩, ⟨aF, aJ⟩, dM, dI, dN, ⟨bX, bY, bZ, ⟨aP, aQ⟩, ⟨aR, aS⟩, cu, cB, cK⟩, dD, dY, ⟨bB, bH⟩, eB, eD⟩ =>
  (
   (P16 fu (Inst.mk bn (Child.mk bK aL bL (Value.mk aT aU aV (Sl.mk av ay) (Sl.mk aA aB) aW aX aY)) (Sl.mk bU cO) (Sl.mk aZ bf) (Sl.mk aF aJ) dM dI dN (Value.mk bX bY bZ (Sl.mk aP aQ) (Sl.mk aR aS) cu cB cK) dD dY (Sl.mk bB bH) eB eD)).bind fun r1 =>
    (P23 fu (Sl.mk [r1] (some []))).bind fun r3 =>
     bif !r3 then
      (P24 fu (Inst.mk bn (Child.mk bK aL bL (Value.mk aT aU aV (Sl.mk av ay) (Sl.mk aA aB) aW aX aY)) (Sl.mk bU cO) (Sl.mk aZ bf) (Sl.mk aF aJ) dM dI dN (Value.mk bX bY bZ (Sl.mk aP aQ) (Sl.mk aR aS) cu cB cK) dD dY (Sl.mk bB bH) eB eD) 1).bind fun r6 =>
       some (decide (262144 < r6))
     else
      some true
  ).bind fun (q : Bool) =>
   match q with
   | i8 =>
    some i8
noncomputable def K5 (fu : Nat) (aj : List Inst) : ((List (ByteArray × Bool)) × Int) → Option (((List (ByteArray × Bool)) × Int) ⊕ (((List (ByteArray × Bool)) × Int)))
 | (m5, i6) =>
  bif decide (i6 < (ln aj)) then
   (idx aj i6).bind fun ⟨uz, ⟨Cv, FL, FM, ⟨Gj, Gl, Gm, ⟨Aq, Ar⟩, ⟨Au, Av⟩, Gn, Gp, Gq⟩⟩, ⟨PU, PW⟩, ⟨zD, zF⟩, ⟨uJ, uK⟩, Si, K6, Sj, ⟨PX, PY, PZ, ⟨Gr, Gs⟩, ⟨Gt, Gu⟩, P5, P6, Qa⟩, K7, abk, ⟨FN, FP⟩, abl, abm⟩ =>
    some (.inl ((Jd m5 Cv true), gD (i6 + 1)))
  else
   some (.inr (m5, i6))
noncomputable def P59 (fu : Nat) (a0 : Sl Inst) : Option (Bool) :=
 match a0 with
 | ⟨aj, bF⟩ =>
  (wl (K5 fu aj) (([] : List (ByteArray × Bool)), 0)).bind fun q =>
   match q with
   | (o13, Vf) =>
    (
     bif decide ((ln aj) ≤ 4096) then
      some ((ln o13) == (ln aj))
     else
      some false
    ).bind fun (q : Bool) =>
     match q with
     | i22 =>
      some i22
noncomputable def abn (fu : Nat) (aj : List Int) (a1 : Int) : (Int × Int) → Option ((Int × Int) ⊕ ((Int × Int) ⊕ (Int × Int)))
 | (i3, i4) =>
  bif decide (i4 < (ln aj)) then
   (idx aj i4).bind fun x6 =>
    bif a1 == x6 then
     some (.inr (.inr (i4, i4)))
    else
     some (.inl (i3, gD (i4 + 1)))
  else
   some (.inr (.inl (i3, i4)))
noncomputable def P82 (fu : Nat) (a0 : Sl Int) (a1 : Int) : Option (Int) :=
 match a0 with
 | ⟨aj, bF⟩ =>
  (wl (abn fu aj a1) (0, 0)).bind fun q =>
   match q with
   | .inl (o10, o11) =>
    some (-1)
   | .inr (o12, o13) =>
    some o12
noncomputable def P58 (fu : Nat) (a0 : Sl Int) (a1 : Int) : Option (Bool) :=
 match a0 with
 | ⟨aj, bF⟩ =>
  (P82 fu (Sl.mk aj bF) a1).bind fun r1 =>
   some (decide (0 ≤ r1))
noncomputable def tT (fu : Nat) (a0 : Sl Int) (b0 : Int) : Option (Bool) :=
 match a0 with
 | ⟨aj, bF⟩ =>
  (P58 fu (Sl.mk aj bF) b0).bind fun r1 =>
   some r1
noncomputable def abo (fu : Nat) (a2 : (Value → Value → Option (Bool))) (aj : List Value) (dR : List Value) : Int → Option (Int ⊕ (Int ⊕ Int))
 | i8 =>
  bif decide (i8 < (ln aj)) then
   (idx aj i8).bind fun ⟨gI, j6, qc, ⟨mo, mq⟩, ⟨jD, jE⟩, yA, qd, yB⟩ =>
    (idx dR i8).bind fun ⟨iG, mD, tV, ⟨nV, nW⟩, ⟨kH, kI⟩, Cw, tX, Cx⟩ =>
     (a2 (Value.mk gI j6 qc (Sl.mk mo mq) (Sl.mk jD jE) yA qd yB) (Value.mk iG mD tV (Sl.mk nV nW) (Sl.mk kH kI) Cw tX Cx)).bind fun zC =>
      bif !zC then
       some (.inr (.inr i8))
      else
       some (.inl (gD (i8 + 1)))
  else
   some (.inr (.inl i8))
noncomputable def P83 (fu : Nat) (a0 : Sl Value) (a1 : Sl Value) (a2 : (Value → Value → Option (Bool))) : Option (Bool) :=
 match a0 with
 | ⟨aj, bF⟩ =>
  match a1 with
  | ⟨dR, jI⟩ =>
   bif !((ln aj) == (ln dR)) then
    some false
   else
    (wl (abo fu a2 aj dR) 0).bind fun q =>
     match q with
     | .inl jP =>
      some true
     | .inr oQ =>
      some false
noncomputable def Vk (fu : Nat) (a2 : (Field → Field → Option (Bool))) (aj : List Field) (dR : List Field) : Int → Option (Int ⊕ (Int ⊕ Int))
 | i8 =>
  bif decide (i8 < (ln aj)) then
   (idx aj i8).bind fun ⟨gI, ⟨qD, qE, qF, ⟨yC, yD⟩, ⟨yE, yF⟩, DZ, D5, D6⟩⟩ =>
    (idx dR i8).bind fun ⟨iG, ⟨uD, uE, uF, ⟨Aw, Ay⟩, ⟨Az, AA⟩, Gv, Gw, Gx⟩⟩ =>
     (a2 (Field.mk gI (Value.mk qD qE qF (Sl.mk yC yD) (Sl.mk yE yF) DZ D5 D6)) (Field.mk iG (Value.mk uD uE uF (Sl.mk Aw Ay) (Sl.mk Az AA) Gv Gw Gx))).bind fun zC =>
      bif !zC then
       some (.inr (.inr i8))
      else
       some (.inl (gD (i8 + 1)))
  else
   some (.inr (.inl i8))
noncomputable def amH (fu : Nat) (a0 : Sl Field) (a1 : Sl Field) (a2 : (Field → Field → Option (Bool))) : Option (Bool) :=
 match a0 with
 | ⟨aj, bF⟩ =>
  match a1 with
  | ⟨dR, jI⟩ =>
   bif !((ln aj) == (ln dR)) then
    some false
   else
    (wl (Vk fu a2 aj dR) 0).bind fun q =>
     match q with
     | .inl jP =>
      some true
     | .inr oQ =>
      some false
noncomputable def aiO (fu : Nat) (Jz : Field → Field → Option (Bool)) (p60 : Value → Value → Option (Bool)) (p84 : (Sl Field) → (Sl Field) → Option (Bool)) (a0 : Field) (a1 : Field) : Option (Bool) :=
 match a0 with
 | ⟨bn, ⟨bK, aL, bL, ⟨qG, qH⟩, ⟨qI, qJ⟩, yG, yH, yI⟩⟩ =>
  match a1 with
  | ⟨gX, ⟨jv, jw, jy, ⟨Gy, Gz⟩, ⟨GA, GD⟩, Qb, Qc, Qd⟩⟩ =>
   (
    bif seq bn gX then
     (p60 (Value.mk bK aL bL (Sl.mk qG qH) (Sl.mk qI qJ) yG yH yI) (Value.mk jv jw jy (Sl.mk Gy Gz) (Sl.mk GA GD) Qb Qc Qd)).bind fun r2 =>
      some r2
    else
     some false
   ).bind fun (q : Bool) =>
    match q with
    | i4 =>
     some i4
noncomputable def amI (fu : Nat) (Jz : Field → Field → Option (Bool)) (p60 : Value → Value → Option (Bool)) (p84 : (Sl Field) → (Sl Field) → Option (Bool)) (a0 : Value) (a1 : Value) : Option (Bool) :=
 match a0 with
 | ⟨bn, gG, kr, ⟨aZ, bf⟩, ⟨aF, aJ⟩, dM, dI, dN⟩ =>
  match a1 with
  | ⟨gX, xw, GH, ⟨iA, iB⟩, ⟨gJ, gK⟩, nE, fT, nG⟩ =>
   (
    bif bn == gX then
     bif gG == xw then
      bif seq kr GH then
       bif dM == nE then
        bif seq dI fT then
         bif dN == nG then
          (P83 fu (Sl.mk aZ bf) (Sl.mk iA iB) p60).bind fun r7 =>
           bif r7 then
            (p84 (Sl.mk aF aJ) (Sl.mk gJ gK)).bind fun Xn =>
             some Xn
           else
            some false
         else
          some false
        else
         some false
       else
        some false
      else
       some false
     else
      some false
    else
     some false
   ).bind fun (q : Bool) =>
    match q with
    | i12 =>
     some i12
noncomputable def amJ (fu : Nat) (Jz : Field → Field → Option (Bool)) (p60 : Value → Value → Option (Bool)) (p84 : (Sl Field) → (Sl Field) → Option (Bool)) (a0 : Sl Field) (a1 : Sl Field) : Option (Bool) :=
 match a0 with
 | ⟨aj, bF⟩ =>
  match a1 with
  | ⟨dR, jI⟩ =>
   (amH fu (Sl.mk aj bF) (Sl.mk dR jI) Jz).bind fun r1 =>
    some r1
mutual
noncomputable def aiP : Nat → Field → Field → Option (Bool)
 | 0 => fun _ _ => none
 | fu + 1 => fun a0 a1 => aiO fu (aiP fu) (P60 fu) (P84 fu) a0 a1
noncomputable def P60 : Nat → Value → Value → Option (Bool)
 | 0 => fun _ _ => none
 | fu + 1 => fun a0 a1 => amI fu (aiP fu) (P60 fu) (P84 fu) a0 a1
noncomputable def P84 : Nat → (Sl Field) → (Sl Field) → Option (Bool)
 | 0 => fun _ _ => none
 | fu + 1 => fun a0 a1 => amJ fu (aiP fu) (P60 fu) (P84 fu) a0 a1
end
noncomputable def P36 (fu : Nat) (a0 : Inst) : Option (Bool) :=
 match a0 with
 | ⟨bn, ⟨bK, aL, bL, ⟨aT, aU, aV, ⟨av, ay⟩, ⟨aA, aB⟩, aW, aX, aY⟩⟩, ⟨bU, cO⟩, ⟨aZ, bf⟩, ⟨aF, aJ⟩, dM, dI, dN, ⟨bX, bY, bZ, ⟨aP, aQ⟩, ⟨aR, aS⟩, cu, cB, cK⟩, dD, dY, ⟨bB, bH⟩, eB, eD⟩ =>
  (
   bif aL == 8 then
    some dY
   else
    some false
  ).bind fun (q : Bool) =>
   match q with
   | i2 =>
    some i2
noncomputable def P26 (fu : Nat) (a0 : Inst) : Option (Bool) :=
 match a0 with
 | ⟨bn, ⟨bK, aL, bL, ⟨aT, aU, aV, ⟨av, ay⟩, ⟨aA, aB⟩, aW, aX, aY⟩⟩, ⟨bU, cO⟩, ⟨aZ, bf⟩, ⟨aF, aJ⟩, dM, dI, dN, ⟨bX, bY, bZ, ⟨aP, aQ⟩, ⟨aR, aS⟩, cu, cB, cK⟩, dD, dY, ⟨bB, bH⟩, eB, eD⟩ =>
  (
   bif decide (0 < bn) then
    some (decide (1 ≤ aL))
   else
    some false
  ).bind fun (q : Bool) =>
   match q with
   | i2 =>
    (
     bif i2 then
      some (decide (aL ≤ 9))
     else
      some false
    ).bind fun (q : Bool) =>
     match q with
     | i4 =>
      (
       bif i4 then
        some (decide (0 ≤ dM))
       else
        some false
      ).bind fun (q : Bool) =>
       match q with
       | i6 =>
        (
         bif i6 then
          (P59 fu (Sl.mk aF aJ)).bind fun r8 =>
           some r8
         else
          some false
        ).bind fun (q : Bool) =>
         match q with
         | i10 =>
          (
           bif i10 then
            (P59 fu (Sl.mk bB bH)).bind fun LZ =>
             some LZ
           else
            some false
          ).bind fun (q : Bool) =>
           match q with
           | YR =>
            (
             bif YR then
              bif !((ln bU) == 0) then
               (some [2, 3]).bind fun l19 =>
                (tT fu (Sl.mk l19 (some [])) aL).bind fun r23 =>
                 some r23
              else
               some true
             else
              some false
            ).bind fun (q : Bool) =>
             match q with
             | i24 =>
              (
               bif i24 then
                bif !(dM == 0) then
                 (some [1, 9]).bind fun l27 =>
                  (tT fu (Sl.mk l27 (some [])) aL).bind fun r31 =>
                   some r31
                else
                 some true
               else
                some false
              ).bind fun (q : Bool) =>
               match q with
               | i32 =>
                (
                 bif i32 then
                  bif !dI then
                   bif !dN then
                    (P60 fu (Value.mk bX bY bZ (Sl.mk aP aQ) (Sl.mk aR aS) cu cB cK) (Value.mk 0 0 ByteArray.empty (Sl.mk [] (some [])) (Sl.mk [] (some [])) 0 ByteArray.empty false)).bind fun r36 =>
                     bif !r36 then
                      (tT fu (Sl.mk [7] (some [])) aL).bind fun r40 =>
                       some r40
                     else
                      some true
                   else
                    (tT fu (Sl.mk [7] (some [])) aL).bind fun r42 =>
                     some r42
                  else
                   (tT fu (Sl.mk [7] (some [])) aL).bind fun r44 =>
                    some r44
                 else
                  some false
                ).bind fun (q : Bool) =>
                 match q with
                 | i45 =>
                  (
                   bif i45 then
                    bif seq dD ByteArray.empty then
                     bif !(!dY) then
                      (tT fu (Sl.mk [8] (some [])) aL).bind fun r50 =>
                       some r50
                     else
                      some true
                    else
                     (tT fu (Sl.mk [8] (some [])) aL).bind fun r52 =>
                      some r52
                   else
                    some false
                  ).bind fun (q : Bool) =>
                   match q with
                   | i53 =>
                    (
                     bif i53 then
                      bif !((ln bB) == 0) then
                       (P36 fu (Inst.mk bn (Child.mk bK aL bL (Value.mk aT aU aV (Sl.mk av ay) (Sl.mk aA aB) aW aX aY)) (Sl.mk bU cO) (Sl.mk aZ bf) (Sl.mk aF aJ) dM dI dN (Value.mk bX bY bZ (Sl.mk aP aQ) (Sl.mk aR aS) cu cB cK) dD dY (Sl.mk bB bH) eB eD)).bind fun r58 =>
                        some r58
                      else
                       some true
                     else
                      some false
                    ).bind fun (q : Bool) =>
                     match q with
                     | i60 =>
                      (
                       bif i60 then
                        bif !((ln aF) == 0) then
                         (tT fu (Sl.mk [9] (some [])) aL).bind fun r66 =>
                          some (!r66)
                        else
                         some true
                       else
                        some false
                      ).bind fun (q : Bool) =>
                       match q with
                       | i67 =>
                        some i67
noncomputable def AB (fu : Nat) (rY : Inst → Int → (List (Int × Bool)) → Option (Bool × (List (Int × Bool)))) (qg : Inst → Int → (List (Int × Bool)) → Option (Bool × (List (Int × Bool)))) (qU : (Sl Inst) → Int → (List (Int × Bool)) → Option (Bool × (List (Int × Bool)))) (rZ : (Sl Inst) → Int → (List (Int × Bool)) → Option (Int × (List (Int × Bool)))) (a0 : Inst) (a1 : Int) (b1 : List (Int × Bool)) : Option (Bool × (List (Int × Bool))) :=
 match a0 with
 | ⟨bn, ⟨bK, aL, bL, ⟨aT, aU, aV, ⟨av, ay⟩, ⟨aA, aB⟩, aW, aX, aY⟩⟩, ⟨bU, cO⟩, ⟨aZ, bf⟩, ⟨aF, aJ⟩, dM, dI, dN, ⟨bX, bY, bZ, ⟨aP, aQ⟩, ⟨aR, aS⟩, cu, cB, cK⟩, dD, dY, ⟨bB, bH⟩, eB, eD⟩ =>
  (
   bif !(decide (256 < a1)) then
    (
    match Dx b1 bn with
    | none =>
     (P26 fu (Inst.mk bn (Child.mk bK aL bL (Value.mk aT aU aV (Sl.mk av ay) (Sl.mk aA aB) aW aX aY)) (Sl.mk bU cO) (Sl.mk aZ bf) (Sl.mk aF aJ) dM dI dN (Value.mk bX bY bZ (Sl.mk aP aQ) (Sl.mk aR aS) cu cB cK) dD dY (Sl.mk bB bH) eB eD)).bind fun r4 =>
      some (!r4)
    | some x2 =>
     bif !x2 then
      (P26 fu (Inst.mk bn (Child.mk bK aL bL (Value.mk aT aU aV (Sl.mk av ay) (Sl.mk aA aB) aW aX aY)) (Sl.mk bU cO) (Sl.mk aZ bf) (Sl.mk aF aJ) dM dI dN (Value.mk bX bY bZ (Sl.mk aP aQ) (Sl.mk aR aS) cu cB cK) dD dY (Sl.mk bB bH) eB eD)).bind fun r7 =>
       some (!r7)
     else
      some true
    )
   else
    some true
  ).bind fun (q : Bool) =>
   match q with
   | i9 =>
    bif i9 then
     some (false, b1)
    else
     (
      (qU (Sl.mk aF aJ) a1 (Jd b1 bn true)).bind fun ⟨zC, amK⟩ =>
       bif !zC then
        (qU (Sl.mk bB bH) a1 amK).bind fun ⟨YL, awn⟩ =>
         some (awn, !YL)
       else
        some (amK, false)
     ).bind fun (q : (List (Int × Bool)) × Bool) =>
      match q with
      | (g20, i21) =>
       some (i21, g20)
noncomputable def Vl (fu : Nat) (rY : Inst → Int → (List (Int × Bool)) → Option (Bool × (List (Int × Bool)))) (qg : Inst → Int → (List (Int × Bool)) → Option (Bool × (List (Int × Bool)))) (qU : (Sl Inst) → Int → (List (Int × Bool)) → Option (Bool × (List (Int × Bool)))) (rZ : (Sl Inst) → Int → (List (Int × Bool)) → Option (Int × (List (Int × Bool)))) (a0 : Inst) (a2 : Int) (b2 : List (Int × Bool)) : Option (Bool × (List (Int × Bool))) :=
 match a0 with
 | ⟨bn, ⟨bK, aL, bL, ⟨aT, aU, aV, ⟨av, ay⟩, ⟨aA, aB⟩, aW, aX, aY⟩⟩, ⟨bU, cO⟩, ⟨aZ, bf⟩, ⟨aF, aJ⟩, dM, dI, dN, ⟨bX, bY, bZ, ⟨aP, aQ⟩, ⟨aR, aS⟩, cu, cB, cK⟩, dD, dY, ⟨bB, bH⟩, eB, eD⟩ =>
  (rY (Inst.mk bn (Child.mk bK aL bL (Value.mk aT aU aV (Sl.mk av ay) (Sl.mk aA aB) aW aX aY)) (Sl.mk bU cO) (Sl.mk aZ bf) (Sl.mk aF aJ) dM dI dN (Value.mk bX bY bZ (Sl.mk aP aQ) (Sl.mk aR aS) cu cB cK) dD dY (Sl.mk bB bH) eB eD) (gD (a2 + 1)) b2).bind fun ⟨r2, wr3⟩ =>
   some (!r2, wr3)
noncomputable def Vm (fu : Nat) (rY : Inst → Int → (List (Int × Bool)) → Option (Bool × (List (Int × Bool)))) (qg : Inst → Int → (List (Int × Bool)) → Option (Bool × (List (Int × Bool)))) (qU : (Sl Inst) → Int → (List (Int × Bool)) → Option (Bool × (List (Int × Bool)))) (rZ : (Sl Inst) → Int → (List (Int × Bool)) → Option (Int × (List (Int × Bool)))) (a0 : Sl Inst) (d0 : Int) (b2 : List (Int × Bool)) : Option (Bool × (List (Int × Bool))) :=
 match a0 with
 | ⟨aj, bF⟩ =>
  (rZ (Sl.mk aj bF) d0 b2).bind fun ⟨r2, wr3⟩ =>
   some (decide (0 ≤ r2), wr3)
noncomputable def zG (fu : Nat) (qg : Inst → Int → (List (Int × Bool)) → Option (Bool × (List (Int × Bool)))) (d0 : Int) (aj : List Inst) : ((List (Int × Bool)) × Int × Int) → Option (((List (Int × Bool)) × Int × Int) ⊕ (((List (Int × Bool)) × Int × Int) ⊕ ((List (Int × Bool)) × Int × Int)))
 | (g3, i4, i5) =>
  bif decide (i5 < (ln aj)) then
   (idx aj i5).bind fun ⟨awo, ⟨apl, apm, apn, ⟨aiQ, aiR, aiS, ⟨adW, adX⟩, ⟨adY, adZ⟩, aiT, aiU, aiV⟩⟩, ⟨apo, apq⟩, ⟨apr, aps⟩, ⟨apt, apu⟩, awp, awq, awr, ⟨apv, apw, apx, ⟨aiW, aiX⟩, ⟨aiY, aiZ⟩, apy, apz, apA⟩, awt, awu, ⟨apB, apC⟩, awv, aww⟩ =>
    (qg (Inst.mk awo (Child.mk apl apm apn (Value.mk aiQ aiR aiS (Sl.mk adW adX) (Sl.mk adY adZ) aiT aiU aiV)) (Sl.mk apo apq) (Sl.mk apr aps) (Sl.mk apt apu) awp awq awr (Value.mk apv apw apx (Sl.mk aiW aiX) (Sl.mk aiY aiZ) apy apz apA) awt awu (Sl.mk apB apC) awv aww) d0 g3).bind fun ⟨Xn, asP⟩ =>
     bif Xn then
      some (.inr (.inr (asP, i5, i5)))
     else
      some (.inl (asP, i4, gD (i5 + 1)))
  else
   some (.inr (.inl (g3, i4, i5)))
noncomputable def Vn (fu : Nat) (rY : Inst → Int → (List (Int × Bool)) → Option (Bool × (List (Int × Bool)))) (qg : Inst → Int → (List (Int × Bool)) → Option (Bool × (List (Int × Bool)))) (qU : (Sl Inst) → Int → (List (Int × Bool)) → Option (Bool × (List (Int × Bool)))) (rZ : (Sl Inst) → Int → (List (Int × Bool)) → Option (Int × (List (Int × Bool)))) (a0 : Sl Inst) (d0 : Int) (b2 : List (Int × Bool)) : Option (Int × (List (Int × Bool))) :=
 match a0 with
 | ⟨aj, bF⟩ =>
  (wl (zG fu qg d0 aj) (b2, 0, 0)).bind fun q =>
   match q with
   | .inl (Vf, o15, o16) =>
    some ((-1), Vf)
   | .inr (CO, jP, oQ) =>
    some (jP, CO)
mutual
noncomputable def JA : Nat → Inst → Int → (List (Int × Bool)) → Option (Bool × (List (Int × Bool)))
 | 0 => fun _ _ _ => none
 | fu + 1 => fun a0 a1 a2 => AB fu (JA fu) (Qe fu) (JB fu) (TB fu) a0 a1 a2
noncomputable def Qe : Nat → Inst → Int → (List (Int × Bool)) → Option (Bool × (List (Int × Bool)))
 | 0 => fun _ _ _ => none
 | fu + 1 => fun a0 a1 a2 => Vl fu (JA fu) (Qe fu) (JB fu) (TB fu) a0 a1 a2
noncomputable def JB : Nat → (Sl Inst) → Int → (List (Int × Bool)) → Option (Bool × (List (Int × Bool)))
 | 0 => fun _ _ _ => none
 | fu + 1 => fun a0 a1 a2 => Vm fu (JA fu) (Qe fu) (JB fu) (TB fu) a0 a1 a2
noncomputable def TB : Nat → (Sl Inst) → Int → (List (Int × Bool)) → Option (Int × (List (Int × Bool)))
 | 0 => fun _ _ _ => none
 | fu + 1 => fun a0 a1 a2 => Vn fu (JA fu) (Qe fu) (JB fu) (TB fu) a0 a1 a2
end
noncomputable def P9 (fu : Nat) (a0 : Inst) : Option (Bool) :=
 match a0 with
 | ⟨bn, ⟨bK, aL, bL, ⟨aT, aU, aV, ⟨av, ay⟩, ⟨aA, aB⟩, aW, aX, aY⟩⟩, ⟨bU, cO⟩, ⟨aZ, bf⟩, ⟨aF, aJ⟩, dM, dI, dN, ⟨bX, bY, bZ, ⟨aP, aQ⟩, ⟨aR, aS⟩, cu, cB, cK⟩, dD, dY, ⟨bB, bH⟩, eB, eD⟩ =>
  (JA fu (Inst.mk bn (Child.mk bK aL bL (Value.mk aT aU aV (Sl.mk av ay) (Sl.mk aA aB) aW aX aY)) (Sl.mk bU cO) (Sl.mk aZ bf) (Sl.mk aF aJ) dM dI dN (Value.mk bX bY bZ (Sl.mk aP aQ) (Sl.mk aR aS) cu cB cK) dD dY (Sl.mk bB bH) eB eD) 1 ([] : List (Int × Bool))).bind fun ⟨r4, wr5⟩ =>
   some r4
noncomputable def amL (fu : Nat) (a0 : Sl Value) : Option ((List Value)) :=
 match a0 with
 | ⟨aj, bF⟩ =>
  bif ln aj == 0 then
   agree (
    some ([] : List Value)
   ) (
    (
     bif ln aj == 0 then
      some ([] : List Value)
     else
      bif room 112 (ln (([] : List Value) ++ aj)) then
       some (([] : List Value) ++ aj)
      else none
    ).bind fun (q : (List Value)) =>
     match q with
     | oh =>
      some oh
   )
  else
   (
    bif ln aj == 0 then
     some ([] : List Value)
    else
     bif room 112 (ln (([] : List Value) ++ aj)) then
      some (([] : List Value) ++ aj)
     else none
   ).bind fun (q : (List Value)) =>
    match q with
    | pI =>
     some pI
noncomputable def MP (fu : Nat) (a1 : (Value → Option (Value))) (r2 : List Value) : ((List Value) × Int) → Option (((List Value) × Int) ⊕ (((List Value) × Int)))
 | (l5, i6) =>
  bif decide (i6 < (ln r2)) then
   (idx l5 i6).bind fun ⟨uz, JC, Y1, ⟨zD, zF⟩, ⟨uJ, uK⟩, Si, K6, Sj⟩ =>
    (a1 (Value.mk uz JC Y1 (Sl.mk zD zF) (Sl.mk uJ uK) Si K6 Sj)).bind fun ⟨mE, qV, Eb, ⟨xA, xB⟩, ⟨pJ, pK⟩, Qf, Ec, Qg⟩ =>
     (idx l5 i6).bind fun ⟨iG, mD, tV, ⟨nV, nW⟩, ⟨kH, kI⟩, Cw, tX, Cx⟩ =>
      some (.inl ((List.set l5 (Int.toNat i6) (Value.mk mE qV Eb (Sl.mk xA xB) (Sl.mk pJ pK) Qf Ec Qg)), gD (i6 + 1)))
  else
   some (.inr (l5, i6))
noncomputable def amM (fu : Nat) (a0 : Sl Value) (a1 : (Value → Option (Value))) : Option ((Sl Value)) :=
 match a0 with
 | ⟨aj, bF⟩ =>
  (amL fu (Sl.mk aj bF)).bind fun r2 =>
   (wl (MP fu a1 r2) (r2, 0)).bind fun q =>
    match q with
    | (jP, oQ) =>
     some (Sl.mk jP none)
noncomputable def amN (fu : Nat) (a0 : Sl Field) : Option ((List Field)) :=
 match a0 with
 | ⟨aj, bF⟩ =>
  bif ln aj == 0 then
   agree (
    some ([] : List Field)
   ) (
    (
     bif ln aj == 0 then
      some ([] : List Field)
     else
      bif room 128 (ln (([] : List Field) ++ aj)) then
       some (([] : List Field) ++ aj)
      else none
    ).bind fun (q : (List Field)) =>
     match q with
     | oh =>
      some oh
   )
  else
   (
    bif ln aj == 0 then
     some ([] : List Field)
    else
     bif room 128 (ln (([] : List Field) ++ aj)) then
      some (([] : List Field) ++ aj)
     else none
   ).bind fun (q : (List Field)) =>
    match q with
    | pI =>
     some pI
noncomputable def MQ (fu : Nat) (a1 : (Field → Option (Field))) (r2 : List Field) : ((List Field) × Int) → Option (((List Field) × Int) ⊕ (((List Field) × Int)))
 | (l5, i6) =>
  bif decide (i6 < (ln r2)) then
   (idx l5 i6).bind fun ⟨uz, ⟨Cv, FL, FM, ⟨ai0, ai1⟩, ⟨ai2, ai3⟩, apD, apE, apF⟩⟩ =>
    (a1 (Field.mk uz (Value.mk Cv FL FM (Sl.mk ai0 ai1) (Sl.mk ai2 ai3) apD apE apF))).bind fun ⟨mE, ⟨GI, GJ, GK, ⟨Vo, Vp⟩, ⟨Vq, Vr⟩, abp, abq, abr⟩⟩ =>
     (idx l5 i6).bind fun ⟨iG, ⟨uD, uE, uF, ⟨Aw, Ay⟩, ⟨Az, AA⟩, Gv, Gw, Gx⟩⟩ =>
      some (.inl ((List.set l5 (Int.toNat i6) (Field.mk mE (Value.mk GI GJ GK (Sl.mk Vo Vp) (Sl.mk Vq Vr) abp abq abr))), gD (i6 + 1)))
  else
   some (.inr (l5, i6))
noncomputable def amO (fu : Nat) (a0 : Sl Field) (a1 : (Field → Option (Field))) : Option ((Sl Field)) :=
 match a0 with
 | ⟨aj, bF⟩ =>
  (amN fu (Sl.mk aj bF)).bind fun r2 =>
   (wl (MQ fu a1 r2) (r2, 0)).bind fun q =>
    match q with
    | (jP, oQ) =>
     some (Sl.mk jP none)
noncomputable def ad1 (fu : Nat) (CB : Field → Option (Field)) (p65 : Value → Option (Value)) (Xo : (Sl Value) → Option ((Sl Value))) (Xp : (Sl Field) → Option ((Sl Field))) (a0 : Field) : Option (Field) :=
 match a0 with
 | ⟨bn, ⟨bK, aL, bL, ⟨qG, qH⟩, ⟨qI, qJ⟩, yG, yH, yI⟩⟩ =>
  (p65 (Value.mk bK aL bL (Sl.mk qG qH) (Sl.mk qI qJ) yG yH yI)).bind fun ⟨zH, JD, JE, ⟨tY, tZ⟩, ⟨uf, ug⟩, JF, Ed, JG⟩ =>
   some (Field.mk bn (Value.mk zH JD JE (Sl.mk tY tZ) (Sl.mk uf ug) JF Ed JG))
noncomputable def amP (fu : Nat) (CB : Field → Option (Field)) (p65 : Value → Option (Value)) (Xo : (Sl Value) → Option ((Sl Value))) (Xp : (Sl Field) → Option ((Sl Field))) (a0 : Value) : Option (Value) :=
 match a0 with
 | ⟨bn, gG, kr, ⟨aZ, bf⟩, ⟨aF, aJ⟩, dM, dI, dN⟩ =>
  (Xo (Sl.mk aZ bf)).bind fun ⟨uh, uj⟩ =>
   (Xp (Sl.mk aF aJ)).bind fun ⟨JH, JI⟩ =>
    some (Value.mk bn gG kr (Sl.mk uh uj) (Sl.mk JH JI) dM dI dN)
noncomputable def amQ (fu : Nat) (CB : Field → Option (Field)) (p65 : Value → Option (Value)) (Xo : (Sl Value) → Option ((Sl Value))) (Xp : (Sl Field) → Option ((Sl Field))) (a0 : Sl Value) : Option ((Sl Value)) :=
 match a0 with
 | ⟨aj, bF⟩ =>
  (amM fu (Sl.mk aj bF) p65).bind fun ⟨uh, uj⟩ =>
   some (Sl.mk uh uj)
noncomputable def amR (fu : Nat) (CB : Field → Option (Field)) (p65 : Value → Option (Value)) (Xo : (Sl Value) → Option ((Sl Value))) (Xp : (Sl Field) → Option ((Sl Field))) (a0 : Sl Field) : Option ((Sl Field)) :=
 match a0 with
 | ⟨aj, bF⟩ =>
  (amO fu (Sl.mk aj bF) CB).bind fun ⟨uh, uj⟩ =>
   some (Sl.mk uh uj)
mutual
noncomputable def Y2 : Nat → Field → Option (Field)
 | 0 => fun _ => none
 | fu + 1 => fun a0 => ad1 fu (Y2 fu) (Xq fu) (P88 fu) (P89 fu) a0
noncomputable def Xq : Nat → Value → Option (Value)
 | 0 => fun _ => none
 | fu + 1 => fun a0 => amP fu (Y2 fu) (Xq fu) (P88 fu) (P89 fu) a0
noncomputable def P88 : Nat → (Sl Value) → Option ((Sl Value))
 | 0 => fun _ => none
 | fu + 1 => fun a0 => amQ fu (Y2 fu) (Xq fu) (P88 fu) (P89 fu) a0
noncomputable def P89 : Nat → (Sl Field) → Option ((Sl Field))
 | 0 => fun _ => none
 | fu + 1 => fun a0 => amR fu (Y2 fu) (Xq fu) (P88 fu) (P89 fu) a0
end
noncomputable def P62 (fu : Nat) (a0 : Child) : Option (Child) :=
 match a0 with
 | ⟨bn, gG, kr, ⟨lG, lH, lJ, ⟨jd, je⟩, ⟨jf, jh⟩, lK, lM, lQ⟩⟩ =>
  (Xq fu (Value.mk lG lH lJ (Sl.mk jd je) (Sl.mk jf jh) lK lM lQ)).bind fun ⟨zH, JD, JE, ⟨tY, tZ⟩, ⟨uf, ug⟩, JF, Ed, JG⟩ =>
   some (Child.mk bn gG kr (Value.mk zH JD JE (Sl.mk tY tZ) (Sl.mk uf ug) JF Ed JG))
noncomputable def P94 (fu : Nat) (a0 : Sl Cell) : Option ((List Cell)) :=
 match a0 with
 | ⟨aj, bF⟩ =>
  bif ln aj == 0 then
   agree (
    some ([] : List Cell)
   ) (
    (
     bif ln aj == 0 then
      some ([] : List Cell)
     else
      bif room 400 (ln (([] : List Cell) ++ aj)) then
       some (([] : List Cell) ++ aj)
      else none
    ).bind fun (q : (List Cell)) =>
     match q with
     | oh =>
      some oh
   )
  else
   (
    bif ln aj == 0 then
     some ([] : List Cell)
    else
     bif room 400 (ln (([] : List Cell) ++ aj)) then
      some (([] : List Cell) ++ aj)
     else none
   ).bind fun (q : (List Cell)) =>
    match q with
    | pI =>
     some pI
noncomputable def Vs (fu : Nat) (a1 : (Cell → Option (Cell))) (r2 : List Cell) : ((List Cell) × Int) → Option (((List Cell) × Int) ⊕ (((List Cell) × Int)))
 | (l5, i6) =>
  bif decide (i6 < (ln r2)) then
   (idx l5 i6).bind fun ⟨uz, JC, ⟨Y3, Y4, Y5, ⟨Qh, Qi⟩, ⟨Qj, Qk⟩, apG, Y6, apH⟩, ⟨Y7, Y8, Y9, ⟨Ql, Qm⟩, ⟨Qn, Qo⟩, Za, Zb, Zc⟩, ⟨uJ, uK⟩, ⟨Zd, Ze⟩, ⟨apI, apJ⟩, ⟨Zf, Zg⟩, awx, K7, ⟨apK, apL⟩, ⟨FN, FP⟩⟩ =>
    (a1 (Cell.mk uz JC (Value.mk Y3 Y4 Y5 (Sl.mk Qh Qi) (Sl.mk Qj Qk) apG Y6 apH) (Value.mk Y7 Y8 Y9 (Sl.mk Ql Qm) (Sl.mk Qn Qo) Za Zb Zc) (Sl.mk uJ uK) (Sl.mk Zd Ze) (Sl.mk apI apJ) (Sl.mk Zf Zg) awx K7 (Sl.mk apK apL) (Sl.mk FN FP))).bind fun ⟨mE, qV, ⟨GL, GN, GQ, ⟨AJ, AL⟩, ⟨AO, AP⟩, abt, GR, abu⟩, ⟨GU, GV, GX, ⟨AQ, AU⟩, ⟨AV, AX⟩, GY, GZ, G5⟩, ⟨pJ, pK⟩, ⟨G6, G7⟩, ⟨abv, abw⟩, ⟨G8, G9⟩, ai4, Ee, ⟨abx, aby⟩, ⟨He, Hf⟩⟩ =>
     (idx l5 i6).bind fun ⟨iG, mD, ⟨AY, AZ, A8, ⟨uR, uS⟩, ⟨uT, uU⟩, Vt, A9, Vu⟩, ⟨Ba, Bb, Bc, ⟨uV, uW⟩, ⟨uX, uY⟩, Bd, Bf, Bg⟩, ⟨kH, kI⟩, ⟨Bh, Bj⟩, ⟨Vv, Vw⟩, ⟨Bl, Bn⟩, ad2, yJ, ⟨Vx, Vy⟩, ⟨Bo, Bp⟩⟩ =>
      some (.inl ((List.set l5 (Int.toNat i6) (Cell.mk mE qV (Value.mk GL GN GQ (Sl.mk AJ AL) (Sl.mk AO AP) abt GR abu) (Value.mk GU GV GX (Sl.mk AQ AU) (Sl.mk AV AX) GY GZ G5) (Sl.mk pJ pK) (Sl.mk G6 G7) (Sl.mk abv abw) (Sl.mk G8 G9) ai4 Ee (Sl.mk abx aby) (Sl.mk He Hf))), gD (i6 + 1)))
  else
   some (.inr (l5, i6))
noncomputable def P85 (fu : Nat) (a0 : Sl Cell) (a1 : (Cell → Option (Cell))) : Option ((Sl Cell)) :=
 match a0 with
 | ⟨aj, bF⟩ =>
  (P94 fu (Sl.mk aj bF)).bind fun r2 =>
   (wl (Vs fu a1 r2) (r2, 0)).bind fun q =>
    match q with
    | (jP, oQ) =>
     some (Sl.mk jP none)
noncomputable def amS (fu : Nat) (a0 : Sl Act) : Option ((List Act)) :=
 match a0 with
 | ⟨aj, bF⟩ =>
  bif ln aj == 0 then
   agree (
    some ([] : List Act)
   ) (
    (
     bif ln aj == 0 then
      some ([] : List Act)
     else
      bif room 200 (ln (([] : List Act) ++ aj)) then
       some (([] : List Act) ++ aj)
      else none
    ).bind fun (q : (List Act)) =>
     match q with
     | oh =>
      some oh
   )
  else
   (
    bif ln aj == 0 then
     some ([] : List Act)
    else
     bif room 200 (ln (([] : List Act) ++ aj)) then
      some (([] : List Act) ++ aj)
     else none
   ).bind fun (q : (List Act)) =>
    match q with
    | pI =>
     some pI
noncomputable def MR (fu : Nat) (a1 : (Act → Option (Act))) (r2 : List Act) : ((List Act) × Int) → Option (((List Act) × Int) ⊕ (((List Act) × Int)))
 | (l5, i6) =>
  bif decide (i6 < (ln r2)) then
   (idx l5 i6).bind fun ⟨uz, JC, ⟨Y3, Y4, Y5, ⟨Qh, Qi⟩, ⟨Qj, Qk⟩, ⟨ai5, ai6⟩, Y6, ⟨ai7, ai8⟩, ⟨ai9, aja⟩, apM⟩⟩ =>
    (a1 (Act.mk uz JC (Expr.mk Y3 Y4 Y5 (Sl.mk Qh Qi) (Sl.mk Qj Qk) (Sl.mk ai5 ai6) Y6 (Sl.mk ai7 ai8) (Sl.mk ai9 aja) apM))).bind fun ⟨mE, qV, ⟨GL, GN, GQ, ⟨AJ, AL⟩, ⟨AO, AP⟩, ⟨Vz, VA⟩, GR, ⟨VB, VD⟩, ⟨VE, VF⟩, abz⟩⟩ =>
     (idx l5 i6).bind fun ⟨iG, mD, ⟨AY, AZ, A8, ⟨uR, uS⟩, ⟨uT, uU⟩, ⟨MS, MU⟩, A9, ⟨MV, MW⟩, ⟨MX, MZ⟩, VG⟩⟩ =>
      some (.inl ((List.set l5 (Int.toNat i6) (Act.mk mE qV (Expr.mk GL GN GQ (Sl.mk AJ AL) (Sl.mk AO AP) (Sl.mk Vz VA) GR (Sl.mk VB VD) (Sl.mk VE VF) abz))), gD (i6 + 1)))
  else
   some (.inr (l5, i6))
noncomputable def amT (fu : Nat) (a0 : Sl Act) (a1 : (Act → Option (Act))) : Option ((Sl Act)) :=
 match a0 with
 | ⟨aj, bF⟩ =>
  (amS fu (Sl.mk aj bF)).bind fun r2 =>
   (wl (MR fu a1 r2) (r2, 0)).bind fun q =>
    match q with
    | (jP, oQ) =>
     some (Sl.mk jP none)
noncomputable def amU (fu : Nat) (a0 : Sl Expr) : Option ((List Expr)) :=
 match a0 with
 | ⟨aj, bF⟩ =>
  bif ln aj == 0 then
   agree (
    some ([] : List Expr)
   ) (
    (
     bif ln aj == 0 then
      some ([] : List Expr)
     else
      bif room 176 (ln (([] : List Expr) ++ aj)) then
       some (([] : List Expr) ++ aj)
      else none
    ).bind fun (q : (List Expr)) =>
     match q with
     | oh =>
      some oh
   )
  else
   (
    bif ln aj == 0 then
     some ([] : List Expr)
    else
     bif room 176 (ln (([] : List Expr) ++ aj)) then
      some (([] : List Expr) ++ aj)
     else none
   ).bind fun (q : (List Expr)) =>
    match q with
    | pI =>
     some pI
noncomputable def M0 (fu : Nat) (a1 : (Expr → Option (Expr))) (r2 : List Expr) : ((List Expr) × Int) → Option (((List Expr) × Int) ⊕ (((List Expr) × Int)))
 | (l5, i6) =>
  bif decide (i6 < (ln r2)) then
   (idx l5 i6).bind fun ⟨uz, JC, Y1, ⟨zD, zF⟩, ⟨uJ, uK⟩, ⟨Zd, Ze⟩, K6, ⟨Zf, Zg⟩, ⟨apN, apO⟩, K7⟩ =>
    (a1 (Expr.mk uz JC Y1 (Sl.mk zD zF) (Sl.mk uJ uK) (Sl.mk Zd Ze) K6 (Sl.mk Zf Zg) (Sl.mk apN apO) K7)).bind fun ⟨mE, qV, Eb, ⟨xA, xB⟩, ⟨pJ, pK⟩, ⟨G6, G7⟩, Ec, ⟨G8, G9⟩, ⟨abA, abB⟩, Ee⟩ =>
     (idx l5 i6).bind fun ⟨iG, mD, tV, ⟨nV, nW⟩, ⟨kH, kI⟩, ⟨Bh, Bj⟩, tX, ⟨Bl, Bn⟩, ⟨VH, VI⟩, yJ⟩ =>
      some (.inl ((List.set l5 (Int.toNat i6) (Expr.mk mE qV Eb (Sl.mk xA xB) (Sl.mk pJ pK) (Sl.mk G6 G7) Ec (Sl.mk G8 G9) (Sl.mk abA abB) Ee)), gD (i6 + 1)))
  else
   some (.inr (l5, i6))
noncomputable def amV (fu : Nat) (a0 : Sl Expr) (a1 : (Expr → Option (Expr))) : Option ((Sl Expr)) :=
 match a0 with
 | ⟨aj, bF⟩ =>
  (amU fu (Sl.mk aj bF)).bind fun r2 =>
   (wl (M0 fu a1 r2) (r2, 0)).bind fun q =>
    match q with
    | (jP, oQ) =>
     some (Sl.mk jP none)
noncomputable def amW (fu : Nat) (a0 : Sl ByteArray) : Option ((List ByteArray)) :=
 match a0 with
 | ⟨aj, bF⟩ =>
  bif ln aj == 0 then
   agree (
    some ([] : List ByteArray)
   ) (
    (
     bif ln aj == 0 then
      some ([] : List ByteArray)
     else
      bif room 16 (ln (([] : List ByteArray) ++ aj)) then
       some (([] : List ByteArray) ++ aj)
      else none
    ).bind fun (q : (List ByteArray)) =>
     match q with
     | oh =>
      some oh
   )
  else
   (
    bif ln aj == 0 then
     some ([] : List ByteArray)
    else
     bif room 16 (ln (([] : List ByteArray) ++ aj)) then
      some (([] : List ByteArray) ++ aj)
     else none
   ).bind fun (q : (List ByteArray)) =>
    match q with
    | pI =>
     some pI
noncomputable def ad3 (fu : Nat) (CG : (Sl Act) → Option ((Sl Act))) (CJ : Act → Option (Act)) (Bq : Expr → Option (Expr)) (zI : (Sl Expr) → Option ((Sl Expr))) (a0 : Sl Act) : Option ((Sl Act)) :=
 match a0 with
 | ⟨aj, bF⟩ =>
  (amT fu (Sl.mk aj bF) CJ).bind fun ⟨uh, uj⟩ =>
   some (Sl.mk uh uj)
noncomputable def ad4 (fu : Nat) (CG : (Sl Act) → Option ((Sl Act))) (CJ : Act → Option (Act)) (Bq : Expr → Option (Expr)) (zI : (Sl Expr) → Option ((Sl Expr))) (a0 : Act) : Option (Act) :=
 match a0 with
 | ⟨bn, gG, ⟨lT, lU, lV, ⟨ji, jk⟩, ⟨jl, jm⟩, ⟨yX, yY⟩, lW, ⟨yZ, y5⟩, ⟨y7, y8⟩, FK⟩⟩ =>
  (Bq (Expr.mk lT lU lV (Sl.mk ji jk) (Sl.mk jl jm) (Sl.mk yX yY) lW (Sl.mk yZ y5) (Sl.mk y7 y8) FK)).bind fun ⟨zH, JD, JE, ⟨tY, tZ⟩, ⟨uf, ug⟩, ⟨apP, apQ⟩, Ed, ⟨apR, apS⟩, ⟨apT, apU⟩, Zh⟩ =>
   some (Act.mk bn gG (Expr.mk zH JD JE (Sl.mk tY tZ) (Sl.mk uf ug) (Sl.mk apP apQ) Ed (Sl.mk apR apS) (Sl.mk apT apU) Zh))
noncomputable def ad5 (fu : Nat) (CG : (Sl Act) → Option ((Sl Act))) (CJ : Act → Option (Act)) (Bq : Expr → Option (Expr)) (zI : (Sl Expr) → Option ((Sl Expr))) (a0 : Expr) : Option (Expr) :=
 match a0 with
 | ⟨bn, gG, kr, ⟨aZ, bf⟩, ⟨aF, aJ⟩, ⟨jS, jT⟩, dI, ⟨jU, jV⟩, ⟨wL, wM⟩, dD⟩ =>
  (zI (Sl.mk aZ bf)).bind fun ⟨uh, uj⟩ =>
   (zI (Sl.mk jS jT)).bind fun ⟨JH, JI⟩ =>
    (zI (Sl.mk jU jV)).bind fun ⟨Zi, Zj⟩ =>
     (amW fu (Sl.mk aF aJ)).bind fun r8 =>
      (CG (Sl.mk wL wM)).bind fun ⟨L6, L8⟩ =>
       some (Expr.mk bn gG kr (Sl.mk uh uj) (Sl.mk r8 none) (Sl.mk JH JI) dI (Sl.mk Zi Zj) (Sl.mk L6 L8) dD)
noncomputable def ad6 (fu : Nat) (CG : (Sl Act) → Option ((Sl Act))) (CJ : Act → Option (Act)) (Bq : Expr → Option (Expr)) (zI : (Sl Expr) → Option ((Sl Expr))) (a0 : Sl Expr) : Option ((Sl Expr)) :=
 match a0 with
 | ⟨aj, bF⟩ =>
  (amV fu (Sl.mk aj bF) Bq).bind fun ⟨uh, uj⟩ =>
   some (Sl.mk uh uj)
mutual
noncomputable def Mv : Nat → (Sl Act) → Option ((Sl Act))
 | 0 => fun _ => none
 | fu + 1 => fun a0 => ad3 fu (Mv fu) (abC fu) (Qp fu) (abD fu) a0
noncomputable def abC : Nat → Act → Option (Act)
 | 0 => fun _ => none
 | fu + 1 => fun a0 => ad4 fu (Mv fu) (abC fu) (Qp fu) (abD fu) a0
noncomputable def Qp : Nat → Expr → Option (Expr)
 | 0 => fun _ => none
 | fu + 1 => fun a0 => ad5 fu (Mv fu) (abC fu) (Qp fu) (abD fu) a0
noncomputable def abD : Nat → (Sl Expr) → Option ((Sl Expr))
 | 0 => fun _ => none
 | fu + 1 => fun a0 => ad6 fu (Mv fu) (abC fu) (Qp fu) (abD fu) a0
end
noncomputable def P86 (fu : Nat) (a0 : Cell) : Option (Cell) :=
 match a0 with
 | ⟨bn, gG, ⟨lT, lU, lV, ⟨ji, jk⟩, ⟨jl, jm⟩, tJ, lW, tK⟩, ⟨lG, lH, lJ, ⟨jd, je⟩, ⟨jf, jh⟩, lK, lM, lQ⟩, ⟨aF, aJ⟩, ⟨jS, jT⟩, ⟨tL, tN⟩, ⟨jU, jV⟩, Fv, dD, ⟨tO, tQ⟩, ⟨bB, bH⟩⟩ =>
  (Xq fu (Value.mk lT lU lV (Sl.mk ji jk) (Sl.mk jl jm) tJ lW tK)).bind fun ⟨zH, JD, JE, ⟨tY, tZ⟩, ⟨uf, ug⟩, JF, Ed, JG⟩ =>
   (Xq fu (Value.mk lG lH lJ (Sl.mk jd je) (Sl.mk jf jh) lK lM lQ)).bind fun ⟨awy, awz, awC, ⟨apV, apW⟩, ⟨apX, apY⟩, awD, awE, awF⟩ =>
    (P88 fu (Sl.mk aF aJ)).bind fun ⟨Zi, Zj⟩ =>
     (Mv fu (Sl.mk jS jT)).bind fun ⟨awG, awH⟩ =>
      (Mv fu (Sl.mk tL tN)).bind fun ⟨Zk, Zl⟩ =>
       (Mv fu (Sl.mk tO tQ)).bind fun ⟨L6, L8⟩ =>
        (P89 fu (Sl.mk jU jV)).bind fun ⟨nX, JJ⟩ =>
         (P89 fu (Sl.mk bB bH)).bind fun ⟨apZ, ap0⟩ =>
          some (Cell.mk bn gG (Value.mk zH JD JE (Sl.mk tY tZ) (Sl.mk uf ug) JF Ed JG) (Value.mk awy awz awC (Sl.mk apV apW) (Sl.mk apX apY) awD awE awF) (Sl.mk Zi Zj) (Sl.mk awG awH) (Sl.mk Zk Zl) (Sl.mk nX JJ) Fv dD (Sl.mk L6 L8) (Sl.mk apZ ap0))
noncomputable def P63 (fu : Nat) (a0 : Sl Cell) : Option ((Sl Cell)) :=
 match a0 with
 | ⟨aj, bF⟩ =>
  (P85 fu (Sl.mk aj bF) (P86 fu)).bind fun ⟨uh, uj⟩ =>
   some (Sl.mk uh uj)
noncomputable def P97 (fu : Nat) (a0 : Sl Child) : Option ((List Child)) :=
 match a0 with
 | ⟨aj, bF⟩ =>
  bif ln aj == 0 then
   agree (
    some ([] : List Child)
   ) (
    (
     bif ln aj == 0 then
      some ([] : List Child)
     else
      bif room 152 (ln (([] : List Child) ++ aj)) then
       some (([] : List Child) ++ aj)
      else none
    ).bind fun (q : (List Child)) =>
     match q with
     | oh =>
      some oh
   )
  else
   (
    bif ln aj == 0 then
     some ([] : List Child)
    else
     bif room 152 (ln (([] : List Child) ++ aj)) then
      some (([] : List Child) ++ aj)
     else none
   ).bind fun (q : (List Child)) =>
    match q with
    | pI =>
     some pI
noncomputable def VJ (fu : Nat) (a1 : (Child → Option (Child))) (r2 : List Child) : ((List Child) × Int) → Option (((List Child) × Int) ⊕ (((List Child) × Int)))
 | (l5, i6) =>
  bif decide (i6 < (ln r2)) then
   (idx l5 i6).bind fun ⟨uz, JC, Y1, ⟨Y7, Y8, Y9, ⟨Ql, Qm⟩, ⟨Qn, Qo⟩, Za, Zb, Zc⟩⟩ =>
    (a1 (Child.mk uz JC Y1 (Value.mk Y7 Y8 Y9 (Sl.mk Ql Qm) (Sl.mk Qn Qo) Za Zb Zc))).bind fun ⟨mE, qV, Eb, ⟨GU, GV, GX, ⟨AQ, AU⟩, ⟨AV, AX⟩, GY, GZ, G5⟩⟩ =>
     (idx l5 i6).bind fun ⟨iG, mD, tV, ⟨Ba, Bb, Bc, ⟨uV, uW⟩, ⟨uX, uY⟩, Bd, Bf, Bg⟩⟩ =>
      some (.inl ((List.set l5 (Int.toNat i6) (Child.mk mE qV Eb (Value.mk GU GV GX (Sl.mk AQ AU) (Sl.mk AV AX) GY GZ G5))), gD (i6 + 1)))
  else
   some (.inr (l5, i6))
noncomputable def P87 (fu : Nat) (a0 : Sl Child) (a1 : (Child → Option (Child))) : Option ((Sl Child)) :=
 match a0 with
 | ⟨aj, bF⟩ =>
  (P97 fu (Sl.mk aj bF)).bind fun r2 =>
   (wl (VJ fu a1 r2) (r2, 0)).bind fun q =>
    match q with
    | (jP, oQ) =>
     some (Sl.mk jP none)
noncomputable def P64 (fu : Nat) (a0 : Sl Child) : Option ((Sl Child)) :=
 match a0 with
 | ⟨aj, bF⟩ =>
  (P87 fu (Sl.mk aj bF) (P62 fu)).bind fun ⟨uh, uj⟩ =>
   some (Sl.mk uh uj)
noncomputable def P34 (fu : Nat) (a0 : Sl Inst) : Option ((List Inst)) :=
 match a0 with
 | ⟨aj, bF⟩ =>
  bif ln aj == 0 then
   agree (
    some ([] : List Inst)
   ) (
    (
     bif ln aj == 0 then
      some ([] : List Inst)
     else
      bif room 416 (ln (([] : List Inst) ++ aj)) then
       some (([] : List Inst) ++ aj)
      else none
    ).bind fun (q : (List Inst)) =>
     match q with
     | oh =>
      some oh
   )
  else
   (
    bif ln aj == 0 then
     some ([] : List Inst)
    else
     bif room 416 (ln (([] : List Inst) ++ aj)) then
      some (([] : List Inst) ++ aj)
     else none
   ).bind fun (q : (List Inst)) =>
    match q with
    | pI =>
     some pI
noncomputable def VK (fu : Nat) (a1 : (Inst → Option (Inst))) (r2 : List Inst) : ((List Inst) × Int) → Option (((List Inst) × Int) ⊕ (((List Inst) × Int)))
 | (l5, i6) =>
  bif decide (i6 < (ln r2)) then
   (idx l5 i6).bind fun ⟨uz, ⟨Cv, FL, FM, ⟨Gj, Gl, Gm, ⟨Aq, Ar⟩, ⟨Au, Av⟩, Gn, Gp, Gq⟩⟩, ⟨PU, PW⟩, ⟨zD, zF⟩, ⟨uJ, uK⟩, Si, K6, Sj, ⟨PX, PY, PZ, ⟨Gr, Gs⟩, ⟨Gt, Gu⟩, P5, P6, Qa⟩, K7, abk, ⟨FN, FP⟩, abl, abm⟩ =>
    (a1 (Inst.mk uz (Child.mk Cv FL FM (Value.mk Gj Gl Gm (Sl.mk Aq Ar) (Sl.mk Au Av) Gn Gp Gq)) (Sl.mk PU PW) (Sl.mk zD zF) (Sl.mk uJ uK) Si K6 Sj (Value.mk PX PY PZ (Sl.mk Gr Gs) (Sl.mk Gt Gu) P5 P6 Qa) K7 abk (Sl.mk FN FP) abl abm)).bind fun ⟨mE, ⟨GI, GJ, GK, ⟨VL, VN, VO, ⟨Qq, Qr⟩, ⟨Qs, Qt⟩, VP, VQ, VR⟩⟩, ⟨abE, abF⟩, ⟨xA, xB⟩, ⟨pJ, pK⟩, Qf, Ec, Qg, ⟨abG, abH, abI, ⟨VT, VU⟩, ⟨VW, VX⟩, abJ, abK, abL⟩, Ee, ajb, ⟨He, Hf⟩, ajc, ajd⟩ =>
     (idx l5 i6).bind fun ⟨iG, ⟨uD, uE, uF, ⟨M4, M5, M6, ⟨JK, JL⟩, ⟨JM, JN⟩, M7, M8, M9⟩⟩, ⟨VY, VZ⟩, ⟨nV, nW⟩, ⟨kH, kI⟩, Cw, tX, Cx, ⟨V3, V4, V5, ⟨Na, Nb⟩, ⟨Nc, Nf⟩, V6, V7, V8⟩, yJ, ad7, ⟨Bo, Bp⟩, ad8, ad9⟩ =>
      some (.inl ((List.set l5 (Int.toNat i6) (Inst.mk mE (Child.mk GI GJ GK (Value.mk VL VN VO (Sl.mk Qq Qr) (Sl.mk Qs Qt) VP VQ VR)) (Sl.mk abE abF) (Sl.mk xA xB) (Sl.mk pJ pK) Qf Ec Qg (Value.mk abG abH abI (Sl.mk VT VU) (Sl.mk VW VX) abJ abK abL) Ee ajb (Sl.mk He Hf) ajc ajd)), gD (i6 + 1)))
  else
   some (.inr (l5, i6))
noncomputable def P69 (fu : Nat) (a0 : Sl Inst) (a1 : (Inst → Option (Inst))) : Option ((Sl Inst)) :=
 match a0 with
 | ⟨aj, bF⟩ =>
  (P34 fu (Sl.mk aj bF)).bind fun r2 =>
   (wl (VK fu a1 r2) (r2, 0)).bind fun q =>
    match q with
    | (jP, oQ) =>
     some (Sl.mk jP none)
noncomputable def amX (fu : Nat) (p31 : Inst → Option (Inst)) (p42 : (Sl Inst) → Option ((Sl Inst))) (a0 : Inst) : Option (Inst) :=
 match a0 with
 | ⟨bn, ⟨bK, aL, bL, ⟨aT, aU, aV, ⟨av, ay⟩, ⟨aA, aB⟩, aW, aX, aY⟩⟩, ⟨bU, cO⟩, ⟨aZ, bf⟩, ⟨aF, aJ⟩, dM, dI, dN, ⟨bX, bY, bZ, ⟨aP, aQ⟩, ⟨aR, aS⟩, cu, cB, cK⟩, dD, dY, ⟨bB, bH⟩, eB, eD⟩ =>
  (P62 fu (Child.mk bK aL bL (Value.mk aT aU aV (Sl.mk av ay) (Sl.mk aA aB) aW aX aY))).bind fun ⟨zH, JD, JE, ⟨ap1, ap2, ap3, ⟨aje, ajf⟩, ⟨ajg, ajh⟩, ap4, ap5, ap6⟩⟩ =>
   (P63 fu (Sl.mk bU cO)).bind fun ⟨JH, JI⟩ =>
    (P64 fu (Sl.mk aZ bf)).bind fun ⟨Zi, Zj⟩ =>
     (Xq fu (Value.mk bX bY bZ (Sl.mk aP aQ) (Sl.mk aR aS) cu cB cK)).bind fun ⟨aji, awI, awJ, ⟨Zm, Zn⟩, ⟨Zo, Zp⟩, ajj, ajk, ajl⟩ =>
      (p42 (Sl.mk aF aJ)).bind fun ⟨Zk, Zl⟩ =>
       (p42 (Sl.mk bB bH)).bind fun ⟨L6, L8⟩ =>
        some (Inst.mk bn (Child.mk zH JD JE (Value.mk ap1 ap2 ap3 (Sl.mk aje ajf) (Sl.mk ajg ajh) ap4 ap5 ap6)) (Sl.mk JH JI) (Sl.mk Zi Zj) (Sl.mk Zk Zl) dM dI dN (Value.mk aji awI awJ (Sl.mk Zm Zn) (Sl.mk Zo Zp) ajj ajk ajl) dD dY (Sl.mk L6 L8) eB eD)
noncomputable def amY (fu : Nat) (p31 : Inst → Option (Inst)) (p42 : (Sl Inst) → Option ((Sl Inst))) (a0 : Sl Inst) : Option ((Sl Inst)) :=
 match a0 with
 | ⟨aj, bF⟩ =>
  (P69 fu (Sl.mk aj bF) p31).bind fun ⟨uh, uj⟩ =>
   some (Sl.mk uh uj)
mutual
noncomputable def P31 : Nat → Inst → Option (Inst)
 | 0 => fun _ => none
 | fu + 1 => fun a0 => amX fu (P31 fu) (P42 fu) a0
noncomputable def P42 : Nat → (Sl Inst) → Option ((Sl Inst))
 | 0 => fun _ => none
 | fu + 1 => fun a0 => amY fu (P31 fu) (P42 fu) a0
end
noncomputable def Zq (fu : Nat) (a0 : Inst) (b1 : List Inst) : Option ((List Inst)) :=
 match a0 with
 | ⟨bn, ⟨bK, aL, bL, ⟨aT, aU, aV, ⟨av, ay⟩, ⟨aA, aB⟩, aW, aX, aY⟩⟩, ⟨bU, cO⟩, ⟨aZ, bf⟩, ⟨aF, aJ⟩, dM, dI, dN, ⟨bX, bY, bZ, ⟨aP, aQ⟩, ⟨aR, aS⟩, cu, cB, cK⟩, dD, dY, ⟨bB, bH⟩, eB, eD⟩ =>
  (
   (P31 fu (Inst.mk bn (Child.mk bK aL bL (Value.mk aT aU aV (Sl.mk av ay) (Sl.mk aA aB) aW aX aY)) (Sl.mk bU cO) (Sl.mk aZ bf) (Sl.mk aF aJ) dM dI dN (Value.mk bX bY bZ (Sl.mk aP aQ) (Sl.mk aR aS) cu cB cK) dD dY (Sl.mk bB bH) eB eD)).bind fun ⟨zH, ⟨Zr, Zt, Zu, ⟨Qu, Qv, Qw, ⟨JO, JQ⟩, ⟨JR, JU⟩, Qx, Qy, Qz⟩⟩, ⟨Zv, Zw⟩, ⟨tY, tZ⟩, ⟨uf, ug⟩, JF, Ed, JG, ⟨Zx, Zy, Zz, ⟨QA, QB⟩, ⟨QC, QD⟩, ZA, ZB, ZC⟩, Zh, ajm, ⟨ZE, ZF⟩, ajn, ajo⟩ =>
    bif room 416 (ln (b1 ++ [(Inst.mk 0 (Child.mk ByteArray.empty 0 ByteArray.empty (Value.mk 0 0 ByteArray.empty (Sl.mk [] (some [])) (Sl.mk [] (some [])) 0 ByteArray.empty false)) (Sl.mk [] (some [])) (Sl.mk [] (some [])) (Sl.mk [] (some [])) 0 false false (Value.mk 0 0 ByteArray.empty (Sl.mk [] (some [])) (Sl.mk [] (some [])) 0 ByteArray.empty false) ByteArray.empty false (Sl.mk [] (some [])) false false)])) then
     (idx (b1 ++ [(Inst.mk 0 (Child.mk ByteArray.empty 0 ByteArray.empty (Value.mk 0 0 ByteArray.empty (Sl.mk [] (some [])) (Sl.mk [] (some [])) 0 ByteArray.empty false)) (Sl.mk [] (some [])) (Sl.mk [] (some [])) (Sl.mk [] (some [])) 0 false false (Value.mk 0 0 ByteArray.empty (Sl.mk [] (some [])) (Sl.mk [] (some [])) 0 ByteArray.empty false) ByteArray.empty false (Sl.mk [] (some [])) false false)]) (ln b1)).bind fun ⟨uz, ⟨Cv, FL, FM, ⟨Gj, Gl, Gm, ⟨Aq, Ar⟩, ⟨Au, Av⟩, Gn, Gp, Gq⟩⟩, ⟨PU, PW⟩, ⟨zD, zF⟩, ⟨uJ, uK⟩, Si, K6, Sj, ⟨PX, PY, PZ, ⟨Gr, Gs⟩, ⟨Gt, Gu⟩, P5, P6, Qa⟩, K7, abk, ⟨FN, FP⟩, abl, abm⟩ =>
      some (List.set (b1 ++ [(Inst.mk 0 (Child.mk ByteArray.empty 0 ByteArray.empty (Value.mk 0 0 ByteArray.empty (Sl.mk [] (some [])) (Sl.mk [] (some [])) 0 ByteArray.empty false)) (Sl.mk [] (some [])) (Sl.mk [] (some [])) (Sl.mk [] (some [])) 0 false false (Value.mk 0 0 ByteArray.empty (Sl.mk [] (some [])) (Sl.mk [] (some [])) 0 ByteArray.empty false) ByteArray.empty false (Sl.mk [] (some [])) false false)]) (Int.toNat (ln b1)) (Inst.mk zH (Child.mk Zr Zt Zu (Value.mk Qu Qv Qw (Sl.mk JO JQ) (Sl.mk JR JU) Qx Qy Qz)) (Sl.mk Zv Zw) (Sl.mk tY tZ) (Sl.mk uf ug) JF Ed JG (Value.mk Zx Zy Zz (Sl.mk QA QB) (Sl.mk QC QD) ZA ZB ZC) Zh ajm (Sl.mk ZE ZF) ajn ajo))
    else none
  ).bind fun (q : (List Inst)) =>
   match q with
   | g12 =>
    some g12
noncomputable def P32 (fu : Nat) (a0 : Inst) : Option (Unit) :=
 match a0 with
 | ⟨bn, ⟨bK, aL, bL, ⟨aT, aU, aV, ⟨av, ay⟩, ⟨aA, aB⟩, aW, aX, aY⟩⟩, ⟨bU, cO⟩, ⟨aZ, bf⟩, ⟨aF, aJ⟩, dM, dI, dN, ⟨bX, bY, bZ, ⟨aP, aQ⟩, ⟨aR, aS⟩, cu, cB, cK⟩, dD, dY, ⟨bB, bH⟩, eB, eD⟩ =>
  some ()
noncomputable def Ng (fu : Nat) (nH : Inst → (Option X.Ex) → (List Inst) → Option (Bool × (Option X.Ex) × (List Inst))) (yK : Inst → (List Inst) → Option ((List Inst))) (yL : Inst → (Option X.Ex) → (List Inst) → Option ((Option X.Ex) × (List Inst))) (a1 : Inst) (b0 : Option X.Ex) (b3 : List Inst) : Option (Bool × (Option X.Ex) × (List Inst)) :=
 match a1 with
 | ⟨gX, ⟨jv, jw, jy, ⟨iK, iL, iM, ⟨gq, gu⟩, ⟨gy, gB⟩, iN, iO, iP⟩⟩, ⟨kR, kS⟩, ⟨iA, iB⟩, ⟨gJ, gK⟩, nE, fT, nG, ⟨kT, kU, kV, ⟨iQ, iR⟩, ⟨iT, iU⟩, kW, kX, kY⟩, nI, qW, ⟨jF, jG⟩, qX, qY⟩ =>
  match b0 with
  | none =>
   (yK (Inst.mk gX (Child.mk jv jw jy (Value.mk iK iL iM (Sl.mk gq gu) (Sl.mk gy gB) iN iO iP)) (Sl.mk kR kS) (Sl.mk iA iB) (Sl.mk gJ gK) nE fT nG (Value.mk kT kU kV (Sl.mk iQ iR) (Sl.mk iT iU) kW kX kY) nI qW (Sl.mk jF jG) qX qY) b3).bind fun wr2 =>
    some (true, none, wr2)
  | some _ => none
noncomputable def QE (fu : Nat) (nH : Inst → (Option X.Ex) → (List Inst) → Option (Bool × (Option X.Ex) × (List Inst))) (yK : Inst → (List Inst) → Option ((List Inst))) (yL : Inst → (Option X.Ex) → (List Inst) → Option ((Option X.Ex) × (List Inst))) (a0 : Inst) (b1 : List Inst) : Option ((List Inst)) :=
 match a0 with
 | ⟨bn, ⟨bK, aL, bL, ⟨aT, aU, aV, ⟨av, ay⟩, ⟨aA, aB⟩, aW, aX, aY⟩⟩, ⟨bU, cO⟩, ⟨aZ, bf⟩, ⟨aF, aJ⟩, dM, dI, dN, ⟨bX, bY, bZ, ⟨aP, aQ⟩, ⟨aR, aS⟩, cu, cB, cK⟩, dD, dY, ⟨bB, bH⟩, eB, eD⟩ =>
  bif bn == 0 then
   some b1
  else
   (Zq fu (Inst.mk bn (Child.mk bK aL bL (Value.mk aT aU aV (Sl.mk av ay) (Sl.mk aA aB) aW aX aY)) (Sl.mk bU cO) (Sl.mk aZ bf) (Sl.mk aF aJ) dM dI dN (Value.mk bX bY bZ (Sl.mk aP aQ) (Sl.mk aR aS) cu cB cK) dD dY (Sl.mk bB bH) eB eD) b1).bind fun wr3 =>
    (yL (Inst.mk bn (Child.mk bK aL bL (Value.mk aT aU aV (Sl.mk av ay) (Sl.mk aA aB) aW aX aY)) (Sl.mk bU cO) (Sl.mk aZ bf) (Sl.mk aF aJ) dM dI dN (Value.mk bX bY bZ (Sl.mk aP aQ) (Sl.mk aR aS) cu cB cK) dD dY (Sl.mk bB bH) eB eD) none wr3).bind fun ⟨wr7, wr8⟩ =>
     match wr7 with
     | none =>
      (P32 fu (Inst.mk bn (Child.mk bK aL bL (Value.mk aT aU aV (Sl.mk av ay) (Sl.mk aA aB) aW aX aY)) (Sl.mk bU cO) (Sl.mk aZ bf) (Sl.mk aF aJ) dM dI dN (Value.mk bX bY bZ (Sl.mk aP aQ) (Sl.mk aR aS) cu cB cK) dD dY (Sl.mk bB bH) eB eD)).bind fun _ =>
       some wr8
     | _ => none
noncomputable def zJ (fu : Nat) (nH : Inst → (Option X.Ex) → (List Inst) → Option (Bool × (Option X.Ex) × (List Inst))) (xC : List Inst) : ((Option X.Ex) × (List Inst) × Int) → Option (((Option X.Ex) × (List Inst) × Int) ⊕ (((Option X.Ex) × (List Inst) × Int) ⊕ ((Option X.Ex) × (List Inst) × Int)))
 | (g29, g30, i31) =>
  bif decide (i31 < (ln xC)) then
   (idx xC i31).bind fun ⟨ZG, ⟨V9, Wd, Wh, ⟨Nh, Ni, Nj, ⟨JV, JW⟩, ⟨JX, JY⟩, Nk, Nl, Nn⟩⟩, ⟨Wi, Wj⟩, ⟨Wm, Wn⟩, ⟨Wo, Wp⟩, aea, aeb, aec, ⟨Wq, Ws, Wt, ⟨Np, Nq⟩, ⟨Nr, Ns⟩, Wu, Wv, Ww⟩, aed, aee, ⟨Wx, Wy⟩, aef, aeg⟩ =>
    (
     bif !(ZG == 0) then
      match g29 with
      | none =>
       (nH (Inst.mk ZG (Child.mk V9 Wd Wh (Value.mk Nh Ni Nj (Sl.mk JV JW) (Sl.mk JX JY) Nk Nl Nn)) (Sl.mk Wi Wj) (Sl.mk Wm Wn) (Sl.mk Wo Wp) aea aeb aec (Value.mk Wq Ws Wt (Sl.mk Np Nq) (Sl.mk Nr Ns) Wu Wv Ww) aed aee (Sl.mk Wx Wy) aef aeg) none g30).bind fun ⟨r37, awK, asQ⟩ =>
        some (awK, asQ, !r37)
      | some _ => none
     else
      some (g29, g30, false)
    ).bind fun (q : (Option X.Ex) × (List Inst) × Bool) =>
     match q with
     | (g42, g43, i44) =>
      bif i44 then
       some (.inr (.inr (g42, g43, i31)))
      else
       some (.inl (g42, g43, gD (i31 + 1)))
  else
   some (.inr (.inl (g29, g30, i31)))
noncomputable def xD (fu : Nat) (nH : Inst → (Option X.Ex) → (List Inst) → Option (Bool × (Option X.Ex) × (List Inst))) (nY : List (Sl Inst)) : ((Option X.Ex) × (List Inst) × Int) → Option (((Option X.Ex) × (List Inst) × Int) ⊕ (((Option X.Ex) × (List Inst) × Int) ⊕ ((Option X.Ex) × (List Inst) × Int)))
 | (g21, g22, i23) =>
  bif decide (i23 < (ln nY)) then
   (idx nY i23).bind fun ⟨xC, JZ⟩ =>
    (wl (zJ fu nH xC) (g21, g22, 0)).bind fun q =>
     match q with
     | .inl (o48, o49, o50) =>
      some (.inl (o48, o49, gD (i23 + 1)))
     | .inr (o51, o52, o53) =>
      some (.inr (.inr (o51, o52, i23)))
  else
   some (.inr (.inl (g21, g22, i23)))
noncomputable def QF (fu : Nat) (nH : Inst → (Option X.Ex) → (List Inst) → Option (Bool × (Option X.Ex) × (List Inst))) (yK : Inst → (List Inst) → Option ((List Inst))) (yL : Inst → (Option X.Ex) → (List Inst) → Option ((Option X.Ex) × (List Inst))) (a1 : Inst) (b0 : Option X.Ex) (b3 : List Inst) : Option ((Option X.Ex) × (List Inst)) :=
 match a1 with
 | ⟨gX, ⟨jv, jw, jy, ⟨iK, iL, iM, ⟨gq, gu⟩, ⟨gy, gB⟩, iN, iO, iP⟩⟩, ⟨kR, kS⟩, ⟨iA, iB⟩, ⟨gJ, gK⟩, nE, fT, nG, ⟨kT, kU, kV, ⟨iQ, iR⟩, ⟨iT, iU⟩, kW, kX, kY⟩, nI, qW, ⟨jF, jG⟩, qX, qY⟩ =>
  (some [(Sl.mk gJ gK)]).bind fun l1 =>
   (P36 fu (Inst.mk gX (Child.mk jv jw jy (Value.mk iK iL iM (Sl.mk gq gu) (Sl.mk gy gB) iN iO iP)) (Sl.mk kR kS) (Sl.mk iA iB) (Sl.mk gJ gK) nE fT nG (Value.mk kT kU kV (Sl.mk iQ iR) (Sl.mk iT iU) kW kX kY) nI qW (Sl.mk jF jG) qX qY)).bind fun r4 =>
    (
     bif r4 then
      (some [(Sl.mk jF jG)]).bind fun l7 =>
       bif ln l7 == 0 then
        some (l1, (some []))
       else
        bif room 24 (ln (l1 ++ l7)) then
         some ((l1 ++ l7), none)
        else none
     else
      some (l1, (some []))
    ).bind fun (q : (List (Sl Inst)) × (Option (List (Sl Inst)))) =>
     match q with
     | (nY, um) =>
      (wl (xD fu nH nY) (b0, b3, 0)).bind fun q =>
       match q with
       | .inl (o55, o56, o57) =>
        some (o55, o56)
       | .inr (o58, o59, o60) =>
        some (o58, o59)
mutual
noncomputable def y9 : Nat → Inst → (Option X.Ex) → (List Inst) → Option (Bool × (Option X.Ex) × (List Inst))
 | 0 => fun _ _ _ => none
 | fu + 1 => fun a0 a1 a2 => Ng fu (y9 fu) (Ma fu) (QG fu) a0 a1 a2
noncomputable def Ma : Nat → Inst → (List Inst) → Option ((List Inst))
 | 0 => fun _ _ => none
 | fu + 1 => fun a0 a1 => QE fu (y9 fu) (Ma fu) (QG fu) a0 a1
noncomputable def QG : Nat → Inst → (Option X.Ex) → (List Inst) → Option ((Option X.Ex) × (List Inst))
 | 0 => fun _ _ _ => none
 | fu + 1 => fun a0 a1 a2 => QF fu (y9 fu) (Ma fu) (QG fu) a0 a1 a2
end
noncomputable def P10 (fu : Nat) (a0 : Inst) : Option ((Sl Inst)) :=
 match a0 with
 | ⟨bn, ⟨bK, aL, bL, ⟨aT, aU, aV, ⟨av, ay⟩, ⟨aA, aB⟩, aW, aX, aY⟩⟩, ⟨bU, cO⟩, ⟨aZ, bf⟩, ⟨aF, aJ⟩, dM, dI, dN, ⟨bX, bY, bZ, ⟨aP, aQ⟩, ⟨aR, aS⟩, cu, cB, cK⟩, dD, dY, ⟨bB, bH⟩, eB, eD⟩ =>
  (Ma fu (Inst.mk bn (Child.mk bK aL bL (Value.mk aT aU aV (Sl.mk av ay) (Sl.mk aA aB) aW aX aY)) (Sl.mk bU cO) (Sl.mk aZ bf) (Sl.mk aF aJ) dM dI dN (Value.mk bX bY bZ (Sl.mk aP aQ) (Sl.mk aR aS) cu cB cK) dD dY (Sl.mk bB bH) eB eD) ([] : List Inst)).bind fun wr4 =>
   some (Sl.mk wr4 none)
noncomputable def J2 (fu : Nat) (Cy : Inst → Inst → Inst → Bool → Option (Inst × Bool)) (aj : List Inst) (QH : Int) (Ef : ByteArray) (Eh : Int) (Ei : ByteArray) (xE : Int) (xG : Int) (xH : ByteArray) (qZ : List Value) (q9 : Option (List Value)) (ru : List Field) (rz : Option (List Field)) (xI : Int) (xJ : ByteArray) (xK : Bool) (Ej : List Cell) (El : Option (List Cell)) (Em : List Child) (En : Option (List Child)) (Eo : List Inst) (Ep : Option (List Inst)) (QI : Int) (QJ : Bool) (QK : Bool) (Er : Int) (Es : Int) (Et : ByteArray) (xL : List Value) (xM : Option (List Value)) (xO : List Field) (xP : Option (List Field)) (Eu : Int) (Ev : ByteArray) (Ew : Bool) (QL : ByteArray) (QM : Bool) (Ey : List Inst) (Ez : Option (List Inst)) (QN : Bool) (QO : Bool) : ((List Inst) × Bool × Int) → Option (((List Inst) × Bool × Int) ⊕ (((List Inst) × Bool × Int)))
 | (l7, g8, i9) =>
  bif decide (i9 < (ln aj)) then
   (idx aj i9).bind fun ⟨TD, ⟨QS, QT, QU, ⟨J3, J4, J5, ⟨EA, EB⟩, ⟨EC, ED⟩, J6, J7, J8⟩⟩, ⟨QV, QW⟩, ⟨QX, QY⟩, ⟨QZ, Q0⟩, ZH, ZI, ZJ, ⟨Q5, Q6, Q7, ⟨J9, Ka⟩, ⟨Kc, Ke⟩, Q8, Q9, Ra⟩, ZK, ZL, ⟨Rb, Rf⟩, ZM, ZN⟩ =>
    (
     bif !g8 then
      some (!(TD == 0))
     else
      some false
    ).bind fun (q : Bool) =>
     match q with
     | YR =>
      (
       bif YR then
        (Cy (Inst.mk TD (Child.mk QS QT QU (Value.mk J3 J4 J5 (Sl.mk EA EB) (Sl.mk EC ED) J6 J7 J8)) (Sl.mk QV QW) (Sl.mk QX QY) (Sl.mk QZ Q0) ZH ZI ZJ (Value.mk Q5 Q6 Q7 (Sl.mk J9 Ka) (Sl.mk Kc Ke) Q8 Q9 Ra) ZK ZL (Sl.mk Rb Rf) ZM ZN) (Inst.mk QH (Child.mk Ef Eh Ei (Value.mk xE xG xH (Sl.mk qZ q9) (Sl.mk ru rz) xI xJ xK)) (Sl.mk Ej El) (Sl.mk Em En) (Sl.mk Eo Ep) QI QJ QK (Value.mk Er Es Et (Sl.mk xL xM) (Sl.mk xO xP) Eu Ev Ew) QL QM (Sl.mk Ey Ez) QN QO) (Inst.mk QH (Child.mk Ef Eh Ei (Value.mk xE xG xH (Sl.mk qZ q9) (Sl.mk ru rz) xI xJ xK)) (Sl.mk Ej El) (Sl.mk Em En) (Sl.mk Eo Ep) QI QJ QK (Value.mk Er Es Et (Sl.mk xL xM) (Sl.mk xO xP) Eu Ev Ew) QL QM (Sl.mk Ey Ez) QN QO) g8).bind fun ⟨⟨ajp, ⟨abM, abN, abO, ⟨Wz, WA, WB, ⟨Rh, Ri⟩, ⟨Rj, Rk⟩, WC, WE, WG⟩⟩, ⟨abP, abQ⟩, ⟨abR, abS⟩, ⟨abT, abU⟩, ajq, ajr, ajs, ⟨abV, abW, abX, ⟨WH, WI⟩, ⟨WJ, WK⟩, abY, abZ, ab0⟩, ajt, aju, ⟨ab1, ab2⟩, ajv, ajw⟩, awL⟩ =>
         (idx l7 i9).bind fun ⟨awM, ⟨asR, asS, asT, ⟨amZ, am0, am1, ⟨ajx, ajy⟩, ⟨ajz, ajA⟩, am2, am3, am4⟩⟩, ⟨asU, asV⟩, ⟨asW, asX⟩, ⟨asY, asZ⟩, awN, awO, awP, ⟨as0, as1, as2, ⟨am5, am6⟩, ⟨am7, am8⟩, as3, as4, as5⟩, awQ, awR, ⟨as6, as7⟩, awS, awT⟩ =>
          some ((List.set l7 (Int.toNat i9) (Inst.mk ajp (Child.mk abM abN abO (Value.mk Wz WA WB (Sl.mk Rh Ri) (Sl.mk Rj Rk) WC WE WG)) (Sl.mk abP abQ) (Sl.mk abR abS) (Sl.mk abT abU) ajq ajr ajs (Value.mk abV abW abX (Sl.mk WH WI) (Sl.mk WJ WK) abY abZ ab0) ajt aju (Sl.mk ab1 ab2) ajv ajw)), awL)
       else
        some (l7, g8)
      ).bind fun (q : (List Inst) × Bool) =>
       match q with
       | (l24, g25) =>
        some (.inl (l24, g25, gD (i9 + 1)))
  else
   some (.inr (l7, g8, i9))
noncomputable def WL (fu : Nat) (EF : (Sl Inst) → Inst → Bool → Option ((Sl Inst) × Bool)) (Cy : Inst → Inst → Inst → Bool → Option (Inst × Bool)) (a0 : Sl Inst) (d0 : Inst) (b0 : Bool) : Option ((Sl Inst) × Bool) :=
 match a0 with
 | ⟨aj, bF⟩ =>
  match d0 with
  | ⟨QH, ⟨Ef, Eh, Ei, ⟨xE, xG, xH, ⟨qZ, q9⟩, ⟨ru, rz⟩, xI, xJ, xK⟩⟩, ⟨Ej, El⟩, ⟨Em, En⟩, ⟨Eo, Ep⟩, QI, QJ, QK, ⟨Er, Es, Et, ⟨xL, xM⟩, ⟨xO, xP⟩, Eu, Ev, Ew⟩, QL, QM, ⟨Ey, Ez⟩, QN, QO⟩ =>
   (P34 fu (Sl.mk aj bF)).bind fun r2 =>
    (wl (J2 fu Cy aj QH Ef Eh Ei xE xG xH qZ q9 ru rz xI xJ xK Ej El Em En Eo Ep QI QJ QK Er Es Et xL xM xO xP Eu Ev Ew QL QM Ey Ez QN QO) (r2, b0, 0)).bind fun q =>
     match q with
     | (o29, o30, o31) =>
      some ((Sl.mk o29 none), o30)
noncomputable def K8 (fu : Nat) (EF : (Sl Inst) → Inst → Bool → Option ((Sl Inst) × Bool)) (Cy : Inst → Inst → Inst → Bool → Option (Inst × Bool)) (a0 : Inst) (a1 : Inst) (d0 : Inst) (b0 : Bool) : Option (Inst × Bool) :=
 match a0 with
 | ⟨bn, ⟨bK, aL, bL, ⟨aT, aU, aV, ⟨av, ay⟩, ⟨aA, aB⟩, aW, aX, aY⟩⟩, ⟨bU, cO⟩, ⟨aZ, bf⟩, ⟨aF, aJ⟩, dM, dI, dN, ⟨bX, bY, bZ, ⟨aP, aQ⟩, ⟨aR, aS⟩, cu, cB, cK⟩, dD, dY, ⟨bB, bH⟩, eB, eD⟩ =>
  match a1 with
  | ⟨gX, ⟨jv, jw, jy, ⟨iK, iL, iM, ⟨gq, gu⟩, ⟨gy, gB⟩, iN, iO, iP⟩⟩, ⟨kR, kS⟩, ⟨iA, iB⟩, ⟨gJ, gK⟩, nE, fT, nG, ⟨kT, kU, kV, ⟨iQ, iR⟩, ⟨iT, iU⟩, kW, kX, kY⟩, nI, qW, ⟨jF, jG⟩, qX, qY⟩ =>
   match d0 with
   | ⟨QH, ⟨Ef, Eh, Ei, ⟨xE, xG, xH, ⟨qZ, q9⟩, ⟨ru, rz⟩, xI, xJ, xK⟩⟩, ⟨Ej, El⟩, ⟨Em, En⟩, ⟨Eo, Ep⟩, QI, QJ, QK, ⟨Er, Es, Et, ⟨xL, xM⟩, ⟨xO, xP⟩, Eu, Ev, Ew⟩, QL, QM, ⟨Ey, Ez⟩, QN, QO⟩ =>
    bif bn == gX then
     some ((Inst.mk gX (Child.mk jv jw jy (Value.mk iK iL iM (Sl.mk gq gu) (Sl.mk gy gB) iN iO iP)) (Sl.mk kR kS) (Sl.mk iA iB) (Sl.mk gJ gK) nE fT nG (Value.mk kT kU kV (Sl.mk iQ iR) (Sl.mk iT iU) kW kX kY) nI qW (Sl.mk jF jG) qX qY), true)
    else
     (EF (Sl.mk aF aJ) (Inst.mk QH (Child.mk Ef Eh Ei (Value.mk xE xG xH (Sl.mk qZ q9) (Sl.mk ru rz) xI xJ xK)) (Sl.mk Ej El) (Sl.mk Em En) (Sl.mk Eo Ep) QI QJ QK (Value.mk Er Es Et (Sl.mk xL xM) (Sl.mk xO xP) Eu Ev Ew) QL QM (Sl.mk Ey Ez) QN QO) b0).bind fun ⟨⟨JH, JI⟩, wr4⟩ =>
      (P36 fu (Inst.mk bn (Child.mk bK aL bL (Value.mk aT aU aV (Sl.mk av ay) (Sl.mk aA aB) aW aX aY)) (Sl.mk bU cO) (Sl.mk aZ bf) (Sl.mk JH JI) dM dI dN (Value.mk bX bY bZ (Sl.mk aP aQ) (Sl.mk aR aS) cu cB cK) dD dY (Sl.mk bB bH) eB eD)).bind fun r5 =>
       (
        bif r5 then
         (EF (Sl.mk bB bH) (Inst.mk QH (Child.mk Ef Eh Ei (Value.mk xE xG xH (Sl.mk qZ q9) (Sl.mk ru rz) xI xJ xK)) (Sl.mk Ej El) (Sl.mk Em En) (Sl.mk Eo Ep) QI QJ QK (Value.mk Er Es Et (Sl.mk xL xM) (Sl.mk xO xP) Eu Ev Ew) QL QM (Sl.mk Ey Ez) QN QO) wr4).bind fun ⟨⟨Zk, Zl⟩, awU⟩ =>
          some (Zk, Zl, awU)
        else
         some (bB, bH, wr4)
       ).bind fun (q : (List Inst) × (Option (List Inst)) × Bool) =>
        match q with
        | (aeh, aei, g12) =>
         some ((Inst.mk bn (Child.mk bK aL bL (Value.mk aT aU aV (Sl.mk av ay) (Sl.mk aA aB) aW aX aY)) (Sl.mk bU cO) (Sl.mk aZ bf) (Sl.mk JH JI) dM dI dN (Value.mk bX bY bZ (Sl.mk aP aQ) (Sl.mk aR aS) cu cB cK) dD dY (Sl.mk aeh aei) eB eD), g12)
mutual
noncomputable def TF : Nat → (Sl Inst) → Inst → Bool → Option ((Sl Inst) × Bool)
 | 0 => fun _ _ _ => none
 | fu + 1 => fun a0 a1 a2 => WL fu (TF fu) (EG fu) a0 a1 a2
noncomputable def EG : Nat → Inst → Inst → Inst → Bool → Option (Inst × Bool)
 | 0 => fun _ _ _ _ => none
 | fu + 1 => fun a0 a1 a2 a3 => K8 fu (TF fu) (EG fu) a0 a1 a2 a3
end
noncomputable def P11 (fu : Nat) (a0 : Inst) (a1 : Inst) : Option (Inst) :=
 match a0 with
 | ⟨bn, ⟨bK, aL, bL, ⟨aT, aU, aV, ⟨av, ay⟩, ⟨aA, aB⟩, aW, aX, aY⟩⟩, ⟨bU, cO⟩, ⟨aZ, bf⟩, ⟨aF, aJ⟩, dM, dI, dN, ⟨bX, bY, bZ, ⟨aP, aQ⟩, ⟨aR, aS⟩, cu, cB, cK⟩, dD, dY, ⟨bB, bH⟩, eB, eD⟩ =>
  match a1 with
  | ⟨gX, ⟨jv, jw, jy, ⟨iK, iL, iM, ⟨gq, gu⟩, ⟨gy, gB⟩, iN, iO, iP⟩⟩, ⟨kR, kS⟩, ⟨iA, iB⟩, ⟨gJ, gK⟩, nE, fT, nG, ⟨kT, kU, kV, ⟨iQ, iR⟩, ⟨iT, iU⟩, kW, kX, kY⟩, nI, qW, ⟨jF, jG⟩, qX, qY⟩ =>
   (
    bif !(bn == 0) then
     some (gX == 0)
    else
     some true
   ).bind fun (q : Bool) =>
    match q with
    | i2 =>
     bif i2 then
      (P31 fu (Inst.mk bn (Child.mk bK aL bL (Value.mk aT aU aV (Sl.mk av ay) (Sl.mk aA aB) aW aX aY)) (Sl.mk bU cO) (Sl.mk aZ bf) (Sl.mk aF aJ) dM dI dN (Value.mk bX bY bZ (Sl.mk aP aQ) (Sl.mk aR aS) cu cB cK) dD dY (Sl.mk bB bH) eB eD)).bind fun ⟨awV, ⟨ap7, ap8, ap9, ⟨ajB, ajC, ajD, ⟨aej, aek⟩, ⟨ael, aem⟩, ajE, ajF, ajG⟩⟩, ⟨aqa, aqb⟩, ⟨aqc, aqd⟩, ⟨aqe, aqf⟩, awW, awX, awY, ⟨aqg, aqh, aqi, ⟨ajH, ajI⟩, ⟨ajJ, ajK⟩, aqj, aqk, aql⟩, awZ, aw0, ⟨aqm, aqn⟩, aw1, aw2⟩ =>
       some (Inst.mk awV (Child.mk ap7 ap8 ap9 (Value.mk ajB ajC ajD (Sl.mk aej aek) (Sl.mk ael aem) ajE ajF ajG)) (Sl.mk aqa aqb) (Sl.mk aqc aqd) (Sl.mk aqe aqf) awW awX awY (Value.mk aqg aqh aqi (Sl.mk ajH ajI) (Sl.mk ajJ ajK) aqj aqk aql) awZ aw0 (Sl.mk aqm aqn) aw1 aw2)
     else
      (EG fu (Inst.mk bn (Child.mk bK aL bL (Value.mk aT aU aV (Sl.mk av ay) (Sl.mk aA aB) aW aX aY)) (Sl.mk bU cO) (Sl.mk aZ bf) (Sl.mk aF aJ) dM dI dN (Value.mk bX bY bZ (Sl.mk aP aQ) (Sl.mk aR aS) cu cB cK) dD dY (Sl.mk bB bH) eB eD) (Inst.mk gX (Child.mk jv jw jy (Value.mk iK iL iM (Sl.mk gq gu) (Sl.mk gy gB) iN iO iP)) (Sl.mk kR kS) (Sl.mk iA iB) (Sl.mk gJ gK) nE fT nG (Value.mk kT kU kV (Sl.mk iQ iR) (Sl.mk iT iU) kW kX kY) nI qW (Sl.mk jF jG) qX qY) (Inst.mk gX (Child.mk jv jw jy (Value.mk iK iL iM (Sl.mk gq gu) (Sl.mk gy gB) iN iO iP)) (Sl.mk kR kS) (Sl.mk iA iB) (Sl.mk gJ gK) nE fT nG (Value.mk kT kU kV (Sl.mk iQ iR) (Sl.mk iT iU) kW kX kY) nI qW (Sl.mk jF jG) qX qY) false).bind fun ⟨⟨aji, ⟨aqo, aqp, aqr, ⟨ajL, ajM, ajN, ⟨aen, aeo⟩, ⟨aep, aer⟩, ajO, ajP, ajQ⟩⟩, ⟨aqs, aqt⟩, ⟨Zm, Zn⟩, ⟨Zo, Zp⟩, ajj, ajk, ajl, ⟨aqu, aqv, aqw, ⟨ajR, ajS⟩, ⟨ajT, ajU⟩, aqx, aqy, aqz⟩, aw3, aw4, ⟨aqA, aqB⟩, aw5, aw6⟩, wr8⟩ =>
       (P31 fu (Inst.mk aji (Child.mk aqo aqp aqr (Value.mk ajL ajM ajN (Sl.mk aen aeo) (Sl.mk aep aer) ajO ajP ajQ)) (Sl.mk aqs aqt) (Sl.mk Zm Zn) (Sl.mk Zo Zp) ajj ajk ajl (Value.mk aqu aqv aqw (Sl.mk ajR ajS) (Sl.mk ajT ajU) aqx aqy aqz) aw3 aw4 (Sl.mk aqA aqB) aw5 aw6)).bind fun ⟨aw7, ⟨aqC, aqD, aqE, ⟨ajV, ajW, ajX, ⟨aes, aeu⟩, ⟨aev, aew⟩, ajY, ajZ, aj0⟩⟩, ⟨aqF, aqG⟩, ⟨aqH, aqI⟩, ⟨aqJ, aqK⟩, aw8, aw9, axa, ⟨aqL, aqM, aqN, ⟨aj1, aj2⟩, ⟨aj3, aj4⟩, aqO, aqP, aqQ⟩, axb, axc, ⟨aqR, aqS⟩, axd, axe⟩ =>
        some (Inst.mk aw7 (Child.mk aqC aqD aqE (Value.mk ajV ajW ajX (Sl.mk aes aeu) (Sl.mk aev aew) ajY ajZ aj0)) (Sl.mk aqF aqG) (Sl.mk aqH aqI) (Sl.mk aqJ aqK) aw8 aw9 axa (Value.mk aqL aqM aqN (Sl.mk aj1 aj2) (Sl.mk aj3 aj4) aqO aqP aqQ) axb axc (Sl.mk aqR aqS) axd axe)
noncomputable def am9 (fu : Nat) (p41 : Value → Value → Option (Bool)) (p67 : (Sl Value) → (Sl Value) → Option (Bool)) (p68 : (Sl Field) → (Sl Field) → Option (Bool)) (TG : Field → Field → Option (Bool)) (a0 : Value) (a1 : Value) : Option (Bool) :=
 match a0 with
 | ⟨bn, gG, kr, ⟨aZ, bf⟩, ⟨aF, aJ⟩, dM, dI, dN⟩ =>
  match a1 with
  | ⟨gX, xw, GH, ⟨iA, iB⟩, ⟨gJ, gK⟩, nE, fT, nG⟩ =>
   (
    bif bn == gX then
     bif gG == xw then
      bif seq kr GH then
       (p67 (Sl.mk aZ bf) (Sl.mk iA iB)).bind fun r4 =>
        bif r4 then
         (p68 (Sl.mk aF aJ) (Sl.mk gJ gK)).bind fun r7 =>
          bif r7 then
           bif dM == nE then
            bif seq dI fT then
             some (dN == nG)
            else
             some false
           else
            some false
          else
           some false
        else
         some false
      else
       some false
     else
      some false
    else
     some false
   ).bind fun (q : Bool) =>
    match q with
    | i12 =>
     some i12
noncomputable def WM (fu : Nat) (p41 : Value → Value → Option (Bool)) (aj : List Value) (dR : List Value) : Int → Option (Int ⊕ (Int ⊕ Int))
 | i6 =>
  bif decide (i6 < (ln aj)) then
   (idx aj i6).bind fun ⟨gI, j6, qc, ⟨mo, mq⟩, ⟨jD, jE⟩, yA, qd, yB⟩ =>
    (idx dR i6).bind fun ⟨iG, mD, tV, ⟨nV, nW⟩, ⟨kH, kI⟩, Cw, tX, Cx⟩ =>
     (p41 (Value.mk gI j6 qc (Sl.mk mo mq) (Sl.mk jD jE) yA qd yB) (Value.mk iG mD tV (Sl.mk nV nW) (Sl.mk kH kI) Cw tX Cx)).bind fun zC =>
      bif !zC then
       some (.inr (.inr i6))
      else
       some (.inl (gD (i6 + 1)))
  else
   some (.inr (.inl i6))
noncomputable def aj5 (fu : Nat) (p41 : Value → Value → Option (Bool)) (p67 : (Sl Value) → (Sl Value) → Option (Bool)) (p68 : (Sl Field) → (Sl Field) → Option (Bool)) (TG : Field → Field → Option (Bool)) (a0 : Sl Value) (a1 : Sl Value) : Option (Bool) :=
 match a0 with
 | ⟨aj, bF⟩ =>
  match a1 with
  | ⟨dR, jI⟩ =>
   bif !((ln aj) == (ln dR)) then
    some false
   else
    (wl (WM fu p41 aj dR) 0).bind fun q =>
     match q with
     | .inl jP =>
      some true
     | .inr oQ =>
      some false
noncomputable def WO (fu : Nat) (TG : Field → Field → Option (Bool)) (aj : List Field) (dR : List Field) : Int → Option (Int ⊕ (Int ⊕ Int))
 | i6 =>
  bif decide (i6 < (ln aj)) then
   (idx aj i6).bind fun ⟨gI, ⟨qD, qE, qF, ⟨yC, yD⟩, ⟨yE, yF⟩, DZ, D5, D6⟩⟩ =>
    (idx dR i6).bind fun ⟨iG, ⟨uD, uE, uF, ⟨Aw, Ay⟩, ⟨Az, AA⟩, Gv, Gw, Gx⟩⟩ =>
     (TG (Field.mk gI (Value.mk qD qE qF (Sl.mk yC yD) (Sl.mk yE yF) DZ D5 D6)) (Field.mk iG (Value.mk uD uE uF (Sl.mk Aw Ay) (Sl.mk Az AA) Gv Gw Gx))).bind fun zC =>
      bif !zC then
       some (.inr (.inr i6))
      else
       some (.inl (gD (i6 + 1)))
  else
   some (.inr (.inl i6))
noncomputable def aj6 (fu : Nat) (p41 : Value → Value → Option (Bool)) (p67 : (Sl Value) → (Sl Value) → Option (Bool)) (p68 : (Sl Field) → (Sl Field) → Option (Bool)) (TG : Field → Field → Option (Bool)) (a0 : Sl Field) (a1 : Sl Field) : Option (Bool) :=
 match a0 with
 | ⟨aj, bF⟩ =>
  match a1 with
  | ⟨dR, jI⟩ =>
   bif !((ln aj) == (ln dR)) then
    some false
   else
    (wl (WO fu TG aj dR) 0).bind fun q =>
     match q with
     | .inl jP =>
      some true
     | .inr oQ =>
      some false
noncomputable def aj7 (fu : Nat) (p41 : Value → Value → Option (Bool)) (p67 : (Sl Value) → (Sl Value) → Option (Bool)) (p68 : (Sl Field) → (Sl Field) → Option (Bool)) (TG : Field → Field → Option (Bool)) (a0 : Field) (a1 : Field) : Option (Bool) :=
 match a0 with
 | ⟨bn, ⟨bK, aL, bL, ⟨qG, qH⟩, ⟨qI, qJ⟩, yG, yH, yI⟩⟩ =>
  match a1 with
  | ⟨gX, ⟨jv, jw, jy, ⟨Gy, Gz⟩, ⟨GA, GD⟩, Qb, Qc, Qd⟩⟩ =>
   (
    bif seq bn gX then
     (p41 (Value.mk bK aL bL (Sl.mk qG qH) (Sl.mk qI qJ) yG yH yI) (Value.mk jv jw jy (Sl.mk Gy Gz) (Sl.mk GA GD) Qb Qc Qd)).bind fun r2 =>
      some r2
    else
     some false
   ).bind fun (q : Bool) =>
    match q with
    | i4 =>
     some i4
mutual
noncomputable def P41 : Nat → Value → Value → Option (Bool)
 | 0 => fun _ _ => none
 | fu + 1 => fun a0 a1 => am9 fu (P41 fu) (P67 fu) (P68 fu) (P91 fu) a0 a1
noncomputable def P67 : Nat → (Sl Value) → (Sl Value) → Option (Bool)
 | 0 => fun _ _ => none
 | fu + 1 => fun a0 a1 => aj5 fu (P41 fu) (P67 fu) (P68 fu) (P91 fu) a0 a1
noncomputable def P68 : Nat → (Sl Field) → (Sl Field) → Option (Bool)
 | 0 => fun _ _ => none
 | fu + 1 => fun a0 a1 => aj6 fu (P41 fu) (P67 fu) (P68 fu) (P91 fu) a0 a1
noncomputable def P91 : Nat → Field → Field → Option (Bool)
 | 0 => fun _ _ => none
 | fu + 1 => fun a0 a1 => aj7 fu (P41 fu) (P67 fu) (P68 fu) (P91 fu) a0 a1
end
noncomputable def P37 (fu : Nat) (a0 : Child) (a1 : Child) : Option (Bool) :=
 match a0 with
 | ⟨bn, gG, kr, ⟨lG, lH, lJ, ⟨jd, je⟩, ⟨jf, jh⟩, lK, lM, lQ⟩⟩ =>
  match a1 with
  | ⟨gX, xw, GH, ⟨Rl, Rm, Rn, ⟨Hg, Hl⟩, ⟨Ho, Hq⟩, Rp, Rq, Rs⟩⟩ =>
   (
    bif seq bn gX then
     bif gG == xw then
      bif seq kr GH then
       (P41 fu (Value.mk lG lH lJ (Sl.mk jd je) (Sl.mk jf jh) lK lM lQ) (Value.mk Rl Rm Rn (Sl.mk Hg Hl) (Sl.mk Ho Hq) Rp Rq Rs)).bind fun r4 =>
        some r4
      else
       some false
     else
      some false
    else
     some false
   ).bind fun (q : Bool) =>
    match q with
    | i6 =>
     some i6
noncomputable def Nt (fu : Nat) (aj : List ByteArray) (dR : List ByteArray) : Int → Option (Int ⊕ (Int ⊕ Int))
 | i6 =>
  bif decide (i6 < (ln aj)) then
   (idx aj i6).bind fun x10 =>
    (idx dR i6).bind fun WQ =>
     bif !(seq x10 WQ) then
      some (.inr (.inr i6))
     else
      some (.inl (gD (i6 + 1)))
  else
   some (.inr (.inl i6))
noncomputable def aj8 (fu : Nat) (a0 : Sl ByteArray) (a1 : Sl ByteArray) : Option (Bool) :=
 match a0 with
 | ⟨aj, bF⟩ =>
  match a1 with
  | ⟨dR, jI⟩ =>
   bif !((ln aj) == (ln dR)) then
    some false
   else
    (wl (Nt fu aj dR) 0).bind fun q =>
     match q with
     | .inl o16 =>
      some true
     | .inr CO =>
      some false
noncomputable def ZO (fu : Nat) (zK : Act → Act → Option (Bool)) (za : Expr → Expr → Option (Bool)) (zL : (Sl Expr) → (Sl Expr) → Option (Bool)) (Xr : (Sl Act) → (Sl Act) → Option (Bool)) (a0 : Act) (a1 : Act) : Option (Bool) :=
 match a0 with
 | ⟨bn, gG, ⟨lT, lU, lV, ⟨ji, jk⟩, ⟨jl, jm⟩, ⟨yX, yY⟩, lW, ⟨yZ, y5⟩, ⟨y7, y8⟩, FK⟩⟩ =>
  match a1 with
  | ⟨gX, xw, ⟨Rt, Ru, Rv, ⟨Hr, Ht⟩, ⟨Hu, Hw⟩, ⟨ab3, ab4⟩, Rw, ⟨ab5, ab6⟩, ⟨ab7, ab8⟩, aj9⟩⟩ =>
   (
    bif bn == gX then
     bif seq gG xw then
      (za (Expr.mk lT lU lV (Sl.mk ji jk) (Sl.mk jl jm) (Sl.mk yX yY) lW (Sl.mk yZ y5) (Sl.mk y7 y8) FK) (Expr.mk Rt Ru Rv (Sl.mk Hr Ht) (Sl.mk Hu Hw) (Sl.mk ab3 ab4) Rw (Sl.mk ab5 ab6) (Sl.mk ab7 ab8) aj9)).bind fun r3 =>
       some r3
     else
      some false
    else
     some false
   ).bind fun (q : Bool) =>
    match q with
    | i5 =>
     some i5
noncomputable def aex (fu : Nat) (zK : Act → Act → Option (Bool)) (za : Expr → Expr → Option (Bool)) (zL : (Sl Expr) → (Sl Expr) → Option (Bool)) (Xr : (Sl Act) → (Sl Act) → Option (Bool)) (a0 : Expr) (a1 : Expr) : Option (Bool) :=
 match a0 with
 | ⟨bn, gG, kr, ⟨aZ, bf⟩, ⟨aF, aJ⟩, ⟨jS, jT⟩, dI, ⟨jU, jV⟩, ⟨wL, wM⟩, dD⟩ =>
  match a1 with
  | ⟨gX, xw, GH, ⟨iA, iB⟩, ⟨gJ, gK⟩, ⟨Rx, Ry⟩, fT, ⟨Rz, RA⟩, ⟨akb, akc⟩, nI⟩ =>
   (
    bif bn == gX then
     bif gG == xw then
      bif seq kr GH then
       (zL (Sl.mk aZ bf) (Sl.mk iA iB)).bind fun r4 =>
        bif r4 then
         (aj8 fu (Sl.mk aF aJ) (Sl.mk gJ gK)).bind fun r7 =>
          bif r7 then
           (zL (Sl.mk jS jT) (Sl.mk Rx Ry)).bind fun Xn =>
            bif Xn then
             bif dI == fT then
              (zL (Sl.mk jU jV) (Sl.mk Rz RA)).bind fun zC =>
               bif zC then
                (Xr (Sl.mk wL wM) (Sl.mk akb akc)).bind fun r17 =>
                 bif r17 then
                  some (seq dD nI)
                 else
                  some false
               else
                some false
             else
              some false
            else
             some false
          else
           some false
        else
         some false
      else
       some false
     else
      some false
    else
     some false
   ).bind fun (q : Bool) =>
    match q with
    | i20 =>
     some i20
noncomputable def Nu (fu : Nat) (za : Expr → Expr → Option (Bool)) (aj : List Expr) (dR : List Expr) : Int → Option (Int ⊕ (Int ⊕ Int))
 | i6 =>
  bif decide (i6 < (ln aj)) then
   (idx aj i6).bind fun ⟨gI, j6, qc, ⟨mo, mq⟩, ⟨jD, jE⟩, ⟨wN, wO⟩, qd, ⟨wP, wQ⟩, ⟨Pm, Pn⟩, tH⟩ =>
    (idx dR i6).bind fun ⟨iG, mD, tV, ⟨nV, nW⟩, ⟨kH, kI⟩, ⟨Bh, Bj⟩, tX, ⟨Bl, Bn⟩, ⟨VH, VI⟩, yJ⟩ =>
     (za (Expr.mk gI j6 qc (Sl.mk mo mq) (Sl.mk jD jE) (Sl.mk wN wO) qd (Sl.mk wP wQ) (Sl.mk Pm Pn) tH) (Expr.mk iG mD tV (Sl.mk nV nW) (Sl.mk kH kI) (Sl.mk Bh Bj) tX (Sl.mk Bl Bn) (Sl.mk VH VI) yJ)).bind fun zC =>
      bif !zC then
       some (.inr (.inr i6))
      else
       some (.inl (gD (i6 + 1)))
  else
   some (.inr (.inl i6))
noncomputable def aey (fu : Nat) (zK : Act → Act → Option (Bool)) (za : Expr → Expr → Option (Bool)) (zL : (Sl Expr) → (Sl Expr) → Option (Bool)) (Xr : (Sl Act) → (Sl Act) → Option (Bool)) (a0 : Sl Expr) (a1 : Sl Expr) : Option (Bool) :=
 match a0 with
 | ⟨aj, bF⟩ =>
  match a1 with
  | ⟨dR, jI⟩ =>
   bif !((ln aj) == (ln dR)) then
    some false
   else
    (wl (Nu fu za aj dR) 0).bind fun q =>
     match q with
     | .inl jP =>
      some true
     | .inr oQ =>
      some false
noncomputable def WR (fu : Nat) (zK : Act → Act → Option (Bool)) (aj : List Act) (dR : List Act) : Int → Option (Int ⊕ (Int ⊕ Int))
 | i6 =>
  bif decide (i6 < (ln aj)) then
   (idx aj i6).bind fun ⟨gI, j6, ⟨wR, wS, wT, ⟨qK, qL⟩, ⟨qM, qN⟩, ⟨Jh, Ji⟩, wU, ⟨Jj, Jk⟩, ⟨Jl, Jm⟩, Po⟩⟩ =>
    (idx dR i6).bind fun ⟨iG, mD, ⟨AY, AZ, A8, ⟨uR, uS⟩, ⟨uT, uU⟩, ⟨MS, MU⟩, A9, ⟨MV, MW⟩, ⟨MX, MZ⟩, VG⟩⟩ =>
     (zK (Act.mk gI j6 (Expr.mk wR wS wT (Sl.mk qK qL) (Sl.mk qM qN) (Sl.mk Jh Ji) wU (Sl.mk Jj Jk) (Sl.mk Jl Jm) Po)) (Act.mk iG mD (Expr.mk AY AZ A8 (Sl.mk uR uS) (Sl.mk uT uU) (Sl.mk MS MU) A9 (Sl.mk MV MW) (Sl.mk MX MZ) VG))).bind fun zC =>
      bif !zC then
       some (.inr (.inr i6))
      else
       some (.inl (gD (i6 + 1)))
  else
   some (.inr (.inl i6))
noncomputable def akd (fu : Nat) (zK : Act → Act → Option (Bool)) (za : Expr → Expr → Option (Bool)) (zL : (Sl Expr) → (Sl Expr) → Option (Bool)) (Xr : (Sl Act) → (Sl Act) → Option (Bool)) (a0 : Sl Act) (a1 : Sl Act) : Option (Bool) :=
 match a0 with
 | ⟨aj, bF⟩ =>
  match a1 with
  | ⟨dR, jI⟩ =>
   bif !((ln aj) == (ln dR)) then
    some false
   else
    (wl (WR fu zK aj dR) 0).bind fun q =>
     match q with
     | .inl jP =>
      some true
     | .inr oQ =>
      some false
mutual
noncomputable def Sk : Nat → Act → Act → Option (Bool)
 | 0 => fun _ _ => none
 | fu + 1 => fun a0 a1 => ZO fu (Sk fu) (ZP fu) (ab9 fu) (P90 fu) a0 a1
noncomputable def ZP : Nat → Expr → Expr → Option (Bool)
 | 0 => fun _ _ => none
 | fu + 1 => fun a0 a1 => aex fu (Sk fu) (ZP fu) (ab9 fu) (P90 fu) a0 a1
noncomputable def ab9 : Nat → (Sl Expr) → (Sl Expr) → Option (Bool)
 | 0 => fun _ _ => none
 | fu + 1 => fun a0 a1 => aey fu (Sk fu) (ZP fu) (ab9 fu) (P90 fu) a0 a1
noncomputable def P90 : Nat → (Sl Act) → (Sl Act) → Option (Bool)
 | 0 => fun _ _ => none
 | fu + 1 => fun a0 a1 => akd fu (Sk fu) (ZP fu) (ab9 fu) (P90 fu) a0 a1
end
noncomputable def P66 (fu : Nat) (a0 : Cell) (a1 : Cell) : Option (Bool) :=
 match a0 with
 | ⟨bn, gG, ⟨lT, lU, lV, ⟨ji, jk⟩, ⟨jl, jm⟩, tJ, lW, tK⟩, ⟨lG, lH, lJ, ⟨jd, je⟩, ⟨jf, jh⟩, lK, lM, lQ⟩, ⟨aF, aJ⟩, ⟨jS, jT⟩, ⟨tL, tN⟩, ⟨jU, jV⟩, Fv, dD, ⟨tO, tQ⟩, ⟨bB, bH⟩⟩ =>
  match a1 with
  | ⟨gX, xw, ⟨Rt, Ru, Rv, ⟨Hr, Ht⟩, ⟨Hu, Hw⟩, ake, Rw, akf⟩, ⟨Rl, Rm, Rn, ⟨Hg, Hl⟩, ⟨Ho, Hq⟩, Rp, Rq, Rs⟩, ⟨gJ, gK⟩, ⟨Rx, Ry⟩, ⟨akg, akh⟩, ⟨Rz, RA⟩, as8, nI, ⟨aki, akj⟩, ⟨jF, jG⟩⟩ =>
   (
    bif bn == gX then
     bif seq gG xw then
      (P41 fu (Value.mk lT lU lV (Sl.mk ji jk) (Sl.mk jl jm) tJ lW tK) (Value.mk Rt Ru Rv (Sl.mk Hr Ht) (Sl.mk Hu Hw) ake Rw akf)).bind fun r3 =>
       bif r3 then
        (P41 fu (Value.mk lG lH lJ (Sl.mk jd je) (Sl.mk jf jh) lK lM lQ) (Value.mk Rl Rm Rn (Sl.mk Hg Hl) (Sl.mk Ho Hq) Rp Rq Rs)).bind fun r6 =>
         bif r6 then
          (P67 fu (Sl.mk aF aJ) (Sl.mk gJ gK)).bind fun r9 =>
           bif r9 then
            (P90 fu (Sl.mk jS jT) (Sl.mk Rx Ry)).bind fun LZ =>
             bif LZ then
              (P90 fu (Sl.mk tL tN) (Sl.mk akg akh)).bind fun r15 =>
               bif r15 then
                (P68 fu (Sl.mk jU jV) (Sl.mk Rz RA)).bind fun YL =>
                 bif YL then
                  bif Fv == as8 then
                   bif dD == nI then
                    (P90 fu (Sl.mk tO tQ) (Sl.mk aki akj)).bind fun r23 =>
                     bif r23 then
                      (P68 fu (Sl.mk bB bH) (Sl.mk jF jG)).bind fun r26 =>
                       some r26
                     else
                      some false
                   else
                    some false
                  else
                   some false
                 else
                  some false
               else
                some false
             else
              some false
           else
            some false
         else
          some false
       else
        some false
     else
      some false
    else
     some false
   ).bind fun (q : Bool) =>
    match q with
    | i28 =>
     some i28
noncomputable def WS (fu : Nat) (aj : List Cell) (dR : List Cell) : Int → Option (Int ⊕ (Int ⊕ Int))
 | i6 =>
  bif decide (i6 < (ln aj)) then
   (idx aj i6).bind fun ⟨gI, j6, ⟨wR, wS, wT, ⟨qK, qL⟩, ⟨qM, qN⟩, Pp, wU, Pq⟩, ⟨wV, wW, wX, ⟨qO, qP⟩, ⟨qQ, qR⟩, wY, wZ, w9⟩, ⟨jD, jE⟩, ⟨wN, wO⟩, ⟨Pt, Pv⟩, ⟨wP, wQ⟩, YN, tH, ⟨Pw, Px⟩, ⟨xq, xu⟩⟩ =>
    (idx dR i6).bind fun ⟨iG, mD, ⟨AY, AZ, A8, ⟨uR, uS⟩, ⟨uT, uU⟩, Vt, A9, Vu⟩, ⟨Ba, Bb, Bc, ⟨uV, uW⟩, ⟨uX, uY⟩, Bd, Bf, Bg⟩, ⟨kH, kI⟩, ⟨Bh, Bj⟩, ⟨Vv, Vw⟩, ⟨Bl, Bn⟩, ad2, yJ, ⟨Vx, Vy⟩, ⟨Bo, Bp⟩⟩ =>
     (P66 fu (Cell.mk gI j6 (Value.mk wR wS wT (Sl.mk qK qL) (Sl.mk qM qN) Pp wU Pq) (Value.mk wV wW wX (Sl.mk qO qP) (Sl.mk qQ qR) wY wZ w9) (Sl.mk jD jE) (Sl.mk wN wO) (Sl.mk Pt Pv) (Sl.mk wP wQ) YN tH (Sl.mk Pw Px) (Sl.mk xq xu)) (Cell.mk iG mD (Value.mk AY AZ A8 (Sl.mk uR uS) (Sl.mk uT uU) Vt A9 Vu) (Value.mk Ba Bb Bc (Sl.mk uV uW) (Sl.mk uX uY) Bd Bf Bg) (Sl.mk kH kI) (Sl.mk Bh Bj) (Sl.mk Vv Vw) (Sl.mk Bl Bn) ad2 yJ (Sl.mk Vx Vy) (Sl.mk Bo Bp))).bind fun zC =>
      bif !zC then
       some (.inr (.inr i6))
      else
       some (.inl (gD (i6 + 1)))
  else
   some (.inr (.inl i6))
noncomputable def P38 (fu : Nat) (a0 : Sl Cell) (a1 : Sl Cell) : Option (Bool) :=
 match a0 with
 | ⟨aj, bF⟩ =>
  match a1 with
  | ⟨dR, jI⟩ =>
   bif !((ln aj) == (ln dR)) then
    some false
   else
    (wl (WS fu aj dR) 0).bind fun q =>
     match q with
     | .inl jP =>
      some true
     | .inr oQ =>
      some false
noncomputable def WU (fu : Nat) (aj : List Child) (dR : List Child) : Int → Option (Int ⊕ (Int ⊕ Int))
 | i6 =>
  bif decide (i6 < (ln aj)) then
   (idx aj i6).bind fun ⟨gI, j6, qc, ⟨wV, wW, wX, ⟨qO, qP⟩, ⟨qQ, qR⟩, wY, wZ, w9⟩⟩ =>
    (idx dR i6).bind fun ⟨iG, mD, tV, ⟨Ba, Bb, Bc, ⟨uV, uW⟩, ⟨uX, uY⟩, Bd, Bf, Bg⟩⟩ =>
     (P37 fu (Child.mk gI j6 qc (Value.mk wV wW wX (Sl.mk qO qP) (Sl.mk qQ qR) wY wZ w9)) (Child.mk iG mD tV (Value.mk Ba Bb Bc (Sl.mk uV uW) (Sl.mk uX uY) Bd Bf Bg))).bind fun zC =>
      bif !zC then
       some (.inr (.inr i6))
      else
       some (.inl (gD (i6 + 1)))
  else
   some (.inr (.inl i6))
noncomputable def P39 (fu : Nat) (a0 : Sl Child) (a1 : Sl Child) : Option (Bool) :=
 match a0 with
 | ⟨aj, bF⟩ =>
  match a1 with
  | ⟨dR, jI⟩ =>
   bif !((ln aj) == (ln dR)) then
    some false
   else
    (wl (WU fu aj dR) 0).bind fun q =>
     match q with
     | .inl jP =>
      some true
     | .inr oQ =>
      some false
noncomputable def ana (fu : Nat) (p12 : Inst → Inst → Option (Bool)) (p40 : (Sl Inst) → (Sl Inst) → Option (Bool)) (a0 : Inst) (a1 : Inst) : Option (Bool) :=
 match a0 with
 | ⟨bn, ⟨bK, aL, bL, ⟨aT, aU, aV, ⟨av, ay⟩, ⟨aA, aB⟩, aW, aX, aY⟩⟩, ⟨bU, cO⟩, ⟨aZ, bf⟩, ⟨aF, aJ⟩, dM, dI, dN, ⟨bX, bY, bZ, ⟨aP, aQ⟩, ⟨aR, aS⟩, cu, cB, cK⟩, dD, dY, ⟨bB, bH⟩, eB, eD⟩ =>
  match a1 with
  | ⟨gX, ⟨jv, jw, jy, ⟨iK, iL, iM, ⟨gq, gu⟩, ⟨gy, gB⟩, iN, iO, iP⟩⟩, ⟨kR, kS⟩, ⟨iA, iB⟩, ⟨gJ, gK⟩, nE, fT, nG, ⟨kT, kU, kV, ⟨iQ, iR⟩, ⟨iT, iU⟩, kW, kX, kY⟩, nI, qW, ⟨jF, jG⟩, qX, qY⟩ =>
   (
    bif bn == gX then
     (P37 fu (Child.mk bK aL bL (Value.mk aT aU aV (Sl.mk av ay) (Sl.mk aA aB) aW aX aY)) (Child.mk jv jw jy (Value.mk iK iL iM (Sl.mk gq gu) (Sl.mk gy gB) iN iO iP))).bind fun r2 =>
      bif r2 then
       (P38 fu (Sl.mk bU cO) (Sl.mk kR kS)).bind fun r5 =>
        bif r5 then
         (P39 fu (Sl.mk aZ bf) (Sl.mk iA iB)).bind fun r8 =>
          bif r8 then
           (p40 (Sl.mk aF aJ) (Sl.mk gJ gK)).bind fun r11 =>
            bif r11 then
             bif dM == nE then
              bif dI == fT then
               bif dN == nG then
                (P41 fu (Value.mk bX bY bZ (Sl.mk aP aQ) (Sl.mk aR aS) cu cB cK) (Value.mk kT kU kV (Sl.mk iQ iR) (Sl.mk iT iU) kW kX kY)).bind fun r17 =>
                 bif r17 then
                  bif seq dD nI then
                   bif dY == qW then
                    (p40 (Sl.mk bB bH) (Sl.mk jF jG)).bind fun r22 =>
                     bif r22 then
                      bif eB == qX then
                       some (eD == qY)
                      else
                       some false
                     else
                      some false
                   else
                    some false
                  else
                   some false
                 else
                  some false
               else
                some false
              else
               some false
             else
              some false
            else
             some false
          else
           some false
        else
         some false
      else
       some false
    else
     some false
   ).bind fun (q : Bool) =>
    match q with
    | i26 =>
     some i26
noncomputable def WV (fu : Nat) (p12 : Inst → Inst → Option (Bool)) (aj : List Inst) (dR : List Inst) : Int → Option (Int ⊕ (Int ⊕ Int))
 | i6 =>
  bif decide (i6 < (ln aj)) then
   (idx aj i6).bind fun ⟨gI, ⟨qD, qE, qF, ⟨Jo, Jp, Jq, ⟨D7, D8⟩, ⟨D9, Ea⟩, Jr, Js, Jt⟩⟩, ⟨Py, Pz⟩, ⟨mo, mq⟩, ⟨jD, jE⟩, yA, qd, yB, ⟨PD, PE, PG, ⟨Ju, Jv⟩, ⟨Jw, Jy⟩, PI, PK, PL⟩, tH, YO, ⟨xq, xu⟩, YP, YQ⟩ =>
    (idx dR i6).bind fun ⟨iG, ⟨uD, uE, uF, ⟨M4, M5, M6, ⟨JK, JL⟩, ⟨JM, JN⟩, M7, M8, M9⟩⟩, ⟨VY, VZ⟩, ⟨nV, nW⟩, ⟨kH, kI⟩, Cw, tX, Cx, ⟨V3, V4, V5, ⟨Na, Nb⟩, ⟨Nc, Nf⟩, V6, V7, V8⟩, yJ, ad7, ⟨Bo, Bp⟩, ad8, ad9⟩ =>
     (p12 (Inst.mk gI (Child.mk qD qE qF (Value.mk Jo Jp Jq (Sl.mk D7 D8) (Sl.mk D9 Ea) Jr Js Jt)) (Sl.mk Py Pz) (Sl.mk mo mq) (Sl.mk jD jE) yA qd yB (Value.mk PD PE PG (Sl.mk Ju Jv) (Sl.mk Jw Jy) PI PK PL) tH YO (Sl.mk xq xu) YP YQ) (Inst.mk iG (Child.mk uD uE uF (Value.mk M4 M5 M6 (Sl.mk JK JL) (Sl.mk JM JN) M7 M8 M9)) (Sl.mk VY VZ) (Sl.mk nV nW) (Sl.mk kH kI) Cw tX Cx (Value.mk V3 V4 V5 (Sl.mk Na Nb) (Sl.mk Nc Nf) V6 V7 V8) yJ ad7 (Sl.mk Bo Bp) ad8 ad9)).bind fun zC =>
      bif !zC then
       some (.inr (.inr i6))
      else
       some (.inl (gD (i6 + 1)))
  else
   some (.inr (.inl i6))
noncomputable def anb (fu : Nat) (p12 : Inst → Inst → Option (Bool)) (p40 : (Sl Inst) → (Sl Inst) → Option (Bool)) (a0 : Sl Inst) (a1 : Sl Inst) : Option (Bool) :=
 match a0 with
 | ⟨aj, bF⟩ =>
  match a1 with
  | ⟨dR, jI⟩ =>
   bif !((ln aj) == (ln dR)) then
    some false
   else
    (wl (WV fu p12 aj dR) 0).bind fun q =>
     match q with
     | .inl jP =>
      some true
     | .inr oQ =>
      some false
mutual
noncomputable def P12 : Nat → Inst → Inst → Option (Bool)
 | 0 => fun _ _ => none
 | fu + 1 => fun a0 a1 => ana fu (P12 fu) (P40 fu) a0 a1
noncomputable def P40 : Nat → (Sl Inst) → (Sl Inst) → Option (Bool)
 | 0 => fun _ _ => none
 | fu + 1 => fun a0 a1 => anb fu (P12 fu) (P40 fu) a0 a1
end
noncomputable def TH (fu : Nat) (a1 : Int) (nX : List Inst) (TI : List Inst) (zM : List Inst) : Int → Option (Int ⊕ (Int ⊕ Int))
 | i50 =>
  bif decide (i50 < (ln zM)) then
   (
    bif decide ((Int.tmod (gD a1) (ln nX)) < i50) then
     some (gD (i50 + (gD ((ln TI) - 1))))
    else
     some i50
   ).bind fun (q : Int) =>
    match q with
    | i55 =>
     (idx zM i50).bind fun ⟨aqT, ⟨as9, ata, atb, ⟨anc, ane, anf, ⟨akk, akl⟩, ⟨akm, akn⟩, ang, anh, ani⟩⟩, ⟨atc, atd⟩, ⟨ate, atf⟩, ⟨atg, ath⟩, axf, axg, axh, ⟨ati, atj, atl, ⟨anj, ank⟩, ⟨anl, anm⟩, atm, atn, ato⟩, axi, axj, ⟨atp, atq⟩, axk, axl⟩ =>
      (idx nX i55).bind fun ⟨aqU, ⟨atr, att, atu, ⟨ano, anp, anq, ⟨ako, akp⟩, ⟨akq, akr⟩, anr, ant, anu⟩⟩, ⟨atv, atw⟩, ⟨atx, aty⟩, ⟨atz, atA⟩, axn, axo, axp, ⟨atB, atC, atD, ⟨anv, anw⟩, ⟨anx, anz⟩, atE, atF, atG⟩, axq, axr, ⟨atH, atI⟩, axt, axu⟩ =>
       bif !(aqT == aqU) then
        some (.inr (.inr i50))
       else
        some (.inl (gD (i50 + 1)))
  else
   some (.inr (.inl i50))
noncomputable def P3 (fu : Nat) (a0 : Inst) (a1 : Int) : Option (Bool) :=
 match a0 with
 | ⟨bn, ⟨bK, aL, bL, ⟨aT, aU, aV, ⟨av, ay⟩, ⟨aA, aB⟩, aW, aX, aY⟩⟩, ⟨bU, cO⟩, ⟨aZ, bf⟩, ⟨aF, aJ⟩, dM, dI, dN, ⟨bX, bY, bZ, ⟨aP, aQ⟩, ⟨aR, aS⟩, cu, cB, cK⟩, dD, dY, ⟨bB, bH⟩, eB, eD⟩ =>
  (
   (P7 fu).bind fun r1 =>
    bif !(!r1) then
     (P8 fu (Inst.mk bn (Child.mk bK aL bL (Value.mk aT aU aV (Sl.mk av ay) (Sl.mk aA aB) aW aX aY)) (Sl.mk bU cO) (Sl.mk aZ bf) (Sl.mk aF aJ) dM dI dN (Value.mk bX bY bZ (Sl.mk aP aQ) (Sl.mk aR aS) cu cB cK) dD dY (Sl.mk bB bH) eB eD)).bind fun r4 =>
      bif !r4 then
       (P9 fu (Inst.mk bn (Child.mk bK aL bL (Value.mk aT aU aV (Sl.mk av ay) (Sl.mk aA aB) aW aX aY)) (Sl.mk bU cO) (Sl.mk aZ bf) (Sl.mk aF aJ) dM dI dN (Value.mk bX bY bZ (Sl.mk aP aQ) (Sl.mk aR aS) cu cB cK) dD dY (Sl.mk bB bH) eB eD)).bind fun r7 =>
        some (!r7)
      else
       some true
    else
     some true
  ).bind fun (q : Bool) =>
   match q with
   | i9 =>
    bif i9 then
     (P7 fu).bind fun r11 =>
      some r11
    else
     (P10 fu (Inst.mk bn (Child.mk bK aL bL (Value.mk aT aU aV (Sl.mk av ay) (Sl.mk aA aB) aW aX aY)) (Sl.mk bU cO) (Sl.mk aZ bf) (Sl.mk aF aJ) dM dI dN (Value.mk bX bY bZ (Sl.mk aP aQ) (Sl.mk aR aS) cu cB cK) dD dY (Sl.mk bB bH) eB eD)).bind fun ⟨nX, JJ⟩ =>
      bif (ln nX == 0) then none else
       (idx nX (Int.tmod (gD a1) (ln nX))).bind fun ⟨xQ, ⟨pO, Br, Bt, ⟨uZ, u6, u7, ⟨rA, rC⟩, ⟨rD, rE⟩, vg, vk, vo⟩⟩, ⟨Bu, Bv⟩, ⟨Bw, Bz⟩, ⟨BA, BD⟩, Kg, Kh, Ki, ⟨BF, BG, BH, ⟨vv, vw⟩, ⟨vB, vC⟩, BI, BJ, BK⟩, Kj, Kk, ⟨BL, BM⟩, Kl, Km⟩ =>
        (P11 fu (Inst.mk bn (Child.mk bK aL bL (Value.mk aT aU aV (Sl.mk av ay) (Sl.mk aA aB) aW aX aY)) (Sl.mk bU cO) (Sl.mk aZ bf) (Sl.mk aF aJ) dM dI dN (Value.mk bX bY bZ (Sl.mk aP aQ) (Sl.mk aR aS) cu cB cK) dD dY (Sl.mk bB bH) eB eD) (Inst.mk xQ (Child.mk pO 4 ByteArray.empty (Value.mk 0 0 ByteArray.empty (Sl.mk [] (some [])) (Sl.mk [] (some [])) 0 ByteArray.empty false)) (Sl.mk [] (some [])) (Sl.mk [] (some [])) (Sl.mk [] (some [])) 0 false false (Value.mk 0 0 ByteArray.empty (Sl.mk [] (some [])) (Sl.mk [] (some [])) 0 ByteArray.empty false) ByteArray.empty false (Sl.mk [] (some [])) false false)).bind fun ⟨Kn, ⟨BN, BO, BP, ⟨vD, vE, vF, ⟨rF, rG⟩, ⟨rH, rJ⟩, vG, vH, vI⟩⟩, ⟨BQ, BR⟩, ⟨BS, BU⟩, ⟨BX, BZ⟩, Ko, Kq, Kr, ⟨Ca, Cb, Cc, ⟨vJ, vK⟩, ⟨vL, vM⟩, Ce, Cg, Ch⟩, Kt, Ku, ⟨Ci, Cj⟩, Kv, Kw⟩ =>
         (
          (P11 fu (Inst.mk bn (Child.mk bK aL bL (Value.mk aT aU aV (Sl.mk av ay) (Sl.mk aA aB) aW aX aY)) (Sl.mk bU cO) (Sl.mk aZ bf) (Sl.mk aF aJ) dM dI dN (Value.mk bX bY bZ (Sl.mk aP aQ) (Sl.mk aR aS) cu cB cK) dD dY (Sl.mk bB bH) eB eD) (Inst.mk xQ (Child.mk pO Br Bt (Value.mk uZ u6 u7 (Sl.mk rA rC) (Sl.mk rD rE) vg vk vo)) (Sl.mk Bu Bv) (Sl.mk Bw Bz) (Sl.mk BA BD) Kg Kh Ki (Value.mk BF BG BH (Sl.mk vv vw) (Sl.mk vB vC) BI BJ BK) Kj Kk (Sl.mk BL BM) Kl Km)).bind fun ⟨aqV, ⟨aks, akt, aku, ⟨aez, aeA, aeB, ⟨ZQ, ZR⟩, ⟨ZT, ZU⟩, aeC, aeD, aeE⟩⟩, ⟨akv, akw⟩, ⟨akx, aky⟩, ⟨akz, akA⟩, aqW, aqX, aqY, ⟨akB, akC, akD, ⟨aeF, aeG⟩, ⟨aeH, aeI⟩, akE, akF, akG⟩, aqZ, aq0, ⟨akH, akI⟩, aq1, aq2⟩ =>
           (P12 fu (Inst.mk aqV (Child.mk aks akt aku (Value.mk aez aeA aeB (Sl.mk ZQ ZR) (Sl.mk ZT ZU) aeC aeD aeE)) (Sl.mk akv akw) (Sl.mk akx aky) (Sl.mk akz akA) aqW aqX aqY (Value.mk akB akC akD (Sl.mk aeF aeG) (Sl.mk aeH aeI) akE akF akG) aqZ aq0 (Sl.mk akH akI) aq1 aq2) (Inst.mk bn (Child.mk bK aL bL (Value.mk aT aU aV (Sl.mk av ay) (Sl.mk aA aB) aW aX aY)) (Sl.mk bU cO) (Sl.mk aZ bf) (Sl.mk aF aJ) dM dI dN (Value.mk bX bY bZ (Sl.mk aP aQ) (Sl.mk aR aS) cu cB cK) dD dY (Sl.mk bB bH) eB eD)).bind fun r24 =>
            bif !(!r24) then
             (P11 fu (Inst.mk Kn (Child.mk BN BO BP (Value.mk vD vE vF (Sl.mk rF rG) (Sl.mk rH rJ) vG vH vI)) (Sl.mk BQ BR) (Sl.mk BS BU) (Sl.mk BX BZ) Ko Kq Kr (Value.mk Ca Cb Cc (Sl.mk vJ vK) (Sl.mk vL vM) Ce Cg Ch) Kt Ku (Sl.mk Ci Cj) Kv Kw) (Inst.mk xQ (Child.mk pO Br Bt (Value.mk uZ u6 u7 (Sl.mk rA rC) (Sl.mk rD rE) vg vk vo)) (Sl.mk Bu Bv) (Sl.mk Bw Bz) (Sl.mk BA BD) Kg Kh Ki (Value.mk BF BG BH (Sl.mk vv vw) (Sl.mk vB vC) BI BJ BK) Kj Kk (Sl.mk BL BM) Kl Km)).bind fun ⟨aq3, ⟨akJ, akK, akL, ⟨aeJ, aeK, aeL, ⟨ZV, ZW⟩, ⟨ZX, ZY⟩, aeM, aeN, aeO⟩⟩, ⟨akM, akN⟩, ⟨akO, akP⟩, ⟨akQ, akR⟩, aq4, aq5, aq6, ⟨akS, akT, akU, ⟨aeP, aeQ⟩, ⟨aeR, aeS⟩, akV, akW, akX⟩, aq7, aq8, ⟨akY, akZ⟩, aq9, ara⟩ =>
              (P12 fu (Inst.mk aq3 (Child.mk akJ akK akL (Value.mk aeJ aeK aeL (Sl.mk ZV ZW) (Sl.mk ZX ZY) aeM aeN aeO)) (Sl.mk akM akN) (Sl.mk akO akP) (Sl.mk akQ akR) aq4 aq5 aq6 (Value.mk akS akT akU (Sl.mk aeP aeQ) (Sl.mk aeR aeS) akV akW akX) aq7 aq8 (Sl.mk akY akZ) aq9 ara) (Inst.mk bn (Child.mk bK aL bL (Value.mk aT aU aV (Sl.mk av ay) (Sl.mk aA aB) aW aX aY)) (Sl.mk bU cO) (Sl.mk aZ bf) (Sl.mk aF aJ) dM dI dN (Value.mk bX bY bZ (Sl.mk aP aQ) (Sl.mk aR aS) cu cB cK) dD dY (Sl.mk bB bH) eB eD)).bind fun r29 =>
               bif !(!r29) then
                (P9 fu (Inst.mk Kn (Child.mk BN BO BP (Value.mk vD vE vF (Sl.mk rF rG) (Sl.mk rH rJ) vG vH vI)) (Sl.mk BQ BR) (Sl.mk BS BU) (Sl.mk BX BZ) Ko Kq Kr (Value.mk Ca Cb Cc (Sl.mk vJ vK) (Sl.mk vL vM) Ce Cg Ch) Kt Ku (Sl.mk Ci Cj) Kv Kw)).bind fun r32 =>
                 some (!r32)
               else
                some true
            else
             some true
         ).bind fun (q : Bool) =>
          match q with
          | i34 =>
           bif i34 then
            some false
           else
            (P10 fu (Inst.mk xQ (Child.mk pO Br Bt (Value.mk uZ u6 u7 (Sl.mk rA rC) (Sl.mk rD rE) vg vk vo)) (Sl.mk Bu Bv) (Sl.mk Bw Bz) (Sl.mk BA BD) Kg Kh Ki (Value.mk BF BG BH (Sl.mk vv vw) (Sl.mk vB vC) BI BJ BK) Kj Kk (Sl.mk BL BM) Kl Km)).bind fun ⟨TI, axv⟩ =>
             (P10 fu (Inst.mk Kn (Child.mk BN BO BP (Value.mk vD vE vF (Sl.mk rF rG) (Sl.mk rH rJ) vG vH vI)) (Sl.mk BQ BR) (Sl.mk BS BU) (Sl.mk BX BZ) Ko Kq Kr (Value.mk Ca Cb Cc (Sl.mk vJ vK) (Sl.mk vL vM) Ce Cg Ch) Kt Ku (Sl.mk Ci Cj) Kv Kw)).bind fun ⟨zM, Z0⟩ =>
              bif !((ln zM) == (gD ((ln nX) - (gD ((ln TI) - 1))))) then
               some false
              else
               bif (ln nX == 0) then none else
                (wl (TH fu a1 nX TI zM) 0).bind fun q =>
                 match q with
                 | .inl o63 =>
                  some true
                 | .inr o64 =>
                  some false
end Go.Proofs.Ytedfkehkcaaplaa
