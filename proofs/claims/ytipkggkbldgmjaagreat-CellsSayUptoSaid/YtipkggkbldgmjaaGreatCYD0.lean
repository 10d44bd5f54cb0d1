/- Functions on plain data: printed by a small program. -/
import Derived.Test.YtipkggkbldgmjaaGreatCYE
namespace Go.Proofs.YtipkggkbldgmjaaGreat
open Go Go.X
set_option linter.unusedVariables false
set_option linter.unusedSimpArgs false
set_option maxRecDepth 100000
noncomputable def agQ (fu : Nat) (p34 : Value → Option (Value)) (p35 : (Sl Value) → Option ((Sl Value))) (p37 : (Sl Field) → Option ((Sl Field))) (p66 : Field → Option (Field)) (a0 : Value) : Option (Value) :=
 match a0 with
 | ⟨aD, aO, bN, ⟨aK, aS⟩, ⟨au, aA⟩, bO, bT, aQ⟩ =>
  (p35 (Sl.mk aK aS)).bind fun ⟨wV, wW⟩ =>
   (p37 (Sl.mk au aA)).bind fun ⟨Cq, Cr⟩ =>
    some (Value.mk aD aO bN (Sl.mk wV wW) (Sl.mk Cq Cr) bO bT aQ)
noncomputable def OM (fu : Nat) (p34 : Value → Option (Value)) (ah : List Value) : ((List Value) × Int) → Option (((List Value) × Int) ⊕ (((List Value) × Int)))
 | (l10, i11) =>
  bif decide (i11 < (ln ah)) then
   (idx ah i11).bind fun ⟨mV, qM, Tg, ⟨I4, I5⟩, ⟨ru, rz⟩, ajn, Ti, ajo⟩ =>
    (p34 (Value.mk mV qM Tg (Sl.mk I4 I5) (Sl.mk ru rz) ajn Ti ajo)).bind fun ⟨gN, iQ, pK, ⟨lN, lQ⟩, ⟨iR, iT⟩, I6, pO, I7⟩ =>
     bif room 112 (ln (l10 ++ [(Value.mk gN iQ pK (Sl.mk lN lQ) (Sl.mk iR iT) I6 pO I7)])) then
      bif decide (ln (l10 ++ [(Value.mk gN iQ pK (Sl.mk lN lQ) (Sl.mk iR iT) I6 pO I7)]) ≤ fq ((ln ah) + 1)) then
       some (.inl ((l10 ++ [(Value.mk gN iQ pK (Sl.mk lN lQ) (Sl.mk iR iT) I6 pO I7)]), fq (i11 + 1)))
      else none
     else none
  else
   some (.inr (l10, i11))
noncomputable def agR (fu : Nat) (p34 : Value → Option (Value)) (p35 : (Sl Value) → Option ((Sl Value))) (p37 : (Sl Field) → Option ((Sl Field))) (p66 : Field → Option (Field)) (a0 : Sl Value) : Option ((Sl Value)) :=
 match a0 with
 | ⟨ah, aY⟩ =>
  bif decide (0 ≤ 0) then
   bif decide (0 ≤ fq ((ln ah) + 1)) then
    bif room 112 (fq ((ln ah) + 1)) then
     (wl (OM fu p34 ah) ((List.replicate (Int.toNat 0) (Value.mk 0 0 ByteArray.empty (Sl.mk [] (some [])) (Sl.mk [] (some [])) 0 ByteArray.empty false)), 0)).bind fun q =>
      match q with
      | (gB, OO) =>
       bif room 112 (ln (gB ++ [(Value.mk 0 0 (⟨#[115, 112, 97, 114, 101]⟩ : ByteArray) (Sl.mk [] (some [])) (Sl.mk [] (some [])) 0 ByteArray.empty false)])) then
        bif decide (ln (gB ++ [(Value.mk 0 0 (⟨#[115, 112, 97, 114, 101]⟩ : ByteArray) (Sl.mk [] (some [])) (Sl.mk [] (some [])) 0 ByteArray.empty false)]) ≤ fq ((ln ah) + 1)) then
         bif (fq ((ln ah) + 1) == ln (gB ++ [(Value.mk 0 0 (⟨#[115, 112, 97, 114, 101]⟩ : ByteArray) (Sl.mk [] (some [])) (Sl.mk [] (some [])) 0 ByteArray.empty false)])) then
          bif decide (0 ≤ 0) then
           bif decide (0 ≤ ln ah) then
            bif decide (ln ah ≤ ln ((gB ++ [(Value.mk 0 0 (⟨#[115, 112, 97, 114, 101]⟩ : ByteArray) (Sl.mk [] (some [])) (Sl.mk [] (some [])) 0 ByteArray.empty false)]) ++ [])) then
             some (Sl.mk (cut ((gB ++ [(Value.mk 0 0 (⟨#[115, 112, 97, 114, 101]⟩ : ByteArray) (Sl.mk [] (some [])) (Sl.mk [] (some [])) 0 ByteArray.empty false)]) ++ []) 0 (ln ah)) (some (cut ((gB ++ [(Value.mk 0 0 (⟨#[115, 112, 97, 114, 101]⟩ : ByteArray) (Sl.mk [] (some [])) (Sl.mk [] (some [])) 0 ByteArray.empty false)]) ++ []) (ln ah) (ln ((gB ++ [(Value.mk 0 0 (⟨#[115, 112, 97, 114, 101]⟩ : ByteArray) (Sl.mk [] (some [])) (Sl.mk [] (some [])) 0 ByteArray.empty false)]) ++ [])))))
            else none
           else none
          else none
         else
          bif decide (0 ≤ 0) then
           bif decide (0 ≤ ln ah) then
            bif decide (ln ah ≤ ln (gB ++ [(Value.mk 0 0 (⟨#[115, 112, 97, 114, 101]⟩ : ByteArray) (Sl.mk [] (some [])) (Sl.mk [] (some [])) 0 ByteArray.empty false)])) then
             some (Sl.mk (cut (gB ++ [(Value.mk 0 0 (⟨#[115, 112, 97, 114, 101]⟩ : ByteArray) (Sl.mk [] (some [])) (Sl.mk [] (some [])) 0 ByteArray.empty false)]) 0 (ln ah)) none)
            else none
           else none
          else none
        else none
       else none
    else none
   else none
  else none
noncomputable def OP (fu : Nat) (p66 : Field → Option (Field)) (ah : List Field) : ((List Field) × Int) → Option (((List Field) × Int) ⊕ (((List Field) × Int)))
 | (l10, i11) =>
  bif decide (i11 < (ln ah)) then
   (idx ah i11).bind fun ⟨mV, ⟨I8, I9, Ja, ⟨Ct, Cu⟩, ⟨Cv, Cw⟩, Jb, Jc, Jd⟩⟩ =>
    (p66 (Field.mk mV (Value.mk I8 I9 Ja (Sl.mk Ct Cu) (Sl.mk Cv Cw) Jb Jc Jd))).bind fun ⟨gN, ⟨zR, zS, zT, ⟨tV, tX⟩, ⟨tY, tZ⟩, zU, zV, zW⟩⟩ =>
     bif room 128 (ln (l10 ++ [(Field.mk gN (Value.mk zR zS zT (Sl.mk tV tX) (Sl.mk tY tZ) zU zV zW))])) then
      bif decide (ln (l10 ++ [(Field.mk gN (Value.mk zR zS zT (Sl.mk tV tX) (Sl.mk tY tZ) zU zV zW))]) ≤ fq ((ln ah) + 1)) then
       some (.inl ((l10 ++ [(Field.mk gN (Value.mk zR zS zT (Sl.mk tV tX) (Sl.mk tY tZ) zU zV zW))]), fq (i11 + 1)))
      else none
     else none
  else
   some (.inr (l10, i11))
noncomputable def agS (fu : Nat) (p34 : Value → Option (Value)) (p35 : (Sl Value) → Option ((Sl Value))) (p37 : (Sl Field) → Option ((Sl Field))) (p66 : Field → Option (Field)) (a0 : Sl Field) : Option ((Sl Field)) :=
 match a0 with
 | ⟨ah, aY⟩ =>
  bif decide (0 ≤ 0) then
   bif decide (0 ≤ fq ((ln ah) + 1)) then
    bif room 128 (fq ((ln ah) + 1)) then
     (wl (OP fu p66 ah) ((List.replicate (Int.toNat 0) (Field.mk ByteArray.empty (Value.mk 0 0 ByteArray.empty (Sl.mk [] (some [])) (Sl.mk [] (some [])) 0 ByteArray.empty false))), 0)).bind fun q =>
      match q with
      | (gB, OO) =>
       bif room 128 (ln (gB ++ [(Field.mk (⟨#[115, 112, 97, 114, 101]⟩ : ByteArray) (Value.mk 0 0 ByteArray.empty (Sl.mk [] (some [])) (Sl.mk [] (some [])) 0 ByteArray.empty false))])) then
        bif decide (ln (gB ++ [(Field.mk (⟨#[115, 112, 97, 114, 101]⟩ : ByteArray) (Value.mk 0 0 ByteArray.empty (Sl.mk [] (some [])) (Sl.mk [] (some [])) 0 ByteArray.empty false))]) ≤ fq ((ln ah) + 1)) then
         bif (fq ((ln ah) + 1) == ln (gB ++ [(Field.mk (⟨#[115, 112, 97, 114, 101]⟩ : ByteArray) (Value.mk 0 0 ByteArray.empty (Sl.mk [] (some [])) (Sl.mk [] (some [])) 0 ByteArray.empty false))])) then
          bif decide (0 ≤ 0) then
           bif decide (0 ≤ ln ah) then
            bif decide (ln ah ≤ ln ((gB ++ [(Field.mk (⟨#[115, 112, 97, 114, 101]⟩ : ByteArray) (Value.mk 0 0 ByteArray.empty (Sl.mk [] (some [])) (Sl.mk [] (some [])) 0 ByteArray.empty false))]) ++ [])) then
             some (Sl.mk (cut ((gB ++ [(Field.mk (⟨#[115, 112, 97, 114, 101]⟩ : ByteArray) (Value.mk 0 0 ByteArray.empty (Sl.mk [] (some [])) (Sl.mk [] (some [])) 0 ByteArray.empty false))]) ++ []) 0 (ln ah)) (some (cut ((gB ++ [(Field.mk (⟨#[115, 112, 97, 114, 101]⟩ : ByteArray) (Value.mk 0 0 ByteArray.empty (Sl.mk [] (some [])) (Sl.mk [] (some [])) 0 ByteArray.empty false))]) ++ []) (ln ah) (ln ((gB ++ [(Field.mk (⟨#[115, 112, 97, 114, 101]⟩ : ByteArray) (Value.mk 0 0 ByteArray.empty (Sl.mk [] (some [])) (Sl.mk [] (some [])) 0 ByteArray.empty false))]) ++ [])))))
            else none
           else none
          else none
         else
          bif decide (0 ≤ 0) then
           bif decide (0 ≤ ln ah) then
            bif decide (ln ah ≤ ln (gB ++ [(Field.mk (⟨#[115, 112, 97, 114, 101]⟩ : ByteArray) (Value.mk 0 0 ByteArray.empty (Sl.mk [] (some [])) (Sl.mk [] (some [])) 0 ByteArray.empty false))])) then
             some (Sl.mk (cut (gB ++ [(Field.mk (⟨#[115, 112, 97, 114, 101]⟩ : ByteArray) (Value.mk 0 0 ByteArray.empty (Sl.mk [] (some [])) (Sl.mk [] (some [])) 0 ByteArray.empty false))]) 0 (ln ah)) none)
            else none
           else none
          else none
        else none
       else none
    else none
   else none
  else none
noncomputable def acK (fu : Nat) (p34 : Value → Option (Value)) (p35 : (Sl Value) → Option ((Sl Value))) (p37 : (Sl Field) → Option ((Sl Field))) (p66 : Field → Option (Field)) (a0 : Field) : Option (Field) :=
 match a0 with
 | ⟨aD, ⟨og, oh, om, ⟨kM, kN⟩, ⟨kP, kQ⟩, oo, oq, ou⟩⟩ =>
  (p34 (Value.mk og oh om (Sl.mk kM kN) (Sl.mk kP kQ) oo oq ou)).bind fun ⟨Tj, Tk, Tm, ⟨FC, FD⟩, ⟨FE, FH⟩, acL, Tn, acM⟩ =>
   some (Field.mk aD (Value.mk Tj Tk Tm (Sl.mk FC FD) (Sl.mk FE FH) acL Tn acM))
mutual
noncomputable def Z4 : Nat → Value → Option (Value)
 | 0 => fun _ => none
 | fu + 1 => fun a0 => agQ fu (Z4 fu) (P35 fu) (P37 fu) (P66 fu) a0
noncomputable def P35 : Nat → (Sl Value) → Option ((Sl Value))
 | 0 => fun _ => none
 | fu + 1 => fun a0 => agR fu (Z4 fu) (P35 fu) (P37 fu) (P66 fu) a0
noncomputable def P37 : Nat → (Sl Field) → Option ((Sl Field))
 | 0 => fun _ => none
 | fu + 1 => fun a0 => agS fu (Z4 fu) (P35 fu) (P37 fu) (P66 fu) a0
noncomputable def P66 : Nat → Field → Option (Field)
 | 0 => fun _ => none
 | fu + 1 => fun a0 => acK fu (Z4 fu) (P35 fu) (P37 fu) (P66 fu) a0
end
noncomputable def OQ (fu : Nat) (ah : List ByteArray) : ((List ByteArray) × Int) → Option (((List ByteArray) × Int) ⊕ (((List ByteArray) × Int)))
 | (l10, i11) =>
  bif decide (i11 < (ln ah)) then
   (idx ah i11).bind fun Z5 =>
    bif room 16 (ln (l10 ++ [Z5])) then
     bif decide (ln (l10 ++ [Z5]) ≤ fq ((ln ah) + 1)) then
      some (.inl ((l10 ++ [Z5]), fq (i11 + 1)))
     else none
    else none
  else
   some (.inr (l10, i11))
noncomputable def P99 (fu : Nat) (a0 : Sl ByteArray) : Option ((Sl ByteArray)) :=
 match a0 with
 | ⟨ah, aY⟩ =>
  bif decide (0 ≤ 0) then
   bif decide (0 ≤ fq ((ln ah) + 1)) then
    bif room 16 (fq ((ln ah) + 1)) then
     (wl (OQ fu ah) ((List.replicate (Int.toNat 0) ByteArray.empty), 0)).bind fun q =>
      match q with
      | (sI, Vu) =>
       bif room 16 (ln (sI ++ [(⟨#[115, 112, 97, 114, 101]⟩ : ByteArray)])) then
        bif decide (ln (sI ++ [(⟨#[115, 112, 97, 114, 101]⟩ : ByteArray)]) ≤ fq ((ln ah) + 1)) then
         bif (fq ((ln ah) + 1) == ln (sI ++ [(⟨#[115, 112, 97, 114, 101]⟩ : ByteArray)])) then
          bif decide (0 ≤ 0) then
           bif decide (0 ≤ ln ah) then
            bif decide (ln ah ≤ ln ((sI ++ [(⟨#[115, 112, 97, 114, 101]⟩ : ByteArray)]) ++ [])) then
             some (Sl.mk (cut ((sI ++ [(⟨#[115, 112, 97, 114, 101]⟩ : ByteArray)]) ++ []) 0 (ln ah)) (some (cut ((sI ++ [(⟨#[115, 112, 97, 114, 101]⟩ : ByteArray)]) ++ []) (ln ah) (ln ((sI ++ [(⟨#[115, 112, 97, 114, 101]⟩ : ByteArray)]) ++ [])))))
            else none
           else none
          else none
         else
          bif decide (0 ≤ 0) then
           bif decide (0 ≤ ln ah) then
            bif decide (ln ah ≤ ln (sI ++ [(⟨#[115, 112, 97, 114, 101]⟩ : ByteArray)])) then
             some (Sl.mk (cut (sI ++ [(⟨#[115, 112, 97, 114, 101]⟩ : ByteArray)]) 0 (ln ah)) none)
            else none
           else none
          else none
        else none
       else none
    else none
   else none
  else none
noncomputable def OT (fu : Nat) (p65 : Act → Option (Act)) (ah : List Act) : ((List Act) × Int) → Option (((List Act) × Int) ⊕ (((List Act) × Int)))
 | (l10, i11) =>
  bif decide (i11 < (ln ah)) then
   (idx ah i11).bind fun ⟨mV, qM, ⟨zX, zY, zZ, ⟨uf, ug⟩, ⟨uh, uj⟩, ⟨Xz, XA⟩, z8, ⟨XB, XD⟩, ⟨XE, XG⟩, acN⟩⟩ =>
    (p65 (Act.mk mV qM (Expr.mk zX zY zZ (Sl.mk uf ug) (Sl.mk uh uj) (Sl.mk Xz XA) z8 (Sl.mk XB XD) (Sl.mk XE XG) acN))).bind fun ⟨gN, iQ, ⟨lS, lT, lU, ⟨jB, jC⟩, ⟨jD, jE⟩, ⟨um, uo⟩, lV, ⟨uq, uw⟩, ⟨uy, uz⟩, Aa⟩⟩ =>
     bif room 200 (ln (l10 ++ [(Act.mk gN iQ (Expr.mk lS lT lU (Sl.mk jB jC) (Sl.mk jD jE) (Sl.mk um uo) lV (Sl.mk uq uw) (Sl.mk uy uz) Aa))])) then
      bif decide (ln (l10 ++ [(Act.mk gN iQ (Expr.mk lS lT lU (Sl.mk jB jC) (Sl.mk jD jE) (Sl.mk um uo) lV (Sl.mk uq uw) (Sl.mk uy uz) Aa))]) ≤ fq ((ln ah) + 1)) then
       some (.inl ((l10 ++ [(Act.mk gN iQ (Expr.mk lS lT lU (Sl.mk jB jC) (Sl.mk jD jE) (Sl.mk um uo) lV (Sl.mk uq uw) (Sl.mk uy uz) Aa))]), fq (i11 + 1)))
      else none
     else none
  else
   some (.inr (l10, i11))
noncomputable def agT (fu : Nat) (p36 : (Sl Act) → Option ((Sl Act))) (p65 : Act → Option (Act)) (K3 : Expr → Option (Expr)) (Me : (Sl Expr) → Option ((Sl Expr))) (a0 : Sl Act) : Option ((Sl Act)) :=
 match a0 with
 | ⟨ah, aY⟩ =>
  bif decide (0 ≤ 0) then
   bif decide (0 ≤ fq ((ln ah) + 1)) then
    bif room 200 (fq ((ln ah) + 1)) then
     (wl (OT fu p65 ah) ((List.replicate (Int.toNat 0) (Act.mk 0 ByteArray.empty (Expr.mk 0 0 ByteArray.empty (Sl.mk [] (some [])) (Sl.mk [] (some [])) (Sl.mk [] (some [])) 0 (Sl.mk [] (some [])) (Sl.mk [] (some [])) ByteArray.empty))), 0)).bind fun q =>
      match q with
      | (gB, OO) =>
       bif room 200 (ln (gB ++ [(Act.mk 0 (⟨#[115, 112, 97, 114, 101]⟩ : ByteArray) (Expr.mk 0 0 ByteArray.empty (Sl.mk [] (some [])) (Sl.mk [] (some [])) (Sl.mk [] (some [])) 0 (Sl.mk [] (some [])) (Sl.mk [] (some [])) ByteArray.empty))])) then
        bif decide (ln (gB ++ [(Act.mk 0 (⟨#[115, 112, 97, 114, 101]⟩ : ByteArray) (Expr.mk 0 0 ByteArray.empty (Sl.mk [] (some [])) (Sl.mk [] (some [])) (Sl.mk [] (some [])) 0 (Sl.mk [] (some [])) (Sl.mk [] (some [])) ByteArray.empty))]) ≤ fq ((ln ah) + 1)) then
         bif (fq ((ln ah) + 1) == ln (gB ++ [(Act.mk 0 (⟨#[115, 112, 97, 114, 101]⟩ : ByteArray) (Expr.mk 0 0 ByteArray.empty (Sl.mk [] (some [])) (Sl.mk [] (some [])) (Sl.mk [] (some [])) 0 (Sl.mk [] (some [])) (Sl.mk [] (some [])) ByteArray.empty))])) then
          bif decide (0 ≤ 0) then
           bif decide (0 ≤ ln ah) then
            bif decide (ln ah ≤ ln ((gB ++ [(Act.mk 0 (⟨#[115, 112, 97, 114, 101]⟩ : ByteArray) (Expr.mk 0 0 ByteArray.empty (Sl.mk [] (some [])) (Sl.mk [] (some [])) (Sl.mk [] (some [])) 0 (Sl.mk [] (some [])) (Sl.mk [] (some [])) ByteArray.empty))]) ++ [])) then
             some (Sl.mk (cut ((gB ++ [(Act.mk 0 (⟨#[115, 112, 97, 114, 101]⟩ : ByteArray) (Expr.mk 0 0 ByteArray.empty (Sl.mk [] (some [])) (Sl.mk [] (some [])) (Sl.mk [] (some [])) 0 (Sl.mk [] (some [])) (Sl.mk [] (some [])) ByteArray.empty))]) ++ []) 0 (ln ah)) (some (cut ((gB ++ [(Act.mk 0 (⟨#[115, 112, 97, 114, 101]⟩ : ByteArray) (Expr.mk 0 0 ByteArray.empty (Sl.mk [] (some [])) (Sl.mk [] (some [])) (Sl.mk [] (some [])) 0 (Sl.mk [] (some [])) (Sl.mk [] (some [])) ByteArray.empty))]) ++ []) (ln ah) (ln ((gB ++ [(Act.mk 0 (⟨#[115, 112, 97, 114, 101]⟩ : ByteArray) (Expr.mk 0 0 ByteArray.empty (Sl.mk [] (some [])) (Sl.mk [] (some [])) (Sl.mk [] (some [])) 0 (Sl.mk [] (some [])) (Sl.mk [] (some [])) ByteArray.empty))]) ++ [])))))
            else none
           else none
          else none
         else
          bif decide (0 ≤ 0) then
           bif decide (0 ≤ ln ah) then
            bif decide (ln ah ≤ ln (gB ++ [(Act.mk 0 (⟨#[115, 112, 97, 114, 101]⟩ : ByteArray) (Expr.mk 0 0 ByteArray.empty (Sl.mk [] (some [])) (Sl.mk [] (some [])) (Sl.mk [] (some [])) 0 (Sl.mk [] (some [])) (Sl.mk [] (some [])) ByteArray.empty))])) then
             some (Sl.mk (cut (gB ++ [(Act.mk 0 (⟨#[115, 112, 97, 114, 101]⟩ : ByteArray) (Expr.mk 0 0 ByteArray.empty (Sl.mk [] (some [])) (Sl.mk [] (some [])) (Sl.mk [] (some [])) 0 (Sl.mk [] (some [])) (Sl.mk [] (some [])) ByteArray.empty))]) 0 (ln ah)) none)
            else none
           else none
          else none
        else none
       else none
    else none
   else none
  else none
noncomputable def acO (fu : Nat) (p36 : (Sl Act) → Option ((Sl Act))) (p65 : Act → Option (Act)) (K3 : Expr → Option (Expr)) (Me : (Sl Expr) → Option ((Sl Expr))) (a0 : Act) : Option (Act) :=
 match a0 with
 | ⟨aD, aO, ⟨cu, cB, cK, ⟨bA, bB⟩, ⟨bC, bE⟩, ⟨Eo, Ep⟩, cO, ⟨Er, Es⟩, ⟨Et, Eu⟩, Mf⟩⟩ =>
  (K3 (Expr.mk cu cB cK (Sl.mk bA bB) (Sl.mk bC bE) (Sl.mk Eo Ep) cO (Sl.mk Er Es) (Sl.mk Et Eu) Mf)).bind fun ⟨Tj, Tk, Tm, ⟨FC, FD⟩, ⟨FE, FH⟩, ⟨ajp, ajq⟩, Tn, ⟨ajr, ajs⟩, ⟨ajt, aju⟩, apR⟩ =>
   some (Act.mk aD aO (Expr.mk Tj Tk Tm (Sl.mk FC FD) (Sl.mk FE FH) (Sl.mk ajp ajq) Tn (Sl.mk ajr ajs) (Sl.mk ajt aju) apR))
noncomputable def agU (fu : Nat) (p36 : (Sl Act) → Option ((Sl Act))) (p65 : Act → Option (Act)) (K3 : Expr → Option (Expr)) (Me : (Sl Expr) → Option ((Sl Expr))) (a0 : Expr) : Option (Expr) :=
 match a0 with
 | ⟨aD, aO, bN, ⟨aK, aS⟩, ⟨au, aA⟩, ⟨dh, dM⟩, bT, ⟨cZ, dw⟩, ⟨Mg, Mh⟩, eH⟩ =>
  (Me (Sl.mk aK aS)).bind fun ⟨wV, wW⟩ =>
   (P99 fu (Sl.mk au aA)).bind fun ⟨Cq, Cr⟩ =>
    (Me (Sl.mk dh dM)).bind fun ⟨acP, acQ⟩ =>
     (Me (Sl.mk cZ dw)).bind fun ⟨acR, acS⟩ =>
      (p36 (Sl.mk Mg Mh)).bind fun ⟨acT, acU⟩ =>
       some (Expr.mk aD aO bN (Sl.mk wV wW) (Sl.mk Cq Cr) (Sl.mk acP acQ) bT (Sl.mk acR acS) (Sl.mk acT acU) eH)
noncomputable def OU (fu : Nat) (K3 : Expr → Option (Expr)) (ah : List Expr) : ((List Expr) × Int) → Option (((List Expr) × Int) ⊕ (((List Expr) × Int)))
 | (l10, i11) =>
  bif decide (i11 < (ln ah)) then
   (idx ah i11).bind fun ⟨mV, qM, Tg, ⟨I4, I5⟩, ⟨ru, rz⟩, ⟨Ab, Ac⟩, Ti, ⟨Ad, Ae⟩, ⟨acV, acW⟩, Je⟩ =>
    (K3 (Expr.mk mV qM Tg (Sl.mk I4 I5) (Sl.mk ru rz) (Sl.mk Ab Ac) Ti (Sl.mk Ad Ae) (Sl.mk acV acW) Je)).bind fun ⟨gN, iQ, pK, ⟨lN, lQ⟩, ⟨iR, iT⟩, ⟨lW, lX⟩, pO, ⟨lY, lZ⟩, ⟨Af, Ag⟩, pQ⟩ =>
     bif room 176 (ln (l10 ++ [(Expr.mk gN iQ pK (Sl.mk lN lQ) (Sl.mk iR iT) (Sl.mk lW lX) pO (Sl.mk lY lZ) (Sl.mk Af Ag) pQ)])) then
      bif decide (ln (l10 ++ [(Expr.mk gN iQ pK (Sl.mk lN lQ) (Sl.mk iR iT) (Sl.mk lW lX) pO (Sl.mk lY lZ) (Sl.mk Af Ag) pQ)]) ≤ fq ((ln ah) + 1)) then
       some (.inl ((l10 ++ [(Expr.mk gN iQ pK (Sl.mk lN lQ) (Sl.mk iR iT) (Sl.mk lW lX) pO (Sl.mk lY lZ) (Sl.mk Af Ag) pQ)]), fq (i11 + 1)))
      else none
     else none
  else
   some (.inr (l10, i11))
noncomputable def agV (fu : Nat) (p36 : (Sl Act) → Option ((Sl Act))) (p65 : Act → Option (Act)) (K3 : Expr → Option (Expr)) (Me : (Sl Expr) → Option ((Sl Expr))) (a0 : Sl Expr) : Option ((Sl Expr)) :=
 match a0 with
 | ⟨ah, aY⟩ =>
  bif decide (0 ≤ 0) then
   bif decide (0 ≤ fq ((ln ah) + 1)) then
    bif room 176 (fq ((ln ah) + 1)) then
     (wl (OU fu K3 ah) ((List.replicate (Int.toNat 0) (Expr.mk 0 0 ByteArray.empty (Sl.mk [] (some [])) (Sl.mk [] (some [])) (Sl.mk [] (some [])) 0 (Sl.mk [] (some [])) (Sl.mk [] (some [])) ByteArray.empty)), 0)).bind fun q =>
      match q with
      | (gB, OO) =>
       bif room 176 (ln (gB ++ [(Expr.mk 0 0 (⟨#[115, 112, 97, 114, 101]⟩ : ByteArray) (Sl.mk [] (some [])) (Sl.mk [] (some [])) (Sl.mk [] (some [])) 0 (Sl.mk [] (some [])) (Sl.mk [] (some [])) ByteArray.empty)])) then
        bif decide (ln (gB ++ [(Expr.mk 0 0 (⟨#[115, 112, 97, 114, 101]⟩ : ByteArray) (Sl.mk [] (some [])) (Sl.mk [] (some [])) (Sl.mk [] (some [])) 0 (Sl.mk [] (some [])) (Sl.mk [] (some [])) ByteArray.empty)]) ≤ fq ((ln ah) + 1)) then
         bif (fq ((ln ah) + 1) == ln (gB ++ [(Expr.mk 0 0 (⟨#[115, 112, 97, 114, 101]⟩ : ByteArray) (Sl.mk [] (some [])) (Sl.mk [] (some [])) (Sl.mk [] (some [])) 0 (Sl.mk [] (some [])) (Sl.mk [] (some [])) ByteArray.empty)])) then
          bif decide (0 ≤ 0) then
           bif decide (0 ≤ ln ah) then
            bif decide (ln ah ≤ ln ((gB ++ [(Expr.mk 0 0 (⟨#[115, 112, 97, 114, 101]⟩ : ByteArray) (Sl.mk [] (some [])) (Sl.mk [] (some [])) (Sl.mk [] (some [])) 0 (Sl.mk [] (some [])) (Sl.mk [] (some [])) ByteArray.empty)]) ++ [])) then
             some (Sl.mk (cut ((gB ++ [(Expr.mk 0 0 (⟨#[115, 112, 97, 114, 101]⟩ : ByteArray) (Sl.mk [] (some [])) (Sl.mk [] (some [])) (Sl.mk [] (some [])) 0 (Sl.mk [] (some [])) (Sl.mk [] (some [])) ByteArray.empty)]) ++ []) 0 (ln ah)) (some (cut ((gB ++ [(Expr.mk 0 0 (⟨#[115, 112, 97, 114, 101]⟩ : ByteArray) (Sl.mk [] (some [])) (Sl.mk [] (some [])) (Sl.mk [] (some [])) 0 (Sl.mk [] (some [])) (Sl.mk [] (some [])) ByteArray.empty)]) ++ []) (ln ah) (ln ((gB ++ [(Expr.mk 0 0 (⟨#[115, 112, 97, 114, 101]⟩ : ByteArray) (Sl.mk [] (some [])) (Sl.mk [] (some [])) (Sl.mk [] (some [])) 0 (Sl.mk [] (some [])) (Sl.mk [] (some [])) ByteArray.empty)]) ++ [])))))
            else none
           else none
          else none
         else
          bif decide (0 ≤ 0) then
           bif decide (0 ≤ ln ah) then
            bif decide (ln ah ≤ ln (gB ++ [(Expr.mk 0 0 (⟨#[115, 112, 97, 114, 101]⟩ : ByteArray) (Sl.mk [] (some [])) (Sl.mk [] (some [])) (Sl.mk [] (some [])) 0 (Sl.mk [] (some [])) (Sl.mk [] (some [])) ByteArray.empty)])) then
             some (Sl.mk (cut (gB ++ [(Expr.mk 0 0 (⟨#[115, 112, 97, 114, 101]⟩ : ByteArray) (Sl.mk [] (some [])) (Sl.mk [] (some [])) (Sl.mk [] (some [])) 0 (Sl.mk [] (some [])) (Sl.mk [] (some [])) ByteArray.empty)]) 0 (ln ah)) none)
            else none
           else none
          else none
        else none
       else none
    else none
   else none
  else none
mutual
noncomputable def P36 : Nat → (Sl Act) → Option ((Sl Act))
 | 0 => fun _ => none
 | fu + 1 => fun a0 => agT fu (P36 fu) (P65 fu) (P86 fu) (P98 fu) a0
noncomputable def P65 : Nat → Act → Option (Act)
 | 0 => fun _ => none
 | fu + 1 => fun a0 => acO fu (P36 fu) (P65 fu) (P86 fu) (P98 fu) a0
noncomputable def P86 : Nat → Expr → Option (Expr)
 | 0 => fun _ => none
 | fu + 1 => fun a0 => agU fu (P36 fu) (P65 fu) (P86 fu) (P98 fu) a0
noncomputable def P98 : Nat → (Sl Expr) → Option ((Sl Expr))
 | 0 => fun _ => none
 | fu + 1 => fun a0 => agV fu (P36 fu) (P65 fu) (P86 fu) (P98 fu) a0
end
noncomputable def P16 (fu : Nat) (a0 : Cell) : Option (Cell) :=
 match a0 with
 | ⟨aD, aO, ⟨cu, cB, cK, ⟨bA, bB⟩, ⟨bC, bE⟩, dz, cO, dA⟩, ⟨dD, dF, dG, ⟨bH, bI⟩, ⟨bJ, bK⟩, dH, dI, dJ⟩, ⟨au, aA⟩, ⟨dh, dM⟩, ⟨dN, dP⟩, ⟨cZ, dw⟩, eX, eH, ⟨dK, dQ⟩, ⟨dn, dO⟩⟩ =>
  (Z4 fu (Value.mk cu cB cK (Sl.mk bA bB) (Sl.mk bC bE) dz cO dA)).bind fun ⟨Tj, Tk, Tm, ⟨FC, FD⟩, ⟨FE, FH⟩, acL, Tn, acM⟩ =>
   (Z4 fu (Value.mk dD dF dG (Sl.mk bH bI) (Sl.mk bJ bK) dH dI dJ)).bind fun ⟨apS, apT, apU, ⟨ajv, ajw⟩, ⟨ajx, ajy⟩, apV, apW, apX⟩ =>
    (P35 fu (Sl.mk au aA)).bind fun ⟨acP, acQ⟩ =>
     (P36 fu (Sl.mk dh dM)).bind fun ⟨acR, acS⟩ =>
      (P36 fu (Sl.mk dN dP)).bind fun ⟨acT, acU⟩ =>
       (P37 fu (Sl.mk cZ dw)).bind fun ⟨FI, FJ⟩ =>
        (P36 fu (Sl.mk dK dQ)).bind fun ⟨ajz, ajA⟩ =>
         (P37 fu (Sl.mk dn dO)).bind fun ⟨ajB, ajC⟩ =>
          some (Cell.mk aD aO (Value.mk Tj Tk Tm (Sl.mk FC FD) (Sl.mk FE FH) acL Tn acM) (Value.mk apS apT apU (Sl.mk ajv ajw) (Sl.mk ajx ajy) apV apW apX) (Sl.mk acP acQ) (Sl.mk acR acS) (Sl.mk acT acU) (Sl.mk FI FJ) eX eH (Sl.mk ajz ajA) (Sl.mk ajB ajC))
noncomputable def XH (fu : Nat) (ah : List Cell) : ((List Cell) × Int) → Option (((List Cell) × Int) ⊕ (((List Cell) × Int)))
 | (l10, i11) =>
  bif decide (i11 < (ln ah)) then
   (idx ah i11).bind fun ⟨mV, qM, ⟨zX, zY, zZ, ⟨uf, ug⟩, ⟨uh, uj⟩, OV, z8, OW⟩, ⟨OX, OY, OZ, ⟨Gl, Gm⟩, ⟨Gn, Gp⟩, O1, O4, O5⟩, ⟨ru, rz⟩, ⟨Ab, Ac⟩, ⟨O6, O7⟩, ⟨Ad, Ae⟩, XI, Je, ⟨O8, O9⟩, ⟨Pb, Pf⟩⟩ =>
    (P16 fu (Cell.mk mV qM (Value.mk zX zY zZ (Sl.mk uf ug) (Sl.mk uh uj) OV z8 OW) (Value.mk OX OY OZ (Sl.mk Gl Gm) (Sl.mk Gn Gp) O1 O4 O5) (Sl.mk ru rz) (Sl.mk Ab Ac) (Sl.mk O6 O7) (Sl.mk Ad Ae) XI Je (Sl.mk O8 O9) (Sl.mk Pb Pf))).bind fun ⟨gN, iQ, ⟨lS, lT, lU, ⟨jB, jC⟩, ⟨jD, jE⟩, Ah, lV, Ai⟩, ⟨Aj, Ak, Al, ⟨uD, uE⟩, ⟨uF, uG⟩, Am, Ao, Ap⟩, ⟨iR, iT⟩, ⟨lW, lX⟩, ⟨Aq, Ar⟩, ⟨lY, lZ⟩, Jf, pQ, ⟨Au, Av⟩, ⟨Aw, Ay⟩⟩ =>
     bif room 400 (ln (l10 ++ [(Cell.mk gN iQ (Value.mk lS lT lU (Sl.mk jB jC) (Sl.mk jD jE) Ah lV Ai) (Value.mk Aj Ak Al (Sl.mk uD uE) (Sl.mk uF uG) Am Ao Ap) (Sl.mk iR iT) (Sl.mk lW lX) (Sl.mk Aq Ar) (Sl.mk lY lZ) Jf pQ (Sl.mk Au Av) (Sl.mk Aw Ay))])) then
      bif decide (ln (l10 ++ [(Cell.mk gN iQ (Value.mk lS lT lU (Sl.mk jB jC) (Sl.mk jD jE) Ah lV Ai) (Value.mk Aj Ak Al (Sl.mk uD uE) (Sl.mk uF uG) Am Ao Ap) (Sl.mk iR iT) (Sl.mk lW lX) (Sl.mk Aq Ar) (Sl.mk lY lZ) Jf pQ (Sl.mk Au Av) (Sl.mk Aw Ay))]) ≤ fq ((ln ah) + 1)) then
       some (.inl ((l10 ++ [(Cell.mk gN iQ (Value.mk lS lT lU (Sl.mk jB jC) (Sl.mk jD jE) Ah lV Ai) (Value.mk Aj Ak Al (Sl.mk uD uE) (Sl.mk uF uG) Am Ao Ap) (Sl.mk iR iT) (Sl.mk lW lX) (Sl.mk Aq Ar) (Sl.mk lY lZ) Jf pQ (Sl.mk Au Av) (Sl.mk Aw Ay))]), fq (i11 + 1)))
      else none
     else none
  else
   some (.inr (l10, i11))
noncomputable def P4 (fu : Nat) (a0 : Sl Cell) : Option ((Sl Cell)) :=
 match a0 with
 | ⟨ah, aY⟩ =>
  bif decide (0 ≤ 0) then
   bif decide (0 ≤ fq ((ln ah) + 1)) then
    bif room 400 (fq ((ln ah) + 1)) then
     (wl (XH fu ah) ((List.replicate (Int.toNat 0) (Cell.mk 0 ByteArray.empty (Value.mk 0 0 ByteArray.empty (Sl.mk [] (some [])) (Sl.mk [] (some [])) 0 ByteArray.empty false) (Value.mk 0 0 ByteArray.empty (Sl.mk [] (some [])) (Sl.mk [] (some [])) 0 ByteArray.empty false) (Sl.mk [] (some [])) (Sl.mk [] (some [])) (Sl.mk [] (some [])) (Sl.mk [] (some [])) false false (Sl.mk [] (some [])) (Sl.mk [] (some [])))), 0)).bind fun q =>
      match q with
      | (gB, OO) =>
       bif room 400 (ln (gB ++ [(Cell.mk 0 (⟨#[115, 112, 97, 114, 101]⟩ : ByteArray) (Value.mk 0 0 ByteArray.empty (Sl.mk [] (some [])) (Sl.mk [] (some [])) 0 ByteArray.empty false) (Value.mk 0 0 ByteArray.empty (Sl.mk [] (some [])) (Sl.mk [] (some [])) 0 ByteArray.empty false) (Sl.mk [] (some [])) (Sl.mk [] (some [])) (Sl.mk [] (some [])) (Sl.mk [] (some [])) false false (Sl.mk [] (some [])) (Sl.mk [] (some [])))])) then
        bif decide (ln (gB ++ [(Cell.mk 0 (⟨#[115, 112, 97, 114, 101]⟩ : ByteArray) (Value.mk 0 0 ByteArray.empty (Sl.mk [] (some [])) (Sl.mk [] (some [])) 0 ByteArray.empty false) (Value.mk 0 0 ByteArray.empty (Sl.mk [] (some [])) (Sl.mk [] (some [])) 0 ByteArray.empty false) (Sl.mk [] (some [])) (Sl.mk [] (some [])) (Sl.mk [] (some [])) (Sl.mk [] (some [])) false false (Sl.mk [] (some [])) (Sl.mk [] (some [])))]) ≤ fq ((ln ah) + 1)) then
         bif (fq ((ln ah) + 1) == ln (gB ++ [(Cell.mk 0 (⟨#[115, 112, 97, 114, 101]⟩ : ByteArray) (Value.mk 0 0 ByteArray.empty (Sl.mk [] (some [])) (Sl.mk [] (some [])) 0 ByteArray.empty false) (Value.mk 0 0 ByteArray.empty (Sl.mk [] (some [])) (Sl.mk [] (some [])) 0 ByteArray.empty false) (Sl.mk [] (some [])) (Sl.mk [] (some [])) (Sl.mk [] (some [])) (Sl.mk [] (some [])) false false (Sl.mk [] (some [])) (Sl.mk [] (some [])))])) then
          bif decide (0 ≤ 0) then
           bif decide (0 ≤ ln ah) then
            bif decide (ln ah ≤ ln ((gB ++ [(Cell.mk 0 (⟨#[115, 112, 97, 114, 101]⟩ : ByteArray) (Value.mk 0 0 ByteArray.empty (Sl.mk [] (some [])) (Sl.mk [] (some [])) 0 ByteArray.empty false) (Value.mk 0 0 ByteArray.empty (Sl.mk [] (some [])) (Sl.mk [] (some [])) 0 ByteArray.empty false) (Sl.mk [] (some [])) (Sl.mk [] (some [])) (Sl.mk [] (some [])) (Sl.mk [] (some [])) false false (Sl.mk [] (some [])) (Sl.mk [] (some [])))]) ++ [])) then
             some (Sl.mk (cut ((gB ++ [(Cell.mk 0 (⟨#[115, 112, 97, 114, 101]⟩ : ByteArray) (Value.mk 0 0 ByteArray.empty (Sl.mk [] (some [])) (Sl.mk [] (some [])) 0 ByteArray.empty false) (Value.mk 0 0 ByteArray.empty (Sl.mk [] (some [])) (Sl.mk [] (some [])) 0 ByteArray.empty false) (Sl.mk [] (some [])) (Sl.mk [] (some [])) (Sl.mk [] (some [])) (Sl.mk [] (some [])) false false (Sl.mk [] (some [])) (Sl.mk [] (some [])))]) ++ []) 0 (ln ah)) (some (cut ((gB ++ [(Cell.mk 0 (⟨#[115, 112, 97, 114, 101]⟩ : ByteArray) (Value.mk 0 0 ByteArray.empty (Sl.mk [] (some [])) (Sl.mk [] (some [])) 0 ByteArray.empty false) (Value.mk 0 0 ByteArray.empty (Sl.mk [] (some [])) (Sl.mk [] (some [])) 0 ByteArray.empty false) (Sl.mk [] (some [])) (Sl.mk [] (some [])) (Sl.mk [] (some [])) (Sl.mk [] (some [])) false false (Sl.mk [] (some [])) (Sl.mk [] (some [])))]) ++ []) (ln ah) (ln ((gB ++ [(Cell.mk 0 (⟨#[115, 112, 97, 114, 101]⟩ : ByteArray) (Value.mk 0 0 ByteArray.empty (Sl.mk [] (some [])) (Sl.mk [] (some [])) 0 ByteArray.empty false) (Value.mk 0 0 ByteArray.empty (Sl.mk [] (some [])) (Sl.mk [] (some [])) 0 ByteArray.empty false) (Sl.mk [] (some [])) (Sl.mk [] (some [])) (Sl.mk [] (some [])) (Sl.mk [] (some [])) false false (Sl.mk [] (some [])) (Sl.mk [] (some [])))]) ++ [])))))
            else none
           else none
          else none
         else
          bif decide (0 ≤ 0) then
           bif decide (0 ≤ ln ah) then
            bif decide (ln ah ≤ ln (gB ++ [(Cell.mk 0 (⟨#[115, 112, 97, 114, 101]⟩ : ByteArray) (Value.mk 0 0 ByteArray.empty (Sl.mk [] (some [])) (Sl.mk [] (some [])) 0 ByteArray.empty false) (Value.mk 0 0 ByteArray.empty (Sl.mk [] (some [])) (Sl.mk [] (some [])) 0 ByteArray.empty false) (Sl.mk [] (some [])) (Sl.mk [] (some [])) (Sl.mk [] (some [])) (Sl.mk [] (some [])) false false (Sl.mk [] (some [])) (Sl.mk [] (some [])))])) then
             some (Sl.mk (cut (gB ++ [(Cell.mk 0 (⟨#[115, 112, 97, 114, 101]⟩ : ByteArray) (Value.mk 0 0 ByteArray.empty (Sl.mk [] (some [])) (Sl.mk [] (some [])) 0 ByteArray.empty false) (Value.mk 0 0 ByteArray.empty (Sl.mk [] (some [])) (Sl.mk [] (some [])) 0 ByteArray.empty false) (Sl.mk [] (some [])) (Sl.mk [] (some [])) (Sl.mk [] (some [])) (Sl.mk [] (some [])) false false (Sl.mk [] (some [])) (Sl.mk [] (some [])))]) 0 (ln ah)) none)
            else none
           else none
          else none
        else none
       else none
    else none
   else none
  else none
noncomputable def Pg (fu : Nat) (ah : List Int) (a1 : Int) : (Int × Int) → Option ((Int × Int) ⊕ ((Int × Int) ⊕ (Int × Int)))
 | (i3, i4) =>
  bif decide (i4 < (ln ah)) then
   (idx ah i4).bind fun x6 =>
    bif a1 == x6 then
     some (.inr (.inr (i4, i4)))
    else
     some (.inl (i3, fq (i4 + 1)))
  else
   some (.inr (.inl (i3, i4)))
noncomputable def P71 (fu : Nat) (a0 : Sl Int) (a1 : Int) : Option (Int) :=
 match a0 with
 | ⟨ah, aY⟩ =>
  (wl (Pg fu ah a1) (0, 0)).bind fun q =>
   match q with
   | .inl (o10, K4) =>
    some (-1)
   | .inr (wX, Ph) =>
    some wX
noncomputable def P43 (fu : Nat) (a0 : Sl Int) (a1 : Int) : Option (Bool) :=
 match a0 with
 | ⟨ah, aY⟩ =>
  (P71 fu (Sl.mk ah aY) a1).bind fun r1 =>
   some (decide (0 ≤ r1))
noncomputable def XJ (fu : Nat) (a0 : Cell) (a1 : ByteArray) : Option (Bool) :=
 match a0 with
 | ⟨aD, aO, ⟨cu, cB, cK, ⟨bA, bB⟩, ⟨bC, bE⟩, dz, cO, dA⟩, ⟨dD, dF, dG, ⟨bH, bI⟩, ⟨bJ, bK⟩, dH, dI, dJ⟩, ⟨au, aA⟩, ⟨dh, dM⟩, ⟨dN, dP⟩, ⟨cZ, dw⟩, eX, eH, ⟨dK, dQ⟩, ⟨dn, dO⟩⟩ =>
  some (seq aO a1)
noncomputable def Mi (fu : Nat) (a0 : Cell) (a1 : Sl Int) (d0 : ByteArray) : Option (Bool) :=
 match a0 with
 | ⟨aD, aO, ⟨cu, cB, cK, ⟨bA, bB⟩, ⟨bC, bE⟩, dz, cO, dA⟩, ⟨dD, dF, dG, ⟨bH, bI⟩, ⟨bJ, bK⟩, dH, dI, dJ⟩, ⟨au, aA⟩, ⟨dh, dM⟩, ⟨dN, dP⟩, ⟨cZ, dw⟩, eX, eH, ⟨dK, dQ⟩, ⟨dn, dO⟩⟩ =>
  match a1 with
  | ⟨aL, dS⟩ =>
   (
    (P43 fu (Sl.mk aL dS) aD).bind fun r1 =>
     bif r1 then
      (XJ fu (Cell.mk aD aO (Value.mk cu cB cK (Sl.mk bA bB) (Sl.mk bC bE) dz cO dA) (Value.mk dD dF dG (Sl.mk bH bI) (Sl.mk bJ bK) dH dI dJ) (Sl.mk au aA) (Sl.mk dh dM) (Sl.mk dN dP) (Sl.mk cZ dw) eX eH (Sl.mk dK dQ) (Sl.mk dn dO)) d0).bind fun r4 =>
       some r4
     else
      some false
   ).bind fun (q : Bool) =>
    match q with
    | i6 =>
     some i6
noncomputable def Cx (fu : Nat) (d0 : Sl Int) (d1 : ByteArray) (ah : List Cell) : (Int × Int) → Option ((Int × Int) ⊕ ((Int × Int) ⊕ (Int × Int)))
 | (i3, i4) =>
  bif decide (i4 < (ln ah)) then
   (idx ah i4).bind fun ⟨sj, vK, ⟨Cy, Cz, CB, ⟨uH, uI⟩, ⟨uJ, uK⟩, CG, CJ, CK⟩, ⟨CO, CP, CQ, ⟨uL, uM⟩, ⟨uN, uO⟩, CS, CU, CV⟩, ⟨mW, mX⟩, ⟨CW, CX⟩, ⟨CY, CZ⟩, ⟨C8, C9⟩, Pj, Pk, ⟨Da, Db⟩, ⟨Dc, Df⟩⟩ =>
    (Mi fu (Cell.mk sj vK (Value.mk Cy Cz CB (Sl.mk uH uI) (Sl.mk uJ uK) CG CJ CK) (Value.mk CO CP CQ (Sl.mk uL uM) (Sl.mk uN uO) CS CU CV) (Sl.mk mW mX) (Sl.mk CW CX) (Sl.mk CY CZ) (Sl.mk C8 C9) Pj Pk (Sl.mk Da Db) (Sl.mk Dc Df)) (Sl.mk d0.l d0.x) d1).bind fun r9 =>
     bif r9 then
      some (.inr (.inr (i4, i4)))
     else
      some (.inl (i3, fq (i4 + 1)))
  else
   some (.inr (.inl (i3, i4)))
noncomputable def XK (fu : Nat) (a0 : Sl Cell) (d0 : Sl Int) (d1 : ByteArray) : Option (Int) :=
 match a0 with
 | ⟨ah, aY⟩ =>
  (wl (Cx fu d0 d1 ah) (0, 0)).bind fun q =>
   match q with
   | .inl (wX, Ph) =>
    some (-1)
   | .inr (Mj, KS) =>
    some Mj
noncomputable def XL (fu : Nat) (a0 : Sl Cell) (a2 : Sl Int) (d0 : ByteArray) : Option (Int) :=
 match a0 with
 | ⟨ah, aY⟩ =>
  match a2 with
  | ⟨acX, acY⟩ =>
   (XK fu (Sl.mk ah aY) (Sl.mk acX acY) d0).bind fun r2 =>
    some r2
noncomputable def P17 (fu : Nat) (a0 : Sl Cell) (a1 : ByteArray) : Option (Int) :=
 match a0 with
 | ⟨ah, aY⟩ =>
  (XL fu (Sl.mk ah aY) (Sl.mk [1] (some [])) a1).bind fun r1 =>
   some r1
noncomputable def P67 (fu : Nat) (a0 : Sl Value) : Option ((List Value)) :=
 match a0 with
 | ⟨ah, aY⟩ =>
  bif ln ah == 0 then
   agree (
    some ([] : List Value)
   ) (
    (
     bif ln ah == 0 then
      some ([] : List Value)
     else
      bif room 112 (ln (([] : List Value) ++ ah)) then
       some (([] : List Value) ++ ah)
      else none
    ).bind fun (q : (List Value)) =>
     match q with
     | Tp =>
      some Tp
   )
  else
   (
    bif ln ah == 0 then
     some ([] : List Value)
    else
     bif room 112 (ln (([] : List Value) ++ ah)) then
      some (([] : List Value) ++ ah)
     else none
   ).bind fun (q : (List Value)) =>
    match q with
    | Ut =>
     some Ut
noncomputable def P69 (fu : Nat) (a0 : Sl Field) : Option ((List Field)) :=
 match a0 with
 | ⟨ah, aY⟩ =>
  bif ln ah == 0 then
   agree (
    some ([] : List Field)
   ) (
    (
     bif ln ah == 0 then
      some ([] : List Field)
     else
      bif room 128 (ln (([] : List Field) ++ ah)) then
       some (([] : List Field) ++ ah)
      else none
    ).bind fun (q : (List Field)) =>
     match q with
     | Tp =>
      some Tp
   )
  else
   (
    bif ln ah == 0 then
     some ([] : List Field)
    else
     bif room 128 (ln (([] : List Field) ++ ah)) then
      some (([] : List Field) ++ ah)
     else none
   ).bind fun (q : (List Field)) =>
    match q with
    | Ut =>
     some Ut
noncomputable def P68 (fu : Nat) (a0 : Sl Value) : Option ((Sl Value)) :=
 match a0 with
 | ⟨ah, aY⟩ =>
  bif decide (0 ≤ 0) then
   bif decide (0 ≤ ln ah) then
    bif decide (ln ah ≤ ln ah) then
     bif decide (ln ah ≤ ln ah) then
      some (Sl.mk (cut ah 0 (ln ah)) (some (cut ah (ln ah) (ln ah))))
     else none
    else none
   else none
  else none
noncomputable def P70 (fu : Nat) (a0 : Sl Field) : Option ((Sl Field)) :=
 match a0 with
 | ⟨ah, aY⟩ =>
  bif decide (0 ≤ 0) then
   bif decide (0 ≤ ln ah) then
    bif decide (ln ah ≤ ln ah) then
     bif decide (ln ah ≤ ln ah) then
      some (Sl.mk (cut ah 0 (ln ah)) (some (cut ah (ln ah) (ln ah))))
     else none
    else none
   else none
  else none
noncomputable def agW (fu : Nat) (Pm : Value → Option (Value)) (p39 : (Sl Value) → Option ((Sl Value))) (p40 : (Sl Field) → Option ((Sl Field))) (a0 : Value) : Option (Value) :=
 match a0 with
 | ⟨aD, aO, bN, ⟨aK, aS⟩, ⟨au, aA⟩, bO, bT, aQ⟩ =>
  (p39 (Sl.mk aK aS)).bind fun ⟨wV, wW⟩ =>
   (p40 (Sl.mk au aA)).bind fun ⟨Cq, Cr⟩ =>
    some (Value.mk aD aO bN (Sl.mk wV wW) (Sl.mk Cq Cr) bO bT aQ)
noncomputable def Pn (fu : Nat) (Pm : Value → Option (Value)) (r2 : List Value) : ((List Value) × Int) → Option (((List Value) × Int) ⊕ (((List Value) × Int)))
 | (l5, i6) =>
  bif decide (i6 < (ln r2)) then
   (idx l5 i6).bind fun ⟨F8, K5, apY, ⟨ajD, ajE⟩, ⟨Dh, Di⟩, apZ, ap0, ap1⟩ =>
    (Pm (Value.mk F8 K5 apY (Sl.mk ajD ajE) (Sl.mk Dh Di) apZ ap0 ap1)).bind fun ⟨Jg, Jh, Ji, ⟨Az, AA⟩, ⟨AB, AJ⟩, Jj, Jk, Jl⟩ =>
     (idx l5 i6).bind fun ⟨iX, oz, wY, ⟨pR, pU⟩, ⟨kR, kS⟩, wZ, w9, xq⟩ =>
      some (.inl ((List.set l5 (Int.toNat i6) (Value.mk Jg Jh Ji (Sl.mk Az AA) (Sl.mk AB AJ) Jj Jk Jl)), fq (i6 + 1)))
  else
   some (.inr (l5, i6))
noncomputable def agX (fu : Nat) (Pm : Value → Option (Value)) (p39 : (Sl Value) → Option ((Sl Value))) (p40 : (Sl Field) → Option ((Sl Field))) (a0 : Sl Value) : Option ((Sl Value)) :=
 match a0 with
 | ⟨ah, aY⟩ =>
  (P67 fu (Sl.mk ah aY)).bind fun r2 =>
   (wl (Pn fu Pm r2) (r2, 0)).bind fun q =>
    match q with
    | (rA, xu) =>
     (P68 fu (Sl.mk rA none)).bind fun ⟨Tq, Tt⟩ =>
      some (Sl.mk Tq Tt)
noncomputable def Po (fu : Nat) (Pm : Value → Option (Value)) (r2 : List Field) : ((List Field) × Int) → Option (((List Field) × Int) ⊕ (((List Field) × Int)))
 | (l5, i6) =>
  bif decide (i6 < (ln r2)) then
   (idx l5 i6).bind fun ⟨F8, ⟨ajF, ajG, ajH, ⟨acZ, ac0⟩, ⟨ac1, ac2⟩, ajI, ajJ, ajK⟩⟩ =>
    (Pm (Value.mk ajF ajG ajH (Sl.mk acZ ac0) (Sl.mk ac1 ac2) ajI ajJ ajK)).bind fun ⟨Jg, Jh, Ji, ⟨Az, AA⟩, ⟨AB, AJ⟩, Jj, Jk, Jl⟩ =>
     (idx l5 i6).bind fun ⟨iX, ⟨uP, uQ, uR, ⟨oK, oN⟩, ⟨oO, oP⟩, uS, uT, uU⟩⟩ =>
      some (.inl ((List.set l5 (Int.toNat i6) (Field.mk iX (Value.mk Jg Jh Ji (Sl.mk Az AA) (Sl.mk AB AJ) Jj Jk Jl))), fq (i6 + 1)))
  else
   some (.inr (l5, i6))
noncomputable def agY (fu : Nat) (Pm : Value → Option (Value)) (p39 : (Sl Value) → Option ((Sl Value))) (p40 : (Sl Field) → Option ((Sl Field))) (a0 : Sl Field) : Option ((Sl Field)) :=
 match a0 with
 | ⟨ah, aY⟩ =>
  (P69 fu (Sl.mk ah aY)).bind fun r2 =>
   (wl (Po fu Pm r2) (r2, 0)).bind fun q =>
    match q with
    | (rA, xu) =>
     (P70 fu (Sl.mk rA none)).bind fun ⟨Tq, Tt⟩ =>
      some (Sl.mk Tq Tt)
mutual
noncomputable def P18 : Nat → Value → Option (Value)
 | 0 => fun _ => none
 | fu + 1 => fun a0 => agW fu (P18 fu) (P39 fu) (P40 fu) a0
noncomputable def P39 : Nat → (Sl Value) → Option ((Sl Value))
 | 0 => fun _ => none
 | fu + 1 => fun a0 => agX fu (P18 fu) (P39 fu) (P40 fu) a0
noncomputable def P40 : Nat → (Sl Field) → Option ((Sl Field))
 | 0 => fun _ => none
 | fu + 1 => fun a0 => agY fu (P18 fu) (P39 fu) (P40 fu) a0
end
noncomputable def P5 (fu : Nat) (a0 : Sl Cell) (a1 : ByteArray) : Option (Value × Bool) :=
 match a0 with
 | ⟨ah, aY⟩ =>
  (P17 fu (Sl.mk ah aY) a1).bind fun r1 =>
   bif decide (r1 < 0) then
    some ((Value.mk 0 0 ByteArray.empty (Sl.mk [] (some [])) (Sl.mk [] (some [])) 0 ByteArray.empty false), false)
   else
    (idx ah r1).bind fun ⟨alx, aly, ⟨ac3, ac4, ac5, ⟨Vv, Vw⟩, ⟨Vx, Vy⟩, ac6, ac7, ac8⟩, ⟨Tv, Tx, Tz, ⟨Jm, Jo⟩, ⟨Jp, Jq⟩, TA, TB, TD⟩, ⟨ac9, ada⟩, ⟨adb, ade⟩, ⟨adf, adg⟩, ⟨adh, adi⟩, alz, alA, ⟨adj, adk⟩, ⟨adl, adn⟩⟩ =>
     (P18 fu (Value.mk Tv Tx Tz (Sl.mk Jm Jo) (Sl.mk Jp Jq) TA TB TD)).bind fun ⟨ap2, ap3, ap4, ⟨ajL, ajM⟩, ⟨ajN, ajO⟩, ap5, ap6, ap7⟩ =>
      some ((Value.mk ap2 ap3 ap4 (Sl.mk ajL ajM) (Sl.mk ajN ajO) ap5 ap6 ap7), true)
noncomputable def Jr (fu : Nat) (ah : List Cell) (a1 : ByteArray) : (Int × Int) → Option ((Int × Int) ⊕ ((Int × Int) ⊕ (Int × Int)))
 | (i1, i2) =>
  bif decide (i2 < (ln ah)) then
   (
    (idx ah i2).bind fun ⟨sj, vK, ⟨Cy, Cz, CB, ⟨uH, uI⟩, ⟨uJ, uK⟩, CG, CJ, CK⟩, ⟨CO, CP, CQ, ⟨uL, uM⟩, ⟨uN, uO⟩, CS, CU, CV⟩, ⟨mW, mX⟩, ⟨CW, CX⟩, ⟨CY, CZ⟩, ⟨C8, C9⟩, Pj, Pk, ⟨Da, Db⟩, ⟨Dc, Df⟩⟩ =>
     bif sj == 1 then
      (idx ah i2).bind fun ⟨alC, agZ, ⟨XM, XP, XQ, ⟨Pp, Pq⟩, ⟨Pt, Pv⟩, XR, XT, XU⟩, ⟨ado, adp, adq, ⟨Vz, VA⟩, ⟨VB, VD⟩, adr, ads, adt⟩, ⟨adu, adv⟩, ⟨adw, adx⟩, ⟨ady, adz⟩, ⟨adA, adB⟩, alD, alE, ⟨adC, adD⟩, ⟨adE, adF⟩⟩ =>
       some (seq agZ a1)
     else
      some false
   ).bind fun (q : Bool) =>
    match q with
    | i11 =>
     bif i11 then
      some (.inr (.inr (i2, i2)))
     else
      some (.inl (i1, fq (i2 + 1)))
  else
   some (.inr (.inl (i1, i2)))
noncomputable def P19 (fu : Nat) (a0 : Sl Cell) (a1 : ByteArray) : Option (Int) :=
 match a0 with
 | ⟨ah, aY⟩ =>
  (wl (Jr fu ah a1) (0, 0)).bind fun q =>
   match q with
   | .inl (KS, o16) =>
    some (-1)
   | .inr (Mk, rA) =>
    some Mk
noncomputable def P6 (fu : Nat) (a0 : Sl Cell) (a1 : ByteArray) : Option (Value × Bool) :=
 match a0 with
 | ⟨ah, aY⟩ =>
  (P19 fu (Sl.mk ah aY) a1).bind fun r1 =>
   bif decide (r1 < 0) then
    some ((Value.mk 0 0 ByteArray.empty (Sl.mk [] (some [])) (Sl.mk [] (some [])) 0 ByteArray.empty false), false)
   else
    (idx ah r1).bind fun ⟨alx, aly, ⟨ac3, ac4, ac5, ⟨Vv, Vw⟩, ⟨Vx, Vy⟩, ac6, ac7, ac8⟩, ⟨Tv, Tx, Tz, ⟨Jm, Jo⟩, ⟨Jp, Jq⟩, TA, TB, TD⟩, ⟨ac9, ada⟩, ⟨adb, ade⟩, ⟨adf, adg⟩, ⟨adh, adi⟩, alz, alA, ⟨adj, adk⟩, ⟨adl, adn⟩⟩ =>
     some ((Value.mk Tv Tx Tz (Sl.mk Jm Jo) (Sl.mk Jp Jq) TA TB TD), true)
noncomputable def Pw (fu : Nat) (a2 : (Cell → Cell → Option (Bool))) (ah : List Cell) (aL : List Cell) : Int → Option (Int ⊕ (Int ⊕ Int))
 | i8 =>
  bif decide (i8 < (ln ah)) then
   (idx ah i8).bind fun ⟨jv, zh, ⟨Px, Py, Pz, ⟨Gq, Gr⟩, ⟨Gs, Gt⟩, PD, PE, PG⟩, ⟨PI, PK, PL, ⟨Gu, Gv⟩, ⟨Gw, Gx⟩, PN, PO, PS⟩, ⟨rC, rD⟩, ⟨PU, PW⟩, ⟨PX, PY⟩, ⟨PZ, Qa⟩, XV, XW, ⟨Qb, Qc⟩, ⟨Qd, Qe⟩⟩ =>
    (idx aL i8).bind fun ⟨iX, oz, ⟨Qf, Qg, Qh, ⟨Gy, Gz⟩, ⟨GA, GD⟩, Qi, Qj, Qk⟩, ⟨Ql, Qm, Qn, ⟨GH, GI⟩, ⟨GJ, GK⟩, Qo, Qp, Qq⟩, ⟨kR, kS⟩, ⟨Qr, Qs⟩, ⟨Qt, Qu⟩, ⟨Qv, Qw⟩, XY, XZ, ⟨Qx, Qy⟩, ⟨Qz, QA⟩⟩ =>
     (a2 (Cell.mk jv zh (Value.mk Px Py Pz (Sl.mk Gq Gr) (Sl.mk Gs Gt) PD PE PG) (Value.mk PI PK PL (Sl.mk Gu Gv) (Sl.mk Gw Gx) PN PO PS) (Sl.mk rC rD) (Sl.mk PU PW) (Sl.mk PX PY) (Sl.mk PZ Qa) XV XW (Sl.mk Qb Qc) (Sl.mk Qd Qe)) (Cell.mk iX oz (Value.mk Qf Qg Qh (Sl.mk Gy Gz) (Sl.mk GA GD) Qi Qj Qk) (Value.mk Ql Qm Qn (Sl.mk GH GI) (Sl.mk GJ GK) Qo Qp Qq) (Sl.mk kR kS) (Sl.mk Qr Qs) (Sl.mk Qt Qu) (Sl.mk Qv Qw) XY XZ (Sl.mk Qx Qy) (Sl.mk Qz QA))).bind fun FK =>
      bif !FK then
       some (.inr (.inr i8))
      else
       some (.inl (fq (i8 + 1)))
  else
   some (.inr (.inl i8))
noncomputable def P20 (fu : Nat) (a0 : Sl Cell) (a1 : Sl Cell) (a2 : (Cell → Cell → Option (Bool))) : Option (Bool) :=
 match a0 with
 | ⟨ah, aY⟩ =>
  match a1 with
  | ⟨aL, dS⟩ =>
   bif !((ln ah) == (ln aL)) then
    some false
   else
    (wl (Pw fu a2 ah aL) 0).bind fun q =>
     match q with
     | .inl rA =>
      some true
     | .inr xu =>
      some false
noncomputable def P21 (fu : Nat) (a0 : Cell) (a1 : Cell) : Option (Bool) :=
 match a0 with
 | ⟨aD, aO, ⟨cu, cB, cK, ⟨bA, bB⟩, ⟨bC, bE⟩, dz, cO, dA⟩, ⟨dD, dF, dG, ⟨bH, bI⟩, ⟨bJ, bK⟩, dH, dI, dJ⟩, ⟨au, aA⟩, ⟨dh, dM⟩, ⟨dN, dP⟩, ⟨cZ, dw⟩, eX, eH, ⟨dK, dQ⟩, ⟨dn, dO⟩⟩ =>
  match a1 with
  | ⟨iL, jT, ⟨zi, zk, zl, ⟨rE, rF⟩, ⟨rG, rH⟩, Ml, zm, Mq⟩, ⟨Mr, Ms, Mv, ⟨Ev, Ew⟩, ⟨Ey, Ez⟩, Mw, Mx, MB⟩, ⟨iU, iV⟩, ⟨zn, zo⟩, ⟨MC, ME⟩, ⟨zq, zu⟩, Z6, K6, ⟨MF, MG⟩, ⟨MH, MI⟩⟩ =>
   (
    bif aD == iL then
     some (seq aO jT)
    else
     some false
   ).bind fun (q : Bool) =>
    match q with
    | i2 =>
     some i2
noncomputable def P7 (fu : Nat) (a0 : Sl Cell) (a1 : Sl Cell) : Option (Bool) :=
 match a0 with
 | ⟨ah, aY⟩ =>
  match a1 with
  | ⟨aL, dS⟩ =>
   (P20 fu (Sl.mk ah aY) (Sl.mk aL dS) (P21 fu)).bind fun r1 =>
    some r1
noncomputable def TF (fu : Nat) (ah : List Cell) (aL : List Cell) : Int → Option (Int ⊕ (Int ⊕ Int))
 | i6 =>
  bif decide (i6 < (ln ah)) then
   (
    (idx ah i6).bind fun ⟨jv, zh, ⟨Px, Py, Pz, ⟨Gq, Gr⟩, ⟨Gs, Gt⟩, PD, PE, PG⟩, ⟨PI, PK, PL, ⟨Gu, Gv⟩, ⟨Gw, Gx⟩, PN, PO, PS⟩, ⟨rC, rD⟩, ⟨PU, PW⟩, ⟨PX, PY⟩, ⟨PZ, Qa⟩, XV, XW, ⟨Qb, Qc⟩, ⟨Qd, Qe⟩⟩ =>
     (idx aL i6).bind fun ⟨iX, oz, ⟨Qf, Qg, Qh, ⟨Gy, Gz⟩, ⟨GA, GD⟩, Qi, Qj, Qk⟩, ⟨Ql, Qm, Qn, ⟨GH, GI⟩, ⟨GJ, GK⟩, Qo, Qp, Qq⟩, ⟨kR, kS⟩, ⟨Qr, Qs⟩, ⟨Qt, Qu⟩, ⟨Qv, Qw⟩, XY, XZ, ⟨Qx, Qy⟩, ⟨Qz, QA⟩⟩ =>
      bif !(!(jv == iX)) then
       (idx ah i6).bind fun ⟨mV, qM, ⟨zX, zY, zZ, ⟨uf, ug⟩, ⟨uh, uj⟩, OV, z8, OW⟩, ⟨OX, OY, OZ, ⟨Gl, Gm⟩, ⟨Gn, Gp⟩, O1, O4, O5⟩, ⟨ru, rz⟩, ⟨Ab, Ac⟩, ⟨O6, O7⟩, ⟨Ad, Ae⟩, XI, Je, ⟨O8, O9⟩, ⟨Pb, Pf⟩⟩ =>
        (idx aL i6).bind fun ⟨MJ, TG, ⟨alF, alG, alH, ⟨ag0, ag1⟩, ⟨ag2, ag3⟩, alI, alJ, alK⟩, ⟨alL, alM, alN, ⟨ag4, ag5⟩, ⟨ag6, ag7⟩, alO, alP, alQ⟩, ⟨QB, QC⟩, ⟨alR, alS⟩, ⟨alT, alU⟩, ⟨alV, alW⟩, ap8, ap9, ⟨alX, alY⟩, ⟨alZ, al0⟩⟩ =>
         some (!(seq qM TG))
      else
       some true
   ).bind fun (q : Bool) =>
    match q with
    | i19 =>
     bif i19 then
      some (.inr (.inr i6))
     else
      some (.inl (fq (i6 + 1)))
  else
   some (.inr (.inl i6))
noncomputable def P8 (fu : Nat) (a0 : Sl Cell) (a1 : Sl Cell) : Option (Bool) :=
 match a0 with
 | ⟨ah, aY⟩ =>
  match a1 with
  | ⟨aL, dS⟩ =>
   bif !((ln ah) == (ln aL)) then
    some false
   else
    (wl (TF fu ah aL) 0).bind fun q =>
     match q with
     | .inl o23 =>
      some true
     | .inr sI =>
      some false
noncomputable def QD (fu : Nat) (a2 : (Value → Value → Option (Bool))) (ah : List Value) (aL : List Value) : Int → Option (Int ⊕ (Int ⊕ Int))
 | i8 =>
  bif decide (i8 < (ln ah)) then
   (idx ah i8).bind fun ⟨jv, zh, TH, ⟨Js, Jt⟩, ⟨rC, rD⟩, TI, TJ, TK⟩ =>
    (idx aL i8).bind fun ⟨iX, oz, wY, ⟨pR, pU⟩, ⟨kR, kS⟩, wZ, w9, xq⟩ =>
     (a2 (Value.mk jv zh TH (Sl.mk Js Jt) (Sl.mk rC rD) TI TJ TK) (Value.mk iX oz wY (Sl.mk pR pU) (Sl.mk kR kS) wZ w9 xq)).bind fun FK =>
      bif !FK then
       some (.inr (.inr i8))
      else
       some (.inl (fq (i8 + 1)))
  else
   some (.inr (.inl i8))
noncomputable def P44 (fu : Nat) (a0 : Sl Value) (a1 : Sl Value) (a2 : (Value → Value → Option (Bool))) : Option (Bool) :=
 match a0 with
 | ⟨ah, aY⟩ =>
  match a1 with
  | ⟨aL, dS⟩ =>
   bif !((ln ah) == (ln aL)) then
    some false
   else
    (wl (QD fu a2 ah aL) 0).bind fun q =>
     match q with
     | .inl rA =>
      some true
     | .inr xu =>
      some false
noncomputable def QE (fu : Nat) (a2 : (Field → Field → Option (Bool))) (ah : List Field) (aL : List Field) : Int → Option (Int ⊕ (Int ⊕ Int))
 | i8 =>
  bif decide (i8 < (ln ah)) then
   (idx ah i8).bind fun ⟨jv, ⟨nT, nU, nV, ⟨lu, lC⟩, ⟨lD, lF⟩, nW, nX, nY⟩⟩ =>
    (idx aL i8).bind fun ⟨iX, ⟨uP, uQ, uR, ⟨oK, oN⟩, ⟨oO, oP⟩, uS, uT, uU⟩⟩ =>
     (a2 (Field.mk jv (Value.mk nT nU nV (Sl.mk lu lC) (Sl.mk lD lF) nW nX nY)) (Field.mk iX (Value.mk uP uQ uR (Sl.mk oK oN) (Sl.mk oO oP) uS uT uU))).bind fun FK =>
      bif !FK then
       some (.inr (.inr i8))
      else
       some (.inl (fq (i8 + 1)))
  else
   some (.inr (.inl i8))
noncomputable def P72 (fu : Nat) (a0 : Sl Field) (a1 : Sl Field) (a2 : (Field → Field → Option (Bool))) : Option (Bool) :=
 match a0 with
 | ⟨ah, aY⟩ =>
  match a1 with
  | ⟨aL, dS⟩ =>
   bif !((ln ah) == (ln aL)) then
    some false
   else
    (wl (QE fu a2 ah aL) 0).bind fun q =>
     match q with
     | .inl rA =>
      some true
     | .inr xu =>
      some false
noncomputable def ag8 (fu : Nat) (VE : Value → Value → Option (Bool)) (p45 : (Sl Field) → (Sl Field) → Option (Bool)) (p73 : Field → Field → Option (Bool)) (a0 : Value) (a1 : Value) : Option (Bool) :=
 match a0 with
 | ⟨aD, aO, bN, ⟨aK, aS⟩, ⟨au, aA⟩, bO, bT, aQ⟩ =>
  match a1 with
  | ⟨iL, jT, oQ, ⟨jh, ku⟩, ⟨iU, iV⟩, su, kT, sw⟩ =>
   (
    bif aD == iL then
     bif aO == jT then
      bif seq bN oQ then
       bif bO == su then
        bif seq bT kT then
         bif aQ == sw then
          (P44 fu (Sl.mk aK aS) (Sl.mk jh ku) VE).bind fun r7 =>
           bif r7 then
            (p45 (Sl.mk au aA) (Sl.mk iU iV)).bind fun r10 =>
             some r10
           else
            some false
         else
          some false
        else
         some false
       else
        some false
      else
       some false
     else
      some false
    else
     some false
   ).bind fun (q : Bool) =>
    match q with
    | i12 =>
     some i12
noncomputable def ag9 (fu : Nat) (VE : Value → Value → Option (Bool)) (p45 : (Sl Field) → (Sl Field) → Option (Bool)) (p73 : Field → Field → Option (Bool)) (a0 : Sl Field) (a1 : Sl Field) : Option (Bool) :=
 match a0 with
 | ⟨ah, aY⟩ =>
  match a1 with
  | ⟨aL, dS⟩ =>
   (P72 fu (Sl.mk ah aY) (Sl.mk aL dS) p73).bind fun r1 =>
    some r1
noncomputable def aha (fu : Nat) (VE : Value → Value → Option (Bool)) (p45 : (Sl Field) → (Sl Field) → Option (Bool)) (p73 : Field → Field → Option (Bool)) (a0 : Field) (a1 : Field) : Option (Bool) :=
 match a0 with
 | ⟨aD, ⟨og, oh, om, ⟨kM, kN⟩, ⟨kP, kQ⟩, oo, oq, ou⟩⟩ =>
  match a1 with
  | ⟨iL, ⟨xw, xA, xB, ⟨pV, pW⟩, ⟨pX, pY⟩, xC, xD, xE⟩⟩ =>
   (
    bif seq aD iL then
     (VE (Value.mk og oh om (Sl.mk kM kN) (Sl.mk kP kQ) oo oq ou) (Value.mk xw xA xB (Sl.mk pV pW) (Sl.mk pX pY) xC xD xE)).bind fun r2 =>
      some r2
    else
     some false
   ).bind fun (q : Bool) =>
    match q with
    | i4 =>
     some i4
mutual
noncomputable def X0 : Nat → Value → Value → Option (Bool)
 | 0 => fun _ _ => none
 | fu + 1 => fun a0 a1 => ag8 fu (X0 fu) (P45 fu) (P73 fu) a0 a1
noncomputable def P45 : Nat → (Sl Field) → (Sl Field) → Option (Bool)
 | 0 => fun _ _ => none
 | fu + 1 => fun a0 a1 => ag9 fu (X0 fu) (P45 fu) (P73 fu) a0 a1
noncomputable def P73 : Nat → Field → Field → Option (Bool)
 | 0 => fun _ _ => none
 | fu + 1 => fun a0 a1 => aha fu (X0 fu) (P45 fu) (P73 fu) a0 a1
end
noncomputable def P23 (fu : Nat) (a0 : Cell) : Option (Bool) :=
 match a0 with
 | ⟨aD, aO, ⟨cu, cB, cK, ⟨bA, bB⟩, ⟨bC, bE⟩, dz, cO, dA⟩, ⟨dD, dF, dG, ⟨bH, bI⟩, ⟨bJ, bK⟩, dH, dI, dJ⟩, ⟨au, aA⟩, ⟨dh, dM⟩, ⟨dN, dP⟩, ⟨cZ, dw⟩, eX, eH, ⟨dK, dQ⟩, ⟨dn, dO⟩⟩ =>
  (X0 fu (Value.mk cu cB cK (Sl.mk bA bB) (Sl.mk bC bE) dz cO dA) (Value.mk dD dF dG (Sl.mk bH bI) (Sl.mk bJ bK) dH dI dJ)).bind fun r1 =>
   some (!r1)
noncomputable def MK (fu : Nat) (a0 : Cell) (a1 : Sl Int) : Option (Bool) :=
 match a0 with
 | ⟨aD, aO, ⟨cu, cB, cK, ⟨bA, bB⟩, ⟨bC, bE⟩, dz, cO, dA⟩, ⟨dD, dF, dG, ⟨bH, bI⟩, ⟨bJ, bK⟩, dH, dI, dJ⟩, ⟨au, aA⟩, ⟨dh, dM⟩, ⟨dN, dP⟩, ⟨cZ, dw⟩, eX, eH, ⟨dK, dQ⟩, ⟨dn, dO⟩⟩ =>
  match a1 with
  | ⟨aL, dS⟩ =>
   (
    (P43 fu (Sl.mk aL dS) aD).bind fun r1 =>
     bif r1 then
      (P23 fu (Cell.mk aD aO (Value.mk cu cB cK (Sl.mk bA bB) (Sl.mk bC bE) dz cO dA) (Value.mk dD dF dG (Sl.mk bH bI) (Sl.mk bJ bK) dH dI dJ) (Sl.mk au aA) (Sl.mk dh dM) (Sl.mk dN dP) (Sl.mk cZ dw) eX eH (Sl.mk dK dQ) (Sl.mk dn dO))).bind fun r4 =>
       some r4
     else
      some false
   ).bind fun (q : Bool) =>
    match q with
    | i6 =>
     some i6
noncomputable def Dj (fu : Nat) (d0 : Sl Int) (ah : List Cell) : (Int × Int) → Option ((Int × Int) ⊕ ((Int × Int) ⊕ (Int × Int)))
 | (i3, i4) =>
  bif decide (i4 < (ln ah)) then
   (idx ah i4).bind fun ⟨sj, vK, ⟨Cy, Cz, CB, ⟨uH, uI⟩, ⟨uJ, uK⟩, CG, CJ, CK⟩, ⟨CO, CP, CQ, ⟨uL, uM⟩, ⟨uN, uO⟩, CS, CU, CV⟩, ⟨mW, mX⟩, ⟨CW, CX⟩, ⟨CY, CZ⟩, ⟨C8, C9⟩, Pj, Pk, ⟨Da, Db⟩, ⟨Dc, Df⟩⟩ =>
    (MK fu (Cell.mk sj vK (Value.mk Cy Cz CB (Sl.mk uH uI) (Sl.mk uJ uK) CG CJ CK) (Value.mk CO CP CQ (Sl.mk uL uM) (Sl.mk uN uO) CS CU CV) (Sl.mk mW mX) (Sl.mk CW CX) (Sl.mk CY CZ) (Sl.mk C8 C9) Pj Pk (Sl.mk Da Db) (Sl.mk Dc Df)) (Sl.mk d0.l d0.x)).bind fun r9 =>
     bif r9 then
      some (.inr (.inr (i4, i4)))
     else
      some (.inl (i3, fq (i4 + 1)))
  else
   some (.inr (.inl (i3, i4)))
noncomputable def X3 (fu : Nat) (a0 : Sl Cell) (d0 : Sl Int) : Option (Int) :=
 match a0 with
 | ⟨ah, aY⟩ =>
  (wl (Dj fu d0 ah) (0, 0)).bind fun q =>
   match q with
   | .inl (wX, Ph) =>
    some (-1)
   | .inr (Mj, KS) =>
    some Mj
noncomputable def X4 (fu : Nat) (a0 : Sl Cell) (a2 : Sl Int) : Option (Int) :=
 match a0 with
 | ⟨ah, aY⟩ =>
  match a2 with
  | ⟨acX, acY⟩ =>
   (X3 fu (Sl.mk ah aY) (Sl.mk acX acY)).bind fun r2 =>
    some r2
noncomputable def P9 (fu : Nat) (a0 : Sl Cell) : Option (Bool) :=
 match a0 with
 | ⟨ah, aY⟩ =>
  (X4 fu (Sl.mk ah aY) (Sl.mk [1] (some []))).bind fun r1 =>
   some (decide (0 ≤ r1))
noncomputable def VF (fu : Nat) (p25 : Value → Value → Option (Bool)) (aK : List Value) (jh : List Value) : Int → Option (Int ⊕ (Int ⊕ Int))
 | zw =>
  bif decide (zw < (ln aK)) then
   (idx aK zw).bind fun ⟨MJ, TG, ajP, ⟨adG, adH⟩, ⟨QB, QC⟩, ajQ, ajR, ajS⟩ =>
    (idx jh zw).bind fun ⟨ajT, ajU, ajV, ⟨adI, adJ⟩, ⟨adK, adL⟩, ajW, ajX, ajY⟩ =>
     (p25 (Value.mk MJ TG ajP (Sl.mk adG adH) (Sl.mk QB QC) ajQ ajR ajS) (Value.mk ajT ajU ajV (Sl.mk adI adJ) (Sl.mk adK adL) ajW ajX ajY)).bind fun X5 =>
      bif !X5 then
       some (.inr (.inr zw))
      else
       some (.inl (fq (zw + 1)))
  else
   some (.inr (.inl zw))
noncomputable def ahb (fu : Nat) (p25 : Value → Value → Option (Bool)) (p46 : (Sl Field) → (Sl Field) → Option (Bool)) (a0 : Value) (a1 : Value) : Option (Bool) :=
 match a0 with
 | ⟨aD, aO, bN, ⟨aK, aS⟩, ⟨au, aA⟩, bO, bT, aQ⟩ =>
  match a1 with
  | ⟨iL, jT, oQ, ⟨jh, ku⟩, ⟨iU, iV⟩, su, kT, sw⟩ =>
   (
    bif !(!(aD == iL)) then
     bif !(!(aO == jT)) then
      bif !(!(seq bN oQ)) then
       bif !(!(bO == su)) then
        bif !(!(seq bT kT)) then
         bif !(!(aQ == sw)) then
          some (!((ln aK) == (ln jh)))
         else
          some true
        else
         some true
       else
        some true
      else
       some true
     else
      some true
    else
     some true
   ).bind fun (q : Bool) =>
    match q with
    | i11 =>
     bif i11 then
      some false
     else
      (wl (VF fu p25 aK jh) 0).bind fun q =>
       match q with
       | .inl Vu =>
        (p46 (Sl.mk au aA) (Sl.mk iU iV)).bind fun r26 =>
         some r26
       | .inr o28 =>
        some false
noncomputable def QF (fu : Nat) (p25 : Value → Value → Option (Bool)) (ah : List Field) (aL : List Field) : Int → Option (Int ⊕ (Int ⊕ Int))
 | i6 =>
  bif decide (i6 < (ln ah)) then
   (
    (idx ah i6).bind fun ⟨jv, ⟨nT, nU, nV, ⟨lu, lC⟩, ⟨lD, lF⟩, nW, nX, nY⟩⟩ =>
     (idx aL i6).bind fun ⟨iX, ⟨uP, uQ, uR, ⟨oK, oN⟩, ⟨oO, oP⟩, uS, uT, uU⟩⟩ =>
      bif !(!(seq jv iX)) then
       (idx ah i6).bind fun ⟨mV, ⟨I8, I9, Ja, ⟨Ct, Cu⟩, ⟨Cv, Cw⟩, Jb, Jc, Jd⟩⟩ =>
        (idx aL i6).bind fun ⟨MJ, ⟨adM, adN, adO, ⟨X6, X7⟩, ⟨X8, X9⟩, adP, adQ, adR⟩⟩ =>
         (p25 (Value.mk I8 I9 Ja (Sl.mk Ct Cu) (Sl.mk Cv Cw) Jb Jc Jd) (Value.mk adM adN adO (Sl.mk X6 X7) (Sl.mk X8 X9) adP adQ adR)).bind fun r19 =>
          some (!r19)
      else
       some true
   ).bind fun (q : Bool) =>
    match q with
    | i21 =>
     bif i21 then
      some (.inr (.inr i6))
     else
      some (.inl (fq (i6 + 1)))
  else
   some (.inr (.inl i6))
noncomputable def ahc (fu : Nat) (p25 : Value → Value → Option (Bool)) (p46 : (Sl Field) → (Sl Field) → Option (Bool)) (a0 : Sl Field) (a1 : Sl Field) : Option (Bool) :=
 match a0 with
 | ⟨ah, aY⟩ =>
  match a1 with
  | ⟨aL, dS⟩ =>
   bif !((ln ah) == (ln aL)) then
    some false
   else
    (wl (QF fu p25 ah aL) 0).bind fun q =>
     match q with
     | .inl Vu =>
      some true
     | .inr gB =>
      some false
mutual
noncomputable def VG : Nat → Value → Value → Option (Bool)
 | 0 => fun _ _ => none
 | fu + 1 => fun a0 a1 => ahb fu (VG fu) (P46 fu) a0 a1
noncomputable def P46 : Nat → (Sl Field) → (Sl Field) → Option (Bool)
 | 0 => fun _ _ => none
 | fu + 1 => fun a0 a1 => ahc fu (VG fu) (P46 fu) a0 a1
end
noncomputable def Ju (fu : Nat) (ah : List Cell) : (Bool × Int) → Option ((Bool × Int) ⊕ ((Bool × Int) ⊕ (Bool × Int)))
 | (i1, i2) =>
  bif decide (i2 < (ln ah)) then
   (
    (idx ah i2).bind fun ⟨sj, vK, ⟨Cy, Cz, CB, ⟨uH, uI⟩, ⟨uJ, uK⟩, CG, CJ, CK⟩, ⟨CO, CP, CQ, ⟨uL, uM⟩, ⟨uN, uO⟩, CS, CU, CV⟩, ⟨mW, mX⟩, ⟨CW, CX⟩, ⟨CY, CZ⟩, ⟨C8, C9⟩, Pj, Pk, ⟨Da, Db⟩, ⟨Dc, Df⟩⟩ =>
     bif sj == 1 then
      (idx ah i2).bind fun ⟨alC, agZ, ⟨XM, XP, XQ, ⟨Pp, Pq⟩, ⟨Pt, Pv⟩, XR, XT, XU⟩, ⟨ado, adp, adq, ⟨Vz, VA⟩, ⟨VB, VD⟩, adr, ads, adt⟩, ⟨adu, adv⟩, ⟨adw, adx⟩, ⟨ady, adz⟩, ⟨adA, adB⟩, alD, alE, ⟨adC, adD⟩, ⟨adE, adF⟩⟩ =>
       (idx ah i2).bind fun ⟨qb, aqa, ⟨al1, al2, al3, ⟨ahd, ahe⟩, ⟨ahf, ahg⟩, al4, al5, al6⟩, ⟨adS, adT, adU, ⟨Ya, Yb⟩, ⟨Yc, Yd⟩, adV, adW, adX⟩, ⟨al7, al8⟩, ⟨al9, ama⟩, ⟨amb, amc⟩, ⟨amd, ame⟩, aqb, aqc, ⟨amf, amg⟩, ⟨amh, ami⟩⟩ =>
        (VG fu (Value.mk XM XP XQ (Sl.mk Pp Pq) (Sl.mk Pt Pv) XR XT XU) (Value.mk adS adT adU (Sl.mk Ya Yb) (Sl.mk Yc Yd) adV adW adX)).bind fun r13 =>
         some (!r13)
     else
      some false
   ).bind fun (q : Bool) =>
    match q with
    | TL =>
     bif TL then
      some (.inr (.inr (true, i2)))
     else
      some (.inl (i1, fq (i2 + 1)))
  else
   some (.inr (.inl (i1, i2)))
noncomputable def P10 (fu : Nat) (a0 : Sl Cell) : Option (Bool) :=
 match a0 with
 | ⟨ah, aY⟩ =>
  (wl (Ju fu ah) (false, 0)).bind fun q =>
   match q with
   | .inl (xu, Z7) =>
    some false
   | .inr (Ye, o22) =>
    some Ye
noncomputable def QG (fu : Nat) (a1 : (Value → Option (Bool))) (ah : List Value) : (Int × Int) → Option ((Int × Int) ⊕ ((Int × Int) ⊕ (Int × Int)))
 | (i3, i4) =>
  bif decide (i4 < (ln ah)) then
   (idx ah i4).bind fun ⟨sj, vK, TM, ⟨FL, FM⟩, ⟨mW, mX⟩, TN, TP, TQ⟩ =>
    (a1 (Value.mk sj vK TM (Sl.mk FL FM) (Sl.mk mW mX) TN TP TQ)).bind fun r8 =>
     bif r8 then
      some (.inr (.inr (i4, i4)))
     else
      some (.inl (i3, fq (i4 + 1)))
  else
   some (.inr (.inl (i3, i4)))
noncomputable def P74 (fu : Nat) (a0 : Sl Value) (a1 : (Value → Option (Bool))) : Option (Int) :=
 match a0 with
 | ⟨ah, aY⟩ =>
  (wl (QG fu a1 ah) (0, 0)).bind fun q =>
   match q with
   | .inl (wX, Ph) =>
    some (-1)
   | .inr (Mj, KS) =>
    some Mj
noncomputable def P47 (fu : Nat) (a0 : Sl Value) (a1 : (Value → Option (Bool))) : Option (Bool) :=
 match a0 with
 | ⟨ah, aY⟩ =>
  (P74 fu (Sl.mk ah aY) a1).bind fun r1 =>
   some (decide (0 ≤ r1))
noncomputable def P88 (fu : Nat) (a0 : ByteArray) : Option (Bool) :=
 (
  bif !(seq a0 ByteArray.empty) then
   some (decide ((a0.size : Int) ≤ 4096))
  else
   some false
 ).bind fun (q : Bool) =>
  match q with
  | i2 =>
   some i2
noncomputable def adY (fu : Nat) (a0 : Int) : Option ((Sl ByteArray) × Bool) :=
 (
  bif a0 == 6 then
   some (.inr ([(⟨#[118, 97, 108, 117, 101]⟩ : ByteArray)], (some [])))
  else
   (
    bif a0 == 7 then
     (some [(⟨#[97, 103, 97, 105, 110]⟩ : ByteArray), (⟨#[101, 108, 115, 101]⟩ : ByteArray)]).bind fun l3 =>
      some (.inr (l3, (some [])))
    else
     (
      bif a0 == 8 then
       some (.inr ([(⟨#[101, 108, 115, 101]⟩ : ByteArray)], (some [])))
      else
       (
        bif a0 == 4 then
         some true
        else
         some (a0 == 5)
       ).bind fun (q : Bool) =>
        match q with
        | i8 =>
         bif i8 then
          some (.inr ([], (some [])))
         else
          some (.inl ())
     ).bind fun (q : Unit ⊕ ((List ByteArray) × (Option (List ByteArray)))) =>
      match q with
      | .inl _ =>
       some (.inl ())
      | .inr (Yf, Yg) =>
       some (.inr (Yf, Yg))
   ).bind fun (q : Unit ⊕ ((List ByteArray) × (Option (List ByteArray)))) =>
    match q with
    | .inl _ =>
     some (.inl ())
    | .inr (Yh, Yi) =>
     some (.inr (Yh, Yi))
 ).bind fun (q : Unit ⊕ ((List ByteArray) × (Option (List ByteArray)))) =>
  match q with
  | .inl _ =>
   some ((Sl.mk [] (some [])), false)
  | .inr (Yj, Yk) =>
   some ((Sl.mk Yj Yk), true)
noncomputable def Dk (fu : Nat) (a2 : (Field → ByteArray → Option (Bool))) (ah : List Field) (aL : List ByteArray) : Int → Option (Int ⊕ (Int ⊕ Int))
 | i8 =>
  bif decide (i8 < (ln ah)) then
   (idx ah i8).bind fun ⟨jv, ⟨nT, nU, nV, ⟨lu, lC⟩, ⟨lD, lF⟩, nW, nX, nY⟩⟩ =>
    (idx aL i8).bind fun Z8 =>
     (a2 (Field.mk jv (Value.mk nT nU nV (Sl.mk lu lC) (Sl.mk lD lF) nW nX nY)) Z8).bind fun FK =>
      bif !FK then
       some (.inr (.inr i8))
      else
       some (.inl (fq (i8 + 1)))
  else
   some (.inr (.inl i8))
noncomputable def adZ (fu : Nat) (a0 : Sl Field) (a1 : Sl ByteArray) (a2 : (Field → ByteArray → Option (Bool))) : Option (Bool) :=
 match a0 with
 | ⟨ah, aY⟩ =>
  match a1 with
  | ⟨aL, dS⟩ =>
   bif !((ln ah) == (ln aL)) then
    some false
   else
    (wl (Dk fu a2 ah aL) 0).bind fun q =>
     match q with
     | .inl rA =>
      some true
     | .inr xu =>
      some false
noncomputable def Z9 (fu : Nat) (a0 : Field) (a1 : ByteArray) : Option (Bool) :=
 match a0 with
 | ⟨aD, ⟨og, oh, om, ⟨kM, kN⟩, ⟨kP, kQ⟩, oo, oq, ou⟩⟩ =>
  some (seq aD a1)
noncomputable def P89 (fu : Nat) (a0 : Value) : Option (Bool) :=
 match a0 with
 | ⟨aD, aO, bN, ⟨aK, aS⟩, ⟨au, aA⟩, bO, bT, aQ⟩ =>
  (
   bif !(!(aO == 0)) then
    some (decide (bO ≤ 0))
   else
    some true
  ).bind fun (q : Bool) =>
   match q with
   | i2 =>
    (
     bif !i2 then
      some (decide (9 ≤ bO))
     else
      some true
    ).bind fun (q : Bool) =>
     match q with
     | i4 =>
      (
       bif !i4 then
        some (decide (4096 < (bT.size : Int)))
       else
        some true
      ).bind fun (q : Bool) =>
       match q with
       | i6 =>
        (
         bif !i6 then
          bif !aQ then
           some (!(seq bT ByteArray.empty))
          else
           some false
         else
          some true
        ).bind fun (q : Bool) =>
         match q with
         | i9 =>
          bif i9 then
           some false
          else
           (adY fu bO).bind fun ⟨⟨FI, FJ⟩, r12⟩ =>
            (
             bif r12 then
              (adZ fu (Sl.mk au aA) (Sl.mk FI FJ) (Z9 fu)).bind fun sJ =>
               some (!sJ)
             else
              some false
            ).bind fun (q : Bool) =>
             match q with
             | i17 =>
              bif i17 then
               some false
              else
               (
                bif bO == 4 then
                 some true
                else
                 (
                  bif bO == 7 then
                   some true
                  else
                   some (bO == 8)
                 ).bind fun (q : Bool) =>
                  match q with
                  | i21 =>
                   some i21
               ).bind fun (q : Bool) =>
                match q with
                | i23 =>
                 bif i23 then
                  some (seq bN ByteArray.empty)
                 else
                  (P88 fu bN).bind fun Yl =>
                   some Yl
noncomputable def GL (fu : Nat) (ah : List Int) (a1 : Int) : (Int × Int) → Option ((Int × Int) ⊕ ((Int × Int) ⊕ (Int × Int)))
 | (i3, i4) =>
  bif decide (i4 < (ln ah)) then
   (idx ah i4).bind fun x6 =>
    bif a1 == x6 then
     some (.inr (.inr (i4, i4)))
    else
     some (.inl (i3, fq (i4 + 1)))
  else
   some (.inr (.inl (i3, i4)))
noncomputable def ahh (fu : Nat) (a0 : Sl Int) (a1 : Int) : Option (Int) :=
 match a0 with
 | ⟨ah, aY⟩ =>
  (wl (GL fu ah a1) (0, 0)).bind fun q =>
   match q with
   | .inl (o10, K4) =>
    some (-1)
   | .inr (wX, Ph) =>
    some wX
noncomputable def P91 (fu : Nat) (a0 : Sl Int) (a1 : Int) : Option (Bool) :=
 match a0 with
 | ⟨ah, aY⟩ =>
  (ahh fu (Sl.mk ah aY) a1).bind fun r1 =>
   some (decide (0 ≤ r1))
noncomputable def Dl (fu : Nat) (a0 : Sl Int) (a1 : Value) : Option (Bool) :=
 match a0 with
 | ⟨ah, aY⟩ =>
  match a1 with
  | ⟨iL, jT, oQ, ⟨jh, ku⟩, ⟨iU, iV⟩, su, kT, sw⟩ =>
   (P91 fu (Sl.mk ah aY) iL).bind fun r1 =>
    some r1
noncomputable def Jv (fu : Nat) (au : List Field) : Int → Option (Int ⊕ (Int ⊕ Int))
 | i3 =>
  bif decide (i3 < (ln au)) then
   (idx au i3).bind fun ⟨qB, ⟨xG, xH, xI, ⟨qc, qd⟩, ⟨qg, qh⟩, xJ, xK, xL⟩⟩ =>
    (
     (P88 fu qB).bind fun r7 =>
      bif !(!r7) then
       bif decide (0 < i3) then
        (idx au (fq (i3 - 1))).bind fun ⟨qb, ⟨AL, AO, AP, ⟨uV, uW⟩, ⟨uX, uY⟩, AQ, AU, AV⟩⟩ =>
         some (!(slt qb qB))
       else
        some false
      else
       some true
    ).bind fun (q : Bool) =>
     match q with
     | zw =>
      bif zw then
       some (.inr (.inr i3))
      else
       some (.inl (fq (i3 + 1)))
  else
   some (.inr (.inl i3))
noncomputable def P77 (fu : Nat) (a0 : Value) : Option (Bool) :=
 match a0 with
 | ⟨aD, aO, bN, ⟨aK, aS⟩, ⟨au, aA⟩, bO, bT, aQ⟩ =>
  (wl (Jv fu au) 0).bind fun q =>
   match q with
   | .inl Mk =>
    bif aD == 6 then
     (P89 fu (Value.mk aD aO bN (Sl.mk aK aS) (Sl.mk au aA) bO bT aQ)).bind fun r19 =>
      some r19
    else
     (
      bif decide (aD ≤ 7) then
       some (bO == 0)
      else
       some false
     ).bind fun (q : Bool) =>
      match q with
      | i22 =>
       (
        bif i22 then
         some (seq bT ByteArray.empty)
        else
         some false
       ).bind fun (q : Bool) =>
        match q with
        | i24 =>
         (
          bif i24 then
           some (!aQ)
          else
           some false
         ).bind fun (q : Bool) =>
          match q with
          | i26 =>
           (
            bif i26 then
             some (decide ((bN.size : Int) ≤ 4096))
            else
             some false
           ).bind fun (q : Bool) =>
            match q with
            | i28 =>
             (
              bif i28 then
               bif !(aO == 0) then
                (some [1, 7]).bind fun l31 =>
                 (Dl fu (Sl.mk l31 (some [])) (Value.mk aD aO bN (Sl.mk aK aS) (Sl.mk au aA) bO bT aQ)).bind fun r34 =>
                  bif !r34 then
                   (Dl fu (Sl.mk [2] (some [])) (Value.mk aD aO bN (Sl.mk aK aS) (Sl.mk au aA) bO bT aQ)).bind fun r37 =>
                    bif r37 then
                     some (aO == 1)
                    else
                     some false
                  else
                   some true
               else
                some true
              else
               some false
             ).bind fun (q : Bool) =>
              match q with
              | i40 =>
               (
                bif i40 then
                 bif !(seq bN ByteArray.empty) then
                  (some [3, 7]).bind fun l43 =>
                   (Dl fu (Sl.mk l43 (some [])) (Value.mk aD aO bN (Sl.mk aK aS) (Sl.mk au aA) bO bT aQ)).bind fun r46 =>
                    some r46
                 else
                  some true
                else
                 some false
               ).bind fun (q : Bool) =>
                match q with
                | i48 =>
                 (
                  bif i48 then
                   bif !((ln aK) == 0) then
                    (Dl fu (Sl.mk [4] (some [])) (Value.mk aD aO bN (Sl.mk aK aS) (Sl.mk au aA) bO bT aQ)).bind fun r53 =>
                     some r53
                   else
                    some true
                  else
                   some false
                 ).bind fun (q : Bool) =>
                  match q with
                  | i55 =>
                   (
                    bif i55 then
                     bif !((ln au) == 0) then
                      (some [5, 7]).bind fun l60 =>
                       (Dl fu (Sl.mk l60 (some [])) (Value.mk aD aO bN (Sl.mk aK aS) (Sl.mk au aA) bO bT aQ)).bind fun r63 =>
                        some r63
                     else
                      some true
                    else
                     some false
                   ).bind fun (q : Bool) =>
                    match q with
                    | i65 =>
                     some i65
   | .inr o74 =>
    some false
noncomputable def Ym (fu : Nat) (a0 : Value) (a1 : Int) (b0 : Int) (b1 : Bool) : Option (Bool × Int × Bool) :=
 match a0 with
 | ⟨aD, aO, bN, ⟨aK, aS⟩, ⟨au, aA⟩, bO, bT, aQ⟩ =>
  (
   (P77 fu (Value.mk aD aO bN (Sl.mk aK aS) (Sl.mk au aA) bO bT aQ)).bind fun r1 =>
    bif r1 then
     bif decide ((fq (b0 + 1)) ≤ 4096) then
      some (decide (a1 ≤ 64))
     else
      some false
    else
     some false
  ).bind fun (q : Bool) =>
   match q with
   | g5 =>
    some (g5, fq (b0 + 1), g5)
noncomputable def xM (fu : Nat) (xO : Value → Int → Int → Bool → Option (Bool × Int × Bool)) (aK : List Value) (a1 : Int) : (Int × Bool × Int) → Option ((Int × Bool × Int) ⊕ ((Int × Bool × Int) ⊕ (Int × Bool × Int)))
 | (g8, g9, Yn) =>
  bif decide (Yn < (ln aK)) then
   (idx aK Yn).bind fun ⟨iX, oz, wY, ⟨pR, pU⟩, ⟨kR, kS⟩, wZ, w9, xq⟩ =>
    (xO (Value.mk iX oz wY (Sl.mk pR pU) (Sl.mk kR kS) wZ w9 xq) (fq (a1 + 1)) g8 g9).bind fun ⟨sJ, amj, amk⟩ =>
     bif !sJ then
      some (.inr (.inr (amj, amk, Yn)))
     else
      some (.inl (amj, amk, fq (Yn + 1)))
  else
   some (.inr (.inl (g8, g9, Yn)))
noncomputable def xP (fu : Nat) (xO : Value → Int → Int → Bool → Option (Bool × Int × Bool)) (au : List Field) (a1 : Int) : (Int × Bool × Int) → Option ((Int × Bool × Int) ⊕ ((Int × Bool × Int) ⊕ (Int × Bool × Int)))
 | (g25, g26, i27) =>
  bif decide (i27 < (ln au)) then
   (idx au i27).bind fun ⟨ajZ, ⟨VH, VI, VJ, ⟨QH, QI⟩, ⟨QJ, QK⟩, VK, VL, VN⟩⟩ =>
    (xO (Value.mk VH VI VJ (Sl.mk QH QI) (Sl.mk QJ QK) VK VL VN) (fq (a1 + 1)) g25 g26).bind fun ⟨r32, aml, amm⟩ =>
     bif !r32 then
      some (.inr (.inr (aml, amm, i27)))
     else
      some (.inl (aml, amm, fq (i27 + 1)))
  else
   some (.inr (.inl (g25, g26, i27)))
noncomputable def QL (fu : Nat) (xO : Value → Int → Int → Bool → Option (Bool × Int × Bool)) (a0 : Value) (a1 : Int) (b1 : Int) (b2 : Bool) : Option (Bool × Int × Bool) :=
 match a0 with
 | ⟨aD, aO, bN, ⟨aK, aS⟩, ⟨au, aA⟩, bO, bT, aQ⟩ =>
  (Ym fu (Value.mk aD aO bN (Sl.mk aK aS) (Sl.mk au aA) bO bT aQ) a1 b1 b2).bind fun ⟨r2, wr3, wr4⟩ =>
   bif !r2 then
    some (false, wr3, wr4)
   else
    (wl (xM fu xO aK a1) (wr3, wr4, 0)).bind fun q =>
     match q with
     | .inl (Z7, Ye, o22) =>
      (wl (xP fu xO au a1) (Z7, Ye, 0)).bind fun q =>
       match q with
       | .inl (o37, o38, o39) =>
        some (true, o37, o38)
       | .inr (o40, o41, o42) =>
        some (false, o40, o41)
     | .inr (o43, o44, o45) =>
      some (false, o43, o44)
noncomputable def FN : Nat → Value → Int → Int → Bool → Option (Bool × Int × Bool)
 | 0 => fun _ _ _ _ => none
 | fu + 1 => fun a0 a1 a2 a3 => QL fu (FN fu) a0 a1 a2 a3
noncomputable def Yo (fu : Nat) (a0 : Value) (b0 : Int) (b1 : Bool) : Option (Int × Bool) :=
 match a0 with
 | ⟨aD, aO, bN, ⟨aK, aS⟩, ⟨au, aA⟩, bO, bT, aQ⟩ =>
  (FN fu (Value.mk aD aO bN (Sl.mk aK aS) (Sl.mk au aA) bO bT aQ) 1 b0 b1).bind fun ⟨r2, wr3, wr4⟩ =>
   some (wr3, wr4)
noncomputable def P49 (fu : Nat) (a0 : Value) : Option (Bool) :=
 match a0 with
 | ⟨aD, aO, bN, ⟨aK, aS⟩, ⟨au, aA⟩, bO, bT, aQ⟩ =>
  (Yo fu (Value.mk aD aO bN (Sl.mk aK aS) (Sl.mk au aA) bO bT aQ) 0 true).bind fun ⟨wr2, wr3⟩ =>
   some wr3
noncomputable def P48 (fu : Nat) (a0 : Value) : Option (Bool) :=
 match a0 with
 | ⟨aD, aO, bN, ⟨aK, aS⟩, ⟨au, aA⟩, bO, bT, aQ⟩ =>
  (P49 fu (Value.mk aD aO bN (Sl.mk aK aS) (Sl.mk au aA) bO bT aQ)).bind fun r1 =>
   some (!r1)
noncomputable def P50 (fu : Nat) (a0 : ByteArray) : Option (Bool) :=
 (
  bif !(seq a0 ByteArray.empty) then
   some (decide ((a0.size : Int) ≤ 4096))
  else
   some false
 ).bind fun (q : Bool) =>
  match q with
  | i2 =>
   some i2
noncomputable def P51 (fu : Nat) (a0 : Value) : Option (Bool) :=
 match a0 with
 | ⟨aD, aO, bN, ⟨aK, aS⟩, ⟨au, aA⟩, bO, bT, aQ⟩ =>
  (X0 fu (Value.mk aD aO bN (Sl.mk aK aS) (Sl.mk au aA) bO bT aQ) (Value.mk 0 0 ByteArray.empty (Sl.mk [] (some [])) (Sl.mk [] (some [])) 0 ByteArray.empty false)).bind fun r1 =>
   some r1
noncomputable def Jw (fu : Nat) (ah : List Field) : Int → Option (Int ⊕ (Int ⊕ Int))
 | i3 =>
  bif decide (i3 < (ln ah)) then
   (idx ah i3).bind fun ⟨qB, ⟨xG, xH, xI, ⟨qc, qd⟩, ⟨qg, qh⟩, xJ, xK, xL⟩⟩ =>
    (P50 fu qB).bind fun r7 =>
     bif !(!r7) then
      bif decide (0 < i3) then
       (idx ah (fq (i3 - 1))).bind fun ⟨qb, ⟨AL, AO, AP, ⟨uV, uW⟩, ⟨uX, uY⟩, AQ, AU, AV⟩⟩ =>
        (
         bif !(slt qB qb || seq qB qb) then
          (P49 fu (Value.mk xG xH xI (Sl.mk qc qd) (Sl.mk qg qh) xJ xK xL)).bind fun FK =>
           some (!FK)
         else
          some true
        ).bind fun (q : Bool) =>
         match q with
         | i16 =>
          bif i16 then
           some (.inr (.inr i3))
          else
           some (.inl (fq (i3 + 1)))
      else
       (P49 fu (Value.mk xG xH xI (Sl.mk qc qd) (Sl.mk qg qh) xJ xK xL)).bind fun r19 =>
        bif !r19 then
         some (.inr (.inr i3))
        else
         some (.inl (fq (i3 + 1)))
     else
      some (.inr (.inr i3))
  else
   some (.inr (.inl i3))
noncomputable def P52 (fu : Nat) (a0 : Sl Field) : Option (Bool) :=
 match a0 with
 | ⟨ah, aY⟩ =>
  (wl (Jw fu ah) 0).bind fun q =>
   match q with
   | .inl o23 =>
    some true
   | .inr sI =>
    some false
noncomputable def P26 (fu : Nat) (a0 : Cell) : Option (Bool) :=
 match a0 with
 | ⟨aD, aO, ⟨cu, cB, cK, ⟨bA, bB⟩, ⟨bC, bE⟩, dz, cO, dA⟩, ⟨dD, dF, dG, ⟨bH, bI⟩, ⟨bJ, bK⟩, dH, dI, dJ⟩, ⟨au, aA⟩, ⟨dh, dM⟩, ⟨dN, dP⟩, ⟨cZ, dw⟩, eX, eH, ⟨dK, dQ⟩, ⟨dn, dO⟩⟩ =>
  (
   bif !(decide (0 < (fq ((fq ((fq ((fq ((ln dh) + (ln dN))) + (ln cZ))) + (ln dK))) + (ln dn))))) then
    some eX
   else
    some true
  ).bind fun (q : Bool) =>
   match q with
   | i12 =>
    (
     bif !i12 then
      some eH
     else
      some true
    ).bind fun (q : Bool) =>
     match q with
     | qy =>
      (P47 fu (Sl.mk au aA) (P48 fu)).bind fun sJ =>
       (
        bif aD == 1 then
         (
          (P50 fu aO).bind fun TR =>
           bif TR then
            (P49 fu (Value.mk cu cB cK (Sl.mk bA bB) (Sl.mk bC bE) dz cO dA)).bind fun X5 =>
             some X5
           else
            some false
         ).bind fun (q : Bool) =>
          match q with
          | i23 =>
           (
            bif i23 then
             (P49 fu (Value.mk dD dF dG (Sl.mk bH bI) (Sl.mk bJ bK) dH dI dJ)).bind fun Yl =>
              some Yl
            else
             some false
           ).bind fun (q : Bool) =>
            match q with
            | i27 =>
             (
              bif i27 then
               some ((ln au) == 0)
              else
               some false
             ).bind fun (q : Bool) =>
              match q with
              | i31 =>
               (
                bif i31 then
                 some (!qy)
                else
                 some false
               ).bind fun (q : Bool) =>
                match q with
                | i33 =>
                 some (.inr i33)
        else
         (
          bif aD == 2 then
           (
            (P50 fu aO).bind fun r39 =>
             bif r39 then
              (P49 fu (Value.mk cu cB cK (Sl.mk bA bB) (Sl.mk bC bE) dz cO dA)).bind fun r42 =>
               some r42
             else
              some false
           ).bind fun (q : Bool) =>
            match q with
            | i44 =>
             (
              bif i44 then
               (P51 fu (Value.mk dD dF dG (Sl.mk bH bI) (Sl.mk bJ bK) dH dI dJ)).bind fun r46 =>
                some r46
              else
               some false
             ).bind fun (q : Bool) =>
              match q with
              | i48 =>
               (
                bif i48 then
                 some (!sJ)
                else
                 some false
               ).bind fun (q : Bool) =>
                match q with
                | i50 =>
                 (
                  bif i50 then
                   some (!qy)
                  else
                   some false
                 ).bind fun (q : Bool) =>
                  match q with
                  | i52 =>
                   some (.inr i52)
          else
           (
            bif aD == 3 then
             (
              (P50 fu aO).bind fun r58 =>
               bif r58 then
                (P49 fu (Value.mk cu cB cK (Sl.mk bA bB) (Sl.mk bC bE) dz cO dA)).bind fun r61 =>
                 some r61
               else
                some false
             ).bind fun (q : Bool) =>
              match q with
              | i63 =>
               (
                bif i63 then
                 (P51 fu (Value.mk dD dF dG (Sl.mk bH bI) (Sl.mk bJ bK) dH dI dJ)).bind fun r65 =>
                  some r65
                else
                 some false
               ).bind fun (q : Bool) =>
                match q with
                | i67 =>
                 (
                  bif i67 then
                   some ((ln au) == 0)
                  else
                   some false
                 ).bind fun (q : Bool) =>
                  match q with
                  | i71 =>
                   (
                    bif i71 then
                     some (!qy)
                    else
                     some false
                   ).bind fun (q : Bool) =>
                    match q with
                    | i73 =>
                     some (.inr i73)
            else
             (
              bif aD == 4 then
               some true
              else
               some (aD == 5)
             ).bind fun (q : Bool) =>
              match q with
              | i79 =>
               bif i79 then
                (
                 bif seq aO ByteArray.empty then
                  (P51 fu (Value.mk cu cB cK (Sl.mk bA bB) (Sl.mk bC bE) dz cO dA)).bind fun r82 =>
                   some r82
                 else
                  some false
                ).bind fun (q : Bool) =>
                 match q with
                 | i84 =>
                  (
                   bif i84 then
                    (P51 fu (Value.mk dD dF dG (Sl.mk bH bI) (Sl.mk bJ bK) dH dI dJ)).bind fun r86 =>
                     some r86
                   else
                    some false
                  ).bind fun (q : Bool) =>
                   match q with
                   | i88 =>
                    (
                     bif i88 then
                      some (!sJ)
                     else
                      some false
                    ).bind fun (q : Bool) =>
                     match q with
                     | i90 =>
                      (
                       bif i90 then
                        (P52 fu (Sl.mk cZ dw)).bind fun r92 =>
                         some r92
                       else
                        some false
                      ).bind fun (q : Bool) =>
                       match q with
                       | i94 =>
                        (
                         bif i94 then
                          (P52 fu (Sl.mk dn dO)).bind fun r96 =>
                           some r96
                         else
                          some false
                        ).bind fun (q : Bool) =>
                         match q with
                         | i98 =>
                          (
                           bif i98 then
                            bif !eH then
                             some ((fq ((ln dK) + (ln dn))) == 0)
                            else
                             some true
                           else
                            some false
                          ).bind fun (q : Bool) =>
                           match q with
                           | i105 =>
                            some (.inr i105)
               else
                some (.inl ())
           ).bind fun (q : Unit ⊕ Bool) =>
            match q with
            | .inl _ =>
             some (.inl ())
            | .inr ahi =>
             some (.inr ahi)
         ).bind fun (q : Unit ⊕ Bool) =>
          match q with
          | .inl _ =>
           some (.inl ())
          | .inr ahj =>
           some (.inr ahj)
       ).bind fun (q : Unit ⊕ Bool) =>
        match q with
        | .inl _ =>
         some false
        | .inr i117 =>
         some i117
noncomputable def Jy (fu : Nat) (ah : List Cell) (aY : Option (List Cell)) : Int → Option (Int ⊕ (Int ⊕ Int))
 | i6 =>
  bif decide (i6 < (ln ah)) then
   (idx ah i6).bind fun ⟨F8, K5, ⟨ML, MN, MO, ⟨EA, EB⟩, ⟨EC, ED⟩, MP, MQ, MR⟩, ⟨MS, MU, MV, ⟨EF, EG⟩, ⟨EH, EI⟩, MW, MX, MZ⟩, ⟨Dh, Di⟩, ⟨M0, M4⟩, ⟨M5, M6⟩, ⟨M7, M8⟩, aac, aad, ⟨M9, Na⟩, ⟨Nb, Nc⟩⟩ =>
    (
     (P26 fu (Cell.mk F8 K5 (Value.mk ML MN MO (Sl.mk EA EB) (Sl.mk EC ED) MP MQ MR) (Value.mk MS MU MV (Sl.mk EF EG) (Sl.mk EH EI) MW MX MZ) (Sl.mk Dh Di) (Sl.mk M0 M4) (Sl.mk M5 M6) (Sl.mk M7 M8) aac aad (Sl.mk M9 Na) (Sl.mk Nb Nc))).bind fun r10 =>
      bif !(!r10) then
       bif F8 == 1 then
        (P17 fu (Sl.mk ah aY) K5).bind fun FK =>
         some (!(FK == i6))
       else
        some false
      else
       some true
    ).bind fun (q : Bool) =>
     match q with
     | i16 =>
      bif i16 then
       some (.inr (.inr i6))
      else
       some (.inl (fq (i6 + 1)))
  else
   some (.inr (.inl i6))
noncomputable def P11 (fu : Nat) (a0 : Sl Cell) : Option (Bool) :=
 match a0 with
 | ⟨ah, aY⟩ =>
  bif decide (4096 < (ln ah)) then
   some false
  else
   (wl (Jy fu ah aY) 0).bind fun q =>
    match q with
    | .inl Z7 =>
     some true
    | .inr Ye =>
     some false
noncomputable def P53 (fu : Nat) (a0 : ByteArray) : Option (Bool) :=
 (
  bif decide (1 ≤ (a0.size : Int)) then
   some (decide ((a0.size : Int) ≤ 4096))
  else
   some false
 ).bind fun (q : Bool) =>
  match q with
  | i2 =>
   some i2
noncomputable def P92 (fu : Nat) (a0 : Value) (a1 : Bool) (a2 : Bool) (a3 : Bool) (a4 : Bool) : Option (Bool) :=
 match a0 with
 | ⟨aD, aO, bN, ⟨aK, aS⟩, ⟨au, aA⟩, bO, bT, aQ⟩ =>
  (
   bif !a1 then
    some (aO == 0)
   else
    some true
  ).bind fun (q : Bool) =>
   match q with
   | i2 =>
    (
     bif i2 then
      bif !a2 then
       some (seq bN ByteArray.empty)
      else
       some true
     else
      some false
    ).bind fun (q : Bool) =>
     match q with
     | i5 =>
      (
       bif i5 then
        bif !a3 then
         some ((ln aK) == 0)
        else
         some true
       else
        some false
      ).bind fun (q : Bool) =>
       match q with
       | Yn =>
        (
         bif Yn then
          bif !a4 then
           some ((ln au) == 0)
          else
           some true
         else
          some false
        ).bind fun (q : Bool) =>
         match q with
         | TL =>
          (
           bif TL then
            some (bO == 0)
           else
            some false
          ).bind fun (q : Bool) =>
           match q with
           | i17 =>
            (
             bif i17 then
              some (seq bT ByteArray.empty)
             else
              some false
            ).bind fun (q : Bool) =>
             match q with
             | i19 =>
              (
               bif i19 then
                some (!aQ)
               else
                some false
              ).bind fun (q : Bool) =>
               match q with
               | i21 =>
                some i21
noncomputable def TS (fu : Nat) (a0 : ByteArray) : Option (Bool) :=
 (
  bif decide (1 ≤ (a0.size : Int)) then
   some (decide ((a0.size : Int) ≤ 4096))
  else
   some false
 ).bind fun (q : Bool) =>
  match q with
  | i2 =>
   some i2
noncomputable def Dm (fu : Nat) (ah : List Field) (aL : List ByteArray) : Int → Option (Int ⊕ (Int ⊕ Int))
 | i6 =>
  bif decide (i6 < (ln ah)) then
   (idx ah i6).bind fun ⟨jv, ⟨nT, nU, nV, ⟨lu, lC⟩, ⟨lD, lF⟩, nW, nX, nY⟩⟩ =>
    (idx aL i6).bind fun Z8 =>
     bif !(seq jv Z8) then
      some (.inr (.inr i6))
     else
      some (.inl (fq (i6 + 1)))
  else
   some (.inr (.inl i6))
noncomputable def VO (fu : Nat) (a0 : Sl Field) (a1 : Sl ByteArray) : Option (Bool) :=
 match a0 with
 | ⟨ah, aY⟩ =>
  match a1 with
  | ⟨aL, dS⟩ =>
   bif !((ln ah) == (ln aL)) then
    some false
   else
    (wl (Dm fu ah aL) 0).bind fun q =>
     match q with
     | .inl o16 =>
      some true
     | .inr Mk =>
      some false
noncomputable def ahk (fu : Nat) (GN : Value → Option (Bool)) (QM : (Sl Value) → Option (Bool)) (Nf : (Sl Field) → Option (Bool)) (RF : Value → Option (Bool)) (a0 : Value) : Option (Bool) :=
 match a0 with
 | ⟨aD, aO, bN, ⟨aK, aS⟩, ⟨au, aA⟩, bO, bT, aQ⟩ =>
  (
   bif aD == 0 then
    (P92 fu (Value.mk aD aO bN (Sl.mk aK aS) (Sl.mk au aA) bO bT aQ) false false false false).bind fun r2 =>
     some (.inr r2)
   else
    (
     bif aD == 1 then
      (P92 fu (Value.mk aD aO bN (Sl.mk aK aS) (Sl.mk au aA) bO bT aQ) true false false false).bind fun r5 =>
       some (.inr r5)
     else
      (
       bif aD == 2 then
        (
         (P92 fu (Value.mk aD aO bN (Sl.mk aK aS) (Sl.mk au aA) bO bT aQ) true false false false).bind fun r8 =>
          bif r8 then
           bif !(aO == 0) then
            some (aO == 1)
           else
            some true
          else
           some false
        ).bind fun (q : Bool) =>
         match q with
         | i12 =>
          some (.inr i12)
       else
        (
         bif aD == 3 then
          (
           (P92 fu (Value.mk aD aO bN (Sl.mk aK aS) (Sl.mk au aA) bO bT aQ) false true false false).bind fun sJ =>
            bif sJ then
             some (decide ((bN.size : Int) ≤ 4096))
            else
             some false
          ).bind fun (q : Bool) =>
           match q with
           | i18 =>
            some (.inr i18)
         else
          (
           bif aD == 4 then
            (
             (P92 fu (Value.mk aD aO bN (Sl.mk aK aS) (Sl.mk au aA) bO bT aQ) false false true false).bind fun X5 =>
              bif X5 then
               (QM (Sl.mk aK aS)).bind fun r24 =>
                some r24
              else
               some false
            ).bind fun (q : Bool) =>
             match q with
             | i26 =>
              some (.inr i26)
           else
            (
             bif aD == 5 then
              (
               (P92 fu (Value.mk aD aO bN (Sl.mk aK aS) (Sl.mk au aA) bO bT aQ) false false false true).bind fun r29 =>
                bif r29 then
                 (Nf (Sl.mk au aA)).bind fun r32 =>
                  some r32
                else
                 some false
              ).bind fun (q : Bool) =>
               match q with
               | i34 =>
                some (.inr i34)
             else
              (
               bif aD == 7 then
                (
                 (P92 fu (Value.mk aD aO bN (Sl.mk aK aS) (Sl.mk au aA) bO bT aQ) true true false true).bind fun r37 =>
                  bif r37 then
                   some (decide ((bN.size : Int) ≤ 4096))
                  else
                   some false
                ).bind fun (q : Bool) =>
                 match q with
                 | i40 =>
                  (
                   bif i40 then
                    (Nf (Sl.mk au aA)).bind fun r42 =>
                     some r42
                   else
                    some false
                  ).bind fun (q : Bool) =>
                   match q with
                   | i44 =>
                    some (.inr i44)
               else
                bif aD == 6 then
                 (RF (Value.mk aD aO bN (Sl.mk aK aS) (Sl.mk au aA) bO bT aQ)).bind fun r48 =>
                  some (.inr r48)
                else
                 some (.inl ())
              ).bind fun (q : Unit ⊕ Bool) =>
               match q with
               | .inl _ =>
                some (.inl ())
               | .inr i50 =>
                some (.inr i50)
            ).bind fun (q : Unit ⊕ Bool) =>
             match q with
             | .inl _ =>
              some (.inl ())
             | .inr i52 =>
              some (.inr i52)
          ).bind fun (q : Unit ⊕ Bool) =>
           match q with
           | .inl _ =>
            some (.inl ())
           | .inr i54 =>
            some (.inr i54)
        ).bind fun (q : Unit ⊕ Bool) =>
         match q with
         | .inl _ =>
          some (.inl ())
         | .inr i56 =>
          some (.inr i56)
      ).bind fun (q : Unit ⊕ Bool) =>
       match q with
       | .inl _ =>
        some (.inl ())
       | .inr i58 =>
        some (.inr i58)
    ).bind fun (q : Unit ⊕ Bool) =>
     match q with
     | .inl _ =>
      some (.inl ())
     | .inr i60 =>
      some (.inr i60)
  ).bind fun (q : Unit ⊕ Bool) =>
   match q with
   | .inl _ =>
    some false
   | .inr i62 =>
    some i62
noncomputable def Jz (fu : Nat) (GN : Value → Option (Bool)) (ah : List Value) : Int → Option (Int ⊕ (Int ⊕ Int))
 | i1 =>
  bif decide (i1 < (ln ah)) then
   (idx ah i1).bind fun ⟨qB, ad1, ad2, ⟨TT, TU⟩, ⟨TV, TW⟩, ad3, ad4, ad5⟩ =>
    (GN (Value.mk qB ad1 ad2 (Sl.mk TT TU) (Sl.mk TV TW) ad3 ad4 ad5)).bind fun r7 =>
     bif !r7 then
      some (.inr (.inr i1))
     else
      some (.inl (fq (i1 + 1)))
  else
   some (.inr (.inl i1))
noncomputable def ahl (fu : Nat) (GN : Value → Option (Bool)) (QM : (Sl Value) → Option (Bool)) (Nf : (Sl Field) → Option (Bool)) (RF : Value → Option (Bool)) (a0 : Sl Value) : Option (Bool) :=
 match a0 with
 | ⟨ah, aY⟩ =>
  (wl (Jz fu GN ah) 0).bind fun q =>
   match q with
   | .inl K4 =>
    some true
   | .inr wX =>
    some false
noncomputable def JA (fu : Nat) (GN : Value → Option (Bool)) (ah : List Field) : Int → Option (Int ⊕ (Int ⊕ Int))
 | i1 =>
  bif decide (i1 < (ln ah)) then
   (idx ah i1).bind fun ⟨qB, ⟨xG, xH, xI, ⟨qc, qd⟩, ⟨qg, qh⟩, xJ, xK, xL⟩⟩ =>
    (TS fu qB).bind fun r7 =>
     bif !(!r7) then
      bif decide (0 < i1) then
       (idx ah (fq (i1 - 1))).bind fun ⟨qb, ⟨AL, AO, AP, ⟨uV, uW⟩, ⟨uX, uY⟩, AQ, AU, AV⟩⟩ =>
        (idx ah i1).bind fun ⟨Dn, ⟨VP, VQ, VR, ⟨QN, QO⟩, ⟨QS, QT⟩, VT, VU, VW⟩⟩ =>
         (
          bif !(!(slt qb Dn)) then
           (idx ah i1).bind fun ⟨TY, ⟨JB, JC, JD, ⟨Dp, Dq⟩, ⟨Dr, Dt⟩, JE, JF, JG⟩⟩ =>
            (GN (Value.mk JB JC JD (Sl.mk Dp Dq) (Sl.mk Dr Dt) JE JF JG)).bind fun TR =>
             some (!TR)
          else
           some true
         ).bind fun (q : Bool) =>
          match q with
          | i20 =>
           bif i20 then
            some (.inr (.inr i1))
           else
            some (.inl (fq (i1 + 1)))
      else
       (idx ah i1).bind fun ⟨mY, ⟨xQ, xR, xS, ⟨qN, qO⟩, ⟨qP, qQ⟩, xU, xV, xW⟩⟩ =>
        (GN (Value.mk xQ xR xS (Sl.mk qN qO) (Sl.mk qP qQ) xU xV xW)).bind fun Yl =>
         bif !Yl then
          some (.inr (.inr i1))
         else
          some (.inl (fq (i1 + 1)))
     else
      some (.inr (.inr i1))
  else
   some (.inr (.inl i1))
noncomputable def ahm (fu : Nat) (GN : Value → Option (Bool)) (QM : (Sl Value) → Option (Bool)) (Nf : (Sl Field) → Option (Bool)) (RF : Value → Option (Bool)) (a0 : Sl Field) : Option (Bool) :=
 match a0 with
 | ⟨ah, aY⟩ =>
  (wl (JA fu GN ah) 0).bind fun q =>
   match q with
   | .inl Uu =>
    some true
   | .inr o30 =>
    some false
end Go.Proofs.YtipkggkbldgmjaaGreat
