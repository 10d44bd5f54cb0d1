/- T -/
import Derived.Test.YtedfkehkcaaplaaTFE
namespace Go.Proofs.Ytedfkehkcaaplaa
open Go Go.X
set_option linter.unusedVariables false
set_option maxRecDepth 100000
noncomputable def P7 (fu : Nat) : Option (Bool) :=
 some true
noncomputable def YM (fu : Nat) (p49 : Value → Option (Int)) (p72 : (Sl Value) → Option (Int)) (p73 : (Sl Field) → Option (Int)) (Gn : Field → Option (Int)) (a0 : Value) : Option (Int) :=
 match a0 with
 | ⟨g, h, a, ⟨c, d⟩, ⟨e, f⟩, i, b, j⟩ =>
  (
   bif decide ((dS ((dS (1 + (a.size : Int))) + (b.size : Int))) ≤ 1048576) then
    (p72 (Sl.mk c d)).bind fun r2 =>
     some (dS ((dS ((dS (1 + (a.size : Int))) + (b.size : Int))) + r2))
   else
    some (dS ((dS (1 + (a.size : Int))) + (b.size : Int)))
  ).bind fun (q : Int) =>
   match q with
   | i4 =>
    (
     bif decide (i4 ≤ 1048576) then
      (p73 (Sl.mk e f)).bind fun r6 =>
       some (dS (i4 + r6))
     else
      some i4
    ).bind fun (q : Int) =>
     match q with
     | i9 =>
      some i9
noncomputable def Jc (fu : Nat) (p49 : Value → Option (Int)) (a : List Value) : (Int × Int) → Option ((Int × Int) ⊕ ((Int × Int)))
 | (i3, i4) =>
  (
   bif decide (i4 < (ln a)) then
    some (decide (i3 ≤ 1048576))
   else
    some false
  ).bind fun (q : Bool) =>
   match q with
   | i9 =>
    bif i9 then
     (idx a i4).bind fun ⟨b, c, d, ⟨e, f⟩, ⟨g, h⟩, i, j, k⟩ =>
      (p49 (Value.mk b c d (Sl.mk e f) (Sl.mk g h) i j k)).bind fun Gp =>
       some (.inl (dS (i3 + Gp), dS (i4 + 1)))
    else
     some (.inr (i3, i4))
noncomputable def YN (fu : Nat) (p49 : Value → Option (Int)) (p72 : (Sl Value) → Option (Int)) (p73 : (Sl Field) → Option (Int)) (Gn : Field → Option (Int)) (a0 : Sl Value) : Option (Int) :=
 match a0 with
 | ⟨a, b⟩ =>
  (wl (Jc fu p49 a) (ln a, 0)).bind fun q =>
   match q with
   | (qx, fq) =>
    some qx
noncomputable def Jd (fu : Nat) (Gn : Field → Option (Int)) (a : List Field) : (Int × Int) → Option ((Int × Int) ⊕ ((Int × Int)))
 | (i3, i4) =>
  (
   bif decide (i4 < (ln a)) then
    some (decide (i3 ≤ 1048576))
   else
    some false
  ).bind fun (q : Bool) =>
   match q with
   | i9 =>
    bif i9 then
     (idx a i4).bind fun ⟨b, ⟨c, d, e, ⟨f, g⟩, ⟨h, i⟩, j, k, l⟩⟩ =>
      (Gn (Field.mk b (Value.mk c d e (Sl.mk f g) (Sl.mk h i) j k l))).bind fun Gp =>
       some (.inl (dS (i3 + Gp), dS (i4 + 1)))
    else
     some (.inr (i3, i4))
noncomputable def YO (fu : Nat) (p49 : Value → Option (Int)) (p72 : (Sl Value) → Option (Int)) (p73 : (Sl Field) → Option (Int)) (Gn : Field → Option (Int)) (a0 : Sl Field) : Option (Int) :=
 match a0 with
 | ⟨a, b⟩ =>
  (wl (Jd fu Gn a) (ln a, 0)).bind fun q =>
   match q with
   | (qx, fq) =>
    some qx
noncomputable def Vm (fu : Nat) (p49 : Value → Option (Int)) (p72 : (Sl Value) → Option (Int)) (p73 : (Sl Field) → Option (Int)) (Gn : Field → Option (Int)) (a0 : Field) : Option (Int) :=
 match a0 with
 | ⟨a, ⟨b, c, d, ⟨e, f⟩, ⟨g, h⟩, i, j, k⟩⟩ =>
  (
   bif decide ((dS (1 + (a.size : Int))) ≤ 1048576) then
    (p49 (Value.mk b c d (Sl.mk e f) (Sl.mk g h) i j k)).bind fun r2 =>
     some (dS ((dS (1 + (a.size : Int))) + r2))
   else
    some (dS (1 + (a.size : Int)))
  ).bind fun (q : Int) =>
   match q with
   | i4 =>
    some i4
mutual
noncomputable def PY : Nat → Value → Option (Int)
 | 0 => fun _ => none
 | fu + 1 => fun a0 => YM fu (PY fu) (Xl fu) (Vn fu) (YP fu) a0
noncomputable def Xl : Nat → (Sl Value) → Option (Int)
 | 0 => fun _ => none
 | fu + 1 => fun a0 => YN fu (PY fu) (Xl fu) (Vn fu) (YP fu) a0
noncomputable def Vn : Nat → (Sl Field) → Option (Int)
 | 0 => fun _ => none
 | fu + 1 => fun a0 => YO fu (PY fu) (Xl fu) (Vn fu) (YP fu) a0
noncomputable def YP : Nat → Field → Option (Int)
 | 0 => fun _ => none
 | fu + 1 => fun a0 => Vm fu (PY fu) (Xl fu) (Vn fu) (YP fu) a0
end
noncomputable def YQ (fu : Nat) (a0 : Child) : Option (Int) :=
 match a0 with
 | ⟨a, m, b, ⟨c, d, e, ⟨f, g⟩, ⟨h, i⟩, j, k, l⟩⟩ =>
  (
   bif decide ((dS ((dS (1 + (a.size : Int))) + (b.size : Int))) ≤ 1048576) then
    (PY fu (Value.mk c d e (Sl.mk f g) (Sl.mk h i) j k l)).bind fun r2 =>
     some (dS ((dS ((dS (1 + (a.size : Int))) + (b.size : Int))) + r2))
   else
    some (dS ((dS (1 + (a.size : Int))) + (b.size : Int)))
  ).bind fun (q : Int) =>
   match q with
   | i4 =>
    some i4
noncomputable def Je (fu : Nat) (a : List ByteArray) : (Int × Int) → Option ((Int × Int) ⊕ ((Int × Int)))
 | (i3, i4) =>
  (
   bif decide (i4 < (ln a)) then
    some (decide (i3 ≤ 1048576))
   else
    some false
  ).bind fun (q : Bool) =>
   match q with
   | i9 =>
    bif i9 then
     (idx a i4).bind fun EO =>
      some (.inl (dS (i3 + (EO.size : Int)), dS (i4 + 1)))
    else
     some (.inr (i3, i4))
noncomputable def Vo (fu : Nat) (a0 : Sl ByteArray) : Option (Int) :=
 match a0 with
 | ⟨a, b⟩ =>
  (wl (Je fu a) (ln a, 0)).bind fun q =>
   match q with
   | (Sj, o16) =>
    some Sj
noncomputable def PZ (fu : Nat) (ru : Act → Option (Int)) (qy : Expr → Option (Int)) (rz : (Sl Expr) → Option (Int)) (Ke : (Sl Act) → Option (Int)) (a0 : Act) : Option (Int) :=
 match a0 with
 | ⟨r, a, ⟨b, c, d, ⟨e, f⟩, ⟨g, h⟩, ⟨i, j⟩, k, ⟨l, m⟩, ⟨n, o⟩, p⟩⟩ =>
  (
   bif decide ((dS (1 + (a.size : Int))) ≤ 1048576) then
    (qy (Expr.mk b c d (Sl.mk e f) (Sl.mk g h) (Sl.mk i j) k (Sl.mk l m) (Sl.mk n o) p)).bind fun r2 =>
     some (dS ((dS (1 + (a.size : Int))) + r2))
   else
    some (dS (1 + (a.size : Int)))
  ).bind fun (q : Int) =>
   match q with
   | i4 =>
    some i4
noncomputable def P5 (fu : Nat) (ru : Act → Option (Int)) (qy : Expr → Option (Int)) (rz : (Sl Expr) → Option (Int)) (Ke : (Sl Act) → Option (Int)) (a0 : Expr) : Option (Int) :=
 match a0 with
 | ⟨m, n, a, ⟨c, d⟩, ⟨e, f⟩, ⟨g, h⟩, o, ⟨i, j⟩, ⟨k, l⟩, b⟩ =>
  (
   bif decide ((dS ((dS (1 + (a.size : Int))) + (b.size : Int))) ≤ 1048576) then
    (rz (Sl.mk c d)).bind fun r2 =>
     some (dS ((dS ((dS (1 + (a.size : Int))) + (b.size : Int))) + r2))
   else
    some (dS ((dS (1 + (a.size : Int))) + (b.size : Int)))
  ).bind fun (q : Int) =>
   match q with
   | i4 =>
    (
     bif decide (i4 ≤ 1048576) then
      (Vo fu (Sl.mk e f)).bind fun r6 =>
       some (dS (i4 + r6))
     else
      some i4
    ).bind fun (q : Int) =>
     match q with
     | i9 =>
      (
       bif decide (i9 ≤ 1048576) then
        (rz (Sl.mk g h)).bind fun MQ =>
         some (dS (i9 + MQ))
       else
        some i9
      ).bind fun (q : Int) =>
       match q with
       | Ee =>
        (
         bif decide (Ee ≤ 1048576) then
          (rz (Sl.mk i j)).bind fun Mh =>
           some (dS (Ee + Mh))
         else
          some Ee
        ).bind fun (q : Int) =>
         match q with
         | i17 =>
          (
           bif decide (i17 ≤ 1048576) then
            (Ke (Sl.mk k l)).bind fun r19 =>
             some (dS (i17 + r19))
           else
            some i17
          ).bind fun (q : Int) =>
           match q with
           | i21 =>
            some i21
noncomputable def BJ (fu : Nat) (qy : Expr → Option (Int)) (a : List Expr) : (Int × Int) → Option ((Int × Int) ⊕ ((Int × Int)))
 | (i3, i4) =>
  (
   bif decide (i4 < (ln a)) then
    some (decide (i3 ≤ 1048576))
   else
    some false
  ).bind fun (q : Bool) =>
   match q with
   | i9 =>
    bif i9 then
     (idx a i4).bind fun ⟨b, c, d, ⟨e, f⟩, ⟨g, h⟩, ⟨i, j⟩, k, ⟨l, m⟩, ⟨n, o⟩, p⟩ =>
      (qy (Expr.mk b c d (Sl.mk e f) (Sl.mk g h) (Sl.mk i j) k (Sl.mk l m) (Sl.mk n o) p)).bind fun Gp =>
       some (.inl (dS (i3 + Gp), dS (i4 + 1)))
    else
     some (.inr (i3, i4))
noncomputable def P6 (fu : Nat) (ru : Act → Option (Int)) (qy : Expr → Option (Int)) (rz : (Sl Expr) → Option (Int)) (Ke : (Sl Act) → Option (Int)) (a0 : Sl Expr) : Option (Int) :=
 match a0 with
 | ⟨a, b⟩ =>
  (wl (BJ fu qy a) (ln a, 0)).bind fun q =>
   match q with
   | (qx, fq) =>
    some qx
noncomputable def Jf (fu : Nat) (ru : Act → Option (Int)) (a : List Act) : (Int × Int) → Option ((Int × Int) ⊕ ((Int × Int)))
 | (i3, i4) =>
  (
   bif decide (i4 < (ln a)) then
    some (decide (i3 ≤ 1048576))
   else
    some false
  ).bind fun (q : Bool) =>
   match q with
   | i9 =>
    bif i9 then
     (idx a i4).bind fun ⟨b, c, ⟨d, e, f, ⟨g, h⟩, ⟨i, j⟩, ⟨k, l⟩, m, ⟨n, o⟩, ⟨p, r⟩, s⟩⟩ =>
      (ru (Act.mk b c (Expr.mk d e f (Sl.mk g h) (Sl.mk i j) (Sl.mk k l) m (Sl.mk n o) (Sl.mk p r) s))).bind fun Gp =>
       some (.inl (dS (i3 + Gp), dS (i4 + 1)))
    else
     some (.inr (i3, i4))
noncomputable def YR (fu : Nat) (ru : Act → Option (Int)) (qy : Expr → Option (Int)) (rz : (Sl Expr) → Option (Int)) (Ke : (Sl Act) → Option (Int)) (a0 : Sl Act) : Option (Int) :=
 match a0 with
 | ⟨a, b⟩ =>
  (wl (Jf fu ru a) (ln a, 0)).bind fun q =>
   match q with
   | (qx, fq) =>
    some qx
mutual
noncomputable def Mi : Nat → Act → Option (Int)
 | 0 => fun _ => none
 | fu + 1 => fun a0 => PZ fu (Mi fu) (Fa fu) (Ot fu) (Sk fu) a0
noncomputable def Fa : Nat → Expr → Option (Int)
 | 0 => fun _ => none
 | fu + 1 => fun a0 => P5 fu (Mi fu) (Fa fu) (Ot fu) (Sk fu) a0
noncomputable def Ot : Nat → (Sl Expr) → Option (Int)
 | 0 => fun _ => none
 | fu + 1 => fun a0 => P6 fu (Mi fu) (Fa fu) (Ot fu) (Sk fu) a0
noncomputable def Sk : Nat → (Sl Act) → Option (Int)
 | 0 => fun _ => none
 | fu + 1 => fun a0 => YR fu (Mi fu) (Fa fu) (Ot fu) (Sk fu) a0
end
noncomputable def P71 (fu : Nat) (a0 : Cell) : Option (Int) :=
 match a0 with
 | ⟨a9, a, ⟨b, c, d, ⟨e, f⟩, ⟨g, h⟩, i, j, k⟩, ⟨l, m, n, ⟨o, p⟩, ⟨r, s⟩, t, u, v⟩, ⟨w, x⟩, ⟨y, z⟩, ⟨a1, a2⟩, ⟨a3, a4⟩, b0, b1, ⟨a5, a6⟩, ⟨a7, a8⟩⟩ =>
  (
   bif decide ((dS (1 + (a.size : Int))) ≤ 1048576) then
    (PY fu (Value.mk b c d (Sl.mk e f) (Sl.mk g h) i j k)).bind fun r2 =>
     some (dS ((dS (1 + (a.size : Int))) + r2))
   else
    some (dS (1 + (a.size : Int)))
  ).bind fun (q : Int) =>
   match q with
   | i4 =>
    (
     bif decide (i4 ≤ 1048576) then
      (PY fu (Value.mk l m n (Sl.mk o p) (Sl.mk r s) t u v)).bind fun r6 =>
       some (dS (i4 + r6))
     else
      some i4
    ).bind fun (q : Int) =>
     match q with
     | i9 =>
      (
       bif decide (i9 ≤ 1048576) then
        (Xl fu (Sl.mk w x)).bind fun MQ =>
         some (dS (i9 + MQ))
       else
        some i9
      ).bind fun (q : Int) =>
       match q with
       | Ee =>
        (
         bif decide (Ee ≤ 1048576) then
          (Sk fu (Sl.mk y z)).bind fun Mh =>
           some (dS (Ee + Mh))
         else
          some Ee
        ).bind fun (q : Int) =>
         match q with
         | i17 =>
          (
           bif decide (i17 ≤ 1048576) then
            (Sk fu (Sl.mk a1 a2)).bind fun r19 =>
             some (dS (i17 + r19))
           else
            some i17
          ).bind fun (q : Int) =>
           match q with
           | i21 =>
            (
             bif decide (i21 ≤ 1048576) then
              (Vn fu (Sl.mk a3 a4)).bind fun Vp =>
               some (dS (i21 + Vp))
             else
              some i21
            ).bind fun (q : Int) =>
             match q with
             | i25 =>
              (
               bif decide (i25 ≤ 1048576) then
                (Sk fu (Sl.mk a5 a6)).bind fun r27 =>
                 some (dS (i25 + r27))
               else
                some i25
              ).bind fun (q : Int) =>
               match q with
               | i29 =>
                (
                 bif decide (i29 ≤ 1048576) then
                  (Vn fu (Sl.mk a7 a8)).bind fun r31 =>
                   some (dS (i29 + r31))
                 else
                  some i29
                ).bind fun (q : Int) =>
                 match q with
                 | i33 =>
                  some i33
noncomputable def Jg (fu : Nat) (a : List Cell) : (Int × Int) → Option ((Int × Int) ⊕ ((Int × Int)))
 | (i3, i4) =>
  (
   bif decide (i4 < (ln a)) then
    some (decide (i3 ≤ 1048576))
   else
    some false
  ).bind fun (q : Bool) =>
   match q with
   | i9 =>
    bif i9 then
     (idx a i4).bind fun ⟨b, c, ⟨d, e, f, ⟨g, h⟩, ⟨i, j⟩, k, l, m⟩, ⟨n, o, p, ⟨r, s⟩, ⟨t, u⟩, v, w, x⟩, ⟨y, z⟩, ⟨a0, a1⟩, ⟨a2, a3⟩, ⟨a4, a5⟩, a6, a7, ⟨a8, a9⟩, ⟨b0, b1⟩⟩ =>
      (P71 fu (Cell.mk b c (Value.mk d e f (Sl.mk g h) (Sl.mk i j) k l m) (Value.mk n o p (Sl.mk r s) (Sl.mk t u) v w x) (Sl.mk y z) (Sl.mk a0 a1) (Sl.mk a2 a3) (Sl.mk a4 a5) a6 a7 (Sl.mk a8 a9) (Sl.mk b0 b1))).bind fun Gp =>
       some (.inl (dS (i3 + Gp), dS (i4 + 1)))
    else
     some (.inr (i3, i4))
noncomputable def P46 (fu : Nat) (a0 : Sl Cell) : Option (Int) :=
 match a0 with
 | ⟨a, b⟩ =>
  (wl (Jg fu a) (ln a, 0)).bind fun q =>
   match q with
   | (qx, fq) =>
    some qx
noncomputable def Jh (fu : Nat) (a : List Child) : (Int × Int) → Option ((Int × Int) ⊕ ((Int × Int)))
 | (i3, i4) =>
  (
   bif decide (i4 < (ln a)) then
    some (decide (i3 ≤ 1048576))
   else
    some false
  ).bind fun (q : Bool) =>
   match q with
   | i9 =>
    bif i9 then
     (idx a i4).bind fun ⟨b, c, d, ⟨e, f, g, ⟨h, i⟩, ⟨j, k⟩, l, m, n⟩⟩ =>
      (YQ fu (Child.mk b c d (Value.mk e f g (Sl.mk h i) (Sl.mk j k) l m n))).bind fun Gp =>
       some (.inl (dS (i3 + Gp), dS (i4 + 1)))
    else
     some (.inr (i3, i4))
noncomputable def P47 (fu : Nat) (a0 : Sl Child) : Option (Int) :=
 match a0 with
 | ⟨a, b⟩ =>
  (wl (Jh fu a) (ln a, 0)).bind fun q =>
   match q with
   | (qx, fq) =>
    some qx
noncomputable def YS (fu : Nat) (p16 : Inst → Option (Int)) (p48 : (Sl Inst) → Option (Int)) (a0 : Inst) : Option (Int) :=
 match a0 with
 | ⟨a8, ⟨b, c, d, ⟨e, f, g, ⟨h, i⟩, ⟨j, k⟩, l, m, n⟩⟩, ⟨o, p⟩, ⟨r, s⟩, ⟨t, u⟩, a9, b0, b1, ⟨v, w, x, ⟨y, z⟩, ⟨a1, a2⟩, a3, a4, a5⟩, a, b2, ⟨a6, a7⟩, b3, b4⟩ =>
  (
   bif decide ((dS (1 + (a.size : Int))) ≤ 1048576) then
    (YQ fu (Child.mk b c d (Value.mk e f g (Sl.mk h i) (Sl.mk j k) l m n))).bind fun r2 =>
     some (dS ((dS (1 + (a.size : Int))) + r2))
   else
    some (dS (1 + (a.size : Int)))
  ).bind fun (q : Int) =>
   match q with
   | i4 =>
    (
     bif decide (i4 ≤ 1048576) then
      (P46 fu (Sl.mk o p)).bind fun r6 =>
       some (dS (i4 + r6))
     else
      some i4
    ).bind fun (q : Int) =>
     match q with
     | i9 =>
      (
       bif decide (i9 ≤ 1048576) then
        (P47 fu (Sl.mk r s)).bind fun MQ =>
         some (dS (i9 + MQ))
       else
        some i9
      ).bind fun (q : Int) =>
       match q with
       | Ee =>
        (
         bif decide (Ee ≤ 1048576) then
          (p48 (Sl.mk t u)).bind fun Mh =>
           some (dS (Ee + Mh))
         else
          some Ee
        ).bind fun (q : Int) =>
         match q with
         | i17 =>
          (
           bif decide (i17 ≤ 1048576) then
            (PY fu (Value.mk v w x (Sl.mk y z) (Sl.mk a1 a2) a3 a4 a5)).bind fun r19 =>
             some (dS (i17 + r19))
           else
            some i17
          ).bind fun (q : Int) =>
           match q with
           | i21 =>
            (
             bif decide (i21 ≤ 1048576) then
              (p48 (Sl.mk a6 a7)).bind fun Vp =>
               some (dS (i21 + Vp))
             else
              some i21
            ).bind fun (q : Int) =>
             match q with
             | i25 =>
              some i25
noncomputable def Ji (fu : Nat) (p16 : Inst → Option (Int)) (a : List Inst) : (Int × Int) → Option ((Int × Int) ⊕ ((Int × Int)))
 | (i3, i4) =>
  (
   bif decide (i4 < (ln a)) then
    some (decide (i3 ≤ 1048576))
   else
    some false
  ).bind fun (q : Bool) =>
   match q with
   | i9 =>
    bif i9 then
     (idx a i4).bind fun ⟨b, ⟨c, d, e, ⟨f, g, h, ⟨i, j⟩, ⟨k, l⟩, m, n, o⟩⟩, ⟨p, r⟩, ⟨s, t⟩, ⟨u, v⟩, w, x, y, ⟨z, a0, a1, ⟨a2, a3⟩, ⟨a4, a5⟩, a6, a7, a8⟩, a9, b0, ⟨b1, b2⟩, b3, b4⟩ =>
      (p16 (Inst.mk b (Child.mk c d e (Value.mk f g h (Sl.mk i j) (Sl.mk k l) m n o)) (Sl.mk p r) (Sl.mk s t) (Sl.mk u v) w x y (Value.mk z a0 a1 (Sl.mk a2 a3) (Sl.mk a4 a5) a6 a7 a8) a9 b0 (Sl.mk b1 b2) b3 b4)).bind fun Gp =>
       some (.inl (dS (i3 + Gp), dS (i4 + 1)))
    else
     some (.inr (i3, i4))
noncomputable def YT (fu : Nat) (p16 : Inst → Option (Int)) (p48 : (Sl Inst) → Option (Int)) (a0 : Sl Inst) : Option (Int) :=
 match a0 with
 | ⟨a, b⟩ =>
  (wl (Ji fu p16 a) (ln a, 0)).bind fun q =>
   match q with
   | (qx, fq) =>
    some qx
mutual
noncomputable def P16 : Nat → Inst → Option (Int)
 | 0 => fun _ => none
 | fu + 1 => fun a0 => YS fu (P16 fu) (P48 fu) a0
noncomputable def P48 : Nat → (Sl Inst) → Option (Int)
 | 0 => fun _ => none
 | fu + 1 => fun a0 => YT fu (P16 fu) (P48 fu) a0
end
noncomputable def Ef (fu : Nat) (a : List Int) : (Bool × Int × Int) → Option ((Bool × Int × Int) ⊕ ((Bool × Int × Int) ⊕ (Bool × Int × Int)))
 | (i1, i2, i3) =>
  bif decide (i3 < (ln a)) then
   (idx a i3).bind fun x7 =>
    bif decide (1048576 < (dS (i2 + x7))) then
     some (.inr (.inr (true, dS (i2 + x7), i3)))
    else
     some (.inl (i1, dS (i2 + x7), dS (i3 + 1)))
  else
   some (.inr (.inl (i1, i2, i3)))
noncomputable def P23 (fu : Nat) (a0 : Sl Int) : Option (Bool) :=
 match a0 with
 | ⟨a, b⟩ =>
  (wl (Ef fu a) (false, 0, 0)).bind fun q =>
   match q with
   | .inl (o11, o12, Qa) =>
    some false
   | .inr (Qb, Sj, o16) =>
    some Qb
noncomputable def Eh (fu : Nat) (Vq : Inst → Int → Option (Int)) (a : List Inst) (a1 : Int) : (Int × Int) → Option ((Int × Int) ⊕ ((Int × Int)))
 | (i9, Qc) =>
  (
   bif decide (Qc < (ln a)) then
    some (decide (i9 < 1048576))
   else
    some false
  ).bind fun (q : Bool) =>
   match q with
   | Vr =>
    bif Vr then
     (idx a Qc).bind fun ⟨b, ⟨c, d, e, ⟨f, g, h, ⟨i, j⟩, ⟨k, l⟩, m, n, o⟩⟩, ⟨p, r⟩, ⟨s, t⟩, ⟨u, v⟩, w, x, y, ⟨z, a0, a2, ⟨a3, a4⟩, ⟨a5, a6⟩, a7, a8, a9⟩, b0, b1, ⟨b2, b3⟩, b4, b5⟩ =>
      (Vq (Inst.mk b (Child.mk c d e (Value.mk f g h (Sl.mk i j) (Sl.mk k l) m n o)) (Sl.mk p r) (Sl.mk s t) (Sl.mk u v) w x y (Value.mk z a0 a2 (Sl.mk a3 a4) (Sl.mk a5 a6) a7 a8 a9) b0 b1 (Sl.mk b2 b3) b4 b5) (dS (a1 + 1))).bind fun r18 =>
       some (.inl (dS (i9 + r18), dS (Qc + 1)))
    else
     some (.inr (i9, Qc))
noncomputable def Ei (fu : Nat) (Vq : Inst → Int → Option (Int)) (a : List Inst) (a1 : Int) : (Int × Int) → Option ((Int × Int) ⊕ ((Int × Int)))
 | (i24, i25) =>
  (
   bif decide (i25 < (ln a)) then
    some (decide (i24 < 1048576))
   else
    some false
  ).bind fun (q : Bool) =>
   match q with
   | i29 =>
    bif i29 then
     (idx a i25).bind fun ⟨b, ⟨c, d, e, ⟨f, g, h, ⟨i, j⟩, ⟨k, l⟩, m, n, o⟩⟩, ⟨p, r⟩, ⟨s, t⟩, ⟨u, v⟩, w, x, y, ⟨z, a0, a2, ⟨a3, a4⟩, ⟨a5, a6⟩, a7, a8, a9⟩, b0, b1, ⟨b2, b3⟩, b4, b5⟩ =>
      (Vq (Inst.mk b (Child.mk c d e (Value.mk f g h (Sl.mk i j) (Sl.mk k l) m n o)) (Sl.mk p r) (Sl.mk s t) (Sl.mk u v) w x y (Value.mk z a0 a2 (Sl.mk a3 a4) (Sl.mk a5 a6) a7 a8 a9) b0 b1 (Sl.mk b2 b3) b4 b5) (dS (a1 + 1))).bind fun r33 =>
       some (.inl (dS (i24 + r33), dS (i25 + 1)))
    else
     some (.inr (i24, i25))
noncomputable def YU (fu : Nat) (Vq : Inst → Int → Option (Int)) (a0 : Inst) (a1 : Int) : Option (Int) :=
 match a0 with
 | ⟨a6, ⟨a, b, c, ⟨d, e, f, ⟨g, h⟩, ⟨i, j⟩, k, l, m⟩⟩, ⟨n, o⟩, ⟨p, r⟩, ⟨s, a7⟩, a8, a9, b0, ⟨t, u, v, ⟨w, x⟩, ⟨y, z⟩, a2, a3, a4⟩, b1, b2, ⟨a5, b3⟩, b4, b5⟩ =>
  (YQ fu (Child.mk a b c (Value.mk d e f (Sl.mk g h) (Sl.mk i j) k l m))).bind fun r1 =>
   (P46 fu (Sl.mk n o)).bind fun r3 =>
    (P47 fu (Sl.mk p r)).bind fun r5 =>
     (PY fu (Value.mk t u v (Sl.mk w x) (Sl.mk y z) a2 a3 a4)).bind fun r7 =>
      (wl (Eh fu Vq s a1) (dS (a1 * (dS ((dS ((dS ((dS (1 + r1)) + r3)) + r5)) + r7))), 0)).bind fun q =>
       match q with
       | (o22, o23) =>
        (wl (Ei fu Vq a5 a1) (o22, 0)).bind fun q =>
         match q with
         | (o37, o38) =>
          some o37
noncomputable def P24 : Nat → Inst → Int → Option (Int)
 | 0 => fun _ _ => none
 | fu + 1 => fun a0 a1 => YU fu (P24 fu) a0 a1
noncomputable def P8 (fu : Nat) (a0 : Inst) : Option (Bool) :=
 match a0 with
 | ⟨a, ⟨b, c, d, ⟨e, f, g, ⟨h, i⟩, ⟨j, k⟩, l, m, n⟩⟩, ⟨o, p⟩, ⟨r, s⟩, ⟨t, u⟩, v, w, x, ⟨y, z, a1, ⟨a2, a3⟩, ⟨a4, a5⟩, a6, a7, a8⟩, a9, b0, ⟨b1, b2⟩, b3, b4⟩ =>
  (
   (P16 fu (Inst.mk a (Child.mk b c d (Value.mk e f g (Sl.mk h i) (Sl.mk j k) l m n)) (Sl.mk o p) (Sl.mk r s) (Sl.mk t u) v w x (Value.mk y z a1 (Sl.mk a2 a3) (Sl.mk a4 a5) a6 a7 a8) a9 b0 (Sl.mk b1 b2) b3 b4)).bind fun r1 =>
    (P23 fu (Sl.mk [r1] (some []))).bind fun r3 =>
     bif !r3 then
      (P24 fu (Inst.mk a (Child.mk b c d (Value.mk e f g (Sl.mk h i) (Sl.mk j k) l m n)) (Sl.mk o p) (Sl.mk r s) (Sl.mk t u) v w x (Value.mk y z a1 (Sl.mk a2 a3) (Sl.mk a4 a5) a6 a7 a8) a9 b0 (Sl.mk b1 b2) b3 b4) 1).bind fun r6 =>
       some (decide (262144 < r6))
     else
      some true
  ).bind fun (q : Bool) =>
   match q with
   | i9 =>
    some i9
noncomputable def zR (fu : Nat) (a : List Inst) : ((List (ByteArray × Bool)) × Int) → Option (((List (ByteArray × Bool)) × Int) ⊕ (((List (ByteArray × Bool)) × Int)))
 | (m5, i6) =>
  bif decide (i6 < (ln a)) then
   (idx a i6).bind fun ⟨c, ⟨b, d, e, ⟨f, g, h, ⟨i, j⟩, ⟨k, l⟩, m, n, o⟩⟩, ⟨p, q⟩, ⟨r, s⟩, ⟨t, u⟩, v, w, x, ⟨y, z, a0, ⟨a1, a2⟩, ⟨a3, a4⟩, a5, a6, a7⟩, a8, a9, ⟨b0, b1⟩, b2, b3⟩ =>
    some (.inl ((yP m5 b true), dS (i6 + 1)))
  else
   some (.inr (m5, i6))
noncomputable def P59 (fu : Nat) (a0 : Sl Inst) : Option (Bool) :=
 match a0 with
 | ⟨a, b⟩ =>
  (wl (zR fu a) (([] : List (ByteArray × Bool)), 0)).bind fun q =>
   match q with
   | (Qa, Qb) =>
    (
     bif decide ((ln a) ≤ 4096) then
      some ((ln Qa) == (ln a))
     else
      some false
    ).bind fun (q : Bool) =>
     match q with
     | i22 =>
      some i22
noncomputable def Ou (fu : Nat) (a : List Int) (a1 : Int) : (Int × Int) → Option ((Int × Int) ⊕ ((Int × Int) ⊕ (Int × Int)))
 | (i3, i4) =>
  bif decide (i4 < (ln a)) then
   (idx a i4).bind fun x6 =>
    bif a1 == x6 then
     some (.inr (.inr (i4, i4)))
    else
     some (.inl (i3, dS (i4 + 1)))
  else
   some (.inr (.inl (i3, i4)))
noncomputable def P82 (fu : Nat) (a0 : Sl Int) (a1 : Int) : Option (Int) :=
 match a0 with
 | ⟨a, b⟩ =>
  (wl (Ou fu a a1) (0, 0)).bind fun q =>
   match q with
   | .inl (o10, o11) =>
    some (-1)
   | .inr (o12, Qa) =>
    some o12
noncomputable def P58 (fu : Nat) (a0 : Sl Int) (a1 : Int) : Option (Bool) :=
 match a0 with
 | ⟨a, b⟩ =>
  (P82 fu (Sl.mk a b) a1).bind fun r1 =>
   some (decide (0 ≤ r1))
noncomputable def nI (fu : Nat) (a0 : Sl Int) (b0 : Int) : Option (Bool) :=
 match a0 with
 | ⟨a, b⟩ =>
  (P58 fu (Sl.mk a b) b0).bind fun r1 =>
   some r1
noncomputable def Ov (fu : Nat) (a2 : (Value → Value → Option (Bool))) (a : List Value) (b : List Value) : Int → Option (Int ⊕ (Int ⊕ Int))
 | i9 =>
  bif decide (i9 < (ln a)) then
   (idx a i9).bind fun ⟨c, d, e, ⟨f, g⟩, ⟨h, i⟩, j, k, l⟩ =>
    (idx b i9).bind fun ⟨m, n, o, ⟨p, q⟩, ⟨r, s⟩, t, u, v⟩ =>
     (a2 (Value.mk c d e (Sl.mk f g) (Sl.mk h i) j k l) (Value.mk m n o (Sl.mk p q) (Sl.mk r s) t u v)).bind fun Mh =>
      bif !Mh then
       some (.inr (.inr i9))
      else
       some (.inl (dS (i9 + 1)))
  else
   some (.inr (.inl i9))
noncomputable def P83 (fu : Nat) (a0 : Sl Value) (a1 : Sl Value) (a2 : (Value → Value → Option (Bool))) : Option (Bool) :=
 match a0 with
 | ⟨a, c⟩ =>
  match a1 with
  | ⟨b, d⟩ =>
   bif !((ln a) == (ln b)) then
    some false
   else
    (wl (Ov fu a2 a b) 0).bind fun q =>
     match q with
     | .inl kg =>
      some true
     | .inr o20 =>
      some false
noncomputable def Jj (fu : Nat) (a2 : (Field → Field → Option (Bool))) (a : List Field) (b : List Field) : Int → Option (Int ⊕ (Int ⊕ Int))
 | i9 =>
  bif decide (i9 < (ln a)) then
   (idx a i9).bind fun ⟨c, ⟨d, e, f, ⟨g, h⟩, ⟨i, j⟩, k, l, m⟩⟩ =>
    (idx b i9).bind fun ⟨n, ⟨o, p, q, ⟨r, s⟩, ⟨t, u⟩, v, w, x⟩⟩ =>
     (a2 (Field.mk c (Value.mk d e f (Sl.mk g h) (Sl.mk i j) k l m)) (Field.mk n (Value.mk o p q (Sl.mk r s) (Sl.mk t u) v w x))).bind fun Mh =>
      bif !Mh then
       some (.inr (.inr i9))
      else
       some (.inl (dS (i9 + 1)))
  else
   some (.inr (.inl i9))
noncomputable def YV (fu : Nat) (a0 : Sl Field) (a1 : Sl Field) (a2 : (Field → Field → Option (Bool))) : Option (Bool) :=
 match a0 with
 | ⟨a, c⟩ =>
  match a1 with
  | ⟨b, d⟩ =>
   bif !((ln a) == (ln b)) then
    some false
   else
    (wl (Jj fu a2 a b) 0).bind fun q =>
     match q with
     | .inl kg =>
      some true
     | .inr o20 =>
      some false
noncomputable def Vs (fu : Nat) (yU : Field → Field → Option (Bool)) (p60 : Value → Value → Option (Bool)) (Qd : (Sl Field) → (Sl Field) → Option (Bool)) (a0 : Field) (a1 : Field) : Option (Bool) :=
 match a0 with
 | ⟨a, ⟨b, c, d, ⟨e, f⟩, ⟨g, h⟩, i, j, k⟩⟩ =>
  match a1 with
  | ⟨l, ⟨m, n, o, ⟨p, r⟩, ⟨s, t⟩, u, v, w⟩⟩ =>
   (
    bif seq a l then
     (p60 (Value.mk b c d (Sl.mk e f) (Sl.mk g h) i j k) (Value.mk m n o (Sl.mk p r) (Sl.mk s t) u v w)).bind fun r2 =>
      some r2
    else
     some false
   ).bind fun (q : Bool) =>
    match q with
    | i4 =>
     some i4
noncomputable def YW (fu : Nat) (yU : Field → Field → Option (Bool)) (p60 : Value → Value → Option (Bool)) (Qd : (Sl Field) → (Sl Field) → Option (Bool)) (a0 : Value) (a1 : Value) : Option (Bool) :=
 match a0 with
 | ⟨a, b, c, ⟨d, e⟩, ⟨f, g⟩, h, i, j⟩ =>
  match a1 with
  | ⟨k, l, m, ⟨n, o⟩, ⟨p, r⟩, s, t, u⟩ =>
   (
    bif a == k then
     bif b == l then
      bif seq c m then
       bif h == s then
        bif seq i t then
         bif j == u then
          (P83 fu (Sl.mk d e) (Sl.mk n o) p60).bind fun r7 =>
           bif r7 then
            (Qd (Sl.mk f g) (Sl.mk p r)).bind fun YX =>
             some YX
           else
            some false
         else
          some false
        else
         some false
       else
        some false
      else
       some false
     else
      some false
    else
     some false
   ).bind fun (q : Bool) =>
    match q with
    | i12 =>
     some i12
noncomputable def YZ (fu : Nat) (yU : Field → Field → Option (Bool)) (p60 : Value → Value → Option (Bool)) (Qd : (Sl Field) → (Sl Field) → Option (Bool)) (a0 : Sl Field) (a1 : Sl Field) : Option (Bool) :=
 match a0 with
 | ⟨a, b⟩ =>
  match a1 with
  | ⟨c, d⟩ =>
   (YV fu (Sl.mk a b) (Sl.mk c d) yU).bind fun r1 =>
    some r1
mutual
noncomputable def Vt : Nat → Field → Field → Option (Bool)
 | 0 => fun _ _ => none
 | fu + 1 => fun a0 a1 => Vs fu (Vt fu) (Xm fu) (P84 fu) a0 a1
noncomputable def Xm : Nat → Value → Value → Option (Bool)
 | 0 => fun _ _ => none
 | fu + 1 => fun a0 a1 => YW fu (Vt fu) (Xm fu) (P84 fu) a0 a1
noncomputable def P84 : Nat → (Sl Field) → (Sl Field) → Option (Bool)
 | 0 => fun _ _ => none
 | fu + 1 => fun a0 a1 => YZ fu (Vt fu) (Xm fu) (P84 fu) a0 a1
end
noncomputable def Y0 (fu : Nat) (a0 : Inst) : Option (Bool) :=
 match a0 with
 | ⟨c, ⟨d, a, e, ⟨f, g, h, ⟨i, j⟩, ⟨k, l⟩, m, n, o⟩⟩, ⟨p, r⟩, ⟨s, t⟩, ⟨u, v⟩, w, x, y, ⟨z, a1, a2, ⟨a3, a4⟩, ⟨a5, a6⟩, a7, a8, a9⟩, b0, b, ⟨b1, b2⟩, b3, b4⟩ =>
  (
   bif a == 8 then
    some b
   else
    some false
  ).bind fun (q : Bool) =>
   match q with
   | i2 =>
    some i2
noncomputable def P26 (fu : Nat) (a0 : Inst) : Option (Bool) :=
 match a0 with
 | ⟨e, ⟨x, a, y, ⟨z, a1, a2, ⟨a3, a4⟩, ⟨a5, a6⟩, a7, a8, a9⟩⟩, ⟨f, b0⟩, ⟨b1, b2⟩, ⟨b, g⟩, c, h, i, ⟨j, k, l, ⟨m, n⟩, ⟨o, p⟩, r, s, t⟩, u, v, ⟨d, w⟩, b3, b4⟩ =>
  (
   bif decide (0 < e) then
    some (decide (1 ≤ a))
   else
    some false
  ).bind fun (q : Bool) =>
   match q with
   | i2 =>
    (
     bif i2 then
      some (decide (a ≤ 9))
     else
      some false
    ).bind fun (q : Bool) =>
     match q with
     | i4 =>
      (
       bif i4 then
        some (decide (0 ≤ c))
       else
        some false
      ).bind fun (q : Bool) =>
       match q with
       | i6 =>
        (
         bif i6 then
          (P59 fu (Sl.mk b g)).bind fun r8 =>
           some r8
         else
          some false
        ).bind fun (q : Bool) =>
         match q with
         | Qc =>
          (
           bif Qc then
            (P59 fu (Sl.mk d w)).bind fun r12 =>
             some r12
           else
            some false
          ).bind fun (q : Bool) =>
           match q with
           | Vr =>
            (
             bif Vr then
              bif !((ln f) == 0) then
               (some [2, 3]).bind fun l19 =>
                (nI fu (Sl.mk l19 (some [])) a).bind fun Vp =>
                 some Vp
              else
               some true
             else
              some false
            ).bind fun (q : Bool) =>
             match q with
             | i24 =>
              (
               bif i24 then
                bif !(c == 0) then
                 (some [1, 9]).bind fun l27 =>
                  (nI fu (Sl.mk l27 (some [])) a).bind fun r31 =>
                   some r31
                else
                 some true
               else
                some false
              ).bind fun (q : Bool) =>
               match q with
               | i33 =>
                (
                 bif i33 then
                  bif !h then
                   bif !i then
                    (Xm fu (Value.mk j k l (Sl.mk m n) (Sl.mk o p) r s t) (Value.mk 0 0 ByteArray.empty (Sl.mk [] (some [])) (Sl.mk [] (some [])) 0 ByteArray.empty false)).bind fun Qe =>
                     bif !Qe then
                      (nI fu (Sl.mk [7] (some [])) a).bind fun r41 =>
                       some r41
                     else
                      some true
                   else
                    (nI fu (Sl.mk [7] (some [])) a).bind fun r43 =>
                     some r43
                  else
                   (nI fu (Sl.mk [7] (some [])) a).bind fun r45 =>
                    some r45
                 else
                  some false
                ).bind fun (q : Bool) =>
                 match q with
                 | i46 =>
                  (
                   bif i46 then
                    bif seq u ByteArray.empty then
                     bif !(!v) then
                      (nI fu (Sl.mk [8] (some [])) a).bind fun r51 =>
                       some r51
                     else
                      some true
                    else
                     (nI fu (Sl.mk [8] (some [])) a).bind fun r53 =>
                      some r53
                   else
                    some false
                  ).bind fun (q : Bool) =>
                   match q with
                   | i54 =>
                    (
                     bif i54 then
                      bif !((ln d) == 0) then
                       (Y0 fu (Inst.mk e (Child.mk x a y (Value.mk z a1 a2 (Sl.mk a3 a4) (Sl.mk a5 a6) a7 a8 a9)) (Sl.mk f b0) (Sl.mk b1 b2) (Sl.mk b g) c h i (Value.mk j k l (Sl.mk m n) (Sl.mk o p) r s t) u v (Sl.mk d w) b3 b4)).bind fun r59 =>
                        some r59
                      else
                       some true
                     else
                      some false
                    ).bind fun (q : Bool) =>
                     match q with
                     | i61 =>
                      (
                       bif i61 then
                        bif !((ln b) == 0) then
                         (nI fu (Sl.mk [9] (some [])) a).bind fun r67 =>
                          some (!r67)
                        else
                         some true
                       else
                        some false
                      ).bind fun (q : Bool) =>
                       match q with
                       | i68 =>
                        some i68
noncomputable def sN (fu : Nat) (mK : Inst → Int → (List (Int × Bool)) → Option (Bool × (List (Int × Bool)))) (lC : Inst → Int → (List (Int × Bool)) → Option (Bool × (List (Int × Bool)))) (lY : (Sl Inst) → Int → (List (Int × Bool)) → Option (Bool × (List (Int × Bool)))) (mM : (Sl Inst) → Int → (List (Int × Bool)) → Option (Int × (List (Int × Bool)))) (a0 : Inst) (a1 : Int) (b1 : List (Int × Bool)) : Option (Bool × (List (Int × Bool))) :=
 match a0 with
 | ⟨a, ⟨f, g, h, ⟨i, j, k, ⟨l, m⟩, ⟨n, o⟩, p, r, s⟩⟩, ⟨t, u⟩, ⟨v, w⟩, ⟨b, c⟩, x, y, z, ⟨a2, a3, a4, ⟨a5, a6⟩, ⟨a7, a8⟩, a9, b0, b2⟩, b3, b4, ⟨d, e⟩, b5, b6⟩ =>
  (
   bif !(decide (256 < a1)) then
    (
    match uK b1 a with
    | none =>
     (P26 fu (Inst.mk a (Child.mk f g h (Value.mk i j k (Sl.mk l m) (Sl.mk n o) p r s)) (Sl.mk t u) (Sl.mk v w) (Sl.mk b c) x y z (Value.mk a2 a3 a4 (Sl.mk a5 a6) (Sl.mk a7 a8) a9 b0 b2) b3 b4 (Sl.mk d e) b5 b6)).bind fun r4 =>
      some (!r4)
    | some x2 =>
     bif !x2 then
      (P26 fu (Inst.mk a (Child.mk f g h (Value.mk i j k (Sl.mk l m) (Sl.mk n o) p r s)) (Sl.mk t u) (Sl.mk v w) (Sl.mk b c) x y z (Value.mk a2 a3 a4 (Sl.mk a5 a6) (Sl.mk a7 a8) a9 b0 b2) b3 b4 (Sl.mk d e) b5 b6)).bind fun r7 =>
       some (!r7)
     else
      some true
    )
   else
    some true
  ).bind fun (q : Bool) =>
   match q with
   | i9 =>
    bif i9 then
     some (false, b1)
    else
     (
      (lY (Sl.mk b c) a1 (yP b1 a true)).bind fun ⟨AQ, aeP⟩ =>
       bif !AQ then
        (lY (Sl.mk d e) a1 aeP).bind fun ⟨r18, ag0⟩ =>
         some (ag0, !r18)
       else
        some (aeP, false)
     ).bind fun (q : (List (Int × Bool)) × Bool) =>
      match q with
      | (g20, i21) =>
       some (i21, g20)
noncomputable def Jk (fu : Nat) (mK : Inst → Int → (List (Int × Bool)) → Option (Bool × (List (Int × Bool)))) (lC : Inst → Int → (List (Int × Bool)) → Option (Bool × (List (Int × Bool)))) (lY : (Sl Inst) → Int → (List (Int × Bool)) → Option (Bool × (List (Int × Bool)))) (mM : (Sl Inst) → Int → (List (Int × Bool)) → Option (Int × (List (Int × Bool)))) (a0 : Inst) (a2 : Int) (b2 : List (Int × Bool)) : Option (Bool × (List (Int × Bool))) :=
 match a0 with
 | ⟨a, ⟨b, c, d, ⟨e, f, g, ⟨h, i⟩, ⟨j, k⟩, l, m, n⟩⟩, ⟨o, p⟩, ⟨q, r⟩, ⟨s, t⟩, u, v, w, ⟨x, y, z, ⟨a1, a3⟩, ⟨a4, a5⟩, a6, a7, a8⟩, a9, b0, ⟨b1, b3⟩, b4, b5⟩ =>
  (mK (Inst.mk a (Child.mk b c d (Value.mk e f g (Sl.mk h i) (Sl.mk j k) l m n)) (Sl.mk o p) (Sl.mk q r) (Sl.mk s t) u v w (Value.mk x y z (Sl.mk a1 a3) (Sl.mk a4 a5) a6 a7 a8) a9 b0 (Sl.mk b1 b3) b4 b5) (dS (a2 + 1)) b2).bind fun ⟨r2, wr3⟩ =>
   some (!r2, wr3)
noncomputable def Jl (fu : Nat) (mK : Inst → Int → (List (Int × Bool)) → Option (Bool × (List (Int × Bool)))) (lC : Inst → Int → (List (Int × Bool)) → Option (Bool × (List (Int × Bool)))) (lY : (Sl Inst) → Int → (List (Int × Bool)) → Option (Bool × (List (Int × Bool)))) (mM : (Sl Inst) → Int → (List (Int × Bool)) → Option (Int × (List (Int × Bool)))) (a0 : Sl Inst) (d0 : Int) (b2 : List (Int × Bool)) : Option (Bool × (List (Int × Bool))) :=
 match a0 with
 | ⟨a, b⟩ =>
  (mM (Sl.mk a b) d0 b2).bind fun ⟨r2, wr3⟩ =>
   some (decide (0 ≤ r2), wr3)
noncomputable def rA (fu : Nat) (lC : Inst → Int → (List (Int × Bool)) → Option (Bool × (List (Int × Bool)))) (d0 : Int) (a : List Inst) : ((List (Int × Bool)) × Int × Int) → Option (((List (Int × Bool)) × Int × Int) ⊕ (((List (Int × Bool)) × Int × Int) ⊕ ((List (Int × Bool)) × Int × Int)))
 | (g3, i4, i5) =>
  bif decide (i5 < (ln a)) then
   (idx a i5).bind fun ⟨b, ⟨c, d, e, ⟨f, g, h, ⟨i, j⟩, ⟨k, l⟩, m, n, o⟩⟩, ⟨p, q⟩, ⟨r, s⟩, ⟨t, u⟩, v, w, x, ⟨y, z, a0, ⟨a1, a2⟩, ⟨a3, a4⟩, a5, a6, a7⟩, a8, a9, ⟨b0, b1⟩, b2, b3⟩ =>
    (lC (Inst.mk b (Child.mk c d e (Value.mk f g h (Sl.mk i j) (Sl.mk k l) m n o)) (Sl.mk p q) (Sl.mk r s) (Sl.mk t u) v w x (Value.mk y z a0 (Sl.mk a1 a2) (Sl.mk a3 a4) a5 a6 a7) a8 a9 (Sl.mk b0 b1) b2 b3) d0 g3).bind fun ⟨YX, aeQ⟩ =>
     bif YX then
      some (.inr (.inr (aeQ, i5, i5)))
     else
      some (.inl (aeQ, i4, dS (i5 + 1)))
  else
   some (.inr (.inl (g3, i4, i5)))
noncomputable def Jm (fu : Nat) (mK : Inst → Int → (List (Int × Bool)) → Option (Bool × (List (Int × Bool)))) (lC : Inst → Int → (List (Int × Bool)) → Option (Bool × (List (Int × Bool)))) (lY : (Sl Inst) → Int → (List (Int × Bool)) → Option (Bool × (List (Int × Bool)))) (mM : (Sl Inst) → Int → (List (Int × Bool)) → Option (Int × (List (Int × Bool)))) (a0 : Sl Inst) (d0 : Int) (b2 : List (Int × Bool)) : Option (Int × (List (Int × Bool))) :=
 match a0 with
 | ⟨a, b⟩ =>
  (wl (rA fu lC d0 a) (b2, 0, 0)).bind fun q =>
   match q with
   | .inl (Qb, Sj, o16) =>
    some ((-1), Qb)
   | .inr (qx, fq, kg) =>
    some (fq, qx)
mutual
noncomputable def yV : Nat → Inst → Int → (List (Int × Bool)) → Option (Bool × (List (Int × Bool)))
 | 0 => fun _ _ _ => none
 | fu + 1 => fun a0 a1 a2 => sN fu (yV fu) (Ej fu) (yX fu) (Gq fu) a0 a1 a2
noncomputable def Ej : Nat → Inst → Int → (List (Int × Bool)) → Option (Bool × (List (Int × Bool)))
 | 0 => fun _ _ _ => none
 | fu + 1 => fun a0 a1 a2 => Jk fu (yV fu) (Ej fu) (yX fu) (Gq fu) a0 a1 a2
noncomputable def yX : Nat → (Sl Inst) → Int → (List (Int × Bool)) → Option (Bool × (List (Int × Bool)))
 | 0 => fun _ _ _ => none
 | fu + 1 => fun a0 a1 a2 => Jl fu (yV fu) (Ej fu) (yX fu) (Gq fu) a0 a1 a2
noncomputable def Gq : Nat → (Sl Inst) → Int → (List (Int × Bool)) → Option (Int × (List (Int × Bool)))
 | 0 => fun _ _ _ => none
 | fu + 1 => fun a0 a1 a2 => Jm fu (yV fu) (Ej fu) (yX fu) (Gq fu) a0 a1 a2
end
noncomputable def P9 (fu : Nat) (a0 : Inst) : Option (Bool) :=
 match a0 with
 | ⟨a, ⟨b, c, d, ⟨e, f, g, ⟨h, i⟩, ⟨j, k⟩, l, m, n⟩⟩, ⟨o, p⟩, ⟨q, r⟩, ⟨s, t⟩, u, v, w, ⟨x, y, z, ⟨a1, a2⟩, ⟨a3, a4⟩, a5, a6, a7⟩, a8, a9, ⟨b0, b1⟩, b2, b3⟩ =>
  (yV fu (Inst.mk a (Child.mk b c d (Value.mk e f g (Sl.mk h i) (Sl.mk j k) l m n)) (Sl.mk o p) (Sl.mk q r) (Sl.mk s t) u v w (Value.mk x y z (Sl.mk a1 a2) (Sl.mk a3 a4) a5 a6 a7) a8 a9 (Sl.mk b0 b1) b2 b3) 1 ([] : List (Int × Bool))).bind fun ⟨r4, wr5⟩ =>
   some r4
noncomputable def Y1 (fu : Nat) (a0 : Sl Value) : Option ((List Value)) :=
 match a0 with
 | ⟨a, b⟩ =>
  bif ln a == 0 then
   agree (
    some ([] : List Value)
   ) (
    (
     bif ln a == 0 then
      some ([] : List Value)
     else
      bif room 112 (ln (([] : List Value) ++ a)) then
       some (([] : List Value) ++ a)
      else none
    ).bind fun (q : (List Value)) =>
     match q with
     | jJ =>
      some jJ
   )
  else
   (
    bif ln a == 0 then
     some ([] : List Value)
    else
     bif room 112 (ln (([] : List Value) ++ a)) then
      some (([] : List Value) ++ a)
     else none
   ).bind fun (q : (List Value)) =>
    match q with
    | kT =>
     some kT
noncomputable def BK (fu : Nat) (a1 : (Value → Option (Value))) (r2 : List Value) : ((List Value) × Int) → Option (((List Value) × Int) ⊕ (((List Value) × Int)))
 | (l5, i6) =>
  bif decide (i6 < (ln r2)) then
   (idx l5 i6).bind fun ⟨a, b, c, ⟨d, e⟩, ⟨f, g⟩, h, i, j⟩ =>
    (a1 (Value.mk a b c (Sl.mk d e) (Sl.mk f g) h i j)).bind fun ⟨k, l, m, ⟨n, o⟩, ⟨p, q⟩, r, s, t⟩ =>
     (idx l5 i6).bind fun ⟨u, v, w, ⟨x, y⟩, ⟨z, a0⟩, a2, a3, a4⟩ =>
      some (.inl ((List.set l5 (Int.toNat i6) (Value.mk k l m (Sl.mk n o) (Sl.mk p q) r s t)), dS (i6 + 1)))
  else
   some (.inr (l5, i6))
noncomputable def Y2 (fu : Nat) (a0 : Sl Value) (a1 : (Value → Option (Value))) : Option ((Sl Value)) :=
 match a0 with
 | ⟨a, b⟩ =>
  (Y1 fu (Sl.mk a b)).bind fun r2 =>
   (wl (BK fu a1 r2) (r2, 0)).bind fun q =>
    match q with
    | (fq, kg) =>
     some (Sl.mk fq none)
noncomputable def Y3 (fu : Nat) (a0 : Sl Field) : Option ((List Field)) :=
 match a0 with
 | ⟨a, b⟩ =>
  bif ln a == 0 then
   agree (
    some ([] : List Field)
   ) (
    (
     bif ln a == 0 then
      some ([] : List Field)
     else
      bif room 128 (ln (([] : List Field) ++ a)) then
       some (([] : List Field) ++ a)
      else none
    ).bind fun (q : (List Field)) =>
     match q with
     | jJ =>
      some jJ
   )
  else
   (
    bif ln a == 0 then
     some ([] : List Field)
    else
     bif room 128 (ln (([] : List Field) ++ a)) then
      some (([] : List Field) ++ a)
     else none
   ).bind fun (q : (List Field)) =>
    match q with
    | kT =>
     some kT
noncomputable def BL (fu : Nat) (a1 : (Field → Option (Field))) (r2 : List Field) : ((List Field) × Int) → Option (((List Field) × Int) ⊕ (((List Field) × Int)))
 | (l5, i6) =>
  bif decide (i6 < (ln r2)) then
   (idx l5 i6).bind fun ⟨a, ⟨b, c, d, ⟨e, f⟩, ⟨g, h⟩, i, j, k⟩⟩ =>
    (a1 (Field.mk a (Value.mk b c d (Sl.mk e f) (Sl.mk g h) i j k))).bind fun ⟨l, ⟨m, n, o, ⟨p, q⟩, ⟨r, s⟩, t, u, v⟩⟩ =>
     (idx l5 i6).bind fun ⟨w, ⟨x, y, z, ⟨a0, a2⟩, ⟨a3, a4⟩, a5, a6, a7⟩⟩ =>
      some (.inl ((List.set l5 (Int.toNat i6) (Field.mk l (Value.mk m n o (Sl.mk p q) (Sl.mk r s) t u v))), dS (i6 + 1)))
  else
   some (.inr (l5, i6))
noncomputable def Y4 (fu : Nat) (a0 : Sl Field) (a1 : (Field → Option (Field))) : Option ((Sl Field)) :=
 match a0 with
 | ⟨a, b⟩ =>
  (Y3 fu (Sl.mk a b)).bind fun r2 =>
   (wl (BL fu a1 r2) (r2, 0)).bind fun q =>
    match q with
    | (fq, kg) =>
     some (Sl.mk fq none)
noncomputable def Qf (fu : Nat) (tC : Field → Option (Field)) (p65 : Value → Option (Value)) (Kg : (Sl Value) → Option ((Sl Value))) (Kh : (Sl Field) → Option ((Sl Field))) (a0 : Field) : Option (Field) :=
 match a0 with
 | ⟨a, ⟨b, c, d, ⟨e, f⟩, ⟨g, h⟩, i, j, k⟩⟩ =>
  (p65 (Value.mk b c d (Sl.mk e f) (Sl.mk g h) i j k)).bind fun ⟨l, m, n, ⟨o, p⟩, ⟨q, r⟩, s, t, u⟩ =>
   some (Field.mk a (Value.mk l m n (Sl.mk o p) (Sl.mk q r) s t u))
noncomputable def Y5 (fu : Nat) (tC : Field → Option (Field)) (p65 : Value → Option (Value)) (Kg : (Sl Value) → Option ((Sl Value))) (Kh : (Sl Field) → Option ((Sl Field))) (a0 : Value) : Option (Value) :=
 match a0 with
 | ⟨a, b, c, ⟨d, e⟩, ⟨f, g⟩, h, i, j⟩ =>
  (Kg (Sl.mk d e)).bind fun ⟨k, l⟩ =>
   (Kh (Sl.mk f g)).bind fun ⟨m, n⟩ =>
    some (Value.mk a b c (Sl.mk k l) (Sl.mk m n) h i j)
noncomputable def Y6 (fu : Nat) (tC : Field → Option (Field)) (p65 : Value → Option (Value)) (Kg : (Sl Value) → Option ((Sl Value))) (Kh : (Sl Field) → Option ((Sl Field))) (a0 : Sl Value) : Option ((Sl Value)) :=
 match a0 with
 | ⟨a, b⟩ =>
  (Y2 fu (Sl.mk a b) p65).bind fun ⟨c, d⟩ =>
   some (Sl.mk c d)
noncomputable def Y7 (fu : Nat) (tC : Field → Option (Field)) (p65 : Value → Option (Value)) (Kg : (Sl Value) → Option ((Sl Value))) (Kh : (Sl Field) → Option ((Sl Field))) (a0 : Sl Field) : Option ((Sl Field)) :=
 match a0 with
 | ⟨a, b⟩ =>
  (Y4 fu (Sl.mk a b) tC).bind fun ⟨c, d⟩ =>
   some (Sl.mk c d)
mutual
noncomputable def Mj : Nat → Field → Option (Field)
 | 0 => fun _ => none
 | fu + 1 => fun a0 => Qf fu (Mj fu) (Ki fu) (Xn fu) (Vu fu) a0
noncomputable def Ki : Nat → Value → Option (Value)
 | 0 => fun _ => none
 | fu + 1 => fun a0 => Y5 fu (Mj fu) (Ki fu) (Xn fu) (Vu fu) a0
noncomputable def Xn : Nat → (Sl Value) → Option ((Sl Value))
 | 0 => fun _ => none
 | fu + 1 => fun a0 => Y6 fu (Mj fu) (Ki fu) (Xn fu) (Vu fu) a0
noncomputable def Vu : Nat → (Sl Field) → Option ((Sl Field))
 | 0 => fun _ => none
 | fu + 1 => fun a0 => Y7 fu (Mj fu) (Ki fu) (Xn fu) (Vu fu) a0
end
noncomputable def P62 (fu : Nat) (a0 : Child) : Option (Child) :=
 match a0 with
 | ⟨a, b, c, ⟨d, e, f, ⟨g, h⟩, ⟨i, j⟩, k, l, m⟩⟩ =>
  (Ki fu (Value.mk d e f (Sl.mk g h) (Sl.mk i j) k l m)).bind fun ⟨n, o, p, ⟨q, r⟩, ⟨s, t⟩, u, v, w⟩ =>
   some (Child.mk a b c (Value.mk n o p (Sl.mk q r) (Sl.mk s t) u v w))
noncomputable def P94 (fu : Nat) (a0 : Sl Cell) : Option ((List Cell)) :=
 match a0 with
 | ⟨a, b⟩ =>
  bif ln a == 0 then
   agree (
    some ([] : List Cell)
   ) (
    (
     bif ln a == 0 then
      some ([] : List Cell)
     else
      bif room 400 (ln (([] : List Cell) ++ a)) then
       some (([] : List Cell) ++ a)
      else none
    ).bind fun (q : (List Cell)) =>
     match q with
     | jJ =>
      some jJ
   )
  else
   (
    bif ln a == 0 then
     some ([] : List Cell)
    else
     bif room 400 (ln (([] : List Cell) ++ a)) then
      some (([] : List Cell) ++ a)
     else none
   ).bind fun (q : (List Cell)) =>
    match q with
    | kT =>
     some kT
noncomputable def Jo (fu : Nat) (a1 : (Cell → Option (Cell))) (r2 : List Cell) : ((List Cell) × Int) → Option (((List Cell) × Int) ⊕ (((List Cell) × Int)))
 | (l5, i6) =>
  bif decide (i6 < (ln r2)) then
   (idx l5 i6).bind fun ⟨a, b, ⟨c, d, e, ⟨f, g⟩, ⟨h, i⟩, j, k, l⟩, ⟨m, n, o, ⟨p, q⟩, ⟨r, s⟩, t, u, v⟩, ⟨w, x⟩, ⟨y, z⟩, ⟨a0, a2⟩, ⟨a3, a4⟩, a5, a6, ⟨a7, a8⟩, ⟨a9, b0⟩⟩ =>
    (a1 (Cell.mk a b (Value.mk c d e (Sl.mk f g) (Sl.mk h i) j k l) (Value.mk m n o (Sl.mk p q) (Sl.mk r s) t u v) (Sl.mk w x) (Sl.mk y z) (Sl.mk a0 a2) (Sl.mk a3 a4) a5 a6 (Sl.mk a7 a8) (Sl.mk a9 b0))).bind fun ⟨b1, b2, ⟨b3, b4, b5, ⟨b6, b7⟩, ⟨b8, b9⟩, c0, c1, c2⟩, ⟨c3, c4, c5, ⟨c6, c7⟩, ⟨c8, c9⟩, d0, d1, d2⟩, ⟨d3, d4⟩, ⟨d5, d6⟩, ⟨d7, d8⟩, ⟨d9, e0⟩, e3, e4, ⟨e5, e6⟩, ⟨e7, e8⟩⟩ =>
     (idx l5 i6).bind fun ⟨e9, f0, ⟨f1, f2, f3, ⟨f4, f5⟩, ⟨f6, f7⟩, f8, f9, g0⟩, ⟨g1, g2, g3, ⟨g4, g5⟩, ⟨g6, g7⟩, g8, g9, h0⟩, ⟨h3, h4⟩, ⟨h5, h6⟩, ⟨h7, h8⟩, ⟨h9, i0⟩, i1, i2, ⟨i3, i4⟩, ⟨i5, i7⟩⟩ =>
      some (.inl ((List.set l5 (Int.toNat i6) (Cell.mk b1 b2 (Value.mk b3 b4 b5 (Sl.mk b6 b7) (Sl.mk b8 b9) c0 c1 c2) (Value.mk c3 c4 c5 (Sl.mk c6 c7) (Sl.mk c8 c9) d0 d1 d2) (Sl.mk d3 d4) (Sl.mk d5 d6) (Sl.mk d7 d8) (Sl.mk d9 e0) e3 e4 (Sl.mk e5 e6) (Sl.mk e7 e8))), dS (i6 + 1)))
  else
   some (.inr (l5, i6))
noncomputable def P85 (fu : Nat) (a0 : Sl Cell) (a1 : (Cell → Option (Cell))) : Option ((Sl Cell)) :=
 match a0 with
 | ⟨a, b⟩ =>
  (P94 fu (Sl.mk a b)).bind fun r2 =>
   (wl (Jo fu a1 r2) (r2, 0)).bind fun q =>
    match q with
    | (fq, kg) =>
     some (Sl.mk fq none)
noncomputable def Y8 (fu : Nat) (a0 : Sl Act) : Option ((List Act)) :=
 match a0 with
 | ⟨a, b⟩ =>
  bif ln a == 0 then
   agree (
    some ([] : List Act)
   ) (
    (
     bif ln a == 0 then
      some ([] : List Act)
     else
      bif room 200 (ln (([] : List Act) ++ a)) then
       some (([] : List Act) ++ a)
      else none
    ).bind fun (q : (List Act)) =>
     match q with
     | jJ =>
      some jJ
   )
  else
   (
    bif ln a == 0 then
     some ([] : List Act)
    else
     bif room 200 (ln (([] : List Act) ++ a)) then
      some (([] : List Act) ++ a)
     else none
   ).bind fun (q : (List Act)) =>
    match q with
    | kT =>
     some kT
noncomputable def BM (fu : Nat) (a1 : (Act → Option (Act))) (r2 : List Act) : ((List Act) × Int) → Option (((List Act) × Int) ⊕ (((List Act) × Int)))
 | (l5, i6) =>
  bif decide (i6 < (ln r2)) then
   (idx l5 i6).bind fun ⟨a, b, ⟨c, d, e, ⟨f, g⟩, ⟨h, i⟩, ⟨j, k⟩, l, ⟨m, n⟩, ⟨o, p⟩, q⟩⟩ =>
    (a1 (Act.mk a b (Expr.mk c d e (Sl.mk f g) (Sl.mk h i) (Sl.mk j k) l (Sl.mk m n) (Sl.mk o p) q))).bind fun ⟨r, s, ⟨t, u, v, ⟨w, x⟩, ⟨y, z⟩, ⟨a0, a2⟩, a3, ⟨a4, a5⟩, ⟨a6, a7⟩, a8⟩⟩ =>
     (idx l5 i6).bind fun ⟨a9, b0, ⟨b1, b2, b3, ⟨b4, b5⟩, ⟨b6, b7⟩, ⟨b8, b9⟩, c0, ⟨c1, c2⟩, ⟨c3, c4⟩, c5⟩⟩ =>
      some (.inl ((List.set l5 (Int.toNat i6) (Act.mk r s (Expr.mk t u v (Sl.mk w x) (Sl.mk y z) (Sl.mk a0 a2) a3 (Sl.mk a4 a5) (Sl.mk a6 a7) a8))), dS (i6 + 1)))
  else
   some (.inr (l5, i6))
noncomputable def Y9 (fu : Nat) (a0 : Sl Act) (a1 : (Act → Option (Act))) : Option ((Sl Act)) :=
 match a0 with
 | ⟨a, b⟩ =>
  (Y8 fu (Sl.mk a b)).bind fun r2 =>
   (wl (BM fu a1 r2) (r2, 0)).bind fun q =>
    match q with
    | (fq, kg) =>
     some (Sl.mk fq none)
noncomputable def Za (fu : Nat) (a0 : Sl Expr) : Option ((List Expr)) :=
 match a0 with
 | ⟨a, b⟩ =>
  bif ln a == 0 then
   agree (
    some ([] : List Expr)
   ) (
    (
     bif ln a == 0 then
      some ([] : List Expr)
     else
      bif room 176 (ln (([] : List Expr) ++ a)) then
       some (([] : List Expr) ++ a)
      else none
    ).bind fun (q : (List Expr)) =>
     match q with
     | jJ =>
      some jJ
   )
  else
   (
    bif ln a == 0 then
     some ([] : List Expr)
    else
     bif room 176 (ln (([] : List Expr) ++ a)) then
      some (([] : List Expr) ++ a)
     else none
   ).bind fun (q : (List Expr)) =>
    match q with
    | kT =>
     some kT
noncomputable def BN (fu : Nat) (a1 : (Expr → Option (Expr))) (r2 : List Expr) : ((List Expr) × Int) → Option (((List Expr) × Int) ⊕ (((List Expr) × Int)))
 | (l5, i6) =>
  bif decide (i6 < (ln r2)) then
   (idx l5 i6).bind fun ⟨a, b, c, ⟨d, e⟩, ⟨f, g⟩, ⟨h, i⟩, j, ⟨k, l⟩, ⟨m, n⟩, o⟩ =>
    (a1 (Expr.mk a b c (Sl.mk d e) (Sl.mk f g) (Sl.mk h i) j (Sl.mk k l) (Sl.mk m n) o)).bind fun ⟨p, q, r, ⟨s, t⟩, ⟨u, v⟩, ⟨w, x⟩, y, ⟨z, a0⟩, ⟨a2, a3⟩, a4⟩ =>
     (idx l5 i6).bind fun ⟨a5, a6, a7, ⟨a8, a9⟩, ⟨b0, b1⟩, ⟨b2, b3⟩, b4, ⟨b5, b6⟩, ⟨b7, b8⟩, b9⟩ =>
      some (.inl ((List.set l5 (Int.toNat i6) (Expr.mk p q r (Sl.mk s t) (Sl.mk u v) (Sl.mk w x) y (Sl.mk z a0) (Sl.mk a2 a3) a4)), dS (i6 + 1)))
  else
   some (.inr (l5, i6))
noncomputable def Zb (fu : Nat) (a0 : Sl Expr) (a1 : (Expr → Option (Expr))) : Option ((Sl Expr)) :=
 match a0 with
 | ⟨a, b⟩ =>
  (Za fu (Sl.mk a b)).bind fun r2 =>
   (wl (BN fu a1 r2) (r2, 0)).bind fun q =>
    match q with
    | (fq, kg) =>
     some (Sl.mk fq none)
noncomputable def Zc (fu : Nat) (a0 : Sl ByteArray) : Option ((List ByteArray)) :=
 match a0 with
 | ⟨a, b⟩ =>
  bif ln a == 0 then
   agree (
    some ([] : List ByteArray)
   ) (
    (
     bif ln a == 0 then
      some ([] : List ByteArray)
     else
      bif room 16 (ln (([] : List ByteArray) ++ a)) then
       some (([] : List ByteArray) ++ a)
      else none
    ).bind fun (q : (List ByteArray)) =>
     match q with
     | jJ =>
      some jJ
   )
  else
   (
    bif ln a == 0 then
     some ([] : List ByteArray)
    else
     bif room 16 (ln (([] : List ByteArray) ++ a)) then
      some (([] : List ByteArray) ++ a)
     else none
   ).bind fun (q : (List ByteArray)) =>
    match q with
    | kT =>
     some kT
noncomputable def Qg (fu : Nat) (tF : (Sl Act) → Option ((Sl Act))) (tH : Act → Option (Act)) (sO : Expr → Option (Expr)) (rC : (Sl Expr) → Option ((Sl Expr))) (a0 : Sl Act) : Option ((Sl Act)) :=
 match a0 with
 | ⟨a, b⟩ =>
  (Y9 fu (Sl.mk a b) tH).bind fun ⟨c, d⟩ =>
   some (Sl.mk c d)
noncomputable def Qh (fu : Nat) (tF : (Sl Act) → Option ((Sl Act))) (tH : Act → Option (Act)) (sO : Expr → Option (Expr)) (rC : (Sl Expr) → Option ((Sl Expr))) (a0 : Act) : Option (Act) :=
 match a0 with
 | ⟨a, b, ⟨c, d, e, ⟨f, g⟩, ⟨h, i⟩, ⟨j, k⟩, l, ⟨m, n⟩, ⟨o, p⟩, q⟩⟩ =>
  (sO (Expr.mk c d e (Sl.mk f g) (Sl.mk h i) (Sl.mk j k) l (Sl.mk m n) (Sl.mk o p) q)).bind fun ⟨r, s, t, ⟨u, v⟩, ⟨w, x⟩, ⟨y, z⟩, a1, ⟨a2, a3⟩, ⟨a4, a5⟩, a6⟩ =>
   some (Act.mk a b (Expr.mk r s t (Sl.mk u v) (Sl.mk w x) (Sl.mk y z) a1 (Sl.mk a2 a3) (Sl.mk a4 a5) a6))
noncomputable def Qi (fu : Nat) (tF : (Sl Act) → Option ((Sl Act))) (tH : Act → Option (Act)) (sO : Expr → Option (Expr)) (rC : (Sl Expr) → Option ((Sl Expr))) (a0 : Expr) : Option (Expr) :=
 match a0 with
 | ⟨a, b, c, ⟨d, e⟩, ⟨f, g⟩, ⟨h, i⟩, j, ⟨k, l⟩, ⟨m, n⟩, o⟩ =>
  (rC (Sl.mk d e)).bind fun ⟨p, q⟩ =>
   (rC (Sl.mk h i)).bind fun ⟨r, s⟩ =>
    (rC (Sl.mk k l)).bind fun ⟨t, u⟩ =>
     (Zc fu (Sl.mk f g)).bind fun r8 =>
      (tF (Sl.mk m n)).bind fun ⟨v, w⟩ =>
       some (Expr.mk a b c (Sl.mk p q) (Sl.mk r8 none) (Sl.mk r s) j (Sl.mk t u) (Sl.mk v w) o)
noncomputable def Qj (fu : Nat) (tF : (Sl Act) → Option ((Sl Act))) (tH : Act → Option (Act)) (sO : Expr → Option (Expr)) (rC : (Sl Expr) → Option ((Sl Expr))) (a0 : Sl Expr) : Option ((Sl Expr)) :=
 match a0 with
 | ⟨a, b⟩ =>
  (Zb fu (Sl.mk a b) sO).bind fun ⟨c, d⟩ =>
   some (Sl.mk c d)
mutual
noncomputable def Bj : Nat → (Sl Act) → Option ((Sl Act))
 | 0 => fun _ => none
 | fu + 1 => fun a0 => Qg fu (Bj fu) (Ow fu) (El fu) (Ox fu) a0
noncomputable def Ow : Nat → Act → Option (Act)
 | 0 => fun _ => none
 | fu + 1 => fun a0 => Qh fu (Bj fu) (Ow fu) (El fu) (Ox fu) a0
noncomputable def El : Nat → Expr → Option (Expr)
 | 0 => fun _ => none
 | fu + 1 => fun a0 => Qi fu (Bj fu) (Ow fu) (El fu) (Ox fu) a0
noncomputable def Ox : Nat → (Sl Expr) → Option ((Sl Expr))
 | 0 => fun _ => none
 | fu + 1 => fun a0 => Qj fu (Bj fu) (Ow fu) (El fu) (Ox fu) a0
end
noncomputable def P86 (fu : Nat) (a0 : Cell) : Option (Cell) :=
 match a0 with
 | ⟨a, b, ⟨c, d, e, ⟨f, g⟩, ⟨h, i⟩, j, k, l⟩, ⟨m, n, o, ⟨p, q⟩, ⟨r, s⟩, t, u, v⟩, ⟨w, x⟩, ⟨y, z⟩, ⟨a1, a2⟩, ⟨a3, a4⟩, a5, a6, ⟨a7, a8⟩, ⟨a9, b0⟩⟩ =>
  (Ki fu (Value.mk c d e (Sl.mk f g) (Sl.mk h i) j k l)).bind fun ⟨b1, b2, b3, ⟨b4, b5⟩, ⟨b6, b7⟩, b8, b9, c0⟩ =>
   (Ki fu (Value.mk m n o (Sl.mk p q) (Sl.mk r s) t u v)).bind fun ⟨c1, c2, c3, ⟨c4, c5⟩, ⟨c6, c7⟩, c8, c9, d0⟩ =>
    (Xn fu (Sl.mk w x)).bind fun ⟨d1, d2⟩ =>
     (Bj fu (Sl.mk y z)).bind fun ⟨d3, d4⟩ =>
      (Bj fu (Sl.mk a1 a2)).bind fun ⟨d5, d6⟩ =>
       (Bj fu (Sl.mk a7 a8)).bind fun ⟨d7, d8⟩ =>
        (Vu fu (Sl.mk a3 a4)).bind fun ⟨d9, e0⟩ =>
         (Vu fu (Sl.mk a9 b0)).bind fun ⟨e3, e4⟩ =>
          some (Cell.mk a b (Value.mk b1 b2 b3 (Sl.mk b4 b5) (Sl.mk b6 b7) b8 b9 c0) (Value.mk c1 c2 c3 (Sl.mk c4 c5) (Sl.mk c6 c7) c8 c9 d0) (Sl.mk d1 d2) (Sl.mk d3 d4) (Sl.mk d5 d6) (Sl.mk d9 e0) a5 a6 (Sl.mk d7 d8) (Sl.mk e3 e4))
noncomputable def P63 (fu : Nat) (a0 : Sl Cell) : Option ((Sl Cell)) :=
 match a0 with
 | ⟨a, b⟩ =>
  (P85 fu (Sl.mk a b) (P86 fu)).bind fun ⟨c, d⟩ =>
   some (Sl.mk c d)
noncomputable def P97 (fu : Nat) (a0 : Sl Child) : Option ((List Child)) :=
 match a0 with
 | ⟨a, b⟩ =>
  bif ln a == 0 then
   agree (
    some ([] : List Child)
   ) (
    (
     bif ln a == 0 then
      some ([] : List Child)
     else
      bif room 152 (ln (([] : List Child) ++ a)) then
       some (([] : List Child) ++ a)
      else none
    ).bind fun (q : (List Child)) =>
     match q with
     | jJ =>
      some jJ
   )
  else
   (
    bif ln a == 0 then
     some ([] : List Child)
    else
     bif room 152 (ln (([] : List Child) ++ a)) then
      some (([] : List Child) ++ a)
     else none
   ).bind fun (q : (List Child)) =>
    match q with
    | kT =>
     some kT
noncomputable def Jp (fu : Nat) (a1 : (Child → Option (Child))) (r2 : List Child) : ((List Child) × Int) → Option (((List Child) × Int) ⊕ (((List Child) × Int)))
 | (l5, i6) =>
  bif decide (i6 < (ln r2)) then
   (idx l5 i6).bind fun ⟨a, b, c, ⟨d, e, f, ⟨g, h⟩, ⟨i, j⟩, k, l, m⟩⟩ =>
    (a1 (Child.mk a b c (Value.mk d e f (Sl.mk g h) (Sl.mk i j) k l m))).bind fun ⟨n, o, p, ⟨q, r, s, ⟨t, u⟩, ⟨v, w⟩, x, y, z⟩⟩ =>
     (idx l5 i6).bind fun ⟨a0, a2, a3, ⟨a4, a5, a6, ⟨a7, a8⟩, ⟨a9, b0⟩, b1, b2, b3⟩⟩ =>
      some (.inl ((List.set l5 (Int.toNat i6) (Child.mk n o p (Value.mk q r s (Sl.mk t u) (Sl.mk v w) x y z))), dS (i6 + 1)))
  else
   some (.inr (l5, i6))
noncomputable def P87 (fu : Nat) (a0 : Sl Child) (a1 : (Child → Option (Child))) : Option ((Sl Child)) :=
 match a0 with
 | ⟨a, b⟩ =>
  (P97 fu (Sl.mk a b)).bind fun r2 =>
   (wl (Jp fu a1 r2) (r2, 0)).bind fun q =>
    match q with
    | (fq, kg) =>
     some (Sl.mk fq none)
noncomputable def P64 (fu : Nat) (a0 : Sl Child) : Option ((Sl Child)) :=
 match a0 with
 | ⟨a, b⟩ =>
  (P87 fu (Sl.mk a b) (P62 fu)).bind fun ⟨c, d⟩ =>
   some (Sl.mk c d)
noncomputable def P34 (fu : Nat) (a0 : Sl Inst) : Option ((List Inst)) :=
 match a0 with
 | ⟨a, b⟩ =>
  bif ln a == 0 then
   agree (
    some ([] : List Inst)
   ) (
    (
     bif ln a == 0 then
      some ([] : List Inst)
     else
      bif room 416 (ln (([] : List Inst) ++ a)) then
       some (([] : List Inst) ++ a)
      else none
    ).bind fun (q : (List Inst)) =>
     match q with
     | jJ =>
      some jJ
   )
  else
   (
    bif ln a == 0 then
     some ([] : List Inst)
    else
     bif room 416 (ln (([] : List Inst) ++ a)) then
      some (([] : List Inst) ++ a)
     else none
   ).bind fun (q : (List Inst)) =>
    match q with
    | kT =>
     some kT
noncomputable def Jq (fu : Nat) (a1 : (Inst → Option (Inst))) (r2 : List Inst) : ((List Inst) × Int) → Option (((List Inst) × Int) ⊕ (((List Inst) × Int)))
 | (l5, i6) =>
  bif decide (i6 < (ln r2)) then
   (idx l5 i6).bind fun ⟨a, ⟨b, c, d, ⟨e, f, g, ⟨h, i⟩, ⟨j, k⟩, l, m, n⟩⟩, ⟨o, p⟩, ⟨q, r⟩, ⟨s, t⟩, u, v, w, ⟨x, y, z, ⟨a0, a2⟩, ⟨a3, a4⟩, a5, a6, a7⟩, a8, a9, ⟨b0, b1⟩, b2, b3⟩ =>
    (a1 (Inst.mk a (Child.mk b c d (Value.mk e f g (Sl.mk h i) (Sl.mk j k) l m n)) (Sl.mk o p) (Sl.mk q r) (Sl.mk s t) u v w (Value.mk x y z (Sl.mk a0 a2) (Sl.mk a3 a4) a5 a6 a7) a8 a9 (Sl.mk b0 b1) b2 b3)).bind fun ⟨b4, ⟨b5, b6, b7, ⟨b8, b9, c0, ⟨c1, c2⟩, ⟨c3, c4⟩, c5, c6, c7⟩⟩, ⟨c8, c9⟩, ⟨d0, d1⟩, ⟨d2, d3⟩, d4, d5, d6, ⟨d7, d8, d9, ⟨e0, e3⟩, ⟨e4, e5⟩, e6, e7, e8⟩, e9, f0, ⟨f1, f2⟩, f3, f4⟩ =>
     (idx l5 i6).bind fun ⟨f5, ⟨f6, f7, f8, ⟨f9, g0, g1, ⟨g2, g3⟩, ⟨g4, g5⟩, g6, g7, g8⟩⟩, ⟨g9, h0⟩, ⟨h3, h4⟩, ⟨h5, h6⟩, h7, h8, h9, ⟨i0, i1, i2, ⟨i3, i4⟩, ⟨i5, i7⟩, i9, j0, j1⟩, j2, j3, ⟨j4, j5⟩, j6, j7⟩ =>
      some (.inl ((List.set l5 (Int.toNat i6) (Inst.mk b4 (Child.mk b5 b6 b7 (Value.mk b8 b9 c0 (Sl.mk c1 c2) (Sl.mk c3 c4) c5 c6 c7)) (Sl.mk c8 c9) (Sl.mk d0 d1) (Sl.mk d2 d3) d4 d5 d6 (Value.mk d7 d8 d9 (Sl.mk e0 e3) (Sl.mk e4 e5) e6 e7 e8) e9 f0 (Sl.mk f1 f2) f3 f4)), dS (i6 + 1)))
  else
   some (.inr (l5, i6))
noncomputable def P69 (fu : Nat) (a0 : Sl Inst) (a1 : (Inst → Option (Inst))) : Option ((Sl Inst)) :=
 match a0 with
 | ⟨a, b⟩ =>
  (P34 fu (Sl.mk a b)).bind fun r2 =>
   (wl (Jq fu a1 r2) (r2, 0)).bind fun q =>
    match q with
    | (fq, kg) =>
     some (Sl.mk fq none)
noncomputable def Zd (fu : Nat) (p31 : Inst → Option (Inst)) (p42 : (Sl Inst) → Option ((Sl Inst))) (a0 : Inst) : Option (Inst) :=
 match a0 with
 | ⟨a, ⟨b, c, d, ⟨e, f, g, ⟨h, i⟩, ⟨j, k⟩, l, m, n⟩⟩, ⟨o, p⟩, ⟨q, r⟩, ⟨s, t⟩, u, v, w, ⟨x, y, z, ⟨a1, a2⟩, ⟨a3, a4⟩, a5, a6, a7⟩, a8, a9, ⟨b0, b1⟩, b2, b3⟩ =>
  (P62 fu (Child.mk b c d (Value.mk e f g (Sl.mk h i) (Sl.mk j k) l m n))).bind fun ⟨b4, b5, b6, ⟨b7, b8, b9, ⟨c0, c1⟩, ⟨c2, c3⟩, c4, c5, c6⟩⟩ =>
   (P63 fu (Sl.mk o p)).bind fun ⟨c7, c8⟩ =>
    (P64 fu (Sl.mk q r)).bind fun ⟨c9, d0⟩ =>
     (Ki fu (Value.mk x y z (Sl.mk a1 a2) (Sl.mk a3 a4) a5 a6 a7)).bind fun ⟨d1, d2, d3, ⟨d4, d5⟩, ⟨d6, d7⟩, d8, d9, e0⟩ =>
      (p42 (Sl.mk s t)).bind fun ⟨e3, e4⟩ =>
       (p42 (Sl.mk b0 b1)).bind fun ⟨e5, e6⟩ =>
        some (Inst.mk a (Child.mk b4 b5 b6 (Value.mk b7 b8 b9 (Sl.mk c0 c1) (Sl.mk c2 c3) c4 c5 c6)) (Sl.mk c7 c8) (Sl.mk c9 d0) (Sl.mk e3 e4) u v w (Value.mk d1 d2 d3 (Sl.mk d4 d5) (Sl.mk d6 d7) d8 d9 e0) a8 a9 (Sl.mk e5 e6) b2 b3)
noncomputable def Ze (fu : Nat) (p31 : Inst → Option (Inst)) (p42 : (Sl Inst) → Option ((Sl Inst))) (a0 : Sl Inst) : Option ((Sl Inst)) :=
 match a0 with
 | ⟨a, b⟩ =>
  (P69 fu (Sl.mk a b) p31).bind fun ⟨c, d⟩ =>
   some (Sl.mk c d)
mutual
noncomputable def Zf : Nat → Inst → Option (Inst)
 | 0 => fun _ => none
 | fu + 1 => fun a0 => Zd fu (Zf fu) (P42 fu) a0
noncomputable def P42 : Nat → (Sl Inst) → Option ((Sl Inst))
 | 0 => fun _ => none
 | fu + 1 => fun a0 => Ze fu (Zf fu) (P42 fu) a0
end
noncomputable def Mk (fu : Nat) (a0 : Inst) (b1 : List Inst) : Option ((List Inst)) :=
 match a0 with
 | ⟨a, ⟨b, c, d, ⟨e, f, g, ⟨h, i⟩, ⟨j, k⟩, l, m, n⟩⟩, ⟨o, p⟩, ⟨r, s⟩, ⟨t, u⟩, v, w, x, ⟨y, z, a1, ⟨a2, a3⟩, ⟨a4, a5⟩, a6, a7, a8⟩, a9, b0, ⟨b2, b3⟩, b4, b5⟩ =>
  (
   (Zf fu (Inst.mk a (Child.mk b c d (Value.mk e f g (Sl.mk h i) (Sl.mk j k) l m n)) (Sl.mk o p) (Sl.mk r s) (Sl.mk t u) v w x (Value.mk y z a1 (Sl.mk a2 a3) (Sl.mk a4 a5) a6 a7 a8) a9 b0 (Sl.mk b2 b3) b4 b5)).bind fun ⟨b6, ⟨b7, b8, b9, ⟨c0, c1, c2, ⟨c3, c4⟩, ⟨c5, c6⟩, c7, c8, c9⟩⟩, ⟨d0, d1⟩, ⟨d2, d3⟩, ⟨d4, d5⟩, d6, d7, d8, ⟨d9, e0, e3, ⟨e4, e5⟩, ⟨e6, e7⟩, e8, e9, f0⟩, f1, f2, ⟨f3, f4⟩, f5, f6⟩ =>
    bif room 416 (ln (b1 ++ [(Inst.mk 0 (Child.mk ByteArray.empty 0 ByteArray.empty (Value.mk 0 0 ByteArray.empty (Sl.mk [] (some [])) (Sl.mk [] (some [])) 0 ByteArray.empty false)) (Sl.mk [] (some [])) (Sl.mk [] (some [])) (Sl.mk [] (some [])) 0 false false (Value.mk 0 0 ByteArray.empty (Sl.mk [] (some [])) (Sl.mk [] (some [])) 0 ByteArray.empty false) ByteArray.empty false (Sl.mk [] (some [])) false false)])) then
     (idx (b1 ++ [(Inst.mk 0 (Child.mk ByteArray.empty 0 ByteArray.empty (Value.mk 0 0 ByteArray.empty (Sl.mk [] (some [])) (Sl.mk [] (some [])) 0 ByteArray.empty false)) (Sl.mk [] (some [])) (Sl.mk [] (some [])) (Sl.mk [] (some [])) 0 false false (Value.mk 0 0 ByteArray.empty (Sl.mk [] (some [])) (Sl.mk [] (some [])) 0 ByteArray.empty false) ByteArray.empty false (Sl.mk [] (some [])) false false)]) (ln b1)).bind fun ⟨f7, ⟨f8, f9, g0, ⟨g1, g2, g3, ⟨g4, g5⟩, ⟨g6, g7⟩, g8, g9, h0⟩⟩, ⟨h3, h4⟩, ⟨h5, h6⟩, ⟨h7, h8⟩, h9, i0, i1, ⟨i2, i3, i4, ⟨i5, i6⟩, ⟨i7, i9⟩, j0, j1, j2⟩, j3, j4, ⟨j5, j6⟩, j7, j8⟩ =>
      some (List.set (b1 ++ [(Inst.mk 0 (Child.mk ByteArray.empty 0 ByteArray.empty (Value.mk 0 0 ByteArray.empty (Sl.mk [] (some [])) (Sl.mk [] (some [])) 0 ByteArray.empty false)) (Sl.mk [] (some [])) (Sl.mk [] (some [])) (Sl.mk [] (some [])) 0 false false (Value.mk 0 0 ByteArray.empty (Sl.mk [] (some [])) (Sl.mk [] (some [])) 0 ByteArray.empty false) ByteArray.empty false (Sl.mk [] (some [])) false false)]) (Int.toNat (ln b1)) (Inst.mk b6 (Child.mk b7 b8 b9 (Value.mk c0 c1 c2 (Sl.mk c3 c4) (Sl.mk c5 c6) c7 c8 c9)) (Sl.mk d0 d1) (Sl.mk d2 d3) (Sl.mk d4 d5) d6 d7 d8 (Value.mk d9 e0 e3 (Sl.mk e4 e5) (Sl.mk e6 e7) e8 e9 f0) f1 f2 (Sl.mk f3 f4) f5 f6))
    else none
  ).bind fun (q : (List Inst)) =>
   match q with
   | g12 =>
    some g12
noncomputable def P32 (fu : Nat) (a0 : Inst) : Option (Unit) :=
 match a0 with
 | ⟨a, ⟨b, c, d, ⟨e, f, g, ⟨h, i⟩, ⟨j, k⟩, l, m, n⟩⟩, ⟨o, p⟩, ⟨q, r⟩, ⟨s, t⟩, u, v, w, ⟨x, y, z, ⟨a1, a2⟩, ⟨a3, a4⟩, a5, a6, a7⟩, a8, a9, ⟨b0, b1⟩, b2, b3⟩ =>
  some ()
noncomputable def BO (fu : Nat) (jo : Inst → (Option X.Ex) → (List Inst) → Option (Bool × (Option X.Ex) × (List Inst))) (qb : Inst → (List Inst) → Option ((List Inst))) (qc : Inst → (Option X.Ex) → (List Inst) → Option ((Option X.Ex) × (List Inst))) (a1 : Inst) (b0 : Option X.Ex) (b3 : List Inst) : Option (Bool × (Option X.Ex) × (List Inst)) :=
 match a1 with
 | ⟨a, ⟨b, c, d, ⟨e, f, g, ⟨h, i⟩, ⟨j, k⟩, l, m, n⟩⟩, ⟨o, p⟩, ⟨q, r⟩, ⟨s, t⟩, u, v, w, ⟨x, y, z, ⟨a0, a2⟩, ⟨a3, a4⟩, a5, a6, a7⟩, a8, a9, ⟨b1, b2⟩, b4, b5⟩ =>
  match b0 with
  | none =>
   (qb (Inst.mk a (Child.mk b c d (Value.mk e f g (Sl.mk h i) (Sl.mk j k) l m n)) (Sl.mk o p) (Sl.mk q r) (Sl.mk s t) u v w (Value.mk x y z (Sl.mk a0 a2) (Sl.mk a3 a4) a5 a6 a7) a8 a9 (Sl.mk b1 b2) b4 b5) b3).bind fun wr2 =>
    some (true, none, wr2)
  | some _ => none
noncomputable def Em (fu : Nat) (jo : Inst → (Option X.Ex) → (List Inst) → Option (Bool × (Option X.Ex) × (List Inst))) (qb : Inst → (List Inst) → Option ((List Inst))) (qc : Inst → (Option X.Ex) → (List Inst) → Option ((Option X.Ex) × (List Inst))) (a0 : Inst) (b1 : List Inst) : Option ((List Inst)) :=
 match a0 with
 | ⟨a, ⟨b, c, d, ⟨e, f, g, ⟨h, i⟩, ⟨j, k⟩, l, m, n⟩⟩, ⟨o, p⟩, ⟨q, r⟩, ⟨s, t⟩, u, v, w, ⟨x, y, z, ⟨a1, a2⟩, ⟨a3, a4⟩, a5, a6, a7⟩, a8, a9, ⟨b0, b2⟩, b3, b4⟩ =>
  bif a == 0 then
   some b1
  else
   (Mk fu (Inst.mk a (Child.mk b c d (Value.mk e f g (Sl.mk h i) (Sl.mk j k) l m n)) (Sl.mk o p) (Sl.mk q r) (Sl.mk s t) u v w (Value.mk x y z (Sl.mk a1 a2) (Sl.mk a3 a4) a5 a6 a7) a8 a9 (Sl.mk b0 b2) b3 b4) b1).bind fun wr3 =>
    (qc (Inst.mk a (Child.mk b c d (Value.mk e f g (Sl.mk h i) (Sl.mk j k) l m n)) (Sl.mk o p) (Sl.mk q r) (Sl.mk s t) u v w (Value.mk x y z (Sl.mk a1 a2) (Sl.mk a3 a4) a5 a6 a7) a8 a9 (Sl.mk b0 b2) b3 b4) none wr3).bind fun ⟨wr7, wr8⟩ =>
     match wr7 with
     | none =>
      (P32 fu (Inst.mk a (Child.mk b c d (Value.mk e f g (Sl.mk h i) (Sl.mk j k) l m n)) (Sl.mk o p) (Sl.mk q r) (Sl.mk s t) u v w (Value.mk x y z (Sl.mk a1 a2) (Sl.mk a3 a4) a5 a6 a7) a8 a9 (Sl.mk b0 b2) b3 b4)).bind fun _ =>
       some wr8
     | _ => none
noncomputable def rD (fu : Nat) (jo : Inst → (Option X.Ex) → (List Inst) → Option (Bool × (Option X.Ex) × (List Inst))) (a : List Inst) : ((Option X.Ex) × (List Inst) × Int) → Option (((Option X.Ex) × (List Inst) × Int) ⊕ (((Option X.Ex) × (List Inst) × Int) ⊕ ((Option X.Ex) × (List Inst) × Int)))
 | (En, Jr, i31) =>
  bif decide (i31 < (ln a)) then
   (idx a i31).bind fun ⟨b, ⟨c, d, e, ⟨f, g, h, ⟨i, j⟩, ⟨k, l⟩, m, n, o⟩⟩, ⟨p, r⟩, ⟨s, t⟩, ⟨u, v⟩, w, x, y, ⟨z, a0, a1, ⟨a2, a3⟩, ⟨a4, a5⟩, a6, a7, a8⟩, a9, b0, ⟨b1, b2⟩, b3, b4⟩ =>
    (
     bif !(b == 0) then
      match En with
      | none =>
       (jo (Inst.mk b (Child.mk c d e (Value.mk f g h (Sl.mk i j) (Sl.mk k l) m n o)) (Sl.mk p r) (Sl.mk s t) (Sl.mk u v) w x y (Value.mk z a0 a1 (Sl.mk a2 a3) (Sl.mk a4 a5) a6 a7 a8) a9 b0 (Sl.mk b1 b2) b3 b4) none Jr).bind fun ⟨Qe, Vv, aci⟩ =>
        some (Vv, aci, !Qe)
      | some _ => none
     else
      some (En, Jr, false)
    ).bind fun (q : (Option X.Ex) × (List Inst) × Bool) =>
     match q with
     | (Vw, Oy, i44) =>
      bif i44 then
       some (.inr (.inr (Vw, Oy, i31)))
      else
       some (.inl (Vw, Oy, dS (i31 + 1)))
  else
   some (.inr (.inl (En, Jr, i31)))
noncomputable def oV (fu : Nat) (jo : Inst → (Option X.Ex) → (List Inst) → Option (Bool × (Option X.Ex) × (List Inst))) (a : List (Sl Inst)) : ((Option X.Ex) × (List Inst) × Int) → Option (((Option X.Ex) × (List Inst) × Int) ⊕ (((Option X.Ex) × (List Inst) × Int) ⊕ ((Option X.Ex) × (List Inst) × Int)))
 | (g21, g22, i23) =>
  bif decide (i23 < (ln a)) then
   (idx a i23).bind fun ⟨b, c⟩ =>
    (wl (rD fu jo b) (g21, g22, 0)).bind fun q =>
     match q with
     | .inl (Qk, Ml, Sm) =>
      some (.inl (Qk, Ml, dS (i23 + 1)))
     | .inr (Ql, Kj, Vx) =>
      some (.inr (.inr (Ql, Kj, i23)))
  else
   some (.inr (.inl (g21, g22, i23)))
noncomputable def Eo (fu : Nat) (jo : Inst → (Option X.Ex) → (List Inst) → Option (Bool × (Option X.Ex) × (List Inst))) (qb : Inst → (List Inst) → Option ((List Inst))) (qc : Inst → (Option X.Ex) → (List Inst) → Option ((Option X.Ex) × (List Inst))) (a1 : Inst) (b0 : Option X.Ex) (b3 : List Inst) : Option ((Option X.Ex) × (List Inst)) :=
 match a1 with
 | ⟨e, ⟨f, g, h, ⟨i, j, k, ⟨l, m⟩, ⟨n, o⟩, p, r, s⟩⟩, ⟨t, u⟩, ⟨v, w⟩, ⟨a, b⟩, x, y, z, ⟨a0, a2, a3, ⟨a4, a5⟩, ⟨a6, a7⟩, a8, a9, b1⟩, b2, b4, ⟨c, d⟩, b5, b6⟩ =>
  (some [(Sl.mk a b)]).bind fun l1 =>
   (Y0 fu (Inst.mk e (Child.mk f g h (Value.mk i j k (Sl.mk l m) (Sl.mk n o) p r s)) (Sl.mk t u) (Sl.mk v w) (Sl.mk a b) x y z (Value.mk a0 a2 a3 (Sl.mk a4 a5) (Sl.mk a6 a7) a8 a9 b1) b2 b4 (Sl.mk c d) b5 b6)).bind fun r4 =>
    (
     bif r4 then
      (some [(Sl.mk c d)]).bind fun l7 =>
       bif ln l7 == 0 then
        some (l1, (some []))
       else
        bif room 24 (ln (l1 ++ l7)) then
         some ((l1 ++ l7), none)
        else none
     else
      some (l1, (some []))
    ).bind fun (q : (List (Sl Inst)) × (Option (List (Sl Inst)))) =>
     match q with
     | (b7, b8) =>
      (wl (oV fu jo b7) (b0, b3, 0)).bind fun q =>
       match q with
       | .inl (Qm, Kk, Sn) =>
        some (Qm, Kk)
       | .inr (RI, Kl, Sq) =>
        some (RI, Kl)
mutual
noncomputable def qz : Nat → Inst → (Option X.Ex) → (List Inst) → Option (Bool × (Option X.Ex) × (List Inst))
 | 0 => fun _ _ _ => none
 | fu + 1 => fun a0 a1 a2 => BO fu (qz fu) (AU fu) (Ep fu) a0 a1 a2
noncomputable def AU : Nat → Inst → (List Inst) → Option ((List Inst))
 | 0 => fun _ _ => none
 | fu + 1 => fun a0 a1 => Em fu (qz fu) (AU fu) (Ep fu) a0 a1
noncomputable def Ep : Nat → Inst → (Option X.Ex) → (List Inst) → Option ((Option X.Ex) × (List Inst))
 | 0 => fun _ _ _ => none
 | fu + 1 => fun a0 a1 a2 => Eo fu (qz fu) (AU fu) (Ep fu) a0 a1 a2
end
noncomputable def P10 (fu : Nat) (a0 : Inst) : Option ((Sl Inst)) :=
 match a0 with
 | ⟨a, ⟨b, c, d, ⟨e, f, g, ⟨h, i⟩, ⟨j, k⟩, l, m, n⟩⟩, ⟨o, p⟩, ⟨q, r⟩, ⟨s, t⟩, u, v, w, ⟨x, y, z, ⟨a1, a2⟩, ⟨a3, a4⟩, a5, a6, a7⟩, a8, a9, ⟨b0, b1⟩, b2, b3⟩ =>
  (AU fu (Inst.mk a (Child.mk b c d (Value.mk e f g (Sl.mk h i) (Sl.mk j k) l m n)) (Sl.mk o p) (Sl.mk q r) (Sl.mk s t) u v w (Value.mk x y z (Sl.mk a1 a2) (Sl.mk a3 a4) a5 a6 a7) a8 a9 (Sl.mk b0 b1) b2 b3) ([] : List Inst)).bind fun wr4 =>
   some (Sl.mk wr4 none)
noncomputable def yY (fu : Nat) (jq : Inst → Inst → Int → (Option X.Ex) → (Sl Inst) → Option (Bool × (Option X.Ex) × (Sl Inst))) (p43 : Inst → Int → Option ((Sl Inst))) (qd : Inst → Inst → Int → (Option X.Ex) → (Sl Inst) → Option ((Option X.Ex) × (Sl Inst))) (a1 : Inst) (d0 : Inst) (d1 : Int) (b0 : Option X.Ex) (b1 : Sl Inst) : Option (Bool × (Option X.Ex) × (Sl Inst)) :=
 match a1 with
 | ⟨b, ⟨c, d, e, ⟨f, g, h, ⟨i, j⟩, ⟨k, l⟩, m, n, o⟩⟩, ⟨p, r⟩, ⟨s, t⟩, ⟨u, v⟩, w, x, y, ⟨z, a0, a2, ⟨a3, a4⟩, ⟨a5, a6⟩, a7, a8, a9⟩, b2, b3, ⟨b4, b5⟩, b6, b7⟩ =>
  match d0 with
  | ⟨b8, ⟨b9, c0, c1, ⟨c2, c3, c4, ⟨c5, c6⟩, ⟨c7, c8⟩, c9, d2, d3⟩⟩, ⟨d4, d5⟩, ⟨d6, d7⟩, ⟨d8, d9⟩, e0, e3, e4, ⟨e5, e6, e7, ⟨e8, e9⟩, ⟨f0, f1⟩, f2, f3, f4⟩, f5, f6, ⟨f7, f8⟩, f9, g0⟩ =>
   match b1 with
   | ⟨g1, g2⟩ =>
    match b0 with
    | none =>
     (p43 (Inst.mk b (Child.mk c d e (Value.mk f g h (Sl.mk i j) (Sl.mk k l) m n o)) (Sl.mk p r) (Sl.mk s t) (Sl.mk u v) w x y (Value.mk z a0 a2 (Sl.mk a3 a4) (Sl.mk a5 a6) a7 a8 a9) b2 b3 (Sl.mk b4 b5) b6 b7) d1).bind fun ⟨a, g5⟩ =>
      (
       bif decide (0 < (ln a)) then
        (some [(Inst.mk b8 (Child.mk b9 c0 c1 (Value.mk c2 c3 c4 (Sl.mk c5 c6) (Sl.mk c7 c8) c9 d2 d3)) (Sl.mk d4 d5) (Sl.mk d6 d7) (Sl.mk d8 d9) e0 e3 e4 (Value.mk e5 e6 e7 (Sl.mk e8 e9) (Sl.mk f0 f1) f2 f3 f4) f5 f6 (Sl.mk f7 f8) f9 g0)]).bind fun l6 =>
         bif ln a == 0 then
          some (.inr (l6, (some [])))
         else
          bif room 416 (ln (l6 ++ a)) then
           some (.inr ((l6 ++ a), none))
          else none
       else
        some (.inl ())
      ).bind fun (q : Unit ⊕ ((List Inst) × (Option (List Inst)))) =>
       match q with
       | .inl _ =>
        some (true, none, (Sl.mk g1 g2))
       | .inr (g3, g4) =>
        some (false, (some .ret), (Sl.mk g3 g4))
    | some _ => none
noncomputable def RJ (fu : Nat) (jq : Inst → Inst → Int → (Option X.Ex) → (Sl Inst) → Option (Bool × (Option X.Ex) × (Sl Inst))) (p43 : Inst → Int → Option ((Sl Inst))) (qd : Inst → Inst → Int → (Option X.Ex) → (Sl Inst) → Option ((Option X.Ex) × (Sl Inst))) (a0 : Inst) (a1 : Int) : Option ((Sl Inst)) :=
 match a0 with
 | ⟨a, ⟨b, c, d, ⟨e, f, g, ⟨h, i⟩, ⟨j, k⟩, l, m, n⟩⟩, ⟨o, p⟩, ⟨q, r⟩, ⟨s, t⟩, u, v, w, ⟨x, y, z, ⟨a2, a3⟩, ⟨a4, a5⟩, a6, a7, a8⟩, a9, b0, ⟨b1, b2⟩, b3, b4⟩ =>
  bif a == 0 then
   some (Sl.mk [] (some []))
  else
   bif a == a1 then
    (some [(Inst.mk a (Child.mk b c d (Value.mk e f g (Sl.mk h i) (Sl.mk j k) l m n)) (Sl.mk o p) (Sl.mk q r) (Sl.mk s t) u v w (Value.mk x y z (Sl.mk a2 a3) (Sl.mk a4 a5) a6 a7 a8) a9 b0 (Sl.mk b1 b2) b3 b4)]).bind fun l3 =>
     some (Sl.mk l3 (some []))
   else
    (qd (Inst.mk a (Child.mk b c d (Value.mk e f g (Sl.mk h i) (Sl.mk j k) l m n)) (Sl.mk o p) (Sl.mk q r) (Sl.mk s t) u v w (Value.mk x y z (Sl.mk a2 a3) (Sl.mk a4 a5) a6 a7 a8) a9 b0 (Sl.mk b1 b2) b3 b4) (Inst.mk a (Child.mk b c d (Value.mk e f g (Sl.mk h i) (Sl.mk j k) l m n)) (Sl.mk o p) (Sl.mk q r) (Sl.mk s t) u v w (Value.mk x y z (Sl.mk a2 a3) (Sl.mk a4 a5) a6 a7 a8) a9 b0 (Sl.mk b1 b2) b3 b4) a1 none (Sl.mk [] (some []))).bind fun ⟨wr7, ⟨b5, b6⟩⟩ =>
     match wr7 with
     | none =>
      some (Sl.mk [] (some []))
     | some .ret =>
      some (Sl.mk b5 b6)
     | _ => none
noncomputable def yZ (fu : Nat) (jq : Inst → Inst → Int → (Option X.Ex) → (Sl Inst) → Option (Bool × (Option X.Ex) × (Sl Inst))) (d1 : Int) (g : Int) (h : ByteArray) (i : Int) (j : ByteArray) (k : Int) (l : Int) (m : ByteArray) (n : List Value) (o : Option (List Value)) (p : List Field) (r : Option (List Field)) (s : Int) (t : ByteArray) (u : Bool) (v : List Cell) (w : Option (List Cell)) (x : List Child) (y : Option (List Child)) (z : List Inst) (a0 : Option (List Inst)) (a1 : Int) (a2 : Bool) (a3 : Bool) (a4 : Int) (a5 : Int) (a6 : ByteArray) (a7 : List Value) (a8 : Option (List Value)) (a9 : List Field) (b0 : Option (List Field)) (b1 : Int) (b2 : ByteArray) (b3 : Bool) (b4 : ByteArray) (b5 : Bool) (b6 : List Inst) (b7 : Option (List Inst)) (b8 : Bool) (b9 : Bool) (c : List Inst) : ((Option X.Ex) × (List Inst) × (Option (List Inst)) × Int) → Option (((Option X.Ex) × (List Inst) × (Option (List Inst)) × Int) ⊕ (((Option X.Ex) × (List Inst) × (Option (List Inst)) × Int) ⊕ ((Option X.Ex) × (List Inst) × (Option (List Inst)) × Int)))
 | (En, a, b, i31) =>
  bif decide (i31 < (ln c)) then
   (idx c i31).bind fun ⟨d, ⟨c0, c1, c2, ⟨c3, c4, c5, ⟨c6, c7⟩, ⟨c8, c9⟩, d0, d2, d3⟩⟩, ⟨d4, d5⟩, ⟨d6, d7⟩, ⟨d8, d9⟩, e0, e3, e4, ⟨e5, e6, e7, ⟨e8, e9⟩, ⟨f0, f1⟩, f2, f3, f4⟩, f5, f6, ⟨f7, f8⟩, f9, g0⟩ =>
    (
     bif !(d == 0) then
      match En with
      | none =>
       (jq (Inst.mk d (Child.mk c0 c1 c2 (Value.mk c3 c4 c5 (Sl.mk c6 c7) (Sl.mk c8 c9) d0 d2 d3)) (Sl.mk d4 d5) (Sl.mk d6 d7) (Sl.mk d8 d9) e0 e3 e4 (Value.mk e5 e6 e7 (Sl.mk e8 e9) (Sl.mk f0 f1) f2 f3 f4) f5 f6 (Sl.mk f7 f8) f9 g0) (Inst.mk g (Child.mk h i j (Value.mk k l m (Sl.mk n o) (Sl.mk p r) s t u)) (Sl.mk v w) (Sl.mk x y) (Sl.mk z a0) a1 a2 a3 (Value.mk a4 a5 a6 (Sl.mk a7 a8) (Sl.mk a9 b0) b1 b2 b3) b4 b5 (Sl.mk b6 b7) b8 b9) d1 none (Sl.mk a b)).bind fun ⟨Qe, Vv, ⟨g1, g2⟩⟩ =>
        some (Vv, g1, g2, !Qe)
      | some _ => none
     else
      some (En, a, b, false)
    ).bind fun (q : (Option X.Ex) × (List Inst) × (Option (List Inst)) × Bool) =>
     match q with
     | (g40, e, f, i42) =>
      bif i42 then
       some (.inr (.inr (g40, e, f, i31)))
      else
       some (.inl (g40, e, f, dS (i31 + 1)))
  else
   some (.inr (.inl (En, a, b, i31)))
noncomputable def mg (fu : Nat) (jq : Inst → Inst → Int → (Option X.Ex) → (Sl Inst) → Option (Bool × (Option X.Ex) × (Sl Inst))) (d1 : Int) (d : Int) (e : ByteArray) (f : Int) (g : ByteArray) (h : Int) (i : Int) (j : ByteArray) (k : List Value) (l : Option (List Value)) (m : List Field) (n : Option (List Field)) (o : Int) (p : ByteArray) (r : Bool) (s : List Cell) (t : Option (List Cell)) (u : List Child) (v : Option (List Child)) (w : List Inst) (x : Option (List Inst)) (y : Int) (z : Bool) (a0 : Bool) (a1 : Int) (a2 : Int) (a3 : ByteArray) (a4 : List Value) (a5 : Option (List Value)) (a6 : List Field) (a7 : Option (List Field)) (a8 : Int) (a9 : ByteArray) (b0 : Bool) (b1 : ByteArray) (b2 : Bool) (b3 : List Inst) (b4 : Option (List Inst)) (b5 : Bool) (b6 : Bool) (a : List (Sl Inst)) : ((Option X.Ex) × (List Inst) × (Option (List Inst)) × Int) → Option (((Option X.Ex) × (List Inst) × (Option (List Inst)) × Int) ⊕ (((Option X.Ex) × (List Inst) × (Option (List Inst)) × Int) ⊕ ((Option X.Ex) × (List Inst) × (Option (List Inst)) × Int)))
 | (g21, b, c, i23) =>
  bif decide (i23 < (ln a)) then
   (idx a i23).bind fun ⟨b7, b8⟩ =>
    (wl (yZ fu jq d1 d e f g h i j k l m n o p r s t u v w x y z a0 a1 a2 a3 a4 a5 a6 a7 a8 a9 b0 b1 b2 b3 b4 b5 b6 b7) (g21, b, c, 0)).bind fun q =>
     match q with
     | .inl (o46, o47, Qk, Ml) =>
      some (.inl (o46, o47, Qk, dS (i23 + 1)))
     | .inr (Sm, Ql, Kj, Vx) =>
      some (.inr (.inr (Sm, Ql, Kj, i23)))
  else
   some (.inr (.inl (g21, b, c, i23)))
noncomputable def Js (fu : Nat) (jq : Inst → Inst → Int → (Option X.Ex) → (Sl Inst) → Option (Bool × (Option X.Ex) × (Sl Inst))) (p43 : Inst → Int → Option ((Sl Inst))) (qd : Inst → Inst → Int → (Option X.Ex) → (Sl Inst) → Option ((Option X.Ex) × (Sl Inst))) (a1 : Inst) (d0 : Inst) (d1 : Int) (b0 : Option X.Ex) (b1 : Sl Inst) : Option ((Option X.Ex) × (Sl Inst)) :=
 match a1 with
 | ⟨e, ⟨f, g, h, ⟨i, j, k, ⟨l, m⟩, ⟨n, o⟩, p, r, s⟩⟩, ⟨t, u⟩, ⟨v, w⟩, ⟨a, b⟩, x, y, z, ⟨a0, a2, a3, ⟨a4, a5⟩, ⟨a6, a7⟩, a8, a9, b2⟩, b3, b4, ⟨c, d⟩, b5, b6⟩ =>
  match d0 with
  | ⟨b7, ⟨b8, b9, c0, ⟨c1, c2, c3, ⟨c4, c5⟩, ⟨c6, c7⟩, c8, c9, d2⟩⟩, ⟨d3, d4⟩, ⟨d5, d6⟩, ⟨d7, d8⟩, d9, e0, e3, ⟨e4, e5, e6, ⟨e7, e8⟩, ⟨e9, f0⟩, f1, f2, f3⟩, f4, f5, ⟨f6, f7⟩, f8, f9⟩ =>
   match b1 with
   | ⟨g0, g1⟩ =>
    (some [(Sl.mk a b)]).bind fun l1 =>
     (Y0 fu (Inst.mk e (Child.mk f g h (Value.mk i j k (Sl.mk l m) (Sl.mk n o) p r s)) (Sl.mk t u) (Sl.mk v w) (Sl.mk a b) x y z (Value.mk a0 a2 a3 (Sl.mk a4 a5) (Sl.mk a6 a7) a8 a9 b2) b3 b4 (Sl.mk c d) b5 b6)).bind fun r4 =>
      (
       bif r4 then
        (some [(Sl.mk c d)]).bind fun l7 =>
         bif ln l7 == 0 then
          some (l1, (some []))
         else
          bif room 24 (ln (l1 ++ l7)) then
           some ((l1 ++ l7), none)
          else none
       else
        some (l1, (some []))
      ).bind fun (q : (List (Sl Inst)) × (Option (List (Sl Inst)))) =>
       match q with
       | (g2, g3) =>
        (wl (mg fu jq d1 b7 b8 b9 c0 c1 c2 c3 c4 c5 c6 c7 c8 c9 d2 d3 d4 d5 d6 d7 d8 d9 e0 e3 e4 e5 e6 e7 e8 e9 f0 f1 f2 f3 f4 f5 f6 f7 f8 f9 g2) (b0, g0, g1, 0)).bind fun q =>
         match q with
         | .inl (Qm, Kk, Sn, RI) =>
          some (Qm, (Sl.mk Kk Sn))
         | .inr (Kl, Sq, o61, o62) =>
          some (Kl, (Sl.mk Sq o61))
mutual
noncomputable def qA : Nat → Inst → Inst → Int → (Option X.Ex) → (Sl Inst) → Option (Bool × (Option X.Ex) × (Sl Inst))
 | 0 => fun _ _ _ _ _ => none
 | fu + 1 => fun a0 a1 a2 a3 a4 => yY fu (qA fu) (Zg fu) (Er fu) a0 a1 a2 a3 a4
noncomputable def Zg : Nat → Inst → Int → Option ((Sl Inst))
 | 0 => fun _ _ => none
 | fu + 1 => fun a0 a1 => RJ fu (qA fu) (Zg fu) (Er fu) a0 a1
noncomputable def Er : Nat → Inst → Inst → Int → (Option X.Ex) → (Sl Inst) → Option ((Option X.Ex) × (Sl Inst))
 | 0 => fun _ _ _ _ _ => none
 | fu + 1 => fun a0 a1 a2 a3 a4 => Js fu (qA fu) (Zg fu) (Er fu) a0 a1 a2 a3 a4
end
noncomputable def P14 (fu : Nat) (a0 : Inst) (a1 : Int) : Option ((Sl Inst)) :=
 match a0 with
 | ⟨a, ⟨b, c, d, ⟨e, f, g, ⟨h, i⟩, ⟨j, k⟩, l, m, n⟩⟩, ⟨o, p⟩, ⟨q, r⟩, ⟨s, t⟩, u, v, w, ⟨x, y, z, ⟨a2, a3⟩, ⟨a4, a5⟩, a6, a7, a8⟩, a9, b0, ⟨b1, b2⟩, b3, b4⟩ =>
  bif a1 == 0 then
   some (Sl.mk [] (some []))
  else
   (Zg fu (Inst.mk a (Child.mk b c d (Value.mk e f g (Sl.mk h i) (Sl.mk j k) l m n)) (Sl.mk o p) (Sl.mk q r) (Sl.mk s t) u v w (Value.mk x y z (Sl.mk a2 a3) (Sl.mk a4 a5) a6 a7 a8) a9 b0 (Sl.mk b1 b2) b3 b4) a1).bind fun ⟨b5, b6⟩ =>
    (P42 fu (Sl.mk b5 b6)).bind fun ⟨b7, b8⟩ =>
     some (Sl.mk b7 b8)
noncomputable def P13 (fu : Nat) (a0 : Inst) (a1 : Int) : Option (Inst × Bool) :=
 match a0 with
 | ⟨b, ⟨c, d, e, ⟨f, g, h, ⟨i, j⟩, ⟨k, l⟩, m, n, o⟩⟩, ⟨p, q⟩, ⟨r, s⟩, ⟨t, u⟩, v, w, x, ⟨y, z, a2, ⟨a3, a4⟩, ⟨a5, a6⟩, a7, a8, a9⟩, b0, b1, ⟨b2, b3⟩, b4, b5⟩ =>
  (P14 fu (Inst.mk b (Child.mk c d e (Value.mk f g h (Sl.mk i j) (Sl.mk k l) m n o)) (Sl.mk p q) (Sl.mk r s) (Sl.mk t u) v w x (Value.mk y z a2 (Sl.mk a3 a4) (Sl.mk a5 a6) a7 a8 a9) b0 b1 (Sl.mk b2 b3) b4 b5) a1).bind fun ⟨a, f7⟩ =>
   bif (ln a) == 0 then
    some ((Inst.mk 0 (Child.mk ByteArray.empty 0 ByteArray.empty (Value.mk 0 0 ByteArray.empty (Sl.mk [] (some [])) (Sl.mk [] (some [])) 0 ByteArray.empty false)) (Sl.mk [] (some [])) (Sl.mk [] (some [])) (Sl.mk [] (some [])) 0 false false (Value.mk 0 0 ByteArray.empty (Sl.mk [] (some [])) (Sl.mk [] (some [])) 0 ByteArray.empty false) ByteArray.empty false (Sl.mk [] (some [])) false false), false)
   else
    (idx a (dS ((ln a) - 1))).bind fun ⟨b6, ⟨b7, b8, b9, ⟨c0, c1, c2, ⟨c3, c4⟩, ⟨c5, c6⟩, c7, c8, c9⟩⟩, ⟨d0, d1⟩, ⟨d2, d3⟩, ⟨d4, d5⟩, d6, d7, d8, ⟨d9, e0, e3, ⟨e4, e5⟩, ⟨e6, e7⟩, e8, e9, f0⟩, f1, f2, ⟨f3, f4⟩, f5, f6⟩ =>
     some ((Inst.mk b6 (Child.mk b7 b8 b9 (Value.mk c0 c1 c2 (Sl.mk c3 c4) (Sl.mk c5 c6) c7 c8 c9)) (Sl.mk d0 d1) (Sl.mk d2 d3) (Sl.mk d4 d5) d6 d7 d8 (Value.mk d9 e0 e3 (Sl.mk e4 e5) (Sl.mk e6 e7) e8 e9 f0) f1 f2 (Sl.mk f3 f4) f5 f6), true)
noncomputable def Vy (fu : Nat) (p41 : Value → Value → Option (Bool)) (p67 : (Sl Value) → (Sl Value) → Option (Bool)) (p68 : (Sl Field) → (Sl Field) → Option (Bool)) (Gr : Field → Field → Option (Bool)) (a0 : Value) (a1 : Value) : Option (Bool) :=
 match a0 with
 | ⟨a, b, c, ⟨d, e⟩, ⟨f, g⟩, h, i, j⟩ =>
  match a1 with
  | ⟨k, l, m, ⟨n, o⟩, ⟨p, r⟩, s, t, u⟩ =>
   (
    bif a == k then
     bif b == l then
      bif seq c m then
       (p67 (Sl.mk d e) (Sl.mk n o)).bind fun r4 =>
        bif r4 then
         (p68 (Sl.mk f g) (Sl.mk p r)).bind fun r7 =>
          bif r7 then
           bif h == s then
            bif seq i t then
             some (j == u)
            else
             some false
           else
            some false
          else
           some false
        else
         some false
      else
       some false
     else
      some false
    else
     some false
   ).bind fun (q : Bool) =>
    match q with
    | i12 =>
     some i12
noncomputable def Jt (fu : Nat) (p41 : Value → Value → Option (Bool)) (a : List Value) (b : List Value) : Int → Option (Int ⊕ (Int ⊕ Int))
 | i6 =>
  bif decide (i6 < (ln a)) then
   (idx a i6).bind fun ⟨c, d, e, ⟨f, g⟩, ⟨h, i⟩, j, k, l⟩ =>
    (idx b i6).bind fun ⟨m, n, o, ⟨p, q⟩, ⟨r, s⟩, t, u, v⟩ =>
     (p41 (Value.mk c d e (Sl.mk f g) (Sl.mk h i) j k l) (Value.mk m n o (Sl.mk p q) (Sl.mk r s) t u v)).bind fun AQ =>
      bif !AQ then
       some (.inr (.inr i6))
      else
       some (.inl (dS (i6 + 1)))
  else
   some (.inr (.inl i6))
noncomputable def RL (fu : Nat) (p41 : Value → Value → Option (Bool)) (p67 : (Sl Value) → (Sl Value) → Option (Bool)) (p68 : (Sl Field) → (Sl Field) → Option (Bool)) (Gr : Field → Field → Option (Bool)) (a0 : Sl Value) (a1 : Sl Value) : Option (Bool) :=
 match a0 with
 | ⟨a, c⟩ =>
  match a1 with
  | ⟨b, d⟩ =>
   bif !((ln a) == (ln b)) then
    some false
   else
    (wl (Jt fu p41 a b) 0).bind fun q =>
     match q with
     | .inl fq =>
      some true
     | .inr kg =>
      some false
end Go.Proofs.Ytedfkehkcaaplaa
