/- T -/
import Derived.Test.YtedfkehkcaaplaaTFD0
namespace Go.Proofs.Ytedfkehkcaaplaa
open Go Go.X
set_option linter.unusedVariables false
set_option maxRecDepth 100000
noncomputable def Ju (fu : Nat) (Gr : Field → Field → Option (Bool)) (a : List Field) (b : List Field) : Int → Option (Int ⊕ (Int ⊕ Int))
 | i6 =>
  bif decide (i6 < (ln a)) then
   (idx a i6).bind fun ⟨c, ⟨d, e, f, ⟨g, h⟩, ⟨i, j⟩, k, l, m⟩⟩ =>
    (idx b i6).bind fun ⟨n, ⟨o, p, q, ⟨r, s⟩, ⟨t, u⟩, v, w, x⟩⟩ =>
     (Gr (Field.mk c (Value.mk d e f (Sl.mk g h) (Sl.mk i j) k l m)) (Field.mk n (Value.mk o p q (Sl.mk r s) (Sl.mk t u) v w x))).bind fun AQ =>
      bif !AQ then
       some (.inr (.inr i6))
      else
       some (.inl (dS (i6 + 1)))
  else
   some (.inr (.inl i6))
noncomputable def RN (fu : Nat) (p41 : Value → Value → Option (Bool)) (p67 : (Sl Value) → (Sl Value) → Option (Bool)) (p68 : (Sl Field) → (Sl Field) → Option (Bool)) (Gr : Field → Field → Option (Bool)) (a0 : Sl Field) (a1 : Sl Field) : Option (Bool) :=
 match a0 with
 | ⟨a, c⟩ =>
  match a1 with
  | ⟨b, d⟩ =>
   bif !((ln a) == (ln b)) then
    some false
   else
    (wl (Ju fu Gr a b) 0).bind fun q =>
     match q with
     | .inl fq =>
      some true
     | .inr kg =>
      some false
noncomputable def RO (fu : Nat) (p41 : Value → Value → Option (Bool)) (p67 : (Sl Value) → (Sl Value) → Option (Bool)) (p68 : (Sl Field) → (Sl Field) → Option (Bool)) (Gr : Field → Field → Option (Bool)) (a0 : Field) (a1 : Field) : Option (Bool) :=
 match a0 with
 | ⟨a, ⟨b, c, d, ⟨e, f⟩, ⟨g, h⟩, i, j, k⟩⟩ =>
  match a1 with
  | ⟨l, ⟨m, n, o, ⟨p, r⟩, ⟨s, t⟩, u, v, w⟩⟩ =>
   (
    bif seq a l then
     (p41 (Value.mk b c d (Sl.mk e f) (Sl.mk g h) i j k) (Value.mk m n o (Sl.mk p r) (Sl.mk s t) u v w)).bind fun r2 =>
      some r2
    else
     some false
   ).bind fun (q : Bool) =>
    match q with
    | i4 =>
     some i4
mutual
noncomputable def Jv : Nat → Value → Value → Option (Bool)
 | 0 => fun _ _ => none
 | fu + 1 => fun a0 a1 => Vy fu (Jv fu) (Qn fu) (Oz fu) (RP fu) a0 a1
noncomputable def Qn : Nat → (Sl Value) → (Sl Value) → Option (Bool)
 | 0 => fun _ _ => none
 | fu + 1 => fun a0 a1 => RL fu (Jv fu) (Qn fu) (Oz fu) (RP fu) a0 a1
noncomputable def Oz : Nat → (Sl Field) → (Sl Field) → Option (Bool)
 | 0 => fun _ _ => none
 | fu + 1 => fun a0 a1 => RN fu (Jv fu) (Qn fu) (Oz fu) (RP fu) a0 a1
noncomputable def RP : Nat → Field → Field → Option (Bool)
 | 0 => fun _ _ => none
 | fu + 1 => fun a0 a1 => RO fu (Jv fu) (Qn fu) (Oz fu) (RP fu) a0 a1
end
noncomputable def Zh (fu : Nat) (a0 : Child) (a1 : Child) : Option (Bool) :=
 match a0 with
 | ⟨a, b, c, ⟨d, e, f, ⟨g, h⟩, ⟨i, j⟩, k, l, m⟩⟩ =>
  match a1 with
  | ⟨n, o, p, ⟨r, s, t, ⟨u, v⟩, ⟨w, x⟩, y, z, a2⟩⟩ =>
   (
    bif seq a n then
     bif b == o then
      bif seq c p then
       (Jv fu (Value.mk d e f (Sl.mk g h) (Sl.mk i j) k l m) (Value.mk r s t (Sl.mk u v) (Sl.mk w x) y z a2)).bind fun r4 =>
        some r4
      else
       some false
     else
      some false
    else
     some false
   ).bind fun (q : Bool) =>
    match q with
    | i6 =>
     some i6
noncomputable def BP (fu : Nat) (a : List ByteArray) (b : List ByteArray) : Int → Option (Int ⊕ (Int ⊕ Int))
 | i6 =>
  bif decide (i6 < (ln a)) then
   (idx a i6).bind fun x10 =>
    (idx b i6).bind fun Jw =>
     bif !(seq x10 Jw) then
      some (.inr (.inr i6))
     else
      some (.inl (dS (i6 + 1)))
  else
   some (.inr (.inl i6))
noncomputable def OA (fu : Nat) (a0 : Sl ByteArray) (a1 : Sl ByteArray) : Option (Bool) :=
 match a0 with
 | ⟨a, c⟩ =>
  match a1 with
  | ⟨b, d⟩ =>
   bif !((ln a) == (ln b)) then
    some false
   else
    (wl (BP fu a b) 0).bind fun q =>
     match q with
     | .inl o16 =>
      some true
     | .inr qx =>
      some false
noncomputable def Gs (fu : Nat) (rE : Act → Act → Option (Bool)) (qB : Expr → Expr → Option (Bool)) (rF : (Sl Expr) → (Sl Expr) → Option (Bool)) (Km : (Sl Act) → (Sl Act) → Option (Bool)) (a0 : Act) (a1 : Act) : Option (Bool) :=
 match a0 with
 | ⟨a, b, ⟨c, d, e, ⟨f, g⟩, ⟨h, i⟩, ⟨j, k⟩, l, ⟨m, n⟩, ⟨o, p⟩, r⟩⟩ =>
  match a1 with
  | ⟨s, t, ⟨u, v, w, ⟨x, y⟩, ⟨z, a2⟩, ⟨a3, a4⟩, a5, ⟨a6, a7⟩, ⟨a8, a9⟩, b0⟩⟩ =>
   (
    bif a == s then
     bif seq b t then
      (qB (Expr.mk c d e (Sl.mk f g) (Sl.mk h i) (Sl.mk j k) l (Sl.mk m n) (Sl.mk o p) r) (Expr.mk u v w (Sl.mk x y) (Sl.mk z a2) (Sl.mk a3 a4) a5 (Sl.mk a6 a7) (Sl.mk a8 a9) b0)).bind fun r3 =>
       some r3
     else
      some false
    else
     some false
   ).bind fun (q : Bool) =>
    match q with
    | i5 =>
     some i5
noncomputable def Mq (fu : Nat) (rE : Act → Act → Option (Bool)) (qB : Expr → Expr → Option (Bool)) (rF : (Sl Expr) → (Sl Expr) → Option (Bool)) (Km : (Sl Act) → (Sl Act) → Option (Bool)) (a0 : Expr) (a1 : Expr) : Option (Bool) :=
 match a0 with
 | ⟨a, b, c, ⟨d, e⟩, ⟨f, g⟩, ⟨h, i⟩, j, ⟨k, l⟩, ⟨m, n⟩, o⟩ =>
  match a1 with
  | ⟨p, r, s, ⟨t, u⟩, ⟨v, w⟩, ⟨x, y⟩, z, ⟨a2, a3⟩, ⟨a4, a5⟩, a6⟩ =>
   (
    bif a == p then
     bif b == r then
      bif seq c s then
       (rF (Sl.mk d e) (Sl.mk t u)).bind fun r4 =>
        bif r4 then
         (OA fu (Sl.mk f g) (Sl.mk v w)).bind fun r7 =>
          bif r7 then
           (rF (Sl.mk h i) (Sl.mk x y)).bind fun YX =>
            bif YX then
             bif j == z then
              (rF (Sl.mk k l) (Sl.mk a2 a3)).bind fun AQ =>
               bif AQ then
                (Km (Sl.mk m n) (Sl.mk a4 a5)).bind fun r17 =>
                 bif r17 then
                  some (seq o a6)
                 else
                  some false
               else
                some false
             else
              some false
            else
             some false
          else
           some false
        else
         some false
      else
       some false
     else
      some false
    else
     some false
   ).bind fun (q : Bool) =>
    match q with
    | i20 =>
     some i20
noncomputable def BQ (fu : Nat) (qB : Expr → Expr → Option (Bool)) (a : List Expr) (b : List Expr) : Int → Option (Int ⊕ (Int ⊕ Int))
 | i6 =>
  bif decide (i6 < (ln a)) then
   (idx a i6).bind fun ⟨c, d, e, ⟨f, g⟩, ⟨h, i⟩, ⟨j, k⟩, l, ⟨m, n⟩, ⟨o, p⟩, q⟩ =>
    (idx b i6).bind fun ⟨r, s, t, ⟨u, v⟩, ⟨w, x⟩, ⟨y, z⟩, a0, ⟨a1, a2⟩, ⟨a3, a4⟩, a5⟩ =>
     (qB (Expr.mk c d e (Sl.mk f g) (Sl.mk h i) (Sl.mk j k) l (Sl.mk m n) (Sl.mk o p) q) (Expr.mk r s t (Sl.mk u v) (Sl.mk w x) (Sl.mk y z) a0 (Sl.mk a1 a2) (Sl.mk a3 a4) a5)).bind fun AQ =>
      bif !AQ then
       some (.inr (.inr i6))
      else
       some (.inl (dS (i6 + 1)))
  else
   some (.inr (.inl i6))
noncomputable def Mr (fu : Nat) (rE : Act → Act → Option (Bool)) (qB : Expr → Expr → Option (Bool)) (rF : (Sl Expr) → (Sl Expr) → Option (Bool)) (Km : (Sl Act) → (Sl Act) → Option (Bool)) (a0 : Sl Expr) (a1 : Sl Expr) : Option (Bool) :=
 match a0 with
 | ⟨a, c⟩ =>
  match a1 with
  | ⟨b, d⟩ =>
   bif !((ln a) == (ln b)) then
    some false
   else
    (wl (BQ fu qB a b) 0).bind fun q =>
     match q with
     | .inl fq =>
      some true
     | .inr kg =>
      some false
noncomputable def Jy (fu : Nat) (rE : Act → Act → Option (Bool)) (a : List Act) (b : List Act) : Int → Option (Int ⊕ (Int ⊕ Int))
 | i6 =>
  bif decide (i6 < (ln a)) then
   (idx a i6).bind fun ⟨c, d, ⟨e, f, g, ⟨h, i⟩, ⟨j, k⟩, ⟨l, m⟩, n, ⟨o, p⟩, ⟨q, r⟩, s⟩⟩ =>
    (idx b i6).bind fun ⟨t, u, ⟨v, w, x, ⟨y, z⟩, ⟨a0, a1⟩, ⟨a2, a3⟩, a4, ⟨a5, a6⟩, ⟨a7, a8⟩, a9⟩⟩ =>
     (rE (Act.mk c d (Expr.mk e f g (Sl.mk h i) (Sl.mk j k) (Sl.mk l m) n (Sl.mk o p) (Sl.mk q r) s)) (Act.mk t u (Expr.mk v w x (Sl.mk y z) (Sl.mk a0 a1) (Sl.mk a2 a3) a4 (Sl.mk a5 a6) (Sl.mk a7 a8) a9))).bind fun AQ =>
      bif !AQ then
       some (.inr (.inr i6))
      else
       some (.inl (dS (i6 + 1)))
  else
   some (.inr (.inl i6))
noncomputable def RQ (fu : Nat) (rE : Act → Act → Option (Bool)) (qB : Expr → Expr → Option (Bool)) (rF : (Sl Expr) → (Sl Expr) → Option (Bool)) (Km : (Sl Act) → (Sl Act) → Option (Bool)) (a0 : Sl Act) (a1 : Sl Act) : Option (Bool) :=
 match a0 with
 | ⟨a, c⟩ =>
  match a1 with
  | ⟨b, d⟩ =>
   bif !((ln a) == (ln b)) then
    some false
   else
    (wl (Jy fu rE a b) 0).bind fun q =>
     match q with
     | .inl fq =>
      some true
     | .inr kg =>
      some false
mutual
noncomputable def zS : Nat → Act → Act → Option (Bool)
 | 0 => fun _ _ => none
 | fu + 1 => fun a0 a1 => Gs fu (zS fu) (zT fu) (Jz fu) (MR fu) a0 a1
noncomputable def zT : Nat → Expr → Expr → Option (Bool)
 | 0 => fun _ _ => none
 | fu + 1 => fun a0 a1 => Mq fu (zS fu) (zT fu) (Jz fu) (MR fu) a0 a1
noncomputable def Jz : Nat → (Sl Expr) → (Sl Expr) → Option (Bool)
 | 0 => fun _ _ => none
 | fu + 1 => fun a0 a1 => Mr fu (zS fu) (zT fu) (Jz fu) (MR fu) a0 a1
noncomputable def MR : Nat → (Sl Act) → (Sl Act) → Option (Bool)
 | 0 => fun _ _ => none
 | fu + 1 => fun a0 a1 => RQ fu (zS fu) (zT fu) (Jz fu) (MR fu) a0 a1
end
noncomputable def P66 (fu : Nat) (a0 : Cell) (a1 : Cell) : Option (Bool) :=
 match a0 with
 | ⟨a, b, ⟨c, d, e, ⟨f, g⟩, ⟨h, i⟩, j, k, l⟩, ⟨m, n, o, ⟨p, r⟩, ⟨s, t⟩, u, v, w⟩, ⟨x, y⟩, ⟨z, a2⟩, ⟨a3, a4⟩, ⟨a5, a6⟩, a7, a8, ⟨a9, b0⟩, ⟨b1, b2⟩⟩ =>
  match a1 with
  | ⟨b3, b4, ⟨b5, b6, b7, ⟨b8, b9⟩, ⟨c0, c1⟩, c2, c3, c4⟩, ⟨c5, c6, c7, ⟨c8, c9⟩, ⟨d0, d1⟩, d2, d3, d4⟩, ⟨d5, d6⟩, ⟨d7, d8⟩, ⟨d9, e0⟩, ⟨e3, e4⟩, e5, e6, ⟨e7, e8⟩, ⟨e9, f0⟩⟩ =>
   (
    bif a == b3 then
     bif seq b b4 then
      (Jv fu (Value.mk c d e (Sl.mk f g) (Sl.mk h i) j k l) (Value.mk b5 b6 b7 (Sl.mk b8 b9) (Sl.mk c0 c1) c2 c3 c4)).bind fun r3 =>
       bif r3 then
        (Jv fu (Value.mk m n o (Sl.mk p r) (Sl.mk s t) u v w) (Value.mk c5 c6 c7 (Sl.mk c8 c9) (Sl.mk d0 d1) d2 d3 d4)).bind fun r6 =>
         bif r6 then
          (Qn fu (Sl.mk x y) (Sl.mk d5 d6)).bind fun r9 =>
           bif r9 then
            (MR fu (Sl.mk z a2) (Sl.mk d7 d8)).bind fun r12 =>
             bif r12 then
              (MR fu (Sl.mk a3 a4) (Sl.mk d9 e0)).bind fun Mh =>
               bif Mh then
                (Oz fu (Sl.mk a5 a6) (Sl.mk e3 e4)).bind fun r18 =>
                 bif r18 then
                  bif a7 == e5 then
                   bif a8 == e6 then
                    (MR fu (Sl.mk a9 b0) (Sl.mk e7 e8)).bind fun Vp =>
                     bif Vp then
                      (Oz fu (Sl.mk b1 b2) (Sl.mk e9 f0)).bind fun r26 =>
                       some r26
                     else
                      some false
                   else
                    some false
                  else
                   some false
                 else
                  some false
               else
                some false
             else
              some false
           else
            some false
         else
          some false
       else
        some false
     else
      some false
    else
     some false
   ).bind fun (q : Bool) =>
    match q with
    | i28 =>
     some i28
noncomputable def JA (fu : Nat) (a : List Cell) (b : List Cell) : Int → Option (Int ⊕ (Int ⊕ Int))
 | i6 =>
  bif decide (i6 < (ln a)) then
   (idx a i6).bind fun ⟨c, d, ⟨e, f, g, ⟨h, i⟩, ⟨j, k⟩, l, m, n⟩, ⟨o, p, q, ⟨r, s⟩, ⟨t, u⟩, v, w, x⟩, ⟨y, z⟩, ⟨a0, a1⟩, ⟨a2, a3⟩, ⟨a4, a5⟩, a6, a7, ⟨a8, a9⟩, ⟨b0, b1⟩⟩ =>
    (idx b i6).bind fun ⟨b2, b3, ⟨b4, b5, b6, ⟨b7, b8⟩, ⟨b9, c0⟩, c1, c2, c3⟩, ⟨c4, c5, c6, ⟨c7, c8⟩, ⟨c9, d0⟩, d1, d2, d3⟩, ⟨d4, d5⟩, ⟨d6, d7⟩, ⟨d8, d9⟩, ⟨e0, e3⟩, e4, e5, ⟨e6, e7⟩, ⟨e8, e9⟩⟩ =>
     (P66 fu (Cell.mk c d (Value.mk e f g (Sl.mk h i) (Sl.mk j k) l m n) (Value.mk o p q (Sl.mk r s) (Sl.mk t u) v w x) (Sl.mk y z) (Sl.mk a0 a1) (Sl.mk a2 a3) (Sl.mk a4 a5) a6 a7 (Sl.mk a8 a9) (Sl.mk b0 b1)) (Cell.mk b2 b3 (Value.mk b4 b5 b6 (Sl.mk b7 b8) (Sl.mk b9 c0) c1 c2 c3) (Value.mk c4 c5 c6 (Sl.mk c7 c8) (Sl.mk c9 d0) d1 d2 d3) (Sl.mk d4 d5) (Sl.mk d6 d7) (Sl.mk d8 d9) (Sl.mk e0 e3) e4 e5 (Sl.mk e6 e7) (Sl.mk e8 e9))).bind fun AQ =>
      bif !AQ then
       some (.inr (.inr i6))
      else
       some (.inl (dS (i6 + 1)))
  else
   some (.inr (.inl i6))
noncomputable def P38 (fu : Nat) (a0 : Sl Cell) (a1 : Sl Cell) : Option (Bool) :=
 match a0 with
 | ⟨a, c⟩ =>
  match a1 with
  | ⟨b, d⟩ =>
   bif !((ln a) == (ln b)) then
    some false
   else
    (wl (JA fu a b) 0).bind fun q =>
     match q with
     | .inl fq =>
      some true
     | .inr kg =>
      some false
noncomputable def JB (fu : Nat) (a : List Child) (b : List Child) : Int → Option (Int ⊕ (Int ⊕ Int))
 | i6 =>
  bif decide (i6 < (ln a)) then
   (idx a i6).bind fun ⟨c, d, e, ⟨f, g, h, ⟨i, j⟩, ⟨k, l⟩, m, n, o⟩⟩ =>
    (idx b i6).bind fun ⟨p, q, r, ⟨s, t, u, ⟨v, w⟩, ⟨x, y⟩, z, a0, a1⟩⟩ =>
     (Zh fu (Child.mk c d e (Value.mk f g h (Sl.mk i j) (Sl.mk k l) m n o)) (Child.mk p q r (Value.mk s t u (Sl.mk v w) (Sl.mk x y) z a0 a1))).bind fun AQ =>
      bif !AQ then
       some (.inr (.inr i6))
      else
       some (.inl (dS (i6 + 1)))
  else
   some (.inr (.inl i6))
noncomputable def P39 (fu : Nat) (a0 : Sl Child) (a1 : Sl Child) : Option (Bool) :=
 match a0 with
 | ⟨a, c⟩ =>
  match a1 with
  | ⟨b, d⟩ =>
   bif !((ln a) == (ln b)) then
    some false
   else
    (wl (JB fu a b) 0).bind fun q =>
     match q with
     | .inl fq =>
      some true
     | .inr kg =>
      some false
noncomputable def Vz (fu : Nat) (Sr : Inst → Inst → Option (Bool)) (p40 : (Sl Inst) → (Sl Inst) → Option (Bool)) (a0 : Inst) (a1 : Inst) : Option (Bool) :=
 match a0 with
 | ⟨a, ⟨b, c, d, ⟨e, f, g, ⟨h, i⟩, ⟨j, k⟩, l, m, n⟩⟩, ⟨o, p⟩, ⟨r, s⟩, ⟨t, u⟩, v, w, x, ⟨y, z, a2, ⟨a3, a4⟩, ⟨a5, a6⟩, a7, a8, a9⟩, b0, b1, ⟨b2, b3⟩, b4, b5⟩ =>
  match a1 with
  | ⟨b6, ⟨b7, b8, b9, ⟨c0, c1, c2, ⟨c3, c4⟩, ⟨c5, c6⟩, c7, c8, c9⟩⟩, ⟨d0, d1⟩, ⟨d2, d3⟩, ⟨d4, d5⟩, d6, d7, d8, ⟨d9, e0, e3, ⟨e4, e5⟩, ⟨e6, e7⟩, e8, e9, f0⟩, f1, f2, ⟨f3, f4⟩, f5, f6⟩ =>
   (
    bif a == b6 then
     (Zh fu (Child.mk b c d (Value.mk e f g (Sl.mk h i) (Sl.mk j k) l m n)) (Child.mk b7 b8 b9 (Value.mk c0 c1 c2 (Sl.mk c3 c4) (Sl.mk c5 c6) c7 c8 c9))).bind fun r2 =>
      bif r2 then
       (P38 fu (Sl.mk o p) (Sl.mk d0 d1)).bind fun r5 =>
        bif r5 then
         (P39 fu (Sl.mk r s) (Sl.mk d2 d3)).bind fun r8 =>
          bif r8 then
           (p40 (Sl.mk t u) (Sl.mk d4 d5)).bind fun MQ =>
            bif MQ then
             bif v == d6 then
              bif w == d7 then
               bif x == d8 then
                (Jv fu (Value.mk y z a2 (Sl.mk a3 a4) (Sl.mk a5 a6) a7 a8 a9) (Value.mk d9 e0 e3 (Sl.mk e4 e5) (Sl.mk e6 e7) e8 e9 f0)).bind fun r17 =>
                 bif r17 then
                  bif seq b0 f1 then
                   bif b1 == f2 then
                    (p40 (Sl.mk b2 b3) (Sl.mk f3 f4)).bind fun r22 =>
                     bif r22 then
                      bif b4 == f5 then
                       some (b5 == f6)
                      else
                       some false
                     else
                      some false
                   else
                    some false
                  else
                   some false
                 else
                  some false
               else
                some false
              else
               some false
             else
              some false
            else
             some false
          else
           some false
        else
         some false
      else
       some false
    else
     some false
   ).bind fun (q : Bool) =>
    match q with
    | i26 =>
     some i26
noncomputable def JC (fu : Nat) (Sr : Inst → Inst → Option (Bool)) (a : List Inst) (b : List Inst) : Int → Option (Int ⊕ (Int ⊕ Int))
 | i6 =>
  bif decide (i6 < (ln a)) then
   (idx a i6).bind fun ⟨c, ⟨d, e, f, ⟨g, h, i, ⟨j, k⟩, ⟨l, m⟩, n, o, p⟩⟩, ⟨q, r⟩, ⟨s, t⟩, ⟨u, v⟩, w, x, y, ⟨z, a0, a1, ⟨a2, a3⟩, ⟨a4, a5⟩, a6, a7, a8⟩, a9, b0, ⟨b1, b2⟩, b3, b4⟩ =>
    (idx b i6).bind fun ⟨b5, ⟨b6, b7, b8, ⟨b9, c0, c1, ⟨c2, c3⟩, ⟨c4, c5⟩, c6, c7, c8⟩⟩, ⟨c9, d0⟩, ⟨d1, d2⟩, ⟨d3, d4⟩, d5, d6, d7, ⟨d8, d9, e0, ⟨e3, e4⟩, ⟨e5, e6⟩, e7, e8, e9⟩, f0, f1, ⟨f2, f3⟩, f4, f5⟩ =>
     (Sr (Inst.mk c (Child.mk d e f (Value.mk g h i (Sl.mk j k) (Sl.mk l m) n o p)) (Sl.mk q r) (Sl.mk s t) (Sl.mk u v) w x y (Value.mk z a0 a1 (Sl.mk a2 a3) (Sl.mk a4 a5) a6 a7 a8) a9 b0 (Sl.mk b1 b2) b3 b4) (Inst.mk b5 (Child.mk b6 b7 b8 (Value.mk b9 c0 c1 (Sl.mk c2 c3) (Sl.mk c4 c5) c6 c7 c8)) (Sl.mk c9 d0) (Sl.mk d1 d2) (Sl.mk d3 d4) d5 d6 d7 (Value.mk d8 d9 e0 (Sl.mk e3 e4) (Sl.mk e5 e6) e7 e8 e9) f0 f1 (Sl.mk f2 f3) f4 f5)).bind fun AQ =>
      bif !AQ then
       some (.inr (.inr i6))
      else
       some (.inl (dS (i6 + 1)))
  else
   some (.inr (.inl i6))
noncomputable def VA (fu : Nat) (Sr : Inst → Inst → Option (Bool)) (p40 : (Sl Inst) → (Sl Inst) → Option (Bool)) (a0 : Sl Inst) (a1 : Sl Inst) : Option (Bool) :=
 match a0 with
 | ⟨a, c⟩ =>
  match a1 with
  | ⟨b, d⟩ =>
   bif !((ln a) == (ln b)) then
    some false
   else
    (wl (JC fu Sr a b) 0).bind fun q =>
     match q with
     | .inl fq =>
      some true
     | .inr kg =>
      some false
mutual
noncomputable def OB : Nat → Inst → Inst → Option (Bool)
 | 0 => fun _ _ => none
 | fu + 1 => fun a0 a1 => Vz fu (OB fu) (P40 fu) a0 a1
noncomputable def P40 : Nat → (Sl Inst) → (Sl Inst) → Option (Bool)
 | 0 => fun _ _ => none
 | fu + 1 => fun a0 a1 => VA fu (OB fu) (P40 fu) a0 a1
end
noncomputable def Es (fu : Nat) (a1 : Inst) (b0 : Option X.Ex) (b2 : List Inst) : Option (Bool × (Option X.Ex) × (List Inst)) :=
 match a1 with
 | ⟨a, ⟨b, c, d, ⟨e, f, g, ⟨h, i⟩, ⟨j, k⟩, l, m, n⟩⟩, ⟨o, p⟩, ⟨r, s⟩, ⟨t, u⟩, v, w, x, ⟨y, z, a0, ⟨a2, a3⟩, ⟨a4, a5⟩, a6, a7, a8⟩, a9, b1, ⟨b3, b4⟩, b5, b6⟩ =>
  match b0 with
  | none =>
   (
    (Zf fu (Inst.mk a (Child.mk b c d (Value.mk e f g (Sl.mk h i) (Sl.mk j k) l m n)) (Sl.mk o p) (Sl.mk r s) (Sl.mk t u) v w x (Value.mk y z a0 (Sl.mk a2 a3) (Sl.mk a4 a5) a6 a7 a8) a9 b1 (Sl.mk b3 b4) b5 b6)).bind fun ⟨b7, ⟨b8, b9, c0, ⟨c1, c2, c3, ⟨c4, c5⟩, ⟨c6, c7⟩, c8, c9, d0⟩⟩, ⟨d1, d2⟩, ⟨d3, d4⟩, ⟨d5, d6⟩, d7, d8, d9, ⟨e0, e3, e4, ⟨e5, e6⟩, ⟨e7, e8⟩, e9, f0, f1⟩, f2, f3, ⟨f4, f5⟩, f6, f7⟩ =>
     bif room 416 (ln (b2 ++ [(Inst.mk 0 (Child.mk ByteArray.empty 0 ByteArray.empty (Value.mk 0 0 ByteArray.empty (Sl.mk [] (some [])) (Sl.mk [] (some [])) 0 ByteArray.empty false)) (Sl.mk [] (some [])) (Sl.mk [] (some [])) (Sl.mk [] (some [])) 0 false false (Value.mk 0 0 ByteArray.empty (Sl.mk [] (some [])) (Sl.mk [] (some [])) 0 ByteArray.empty false) ByteArray.empty false (Sl.mk [] (some [])) false false)])) then
      (idx (b2 ++ [(Inst.mk 0 (Child.mk ByteArray.empty 0 ByteArray.empty (Value.mk 0 0 ByteArray.empty (Sl.mk [] (some [])) (Sl.mk [] (some [])) 0 ByteArray.empty false)) (Sl.mk [] (some [])) (Sl.mk [] (some [])) (Sl.mk [] (some [])) 0 false false (Value.mk 0 0 ByteArray.empty (Sl.mk [] (some [])) (Sl.mk [] (some [])) 0 ByteArray.empty false) ByteArray.empty false (Sl.mk [] (some [])) false false)]) (ln b2)).bind fun ⟨f8, ⟨f9, g0, g1, ⟨g2, g3, g4, ⟨g5, g6⟩, ⟨g7, g8⟩, g9, h0, h3⟩⟩, ⟨h4, h5⟩, ⟨h6, h7⟩, ⟨h8, h9⟩, i0, i1, i2, ⟨i3, i4, i5, ⟨i6, i7⟩, ⟨i9, j0⟩, j1, j2, j3⟩, j4, j5, ⟨j6, j7⟩, j8, j9⟩ =>
       some (List.set (b2 ++ [(Inst.mk 0 (Child.mk ByteArray.empty 0 ByteArray.empty (Value.mk 0 0 ByteArray.empty (Sl.mk [] (some [])) (Sl.mk [] (some [])) 0 ByteArray.empty false)) (Sl.mk [] (some [])) (Sl.mk [] (some [])) (Sl.mk [] (some [])) 0 false false (Value.mk 0 0 ByteArray.empty (Sl.mk [] (some [])) (Sl.mk [] (some [])) 0 ByteArray.empty false) ByteArray.empty false (Sl.mk [] (some [])) false false)]) (Int.toNat (ln b2)) (Inst.mk b7 (Child.mk b8 b9 c0 (Value.mk c1 c2 c3 (Sl.mk c4 c5) (Sl.mk c6 c7) c8 c9 d0)) (Sl.mk d1 d2) (Sl.mk d3 d4) (Sl.mk d5 d6) d7 d8 d9 (Value.mk e0 e3 e4 (Sl.mk e5 e6) (Sl.mk e7 e8) e9 f0 f1) f2 f3 (Sl.mk f4 f5) f6 f7))
     else none
   ).bind fun (q : (List Inst)) =>
    match q with
    | g12 =>
     some (true, none, g12)
  | some _ => none
noncomputable def rG (fu : Nat) (a : List Inst) : ((Option X.Ex) × (List Inst) × Int) → Option (((Option X.Ex) × (List Inst) × Int) ⊕ (((Option X.Ex) × (List Inst) × Int) ⊕ ((Option X.Ex) × (List Inst) × Int)))
 | (En, Jr, i31) =>
  bif decide (i31 < (ln a)) then
   (idx a i31).bind fun ⟨b, ⟨c, d, e, ⟨f, g, h, ⟨i, j⟩, ⟨k, l⟩, m, n, o⟩⟩, ⟨p, r⟩, ⟨s, t⟩, ⟨u, v⟩, w, x, y, ⟨z, a0, a1, ⟨a2, a3⟩, ⟨a4, a5⟩, a6, a7, a8⟩, a9, b0, ⟨b1, b2⟩, b3, b4⟩ =>
    (
     bif !(b == 0) then
      match En with
      | none =>
       (Es fu (Inst.mk b (Child.mk c d e (Value.mk f g h (Sl.mk i j) (Sl.mk k l) m n o)) (Sl.mk p r) (Sl.mk s t) (Sl.mk u v) w x y (Value.mk z a0 a1 (Sl.mk a2 a3) (Sl.mk a4 a5) a6 a7 a8) a9 b0 (Sl.mk b1 b2) b3 b4) none Jr).bind fun ⟨Qe, Vv, aci⟩ =>
        some (Vv, aci, !Qe)
      | some _ => none
     else
      some (En, Jr, false)
    ).bind fun (q : (Option X.Ex) × (List Inst) × Bool) =>
     match q with
     | (Vw, Oy, i44) =>
      bif i44 then
       some (.inr (.inr (Vw, Oy, i31)))
      else
       some (.inl (Vw, Oy, dS (i31 + 1)))
  else
   some (.inr (.inl (En, Jr, i31)))
noncomputable def oZ (fu : Nat) (a : List (Sl Inst)) : ((Option X.Ex) × (List Inst) × Int) → Option (((Option X.Ex) × (List Inst) × Int) ⊕ (((Option X.Ex) × (List Inst) × Int) ⊕ ((Option X.Ex) × (List Inst) × Int)))
 | (g21, g22, i23) =>
  bif decide (i23 < (ln a)) then
   (idx a i23).bind fun ⟨b, c⟩ =>
    (wl (rG fu b) (g21, g22, 0)).bind fun q =>
     match q with
     | .inl (Qk, Ml, Sm) =>
      some (.inl (Qk, Ml, dS (i23 + 1)))
     | .inr (Ql, Kj, Vx) =>
      some (.inr (.inr (Ql, Kj, i23)))
  else
   some (.inr (.inl (g21, g22, i23)))
noncomputable def Ms (fu : Nat) (a1 : Inst) (b0 : Option X.Ex) (b2 : List Inst) : Option ((Option X.Ex) × (List Inst)) :=
 match a1 with
 | ⟨e, ⟨f, g, h, ⟨i, j, k, ⟨l, m⟩, ⟨n, o⟩, p, r, s⟩⟩, ⟨t, u⟩, ⟨v, w⟩, ⟨a, b⟩, x, y, z, ⟨a0, a2, a3, ⟨a4, a5⟩, ⟨a6, a7⟩, a8, a9, b1⟩, b3, b4, ⟨c, d⟩, b5, b6⟩ =>
  (some [(Sl.mk a b)]).bind fun l1 =>
   (Y0 fu (Inst.mk e (Child.mk f g h (Value.mk i j k (Sl.mk l m) (Sl.mk n o) p r s)) (Sl.mk t u) (Sl.mk v w) (Sl.mk a b) x y z (Value.mk a0 a2 a3 (Sl.mk a4 a5) (Sl.mk a6 a7) a8 a9 b1) b3 b4 (Sl.mk c d) b5 b6)).bind fun r4 =>
    (
     bif r4 then
      (some [(Sl.mk c d)]).bind fun l7 =>
       bif ln l7 == 0 then
        some (l1, (some []))
       else
        bif room 24 (ln (l1 ++ l7)) then
         some ((l1 ++ l7), none)
        else none
     else
      some (l1, (some []))
    ).bind fun (q : (List (Sl Inst)) × (Option (List (Sl Inst)))) =>
     match q with
     | (b7, b8) =>
      (wl (oZ fu b7) (b0, b2, 0)).bind fun q =>
       match q with
       | .inl (Qm, Kk, Sn) =>
        some (Qm, Kk)
       | .inr (RI, Kl, Sq) =>
        some (RI, Kl)
noncomputable def P15 (fu : Nat) (a0 : Inst) : Option ((Sl Inst)) :=
 match a0 with
 | ⟨a, ⟨b, c, d, ⟨e, f, g, ⟨h, i⟩, ⟨j, k⟩, l, m, n⟩⟩, ⟨o, p⟩, ⟨q, r⟩, ⟨s, t⟩, u, v, w, ⟨x, y, z, ⟨a1, a2⟩, ⟨a3, a4⟩, a5, a6, a7⟩, a8, a9, ⟨b0, b1⟩, b2, b3⟩ =>
  bif a == 0 then
   some (Sl.mk [] (some []))
  else
   (Ms fu (Inst.mk a (Child.mk b c d (Value.mk e f g (Sl.mk h i) (Sl.mk j k) l m n)) (Sl.mk o p) (Sl.mk q r) (Sl.mk s t) u v w (Value.mk x y z (Sl.mk a1 a2) (Sl.mk a3 a4) a5 a6 a7) a8 a9 (Sl.mk b0 b1) b2 b3) none ([] : List Inst)).bind fun ⟨wr5, wr6⟩ =>
    match wr5 with
    | none =>
     some (Sl.mk wr6 none)
    | _ => none
noncomputable def Et (fu : Nat) (b : List Inst) (i56 : Int) (a : List Inst) : (Bool × Int) → Option ((Bool × Int) ⊕ ((Bool × Int)))
 | (i65, i66) =>
  bif decide (i66 < (ln a)) then
   (
    bif !i65 then
     (idx a i66).bind fun ⟨c, ⟨d, e, f, ⟨g, h, i, ⟨j, k⟩, ⟨l, m⟩, n, o, p⟩⟩, ⟨r, s⟩, ⟨t, u⟩, ⟨v, w⟩, x, y, z, ⟨a0, a1, a2, ⟨a3, a4⟩, ⟨a5, a6⟩, a7, a8, a9⟩, b0, b1, ⟨b2, b3⟩, b4, b5⟩ =>
      (idx b i56).bind fun ⟨b6, ⟨b7, b8, b9, ⟨c0, c1, c2, ⟨c3, c4⟩, ⟨c5, c6⟩, c7, c8, c9⟩⟩, ⟨d0, d1⟩, ⟨d2, d3⟩, ⟨d4, d5⟩, d6, d7, d8, ⟨d9, e0, e3, ⟨e4, e5⟩, ⟨e6, e7⟩, e8, e9, f0⟩, f1, f2, ⟨f3, f4⟩, f5, f6⟩ =>
       (OB fu (Inst.mk c (Child.mk d e f (Value.mk g h i (Sl.mk j k) (Sl.mk l m) n o p)) (Sl.mk r s) (Sl.mk t u) (Sl.mk v w) x y z (Value.mk a0 a1 a2 (Sl.mk a3 a4) (Sl.mk a5 a6) a7 a8 a9) b0 b1 (Sl.mk b2 b3) b4 b5) (Inst.mk b6 (Child.mk b7 b8 b9 (Value.mk c0 c1 c2 (Sl.mk c3 c4) (Sl.mk c5 c6) c7 c8 c9)) (Sl.mk d0 d1) (Sl.mk d2 d3) (Sl.mk d4 d5) d6 d7 d8 (Value.mk d9 e0 e3 (Sl.mk e4 e5) (Sl.mk e6 e7) e8 e9 f0) f1 f2 (Sl.mk f3 f4) f5 f6)).bind fun r75 =>
        some r75
    else
     some true
   ).bind fun (q : Bool) =>
    match q with
    | i77 =>
     some (.inl (i77, dS (i66 + 1)))
  else
   some (.inr (i65, i66))
noncomputable def Eu (fu : Nat) (a : List Inst) : Int → Option (Int ⊕ (Int ⊕ Int))
 | i56 =>
  bif decide (i56 < (ln a)) then
   (idx a (dS (i56 - 1))).bind fun ⟨b, ⟨c, d, e, ⟨f, g, h, ⟨i, j⟩, ⟨k, l⟩, m, n, o⟩⟩, ⟨p, r⟩, ⟨s, t⟩, ⟨u, v⟩, w, x, y, ⟨z, a0, a1, ⟨a2, a3⟩, ⟨a4, a5⟩, a6, a7, a8⟩, a9, b0, ⟨b1, b2⟩, b3, b4⟩ =>
    (P15 fu (Inst.mk b (Child.mk c d e (Value.mk f g h (Sl.mk i j) (Sl.mk k l) m n o)) (Sl.mk p r) (Sl.mk s t) (Sl.mk u v) w x y (Value.mk z a0 a1 (Sl.mk a2 a3) (Sl.mk a4 a5) a6 a7 a8) a9 b0 (Sl.mk b1 b2) b3 b4)).bind fun ⟨b5, b6⟩ =>
     (wl (Et fu a i56 b5) (false, 0)).bind fun q =>
      match q with
      | (o80, o81) =>
       bif !o80 then
        some (.inr (.inr i56))
       else
        some (.inl (dS (i56 + 1)))
  else
   some (.inr (.inl i56))
noncomputable def Mv (fu : Nat) (c : Int) (d : ByteArray) (e : Int) (f : ByteArray) (g : Int) (h : Int) (i : ByteArray) (j : List Value) (k : Option (List Value)) (l : List Field) (m : Option (List Field)) (n : Int) (o : ByteArray) (p : Bool) (r : List Cell) (s : Option (List Cell)) (t : List Child) (u : Option (List Child)) (v : List Inst) (w : Option (List Inst)) (x : Int) (y : Bool) (z : Bool) (a0 : Int) (a1 : Int) (a2 : ByteArray) (a3 : List Value) (a4 : Option (List Value)) (a5 : List Field) (a6 : Option (List Field)) (a7 : Int) (a8 : ByteArray) (a9 : Bool) (b0 : ByteArray) (b1 : Bool) (b2 : List Inst) (b3 : Option (List Inst)) (b4 : Bool) (b5 : Bool) (a : List Inst) : Int → Option (Int ⊕ (Int ⊕ Int))
 | Kn =>
  bif decide (Kn < (ln a)) then
   (idx a Kn).bind fun ⟨f7, ⟨r9, s0, s1, ⟨s2, s3, s4, ⟨s5, s6⟩, ⟨s7, s8⟩, s9, t0, t1⟩⟩, ⟨t2, t3⟩, ⟨t4, t5⟩, ⟨t6, t7⟩, t8, t9, u0, ⟨u1, u2, u3, ⟨u4, u5⟩, ⟨u6, u7⟩, u9, v0, v1⟩, v2, v3, ⟨v4, v5⟩, v6, v7⟩ =>
    (P13 fu (Inst.mk c (Child.mk d e f (Value.mk g h i (Sl.mk j k) (Sl.mk l m) n o p)) (Sl.mk r s) (Sl.mk t u) (Sl.mk v w) x y z (Value.mk a0 a1 a2 (Sl.mk a3 a4) (Sl.mk a5 a6) a7 a8 a9) b0 b1 (Sl.mk b2 b3) b4 b5) f7).bind fun ⟨⟨b6, ⟨b7, b8, b9, ⟨c0, c1, c2, ⟨c3, c4⟩, ⟨c5, c6⟩, c7, c8, c9⟩⟩, ⟨d0, d1⟩, ⟨d2, d3⟩, ⟨d4, d5⟩, d6, d7, d8, ⟨d9, e0, e3, ⟨e4, e5⟩, ⟨e6, e7⟩, e8, e9, f0⟩, f1, f2, ⟨f3, f4⟩, f5, f6⟩, Zi⟩ =>
     (idx a Kn).bind fun ⟨f8, ⟨v8, v9, w0, ⟨w1, w2, w3, ⟨w4, w5⟩, ⟨w6, w7⟩, w8, w9, x0⟩⟩, ⟨x1, x2⟩, ⟨x3, x4⟩, ⟨x5, x6⟩, x7, x8, x9, ⟨y0, y1, y2, ⟨y3, y4⟩, ⟨y5, y6⟩, y7, y8, y9⟩, z0, z1, ⟨z2, z3⟩, z4, z5⟩ =>
      (P14 fu (Inst.mk c (Child.mk d e f (Value.mk g h i (Sl.mk j k) (Sl.mk l m) n o p)) (Sl.mk r s) (Sl.mk t u) (Sl.mk v w) x y z (Value.mk a0 a1 a2 (Sl.mk a3 a4) (Sl.mk a5 a6) a7 a8 a9) b0 b1 (Sl.mk b2 b3) b4 b5) f8).bind fun ⟨b, z6⟩ =>
       (
        bif !(!Zi) then
         (idx a Kn).bind fun ⟨f9, ⟨g0, g1, g2, ⟨g3, g4, g5, ⟨g6, g7⟩, ⟨g8, g9⟩, h0, h3, h4⟩⟩, ⟨h5, h6⟩, ⟨h7, h8⟩, ⟨h9, i0⟩, i1, i2, i3, ⟨i4, i5, i6, ⟨i7, i9⟩, ⟨j0, j1⟩, j2, j3, j4⟩, j5, j6, ⟨j7, j8⟩, j9, k0⟩ =>
          (OB fu (Inst.mk b6 (Child.mk b7 b8 b9 (Value.mk c0 c1 c2 (Sl.mk c3 c4) (Sl.mk c5 c6) c7 c8 c9)) (Sl.mk d0 d1) (Sl.mk d2 d3) (Sl.mk d4 d5) d6 d7 d8 (Value.mk d9 e0 e3 (Sl.mk e4 e5) (Sl.mk e6 e7) e8 e9 f0) f1 f2 (Sl.mk f3 f4) f5 f6) (Inst.mk f9 (Child.mk g0 g1 g2 (Value.mk g3 g4 g5 (Sl.mk g6 g7) (Sl.mk g8 g9) h0 h3 h4)) (Sl.mk h5 h6) (Sl.mk h7 h8) (Sl.mk h9 i0) i1 i2 i3 (Value.mk i4 i5 i6 (Sl.mk i7 i9) (Sl.mk j0 j1) j2 j3 j4) j5 j6 (Sl.mk j7 j8) j9 k0)).bind fun r34 =>
           bif !(!r34) then
            (P9 fu (Inst.mk b6 (Child.mk b7 b8 b9 (Value.mk c0 c1 c2 (Sl.mk c3 c4) (Sl.mk c5 c6) c7 c8 c9)) (Sl.mk d0 d1) (Sl.mk d2 d3) (Sl.mk d4 d5) d6 d7 d8 (Value.mk d9 e0 e3 (Sl.mk e4 e5) (Sl.mk e6 e7) e8 e9 f0) f1 f2 (Sl.mk f3 f4) f5 f6)).bind fun Qe =>
             bif !(!Qe) then
              bif !((ln b) == 0) then
               (idx b 0).bind fun ⟨k1, ⟨k2, k3, k4, ⟨k5, k6, k7, ⟨k8, k9⟩, ⟨l0, l1⟩, l2, l3, l4⟩⟩, ⟨l5, l6⟩, ⟨l7, l8⟩, ⟨l9, m0⟩, m1, m2, m3, ⟨m4, m5, m6, ⟨m7, m8⟩, ⟨m9, n0⟩, n1, n2, n3⟩, n4, n5, ⟨n6, n7⟩, n8, n9⟩ =>
                (OB fu (Inst.mk k1 (Child.mk k2 k3 k4 (Value.mk k5 k6 k7 (Sl.mk k8 k9) (Sl.mk l0 l1) l2 l3 l4)) (Sl.mk l5 l6) (Sl.mk l7 l8) (Sl.mk l9 m0) m1 m2 m3 (Value.mk m4 m5 m6 (Sl.mk m7 m8) (Sl.mk m9 n0) n1 n2 n3) n4 n5 (Sl.mk n6 n7) n8 n9) (Inst.mk c (Child.mk d e f (Value.mk g h i (Sl.mk j k) (Sl.mk l m) n o p)) (Sl.mk r s) (Sl.mk t u) (Sl.mk v w) x y z (Value.mk a0 a1 a2 (Sl.mk a3 a4) (Sl.mk a5 a6) a7 a8 a9) b0 b1 (Sl.mk b2 b3) b4 b5)).bind fun r45 =>
                 bif !(!r45) then
                  (idx b (dS ((ln b) - 1))).bind fun ⟨o0, ⟨o1, o2, o3, ⟨o4, o5, o6, ⟨o7, o8⟩, ⟨o9, p0⟩, p1, p2, p3⟩⟩, ⟨p4, p5⟩, ⟨p6, p7⟩, ⟨p8, p9⟩, q0, q1, q2, ⟨q3, q4, q5, ⟨q6, q7⟩, ⟨q8, q9⟩, r0, r1, r2⟩, r3, r4, ⟨r5, r6⟩, r7, r8⟩ =>
                   (OB fu (Inst.mk o0 (Child.mk o1 o2 o3 (Value.mk o4 o5 o6 (Sl.mk o7 o8) (Sl.mk o9 p0) p1 p2 p3)) (Sl.mk p4 p5) (Sl.mk p6 p7) (Sl.mk p8 p9) q0 q1 q2 (Value.mk q3 q4 q5 (Sl.mk q6 q7) (Sl.mk q8 q9) r0 r1 r2) r3 r4 (Sl.mk r5 r6) r7 r8) (Inst.mk b6 (Child.mk b7 b8 b9 (Value.mk c0 c1 c2 (Sl.mk c3 c4) (Sl.mk c5 c6) c7 c8 c9)) (Sl.mk d0 d1) (Sl.mk d2 d3) (Sl.mk d4 d5) d6 d7 d8 (Value.mk d9 e0 e3 (Sl.mk e4 e5) (Sl.mk e6 e7) e8 e9 f0) f1 f2 (Sl.mk f3 f4) f5 f6)).bind fun r52 =>
                    some (!r52)
                 else
                  some true
              else
               some true
             else
              some true
           else
            some true
        else
         some true
       ).bind fun (q : Bool) =>
        match q with
        | i54 =>
         bif i54 then
          some (.inr (.inr Kn))
         else
          (wl (Eu fu b) 1).bind fun q =>
           match q with
           | .inl o84 =>
            some (.inl (dS (Kn + (dS (1 + (dS (Int.tdiv (ln a) 5)))))))
           | .inr o85 =>
            some (.inr (.inr Kn))
  else
   some (.inr (.inl Kn))
noncomputable def P4 (fu : Nat) (a0 : Inst) : Option (Bool) :=
 match a0 with
 | ⟨a, ⟨b, c, d, ⟨e, f, g, ⟨h, i⟩, ⟨j, k⟩, l, m, n⟩⟩, ⟨o, p⟩, ⟨r, s⟩, ⟨t, u⟩, v, w, x, ⟨y, z, a1, ⟨a2, a3⟩, ⟨a4, a5⟩, a6, a7, a8⟩, a9, b0, ⟨b1, b2⟩, b3, b4⟩ =>
  (
   (P7 fu).bind fun r1 =>
    bif !(!r1) then
     (P8 fu (Inst.mk a (Child.mk b c d (Value.mk e f g (Sl.mk h i) (Sl.mk j k) l m n)) (Sl.mk o p) (Sl.mk r s) (Sl.mk t u) v w x (Value.mk y z a1 (Sl.mk a2 a3) (Sl.mk a4 a5) a6 a7 a8) a9 b0 (Sl.mk b1 b2) b3 b4)).bind fun r4 =>
      bif !r4 then
       (P9 fu (Inst.mk a (Child.mk b c d (Value.mk e f g (Sl.mk h i) (Sl.mk j k) l m n)) (Sl.mk o p) (Sl.mk r s) (Sl.mk t u) v w x (Value.mk y z a1 (Sl.mk a2 a3) (Sl.mk a4 a5) a6 a7 a8) a9 b0 (Sl.mk b1 b2) b3 b4)).bind fun r7 =>
        some (!r7)
      else
       some true
    else
     some true
  ).bind fun (q : Bool) =>
   match q with
   | i9 =>
    bif i9 then
     (P7 fu).bind fun MQ =>
      some MQ
    else
     (P10 fu (Inst.mk a (Child.mk b c d (Value.mk e f g (Sl.mk h i) (Sl.mk j k) l m n)) (Sl.mk o p) (Sl.mk r s) (Sl.mk t u) v w x (Value.mk y z a1 (Sl.mk a2 a3) (Sl.mk a4 a5) a6 a7 a8) a9 b0 (Sl.mk b1 b2) b3 b4)).bind fun ⟨b5, b6⟩ =>
      bif (5 == 0) then none else
       (wl (Mv fu a b c d e f g h i j k l m n o p r s t u v w x y z a1 a2 a3 a4 a5 a6 a7 a8 a9 b0 b1 b2 b3 b4 b5) 0).bind fun q =>
        match q with
        | .inl o88 =>
         some (decide (0 < (ln b5)))
        | .inr o91 =>
         some false
end Go.Proofs.Ytedfkehkcaaplaa
