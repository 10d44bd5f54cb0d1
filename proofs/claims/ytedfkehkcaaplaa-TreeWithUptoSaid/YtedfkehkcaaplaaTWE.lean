/- Plain data, and how it lies in cells: printed by a small program. -/
import Derived.Test.YtedfkehkcaaplaaTWC
import Derived.Test.YtedfkehkcaaplaaXEval
namespace Go.Proofs.Ytedfkehkcaaplaa
open Go Go.X
set_option linter.unusedVariables false
set_option linter.unusedSimpArgs false
set_option maxRecDepth 100000
mutual
inductive Value where
 | mk (Kind : Int) (N : Int) (S : ByteArray) (L : Sl Value) (F : Sl Field) (Elem : Int) (Key : ByteArray) (ahL : Bool)
inductive Field where
 | mk (Name : ByteArray) (jN : Value)
end
mutual
inductive Expr where
 | mk (Kind : Int) (N : Int) (S : ByteArray) (Args : Sl Expr) (Names : Sl ByteArray) (awh : Sl Expr) (Elem : Int) (Key : Sl Expr) (awi : Sl Act) (Site : ByteArray)
inductive Act where
 | mk (Kind : Int) (Name : ByteArray) (aoZ : Expr)
end
structure Cell where
 Kind : Int
 Name : ByteArray
 jN : Value
 Next : Value
 afP : Sl Value
 Do : Sl Act
 Undo : Sl Act
 Env : Sl Field
 Runs : Bool
 Ran : Bool
 Old : Sl Act
 Past : Sl Field
structure Child where
 Key : ByteArray
 Kind : Int
 Name : ByteArray
 jN : Value
mutual
inductive Inst where
 | mk (ID : Int) (ahM : Child) (Cells : Sl Cell) (Out : Sl Child) (Kids : Sl Inst) (Node : Int) (Failed : Bool) (ao0 : Bool) (Error : Value) (Waits : ByteArray) (ao1 : Bool) (ao2 : Sl Inst) (ao3 : Bool) (Done : Bool)
end
mutual
noncomputable def fK : Value → List D
 | .mk Kind N S L F Elem Key ahL => [.int .u8 Kind] ++ [.int .i64 N] ++ [.str S] ++ [iI L] ++ [gU F] ++ [.int .u8 Elem] ++ [.str Key] ++ [.bool ahL]
noncomputable def jY : Field → List D
 | .mk Name jN => [.str Name] ++ fK jN
noncomputable def iI : Sl Value → D
 | .mk l x => .sl (zx l) (Je x)
noncomputable def zx : List Value → List (List D)
 | [] => []
 | v :: r => fK v :: zx r
noncomputable def Je : Option (List Value) → Option (List (List D))
 | none => none
 | some l => some (zx l)
noncomputable def gU : Sl Field → D
 | .mk l x => .sl (zy l) (Jf x)
noncomputable def zy : List Field → List (List D)
 | [] => []
 | v :: r => jY v :: zy r
noncomputable def Jf : Option (List Field) → Option (List (List D))
 | none => none
 | some l => some (zy l)
end
theorem kN : ∀ l, zx l = l.map fK
 | [] => rfl
 | v :: r => by rw [zx, kN r]; rfl
theorem U4 : ∀ x, Je x = x.map (List.map fK)
 | none => rfl
 | some l => by rw [Je, kN]; rfl
theorem kP : ∀ l, zy l = l.map jY
 | [] => rfl
 | v :: r => by rw [zy, kP r]; rfl
theorem U5 : ∀ x, Jf x = x.map (List.map jY)
 | none => rfl
 | some l => by rw [Jf, kP]; rfl
mutual
noncomputable def lq : Expr → List D
 | .mk Kind N S Args Names awh Elem Key awi Site => [.int .u8 Kind] ++ [.int .i64 N] ++ [.str S] ++ [jK Args] ++ [.sl (Names.l.map fun y => [.str y]) (Names.x.map (List.map fun y => [.str y]))] ++ [jK awh] ++ [.int .u8 Elem] ++ [jK Key] ++ [kG awi] ++ [.str Site]
noncomputable def qC : Act → List D
 | .mk Kind Name aoZ => [.int .u8 Kind] ++ [.str Name] ++ lq aoZ
noncomputable def jK : Sl Expr → D
 | .mk l x => .sl (Fg l) (ML x)
noncomputable def Fg : List Expr → List (List D)
 | [] => []
 | v :: r => lq v :: Fg r
noncomputable def ML : Option (List Expr) → Option (List (List D))
 | none => none
 | some l => some (Fg l)
noncomputable def kG : Sl Act → D
 | .mk l x => .sl (K4 l) (U6 x)
noncomputable def K4 : List Act → List (List D)
 | [] => []
 | v :: r => qC v :: K4 r
noncomputable def U6 : Option (List Act) → Option (List (List D))
 | none => none
 | some l => some (K4 l)
end
theorem nT : ∀ l, Fg l = l.map lq
 | [] => rfl
 | v :: r => by rw [Fg, nT r]; rfl
theorem Yj : ∀ x, ML x = x.map (List.map lq)
 | none => rfl
 | some l => by rw [ML, nT]; rfl
theorem pG : ∀ l, K4 l = l.map qC
 | [] => rfl
 | v :: r => by rw [K4, pG r]; rfl
theorem abf : ∀ x, U6 x = x.map (List.map qC)
 | none => rfl
 | some l => by rw [U6, pG]; rfl
noncomputable def jZ : Cell → List D
 | ⟨Kind, Name, jN, Next, afP, Do, Undo, Env, Runs, Ran, Old, Past⟩ => [.int .u8 Kind] ++ [.str Name] ++ fK jN ++ fK Next ++ [iI afP] ++ [kG Do] ++ [kG Undo] ++ [gU Env] ++ [.bool Runs] ++ [.bool Ran] ++ [kG Old] ++ [gU Past]
noncomputable def fZ : Child → List D
 | ⟨Key, Kind, Name, jN⟩ => [.str Key] ++ [.int .u8 Kind] ++ [.str Name] ++ fK jN
mutual
noncomputable def jO : Inst → List D
 | .mk ID ahM Cells Out Kids Node Failed ao0 Error Waits ao1 ao2 ao3 Done => [.int .i64 ID] ++ fZ ahM ++ [.sl (Cells.l.map fun y => jZ y) (Cells.x.map (List.map fun y => jZ y))] ++ [.sl (Out.l.map fun y => fZ y) (Out.x.map (List.map fun y => fZ y))] ++ [jo Kids] ++ [.int .i64 Node] ++ [.bool Failed] ++ [.bool ao0] ++ fK Error ++ [.str Waits] ++ [.bool ao1] ++ [jo ao2] ++ [.bool ao3] ++ [.bool Done]
noncomputable def jo : Sl Inst → D
 | .mk l x => .sl (Fh l) (MN x)
noncomputable def Fh : List Inst → List (List D)
 | [] => []
 | v :: r => jO v :: Fh r
noncomputable def MN : Option (List Inst) → Option (List (List D))
 | none => none
 | some l => some (Fh l)
end
theorem mJ : ∀ l, Fh l = l.map jO
 | [] => rfl
 | v :: r => by rw [Fh, mJ r]; rfl
theorem Yk : ∀ x, MN x = x.map (List.map jO)
 | none => rfl
 | some l => by rw [MN, mJ]; rfl
structure Enc where
 bE : List Value → List (List D)
 bN : Option (List Value) → Option (List (List D))
 aO : List Field → List (List D)
 bA : Option (List Field) → Option (List (List D))
 iE : List Cell → List (List D)
 ku : Option (List Cell) → Option (List (List D))
 fD : List Act → List (List D)
 fU : Option (List Act) → Option (List (List D))
 dP : List Expr → List (List D)
 d9 : Option (List Expr) → Option (List (List D))
 mh : List ByteArray → List (List D)
 oK : Option (List ByteArray) → Option (List (List D))
 fQ : List Child → List (List D)
 iJ : Option (List Child) → Option (List (List D))
 aG : List Inst → List (List D)
 bR : Option (List Inst) → Option (List (List D))
 Fj : List Int → List (List D)
 Fp : Option (List Int) → Option (List (List D))
 yU : List Int → List (List D)
 DC : Option (List Int) → Option (List (List D))
 gN : List (Sl Inst) → List (List D)
 iy : Option (List (Sl Inst)) → Option (List (List D))
 dz : List (Int × Bool) → List (PV × PV)
 wG : List (ByteArray × Bool) → List (PV × PV)
noncomputable def iZ : Enc := { bE := zx, bN := Je, aO := zy, bA := Jf, iE := List.map (fun x => jZ x), ku := Option.map (List.map (fun x => jZ x)), fD := K4, fU := U6, dP := Fg, d9 := ML, mh := List.map (fun x => [.str x]), oK := Option.map (List.map (fun x => [.str x])), fQ := List.map (fun x => fZ x), iJ := Option.map (List.map (fun x => fZ x)), aG := Fh, bR := MN, Fj := List.map (fun x => [.int .i64 x]), Fp := Option.map (List.map (fun x => [.int .i64 x])), yU := List.map (fun x => [.int .u8 x]), DC := Option.map (List.map (fun x => [.int .u8 x])), gN := List.map (fun x => [jo x]), iy := Option.map (List.map (fun x => [jo x])), dz := List.map (fun p => ((.d (.int .i64 p.1)), (.d (.bool p.2)))), wG := List.map (fun p => ((.d (.str p.1)), (.d (.bool p.2)))) }
def OH (E : Enc) : Value → List D
 | ⟨x_a, Jg, Yl, ⟨DF, DI⟩, ⟨wH, wI⟩, x_f, Ym, x_h⟩ => [.int .u8 x_a, .int .i64 Jg, .str Yl, .sl (E.bE DF) (E.bN DI), .sl (E.aO wH) (E.bA wI), .int .u8 x_f, .str Ym, .bool x_h]
set_option maxHeartbeats 4000000 in
theorem dG {E : Enc} (hE : iZ = E) : uy E.bE E.bN (OH E) 8 := by
 subst hE
 have hc : ∀ x, fK x = OH iZ x := fun x => by obtain ⟨x_a, Jg, Yl, ⟨DF, DI⟩, ⟨wH, wI⟩, x_f, Ym, x_h⟩ := x; first | rfl | (simp only [fK, jY, jZ, lq, qC, fZ, jO, gU, kG, jo, iI, jK, OH]; rfl)
 refine ⟨fun l => ?_, fun x => ?_, fun x => ?_⟩
 ·exact (kN l).trans (congrArg (fun f => List.map f l) (funext hc))
 ·exact (U4 x).trans (by rw [← funext kN]; rfl)
 ·obtain ⟨x_a, Jg, Yl, ⟨DF, DI⟩, ⟨wH, wI⟩, x_f, Ym, x_h⟩ := x; rfl
def OI (E : Enc) : Field → List D
 | ⟨x_a, ⟨OJ, OL, OM, ⟨Yn, Yo⟩, ⟨Yp, Yq⟩, ahN, ahO, ahP⟩⟩ => [.str x_a, .int .u8 OJ, .int .i64 OL, .str OM, .sl (E.bE Yn) (E.bN Yo), .sl (E.aO Yp) (E.bA Yq), .int .u8 ahN, .str ahO, .bool ahP]
set_option maxHeartbeats 4000000 in
theorem dH {E : Enc} (hE : iZ = E) : uy E.aO E.bA (OI E) 9 := by
 subst hE
 have hc : ∀ x, jY x = OI iZ x := fun x => by obtain ⟨x_a, ⟨OJ, OL, OM, ⟨Yn, Yo⟩, ⟨Yp, Yq⟩, ahN, ahO, ahP⟩⟩ := x; first | rfl | (simp only [fK, jY, jZ, lq, qC, fZ, jO, gU, kG, jo, iI, jK, OI]; rfl)
 refine ⟨fun l => ?_, fun x => ?_, fun x => ?_⟩
 ·exact (kP l).trans (congrArg (fun f => List.map f l) (funext hc))
 ·exact (U5 x).trans (by rw [← funext kP]; rfl)
 ·obtain ⟨x_a, ⟨OJ, OL, OM, ⟨Yn, Yo⟩, ⟨Yp, Yq⟩, ahN, ahO, ahP⟩⟩ := x; rfl
def U7 (E : Enc) : Cell → List D
 | ⟨x_a, Jg, ⟨OO, OP, OQ, ⟨DJ, DK⟩, ⟨DL, DN⟩, ahQ, OT, ahR⟩, ⟨OU, OV, OW, ⟨DR, DT⟩, ⟨DU, DV⟩, OX, OY, OZ⟩, ⟨wH, wI⟩, ⟨O1, O4⟩, ⟨ahS, ahT⟩, ⟨O5, O6⟩, x_i, Yr, ⟨ahU, ahV⟩, ⟨O7, O8⟩⟩ => [.int .u8 x_a, .str Jg, .int .u8 OO, .int .i64 OP, .str OQ, .sl (E.bE DJ) (E.bN DK), .sl (E.aO DL) (E.bA DN), .int .u8 ahQ, .str OT, .bool ahR, .int .u8 OU, .int .i64 OV, .str OW, .sl (E.bE DR) (E.bN DT), .sl (E.aO DU) (E.bA DV), .int .u8 OX, .str OY, .bool OZ, .sl (E.bE wH) (E.bN wI), .sl (E.fD O1) (E.fU O4), .sl (E.fD ahS) (E.fU ahT), .sl (E.aO O5) (E.bA O6), .bool x_i, .bool Yr, .sl (E.fD ahU) (E.fU ahV), .sl (E.aO O7) (E.bA O8)]
set_option maxHeartbeats 4000000 in
theorem eP {E : Enc} (hE : iZ = E) : uy E.iE E.ku (U7 E) 26 := by
 subst hE
 have hc : ∀ x, jZ x = U7 iZ x := fun x => by obtain ⟨x_a, Jg, ⟨OO, OP, OQ, ⟨DJ, DK⟩, ⟨DL, DN⟩, ahQ, OT, ahR⟩, ⟨OU, OV, OW, ⟨DR, DT⟩, ⟨DU, DV⟩, OX, OY, OZ⟩, ⟨wH, wI⟩, ⟨O1, O4⟩, ⟨ahS, ahT⟩, ⟨O5, O6⟩, x_i, Yr, ⟨ahU, ahV⟩, ⟨O7, O8⟩⟩ := x; first | rfl | (simp only [fK, jY, jZ, lq, qC, fZ, jO, gU, kG, jo, iI, jK, U7]; rfl)
 refine ⟨fun l => ?_, fun x => ?_, fun x => ?_⟩
 ·exact congrArg (fun f => List.map f l) (funext hc)
 ·rfl
 ·obtain ⟨x_a, Jg, ⟨OO, OP, OQ, ⟨DJ, DK⟩, ⟨DL, DN⟩, ahQ, OT, ahR⟩, ⟨OU, OV, OW, ⟨DR, DT⟩, ⟨DU, DV⟩, OX, OY, OZ⟩, ⟨wH, wI⟩, ⟨O1, O4⟩, ⟨ahS, ahT⟩, ⟨O5, O6⟩, x_i, Yr, ⟨ahU, ahV⟩, ⟨O7, O8⟩⟩ := x; rfl
def abg (E : Enc) : Act → List D
 | ⟨x_a, Jg, ⟨OO, OP, OQ, ⟨DJ, DK⟩, ⟨DL, DN⟩, ⟨Yt, Yu⟩, OT, ⟨Yv, Yw⟩, ⟨Yx, Yy⟩, ahW⟩⟩ => [.int .u8 x_a, .str Jg, .int .u8 OO, .int .i64 OP, .str OQ, .sl (E.dP DJ) (E.d9 DK), .sl (E.mh DL) (E.oK DN), .sl (E.dP Yt) (E.d9 Yu), .int .u8 OT, .sl (E.dP Yv) (E.d9 Yw), .sl (E.fD Yx) (E.fU Yy), .str ahW]
set_option maxHeartbeats 4000000 in
theorem fV {E : Enc} (hE : iZ = E) : uy E.fD E.fU (abg E) 12 := by
 subst hE
 have hc : ∀ x, qC x = abg iZ x := fun x => by obtain ⟨x_a, Jg, ⟨OO, OP, OQ, ⟨DJ, DK⟩, ⟨DL, DN⟩, ⟨Yt, Yu⟩, OT, ⟨Yv, Yw⟩, ⟨Yx, Yy⟩, ahW⟩⟩ := x; first | rfl | (simp only [fK, jY, jZ, lq, qC, fZ, jO, gU, kG, jo, iI, jK, abg]; rfl)
 refine ⟨fun l => ?_, fun x => ?_, fun x => ?_⟩
 ·exact (pG l).trans (congrArg (fun f => List.map f l) (funext hc))
 ·exact (abf x).trans (by rw [← funext pG]; rfl)
 ·obtain ⟨x_a, Jg, ⟨OO, OP, OQ, ⟨DJ, DK⟩, ⟨DL, DN⟩, ⟨Yt, Yu⟩, OT, ⟨Yv, Yw⟩, ⟨Yx, Yy⟩, ahW⟩⟩ := x; rfl
def U8 (E : Enc) : Expr → List D
 | ⟨x_a, Jg, Yl, ⟨DF, DI⟩, ⟨wH, wI⟩, ⟨O1, O4⟩, Ym, ⟨O5, O6⟩, ⟨ahX, ahY⟩, Yr⟩ => [.int .u8 x_a, .int .i64 Jg, .str Yl, .sl (E.dP DF) (E.d9 DI), .sl (E.mh wH) (E.oK wI), .sl (E.dP O1) (E.d9 O4), .int .u8 Ym, .sl (E.dP O5) (E.d9 O6), .sl (E.fD ahX) (E.fU ahY), .str Yr]
set_option maxHeartbeats 4000000 in
theorem eY {E : Enc} (hE : iZ = E) : uy E.dP E.d9 (U8 E) 10 := by
 subst hE
 have hc : ∀ x, lq x = U8 iZ x := fun x => by obtain ⟨x_a, Jg, Yl, ⟨DF, DI⟩, ⟨wH, wI⟩, ⟨O1, O4⟩, Ym, ⟨O5, O6⟩, ⟨ahX, ahY⟩, Yr⟩ := x; first | rfl | (simp only [fK, jY, jZ, lq, qC, fZ, jO, gU, kG, jo, iI, jK, U8]; rfl)
 refine ⟨fun l => ?_, fun x => ?_, fun x => ?_⟩
 ·exact (nT l).trans (congrArg (fun f => List.map f l) (funext hc))
 ·exact (Yj x).trans (by rw [← funext nT]; rfl)
 ·obtain ⟨x_a, Jg, Yl, ⟨DF, DI⟩, ⟨wH, wI⟩, ⟨O1, O4⟩, Ym, ⟨O5, O6⟩, ⟨ahX, ahY⟩, Yr⟩ := x; rfl
def abh (E : Enc) : ByteArray → List D
 | x => [.str x]
set_option maxHeartbeats 4000000 in
theorem jc {E : Enc} (hE : iZ = E) : uy E.mh E.oK (abh E) 1 := by
 subst hE
 have hc : ∀ x, [.str x] = abh iZ x := fun x => by first | rfl | (simp only [fK, jY, jZ, lq, qC, fZ, jO, gU, kG, jo, iI, jK, abh]; rfl)
 refine ⟨fun l => ?_, fun x => ?_, fun x => ?_⟩
 ·exact congrArg (fun f => List.map f l) (funext hc)
 ·rfl
 ·rfl
def O9 (E : Enc) : Child → List D
 | ⟨x_a, Jg, Yl, ⟨OU, OV, OW, ⟨DR, DT⟩, ⟨DU, DV⟩, OX, OY, OZ⟩⟩ => [.str x_a, .int .u8 Jg, .str Yl, .int .u8 OU, .int .i64 OV, .str OW, .sl (E.bE DR) (E.bN DT), .sl (E.aO DU) (E.bA DV), .int .u8 OX, .str OY, .bool OZ]
set_option maxHeartbeats 4000000 in
theorem dQ {E : Enc} (hE : iZ = E) : uy E.fQ E.iJ (O9 E) 11 := by
 subst hE
 have hc : ∀ x, fZ x = O9 iZ x := fun x => by obtain ⟨x_a, Jg, Yl, ⟨OU, OV, OW, ⟨DR, DT⟩, ⟨DU, DV⟩, OX, OY, OZ⟩⟩ := x; first | rfl | (simp only [fK, jY, jZ, lq, qC, fZ, jO, gU, kG, jo, iI, jK, O9]; rfl)
 refine ⟨fun l => ?_, fun x => ?_, fun x => ?_⟩
 ·exact congrArg (fun f => List.map f l) (funext hc)
 ·rfl
 ·obtain ⟨x_a, Jg, Yl, ⟨OU, OV, OW, ⟨DR, DT⟩, ⟨DU, DV⟩, OX, OY, OZ⟩⟩ := x; rfl
def j3 (E : Enc) : Inst → List D
 | ⟨x_a, ⟨OJ, OL, OM, ⟨Yz, YA, YB, ⟨Pb, Pf⟩, ⟨Pg, Ph⟩, YC, YD, YE⟩⟩, ⟨ahZ, ah0⟩, ⟨DF, DI⟩, ⟨wH, wI⟩, x_f, Ym, x_h, ⟨ah1, ah2, ah3, ⟨YF, YG⟩, ⟨YH, YI⟩, ah4, ah5, ah6⟩, Yr, x_k, ⟨O7, O8⟩, x_n, x_o⟩ => [.int .i64 x_a, .str OJ, .int .u8 OL, .str OM, .int .u8 Yz, .int .i64 YA, .str YB, .sl (E.bE Pb) (E.bN Pf), .sl (E.aO Pg) (E.bA Ph), .int .u8 YC, .str YD, .bool YE, .sl (E.iE ahZ) (E.ku ah0), .sl (E.fQ DF) (E.iJ DI), .sl (E.aG wH) (E.bR wI), .int .i64 x_f, .bool Ym, .bool x_h, .int .u8 ah1, .int .i64 ah2, .str ah3, .sl (E.bE YF) (E.bN YG), .sl (E.aO YH) (E.bA YI), .int .u8 ah4, .str ah5, .bool ah6, .str Yr, .bool x_k, .sl (E.aG O7) (E.bR O8), .bool x_n, .bool x_o]
set_option maxHeartbeats 4000000 in
theorem aD {E : Enc} (hE : iZ = E) : uy E.aG E.bR (j3 E) 31 := by
 subst hE
 have hc : ∀ x, jO x = j3 iZ x := fun x => by obtain ⟨x_a, ⟨OJ, OL, OM, ⟨Yz, YA, YB, ⟨Pb, Pf⟩, ⟨Pg, Ph⟩, YC, YD, YE⟩⟩, ⟨ahZ, ah0⟩, ⟨DF, DI⟩, ⟨wH, wI⟩, x_f, Ym, x_h, ⟨ah1, ah2, ah3, ⟨YF, YG⟩, ⟨YH, YI⟩, ah4, ah5, ah6⟩, Yr, x_k, ⟨O7, O8⟩, x_n, x_o⟩ := x; first | rfl | (simp only [fK, jY, jZ, lq, qC, fZ, jO, gU, kG, jo, iI, jK, j3]; rfl)
 refine ⟨fun l => ?_, fun x => ?_, fun x => ?_⟩
 ·exact (mJ l).trans (congrArg (fun f => List.map f l) (funext hc))
 ·exact (Yk x).trans (by rw [← funext mJ]; rfl)
 ·obtain ⟨x_a, ⟨OJ, OL, OM, ⟨Yz, YA, YB, ⟨Pb, Pf⟩, ⟨Pg, Ph⟩, YC, YD, YE⟩⟩, ⟨ahZ, ah0⟩, ⟨DF, DI⟩, ⟨wH, wI⟩, x_f, Ym, x_h, ⟨ah1, ah2, ah3, ⟨YF, YG⟩, ⟨YH, YI⟩, ah4, ah5, ah6⟩, Yr, x_k, ⟨O7, O8⟩, x_n, x_o⟩ := x; rfl
def Pj (E : Enc) : Int → List D
 | x => [.int .i64 x]
set_option maxHeartbeats 4000000 in
theorem Pk {E : Enc} (hE : iZ = E) : uy E.Fj E.Fp (Pj E) 1 := by
 subst hE
 have hc : ∀ x, [.int .i64 x] = Pj iZ x := fun x => by first | rfl | (simp only [fK, jY, jZ, lq, qC, fZ, jO, gU, kG, jo, iI, jK, Pj]; rfl)
 refine ⟨fun l => ?_, fun x => ?_, fun x => ?_⟩
 ·exact congrArg (fun f => List.map f l) (funext hc)
 ·rfl
 ·rfl
def U9 (E : Enc) : Int → List D
 | x => [.int .u8 x]
set_option maxHeartbeats 4000000 in
theorem Va {E : Enc} (hE : iZ = E) : uy E.yU E.DC (U9 E) 1 := by
 subst hE
 have hc : ∀ x, [.int .u8 x] = U9 iZ x := fun x => by first | rfl | (simp only [fK, jY, jZ, lq, qC, fZ, jO, gU, kG, jo, iI, jK, U9]; rfl)
 refine ⟨fun l => ?_, fun x => ?_, fun x => ?_⟩
 ·exact congrArg (fun f => List.map f l) (funext hc)
 ·rfl
 ·rfl
def Gh (E : Enc) : (Sl Inst) → List D
 | ⟨x_l, x_x⟩ => [.sl (E.aG x_l) (E.bR x_x)]
set_option maxHeartbeats 4000000 in
theorem lu {E : Enc} (hE : iZ = E) : uy E.gN E.iy (Gh E) 1 := by
 subst hE
 have hc : ∀ x, [jo x] = Gh iZ x := fun x => by obtain ⟨x_l, x_x⟩ := x; first | rfl | (simp only [fK, jY, jZ, lq, qC, fZ, jO, gU, kG, jo, iI, jK, Gh]; rfl)
 refine ⟨fun l => ?_, fun x => ?_, fun x => ?_⟩
 ·exact congrArg (fun f => List.map f l) (funext hc)
 ·rfl
 ·obtain ⟨x_l, x_x⟩ := x; rfl
def Sc (E : Enc) : Bool → PV
 | x => .d (.bool x)
def Sd : Int → PV
 | x => .d (.int .i64 x)
theorem sK {E : Enc} (hE : iZ = E) : aa8 E.dz Sd (Sc E) := by
 subst hE
 refine ⟨fun l => ?_, fun x y => ?_⟩
 ·show List.map _ l = List.map _ l
  congr 1
 ·rfl
def YJ (E : Enc) : Bool → PV
 | x => .d (.bool x)
def YK : ByteArray → PV
 | x => .d (.str x)
theorem DW {E : Enc} (hE : iZ = E) : aa8 E.wG YK (YJ E) := by
 subst hE
 refine ⟨fun l => ?_, fun x y => ?_⟩
 ·show List.map _ l = List.map _ l
  congr 1
 ·rfl
def eO (E : Enc) : Value → PV
 | ⟨x_a, Jg, Yl, ⟨DF, DI⟩, ⟨wH, wI⟩, x_f, Ym, x_h⟩ => .agg [.d (.int .u8 x_a), .d (.int .i64 Jg), .d (.str Yl), .d (.sl (E.bE DF) (E.bN DI)), .d (.sl (E.aO wH) (E.bA wI)), .d (.int .u8 x_f), .d (.str Ym), .d (.bool x_h)]
def wJ (E : Enc) : Child → PV
 | ⟨x_a, Jg, Yl, ⟨OU, OV, OW, ⟨DR, DT⟩, ⟨DU, DV⟩, OX, OY, OZ⟩⟩ => .agg [.d (.str x_a), .d (.int .u8 Jg), .d (.str Yl), .d (.int .u8 OU), .d (.int .i64 OV), .d (.str OW), .d (.sl (E.bE DR) (E.bN DT)), .d (.sl (E.aO DU) (E.bA DV)), .d (.int .u8 OX), .d (.str OY), .d (.bool OZ)]
def cZ (E : Enc) : Inst → PV
 | ⟨x_a, ⟨OJ, OL, OM, ⟨Yz, YA, YB, ⟨Pb, Pf⟩, ⟨Pg, Ph⟩, YC, YD, YE⟩⟩, ⟨ahZ, ah0⟩, ⟨DF, DI⟩, ⟨wH, wI⟩, x_f, Ym, x_h, ⟨ah1, ah2, ah3, ⟨YF, YG⟩, ⟨YH, YI⟩, ah4, ah5, ah6⟩, Yr, x_k, ⟨O7, O8⟩, x_n, x_o⟩ => .agg [.d (.int .i64 x_a), .d (.str OJ), .d (.int .u8 OL), .d (.str OM), .d (.int .u8 Yz), .d (.int .i64 YA), .d (.str YB), .d (.sl (E.bE Pb) (E.bN Pf)), .d (.sl (E.aO Pg) (E.bA Ph)), .d (.int .u8 YC), .d (.str YD), .d (.bool YE), .d (.sl (E.iE ahZ) (E.ku ah0)), .d (.sl (E.fQ DF) (E.iJ DI)), .d (.sl (E.aG wH) (E.bR wI)), .d (.int .i64 x_f), .d (.bool Ym), .d (.bool x_h), .d (.int .u8 ah1), .d (.int .i64 ah2), .d (.str ah3), .d (.sl (E.bE YF) (E.bN YG)), .d (.sl (E.aO YH) (E.bA YI)), .d (.int .u8 ah4), .d (.str ah5), .d (.bool ah6), .d (.str Yr), .d (.bool x_k), .d (.sl (E.aG O7) (E.bR O8)), .d (.bool x_n), .d (.bool x_o)]
def Ap (E : Enc) : Cell → PV
 | ⟨x_a, Jg, ⟨OO, OP, OQ, ⟨DJ, DK⟩, ⟨DL, DN⟩, ahQ, OT, ahR⟩, ⟨OU, OV, OW, ⟨DR, DT⟩, ⟨DU, DV⟩, OX, OY, OZ⟩, ⟨wH, wI⟩, ⟨O1, O4⟩, ⟨ahS, ahT⟩, ⟨O5, O6⟩, x_i, Yr, ⟨ahU, ahV⟩, ⟨O7, O8⟩⟩ => .agg [.d (.int .u8 x_a), .d (.str Jg), .d (.int .u8 OO), .d (.int .i64 OP), .d (.str OQ), .d (.sl (E.bE DJ) (E.bN DK)), .d (.sl (E.aO DL) (E.bA DN)), .d (.int .u8 ahQ), .d (.str OT), .d (.bool ahR), .d (.int .u8 OU), .d (.int .i64 OV), .d (.str OW), .d (.sl (E.bE DR) (E.bN DT)), .d (.sl (E.aO DU) (E.bA DV)), .d (.int .u8 OX), .d (.str OY), .d (.bool OZ), .d (.sl (E.bE wH) (E.bN wI)), .d (.sl (E.fD O1) (E.fU O4)), .d (.sl (E.fD ahS) (E.fU ahT)), .d (.sl (E.aO O5) (E.bA O6)), .d (.bool x_i), .d (.bool Yr), .d (.sl (E.fD ahU) (E.fU ahV)), .d (.sl (E.aO O7) (E.bA O8))]
def fO (E : Enc) : Field → PV
 | ⟨x_a, ⟨OJ, OL, OM, ⟨Yn, Yo⟩, ⟨Yp, Yq⟩, ahN, ahO, ahP⟩⟩ => .agg [.d (.str x_a), .d (.int .u8 OJ), .d (.int .i64 OL), .d (.str OM), .d (.sl (E.bE Yn) (E.bN Yo)), .d (.sl (E.aO Yp) (E.bA Yq)), .d (.int .u8 ahN), .d (.str ahO), .d (.bool ahP)]
def kQ (E : Enc) : Expr → PV
 | ⟨x_a, Jg, Yl, ⟨DF, DI⟩, ⟨wH, wI⟩, ⟨O1, O4⟩, Ym, ⟨O5, O6⟩, ⟨ahX, ahY⟩, Yr⟩ => .agg [.d (.int .u8 x_a), .d (.int .i64 Jg), .d (.str Yl), .d (.sl (E.dP DF) (E.d9 DI)), .d (.sl (E.mh wH) (E.oK wI)), .d (.sl (E.dP O1) (E.d9 O4)), .d (.int .u8 Ym), .d (.sl (E.dP O5) (E.d9 O6)), .d (.sl (E.fD ahX) (E.fU ahY)), .d (.str Yr)]
def nU (E : Enc) : Act → PV
 | ⟨x_a, Jg, ⟨OO, OP, OQ, ⟨DJ, DK⟩, ⟨DL, DN⟩, ⟨Yt, Yu⟩, OT, ⟨Yv, Yw⟩, ⟨Yx, Yy⟩, ahW⟩⟩ => .agg [.d (.int .u8 x_a), .d (.str Jg), .d (.int .u8 OO), .d (.int .i64 OP), .d (.str OQ), .d (.sl (E.dP DJ) (E.d9 DK)), .d (.sl (E.mh DL) (E.oK DN)), .d (.sl (E.dP Yt) (E.d9 Yu)), .d (.int .u8 OT), .d (.sl (E.dP Yv) (E.d9 Yw)), .d (.sl (E.fD Yx) (E.fU Yy)), .d (.str ahW)]
def FJ (E : Enc) : Int → List PV
 | x => [.d (.int .u8 x)]
def Gi (E : Enc) : Bool → List PV
 | x => [.d (.bool x)]
noncomputable def S : X.Sys := { fn := Jb [(3, Try.f3), (8, Try.f8), (9, Try.f9), (10, Try.f10), (11, Try.f11), (12, Try.f12), (16, Try.f16), (23, Try.f23), (24, Try.f24), (25, Try.f25), (26, Try.f26), (27, Try.f27), (28, Try.f28), (29, Try.f29), (30, Try.f30), (31, Try.f31), (32, Try.f32), (33, Try.f33), (34, Try.f34), (35, Try.f35), (36, Try.f36), (37, Try.f37), (38, Try.f38), (39, Try.f39), (40, Try.f40), (41, Try.f41), (42, Try.f42), (44, Try.f44), (45, Try.f45), (46, Try.f46), (47, Try.f47), (48, Try.f48), (49, Try.f49), (57, Try.f57), (58, Try.f58), (59, Try.f59), (60, Try.f60), (61, Try.f61), (62, Try.f62), (63, Try.f63), (64, Try.f64), (65, Try.f65), (66, Try.f66), (67, Try.f67), (68, Try.f68), (69, Try.f69), (70, Try.f70), (71, Try.f71), (72, Try.f72), (73, Try.f73), (82, Try.f82), (83, Try.f83), (84, Try.f84), (85, Try.f85), (86, Try.f86), (87, Try.f87), (88, Try.f88), (89, Try.f89), (90, Try.f90), (91, Try.f91), (92, Try.f92), (93, Try.f93), (94, Try.f94), (97, Try.f97), (102, Try.f102), (103, Try.f103), (104, Try.f104), (105, Try.f105), (106, Try.f106), (107, Try.f107), (108, Try.f108), (109, Try.f109), (111, Try.f111), (113, Try.f113), (115, Try.f115), (116, Try.f116), (117, Try.f117), (118, Try.f118), (119, Try.f119), (120, Try.f120), (123, Try.f123), (124, Try.f124), (125, Try.f125), (126, Try.f126), (127, Try.f127), (128, Try.f128), (131, Try.f131), (132, Try.f132)], tab := tab, foreign := iY [(7, UZ (.d (.bool true)))] }
end Go.Proofs.Ytedfkehkcaaplaa
