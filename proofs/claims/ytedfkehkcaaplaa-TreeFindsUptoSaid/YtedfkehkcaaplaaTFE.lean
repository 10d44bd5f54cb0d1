/- T -/
import Derived.Test.YtedfkehkcaaplaaTFC
import Derived.Test.YtedfkehkcaaplaaXEval
namespace Go.Proofs.Ytedfkehkcaaplaa
open Go Go.X
set_option linter.unusedVariables false
set_option maxRecDepth 100000
set_option maxHeartbeats 4000000
mutual
inductive Value where
 | mk (Kind : Int) (N : Int) (S : ByteArray) (L : Sl Value) (F : Sl Field) (Elem : Int) (Key : ByteArray) (UG : Bool)
inductive Field where
 | mk (Name : ByteArray) (fV : Value)
end
mutual
inductive Expr where
 | mk (Kind : Int) (N : Int) (S : ByteArray) (Args : Sl Expr) (Names : Sl ByteArray) (aeJ : Sl Expr) (Elem : Int) (Key : Sl Expr) (aeK : Sl Act) (Site : ByteArray)
inductive Act where
 | mk (Kind : Int) (Name : ByteArray) (aa4 : Expr)
end
structure Cell where
 Kind : Int
 Name : ByteArray
 fV : Value
 Next : Value
 RH : Sl Value
 Do : Sl Act
 Undo : Sl Act
 Env : Sl Field
 Runs : Bool
 Ran : Bool
 Old : Sl Act
 Past : Sl Field
structure Child where
 Key : ByteArray
 Kind : Int
 Name : ByteArray
 fV : Value
mutual
inductive Inst where
 | mk (ID : Int) (UH : Child) (Cells : Sl Cell) (Out : Sl Child) (Kids : Sl Inst) (Node : Int) (Failed : Bool) (aa5 : Bool) (Error : Value) (Waits : ByteArray) (aa6 : Bool) (aa7 : Sl Inst) (aa8 : Bool) (Done : Bool)
end
mutual
noncomputable def dM : Value → List D
 | .mk Kind N S L F Elem Key UG => [.int .u8 Kind] ++ [.int .i64 N] ++ [.str S] ++ [fD L] ++ [eG F] ++ [.int .u8 Elem] ++ [.str Key] ++ [.bool UG]
noncomputable def gN : Field → List D
 | .mk Name fV => [.str Name] ++ dM fV
noncomputable def fD : Sl Value → D
 | .mk l x => .sl (qX l) (yR x)
noncomputable def qX : List Value → List (List D)
 | [] => []
 | v :: r => dM v :: qX r
noncomputable def yR : Option (List Value) → Option (List (List D))
 | none => none
 | some l => some (qX l)
noncomputable def eG : Sl Field → D
 | .mk l x => .sl (qY l) (yS x)
noncomputable def qY : List Field → List (List D)
 | [] => []
 | v :: r => gN v :: qY r
noncomputable def yS : Option (List Field) → Option (List (List D))
 | none => none
 | some l => some (qY l)
end
theorem iq : ∀ l, qX l = l.map dM
 | [] => rfl
 | v :: r => by rw [qX, iq r]; rfl
theorem IV : ∀ x, yR x = x.map (List.map dM)
 | none => rfl
 | some l => by rw [yR, iq]; rfl
theorem iw : ∀ l, qY l = l.map gN
 | [] => rfl
 | v :: r => by rw [qY, iw r]; rfl
theorem IW : ∀ x, yS x = x.map (List.map gN)
 | none => rfl
 | some l => by rw [yS, iw]; rfl
mutual
noncomputable def iD : Expr → List D
 | .mk Kind N S Args Names aeJ Elem Key aeK Site => [.int .u8 Kind] ++ [.int .i64 N] ++ [.str S] ++ [gy Args] ++ [.sl (Names.l.map fun y => [.str y]) (Names.x.map (List.map fun y => [.str y]))] ++ [gy aeJ] ++ [.int .u8 Elem] ++ [gy Key] ++ [gY aeK] ++ [.str Site]
noncomputable def lX : Act → List D
 | .mk Kind Name aa4 => [.int .u8 Kind] ++ [.str Name] ++ iD aa4
noncomputable def gy : Sl Expr → D
 | .mk l x => .sl (vR l) (BH x)
noncomputable def vR : List Expr → List (List D)
 | [] => []
 | v :: r => iD v :: vR r
noncomputable def BH : Option (List Expr) → Option (List (List D))
 | none => none
 | some l => some (vR l)
noncomputable def gY : Sl Act → D
 | .mk l x => .sl (zQ l) (IX x)
noncomputable def zQ : List Act → List (List D)
 | [] => []
 | v :: r => lX v :: zQ r
noncomputable def IX : Option (List Act) → Option (List (List D))
 | none => none
 | some l => some (zQ l)
end
theorem jF : ∀ l, vR l = l.map iD
 | [] => rfl
 | v :: r => by rw [vR, jF r]; rfl
theorem Lr : ∀ x, BH x = x.map (List.map iD)
 | none => rfl
 | some l => by rw [BH, jF]; rfl
theorem kS : ∀ l, zQ l = l.map lX
 | [] => rfl
 | v :: r => by rw [zQ, kS r]; rfl
theorem Ol : ∀ x, IX x = x.map (List.map lX)
 | none => rfl
 | some l => by rw [IX, kS]; rfl
noncomputable def gP : Cell → List D
 | ⟨Kind, Name, fV, Next, RH, Do, Undo, Env, Runs, Ran, Old, Past⟩ => [.int .u8 Kind] ++ [.str Name] ++ dM fV ++ dM Next ++ [fD RH] ++ [gY Do] ++ [gY Undo] ++ [eG Env] ++ [.bool Runs] ++ [.bool Ran] ++ [gY Old] ++ [eG Past]
noncomputable def dU : Child → List D
 | ⟨Key, Kind, Name, fV⟩ => [.str Key] ++ [.int .u8 Kind] ++ [.str Name] ++ dM fV
mutual
noncomputable def gG : Inst → List D
 | .mk ID UH Cells Out Kids Node Failed aa5 Error Waits aa6 aa7 aa8 Done => [.int .i64 ID] ++ dU UH ++ [.sl (Cells.l.map fun y => gP y) (Cells.x.map (List.map fun y => gP y))] ++ [.sl (Out.l.map fun y => dU y) (Out.x.map (List.map fun y => dU y))] ++ [fM Kids] ++ [.int .i64 Node] ++ [.bool Failed] ++ [.bool aa5] ++ dM Error ++ [.str Waits] ++ [.bool aa6] ++ [fM aa7] ++ [.bool aa8] ++ [.bool Done]
noncomputable def fM : Sl Inst → D
 | .mk l x => .sl (vS l) (BI x)
noncomputable def vS : List Inst → List (List D)
 | [] => []
 | v :: r => gG v :: vS r
noncomputable def BI : Option (List Inst) → Option (List (List D))
 | none => none
 | some l => some (vS l)
end
theorem iP : ∀ l, vS l = l.map gG
 | [] => rfl
 | v :: r => by rw [vS, iP r]; rfl
theorem Ls : ∀ x, BI x = x.map (List.map gG)
 | none => rfl
 | some l => by rw [BI, iP]; rfl
structure Enc where
 aJ : List Value → List (List D)
 aT : Option (List Value) → Option (List (List D))
 aG : List Field → List (List D)
 aI : Option (List Field) → Option (List (List D))
 eH : List Cell → List (List D)
 gH : Option (List Cell) → Option (List (List D))
 dF : List Act → List (List D)
 dQ : Option (List Act) → Option (List (List D))
 bL : List Expr → List (List D)
 bS : Option (List Expr) → Option (List (List D))
 iO : List ByteArray → List (List D)
 jV : Option (List ByteArray) → Option (List (List D))
 dJ : List Child → List (List D)
 eP : Option (List Child) → Option (List (List D))
 au : List Inst → List (List D)
 aD : Option (List Inst) → Option (List (List D))
 vT : List Int → List (List D)
 vU : Option (List Int) → Option (List (List D))
 qw : List Int → List (List D)
 uL : Option (List Int) → Option (List (List D))
 aR : List (Sl Inst) → List (List D)
 aX : Option (List (Sl Inst)) → Option (List (List D))
 bn : List (Int × Bool) → List (PV × PV)
 oO : List (ByteArray × Bool) → List (PV × PV)
noncomputable def fH : Enc := { aJ := qX, aT := yR, aG := qY, aI := yS, eH := List.map (fun x => gP x), gH := Option.map (List.map (fun x => gP x)), dF := zQ, dQ := IX, bL := vR, bS := BH, iO := List.map (fun x => [.str x]), jV := Option.map (List.map (fun x => [.str x])), dJ := List.map (fun x => dU x), eP := Option.map (List.map (fun x => dU x)), au := vS, aD := BI, vT := List.map (fun x => [.int .i64 x]), vU := Option.map (List.map (fun x => [.int .i64 x])), qw := List.map (fun x => [.int .u8 x]), uL := Option.map (List.map (fun x => [.int .u8 x])), aR := List.map (fun x => [fM x]), aX := Option.map (List.map (fun x => [fM x])), bn := List.map (fun p => ((.d (.int .i64 p.1)), (.d (.bool p.2)))), oO := List.map (fun p => ((.d (.str p.1)), (.d (.bool p.2)))) }
def Dw (E : Enc) : Value → List D
 | ⟨x_a, yT, Lu, ⟨uM, uN⟩, ⟨oP, oQ⟩, x_f, Lx, UJ⟩ => [.int .u8 x_a, .int .i64 yT, .str Lu, .sl (E.aJ uM) (E.aT uN), .sl (E.aG oP) (E.aI oQ), .int .u8 x_f, .str Lx, .bool UJ]
theorem bE {E : Enc} (hE : fH = E) : nM E.aJ E.aT (Dw E) 8 := by
 subst hE
 have hc : ∀ x, dM x = Dw fH x := fun x => by obtain ⟨x_a, yT, Lu, ⟨uM, uN⟩, ⟨oP, oQ⟩, x_f, Lx, UJ⟩ := x; first | rfl | (simp only [dM, gN, gP, iD, lX, dU, gG, eG, gY, fM, fD, gy, Dw]; rfl)
 refine ⟨fun l => ?_, fun x => ?_, fun x => ?_⟩
 ·exact (iq l).trans (congrArg (fun f => List.map f l) (funext hc))
 ·exact (IV x).trans (by rw [← funext iq]; rfl)
 ·obtain ⟨x_a, yT, Lu, ⟨uM, uN⟩, ⟨oP, oQ⟩, x_f, Lx, UJ⟩ := x; rfl
def Dx (E : Enc) : Field → List D
 | ⟨x_a, ⟨Dy, Dz, DC, ⟨LA, LB⟩, ⟨LC, LD⟩, UK, UL, UM⟩⟩ => [.str x_a, .int .u8 Dy, .int .i64 Dz, .str DC, .sl (E.aJ LA) (E.aT LB), .sl (E.aG LC) (E.aI LD), .int .u8 UK, .str UL, .bool UM]
theorem bF {E : Enc} (hE : fH = E) : nM E.aG E.aI (Dx E) 9 := by
 subst hE
 have hc : ∀ x, gN x = Dx fH x := fun x => by obtain ⟨x_a, ⟨Dy, Dz, DC, ⟨LA, LB⟩, ⟨LC, LD⟩, UK, UL, UM⟩⟩ := x; first | rfl | (simp only [dM, gN, gP, iD, lX, dU, gG, eG, gY, fM, fD, gy, Dx]; rfl)
 refine ⟨fun l => ?_, fun x => ?_, fun x => ?_⟩
 ·exact (iw l).trans (congrArg (fun f => List.map f l) (funext hc))
 ·exact (IW x).trans (by rw [← funext iw]; rfl)
 ·obtain ⟨x_a, ⟨Dy, Dz, DC, ⟨LA, LB⟩, ⟨LC, LD⟩, UK, UL, UM⟩⟩ := x; rfl
def IY (E : Enc) : Cell → List D
 | ⟨x_a, yT, ⟨DF, DI, DJ, ⟨uO, uP⟩, ⟨uQ, uR⟩, UN, DK, UO⟩, ⟨DL, DN, DR, ⟨uS, uT⟩, ⟨uU, uV⟩, DT, DU, DV⟩, ⟨oP, oQ⟩, ⟨DW, DX⟩, ⟨UQ, UR⟩, ⟨DY, DZ⟩, x_i, LG, ⟨UU, UW⟩, ⟨D5, D6⟩⟩ => [.int .u8 x_a, .str yT, .int .u8 DF, .int .i64 DI, .str DJ, .sl (E.aJ uO) (E.aT uP), .sl (E.aG uQ) (E.aI uR), .int .u8 UN, .str DK, .bool UO, .int .u8 DL, .int .i64 DN, .str DR, .sl (E.aJ uS) (E.aT uT), .sl (E.aG uU) (E.aI uV), .int .u8 DT, .str DU, .bool DV, .sl (E.aJ oP) (E.aT oQ), .sl (E.dF DW) (E.dQ DX), .sl (E.dF UQ) (E.dQ UR), .sl (E.aG DY) (E.aI DZ), .bool x_i, .bool LG, .sl (E.dF UU) (E.dQ UW), .sl (E.aG D5) (E.aI D6)]
theorem cu {E : Enc} (hE : fH = E) : nM E.eH E.gH (IY E) 26 := by
 subst hE
 have hc : ∀ x, gP x = IY fH x := fun x => by obtain ⟨x_a, yT, ⟨DF, DI, DJ, ⟨uO, uP⟩, ⟨uQ, uR⟩, UN, DK, UO⟩, ⟨DL, DN, DR, ⟨uS, uT⟩, ⟨uU, uV⟩, DT, DU, DV⟩, ⟨oP, oQ⟩, ⟨DW, DX⟩, ⟨UQ, UR⟩, ⟨DY, DZ⟩, x_i, LG, ⟨UU, UW⟩, ⟨D5, D6⟩⟩ := x; first | rfl | (simp only [dM, gN, gP, iD, lX, dU, gG, eG, gY, fM, fD, gy, IY]; rfl)
 refine ⟨fun l => ?_, fun x => ?_, fun x => ?_⟩
 ·exact congrArg (fun f => List.map f l) (funext hc)
 ·rfl
 ·obtain ⟨x_a, yT, ⟨DF, DI, DJ, ⟨uO, uP⟩, ⟨uQ, uR⟩, UN, DK, UO⟩, ⟨DL, DN, DR, ⟨uS, uT⟩, ⟨uU, uV⟩, DT, DU, DV⟩, ⟨oP, oQ⟩, ⟨DW, DX⟩, ⟨UQ, UR⟩, ⟨DY, DZ⟩, x_i, LG, ⟨UU, UW⟩, ⟨D5, D6⟩⟩ := x; rfl
def Oo (E : Enc) : Act → List D
 | ⟨x_a, yT, ⟨DF, DI, DJ, ⟨uO, uP⟩, ⟨uQ, uR⟩, ⟨LH, LJ⟩, DK, ⟨LK, LM⟩, ⟨LP, LQ⟩, UY⟩⟩ => [.int .u8 x_a, .str yT, .int .u8 DF, .int .i64 DI, .str DJ, .sl (E.bL uO) (E.bS uP), .sl (E.iO uQ) (E.jV uR), .sl (E.bL LH) (E.bS LJ), .int .u8 DK, .sl (E.bL LK) (E.bS LM), .sl (E.dF LP) (E.dQ LQ), .str UY]
theorem dR {E : Enc} (hE : fH = E) : nM E.dF E.dQ (Oo E) 12 := by
 subst hE
 have hc : ∀ x, lX x = Oo fH x := fun x => by obtain ⟨x_a, yT, ⟨DF, DI, DJ, ⟨uO, uP⟩, ⟨uQ, uR⟩, ⟨LH, LJ⟩, DK, ⟨LK, LM⟩, ⟨LP, LQ⟩, UY⟩⟩ := x; first | rfl | (simp only [dM, gN, gP, iD, lX, dU, gG, eG, gY, fM, fD, gy, Oo]; rfl)
 refine ⟨fun l => ?_, fun x => ?_, fun x => ?_⟩
 ·exact (kS l).trans (congrArg (fun f => List.map f l) (funext hc))
 ·exact (Ol x).trans (by rw [← funext kS]; rfl)
 ·obtain ⟨x_a, yT, ⟨DF, DI, DJ, ⟨uO, uP⟩, ⟨uQ, uR⟩, ⟨LH, LJ⟩, DK, ⟨LK, LM⟩, ⟨LP, LQ⟩, UY⟩⟩ := x; rfl
def IZ (E : Enc) : Expr → List D
 | ⟨x_a, yT, Lu, ⟨uM, uN⟩, ⟨oP, oQ⟩, ⟨DW, DX⟩, Lx, ⟨DY, DZ⟩, ⟨UZ, Va⟩, LG⟩ => [.int .u8 x_a, .int .i64 yT, .str Lu, .sl (E.bL uM) (E.bS uN), .sl (E.iO oP) (E.jV oQ), .sl (E.bL DW) (E.bS DX), .int .u8 Lx, .sl (E.bL DY) (E.bS DZ), .sl (E.dF UZ) (E.dQ Va), .str LG]
theorem cO {E : Enc} (hE : fH = E) : nM E.bL E.bS (IZ E) 10 := by
 subst hE
 have hc : ∀ x, iD x = IZ fH x := fun x => by obtain ⟨x_a, yT, Lu, ⟨uM, uN⟩, ⟨oP, oQ⟩, ⟨DW, DX⟩, Lx, ⟨DY, DZ⟩, ⟨UZ, Va⟩, LG⟩ := x; first | rfl | (simp only [dM, gN, gP, iD, lX, dU, gG, eG, gY, fM, fD, gy, IZ]; rfl)
 refine ⟨fun l => ?_, fun x => ?_, fun x => ?_⟩
 ·exact (jF l).trans (congrArg (fun f => List.map f l) (funext hc))
 ·exact (Lr x).trans (by rw [← funext jF]; rfl)
 ·obtain ⟨x_a, yT, Lu, ⟨uM, uN⟩, ⟨oP, oQ⟩, ⟨DW, DX⟩, Lx, ⟨DY, DZ⟩, ⟨UZ, Va⟩, LG⟩ := x; rfl
def Oq (E : Enc) : ByteArray → List D
 | x => [.str x]
theorem fI {E : Enc} (hE : fH = E) : nM E.iO E.jV (Oq E) 1 := by
 subst hE
 have hc : ∀ x, [.str x] = Oq fH x := fun x => by first | rfl | (simp only [dM, gN, gP, iD, lX, dU, gG, eG, gY, fM, fD, gy, Oq]; rfl)
 refine ⟨fun l => ?_, fun x => ?_, fun x => ?_⟩
 ·exact congrArg (fun f => List.map f l) (funext hc)
 ·rfl
 ·rfl
def D7 (E : Enc) : Child → List D
 | ⟨x_a, yT, Lu, ⟨DL, DN, DR, ⟨uS, uT⟩, ⟨uU, uV⟩, DT, DU, DV⟩⟩ => [.str x_a, .int .u8 yT, .str Lu, .int .u8 DL, .int .i64 DN, .str DR, .sl (E.aJ uS) (E.aT uT), .sl (E.aG uU) (E.aI uV), .int .u8 DT, .str DU, .bool DV]
theorem bM {E : Enc} (hE : fH = E) : nM E.dJ E.eP (D7 E) 11 := by
 subst hE
 have hc : ∀ x, dU x = D7 fH x := fun x => by obtain ⟨x_a, yT, Lu, ⟨DL, DN, DR, ⟨uS, uT⟩, ⟨uU, uV⟩, DT, DU, DV⟩⟩ := x; first | rfl | (simp only [dM, gN, gP, iD, lX, dU, gG, eG, gY, fM, fD, gy, D7]; rfl)
 refine ⟨fun l => ?_, fun x => ?_, fun x => ?_⟩
 ·exact congrArg (fun f => List.map f l) (funext hc)
 ·rfl
 ·obtain ⟨x_a, yT, Lu, ⟨DL, DN, DR, ⟨uS, uT⟩, ⟨uU, uV⟩, DT, DU, DV⟩⟩ := x; rfl
def eT (E : Enc) : Inst → List D
 | ⟨x_a, ⟨Dy, Dz, DC, ⟨LU, LV, LW, ⟨D8, D9⟩, ⟨Ea, Eb⟩, LX, LY, LZ⟩⟩, ⟨Vb, Vd⟩, ⟨uM, uN⟩, ⟨oP, oQ⟩, x_f, Lx, UJ, ⟨Ve, Vf, Vg, ⟨Ma, Mc⟩, ⟨Md, Me⟩, Vh, Vi, Vj⟩, LG, x_k, ⟨D5, D6⟩, x_n, x_o⟩ => [.int .i64 x_a, .str Dy, .int .u8 Dz, .str DC, .int .u8 LU, .int .i64 LV, .str LW, .sl (E.aJ D8) (E.aT D9), .sl (E.aG Ea) (E.aI Eb), .int .u8 LX, .str LY, .bool LZ, .sl (E.eH Vb) (E.gH Vd), .sl (E.dJ uM) (E.eP uN), .sl (E.au oP) (E.aD oQ), .int .i64 x_f, .bool Lx, .bool UJ, .int .u8 Ve, .int .i64 Vf, .str Vg, .sl (E.aJ Ma) (E.aT Mc), .sl (E.aG Md) (E.aI Me), .int .u8 Vh, .str Vi, .bool Vj, .str LG, .bool x_k, .sl (E.au D5) (E.aD D6), .bool x_n, .bool x_o]
theorem ak {E : Enc} (hE : fH = E) : nM E.au E.aD (eT E) 31 := by
 subst hE
 have hc : ∀ x, gG x = eT fH x := fun x => by obtain ⟨x_a, ⟨Dy, Dz, DC, ⟨LU, LV, LW, ⟨D8, D9⟩, ⟨Ea, Eb⟩, LX, LY, LZ⟩⟩, ⟨Vb, Vd⟩, ⟨uM, uN⟩, ⟨oP, oQ⟩, x_f, Lx, UJ, ⟨Ve, Vf, Vg, ⟨Ma, Mc⟩, ⟨Md, Me⟩, Vh, Vi, Vj⟩, LG, x_k, ⟨D5, D6⟩, x_n, x_o⟩ := x; first | rfl | (simp only [dM, gN, gP, iD, lX, dU, gG, eG, gY, fM, fD, gy, eT]; rfl)
 refine ⟨fun l => ?_, fun x => ?_, fun x => ?_⟩
 ·exact (iP l).trans (congrArg (fun f => List.map f l) (funext hc))
 ·exact (Ls x).trans (by rw [← funext iP]; rfl)
 ·obtain ⟨x_a, ⟨Dy, Dz, DC, ⟨LU, LV, LW, ⟨D8, D9⟩, ⟨Ea, Eb⟩, LX, LY, LZ⟩⟩, ⟨Vb, Vd⟩, ⟨uM, uN⟩, ⟨oP, oQ⟩, x_f, Lx, UJ, ⟨Ve, Vf, Vg, ⟨Ma, Mc⟩, ⟨Md, Me⟩, Vh, Vi, Vj⟩, LG, x_k, ⟨D5, D6⟩, x_n, x_o⟩ := x; rfl
def Ec (E : Enc) : Int → List D
 | x => [.int .i64 x]
theorem Ed {E : Enc} (hE : fH = E) : nM E.vT E.vU (Ec E) 1 := by
 subst hE
 have hc : ∀ x, [.int .i64 x] = Ec fH x := fun x => by first | rfl | (simp only [dM, gN, gP, iD, lX, dU, gG, eG, gY, fM, fD, gy, Ec]; rfl)
 refine ⟨fun l => ?_, fun x => ?_, fun x => ?_⟩
 ·exact congrArg (fun f => List.map f l) (funext hc)
 ·rfl
 ·rfl
def Ja (E : Enc) : Int → List D
 | x => [.int .u8 x]
theorem Jb {E : Enc} (hE : fH = E) : nM E.qw E.uL (Ja E) 1 := by
 subst hE
 have hc : ∀ x, [.int .u8 x] = Ja fH x := fun x => by first | rfl | (simp only [dM, gN, gP, iD, lX, dU, gG, eG, gY, fM, fD, gy, Ja]; rfl)
 refine ⟨fun l => ?_, fun x => ?_, fun x => ?_⟩
 ·exact congrArg (fun f => List.map f l) (funext hc)
 ·rfl
 ·rfl
def wZ (E : Enc) : (Sl Inst) → List D
 | ⟨x_l, x_x⟩ => [.sl (E.au x_l) (E.aD x_x)]
theorem bI {E : Enc} (hE : fH = E) : nM E.aR E.aX (wZ E) 1 := by
 subst hE
 have hc : ∀ x, [fM x] = wZ fH x := fun x => by obtain ⟨x_l, x_x⟩ := x; first | rfl | (simp only [dM, gN, gP, iD, lX, dU, gG, eG, gY, fM, fD, gy, wZ]; rfl)
 refine ⟨fun l => ?_, fun x => ?_, fun x => ?_⟩
 ·exact congrArg (fun f => List.map f l) (funext hc)
 ·rfl
 ·obtain ⟨x_l, x_x⟩ := x; rfl
def E8 (E : Enc) : Bool → PV
 | x => .d (.bool x)
def E9 : Int → PV
 | x => .d (.int .i64 x)
theorem mY {E : Enc} (hE : fH = E) : Oe E.bn E9 (E8 E) := by
 subst hE
 refine ⟨fun l => ?_, fun x y => ?_⟩
 ·show List.map _ l = List.map _ l
  congr 1
 ·rfl
def Mf (E : Enc) : Bool → PV
 | x => .d (.bool x)
def Mg : ByteArray → PV
 | x => .d (.str x)
theorem uW {E : Enc} (hE : fH = E) : Oe E.oO Mg (Mf E) := by
 subst hE
 refine ⟨fun l => ?_, fun x y => ?_⟩
 ·show List.map _ l = List.map _ l
  congr 1
 ·rfl
def bX (E : Enc) : Value → PV
 | ⟨x_a, yT, Lu, ⟨uM, uN⟩, ⟨oP, oQ⟩, x_f, Lx, UJ⟩ => .agg [.d (.int .u8 x_a), .d (.int .i64 yT), .d (.str Lu), .d (.sl (E.aJ uM) (E.aT uN)), .d (.sl (E.aG oP) (E.aI oQ)), .d (.int .u8 x_f), .d (.str Lx), .d (.bool UJ)]
def oU (E : Enc) : Child → PV
 | ⟨x_a, yT, Lu, ⟨DL, DN, DR, ⟨uS, uT⟩, ⟨uU, uV⟩, DT, DU, DV⟩⟩ => .agg [.d (.str x_a), .d (.int .u8 yT), .d (.str Lu), .d (.int .u8 DL), .d (.int .i64 DN), .d (.str DR), .d (.sl (E.aJ uS) (E.aT uT)), .d (.sl (E.aG uU) (E.aI uV)), .d (.int .u8 DT), .d (.str DU), .d (.bool DV)]
def bg (E : Enc) : Inst → PV
 | ⟨x_a, ⟨Dy, Dz, DC, ⟨LU, LV, LW, ⟨D8, D9⟩, ⟨Ea, Eb⟩, LX, LY, LZ⟩⟩, ⟨Vb, Vd⟩, ⟨uM, uN⟩, ⟨oP, oQ⟩, x_f, Lx, UJ, ⟨Ve, Vf, Vg, ⟨Ma, Mc⟩, ⟨Md, Me⟩, Vh, Vi, Vj⟩, LG, x_k, ⟨D5, D6⟩, x_n, x_o⟩ => .agg [.d (.int .i64 x_a), .d (.str Dy), .d (.int .u8 Dz), .d (.str DC), .d (.int .u8 LU), .d (.int .i64 LV), .d (.str LW), .d (.sl (E.aJ D8) (E.aT D9)), .d (.sl (E.aG Ea) (E.aI Eb)), .d (.int .u8 LX), .d (.str LY), .d (.bool LZ), .d (.sl (E.eH Vb) (E.gH Vd)), .d (.sl (E.dJ uM) (E.eP uN)), .d (.sl (E.au oP) (E.aD oQ)), .d (.int .i64 x_f), .d (.bool Lx), .d (.bool UJ), .d (.int .u8 Ve), .d (.int .i64 Vf), .d (.str Vg), .d (.sl (E.aJ Ma) (E.aT Mc)), .d (.sl (E.aG Md) (E.aI Me)), .d (.int .u8 Vh), .d (.str Vi), .d (.bool Vj), .d (.str LG), .d (.bool x_k), .d (.sl (E.au D5) (E.aD D6)), .d (.bool x_n), .d (.bool x_o)]
def sM (E : Enc) : Cell → PV
 | ⟨x_a, yT, ⟨DF, DI, DJ, ⟨uO, uP⟩, ⟨uQ, uR⟩, UN, DK, UO⟩, ⟨DL, DN, DR, ⟨uS, uT⟩, ⟨uU, uV⟩, DT, DU, DV⟩, ⟨oP, oQ⟩, ⟨DW, DX⟩, ⟨UQ, UR⟩, ⟨DY, DZ⟩, x_i, LG, ⟨UU, UW⟩, ⟨D5, D6⟩⟩ => .agg [.d (.int .u8 x_a), .d (.str yT), .d (.int .u8 DF), .d (.int .i64 DI), .d (.str DJ), .d (.sl (E.aJ uO) (E.aT uP)), .d (.sl (E.aG uQ) (E.aI uR)), .d (.int .u8 UN), .d (.str DK), .d (.bool UO), .d (.int .u8 DL), .d (.int .i64 DN), .d (.str DR), .d (.sl (E.aJ uS) (E.aT uT)), .d (.sl (E.aG uU) (E.aI uV)), .d (.int .u8 DT), .d (.str DU), .d (.bool DV), .d (.sl (E.aJ oP) (E.aT oQ)), .d (.sl (E.dF DW) (E.dQ DX)), .d (.sl (E.dF UQ) (E.dQ UR)), .d (.sl (E.aG DY) (E.aI DZ)), .d (.bool x_i), .d (.bool LG), .d (.sl (E.dF UU) (E.dQ UW)), .d (.sl (E.aG D5) (E.aI D6))]
def dO (E : Enc) : Field → PV
 | ⟨x_a, ⟨Dy, Dz, DC, ⟨LA, LB⟩, ⟨LC, LD⟩, UK, UL, UM⟩⟩ => .agg [.d (.str x_a), .d (.int .u8 Dy), .d (.int .i64 Dz), .d (.str DC), .d (.sl (E.aJ LA) (E.aT LB)), .d (.sl (E.aG LC) (E.aI LD)), .d (.int .u8 UK), .d (.str UL), .d (.bool UM)]
def iy (E : Enc) : Expr → PV
 | ⟨x_a, yT, Lu, ⟨uM, uN⟩, ⟨oP, oQ⟩, ⟨DW, DX⟩, Lx, ⟨DY, DZ⟩, ⟨UZ, Va⟩, LG⟩ => .agg [.d (.int .u8 x_a), .d (.int .i64 yT), .d (.str Lu), .d (.sl (E.bL uM) (E.bS uN)), .d (.sl (E.iO oP) (E.jV oQ)), .d (.sl (E.bL DW) (E.bS DX)), .d (.int .u8 Lx), .d (.sl (E.bL DY) (E.bS DZ)), .d (.sl (E.dF UZ) (E.dQ Va)), .d (.str LG)]
def jG (E : Enc) : Act → PV
 | ⟨x_a, yT, ⟨DF, DI, DJ, ⟨uO, uP⟩, ⟨uQ, uR⟩, ⟨LH, LJ⟩, DK, ⟨LK, LM⟩, ⟨LP, LQ⟩, UY⟩⟩ => .agg [.d (.int .u8 x_a), .d (.str yT), .d (.int .u8 DF), .d (.int .i64 DI), .d (.str DJ), .d (.sl (E.bL uO) (E.bS uP)), .d (.sl (E.iO uQ) (E.jV uR)), .d (.sl (E.bL LH) (E.bS LJ)), .d (.int .u8 DK), .d (.sl (E.bL LK) (E.bS LM)), .d (.sl (E.dF LP) (E.dQ LQ)), .d (.str UY)]
def wD (E : Enc) : Int → List PV
 | x => [.d (.int .u8 x)]
def qZ (E : Enc) : Sl Inst → List PV
 | ⟨x_l, x_x⟩ => [.d (.sl (E.au x_l) (E.aD x_x))]
noncomputable def S : X.Sys := { fn := yN [(4, Try.f4), (8, Try.f8), (9, Try.f9), (10, Try.f10), (12, Try.f12), (13, Try.f13), (14, Try.f14), (15, Try.f15), (16, Try.f16), (23, Try.f23), (24, Try.f24), (25, Try.f25), (26, Try.f26), (27, Try.f27), (28, Try.f28), (29, Try.f29), (30, Try.f30), (31, Try.f31), (32, Try.f32), (34, Try.f34), (36, Try.f36), (37, Try.f37), (38, Try.f38), (39, Try.f39), (40, Try.f40), (41, Try.f41), (42, Try.f42), (43, Try.f43), (44, Try.f44), (45, Try.f45), (46, Try.f46), (47, Try.f47), (48, Try.f48), (49, Try.f49), (57, Try.f57), (58, Try.f58), (59, Try.f59), (60, Try.f60), (61, Try.f61), (62, Try.f62), (63, Try.f63), (64, Try.f64), (65, Try.f65), (66, Try.f66), (67, Try.f67), (68, Try.f68), (69, Try.f69), (70, Try.f70), (71, Try.f71), (72, Try.f72), (73, Try.f73), (82, Try.f82), (83, Try.f83), (84, Try.f84), (85, Try.f85), (86, Try.f86), (87, Try.f87), (88, Try.f88), (89, Try.f89), (90, Try.f90), (91, Try.f91), (92, Try.f92), (93, Try.f93), (94, Try.f94), (97, Try.f97), (102, Try.f102), (103, Try.f103), (104, Try.f104), (105, Try.f105), (106, Try.f106), (107, Try.f107), (108, Try.f108), (109, Try.f109), (111, Try.f111), (113, Try.f113), (115, Try.f115), (116, Try.f116), (117, Try.f117), (118, Try.f118), (119, Try.f119), (120, Try.f120), (123, Try.f123), (124, Try.f124), (125, Try.f125), (126, Try.f126), (127, Try.f127), (128, Try.f128), (131, Try.f131), (132, Try.f132)], tab := tab, foreign := fG [(7, IK (.d (.bool true)))] }
end Go.Proofs.Ytedfkehkcaaplaa
