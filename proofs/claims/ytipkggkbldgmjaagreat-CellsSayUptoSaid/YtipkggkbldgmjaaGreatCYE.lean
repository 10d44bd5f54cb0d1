/- Plain data, and how it lies in cells: printed by a small program. -/
import Derived.Test.YtipkggkbldgmjaaGreatCYC
import Derived.Test.YtipkggkbldgmjaaGreatXEval
namespace Go.Proofs.YtipkggkbldgmjaaGreat
open Go Go.X
set_option linter.unusedVariables false
set_option linter.unusedSimpArgs false
set_option maxRecDepth 100000
mutual
inductive Value where
 | mk (Kind : Int) (N : Int) (S : ByteArray) (L : Sl Value) (F : Sl Field) (Elem : Int) (Key : ByteArray) (acf : Bool)
inductive Field where
 | mk (Name : ByteArray) (lK : Value)
end
mutual
inductive Expr where
 | mk (Kind : Int) (N : Int) (S : ByteArray) (Args : Sl Expr) (Names : Sl ByteArray) (apH : Sl Expr) (Elem : Int) (Key : Sl Expr) (apI : Sl Act) (Site : ByteArray)
inductive Act where
 | mk (Kind : Int) (Name : ByteArray) (ajm : Expr)
end
structure Cell where
 Kind : Int
 Name : ByteArray
 lK : Value
 Next : Value
 Vq : Sl Value
 Do : Sl Act
 Undo : Sl Act
 Env : Sl Field
 Runs : Bool
 Ran : Bool
 Old : Sl Act
 Past : Sl Field
mutual
noncomputable def fK : Value → List D
 | .mk Kind N S L F Elem Key acf => [.int .u8 Kind] ++ [.int .i64 N] ++ [.str S] ++ [iy L] ++ [gK F] ++ [.int .u8 Elem] ++ [.str Key] ++ [.bool acf]
noncomputable def iJ : Field → List D
 | .mk Name lK => [.str Name] ++ fK lK
noncomputable def iy : Sl Value → D
 | .mk l x => .sl (rZ l) (Cm x)
noncomputable def rZ : List Value → List (List D)
 | [] => []
 | v :: r => fK v :: rZ r
noncomputable def Cm : Option (List Value) → Option (List (List D))
 | none => none
 | some l => some (rZ l)
noncomputable def gK : Sl Field → D
 | .mk l x => .sl (pI l) (Cn x)
noncomputable def pI : List Field → List (List D)
 | [] => []
 | v :: r => iJ v :: pI r
noncomputable def Cn : Option (List Field) → Option (List (List D))
 | none => none
 | some l => some (pI l)
end
theorem ig : ∀ l, rZ l = l.map fK
 | [] => rfl
 | v :: r => by rw [rZ, ig r]; rfl
theorem OE : ∀ x, Cm x = x.map (List.map fK)
 | none => rfl
 | some l => by rw [Cm, ig]; rfl
theorem iq : ∀ l, pI l = l.map iJ
 | [] => rfl
 | v :: r => by rw [pI, iq r]; rfl
theorem OG : ∀ x, Cn x = x.map (List.map iJ)
 | none => rfl
 | some l => by rw [Cn, iq]; rfl
mutual
noncomputable def kg : Expr → List D
 | .mk Kind N S Args Names apH Elem Key apI Site => [.int .u8 Kind] ++ [.int .i64 N] ++ [.str S] ++ [jk Args] ++ [.sl (Names.l.map fun y => [.str y]) (Names.x.map (List.map fun y => [.str y]))] ++ [jk apH] ++ [.int .u8 Elem] ++ [jk Key] ++ [jN apI] ++ [.str Site]
noncomputable def pJ : Act → List D
 | .mk Kind Name ajm => [.int .u8 Kind] ++ [.str Name] ++ kg ajm
noncomputable def jk : Sl Expr → D
 | .mk l x => .sl (yO l) (Gj x)
noncomputable def yO : List Expr → List (List D)
 | [] => []
 | v :: r => kg v :: yO r
noncomputable def Gj : Option (List Expr) → Option (List (List D))
 | none => none
 | some l => some (yO l)
noncomputable def jN : Sl Act → D
 | .mk l x => .sl (El l) (OH x)
noncomputable def El : List Act → List (List D)
 | [] => []
 | v :: r => pJ v :: El r
noncomputable def OH : Option (List Act) → Option (List (List D))
 | none => none
 | some l => some (El l)
end
theorem kr : ∀ l, yO l = l.map kg
 | [] => rfl
 | v :: r => by rw [yO, kr r]; rfl
theorem SI : ∀ x, Gj x = x.map (List.map kg)
 | none => rfl
 | some l => by rw [Gj, kr]; rfl
theorem lM : ∀ l, El l = l.map pJ
 | [] => rfl
 | v :: r => by rw [El, lM r]; rfl
theorem Vr : ∀ x, OH x = x.map (List.map pJ)
 | none => rfl
 | some l => by rw [OH, lM]; rfl
noncomputable def iK : Cell → List D
 | ⟨Kind, Name, lK, Next, Vq, Do, Undo, Env, Runs, Ran, Old, Past⟩ => [.int .u8 Kind] ++ [.str Name] ++ fK lK ++ fK Next ++ [iy Vq] ++ [jN Do] ++ [jN Undo] ++ [gK Env] ++ [.bool Runs] ++ [.bool Ran] ++ [jN Old] ++ [gK Past]
structure Enc where
 bM : List Cell → List (List D)
 bX : Option (List Cell) → Option (List (List D))
 aN : List Value → List (List D)
 aU : Option (List Value) → Option (List (List D))
 aB : List Field → List (List D)
 aG : Option (List Field) → Option (List (List D))
 fD : List Act → List (List D)
 gq : Option (List Act) → Option (List (List D))
 dZ : List Expr → List (List D)
 fB : Option (List Expr) → Option (List (List D))
 fQ : List ByteArray → List (List D)
 iA : Option (List ByteArray) → Option (List (List D))
 gI : List Int → List (List D)
 gY : Option (List Int) → Option (List (List D))
noncomputable def jO : Enc := { bM := List.map (fun x => iK x), bX := Option.map (List.map (fun x => iK x)), aN := rZ, aU := Cm, aB := pI, aG := Cn, fD := El, gq := OH, dZ := yO, fB := Gj, fQ := List.map (fun x => [.str x]), iA := Option.map (List.map (fun x => [.str x])), gI := List.map (fun x => [.int .u8 x]), gY := Option.map (List.map (fun x => [.int .u8 x])) }
def OI (E : Enc) : Cell → List D
 | ⟨x_a, IG, ⟨II, IJ, IK, ⟨wP, wQ⟩, ⟨wR, wS⟩, acg, IL, ach⟩, ⟨aci, acj, acn, ⟨SK, SL⟩, ⟨SN, SQ⟩, aco, acp, acr⟩, ⟨wT, wU⟩, ⟨IQ, IU⟩, ⟨acs, acu⟩, ⟨IV, IW⟩, x_i, x_j, ⟨acv, acw⟩, ⟨acy, acz⟩⟩ => [.int .u8 x_a, .str IG, .int .u8 II, .int .i64 IJ, .str IK, .sl (E.aN wP) (E.aU wQ), .sl (E.aB wR) (E.aG wS), .int .u8 acg, .str IL, .bool ach, .int .u8 aci, .int .i64 acj, .str acn, .sl (E.aN SK) (E.aU SL), .sl (E.aB SN) (E.aG SQ), .int .u8 aco, .str acp, .bool acr, .sl (E.aN wT) (E.aU wU), .sl (E.fD IQ) (E.gq IU), .sl (E.fD acs) (E.gq acu), .sl (E.aB IV) (E.aG IW), .bool x_i, .bool x_j, .sl (E.fD acv) (E.gq acw), .sl (E.aB acy) (E.aG acz)]
set_option maxHeartbeats 4000000 in
theorem aV {E : Enc} (hE : jO = E) : wN E.bM E.bX (OI E) 26 := by
 subst hE
 have hc : ∀ x, iK x = OI jO x := fun x => by obtain ⟨x_a, IG, ⟨II, IJ, IK, ⟨wP, wQ⟩, ⟨wR, wS⟩, acg, IL, ach⟩, ⟨aci, acj, acn, ⟨SK, SL⟩, ⟨SN, SQ⟩, aco, acp, acr⟩, ⟨wT, wU⟩, ⟨IQ, IU⟩, ⟨acs, acu⟩, ⟨IV, IW⟩, x_i, x_j, ⟨acv, acw⟩, ⟨acy, acz⟩⟩ := x; first | rfl | (simp only [fK, iK, iJ, kg, pJ, jk, gK, jN, iy, OI]; rfl)
 refine ⟨fun l => ?_, fun x => ?_, fun x => ?_⟩
 ·exact congrArg (fun f => List.map f l) (funext hc)
 ·rfl
 ·obtain ⟨x_a, IG, ⟨II, IJ, IK, ⟨wP, wQ⟩, ⟨wR, wS⟩, acg, IL, ach⟩, ⟨aci, acj, acn, ⟨SK, SL⟩, ⟨SN, SQ⟩, aco, acp, acr⟩, ⟨wT, wU⟩, ⟨IQ, IU⟩, ⟨acs, acu⟩, ⟨IV, IW⟩, x_i, x_j, ⟨acv, acw⟩, ⟨acy, acz⟩⟩ := x; rfl
def Co (E : Enc) : Value → List D
 | ⟨x_a, IG, x_c, ⟨IX, IY⟩, ⟨wT, wU⟩, x_f, x_g, x_h⟩ => [.int .u8 x_a, .int .i64 IG, .str x_c, .sl (E.aN IX) (E.aU IY), .sl (E.aB wT) (E.aG wU), .int .u8 x_f, .str x_g, .bool x_h]
set_option maxHeartbeats 4000000 in
theorem aF {E : Enc} (hE : jO = E) : wN E.aN E.aU (Co E) 8 := by
 subst hE
 have hc : ∀ x, fK x = Co jO x := fun x => by obtain ⟨x_a, IG, x_c, ⟨IX, IY⟩, ⟨wT, wU⟩, x_f, x_g, x_h⟩ := x; first | rfl | (simp only [fK, iK, iJ, kg, pJ, jk, gK, jN, iy, Co]; rfl)
 refine ⟨fun l => ?_, fun x => ?_, fun x => ?_⟩
 ·exact (ig l).trans (congrArg (fun f => List.map f l) (funext hc))
 ·exact (OE x).trans (by rw [← funext ig]; rfl)
 ·obtain ⟨x_a, IG, x_c, ⟨IX, IY⟩, ⟨wT, wU⟩, x_f, x_g, x_h⟩ := x; rfl
def IZ (E : Enc) : Field → List D
 | ⟨x_a, ⟨acA, acB, acC, ⟨SS, SV⟩, ⟨SX, SY⟩, acD, acE, acF⟩⟩ => [.str x_a, .int .u8 acA, .int .i64 acB, .str acC, .sl (E.aN SS) (E.aU SV), .sl (E.aB SX) (E.aG SY), .int .u8 acD, .str acE, .bool acF]
set_option maxHeartbeats 4000000 in
theorem ak {E : Enc} (hE : jO = E) : wN E.aB E.aG (IZ E) 9 := by
 subst hE
 have hc : ∀ x, iJ x = IZ jO x := fun x => by obtain ⟨x_a, ⟨acA, acB, acC, ⟨SS, SV⟩, ⟨SX, SY⟩, acD, acE, acF⟩⟩ := x; first | rfl | (simp only [fK, iK, iJ, kg, pJ, jk, gK, jN, iy, IZ]; rfl)
 refine ⟨fun l => ?_, fun x => ?_, fun x => ?_⟩
 ·exact (iq l).trans (congrArg (fun f => List.map f l) (funext hc))
 ·exact (OG x).trans (by rw [← funext iq]; rfl)
 ·obtain ⟨x_a, ⟨acA, acB, acC, ⟨SS, SV⟩, ⟨SX, SY⟩, acD, acE, acF⟩⟩ := x; rfl
def Vs (E : Enc) : Act → List D
 | ⟨x_a, IG, ⟨II, IJ, IK, ⟨wP, wQ⟩, ⟨wR, wS⟩, ⟨S9, Ta⟩, IL, ⟨Tc, Td⟩, ⟨Te, Tf⟩, acG⟩⟩ => [.int .u8 x_a, .str IG, .int .u8 II, .int .i64 IJ, .str IK, .sl (E.dZ wP) (E.fB wQ), .sl (E.fQ wR) (E.iA wS), .sl (E.dZ S9) (E.fB Ta), .int .u8 IL, .sl (E.dZ Tc) (E.fB Td), .sl (E.fD Te) (E.gq Tf), .str acG]
set_option maxHeartbeats 4000000 in
theorem dV {E : Enc} (hE : jO = E) : wN E.fD E.gq (Vs E) 12 := by
 subst hE
 have hc : ∀ x, pJ x = Vs jO x := fun x => by obtain ⟨x_a, IG, ⟨II, IJ, IK, ⟨wP, wQ⟩, ⟨wR, wS⟩, ⟨S9, Ta⟩, IL, ⟨Tc, Td⟩, ⟨Te, Tf⟩, acG⟩⟩ := x; first | rfl | (simp only [fK, iK, iJ, kg, pJ, jk, gK, jN, iy, Vs]; rfl)
 refine ⟨fun l => ?_, fun x => ?_, fun x => ?_⟩
 ·exact (lM l).trans (congrArg (fun f => List.map f l) (funext hc))
 ·exact (Vr x).trans (by rw [← funext lM]; rfl)
 ·obtain ⟨x_a, IG, ⟨II, IJ, IK, ⟨wP, wQ⟩, ⟨wR, wS⟩, ⟨S9, Ta⟩, IL, ⟨Tc, Td⟩, ⟨Te, Tf⟩, acG⟩⟩ := x; rfl
def OJ (E : Enc) : Expr → List D
 | ⟨x_a, IG, x_c, ⟨IX, IY⟩, ⟨wT, wU⟩, ⟨IQ, IU⟩, x_g, ⟨IV, IW⟩, ⟨acH, acI⟩, x_j⟩ => [.int .u8 x_a, .int .i64 IG, .str x_c, .sl (E.dZ IX) (E.fB IY), .sl (E.fQ wT) (E.iA wU), .sl (E.dZ IQ) (E.fB IU), .int .u8 x_g, .sl (E.dZ IV) (E.fB IW), .sl (E.fD acH) (E.gq acI), .str x_j]
set_option maxHeartbeats 4000000 in
theorem dU {E : Enc} (hE : jO = E) : wN E.dZ E.fB (OJ E) 10 := by
 subst hE
 have hc : ∀ x, kg x = OJ jO x := fun x => by obtain ⟨x_a, IG, x_c, ⟨IX, IY⟩, ⟨wT, wU⟩, ⟨IQ, IU⟩, x_g, ⟨IV, IW⟩, ⟨acH, acI⟩, x_j⟩ := x; first | rfl | (simp only [fK, iK, iJ, kg, pJ, jk, gK, jN, iy, OJ]; rfl)
 refine ⟨fun l => ?_, fun x => ?_, fun x => ?_⟩
 ·exact (kr l).trans (congrArg (fun f => List.map f l) (funext hc))
 ·exact (SI x).trans (by rw [← funext kr]; rfl)
 ·obtain ⟨x_a, IG, x_c, ⟨IX, IY⟩, ⟨wT, wU⟩, ⟨IQ, IU⟩, x_g, ⟨IV, IW⟩, ⟨acH, acI⟩, x_j⟩ := x; rfl
def Vt (E : Enc) : ByteArray → List D
 | x => [.str x]
set_option maxHeartbeats 4000000 in
theorem d9 {E : Enc} (hE : jO = E) : wN E.fQ E.iA (Vt E) 1 := by
 subst hE
 have hc : ∀ x, [.str x] = Vt jO x := fun x => by first | rfl | (simp only [fK, iK, iJ, kg, pJ, jk, gK, jN, iy, Vt]; rfl)
 refine ⟨fun l => ?_, fun x => ?_, fun x => ?_⟩
 ·exact congrArg (fun f => List.map f l) (funext hc)
 ·rfl
 ·rfl
def OL (E : Enc) : Int → List D
 | x => [.int .u8 x]
set_option maxHeartbeats 4000000 in
theorem yP {E : Enc} (hE : jO = E) : wN E.gI E.gY (OL E) 1 := by
 subst hE
 have hc : ∀ x, [.int .u8 x] = OL jO x := fun x => by first | rfl | (simp only [fK, iK, iJ, kg, pJ, jk, gK, jN, iy, OL]; rfl)
 refine ⟨fun l => ?_, fun x => ?_, fun x => ?_⟩
 ·exact congrArg (fun f => List.map f l) (funext hc)
 ·rfl
 ·rfl
def aT (E : Enc) : Value → PV
 | ⟨x_a, IG, x_c, ⟨IX, IY⟩, ⟨wT, wU⟩, x_f, x_g, x_h⟩ => .agg [.d (.int .u8 x_a), .d (.int .i64 IG), .d (.str x_c), .d (.sl (E.aN IX) (E.aU IY)), .d (.sl (E.aB wT) (E.aG wU)), .d (.int .u8 x_f), .d (.str x_g), .d (.bool x_h)]
def jA (E : Enc) : Cell → PV
 | ⟨x_a, IG, ⟨II, IJ, IK, ⟨wP, wQ⟩, ⟨wR, wS⟩, acg, IL, ach⟩, ⟨aci, acj, acn, ⟨SK, SL⟩, ⟨SN, SQ⟩, aco, acp, acr⟩, ⟨wT, wU⟩, ⟨IQ, IU⟩, ⟨acs, acu⟩, ⟨IV, IW⟩, x_i, x_j, ⟨acv, acw⟩, ⟨acy, acz⟩⟩ => .agg [.d (.int .u8 x_a), .d (.str IG), .d (.int .u8 II), .d (.int .i64 IJ), .d (.str IK), .d (.sl (E.aN wP) (E.aU wQ)), .d (.sl (E.aB wR) (E.aG wS)), .d (.int .u8 acg), .d (.str IL), .d (.bool ach), .d (.int .u8 aci), .d (.int .i64 acj), .d (.str acn), .d (.sl (E.aN SK) (E.aU SL)), .d (.sl (E.aB SN) (E.aG SQ)), .d (.int .u8 aco), .d (.str acp), .d (.bool acr), .d (.sl (E.aN wT) (E.aU wU)), .d (.sl (E.fD IQ) (E.gq IU)), .d (.sl (E.fD acs) (E.gq acu)), .d (.sl (E.aB IV) (E.aG IW)), .d (.bool x_i), .d (.bool x_j), .d (.sl (E.fD acv) (E.gq acw)), .d (.sl (E.aB acy) (E.aG acz))]
def eU (E : Enc) : Field → PV
 | ⟨x_a, ⟨acA, acB, acC, ⟨SS, SV⟩, ⟨SX, SY⟩, acD, acE, acF⟩⟩ => .agg [.d (.str x_a), .d (.int .u8 acA), .d (.int .i64 acB), .d (.str acC), .d (.sl (E.aN SS) (E.aU SV)), .d (.sl (E.aB SX) (E.aG SY)), .d (.int .u8 acD), .d (.str acE), .d (.bool acF)]
def lq (E : Enc) : Expr → PV
 | ⟨x_a, IG, x_c, ⟨IX, IY⟩, ⟨wT, wU⟩, ⟨IQ, IU⟩, x_g, ⟨IV, IW⟩, ⟨acH, acI⟩, x_j⟩ => .agg [.d (.int .u8 x_a), .d (.int .i64 IG), .d (.str x_c), .d (.sl (E.dZ IX) (E.fB IY)), .d (.sl (E.fQ wT) (E.iA wU)), .d (.sl (E.dZ IQ) (E.fB IU)), .d (.int .u8 x_g), .d (.sl (E.dZ IV) (E.fB IW)), .d (.sl (E.fD acH) (E.gq acI)), .d (.str x_j)]
def nS (E : Enc) : Act → PV
 | ⟨x_a, IG, ⟨II, IJ, IK, ⟨wP, wQ⟩, ⟨wR, wS⟩, ⟨S9, Ta⟩, IL, ⟨Tc, Td⟩, ⟨Te, Tf⟩, acG⟩⟩ => .agg [.d (.int .u8 x_a), .d (.str IG), .d (.int .u8 II), .d (.int .i64 IJ), .d (.str IK), .d (.sl (E.dZ wP) (E.fB wQ)), .d (.sl (E.fQ wR) (E.iA wS)), .d (.sl (E.dZ S9) (E.fB Ta)), .d (.int .u8 IL), .d (.sl (E.dZ Tc) (E.fB Td)), .d (.sl (E.fD Te) (E.gq Tf)), .d (.str acG)]
def Em (E : Enc) : Int → List PV
 | x => [.d (.int .i64 x)]
def En (E : Enc) : Bool → List PV
 | x => [.d (.bool x)]
noncomputable def S : X.Sys := { fn := Ch [(3, Tryz.f3), (4, Tryz.f4), (5, Tryz.f5), (6, Tryz.f6), (7, Tryz.f7), (8, Tryz.f8), (9, Tryz.f9), (10, Tryz.f10), (11, Tryz.f11), (12, Tryz.f12), (13, Tryz.f13), (14, Tryz.f14), (16, Tryz.f16), (17, Tryz.f17), (18, Tryz.f18), (19, Tryz.f19), (20, Tryz.f20), (21, Tryz.f21), (22, Tryz.f22), (23, Tryz.f23), (24, Tryz.f24), (25, Tryz.f25), (26, Tryz.f26), (27, Tryz.f27), (28, Tryz.f28), (29, Tryz.f29), (30, Tryz.f30), (34, Tryz.f34), (35, Tryz.f35), (36, Tryz.f36), (37, Tryz.f37), (38, Tryz.f38), (39, Tryz.f39), (40, Tryz.f40), (41, Tryz.f41), (42, Tryz.f42), (43, Tryz.f43), (44, Tryz.f44), (45, Tryz.f45), (46, Tryz.f46), (47, Tryz.f47), (48, Tryz.f48), (49, Tryz.f49), (50, Tryz.f50), (51, Tryz.f51), (52, Tryz.f52), (53, Tryz.f53), (54, Tryz.f54), (55, Tryz.f55), (56, Tryz.f56), (57, Tryz.f57), (58, Tryz.f58), (59, Tryz.f59), (60, Tryz.f60), (61, Tryz.f61), (62, Tryz.f62), (63, Tryz.f63), (65, Tryz.f65), (66, Tryz.f66), (67, Tryz.f67), (68, Tryz.f68), (69, Tryz.f69), (70, Tryz.f70), (71, Tryz.f71), (72, Tryz.f72), (73, Tryz.f73), (74, Tryz.f74), (75, Tryz.f75), (76, Tryz.f76), (77, Tryz.f77), (78, Tryz.f78), (79, Tryz.f79), (80, Tryz.f80), (81, Tryz.f81), (82, Tryz.f82), (86, Tryz.f86), (87, Tryz.f87), (88, Tryz.f88), (89, Tryz.f89), (90, Tryz.f90), (91, Tryz.f91), (92, Tryz.f92), (93, Tryz.f93), (94, Tryz.f94), (95, Tryz.f95), (96, Tryz.f96), (98, Tryz.f98), (99, Tryz.f99), (100, Tryz.f100), (101, Tryz.f101), (102, Tryz.f102), (103, Tryz.f103), (104, Tryz.f104), (105, Tryz.f105), (106, Tryz.f106), (107, Tryz.f107)], tab := tab, foreign := pG [(15, OB (.d (.bool true)))] }
end Go.Proofs.YtipkggkbldgmjaaGreat
