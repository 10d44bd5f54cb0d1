/- The interpreter computes just these functions: printed by a small program. -/
import Derived.Test.YtedfkehkcaaplaaTWD
namespace Go.Proofs.Ytedfkehkcaaplaa
open Go Go.X
set_option linter.unusedVariables false
set_option linter.unusedSimpArgs false
set_option linter.unusedSectionVars false
variable {Ω : Om} {E : Enc} (hΩ : real (call S) = Ω) (hE : iZ = E) {fu : Nat}
include hΩ hE
set_option maxRecDepth 100000
def zP0 (E : Enc) (x0 x1 : Int) (x2 : ByteArray) (x3 : List (Expr)) (x4 : Option (List (Expr))) (x5 : List (ByteArray)) (x6 : Option (List (ByteArray))) (x7 : List (Expr)) (x8 : Option (List (Expr))) (x9 : Int) (x10 : List (Expr)) (WW : Option (List (Expr))) (WQ : List (Act)) (Ti : Option (List (Act))) (x14 : ByteArray) : List PV := [.d (.int .u8 x0), .d (.int .i64 x1), .d (.str x2), .d (.sl (E.dP x3) (E.d9 x4)), .d (.sl (E.mh x5) (E.oK x6)), .d (.sl (E.dP x7) (E.d9 x8)), .d (.int .u8 x9), .d (.sl (E.dP x10) (E.d9 WW)), .d (.sl (E.fD WQ) (E.fU Ti)), .d (.str x14)]
def TJ (E : Enc) (x0 : Int) (x1 : ByteArray) (x2 : Int) (x3 : ByteArray) (x4 x5 : Int) (x6 : ByteArray) (x7 : List (Value)) (x8 : Option (List (Value))) (x9 : List (Field)) (x10 : Option (List (Field))) (WW : Int) (WQ : ByteArray) (Ti : Bool) (x14 : List (Cell)) (x15 : Option (List (Cell))) (x16 : List (Child)) (x17 : Option (List (Child))) (x18 : List (Inst)) (x19 : Option (List (Inst))) (x20 : Int) (x21 x22 : Bool) (x23 x24 : Int) (x25 : ByteArray) (x26 : List (Value)) (x27 : Option (List (Value))) (x28 : List (Field)) (x29 : Option (List (Field))) (x30 : Int) (x31 : ByteArray) (x32 : Bool) (x33 : ByteArray) (x34 : Bool) (x35 : List (Inst)) (x36 : Option (List (Inst))) (x37 x38 : Bool) : List PV := [.d (.int .i64 x0), .d (.str x1), .d (.int .u8 x2), .d (.str x3), .d (.int .u8 x4), .d (.int .i64 x5), .d (.str x6), .d (.sl (E.bE x7) (E.bN x8)), .d (.sl (E.aO x9) (E.bA x10)), .d (.int .u8 WW), .d (.str WQ), .d (.bool Ti), .d (.sl (E.iE x14) (E.ku x15)), .d (.sl (E.fQ x16) (E.iJ x17)), .d (.sl (E.aG x18) (E.bR x19)), .d (.int .i64 x20), .d (.bool x21), .d (.bool x22), .d (.int .u8 x23), .d (.int .i64 x24), .d (.str x25), .d (.sl (E.bE x26) (E.bN x27)), .d (.sl (E.aO x28) (E.bA x29)), .d (.int .u8 x30), .d (.str x31), .d (.bool x32), .d (.str x33), .d (.bool x34), .d (.sl (E.aG x35) (E.bR x36)), .d (.bool x37), .d (.bool x38)]
def zD2 (E : Enc) (x0 x1 : Int) (x2 : ByteArray) (x3 : List (Value)) (x4 : Option (List (Value))) (x5 : List (Field)) (x6 : Option (List (Field))) (x7 : Int) (x8 : ByteArray) (x9 : Bool) : List D := [.int .u8 x0, .int .i64 x1, .str x2, .sl (E.bE x3) (E.bN x4), .sl (E.aO x5) (E.bA x6), .int .u8 x7, .str x8, .bool x9]
def zD3 (E : Enc) (x0 : ByteArray) (x1 x2 : Int) (x3 : ByteArray) (x4 : List (Value)) (x5 : Option (List (Value))) (x6 : List (Field)) (x7 : Option (List (Field))) (x8 : Int) (x9 : ByteArray) (x10 : Bool) : List D := [.str x0, .int .u8 x1, .int .i64 x2, .str x3, .sl (E.bE x4) (E.bN x5), .sl (E.aO x6) (E.bA x7), .int .u8 x8, .str x9, .bool x10]
def zD4 (E : Enc) (x0 : ByteArray) (x1 : Int) (x2 : ByteArray) (x3 x4 : Int) (x5 : ByteArray) (x6 : List (Value)) (x7 : Option (List (Value))) (x8 : List (Field)) (x9 : Option (List (Field))) (x10 : Int) (WW : ByteArray) (WQ : Bool) : List D := [.str x0, .int .u8 x1, .str x2, .int .u8 x3, .int .i64 x4, .str x5, .sl (E.bE x6) (E.bN x7), .sl (E.aO x8) (E.bA x9), .int .u8 x10, .str WW, .bool WQ]
def zD5 (E : Enc) (x0 : Int) (x1 : ByteArray) (x2 x3 : Int) (x4 : ByteArray) (x5 : List (Expr)) (x6 : Option (List (Expr))) (x7 : List (ByteArray)) (x8 : Option (List (ByteArray))) (x9 : List (Expr)) (x10 : Option (List (Expr))) (WW : Int) (WQ : List (Expr)) (Ti : Option (List (Expr))) (x14 : List (Act)) (x15 : Option (List (Act))) (x16 : ByteArray) : List D := [.int .u8 x0, .str x1, .int .u8 x2, .int .i64 x3, .str x4, .sl (E.dP x5) (E.d9 x6), .sl (E.mh x7) (E.oK x8), .sl (E.dP x9) (E.d9 x10), .int .u8 WW, .sl (E.dP WQ) (E.d9 Ti), .sl (E.fD x14) (E.fU x15), .str x16]
def zD6 (E : Enc) (x0 x1 : Int) (x2 : ByteArray) (x3 : List (Expr)) (x4 : Option (List (Expr))) (x5 : List (ByteArray)) (x6 : Option (List (ByteArray))) (x7 : List (Expr)) (x8 : Option (List (Expr))) (x9 : Int) (x10 : List (Expr)) (WW : Option (List (Expr))) (WQ : List (Act)) (Ti : Option (List (Act))) (x14 : ByteArray) : List D := [.int .u8 x0, .int .i64 x1, .str x2, .sl (E.dP x3) (E.d9 x4), .sl (E.mh x5) (E.oK x6), .sl (E.dP x7) (E.d9 x8), .int .u8 x9, .sl (E.dP x10) (E.d9 WW), .sl (E.fD WQ) (E.fU Ti), .str x14]
def zD7 (E : Enc) (x0 : Int) (x1 : ByteArray) (x2 x3 : Int) (x4 : ByteArray) (x5 : List (Value)) (x6 : Option (List (Value))) (x7 : List (Field)) (x8 : Option (List (Field))) (x9 : Int) (x10 : ByteArray) (WW : Bool) (WQ Ti : Int) (x14 : ByteArray) (x15 : List (Value)) (x16 : Option (List (Value))) (x17 : List (Field)) (x18 : Option (List (Field))) (x19 : Int) (x20 : ByteArray) (x21 : Bool) (x22 : List (Value)) (x23 : Option (List (Value))) (x24 : List (Act)) (x25 : Option (List (Act))) (x26 : List (Act)) (x27 : Option (List (Act))) (x28 : List (Field)) (x29 : Option (List (Field))) (x30 x31 : Bool) (x32 : List (Act)) (x33 : Option (List (Act))) (x34 : List (Field)) (x35 : Option (List (Field))) : List D := [.int .u8 x0, .str x1, .int .u8 x2, .int .i64 x3, .str x4, .sl (E.bE x5) (E.bN x6), .sl (E.aO x7) (E.bA x8), .int .u8 x9, .str x10, .bool WW, .int .u8 WQ, .int .i64 Ti, .str x14, .sl (E.bE x15) (E.bN x16), .sl (E.aO x17) (E.bA x18), .int .u8 x19, .str x20, .bool x21, .sl (E.bE x22) (E.bN x23), .sl (E.fD x24) (E.fU x25), .sl (E.fD x26) (E.fU x27), .sl (E.aO x28) (E.bA x29), .bool x30, .bool x31, .sl (E.fD x32) (E.fU x33), .sl (E.aO x34) (E.bA x35)]
def uL (E : Enc) (x0 : Int) (x1 : ByteArray) (x2 : Int) (x3 : ByteArray) (x4 x5 : Int) (x6 : ByteArray) (x7 : List (Value)) (x8 : Option (List (Value))) (x9 : List (Field)) (x10 : Option (List (Field))) (WW : Int) (WQ : ByteArray) (Ti : Bool) (x14 : List (Cell)) (x15 : Option (List (Cell))) (x16 : List (Child)) (x17 : Option (List (Child))) (x18 : List (Inst)) (x19 : Option (List (Inst))) (x20 : Int) (x21 x22 : Bool) (x23 x24 : Int) (x25 : ByteArray) (x26 : List (Value)) (x27 : Option (List (Value))) (x28 : List (Field)) (x29 : Option (List (Field))) (x30 : Int) (x31 : ByteArray) (x32 : Bool) (x33 : ByteArray) (x34 : Bool) (x35 : List (Inst)) (x36 : Option (List (Inst))) (x37 x38 : Bool) : List D := [.int .i64 x0, .str x1, .int .u8 x2, .str x3, .int .u8 x4, .int .i64 x5, .str x6, .sl (E.bE x7) (E.bN x8), .sl (E.aO x9) (E.bA x10), .int .u8 WW, .str WQ, .bool Ti, .sl (E.iE x14) (E.ku x15), .sl (E.fQ x16) (E.iJ x17), .sl (E.aG x18) (E.bR x19), .int .i64 x20, .bool x21, .bool x22, .int .u8 x23, .int .i64 x24, .str x25, .sl (E.bE x26) (E.bN x27), .sl (E.aO x28) (E.bA x29), .int .u8 x30, .str x31, .bool x32, .str x33, .bool x34, .sl (E.aG x35) (E.bR x36), .bool x37, .bool x38]
theorem ok7 {r : Bool} (h : P7 fu = some r) {args : List PV} (ha : [] = args) (st : St) :
 Sat (Ω.cf 7 args st) (fun q => q = (PV.d (.bool r), st)) := by
 subst ha
 subst hΩ
 obtain rfl := kM h
 exact ⟨_, Yf (S := S) (f := 7) rfl st, rfl⟩
def H49 (Ω : Om) (E : Enc) (p49 : Value → Option (Int)) : Prop := ∀ {a0 : Value} {r : Int}, p49 a0 = some r → ∀ {args : List PV}, [eO E a0] = args → ∀ (st : St), Sat (Ω.cf 49 args st) (fun q => q = (PV.d (.int .i64 r), st))
def H72 (Ω : Om) (E : Enc) (p72 : (Sl Value) → Option (Int)) : Prop := ∀ {a0 : Sl Value} {r : Int}, p72 a0 = some r → ∀ {args : List PV}, [PV.d (.sl (E.bE a0.l) (E.bN a0.x))] = args → ∀ (st : St), Sat (Ω.cf 72 args st) (fun q => q = (PV.d (.int .i64 r), st))
def H73 (Ω : Om) (E : Enc) (p73 : (Sl Field) → Option (Int)) : Prop := ∀ {a0 : Sl Field} {r : Int}, p73 a0 = some r → ∀ {args : List PV}, [PV.d (.sl (E.aO a0.l) (E.bA a0.x))] = args → ∀ (st : St), Sat (Ω.cf 73 args st) (fun q => q = (PV.d (.int .i64 r), st))
def H93 (Ω : Om) (E : Enc) (TA : Field → Option (Int)) : Prop := ∀ {a0 : Field} {r : Int}, TA a0 = some r → ∀ {args : List PV}, [fO E a0] = args → ∀ (st : St), Sat (Ω.cf 93 args st) (fun q => q = (PV.d (.int .i64 r), st))
set_option maxHeartbeats 4000000 in
theorem axw {p49 : Value → Option (Int)} (ak0 : H49 Ω E p49) {p72 : (Sl Value) → Option (Int)} (anA : H72 Ω E p72) {p73 : (Sl Field) → Option (Int)} (anB : H73 Ω E p73) {TA : Field → Option (Int)} (anC : H93 Ω E TA) {a0 : Value} {r : Int} (h : amA fu p49 p72 p73 TA a0 = some r) {args : List PV} (ha : [eO E a0] = args) (st : St) :
 Sat (Ω.cf 49 args st) (fun q => q = (PV.d (.int .i64 r), st)) := by
 subst ha
 rcases a0 with ⟨bn, gG, kr, ⟨aZ, bf⟩, ⟨aF, aJ⟩, dM, dI, dN⟩
 rw [aK hΩ (f := 49) (fn := Try.f49) (x := c49) rfl rfl ar8 rfl rfl rfl]
 unfold amA at h
 try dsimp only at h
 conv => arg 1; cbv
 replace h := bJ h
 obtain ⟨i4, atJ, h⟩ := h
 refine aN hΩ ((fun (q : Int) => (match q with | i4 => (.normal, [(1, PV.dA (zD2 E bn gG kr aZ bf aF aJ dM dI dN)), (2, vi 0), (3, vi i4)], nO :: st))) i4) (fun k hk => ?_) ?_
 clear h
 have h := atJ
 clear atJ
 conv => arg 1; cbv
 revert h; refine eU (fun hb1 h => cv ?_) fun hb1 h => cv ?_
 replace h := bJ h
 obtain ⟨r2, hx3, h⟩ := h
 refine au (anA hx3) (cv ?_)
 exact fk h hk
 exact fk h hk
 clear atJ
 try dsimp only at h
 conv => arg 1; cbv
 replace h := bJ h
 obtain ⟨i8, hq9, h⟩ := h
 refine aN hΩ ((fun (q : Int) => (match q with | i8 => (.normal, [(1, PV.dA (zD2 E bn gG kr aZ bf aF aJ dM dI dN)), (2, vi 0), (3, vi i8)], nO :: st))) i8) (fun k hk => ?_) ?_
 clear h
 have h := hq9
 clear hq9
 conv => arg 1; cbv
 revert h; refine eU (fun hb5 h => cv ?_) fun hb5 h => cv ?_
 replace h := bJ h
 obtain ⟨r6, hx7, h⟩ := h
 refine au (anB hx7) (cv ?_)
 exact fk h hk
 exact fk h hk
 clear hq9
 try dsimp only at h
 conv => arg 1; cbv
 exact sp h
set_option maxHeartbeats 4000000 in
theorem axx {p49 : Value → Option (Int)} (ak0 : H49 Ω E p49) {p72 : (Sl Value) → Option (Int)} (anA : H72 Ω E p72) {p73 : (Sl Field) → Option (Int)} (anB : H73 Ω E p73) {TA : Field → Option (Int)} (anC : H93 Ω E TA) {a0 : Sl Value} {r : Int} (h : amB fu p49 p72 p73 TA a0 = some r) {args : List PV} (ha : [PV.d (.sl (E.bE a0.l) (E.bN a0.x))] = args) (st : St) :
 Sat (Ω.cf 72 args st) (fun q => q = (PV.d (.int .i64 r), st)) := by
 subst ha
 rcases a0 with ⟨aj, bF⟩
 rw [aK hΩ (f := 72) (fn := Try.f72) (x := c72) rfl rfl ase rfl rfl rfl]
 unfold amB at h
 try dsimp only at h
 conv => arg 1; cbv
 refine bQ hΩ (dG hE) aj fun n1 hn2 => cv ?_
 replace h := bJ h
 obtain ⟨q, mY, h⟩ := h
 refine dV hΩ (fun (a : Int × Int) => (match a with | (i3, i4) => ([(0, PV.d (.sl (E.bE aj) (E.bN bF))), (2, vi 0), (3, vi i3), (4, vi i4)], nO :: st))) (fun (q : (Int × Int)) => (match q with | (o16, CO) => (.exit 0, [(0, PV.d (.sl (E.bE aj) (E.bN bF))), (2, vi 0), (3, vi o16), (4, vi CO)], nO :: st))) (ln aj, 0) mY ?_ ?_
 clear h mY
 rintro ⟨i3, i4⟩ q h
 unfold Vb at h
 dsimp only at h
 conv => arg 1; cbv
 replace h := bJ h
 obtain ⟨i8, sH, h⟩ := h
 refine aN hΩ ((fun (q : Bool) => (match q with | i8 => ([(0, PV.d (.sl (E.bE aj) (E.bN bF))), (2, vi 0), (3, vi i3), (4, vi i4), (14, vb i8)], nO :: st))) i8) (fun k hk => ?_) ?_
 clear h
 have h := sH
 clear sH
 conv => arg 1; cbv
 refine bQ hΩ (dG hE) aj fun n5 hn6 => cv ?_
 revert h; refine eU (fun Ck h => cv ?_) fun Ck h => cv ?_
 exact fk h hk
 exact fk h hk
 clear sH
 try dsimp only at h
 conv => arg 1; cbv
 refine bO hΩ (cv ?_)
 revert h; refine eU (fun vN h => cv ?_) fun vN h => cv ?_
 refine sat_true (dL hΩ (dG hE) aj) (cv ?_)
 replace h := bJ h
 obtain ⟨⟨gI, j6, qc, ⟨mo, mq⟩, ⟨jD, jE⟩, yA, qd, yB⟩, iF, h⟩ := h
 try dsimp only at h
 refine aH (dw hΩ (dG hE) iF) (cv ?_)
 replace h := bJ h
 obtain ⟨LZ, iH, h⟩ := h
 refine au (ak0 iH) (cv ?_)
 obtain rfl := kM h
 subst_vars
 exact s3
 obtain rfl := kM h
 subst_vars
 exact sL
 clear mY
 rcases q with ⟨o16, CO⟩
 dsimp only at h
 conv => arg 1; cbv
 exact sp h
set_option maxHeartbeats 4000000 in
theorem axy {p49 : Value → Option (Int)} (ak0 : H49 Ω E p49) {p72 : (Sl Value) → Option (Int)} (anA : H72 Ω E p72) {p73 : (Sl Field) → Option (Int)} (anB : H73 Ω E p73) {TA : Field → Option (Int)} (anC : H93 Ω E TA) {a0 : Sl Field} {r : Int} (h : amC fu p49 p72 p73 TA a0 = some r) {args : List PV} (ha : [PV.d (.sl (E.aO a0.l) (E.bA a0.x))] = args) (st : St) :
 Sat (Ω.cf 73 args st) (fun q => q = (PV.d (.int .i64 r), st)) := by
 subst ha
 rcases a0 with ⟨aj, bF⟩
 rw [aK hΩ (f := 73) (fn := Try.f73) (x := c73) rfl rfl asf rfl rfl rfl]
 unfold amC at h
 try dsimp only at h
 conv => arg 1; cbv
 refine bQ hΩ (dH hE) aj fun n1 hn2 => cv ?_
 replace h := bJ h
 obtain ⟨q, mY, h⟩ := h
 refine dV hΩ (fun (a : Int × Int) => (match a with | (i3, i4) => ([(0, PV.d (.sl (E.aO aj) (E.bA bF))), (2, vi 0), (3, vi i3), (4, vi i4)], nO :: st))) (fun (q : (Int × Int)) => (match q with | (o16, CO) => (.exit 0, [(0, PV.d (.sl (E.aO aj) (E.bA bF))), (2, vi 0), (3, vi o16), (4, vi CO)], nO :: st))) (ln aj, 0) mY ?_ ?_
 clear h mY
 rintro ⟨i3, i4⟩ q h
 unfold Vd at h
 dsimp only at h
 conv => arg 1; cbv
 replace h := bJ h
 obtain ⟨i8, sH, h⟩ := h
 refine aN hΩ ((fun (q : Bool) => (match q with | i8 => ([(0, PV.d (.sl (E.aO aj) (E.bA bF))), (2, vi 0), (3, vi i3), (4, vi i4), (14, vb i8)], nO :: st))) i8) (fun k hk => ?_) ?_
 clear h
 have h := sH
 clear sH
 conv => arg 1; cbv
 refine bQ hΩ (dH hE) aj fun n5 hn6 => cv ?_
 revert h; refine eU (fun Ck h => cv ?_) fun Ck h => cv ?_
 exact fk h hk
 exact fk h hk
 clear sH
 try dsimp only at h
 conv => arg 1; cbv
 refine bO hΩ (cv ?_)
 revert h; refine eU (fun vN h => cv ?_) fun vN h => cv ?_
 refine sat_true (dL hΩ (dH hE) aj) (cv ?_)
 replace h := bJ h
 obtain ⟨⟨gI, ⟨qD, qE, qF, ⟨yC, yD⟩, ⟨yE, yF⟩, DZ, D5, D6⟩⟩, iF, h⟩ := h
 try dsimp only at h
 refine aH (dw hΩ (dH hE) iF) (cv ?_)
 replace h := bJ h
 obtain ⟨LZ, iH, h⟩ := h
 refine au (anC iH) (cv ?_)
 obtain rfl := kM h
 subst_vars
 exact s3
 obtain rfl := kM h
 subst_vars
 exact sL
 clear mY
 rcases q with ⟨o16, CO⟩
 dsimp only at h
 conv => arg 1; cbv
 exact sp h
set_option maxHeartbeats 4000000 in
theorem axz {p49 : Value → Option (Int)} (ak0 : H49 Ω E p49) {p72 : (Sl Value) → Option (Int)} (anA : H72 Ω E p72) {p73 : (Sl Field) → Option (Int)} (anB : H73 Ω E p73) {TA : Field → Option (Int)} (anC : H93 Ω E TA) {a0 : Field} {r : Int} (h : aia fu p49 p72 p73 TA a0 = some r) {args : List PV} (ha : [fO E a0] = args) (st : St) :
 Sat (Ω.cf 93 args st) (fun q => q = (PV.d (.int .i64 r), st)) := by
 subst ha
 rcases a0 with ⟨bn, ⟨bK, aL, bL, ⟨qG, qH⟩, ⟨qI, qJ⟩, yG, yH, yI⟩⟩
 rw [aK hΩ (f := 93) (fn := Try.f93) (x := c93) rfl rfl asl rfl rfl rfl]
 unfold aia at h
 try dsimp only at h
 conv => arg 1; cbv
 replace h := bJ h
 obtain ⟨i4, WX, h⟩ := h
 refine aN hΩ ((fun (q : Int) => (match q with | i4 => (.normal, [(1, PV.dA (zD3 E bn bK aL bL qG qH qI qJ yG yH yI)), (2, vi 0), (3, vi i4)], nO :: st))) i4) (fun k hk => ?_) ?_
 clear h
 have h := WX
 clear WX
 conv => arg 1; cbv
 revert h; refine eU (fun hb1 h => cv ?_) fun hb1 h => cv ?_
 replace h := bJ h
 obtain ⟨r2, hx3, h⟩ := h
 refine au (ak0 hx3) (cv ?_)
 exact fk h hk
 exact fk h hk
 clear WX
 try dsimp only at h
 conv => arg 1; cbv
 exact sp h
theorem ak1 : ∀ fu,
 (∀ {a0 : Value} {r : Int}, P49 fu a0 = some r → ∀ {args : List PV}, [eO E a0] = args → ∀ (st : St), Sat (Ω.cf 49 args st) (fun q => q = (PV.d (.int .i64 r), st))) ∧
 (∀ {a0 : Sl Value} {r : Int}, P72 fu a0 = some r → ∀ {args : List PV}, [PV.d (.sl (E.bE a0.l) (E.bN a0.x))] = args → ∀ (st : St), Sat (Ω.cf 72 args st) (fun q => q = (PV.d (.int .i64 r), st))) ∧
 (∀ {a0 : Sl Field} {r : Int}, P73 fu a0 = some r → ∀ {args : List PV}, [PV.d (.sl (E.aO a0.l) (E.bA a0.x))] = args → ∀ (st : St), Sat (Ω.cf 73 args st) (fun q => q = (PV.d (.int .i64 r), st))) ∧
 (∀ {a0 : Field} {r : Int}, P93 fu a0 = some r → ∀ {args : List PV}, [fO E a0] = args → ∀ (st : St), Sat (Ω.cf 93 args st) (fun q => q = (PV.d (.int .i64 r), st))) := by
 intro fu
 induction fu with
 | zero => exact ⟨(fun h => (by cases h)), (fun h => (by cases h)), (fun h => (by cases h)), (fun h => (by cases h))⟩
 | succ fu ih =>
  obtain ⟨i49, i72, i73, i93⟩ := ih
  exact ⟨(fun h => @fun args ha st => axw (fu := fu) hΩ hE i49 i72 i73 i93 h ha st), (fun h => @fun args ha st => axx (fu := fu) hΩ hE i49 i72 i73 i93 h ha st), (fun h => @fun args ha st => axy (fu := fu) hΩ hE i49 i72 i73 i93 h ha st), (fun h => @fun args ha st => axz (fu := fu) hΩ hE i49 i72 i73 i93 h ha st)⟩
theorem ak2 : ∀ {a0 : Value} {r : Int}, P49 fu a0 = some r → ∀ {args : List PV}, [eO E a0] = args → ∀ (st : St), Sat (Ω.cf 49 args st) (fun q => q = (PV.d (.int .i64 r), st)) := (ak1 hΩ hE fu).1
theorem aze : ∀ {a0 : Sl Value} {r : Int}, P72 fu a0 = some r → ∀ {args : List PV}, [PV.d (.sl (E.bE a0.l) (E.bN a0.x))] = args → ∀ (st : St), Sat (Ω.cf 72 args st) (fun q => q = (PV.d (.int .i64 r), st)) := (ak1 hΩ hE fu).2.1
theorem axA : ∀ {a0 : Sl Field} {r : Int}, P73 fu a0 = some r → ∀ {args : List PV}, [PV.d (.sl (E.aO a0.l) (E.bA a0.x))] = args → ∀ (st : St), Sat (Ω.cf 73 args st) (fun q => q = (PV.d (.int .i64 r), st)) := (ak1 hΩ hE fu).2.2.1
set_option maxHeartbeats 4000000 in
theorem atK {a0 : Child} {r : Int} (h : P45 fu a0 = some r) {args : List PV} (ha : [wJ E a0] = args) (st : St) :
 Sat (Ω.cf 45 args st) (fun q => q = (PV.d (.int .i64 r), st)) := by
 subst ha
 rcases a0 with ⟨bn, gG, kr, ⟨lG, lH, lJ, ⟨jd, je⟩, ⟨jf, jh⟩, lK, lM, lQ⟩⟩
 rw [aK hΩ (f := 45) (fn := Try.f45) (x := c45) rfl rfl ar4 rfl rfl rfl]
 unfold P45 at h
 try dsimp only at h
 conv => arg 1; cbv
 replace h := bJ h
 obtain ⟨i4, WX, h⟩ := h
 refine aN hΩ ((fun (q : Int) => (match q with | i4 => (.normal, [(1, PV.dA (zD4 E bn gG kr lG lH lJ jd je jf jh lK lM lQ)), (2, vi 0), (3, vi i4)], nO :: st))) i4) (fun k hk => ?_) ?_
 clear h
 have h := WX
 clear WX
 conv => arg 1; cbv
 revert h; refine eU (fun hb1 h => cv ?_) fun hb1 h => cv ?_
 replace h := bJ h
 obtain ⟨r2, hx3, h⟩ := h
 refine au (ak2 hΩ hE hx3) (cv ?_)
 exact fk h hk
 exact fk h hk
 clear WX
 try dsimp only at h
 conv => arg 1; cbv
 exact sp h
set_option maxHeartbeats 4000000 in
theorem axB {a0 : Sl ByteArray} {r : Int} (h : aib fu a0 = some r) {args : List PV} (ha : [PV.d (.sl (E.mh a0.l) (E.oK a0.x))] = args) (st : St) :
 Sat (Ω.cf 128 args st) (fun q => q = (PV.d (.int .i64 r), st)) := by
 subst ha
 rcases a0 with ⟨aj, bF⟩
 rw [aK hΩ (f := 128) (fn := Try.f128) (x := awg) rfl rfl amu rfl rfl rfl]
 unfold aib at h
 try dsimp only at h
 conv => arg 1; cbv
 refine bQ hΩ (jc hE) aj fun n1 hn2 => cv ?_
 replace h := bJ h
 obtain ⟨q, acd, h⟩ := h
 refine dV hΩ (fun (a : Int × Int) => (match a with | (i3, i4) => ([(0, PV.d (.sl (E.mh aj) (E.oK bF))), (2, vi 0), (3, vi i3), (4, vi i4)], nO :: st))) (fun (q : (Int × Int)) => (match q with | (Vf, o15) => (.exit 0, [(0, PV.d (.sl (E.mh aj) (E.oK bF))), (2, vi 0), (3, vi Vf), (4, vi o15)], nO :: st))) (ln aj, 0) acd ?_ ?_
 clear h acd
 rintro ⟨i3, i4⟩ q h
 unfold Ve at h
 dsimp only at h
 conv => arg 1; cbv
 replace h := bJ h
 obtain ⟨i8, hq12, h⟩ := h
 refine aN hΩ ((fun (q : Bool) => (match q with | i8 => ([(0, PV.d (.sl (E.mh aj) (E.oK bF))), (2, vi 0), (3, vi i3), (4, vi i4), (14, vb i8)], nO :: st))) i8) (fun k hk => ?_) ?_
 clear h
 have h := hq12
 clear hq12
 conv => arg 1; cbv
 refine bQ hΩ (jc hE) aj fun n5 hn6 => cv ?_
 revert h; refine eU (fun Ck h => cv ?_) fun Ck h => cv ?_
 exact fk h hk
 exact fk h hk
 clear hq12
 try dsimp only at h
 conv => arg 1; cbv
 refine bO hΩ (cv ?_)
 revert h; refine eU (fun vN h => cv ?_) fun vN h => cv ?_
 refine sat_true (dL hΩ (jc hE) aj) (cv ?_)
 replace h := bJ h
 obtain ⟨x10, iF, h⟩ := h
 refine aH (dw hΩ (jc hE) iF) (cv ?_)
 obtain rfl := kM h
 subst_vars
 exact s3
 obtain rfl := kM h
 subst_vars
 exact sL
 clear acd
 rcases q with ⟨Vf, o15⟩
 dsimp only at h
 conv => arg 1; cbv
 exact sp h
def anD (Ω : Om) (E : Enc) (zA : Act → Option (Int)) : Prop := ∀ {a0 : Act} {r : Int}, zA a0 = some r → ∀ {args : List PV}, [nU E a0] = args → ∀ (st : St), Sat (Ω.cf 109 args st) (fun q => q = (PV.d (.int .i64 r), st))
def anE (Ω : Om) (E : Enc) (yV : Expr → Option (Int)) : Prop := ∀ {a0 : Expr} {r : Int}, yV a0 = some r → ∀ {args : List PV}, [kQ E a0] = args → ∀ (st : St), Sat (Ω.cf 119 args st) (fun q => q = (PV.d (.int .i64 r), st))
def anF (Ω : Om) (E : Enc) (zB : (Sl Expr) → Option (Int)) : Prop := ∀ {a0 : Sl Expr} {r : Int}, zB a0 = some r → ∀ {args : List PV}, [PV.d (.sl (E.dP a0.l) (E.d9 a0.x))] = args → ∀ (st : St), Sat (Ω.cf 127 args st) (fun q => q = (PV.d (.int .i64 r), st))
def H92 (Ω : Om) (E : Enc) (Xm : (Sl Act) → Option (Int)) : Prop := ∀ {a0 : Sl Act} {r : Int}, Xm a0 = some r → ∀ {args : List PV}, [PV.d (.sl (E.fD a0.l) (E.fU a0.x))] = args → ∀ (st : St), Sat (Ω.cf 92 args st) (fun q => q = (PV.d (.int .i64 r), st))
set_option maxHeartbeats 4000000 in
theorem atL {zA : Act → Option (Int)} (aeT : anD Ω E zA) {yV : Expr → Option (Int)} (Z4 : anE Ω E yV) {zB : (Sl Expr) → Option (Int)} (TK : anF Ω E zB) {Xm : (Sl Act) → Option (Int)} (anG : H92 Ω E Xm) {a0 : Act} {r : Int} (h : adz fu zA yV zB Xm a0 = some r) {args : List PV} (ha : [nU E a0] = args) (st : St) :
 Sat (Ω.cf 109 args st) (fun q => q = (PV.d (.int .i64 r), st)) := by
 subst ha
 rcases a0 with ⟨bn, gG, ⟨lT, lU, lV, ⟨ji, jk⟩, ⟨jl, jm⟩, ⟨yX, yY⟩, lW, ⟨yZ, y5⟩, ⟨y7, y8⟩, FK⟩⟩
 rw [aK hΩ (f := 109) (fn := Try.f109) (x := c109) rfl rfl amn rfl rfl rfl]
 unfold adz at h
 try dsimp only at h
 conv => arg 1; cbv
 replace h := bJ h
 obtain ⟨i4, WX, h⟩ := h
 refine aN hΩ ((fun (q : Int) => (match q with | i4 => (.normal, [(1, PV.dA (zD5 E bn gG lT lU lV ji jk jl jm yX yY lW yZ y5 y7 y8 FK)), (2, vi 0), (3, vi i4)], nO :: st))) i4) (fun k hk => ?_) ?_
 clear h
 have h := WX
 clear WX
 conv => arg 1; cbv
 revert h; refine eU (fun hb1 h => cv ?_) fun hb1 h => cv ?_
 replace h := bJ h
 obtain ⟨r2, hx3, h⟩ := h
 refine au (Z4 hx3) (cv ?_)
 exact fk h hk
 exact fk h hk
 clear WX
 try dsimp only at h
 conv => arg 1; cbv
 exact sp h
set_option maxHeartbeats 4000000 in
theorem atM {zA : Act → Option (Int)} (aeT : anD Ω E zA) {yV : Expr → Option (Int)} (Z4 : anE Ω E yV) {zB : (Sl Expr) → Option (Int)} (TK : anF Ω E zB) {Xm : (Sl Act) → Option (Int)} (anG : H92 Ω E Xm) {a0 : Expr} {r : Int} (h : adA fu zA yV zB Xm a0 = some r) {args : List PV} (ha : [kQ E a0] = args) (st : St) :
 Sat (Ω.cf 119 args st) (fun q => q = (PV.d (.int .i64 r), st)) := by
 subst ha
 rcases a0 with ⟨bn, gG, kr, ⟨aZ, bf⟩, ⟨aF, aJ⟩, ⟨jS, jT⟩, dI, ⟨jU, jV⟩, ⟨wL, wM⟩, dD⟩
 rw [aK hΩ (f := 119) (fn := Try.f119) (x := c119) rfl rfl amq rfl rfl rfl]
 unfold adA at h
 try dsimp only at h
 conv => arg 1; cbv
 replace h := bJ h
 obtain ⟨i4, ace, h⟩ := h
 refine aN hΩ ((fun (q : Int) => (match q with | i4 => (.normal, [(1, PV.dA (zD6 E bn gG kr aZ bf aF aJ jS jT dI jU jV wL wM dD)), (2, vi 0), (3, vi i4)], nO :: st))) i4) (fun k hk => ?_) ?_
 clear h
 have h := ace
 clear ace
 conv => arg 1; cbv
 revert h; refine eU (fun hb1 h => cv ?_) fun hb1 h => cv ?_
 replace h := bJ h
 obtain ⟨r2, hx3, h⟩ := h
 refine au (TK hx3) (cv ?_)
 exact fk h hk
 exact fk h hk
 clear ace
 try dsimp only at h
 conv => arg 1; cbv
 replace h := bJ h
 obtain ⟨i8, atN, h⟩ := h
 refine aN hΩ ((fun (q : Int) => (match q with | i8 => (.normal, [(1, PV.dA (zD6 E bn gG kr aZ bf aF aJ jS jT dI jU jV wL wM dD)), (2, vi 0), (3, vi i8)], nO :: st))) i8) (fun k hk => ?_) ?_
 clear h
 have h := atN
 clear atN
 conv => arg 1; cbv
 revert h; refine eU (fun hb5 h => cv ?_) fun hb5 h => cv ?_
 replace h := bJ h
 obtain ⟨r6, hx7, h⟩ := h
 refine au (axB hΩ hE hx7) (cv ?_)
 exact fk h hk
 exact fk h hk
 clear atN
 try dsimp only at h
 conv => arg 1; cbv
 replace h := bJ h
 obtain ⟨i12, RB, h⟩ := h
 refine aN hΩ ((fun (q : Int) => (match q with | i12 => (.normal, [(1, PV.dA (zD6 E bn gG kr aZ bf aF aJ jS jT dI jU jV wL wM dD)), (2, vi 0), (3, vi i12)], nO :: st))) i12) (fun k hk => ?_) ?_
 clear h
 have h := RB
 clear RB
 conv => arg 1; cbv
 revert h; refine eU (fun vN h => cv ?_) fun vN h => cv ?_
 replace h := bJ h
 obtain ⟨Xn, iF, h⟩ := h
 refine au (TK iF) (cv ?_)
 exact fk h hk
 exact fk h hk
 clear RB
 try dsimp only at h
 conv => arg 1; cbv
 replace h := bJ h
 obtain ⟨i16, acf, h⟩ := h
 refine aN hΩ ((fun (q : Int) => (match q with | i16 => (.normal, [(1, PV.dA (zD6 E bn gG kr aZ bf aF aJ jS jT dI jU jV wL wM dD)), (2, vi 0), (3, vi i16)], nO :: st))) i16) (fun k hk => ?_) ?_
 clear h
 have h := acf
 clear acf
 conv => arg 1; cbv
 revert h; refine eU (fun rM h => cv ?_) fun rM h => cv ?_
 replace h := bJ h
 obtain ⟨zC, uG, h⟩ := h
 refine au (TK uG) (cv ?_)
 exact fk h hk
 exact fk h hk
 clear acf
 try dsimp only at h
 conv => arg 1; cbv
 replace h := bJ h
 obtain ⟨i20, acg, h⟩ := h
 refine aN hΩ ((fun (q : Int) => (match q with | i20 => (.normal, [(1, PV.dA (zD6 E bn gG kr aZ bf aF aJ jS jT dI jU jV wL wM dD)), (2, vi 0), (3, vi i20)], nO :: st))) i20) (fun k hk => ?_) ?_
 clear h
 have h := acg
 clear acg
 conv => arg 1; cbv
 revert h; refine eU (fun kF h => cv ?_) fun kF h => cv ?_
 replace h := bJ h
 obtain ⟨YL, RD, h⟩ := h
 refine au (anG RD) (cv ?_)
 exact fk h hk
 exact fk h hk
 clear acg
 try dsimp only at h
 conv => arg 1; cbv
 exact sp h
set_option maxHeartbeats 4000000 in
theorem atO {zA : Act → Option (Int)} (aeT : anD Ω E zA) {yV : Expr → Option (Int)} (Z4 : anE Ω E yV) {zB : (Sl Expr) → Option (Int)} (TK : anF Ω E zB) {Xm : (Sl Act) → Option (Int)} (anG : H92 Ω E Xm) {a0 : Sl Expr} {r : Int} (h : adB fu zA yV zB Xm a0 = some r) {args : List PV} (ha : [PV.d (.sl (E.dP a0.l) (E.d9 a0.x))] = args) (st : St) :
 Sat (Ω.cf 127 args st) (fun q => q = (PV.d (.int .i64 r), st)) := by
 subst ha
 rcases a0 with ⟨aj, bF⟩
 rw [aK hΩ (f := 127) (fn := Try.f127) (x := c127) rfl rfl amt rfl rfl rfl]
 unfold adB at h
 try dsimp only at h
 conv => arg 1; cbv
 refine bQ hΩ (eY hE) aj fun n1 hn2 => cv ?_
 replace h := bJ h
 obtain ⟨q, mY, h⟩ := h
 refine dV hΩ (fun (a : Int × Int) => (match a with | (i3, i4) => ([(0, PV.d (.sl (E.dP aj) (E.d9 bF))), (2, vi 0), (3, vi i3), (4, vi i4)], nO :: st))) (fun (q : (Int × Int)) => (match q with | (o16, CO) => (.exit 0, [(0, PV.d (.sl (E.dP aj) (E.d9 bF))), (2, vi 0), (3, vi o16), (4, vi CO)], nO :: st))) (ln aj, 0) mY ?_ ?_
 clear h mY
 rintro ⟨i3, i4⟩ q h
 unfold MO at h
 dsimp only at h
 conv => arg 1; cbv
 replace h := bJ h
 obtain ⟨i8, sH, h⟩ := h
 refine aN hΩ ((fun (q : Bool) => (match q with | i8 => ([(0, PV.d (.sl (E.dP aj) (E.d9 bF))), (2, vi 0), (3, vi i3), (4, vi i4), (14, vb i8)], nO :: st))) i8) (fun k hk => ?_) ?_
 clear h
 have h := sH
 clear sH
 conv => arg 1; cbv
 refine bQ hΩ (eY hE) aj fun n5 hn6 => cv ?_
 revert h; refine eU (fun Ck h => cv ?_) fun Ck h => cv ?_
 exact fk h hk
 exact fk h hk
 clear sH
 try dsimp only at h
 conv => arg 1; cbv
 refine bO hΩ (cv ?_)
 revert h; refine eU (fun vN h => cv ?_) fun vN h => cv ?_
 refine sat_true (dL hΩ (eY hE) aj) (cv ?_)
 replace h := bJ h
 obtain ⟨⟨gI, j6, qc, ⟨mo, mq⟩, ⟨jD, jE⟩, ⟨wN, wO⟩, qd, ⟨wP, wQ⟩, ⟨Pm, Pn⟩, tH⟩, iF, h⟩ := h
 try dsimp only at h
 refine aH (dw hΩ (eY hE) iF) (cv ?_)
 replace h := bJ h
 obtain ⟨LZ, iH, h⟩ := h
 refine au (Z4 iH) (cv ?_)
 obtain rfl := kM h
 subst_vars
 exact s3
 obtain rfl := kM h
 subst_vars
 exact sL
 clear mY
 rcases q with ⟨o16, CO⟩
 dsimp only at h
 conv => arg 1; cbv
 exact sp h
set_option maxHeartbeats 4000000 in
theorem axC {zA : Act → Option (Int)} (aeT : anD Ω E zA) {yV : Expr → Option (Int)} (Z4 : anE Ω E yV) {zB : (Sl Expr) → Option (Int)} (TK : anF Ω E zB) {Xm : (Sl Act) → Option (Int)} (anG : H92 Ω E Xm) {a0 : Sl Act} {r : Int} (h : amD fu zA yV zB Xm a0 = some r) {args : List PV} (ha : [PV.d (.sl (E.fD a0.l) (E.fU a0.x))] = args) (st : St) :
 Sat (Ω.cf 92 args st) (fun q => q = (PV.d (.int .i64 r), st)) := by
 subst ha
 rcases a0 with ⟨aj, bF⟩
 rw [aK hΩ (f := 92) (fn := Try.f92) (x := c92) rfl rfl asj rfl rfl rfl]
 unfold amD at h
 try dsimp only at h
 conv => arg 1; cbv
 refine bQ hΩ (fV hE) aj fun n1 hn2 => cv ?_
 replace h := bJ h
 obtain ⟨q, mY, h⟩ := h
 refine dV hΩ (fun (a : Int × Int) => (match a with | (i3, i4) => ([(0, PV.d (.sl (E.fD aj) (E.fU bF))), (2, vi 0), (3, vi i3), (4, vi i4)], nO :: st))) (fun (q : (Int × Int)) => (match q with | (o16, CO) => (.exit 0, [(0, PV.d (.sl (E.fD aj) (E.fU bF))), (2, vi 0), (3, vi o16), (4, vi CO)], nO :: st))) (ln aj, 0) mY ?_ ?_
 clear h mY
 rintro ⟨i3, i4⟩ q h
 unfold Vg at h
 dsimp only at h
 conv => arg 1; cbv
 replace h := bJ h
 obtain ⟨i8, sH, h⟩ := h
 refine aN hΩ ((fun (q : Bool) => (match q with | i8 => ([(0, PV.d (.sl (E.fD aj) (E.fU bF))), (2, vi 0), (3, vi i3), (4, vi i4), (14, vb i8)], nO :: st))) i8) (fun k hk => ?_) ?_
 clear h
 have h := sH
 clear sH
 conv => arg 1; cbv
 refine bQ hΩ (fV hE) aj fun n5 hn6 => cv ?_
 revert h; refine eU (fun Ck h => cv ?_) fun Ck h => cv ?_
 exact fk h hk
 exact fk h hk
 clear sH
 try dsimp only at h
 conv => arg 1; cbv
 refine bO hΩ (cv ?_)
 revert h; refine eU (fun vN h => cv ?_) fun vN h => cv ?_
 refine sat_true (dL hΩ (fV hE) aj) (cv ?_)
 replace h := bJ h
 obtain ⟨⟨gI, j6, ⟨wR, wS, wT, ⟨qK, qL⟩, ⟨qM, qN⟩, ⟨Jh, Ji⟩, wU, ⟨Jj, Jk⟩, ⟨Jl, Jm⟩, Po⟩⟩, iF, h⟩ := h
 try dsimp only at h
 refine aH (dw hΩ (fV hE) iF) (cv ?_)
 replace h := bJ h
 obtain ⟨LZ, iH, h⟩ := h
 refine au (aeT iH) (cv ?_)
 obtain rfl := kM h
 subst_vars
 exact s3
 obtain rfl := kM h
 subst_vars
 exact sL
 clear mY
 rcases q with ⟨o16, CO⟩
 dsimp only at h
 conv => arg 1; cbv
 exact sp h
theorem atP : ∀ fu,
 (∀ {a0 : Act} {r : Int}, YM fu a0 = some r → ∀ {args : List PV}, [nU E a0] = args → ∀ (st : St), Sat (Ω.cf 109 args st) (fun q => q = (PV.d (.int .i64 r), st))) ∧
 (∀ {a0 : Expr} {r : Int}, Sg fu a0 = some r → ∀ {args : List PV}, [kQ E a0] = args → ∀ (st : St), Sat (Ω.cf 119 args st) (fun q => q = (PV.d (.int .i64 r), st))) ∧
 (∀ {a0 : Sl Expr} {r : Int}, abj fu a0 = some r → ∀ {args : List PV}, [PV.d (.sl (E.dP a0.l) (E.d9 a0.x))] = args → ∀ (st : St), Sat (Ω.cf 127 args st) (fun q => q = (PV.d (.int .i64 r), st))) ∧
 (∀ {a0 : Sl Act} {r : Int}, P92 fu a0 = some r → ∀ {args : List PV}, [PV.d (.sl (E.fD a0.l) (E.fU a0.x))] = args → ∀ (st : St), Sat (Ω.cf 92 args st) (fun q => q = (PV.d (.int .i64 r), st))) := by
 intro fu
 induction fu with
 | zero => exact ⟨(fun h => (by cases h)), (fun h => (by cases h)), (fun h => (by cases h)), (fun h => (by cases h))⟩
 | succ fu ih =>
  obtain ⟨i109, anH, i127, i92⟩ := ih
  exact ⟨(fun h => @fun args ha st => atL (fu := fu) hΩ hE i109 anH i127 i92 h ha st), (fun h => @fun args ha st => atM (fu := fu) hΩ hE i109 anH i127 i92 h ha st), (fun h => @fun args ha st => atO (fu := fu) hΩ hE i109 anH i127 i92 h ha st), (fun h => @fun args ha st => axC (fu := fu) hΩ hE i109 anH i127 i92 h ha st)⟩
theorem atQ : ∀ {a0 : Sl Act} {r : Int}, P92 fu a0 = some r → ∀ {args : List PV}, [PV.d (.sl (E.fD a0.l) (E.fU a0.x))] = args → ∀ (st : St), Sat (Ω.cf 92 args st) (fun q => q = (PV.d (.int .i64 r), st)) := (atP hΩ hE fu).2.2.2
set_option maxHeartbeats 4000000 in
theorem azf {a0 : Cell} {r : Int} (h : P71 fu a0 = some r) {args : List PV} (ha : [Ap E a0] = args) (st : St) :
 Sat (Ω.cf 71 args st) (fun q => q = (PV.d (.int .i64 r), st)) := by
 subst ha
 rcases a0 with ⟨bn, gG, ⟨lT, lU, lV, ⟨ji, jk⟩, ⟨jl, jm⟩, tJ, lW, tK⟩, ⟨lG, lH, lJ, ⟨jd, je⟩, ⟨jf, jh⟩, lK, lM, lQ⟩, ⟨aF, aJ⟩, ⟨jS, jT⟩, ⟨tL, tN⟩, ⟨jU, jV⟩, Fv, dD, ⟨tO, tQ⟩, ⟨bB, bH⟩⟩
 rw [aK hΩ (f := 71) (fn := Try.f71) (x := c71) rfl rfl asc rfl rfl rfl]
 unfold P71 at h
 try dsimp only at h
 conv => arg 1; cbv
 replace h := bJ h
 obtain ⟨i4, atS, h⟩ := h
 refine aN hΩ ((fun (q : Int) => (match q with | i4 => (.normal, [(1, PV.dA (zD7 E bn gG lT lU lV ji jk jl jm tJ lW tK lG lH lJ jd je jf jh lK lM lQ aF aJ jS jT tL tN jU jV Fv dD tO tQ bB bH)), (2, vi 0), (3, vi i4)], nO :: st))) i4) (fun k hk => ?_) ?_
 clear h
 have h := atS
 clear atS
 conv => arg 1; cbv
 revert h; refine eU (fun hb1 h => cv ?_) fun hb1 h => cv ?_
 replace h := bJ h
 obtain ⟨r2, hx3, h⟩ := h
 refine au (ak2 hΩ hE hx3) (cv ?_)
 exact fk h hk
 exact fk h hk
 clear atS
 try dsimp only at h
 conv => arg 1; cbv
 replace h := bJ h
 obtain ⟨i8, atT, h⟩ := h
 refine aN hΩ ((fun (q : Int) => (match q with | i8 => (.normal, [(1, PV.dA (zD7 E bn gG lT lU lV ji jk jl jm tJ lW tK lG lH lJ jd je jf jh lK lM lQ aF aJ jS jT tL tN jU jV Fv dD tO tQ bB bH)), (2, vi 0), (3, vi i8)], nO :: st))) i8) (fun k hk => ?_) ?_
 clear h
 have h := atT
 clear atT
 conv => arg 1; cbv
 revert h; refine eU (fun hb5 h => cv ?_) fun hb5 h => cv ?_
 replace h := bJ h
 obtain ⟨r6, hx7, h⟩ := h
 refine au (ak2 hΩ hE hx7) (cv ?_)
 exact fk h hk
 exact fk h hk
 clear atT
 try dsimp only at h
 conv => arg 1; cbv
 replace h := bJ h
 obtain ⟨i12, atU, h⟩ := h
 refine aN hΩ ((fun (q : Int) => (match q with | i12 => (.normal, [(1, PV.dA (zD7 E bn gG lT lU lV ji jk jl jm tJ lW tK lG lH lJ jd je jf jh lK lM lQ aF aJ jS jT tL tN jU jV Fv dD tO tQ bB bH)), (2, vi 0), (3, vi i12)], nO :: st))) i12) (fun k hk => ?_) ?_
 clear h
 have h := atU
 clear atU
 conv => arg 1; cbv
 revert h; refine eU (fun vN h => cv ?_) fun vN h => cv ?_
 replace h := bJ h
 obtain ⟨Xn, iF, h⟩ := h
 refine au (aze hΩ hE iF) (cv ?_)
 exact fk h hk
 exact fk h hk
 clear atU
 try dsimp only at h
 conv => arg 1; cbv
 replace h := bJ h
 obtain ⟨i16, atV, h⟩ := h
 refine aN hΩ ((fun (q : Int) => (match q with | i16 => (.normal, [(1, PV.dA (zD7 E bn gG lT lU lV ji jk jl jm tJ lW tK lG lH lJ jd je jf jh lK lM lQ aF aJ jS jT tL tN jU jV Fv dD tO tQ bB bH)), (2, vi 0), (3, vi i16)], nO :: st))) i16) (fun k hk => ?_) ?_
 clear h
 have h := atV
 clear atV
 conv => arg 1; cbv
 revert h; refine eU (fun rM h => cv ?_) fun rM h => cv ?_
 replace h := bJ h
 obtain ⟨zC, uG, h⟩ := h
 refine au (atQ hΩ hE uG) (cv ?_)
 exact fk h hk
 exact fk h hk
 clear atV
 try dsimp only at h
 conv => arg 1; cbv
 replace h := bJ h
 obtain ⟨i20, atW, h⟩ := h
 refine aN hΩ ((fun (q : Int) => (match q with | i20 => (.normal, [(1, PV.dA (zD7 E bn gG lT lU lV ji jk jl jm tJ lW tK lG lH lJ jd je jf jh lK lM lQ aF aJ jS jT tL tN jU jV Fv dD tO tQ bB bH)), (2, vi 0), (3, vi i20)], nO :: st))) i20) (fun k hk => ?_) ?_
 clear h
 have h := atW
 clear atW
 conv => arg 1; cbv
 revert h; refine eU (fun kF h => cv ?_) fun kF h => cv ?_
 replace h := bJ h
 obtain ⟨YL, RD, h⟩ := h
 refine au (atQ hΩ hE RD) (cv ?_)
 exact fk h hk
 exact fk h hk
 clear atW
 try dsimp only at h
 conv => arg 1; cbv
 replace h := bJ h
 obtain ⟨i24, ach, h⟩ := h
 refine aN hΩ ((fun (q : Int) => (match q with | i24 => (.normal, [(1, PV.dA (zD7 E bn gG lT lU lV ji jk jl jm tJ lW tK lG lH lJ jd je jf jh lK lM lQ aF aJ jS jT tL tN jU jV Fv dD tO tQ bB bH)), (2, vi 0), (3, vi i24)], nO :: st))) i24) (fun k hk => ?_) ?_
 clear h
 have h := ach
 clear ach
 conv => arg 1; cbv
 revert h; refine eU (fun aci h => cv ?_) fun aci h => cv ?_
 replace h := bJ h
 obtain ⟨r22, acj, h⟩ := h
 refine au (axA hΩ hE acj) (cv ?_)
 exact fk h hk
 exact fk h hk
 clear ach
 try dsimp only at h
 conv => arg 1; cbv
 replace h := bJ h
 obtain ⟨i28, atX, h⟩ := h
 refine aN hΩ ((fun (q : Int) => (match q with | i28 => (.normal, [(1, PV.dA (zD7 E bn gG lT lU lV ji jk jl jm tJ lW tK lG lH lJ jd je jf jh lK lM lQ aF aJ jS jT tL tN jU jV Fv dD tO tQ bB bH)), (2, vi 0), (3, vi i28)], nO :: st))) i28) (fun k hk => ?_) ?_
 clear h
 have h := atX
 clear atX
 conv => arg 1; cbv
 revert h; refine eU (fun xR h => cv ?_) fun xR h => cv ?_
 replace h := bJ h
 obtain ⟨r26, hx27, h⟩ := h
 refine au (atQ hΩ hE hx27) (cv ?_)
 exact fk h hk
 exact fk h hk
 clear atX
 try dsimp only at h
 conv => arg 1; cbv
 replace h := bJ h
 obtain ⟨i32, atY, h⟩ := h
 refine aN hΩ ((fun (q : Int) => (match q with | i32 => (.normal, [(1, PV.dA (zD7 E bn gG lT lU lV ji jk jl jm tJ lW tK lG lH lJ jd je jf jh lK lM lQ aF aJ jS jT tL tN jU jV Fv dD tO tQ bB bH)), (2, vi 0), (3, vi i32)], nO :: st))) i32) (fun k hk => ?_) ?_
 clear h
 have h := atY
 clear atY
 conv => arg 1; cbv
 revert h; refine eU (fun azg h => cv ?_) fun azg h => cv ?_
 replace h := bJ h
 obtain ⟨r30, hx31, h⟩ := h
 refine au (axA hΩ hE hx31) (cv ?_)
 exact fk h hk
 exact fk h hk
 clear atY
 try dsimp only at h
 conv => arg 1; cbv
 exact sp h
set_option maxHeartbeats 4000000 in
theorem axD {a0 : Sl Cell} {r : Int} (h : P46 fu a0 = some r) {args : List PV} (ha : [PV.d (.sl (E.iE a0.l) (E.ku a0.x))] = args) (st : St) :
 Sat (Ω.cf 46 args st) (fun q => q = (PV.d (.int .i64 r), st)) := by
 subst ha
 rcases a0 with ⟨aj, bF⟩
 rw [aK hΩ (f := 46) (fn := Try.f46) (x := c46) rfl rfl ar5 rfl rfl rfl]
 unfold P46 at h
 try dsimp only at h
 conv => arg 1; cbv
 refine bQ hΩ (eP hE) aj fun n1 hn2 => cv ?_
 replace h := bJ h
 obtain ⟨q, mY, h⟩ := h
 refine dV hΩ (fun (a : Int × Int) => (match a with | (i3, i4) => ([(0, PV.d (.sl (E.iE aj) (E.ku bF))), (2, vi 0), (3, vi i3), (4, vi i4)], nO :: st))) (fun (q : (Int × Int)) => (match q with | (o16, CO) => (.exit 0, [(0, PV.d (.sl (E.iE aj) (E.ku bF))), (2, vi 0), (3, vi o16), (4, vi CO)], nO :: st))) (ln aj, 0) mY ?_ ?_
 clear h mY
 rintro ⟨i3, i4⟩ q h
 unfold Vh at h
 dsimp only at h
 conv => arg 1; cbv
 replace h := bJ h
 obtain ⟨i8, sH, h⟩ := h
 refine aN hΩ ((fun (q : Bool) => (match q with | i8 => ([(0, PV.d (.sl (E.iE aj) (E.ku bF))), (2, vi 0), (3, vi i3), (4, vi i4), (14, vb i8)], nO :: st))) i8) (fun k hk => ?_) ?_
 clear h
 have h := sH
 clear sH
 conv => arg 1; cbv
 refine bQ hΩ (eP hE) aj fun n5 hn6 => cv ?_
 revert h; refine eU (fun Ck h => cv ?_) fun Ck h => cv ?_
 exact fk h hk
 exact fk h hk
 clear sH
 try dsimp only at h
 conv => arg 1; cbv
 refine bO hΩ (cv ?_)
 revert h; refine eU (fun vN h => cv ?_) fun vN h => cv ?_
 refine sat_true (dL hΩ (eP hE) aj) (cv ?_)
 replace h := bJ h
 obtain ⟨⟨gI, j6, ⟨wR, wS, wT, ⟨qK, qL⟩, ⟨qM, qN⟩, Pp, wU, Pq⟩, ⟨wV, wW, wX, ⟨qO, qP⟩, ⟨qQ, qR⟩, wY, wZ, w9⟩, ⟨jD, jE⟩, ⟨wN, wO⟩, ⟨Pt, Pv⟩, ⟨wP, wQ⟩, YN, tH, ⟨Pw, Px⟩, ⟨xq, xu⟩⟩, iF, h⟩ := h
 try dsimp only at h
 refine aH (dw hΩ (eP hE) iF) (cv ?_)
 replace h := bJ h
 obtain ⟨LZ, iH, h⟩ := h
 refine au (azf hΩ hE iH) (cv ?_)
 obtain rfl := kM h
 subst_vars
 exact s3
 obtain rfl := kM h
 subst_vars
 exact sL
 clear mY
 rcases q with ⟨o16, CO⟩
 dsimp only at h
 conv => arg 1; cbv
 exact sp h
set_option maxHeartbeats 4000000 in
theorem axE {a0 : Sl Child} {r : Int} (h : P47 fu a0 = some r) {args : List PV} (ha : [PV.d (.sl (E.fQ a0.l) (E.iJ a0.x))] = args) (st : St) :
 Sat (Ω.cf 47 args st) (fun q => q = (PV.d (.int .i64 r), st)) := by
 subst ha
 rcases a0 with ⟨aj, bF⟩
 rw [aK hΩ (f := 47) (fn := Try.f47) (x := c47) rfl rfl ar6 rfl rfl rfl]
 unfold P47 at h
 try dsimp only at h
 conv => arg 1; cbv
 refine bQ hΩ (dQ hE) aj fun n1 hn2 => cv ?_
 replace h := bJ h
 obtain ⟨q, mY, h⟩ := h
 refine dV hΩ (fun (a : Int × Int) => (match a with | (i3, i4) => ([(0, PV.d (.sl (E.fQ aj) (E.iJ bF))), (2, vi 0), (3, vi i3), (4, vi i4)], nO :: st))) (fun (q : (Int × Int)) => (match q with | (o16, CO) => (.exit 0, [(0, PV.d (.sl (E.fQ aj) (E.iJ bF))), (2, vi 0), (3, vi o16), (4, vi CO)], nO :: st))) (ln aj, 0) mY ?_ ?_
 clear h mY
 rintro ⟨i3, i4⟩ q h
 unfold Vi at h
 dsimp only at h
 conv => arg 1; cbv
 replace h := bJ h
 obtain ⟨i8, sH, h⟩ := h
 refine aN hΩ ((fun (q : Bool) => (match q with | i8 => ([(0, PV.d (.sl (E.fQ aj) (E.iJ bF))), (2, vi 0), (3, vi i3), (4, vi i4), (14, vb i8)], nO :: st))) i8) (fun k hk => ?_) ?_
 clear h
 have h := sH
 clear sH
 conv => arg 1; cbv
 refine bQ hΩ (dQ hE) aj fun n5 hn6 => cv ?_
 revert h; refine eU (fun Ck h => cv ?_) fun Ck h => cv ?_
 exact fk h hk
 exact fk h hk
 clear sH
 try dsimp only at h
 conv => arg 1; cbv
 refine bO hΩ (cv ?_)
 revert h; refine eU (fun vN h => cv ?_) fun vN h => cv ?_
 refine sat_true (dL hΩ (dQ hE) aj) (cv ?_)
 replace h := bJ h
 obtain ⟨⟨gI, j6, qc, ⟨wV, wW, wX, ⟨qO, qP⟩, ⟨qQ, qR⟩, wY, wZ, w9⟩⟩, iF, h⟩ := h
 try dsimp only at h
 refine aH (dw hΩ (dQ hE) iF) (cv ?_)
 replace h := bJ h
 obtain ⟨LZ, iH, h⟩ := h
 refine au (atK hΩ hE iH) (cv ?_)
 obtain rfl := kM h
 subst_vars
 exact s3
 obtain rfl := kM h
 subst_vars
 exact sL
 clear mY
 rcases q with ⟨o16, CO⟩
 dsimp only at h
 conv => arg 1; cbv
 exact sp h
def H16 (Ω : Om) (E : Enc) (p16 : Inst → Option (Int)) : Prop := ∀ {a0 : Inst} {r : Int}, p16 a0 = some r → ∀ {args : List PV}, [cZ E a0] = args → ∀ (st : St), Sat (Ω.cf 16 args st) (fun q => q = (PV.d (.int .i64 r), st))
def H48 (Ω : Om) (E : Enc) (p48 : (Sl Inst) → Option (Int)) : Prop := ∀ {a0 : Sl Inst} {r : Int}, p48 a0 = some r → ∀ {args : List PV}, [PV.d (.sl (E.aG a0.l) (E.bR a0.x))] = args → ∀ (st : St), Sat (Ω.cf 48 args st) (fun q => q = (PV.d (.int .i64 r), st))
set_option maxHeartbeats 4000000 in
theorem axF {p16 : Inst → Option (Int)} (axG : H16 Ω E p16) {p48 : (Sl Inst) → Option (Int)} (atZ : H48 Ω E p48) {a0 : Inst} {r : Int} (h : amE fu p16 p48 a0 = some r) {args : List PV} (ha : [cZ E a0] = args) (st : St) :
 Sat (Ω.cf 16 args st) (fun q => q = (PV.d (.int .i64 r), st)) := by
 subst ha
 rcases a0 with ⟨bn, ⟨bK, aL, bL, ⟨aT, aU, aV, ⟨av, ay⟩, ⟨aA, aB⟩, aW, aX, aY⟩⟩, ⟨bU, cO⟩, ⟨aZ, bf⟩, ⟨aF, aJ⟩, dM, dI, dN, ⟨bX, bY, bZ, ⟨aP, aQ⟩, ⟨aR, aS⟩, cu, cB, cK⟩, dD, dY, ⟨bB, bH⟩, eB, eD⟩
 rw [aK hΩ (f := 16) (fn := Try.f16) (x := c16) rfl rfl arW rfl rfl rfl]
 unfold amE at h
 try dsimp only at h
 conv => arg 1; cbv
 replace h := bJ h
 obtain ⟨i4, at0, h⟩ := h
 refine aN hΩ ((fun (q : Int) => (match q with | i4 => (.normal, [(1, PV.dA (uL E bn bK aL bL aT aU aV av ay aA aB aW aX aY bU cO aZ bf aF aJ dM dI dN bX bY bZ aP aQ aR aS cu cB cK dD dY bB bH eB eD)), (2, vi 0), (3, vi i4)], nO :: st))) i4) (fun k hk => ?_) ?_
 clear h
 have h := at0
 clear at0
 conv => arg 1; cbv
 revert h; refine eU (fun hb1 h => cv ?_) fun hb1 h => cv ?_
 replace h := bJ h
 obtain ⟨r2, hx3, h⟩ := h
 refine au (atK hΩ hE hx3) (cv ?_)
 exact fk h hk
 exact fk h hk
 clear at0
 try dsimp only at h
 conv => arg 1; cbv
 replace h := bJ h
 obtain ⟨i8, acn, h⟩ := h
 refine aN hΩ ((fun (q : Int) => (match q with | i8 => (.normal, [(1, PV.dA (uL E bn bK aL bL aT aU aV av ay aA aB aW aX aY bU cO aZ bf aF aJ dM dI dN bX bY bZ aP aQ aR aS cu cB cK dD dY bB bH eB eD)), (2, vi 0), (3, vi i8)], nO :: st))) i8) (fun k hk => ?_) ?_
 clear h
 have h := acn
 clear acn
 conv => arg 1; cbv
 revert h; refine eU (fun hb5 h => cv ?_) fun hb5 h => cv ?_
 replace h := bJ h
 obtain ⟨r6, hx7, h⟩ := h
 refine au (axD hΩ hE hx7) (cv ?_)
 exact fk h hk
 exact fk h hk
 clear acn
 try dsimp only at h
 conv => arg 1; cbv
 replace h := bJ h
 obtain ⟨i12, at1, h⟩ := h
 refine aN hΩ ((fun (q : Int) => (match q with | i12 => (.normal, [(1, PV.dA (uL E bn bK aL bL aT aU aV av ay aA aB aW aX aY bU cO aZ bf aF aJ dM dI dN bX bY bZ aP aQ aR aS cu cB cK dD dY bB bH eB eD)), (2, vi 0), (3, vi i12)], nO :: st))) i12) (fun k hk => ?_) ?_
 clear h
 have h := at1
 clear at1
 conv => arg 1; cbv
 revert h; refine eU (fun vN h => cv ?_) fun vN h => cv ?_
 replace h := bJ h
 obtain ⟨Xn, iF, h⟩ := h
 refine au (axE hΩ hE iF) (cv ?_)
 exact fk h hk
 exact fk h hk
 clear at1
 try dsimp only at h
 conv => arg 1; cbv
 replace h := bJ h
 obtain ⟨i16, lC, h⟩ := h
 refine aN hΩ ((fun (q : Int) => (match q with | i16 => (.normal, [(1, PV.dA (uL E bn bK aL bL aT aU aV av ay aA aB aW aX aY bU cO aZ bf aF aJ dM dI dN bX bY bZ aP aQ aR aS cu cB cK dD dY bB bH eB eD)), (2, vi 0), (3, vi i16)], nO :: st))) i16) (fun k hk => ?_) ?_
 clear h
 have h := lC
 clear lC
 conv => arg 1; cbv
 revert h; refine eU (fun rM h => cv ?_) fun rM h => cv ?_
 replace h := bJ h
 obtain ⟨zC, uG, h⟩ := h
 refine au (atZ uG) (cv ?_)
 exact fk h hk
 exact fk h hk
 clear lC
 try dsimp only at h
 conv => arg 1; cbv
 replace h := bJ h
 obtain ⟨i20, aco, h⟩ := h
 refine aN hΩ ((fun (q : Int) => (match q with | i20 => (.normal, [(1, PV.dA (uL E bn bK aL bL aT aU aV av ay aA aB aW aX aY bU cO aZ bf aF aJ dM dI dN bX bY bZ aP aQ aR aS cu cB cK dD dY bB bH eB eD)), (2, vi 0), (3, vi i20)], nO :: st))) i20) (fun k hk => ?_) ?_
 clear h
 have h := aco
 clear aco
 conv => arg 1; cbv
 revert h; refine eU (fun kF h => cv ?_) fun kF h => cv ?_
 replace h := bJ h
 obtain ⟨YL, RD, h⟩ := h
 refine au (ak2 hΩ hE RD) (cv ?_)
 exact fk h hk
 exact fk h hk
 clear aco
 try dsimp only at h
 conv => arg 1; cbv
 replace h := bJ h
 obtain ⟨i24, ace, h⟩ := h
 refine aN hΩ ((fun (q : Int) => (match q with | i24 => (.normal, [(1, PV.dA (uL E bn bK aL bL aT aU aV av ay aA aB aW aX aY bU cO aZ bf aF aJ dM dI dN bX bY bZ aP aQ aR aS cu cB cK dD dY bB bH eB eD)), (2, vi 0), (3, vi i24)], nO :: st))) i24) (fun k hk => ?_) ?_
 clear h
 have h := ace
 clear ace
 conv => arg 1; cbv
 revert h; refine eU (fun aci h => cv ?_) fun aci h => cv ?_
 replace h := bJ h
 obtain ⟨r22, acj, h⟩ := h
 refine au (atZ acj) (cv ?_)
 exact fk h hk
 exact fk h hk
 clear ace
 try dsimp only at h
 conv => arg 1; cbv
 exact sp h
set_option maxHeartbeats 4000000 in
theorem axH {p16 : Inst → Option (Int)} (axG : H16 Ω E p16) {p48 : (Sl Inst) → Option (Int)} (atZ : H48 Ω E p48) {a0 : Sl Inst} {r : Int} (h : amF fu p16 p48 a0 = some r) {args : List PV} (ha : [PV.d (.sl (E.aG a0.l) (E.bR a0.x))] = args) (st : St) :
 Sat (Ω.cf 48 args st) (fun q => q = (PV.d (.int .i64 r), st)) := by
 subst ha
 rcases a0 with ⟨aj, bF⟩
 rw [aK hΩ (f := 48) (fn := Try.f48) (x := c48) rfl rfl ar7 rfl rfl rfl]
 unfold amF at h
 try dsimp only at h
 conv => arg 1; cbv
 refine bQ hΩ (aD hE) aj fun n1 hn2 => cv ?_
 replace h := bJ h
 obtain ⟨q, mY, h⟩ := h
 refine dV hΩ (fun (a : Int × Int) => (match a with | (i3, i4) => ([(0, PV.d (.sl (E.aG aj) (E.bR bF))), (2, vi 0), (3, vi i3), (4, vi i4)], nO :: st))) (fun (q : (Int × Int)) => (match q with | (o16, CO) => (.exit 0, [(0, PV.d (.sl (E.aG aj) (E.bR bF))), (2, vi 0), (3, vi o16), (4, vi CO)], nO :: st))) (ln aj, 0) mY ?_ ?_
 clear h mY
 rintro ⟨i3, i4⟩ q h
 unfold Vj at h
 dsimp only at h
 conv => arg 1; cbv
 replace h := bJ h
 obtain ⟨i8, sH, h⟩ := h
 refine aN hΩ ((fun (q : Bool) => (match q with | i8 => ([(0, PV.d (.sl (E.aG aj) (E.bR bF))), (2, vi 0), (3, vi i3), (4, vi i4), (14, vb i8)], nO :: st))) i8) (fun k hk => ?_) ?_
 clear h
 have h := sH
 clear sH
 conv => arg 1; cbv
 refine bQ hΩ (aD hE) aj fun n5 hn6 => cv ?_
 revert h; refine eU (fun Ck h => cv ?_) fun Ck h => cv ?_
 exact fk h hk
 exact fk h hk
 clear sH
 try dsimp only at h
 conv => arg 1; cbv
 refine bO hΩ (cv ?_)
 revert h; refine eU (fun vN h => cv ?_) fun vN h => cv ?_
 refine sat_true (dL hΩ (aD hE) aj) (cv ?_)
 replace h := bJ h
 obtain ⟨⟨gI, ⟨qD, qE, qF, ⟨Jo, Jp, Jq, ⟨D7, D8⟩, ⟨D9, Ea⟩, Jr, Js, Jt⟩⟩, ⟨Py, Pz⟩, ⟨mo, mq⟩, ⟨jD, jE⟩, yA, qd, yB, ⟨PD, PE, PG, ⟨Ju, Jv⟩, ⟨Jw, Jy⟩, PI, PK, PL⟩, tH, YO, ⟨xq, xu⟩, YP, YQ⟩, iF, h⟩ := h
 try dsimp only at h
 refine aH (dw hΩ (aD hE) iF) (cv ?_)
 replace h := bJ h
 obtain ⟨LZ, iH, h⟩ := h
 refine au (axG iH) (cv ?_)
 obtain rfl := kM h
 subst_vars
 exact s3
 obtain rfl := kM h
 subst_vars
 exact sL
 clear mY
 rcases q with ⟨o16, CO⟩
 dsimp only at h
 conv => arg 1; cbv
 exact sp h
theorem axI : ∀ fu,
 (∀ {a0 : Inst} {r : Int}, P16 fu a0 = some r → ∀ {args : List PV}, [cZ E a0] = args → ∀ (st : St), Sat (Ω.cf 16 args st) (fun q => q = (PV.d (.int .i64 r), st))) ∧
 (∀ {a0 : Sl Inst} {r : Int}, P48 fu a0 = some r → ∀ {args : List PV}, [PV.d (.sl (E.aG a0.l) (E.bR a0.x))] = args → ∀ (st : St), Sat (Ω.cf 48 args st) (fun q => q = (PV.d (.int .i64 r), st))) := by
 intro fu
 induction fu with
 | zero => exact ⟨(fun h => (by cases h)), (fun h => (by cases h))⟩
 | succ fu ih =>
  obtain ⟨i16, i48⟩ := ih
  exact ⟨(fun h => @fun args ha st => axF (fu := fu) hΩ hE i16 i48 h ha st), (fun h => @fun args ha st => axH (fu := fu) hΩ hE i16 i48 h ha st)⟩
theorem ok16 : ∀ {a0 : Inst} {r : Int}, P16 fu a0 = some r → ∀ {args : List PV}, [cZ E a0] = args → ∀ (st : St), Sat (Ω.cf 16 args st) (fun q => q = (PV.d (.int .i64 r), st)) := (axI hΩ hE fu).1
set_option maxHeartbeats 4000000 in
theorem azh {a0 : Sl Int} {r : Bool} (h : P23 fu a0 = some r) {args : List PV} (ha : [PV.d (.sl (E.Fj a0.l) (E.Fp a0.x))] = args) (st : St) :
 Sat (Ω.cf 23 args st) (fun q => q = (PV.d (.bool r), st)) := by
 subst ha
 rcases a0 with ⟨aj, bF⟩
 rw [aK hΩ (f := 23) (fn := Try.f23) (x := c23) rfl rfl arX rfl rfl rfl]
 unfold P23 at h
 try dsimp only at h
 conv => arg 1; cbv
 replace h := bJ h
 obtain ⟨q, RF, h⟩ := h
 refine dV hΩ (fun (a : Bool × Int × Int) => (match a with | (i1, i2, i3) => ([(0, PV.d (.sl (E.Fj aj) (E.Fp bF))), (2, vb i1), (3, vi i2), (4, vi i3)], nO :: st))) (fun (q : (Bool × Int × Int) ⊕ (Bool × Int × Int)) => (match q with | .inl (o11, o12, o13) => (.exit 0, [(0, PV.d (.sl (E.Fj aj) (E.Fp bF))), (2, vb o11), (3, vi o12), (4, vi o13)], nO :: st) | .inr (Vf, o15, o16) => (.ret, [(0, PV.d (.sl (E.Fj aj) (E.Fp bF))), (2, vb Vf), (3, vi o15), (4, vi o16)], nO :: st))) (false, 0, 0) RF ?_ ?_
 clear h RF
 rintro ⟨i1, i2, i3⟩ q h
 unfold PN at h
 dsimp only at h
 conv => arg 1; cbv
 refine bQ hΩ (Pk hE) aj fun n4 hn5 => cv ?_
 refine bO hΩ (cv ?_)
 revert h; refine eU (fun hb6 h => cv ?_) fun hb6 h => cv ?_
 refine sat_true (dL hΩ (Pk hE) aj) (cv ?_)
 replace h := bJ h
 obtain ⟨x7, RG, h⟩ := h
 refine aH (dw hΩ (Pk hE) RG) (cv ?_)
 refine bO hΩ (cv ?_)
 revert h; refine eU (fun vN h => cv ?_) fun vN h => cv ?_
 obtain rfl := kM h
 subst_vars
 exact sR
 obtain rfl := kM h
 subst_vars
 exact s3
 obtain rfl := kM h
 subst_vars
 exact sL
 clear RF
 rcases q with ⟨o11, o12, o13⟩ | ⟨Vf, o15, o16⟩
 dsimp only at h
 conv => arg 1; cbv
 exact sp h
 dsimp only at h
 conv => arg 1; cbv
 exact sp h
def H24 (Ω : Om) (E : Enc) (p24 : Inst → Int → Option (Int)) : Prop := ∀ {a0 : Inst} {a1 : Int} {r : Int}, p24 a0 a1 = some r → ∀ {args : List PV}, [cZ E a0, PV.d (.int .i64 a1)] = args → ∀ (st : St), Sat (Ω.cf 24 args st) (fun q => q = (PV.d (.int .i64 r), st))
set_option maxHeartbeats 4000000 in
theorem axJ {p24 : Inst → Int → Option (Int)} (axK : H24 Ω E p24) {a0 : Inst} {a1 : Int} {r : Int} (h : amG fu p24 a0 a1 = some r) {args : List PV} (ha : [cZ E a0, PV.d (.int .i64 a1)] = args) (st : St) :
 Sat (Ω.cf 24 args st) (fun q => q = (PV.d (.int .i64 r), st)) := by
 subst ha
 rcases a0 with ⟨bn, ⟨bK, aL, bL, ⟨aT, aU, aV, ⟨av, ay⟩, ⟨aA, aB⟩, aW, aX, aY⟩⟩, ⟨bU, cO⟩, ⟨aZ, bf⟩, ⟨aF, aJ⟩, dM, dI, dN, ⟨bX, bY, bZ, ⟨aP, aQ⟩, ⟨aR, aS⟩, cu, cB, cK⟩, dD, dY, ⟨bB, bH⟩, eB, eD⟩
 rw [aK hΩ (f := 24) (fn := Try.f24) (x := c24) rfl rfl arY rfl rfl rfl]
 unfold amG at h
 try dsimp only at h
 conv => arg 1; cbv
 replace h := bJ h
 obtain ⟨r1, hx2, h⟩ := h
 refine au (atK hΩ hE hx2) (cv ?_)
 refine sat_true (fP hΩ _) (cv ?_)
 replace h := bJ h
 obtain ⟨r3, hx4, h⟩ := h
 refine au (axD hΩ hE hx4) (cv ?_)
 refine sat_true (fP hΩ _) (cv ?_)
 replace h := bJ h
 obtain ⟨r5, hx6, h⟩ := h
 refine au (axE hΩ hE hx6) (cv ?_)
 refine sat_true (fP hΩ _) (cv ?_)
 refine ah hΩ (cv ?_)
 replace h := bJ h
 obtain ⟨r7, RG, h⟩ := h
 refine au (ak2 hΩ hE RG) (cv ?_)
 refine sat_true (fP hΩ _) (cv ?_)
 replace h := bJ h
 obtain ⟨q, at5, h⟩ := h
 refine dV hΩ (fun (a : Int × Int) => (match a with | (i9, i10) => ([(1, vi a1), (2, PV.dA (uL E bn bK aL bL aT aU aV av ay aA aB aW aX aY bU cO aZ bf aF aJ dM dI dN bX bY bZ aP aQ aR aS cu cB cK dD dY bB bH eB eD)), (4, vi 0), (5, vi i9), (6, vi i10)], nO :: st))) (fun (q : (Int × Int)) => (match q with | (o22, o23) => (.exit 0, [(1, vi a1), (2, PV.dA (uL E bn bK aL bL aT aU aV av ay aA aB aW aX aY bU cO aZ bf aF aJ dM dI dN bX bY bZ aP aQ aR aS cu cB cK dD dY bB bH eB eD)), (4, vi 0), (5, vi o22), (6, vi o23)], nO :: st))) (gD (a1 * (gD ((gD ((gD ((gD (1 + r1)) + r3)) + r5)) + r7))), 0) at5 ?_ ?_
 clear h at5
 rintro ⟨i9, i10⟩ q h
 unfold PO at h
 dsimp only at h
 conv => arg 1; cbv
 replace h := bJ h
 obtain ⟨YR, at6, h⟩ := h
 refine aN hΩ ((fun (q : Bool) => (match q with | YR => ([(1, vi a1), (2, PV.dA (uL E bn bK aL bL aT aU aV av ay aA aB aW aX aY bU cO aZ bf aF aJ dM dI dN bX bY bZ aP aQ aR aS cu cB cK dD dY bB bH eB eD)), (4, vi 0), (5, vi i9), (6, vi i10), (34, vb YR)], nO :: st))) YR) (fun k hk => ?_) ?_
 clear h
 have h := at6
 clear at6
 conv => arg 1; cbv
 refine bQ hΩ (aD hE) aF fun n11 Z5 => cv ?_
 revert h; refine eU (fun rM h => cv ?_) fun rM h => cv ?_
 exact fk h hk
 exact fk h hk
 clear at6
 try dsimp only at h
 conv => arg 1; cbv
 refine bO hΩ (cv ?_)
 revert h; refine eU (fun acp h => cv ?_) fun acp h => cv ?_
 refine sat_true (dL hΩ (aD hE) aF) (cv ?_)
 replace h := bJ h
 obtain ⟨⟨ao4, ⟨aic, aie, aif, ⟨adC, adD, adE, ⟨YS, YT⟩, ⟨YU, YV⟩, adF, adG, adH⟩⟩, ⟨aii, aij⟩, ⟨aik, ail⟩, ⟨ain, aio⟩, ao5, ao6, ao7, ⟨aip, aiq, air, ⟨adI, adJ⟩, ⟨adK, adL⟩, ais, ait, aiu⟩, ao8, ao9, ⟨aiv, aiw⟩, apa, apb⟩, at7, h⟩ := h
 try dsimp only at h
 refine aH (dw hΩ (aD hE) at7) (cv ?_)
 replace h := bJ h
 obtain ⟨YL, RD, h⟩ := h
 refine au (axK RD) (cv ?_)
 obtain rfl := kM h
 subst_vars
 exact s3
 obtain rfl := kM h
 subst_vars
 exact sL
 clear at5
 rcases q with ⟨o22, o23⟩
 dsimp only at h
 conv => arg 1; cbv
 replace h := bJ h
 obtain ⟨q, aua, h⟩ := h
 refine dV hΩ (fun (a : Int × Int) => (match a with | (i24, i25) => ([(1, vi a1), (2, PV.dA (uL E bn bK aL bL aT aU aV av ay aA aB aW aX aY bU cO aZ bf aF aJ dM dI dN bX bY bZ aP aQ aR aS cu cB cK dD dY bB bH eB eD)), (4, vi 0), (5, vi i24), (6, vi o23), (7, vi i25)], nO :: st))) (fun (q : (Int × Int)) => (match q with | (o37, o38) => (.exit 2, [(1, vi a1), (2, PV.dA (uL E bn bK aL bL aT aU aV av ay aA aB aW aX aY bU cO aZ bf aF aJ dM dI dN bX bY bZ aP aQ aR aS cu cB cK dD dY bB bH eB eD)), (4, vi 0), (5, vi o37), (6, vi o23), (7, vi o38)], nO :: st))) (o22, 0) aua ?_ ?_
 clear h aua
 rintro ⟨i24, i25⟩ q h
 unfold PS at h
 dsimp only at h
 conv => arg 1; cbv
 replace h := bJ h
 obtain ⟨i29, ach, h⟩ := h
 refine aN hΩ ((fun (q : Bool) => (match q with | i29 => ([(1, vi a1), (2, PV.dA (uL E bn bK aL bL aT aU aV av ay aA aB aW aX aY bU cO aZ bf aF aJ dM dI dN bX bY bZ aP aQ aR aS cu cB cK dD dY bB bH eB eD)), (4, vi 0), (5, vi i24), (6, vi o23), (7, vi i25), (55, vb i29)], nO :: st))) i29) (fun k hk => ?_) ?_
 clear h
 have h := ach
 clear ach
 conv => arg 1; cbv
 refine bQ hΩ (aD hE) bB fun n26 aAr => cv ?_
 revert h; refine eU (fun azi h => cv ?_) fun azi h => cv ?_
 exact fk h hk
 exact fk h hk
 clear ach
 try dsimp only at h
 conv => arg 1; cbv
 refine bO hΩ (cv ?_)
 revert h; refine eU (fun azj h => cv ?_) fun azj h => cv ?_
 refine sat_true (dL hΩ (aD hE) bB) (cv ?_)
 replace h := bJ h
 obtain ⟨⟨apc, ⟨aix, aiy, aiz, ⟨adM, adN, adO, ⟨YW, YX⟩, ⟨YZ, Y0⟩, adP, adQ, adR⟩⟩, ⟨aiA, aiB⟩, ⟨aiC, aiD⟩, ⟨aiE, aiF⟩, apd, ape, apf, ⟨aiG, aiH, aiI, ⟨adS, adT⟩, ⟨adU, adV⟩, aiJ, aiK, aiL⟩, apg, aph, ⟨aiM, aiN⟩, apj, apk⟩, hx32, h⟩ := h
 try dsimp only at h
 refine aH (dw hΩ (aD hE) hx32) (cv ?_)
 replace h := bJ h
 obtain ⟨r33, hx34, h⟩ := h
 refine au (axK hx34) (cv ?_)
 obtain rfl := kM h
 subst_vars
 exact s3
 obtain rfl := kM h
 subst_vars
 exact sL
 clear aua
 rcases q with ⟨o37, o38⟩
 dsimp only at h
 conv => arg 1; cbv
 exact sp h
theorem axL : ∀ fu,
 (∀ {a0 : Inst} {a1 : Int} {r : Int}, P24 fu a0 a1 = some r → ∀ {args : List PV}, [cZ E a0, PV.d (.int .i64 a1)] = args → ∀ (st : St), Sat (Ω.cf 24 args st) (fun q => q = (PV.d (.int .i64 r), st))) := by
 intro fu
 induction fu with
 | zero => exact (fun h => (by cases h))
 | succ fu ih =>
  have i24 := @ih
  exact @fun _ _ _ h args ha st => axJ (fu := fu) hΩ hE i24 h ha st
theorem azk : ∀ {a0 : Inst} {a1 : Int} {r : Int}, P24 fu a0 a1 = some r → ∀ {args : List PV}, [cZ E a0, PV.d (.int .i64 a1)] = args → ∀ (st : St), Sat (Ω.cf 24 args st) (fun q => q = (PV.d (.int .i64 r), st)) := (axL hΩ hE fu)
set_option maxHeartbeats 4000000 in
theorem ok8 {a0 : Inst} {r : Bool} (h : P8 fu a0 = some r) {args : List PV} (ha : [cZ E a0] = args) (st : St) :
 Sat (Ω.cf 8 args st) (fun q => q = (PV.d (.bool r), st)) := by
 subst ha
 rcases a0 with ⟨bn, ⟨bK, aL, bL, ⟨aT, aU, aV, ⟨av, ay⟩, ⟨aA, aB⟩, aW, aX, aY⟩⟩, ⟨bU, cO⟩, ⟨aZ, bf⟩, ⟨aF, aJ⟩, dM, dI, dN, ⟨bX, bY, bZ, ⟨aP, aQ⟩, ⟨aR, aS⟩, cu, cB, cK⟩, dD, dY, ⟨bB, bH⟩, eB, eD⟩
 rw [aK hΩ (f := 8) (fn := Try.f8) (x := c8) rfl rfl av9 rfl rfl rfl]
 unfold P8 at h
 try dsimp only at h
 conv => arg 1; cbv
 replace h := bJ h
 obtain ⟨i8, hq9, h⟩ := h
 refine aN hΩ ((fun (q : Bool) => (match q with | i8 => ([(1, PV.dA (uL E bn bK aL bL aT aU aV av ay aA aB aW aX aY bU cO aZ bf aF aJ dM dI dN bX bY bZ aP aQ aR aS cu cB cK dD dY bB bH eB eD)), (2, vb i8)], nO :: st))) i8) (fun k hk => ?_) ?_
 clear h
 have h := hq9
 clear hq9
 conv => arg 1; cbv
 replace h := bJ h
 obtain ⟨r1, hx2, h⟩ := h
 refine au (ok16 hΩ hE hx2) (cv ?_)
 replace h := bJ h
 obtain ⟨r3, hx4, h⟩ := h
 refine au (azh hΩ hE hx4) (cv ?_)
 revert h; refine eU (fun hb5 h => cv ?_) fun hb5 h => cv ?_
 replace h := bJ h
 obtain ⟨r6, hx7, h⟩ := h
 refine au (azk hΩ hE hx7) (cv ?_)
 exact fk h hk
 exact fk h hk
 clear hq9
 try dsimp only at h
 conv => arg 1; cbv
 exact sp h
set_option maxHeartbeats 4000000 in
theorem axM {a0 : Sl Inst} {r : Bool} (h : P59 fu a0 = some r) {args : List PV} (ha : [PV.d (.sl (E.aG a0.l) (E.bR a0.x))] = args) (st : St) :
 Sat (Ω.cf 59 args st) (fun q => q = (PV.d (.bool r), st)) := by
 subst ha
 rcases a0 with ⟨aj, bF⟩
 rw [aK hΩ (f := 59) (fn := Try.f59) (x := c59) rfl rfl ahs rfl rfl rfl]
 unfold P59 at h
 try dsimp only at h
 conv => arg 1; cbv
 refine sat_empty hΩ (DW hE) fun m1 hm2 => cv ?_
 refine bQ hΩ (aD hE) aj fun n3 KD => cv ?_
 replace h := bJ h
 obtain ⟨q, hl12, h⟩ := h
 refine dV hΩ (fun (a : (List (ByteArray × Bool)) × Int) => (match a with | (m5, i6) => ([(0, PV.d (.sl (E.aG aj) (E.bR bF))), (2, vb false), (3, PV.map 0 0), (7, PV.d (.sl (E.aG aj) (E.bR bF))), (8, vi n3), (9, vi i6)], ([X.Obj.map .str true (E.wG m5)] : List X.Obj) :: st))) (fun (q : ((List (ByteArray × Bool)) × Int)) => (match q with | (o13, Vf) => (.exit 0, [(0, PV.d (.sl (E.aG aj) (E.bR bF))), (2, vb false), (3, PV.map 0 0), (7, PV.d (.sl (E.aG aj) (E.bR bF))), (8, vi n3), (9, vi Vf)], ([X.Obj.map .str true (E.wG o13)] : List X.Obj) :: st))) (([] : List (ByteArray × Bool)), 0) hl12 ?_ ?_
 clear h hl12
 rintro ⟨m5, i6⟩ q h
 unfold K5 at h
 dsimp only at h
 conv => arg 1; cbv
 refine bO hΩ (cv ?_)
 revert h; refine eU (fun Ck h => cv ?_) fun Ck h => cv ?_
 refine sat_true (dL hΩ (aD hE) aj) (cv ?_)
 replace h := bJ h
 obtain ⟨⟨uz, ⟨Cv, FL, FM, ⟨Gj, Gl, Gm, ⟨Aq, Ar⟩, ⟨Au, Av⟩, Gn, Gp, Gq⟩⟩, ⟨PU, PW⟩, ⟨zD, zF⟩, ⟨uJ, uK⟩, Si, K6, Sj, ⟨PX, PY, PZ, ⟨Gr, Gs⟩, ⟨Gt, Gu⟩, P5, P6, Qa⟩, K7, abk, ⟨FN, FP⟩, abl, abm⟩, EH, h⟩ := h
 try dsimp only at h
 refine aH (dw hΩ (aD hE) EH) (cv ?_)
 refine ac9 hΩ (DW hE) m5 Cv true fun m10 aAs => cv ?_
 obtain rfl := kM h
 subst_vars
 exact s3
 obtain rfl := kM h
 subst_vars
 exact sL
 clear hl12
 rcases q with ⟨o13, Vf⟩
 dsimp only at h
 conv => arg 1; cbv
 replace h := bJ h
 obtain ⟨i22, RB, h⟩ := h
 refine aN hΩ ((fun (q : Bool) => (match q with | i22 => ([(2, vb i22), (3, PV.map 0 0), (7, PV.d (.sl (E.aG aj) (E.bR bF))), (8, vi n3), (9, vi Vf)], ([X.Obj.map .str true (E.wG o13)] : List X.Obj) :: st))) i22) (fun k hk => ?_) ?_
 clear h
 have h := RB
 clear RB
 conv => arg 1; cbv
 refine bQ hΩ (aD hE) aj fun n15 hn16 => cv ?_
 revert h; refine eU (fun kF h => cv ?_) fun kF h => cv ?_
 refine ag4 hΩ (DW hE) o13 fun n18 aAt => cv ?_
 refine bQ hΩ (aD hE) aj fun n20 aAu => cv ?_
 exact fk h hk
 exact fk h hk
 clear RB
 try dsimp only at h
 conv => arg 1; cbv
 exact sp h
set_option maxHeartbeats 4000000 in
theorem azl {a0 : Sl Int} {a1 : Int} {r : Int} (h : P82 fu a0 a1 = some r) {args : List PV} (ha : [PV.d (.sl (E.yU a0.l) (E.DC a0.x)), PV.d (.int .u8 a1)] = args) (st : St) :
 Sat (Ω.cf 82 args st) (fun q => q = (PV.d (.int .i64 r), st)) := by
 subst ha
 rcases a0 with ⟨aj, bF⟩
 rw [aK hΩ (f := 82) (fn := Try.f82) (x := c82) rfl rfl ahB rfl rfl rfl]
 unfold P82 at h
 try dsimp only at h
 conv => arg 1; cbv
 refine bQ hΩ (Va hE) aj fun n1 hn2 => cv ?_
 replace h := bJ h
 obtain ⟨q, hl9, h⟩ := h
 refine dV hΩ (fun (a : Int × Int) => (match a with | (i3, i4) => ([(0, PV.d (.sl (E.yU aj) (E.DC bF))), (1, PV.d (.int .u8 a1)), (4, vi i3), (7, vi n1), (8, vi i4)], nO :: st))) (fun (q : (Int × Int) ⊕ (Int × Int)) => (match q with | .inl (o10, o11) => (.exit 0, [(0, PV.d (.sl (E.yU aj) (E.DC bF))), (1, PV.d (.int .u8 a1)), (4, vi o10), (7, vi n1), (8, vi o11)], nO :: st) | .inr (o12, o13) => (.ret, [(0, PV.d (.sl (E.yU aj) (E.DC bF))), (1, PV.d (.int .u8 a1)), (4, vi o12), (7, vi n1), (8, vi o13)], nO :: st))) (0, 0) hl9 ?_ ?_
 clear h hl9
 rintro ⟨i3, i4⟩ q h
 unfold abn at h
 dsimp only at h
 conv => arg 1; cbv
 refine bO hΩ (cv ?_)
 revert h; refine eU (fun hb5 h => cv ?_) fun hb5 h => cv ?_
 refine sat_true (dL hΩ (Va hE) aj) (cv ?_)
 replace h := bJ h
 obtain ⟨x6, hx7, h⟩ := h
 refine aH (dw hΩ (Va hE) hx7) (cv ?_)
 refine bO hΩ (cv ?_)
 revert h; refine eU (fun Cm h => cv ?_) fun Cm h => cv ?_
 obtain rfl := kM h
 subst_vars
 exact sR
 obtain rfl := kM h
 subst_vars
 exact s3
 obtain rfl := kM h
 subst_vars
 exact sL
 clear hl9
 rcases q with ⟨o10, o11⟩ | ⟨o12, o13⟩
 dsimp only at h
 conv => arg 1; cbv
 exact sp h
 dsimp only at h
 conv => arg 1; cbv
 exact sp h
set_option maxHeartbeats 4000000 in
theorem azm {a0 : Sl Int} {a1 : Int} {r : Bool} (h : P58 fu a0 a1 = some r) {args : List PV} (ha : [PV.d (.sl (E.yU a0.l) (E.DC a0.x)), PV.d (.int .u8 a1)] = args) (st : St) :
 Sat (Ω.cf 58 args st) (fun q => q = (PV.d (.bool r), st)) := by
 subst ha
 rcases a0 with ⟨aj, bF⟩
 rw [aK hΩ (f := 58) (fn := Try.f58) (x := c58) rfl rfl ahr rfl rfl rfl]
 unfold P58 at h
 try dsimp only at h
 conv => arg 1; cbv
 replace h := bJ h
 obtain ⟨r1, hx2, h⟩ := h
 refine au (azl hΩ hE hx2) (cv ?_)
 exact sp h
set_option maxHeartbeats 4000000 in
theorem EI {a0 : Sl Int} {b0 c0 : Int} {S : Int → St} {lz0 dW : Nat} (e0 : b0 = c0) (hg0 : ∀ s, X.look (S s) lz0 dW = some (X.Obj.box 22 (FJ E s))) (hu0 : ∀ s x, X.dU (S s) lz0 dW (X.Obj.box 22 (FJ E x)) = S x) {r : Bool} (h : tT fu a0 b0 = some r) {args : List PV} (ha : [PV.d (.sl (E.yU a0.l) (E.DC a0.x)), PV.ptr lz0 dW 0] = args) {st : St} (hst : S c0 = st) :
 Sat (Ω.cf 57 args st) (fun q => q = (PV.d (.bool r), S c0)) := by
 subst ha
 subst hst
 subst e0
 rcases a0 with ⟨aj, bF⟩
 rw [aK hΩ (f := 57) (fn := Try.f57) (x := c57) rfl rfl ahq rfl rfl rfl]
 unfold tT at h
 try dsimp only at h
 conv => arg 1; cbv
 refine qz hΩ (hg0 _) rfl (cv ?_)
 replace h := bJ h
 obtain ⟨r1, hx2, h⟩ := h
 refine au (azm hΩ hE hx2) (cv ?_)
 exact sp h
set_option maxHeartbeats 4000000 in
theorem azn {a0 : Sl Value} {a1 : Sl Value} {a2 : (Value → Value → Option (Bool))} {RH : Nat} (hf : ∀ {x0 : Value} {x1 : Value} {r : Bool}, a2 x0 x1 = some r → ∀ {args : List PV}, [eO E x0, eO E x1] = args → ∀ (st : St), Sat (Ω.cf RH args st) (fun q => q = (PV.d (.bool r), st))) {r : Bool} (h : P83 fu a0 a1 a2 = some r) {args : List PV} (ha : [PV.d (.sl (E.bE a0.l) (E.bN a0.x)), PV.d (.sl (E.bE a1.l) (E.bN a1.x)), PV.d (.fn RH [])] = args) (st : St) :
 Sat (Ω.cf 83 args st) (fun q => q = (PV.d (.bool r), st)) := by
 subst ha
 rcases a0 with ⟨aj, bF⟩
 rcases a1 with ⟨dR, jI⟩
 rw [aK hΩ (f := 83) (fn := Try.f83) (x := c83) rfl rfl ahC rfl rfl rfl]
 unfold P83 at h
 try dsimp only at h
 conv => arg 1; cbv
 refine bQ hΩ (dG hE) aj fun n1 hn2 => cv ?_
 refine bQ hΩ (dG hE) dR fun n3 KD => cv ?_
 refine bO hΩ (cv ?_)
 revert h; refine eU (fun hb5 h => cv ?_) fun hb5 h => cv ?_
 exact sp h
 refine bQ hΩ (dG hE) aj fun n6 hn7 => cv ?_
 replace h := bJ h
 obtain ⟨q, gY, h⟩ := h
 refine dV hΩ (fun (a : Int) => (match a with | i8 => ([(1, PV.d (.sl (E.bE dR) (E.bN jI))), (2, PV.d (.fn RH [])), (6, vb false), (15, PV.d (.sl (E.bE aj) (E.bN bF))), (16, vi n6), (17, vi i8)], nO :: st))) (fun (q : Int ⊕ Int) => (match q with | .inl jP => (.exit 0, [(1, PV.d (.sl (E.bE dR) (E.bN jI))), (2, PV.d (.fn RH [])), (6, vb false), (15, PV.d (.sl (E.bE aj) (E.bN bF))), (16, vi n6), (17, vi jP)], nO :: st) | .inr oQ => (.ret, [(1, PV.d (.sl (E.bE dR) (E.bN jI))), (2, PV.d (.fn RH [])), (6, vb false), (15, PV.d (.sl (E.bE aj) (E.bN bF))), (16, vi n6), (17, vi oQ)], nO :: st))) 0 gY ?_ ?_
 clear h gY
 rintro i8 q h
 unfold abo at h
 dsimp only at h
 conv => arg 1; cbv
 refine bO hΩ (cv ?_)
 revert h; refine eU (fun vN h => cv ?_) fun vN h => cv ?_
 refine sat_true (dL hΩ (dG hE) aj) (cv ?_)
 replace h := bJ h
 obtain ⟨⟨gI, j6, qc, ⟨mo, mq⟩, ⟨jD, jE⟩, yA, qd, yB⟩, iF, h⟩ := h
 try dsimp only at h
 refine aH (dw hΩ (dG hE) iF) (cv ?_)
 refine sat_true (dL hΩ (dG hE) dR) (cv ?_)
 replace h := bJ h
 obtain ⟨⟨iG, mD, tV, ⟨nV, nW⟩, ⟨kH, kI⟩, Cw, tX, Cx⟩, iH, h⟩ := h
 try dsimp only at h
 refine aH (dw hΩ (dG hE) iH) (cv ?_)
 replace h := bJ h
 obtain ⟨zC, uG, h⟩ := h
 refine au (hf uG) (cv ?_)
 refine bO hΩ (cv ?_)
 revert h; refine eU (fun xS h => cv ?_) fun xS h => cv ?_
 obtain rfl := kM h
 subst_vars
 exact sR
 obtain rfl := kM h
 subst_vars
 exact s3
 obtain rfl := kM h
 subst_vars
 exact sL
 clear gY
 rcases q with jP | oQ
 dsimp only at h
 conv => arg 1; cbv
 exact sp h
 dsimp only at h
 conv => arg 1; cbv
 exact sp h
set_option maxHeartbeats 4000000 in
theorem axN {a0 : Sl Field} {a1 : Sl Field} {a2 : (Field → Field → Option (Bool))} {RH : Nat} (hf : ∀ {x0 : Field} {x1 : Field} {r : Bool}, a2 x0 x1 = some r → ∀ {args : List PV}, [fO E x0, fO E x1] = args → ∀ (st : St), Sat (Ω.cf RH args st) (fun q => q = (PV.d (.bool r), st))) {r : Bool} (h : amH fu a0 a1 a2 = some r) {args : List PV} (ha : [PV.d (.sl (E.aO a0.l) (E.bA a0.x)), PV.d (.sl (E.aO a1.l) (E.bA a1.x)), PV.d (.fn RH [])] = args) (st : St) :
 Sat (Ω.cf 102 args st) (fun q => q = (PV.d (.bool r), st)) := by
 subst ha
 rcases a0 with ⟨aj, bF⟩
 rcases a1 with ⟨dR, jI⟩
 rw [aK hΩ (f := 102) (fn := Try.f102) (x := asn) rfl rfl adi rfl rfl rfl]
 unfold amH at h
 try dsimp only at h
 conv => arg 1; cbv
 refine bQ hΩ (dH hE) aj fun n1 hn2 => cv ?_
 refine bQ hΩ (dH hE) dR fun n3 KD => cv ?_
 refine bO hΩ (cv ?_)
 revert h; refine eU (fun hb5 h => cv ?_) fun hb5 h => cv ?_
 exact sp h
 refine bQ hΩ (dH hE) aj fun n6 hn7 => cv ?_
 replace h := bJ h
 obtain ⟨q, gY, h⟩ := h
 refine dV hΩ (fun (a : Int) => (match a with | i8 => ([(1, PV.d (.sl (E.aO dR) (E.bA jI))), (2, PV.d (.fn RH [])), (6, vb false), (15, PV.d (.sl (E.aO aj) (E.bA bF))), (16, vi n6), (17, vi i8)], nO :: st))) (fun (q : Int ⊕ Int) => (match q with | .inl jP => (.exit 0, [(1, PV.d (.sl (E.aO dR) (E.bA jI))), (2, PV.d (.fn RH [])), (6, vb false), (15, PV.d (.sl (E.aO aj) (E.bA bF))), (16, vi n6), (17, vi jP)], nO :: st) | .inr oQ => (.ret, [(1, PV.d (.sl (E.aO dR) (E.bA jI))), (2, PV.d (.fn RH [])), (6, vb false), (15, PV.d (.sl (E.aO aj) (E.bA bF))), (16, vi n6), (17, vi oQ)], nO :: st))) 0 gY ?_ ?_
 clear h gY
 rintro i8 q h
 unfold Vk at h
 dsimp only at h
 conv => arg 1; cbv
 refine bO hΩ (cv ?_)
 revert h; refine eU (fun vN h => cv ?_) fun vN h => cv ?_
 refine sat_true (dL hΩ (dH hE) aj) (cv ?_)
 replace h := bJ h
 obtain ⟨⟨gI, ⟨qD, qE, qF, ⟨yC, yD⟩, ⟨yE, yF⟩, DZ, D5, D6⟩⟩, iF, h⟩ := h
 try dsimp only at h
 refine aH (dw hΩ (dH hE) iF) (cv ?_)
 refine sat_true (dL hΩ (dH hE) dR) (cv ?_)
 replace h := bJ h
 obtain ⟨⟨iG, ⟨uD, uE, uF, ⟨Aw, Ay⟩, ⟨Az, AA⟩, Gv, Gw, Gx⟩⟩, iH, h⟩ := h
 try dsimp only at h
 refine aH (dw hΩ (dH hE) iH) (cv ?_)
 replace h := bJ h
 obtain ⟨zC, uG, h⟩ := h
 refine au (hf uG) (cv ?_)
 refine bO hΩ (cv ?_)
 revert h; refine eU (fun xS h => cv ?_) fun xS h => cv ?_
 obtain rfl := kM h
 subst_vars
 exact sR
 obtain rfl := kM h
 subst_vars
 exact s3
 obtain rfl := kM h
 subst_vars
 exact sL
 clear gY
 rcases q with jP | oQ
 dsimp only at h
 conv => arg 1; cbv
 exact sp h
 dsimp only at h
 conv => arg 1; cbv
 exact sp h
def aub (Ω : Om) (E : Enc) (Jz : Field → Field → Option (Bool)) : Prop := ∀ {a0 : Field} {a1 : Field} {r : Bool}, Jz a0 a1 = some r → ∀ {args : List PV}, [fO E a0, fO E a1] = args → ∀ (st : St), Sat (Ω.cf 103 args st) (fun q => q = (PV.d (.bool r), st))
def H60 (Ω : Om) (E : Enc) (p60 : Value → Value → Option (Bool)) : Prop := ∀ {a0 : Value} {a1 : Value} {r : Bool}, p60 a0 a1 = some r → ∀ {args : List PV}, [eO E a0, eO E a1] = args → ∀ (st : St), Sat (Ω.cf 60 args st) (fun q => q = (PV.d (.bool r), st))
def H84 (Ω : Om) (E : Enc) (p84 : (Sl Field) → (Sl Field) → Option (Bool)) : Prop := ∀ {a0 : Sl Field} {a1 : Sl Field} {r : Bool}, p84 a0 a1 = some r → ∀ {args : List PV}, [PV.d (.sl (E.aO a0.l) (E.bA a0.x)), PV.d (.sl (E.aO a1.l) (E.bA a1.x))] = args → ∀ (st : St), Sat (Ω.cf 84 args st) (fun q => q = (PV.d (.bool r), st))
set_option maxHeartbeats 4000000 in
theorem auc {Jz : Field → Field → Option (Bool)} (ak3 : aub Ω E Jz) {p60 : Value → Value → Option (Bool)} (anI : H60 Ω E p60) {p84 : (Sl Field) → (Sl Field) → Option (Bool)} (aud : H84 Ω E p84) {a0 : Field} {a1 : Field} {r : Bool} (h : aiO fu Jz p60 p84 a0 a1 = some r) {args : List PV} (ha : [fO E a0, fO E a1] = args) (st : St) :
 Sat (Ω.cf 103 args st) (fun q => q = (PV.d (.bool r), st)) := by
 subst ha
 rcases a0 with ⟨bn, ⟨bK, aL, bL, ⟨qG, qH⟩, ⟨qI, qJ⟩, yG, yH, yI⟩⟩
 rcases a1 with ⟨gX, ⟨jv, jw, jy, ⟨Gy, Gz⟩, ⟨GA, GD⟩, Qb, Qc, Qd⟩⟩
 rw [aK hΩ (f := 103) (fn := Try.f103) (x := aso) rfl rfl adj rfl rfl rfl]
 unfold aiO at h
 try dsimp only at h
 conv => arg 1; cbv
 replace h := bJ h
 obtain ⟨i4, WX, h⟩ := h
 refine aN hΩ ((fun (q : Bool) => (match q with | i4 => ([(2, PV.dA (zD3 E bn bK aL bL qG qH qI qJ yG yH yI)), (3, PV.dA (zD3 E gX jv jw jy Gy Gz GA GD Qb Qc Qd)), (4, vb i4)], nO :: st))) i4) (fun k hk => ?_) ?_
 clear h
 have h := WX
 clear WX
 conv => arg 1; cbv
 revert h; refine eU (fun hb1 h => cv ?_) fun hb1 h => cv ?_
 replace h := bJ h
 obtain ⟨r2, hx3, h⟩ := h
 refine au (anI hx3) (cv ?_)
 refine ah hΩ (cv ?_)
 exact fk h hk
 refine ah hΩ (cv ?_)
 exact fk h hk
 clear WX
 try dsimp only at h
 conv => arg 1; cbv
 exact sp h
set_option maxHeartbeats 4000000 in
theorem axO {Jz : Field → Field → Option (Bool)} (ak3 : aub Ω E Jz) {p60 : Value → Value → Option (Bool)} (anI : H60 Ω E p60) {p84 : (Sl Field) → (Sl Field) → Option (Bool)} (aud : H84 Ω E p84) {a0 : Value} {a1 : Value} {r : Bool} (h : amI fu Jz p60 p84 a0 a1 = some r) {args : List PV} (ha : [eO E a0, eO E a1] = args) (st : St) :
 Sat (Ω.cf 60 args st) (fun q => q = (PV.d (.bool r), st)) := by
 subst ha
 rcases a0 with ⟨bn, gG, kr, ⟨aZ, bf⟩, ⟨aF, aJ⟩, dM, dI, dN⟩
 rcases a1 with ⟨gX, xw, GH, ⟨iA, iB⟩, ⟨gJ, gK⟩, nE, fT, nG⟩
 rw [aK hΩ (f := 60) (fn := Try.f60) (x := c60) rfl rfl aht rfl rfl rfl]
 unfold amI at h
 try dsimp only at h
 conv => arg 1; cbv
 replace h := bJ h
 obtain ⟨i12, Hy, h⟩ := h
 refine aN hΩ ((fun (q : Bool) => (match q with | i12 => ([(2, PV.dA (zD2 E bn gG kr aZ bf aF aJ dM dI dN)), (3, PV.dA (zD2 E gX xw GH iA iB gJ gK nE fT nG)), (4, vb i12)], nO :: st))) i12) (fun k hk => ?_) ?_
 clear h
 have h := Hy
 clear Hy
 conv => arg 1; cbv
 revert h; refine eU (fun hb1 h => cv ?_) fun hb1 h => cv ?_
 refine ah hΩ (cv ?_)
 revert h; refine eU (fun hb2 h => cv ?_) fun hb2 h => cv ?_
 revert h; refine eU (fun hb3 h => cv ?_) fun hb3 h => cv ?_
 refine ah hΩ (cv ?_)
 revert h; refine eU (fun hb4 h => cv ?_) fun hb4 h => cv ?_
 revert h; refine eU (fun hb5 h => cv ?_) fun hb5 h => cv ?_
 refine ah hΩ (cv ?_)
 revert h; refine eU (fun hb6 h => cv ?_) fun hb6 h => cv ?_
 replace h := bJ h
 obtain ⟨r7, RG, h⟩ := h
 refine dJ (azn hΩ hE (hf := fun h => @fun args ha st => anI h ha st) RG (by (try clear h); subst_vars; rfl) _) (cv ?_)
 refine ah hΩ (cv ?_)
 revert h; refine eU (fun vN h => cv ?_) fun vN h => cv ?_
 replace h := bJ h
 obtain ⟨Xn, iF, h⟩ := h
 refine au (aud iF) (cv ?_)
 exact fk h hk
 exact fk h hk
 refine ah hΩ (cv ?_)
 exact fk h hk
 refine ah hΩ (cv ?_)
 refine ah hΩ (cv ?_)
 exact fk h hk
 refine ah hΩ (cv ?_)
 refine ah hΩ (cv ?_)
 exact fk h hk
 refine ah hΩ (cv ?_)
 refine ah hΩ (cv ?_)
 refine ah hΩ (cv ?_)
 exact fk h hk
 refine ah hΩ (cv ?_)
 refine ah hΩ (cv ?_)
 refine ah hΩ (cv ?_)
 exact fk h hk
 refine ah hΩ (cv ?_)
 refine ah hΩ (cv ?_)
 refine ah hΩ (cv ?_)
 refine ah hΩ (cv ?_)
 exact fk h hk
 clear Hy
 try dsimp only at h
 conv => arg 1; cbv
 exact sp h
set_option maxHeartbeats 4000000 in
theorem axP {Jz : Field → Field → Option (Bool)} (ak3 : aub Ω E Jz) {p60 : Value → Value → Option (Bool)} (anI : H60 Ω E p60) {p84 : (Sl Field) → (Sl Field) → Option (Bool)} (aud : H84 Ω E p84) {a0 : Sl Field} {a1 : Sl Field} {r : Bool} (h : amJ fu Jz p60 p84 a0 a1 = some r) {args : List PV} (ha : [PV.d (.sl (E.aO a0.l) (E.bA a0.x)), PV.d (.sl (E.aO a1.l) (E.bA a1.x))] = args) (st : St) :
 Sat (Ω.cf 84 args st) (fun q => q = (PV.d (.bool r), st)) := by
 subst ha
 rcases a0 with ⟨aj, bF⟩
 rcases a1 with ⟨dR, jI⟩
 rw [aK hΩ (f := 84) (fn := Try.f84) (x := c84) rfl rfl ahD rfl rfl rfl]
 unfold amJ at h
 try dsimp only at h
 conv => arg 1; cbv
 replace h := bJ h
 obtain ⟨r1, hx2, h⟩ := h
 refine dJ (axN hΩ hE (hf := fun h => @fun args ha st => ak3 h ha st) hx2 (by (try clear h); subst_vars; rfl) _) (cv ?_)
 exact sp h
theorem aue : ∀ fu,
 (∀ {a0 : Field} {a1 : Field} {r : Bool}, aiP fu a0 a1 = some r → ∀ {args : List PV}, [fO E a0, fO E a1] = args → ∀ (st : St), Sat (Ω.cf 103 args st) (fun q => q = (PV.d (.bool r), st))) ∧
 (∀ {a0 : Value} {a1 : Value} {r : Bool}, P60 fu a0 a1 = some r → ∀ {args : List PV}, [eO E a0, eO E a1] = args → ∀ (st : St), Sat (Ω.cf 60 args st) (fun q => q = (PV.d (.bool r), st))) ∧
 (∀ {a0 : Sl Field} {a1 : Sl Field} {r : Bool}, P84 fu a0 a1 = some r → ∀ {args : List PV}, [PV.d (.sl (E.aO a0.l) (E.bA a0.x)), PV.d (.sl (E.aO a1.l) (E.bA a1.x))] = args → ∀ (st : St), Sat (Ω.cf 84 args st) (fun q => q = (PV.d (.bool r), st))) := by
 intro fu
 induction fu with
 | zero => exact ⟨(fun h => (by cases h)), (fun h => (by cases h)), (fun h => (by cases h))⟩
 | succ fu ih =>
  obtain ⟨auf, i60, i84⟩ := ih
  exact ⟨(fun h => @fun args ha st => auc (fu := fu) hΩ hE auf i60 i84 h ha st), (fun h => @fun args ha st => axO (fu := fu) hΩ hE auf i60 i84 h ha st), (fun h => @fun args ha st => axP (fu := fu) hΩ hE auf i60 i84 h ha st)⟩
theorem azo : ∀ {a0 : Value} {a1 : Value} {r : Bool}, P60 fu a0 a1 = some r → ∀ {args : List PV}, [eO E a0, eO E a1] = args → ∀ (st : St), Sat (Ω.cf 60 args st) (fun q => q = (PV.d (.bool r), st)) := (aue hΩ hE fu).2.1
set_option maxHeartbeats 4000000 in
theorem aug {a0 : Inst} {r : Bool} (h : P36 fu a0 = some r) {args : List PV} (ha : [cZ E a0] = args) (st : St) :
 Sat (Ω.cf 36 args st) (fun q => q = (PV.d (.bool r), st)) := by
 subst ha
 rcases a0 with ⟨bn, ⟨bK, aL, bL, ⟨aT, aU, aV, ⟨av, ay⟩, ⟨aA, aB⟩, aW, aX, aY⟩⟩, ⟨bU, cO⟩, ⟨aZ, bf⟩, ⟨aF, aJ⟩, dM, dI, dN, ⟨bX, bY, bZ, ⟨aP, aQ⟩, ⟨aR, aS⟩, cu, cB, cK⟩, dD, dY, ⟨bB, bH⟩, eB, eD⟩
 rw [aK hΩ (f := 36) (fn := Try.f36) (x := c36) rfl rfl ahn rfl rfl rfl]
 unfold P36 at h
 try dsimp only at h
 conv => arg 1; cbv
 replace h := bJ h
 obtain ⟨i2, hq3, h⟩ := h
 refine aN hΩ ((fun (q : Bool) => (match q with | i2 => ([(1, PV.dA (uL E bn bK aL bL aT aU aV av ay aA aB aW aX aY bU cO aZ bf aF aJ dM dI dN bX bY bZ aP aQ aR aS cu cB cK dD dY bB bH eB eD)), (2, vb i2)], nO :: st))) i2) (fun k hk => ?_) ?_
 clear h
 have h := hq3
 clear hq3
 conv => arg 1; cbv
 revert h; refine eU (fun hb1 h => cv ?_) fun hb1 h => cv ?_
 exact fk h hk
 exact fk h hk
 clear hq3
 try dsimp only at h
 conv => arg 1; cbv
 exact sp h
set_option maxHeartbeats 4000000 in
theorem axQ {a0 : Inst} {r : Bool} (h : P26 fu a0 = some r) {args : List PV} (ha : [cZ E a0] = args) (st : St) :
 Sat (Ω.cf 26 args st) (fun q => q = (PV.d (.bool r), st)) := by
 subst ha
 rcases a0 with ⟨bn, ⟨bK, aL, bL, ⟨aT, aU, aV, ⟨av, ay⟩, ⟨aA, aB⟩, aW, aX, aY⟩⟩, ⟨bU, cO⟩, ⟨aZ, bf⟩, ⟨aF, aJ⟩, dM, dI, dN, ⟨bX, bY, bZ, ⟨aP, aQ⟩, ⟨aR, aS⟩, cu, cB, cK⟩, dD, dY, ⟨bB, bH⟩, eB, eD⟩
 rw [aK hΩ (f := 26) (fn := Try.f26) (x := c26) rfl rfl ahb rfl rfl rfl]
 unfold P26 at h
 try dsimp only at h
 conv => arg 1; cbv
 replace h := bJ h
 obtain ⟨i2, auh, h⟩ := h
 refine aN hΩ ((fun (q : Bool) => (match q with | i2 => ([(1, PV.dA (uL E bn bK aL bL aT aU aV av ay aA aB aW aX aY bU cO aZ bf aF aJ dM dI dN bX bY bZ aP aQ aR aS cu cB cK dD dY bB bH eB eD)), (2, vb false), (3, PV.ptr 0 0 0), (4, PV.fn 57 [.ptr 0 0 0]), (15, vb i2)], ([X.Obj.box 22 [.d (.int .u8 aL)]] : List X.Obj) :: st))) i2) (fun k hk => ?_) ?_
 clear h
 have h := auh
 clear auh
 conv => arg 1; cbv
 revert h; refine eU (fun hb1 h => cv ?_) fun hb1 h => cv ?_
 exact fk h hk
 exact fk h hk
 clear auh
 try dsimp only at h
 conv => arg 1; cbv
 replace h := bJ h
 obtain ⟨i4, aui, h⟩ := h
 refine aN hΩ ((fun (q : Bool) => (match q with | i4 => ([(1, PV.dA (uL E bn bK aL bL aT aU aV av ay aA aB aW aX aY bU cO aZ bf aF aJ dM dI dN bX bY bZ aP aQ aR aS cu cB cK dD dY bB bH eB eD)), (2, vb false), (3, PV.ptr 0 0 0), (4, PV.fn 57 [.ptr 0 0 0]), (19, vb i4)], ([X.Obj.box 22 [.d (.int .u8 aL)]] : List X.Obj) :: st))) i4) (fun k hk => ?_) ?_
 clear h
 have h := aui
 clear aui
 conv => arg 1; cbv
 revert h; refine eU (fun hb3 h => cv ?_) fun hb3 h => cv ?_
 exact fk h hk
 exact fk h hk
 clear aui
 try dsimp only at h
 conv => arg 1; cbv
 replace h := bJ h
 obtain ⟨i6, auj, h⟩ := h
 refine aN hΩ ((fun (q : Bool) => (match q with | i6 => ([(1, PV.dA (uL E bn bK aL bL aT aU aV av ay aA aB aW aX aY bU cO aZ bf aF aJ dM dI dN bX bY bZ aP aQ aR aS cu cB cK dD dY bB bH eB eD)), (2, vb false), (3, PV.ptr 0 0 0), (4, PV.fn 57 [.ptr 0 0 0]), (24, vb i6)], ([X.Obj.box 22 [.d (.int .u8 aL)]] : List X.Obj) :: st))) i6) (fun k hk => ?_) ?_
 clear h
 have h := auj
 clear auj
 conv => arg 1; cbv
 revert h; refine eU (fun hb5 h => cv ?_) fun hb5 h => cv ?_
 exact fk h hk
 exact fk h hk
 clear auj
 try dsimp only at h
 conv => arg 1; cbv
 replace h := bJ h
 obtain ⟨i10, auk, h⟩ := h
 refine aN hΩ ((fun (q : Bool) => (match q with | i10 => ([(1, PV.dA (uL E bn bK aL bL aT aU aV av ay aA aB aW aX aY bU cO aZ bf aF aJ dM dI dN bX bY bZ aP aQ aR aS cu cB cK dD dY bB bH eB eD)), (2, vb false), (3, PV.ptr 0 0 0), (4, PV.fn 57 [.ptr 0 0 0]), (29, vb i10)], ([X.Obj.box 22 [.d (.int .u8 aL)]] : List X.Obj) :: st))) i10) (fun k hk => ?_) ?_
 clear h
 have h := auk
 clear auk
 conv => arg 1; cbv
 revert h; refine eU (fun Ck h => cv ?_) fun Ck h => cv ?_
 replace h := bJ h
 obtain ⟨r8, EH, h⟩ := h
 refine au (axM hΩ hE EH) (cv ?_)
 exact fk h hk
 exact fk h hk
 clear auk
 try dsimp only at h
 conv => arg 1; cbv
 replace h := bJ h
 obtain ⟨YR, aul, h⟩ := h
 refine aN hΩ ((fun (q : Bool) => (match q with | YR => ([(1, PV.dA (uL E bn bK aL bL aT aU aV av ay aA aB aW aX aY bU cO aZ bf aF aJ dM dI dN bX bY bZ aP aQ aR aS cu cB cK dD dY bB bH eB eD)), (2, vb false), (3, PV.ptr 0 0 0), (4, PV.fn 57 [.ptr 0 0 0]), (34, vb YR)], ([X.Obj.box 22 [.d (.int .u8 aL)]] : List X.Obj) :: st))) YR) (fun k hk => ?_) ?_
 clear h
 have h := aul
 clear aul
 conv => arg 1; cbv
 revert h; refine eU (fun ak4 h => cv ?_) fun ak4 h => cv ?_
 replace h := bJ h
 obtain ⟨LZ, iH, h⟩ := h
 refine au (axM hΩ hE iH) (cv ?_)
 exact fk h hk
 exact fk h hk
 clear aul
 try dsimp only at h
 conv => arg 1; cbv
 replace h := bJ h
 obtain ⟨i24, aum, h⟩ := h
 refine aN hΩ ((fun (q : Bool) => (match q with | i24 => ([(1, PV.dA (uL E bn bK aL bL aT aU aV av ay aA aB aW aX aY bU cO aZ bf aF aJ dM dI dN bX bY bZ aP aQ aR aS cu cB cK dD dY bB bH eB eD)), (2, vb false), (3, PV.ptr 0 0 0), (4, PV.fn 57 [.ptr 0 0 0]), (45, vb i24)], ([X.Obj.box 22 [.d (.int .u8 aL)]] : List X.Obj) :: st))) i24) (fun k hk => ?_) ?_
 clear h
 have h := aum
 clear aum
 conv => arg 1; cbv
 revert h; refine eU (fun acp h => cv ?_) fun acp h => cv ?_
 refine bQ hΩ (eP hE) bU fun n16 aAv => cv ?_
 revert h; refine eU (fun azp h => cv ?_) fun azp h => cv ?_
 replace h := bJ h
 obtain ⟨l19, anJ, h⟩ := h
 have axR : ([[.int .u8 2], [.int .u8 3]] : List (List D)) = E.yU l19 := by (have hy := Option.some.inj anJ; clear h; subst hy; subst hE; rfl)
 rw [axR]
 clear axR
 conv => arg 1; cbv
 replace h := bJ h
 obtain ⟨r23, azq, h⟩ := h
 refine dJ (EI hΩ hE (S := (fun (s : Int) => ([X.Obj.box 22 (FJ E s)] : List X.Obj) :: st)) (lz0 := 0) (dW := 0) (c0 := aL) (by (try clear h); subst_vars; rfl) (fun s => rfl) (fun s x => rfl) azq (by (try clear h); subst_vars; rfl) (by (try clear h); subst_vars; rfl)) (cv ?_)
 exact fk h hk
 exact fk h hk
 exact fk h hk
 clear aum
 try dsimp only at h
 conv => arg 1; cbv
 replace h := bJ h
 obtain ⟨i32, aun, h⟩ := h
 refine aN hΩ ((fun (q : Bool) => (match q with | i32 => ([(1, PV.dA (uL E bn bK aL bL aT aU aV av ay aA aB aW aX aY bU cO aZ bf aF aJ dM dI dN bX bY bZ aP aQ aR aS cu cB cK dD dY bB bH eB eD)), (2, vb false), (3, PV.ptr 0 0 0), (4, PV.fn 57 [.ptr 0 0 0]), (55, vb i32)], ([X.Obj.box 22 [.d (.int .u8 aL)]] : List X.Obj) :: st))) i32) (fun k hk => ?_) ?_
 clear h
 have h := aun
 clear aun
 conv => arg 1; cbv
 revert h; refine eU (fun xR h => cv ?_) fun xR h => cv ?_
 revert h; refine eU (fun auo h => cv ?_) fun auo h => cv ?_
 replace h := bJ h
 obtain ⟨l27, hx28, h⟩ := h
 have axS : ([[.int .u8 1], [.int .u8 9]] : List (List D)) = E.yU l27 := by (have hy := Option.some.inj hx28; clear h; subst hy; subst hE; rfl)
 rw [axS]
 clear axS
 conv => arg 1; cbv
 replace h := bJ h
 obtain ⟨r31, aup, h⟩ := h
 refine dJ (EI hΩ hE (S := (fun (s : Int) => ([X.Obj.box 22 (FJ E s)] : List X.Obj) :: st)) (lz0 := 0) (dW := 0) (c0 := aL) (by (try clear h); subst_vars; rfl) (fun s => rfl) (fun s x => rfl) aup (by (try clear h); subst_vars; rfl) (by (try clear h); subst_vars; rfl)) (cv ?_)
 exact fk h hk
 exact fk h hk
 exact fk h hk
 clear aun
 try dsimp only at h
 conv => arg 1; cbv
 replace h := bJ h
 obtain ⟨i45, auq, h⟩ := h
 refine aN hΩ ((fun (q : Bool) => (match q with | i45 => ([(1, PV.dA (uL E bn bK aL bL aT aU aV av ay aA aB aW aX aY bU cO aZ bf aF aJ dM dI dN bX bY bZ aP aQ aR aS cu cB cK dD dY bB bH eB eD)), (2, vb false), (3, PV.ptr 0 0 0), (4, PV.fn 57 [.ptr 0 0 0]), (76, vb i45)], ([X.Obj.box 22 [.d (.int .u8 aL)]] : List X.Obj) :: st))) i45) (fun k hk => ?_) ?_
 clear h
 have h := auq
 clear auq
 conv => arg 1; cbv
 revert h; refine eU (fun azr h => cv ?_) fun azr h => cv ?_
 revert h; refine eU (fun azs h => cv ?_) fun azs h => cv ?_
 revert h; refine eU (fun ak5 h => cv ?_) fun ak5 h => cv ?_
 refine ah hΩ (cv ?_)
 replace h := bJ h
 obtain ⟨r36, aur, h⟩ := h
 refine au (azo hΩ hE aur) (cv ?_)
 revert h; refine eU (fun azt h => cv ?_) fun azt h => cv ?_
 replace h := bJ h
 obtain ⟨r40, hx39, h⟩ := h
 refine dJ (EI hΩ hE (S := (fun (s : Int) => ([X.Obj.box 22 (FJ E s)] : List X.Obj) :: st)) (lz0 := 0) (dW := 0) (c0 := aL) (by (try clear h); subst_vars; rfl) (fun s => rfl) (fun s x => rfl) hx39 (by (try clear h); subst_vars; rfl) (by (try clear h); subst_vars; rfl)) (cv ?_)
 exact fk h hk
 exact fk h hk
 refine ah hΩ (cv ?_)
 replace h := bJ h
 obtain ⟨r42, aus, h⟩ := h
 refine dJ (EI hΩ hE (S := (fun (s : Int) => ([X.Obj.box 22 (FJ E s)] : List X.Obj) :: st)) (lz0 := 0) (dW := 0) (c0 := aL) (by (try clear h); subst_vars; rfl) (fun s => rfl) (fun s x => rfl) aus (by (try clear h); subst_vars; rfl) (by (try clear h); subst_vars; rfl)) (cv ?_)
 exact fk h hk
 refine ah hΩ (cv ?_)
 replace h := bJ h
 obtain ⟨r44, azu, h⟩ := h
 refine dJ (EI hΩ hE (S := (fun (s : Int) => ([X.Obj.box 22 (FJ E s)] : List X.Obj) :: st)) (lz0 := 0) (dW := 0) (c0 := aL) (by (try clear h); subst_vars; rfl) (fun s => rfl) (fun s x => rfl) azu (by (try clear h); subst_vars; rfl) (by (try clear h); subst_vars; rfl)) (cv ?_)
 exact fk h hk
 refine ah hΩ (cv ?_)
 exact fk h hk
 clear auq
 try dsimp only at h
 conv => arg 1; cbv
 replace h := bJ h
 obtain ⟨i53, aut, h⟩ := h
 refine aN hΩ ((fun (q : Bool) => (match q with | i53 => ([(1, PV.dA (uL E bn bK aL bL aT aU aV av ay aA aB aW aX aY bU cO aZ bf aF aJ dM dI dN bX bY bZ aP aQ aR aS cu cB cK dD dY bB bH eB eD)), (2, vb false), (3, PV.ptr 0 0 0), (4, PV.fn 57 [.ptr 0 0 0]), (91, vb i53)], ([X.Obj.box 22 [.d (.int .u8 aL)]] : List X.Obj) :: st))) i53) (fun k hk => ?_) ?_
 clear h
 have h := aut
 clear aut
 conv => arg 1; cbv
 revert h; refine eU (fun auu h => cv ?_) fun auu h => cv ?_
 revert h; refine eU (fun azv h => cv ?_) fun azv h => cv ?_
 revert h; refine eU (fun hb48 h => cv ?_) fun hb48 h => cv ?_
 refine ah hΩ (cv ?_)
 replace h := bJ h
 obtain ⟨r50, azw, h⟩ := h
 refine dJ (EI hΩ hE (S := (fun (s : Int) => ([X.Obj.box 22 (FJ E s)] : List X.Obj) :: st)) (lz0 := 0) (dW := 0) (c0 := aL) (by (try clear h); subst_vars; rfl) (fun s => rfl) (fun s x => rfl) azw (by (try clear h); subst_vars; rfl) (by (try clear h); subst_vars; rfl)) (cv ?_)
 exact fk h hk
 refine ah hΩ (cv ?_)
 exact fk h hk
 refine ah hΩ (cv ?_)
 replace h := bJ h
 obtain ⟨r52, azx, h⟩ := h
 refine dJ (EI hΩ hE (S := (fun (s : Int) => ([X.Obj.box 22 (FJ E s)] : List X.Obj) :: st)) (lz0 := 0) (dW := 0) (c0 := aL) (by (try clear h); subst_vars; rfl) (fun s => rfl) (fun s x => rfl) azx (by (try clear h); subst_vars; rfl) (by (try clear h); subst_vars; rfl)) (cv ?_)
 exact fk h hk
 refine ah hΩ (cv ?_)
 exact fk h hk
 clear aut
 try dsimp only at h
 conv => arg 1; cbv
 replace h := bJ h
 obtain ⟨i60, auv, h⟩ := h
 refine aN hΩ ((fun (q : Bool) => (match q with | i60 => ([(1, PV.dA (uL E bn bK aL bL aT aU aV av ay aA aB aW aX aY bU cO aZ bf aF aJ dM dI dN bX bY bZ aP aQ aR aS cu cB cK dD dY bB bH eB eD)), (2, vb false), (3, PV.ptr 0 0 0), (4, PV.fn 57 [.ptr 0 0 0]), (101, vb i60)], ([X.Obj.box 22 [.d (.int .u8 aL)]] : List X.Obj) :: st))) i60) (fun k hk => ?_) ?_
 clear h
 have h := auv
 clear auv
 conv => arg 1; cbv
 revert h; refine eU (fun auw h => cv ?_) fun auw h => cv ?_
 refine bQ hΩ (aD hE) bB fun n55 aAw => cv ?_
 revert h; refine eU (fun azy h => cv ?_) fun azy h => cv ?_
 replace h := bJ h
 obtain ⟨r58, auy, h⟩ := h
 refine au (aug hΩ hE auy) (cv ?_)
 exact fk h hk
 exact fk h hk
 exact fk h hk
 clear auv
 try dsimp only at h
 conv => arg 1; cbv
 replace h := bJ h
 obtain ⟨i67, auz, h⟩ := h
 refine aN hΩ ((fun (q : Bool) => (match q with | i67 => ([(1, PV.dA (uL E bn bK aL bL aT aU aV av ay aA aB aW aX aY bU cO aZ bf aF aJ dM dI dN bX bY bZ aP aQ aR aS cu cB cK dD dY bB bH eB eD)), (2, vb false), (3, PV.ptr 0 0 0), (4, PV.fn 57 [.ptr 0 0 0]), (113, vb i67)], ([X.Obj.box 22 [.d (.int .u8 aL)]] : List X.Obj) :: st))) i67) (fun k hk => ?_) ?_
 clear h
 have h := auz
 clear auz
 conv => arg 1; cbv
 revert h; refine eU (fun azz h => cv ?_) fun azz h => cv ?_
 refine bQ hΩ (aD hE) aF fun n62 hn63 => cv ?_
 revert h; refine eU (fun azA h => cv ?_) fun azA h => cv ?_
 replace h := bJ h
 obtain ⟨r66, azB, h⟩ := h
 refine dJ (EI hΩ hE (S := (fun (s : Int) => ([X.Obj.box 22 (FJ E s)] : List X.Obj) :: st)) (lz0 := 0) (dW := 0) (c0 := aL) (by (try clear h); subst_vars; rfl) (fun s => rfl) (fun s x => rfl) azB (by (try clear h); subst_vars; rfl) (by (try clear h); subst_vars; rfl)) (cv ?_)
 exact fk h hk
 exact fk h hk
 exact fk h hk
 clear auz
 try dsimp only at h
 conv => arg 1; cbv
 refine bO hΩ (cv ?_)
 exact sp h
def aeU (Ω : Om) (E : Enc) (rY : Inst → Int → (List (Int × Bool)) → Option (Bool × (List (Int × Bool)))) : Prop := ∀ {a0 : Inst} {a1 : Int} {b1 c1 : List (Int × Bool)} {S : (List (Int × Bool)) → St} {lz0 dW fC gP : Nat} (e1 : b1 = c1) (hg0 : ∀ s, X.look (S s) lz0 dW = some (X.Obj.box 49 [PV.map 0 fC])) (hg1 : ∀ s, X.look (S s) lz0 fC = some (X.Obj.map (.int .i64) true (E.dz s))) (hu1 : ∀ s x, X.dU (S s) lz0 fC (X.Obj.map (.int .i64) true (E.dz x)) = S x) (hg2 : ∀ s, X.look (S s) lz0 gP = some (X.Obj.box 55 [PV.fn 25 [.ptr 0 dW 0, .ptr 0 gP 0]])) {r : Bool × (List (Int × Bool))}, rY a0 a1 b1 = some r → ∀ {args : List PV}, [cZ E a0, PV.d (.int .i64 a1), PV.ptr lz0 dW 0, PV.ptr lz0 gP 0] = args → ∀ {st : St}, S c1 = st → Sat (Ω.cf 25 args st) (fun q => q = (PV.d (.bool r.1), S r.2))
def aeV (Ω : Om) (E : Enc) (qg : Inst → Int → (List (Int × Bool)) → Option (Bool × (List (Int × Bool)))) : Prop := ∀ {a0 : Inst} {a2 : Int} {b2 c2 : List (Int × Bool)} {S : (List (Int × Bool)) → St} {lz0 dW fC gP : Nat} (e2 : b2 = c2) (hg0 : ∀ s, X.look (S s) lz0 dW = some (X.Obj.box 55 [PV.fn 25 [.ptr 0 fC 0, .ptr 0 dW 0]])) (hg1 : ∀ s, X.look (S s) lz0 fC = some (X.Obj.box 49 [PV.map 0 gP])) (hg2 : ∀ s, X.look (S s) lz0 gP = some (X.Obj.map (.int .i64) true (E.dz s))) (hu2 : ∀ s x, X.dU (S s) lz0 gP (X.Obj.map (.int .i64) true (E.dz x)) = S x) {r : Bool × (List (Int × Bool))}, qg a0 a2 b2 = some r → ∀ {args : List PV}, [cZ E a0, PV.ptr lz0 dW 0, PV.dA [.int .i64 a2]] = args → ∀ {st : St}, S c2 = st → Sat (Ω.cf 27 args st) (fun q => q = (PV.d (.bool r.1), S r.2))
def aeW (Ω : Om) (E : Enc) (qU : (Sl Inst) → Int → (List (Int × Bool)) → Option (Bool × (List (Int × Bool)))) : Prop := ∀ {a0 : Sl Inst} {d0 : Int} {b2 c2 : List (Int × Bool)} {S : (List (Int × Bool)) → St} {lz0 dW fC gP : Nat} (e2 : b2 = c2) (hg0 : ∀ s, X.look (S s) lz0 dW = some (X.Obj.box 55 [PV.fn 25 [.ptr 0 fC 0, .ptr 0 dW 0]])) (hg1 : ∀ s, X.look (S s) lz0 fC = some (X.Obj.box 49 [PV.map 0 gP])) (hg2 : ∀ s, X.look (S s) lz0 gP = some (X.Obj.map (.int .i64) true (E.dz s))) (hu2 : ∀ s x, X.dU (S s) lz0 gP (X.Obj.map (.int .i64) true (E.dz x)) = S x) {r : Bool × (List (Int × Bool))}, qU a0 d0 b2 = some r → ∀ {args : List PV}, [PV.d (.sl (E.aG a0.l) (E.bR a0.x)), PV.fn 27 [.ptr lz0 dW 0, .dA [.int .i64 d0]]] = args → ∀ {st : St}, S c2 = st → Sat (Ω.cf 28 args st) (fun q => q = (PV.d (.bool r.1), S r.2))
def aeX (Ω : Om) (E : Enc) (rZ : (Sl Inst) → Int → (List (Int × Bool)) → Option (Int × (List (Int × Bool)))) : Prop := ∀ {a0 : Sl Inst} {d0 : Int} {b2 c2 : List (Int × Bool)} {S : (List (Int × Bool)) → St} {lz0 dW fC gP : Nat} (e2 : b2 = c2) (hg0 : ∀ s, X.look (S s) lz0 dW = some (X.Obj.box 55 [PV.fn 25 [.ptr 0 fC 0, .ptr 0 dW 0]])) (hg1 : ∀ s, X.look (S s) lz0 fC = some (X.Obj.box 49 [PV.map 0 gP])) (hg2 : ∀ s, X.look (S s) lz0 gP = some (X.Obj.map (.int .i64) true (E.dz s))) (hu2 : ∀ s x, X.dU (S s) lz0 gP (X.Obj.map (.int .i64) true (E.dz x)) = S x) {r : Int × (List (Int × Bool))}, rZ a0 d0 b2 = some r → ∀ {args : List PV}, [PV.d (.sl (E.aG a0.l) (E.bR a0.x)), PV.fn 27 [.ptr lz0 dW 0, .dA [.int .i64 d0]]] = args → ∀ {st : St}, S c2 = st → Sat (Ω.cf 61 args st) (fun q => q = (PV.d (.int .i64 r.1), S r.2))
end Go.Proofs.Ytedfkehkcaaplaa
