/- T -/
import Derived.Test.YtedfkehkcaaplaaTFD
namespace Go.Proofs.Ytedfkehkcaaplaa
open Go Go.X
set_option linter.unusedVariables false
variable {Ω : Om} {E : Enc} (hΩ : real (call S) = Ω) (hE : fH = E) {fu : Nat}
include hΩ hE
set_option maxRecDepth 100000
set_option maxHeartbeats 4000000
def zD0 (E : Enc) (x0 x1 : Int) (x2 : ByteArray) (x3 : List (Value)) (x4 : Option (List (Value))) (x5 : List (Field)) (x6 : Option (List (Field))) (x7 : Int) (x8 : ByteArray) (x9 : Bool) : List D := [.int .u8 x0, .int .i64 x1, .str x2, .sl (E.aJ x3) (E.aT x4), .sl (E.aG x5) (E.aI x6), .int .u8 x7, .str x8, .bool x9]
def zD1 (E : Enc) (x0 : ByteArray) (x1 x2 : Int) (x3 : ByteArray) (x4 : List (Value)) (x5 : Option (List (Value))) (x6 : List (Field)) (x7 : Option (List (Field))) (x8 : Int) (x9 : ByteArray) (x10 : Bool) : List D := [.str x0, .int .u8 x1, .int .i64 x2, .str x3, .sl (E.aJ x4) (E.aT x5), .sl (E.aG x6) (E.aI x7), .int .u8 x8, .str x9, .bool x10]
def zD2 (E : Enc) (x0 : ByteArray) (x1 : Int) (x2 : ByteArray) (x3 x4 : Int) (x5 : ByteArray) (x6 : List (Value)) (x7 : Option (List (Value))) (x8 : List (Field)) (x9 : Option (List (Field))) (x10 : Int) (EO : ByteArray) (Jw : Bool) : List D := [.str x0, .int .u8 x1, .str x2, .int .u8 x3, .int .i64 x4, .str x5, .sl (E.aJ x6) (E.aT x7), .sl (E.aG x8) (E.aI x9), .int .u8 x10, .str EO, .bool Jw]
def zD3 (E : Enc) (x0 : Int) (x1 : ByteArray) (x2 x3 : Int) (x4 : ByteArray) (x5 : List (Expr)) (x6 : Option (List (Expr))) (x7 : List (ByteArray)) (x8 : Option (List (ByteArray))) (x9 : List (Expr)) (x10 : Option (List (Expr))) (EO : Int) (Jw : List (Expr)) (FZ : Option (List (Expr))) (VB : List (Act)) (x15 : Option (List (Act))) (x16 : ByteArray) : List D := [.int .u8 x0, .str x1, .int .u8 x2, .int .i64 x3, .str x4, .sl (E.bL x5) (E.bS x6), .sl (E.iO x7) (E.jV x8), .sl (E.bL x9) (E.bS x10), .int .u8 EO, .sl (E.bL Jw) (E.bS FZ), .sl (E.dF VB) (E.dQ x15), .str x16]
def zD4 (E : Enc) (x0 x1 : Int) (x2 : ByteArray) (x3 : List (Expr)) (x4 : Option (List (Expr))) (x5 : List (ByteArray)) (x6 : Option (List (ByteArray))) (x7 : List (Expr)) (x8 : Option (List (Expr))) (x9 : Int) (x10 : List (Expr)) (EO : Option (List (Expr))) (Jw : List (Act)) (FZ : Option (List (Act))) (VB : ByteArray) : List D := [.int .u8 x0, .int .i64 x1, .str x2, .sl (E.bL x3) (E.bS x4), .sl (E.iO x5) (E.jV x6), .sl (E.bL x7) (E.bS x8), .int .u8 x9, .sl (E.bL x10) (E.bS EO), .sl (E.dF Jw) (E.dQ FZ), .str VB]
def Xo (E : Enc) (x0 : Int) (x1 : ByteArray) (x2 x3 : Int) (x4 : ByteArray) (x5 : List (Value)) (x6 : Option (List (Value))) (x7 : List (Field)) (x8 : Option (List (Field))) (x9 : Int) (x10 : ByteArray) (EO : Bool) (Jw FZ : Int) (VB : ByteArray) (x15 : List (Value)) (x16 : Option (List (Value))) (x17 : List (Field)) (x18 : Option (List (Field))) (x19 : Int) (x20 : ByteArray) (x21 : Bool) (x22 : List (Value)) (x23 : Option (List (Value))) (x24 : List (Act)) (x25 : Option (List (Act))) (x26 : List (Act)) (x27 : Option (List (Act))) (x28 : List (Field)) (x29 : Option (List (Field))) (x30 x31 : Bool) (x32 : List (Act)) (x33 : Option (List (Act))) (x34 : List (Field)) (x35 : Option (List (Field))) : List D := [.int .u8 x0, .str x1, .int .u8 x2, .int .i64 x3, .str x4, .sl (E.aJ x5) (E.aT x6), .sl (E.aG x7) (E.aI x8), .int .u8 x9, .str x10, .bool EO, .int .u8 Jw, .int .i64 FZ, .str VB, .sl (E.aJ x15) (E.aT x16), .sl (E.aG x17) (E.aI x18), .int .u8 x19, .str x20, .bool x21, .sl (E.aJ x22) (E.aT x23), .sl (E.dF x24) (E.dQ x25), .sl (E.dF x26) (E.dQ x27), .sl (E.aG x28) (E.aI x29), .bool x30, .bool x31, .sl (E.dF x32) (E.dQ x33), .sl (E.aG x34) (E.aI x35)]
def jW (E : Enc) (x0 : Int) (x1 : ByteArray) (x2 : Int) (x3 : ByteArray) (x4 x5 : Int) (x6 : ByteArray) (x7 : List (Value)) (x8 : Option (List (Value))) (x9 : List (Field)) (x10 : Option (List (Field))) (EO : Int) (Jw : ByteArray) (FZ : Bool) (VB : List (Cell)) (x15 : Option (List (Cell))) (x16 : List (Child)) (x17 : Option (List (Child))) (x18 : List (Inst)) (x19 : Option (List (Inst))) (x20 : Int) (x21 x22 : Bool) (x23 x24 : Int) (x25 : ByteArray) (x26 : List (Value)) (x27 : Option (List (Value))) (x28 : List (Field)) (x29 : Option (List (Field))) (x30 : Int) (x31 : ByteArray) (x32 : Bool) (x33 : ByteArray) (x34 : Bool) (x35 : List (Inst)) (x36 : Option (List (Inst))) (x37 x38 : Bool) : List D := [.int .i64 x0, .str x1, .int .u8 x2, .str x3, .int .u8 x4, .int .i64 x5, .str x6, .sl (E.aJ x7) (E.aT x8), .sl (E.aG x9) (E.aI x10), .int .u8 EO, .str Jw, .bool FZ, .sl (E.eH VB) (E.gH x15), .sl (E.dJ x16) (E.eP x17), .sl (E.au x18) (E.aD x19), .int .i64 x20, .bool x21, .bool x22, .int .u8 x23, .int .i64 x24, .str x25, .sl (E.aJ x26) (E.aT x27), .sl (E.aG x28) (E.aI x29), .int .u8 x30, .str x31, .bool x32, .str x33, .bool x34, .sl (E.au x35) (E.aD x36), .bool x37, .bool x38]
def zP7 (E : Enc) (x0 x1 : Int) (x2 : ByteArray) (x3 : List (Expr)) (x4 : Option (List (Expr))) (x5 : List (ByteArray)) (x6 : Option (List (ByteArray))) (x7 : List (Expr)) (x8 : Option (List (Expr))) (x9 : Int) (x10 : List (Expr)) (EO : Option (List (Expr))) (Jw : List (Act)) (FZ : Option (List (Act))) (VB : ByteArray) : List PV := [.d (.int .u8 x0), .d (.int .i64 x1), .d (.str x2), .d (.sl (E.bL x3) (E.bS x4)), .d (.sl (E.iO x5) (E.jV x6)), .d (.sl (E.bL x7) (E.bS x8)), .d (.int .u8 x9), .d (.sl (E.bL x10) (E.bS EO)), .d (.sl (E.dF Jw) (E.dQ FZ)), .d (.str VB)]
def Fb (E : Enc) (x0 : Int) (x1 : ByteArray) (x2 : Int) (x3 : ByteArray) (x4 x5 : Int) (x6 : ByteArray) (x7 : List (Value)) (x8 : Option (List (Value))) (x9 : List (Field)) (x10 : Option (List (Field))) (EO : Int) (Jw : ByteArray) (FZ : Bool) (VB : List (Cell)) (x15 : Option (List (Cell))) (x16 : List (Child)) (x17 : Option (List (Child))) (x18 : List (Inst)) (x19 : Option (List (Inst))) (x20 : Int) (x21 x22 : Bool) (x23 x24 : Int) (x25 : ByteArray) (x26 : List (Value)) (x27 : Option (List (Value))) (x28 : List (Field)) (x29 : Option (List (Field))) (x30 : Int) (x31 : ByteArray) (x32 : Bool) (x33 : ByteArray) (x34 : Bool) (x35 : List (Inst)) (x36 : Option (List (Inst))) (x37 x38 : Bool) : List PV := [.d (.int .i64 x0), .d (.str x1), .d (.int .u8 x2), .d (.str x3), .d (.int .u8 x4), .d (.int .i64 x5), .d (.str x6), .d (.sl (E.aJ x7) (E.aT x8)), .d (.sl (E.aG x9) (E.aI x10)), .d (.int .u8 EO), .d (.str Jw), .d (.bool FZ), .d (.sl (E.eH VB) (E.gH x15)), .d (.sl (E.dJ x16) (E.eP x17)), .d (.sl (E.au x18) (E.aD x19)), .d (.int .i64 x20), .d (.bool x21), .d (.bool x22), .d (.int .u8 x23), .d (.int .i64 x24), .d (.str x25), .d (.sl (E.aJ x26) (E.aT x27)), .d (.sl (E.aG x28) (E.aI x29)), .d (.int .u8 x30), .d (.str x31), .d (.bool x32), .d (.str x33), .d (.bool x34), .d (.sl (E.au x35) (E.aD x36)), .d (.bool x37), .d (.bool x38)]
theorem ok7 {r : Bool} (h : P7 fu = some r) {args : List PV} (ha : [] = args) (st : St) :
 Sat (Ω.cf 7 args st) (fun q => q = (PV.d (.bool r), st)) := by
 subst ha
 subst hΩ
 obtain rfl := fZ h
 exact ⟨_, Lh (S := S) (f := 7) rfl st, rfl⟩
def H49 (Ω : Om) (E : Enc) (p49 : Value → Option (Int)) : Prop := ∀ {a0 : Value} {r : Int}, p49 a0 = some r → ∀ {args : List PV}, [bX E a0] = args → ∀ (st : St), Sat (Ω.cf 49 args st) (fun q => q = (PV.d (.int .i64 r), st))
def H72 (Ω : Om) (E : Enc) (p72 : (Sl Value) → Option (Int)) : Prop := ∀ {a0 : Sl Value} {r : Int}, p72 a0 = some r → ∀ {args : List PV}, [PV.d (.sl (E.aJ a0.l) (E.aT a0.x))] = args → ∀ (st : St), Sat (Ω.cf 72 args st) (fun q => q = (PV.d (.int .i64 r), st))
def H73 (Ω : Om) (E : Enc) (p73 : (Sl Field) → Option (Int)) : Prop := ∀ {a0 : Sl Field} {r : Int}, p73 a0 = some r → ∀ {args : List PV}, [PV.d (.sl (E.aG a0.l) (E.aI a0.x))] = args → ∀ (st : St), Sat (Ω.cf 73 args st) (fun q => q = (PV.d (.int .i64 r), st))
def H93 (Ω : Om) (E : Enc) (Gn : Field → Option (Int)) : Prop := ∀ {a0 : Field} {r : Int}, Gn a0 = some r → ∀ {args : List PV}, [dO E a0] = args → ∀ (st : St), Sat (Ω.cf 93 args st) (fun q => q = (PV.d (.int .i64 r), st))
theorem aeR {p49 : Value → Option (Int)} (VD : H49 Ω E p49) {p72 : (Sl Value) → Option (Int)} (Zj : H72 Ω E p72) {p73 : (Sl Field) → Option (Int)} (Zk : H73 Ω E p73) {Gn : Field → Option (Int)} (Zl : H93 Ω E Gn) {a0 : Value} {r : Int} (h : YM fu p49 p72 p73 Gn a0 = some r) {args : List PV} (ha : [bX E a0] = args) (st : St) :
 Sat (Ω.cf 49 args st) (fun q => q = (PV.d (.int .i64 r), st)) := by
 subst ha
 rcases a0 with ⟨c, e, g, ⟨i, j⟩, ⟨l, m⟩, n, o, p⟩
 rw [aC hΩ (f := 49) (fn := Try.f49) rfl rfl rfl rfl rfl rfl]
 unfold YM at h
 try dsimp only at h
 refine cv ?_
 replace h := aQ h
 obtain ⟨i4, a, h⟩ := h
 refine aH hΩ ((fun (q : Int) => (match q with | i4 => (.normal, [(1, PV.aS (zD0 E c e g i j l m n o p)), (2, vi 0), (3, vi i4)], nO :: st))) i4) (fun k hk => ?_) ?_
 clear h
 have h := a
 clear a
 refine cv ?_
 revert h; refine bQ (fun s h => cv ?_) fun s h => cv ?_
 replace h := aQ h
 obtain ⟨r2, t, h⟩ := h
 refine av (Zj t) (cv ?_)
 exact fk h hk
 exact fk h hk
 clear a
 try dsimp only at h
 refine cv ?_
 replace h := aQ h
 obtain ⟨i9, b, h⟩ := h
 refine aH hΩ ((fun (q : Int) => (match q with | i9 => (.normal, [(1, PV.aS (zD0 E c e g i j l m n o p)), (2, vi 0), (3, vi i9)], nO :: st))) i9) (fun k hk => ?_) ?_
 clear h
 have h := b
 clear b
 refine cv ?_
 revert h; refine bQ (fun u h => cv ?_) fun u h => cv ?_
 replace h := aQ h
 obtain ⟨r6, v, h⟩ := h
 refine av (Zk v) (cv ?_)
 exact fk h hk
 exact fk h hk
 clear b
 try dsimp only at h
 refine cv ?_
 exact sp h
theorem aeS {p49 : Value → Option (Int)} (VD : H49 Ω E p49) {p72 : (Sl Value) → Option (Int)} (Zj : H72 Ω E p72) {p73 : (Sl Field) → Option (Int)} (Zk : H73 Ω E p73) {Gn : Field → Option (Int)} (Zl : H93 Ω E Gn) {a0 : Sl Value} {r : Int} (h : YN fu p49 p72 p73 Gn a0 = some r) {args : List PV} (ha : [PV.d (.sl (E.aJ a0.l) (E.aT a0.x))] = args) (st : St) :
 Sat (Ω.cf 72 args st) (fun q => q = (PV.d (.int .i64 r), st)) := by
 subst ha
 rcases a0 with ⟨b, c⟩
 rw [aC hΩ (f := 72) (fn := Try.f72) rfl rfl rfl rfl rfl rfl]
 unfold YN at h
 try dsimp only at h
 refine cv ?_
 refine aP hΩ (bE hE) b fun n1 o => cv ?_
 replace h := aQ h
 obtain ⟨q, e, h⟩ := h
 refine bK hΩ (fun (a : Int × Int) => (match a with | (i3, i4) => ([(0, PV.d (.sl (E.aJ b) (E.aT c))), (2, vi 0), (3, vi i3), (4, vi i4)], nO :: st))) (fun (q : (Int × Int)) => (match q with | (qx, fq) => (.exit 0, [(0, PV.d (.sl (E.aJ b) (E.aT c))), (2, vi 0), (3, vi qx), (4, vi fq)], nO :: st))) (ln b, 0) e ?_ ?_
 clear h e
 rintro ⟨i3, i4⟩ q h
 unfold Jc at h
 dsimp only at h
 refine cv ?_
 replace h := aQ h
 obtain ⟨i9, g, h⟩ := h
 refine aH hΩ ((fun (q : Bool) => (match q with | i9 => ([(0, PV.d (.sl (E.aJ b) (E.aT c))), (2, vi 0), (3, vi i3), (4, vi i4), (14, vb i9)], nO :: st))) i9) (fun k hk => ?_) ?_
 clear h
 have h := g
 clear g
 refine cv ?_
 refine aP hΩ (bE hE) b fun n5 p => cv ?_
 revert h; refine bQ (fun i h => cv ?_) fun i h => cv ?_
 exact fk h hk
 exact fk h hk
 clear g
 try dsimp only at h
 refine cv ?_
 refine aN hΩ (cv ?_)
 revert h; refine bQ (fun j h => cv ?_) fun j h => cv ?_
 refine sat_true (bA hΩ (bE hE) b) (cv ?_)
 replace h := aQ h
 obtain ⟨⟨s, t, u, ⟨v, w⟩, ⟨y, z⟩, a1, a2, a3⟩, m, h⟩ := h
 try dsimp only at h
 refine ay (aW hΩ (bE hE) m) (cv ?_)
 replace h := aQ h
 obtain ⟨Gp, n, h⟩ := h
 refine av (VD n) (cv ?_)
 obtain rfl := fZ h
 subst_vars
 exact s3
 obtain rfl := fZ h
 subst_vars
 exact sL
 clear e
 rcases q with ⟨qx, fq⟩
 dsimp only at h
 refine cv ?_
 exact sp h
theorem aeT {p49 : Value → Option (Int)} (VD : H49 Ω E p49) {p72 : (Sl Value) → Option (Int)} (Zj : H72 Ω E p72) {p73 : (Sl Field) → Option (Int)} (Zk : H73 Ω E p73) {Gn : Field → Option (Int)} (Zl : H93 Ω E Gn) {a0 : Sl Field} {r : Int} (h : YO fu p49 p72 p73 Gn a0 = some r) {args : List PV} (ha : [PV.d (.sl (E.aG a0.l) (E.aI a0.x))] = args) (st : St) :
 Sat (Ω.cf 73 args st) (fun q => q = (PV.d (.int .i64 r), st)) := by
 subst ha
 rcases a0 with ⟨b, c⟩
 rw [aC hΩ (f := 73) (fn := Try.f73) rfl rfl rfl rfl rfl rfl]
 unfold YO at h
 try dsimp only at h
 refine cv ?_
 refine aP hΩ (bF hE) b fun n1 o => cv ?_
 replace h := aQ h
 obtain ⟨q, e, h⟩ := h
 refine bK hΩ (fun (a : Int × Int) => (match a with | (i3, i4) => ([(0, PV.d (.sl (E.aG b) (E.aI c))), (2, vi 0), (3, vi i3), (4, vi i4)], nO :: st))) (fun (q : (Int × Int)) => (match q with | (qx, fq) => (.exit 0, [(0, PV.d (.sl (E.aG b) (E.aI c))), (2, vi 0), (3, vi qx), (4, vi fq)], nO :: st))) (ln b, 0) e ?_ ?_
 clear h e
 rintro ⟨i3, i4⟩ q h
 unfold Jd at h
 dsimp only at h
 refine cv ?_
 replace h := aQ h
 obtain ⟨i9, g, h⟩ := h
 refine aH hΩ ((fun (q : Bool) => (match q with | i9 => ([(0, PV.d (.sl (E.aG b) (E.aI c))), (2, vi 0), (3, vi i3), (4, vi i4), (14, vb i9)], nO :: st))) i9) (fun k hk => ?_) ?_
 clear h
 have h := g
 clear g
 refine cv ?_
 refine aP hΩ (bF hE) b fun n5 p => cv ?_
 revert h; refine bQ (fun i h => cv ?_) fun i h => cv ?_
 exact fk h hk
 exact fk h hk
 clear g
 try dsimp only at h
 refine cv ?_
 refine aN hΩ (cv ?_)
 revert h; refine bQ (fun j h => cv ?_) fun j h => cv ?_
 refine sat_true (bA hΩ (bF hE) b) (cv ?_)
 replace h := aQ h
 obtain ⟨⟨s, ⟨t, u, v, ⟨w, y⟩, ⟨z, a1⟩, a2, a3, a4⟩⟩, m, h⟩ := h
 try dsimp only at h
 refine ay (aW hΩ (bF hE) m) (cv ?_)
 replace h := aQ h
 obtain ⟨Gp, n, h⟩ := h
 refine av (Zl n) (cv ?_)
 obtain rfl := fZ h
 subst_vars
 exact s3
 obtain rfl := fZ h
 subst_vars
 exact sL
 clear e
 rcases q with ⟨qx, fq⟩
 dsimp only at h
 refine cv ?_
 exact sp h
theorem aeU {p49 : Value → Option (Int)} (VD : H49 Ω E p49) {p72 : (Sl Value) → Option (Int)} (Zj : H72 Ω E p72) {p73 : (Sl Field) → Option (Int)} (Zk : H73 Ω E p73) {Gn : Field → Option (Int)} (Zl : H93 Ω E Gn) {a0 : Field} {r : Int} (h : Vm fu p49 p72 p73 Gn a0 = some r) {args : List PV} (ha : [dO E a0] = args) (st : St) :
 Sat (Ω.cf 93 args st) (fun q => q = (PV.d (.int .i64 r), st)) := by
 subst ha
 rcases a0 with ⟨b, ⟨c, e, g, ⟨i, j⟩, ⟨l, m⟩, n, o, p⟩⟩
 rw [aC hΩ (f := 93) (fn := Try.f93) rfl rfl rfl rfl rfl rfl]
 unfold Vm at h
 try dsimp only at h
 refine cv ?_
 replace h := aQ h
 obtain ⟨i4, a, h⟩ := h
 refine aH hΩ ((fun (q : Int) => (match q with | i4 => (.normal, [(1, PV.aS (zD1 E b c e g i j l m n o p)), (2, vi 0), (3, vi i4)], nO :: st))) i4) (fun k hk => ?_) ?_
 clear h
 have h := a
 clear a
 refine cv ?_
 revert h; refine bQ (fun s h => cv ?_) fun s h => cv ?_
 replace h := aQ h
 obtain ⟨r2, t, h⟩ := h
 refine av (VD t) (cv ?_)
 exact fk h hk
 exact fk h hk
 clear a
 try dsimp only at h
 refine cv ?_
 exact sp h
theorem VE : ∀ fu,
 (∀ {a0 : Value} {r : Int}, PY fu a0 = some r → ∀ {args : List PV}, [bX E a0] = args → ∀ (st : St), Sat (Ω.cf 49 args st) (fun q => q = (PV.d (.int .i64 r), st))) ∧
 (∀ {a0 : Sl Value} {r : Int}, Xl fu a0 = some r → ∀ {args : List PV}, [PV.d (.sl (E.aJ a0.l) (E.aT a0.x))] = args → ∀ (st : St), Sat (Ω.cf 72 args st) (fun q => q = (PV.d (.int .i64 r), st))) ∧
 (∀ {a0 : Sl Field} {r : Int}, Vn fu a0 = some r → ∀ {args : List PV}, [PV.d (.sl (E.aG a0.l) (E.aI a0.x))] = args → ∀ (st : St), Sat (Ω.cf 73 args st) (fun q => q = (PV.d (.int .i64 r), st))) ∧
 (∀ {a0 : Field} {r : Int}, YP fu a0 = some r → ∀ {args : List PV}, [dO E a0] = args → ∀ (st : St), Sat (Ω.cf 93 args st) (fun q => q = (PV.d (.int .i64 r), st))) := by
 intro fu
 induction fu with
 | zero => exact ⟨(fun h => (by cases h)), (fun h => (by cases h)), (fun h => (by cases h)), (fun h => (by cases h))⟩
 | succ fu ih =>
  obtain ⟨i49, i72, i73, i93⟩ := ih
  exact ⟨(fun h => @fun args ha st => aeR (fu := fu) hΩ hE i49 i72 i73 i93 h ha st), (fun h => @fun args ha st => aeS (fu := fu) hΩ hE i49 i72 i73 i93 h ha st), (fun h => @fun args ha st => aeT (fu := fu) hΩ hE i49 i72 i73 i93 h ha st), (fun h => @fun args ha st => aeU (fu := fu) hΩ hE i49 i72 i73 i93 h ha st)⟩
theorem VF : ∀ {a0 : Value} {r : Int}, PY fu a0 = some r → ∀ {args : List PV}, [bX E a0] = args → ∀ (st : St), Sat (Ω.cf 49 args st) (fun q => q = (PV.d (.int .i64 r), st)) := (VE hΩ hE fu).1
theorem ag1 : ∀ {a0 : Sl Value} {r : Int}, Xl fu a0 = some r → ∀ {args : List PV}, [PV.d (.sl (E.aJ a0.l) (E.aT a0.x))] = args → ∀ (st : St), Sat (Ω.cf 72 args st) (fun q => q = (PV.d (.int .i64 r), st)) := (VE hΩ hE fu).2.1
theorem aeV : ∀ {a0 : Sl Field} {r : Int}, Vn fu a0 = some r → ∀ {args : List PV}, [PV.d (.sl (E.aG a0.l) (E.aI a0.x))] = args → ∀ (st : St), Sat (Ω.cf 73 args st) (fun q => q = (PV.d (.int .i64 r), st)) := (VE hΩ hE fu).2.2.1
theorem acj {a0 : Child} {r : Int} (h : YQ fu a0 = some r) {args : List PV} (ha : [oU E a0] = args) (st : St) :
 Sat (Ω.cf 45 args st) (fun q => q = (PV.d (.int .i64 r), st)) := by
 subst ha
 rcases a0 with ⟨b, c, e, ⟨g, i, j, ⟨l, m⟩, ⟨n, o⟩, p, s, t⟩⟩
 rw [aC hΩ (f := 45) (fn := Try.f45) rfl rfl rfl rfl rfl rfl]
 unfold YQ at h
 try dsimp only at h
 refine cv ?_
 replace h := aQ h
 obtain ⟨i4, a, h⟩ := h
 refine aH hΩ ((fun (q : Int) => (match q with | i4 => (.normal, [(1, PV.aS (zD2 E b c e g i j l m n o p s t)), (2, vi 0), (3, vi i4)], nO :: st))) i4) (fun k hk => ?_) ?_
 clear h
 have h := a
 clear a
 refine cv ?_
 revert h; refine bQ (fun u h => cv ?_) fun u h => cv ?_
 replace h := aQ h
 obtain ⟨r2, v, h⟩ := h
 refine av (VF hΩ hE v) (cv ?_)
 exact fk h hk
 exact fk h hk
 clear a
 try dsimp only at h
 refine cv ?_
 exact sp h
theorem aeW {a0 : Sl ByteArray} {r : Int} (h : Vo fu a0 = some r) {args : List PV} (ha : [PV.d (.sl (E.iO a0.l) (E.jV a0.x))] = args) (st : St) :
 Sat (Ω.cf 128 args st) (fun q => q = (PV.d (.int .i64 r), st)) := by
 subst ha
 rcases a0 with ⟨b, c⟩
 rw [aC hΩ (f := 128) (fn := Try.f128) rfl rfl rfl rfl rfl rfl]
 unfold Vo at h
 try dsimp only at h
 refine cv ?_
 refine aP hΩ (fI hE) b fun n1 n => cv ?_
 replace h := aQ h
 obtain ⟨q, e, h⟩ := h
 refine bK hΩ (fun (a : Int × Int) => (match a with | (i3, i4) => ([(0, PV.d (.sl (E.iO b) (E.jV c))), (2, vi 0), (3, vi i3), (4, vi i4)], nO :: st))) (fun (q : (Int × Int)) => (match q with | (Sj, o16) => (.exit 0, [(0, PV.d (.sl (E.iO b) (E.jV c))), (2, vi 0), (3, vi Sj), (4, vi o16)], nO :: st))) (ln b, 0) e ?_ ?_
 clear h e
 rintro ⟨i3, i4⟩ q h
 unfold Je at h
 dsimp only at h
 refine cv ?_
 replace h := aQ h
 obtain ⟨i9, g, h⟩ := h
 refine aH hΩ ((fun (q : Bool) => (match q with | i9 => ([(0, PV.d (.sl (E.iO b) (E.jV c))), (2, vi 0), (3, vi i3), (4, vi i4), (14, vb i9)], nO :: st))) i9) (fun k hk => ?_) ?_
 clear h
 have h := g
 clear g
 refine cv ?_
 refine aP hΩ (fI hE) b fun n5 o => cv ?_
 revert h; refine bQ (fun i h => cv ?_) fun i h => cv ?_
 exact fk h hk
 exact fk h hk
 clear g
 try dsimp only at h
 refine cv ?_
 refine aN hΩ (cv ?_)
 revert h; refine bQ (fun j h => cv ?_) fun j h => cv ?_
 refine sat_true (bA hΩ (fI hE) b) (cv ?_)
 replace h := aQ h
 obtain ⟨EO, m, h⟩ := h
 refine ay (aW hΩ (fI hE) m) (cv ?_)
 obtain rfl := fZ h
 subst_vars
 exact s3
 obtain rfl := fZ h
 subst_vars
 exact sL
 clear e
 rcases q with ⟨Sj, o16⟩
 dsimp only at h
 refine cv ?_
 exact sp h
def Zm (Ω : Om) (E : Enc) (ru : Act → Option (Int)) : Prop := ∀ {a0 : Act} {r : Int}, ru a0 = some r → ∀ {args : List PV}, [jG E a0] = args → ∀ (st : St), Sat (Ω.cf 109 args st) (fun q => q = (PV.d (.int .i64 r), st))
def Zn (Ω : Om) (E : Enc) (qy : Expr → Option (Int)) : Prop := ∀ {a0 : Expr} {r : Int}, qy a0 = some r → ∀ {args : List PV}, [iy E a0] = args → ∀ (st : St), Sat (Ω.cf 119 args st) (fun q => q = (PV.d (.int .i64 r), st))
def Zo (Ω : Om) (E : Enc) (rz : (Sl Expr) → Option (Int)) : Prop := ∀ {a0 : Sl Expr} {r : Int}, rz a0 = some r → ∀ {args : List PV}, [PV.d (.sl (E.bL a0.l) (E.bS a0.x))] = args → ∀ (st : St), Sat (Ω.cf 127 args st) (fun q => q = (PV.d (.int .i64 r), st))
def H92 (Ω : Om) (E : Enc) (Ke : (Sl Act) → Option (Int)) : Prop := ∀ {a0 : Sl Act} {r : Int}, Ke a0 = some r → ∀ {args : List PV}, [PV.d (.sl (E.dF a0.l) (E.dQ a0.x))] = args → ∀ (st : St), Sat (Ω.cf 92 args st) (fun q => q = (PV.d (.int .i64 r), st))
theorem acn {ru : Act → Option (Int)} (Qo : Zm Ω E ru) {qy : Expr → Option (Int)} (Mw : Zn Ω E qy) {rz : (Sl Expr) → Option (Int)} (Gt : Zo Ω E rz) {Ke : (Sl Act) → Option (Int)} (Zp : H92 Ω E Ke) {a0 : Act} {r : Int} (h : PZ fu ru qy rz Ke a0 = some r) {args : List PV} (ha : [jG E a0] = args) (st : St) :
 Sat (Ω.cf 109 args st) (fun q => q = (PV.d (.int .i64 r), st)) := by
 subst ha
 rcases a0 with ⟨b, c, ⟨e, g, i, ⟨j, l⟩, ⟨m, n⟩, ⟨o, p⟩, s, ⟨t, u⟩, ⟨v, w⟩, x⟩⟩
 rw [aC hΩ (f := 109) (fn := Try.f109) rfl rfl rfl rfl rfl rfl]
 unfold PZ at h
 try dsimp only at h
 refine cv ?_
 replace h := aQ h
 obtain ⟨i4, a, h⟩ := h
 refine aH hΩ ((fun (q : Int) => (match q with | i4 => (.normal, [(1, PV.aS (zD3 E b c e g i j l m n o p s t u v w x)), (2, vi 0), (3, vi i4)], nO :: st))) i4) (fun k hk => ?_) ?_
 clear h
 have h := a
 clear a
 refine cv ?_
 revert h; refine bQ (fun y h => cv ?_) fun y h => cv ?_
 replace h := aQ h
 obtain ⟨r2, z, h⟩ := h
 refine av (Mw z) (cv ?_)
 exact fk h hk
 exact fk h hk
 clear a
 try dsimp only at h
 refine cv ?_
 exact sp h
theorem aco {ru : Act → Option (Int)} (Qo : Zm Ω E ru) {qy : Expr → Option (Int)} (Mw : Zn Ω E qy) {rz : (Sl Expr) → Option (Int)} (Gt : Zo Ω E rz) {Ke : (Sl Act) → Option (Int)} (Zp : H92 Ω E Ke) {a0 : Expr} {r : Int} (h : P5 fu ru qy rz Ke a0 = some r) {args : List PV} (ha : [iy E a0] = args) (st : St) :
 Sat (Ω.cf 119 args st) (fun q => q = (PV.d (.int .i64 r), st)) := by
 subst ha
 rcases a0 with ⟨a, b, c, ⟨e, g⟩, ⟨i, j⟩, ⟨l, m⟩, n, ⟨o, p⟩, ⟨s, t⟩, u⟩
 rw [aC hΩ (f := 119) (fn := Try.f119) rfl rfl rfl rfl rfl rfl]
 unfold P5 at h
 try dsimp only at h
 refine cv ?_
 replace h := aQ h
 obtain ⟨i4, v, h⟩ := h
 refine aH hΩ ((fun (q : Int) => (match q with | i4 => (.normal, [(1, PV.aS (zD4 E a b c e g i j l m n o p s t u)), (2, vi 0), (3, vi i4)], nO :: st))) i4) (fun k hk => ?_) ?_
 clear h
 have h := v
 clear v
 refine cv ?_
 revert h; refine bQ (fun a1 h => cv ?_) fun a1 h => cv ?_
 replace h := aQ h
 obtain ⟨r2, a2, h⟩ := h
 refine av (Gt a2) (cv ?_)
 exact fk h hk
 exact fk h hk
 clear v
 try dsimp only at h
 refine cv ?_
 replace h := aQ h
 obtain ⟨i9, w, h⟩ := h
 refine aH hΩ ((fun (q : Int) => (match q with | i9 => (.normal, [(1, PV.aS (zD4 E a b c e g i j l m n o p s t u)), (2, vi 0), (3, vi i9)], nO :: st))) i9) (fun k hk => ?_) ?_
 clear h
 have h := w
 clear w
 refine cv ?_
 revert h; refine bQ (fun a3 h => cv ?_) fun a3 h => cv ?_
 replace h := aQ h
 obtain ⟨r6, a4, h⟩ := h
 refine av (aeW hΩ hE a4) (cv ?_)
 exact fk h hk
 exact fk h hk
 clear w
 try dsimp only at h
 refine cv ?_
 replace h := aQ h
 obtain ⟨Ee, x, h⟩ := h
 refine aH hΩ ((fun (q : Int) => (match q with | Ee => (.normal, [(1, PV.aS (zD4 E a b c e g i j l m n o p s t u)), (2, vi 0), (3, vi Ee)], nO :: st))) Ee) (fun k hk => ?_) ?_
 clear h
 have h := x
 clear x
 refine cv ?_
 revert h; refine bQ (fun a5 h => cv ?_) fun a5 h => cv ?_
 replace h := aQ h
 obtain ⟨MQ, a6, h⟩ := h
 refine av (Gt a6) (cv ?_)
 exact fk h hk
 exact fk h hk
 clear x
 try dsimp only at h
 refine cv ?_
 replace h := aQ h
 obtain ⟨i17, y, h⟩ := h
 refine aH hΩ ((fun (q : Int) => (match q with | i17 => (.normal, [(1, PV.aS (zD4 E a b c e g i j l m n o p s t u)), (2, vi 0), (3, vi i17)], nO :: st))) i17) (fun k hk => ?_) ?_
 clear h
 have h := y
 clear y
 refine cv ?_
 revert h; refine bQ (fun a7 h => cv ?_) fun a7 h => cv ?_
 replace h := aQ h
 obtain ⟨Mh, a8, h⟩ := h
 refine av (Gt a8) (cv ?_)
 exact fk h hk
 exact fk h hk
 clear y
 try dsimp only at h
 refine cv ?_
 replace h := aQ h
 obtain ⟨i21, z, h⟩ := h
 refine aH hΩ ((fun (q : Int) => (match q with | i21 => (.normal, [(1, PV.aS (zD4 E a b c e g i j l m n o p s t u)), (2, vi 0), (3, vi i21)], nO :: st))) i21) (fun k hk => ?_) ?_
 clear h
 have h := z
 clear z
 refine cv ?_
 revert h; refine bQ (fun a9 h => cv ?_) fun a9 h => cv ?_
 replace h := aQ h
 obtain ⟨r19, b0, h⟩ := h
 refine av (Zp b0) (cv ?_)
 exact fk h hk
 exact fk h hk
 clear z
 try dsimp only at h
 refine cv ?_
 exact sp h
theorem acp {ru : Act → Option (Int)} (Qo : Zm Ω E ru) {qy : Expr → Option (Int)} (Mw : Zn Ω E qy) {rz : (Sl Expr) → Option (Int)} (Gt : Zo Ω E rz) {Ke : (Sl Act) → Option (Int)} (Zp : H92 Ω E Ke) {a0 : Sl Expr} {r : Int} (h : P6 fu ru qy rz Ke a0 = some r) {args : List PV} (ha : [PV.d (.sl (E.bL a0.l) (E.bS a0.x))] = args) (st : St) :
 Sat (Ω.cf 127 args st) (fun q => q = (PV.d (.int .i64 r), st)) := by
 subst ha
 rcases a0 with ⟨b, c⟩
 rw [aC hΩ (f := 127) (fn := Try.f127) rfl rfl rfl rfl rfl rfl]
 unfold P6 at h
 try dsimp only at h
 refine cv ?_
 refine aP hΩ (cO hE) b fun n1 o => cv ?_
 replace h := aQ h
 obtain ⟨q, e, h⟩ := h
 refine bK hΩ (fun (a : Int × Int) => (match a with | (i3, i4) => ([(0, PV.d (.sl (E.bL b) (E.bS c))), (2, vi 0), (3, vi i3), (4, vi i4)], nO :: st))) (fun (q : (Int × Int)) => (match q with | (qx, fq) => (.exit 0, [(0, PV.d (.sl (E.bL b) (E.bS c))), (2, vi 0), (3, vi qx), (4, vi fq)], nO :: st))) (ln b, 0) e ?_ ?_
 clear h e
 rintro ⟨i3, i4⟩ q h
 unfold BJ at h
 dsimp only at h
 refine cv ?_
 replace h := aQ h
 obtain ⟨i9, g, h⟩ := h
 refine aH hΩ ((fun (q : Bool) => (match q with | i9 => ([(0, PV.d (.sl (E.bL b) (E.bS c))), (2, vi 0), (3, vi i3), (4, vi i4), (14, vb i9)], nO :: st))) i9) (fun k hk => ?_) ?_
 clear h
 have h := g
 clear g
 refine cv ?_
 refine aP hΩ (cO hE) b fun n5 p => cv ?_
 revert h; refine bQ (fun i h => cv ?_) fun i h => cv ?_
 exact fk h hk
 exact fk h hk
 clear g
 try dsimp only at h
 refine cv ?_
 refine aN hΩ (cv ?_)
 revert h; refine bQ (fun j h => cv ?_) fun j h => cv ?_
 refine sat_true (bA hΩ (cO hE) b) (cv ?_)
 replace h := aQ h
 obtain ⟨⟨s, t, u, ⟨v, w⟩, ⟨y, z⟩, ⟨a1, a2⟩, a3, ⟨a4, a5⟩, ⟨a6, a7⟩, a8⟩, m, h⟩ := h
 try dsimp only at h
 refine ay (aW hΩ (cO hE) m) (cv ?_)
 replace h := aQ h
 obtain ⟨Gp, n, h⟩ := h
 refine av (Mw n) (cv ?_)
 obtain rfl := fZ h
 subst_vars
 exact s3
 obtain rfl := fZ h
 subst_vars
 exact sL
 clear e
 rcases q with ⟨qx, fq⟩
 dsimp only at h
 refine cv ?_
 exact sp h
theorem aeX {ru : Act → Option (Int)} (Qo : Zm Ω E ru) {qy : Expr → Option (Int)} (Mw : Zn Ω E qy) {rz : (Sl Expr) → Option (Int)} (Gt : Zo Ω E rz) {Ke : (Sl Act) → Option (Int)} (Zp : H92 Ω E Ke) {a0 : Sl Act} {r : Int} (h : YR fu ru qy rz Ke a0 = some r) {args : List PV} (ha : [PV.d (.sl (E.dF a0.l) (E.dQ a0.x))] = args) (st : St) :
 Sat (Ω.cf 92 args st) (fun q => q = (PV.d (.int .i64 r), st)) := by
 subst ha
 rcases a0 with ⟨b, c⟩
 rw [aC hΩ (f := 92) (fn := Try.f92) rfl rfl rfl rfl rfl rfl]
 unfold YR at h
 try dsimp only at h
 refine cv ?_
 refine aP hΩ (dR hE) b fun n1 o => cv ?_
 replace h := aQ h
 obtain ⟨q, e, h⟩ := h
 refine bK hΩ (fun (a : Int × Int) => (match a with | (i3, i4) => ([(0, PV.d (.sl (E.dF b) (E.dQ c))), (2, vi 0), (3, vi i3), (4, vi i4)], nO :: st))) (fun (q : (Int × Int)) => (match q with | (qx, fq) => (.exit 0, [(0, PV.d (.sl (E.dF b) (E.dQ c))), (2, vi 0), (3, vi qx), (4, vi fq)], nO :: st))) (ln b, 0) e ?_ ?_
 clear h e
 rintro ⟨i3, i4⟩ q h
 unfold Jf at h
 dsimp only at h
 refine cv ?_
 replace h := aQ h
 obtain ⟨i9, g, h⟩ := h
 refine aH hΩ ((fun (q : Bool) => (match q with | i9 => ([(0, PV.d (.sl (E.dF b) (E.dQ c))), (2, vi 0), (3, vi i3), (4, vi i4), (14, vb i9)], nO :: st))) i9) (fun k hk => ?_) ?_
 clear h
 have h := g
 clear g
 refine cv ?_
 refine aP hΩ (dR hE) b fun n5 p => cv ?_
 revert h; refine bQ (fun i h => cv ?_) fun i h => cv ?_
 exact fk h hk
 exact fk h hk
 clear g
 try dsimp only at h
 refine cv ?_
 refine aN hΩ (cv ?_)
 revert h; refine bQ (fun j h => cv ?_) fun j h => cv ?_
 refine sat_true (bA hΩ (dR hE) b) (cv ?_)
 replace h := aQ h
 obtain ⟨⟨s, t, ⟨u, v, w, ⟨y, z⟩, ⟨a1, a2⟩, ⟨a3, a4⟩, a5, ⟨a6, a7⟩, ⟨a8, a9⟩, b0⟩⟩, m, h⟩ := h
 try dsimp only at h
 refine ay (aW hΩ (dR hE) m) (cv ?_)
 replace h := aQ h
 obtain ⟨Gp, n, h⟩ := h
 refine av (Qo n) (cv ?_)
 obtain rfl := fZ h
 subst_vars
 exact s3
 obtain rfl := fZ h
 subst_vars
 exact sL
 clear e
 rcases q with ⟨qx, fq⟩
 dsimp only at h
 refine cv ?_
 exact sp h
theorem acr : ∀ fu,
 (∀ {a0 : Act} {r : Int}, Mi fu a0 = some r → ∀ {args : List PV}, [jG E a0] = args → ∀ (st : St), Sat (Ω.cf 109 args st) (fun q => q = (PV.d (.int .i64 r), st))) ∧
 (∀ {a0 : Expr} {r : Int}, Fa fu a0 = some r → ∀ {args : List PV}, [iy E a0] = args → ∀ (st : St), Sat (Ω.cf 119 args st) (fun q => q = (PV.d (.int .i64 r), st))) ∧
 (∀ {a0 : Sl Expr} {r : Int}, Ot fu a0 = some r → ∀ {args : List PV}, [PV.d (.sl (E.bL a0.l) (E.bS a0.x))] = args → ∀ (st : St), Sat (Ω.cf 127 args st) (fun q => q = (PV.d (.int .i64 r), st))) ∧
 (∀ {a0 : Sl Act} {r : Int}, Sk fu a0 = some r → ∀ {args : List PV}, [PV.d (.sl (E.dF a0.l) (E.dQ a0.x))] = args → ∀ (st : St), Sat (Ω.cf 92 args st) (fun q => q = (PV.d (.int .i64 r), st))) := by
 intro fu
 induction fu with
 | zero => exact ⟨(fun h => (by cases h)), (fun h => (by cases h)), (fun h => (by cases h)), (fun h => (by cases h))⟩
 | succ fu ih =>
  obtain ⟨i109, Zq, i127, i92⟩ := ih
  exact ⟨(fun h => @fun args ha st => acn (fu := fu) hΩ hE i109 Zq i127 i92 h ha st), (fun h => @fun args ha st => aco (fu := fu) hΩ hE i109 Zq i127 i92 h ha st), (fun h => @fun args ha st => acp (fu := fu) hΩ hE i109 Zq i127 i92 h ha st), (fun h => @fun args ha st => aeX (fu := fu) hΩ hE i109 Zq i127 i92 h ha st)⟩
theorem acs : ∀ {a0 : Sl Act} {r : Int}, Sk fu a0 = some r → ∀ {args : List PV}, [PV.d (.sl (E.dF a0.l) (E.dQ a0.x))] = args → ∀ (st : St), Sat (Ω.cf 92 args st) (fun q => q = (PV.d (.int .i64 r), st)) := (acr hΩ hE fu).2.2.2
theorem ag2 {a0 : Cell} {r : Int} (h : P71 fu a0 = some r) {args : List PV} (ha : [sM E a0] = args) (st : St) :
 Sat (Ω.cf 71 args st) (fun q => q = (PV.d (.int .i64 r), st)) := by
 subst ha
 rcases a0 with ⟨a, b, ⟨c, e, g, ⟨i, j⟩, ⟨l, m⟩, n, o, p⟩, ⟨s, t, u, ⟨v, w⟩, ⟨x, y⟩, z, a1, a2⟩, ⟨a3, a4⟩, ⟨a5, a6⟩, ⟨a7, a8⟩, ⟨a9, b0⟩, b1, b2, ⟨b3, b4⟩, ⟨b5, b6⟩⟩
 rw [aC hΩ (f := 71) (fn := Try.f71) rfl rfl rfl rfl rfl rfl]
 unfold P71 at h
 try dsimp only at h
 refine cv ?_
 replace h := aQ h
 obtain ⟨i4, b7, h⟩ := h
 refine aH hΩ ((fun (q : Int) => (match q with | i4 => (.normal, [(1, PV.aS (Xo E a b c e g i j l m n o p s t u v w x y z a1 a2 a3 a4 a5 a6 a7 a8 a9 b0 b1 b2 b3 b4 b5 b6)), (2, vi 0), (3, vi i4)], nO :: st))) i4) (fun k hk => ?_) ?_
 clear h
 have h := b7
 clear b7
 refine cv ?_
 revert h; refine bQ (fun c5 h => cv ?_) fun c5 h => cv ?_
 replace h := aQ h
 obtain ⟨r2, c6, h⟩ := h
 refine av (VF hΩ hE c6) (cv ?_)
 exact fk h hk
 exact fk h hk
 clear b7
 try dsimp only at h
 refine cv ?_
 replace h := aQ h
 obtain ⟨i9, b8, h⟩ := h
 refine aH hΩ ((fun (q : Int) => (match q with | i9 => (.normal, [(1, PV.aS (Xo E a b c e g i j l m n o p s t u v w x y z a1 a2 a3 a4 a5 a6 a7 a8 a9 b0 b1 b2 b3 b4 b5 b6)), (2, vi 0), (3, vi i9)], nO :: st))) i9) (fun k hk => ?_) ?_
 clear h
 have h := b8
 clear b8
 refine cv ?_
 revert h; refine bQ (fun c7 h => cv ?_) fun c7 h => cv ?_
 replace h := aQ h
 obtain ⟨r6, c8, h⟩ := h
 refine av (VF hΩ hE c8) (cv ?_)
 exact fk h hk
 exact fk h hk
 clear b8
 try dsimp only at h
 refine cv ?_
 replace h := aQ h
 obtain ⟨Ee, b9, h⟩ := h
 refine aH hΩ ((fun (q : Int) => (match q with | Ee => (.normal, [(1, PV.aS (Xo E a b c e g i j l m n o p s t u v w x y z a1 a2 a3 a4 a5 a6 a7 a8 a9 b0 b1 b2 b3 b4 b5 b6)), (2, vi 0), (3, vi Ee)], nO :: st))) Ee) (fun k hk => ?_) ?_
 clear h
 have h := b9
 clear b9
 refine cv ?_
 revert h; refine bQ (fun c9 h => cv ?_) fun c9 h => cv ?_
 replace h := aQ h
 obtain ⟨MQ, d0, h⟩ := h
 refine av (ag1 hΩ hE d0) (cv ?_)
 exact fk h hk
 exact fk h hk
 clear b9
 try dsimp only at h
 refine cv ?_
 replace h := aQ h
 obtain ⟨i17, c0, h⟩ := h
 refine aH hΩ ((fun (q : Int) => (match q with | i17 => (.normal, [(1, PV.aS (Xo E a b c e g i j l m n o p s t u v w x y z a1 a2 a3 a4 a5 a6 a7 a8 a9 b0 b1 b2 b3 b4 b5 b6)), (2, vi 0), (3, vi i17)], nO :: st))) i17) (fun k hk => ?_) ?_
 clear h
 have h := c0
 clear c0
 refine cv ?_
 revert h; refine bQ (fun d1 h => cv ?_) fun d1 h => cv ?_
 replace h := aQ h
 obtain ⟨Mh, d2, h⟩ := h
 refine av (acs hΩ hE d2) (cv ?_)
 exact fk h hk
 exact fk h hk
 clear c0
 try dsimp only at h
 refine cv ?_
 replace h := aQ h
 obtain ⟨i21, c1, h⟩ := h
 refine aH hΩ ((fun (q : Int) => (match q with | i21 => (.normal, [(1, PV.aS (Xo E a b c e g i j l m n o p s t u v w x y z a1 a2 a3 a4 a5 a6 a7 a8 a9 b0 b1 b2 b3 b4 b5 b6)), (2, vi 0), (3, vi i21)], nO :: st))) i21) (fun k hk => ?_) ?_
 clear h
 have h := c1
 clear c1
 refine cv ?_
 revert h; refine bQ (fun d3 h => cv ?_) fun d3 h => cv ?_
 replace h := aQ h
 obtain ⟨r19, d4, h⟩ := h
 refine av (acs hΩ hE d4) (cv ?_)
 exact fk h hk
 exact fk h hk
 clear c1
 try dsimp only at h
 refine cv ?_
 replace h := aQ h
 obtain ⟨i25, c2, h⟩ := h
 refine aH hΩ ((fun (q : Int) => (match q with | i25 => (.normal, [(1, PV.aS (Xo E a b c e g i j l m n o p s t u v w x y z a1 a2 a3 a4 a5 a6 a7 a8 a9 b0 b1 b2 b3 b4 b5 b6)), (2, vi 0), (3, vi i25)], nO :: st))) i25) (fun k hk => ?_) ?_
 clear h
 have h := c2
 clear c2
 refine cv ?_
 revert h; refine bQ (fun d5 h => cv ?_) fun d5 h => cv ?_
 replace h := aQ h
 obtain ⟨Vp, d6, h⟩ := h
 refine av (aeV hΩ hE d6) (cv ?_)
 exact fk h hk
 exact fk h hk
 clear c2
 try dsimp only at h
 refine cv ?_
 replace h := aQ h
 obtain ⟨i29, c3, h⟩ := h
 refine aH hΩ ((fun (q : Int) => (match q with | i29 => (.normal, [(1, PV.aS (Xo E a b c e g i j l m n o p s t u v w x y z a1 a2 a3 a4 a5 a6 a7 a8 a9 b0 b1 b2 b3 b4 b5 b6)), (2, vi 0), (3, vi i29)], nO :: st))) i29) (fun k hk => ?_) ?_
 clear h
 have h := c3
 clear c3
 refine cv ?_
 revert h; refine bQ (fun d7 h => cv ?_) fun d7 h => cv ?_
 replace h := aQ h
 obtain ⟨r27, d8, h⟩ := h
 refine av (acs hΩ hE d8) (cv ?_)
 exact fk h hk
 exact fk h hk
 clear c3
 try dsimp only at h
 refine cv ?_
 replace h := aQ h
 obtain ⟨i33, c4, h⟩ := h
 refine aH hΩ ((fun (q : Int) => (match q with | i33 => (.normal, [(1, PV.aS (Xo E a b c e g i j l m n o p s t u v w x y z a1 a2 a3 a4 a5 a6 a7 a8 a9 b0 b1 b2 b3 b4 b5 b6)), (2, vi 0), (3, vi i33)], nO :: st))) i33) (fun k hk => ?_) ?_
 clear h
 have h := c4
 clear c4
 refine cv ?_
 revert h; refine bQ (fun d9 h => cv ?_) fun d9 h => cv ?_
 replace h := aQ h
 obtain ⟨r31, e0, h⟩ := h
 refine av (aeV hΩ hE e0) (cv ?_)
 exact fk h hk
 exact fk h hk
 clear c4
 try dsimp only at h
 refine cv ?_
 exact sp h
theorem aeY {a0 : Sl Cell} {r : Int} (h : P46 fu a0 = some r) {args : List PV} (ha : [PV.d (.sl (E.eH a0.l) (E.gH a0.x))] = args) (st : St) :
 Sat (Ω.cf 46 args st) (fun q => q = (PV.d (.int .i64 r), st)) := by
 subst ha
 rcases a0 with ⟨b, c⟩
 rw [aC hΩ (f := 46) (fn := Try.f46) rfl rfl rfl rfl rfl rfl]
 unfold P46 at h
 try dsimp only at h
 refine cv ?_
 refine aP hΩ (cu hE) b fun n1 o => cv ?_
 replace h := aQ h
 obtain ⟨q, e, h⟩ := h
 refine bK hΩ (fun (a : Int × Int) => (match a with | (i3, i4) => ([(0, PV.d (.sl (E.eH b) (E.gH c))), (2, vi 0), (3, vi i3), (4, vi i4)], nO :: st))) (fun (q : (Int × Int)) => (match q with | (qx, fq) => (.exit 0, [(0, PV.d (.sl (E.eH b) (E.gH c))), (2, vi 0), (3, vi qx), (4, vi fq)], nO :: st))) (ln b, 0) e ?_ ?_
 clear h e
 rintro ⟨i3, i4⟩ q h
 unfold Jg at h
 dsimp only at h
 refine cv ?_
 replace h := aQ h
 obtain ⟨i9, g, h⟩ := h
 refine aH hΩ ((fun (q : Bool) => (match q with | i9 => ([(0, PV.d (.sl (E.eH b) (E.gH c))), (2, vi 0), (3, vi i3), (4, vi i4), (14, vb i9)], nO :: st))) i9) (fun k hk => ?_) ?_
 clear h
 have h := g
 clear g
 refine cv ?_
 refine aP hΩ (cu hE) b fun n5 p => cv ?_
 revert h; refine bQ (fun i h => cv ?_) fun i h => cv ?_
 exact fk h hk
 exact fk h hk
 clear g
 try dsimp only at h
 refine cv ?_
 refine aN hΩ (cv ?_)
 revert h; refine bQ (fun j h => cv ?_) fun j h => cv ?_
 refine sat_true (bA hΩ (cu hE) b) (cv ?_)
 replace h := aQ h
 obtain ⟨⟨s, t, ⟨u, v, w, ⟨y, z⟩, ⟨a1, a2⟩, a3, a4, a5⟩, ⟨a6, a7, a8, ⟨a9, b0⟩, ⟨b1, b2⟩, b3, b4, b5⟩, ⟨b6, b7⟩, ⟨b8, b9⟩, ⟨c0, c1⟩, ⟨c2, c3⟩, c4, c5, ⟨c6, c7⟩, ⟨c8, c9⟩⟩, m, h⟩ := h
 try dsimp only at h
 refine ay (aW hΩ (cu hE) m) (cv ?_)
 replace h := aQ h
 obtain ⟨Gp, n, h⟩ := h
 refine av (ag2 hΩ hE n) (cv ?_)
 obtain rfl := fZ h
 subst_vars
 exact s3
 obtain rfl := fZ h
 subst_vars
 exact sL
 clear e
 rcases q with ⟨qx, fq⟩
 dsimp only at h
 refine cv ?_
 exact sp h
theorem aeZ {a0 : Sl Child} {r : Int} (h : P47 fu a0 = some r) {args : List PV} (ha : [PV.d (.sl (E.dJ a0.l) (E.eP a0.x))] = args) (st : St) :
 Sat (Ω.cf 47 args st) (fun q => q = (PV.d (.int .i64 r), st)) := by
 subst ha
 rcases a0 with ⟨b, c⟩
 rw [aC hΩ (f := 47) (fn := Try.f47) rfl rfl rfl rfl rfl rfl]
 unfold P47 at h
 try dsimp only at h
 refine cv ?_
 refine aP hΩ (bM hE) b fun n1 o => cv ?_
 replace h := aQ h
 obtain ⟨q, e, h⟩ := h
 refine bK hΩ (fun (a : Int × Int) => (match a with | (i3, i4) => ([(0, PV.d (.sl (E.dJ b) (E.eP c))), (2, vi 0), (3, vi i3), (4, vi i4)], nO :: st))) (fun (q : (Int × Int)) => (match q with | (qx, fq) => (.exit 0, [(0, PV.d (.sl (E.dJ b) (E.eP c))), (2, vi 0), (3, vi qx), (4, vi fq)], nO :: st))) (ln b, 0) e ?_ ?_
 clear h e
 rintro ⟨i3, i4⟩ q h
 unfold Jh at h
 dsimp only at h
 refine cv ?_
 replace h := aQ h
 obtain ⟨i9, g, h⟩ := h
 refine aH hΩ ((fun (q : Bool) => (match q with | i9 => ([(0, PV.d (.sl (E.dJ b) (E.eP c))), (2, vi 0), (3, vi i3), (4, vi i4), (14, vb i9)], nO :: st))) i9) (fun k hk => ?_) ?_
 clear h
 have h := g
 clear g
 refine cv ?_
 refine aP hΩ (bM hE) b fun n5 p => cv ?_
 revert h; refine bQ (fun i h => cv ?_) fun i h => cv ?_
 exact fk h hk
 exact fk h hk
 clear g
 try dsimp only at h
 refine cv ?_
 refine aN hΩ (cv ?_)
 revert h; refine bQ (fun j h => cv ?_) fun j h => cv ?_
 refine sat_true (bA hΩ (bM hE) b) (cv ?_)
 replace h := aQ h
 obtain ⟨⟨s, t, u, ⟨v, w, y, ⟨z, a1⟩, ⟨a2, a3⟩, a4, a5, a6⟩⟩, m, h⟩ := h
 try dsimp only at h
 refine ay (aW hΩ (bM hE) m) (cv ?_)
 replace h := aQ h
 obtain ⟨Gp, n, h⟩ := h
 refine av (acj hΩ hE n) (cv ?_)
 obtain rfl := fZ h
 subst_vars
 exact s3
 obtain rfl := fZ h
 subst_vars
 exact sL
 clear e
 rcases q with ⟨qx, fq⟩
 dsimp only at h
 refine cv ?_
 exact sp h
def H16 (Ω : Om) (E : Enc) (p16 : Inst → Option (Int)) : Prop := ∀ {a0 : Inst} {r : Int}, p16 a0 = some r → ∀ {args : List PV}, [bg E a0] = args → ∀ (st : St), Sat (Ω.cf 16 args st) (fun q => q = (PV.d (.int .i64 r), st))
def H48 (Ω : Om) (E : Enc) (p48 : (Sl Inst) → Option (Int)) : Prop := ∀ {a0 : Sl Inst} {r : Int}, p48 a0 = some r → ∀ {args : List PV}, [PV.d (.sl (E.au a0.l) (E.aD a0.x))] = args → ∀ (st : St), Sat (Ω.cf 48 args st) (fun q => q = (PV.d (.int .i64 r), st))
theorem ae0 {p16 : Inst → Option (Int)} (ae1 : H16 Ω E p16) {p48 : (Sl Inst) → Option (Int)} (acu : H48 Ω E p48) {a0 : Inst} {r : Int} (h : YS fu p16 p48 a0 = some r) {args : List PV} (ha : [bg E a0] = args) (st : St) :
 Sat (Ω.cf 16 args st) (fun q => q = (PV.d (.int .i64 r), st)) := by
 subst ha
 rcases a0 with ⟨a, ⟨b, c, e, ⟨g, i, j, ⟨l, m⟩, ⟨n, o⟩, p, s, t⟩⟩, ⟨u, v⟩, ⟨w, x⟩, ⟨y, z⟩, a1, a2, a3, ⟨a4, a5, a6, ⟨a7, a8⟩, ⟨a9, b0⟩, b1, b2, b3⟩, b4, b5, ⟨b6, b7⟩, b8, b9⟩
 rw [aC hΩ (f := 16) (fn := Try.f16) rfl rfl rfl rfl rfl rfl]
 unfold YS at h
 try dsimp only at h
 refine cv ?_
 replace h := aQ h
 obtain ⟨i4, c0, h⟩ := h
 refine aH hΩ ((fun (q : Int) => (match q with | i4 => (.normal, [(1, PV.aS (jW E a b c e g i j l m n o p s t u v w x y z a1 a2 a3 a4 a5 a6 a7 a8 a9 b0 b1 b2 b3 b4 b5 b6 b7 b8 b9)), (2, vi 0), (3, vi i4)], nO :: st))) i4) (fun k hk => ?_) ?_
 clear h
 have h := c0
 clear c0
 refine cv ?_
 revert h; refine bQ (fun c6 h => cv ?_) fun c6 h => cv ?_
 replace h := aQ h
 obtain ⟨r2, c7, h⟩ := h
 refine av (acj hΩ hE c7) (cv ?_)
 exact fk h hk
 exact fk h hk
 clear c0
 try dsimp only at h
 refine cv ?_
 replace h := aQ h
 obtain ⟨i9, c1, h⟩ := h
 refine aH hΩ ((fun (q : Int) => (match q with | i9 => (.normal, [(1, PV.aS (jW E a b c e g i j l m n o p s t u v w x y z a1 a2 a3 a4 a5 a6 a7 a8 a9 b0 b1 b2 b3 b4 b5 b6 b7 b8 b9)), (2, vi 0), (3, vi i9)], nO :: st))) i9) (fun k hk => ?_) ?_
 clear h
 have h := c1
 clear c1
 refine cv ?_
 revert h; refine bQ (fun c8 h => cv ?_) fun c8 h => cv ?_
 replace h := aQ h
 obtain ⟨r6, c9, h⟩ := h
 refine av (aeY hΩ hE c9) (cv ?_)
 exact fk h hk
 exact fk h hk
 clear c1
 try dsimp only at h
 refine cv ?_
 replace h := aQ h
 obtain ⟨Ee, c2, h⟩ := h
 refine aH hΩ ((fun (q : Int) => (match q with | Ee => (.normal, [(1, PV.aS (jW E a b c e g i j l m n o p s t u v w x y z a1 a2 a3 a4 a5 a6 a7 a8 a9 b0 b1 b2 b3 b4 b5 b6 b7 b8 b9)), (2, vi 0), (3, vi Ee)], nO :: st))) Ee) (fun k hk => ?_) ?_
 clear h
 have h := c2
 clear c2
 refine cv ?_
 revert h; refine bQ (fun d0 h => cv ?_) fun d0 h => cv ?_
 replace h := aQ h
 obtain ⟨MQ, d1, h⟩ := h
 refine av (aeZ hΩ hE d1) (cv ?_)
 exact fk h hk
 exact fk h hk
 clear c2
 try dsimp only at h
 refine cv ?_
 replace h := aQ h
 obtain ⟨i17, c3, h⟩ := h
 refine aH hΩ ((fun (q : Int) => (match q with | i17 => (.normal, [(1, PV.aS (jW E a b c e g i j l m n o p s t u v w x y z a1 a2 a3 a4 a5 a6 a7 a8 a9 b0 b1 b2 b3 b4 b5 b6 b7 b8 b9)), (2, vi 0), (3, vi i17)], nO :: st))) i17) (fun k hk => ?_) ?_
 clear h
 have h := c3
 clear c3
 refine cv ?_
 revert h; refine bQ (fun d2 h => cv ?_) fun d2 h => cv ?_
 replace h := aQ h
 obtain ⟨Mh, d3, h⟩ := h
 refine av (acu d3) (cv ?_)
 exact fk h hk
 exact fk h hk
 clear c3
 try dsimp only at h
 refine cv ?_
 replace h := aQ h
 obtain ⟨i21, c4, h⟩ := h
 refine aH hΩ ((fun (q : Int) => (match q with | i21 => (.normal, [(1, PV.aS (jW E a b c e g i j l m n o p s t u v w x y z a1 a2 a3 a4 a5 a6 a7 a8 a9 b0 b1 b2 b3 b4 b5 b6 b7 b8 b9)), (2, vi 0), (3, vi i21)], nO :: st))) i21) (fun k hk => ?_) ?_
 clear h
 have h := c4
 clear c4
 refine cv ?_
 revert h; refine bQ (fun d4 h => cv ?_) fun d4 h => cv ?_
 replace h := aQ h
 obtain ⟨r19, d5, h⟩ := h
 refine av (VF hΩ hE d5) (cv ?_)
 exact fk h hk
 exact fk h hk
 clear c4
 try dsimp only at h
 refine cv ?_
 replace h := aQ h
 obtain ⟨i25, c5, h⟩ := h
 refine aH hΩ ((fun (q : Int) => (match q with | i25 => (.normal, [(1, PV.aS (jW E a b c e g i j l m n o p s t u v w x y z a1 a2 a3 a4 a5 a6 a7 a8 a9 b0 b1 b2 b3 b4 b5 b6 b7 b8 b9)), (2, vi 0), (3, vi i25)], nO :: st))) i25) (fun k hk => ?_) ?_
 clear h
 have h := c5
 clear c5
 refine cv ?_
 revert h; refine bQ (fun d6 h => cv ?_) fun d6 h => cv ?_
 replace h := aQ h
 obtain ⟨Vp, d7, h⟩ := h
 refine av (acu d7) (cv ?_)
 exact fk h hk
 exact fk h hk
 clear c5
 try dsimp only at h
 refine cv ?_
 exact sp h
theorem ae2 {p16 : Inst → Option (Int)} (ae1 : H16 Ω E p16) {p48 : (Sl Inst) → Option (Int)} (acu : H48 Ω E p48) {a0 : Sl Inst} {r : Int} (h : YT fu p16 p48 a0 = some r) {args : List PV} (ha : [PV.d (.sl (E.au a0.l) (E.aD a0.x))] = args) (st : St) :
 Sat (Ω.cf 48 args st) (fun q => q = (PV.d (.int .i64 r), st)) := by
 subst ha
 rcases a0 with ⟨b, c⟩
 rw [aC hΩ (f := 48) (fn := Try.f48) rfl rfl rfl rfl rfl rfl]
 unfold YT at h
 try dsimp only at h
 refine cv ?_
 refine aP hΩ (ak hE) b fun n1 o => cv ?_
 replace h := aQ h
 obtain ⟨q, e, h⟩ := h
 refine bK hΩ (fun (a : Int × Int) => (match a with | (i3, i4) => ([(0, PV.d (.sl (E.au b) (E.aD c))), (2, vi 0), (3, vi i3), (4, vi i4)], nO :: st))) (fun (q : (Int × Int)) => (match q with | (qx, fq) => (.exit 0, [(0, PV.d (.sl (E.au b) (E.aD c))), (2, vi 0), (3, vi qx), (4, vi fq)], nO :: st))) (ln b, 0) e ?_ ?_
 clear h e
 rintro ⟨i3, i4⟩ q h
 unfold Ji at h
 dsimp only at h
 refine cv ?_
 replace h := aQ h
 obtain ⟨i9, g, h⟩ := h
 refine aH hΩ ((fun (q : Bool) => (match q with | i9 => ([(0, PV.d (.sl (E.au b) (E.aD c))), (2, vi 0), (3, vi i3), (4, vi i4), (14, vb i9)], nO :: st))) i9) (fun k hk => ?_) ?_
 clear h
 have h := g
 clear g
 refine cv ?_
 refine aP hΩ (ak hE) b fun n5 p => cv ?_
 revert h; refine bQ (fun i h => cv ?_) fun i h => cv ?_
 exact fk h hk
 exact fk h hk
 clear g
 try dsimp only at h
 refine cv ?_
 refine aN hΩ (cv ?_)
 revert h; refine bQ (fun j h => cv ?_) fun j h => cv ?_
 refine sat_true (bA hΩ (ak hE) b) (cv ?_)
 replace h := aQ h
 obtain ⟨⟨s, ⟨t, u, v, ⟨w, y, z, ⟨a1, a2⟩, ⟨a3, a4⟩, a5, a6, a7⟩⟩, ⟨a8, a9⟩, ⟨b0, b1⟩, ⟨b2, b3⟩, b4, b5, b6, ⟨b7, b8, b9, ⟨c0, c1⟩, ⟨c2, c3⟩, c4, c5, c6⟩, c7, c8, ⟨c9, d0⟩, d1, d2⟩, m, h⟩ := h
 try dsimp only at h
 refine ay (aW hΩ (ak hE) m) (cv ?_)
 replace h := aQ h
 obtain ⟨Gp, n, h⟩ := h
 refine av (ae1 n) (cv ?_)
 obtain rfl := fZ h
 subst_vars
 exact s3
 obtain rfl := fZ h
 subst_vars
 exact sL
 clear e
 rcases q with ⟨qx, fq⟩
 dsimp only at h
 refine cv ?_
 exact sp h
theorem ae3 : ∀ fu,
 (∀ {a0 : Inst} {r : Int}, P16 fu a0 = some r → ∀ {args : List PV}, [bg E a0] = args → ∀ (st : St), Sat (Ω.cf 16 args st) (fun q => q = (PV.d (.int .i64 r), st))) ∧
 (∀ {a0 : Sl Inst} {r : Int}, P48 fu a0 = some r → ∀ {args : List PV}, [PV.d (.sl (E.au a0.l) (E.aD a0.x))] = args → ∀ (st : St), Sat (Ω.cf 48 args st) (fun q => q = (PV.d (.int .i64 r), st))) := by
 intro fu
 induction fu with
 | zero => exact ⟨(fun h => (by cases h)), (fun h => (by cases h))⟩
 | succ fu ih =>
  obtain ⟨i16, i48⟩ := ih
  exact ⟨(fun h => @fun args ha st => ae0 (fu := fu) hΩ hE i16 i48 h ha st), (fun h => @fun args ha st => ae2 (fu := fu) hΩ hE i16 i48 h ha st)⟩
theorem ok16 : ∀ {a0 : Inst} {r : Int}, P16 fu a0 = some r → ∀ {args : List PV}, [bg E a0] = args → ∀ (st : St), Sat (Ω.cf 16 args st) (fun q => q = (PV.d (.int .i64 r), st)) := (ae3 hΩ hE fu).1
theorem ag3 {a0 : Sl Int} {r : Bool} (h : P23 fu a0 = some r) {args : List PV} (ha : [PV.d (.sl (E.vT a0.l) (E.vU a0.x))] = args) (st : St) :
 Sat (Ω.cf 23 args st) (fun q => q = (PV.d (.bool r), st)) := by
 subst ha
 rcases a0 with ⟨b, c⟩
 rw [aC hΩ (f := 23) (fn := Try.f23) rfl rfl rfl rfl rfl rfl]
 unfold P23 at h
 try dsimp only at h
 refine cv ?_
 replace h := aQ h
 obtain ⟨q, e, h⟩ := h
 refine bK hΩ (fun (a : Bool × Int × Int) => (match a with | (i1, i2, i3) => ([(0, PV.d (.sl (E.vT b) (E.vU c))), (2, vb i1), (3, vi i2), (4, vi i3)], nO :: st))) (fun (q : (Bool × Int × Int) ⊕ (Bool × Int × Int)) => (match q with | .inl (o11, o12, Qa) => (.exit 0, [(0, PV.d (.sl (E.vT b) (E.vU c))), (2, vb o11), (3, vi o12), (4, vi Qa)], nO :: st) | .inr (Qb, Sj, o16) => (.ret, [(0, PV.d (.sl (E.vT b) (E.vU c))), (2, vb Qb), (3, vi Sj), (4, vi o16)], nO :: st))) (false, 0, 0) e ?_ ?_
 clear h e
 rintro ⟨i1, i2, i3⟩ q h
 unfold Ef at h
 dsimp only at h
 refine cv ?_
 refine aP hΩ (Ed hE) b fun n4 k => cv ?_
 refine aN hΩ (cv ?_)
 revert h; refine bQ (fun g h => cv ?_) fun g h => cv ?_
 refine sat_true (bA hΩ (Ed hE) b) (cv ?_)
 replace h := aQ h
 obtain ⟨x7, i, h⟩ := h
 refine ay (aW hΩ (Ed hE) i) (cv ?_)
 refine aN hΩ (cv ?_)
 revert h; refine bQ (fun j h => cv ?_) fun j h => cv ?_
 obtain rfl := fZ h
 subst_vars
 exact sR
 obtain rfl := fZ h
 subst_vars
 exact s3
 obtain rfl := fZ h
 subst_vars
 exact sL
 clear e
 rcases q with ⟨o11, o12, Qa⟩ | ⟨Qb, Sj, o16⟩
 dsimp only at h
 refine cv ?_
 exact sp h
 dsimp only at h
 refine cv ?_
 exact sp h
def H24 (Ω : Om) (E : Enc) (Vq : Inst → Int → Option (Int)) : Prop := ∀ {a0 : Inst} {a1 : Int} {r : Int}, Vq a0 a1 = some r → ∀ {args : List PV}, [bg E a0, PV.d (.int .i64 a1)] = args → ∀ (st : St), Sat (Ω.cf 24 args st) (fun q => q = (PV.d (.int .i64 r), st))
theorem ae4 {Vq : Inst → Int → Option (Int)} (ae5 : H24 Ω E Vq) {a0 : Inst} {a1 : Int} {r : Int} (h : YU fu Vq a0 a1 = some r) {args : List PV} (ha : [bg E a0, PV.d (.int .i64 a1)] = args) (st : St) :
 Sat (Ω.cf 24 args st) (fun q => q = (PV.d (.int .i64 r), st)) := by
 subst ha
 rcases a0 with ⟨e, ⟨g, i, j, ⟨l, m, n, ⟨o, p⟩, ⟨s, t⟩, u, v, w⟩⟩, ⟨x, y⟩, ⟨z, a2⟩, ⟨b, a3⟩, a4, a5, a6, ⟨a7, a8, a9, ⟨b0, b1⟩, ⟨b2, b3⟩, b4, b5, b6⟩, b7, b8, ⟨c, b9⟩, c0, c1⟩
 rw [aC hΩ (f := 24) (fn := Try.f24) rfl rfl rfl rfl rfl rfl]
 unfold YU at h
 try dsimp only at h
 refine cv ?_
 replace h := aQ h
 obtain ⟨r1, c6, h⟩ := h
 refine av (acj hΩ hE c6) (cv ?_)
 refine sat_true (dL hΩ _) (cv ?_)
 replace h := aQ h
 obtain ⟨r3, c7, h⟩ := h
 refine av (aeY hΩ hE c7) (cv ?_)
 refine sat_true (dL hΩ _) (cv ?_)
 replace h := aQ h
 obtain ⟨r5, c8, h⟩ := h
 refine av (aeZ hΩ hE c8) (cv ?_)
 refine sat_true (dL hΩ _) (cv ?_)
 refine ah hΩ (cv ?_)
 replace h := aQ h
 obtain ⟨r7, c9, h⟩ := h
 refine av (VF hΩ hE c9) (cv ?_)
 refine sat_true (dL hΩ _) (cv ?_)
 replace h := aQ h
 obtain ⟨q, c2, h⟩ := h
 refine bK hΩ (fun (a : Int × Int) => (match a with | (i9, Qc) => ([(1, vi a1), (2, PV.aS (jW E e g i j l m n o p s t u v w x y z a2 b a3 a4 a5 a6 a7 a8 a9 b0 b1 b2 b3 b4 b5 b6 b7 b8 c b9 c0 c1)), (4, vi 0), (5, vi i9), (6, vi Qc)], nO :: st))) (fun (q : (Int × Int)) => (match q with | (o22, o23) => (.exit 0, [(1, vi a1), (2, PV.aS (jW E e g i j l m n o p s t u v w x y z a2 b a3 a4 a5 a6 a7 a8 a9 b0 b1 b2 b3 b4 b5 b6 b7 b8 c b9 c0 c1)), (4, vi 0), (5, vi o22), (6, vi o23)], nO :: st))) (dS (a1 * (dS ((dS ((dS ((dS (1 + r1)) + r3)) + r5)) + r7))), 0) c2 ?_ ?_
 clear h c2
 rintro ⟨i9, Qc⟩ q h
 unfold Eh at h
 dsimp only at h
 refine cv ?_
 replace h := aQ h
 obtain ⟨Vr, c3, h⟩ := h
 refine aH hΩ ((fun (q : Bool) => (match q with | Vr => ([(1, vi a1), (2, PV.aS (jW E e g i j l m n o p s t u v w x y z a2 b a3 a4 a5 a6 a7 a8 a9 b0 b1 b2 b3 b4 b5 b6 b7 b8 c b9 c0 c1)), (4, vi 0), (5, vi i9), (6, vi Qc), (34, vb Vr)], nO :: st))) Vr) (fun k hk => ?_) ?_
 clear h
 have h := c3
 clear c3
 refine cv ?_
 refine aP hΩ (ak hE) b fun n11 d8 => cv ?_
 revert h; refine bQ (fun d0 h => cv ?_) fun d0 h => cv ?_
 exact fk h hk
 exact fk h hk
 clear c3
 try dsimp only at h
 refine cv ?_
 refine aN hΩ (cv ?_)
 revert h; refine bQ (fun d1 h => cv ?_) fun d1 h => cv ?_
 refine sat_true (bA hΩ (ak hE) b) (cv ?_)
 replace h := aQ h
 obtain ⟨⟨d9, ⟨e0, e3, e4, ⟨e5, e6, e7, ⟨e8, e9⟩, ⟨f0, f1⟩, f2, f3, f4⟩⟩, ⟨f5, f6⟩, ⟨f7, f8⟩, ⟨f9, g0⟩, g1, g2, g3, ⟨g4, g5, g6, ⟨g7, g8⟩, ⟨g9, h0⟩, h3, h4, h5⟩, h6, h7, ⟨h8, h9⟩, i0, i1⟩, d2, h⟩ := h
 try dsimp only at h
 refine ay (aW hΩ (ak hE) d2) (cv ?_)
 replace h := aQ h
 obtain ⟨r18, d3, h⟩ := h
 refine av (ae5 d3) (cv ?_)
 obtain rfl := fZ h
 subst_vars
 exact s3
 obtain rfl := fZ h
 subst_vars
 exact sL
 clear c2
 rcases q with ⟨o22, o23⟩
 dsimp only at h
 refine cv ?_
 replace h := aQ h
 obtain ⟨q, c4, h⟩ := h
 refine bK hΩ (fun (a : Int × Int) => (match a with | (i24, i25) => ([(1, vi a1), (2, PV.aS (jW E e g i j l m n o p s t u v w x y z a2 b a3 a4 a5 a6 a7 a8 a9 b0 b1 b2 b3 b4 b5 b6 b7 b8 c b9 c0 c1)), (4, vi 0), (5, vi i24), (6, vi o23), (7, vi i25)], nO :: st))) (fun (q : (Int × Int)) => (match q with | (o37, o38) => (.exit 2, [(1, vi a1), (2, PV.aS (jW E e g i j l m n o p s t u v w x y z a2 b a3 a4 a5 a6 a7 a8 a9 b0 b1 b2 b3 b4 b5 b6 b7 b8 c b9 c0 c1)), (4, vi 0), (5, vi o37), (6, vi o23), (7, vi o38)], nO :: st))) (o22, 0) c4 ?_ ?_
 clear h c4
 rintro ⟨i24, i25⟩ q h
 unfold Ei at h
 dsimp only at h
 refine cv ?_
 replace h := aQ h
 obtain ⟨i29, c5, h⟩ := h
 refine aH hΩ ((fun (q : Bool) => (match q with | i29 => ([(1, vi a1), (2, PV.aS (jW E e g i j l m n o p s t u v w x y z a2 b a3 a4 a5 a6 a7 a8 a9 b0 b1 b2 b3 b4 b5 b6 b7 b8 c b9 c0 c1)), (4, vi 0), (5, vi i24), (6, vi o23), (7, vi i25), (55, vb i29)], nO :: st))) i29) (fun k hk => ?_) ?_
 clear h
 have h := c5
 clear c5
 refine cv ?_
 refine aP hΩ (ak hE) c fun n26 i2 => cv ?_
 revert h; refine bQ (fun d4 h => cv ?_) fun d4 h => cv ?_
 exact fk h hk
 exact fk h hk
 clear c5
 try dsimp only at h
 refine cv ?_
 refine aN hΩ (cv ?_)
 revert h; refine bQ (fun d5 h => cv ?_) fun d5 h => cv ?_
 refine sat_true (bA hΩ (ak hE) c) (cv ?_)
 replace h := aQ h
 obtain ⟨⟨i3, ⟨i4, i5, i6, ⟨i7, j0, j1, ⟨j2, j3⟩, ⟨j4, j5⟩, j6, j7, j8⟩⟩, ⟨j9, k0⟩, ⟨k1, k2⟩, ⟨k3, k4⟩, k5, k6, k7, ⟨k8, k9, l0, ⟨l1, l2⟩, ⟨l3, l4⟩, l5, l6, l7⟩, l8, l9, ⟨m0, m1⟩, m2, m3⟩, d6, h⟩ := h
 try dsimp only at h
 refine ay (aW hΩ (ak hE) d6) (cv ?_)
 replace h := aQ h
 obtain ⟨r33, d7, h⟩ := h
 refine av (ae5 d7) (cv ?_)
 obtain rfl := fZ h
 subst_vars
 exact s3
 obtain rfl := fZ h
 subst_vars
 exact sL
 clear c4
 rcases q with ⟨o37, o38⟩
 dsimp only at h
 refine cv ?_
 exact sp h
theorem ae6 : ∀ fu,
 (∀ {a0 : Inst} {a1 : Int} {r : Int}, P24 fu a0 a1 = some r → ∀ {args : List PV}, [bg E a0, PV.d (.int .i64 a1)] = args → ∀ (st : St), Sat (Ω.cf 24 args st) (fun q => q = (PV.d (.int .i64 r), st))) := by
 intro fu
 induction fu with
 | zero => exact (fun h => (by cases h))
 | succ fu ih =>
  have i24 := @ih
  exact @fun _ _ _ h args ha st => ae4 (fu := fu) hΩ hE i24 h ha st
theorem ag4 : ∀ {a0 : Inst} {a1 : Int} {r : Int}, P24 fu a0 a1 = some r → ∀ {args : List PV}, [bg E a0, PV.d (.int .i64 a1)] = args → ∀ (st : St), Sat (Ω.cf 24 args st) (fun q => q = (PV.d (.int .i64 r), st)) := (ae6 hΩ hE fu)
theorem ok8 {a0 : Inst} {r : Bool} (h : P8 fu a0 = some r) {args : List PV} (ha : [bg E a0] = args) (st : St) :
 Sat (Ω.cf 8 args st) (fun q => q = (PV.d (.bool r), st)) := by
 subst ha
 rcases a0 with ⟨b, ⟨c, e, g, ⟨i, j, l, ⟨m, n⟩, ⟨o, p⟩, s, t, u⟩⟩, ⟨v, w⟩, ⟨x, y⟩, ⟨z, a1⟩, a2, a3, a4, ⟨a5, a6, a7, ⟨a8, a9⟩, ⟨b0, b1⟩, b2, b3, b4⟩, b5, b6, ⟨b7, b8⟩, b9, c0⟩
 rw [aC hΩ (f := 8) (fn := Try.f8) rfl rfl rfl rfl rfl rfl]
 unfold P8 at h
 try dsimp only at h
 refine cv ?_
 replace h := aQ h
 obtain ⟨i9, a, h⟩ := h
 refine aH hΩ ((fun (q : Bool) => (match q with | i9 => ([(1, PV.aS (jW E b c e g i j l m n o p s t u v w x y z a1 a2 a3 a4 a5 a6 a7 a8 a9 b0 b1 b2 b3 b4 b5 b6 b7 b8 b9 c0)), (2, vb i9)], nO :: st))) i9) (fun k hk => ?_) ?_
 clear h
 have h := a
 clear a
 refine cv ?_
 replace h := aQ h
 obtain ⟨r1, c1, h⟩ := h
 refine av (ok16 hΩ hE c1) (cv ?_)
 replace h := aQ h
 obtain ⟨r3, c2, h⟩ := h
 refine av (ag3 hΩ hE c2) (cv ?_)
 revert h; refine bQ (fun c3 h => cv ?_) fun c3 h => cv ?_
 replace h := aQ h
 obtain ⟨r6, c4, h⟩ := h
 refine av (ag4 hΩ hE c4) (cv ?_)
 exact fk h hk
 exact fk h hk
 clear a
 try dsimp only at h
 refine cv ?_
 exact sp h
theorem ae7 {a0 : Sl Inst} {r : Bool} (h : P59 fu a0 = some r) {args : List PV} (ha : [PV.d (.sl (E.au a0.l) (E.aD a0.x))] = args) (st : St) :
 Sat (Ω.cf 59 args st) (fun q => q = (PV.d (.bool r), st)) := by
 subst ha
 rcases a0 with ⟨b, c⟩
 rw [aC hΩ (f := 59) (fn := Try.f59) rfl rfl rfl rfl rfl rfl]
 unfold P59 at h
 try dsimp only at h
 refine cv ?_
 refine sat_empty hΩ (uW hE) fun m1 hm2 => cv ?_
 refine aP hΩ (ak hE) b fun n3 o => cv ?_
 replace h := aQ h
 obtain ⟨q, e, h⟩ := h
 refine bK hΩ (fun (a : (List (ByteArray × Bool)) × Int) => (match a with | (m5, i6) => ([(0, PV.d (.sl (E.au b) (E.aD c))), (2, vb false), (3, PV.map 0 0), (7, PV.d (.sl (E.au b) (E.aD c))), (8, vi n3), (9, vi i6)], ([X.Obj.map .str true (E.oO m5)] : List X.Obj) :: st))) (fun (q : ((List (ByteArray × Bool)) × Int)) => (match q with | (Qa, Qb) => (.exit 0, [(0, PV.d (.sl (E.au b) (E.aD c))), (2, vb false), (3, PV.map 0 0), (7, PV.d (.sl (E.au b) (E.aD c))), (8, vi n3), (9, vi Qb)], ([X.Obj.map .str true (E.oO Qa)] : List X.Obj) :: st))) (([] : List (ByteArray × Bool)), 0) e ?_ ?_
 clear h e
 rintro ⟨m5, i6⟩ q h
 unfold zR at h
 dsimp only at h
 refine cv ?_
 refine aN hΩ (cv ?_)
 revert h; refine bQ (fun i h => cv ?_) fun i h => cv ?_
 refine sat_true (bA hΩ (ak hE) b) (cv ?_)
 replace h := aQ h
 obtain ⟨⟨p, ⟨j, s, t, ⟨u, v, w, ⟨y, z⟩, ⟨a1, a2⟩, a3, a4, a5⟩⟩, ⟨a6, a7⟩, ⟨a8, a9⟩, ⟨b0, b1⟩, b2, b3, b4, ⟨b5, b6, b7, ⟨b8, b9⟩, ⟨c0, c1⟩, c2, c3, c4⟩, c5, c6, ⟨c7, c8⟩, c9, d0⟩, m, h⟩ := h
 try dsimp only at h
 refine ay (aW hΩ (ak hE) m) (cv ?_)
 refine PK hΩ (uW hE) m5 j true fun m10 ahR => cv ?_
 obtain rfl := fZ h
 subst_vars
 exact s3
 obtain rfl := fZ h
 subst_vars
 exact sL
 clear e
 rcases q with ⟨Qa, Qb⟩
 dsimp only at h
 refine cv ?_
 replace h := aQ h
 obtain ⟨i22, g, h⟩ := h
 refine aH hΩ ((fun (q : Bool) => (match q with | i22 => ([(2, vb i22), (3, PV.map 0 0), (7, PV.d (.sl (E.au b) (E.aD c))), (8, vi n3), (9, vi Qb)], ([X.Obj.map .str true (E.oO Qa)] : List X.Obj) :: st))) i22) (fun k hk => ?_) ?_
 clear h
 have h := g
 clear g
 refine cv ?_
 refine aP hΩ (ak hE) b fun n15 d1 => cv ?_
 revert h; refine bQ (fun n h => cv ?_) fun n h => cv ?_
 refine Uc hΩ (uW hE) Qa fun n18 d2 => cv ?_
 refine aP hΩ (ak hE) b fun n20 d3 => cv ?_
 exact fk h hk
 exact fk h hk
 clear g
 try dsimp only at h
 refine cv ?_
 exact sp h
theorem ag5 {a0 : Sl Int} {a1 : Int} {r : Int} (h : P82 fu a0 a1 = some r) {args : List PV} (ha : [PV.d (.sl (E.qw a0.l) (E.uL a0.x)), PV.d (.int .u8 a1)] = args) (st : St) :
 Sat (Ω.cf 82 args st) (fun q => q = (PV.d (.int .i64 r), st)) := by
 subst ha
 rcases a0 with ⟨b, c⟩
 rw [aC hΩ (f := 82) (fn := Try.f82) rfl rfl rfl rfl rfl rfl]
 unfold P82 at h
 try dsimp only at h
 refine cv ?_
 refine aP hΩ (Jb hE) b fun n1 k => cv ?_
 replace h := aQ h
 obtain ⟨q, e, h⟩ := h
 refine bK hΩ (fun (a : Int × Int) => (match a with | (i3, i4) => ([(0, PV.d (.sl (E.qw b) (E.uL c))), (1, PV.d (.int .u8 a1)), (4, vi i3), (7, vi n1), (8, vi i4)], nO :: st))) (fun (q : (Int × Int) ⊕ (Int × Int)) => (match q with | .inl (o10, o11) => (.exit 0, [(0, PV.d (.sl (E.qw b) (E.uL c))), (1, PV.d (.int .u8 a1)), (4, vi o10), (7, vi n1), (8, vi o11)], nO :: st) | .inr (o12, Qa) => (.ret, [(0, PV.d (.sl (E.qw b) (E.uL c))), (1, PV.d (.int .u8 a1)), (4, vi o12), (7, vi n1), (8, vi Qa)], nO :: st))) (0, 0) e ?_ ?_
 clear h e
 rintro ⟨i3, i4⟩ q h
 unfold Ou at h
 dsimp only at h
 refine cv ?_
 refine aN hΩ (cv ?_)
 revert h; refine bQ (fun g h => cv ?_) fun g h => cv ?_
 refine sat_true (bA hΩ (Jb hE) b) (cv ?_)
 replace h := aQ h
 obtain ⟨x6, i, h⟩ := h
 refine ay (aW hΩ (Jb hE) i) (cv ?_)
 refine aN hΩ (cv ?_)
 revert h; refine bQ (fun j h => cv ?_) fun j h => cv ?_
 obtain rfl := fZ h
 subst_vars
 exact sR
 obtain rfl := fZ h
 subst_vars
 exact s3
 obtain rfl := fZ h
 subst_vars
 exact sL
 clear e
 rcases q with ⟨o10, o11⟩ | ⟨o12, Qa⟩
 dsimp only at h
 refine cv ?_
 exact sp h
 dsimp only at h
 refine cv ?_
 exact sp h
theorem ag6 {a0 : Sl Int} {a1 : Int} {r : Bool} (h : P58 fu a0 a1 = some r) {args : List PV} (ha : [PV.d (.sl (E.qw a0.l) (E.uL a0.x)), PV.d (.int .u8 a1)] = args) (st : St) :
 Sat (Ω.cf 58 args st) (fun q => q = (PV.d (.bool r), st)) := by
 subst ha
 rcases a0 with ⟨b, c⟩
 rw [aC hΩ (f := 58) (fn := Try.f58) rfl rfl rfl rfl rfl rfl]
 unfold P58 at h
 try dsimp only at h
 refine cv ?_
 replace h := aQ h
 obtain ⟨r1, a, h⟩ := h
 refine av (ag5 hΩ hE a) (cv ?_)
 exact sp h
theorem uZ {a0 : Sl Int} {b0 c0 : Int} {S : Int → St} {lz0 bO : Nat} (e0 : b0 = c0) (hg0 : ∀ s, X.look (S s) lz0 bO = some (X.Obj.box 22 (wD E s))) (hu0 : ∀ s x, X.bJ (S s) lz0 bO (X.Obj.box 22 (wD E x)) = S x) {r : Bool} (h : nI fu a0 b0 = some r) {args : List PV} (ha : [PV.d (.sl (E.qw a0.l) (E.uL a0.x)), PV.ptr lz0 bO 0] = args) {st : St} (hst : S c0 = st) :
 Sat (Ω.cf 57 args st) (fun q => q = (PV.d (.bool r), S c0)) := by
 subst ha
 subst hst
 subst e0
 rcases a0 with ⟨b, c⟩
 rw [aC hΩ (f := 57) (fn := Try.f57) rfl rfl rfl rfl rfl rfl]
 unfold nI at h
 try dsimp only at h
 refine cv ?_
 refine pY hΩ (hg0 _) rfl (cv ?_)
 replace h := aQ h
 obtain ⟨r1, a, h⟩ := h
 refine av (ag6 hΩ hE a) (cv ?_)
 exact sp h
theorem ag7 {a0 : Sl Value} {a1 : Sl Value} {a2 : (Value → Value → Option (Bool))} {Ev : Nat} (hf : ∀ {x0 : Value} {x1 : Value} {r : Bool}, a2 x0 x1 = some r → ∀ {args : List PV}, [bX E x0, bX E x1] = args → ∀ (st : St), Sat (Ω.cf Ev args st) (fun q => q = (PV.d (.bool r), st))) {r : Bool} (h : P83 fu a0 a1 a2 = some r) {args : List PV} (ha : [PV.d (.sl (E.aJ a0.l) (E.aT a0.x)), PV.d (.sl (E.aJ a1.l) (E.aT a1.x)), PV.d (.fn Ev [])] = args) (st : St) :
 Sat (Ω.cf 83 args st) (fun q => q = (PV.d (.bool r), st)) := by
 subst ha
 rcases a0 with ⟨b, e⟩
 rcases a1 with ⟨c, g⟩
 rw [aC hΩ (f := 83) (fn := Try.f83) rfl rfl rfl rfl rfl rfl]
 unfold P83 at h
 try dsimp only at h
 refine cv ?_
 refine aP hΩ (bE hE) b fun n1 s => cv ?_
 refine aP hΩ (bE hE) c fun n3 t => cv ?_
 refine aN hΩ (cv ?_)
 revert h; refine bQ (fun j h => cv ?_) fun j h => cv ?_
 exact sp h
 refine aP hΩ (bE hE) b fun n6 u => cv ?_
 replace h := aQ h
 obtain ⟨q, i, h⟩ := h
 refine bK hΩ (fun (a : Int) => (match a with | i9 => ([(1, PV.d (.sl (E.aJ c) (E.aT g))), (2, PV.d (.fn Ev [])), (6, vb false), (15, PV.d (.sl (E.aJ b) (E.aT e))), (16, vi n6), (17, vi i9)], nO :: st))) (fun (q : Int ⊕ Int) => (match q with | .inl kg => (.exit 0, [(1, PV.d (.sl (E.aJ c) (E.aT g))), (2, PV.d (.fn Ev [])), (6, vb false), (15, PV.d (.sl (E.aJ b) (E.aT e))), (16, vi n6), (17, vi kg)], nO :: st) | .inr o20 => (.ret, [(1, PV.d (.sl (E.aJ c) (E.aT g))), (2, PV.d (.fn Ev [])), (6, vb false), (15, PV.d (.sl (E.aJ b) (E.aT e))), (16, vi n6), (17, vi o20)], nO :: st))) 0 i ?_ ?_
 clear h i
 rintro i9 q h
 unfold Ov at h
 dsimp only at h
 refine cv ?_
 refine aN hΩ (cv ?_)
 revert h; refine bQ (fun k h => cv ?_) fun k h => cv ?_
 refine sat_true (bA hΩ (bE hE) b) (cv ?_)
 replace h := aQ h
 obtain ⟨⟨v, w, y, ⟨z, a3⟩, ⟨a4, a5⟩, a6, a7, a8⟩, m, h⟩ := h
 try dsimp only at h
 refine ay (aW hΩ (bE hE) m) (cv ?_)
 refine sat_true (bA hΩ (bE hE) c) (cv ?_)
 replace h := aQ h
 obtain ⟨⟨a9, b0, b1, ⟨b2, b3⟩, ⟨b4, b5⟩, b6, b7, b8⟩, n, h⟩ := h
 try dsimp only at h
 refine ay (aW hΩ (bE hE) n) (cv ?_)
 replace h := aQ h
 obtain ⟨Mh, o, h⟩ := h
 refine av (hf o) (cv ?_)
 refine aN hΩ (cv ?_)
 revert h; refine bQ (fun p h => cv ?_) fun p h => cv ?_
 obtain rfl := fZ h
 subst_vars
 exact sR
 obtain rfl := fZ h
 subst_vars
 exact s3
 obtain rfl := fZ h
 subst_vars
 exact sL
 clear i
 rcases q with kg | o20
 dsimp only at h
 refine cv ?_
 exact sp h
 dsimp only at h
 refine cv ?_
 exact sp h
theorem ae8 {a0 : Sl Field} {a1 : Sl Field} {a2 : (Field → Field → Option (Bool))} {Ev : Nat} (hf : ∀ {x0 : Field} {x1 : Field} {r : Bool}, a2 x0 x1 = some r → ∀ {args : List PV}, [dO E x0, dO E x1] = args → ∀ (st : St), Sat (Ω.cf Ev args st) (fun q => q = (PV.d (.bool r), st))) {r : Bool} (h : YV fu a0 a1 a2 = some r) {args : List PV} (ha : [PV.d (.sl (E.aG a0.l) (E.aI a0.x)), PV.d (.sl (E.aG a1.l) (E.aI a1.x)), PV.d (.fn Ev [])] = args) (st : St) :
 Sat (Ω.cf 102 args st) (fun q => q = (PV.d (.bool r), st)) := by
 subst ha
 rcases a0 with ⟨b, e⟩
 rcases a1 with ⟨c, g⟩
 rw [aC hΩ (f := 102) (fn := Try.f102) rfl rfl rfl rfl rfl rfl]
 unfold YV at h
 try dsimp only at h
 refine cv ?_
 refine aP hΩ (bF hE) b fun n1 s => cv ?_
 refine aP hΩ (bF hE) c fun n3 t => cv ?_
 refine aN hΩ (cv ?_)
 revert h; refine bQ (fun j h => cv ?_) fun j h => cv ?_
 exact sp h
 refine aP hΩ (bF hE) b fun n6 u => cv ?_
 replace h := aQ h
 obtain ⟨q, i, h⟩ := h
 refine bK hΩ (fun (a : Int) => (match a with | i9 => ([(1, PV.d (.sl (E.aG c) (E.aI g))), (2, PV.d (.fn Ev [])), (6, vb false), (15, PV.d (.sl (E.aG b) (E.aI e))), (16, vi n6), (17, vi i9)], nO :: st))) (fun (q : Int ⊕ Int) => (match q with | .inl kg => (.exit 0, [(1, PV.d (.sl (E.aG c) (E.aI g))), (2, PV.d (.fn Ev [])), (6, vb false), (15, PV.d (.sl (E.aG b) (E.aI e))), (16, vi n6), (17, vi kg)], nO :: st) | .inr o20 => (.ret, [(1, PV.d (.sl (E.aG c) (E.aI g))), (2, PV.d (.fn Ev [])), (6, vb false), (15, PV.d (.sl (E.aG b) (E.aI e))), (16, vi n6), (17, vi o20)], nO :: st))) 0 i ?_ ?_
 clear h i
 rintro i9 q h
 unfold Jj at h
 dsimp only at h
 refine cv ?_
 refine aN hΩ (cv ?_)
 revert h; refine bQ (fun k h => cv ?_) fun k h => cv ?_
 refine sat_true (bA hΩ (bF hE) b) (cv ?_)
 replace h := aQ h
 obtain ⟨⟨v, ⟨w, y, z, ⟨a3, a4⟩, ⟨a5, a6⟩, a7, a8, a9⟩⟩, m, h⟩ := h
 try dsimp only at h
 refine ay (aW hΩ (bF hE) m) (cv ?_)
 refine sat_true (bA hΩ (bF hE) c) (cv ?_)
 replace h := aQ h
 obtain ⟨⟨b0, ⟨b1, b2, b3, ⟨b4, b5⟩, ⟨b6, b7⟩, b8, b9, c0⟩⟩, n, h⟩ := h
 try dsimp only at h
 refine ay (aW hΩ (bF hE) n) (cv ?_)
 replace h := aQ h
 obtain ⟨Mh, o, h⟩ := h
 refine av (hf o) (cv ?_)
 refine aN hΩ (cv ?_)
 revert h; refine bQ (fun p h => cv ?_) fun p h => cv ?_
 obtain rfl := fZ h
 subst_vars
 exact sR
 obtain rfl := fZ h
 subst_vars
 exact s3
 obtain rfl := fZ h
 subst_vars
 exact sL
 clear i
 rcases q with kg | o20
 dsimp only at h
 refine cv ?_
 exact sp h
 dsimp only at h
 refine cv ?_
 exact sp h
def acv (Ω : Om) (E : Enc) (yU : Field → Field → Option (Bool)) : Prop := ∀ {a0 : Field} {a1 : Field} {r : Bool}, yU a0 a1 = some r → ∀ {args : List PV}, [dO E a0, dO E a1] = args → ∀ (st : St), Sat (Ω.cf 103 args st) (fun q => q = (PV.d (.bool r), st))
def H60 (Ω : Om) (E : Enc) (p60 : Value → Value → Option (Bool)) : Prop := ∀ {a0 : Value} {a1 : Value} {r : Bool}, p60 a0 a1 = some r → ∀ {args : List PV}, [bX E a0, bX E a1] = args → ∀ (st : St), Sat (Ω.cf 60 args st) (fun q => q = (PV.d (.bool r), st))
def H84 (Ω : Om) (E : Enc) (Qd : (Sl Field) → (Sl Field) → Option (Bool)) : Prop := ∀ {a0 : Sl Field} {a1 : Sl Field} {r : Bool}, Qd a0 a1 = some r → ∀ {args : List PV}, [PV.d (.sl (E.aG a0.l) (E.aI a0.x)), PV.d (.sl (E.aG a1.l) (E.aI a1.x))] = args → ∀ (st : St), Sat (Ω.cf 84 args st) (fun q => q = (PV.d (.bool r), st))
theorem acw {yU : Field → Field → Option (Bool)} (VG : acv Ω E yU) {p60 : Value → Value → Option (Bool)} (Zr : H60 Ω E p60) {Qd : (Sl Field) → (Sl Field) → Option (Bool)} (acy : H84 Ω E Qd) {a0 : Field} {a1 : Field} {r : Bool} (h : Vs fu yU p60 Qd a0 a1 = some r) {args : List PV} (ha : [dO E a0, dO E a1] = args) (st : St) :
 Sat (Ω.cf 103 args st) (fun q => q = (PV.d (.bool r), st)) := by
 subst ha
 rcases a0 with ⟨b, ⟨c, e, g, ⟨i, j⟩, ⟨l, m⟩, n, o, p⟩⟩
 rcases a1 with ⟨s, ⟨t, u, v, ⟨w, x⟩, ⟨y, z⟩, a2, a3, a4⟩⟩
 rw [aC hΩ (f := 103) (fn := Try.f103) rfl rfl rfl rfl rfl rfl]
 unfold Vs at h
 try dsimp only at h
 refine cv ?_
 replace h := aQ h
 obtain ⟨i4, a, h⟩ := h
 refine aH hΩ ((fun (q : Bool) => (match q with | i4 => ([(2, PV.aS (zD1 E b c e g i j l m n o p)), (3, PV.aS (zD1 E s t u v w x y z a2 a3 a4)), (4, vb i4)], nO :: st))) i4) (fun k hk => ?_) ?_
 clear h
 have h := a
 clear a
 refine cv ?_
 revert h; refine bQ (fun a5 h => cv ?_) fun a5 h => cv ?_
 replace h := aQ h
 obtain ⟨r2, a6, h⟩ := h
 refine av (Zr a6) (cv ?_)
 refine ah hΩ (cv ?_)
 exact fk h hk
 refine ah hΩ (cv ?_)
 exact fk h hk
 clear a
 try dsimp only at h
 refine cv ?_
 exact sp h
theorem ae9 {yU : Field → Field → Option (Bool)} (VG : acv Ω E yU) {p60 : Value → Value → Option (Bool)} (Zr : H60 Ω E p60) {Qd : (Sl Field) → (Sl Field) → Option (Bool)} (acy : H84 Ω E Qd) {a0 : Value} {a1 : Value} {r : Bool} (h : YW fu yU p60 Qd a0 a1 = some r) {args : List PV} (ha : [bX E a0, bX E a1] = args) (st : St) :
 Sat (Ω.cf 60 args st) (fun q => q = (PV.d (.bool r), st)) := by
 subst ha
 rcases a0 with ⟨b, c, e, ⟨g, i⟩, ⟨j, l⟩, m, n, o⟩
 rcases a1 with ⟨p, s, t, ⟨u, v⟩, ⟨w, y⟩, z, a2, a3⟩
 rw [kJ hΩ (f := 60) (fn := Try.f60) (x := abZ) rfl rfl PX rfl rfl rfl]
 unfold YW at h
 try dsimp only at h
 refine cv ?_
 replace h := aQ h
 obtain ⟨i12, a, h⟩ := h
 refine aH hΩ ((fun (q : Bool) => (match q with | i12 => ([(2, PV.aS (zD0 E b c e g i j l m n o)), (3, PV.aS (zD0 E p s t u v w y z a2 a3)), (4, vb i12)], nO :: st))) i12) (fun k hk => ?_) ?_
 clear h
 have h := a
 clear a
 refine cv ?_
 revert h; refine bQ (fun a4 h => cv ?_) fun a4 h => cv ?_
 refine ah hΩ (cv ?_)
 revert h; refine bQ (fun a5 h => cv ?_) fun a5 h => cv ?_
 revert h; refine bQ (fun a6 h => cv ?_) fun a6 h => cv ?_
 refine ah hΩ (cv ?_)
 revert h; refine bQ (fun a7 h => cv ?_) fun a7 h => cv ?_
 revert h; refine bQ (fun a8 h => cv ?_) fun a8 h => cv ?_
 refine ah hΩ (cv ?_)
 revert h; refine bQ (fun a9 h => cv ?_) fun a9 h => cv ?_
 replace h := aQ h
 obtain ⟨r7, b0, h⟩ := h
 refine bC (ag7 hΩ hE (hf := fun h => @fun args ha st => Zr h ha st) b0 (by (try clear h); subst_vars; rfl) _) (cv ?_)
 refine ah hΩ (cv ?_)
 revert h; refine bQ (fun b1 h => cv ?_) fun b1 h => cv ?_
 replace h := aQ h
 obtain ⟨YX, b2, h⟩ := h
 refine av (acy b2) (cv ?_)
 exact fk h hk
 exact fk h hk
 refine ah hΩ (cv ?_)
 exact fk h hk
 refine ah hΩ (cv ?_)
 refine ah hΩ (cv ?_)
 exact fk h hk
 refine ah hΩ (cv ?_)
 refine ah hΩ (cv ?_)
 exact fk h hk
 refine ah hΩ (cv ?_)
 refine ah hΩ (cv ?_)
 refine ah hΩ (cv ?_)
 exact fk h hk
 refine ah hΩ (cv ?_)
 refine ah hΩ (cv ?_)
 refine ah hΩ (cv ?_)
 exact fk h hk
 refine ah hΩ (cv ?_)
 refine ah hΩ (cv ?_)
 refine ah hΩ (cv ?_)
 refine ah hΩ (cv ?_)
 exact fk h hk
 clear a
 try dsimp only at h
 refine cv ?_
 exact sp h
theorem afa {yU : Field → Field → Option (Bool)} (VG : acv Ω E yU) {p60 : Value → Value → Option (Bool)} (Zr : H60 Ω E p60) {Qd : (Sl Field) → (Sl Field) → Option (Bool)} (acy : H84 Ω E Qd) {a0 : Sl Field} {a1 : Sl Field} {r : Bool} (h : YZ fu yU p60 Qd a0 a1 = some r) {args : List PV} (ha : [PV.d (.sl (E.aG a0.l) (E.aI a0.x)), PV.d (.sl (E.aG a1.l) (E.aI a1.x))] = args) (st : St) :
 Sat (Ω.cf 84 args st) (fun q => q = (PV.d (.bool r), st)) := by
 subst ha
 rcases a0 with ⟨b, c⟩
 rcases a1 with ⟨e, g⟩
 rw [aC hΩ (f := 84) (fn := Try.f84) rfl rfl rfl rfl rfl rfl]
 unfold YZ at h
 try dsimp only at h
 refine cv ?_
 replace h := aQ h
 obtain ⟨r1, a, h⟩ := h
 refine bC (ae8 hΩ hE (hf := fun h => @fun args ha st => VG h ha st) a (by (try clear h); subst_vars; rfl) _) (cv ?_)
 exact sp h
theorem acz : ∀ fu,
 (∀ {a0 : Field} {a1 : Field} {r : Bool}, Vt fu a0 a1 = some r → ∀ {args : List PV}, [dO E a0, dO E a1] = args → ∀ (st : St), Sat (Ω.cf 103 args st) (fun q => q = (PV.d (.bool r), st))) ∧
 (∀ {a0 : Value} {a1 : Value} {r : Bool}, Xm fu a0 a1 = some r → ∀ {args : List PV}, [bX E a0, bX E a1] = args → ∀ (st : St), Sat (Ω.cf 60 args st) (fun q => q = (PV.d (.bool r), st))) ∧
 (∀ {a0 : Sl Field} {a1 : Sl Field} {r : Bool}, P84 fu a0 a1 = some r → ∀ {args : List PV}, [PV.d (.sl (E.aG a0.l) (E.aI a0.x)), PV.d (.sl (E.aG a1.l) (E.aI a1.x))] = args → ∀ (st : St), Sat (Ω.cf 84 args st) (fun q => q = (PV.d (.bool r), st))) := by
 intro fu
 induction fu with
 | zero => exact ⟨(fun h => (by cases h)), (fun h => (by cases h)), (fun h => (by cases h))⟩
 | succ fu ih =>
  obtain ⟨acA, i60, i84⟩ := ih
  exact ⟨(fun h => @fun args ha st => acw (fu := fu) hΩ hE acA i60 i84 h ha st), (fun h => @fun args ha st => ae9 (fu := fu) hΩ hE acA i60 i84 h ha st), (fun h => @fun args ha st => afa (fu := fu) hΩ hE acA i60 i84 h ha st)⟩
theorem ag8 : ∀ {a0 : Value} {a1 : Value} {r : Bool}, Xm fu a0 a1 = some r → ∀ {args : List PV}, [bX E a0, bX E a1] = args → ∀ (st : St), Sat (Ω.cf 60 args st) (fun q => q = (PV.d (.bool r), st)) := (acz hΩ hE fu).2.1
theorem Zt {a0 : Inst} {r : Bool} (h : Y0 fu a0 = some r) {args : List PV} (ha : [bg E a0] = args) (st : St) :
 Sat (Ω.cf 36 args st) (fun q => q = (PV.d (.bool r), st)) := by
 subst ha
 rcases a0 with ⟨b, ⟨c, e, g, ⟨i, j, l, ⟨m, n⟩, ⟨o, p⟩, s, t, u⟩⟩, ⟨v, w⟩, ⟨x, y⟩, ⟨z, a1⟩, a2, a3, a4, ⟨a5, a6, a7, ⟨a8, a9⟩, ⟨b0, b1⟩, b2, b3, b4⟩, b5, b6, ⟨b7, b8⟩, b9, c0⟩
 rw [aC hΩ (f := 36) (fn := Try.f36) rfl rfl rfl rfl rfl rfl]
 unfold Y0 at h
 try dsimp only at h
 refine cv ?_
 replace h := aQ h
 obtain ⟨i2, a, h⟩ := h
 refine aH hΩ ((fun (q : Bool) => (match q with | i2 => ([(1, PV.aS (jW E b c e g i j l m n o p s t u v w x y z a1 a2 a3 a4 a5 a6 a7 a8 a9 b0 b1 b2 b3 b4 b5 b6 b7 b8 b9 c0)), (2, vb i2)], nO :: st))) i2) (fun k hk => ?_) ?_
 clear h
 have h := a
 clear a
 refine cv ?_
 revert h; refine bQ (fun c1 h => cv ?_) fun c1 h => cv ?_
 exact fk h hk
 exact fk h hk
 clear a
 try dsimp only at h
 refine cv ?_
 exact sp h
theorem afb {a0 : Inst} {r : Bool} (h : P26 fu a0 = some r) {args : List PV} (ha : [bg E a0] = args) (st : St) :
 Sat (Ω.cf 26 args st) (fun q => q = (PV.d (.bool r), st)) := by
 subst ha
 rcases a0 with ⟨g, ⟨i, a, j, ⟨l, m, n, ⟨o, p⟩, ⟨t, u⟩, v, w, y⟩⟩, ⟨b, z⟩, ⟨a1, a2⟩, ⟨c, a3⟩, a4, a5, a6, ⟨a7, a8, a9, ⟨b0, b1⟩, ⟨b2, b3⟩, b4, b5, b6⟩, b7, b8, ⟨e, b9⟩, c1, c2⟩
 rw [kJ hΩ (f := 26) (fn := Try.f26) (x := abX) rfl rfl PU rfl rfl rfl]
 unfold P26 at h
 try dsimp only at h
 refine cv ?_
 replace h := aQ h
 obtain ⟨i2, c3, h⟩ := h
 refine aH hΩ ((fun (q : Bool) => (match q with | i2 => ([(1, PV.aS (jW E g i a j l m n o p t u v w y b z a1 a2 c a3 a4 a5 a6 a7 a8 a9 b0 b1 b2 b3 b4 b5 b6 b7 b8 e b9 c1 c2)), (2, vb false), (3, PV.ptr 0 0 0), (4, PV.fn 57 [.ptr 0 0 0]), (15, vb i2)], ([X.Obj.box 22 [.d (.int .u8 a)]] : List X.Obj) :: st))) i2) (fun k hk => ?_) ?_
 clear h
 have h := c3
 clear c3
 refine cv ?_
 revert h; refine bQ (fun d4 h => cv ?_) fun d4 h => cv ?_
 exact fk h hk
 exact fk h hk
 clear c3
 try dsimp only at h
 refine cv ?_
 replace h := aQ h
 obtain ⟨i4, c4, h⟩ := h
 refine aH hΩ ((fun (q : Bool) => (match q with | i4 => ([(1, PV.aS (jW E g i a j l m n o p t u v w y b z a1 a2 c a3 a4 a5 a6 a7 a8 a9 b0 b1 b2 b3 b4 b5 b6 b7 b8 e b9 c1 c2)), (2, vb false), (3, PV.ptr 0 0 0), (4, PV.fn 57 [.ptr 0 0 0]), (19, vb i4)], ([X.Obj.box 22 [.d (.int .u8 a)]] : List X.Obj) :: st))) i4) (fun k hk => ?_) ?_
 clear h
 have h := c4
 clear c4
 refine cv ?_
 revert h; refine bQ (fun d5 h => cv ?_) fun d5 h => cv ?_
 exact fk h hk
 exact fk h hk
 clear c4
 try dsimp only at h
 refine cv ?_
 replace h := aQ h
 obtain ⟨i6, c5, h⟩ := h
 refine aH hΩ ((fun (q : Bool) => (match q with | i6 => ([(1, PV.aS (jW E g i a j l m n o p t u v w y b z a1 a2 c a3 a4 a5 a6 a7 a8 a9 b0 b1 b2 b3 b4 b5 b6 b7 b8 e b9 c1 c2)), (2, vb false), (3, PV.ptr 0 0 0), (4, PV.fn 57 [.ptr 0 0 0]), (24, vb i6)], ([X.Obj.box 22 [.d (.int .u8 a)]] : List X.Obj) :: st))) i6) (fun k hk => ?_) ?_
 clear h
 have h := c5
 clear c5
 refine cv ?_
 revert h; refine bQ (fun d6 h => cv ?_) fun d6 h => cv ?_
 exact fk h hk
 exact fk h hk
 clear c5
 try dsimp only at h
 refine cv ?_
 replace h := aQ h
 obtain ⟨Qc, c6, h⟩ := h
 refine aH hΩ ((fun (q : Bool) => (match q with | Qc => ([(1, PV.aS (jW E g i a j l m n o p t u v w y b z a1 a2 c a3 a4 a5 a6 a7 a8 a9 b0 b1 b2 b3 b4 b5 b6 b7 b8 e b9 c1 c2)), (2, vb false), (3, PV.ptr 0 0 0), (4, PV.fn 57 [.ptr 0 0 0]), (29, vb Qc)], ([X.Obj.box 22 [.d (.int .u8 a)]] : List X.Obj) :: st))) Qc) (fun k hk => ?_) ?_
 clear h
 have h := c6
 clear c6
 refine cv ?_
 revert h; refine bQ (fun d7 h => cv ?_) fun d7 h => cv ?_
 replace h := aQ h
 obtain ⟨r8, d8, h⟩ := h
 refine av (ae7 hΩ hE d8) (cv ?_)
 exact fk h hk
 exact fk h hk
 clear c6
 try dsimp only at h
 refine cv ?_
 replace h := aQ h
 obtain ⟨Vr, c7, h⟩ := h
 refine aH hΩ ((fun (q : Bool) => (match q with | Vr => ([(1, PV.aS (jW E g i a j l m n o p t u v w y b z a1 a2 c a3 a4 a5 a6 a7 a8 a9 b0 b1 b2 b3 b4 b5 b6 b7 b8 e b9 c1 c2)), (2, vb false), (3, PV.ptr 0 0 0), (4, PV.fn 57 [.ptr 0 0 0]), (34, vb Vr)], ([X.Obj.box 22 [.d (.int .u8 a)]] : List X.Obj) :: st))) Vr) (fun k hk => ?_) ?_
 clear h
 have h := c7
 clear c7
 refine cv ?_
 revert h; refine bQ (fun d9 h => cv ?_) fun d9 h => cv ?_
 replace h := aQ h
 obtain ⟨r12, e0, h⟩ := h
 refine av (ae7 hΩ hE e0) (cv ?_)
 exact fk h hk
 exact fk h hk
 clear c7
 try dsimp only at h
 refine cv ?_
 replace h := aQ h
 obtain ⟨i24, c8, h⟩ := h
 refine aH hΩ ((fun (q : Bool) => (match q with | i24 => ([(1, PV.aS (jW E g i a j l m n o p t u v w y b z a1 a2 c a3 a4 a5 a6 a7 a8 a9 b0 b1 b2 b3 b4 b5 b6 b7 b8 e b9 c1 c2)), (2, vb false), (3, PV.ptr 0 0 0), (4, PV.fn 57 [.ptr 0 0 0]), (45, vb i24)], ([X.Obj.box 22 [.d (.int .u8 a)]] : List X.Obj) :: st))) i24) (fun k hk => ?_) ?_
 clear h
 have h := c8
 clear c8
 refine cv ?_
 revert h; refine bQ (fun e3 h => cv ?_) fun e3 h => cv ?_
 refine aP hΩ (cu hE) b fun n16 h0 => cv ?_
 revert h; refine bQ (fun e4 h => cv ?_) fun e4 h => cv ?_
 replace h := aQ h
 obtain ⟨l19, e5, h⟩ := h
 have afc : ([[.int .u8 2], [.int .u8 3]] : List (List D)) = E.qw l19 := by (have hy := Option.some.inj e5; clear h; subst hy; subst hE; rfl)
 rw [afc]
 clear afc
 refine cv ?_
 replace h := aQ h
 obtain ⟨Vp, e6, h⟩ := h
 refine bC (uZ hΩ hE (S := (fun (s : Int) => ([X.Obj.box 22 (wD E s)] : List X.Obj) :: st)) (lz0 := 0) (bO := 0) (c0 := a) (by (try clear h); subst_vars; rfl) (fun s => rfl) (fun s x => rfl) e6 (by (try clear h); subst_vars; rfl) (by (try clear h); subst_vars; rfl)) (cv ?_)
 exact fk h hk
 exact fk h hk
 exact fk h hk
 clear c8
 try dsimp only at h
 refine cv ?_
 replace h := aQ h
 obtain ⟨i33, c9, h⟩ := h
 refine aH hΩ ((fun (q : Bool) => (match q with | i33 => ([(1, PV.aS (jW E g i a j l m n o p t u v w y b z a1 a2 c a3 a4 a5 a6 a7 a8 a9 b0 b1 b2 b3 b4 b5 b6 b7 b8 e b9 c1 c2)), (2, vb false), (3, PV.ptr 0 0 0), (4, PV.fn 57 [.ptr 0 0 0]), (55, vb i33)], ([X.Obj.box 22 [.d (.int .u8 a)]] : List X.Obj) :: st))) i33) (fun k hk => ?_) ?_
 clear h
 have h := c9
 clear c9
 refine cv ?_
 revert h; refine bQ (fun e7 h => cv ?_) fun e7 h => cv ?_
 revert h; refine bQ (fun e8 h => cv ?_) fun e8 h => cv ?_
 replace h := aQ h
 obtain ⟨l27, e9, h⟩ := h
 have afd : ([[.int .u8 1], [.int .u8 9]] : List (List D)) = E.qw l27 := by (have hy := Option.some.inj e9; clear h; subst hy; subst hE; rfl)
 rw [afd]
 clear afd
 refine cv ?_
 replace h := aQ h
 obtain ⟨r31, f0, h⟩ := h
 refine bC (uZ hΩ hE (S := (fun (s : Int) => ([X.Obj.box 22 (wD E s)] : List X.Obj) :: st)) (lz0 := 0) (bO := 0) (c0 := a) (by (try clear h); subst_vars; rfl) (fun s => rfl) (fun s x => rfl) f0 (by (try clear h); subst_vars; rfl) (by (try clear h); subst_vars; rfl)) (cv ?_)
 exact fk h hk
 exact fk h hk
 exact fk h hk
 clear c9
 try dsimp only at h
 refine cv ?_
 replace h := aQ h
 obtain ⟨i46, d0, h⟩ := h
 refine aH hΩ ((fun (q : Bool) => (match q with | i46 => ([(1, PV.aS (jW E g i a j l m n o p t u v w y b z a1 a2 c a3 a4 a5 a6 a7 a8 a9 b0 b1 b2 b3 b4 b5 b6 b7 b8 e b9 c1 c2)), (2, vb false), (3, PV.ptr 0 0 0), (4, PV.fn 57 [.ptr 0 0 0]), (76, vb i46)], ([X.Obj.box 22 [.d (.int .u8 a)]] : List X.Obj) :: st))) i46) (fun k hk => ?_) ?_
 clear h
 have h := d0
 clear d0
 refine cv ?_
 revert h; refine bQ (fun f1 h => cv ?_) fun f1 h => cv ?_
 revert h; refine bQ (fun f2 h => cv ?_) fun f2 h => cv ?_
 revert h; refine bQ (fun f3 h => cv ?_) fun f3 h => cv ?_
 refine ah hΩ (cv ?_)
 replace h := aQ h
 obtain ⟨Qe, f4, h⟩ := h
 refine av (ag8 hΩ hE f4) (cv ?_)
 revert h; refine bQ (fun f5 h => cv ?_) fun f5 h => cv ?_
 replace h := aQ h
 obtain ⟨r41, f6, h⟩ := h
 refine bC (uZ hΩ hE (S := (fun (s : Int) => ([X.Obj.box 22 (wD E s)] : List X.Obj) :: st)) (lz0 := 0) (bO := 0) (c0 := a) (by (try clear h); subst_vars; rfl) (fun s => rfl) (fun s x => rfl) f6 (by (try clear h); subst_vars; rfl) (by (try clear h); subst_vars; rfl)) (cv ?_)
 exact fk h hk
 exact fk h hk
 refine ah hΩ (cv ?_)
 replace h := aQ h
 obtain ⟨r43, f7, h⟩ := h
 refine bC (uZ hΩ hE (S := (fun (s : Int) => ([X.Obj.box 22 (wD E s)] : List X.Obj) :: st)) (lz0 := 0) (bO := 0) (c0 := a) (by (try clear h); subst_vars; rfl) (fun s => rfl) (fun s x => rfl) f7 (by (try clear h); subst_vars; rfl) (by (try clear h); subst_vars; rfl)) (cv ?_)
 exact fk h hk
 refine ah hΩ (cv ?_)
 replace h := aQ h
 obtain ⟨r45, f8, h⟩ := h
 refine bC (uZ hΩ hE (S := (fun (s : Int) => ([X.Obj.box 22 (wD E s)] : List X.Obj) :: st)) (lz0 := 0) (bO := 0) (c0 := a) (by (try clear h); subst_vars; rfl) (fun s => rfl) (fun s x => rfl) f8 (by (try clear h); subst_vars; rfl) (by (try clear h); subst_vars; rfl)) (cv ?_)
 exact fk h hk
 refine ah hΩ (cv ?_)
 exact fk h hk
 clear d0
 try dsimp only at h
 refine cv ?_
 replace h := aQ h
 obtain ⟨i54, d1, h⟩ := h
 refine aH hΩ ((fun (q : Bool) => (match q with | i54 => ([(1, PV.aS (jW E g i a j l m n o p t u v w y b z a1 a2 c a3 a4 a5 a6 a7 a8 a9 b0 b1 b2 b3 b4 b5 b6 b7 b8 e b9 c1 c2)), (2, vb false), (3, PV.ptr 0 0 0), (4, PV.fn 57 [.ptr 0 0 0]), (91, vb i54)], ([X.Obj.box 22 [.d (.int .u8 a)]] : List X.Obj) :: st))) i54) (fun k hk => ?_) ?_
 clear h
 have h := d1
 clear d1
 refine cv ?_
 revert h; refine bQ (fun f9 h => cv ?_) fun f9 h => cv ?_
 revert h; refine bQ (fun g0 h => cv ?_) fun g0 h => cv ?_
 revert h; refine bQ (fun g1 h => cv ?_) fun g1 h => cv ?_
 refine ah hΩ (cv ?_)
 replace h := aQ h
 obtain ⟨r51, g2, h⟩ := h
 refine bC (uZ hΩ hE (S := (fun (s : Int) => ([X.Obj.box 22 (wD E s)] : List X.Obj) :: st)) (lz0 := 0) (bO := 0) (c0 := a) (by (try clear h); subst_vars; rfl) (fun s => rfl) (fun s x => rfl) g2 (by (try clear h); subst_vars; rfl) (by (try clear h); subst_vars; rfl)) (cv ?_)
 exact fk h hk
 refine ah hΩ (cv ?_)
 exact fk h hk
 refine ah hΩ (cv ?_)
 replace h := aQ h
 obtain ⟨r53, g3, h⟩ := h
 refine bC (uZ hΩ hE (S := (fun (s : Int) => ([X.Obj.box 22 (wD E s)] : List X.Obj) :: st)) (lz0 := 0) (bO := 0) (c0 := a) (by (try clear h); subst_vars; rfl) (fun s => rfl) (fun s x => rfl) g3 (by (try clear h); subst_vars; rfl) (by (try clear h); subst_vars; rfl)) (cv ?_)
 exact fk h hk
 refine ah hΩ (cv ?_)
 exact fk h hk
 clear d1
 try dsimp only at h
 refine cv ?_
 replace h := aQ h
 obtain ⟨i61, d2, h⟩ := h
 refine aH hΩ ((fun (q : Bool) => (match q with | i61 => ([(1, PV.aS (jW E g i a j l m n o p t u v w y b z a1 a2 c a3 a4 a5 a6 a7 a8 a9 b0 b1 b2 b3 b4 b5 b6 b7 b8 e b9 c1 c2)), (2, vb false), (3, PV.ptr 0 0 0), (4, PV.fn 57 [.ptr 0 0 0]), (101, vb i61)], ([X.Obj.box 22 [.d (.int .u8 a)]] : List X.Obj) :: st))) i61) (fun k hk => ?_) ?_
 clear h
 have h := d2
 clear d2
 refine cv ?_
 revert h; refine bQ (fun g4 h => cv ?_) fun g4 h => cv ?_
 refine aP hΩ (ak hE) e fun n56 h3 => cv ?_
 revert h; refine bQ (fun g5 h => cv ?_) fun g5 h => cv ?_
 replace h := aQ h
 obtain ⟨r59, g6, h⟩ := h
 refine av (Zt hΩ hE g6) (cv ?_)
 exact fk h hk
 exact fk h hk
 exact fk h hk
 clear d2
 try dsimp only at h
 refine cv ?_
 replace h := aQ h
 obtain ⟨i68, d3, h⟩ := h
 refine aH hΩ ((fun (q : Bool) => (match q with | i68 => ([(1, PV.aS (jW E g i a j l m n o p t u v w y b z a1 a2 c a3 a4 a5 a6 a7 a8 a9 b0 b1 b2 b3 b4 b5 b6 b7 b8 e b9 c1 c2)), (2, vb false), (3, PV.ptr 0 0 0), (4, PV.fn 57 [.ptr 0 0 0]), (113, vb i68)], ([X.Obj.box 22 [.d (.int .u8 a)]] : List X.Obj) :: st))) i68) (fun k hk => ?_) ?_
 clear h
 have h := d3
 clear d3
 refine cv ?_
 revert h; refine bQ (fun g7 h => cv ?_) fun g7 h => cv ?_
 refine aP hΩ (ak hE) c fun n63 h4 => cv ?_
 revert h; refine bQ (fun g8 h => cv ?_) fun g8 h => cv ?_
 replace h := aQ h
 obtain ⟨r67, g9, h⟩ := h
 refine bC (uZ hΩ hE (S := (fun (s : Int) => ([X.Obj.box 22 (wD E s)] : List X.Obj) :: st)) (lz0 := 0) (bO := 0) (c0 := a) (by (try clear h); subst_vars; rfl) (fun s => rfl) (fun s x => rfl) g9 (by (try clear h); subst_vars; rfl) (by (try clear h); subst_vars; rfl)) (cv ?_)
 exact fk h hk
 exact fk h hk
 exact fk h hk
 clear d3
 try dsimp only at h
 refine cv ?_
 refine aN hΩ (cv ?_)
 exact sp h
def Qp (Ω : Om) (E : Enc) (mK : Inst → Int → (List (Int × Bool)) → Option (Bool × (List (Int × Bool)))) : Prop := ∀ {a0 : Inst} {a1 : Int} {b1 c1 : List (Int × Bool)} {S : (List (Int × Bool)) → St} {lz0 bO dw fB : Nat} (e1 : b1 = c1) (hg0 : ∀ s, X.look (S s) lz0 bO = some (X.Obj.box 49 [PV.map 0 dw])) (hg1 : ∀ s, X.look (S s) lz0 dw = some (X.Obj.map (.int .i64) true (E.bn s))) (hu1 : ∀ s x, X.bJ (S s) lz0 dw (X.Obj.map (.int .i64) true (E.bn x)) = S x) (hg2 : ∀ s, X.look (S s) lz0 fB = some (X.Obj.box 55 [PV.fn 25 [.ptr 0 bO 0, .ptr 0 fB 0]])) {r : Bool × (List (Int × Bool))}, mK a0 a1 b1 = some r → ∀ {args : List PV}, [bg E a0, PV.d (.int .i64 a1), PV.ptr lz0 bO 0, PV.ptr lz0 fB 0] = args → ∀ {st : St}, S c1 = st → Sat (Ω.cf 25 args st) (fun q => q = (PV.d (.bool r.1), S r.2))
def Qq (Ω : Om) (E : Enc) (lC : Inst → Int → (List (Int × Bool)) → Option (Bool × (List (Int × Bool)))) : Prop := ∀ {a0 : Inst} {a2 : Int} {b2 c2 : List (Int × Bool)} {S : (List (Int × Bool)) → St} {lz0 bO dw fB : Nat} (e2 : b2 = c2) (hg0 : ∀ s, X.look (S s) lz0 bO = some (X.Obj.box 55 [PV.fn 25 [.ptr 0 dw 0, .ptr 0 bO 0]])) (hg1 : ∀ s, X.look (S s) lz0 dw = some (X.Obj.box 49 [PV.map 0 fB])) (hg2 : ∀ s, X.look (S s) lz0 fB = some (X.Obj.map (.int .i64) true (E.bn s))) (hu2 : ∀ s x, X.bJ (S s) lz0 fB (X.Obj.map (.int .i64) true (E.bn x)) = S x) {r : Bool × (List (Int × Bool))}, lC a0 a2 b2 = some r → ∀ {args : List PV}, [bg E a0, PV.ptr lz0 bO 0, PV.aS [.int .i64 a2]] = args → ∀ {st : St}, S c2 = st → Sat (Ω.cf 27 args st) (fun q => q = (PV.d (.bool r.1), S r.2))
def Qr (Ω : Om) (E : Enc) (lY : (Sl Inst) → Int → (List (Int × Bool)) → Option (Bool × (List (Int × Bool)))) : Prop := ∀ {a0 : Sl Inst} {d0 : Int} {b2 c2 : List (Int × Bool)} {S : (List (Int × Bool)) → St} {lz0 bO dw fB : Nat} (e2 : b2 = c2) (hg0 : ∀ s, X.look (S s) lz0 bO = some (X.Obj.box 55 [PV.fn 25 [.ptr 0 dw 0, .ptr 0 bO 0]])) (hg1 : ∀ s, X.look (S s) lz0 dw = some (X.Obj.box 49 [PV.map 0 fB])) (hg2 : ∀ s, X.look (S s) lz0 fB = some (X.Obj.map (.int .i64) true (E.bn s))) (hu2 : ∀ s x, X.bJ (S s) lz0 fB (X.Obj.map (.int .i64) true (E.bn x)) = S x) {r : Bool × (List (Int × Bool))}, lY a0 d0 b2 = some r → ∀ {args : List PV}, [PV.d (.sl (E.au a0.l) (E.aD a0.x)), PV.fn 27 [.ptr lz0 bO 0, .aS [.int .i64 d0]]] = args → ∀ {st : St}, S c2 = st → Sat (Ω.cf 28 args st) (fun q => q = (PV.d (.bool r.1), S r.2))
def Qs (Ω : Om) (E : Enc) (mM : (Sl Inst) → Int → (List (Int × Bool)) → Option (Int × (List (Int × Bool)))) : Prop := ∀ {a0 : Sl Inst} {d0 : Int} {b2 c2 : List (Int × Bool)} {S : (List (Int × Bool)) → St} {lz0 bO dw fB : Nat} (e2 : b2 = c2) (hg0 : ∀ s, X.look (S s) lz0 bO = some (X.Obj.box 55 [PV.fn 25 [.ptr 0 dw 0, .ptr 0 bO 0]])) (hg1 : ∀ s, X.look (S s) lz0 dw = some (X.Obj.box 49 [PV.map 0 fB])) (hg2 : ∀ s, X.look (S s) lz0 fB = some (X.Obj.map (.int .i64) true (E.bn s))) (hu2 : ∀ s x, X.bJ (S s) lz0 fB (X.Obj.map (.int .i64) true (E.bn x)) = S x) {r : Int × (List (Int × Bool))}, mM a0 d0 b2 = some r → ∀ {args : List PV}, [PV.d (.sl (E.au a0.l) (E.aD a0.x)), PV.fn 27 [.ptr lz0 bO 0, .aS [.int .i64 d0]]] = args → ∀ {st : St}, S c2 = st → Sat (Ω.cf 61 args st) (fun q => q = (PV.d (.int .i64 r.1), S r.2))
end Go.Proofs.Ytedfkehkcaaplaa
