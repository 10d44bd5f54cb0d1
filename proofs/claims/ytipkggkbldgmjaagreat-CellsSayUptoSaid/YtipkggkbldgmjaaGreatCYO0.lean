/- The interpreter computes just these functions: printed by a small program. -/
import Derived.Test.YtipkggkbldgmjaaGreatCYD
namespace Go.Proofs.YtipkggkbldgmjaaGreat
open Go Go.X
set_option linter.unusedVariables false
set_option linter.unusedSimpArgs false
set_option linter.unusedSectionVars false
variable {Ω : Om} {E : Enc} (hΩ : real (call S) = Ω) (hE : jO = E) {fu : Nat}
include hΩ hE
set_option maxRecDepth 100000
def zP0 (E : Enc) (x0 : ByteArray) (x1 x2 : Int) (x3 : ByteArray) (x4 : List (Value)) (x5 : Option (List (Value))) (x6 : List (Field)) (x7 : Option (List (Field))) (x8 : Int) (x9 : ByteArray) (x10 : Bool) : List PV := [.d (.str x0), .d (.int .u8 x1), .d (.int .i64 x2), .d (.str x3), .d (.sl (E.aN x4) (E.aU x5)), .d (.sl (E.aB x6) (E.aG x7)), .d (.int .u8 x8), .d (.str x9), .d (.bool x10)]
def zP1 (E : Enc) (x0 x1 : Int) (x2 : ByteArray) (x3 : List (Value)) (x4 : Option (List (Value))) (x5 : List (Field)) (x6 : Option (List (Field))) (x7 : Int) (x8 : ByteArray) (x9 : Bool) : List PV := [.d (.int .u8 x0), .d (.int .i64 x1), .d (.str x2), .d (.sl (E.aN x3) (E.aU x4)), .d (.sl (E.aB x5) (E.aG x6)), .d (.int .u8 x7), .d (.str x8), .d (.bool x9)]
def zP2 (E : Enc) (x0 : Int) (x1 : ByteArray) (x2 x3 : Int) (x4 : ByteArray) (x5 : List (Value)) (x6 : Option (List (Value))) (x7 : List (Field)) (x8 : Option (List (Field))) (x9 : Int) (x10 : ByteArray) (x11 : Bool) (Z8 ZU : Int) (x14 : ByteArray) (Z5 : List (Value)) (x16 : Option (List (Value))) (x17 : List (Field)) (x18 : Option (List (Field))) (x19 : Int) (x20 : ByteArray) (x21 : Bool) (x22 : List (Value)) (x23 : Option (List (Value))) (x24 : List (Act)) (x25 : Option (List (Act))) (x26 : List (Act)) (x27 : Option (List (Act))) (x28 : List (Field)) (x29 : Option (List (Field))) (x30 x31 : Bool) (x32 : List (Act)) (x33 : Option (List (Act))) (x34 : List (Field)) (x35 : Option (List (Field))) : List PV := [.d (.int .u8 x0), .d (.str x1), .d (.int .u8 x2), .d (.int .i64 x3), .d (.str x4), .d (.sl (E.aN x5) (E.aU x6)), .d (.sl (E.aB x7) (E.aG x8)), .d (.int .u8 x9), .d (.str x10), .d (.bool x11), .d (.int .u8 Z8), .d (.int .i64 ZU), .d (.str x14), .d (.sl (E.aN Z5) (E.aU x16)), .d (.sl (E.aB x17) (E.aG x18)), .d (.int .u8 x19), .d (.str x20), .d (.bool x21), .d (.sl (E.aN x22) (E.aU x23)), .d (.sl (E.fD x24) (E.gq x25)), .d (.sl (E.fD x26) (E.gq x27)), .d (.sl (E.aB x28) (E.aG x29)), .d (.bool x30), .d (.bool x31), .d (.sl (E.fD x32) (E.gq x33)), .d (.sl (E.aB x34) (E.aG x35))]
def mI (E : Enc) (x0 : Int) (x1 : ByteArray) (x2 x3 : Int) (x4 : ByteArray) (x5 : List (Value)) (x6 : Option (List (Value))) (x7 : List (Field)) (x8 : Option (List (Field))) (x9 : Int) (x10 : ByteArray) (x11 : Bool) (Z8 ZU : Int) (x14 : ByteArray) (Z5 : List (Value)) (x16 : Option (List (Value))) (x17 : List (Field)) (x18 : Option (List (Field))) (x19 : Int) (x20 : ByteArray) (x21 : Bool) (x22 : List (Value)) (x23 : Option (List (Value))) (x24 : List (Act)) (x25 : Option (List (Act))) (x26 : List (Act)) (x27 : Option (List (Act))) (x28 : List (Field)) (x29 : Option (List (Field))) (x30 x31 : Bool) (x32 : List (Act)) (x33 : Option (List (Act))) (x34 : List (Field)) (x35 : Option (List (Field))) : List D := [.int .u8 x0, .str x1, .int .u8 x2, .int .i64 x3, .str x4, .sl (E.aN x5) (E.aU x6), .sl (E.aB x7) (E.aG x8), .int .u8 x9, .str x10, .bool x11, .int .u8 Z8, .int .i64 ZU, .str x14, .sl (E.aN Z5) (E.aU x16), .sl (E.aB x17) (E.aG x18), .int .u8 x19, .str x20, .bool x21, .sl (E.aN x22) (E.aU x23), .sl (E.fD x24) (E.gq x25), .sl (E.fD x26) (E.gq x27), .sl (E.aB x28) (E.aG x29), .bool x30, .bool x31, .sl (E.fD x32) (E.gq x33), .sl (E.aB x34) (E.aG x35)]
def iY (E : Enc) (x0 x1 : Int) (x2 : ByteArray) (x3 : List (Value)) (x4 : Option (List (Value))) (x5 : List (Field)) (x6 : Option (List (Field))) (x7 : Int) (x8 : ByteArray) (x9 : Bool) : List D := [.int .u8 x0, .int .i64 x1, .str x2, .sl (E.aN x3) (E.aU x4), .sl (E.aB x5) (E.aG x6), .int .u8 x7, .str x8, .bool x9]
def zD5 (E : Enc) (x0 : ByteArray) (x1 x2 : Int) (x3 : ByteArray) (x4 : List (Value)) (x5 : Option (List (Value))) (x6 : List (Field)) (x7 : Option (List (Field))) (x8 : Int) (x9 : ByteArray) (x10 : Bool) : List D := [.str x0, .int .u8 x1, .int .i64 x2, .str x3, .sl (E.aN x4) (E.aU x5), .sl (E.aB x6) (E.aG x7), .int .u8 x8, .str x9, .bool x10]
def zD6 (E : Enc) (x0 : Int) (x1 : ByteArray) (x2 x3 : Int) (x4 : ByteArray) (x5 : List (Expr)) (x6 : Option (List (Expr))) (x7 : List (ByteArray)) (x8 : Option (List (ByteArray))) (x9 : List (Expr)) (x10 : Option (List (Expr))) (x11 : Int) (Z8 : List (Expr)) (ZU : Option (List (Expr))) (x14 : List (Act)) (Z5 : Option (List (Act))) (x16 : ByteArray) : List D := [.int .u8 x0, .str x1, .int .u8 x2, .int .i64 x3, .str x4, .sl (E.dZ x5) (E.fB x6), .sl (E.fQ x7) (E.iA x8), .sl (E.dZ x9) (E.fB x10), .int .u8 x11, .sl (E.dZ Z8) (E.fB ZU), .sl (E.fD x14) (E.gq Z5), .str x16]
def zD7 (E : Enc) (x0 x1 : Int) (x2 : ByteArray) (x3 : List (Expr)) (x4 : Option (List (Expr))) (x5 : List (ByteArray)) (x6 : Option (List (ByteArray))) (x7 : List (Expr)) (x8 : Option (List (Expr))) (x9 : Int) (x10 : List (Expr)) (x11 : Option (List (Expr))) (Z8 : List (Act)) (ZU : Option (List (Act))) (x14 : ByteArray) : List D := [.int .u8 x0, .int .i64 x1, .str x2, .sl (E.dZ x3) (E.fB x4), .sl (E.fQ x5) (E.iA x6), .sl (E.dZ x7) (E.fB x8), .int .u8 x9, .sl (E.dZ x10) (E.fB x11), .sl (E.fD Z8) (E.gq ZU), .str x14]
def H34 (Ω : Om) (E : Enc) (p34 : Value → Option (Value)) : Prop := ∀ {a0 : Value} {r : Value}, p34 a0 = some r → ∀ {args : List PV}, [aT E a0] = args → ∀ (st : St), Sat (Ω.cf 34 args st) (fun q => q = (aT E r, st))
def H35 (Ω : Om) (E : Enc) (p35 : (Sl Value) → Option ((Sl Value))) : Prop := ∀ {a0 : Sl Value} {r : (Sl Value)}, p35 a0 = some r → ∀ {args : List PV}, [PV.d (.sl (E.aN a0.l) (E.aU a0.x))] = args → ∀ (st : St), Sat (Ω.cf 35 args st) (fun q => q = (PV.d (.sl (E.aN r.l) (E.aU r.x)), st))
def H37 (Ω : Om) (E : Enc) (p37 : (Sl Field) → Option ((Sl Field))) : Prop := ∀ {a0 : Sl Field} {r : (Sl Field)}, p37 a0 = some r → ∀ {args : List PV}, [PV.d (.sl (E.aB a0.l) (E.aG a0.x))] = args → ∀ (st : St), Sat (Ω.cf 37 args st) (fun q => q = (PV.d (.sl (E.aB r.l) (E.aG r.x)), st))
def H66 (Ω : Om) (E : Enc) (p66 : Field → Option (Field)) : Prop := ∀ {a0 : Field} {r : Field}, p66 a0 = some r → ∀ {args : List PV}, [eU E a0] = args → ∀ (st : St), Sat (Ω.cf 66 args st) (fun q => q = (eU E r, st))
set_option maxHeartbeats 4000000 in
theorem aqn {p34 : Value → Option (Value)} (ae8 : H34 Ω E p34) {p35 : (Sl Value) → Option ((Sl Value))} (aie : H35 Ω E p35) {p37 : (Sl Field) → Option ((Sl Field))} (aif : H37 Ω E p37) {p66 : Field → Option (Field)} (aii : H66 Ω E p66) {a0 : Value} {r : Value} (h : agQ fu p34 p35 p37 p66 a0 = some r) {args : List PV} (ha : [aT E a0] = args) (st : St) :
 Sat (Ω.cf 34 args st) (fun q => q = (aT E r, st)) := by
 subst ha
 rcases a0 with ⟨aD, aO, bN, ⟨aK, aS⟩, ⟨au, aA⟩, bO, bT, aQ⟩
 rw [aR hΩ (f := 34) (fn := Tryz.f34) (x := c34) rfl rfl akL rfl rfl rfl]
 unfold agQ at h
 try dsimp only at h
 conv => arg 1; cbv
 replace h := aW h
 obtain ⟨⟨wV, wW⟩, hx2, h⟩ := h
 try dsimp only at h
 refine aH (aie hx2) (cv ?_)
 refine sat_true (iI hΩ _) (cv ?_)
 replace h := aW h
 obtain ⟨⟨Cq, Cr⟩, hx4, h⟩ := h
 try dsimp only at h
 refine aH (aif hx4) (cv ?_)
 refine sat_true (iI hΩ _) (cv ?_)
 refine aj hΩ (cv ?_)
 exact sp h
set_option maxHeartbeats 4000000 in
theorem aqo {p34 : Value → Option (Value)} (ae8 : H34 Ω E p34) {p35 : (Sl Value) → Option ((Sl Value))} (aie : H35 Ω E p35) {p37 : (Sl Field) → Option ((Sl Field))} (aif : H37 Ω E p37) {p66 : Field → Option (Field)} (aii : H66 Ω E p66) {a0 : Sl Value} {r : (Sl Value)} (h : agR fu p34 p35 p37 p66 a0 = some r) {args : List PV} (ha : [PV.d (.sl (E.aN a0.l) (E.aU a0.x))] = args) (st : St) :
 Sat (Ω.cf 35 args st) (fun q => q = (PV.d (.sl (E.aN r.l) (E.aU r.x)), st)) := by
 subst ha
 rcases a0 with ⟨ah, aY⟩
 rw [aR hΩ (f := 35) (fn := Tryz.f35) (x := c35) rfl rfl akM rfl rfl rfl]
 unfold agR at h
 try dsimp only at h
 conv => arg 1; cbv
 refine av hΩ (aF hE) ah fun n1 hn2 => cv ?_
 replace h := aJ h
 obtain ⟨AX, h⟩ := h
 refine aP AX (cv ?_)
 replace h := aJ h
 obtain ⟨vL, h⟩ := h
 refine aP vL (cv ?_)
 replace h := aJ h
 obtain ⟨nC, h⟩ := h
 refine aP nC (cv ?_)
 refine rY hΩ (aF hE) (Value.mk 0 0 ByteArray.empty (Sl.mk [] (some [])) (Sl.mk [] (some [])) 0 ByteArray.empty false) 0 fun l3 hl4 n5 hn6 => cv ?_
 replace h := aW h
 obtain ⟨q, uZ, h⟩ := h
 refine dL hΩ (fun (a : (List Value) × Int) => (match a with | (l10, i11) => ([(0, PV.d (.sl (E.aN ah) (E.aU aY))), (2, PV.d (.sl [] (some []))), (3, PV.row 0 0 (ln l10)), (4, vi i11)], ([X.Obj.row 29 8 (E.aN l10) false (some (Ω.wrap .i64 (Ω.add n1 1)))] : List X.Obj) :: st))) (fun (q : ((List Value) × Int)) => (match q with | (gB, OO) => (.exit 0, [(0, PV.d (.sl (E.aN ah) (E.aU aY))), (2, PV.d (.sl [] (some []))), (3, PV.row 0 0 (ln gB)), (4, vi OO)], ([X.Obj.row 29 8 (E.aN gB) false (some (Ω.wrap .i64 (Ω.add n1 1)))] : List X.Obj) :: st))) ((List.replicate (Int.toNat 0) (Value.mk 0 0 ByteArray.empty (Sl.mk [] (some [])) (Sl.mk [] (some [])) 0 ByteArray.empty false)), 0) uZ ?_ ?_
 clear h uZ
 rintro ⟨l10, i11⟩ q h
 unfold OM at h
 dsimp only at h
 obtain ⟨Ki, mO⟩ : ∃ n, ln l10 = n := ⟨_, rfl⟩
 simp only [mO]
 conv => arg 1; cbv
 refine av hΩ (aF hE) ah fun n12 ae9 => cv ?_
 refine aC hΩ (cv ?_)
 revert h; refine bU (fun nD h => cv ?_) fun nD h => cv ?_
 refine aC hΩ (cv ?_)
 refine sat_true (bg hΩ (aF hE) ah) (cv ?_)
 replace h := aW h
 obtain ⟨⟨mV, qM, Tg, ⟨I4, I5⟩, ⟨ru, rz⟩, ajn, Ti, ajo⟩, hx16, h⟩ := h
 try dsimp only at h
 refine aM (bG hΩ (aF hE) hx16) (cv ?_)
 replace h := aW h
 obtain ⟨⟨gN, iQ, pK, ⟨lN, lQ⟩, ⟨iR, iT⟩, I6, pO, I7⟩, u6, h⟩ := h
 try dsimp only at h
 refine aH (ae8 u6) (cv ?_)
 refine sat_true (kL hΩ _) (cv ?_)
 refine sat_true (bg hΩ (aF hE) [(Value.mk gN iQ pK (Sl.mk lN lQ) (Sl.mk iR iT) I6 pO I7)]) (cv ?_)
 refine sat_true (gy hΩ (aF hE) l10) (cv ?_)
 refine iH (fJ hΩ (aF hE) (l := [(Value.mk gN iQ pK (Sl.mk lN lQ) (Sl.mk iR iT) I6 pO I7)]) (b := false) (by rfl)) (cv ?_)
 refine eP hΩ (aF hE) l10 [(Value.mk gN iQ pK (Sl.mk lN lQ) (Sl.mk iR iT) I6 pO I7)] fun l19 aij n21 aik => cv ?_
 replace h := aJ h
 obtain ⟨yj, h⟩ := h
 refine aP yj (cv ?_)
 replace h := aJ h
 obtain ⟨yt, h⟩ := h
 refine aP yt (cv ?_)
 obtain rfl := fV h
 subst_vars
 exact s3
 obtain rfl := fV h
 subst_vars
 exact sL
 clear uZ
 rcases q with ⟨gB, OO⟩
 dsimp only at h
 obtain ⟨Ra, oU⟩ : ∃ n, ln gB = n := ⟨_, rfl⟩
 simp only [oU]
 conv => arg 1; cbv
 refine aC hΩ (cv ?_)
 refine sat_true (kL hΩ _) (cv ?_)
 refine sat_true (bg hΩ (aF hE) [(Value.mk 0 0 (⟨#[115, 112, 97, 114, 101]⟩ : ByteArray) (Sl.mk [] (some [])) (Sl.mk [] (some [])) 0 ByteArray.empty false)]) (cv ?_)
 refine sat_true (gy hΩ (aF hE) gB) (cv ?_)
 refine iH (fJ hΩ (aF hE) (l := [(Value.mk 0 0 (⟨#[115, 112, 97, 114, 101]⟩ : ByteArray) (Sl.mk [] (some [])) (Sl.mk [] (some [])) 0 ByteArray.empty false)]) (b := false) (by rfl)) (cv ?_)
 refine eP hΩ (aF hE) gB [(Value.mk 0 0 (⟨#[115, 112, 97, 114, 101]⟩ : ByteArray) (Sl.mk [] (some [])) (Sl.mk [] (some [])) 0 ByteArray.empty false)] fun l28 ail n30 afa => cv ?_
 replace h := aJ h
 obtain ⟨Kj, h⟩ := h
 refine aP Kj (cv ?_)
 replace h := aJ h
 obtain ⟨EJ, h⟩ := h
 refine aP EJ (cv ?_)
 refine av hΩ (aF hE) ah fun n34 Rb => cv ?_
 refine sat_true (gy hΩ (aF hE) (gB ++ [(Value.mk 0 0 (⟨#[115, 112, 97, 114, 101]⟩ : ByteArray) (Sl.mk [] (some [])) (Sl.mk [] (some [])) 0 ByteArray.empty false)])) (cv ?_)
 revert h; refine bU (fun yu h => cv ?_) fun yu h => cv ?_
 refine av hΩ (aF hE) (gB ++ [(Value.mk 0 0 (⟨#[115, 112, 97, 114, 101]⟩ : ByteArray) (Sl.mk [] (some [])) (Sl.mk [] (some [])) 0 ByteArray.empty false)]) fun n37 ain => cv ?_
 refine eP hΩ (aF hE) (gB ++ [(Value.mk 0 0 (⟨#[115, 112, 97, 114, 101]⟩ : ByteArray) (Sl.mk [] (some [])) (Sl.mk [] (some [])) 0 ByteArray.empty false)]) [] fun l39 aio n41 aip => cv ?_
 replace h := aJ h
 obtain ⟨Kk, h⟩ := h
 refine aP Kk (cv ?_)
 replace h := aJ h
 obtain ⟨Rf, h⟩ := h
 refine aP Rf (cv ?_)
 replace h := aJ h
 obtain ⟨Kl, h⟩ := h
 refine aP Kl (cv ?_)
 refine eT hΩ (aF hE) ((gB ++ [(Value.mk 0 0 (⟨#[115, 112, 97, 114, 101]⟩ : ByteArray) (Sl.mk [] (some [])) (Sl.mk [] (some [])) 0 ByteArray.empty false)]) ++ []) 0 (ln ah) fun l46 afb => cv ?_
 refine eT hΩ (aF hE) ((gB ++ [(Value.mk 0 0 (⟨#[115, 112, 97, 114, 101]⟩ : ByteArray) (Sl.mk [] (some [])) (Sl.mk [] (some [])) 0 ByteArray.empty false)]) ++ []) (ln ah) (ln ((gB ++ [(Value.mk 0 0 (⟨#[115, 112, 97, 114, 101]⟩ : ByteArray) (Sl.mk [] (some [])) (Sl.mk [] (some [])) 0 ByteArray.empty false)]) ++ [])) fun l48 aiq => cv ?_
 exact sp h
 refine av hΩ (aF hE) (gB ++ [(Value.mk 0 0 (⟨#[115, 112, 97, 114, 101]⟩ : ByteArray) (Sl.mk [] (some [])) (Sl.mk [] (some [])) 0 ByteArray.empty false)]) fun n50 afc => cv ?_
 replace h := aJ h
 obtain ⟨EK, h⟩ := h
 refine aP EK (cv ?_)
 replace h := aJ h
 obtain ⟨Rh, h⟩ := h
 refine aP Rh (cv ?_)
 replace h := aJ h
 obtain ⟨Km, h⟩ := h
 refine aP Km (cv ?_)
 refine eT hΩ (aF hE) (gB ++ [(Value.mk 0 0 (⟨#[115, 112, 97, 114, 101]⟩ : ByteArray) (Sl.mk [] (some [])) (Sl.mk [] (some [])) 0 ByteArray.empty false)]) 0 (ln ah) fun l55 air => cv ?_
 exact sp h
set_option maxHeartbeats 4000000 in
theorem aqp {p34 : Value → Option (Value)} (ae8 : H34 Ω E p34) {p35 : (Sl Value) → Option ((Sl Value))} (aie : H35 Ω E p35) {p37 : (Sl Field) → Option ((Sl Field))} (aif : H37 Ω E p37) {p66 : Field → Option (Field)} (aii : H66 Ω E p66) {a0 : Sl Field} {r : (Sl Field)} (h : agS fu p34 p35 p37 p66 a0 = some r) {args : List PV} (ha : [PV.d (.sl (E.aB a0.l) (E.aG a0.x))] = args) (st : St) :
 Sat (Ω.cf 37 args st) (fun q => q = (PV.d (.sl (E.aB r.l) (E.aG r.x)), st)) := by
 subst ha
 rcases a0 with ⟨ah, aY⟩
 rw [aR hΩ (f := 37) (fn := Tryz.f37) (x := c37) rfl rfl akO rfl rfl rfl]
 unfold agS at h
 try dsimp only at h
 conv => arg 1; cbv
 refine av hΩ (ak hE) ah fun n1 hn2 => cv ?_
 replace h := aJ h
 obtain ⟨AX, h⟩ := h
 refine aP AX (cv ?_)
 replace h := aJ h
 obtain ⟨vL, h⟩ := h
 refine aP vL (cv ?_)
 replace h := aJ h
 obtain ⟨nC, h⟩ := h
 refine aP nC (cv ?_)
 refine rY hΩ (ak hE) (Field.mk ByteArray.empty (Value.mk 0 0 ByteArray.empty (Sl.mk [] (some [])) (Sl.mk [] (some [])) 0 ByteArray.empty false)) 0 fun l3 hl4 n5 hn6 => cv ?_
 replace h := aW h
 obtain ⟨q, uZ, h⟩ := h
 refine dL hΩ (fun (a : (List Field) × Int) => (match a with | (l10, i11) => ([(0, PV.d (.sl (E.aB ah) (E.aG aY))), (2, PV.d (.sl [] (some []))), (3, PV.row 0 0 (ln l10)), (4, vi i11)], ([X.Obj.row 67 9 (E.aB l10) false (some (Ω.wrap .i64 (Ω.add n1 1)))] : List X.Obj) :: st))) (fun (q : ((List Field) × Int)) => (match q with | (gB, OO) => (.exit 0, [(0, PV.d (.sl (E.aB ah) (E.aG aY))), (2, PV.d (.sl [] (some []))), (3, PV.row 0 0 (ln gB)), (4, vi OO)], ([X.Obj.row 67 9 (E.aB gB) false (some (Ω.wrap .i64 (Ω.add n1 1)))] : List X.Obj) :: st))) ((List.replicate (Int.toNat 0) (Field.mk ByteArray.empty (Value.mk 0 0 ByteArray.empty (Sl.mk [] (some [])) (Sl.mk [] (some [])) 0 ByteArray.empty false))), 0) uZ ?_ ?_
 clear h uZ
 rintro ⟨l10, i11⟩ q h
 unfold OP at h
 dsimp only at h
 obtain ⟨Ki, mO⟩ : ∃ n, ln l10 = n := ⟨_, rfl⟩
 simp only [mO]
 conv => arg 1; cbv
 refine av hΩ (ak hE) ah fun n12 ae9 => cv ?_
 refine aC hΩ (cv ?_)
 revert h; refine bU (fun nD h => cv ?_) fun nD h => cv ?_
 refine aC hΩ (cv ?_)
 refine sat_true (bg hΩ (ak hE) ah) (cv ?_)
 replace h := aW h
 obtain ⟨⟨mV, ⟨I8, I9, Ja, ⟨Ct, Cu⟩, ⟨Cv, Cw⟩, Jb, Jc, Jd⟩⟩, hx16, h⟩ := h
 try dsimp only at h
 refine aM (bG hΩ (ak hE) hx16) (cv ?_)
 replace h := aW h
 obtain ⟨⟨gN, ⟨zR, zS, zT, ⟨tV, tX⟩, ⟨tY, tZ⟩, zU, zV, zW⟩⟩, u6, h⟩ := h
 try dsimp only at h
 refine aH (aii u6) (cv ?_)
 refine sat_true (kL hΩ _) (cv ?_)
 refine sat_true (bg hΩ (ak hE) [(Field.mk gN (Value.mk zR zS zT (Sl.mk tV tX) (Sl.mk tY tZ) zU zV zW))]) (cv ?_)
 refine sat_true (gy hΩ (ak hE) l10) (cv ?_)
 refine iH (fJ hΩ (ak hE) (l := [(Field.mk gN (Value.mk zR zS zT (Sl.mk tV tX) (Sl.mk tY tZ) zU zV zW))]) (b := false) (by rfl)) (cv ?_)
 refine eP hΩ (ak hE) l10 [(Field.mk gN (Value.mk zR zS zT (Sl.mk tV tX) (Sl.mk tY tZ) zU zV zW))] fun l19 aij n21 aik => cv ?_
 replace h := aJ h
 obtain ⟨yj, h⟩ := h
 refine aP yj (cv ?_)
 replace h := aJ h
 obtain ⟨yt, h⟩ := h
 refine aP yt (cv ?_)
 obtain rfl := fV h
 subst_vars
 exact s3
 obtain rfl := fV h
 subst_vars
 exact sL
 clear uZ
 rcases q with ⟨gB, OO⟩
 dsimp only at h
 obtain ⟨Ra, oU⟩ : ∃ n, ln gB = n := ⟨_, rfl⟩
 simp only [oU]
 conv => arg 1; cbv
 refine aC hΩ (cv ?_)
 refine sat_true (kL hΩ _) (cv ?_)
 refine sat_true (bg hΩ (ak hE) [(Field.mk (⟨#[115, 112, 97, 114, 101]⟩ : ByteArray) (Value.mk 0 0 ByteArray.empty (Sl.mk [] (some [])) (Sl.mk [] (some [])) 0 ByteArray.empty false))]) (cv ?_)
 refine sat_true (gy hΩ (ak hE) gB) (cv ?_)
 refine iH (fJ hΩ (ak hE) (l := [(Field.mk (⟨#[115, 112, 97, 114, 101]⟩ : ByteArray) (Value.mk 0 0 ByteArray.empty (Sl.mk [] (some [])) (Sl.mk [] (some [])) 0 ByteArray.empty false))]) (b := false) (by rfl)) (cv ?_)
 refine eP hΩ (ak hE) gB [(Field.mk (⟨#[115, 112, 97, 114, 101]⟩ : ByteArray) (Value.mk 0 0 ByteArray.empty (Sl.mk [] (some [])) (Sl.mk [] (some [])) 0 ByteArray.empty false))] fun l28 ail n30 afa => cv ?_
 replace h := aJ h
 obtain ⟨Kj, h⟩ := h
 refine aP Kj (cv ?_)
 replace h := aJ h
 obtain ⟨EJ, h⟩ := h
 refine aP EJ (cv ?_)
 refine av hΩ (ak hE) ah fun n34 Rb => cv ?_
 refine sat_true (gy hΩ (ak hE) (gB ++ [(Field.mk (⟨#[115, 112, 97, 114, 101]⟩ : ByteArray) (Value.mk 0 0 ByteArray.empty (Sl.mk [] (some [])) (Sl.mk [] (some [])) 0 ByteArray.empty false))])) (cv ?_)
 revert h; refine bU (fun yu h => cv ?_) fun yu h => cv ?_
 refine av hΩ (ak hE) (gB ++ [(Field.mk (⟨#[115, 112, 97, 114, 101]⟩ : ByteArray) (Value.mk 0 0 ByteArray.empty (Sl.mk [] (some [])) (Sl.mk [] (some [])) 0 ByteArray.empty false))]) fun n37 ain => cv ?_
 refine eP hΩ (ak hE) (gB ++ [(Field.mk (⟨#[115, 112, 97, 114, 101]⟩ : ByteArray) (Value.mk 0 0 ByteArray.empty (Sl.mk [] (some [])) (Sl.mk [] (some [])) 0 ByteArray.empty false))]) [] fun l39 aio n41 aip => cv ?_
 replace h := aJ h
 obtain ⟨Kk, h⟩ := h
 refine aP Kk (cv ?_)
 replace h := aJ h
 obtain ⟨Rf, h⟩ := h
 refine aP Rf (cv ?_)
 replace h := aJ h
 obtain ⟨Kl, h⟩ := h
 refine aP Kl (cv ?_)
 refine eT hΩ (ak hE) ((gB ++ [(Field.mk (⟨#[115, 112, 97, 114, 101]⟩ : ByteArray) (Value.mk 0 0 ByteArray.empty (Sl.mk [] (some [])) (Sl.mk [] (some [])) 0 ByteArray.empty false))]) ++ []) 0 (ln ah) fun l46 afb => cv ?_
 refine eT hΩ (ak hE) ((gB ++ [(Field.mk (⟨#[115, 112, 97, 114, 101]⟩ : ByteArray) (Value.mk 0 0 ByteArray.empty (Sl.mk [] (some [])) (Sl.mk [] (some [])) 0 ByteArray.empty false))]) ++ []) (ln ah) (ln ((gB ++ [(Field.mk (⟨#[115, 112, 97, 114, 101]⟩ : ByteArray) (Value.mk 0 0 ByteArray.empty (Sl.mk [] (some [])) (Sl.mk [] (some [])) 0 ByteArray.empty false))]) ++ [])) fun l48 aiq => cv ?_
 exact sp h
 refine av hΩ (ak hE) (gB ++ [(Field.mk (⟨#[115, 112, 97, 114, 101]⟩ : ByteArray) (Value.mk 0 0 ByteArray.empty (Sl.mk [] (some [])) (Sl.mk [] (some [])) 0 ByteArray.empty false))]) fun n50 afc => cv ?_
 replace h := aJ h
 obtain ⟨EK, h⟩ := h
 refine aP EK (cv ?_)
 replace h := aJ h
 obtain ⟨Rh, h⟩ := h
 refine aP Rh (cv ?_)
 replace h := aJ h
 obtain ⟨Km, h⟩ := h
 refine aP Km (cv ?_)
 refine eT hΩ (ak hE) (gB ++ [(Field.mk (⟨#[115, 112, 97, 114, 101]⟩ : ByteArray) (Value.mk 0 0 ByteArray.empty (Sl.mk [] (some [])) (Sl.mk [] (some [])) 0 ByteArray.empty false))]) 0 (ln ah) fun l55 air => cv ?_
 exact sp h
set_option maxHeartbeats 4000000 in
theorem aqr {p34 : Value → Option (Value)} (ae8 : H34 Ω E p34) {p35 : (Sl Value) → Option ((Sl Value))} (aie : H35 Ω E p35) {p37 : (Sl Field) → Option ((Sl Field))} (aif : H37 Ω E p37) {p66 : Field → Option (Field)} (aii : H66 Ω E p66) {a0 : Field} {r : Field} (h : acK fu p34 p35 p37 p66 a0 = some r) {args : List PV} (ha : [eU E a0] = args) (st : St) :
 Sat (Ω.cf 66 args st) (fun q => q = (eU E r, st)) := by
 subst ha
 rcases a0 with ⟨aD, ⟨og, oh, om, ⟨kM, kN⟩, ⟨kP, kQ⟩, oo, oq, ou⟩⟩
 rw [aR hΩ (f := 66) (fn := Tryz.f66) (x := c66) rfl rfl akZ rfl rfl rfl]
 unfold acK at h
 try dsimp only at h
 conv => arg 1; cbv
 replace h := aW h
 obtain ⟨⟨Tj, Tk, Tm, ⟨FC, FD⟩, ⟨FE, FH⟩, acL, Tn, acM⟩, hx2, h⟩ := h
 try dsimp only at h
 refine aH (ae8 hx2) (cv ?_)
 refine sat_true (iI hΩ _) (cv ?_)
 exact sp h
theorem afd : ∀ fu,
 (∀ {a0 : Value} {r : Value}, Z4 fu a0 = some r → ∀ {args : List PV}, [aT E a0] = args → ∀ (st : St), Sat (Ω.cf 34 args st) (fun q => q = (aT E r, st))) ∧
 (∀ {a0 : Sl Value} {r : (Sl Value)}, P35 fu a0 = some r → ∀ {args : List PV}, [PV.d (.sl (E.aN a0.l) (E.aU a0.x))] = args → ∀ (st : St), Sat (Ω.cf 35 args st) (fun q => q = (PV.d (.sl (E.aN r.l) (E.aU r.x)), st))) ∧
 (∀ {a0 : Sl Field} {r : (Sl Field)}, P37 fu a0 = some r → ∀ {args : List PV}, [PV.d (.sl (E.aB a0.l) (E.aG a0.x))] = args → ∀ (st : St), Sat (Ω.cf 37 args st) (fun q => q = (PV.d (.sl (E.aB r.l) (E.aG r.x)), st))) ∧
 (∀ {a0 : Field} {r : Field}, P66 fu a0 = some r → ∀ {args : List PV}, [eU E a0] = args → ∀ (st : St), Sat (Ω.cf 66 args st) (fun q => q = (eU E r, st))) := by
 intro fu
 induction fu with
 | zero => exact ⟨(fun h => (by cases h)), (fun h => (by cases h)), (fun h => (by cases h)), (fun h => (by cases h))⟩
 | succ fu ih =>
  obtain ⟨i34, i35, i37, i66⟩ := ih
  exact ⟨(fun h => @fun args ha st => aqn (fu := fu) hΩ hE i34 i35 i37 i66 h ha st), (fun h => @fun args ha st => aqo (fu := fu) hΩ hE i34 i35 i37 i66 h ha st), (fun h => @fun args ha st => aqp (fu := fu) hΩ hE i34 i35 i37 i66 h ha st), (fun h => @fun args ha st => aqr (fu := fu) hΩ hE i34 i35 i37 i66 h ha st)⟩
theorem aqs : ∀ {a0 : Value} {r : Value}, Z4 fu a0 = some r → ∀ {args : List PV}, [aT E a0] = args → ∀ (st : St), Sat (Ω.cf 34 args st) (fun q => q = (aT E r, st)) := (afd hΩ hE fu).1
theorem ar5 : ∀ {a0 : Sl Value} {r : (Sl Value)}, P35 fu a0 = some r → ∀ {args : List PV}, [PV.d (.sl (E.aN a0.l) (E.aU a0.x))] = args → ∀ (st : St), Sat (Ω.cf 35 args st) (fun q => q = (PV.d (.sl (E.aN r.l) (E.aU r.x)), st)) := (afd hΩ hE fu).2.1
theorem aqt : ∀ {a0 : Sl Field} {r : (Sl Field)}, P37 fu a0 = some r → ∀ {args : List PV}, [PV.d (.sl (E.aB a0.l) (E.aG a0.x))] = args → ∀ (st : St), Sat (Ω.cf 37 args st) (fun q => q = (PV.d (.sl (E.aB r.l) (E.aG r.x)), st)) := (afd hΩ hE fu).2.2.1
set_option maxHeartbeats 4000000 in
theorem ar6 {a0 : Sl ByteArray} {r : (Sl ByteArray)} (h : P99 fu a0 = some r) {args : List PV} (ha : [PV.d (.sl (E.fQ a0.l) (E.iA a0.x))] = args) (st : St) :
 Sat (Ω.cf 99 args st) (fun q => q = (PV.d (.sl (E.fQ r.l) (E.iA r.x)), st)) := by
 subst ha
 rcases a0 with ⟨ah, aY⟩
 rw [aR hΩ (f := 99) (fn := Tryz.f99) (x := c99) rfl rfl alc rfl rfl rfl]
 unfold P99 at h
 try dsimp only at h
 conv => arg 1; cbv
 refine av hΩ (d9 hE) ah fun n1 hn2 => cv ?_
 replace h := aJ h
 obtain ⟨AX, h⟩ := h
 refine aP AX (cv ?_)
 replace h := aJ h
 obtain ⟨vL, h⟩ := h
 refine aP vL (cv ?_)
 replace h := aJ h
 obtain ⟨nC, h⟩ := h
 refine aP nC (cv ?_)
 refine rY hΩ (d9 hE) ByteArray.empty 0 fun l3 hl4 n5 hn6 => cv ?_
 replace h := aW h
 obtain ⟨q, Wp, h⟩ := h
 refine dL hΩ (fun (a : (List ByteArray) × Int) => (match a with | (l10, i11) => ([(0, PV.d (.sl (E.fQ ah) (E.iA aY))), (2, PV.d (.sl [] (some []))), (3, PV.row 0 0 (ln l10)), (4, vi i11)], ([X.Obj.row 9 1 (E.fQ l10) false (some (Ω.wrap .i64 (Ω.add n1 1)))] : List X.Obj) :: st))) (fun (q : ((List ByteArray) × Int)) => (match q with | (sI, Vu) => (.exit 0, [(0, PV.d (.sl (E.fQ ah) (E.iA aY))), (2, PV.d (.sl [] (some []))), (3, PV.row 0 0 (ln sI)), (4, vi Vu)], ([X.Obj.row 9 1 (E.fQ sI) false (some (Ω.wrap .i64 (Ω.add n1 1)))] : List X.Obj) :: st))) ((List.replicate (Int.toNat 0) ByteArray.empty), 0) Wp ?_ ?_
 clear h Wp
 rintro ⟨l10, i11⟩ q h
 unfold OQ at h
 dsimp only at h
 obtain ⟨Ki, mO⟩ : ∃ n, ln l10 = n := ⟨_, rfl⟩
 simp only [mO]
 conv => arg 1; cbv
 refine av hΩ (d9 hE) ah fun n12 ae9 => cv ?_
 refine aC hΩ (cv ?_)
 revert h; refine bU (fun nD h => cv ?_) fun nD h => cv ?_
 refine aC hΩ (cv ?_)
 refine sat_true (bg hΩ (d9 hE) ah) (cv ?_)
 replace h := aW h
 obtain ⟨Z5, hx16, h⟩ := h
 refine aM (bG hΩ (d9 hE) hx16) (cv ?_)
 refine sat_true (kL hΩ _) (cv ?_)
 refine sat_true (bg hΩ (d9 hE) [Z5]) (cv ?_)
 refine sat_true (gy hΩ (d9 hE) l10) (cv ?_)
 refine iH (fJ hΩ (d9 hE) (l := [Z5]) (b := false) (by rfl)) (cv ?_)
 refine eP hΩ (d9 hE) l10 [Z5] fun l17 ais n19 atw => cv ?_
 replace h := aJ h
 obtain ⟨EM, h⟩ := h
 refine aP EM (cv ?_)
 replace h := aJ h
 obtain ⟨yw, h⟩ := h
 refine aP yw (cv ?_)
 obtain rfl := fV h
 subst_vars
 exact s3
 obtain rfl := fV h
 subst_vars
 exact sL
 clear Wp
 rcases q with ⟨sI, Vu⟩
 dsimp only at h
 obtain ⟨ar7, ait⟩ : ∃ n, ln sI = n := ⟨_, rfl⟩
 simp only [ait]
 conv => arg 1; cbv
 refine aC hΩ (cv ?_)
 refine sat_true (kL hΩ _) (cv ?_)
 refine sat_true (bg hΩ (d9 hE) [(⟨#[115, 112, 97, 114, 101]⟩ : ByteArray)]) (cv ?_)
 refine sat_true (gy hΩ (d9 hE) sI) (cv ?_)
 refine iH (fJ hΩ (d9 hE) (l := [(⟨#[115, 112, 97, 114, 101]⟩ : ByteArray)]) (b := false) (by rfl)) (cv ?_)
 refine eP hΩ (d9 hE) sI [(⟨#[115, 112, 97, 114, 101]⟩ : ByteArray)] fun Ut atx n28 aty => cv ?_
 replace h := aJ h
 obtain ⟨Wq, h⟩ := h
 refine aP Wq (cv ?_)
 replace h := aJ h
 obtain ⟨afe, h⟩ := h
 refine aP afe (cv ?_)
 refine av hΩ (d9 hE) ah fun n32 aaf => cv ?_
 refine sat_true (gy hΩ (d9 hE) (sI ++ [(⟨#[115, 112, 97, 114, 101]⟩ : ByteArray)])) (cv ?_)
 revert h; refine bU (fun ar8 h => cv ?_) fun ar8 h => cv ?_
 refine av hΩ (d9 hE) (sI ++ [(⟨#[115, 112, 97, 114, 101]⟩ : ByteArray)]) fun n35 atz => cv ?_
 refine eP hΩ (d9 hE) (sI ++ [(⟨#[115, 112, 97, 114, 101]⟩ : ByteArray)]) [] fun l37 atA n39 atC => cv ?_
 replace h := aJ h
 obtain ⟨yx, h⟩ := h
 refine aP yx (cv ?_)
 replace h := aJ h
 obtain ⟨EN, h⟩ := h
 refine aP EN (cv ?_)
 replace h := aJ h
 obtain ⟨Kk, h⟩ := h
 refine aP Kk (cv ?_)
 refine eT hΩ (d9 hE) ((sI ++ [(⟨#[115, 112, 97, 114, 101]⟩ : ByteArray)]) ++ []) 0 (ln ah) fun l44 atD => cv ?_
 refine eT hΩ (d9 hE) ((sI ++ [(⟨#[115, 112, 97, 114, 101]⟩ : ByteArray)]) ++ []) (ln ah) (ln ((sI ++ [(⟨#[115, 112, 97, 114, 101]⟩ : ByteArray)]) ++ [])) fun l46 afb => cv ?_
 exact sp h
 refine av hΩ (d9 hE) (sI ++ [(⟨#[115, 112, 97, 114, 101]⟩ : ByteArray)]) fun n48 atE => cv ?_
 replace h := aJ h
 obtain ⟨anC, h⟩ := h
 refine aP anC (cv ?_)
 replace h := aJ h
 obtain ⟨anD, h⟩ := h
 refine aP anD (cv ?_)
 replace h := aJ h
 obtain ⟨EK, h⟩ := h
 refine aP EK (cv ?_)
 refine eT hΩ (d9 hE) (sI ++ [(⟨#[115, 112, 97, 114, 101]⟩ : ByteArray)]) 0 (ln ah) fun l53 atF => cv ?_
 exact sp h
def H36 (Ω : Om) (E : Enc) (p36 : (Sl Act) → Option ((Sl Act))) : Prop := ∀ {a0 : Sl Act} {r : (Sl Act)}, p36 a0 = some r → ∀ {args : List PV}, [PV.d (.sl (E.fD a0.l) (E.gq a0.x))] = args → ∀ (st : St), Sat (Ω.cf 36 args st) (fun q => q = (PV.d (.sl (E.fD r.l) (E.gq r.x)), st))
def H65 (Ω : Om) (E : Enc) (p65 : Act → Option (Act)) : Prop := ∀ {a0 : Act} {r : Act}, p65 a0 = some r → ∀ {args : List PV}, [nS E a0] = args → ∀ (st : St), Sat (Ω.cf 65 args st) (fun q => q = (nS E r, st))
def H86 (Ω : Om) (E : Enc) (K3 : Expr → Option (Expr)) : Prop := ∀ {a0 : Expr} {r : Expr}, K3 a0 = some r → ∀ {args : List PV}, [lq E a0] = args → ∀ (st : St), Sat (Ω.cf 86 args st) (fun q => q = (lq E r, st))
def H98 (Ω : Om) (E : Enc) (Me : (Sl Expr) → Option ((Sl Expr))) : Prop := ∀ {a0 : Sl Expr} {r : (Sl Expr)}, Me a0 = some r → ∀ {args : List PV}, [PV.d (.sl (E.dZ a0.l) (E.fB a0.x))] = args → ∀ (st : St), Sat (Ω.cf 98 args st) (fun q => q = (PV.d (.sl (E.dZ r.l) (E.fB r.x)), st))
set_option maxHeartbeats 4000000 in
theorem aqu {p36 : (Sl Act) → Option ((Sl Act))} (aiu : H36 Ω E p36) {p65 : Act → Option (Act)} (aiv : H65 Ω E p65) {K3 : Expr → Option (Expr)} (aff : H86 Ω E K3) {Me : (Sl Expr) → Option ((Sl Expr))} (aag : H98 Ω E Me) {a0 : Sl Act} {r : (Sl Act)} (h : agT fu p36 p65 K3 Me a0 = some r) {args : List PV} (ha : [PV.d (.sl (E.fD a0.l) (E.gq a0.x))] = args) (st : St) :
 Sat (Ω.cf 36 args st) (fun q => q = (PV.d (.sl (E.fD r.l) (E.gq r.x)), st)) := by
 subst ha
 rcases a0 with ⟨ah, aY⟩
 rw [aR hΩ (f := 36) (fn := Tryz.f36) (x := c36) rfl rfl akN rfl rfl rfl]
 unfold agT at h
 try dsimp only at h
 conv => arg 1; cbv
 refine av hΩ (dV hE) ah fun n1 hn2 => cv ?_
 replace h := aJ h
 obtain ⟨AX, h⟩ := h
 refine aP AX (cv ?_)
 replace h := aJ h
 obtain ⟨vL, h⟩ := h
 refine aP vL (cv ?_)
 replace h := aJ h
 obtain ⟨nC, h⟩ := h
 refine aP nC (cv ?_)
 refine rY hΩ (dV hE) (Act.mk 0 ByteArray.empty (Expr.mk 0 0 ByteArray.empty (Sl.mk [] (some [])) (Sl.mk [] (some [])) (Sl.mk [] (some [])) 0 (Sl.mk [] (some [])) (Sl.mk [] (some [])) ByteArray.empty)) 0 fun l3 hl4 n5 hn6 => cv ?_
 replace h := aW h
 obtain ⟨q, uZ, h⟩ := h
 refine dL hΩ (fun (a : (List Act) × Int) => (match a with | (l10, i11) => ([(0, PV.d (.sl (E.fD ah) (E.gq aY))), (2, PV.d (.sl [] (some []))), (3, PV.row 0 0 (ln l10)), (4, vi i11)], ([X.Obj.row 76 12 (E.fD l10) false (some (Ω.wrap .i64 (Ω.add n1 1)))] : List X.Obj) :: st))) (fun (q : ((List Act) × Int)) => (match q with | (gB, OO) => (.exit 0, [(0, PV.d (.sl (E.fD ah) (E.gq aY))), (2, PV.d (.sl [] (some []))), (3, PV.row 0 0 (ln gB)), (4, vi OO)], ([X.Obj.row 76 12 (E.fD gB) false (some (Ω.wrap .i64 (Ω.add n1 1)))] : List X.Obj) :: st))) ((List.replicate (Int.toNat 0) (Act.mk 0 ByteArray.empty (Expr.mk 0 0 ByteArray.empty (Sl.mk [] (some [])) (Sl.mk [] (some [])) (Sl.mk [] (some [])) 0 (Sl.mk [] (some [])) (Sl.mk [] (some [])) ByteArray.empty))), 0) uZ ?_ ?_
 clear h uZ
 rintro ⟨l10, i11⟩ q h
 unfold OT at h
 dsimp only at h
 obtain ⟨Ki, mO⟩ : ∃ n, ln l10 = n := ⟨_, rfl⟩
 simp only [mO]
 conv => arg 1; cbv
 refine av hΩ (dV hE) ah fun n12 ae9 => cv ?_
 refine aC hΩ (cv ?_)
 revert h; refine bU (fun nD h => cv ?_) fun nD h => cv ?_
 refine aC hΩ (cv ?_)
 refine sat_true (bg hΩ (dV hE) ah) (cv ?_)
 replace h := aW h
 obtain ⟨⟨mV, qM, ⟨zX, zY, zZ, ⟨uf, ug⟩, ⟨uh, uj⟩, ⟨Xz, XA⟩, z8, ⟨XB, XD⟩, ⟨XE, XG⟩, acN⟩⟩, hx16, h⟩ := h
 try dsimp only at h
 refine aM (bG hΩ (dV hE) hx16) (cv ?_)
 replace h := aW h
 obtain ⟨⟨gN, iQ, ⟨lS, lT, lU, ⟨jB, jC⟩, ⟨jD, jE⟩, ⟨um, uo⟩, lV, ⟨uq, uw⟩, ⟨uy, uz⟩, Aa⟩⟩, u6, h⟩ := h
 try dsimp only at h
 refine aH (aiv u6) (cv ?_)
 refine sat_true (kL hΩ _) (cv ?_)
 refine sat_true (bg hΩ (dV hE) [(Act.mk gN iQ (Expr.mk lS lT lU (Sl.mk jB jC) (Sl.mk jD jE) (Sl.mk um uo) lV (Sl.mk uq uw) (Sl.mk uy uz) Aa))]) (cv ?_)
 refine sat_true (gy hΩ (dV hE) l10) (cv ?_)
 refine iH (fJ hΩ (dV hE) (l := [(Act.mk gN iQ (Expr.mk lS lT lU (Sl.mk jB jC) (Sl.mk jD jE) (Sl.mk um uo) lV (Sl.mk uq uw) (Sl.mk uy uz) Aa))]) (b := false) (by rfl)) (cv ?_)
 refine eP hΩ (dV hE) l10 [(Act.mk gN iQ (Expr.mk lS lT lU (Sl.mk jB jC) (Sl.mk jD jE) (Sl.mk um uo) lV (Sl.mk uq uw) (Sl.mk uy uz) Aa))] fun l19 aij n21 aik => cv ?_
 replace h := aJ h
 obtain ⟨yj, h⟩ := h
 refine aP yj (cv ?_)
 replace h := aJ h
 obtain ⟨yt, h⟩ := h
 refine aP yt (cv ?_)
 obtain rfl := fV h
 subst_vars
 exact s3
 obtain rfl := fV h
 subst_vars
 exact sL
 clear uZ
 rcases q with ⟨gB, OO⟩
 dsimp only at h
 obtain ⟨Ra, oU⟩ : ∃ n, ln gB = n := ⟨_, rfl⟩
 simp only [oU]
 conv => arg 1; cbv
 refine aC hΩ (cv ?_)
 refine sat_true (kL hΩ _) (cv ?_)
 refine sat_true (bg hΩ (dV hE) [(Act.mk 0 (⟨#[115, 112, 97, 114, 101]⟩ : ByteArray) (Expr.mk 0 0 ByteArray.empty (Sl.mk [] (some [])) (Sl.mk [] (some [])) (Sl.mk [] (some [])) 0 (Sl.mk [] (some [])) (Sl.mk [] (some [])) ByteArray.empty))]) (cv ?_)
 refine sat_true (gy hΩ (dV hE) gB) (cv ?_)
 refine iH (fJ hΩ (dV hE) (l := [(Act.mk 0 (⟨#[115, 112, 97, 114, 101]⟩ : ByteArray) (Expr.mk 0 0 ByteArray.empty (Sl.mk [] (some [])) (Sl.mk [] (some [])) (Sl.mk [] (some [])) 0 (Sl.mk [] (some [])) (Sl.mk [] (some [])) ByteArray.empty))]) (b := false) (by rfl)) (cv ?_)
 refine eP hΩ (dV hE) gB [(Act.mk 0 (⟨#[115, 112, 97, 114, 101]⟩ : ByteArray) (Expr.mk 0 0 ByteArray.empty (Sl.mk [] (some [])) (Sl.mk [] (some [])) (Sl.mk [] (some [])) 0 (Sl.mk [] (some [])) (Sl.mk [] (some [])) ByteArray.empty))] fun l28 ail n30 afa => cv ?_
 replace h := aJ h
 obtain ⟨Kj, h⟩ := h
 refine aP Kj (cv ?_)
 replace h := aJ h
 obtain ⟨EJ, h⟩ := h
 refine aP EJ (cv ?_)
 refine av hΩ (dV hE) ah fun n34 Rb => cv ?_
 refine sat_true (gy hΩ (dV hE) (gB ++ [(Act.mk 0 (⟨#[115, 112, 97, 114, 101]⟩ : ByteArray) (Expr.mk 0 0 ByteArray.empty (Sl.mk [] (some [])) (Sl.mk [] (some [])) (Sl.mk [] (some [])) 0 (Sl.mk [] (some [])) (Sl.mk [] (some [])) ByteArray.empty))])) (cv ?_)
 revert h; refine bU (fun yu h => cv ?_) fun yu h => cv ?_
 refine av hΩ (dV hE) (gB ++ [(Act.mk 0 (⟨#[115, 112, 97, 114, 101]⟩ : ByteArray) (Expr.mk 0 0 ByteArray.empty (Sl.mk [] (some [])) (Sl.mk [] (some [])) (Sl.mk [] (some [])) 0 (Sl.mk [] (some [])) (Sl.mk [] (some [])) ByteArray.empty))]) fun n37 ain => cv ?_
 refine eP hΩ (dV hE) (gB ++ [(Act.mk 0 (⟨#[115, 112, 97, 114, 101]⟩ : ByteArray) (Expr.mk 0 0 ByteArray.empty (Sl.mk [] (some [])) (Sl.mk [] (some [])) (Sl.mk [] (some [])) 0 (Sl.mk [] (some [])) (Sl.mk [] (some [])) ByteArray.empty))]) [] fun l39 aio n41 aip => cv ?_
 replace h := aJ h
 obtain ⟨Kk, h⟩ := h
 refine aP Kk (cv ?_)
 replace h := aJ h
 obtain ⟨Rf, h⟩ := h
 refine aP Rf (cv ?_)
 replace h := aJ h
 obtain ⟨Kl, h⟩ := h
 refine aP Kl (cv ?_)
 refine eT hΩ (dV hE) ((gB ++ [(Act.mk 0 (⟨#[115, 112, 97, 114, 101]⟩ : ByteArray) (Expr.mk 0 0 ByteArray.empty (Sl.mk [] (some [])) (Sl.mk [] (some [])) (Sl.mk [] (some [])) 0 (Sl.mk [] (some [])) (Sl.mk [] (some [])) ByteArray.empty))]) ++ []) 0 (ln ah) fun l46 afb => cv ?_
 refine eT hΩ (dV hE) ((gB ++ [(Act.mk 0 (⟨#[115, 112, 97, 114, 101]⟩ : ByteArray) (Expr.mk 0 0 ByteArray.empty (Sl.mk [] (some [])) (Sl.mk [] (some [])) (Sl.mk [] (some [])) 0 (Sl.mk [] (some [])) (Sl.mk [] (some [])) ByteArray.empty))]) ++ []) (ln ah) (ln ((gB ++ [(Act.mk 0 (⟨#[115, 112, 97, 114, 101]⟩ : ByteArray) (Expr.mk 0 0 ByteArray.empty (Sl.mk [] (some [])) (Sl.mk [] (some [])) (Sl.mk [] (some [])) 0 (Sl.mk [] (some [])) (Sl.mk [] (some [])) ByteArray.empty))]) ++ [])) fun l48 aiq => cv ?_
 exact sp h
 refine av hΩ (dV hE) (gB ++ [(Act.mk 0 (⟨#[115, 112, 97, 114, 101]⟩ : ByteArray) (Expr.mk 0 0 ByteArray.empty (Sl.mk [] (some [])) (Sl.mk [] (some [])) (Sl.mk [] (some [])) 0 (Sl.mk [] (some [])) (Sl.mk [] (some [])) ByteArray.empty))]) fun n50 afc => cv ?_
 replace h := aJ h
 obtain ⟨EK, h⟩ := h
 refine aP EK (cv ?_)
 replace h := aJ h
 obtain ⟨Rh, h⟩ := h
 refine aP Rh (cv ?_)
 replace h := aJ h
 obtain ⟨Km, h⟩ := h
 refine aP Km (cv ?_)
 refine eT hΩ (dV hE) (gB ++ [(Act.mk 0 (⟨#[115, 112, 97, 114, 101]⟩ : ByteArray) (Expr.mk 0 0 ByteArray.empty (Sl.mk [] (some [])) (Sl.mk [] (some [])) (Sl.mk [] (some [])) 0 (Sl.mk [] (some [])) (Sl.mk [] (some [])) ByteArray.empty))]) 0 (ln ah) fun l55 air => cv ?_
 exact sp h
set_option maxHeartbeats 4000000 in
theorem aqv {p36 : (Sl Act) → Option ((Sl Act))} (aiu : H36 Ω E p36) {p65 : Act → Option (Act)} (aiv : H65 Ω E p65) {K3 : Expr → Option (Expr)} (aff : H86 Ω E K3) {Me : (Sl Expr) → Option ((Sl Expr))} (aag : H98 Ω E Me) {a0 : Act} {r : Act} (h : acO fu p36 p65 K3 Me a0 = some r) {args : List PV} (ha : [nS E a0] = args) (st : St) :
 Sat (Ω.cf 65 args st) (fun q => q = (nS E r, st)) := by
 subst ha
 rcases a0 with ⟨aD, aO, ⟨cu, cB, cK, ⟨bA, bB⟩, ⟨bC, bE⟩, ⟨Eo, Ep⟩, cO, ⟨Er, Es⟩, ⟨Et, Eu⟩, Mf⟩⟩
 rw [aR hΩ (f := 65) (fn := Tryz.f65) (x := c65) rfl rfl akY rfl rfl rfl]
 unfold acO at h
 try dsimp only at h
 conv => arg 1; cbv
 replace h := aW h
 obtain ⟨⟨Tj, Tk, Tm, ⟨FC, FD⟩, ⟨FE, FH⟩, ⟨ajp, ajq⟩, Tn, ⟨ajr, ajs⟩, ⟨ajt, aju⟩, apR⟩, hx2, h⟩ := h
 try dsimp only at h
 refine aH (aff hx2) (cv ?_)
 refine sat_true (iI hΩ _) (cv ?_)
 exact sp h
set_option maxHeartbeats 4000000 in
theorem aqw {p36 : (Sl Act) → Option ((Sl Act))} (aiu : H36 Ω E p36) {p65 : Act → Option (Act)} (aiv : H65 Ω E p65) {K3 : Expr → Option (Expr)} (aff : H86 Ω E K3) {Me : (Sl Expr) → Option ((Sl Expr))} (aag : H98 Ω E Me) {a0 : Expr} {r : Expr} (h : agU fu p36 p65 K3 Me a0 = some r) {args : List PV} (ha : [lq E a0] = args) (st : St) :
 Sat (Ω.cf 86 args st) (fun q => q = (lq E r, st)) := by
 subst ha
 rcases a0 with ⟨aD, aO, bN, ⟨aK, aS⟩, ⟨au, aA⟩, ⟨dh, dM⟩, bT, ⟨cZ, dw⟩, ⟨Mg, Mh⟩, eH⟩
 rw [aR hΩ (f := 86) (fn := Tryz.f86) (x := c86) rfl rfl ak5 rfl rfl rfl]
 unfold agU at h
 try dsimp only at h
 conv => arg 1; cbv
 replace h := aW h
 obtain ⟨⟨wV, wW⟩, hx2, h⟩ := h
 try dsimp only at h
 refine aH (aag hx2) (cv ?_)
 refine sat_true (iI hΩ _) (cv ?_)
 replace h := aW h
 obtain ⟨⟨Cq, Cr⟩, hx4, h⟩ := h
 try dsimp only at h
 refine aH (ar6 hΩ hE hx4) (cv ?_)
 refine sat_true (iI hΩ _) (cv ?_)
 refine aj hΩ (cv ?_)
 replace h := aW h
 obtain ⟨⟨acP, acQ⟩, hx6, h⟩ := h
 try dsimp only at h
 refine aH (aag hx6) (cv ?_)
 refine sat_true (iI hΩ _) (cv ?_)
 replace h := aW h
 obtain ⟨⟨acR, acS⟩, AY, h⟩ := h
 try dsimp only at h
 refine aH (aag AY) (cv ?_)
 refine sat_true (iI hΩ _) (cv ?_)
 replace h := aW h
 obtain ⟨⟨acT, acU⟩, EO, h⟩ := h
 try dsimp only at h
 refine aH (aiu EO) (cv ?_)
 refine sat_true (iI hΩ _) (cv ?_)
 refine aj hΩ (cv ?_)
 exact sp h
set_option maxHeartbeats 4000000 in
theorem aqx {p36 : (Sl Act) → Option ((Sl Act))} (aiu : H36 Ω E p36) {p65 : Act → Option (Act)} (aiv : H65 Ω E p65) {K3 : Expr → Option (Expr)} (aff : H86 Ω E K3) {Me : (Sl Expr) → Option ((Sl Expr))} (aag : H98 Ω E Me) {a0 : Sl Expr} {r : (Sl Expr)} (h : agV fu p36 p65 K3 Me a0 = some r) {args : List PV} (ha : [PV.d (.sl (E.dZ a0.l) (E.fB a0.x))] = args) (st : St) :
 Sat (Ω.cf 98 args st) (fun q => q = (PV.d (.sl (E.dZ r.l) (E.fB r.x)), st)) := by
 subst ha
 rcases a0 with ⟨ah, aY⟩
 rw [aR hΩ (f := 98) (fn := Tryz.f98) (x := c98) rfl rfl alb rfl rfl rfl]
 unfold agV at h
 try dsimp only at h
 conv => arg 1; cbv
 refine av hΩ (dU hE) ah fun n1 hn2 => cv ?_
 replace h := aJ h
 obtain ⟨AX, h⟩ := h
 refine aP AX (cv ?_)
 replace h := aJ h
 obtain ⟨vL, h⟩ := h
 refine aP vL (cv ?_)
 replace h := aJ h
 obtain ⟨nC, h⟩ := h
 refine aP nC (cv ?_)
 refine rY hΩ (dU hE) (Expr.mk 0 0 ByteArray.empty (Sl.mk [] (some [])) (Sl.mk [] (some [])) (Sl.mk [] (some [])) 0 (Sl.mk [] (some [])) (Sl.mk [] (some [])) ByteArray.empty) 0 fun l3 hl4 n5 hn6 => cv ?_
 replace h := aW h
 obtain ⟨q, uZ, h⟩ := h
 refine dL hΩ (fun (a : (List Expr) × Int) => (match a with | (l10, i11) => ([(0, PV.d (.sl (E.dZ ah) (E.fB aY))), (2, PV.d (.sl [] (some []))), (3, PV.row 0 0 (ln l10)), (4, vi i11)], ([X.Obj.row 74 10 (E.dZ l10) false (some (Ω.wrap .i64 (Ω.add n1 1)))] : List X.Obj) :: st))) (fun (q : ((List Expr) × Int)) => (match q with | (gB, OO) => (.exit 0, [(0, PV.d (.sl (E.dZ ah) (E.fB aY))), (2, PV.d (.sl [] (some []))), (3, PV.row 0 0 (ln gB)), (4, vi OO)], ([X.Obj.row 74 10 (E.dZ gB) false (some (Ω.wrap .i64 (Ω.add n1 1)))] : List X.Obj) :: st))) ((List.replicate (Int.toNat 0) (Expr.mk 0 0 ByteArray.empty (Sl.mk [] (some [])) (Sl.mk [] (some [])) (Sl.mk [] (some [])) 0 (Sl.mk [] (some [])) (Sl.mk [] (some [])) ByteArray.empty)), 0) uZ ?_ ?_
 clear h uZ
 rintro ⟨l10, i11⟩ q h
 unfold OU at h
 dsimp only at h
 obtain ⟨Ki, mO⟩ : ∃ n, ln l10 = n := ⟨_, rfl⟩
 simp only [mO]
 conv => arg 1; cbv
 refine av hΩ (dU hE) ah fun n12 ae9 => cv ?_
 refine aC hΩ (cv ?_)
 revert h; refine bU (fun nD h => cv ?_) fun nD h => cv ?_
 refine aC hΩ (cv ?_)
 refine sat_true (bg hΩ (dU hE) ah) (cv ?_)
 replace h := aW h
 obtain ⟨⟨mV, qM, Tg, ⟨I4, I5⟩, ⟨ru, rz⟩, ⟨Ab, Ac⟩, Ti, ⟨Ad, Ae⟩, ⟨acV, acW⟩, Je⟩, hx16, h⟩ := h
 try dsimp only at h
 refine aM (bG hΩ (dU hE) hx16) (cv ?_)
 replace h := aW h
 obtain ⟨⟨gN, iQ, pK, ⟨lN, lQ⟩, ⟨iR, iT⟩, ⟨lW, lX⟩, pO, ⟨lY, lZ⟩, ⟨Af, Ag⟩, pQ⟩, u6, h⟩ := h
 try dsimp only at h
 refine aH (aff u6) (cv ?_)
 refine sat_true (kL hΩ _) (cv ?_)
 refine sat_true (bg hΩ (dU hE) [(Expr.mk gN iQ pK (Sl.mk lN lQ) (Sl.mk iR iT) (Sl.mk lW lX) pO (Sl.mk lY lZ) (Sl.mk Af Ag) pQ)]) (cv ?_)
 refine sat_true (gy hΩ (dU hE) l10) (cv ?_)
 refine iH (fJ hΩ (dU hE) (l := [(Expr.mk gN iQ pK (Sl.mk lN lQ) (Sl.mk iR iT) (Sl.mk lW lX) pO (Sl.mk lY lZ) (Sl.mk Af Ag) pQ)]) (b := false) (by rfl)) (cv ?_)
 refine eP hΩ (dU hE) l10 [(Expr.mk gN iQ pK (Sl.mk lN lQ) (Sl.mk iR iT) (Sl.mk lW lX) pO (Sl.mk lY lZ) (Sl.mk Af Ag) pQ)] fun l19 aij n21 aik => cv ?_
 replace h := aJ h
 obtain ⟨yj, h⟩ := h
 refine aP yj (cv ?_)
 replace h := aJ h
 obtain ⟨yt, h⟩ := h
 refine aP yt (cv ?_)
 obtain rfl := fV h
 subst_vars
 exact s3
 obtain rfl := fV h
 subst_vars
 exact sL
 clear uZ
 rcases q with ⟨gB, OO⟩
 dsimp only at h
 obtain ⟨Ra, oU⟩ : ∃ n, ln gB = n := ⟨_, rfl⟩
 simp only [oU]
 conv => arg 1; cbv
 refine aC hΩ (cv ?_)
 refine sat_true (kL hΩ _) (cv ?_)
 refine sat_true (bg hΩ (dU hE) [(Expr.mk 0 0 (⟨#[115, 112, 97, 114, 101]⟩ : ByteArray) (Sl.mk [] (some [])) (Sl.mk [] (some [])) (Sl.mk [] (some [])) 0 (Sl.mk [] (some [])) (Sl.mk [] (some [])) ByteArray.empty)]) (cv ?_)
 refine sat_true (gy hΩ (dU hE) gB) (cv ?_)
 refine iH (fJ hΩ (dU hE) (l := [(Expr.mk 0 0 (⟨#[115, 112, 97, 114, 101]⟩ : ByteArray) (Sl.mk [] (some [])) (Sl.mk [] (some [])) (Sl.mk [] (some [])) 0 (Sl.mk [] (some [])) (Sl.mk [] (some [])) ByteArray.empty)]) (b := false) (by rfl)) (cv ?_)
 refine eP hΩ (dU hE) gB [(Expr.mk 0 0 (⟨#[115, 112, 97, 114, 101]⟩ : ByteArray) (Sl.mk [] (some [])) (Sl.mk [] (some [])) (Sl.mk [] (some [])) 0 (Sl.mk [] (some [])) (Sl.mk [] (some [])) ByteArray.empty)] fun l28 ail n30 afa => cv ?_
 replace h := aJ h
 obtain ⟨Kj, h⟩ := h
 refine aP Kj (cv ?_)
 replace h := aJ h
 obtain ⟨EJ, h⟩ := h
 refine aP EJ (cv ?_)
 refine av hΩ (dU hE) ah fun n34 Rb => cv ?_
 refine sat_true (gy hΩ (dU hE) (gB ++ [(Expr.mk 0 0 (⟨#[115, 112, 97, 114, 101]⟩ : ByteArray) (Sl.mk [] (some [])) (Sl.mk [] (some [])) (Sl.mk [] (some [])) 0 (Sl.mk [] (some [])) (Sl.mk [] (some [])) ByteArray.empty)])) (cv ?_)
 revert h; refine bU (fun yu h => cv ?_) fun yu h => cv ?_
 refine av hΩ (dU hE) (gB ++ [(Expr.mk 0 0 (⟨#[115, 112, 97, 114, 101]⟩ : ByteArray) (Sl.mk [] (some [])) (Sl.mk [] (some [])) (Sl.mk [] (some [])) 0 (Sl.mk [] (some [])) (Sl.mk [] (some [])) ByteArray.empty)]) fun n37 ain => cv ?_
 refine eP hΩ (dU hE) (gB ++ [(Expr.mk 0 0 (⟨#[115, 112, 97, 114, 101]⟩ : ByteArray) (Sl.mk [] (some [])) (Sl.mk [] (some [])) (Sl.mk [] (some [])) 0 (Sl.mk [] (some [])) (Sl.mk [] (some [])) ByteArray.empty)]) [] fun l39 aio n41 aip => cv ?_
 replace h := aJ h
 obtain ⟨Kk, h⟩ := h
 refine aP Kk (cv ?_)
 replace h := aJ h
 obtain ⟨Rf, h⟩ := h
 refine aP Rf (cv ?_)
 replace h := aJ h
 obtain ⟨Kl, h⟩ := h
 refine aP Kl (cv ?_)
 refine eT hΩ (dU hE) ((gB ++ [(Expr.mk 0 0 (⟨#[115, 112, 97, 114, 101]⟩ : ByteArray) (Sl.mk [] (some [])) (Sl.mk [] (some [])) (Sl.mk [] (some [])) 0 (Sl.mk [] (some [])) (Sl.mk [] (some [])) ByteArray.empty)]) ++ []) 0 (ln ah) fun l46 afb => cv ?_
 refine eT hΩ (dU hE) ((gB ++ [(Expr.mk 0 0 (⟨#[115, 112, 97, 114, 101]⟩ : ByteArray) (Sl.mk [] (some [])) (Sl.mk [] (some [])) (Sl.mk [] (some [])) 0 (Sl.mk [] (some [])) (Sl.mk [] (some [])) ByteArray.empty)]) ++ []) (ln ah) (ln ((gB ++ [(Expr.mk 0 0 (⟨#[115, 112, 97, 114, 101]⟩ : ByteArray) (Sl.mk [] (some [])) (Sl.mk [] (some [])) (Sl.mk [] (some [])) 0 (Sl.mk [] (some [])) (Sl.mk [] (some [])) ByteArray.empty)]) ++ [])) fun l48 aiq => cv ?_
 exact sp h
 refine av hΩ (dU hE) (gB ++ [(Expr.mk 0 0 (⟨#[115, 112, 97, 114, 101]⟩ : ByteArray) (Sl.mk [] (some [])) (Sl.mk [] (some [])) (Sl.mk [] (some [])) 0 (Sl.mk [] (some [])) (Sl.mk [] (some [])) ByteArray.empty)]) fun n50 afc => cv ?_
 replace h := aJ h
 obtain ⟨EK, h⟩ := h
 refine aP EK (cv ?_)
 replace h := aJ h
 obtain ⟨Rh, h⟩ := h
 refine aP Rh (cv ?_)
 replace h := aJ h
 obtain ⟨Km, h⟩ := h
 refine aP Km (cv ?_)
 refine eT hΩ (dU hE) (gB ++ [(Expr.mk 0 0 (⟨#[115, 112, 97, 114, 101]⟩ : ByteArray) (Sl.mk [] (some [])) (Sl.mk [] (some [])) (Sl.mk [] (some [])) 0 (Sl.mk [] (some [])) (Sl.mk [] (some [])) ByteArray.empty)]) 0 (ln ah) fun l55 air => cv ?_
 exact sp h
theorem aqy : ∀ fu,
 (∀ {a0 : Sl Act} {r : (Sl Act)}, P36 fu a0 = some r → ∀ {args : List PV}, [PV.d (.sl (E.fD a0.l) (E.gq a0.x))] = args → ∀ (st : St), Sat (Ω.cf 36 args st) (fun q => q = (PV.d (.sl (E.fD r.l) (E.gq r.x)), st))) ∧
 (∀ {a0 : Act} {r : Act}, P65 fu a0 = some r → ∀ {args : List PV}, [nS E a0] = args → ∀ (st : St), Sat (Ω.cf 65 args st) (fun q => q = (nS E r, st))) ∧
 (∀ {a0 : Expr} {r : Expr}, P86 fu a0 = some r → ∀ {args : List PV}, [lq E a0] = args → ∀ (st : St), Sat (Ω.cf 86 args st) (fun q => q = (lq E r, st))) ∧
 (∀ {a0 : Sl Expr} {r : (Sl Expr)}, P98 fu a0 = some r → ∀ {args : List PV}, [PV.d (.sl (E.dZ a0.l) (E.fB a0.x))] = args → ∀ (st : St), Sat (Ω.cf 98 args st) (fun q => q = (PV.d (.sl (E.dZ r.l) (E.fB r.x)), st))) := by
 intro fu
 induction fu with
 | zero => exact ⟨(fun h => (by cases h)), (fun h => (by cases h)), (fun h => (by cases h)), (fun h => (by cases h))⟩
 | succ fu ih =>
  obtain ⟨i36, i65, i86, i98⟩ := ih
  exact ⟨(fun h => @fun args ha st => aqu (fu := fu) hΩ hE i36 i65 i86 i98 h ha st), (fun h => @fun args ha st => aqv (fu := fu) hΩ hE i36 i65 i86 i98 h ha st), (fun h => @fun args ha st => aqw (fu := fu) hΩ hE i36 i65 i86 i98 h ha st), (fun h => @fun args ha st => aqx (fu := fu) hΩ hE i36 i65 i86 i98 h ha st)⟩
theorem anE : ∀ {a0 : Sl Act} {r : (Sl Act)}, P36 fu a0 = some r → ∀ {args : List PV}, [PV.d (.sl (E.fD a0.l) (E.gq a0.x))] = args → ∀ (st : St), Sat (Ω.cf 36 args st) (fun q => q = (PV.d (.sl (E.fD r.l) (E.gq r.x)), st)) := (aqy hΩ hE fu).1
set_option maxHeartbeats 4000000 in
theorem ok16 {a0 : Cell} {r : Cell} (h : P16 fu a0 = some r) {args : List PV} (ha : [jA E a0] = args) (st : St) :
 Sat (Ω.cf 16 args st) (fun q => q = (jA E r, st)) := by
 subst ha
 rcases a0 with ⟨aD, aO, ⟨cu, cB, cK, ⟨bA, bB⟩, ⟨bC, bE⟩, dz, cO, dA⟩, ⟨dD, dF, dG, ⟨bH, bI⟩, ⟨bJ, bK⟩, dH, dI, dJ⟩, ⟨au, aA⟩, ⟨dh, dM⟩, ⟨dN, dP⟩, ⟨cZ, dw⟩, eX, eH, ⟨dK, dQ⟩, ⟨dn, dO⟩⟩
 rw [aR hΩ (f := 16) (fn := Tryz.f16) (x := c16) rfl rfl akE rfl rfl rfl]
 unfold P16 at h
 try dsimp only at h
 conv => arg 1; cbv
 replace h := aW h
 obtain ⟨⟨Tj, Tk, Tm, ⟨FC, FD⟩, ⟨FE, FH⟩, acL, Tn, acM⟩, hx2, h⟩ := h
 try dsimp only at h
 refine aH (aqs hΩ hE hx2) (cv ?_)
 refine sat_true (iI hΩ _) (cv ?_)
 replace h := aW h
 obtain ⟨⟨apS, apT, apU, ⟨ajv, ajw⟩, ⟨ajx, ajy⟩, apV, apW, apX⟩, hx4, h⟩ := h
 try dsimp only at h
 refine aH (aqs hΩ hE hx4) (cv ?_)
 refine sat_true (iI hΩ _) (cv ?_)
 refine aj hΩ (cv ?_)
 replace h := aW h
 obtain ⟨⟨acP, acQ⟩, hx6, h⟩ := h
 try dsimp only at h
 refine aH (ar5 hΩ hE hx6) (cv ?_)
 refine sat_true (iI hΩ _) (cv ?_)
 replace h := aW h
 obtain ⟨⟨acR, acS⟩, AY, h⟩ := h
 try dsimp only at h
 refine aH (anE hΩ hE AY) (cv ?_)
 refine sat_true (iI hΩ _) (cv ?_)
 replace h := aW h
 obtain ⟨⟨acT, acU⟩, EO, h⟩ := h
 try dsimp only at h
 refine aH (anE hΩ hE EO) (cv ?_)
 refine sat_true (iI hΩ _) (cv ?_)
 replace h := aW h
 obtain ⟨⟨FI, FJ⟩, AZ, h⟩ := h
 try dsimp only at h
 refine aH (aqt hΩ hE AZ) (cv ?_)
 refine sat_true (iI hΩ _) (cv ?_)
 refine aj hΩ (cv ?_)
 replace h := aW h
 obtain ⟨⟨ajz, ajA⟩, EP, h⟩ := h
 try dsimp only at h
 refine aH (anE hΩ hE EP) (cv ?_)
 refine sat_true (iI hΩ _) (cv ?_)
 replace h := aW h
 obtain ⟨⟨ajB, ajC⟩, hx16, h⟩ := h
 try dsimp only at h
 refine aH (aqt hΩ hE hx16) (cv ?_)
 refine sat_true (iI hΩ _) (cv ?_)
 exact sp h
set_option maxHeartbeats 4000000 in
theorem ok4 {a0 : Sl Cell} {r : (Sl Cell)} (h : P4 fu a0 = some r) {args : List PV} (ha : [PV.d (.sl (E.bM a0.l) (E.bX a0.x))] = args) (st : St) :
 Sat (Ω.cf 4 args st) (fun q => q = (PV.d (.sl (E.bM r.l) (E.bX r.x)), st)) := by
 subst ha
 rcases a0 with ⟨ah, aY⟩
 rw [aR hΩ (f := 4) (fn := Tryz.f4) (x := c4) rfl rfl apC rfl rfl rfl]
 unfold P4 at h
 try dsimp only at h
 conv => arg 1; cbv
 refine av hΩ (aV hE) ah fun n1 hn2 => cv ?_
 replace h := aJ h
 obtain ⟨AX, h⟩ := h
 refine aP AX (cv ?_)
 replace h := aJ h
 obtain ⟨vL, h⟩ := h
 refine aP vL (cv ?_)
 replace h := aJ h
 obtain ⟨nC, h⟩ := h
 refine aP nC (cv ?_)
 refine rY hΩ (aV hE) (Cell.mk 0 ByteArray.empty (Value.mk 0 0 ByteArray.empty (Sl.mk [] (some [])) (Sl.mk [] (some [])) 0 ByteArray.empty false) (Value.mk 0 0 ByteArray.empty (Sl.mk [] (some [])) (Sl.mk [] (some [])) 0 ByteArray.empty false) (Sl.mk [] (some [])) (Sl.mk [] (some [])) (Sl.mk [] (some [])) (Sl.mk [] (some [])) false false (Sl.mk [] (some [])) (Sl.mk [] (some []))) 0 fun l3 hl4 n5 hn6 => cv ?_
 replace h := aW h
 obtain ⟨q, uZ, h⟩ := h
 refine dL hΩ (fun (a : (List Cell) × Int) => (match a with | (l10, i11) => ([(0, PV.d (.sl (E.bM ah) (E.bX aY))), (2, PV.d (.sl [] (some []))), (3, PV.row 0 0 (ln l10)), (4, vi i11)], ([X.Obj.row 40 26 (E.bM l10) false (some (Ω.wrap .i64 (Ω.add n1 1)))] : List X.Obj) :: st))) (fun (q : ((List Cell) × Int)) => (match q with | (gB, OO) => (.exit 0, [(0, PV.d (.sl (E.bM ah) (E.bX aY))), (2, PV.d (.sl [] (some []))), (3, PV.row 0 0 (ln gB)), (4, vi OO)], ([X.Obj.row 40 26 (E.bM gB) false (some (Ω.wrap .i64 (Ω.add n1 1)))] : List X.Obj) :: st))) ((List.replicate (Int.toNat 0) (Cell.mk 0 ByteArray.empty (Value.mk 0 0 ByteArray.empty (Sl.mk [] (some [])) (Sl.mk [] (some [])) 0 ByteArray.empty false) (Value.mk 0 0 ByteArray.empty (Sl.mk [] (some [])) (Sl.mk [] (some [])) 0 ByteArray.empty false) (Sl.mk [] (some [])) (Sl.mk [] (some [])) (Sl.mk [] (some [])) (Sl.mk [] (some [])) false false (Sl.mk [] (some [])) (Sl.mk [] (some [])))), 0) uZ ?_ ?_
 clear h uZ
 rintro ⟨l10, i11⟩ q h
 unfold XH at h
 dsimp only at h
 obtain ⟨Ki, mO⟩ : ∃ n, ln l10 = n := ⟨_, rfl⟩
 simp only [mO]
 conv => arg 1; cbv
 refine av hΩ (aV hE) ah fun n12 ae9 => cv ?_
 refine aC hΩ (cv ?_)
 revert h; refine bU (fun nD h => cv ?_) fun nD h => cv ?_
 refine aC hΩ (cv ?_)
 refine sat_true (bg hΩ (aV hE) ah) (cv ?_)
 replace h := aW h
 obtain ⟨⟨mV, qM, ⟨zX, zY, zZ, ⟨uf, ug⟩, ⟨uh, uj⟩, OV, z8, OW⟩, ⟨OX, OY, OZ, ⟨Gl, Gm⟩, ⟨Gn, Gp⟩, O1, O4, O5⟩, ⟨ru, rz⟩, ⟨Ab, Ac⟩, ⟨O6, O7⟩, ⟨Ad, Ae⟩, XI, Je, ⟨O8, O9⟩, ⟨Pb, Pf⟩⟩, hx16, h⟩ := h
 try dsimp only at h
 refine aM (bG hΩ (aV hE) hx16) (cv ?_)
 replace h := aW h
 obtain ⟨⟨gN, iQ, ⟨lS, lT, lU, ⟨jB, jC⟩, ⟨jD, jE⟩, Ah, lV, Ai⟩, ⟨Aj, Ak, Al, ⟨uD, uE⟩, ⟨uF, uG⟩, Am, Ao, Ap⟩, ⟨iR, iT⟩, ⟨lW, lX⟩, ⟨Aq, Ar⟩, ⟨lY, lZ⟩, Jf, pQ, ⟨Au, Av⟩, ⟨Aw, Ay⟩⟩, u6, h⟩ := h
 try dsimp only at h
 refine aH (ok16 hΩ hE u6) (cv ?_)
 refine sat_true (kL hΩ _) (cv ?_)
 refine sat_true (bg hΩ (aV hE) [(Cell.mk gN iQ (Value.mk lS lT lU (Sl.mk jB jC) (Sl.mk jD jE) Ah lV Ai) (Value.mk Aj Ak Al (Sl.mk uD uE) (Sl.mk uF uG) Am Ao Ap) (Sl.mk iR iT) (Sl.mk lW lX) (Sl.mk Aq Ar) (Sl.mk lY lZ) Jf pQ (Sl.mk Au Av) (Sl.mk Aw Ay))]) (cv ?_)
 refine sat_true (gy hΩ (aV hE) l10) (cv ?_)
 refine iH (fJ hΩ (aV hE) (l := [(Cell.mk gN iQ (Value.mk lS lT lU (Sl.mk jB jC) (Sl.mk jD jE) Ah lV Ai) (Value.mk Aj Ak Al (Sl.mk uD uE) (Sl.mk uF uG) Am Ao Ap) (Sl.mk iR iT) (Sl.mk lW lX) (Sl.mk Aq Ar) (Sl.mk lY lZ) Jf pQ (Sl.mk Au Av) (Sl.mk Aw Ay))]) (b := false) (by rfl)) (cv ?_)
 refine eP hΩ (aV hE) l10 [(Cell.mk gN iQ (Value.mk lS lT lU (Sl.mk jB jC) (Sl.mk jD jE) Ah lV Ai) (Value.mk Aj Ak Al (Sl.mk uD uE) (Sl.mk uF uG) Am Ao Ap) (Sl.mk iR iT) (Sl.mk lW lX) (Sl.mk Aq Ar) (Sl.mk lY lZ) Jf pQ (Sl.mk Au Av) (Sl.mk Aw Ay))] fun l19 aij n21 aik => cv ?_
 replace h := aJ h
 obtain ⟨yj, h⟩ := h
 refine aP yj (cv ?_)
 replace h := aJ h
 obtain ⟨yt, h⟩ := h
 refine aP yt (cv ?_)
 obtain rfl := fV h
 subst_vars
 exact s3
 obtain rfl := fV h
 subst_vars
 exact sL
 clear uZ
 rcases q with ⟨gB, OO⟩
 dsimp only at h
 obtain ⟨Ra, oU⟩ : ∃ n, ln gB = n := ⟨_, rfl⟩
 simp only [oU]
 conv => arg 1; cbv
 refine aC hΩ (cv ?_)
 refine sat_true (kL hΩ _) (cv ?_)
 refine sat_true (bg hΩ (aV hE) [(Cell.mk 0 (⟨#[115, 112, 97, 114, 101]⟩ : ByteArray) (Value.mk 0 0 ByteArray.empty (Sl.mk [] (some [])) (Sl.mk [] (some [])) 0 ByteArray.empty false) (Value.mk 0 0 ByteArray.empty (Sl.mk [] (some [])) (Sl.mk [] (some [])) 0 ByteArray.empty false) (Sl.mk [] (some [])) (Sl.mk [] (some [])) (Sl.mk [] (some [])) (Sl.mk [] (some [])) false false (Sl.mk [] (some [])) (Sl.mk [] (some [])))]) (cv ?_)
 refine sat_true (gy hΩ (aV hE) gB) (cv ?_)
 refine iH (fJ hΩ (aV hE) (l := [(Cell.mk 0 (⟨#[115, 112, 97, 114, 101]⟩ : ByteArray) (Value.mk 0 0 ByteArray.empty (Sl.mk [] (some [])) (Sl.mk [] (some [])) 0 ByteArray.empty false) (Value.mk 0 0 ByteArray.empty (Sl.mk [] (some [])) (Sl.mk [] (some [])) 0 ByteArray.empty false) (Sl.mk [] (some [])) (Sl.mk [] (some [])) (Sl.mk [] (some [])) (Sl.mk [] (some [])) false false (Sl.mk [] (some [])) (Sl.mk [] (some [])))]) (b := false) (by rfl)) (cv ?_)
 refine eP hΩ (aV hE) gB [(Cell.mk 0 (⟨#[115, 112, 97, 114, 101]⟩ : ByteArray) (Value.mk 0 0 ByteArray.empty (Sl.mk [] (some [])) (Sl.mk [] (some [])) 0 ByteArray.empty false) (Value.mk 0 0 ByteArray.empty (Sl.mk [] (some [])) (Sl.mk [] (some [])) 0 ByteArray.empty false) (Sl.mk [] (some [])) (Sl.mk [] (some [])) (Sl.mk [] (some [])) (Sl.mk [] (some [])) false false (Sl.mk [] (some [])) (Sl.mk [] (some [])))] fun l28 ail n30 afa => cv ?_
 replace h := aJ h
 obtain ⟨Kj, h⟩ := h
 refine aP Kj (cv ?_)
 replace h := aJ h
 obtain ⟨EJ, h⟩ := h
 refine aP EJ (cv ?_)
 refine av hΩ (aV hE) ah fun n34 Rb => cv ?_
 refine sat_true (gy hΩ (aV hE) (gB ++ [(Cell.mk 0 (⟨#[115, 112, 97, 114, 101]⟩ : ByteArray) (Value.mk 0 0 ByteArray.empty (Sl.mk [] (some [])) (Sl.mk [] (some [])) 0 ByteArray.empty false) (Value.mk 0 0 ByteArray.empty (Sl.mk [] (some [])) (Sl.mk [] (some [])) 0 ByteArray.empty false) (Sl.mk [] (some [])) (Sl.mk [] (some [])) (Sl.mk [] (some [])) (Sl.mk [] (some [])) false false (Sl.mk [] (some [])) (Sl.mk [] (some [])))])) (cv ?_)
 revert h; refine bU (fun yu h => cv ?_) fun yu h => cv ?_
 refine av hΩ (aV hE) (gB ++ [(Cell.mk 0 (⟨#[115, 112, 97, 114, 101]⟩ : ByteArray) (Value.mk 0 0 ByteArray.empty (Sl.mk [] (some [])) (Sl.mk [] (some [])) 0 ByteArray.empty false) (Value.mk 0 0 ByteArray.empty (Sl.mk [] (some [])) (Sl.mk [] (some [])) 0 ByteArray.empty false) (Sl.mk [] (some [])) (Sl.mk [] (some [])) (Sl.mk [] (some [])) (Sl.mk [] (some [])) false false (Sl.mk [] (some [])) (Sl.mk [] (some [])))]) fun n37 ain => cv ?_
 refine eP hΩ (aV hE) (gB ++ [(Cell.mk 0 (⟨#[115, 112, 97, 114, 101]⟩ : ByteArray) (Value.mk 0 0 ByteArray.empty (Sl.mk [] (some [])) (Sl.mk [] (some [])) 0 ByteArray.empty false) (Value.mk 0 0 ByteArray.empty (Sl.mk [] (some [])) (Sl.mk [] (some [])) 0 ByteArray.empty false) (Sl.mk [] (some [])) (Sl.mk [] (some [])) (Sl.mk [] (some [])) (Sl.mk [] (some [])) false false (Sl.mk [] (some [])) (Sl.mk [] (some [])))]) [] fun l39 aio n41 aip => cv ?_
 replace h := aJ h
 obtain ⟨Kk, h⟩ := h
 refine aP Kk (cv ?_)
 replace h := aJ h
 obtain ⟨Rf, h⟩ := h
 refine aP Rf (cv ?_)
 replace h := aJ h
 obtain ⟨Kl, h⟩ := h
 refine aP Kl (cv ?_)
 refine eT hΩ (aV hE) ((gB ++ [(Cell.mk 0 (⟨#[115, 112, 97, 114, 101]⟩ : ByteArray) (Value.mk 0 0 ByteArray.empty (Sl.mk [] (some [])) (Sl.mk [] (some [])) 0 ByteArray.empty false) (Value.mk 0 0 ByteArray.empty (Sl.mk [] (some [])) (Sl.mk [] (some [])) 0 ByteArray.empty false) (Sl.mk [] (some [])) (Sl.mk [] (some [])) (Sl.mk [] (some [])) (Sl.mk [] (some [])) false false (Sl.mk [] (some [])) (Sl.mk [] (some [])))]) ++ []) 0 (ln ah) fun l46 afb => cv ?_
 refine eT hΩ (aV hE) ((gB ++ [(Cell.mk 0 (⟨#[115, 112, 97, 114, 101]⟩ : ByteArray) (Value.mk 0 0 ByteArray.empty (Sl.mk [] (some [])) (Sl.mk [] (some [])) 0 ByteArray.empty false) (Value.mk 0 0 ByteArray.empty (Sl.mk [] (some [])) (Sl.mk [] (some [])) 0 ByteArray.empty false) (Sl.mk [] (some [])) (Sl.mk [] (some [])) (Sl.mk [] (some [])) (Sl.mk [] (some [])) false false (Sl.mk [] (some [])) (Sl.mk [] (some [])))]) ++ []) (ln ah) (ln ((gB ++ [(Cell.mk 0 (⟨#[115, 112, 97, 114, 101]⟩ : ByteArray) (Value.mk 0 0 ByteArray.empty (Sl.mk [] (some [])) (Sl.mk [] (some [])) 0 ByteArray.empty false) (Value.mk 0 0 ByteArray.empty (Sl.mk [] (some [])) (Sl.mk [] (some [])) 0 ByteArray.empty false) (Sl.mk [] (some [])) (Sl.mk [] (some [])) (Sl.mk [] (some [])) (Sl.mk [] (some [])) false false (Sl.mk [] (some [])) (Sl.mk [] (some [])))]) ++ [])) fun l48 aiq => cv ?_
 exact sp h
 refine av hΩ (aV hE) (gB ++ [(Cell.mk 0 (⟨#[115, 112, 97, 114, 101]⟩ : ByteArray) (Value.mk 0 0 ByteArray.empty (Sl.mk [] (some [])) (Sl.mk [] (some [])) 0 ByteArray.empty false) (Value.mk 0 0 ByteArray.empty (Sl.mk [] (some [])) (Sl.mk [] (some [])) 0 ByteArray.empty false) (Sl.mk [] (some [])) (Sl.mk [] (some [])) (Sl.mk [] (some [])) (Sl.mk [] (some [])) false false (Sl.mk [] (some [])) (Sl.mk [] (some [])))]) fun n50 afc => cv ?_
 replace h := aJ h
 obtain ⟨EK, h⟩ := h
 refine aP EK (cv ?_)
 replace h := aJ h
 obtain ⟨Rh, h⟩ := h
 refine aP Rh (cv ?_)
 replace h := aJ h
 obtain ⟨Km, h⟩ := h
 refine aP Km (cv ?_)
 refine eT hΩ (aV hE) (gB ++ [(Cell.mk 0 (⟨#[115, 112, 97, 114, 101]⟩ : ByteArray) (Value.mk 0 0 ByteArray.empty (Sl.mk [] (some [])) (Sl.mk [] (some [])) 0 ByteArray.empty false) (Value.mk 0 0 ByteArray.empty (Sl.mk [] (some [])) (Sl.mk [] (some [])) 0 ByteArray.empty false) (Sl.mk [] (some [])) (Sl.mk [] (some [])) (Sl.mk [] (some [])) (Sl.mk [] (some [])) false false (Sl.mk [] (some [])) (Sl.mk [] (some [])))]) 0 (ln ah) fun l55 air => cv ?_
 exact sp h
set_option maxHeartbeats 4000000 in
theorem ar9 {a0 : Sl Int} {a1 : Int} {r : Int} (h : P71 fu a0 a1 = some r) {args : List PV} (ha : [PV.d (.sl (E.gI a0.l) (E.gY a0.x)), PV.d (.int .u8 a1)] = args) (st : St) :
 Sat (Ω.cf 71 args st) (fun q => q = (PV.d (.int .i64 r), st)) := by
 subst ha
 rcases a0 with ⟨ah, aY⟩
 rw [aR hΩ (f := 71) (fn := Tryz.f71) (x := c71) rfl rfl ab0 rfl rfl rfl]
 unfold P71 at h
 try dsimp only at h
 conv => arg 1; cbv
 refine av hΩ (yP hE) ah fun n1 hn2 => cv ?_
 replace h := aW h
 obtain ⟨q, hl9, h⟩ := h
 refine dL hΩ (fun (a : Int × Int) => (match a with | (i3, i4) => ([(0, PV.d (.sl (E.gI ah) (E.gY aY))), (1, PV.d (.int .u8 a1)), (4, vi i3), (7, vi n1), (8, vi i4)], nO :: st))) (fun (q : (Int × Int) ⊕ (Int × Int)) => (match q with | .inl (o10, K4) => (.exit 0, [(0, PV.d (.sl (E.gI ah) (E.gY aY))), (1, PV.d (.int .u8 a1)), (4, vi o10), (7, vi n1), (8, vi K4)], nO :: st) | .inr (wX, Ph) => (.ret, [(0, PV.d (.sl (E.gI ah) (E.gY aY))), (1, PV.d (.int .u8 a1)), (4, vi wX), (7, vi n1), (8, vi Ph)], nO :: st))) (0, 0) hl9 ?_ ?_
 clear h hl9
 rintro ⟨i3, i4⟩ q h
 unfold Pg at h
 dsimp only at h
 conv => arg 1; cbv
 refine aC hΩ (cv ?_)
 revert h; refine bU (fun hb5 h => cv ?_) fun hb5 h => cv ?_
 refine sat_true (bg hΩ (yP hE) ah) (cv ?_)
 replace h := aW h
 obtain ⟨x6, hx7, h⟩ := h
 refine aM (bG hΩ (yP hE) hx7) (cv ?_)
 refine aC hΩ (cv ?_)
 revert h; refine bU (fun vL h => cv ?_) fun vL h => cv ?_
 obtain rfl := fV h
 subst_vars
 exact sR
 obtain rfl := fV h
 subst_vars
 exact s3
 obtain rfl := fV h
 subst_vars
 exact sL
 clear hl9
 rcases q with ⟨o10, K4⟩ | ⟨wX, Ph⟩
 dsimp only at h
 conv => arg 1; cbv
 exact sp h
 dsimp only at h
 conv => arg 1; cbv
 exact sp h
set_option maxHeartbeats 4000000 in
theorem aqz {a0 : Sl Int} {a1 : Int} {r : Bool} (h : P43 fu a0 a1 = some r) {args : List PV} (ha : [PV.d (.sl (E.gI a0.l) (E.gY a0.x)), PV.d (.int .u8 a1)] = args) (st : St) :
 Sat (Ω.cf 43 args st) (fun q => q = (PV.d (.bool r), st)) := by
 subst ha
 rcases a0 with ⟨ah, aY⟩
 rw [aR hΩ (f := 43) (fn := Tryz.f43) (x := c43) rfl rfl abK rfl rfl rfl]
 unfold P43 at h
 try dsimp only at h
 conv => arg 1; cbv
 replace h := aW h
 obtain ⟨r1, hx2, h⟩ := h
 refine aH (ar9 hΩ hE hx2) (cv ?_)
 exact sp h
set_option maxHeartbeats 4000000 in
theorem anF {a0 : Cell} {a1 : ByteArray} {r : Bool} (h : XJ fu a0 a1 = some r) {args : List PV} (ha : [jA E a0, PV.bf [.str a1]] = args) (st : St) :
 Sat (Ω.cf 38 args st) (fun q => q = (PV.d (.bool r), st)) := by
 subst ha
 rcases a0 with ⟨aD, aO, ⟨cu, cB, cK, ⟨bA, bB⟩, ⟨bC, bE⟩, dz, cO, dA⟩, ⟨dD, dF, dG, ⟨bH, bI⟩, ⟨bJ, bK⟩, dH, dI, dJ⟩, ⟨au, aA⟩, ⟨dh, dM⟩, ⟨dN, dP⟩, ⟨cZ, dw⟩, eX, eH, ⟨dK, dQ⟩, ⟨dn, dO⟩⟩
 rw [aR hΩ (f := 38) (fn := Tryz.f38) (x := c38) rfl rfl abH rfl rfl rfl]
 unfold XJ at h
 try dsimp only at h
 conv => arg 1; cbv
 exact sp h
set_option maxHeartbeats 4000000 in
theorem anG {a0 : Cell} {a1 : Sl Int} {d0 : ByteArray} {S : Unit → St} {lz0 kC : Nat} (hg0 : ∀ s, X.look (S s) lz0 kC = some (X.Obj.box 47 [PV.fn 38 [.bf [.str d0]]])) {r : Bool} (h : Mi fu a0 a1 d0 = some r) {args : List PV} (ha : [jA E a0, PV.bf [.sl (E.gI a1.l) (E.gY a1.x)], PV.ptr lz0 kC 0] = args) {st : St} (hst : S () = st) :
 Sat (Ω.cf 42 args st) (fun q => q = (PV.d (.bool r), S ())) := by
 subst ha
 subst hst
 rcases a0 with ⟨aD, aO, ⟨cu, cB, cK, ⟨bA, bB⟩, ⟨bC, bE⟩, dz, cO, dA⟩, ⟨dD, dF, dG, ⟨bH, bI⟩, ⟨bJ, bK⟩, dH, dI, dJ⟩, ⟨au, aA⟩, ⟨dh, dM⟩, ⟨dN, dP⟩, ⟨cZ, dw⟩, eX, eH, ⟨dK, dQ⟩, ⟨dn, dO⟩⟩
 rcases a1 with ⟨aL, dS⟩
 rw [aR hΩ (f := 42) (fn := Tryz.f42) (x := c42) rfl rfl Vp rfl rfl rfl]
 unfold Mi at h
 try dsimp only at h
 conv => arg 1; cbv
 replace h := aW h
 obtain ⟨i6, hq7, h⟩ := h
 refine aI hΩ ((fun (q : Bool) => (match q with | i6 => ([(1, PV.bf [.sl (E.gI aL) (E.gY dS)]), (2, PV.ptr (lz0+1) kC 0), (3, PV.bf (mI E aD aO cu cB cK bA bB bC bE dz cO dA dD dF dG bH bI bJ bK dH dI dJ au aA dh dM dN dP cZ dw eX eH dK dQ dn dO)), (4, vb i6)], nO :: S ()))) i6) (fun k hk => ?_) ?_
 clear h
 have h := hq7
 clear hq7
 conv => arg 1; cbv
 replace h := aW h
 obtain ⟨r1, hx2, h⟩ := h
 refine aH (aqz hΩ hE hx2) (cv ?_)
 revert h; refine bU (fun hb3 h => cv ?_) fun hb3 h => cv ?_
 refine qJ hΩ (hg0 _) (by exact (show down.iM (lz0+1) [PV.fn 38 [.bf [.str d0]]] = [PV.fn 38 [.bf [.str d0]]] by simp only [down.iM, down, Nat.zero_add])) (cv ?_)
 replace h := aW h
 obtain ⟨r4, hx5, h⟩ := h
 refine aH (anF hΩ hE hx5) (cv ?_)
 exact fk h hk
 exact fk h hk
 clear hq7
 try dsimp only at h
 conv => arg 1; cbv
 exact sp h
set_option maxHeartbeats 4000000 in
theorem anH {a0 : Sl Cell} {d0 : Sl Int} {d1 : ByteArray} {S : Unit → St} {lz0 kC : Nat} (hg0 : ∀ s, X.look (S s) lz0 kC = some (X.Obj.box 47 [PV.fn 38 [.bf [.str d1]]])) {r : Int} (h : XK fu a0 d0 d1 = some r) {args : List PV} (ha : [PV.d (.sl (E.bM a0.l) (E.bX a0.x)), PV.fn 42 [.bf [.sl (E.gI d0.l) (E.gY d0.x)], .ptr lz0 kC 0]] = args) {st : St} (hst : S () = st) :
 Sat (Ω.cf 41 args st) (fun q => q = (PV.d (.int .i64 r), S ())) := by
 subst ha
 subst hst
 rcases a0 with ⟨ah, aY⟩
 rw [aR hΩ (f := 41) (fn := Tryz.f41) (x := c41) rfl rfl Vo rfl rfl rfl]
 unfold XK at h
 try dsimp only at h
 conv => arg 1; cbv
 refine av hΩ (aV hE) ah fun n1 hn2 => cv ?_
 replace h := aW h
 obtain ⟨q, Kn, h⟩ := h
 refine dL hΩ (fun (a : Int × Int) => (match a with | (i3, i4) => ([(0, PV.d (.sl (E.bM ah) (E.bX aY))), (1, PV.fn 42 [.bf [.sl (E.gI d0.l) (E.gY d0.x)], .ptr (lz0+1) kC 0]), (4, vi i3), (7, vi n1), (8, vi i4)], nO :: S ()))) (fun (q : (Int × Int) ⊕ (Int × Int)) => (match q with | .inl (wX, Ph) => (.exit 0, [(0, PV.d (.sl (E.bM ah) (E.bX aY))), (1, PV.fn 42 [.bf [.sl (E.gI d0.l) (E.gY d0.x)], .ptr (lz0+1) kC 0]), (4, vi wX), (7, vi n1), (8, vi Ph)], nO :: S ()) | .inr (Mj, KS) => (.ret, [(0, PV.d (.sl (E.bM ah) (E.bX aY))), (1, PV.fn 42 [.bf [.sl (E.gI d0.l) (E.gY d0.x)], .ptr (lz0+1) kC 0]), (4, vi Mj), (7, vi n1), (8, vi KS)], nO :: S ()))) (0, 0) Kn ?_ ?_
 clear h Kn
 rintro ⟨i3, i4⟩ q h
 unfold Cx at h
 dsimp only at h
 conv => arg 1; cbv
 refine aC hΩ (cv ?_)
 revert h; refine bU (fun hb5 h => cv ?_) fun hb5 h => cv ?_
 refine sat_true (bg hΩ (aV hE) ah) (cv ?_)
 replace h := aW h
 obtain ⟨⟨sj, vK, ⟨Cy, Cz, CB, ⟨uH, uI⟩, ⟨uJ, uK⟩, CG, CJ, CK⟩, ⟨CO, CP, CQ, ⟨uL, uM⟩, ⟨uN, uO⟩, CS, CU, CV⟩, ⟨mW, mX⟩, ⟨CW, CX⟩, ⟨CY, CZ⟩, ⟨C8, C9⟩, Pj, Pk, ⟨Da, Db⟩, ⟨Dc, Df⟩⟩, hx7, h⟩ := h
 try dsimp only at h
 refine aM (bG hΩ (aV hE) hx7) (cv ?_)
 replace h := aW h
 obtain ⟨r9, AY, h⟩ := h
 refine gW (anG hΩ hE (S := (fun (s : Unit) => nO :: S ())) (lz0 := (lz0+1)) (kC := kC) (fun s => hg0 ()) AY (by (try clear h); subst_vars; rfl) (by (try clear h); subst_vars; rfl)) (cv ?_)
 refine aC hΩ (cv ?_)
 revert h; refine bU (fun jo h => cv ?_) fun jo h => cv ?_
 obtain rfl := fV h
 subst_vars
 exact sR
 obtain rfl := fV h
 subst_vars
 exact s3
 obtain rfl := fV h
 subst_vars
 exact sL
 clear Kn
 rcases q with ⟨wX, Ph⟩ | ⟨Mj, KS⟩
 dsimp only at h
 conv => arg 1; cbv
 exact sp h
 dsimp only at h
 conv => arg 1; cbv
 exact sp h
set_option maxHeartbeats 4000000 in
theorem anI {a0 : Sl Cell} {a2 : Sl Int} {d0 : ByteArray} {r : Int} (h : XL fu a0 a2 d0 = some r) {args : List PV} (ha : [PV.d (.sl (E.bM a0.l) (E.bX a0.x)), PV.fn 38 [.bf [.str d0]], PV.d (.sl (E.gI a2.l) (E.gY a2.x))] = args) (st : St) :
 Sat (Ω.cf 22 args st) (fun q => q = (PV.d (.int .i64 r), st)) := by
 subst ha
 rcases a0 with ⟨ah, aY⟩
 rcases a2 with ⟨acX, acY⟩
 rw [aR hΩ (f := 22) (fn := Tryz.f22) (x := c22) rfl rfl Vn rfl rfl rfl]
 unfold XL at h
 try dsimp only at h
 conv => arg 1; cbv
 replace h := aW h
 obtain ⟨r2, hx1, h⟩ := h
 refine gW (anH hΩ hE (S := (fun (s : Unit) => ([X.Obj.box 47 [.fn 38 [.bf [.str d0]]]] : List X.Obj) :: st)) (lz0 := 0) (kC := 0) (fun s => rfl) hx1 (by (try clear h); subst_vars; rfl) (by (try clear h); subst_vars; rfl)) (cv ?_)
 exact sp h
set_option maxHeartbeats 4000000 in
theorem aqA {a0 : Sl Cell} {a1 : ByteArray} {r : Int} (h : P17 fu a0 a1 = some r) {args : List PV} (ha : [PV.d (.sl (E.bM a0.l) (E.bX a0.x)), PV.d (.str a1)] = args) (st : St) :
 Sat (Ω.cf 17 args st) (fun q => q = (PV.d (.int .i64 r), st)) := by
 subst ha
 rcases a0 with ⟨ah, aY⟩
 rw [aR hΩ (f := 17) (fn := Tryz.f17) (x := c17) rfl rfl abA rfl rfl rfl]
 unfold P17 at h
 try dsimp only at h
 conv => arg 1; cbv
 replace h := aW h
 obtain ⟨r1, hx2, h⟩ := h
 refine aH (anI hΩ hE hx2) (cv ?_)
 exact sp h
set_option maxHeartbeats 4000000 in
theorem asa {a0 : Sl Value} {r : (List Value)} (h : P67 fu a0 = some r) {args : List PV} (ha : [PV.d (.sl (E.aN a0.l) (E.aU a0.x))] = args) {st : St} (hH : X.iZ st 0 = true) {n : Int} (hn : ln r = n) :
 Sat (Ω.cf 67 args st) (fun q => q = (PV.row 0 (X.fE st 0) n, X.kX st 0 (X.Obj.row 29 8 (E.aN r) true none))) := by
 subst ha
 rcases a0 with ⟨ah, aY⟩
 rw [aR hΩ (f := 67) (fn := Tryz.f67) (x := c67) rfl rfl abW rfl rfl rfl]
 unfold P67 at h
 try dsimp only at h
 conv => arg 1; cbv
 refine qK hΩ (aF hE) fun l1 hl2 => cv ?_
 refine aC hΩ (cv ?_)
 replace h := bic h
 rcases h with ⟨hb3, h⟩ | ⟨hb3, h⟩
 refine yM (fJ hΩ (aF hE) (l := ah) hb3) (cv ?_)
 obtain ⟨ha16, u7⟩ := tK h
 clear h
 refine Sz hΩ ?_ ?_
 clear u7
 have h := ha16
 clear ha16
 conv => arg 1; cbv
 refine qK hΩ (aF hE) fun l4 hl5 => cv ?_
 refine mE hΩ hH fun kk st2 hk2 hs2 => cv ?_
 exact sp h
 clear ha16
 have h := u7
 clear u7
 conv => arg 1; cbv
 replace h := aW h
 obtain ⟨Tp, A8, h⟩ := h
 refine aI hΩ ((fun (q : (List Value)) => (match q with | Tp => ([(2, PV.row 0 1 (ln Tp))], ([X.Obj.row 29 8 (E.aN l1) true none, X.Obj.row 29 8 (E.aN Tp) true none] : List X.Obj) :: st))) Tp) (fun k hk => ?_) ?_
 clear h
 have h := A8
 clear A8
 conv => arg 1; cbv
 refine qK hΩ (aF hE) fun l6 hl7 => cv ?_
 refine sat_true (kL hΩ _) (cv ?_)
 refine sat_true (bg hΩ (aF hE) ah) (cv ?_)
 refine sat_true (gy hΩ (aF hE) ([] : List Value)) (cv ?_)
 replace h := bic h
 rcases h with ⟨vL, h⟩ | ⟨vL, h⟩
 refine yM (fJ hΩ (aF hE) (l := ah) vL) (cv ?_)
 exact fk h hk
 refine iH (fJ hΩ (aF hE) (l := ah) vL) (cv ?_)
 refine eP hΩ (aF hE) ([] : List Value) ah fun l9 ER n11 asb => cv ?_
 replace h := aJ h
 obtain ⟨ES, h⟩ := h
 refine aP ES (cv ?_)
 exact fk h hk
 clear A8
 try dsimp only at h
 obtain ⟨anJ, Ri⟩ : ∃ n, ln Tp = n := ⟨_, rfl⟩
 simp only [Ri]
 conv => arg 1; cbv
 refine mE hΩ hH fun kk st2 hk2 hs2 => cv ?_
 exact sp h
 refine iH (fJ hΩ (aF hE) (l := ah) hb3) (cv ?_)
 refine aC hΩ (cv ?_)
 replace h := aW h
 obtain ⟨Ut, qj, h⟩ := h
 refine aI hΩ ((fun (q : (List Value)) => (match q with | Ut => ([(2, PV.row 0 1 (ln Ut))], ([X.Obj.row 29 8 (E.aN l1) true none, X.Obj.row 29 8 (E.aN Ut) true none] : List X.Obj) :: st))) Ut) (fun k hk => ?_) ?_
 clear h
 have h := qj
 clear qj
 conv => arg 1; cbv
 refine qK hΩ (aF hE) fun l18 Rj => cv ?_
 refine sat_true (kL hΩ _) (cv ?_)
 refine sat_true (bg hΩ (aF hE) ah) (cv ?_)
 refine sat_true (gy hΩ (aF hE) ([] : List Value)) (cv ?_)
 replace h := bic h
 rcases h with ⟨nZ, h⟩ | ⟨nZ, h⟩
 refine yM (fJ hΩ (aF hE) (l := ah) nZ) (cv ?_)
 exact fk h hk
 refine iH (fJ hΩ (aF hE) (l := ah) nZ) (cv ?_)
 refine eP hΩ (aF hE) ([] : List Value) ah fun l21 ET n23 aqB => cv ?_
 replace h := aJ h
 obtain ⟨Rk, h⟩ := h
 refine aP Rk (cv ?_)
 exact fk h hk
 clear qj
 try dsimp only at h
 obtain ⟨anK, Rl⟩ : ∃ n, ln Ut = n := ⟨_, rfl⟩
 simp only [Rl]
 conv => arg 1; cbv
 refine mE hΩ hH fun kk st2 hk2 hs2 => cv ?_
 exact sp h
set_option maxHeartbeats 4000000 in
theorem asc {a0 : Sl Field} {r : (List Field)} (h : P69 fu a0 = some r) {args : List PV} (ha : [PV.d (.sl (E.aB a0.l) (E.aG a0.x))] = args) {st : St} (hH : X.iZ st 0 = true) {n : Int} (hn : ln r = n) :
 Sat (Ω.cf 69 args st) (fun q => q = (PV.row 0 (X.fE st 0) n, X.kX st 0 (X.Obj.row 67 9 (E.aB r) true none))) := by
 subst ha
 rcases a0 with ⟨ah, aY⟩
 rw [aR hΩ (f := 69) (fn := Tryz.f69) (x := c69) rfl rfl abY rfl rfl rfl]
 unfold P69 at h
 try dsimp only at h
 conv => arg 1; cbv
 refine qK hΩ (ak hE) fun l1 hl2 => cv ?_
 refine aC hΩ (cv ?_)
 replace h := bic h
 rcases h with ⟨hb3, h⟩ | ⟨hb3, h⟩
 refine yM (fJ hΩ (ak hE) (l := ah) hb3) (cv ?_)
 obtain ⟨ha16, u7⟩ := tK h
 clear h
 refine Sz hΩ ?_ ?_
 clear u7
 have h := ha16
 clear ha16
 conv => arg 1; cbv
 refine qK hΩ (ak hE) fun l4 hl5 => cv ?_
 refine mE hΩ hH fun kk st2 hk2 hs2 => cv ?_
 exact sp h
 clear ha16
 have h := u7
 clear u7
 conv => arg 1; cbv
 replace h := aW h
 obtain ⟨Tp, A8, h⟩ := h
 refine aI hΩ ((fun (q : (List Field)) => (match q with | Tp => ([(2, PV.row 0 1 (ln Tp))], ([X.Obj.row 67 9 (E.aB l1) true none, X.Obj.row 67 9 (E.aB Tp) true none] : List X.Obj) :: st))) Tp) (fun k hk => ?_) ?_
 clear h
 have h := A8
 clear A8
 conv => arg 1; cbv
 refine qK hΩ (ak hE) fun l6 hl7 => cv ?_
 refine sat_true (kL hΩ _) (cv ?_)
 refine sat_true (bg hΩ (ak hE) ah) (cv ?_)
 refine sat_true (gy hΩ (ak hE) ([] : List Field)) (cv ?_)
 replace h := bic h
 rcases h with ⟨vL, h⟩ | ⟨vL, h⟩
 refine yM (fJ hΩ (ak hE) (l := ah) vL) (cv ?_)
 exact fk h hk
 refine iH (fJ hΩ (ak hE) (l := ah) vL) (cv ?_)
 refine eP hΩ (ak hE) ([] : List Field) ah fun l9 ER n11 asb => cv ?_
 replace h := aJ h
 obtain ⟨ES, h⟩ := h
 refine aP ES (cv ?_)
 exact fk h hk
 clear A8
 try dsimp only at h
 obtain ⟨anJ, Ri⟩ : ∃ n, ln Tp = n := ⟨_, rfl⟩
 simp only [Ri]
 conv => arg 1; cbv
 refine mE hΩ hH fun kk st2 hk2 hs2 => cv ?_
 exact sp h
 refine iH (fJ hΩ (ak hE) (l := ah) hb3) (cv ?_)
 refine aC hΩ (cv ?_)
 replace h := aW h
 obtain ⟨Ut, qj, h⟩ := h
 refine aI hΩ ((fun (q : (List Field)) => (match q with | Ut => ([(2, PV.row 0 1 (ln Ut))], ([X.Obj.row 67 9 (E.aB l1) true none, X.Obj.row 67 9 (E.aB Ut) true none] : List X.Obj) :: st))) Ut) (fun k hk => ?_) ?_
 clear h
 have h := qj
 clear qj
 conv => arg 1; cbv
 refine qK hΩ (ak hE) fun l18 Rj => cv ?_
 refine sat_true (kL hΩ _) (cv ?_)
 refine sat_true (bg hΩ (ak hE) ah) (cv ?_)
 refine sat_true (gy hΩ (ak hE) ([] : List Field)) (cv ?_)
 replace h := bic h
 rcases h with ⟨nZ, h⟩ | ⟨nZ, h⟩
 refine yM (fJ hΩ (ak hE) (l := ah) nZ) (cv ?_)
 exact fk h hk
 refine iH (fJ hΩ (ak hE) (l := ah) nZ) (cv ?_)
 refine eP hΩ (ak hE) ([] : List Field) ah fun l21 ET n23 aqB => cv ?_
 replace h := aJ h
 obtain ⟨Rk, h⟩ := h
 refine aP Rk (cv ?_)
 exact fk h hk
 clear qj
 try dsimp only at h
 obtain ⟨anK, Rl⟩ : ∃ n, ln Ut = n := ⟨_, rfl⟩
 simp only [Rl]
 conv => arg 1; cbv
 refine mE hΩ hH fun kk st2 hk2 hs2 => cv ?_
 exact sp h
set_option maxHeartbeats 4000000 in
theorem ase {a0 : Sl Value} {r : (Sl Value)} (h : P68 fu a0 = some r) {args : List PV} (ha : [PV.d (.sl (E.aN a0.l) (E.aU a0.x))] = args) (st : St) :
 Sat (Ω.cf 68 args st) (fun q => q = (PV.d (.sl (E.aN r.l) (E.aU r.x)), st)) := by
 subst ha
 rcases a0 with ⟨ah, aY⟩
 rw [aR hΩ (f := 68) (fn := Tryz.f68) (x := c68) rfl rfl abX rfl rfl rfl]
 unfold P68 at h
 try dsimp only at h
 conv => arg 1; cbv
 refine av hΩ (aF hE) ah fun n1 hn2 => cv ?_
 refine av hΩ (aF hE) ah fun n3 FP => cv ?_
 refine sat_true (wO hΩ (aF hE) ah aY) (cv ?_)
 refine av hΩ (aF hE) ah fun n5 hn6 => cv ?_
 replace h := aJ h
 obtain ⟨AX, h⟩ := h
 refine aP AX (cv ?_)
 replace h := aJ h
 obtain ⟨vL, h⟩ := h
 refine aP vL (cv ?_)
 replace h := aJ h
 obtain ⟨nC, h⟩ := h
 refine aP nC (cv ?_)
 replace h := aJ h
 obtain ⟨jo, h⟩ := h
 refine aP jo (cv ?_)
 refine eT hΩ (aF hE) ah 0 (ln ah) fun l11 hl12 => cv ?_
 refine eT hΩ (aF hE) ah (ln ah) (ln ah) fun l13 afg => cv ?_
 exact sp h
set_option maxHeartbeats 4000000 in
theorem asf {a0 : Sl Field} {r : (Sl Field)} (h : P70 fu a0 = some r) {args : List PV} (ha : [PV.d (.sl (E.aB a0.l) (E.aG a0.x))] = args) (st : St) :
 Sat (Ω.cf 70 args st) (fun q => q = (PV.d (.sl (E.aB r.l) (E.aG r.x)), st)) := by
 subst ha
 rcases a0 with ⟨ah, aY⟩
 rw [aR hΩ (f := 70) (fn := Tryz.f70) (x := c70) rfl rfl abZ rfl rfl rfl]
 unfold P70 at h
 try dsimp only at h
 conv => arg 1; cbv
 refine av hΩ (ak hE) ah fun n1 hn2 => cv ?_
 refine av hΩ (ak hE) ah fun n3 FP => cv ?_
 refine sat_true (wO hΩ (ak hE) ah aY) (cv ?_)
 refine av hΩ (ak hE) ah fun n5 hn6 => cv ?_
 replace h := aJ h
 obtain ⟨AX, h⟩ := h
 refine aP AX (cv ?_)
 replace h := aJ h
 obtain ⟨vL, h⟩ := h
 refine aP vL (cv ?_)
 replace h := aJ h
 obtain ⟨nC, h⟩ := h
 refine aP nC (cv ?_)
 replace h := aJ h
 obtain ⟨jo, h⟩ := h
 refine aP jo (cv ?_)
 refine eT hΩ (ak hE) ah 0 (ln ah) fun l11 hl12 => cv ?_
 refine eT hΩ (ak hE) ah (ln ah) (ln ah) fun l13 afg => cv ?_
 exact sp h
def H18 (Ω : Om) (E : Enc) (Pm : Value → Option (Value)) : Prop := ∀ {a0 : Value} {r : Value}, Pm a0 = some r → ∀ {args : List PV}, [aT E a0] = args → ∀ (st : St), Sat (Ω.cf 18 args st) (fun q => q = (aT E r, st))
def H39 (Ω : Om) (E : Enc) (p39 : (Sl Value) → Option ((Sl Value))) : Prop := ∀ {a0 : Sl Value} {r : (Sl Value)}, p39 a0 = some r → ∀ {args : List PV}, [PV.d (.sl (E.aN a0.l) (E.aU a0.x))] = args → ∀ (st : St), Sat (Ω.cf 39 args st) (fun q => q = (PV.d (.sl (E.aN r.l) (E.aU r.x)), st))
def H40 (Ω : Om) (E : Enc) (p40 : (Sl Field) → Option ((Sl Field))) : Prop := ∀ {a0 : Sl Field} {r : (Sl Field)}, p40 a0 = some r → ∀ {args : List PV}, [PV.d (.sl (E.aB a0.l) (E.aG a0.x))] = args → ∀ (st : St), Sat (Ω.cf 40 args st) (fun q => q = (PV.d (.sl (E.aB r.l) (E.aG r.x)), st))
set_option maxHeartbeats 4000000 in
theorem aqC {Pm : Value → Option (Value)} (aiw : H18 Ω E Pm) {p39 : (Sl Value) → Option ((Sl Value))} (anL : H39 Ω E p39) {p40 : (Sl Field) → Option ((Sl Field))} (anM : H40 Ω E p40) {a0 : Value} {r : Value} (h : agW fu Pm p39 p40 a0 = some r) {args : List PV} (ha : [aT E a0] = args) (st : St) :
 Sat (Ω.cf 18 args st) (fun q => q = (aT E r, st)) := by
 subst ha
 rcases a0 with ⟨aD, aO, bN, ⟨aK, aS⟩, ⟨au, aA⟩, bO, bT, aQ⟩
 rw [aR hΩ (f := 18) (fn := Tryz.f18) (x := c18) rfl rfl abB rfl rfl rfl]
 unfold agW at h
 try dsimp only at h
 conv => arg 1; cbv
 replace h := aW h
 obtain ⟨⟨wV, wW⟩, hx2, h⟩ := h
 try dsimp only at h
 refine aH (anL hx2) (cv ?_)
 refine sat_true (iI hΩ _) (cv ?_)
 replace h := aW h
 obtain ⟨⟨Cq, Cr⟩, hx4, h⟩ := h
 try dsimp only at h
 refine aH (anM hx4) (cv ?_)
 refine sat_true (iI hΩ _) (cv ?_)
 exact sp h
set_option maxHeartbeats 4000000 in
theorem aqD {Pm : Value → Option (Value)} (aiw : H18 Ω E Pm) {p39 : (Sl Value) → Option ((Sl Value))} (anL : H39 Ω E p39) {p40 : (Sl Field) → Option ((Sl Field))} (anM : H40 Ω E p40) {a0 : Sl Value} {r : (Sl Value)} (h : agX fu Pm p39 p40 a0 = some r) {args : List PV} (ha : [PV.d (.sl (E.aN a0.l) (E.aU a0.x))] = args) (st : St) :
 Sat (Ω.cf 39 args st) (fun q => q = (PV.d (.sl (E.aN r.l) (E.aU r.x)), st)) := by
 subst ha
 rcases a0 with ⟨ah, aY⟩
 rw [aR hΩ (f := 39) (fn := Tryz.f39) (x := c39) rfl rfl abI rfl rfl rfl]
 unfold agX at h
 try dsimp only at h
 conv => arg 1; cbv
 replace h := aW h
 obtain ⟨r2, hx1, h⟩ := h
 obtain ⟨n3, FP⟩ : ∃ n, ln r2 = n := ⟨_, rfl⟩
 refine gW (asa hΩ hE (st := nO :: st) hx1 (by (try clear h); subst_vars; rfl) rfl FP) (cv ?_)
 replace h := aW h
 obtain ⟨q, l7, h⟩ := h
 refine dL hΩ (fun (a : (List Value) × Int) => (match a with | (l5, i6) => ([(2, PV.d (.sl [] (some []))), (3, PV.row 0 0 (ln l5)), (8, vi n3), (9, vi i6)], ([X.Obj.row 29 8 (E.aN l5) true none] : List X.Obj) :: st))) (fun (q : ((List Value) × Int)) => (match q with | (rA, xu) => (.exit 0, [(2, PV.d (.sl [] (some []))), (3, PV.row 0 0 (ln rA)), (8, vi n3), (9, vi xu)], ([X.Obj.row 29 8 (E.aN rA) true none] : List X.Obj) :: st))) (r2, 0) l7 ?_ ?_
 clear h l7
 rintro ⟨l5, i6⟩ q h
 unfold Pn at h
 dsimp only at h
 obtain ⟨aqE, Ws⟩ : ∃ n, ln l5 = n := ⟨_, rfl⟩
 simp only [Ws]
 conv => arg 1; cbv
 refine aC hΩ (cv ?_)
 revert h; refine bU (fun AX h => cv ?_) fun AX h => cv ?_
 refine sat_true (gy hΩ (aF hE) l5) (cv ?_)
 replace h := aW h
 obtain ⟨⟨F8, K5, apY, ⟨ajD, ajE⟩, ⟨Dh, Di⟩, apZ, ap0, ap1⟩, Uh, h⟩ := h
 try dsimp only at h
 refine aM (bG hΩ (aF hE) Uh) (cv ?_)
 refine sat_true (gy hΩ (aF hE) l5) (cv ?_)
 refine aM (bG hΩ (aF hE) Uh) (cv ?_)
 replace h := aW h
 obtain ⟨⟨Jg, Jh, Ji, ⟨Az, AA⟩, ⟨AB, AJ⟩, Jj, Jk, Jl⟩, mP, h⟩ := h
 try dsimp only at h
 refine aH (aiw mP) (cv ?_)
 refine sat_true (gy hΩ (aF hE) l5) (cv ?_)
 replace h := aW h
 obtain ⟨⟨iX, oz, wY, ⟨pR, pU⟩, ⟨kR, kS⟩, wZ, w9, xq⟩, mQ, h⟩ := h
 try dsimp only at h
 refine aM (bG hΩ (aF hE) mQ) (cv ?_)
 refine sat_true (gy hΩ (aF hE) l5) (cv ?_)
 refine aM (bG hΩ (aF hE) mQ) (cv ?_)
 refine Xn hΩ (aF hE) l5 i6 (Value.mk Jg Jh Ji (Sl.mk Az AA) (Sl.mk AB AJ) Jj Jk Jl) fun Tp afh => cv ?_
 obtain rfl := fV h
 subst_vars
 exact s3
 obtain rfl := fV h
 subst_vars
 exact sL
 clear l7
 rcases q with ⟨rA, xu⟩
 dsimp only at h
 obtain ⟨anN, Rm⟩ : ∃ n, ln rA = n := ⟨_, rfl⟩
 simp only [Rm]
 conv => arg 1; cbv
 refine sat_true (gy hΩ (aF hE) rA) (cv ?_)
 replace h := aW h
 obtain ⟨⟨Tq, Tt⟩, afi, h⟩ := h
 try dsimp only at h
 refine aH (ase hΩ hE afi) (cv ?_)
 exact sp h
set_option maxHeartbeats 4000000 in
theorem aqF {Pm : Value → Option (Value)} (aiw : H18 Ω E Pm) {p39 : (Sl Value) → Option ((Sl Value))} (anL : H39 Ω E p39) {p40 : (Sl Field) → Option ((Sl Field))} (anM : H40 Ω E p40) {a0 : Sl Field} {r : (Sl Field)} (h : agY fu Pm p39 p40 a0 = some r) {args : List PV} (ha : [PV.d (.sl (E.aB a0.l) (E.aG a0.x))] = args) (st : St) :
 Sat (Ω.cf 40 args st) (fun q => q = (PV.d (.sl (E.aB r.l) (E.aG r.x)), st)) := by
 subst ha
 rcases a0 with ⟨ah, aY⟩
 rw [aR hΩ (f := 40) (fn := Tryz.f40) (x := c40) rfl rfl abJ rfl rfl rfl]
 unfold agY at h
 try dsimp only at h
 conv => arg 1; cbv
 replace h := aW h
 obtain ⟨r2, hx1, h⟩ := h
 obtain ⟨n3, FP⟩ : ∃ n, ln r2 = n := ⟨_, rfl⟩
 refine gW (asc hΩ hE (st := nO :: st) hx1 (by (try clear h); subst_vars; rfl) rfl FP) (cv ?_)
 replace h := aW h
 obtain ⟨q, l7, h⟩ := h
 refine dL hΩ (fun (a : (List Field) × Int) => (match a with | (l5, i6) => ([(2, PV.d (.sl [] (some []))), (3, PV.row 0 0 (ln l5)), (8, vi n3), (9, vi i6)], ([X.Obj.row 67 9 (E.aB l5) true none] : List X.Obj) :: st))) (fun (q : ((List Field) × Int)) => (match q with | (rA, xu) => (.exit 0, [(2, PV.d (.sl [] (some []))), (3, PV.row 0 0 (ln rA)), (8, vi n3), (9, vi xu)], ([X.Obj.row 67 9 (E.aB rA) true none] : List X.Obj) :: st))) (r2, 0) l7 ?_ ?_
 clear h l7
 rintro ⟨l5, i6⟩ q h
 unfold Po at h
 dsimp only at h
 obtain ⟨aqE, Ws⟩ : ∃ n, ln l5 = n := ⟨_, rfl⟩
 simp only [Ws]
 conv => arg 1; cbv
 refine aC hΩ (cv ?_)
 revert h; refine bU (fun AX h => cv ?_) fun AX h => cv ?_
 refine sat_true (gy hΩ (ak hE) l5) (cv ?_)
 replace h := aW h
 obtain ⟨⟨F8, ⟨ajF, ajG, ajH, ⟨acZ, ac0⟩, ⟨ac1, ac2⟩, ajI, ajJ, ajK⟩⟩, Uh, h⟩ := h
 try dsimp only at h
 refine aM (bG hΩ (ak hE) Uh) (cv ?_)
 refine sat_true (gy hΩ (ak hE) l5) (cv ?_)
 refine aM (bG hΩ (ak hE) Uh) (cv ?_)
 replace h := aW h
 obtain ⟨⟨Jg, Jh, Ji, ⟨Az, AA⟩, ⟨AB, AJ⟩, Jj, Jk, Jl⟩, mP, h⟩ := h
 try dsimp only at h
 refine aH (aiw mP) (cv ?_)
 refine sat_true (gy hΩ (ak hE) l5) (cv ?_)
 replace h := aW h
 obtain ⟨⟨iX, ⟨uP, uQ, uR, ⟨oK, oN⟩, ⟨oO, oP⟩, uS, uT, uU⟩⟩, mQ, h⟩ := h
 try dsimp only at h
 refine aM (bG hΩ (ak hE) mQ) (cv ?_)
 refine sat_true (gy hΩ (ak hE) l5) (cv ?_)
 refine aM (bG hΩ (ak hE) mQ) (cv ?_)
 refine Xn hΩ (ak hE) l5 i6 (Field.mk iX (Value.mk Jg Jh Ji (Sl.mk Az AA) (Sl.mk AB AJ) Jj Jk Jl)) fun Tp afh => cv ?_
 obtain rfl := fV h
 subst_vars
 exact s3
 obtain rfl := fV h
 subst_vars
 exact sL
 clear l7
 rcases q with ⟨rA, xu⟩
 dsimp only at h
 obtain ⟨anN, Rm⟩ : ∃ n, ln rA = n := ⟨_, rfl⟩
 simp only [Rm]
 conv => arg 1; cbv
 refine sat_true (gy hΩ (ak hE) rA) (cv ?_)
 replace h := aW h
 obtain ⟨⟨Tq, Tt⟩, afi, h⟩ := h
 try dsimp only at h
 refine aH (asf hΩ hE afi) (cv ?_)
 exact sp h
theorem aqG : ∀ fu,
 (∀ {a0 : Value} {r : Value}, P18 fu a0 = some r → ∀ {args : List PV}, [aT E a0] = args → ∀ (st : St), Sat (Ω.cf 18 args st) (fun q => q = (aT E r, st))) ∧
 (∀ {a0 : Sl Value} {r : (Sl Value)}, P39 fu a0 = some r → ∀ {args : List PV}, [PV.d (.sl (E.aN a0.l) (E.aU a0.x))] = args → ∀ (st : St), Sat (Ω.cf 39 args st) (fun q => q = (PV.d (.sl (E.aN r.l) (E.aU r.x)), st))) ∧
 (∀ {a0 : Sl Field} {r : (Sl Field)}, P40 fu a0 = some r → ∀ {args : List PV}, [PV.d (.sl (E.aB a0.l) (E.aG a0.x))] = args → ∀ (st : St), Sat (Ω.cf 40 args st) (fun q => q = (PV.d (.sl (E.aB r.l) (E.aG r.x)), st))) := by
 intro fu
 induction fu with
 | zero => exact ⟨(fun h => (by cases h)), (fun h => (by cases h)), (fun h => (by cases h))⟩
 | succ fu ih =>
  obtain ⟨i18, i39, i40⟩ := ih
  exact ⟨(fun h => @fun args ha st => aqC (fu := fu) hΩ hE i18 i39 i40 h ha st), (fun h => @fun args ha st => aqD (fu := fu) hΩ hE i18 i39 i40 h ha st), (fun h => @fun args ha st => aqF (fu := fu) hΩ hE i18 i39 i40 h ha st)⟩
theorem ash : ∀ {a0 : Value} {r : Value}, P18 fu a0 = some r → ∀ {args : List PV}, [aT E a0] = args → ∀ (st : St), Sat (Ω.cf 18 args st) (fun q => q = (aT E r, st)) := (aqG hΩ hE fu).1
set_option maxHeartbeats 4000000 in
theorem ok5 {a0 : Sl Cell} {a1 : ByteArray} {r : Value × Bool} (h : P5 fu a0 a1 = some r) {args : List PV} (ha : [PV.d (.sl (E.bM a0.l) (E.bX a0.x)), PV.d (.str a1)] = args) (st : St) :
 Sat (Ω.cf 5 args st) (fun q => q = (PV.yV [aT E r.1, PV.d (.bool r.2)], st)) := by
 subst ha
 rcases a0 with ⟨ah, aY⟩
 rw [aR hΩ (f := 5) (fn := Tryz.f5) (x := c5) rfl rfl apD rfl rfl rfl]
 unfold P5 at h
 try dsimp only at h
 conv => arg 1; cbv
 replace h := aW h
 obtain ⟨r1, hx2, h⟩ := h
 refine aH (aqA hΩ hE hx2) (cv ?_)
 refine aC hΩ (cv ?_)
 revert h; refine bU (fun hb3 h => cv ?_) fun hb3 h => cv ?_
 exact sp h
 refine sat_true (bg hΩ (aV hE) ah) (cv ?_)
 replace h := aW h
 obtain ⟨⟨alx, aly, ⟨ac3, ac4, ac5, ⟨Vv, Vw⟩, ⟨Vx, Vy⟩, ac6, ac7, ac8⟩, ⟨Tv, Tx, Tz, ⟨Jm, Jo⟩, ⟨Jp, Jq⟩, TA, TB, TD⟩, ⟨ac9, ada⟩, ⟨adb, ade⟩, ⟨adf, adg⟩, ⟨adh, adi⟩, alz, alA, ⟨adj, adk⟩, ⟨adl, adn⟩⟩, hx5, h⟩ := h
 try dsimp only at h
 refine aM (bG hΩ (aV hE) hx5) (cv ?_)
 replace h := aW h
 obtain ⟨⟨ap2, ap3, ap4, ⟨ajL, ajM⟩, ⟨ajN, ajO⟩, ap5, ap6, ap7⟩, hx7, h⟩ := h
 try dsimp only at h
 refine aH (ash hΩ hE hx7) (cv ?_)
 exact sp h
set_option maxHeartbeats 4000000 in
theorem aqH {a0 : Sl Cell} {a1 : ByteArray} {r : Int} (h : P19 fu a0 a1 = some r) {args : List PV} (ha : [PV.d (.sl (E.bM a0.l) (E.bX a0.x)), PV.d (.str a1)] = args) (st : St) :
 Sat (Ω.cf 19 args st) (fun q => q = (PV.d (.int .i64 r), st)) := by
 subst ha
 rcases a0 with ⟨ah, aY⟩
 rw [aR hΩ (f := 19) (fn := Tryz.f19) (x := c19) rfl rfl akF rfl rfl rfl]
 unfold P19 at h
 try dsimp only at h
 conv => arg 1; cbv
 replace h := aW h
 obtain ⟨q, afg, h⟩ := h
 refine dL hΩ (fun (a : Int × Int) => (match a with | (i1, i2) => ([(0, PV.d (.sl (E.bM ah) (E.bX aY))), (1, vS a1), (4, vi i1), (5, vi i2)], nO :: st))) (fun (q : (Int × Int) ⊕ (Int × Int)) => (match q with | .inl (KS, o16) => (.exit 0, [(0, PV.d (.sl (E.bM ah) (E.bX aY))), (1, vS a1), (4, vi KS), (5, vi o16)], nO :: st) | .inr (Mk, rA) => (.ret, [(0, PV.d (.sl (E.bM ah) (E.bX aY))), (1, vS a1), (4, vi Mk), (5, vi rA)], nO :: st))) (0, 0) afg ?_ ?_
 clear h afg
 rintro ⟨i1, i2⟩ q h
 unfold Jr at h
 dsimp only at h
 conv => arg 1; cbv
 refine av hΩ (aV hE) ah fun n3 FP => cv ?_
 refine aC hΩ (cv ?_)
 revert h; refine bU (fun hb5 h => cv ?_) fun hb5 h => cv ?_
 replace h := aW h
 obtain ⟨i11, vg, h⟩ := h
 refine aI hΩ ((fun (q : Bool) => (match q with | i11 => ([(0, PV.d (.sl (E.bM ah) (E.bX aY))), (1, vS a1), (4, vi i1), (5, vi i2), (26, vb i11)], nO :: st))) i11) (fun k hk => ?_) ?_
 clear h
 have h := vg
 clear vg
 conv => arg 1; cbv
 refine sat_true (bg hΩ (aV hE) ah) (cv ?_)
 replace h := aW h
 obtain ⟨⟨sj, vK, ⟨Cy, Cz, CB, ⟨uH, uI⟩, ⟨uJ, uK⟩, CG, CJ, CK⟩, ⟨CO, CP, CQ, ⟨uL, uM⟩, ⟨uN, uO⟩, CS, CU, CV⟩, ⟨mW, mX⟩, ⟨CW, CX⟩, ⟨CY, CZ⟩, ⟨C8, C9⟩, Pj, Pk, ⟨Da, Db⟩, ⟨Dc, Df⟩⟩, hx7, h⟩ := h
 try dsimp only at h
 refine aM (bG hΩ (aV hE) hx7) (cv ?_)
 revert h; refine bU (fun vL h => cv ?_) fun vL h => cv ?_
 refine sat_true (bg hΩ (aV hE) ah) (cv ?_)
 replace h := aW h
 obtain ⟨⟨alC, agZ, ⟨XM, XP, XQ, ⟨Pp, Pq⟩, ⟨Pt, Pv⟩, XR, XT, XU⟩, ⟨ado, adp, adq, ⟨Vz, VA⟩, ⟨VB, VD⟩, adr, ads, adt⟩, ⟨adu, adv⟩, ⟨adw, adx⟩, ⟨ady, adz⟩, ⟨adA, adB⟩, alD, alE, ⟨adC, adD⟩, ⟨adE, adF⟩⟩, EO, h⟩ := h
 try dsimp only at h
 refine aM (bG hΩ (aV hE) EO) (cv ?_)
 refine aj hΩ (cv ?_)
 exact fk h hk
 refine aj hΩ (cv ?_)
 exact fk h hk
 clear vg
 try dsimp only at h
 conv => arg 1; cbv
 refine aC hΩ (cv ?_)
 revert h; refine bU (fun EU h => cv ?_) fun EU h => cv ?_
 obtain rfl := fV h
 subst_vars
 exact sR
 obtain rfl := fV h
 subst_vars
 exact s3
 obtain rfl := fV h
 subst_vars
 exact sL
 clear afg
 rcases q with ⟨KS, o16⟩ | ⟨Mk, rA⟩
 dsimp only at h
 conv => arg 1; cbv
 exact sp h
 dsimp only at h
 conv => arg 1; cbv
 exact sp h
set_option maxHeartbeats 4000000 in
theorem ok6 {a0 : Sl Cell} {a1 : ByteArray} {r : Value × Bool} (h : P6 fu a0 a1 = some r) {args : List PV} (ha : [PV.d (.sl (E.bM a0.l) (E.bX a0.x)), PV.d (.str a1)] = args) (st : St) :
 Sat (Ω.cf 6 args st) (fun q => q = (PV.yV [aT E r.1, PV.d (.bool r.2)], st)) := by
 subst ha
 rcases a0 with ⟨ah, aY⟩
 rw [aR hΩ (f := 6) (fn := Tryz.f6) (x := c6) rfl rfl apE rfl rfl rfl]
 unfold P6 at h
 try dsimp only at h
 conv => arg 1; cbv
 replace h := aW h
 obtain ⟨r1, hx2, h⟩ := h
 refine aH (aqH hΩ hE hx2) (cv ?_)
 refine aC hΩ (cv ?_)
 revert h; refine bU (fun hb3 h => cv ?_) fun hb3 h => cv ?_
 exact sp h
 refine sat_true (bg hΩ (aV hE) ah) (cv ?_)
 replace h := aW h
 obtain ⟨⟨alx, aly, ⟨ac3, ac4, ac5, ⟨Vv, Vw⟩, ⟨Vx, Vy⟩, ac6, ac7, ac8⟩, ⟨Tv, Tx, Tz, ⟨Jm, Jo⟩, ⟨Jp, Jq⟩, TA, TB, TD⟩, ⟨ac9, ada⟩, ⟨adb, ade⟩, ⟨adf, adg⟩, ⟨adh, adi⟩, alz, alA, ⟨adj, adk⟩, ⟨adl, adn⟩⟩, hx5, h⟩ := h
 try dsimp only at h
 refine aM (bG hΩ (aV hE) hx5) (cv ?_)
 exact sp h
set_option maxHeartbeats 4000000 in
theorem asi {a0 : Sl Cell} {a1 : Sl Cell} {a2 : (Cell → Cell → Option (Bool))} {ql : Nat} (hf : ∀ {x0 : Cell} {x1 : Cell} {r : Bool}, a2 x0 x1 = some r → ∀ {args : List PV}, [jA E x0, jA E x1] = args → ∀ (st : St), Sat (Ω.cf ql args st) (fun q => q = (PV.d (.bool r), st))) {r : Bool} (h : P20 fu a0 a1 a2 = some r) {args : List PV} (ha : [PV.d (.sl (E.bM a0.l) (E.bX a0.x)), PV.d (.sl (E.bM a1.l) (E.bX a1.x)), PV.d (.fn ql [])] = args) (st : St) :
 Sat (Ω.cf 20 args st) (fun q => q = (PV.d (.bool r), st)) := by
 subst ha
 rcases a0 with ⟨ah, aY⟩
 rcases a1 with ⟨aL, dS⟩
 rw [aR hΩ (f := 20) (fn := Tryz.f20) (x := c20) rfl rfl abC rfl rfl rfl]
 unfold P20 at h
 try dsimp only at h
 conv => arg 1; cbv
 refine av hΩ (aV hE) ah fun n1 hn2 => cv ?_
 refine av hΩ (aV hE) aL fun n3 FP => cv ?_
 refine aC hΩ (cv ?_)
 revert h; refine bU (fun hb5 h => cv ?_) fun hb5 h => cv ?_
 exact sp h
 refine av hΩ (aV hE) ah fun n6 hn7 => cv ?_
 replace h := aW h
 obtain ⟨q, l7, h⟩ := h
 refine dL hΩ (fun (a : Int) => (match a with | i8 => ([(1, PV.d (.sl (E.bM aL) (E.bX dS))), (2, PV.d (.fn ql [])), (6, vb false), (15, PV.d (.sl (E.bM ah) (E.bX aY))), (16, vi n6), (17, vi i8)], nO :: st))) (fun (q : Int ⊕ Int) => (match q with | .inl rA => (.exit 0, [(1, PV.d (.sl (E.bM aL) (E.bX dS))), (2, PV.d (.fn ql [])), (6, vb false), (15, PV.d (.sl (E.bM ah) (E.bX aY))), (16, vi n6), (17, vi rA)], nO :: st) | .inr xu => (.ret, [(1, PV.d (.sl (E.bM aL) (E.bX dS))), (2, PV.d (.fn ql [])), (6, vb false), (15, PV.d (.sl (E.bM ah) (E.bX aY))), (16, vi n6), (17, vi xu)], nO :: st))) 0 l7 ?_ ?_
 clear h l7
 rintro i8 q h
 unfold Pw at h
 dsimp only at h
 conv => arg 1; cbv
 refine aC hΩ (cv ?_)
 revert h; refine bU (fun nC h => cv ?_) fun nC h => cv ?_
 refine sat_true (bg hΩ (aV hE) ah) (cv ?_)
 replace h := aW h
 obtain ⟨⟨jv, zh, ⟨Px, Py, Pz, ⟨Gq, Gr⟩, ⟨Gs, Gt⟩, PD, PE, PG⟩, ⟨PI, PK, PL, ⟨Gu, Gv⟩, ⟨Gw, Gx⟩, PN, PO, PS⟩, ⟨rC, rD⟩, ⟨PU, PW⟩, ⟨PX, PY⟩, ⟨PZ, Qa⟩, XV, XW, ⟨Qb, Qc⟩, ⟨Qd, Qe⟩⟩, mP, h⟩ := h
 try dsimp only at h
 refine aM (bG hΩ (aV hE) mP) (cv ?_)
 refine sat_true (bg hΩ (aV hE) aL) (cv ?_)
 replace h := aW h
 obtain ⟨⟨iX, oz, ⟨Qf, Qg, Qh, ⟨Gy, Gz⟩, ⟨GA, GD⟩, Qi, Qj, Qk⟩, ⟨Ql, Qm, Qn, ⟨GH, GI⟩, ⟨GJ, GK⟩, Qo, Qp, Qq⟩, ⟨kR, kS⟩, ⟨Qr, Qs⟩, ⟨Qt, Qu⟩, ⟨Qv, Qw⟩, XY, XZ, ⟨Qx, Qy⟩, ⟨Qz, QA⟩⟩, mQ, h⟩ := h
 try dsimp only at h
 refine aM (bG hΩ (aV hE) mQ) (cv ?_)
 replace h := aW h
 obtain ⟨FK, yA, h⟩ := h
 refine aH (hf yA) (cv ?_)
 refine aC hΩ (cv ?_)
 revert h; refine bU (fun qm h => cv ?_) fun qm h => cv ?_
 obtain rfl := fV h
 subst_vars
 exact sR
 obtain rfl := fV h
 subst_vars
 exact s3
 obtain rfl := fV h
 subst_vars
 exact sL
 clear l7
 rcases q with rA | xu
 dsimp only at h
 conv => arg 1; cbv
 exact sp h
 dsimp only at h
 conv => arg 1; cbv
 exact sp h
set_option maxHeartbeats 4000000 in
theorem asj {a0 : Cell} {a1 : Cell} {r : Bool} (h : P21 fu a0 a1 = some r) {args : List PV} (ha : [jA E a0, jA E a1] = args) (st : St) :
 Sat (Ω.cf 21 args st) (fun q => q = (PV.d (.bool r), st)) := by
 subst ha
 rcases a0 with ⟨aD, aO, ⟨cu, cB, cK, ⟨bA, bB⟩, ⟨bC, bE⟩, dz, cO, dA⟩, ⟨dD, dF, dG, ⟨bH, bI⟩, ⟨bJ, bK⟩, dH, dI, dJ⟩, ⟨au, aA⟩, ⟨dh, dM⟩, ⟨dN, dP⟩, ⟨cZ, dw⟩, eX, eH, ⟨dK, dQ⟩, ⟨dn, dO⟩⟩
 rcases a1 with ⟨iL, jT, ⟨zi, zk, zl, ⟨rE, rF⟩, ⟨rG, rH⟩, Ml, zm, Mq⟩, ⟨Mr, Ms, Mv, ⟨Ev, Ew⟩, ⟨Ey, Ez⟩, Mw, Mx, MB⟩, ⟨iU, iV⟩, ⟨zn, zo⟩, ⟨MC, ME⟩, ⟨zq, zu⟩, Z6, K6, ⟨MF, MG⟩, ⟨MH, MI⟩⟩
 rw [aR hΩ (f := 21) (fn := Tryz.f21) (x := c21) rfl rfl abD rfl rfl rfl]
 unfold P21 at h
 try dsimp only at h
 conv => arg 1; cbv
 replace h := aW h
 obtain ⟨i2, hq3, h⟩ := h
 refine aI hΩ ((fun (q : Bool) => (match q with | i2 => ([(2, PV.bf (mI E aD aO cu cB cK bA bB bC bE dz cO dA dD dF dG bH bI bJ bK dH dI dJ au aA dh dM dN dP cZ dw eX eH dK dQ dn dO)), (3, PV.bf (mI E iL jT zi zk zl rE rF rG rH Ml zm Mq Mr Ms Mv Ev Ew Ey Ez Mw Mx MB iU iV zn zo MC ME zq zu Z6 K6 MF MG MH MI)), (4, vb i2)], nO :: st))) i2) (fun k hk => ?_) ?_
 clear h
 have h := hq3
 clear hq3
 conv => arg 1; cbv
 revert h; refine bU (fun hb1 h => cv ?_) fun hb1 h => cv ?_
 refine aj hΩ (cv ?_)
 exact fk h hk
 refine aj hΩ (cv ?_)
 exact fk h hk
 clear hq3
 try dsimp only at h
 conv => arg 1; cbv
 exact sp h
set_option maxHeartbeats 4000000 in
theorem ok7 {a0 : Sl Cell} {a1 : Sl Cell} {r : Bool} (h : P7 fu a0 a1 = some r) {args : List PV} (ha : [PV.d (.sl (E.bM a0.l) (E.bX a0.x)), PV.d (.sl (E.bM a1.l) (E.bX a1.x))] = args) (st : St) :
 Sat (Ω.cf 7 args st) (fun q => q = (PV.d (.bool r), st)) := by
 subst ha
 rcases a0 with ⟨ah, aY⟩
 rcases a1 with ⟨aL, dS⟩
 rw [aR hΩ (f := 7) (fn := Tryz.f7) (x := c7) rfl rfl ajk rfl rfl rfl]
 unfold P7 at h
 try dsimp only at h
 conv => arg 1; cbv
 replace h := aW h
 obtain ⟨r1, hx2, h⟩ := h
 refine gW (asi hΩ hE (hf := fun h => @fun args ha st => asj hΩ hE h ha st) hx2 (by (try clear h); subst_vars; rfl) _) (cv ?_)
 exact sp h
end Go.Proofs.YtipkggkbldgmjaaGreat
