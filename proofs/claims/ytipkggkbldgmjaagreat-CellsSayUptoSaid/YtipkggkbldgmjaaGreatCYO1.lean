/- The interpreter computes just these functions: printed by a small program. -/
import Derived.Test.YtipkggkbldgmjaaGreatCYO0
namespace Go.Proofs.YtipkggkbldgmjaaGreat
open Go Go.X
set_option linter.unusedVariables false
set_option linter.unusedSimpArgs false
set_option linter.unusedSectionVars false
variable {Ω : Om} {E : Enc} (hΩ : real (call S) = Ω) (hE : jO = E) {fu : Nat}
include hΩ hE
set_option maxRecDepth 100000
set_option maxHeartbeats 4000000 in
theorem ok8 {a0 : Sl Cell} {a1 : Sl Cell} {r : Bool} (h : P8 fu a0 a1 = some r) {args : List PV} (ha : [PV.d (.sl (E.bM a0.l) (E.bX a0.x)), PV.d (.sl (E.bM a1.l) (E.bX a1.x))] = args) (st : St) :
 Sat (Ω.cf 8 args st) (fun q => q = (PV.d (.bool r), st)) := by
 subst ha
 rcases a0 with ⟨ah, aY⟩
 rcases a1 with ⟨aL, dS⟩
 rw [aR hΩ (f := 8) (fn := Tryz.f8) (x := c8) rfl rfl apF rfl rfl rfl]
 unfold P8 at h
 try dsimp only at h
 conv => arg 1; cbv
 refine av hΩ (aV hE) ah fun n1 hn2 => cv ?_
 refine av hΩ (aV hE) aL fun n3 FP => cv ?_
 refine aC hΩ (cv ?_)
 revert h; refine bU (fun hb5 h => cv ?_) fun hb5 h => cv ?_
 exact sp h
 replace h := aW h
 obtain ⟨q, ET, h⟩ := h
 refine dL hΩ (fun (a : Int) => (match a with | i6 => ([(0, PV.d (.sl (E.bM ah) (E.bX aY))), (1, PV.d (.sl (E.bM aL) (E.bX dS))), (4, vb false), (5, vi i6)], nO :: st))) (fun (q : Int ⊕ Int) => (match q with | .inl o23 => (.exit 0, [(0, PV.d (.sl (E.bM ah) (E.bX aY))), (1, PV.d (.sl (E.bM aL) (E.bX dS))), (4, vb false), (5, vi o23)], nO :: st) | .inr sI => (.ret, [(0, PV.d (.sl (E.bM ah) (E.bX aY))), (1, PV.d (.sl (E.bM aL) (E.bX dS))), (4, vb false), (5, vi sI)], nO :: st))) 0 ET ?_ ?_
 clear h ET
 rintro i6 q h
 unfold TF at h
 dsimp only at h
 conv => arg 1; cbv
 refine av hΩ (aV hE) ah fun n7 hn8 => cv ?_
 refine aC hΩ (cv ?_)
 revert h; refine bU (fun nC h => cv ?_) fun nC h => cv ?_
 replace h := aW h
 obtain ⟨i19, Ko, h⟩ := h
 refine aI hΩ ((fun (q : Bool) => (match q with | i19 => ([(0, PV.d (.sl (E.bM ah) (E.bX aY))), (1, PV.d (.sl (E.bM aL) (E.bX dS))), (4, vb false), (5, vi i6), (40, vb i19)], nO :: st))) i19) (fun k hk => ?_) ?_
 clear h
 have h := Ko
 clear Ko
 conv => arg 1; cbv
 refine sat_true (bg hΩ (aV hE) ah) (cv ?_)
 replace h := aW h
 obtain ⟨⟨jv, zh, ⟨Px, Py, Pz, ⟨Gq, Gr⟩, ⟨Gs, Gt⟩, PD, PE, PG⟩, ⟨PI, PK, PL, ⟨Gu, Gv⟩, ⟨Gw, Gx⟩, PN, PO, PS⟩, ⟨rC, rD⟩, ⟨PU, PW⟩, ⟨PX, PY⟩, ⟨PZ, Qa⟩, XV, XW, ⟨Qb, Qc⟩, ⟨Qd, Qe⟩⟩, mP, h⟩ := h
 try dsimp only at h
 refine aM (bG hΩ (aV hE) mP) (cv ?_)
 refine sat_true (bg hΩ (aV hE) aL) (cv ?_)
 replace h := aW h
 obtain ⟨⟨iX, oz, ⟨Qf, Qg, Qh, ⟨Gy, Gz⟩, ⟨GA, GD⟩, Qi, Qj, Qk⟩, ⟨Ql, Qm, Qn, ⟨GH, GI⟩, ⟨GJ, GK⟩, Qo, Qp, Qq⟩, ⟨kR, kS⟩, ⟨Qr, Qs⟩, ⟨Qt, Qu⟩, ⟨Qv, Qw⟩, XY, XZ, ⟨Qx, Qy⟩, ⟨Qz, QA⟩⟩, mQ, h⟩ := h
 try dsimp only at h
 refine aM (bG hΩ (aV hE) mQ) (cv ?_)
 refine aj hΩ (cv ?_)
 revert h; refine bU (fun nD h => cv ?_) fun nD h => cv ?_
 refine sat_true (bg hΩ (aV hE) ah) (cv ?_)
 replace h := aW h
 obtain ⟨⟨mV, qM, ⟨zX, zY, zZ, ⟨uf, ug⟩, ⟨uh, uj⟩, OV, z8, OW⟩, ⟨OX, OY, OZ, ⟨Gl, Gm⟩, ⟨Gn, Gp⟩, O1, O4, O5⟩, ⟨ru, rz⟩, ⟨Ab, Ac⟩, ⟨O6, O7⟩, ⟨Ad, Ae⟩, XI, Je, ⟨O8, O9⟩, ⟨Pb, Pf⟩⟩, hx16, h⟩ := h
 try dsimp only at h
 refine aM (bG hΩ (aV hE) hx16) (cv ?_)
 refine sat_true (bg hΩ (aV hE) aL) (cv ?_)
 replace h := aW h
 obtain ⟨⟨MJ, TG, ⟨alF, alG, alH, ⟨ag0, ag1⟩, ⟨ag2, ag3⟩, alI, alJ, alK⟩, ⟨alL, alM, alN, ⟨ag4, ag5⟩, ⟨ag6, ag7⟩, alO, alP, alQ⟩, ⟨QB, QC⟩, ⟨alR, alS⟩, ⟨alT, alU⟩, ⟨alV, alW⟩, ap8, ap9, ⟨alX, alY⟩, ⟨alZ, al0⟩⟩, u6, h⟩ := h
 try dsimp only at h
 refine aM (bG hΩ (aV hE) u6) (cv ?_)
 exact fk h hk
 exact fk h hk
 clear Ko
 try dsimp only at h
 conv => arg 1; cbv
 refine aC hΩ (cv ?_)
 revert h; refine bU (fun nZ h => cv ?_) fun nZ h => cv ?_
 obtain rfl := fV h
 subst_vars
 exact sR
 obtain rfl := fV h
 subst_vars
 exact s3
 obtain rfl := fV h
 subst_vars
 exact sL
 clear ET
 rcases q with o23 | sI
 dsimp only at h
 conv => arg 1; cbv
 exact sp h
 dsimp only at h
 conv => arg 1; cbv
 exact sp h
set_option maxHeartbeats 4000000 in
theorem asl {a0 : Sl Value} {a1 : Sl Value} {a2 : (Value → Value → Option (Bool))} {ql : Nat} (hf : ∀ {x0 : Value} {x1 : Value} {r : Bool}, a2 x0 x1 = some r → ∀ {args : List PV}, [aT E x0, aT E x1] = args → ∀ (st : St), Sat (Ω.cf ql args st) (fun q => q = (PV.d (.bool r), st))) {r : Bool} (h : P44 fu a0 a1 a2 = some r) {args : List PV} (ha : [PV.d (.sl (E.aN a0.l) (E.aU a0.x)), PV.d (.sl (E.aN a1.l) (E.aU a1.x)), PV.d (.fn ql [])] = args) (st : St) :
 Sat (Ω.cf 44 args st) (fun q => q = (PV.d (.bool r), st)) := by
 subst ha
 rcases a0 with ⟨ah, aY⟩
 rcases a1 with ⟨aL, dS⟩
 rw [aR hΩ (f := 44) (fn := Tryz.f44) (x := c44) rfl rfl abL rfl rfl rfl]
 unfold P44 at h
 try dsimp only at h
 conv => arg 1; cbv
 refine av hΩ (aF hE) ah fun n1 hn2 => cv ?_
 refine av hΩ (aF hE) aL fun n3 FP => cv ?_
 refine aC hΩ (cv ?_)
 revert h; refine bU (fun hb5 h => cv ?_) fun hb5 h => cv ?_
 exact sp h
 refine av hΩ (aF hE) ah fun n6 hn7 => cv ?_
 replace h := aW h
 obtain ⟨q, l7, h⟩ := h
 refine dL hΩ (fun (a : Int) => (match a with | i8 => ([(1, PV.d (.sl (E.aN aL) (E.aU dS))), (2, PV.d (.fn ql [])), (6, vb false), (15, PV.d (.sl (E.aN ah) (E.aU aY))), (16, vi n6), (17, vi i8)], nO :: st))) (fun (q : Int ⊕ Int) => (match q with | .inl rA => (.exit 0, [(1, PV.d (.sl (E.aN aL) (E.aU dS))), (2, PV.d (.fn ql [])), (6, vb false), (15, PV.d (.sl (E.aN ah) (E.aU aY))), (16, vi n6), (17, vi rA)], nO :: st) | .inr xu => (.ret, [(1, PV.d (.sl (E.aN aL) (E.aU dS))), (2, PV.d (.fn ql [])), (6, vb false), (15, PV.d (.sl (E.aN ah) (E.aU aY))), (16, vi n6), (17, vi xu)], nO :: st))) 0 l7 ?_ ?_
 clear h l7
 rintro i8 q h
 unfold QD at h
 dsimp only at h
 conv => arg 1; cbv
 refine aC hΩ (cv ?_)
 revert h; refine bU (fun nC h => cv ?_) fun nC h => cv ?_
 refine sat_true (bg hΩ (aF hE) ah) (cv ?_)
 replace h := aW h
 obtain ⟨⟨jv, zh, TH, ⟨Js, Jt⟩, ⟨rC, rD⟩, TI, TJ, TK⟩, mP, h⟩ := h
 try dsimp only at h
 refine aM (bG hΩ (aF hE) mP) (cv ?_)
 refine sat_true (bg hΩ (aF hE) aL) (cv ?_)
 replace h := aW h
 obtain ⟨⟨iX, oz, wY, ⟨pR, pU⟩, ⟨kR, kS⟩, wZ, w9, xq⟩, mQ, h⟩ := h
 try dsimp only at h
 refine aM (bG hΩ (aF hE) mQ) (cv ?_)
 replace h := aW h
 obtain ⟨FK, yA, h⟩ := h
 refine aH (hf yA) (cv ?_)
 refine aC hΩ (cv ?_)
 revert h; refine bU (fun qm h => cv ?_) fun qm h => cv ?_
 obtain rfl := fV h
 subst_vars
 exact sR
 obtain rfl := fV h
 subst_vars
 exact s3
 obtain rfl := fV h
 subst_vars
 exact sL
 clear l7
 rcases q with rA | xu
 dsimp only at h
 conv => arg 1; cbv
 exact sp h
 dsimp only at h
 conv => arg 1; cbv
 exact sp h
set_option maxHeartbeats 4000000 in
theorem asn {a0 : Sl Field} {a1 : Sl Field} {a2 : (Field → Field → Option (Bool))} {ql : Nat} (hf : ∀ {x0 : Field} {x1 : Field} {r : Bool}, a2 x0 x1 = some r → ∀ {args : List PV}, [eU E x0, eU E x1] = args → ∀ (st : St), Sat (Ω.cf ql args st) (fun q => q = (PV.d (.bool r), st))) {r : Bool} (h : P72 fu a0 a1 a2 = some r) {args : List PV} (ha : [PV.d (.sl (E.aB a0.l) (E.aG a0.x)), PV.d (.sl (E.aB a1.l) (E.aG a1.x)), PV.d (.fn ql [])] = args) (st : St) :
 Sat (Ω.cf 72 args st) (fun q => q = (PV.d (.bool r), st)) := by
 subst ha
 rcases a0 with ⟨ah, aY⟩
 rcases a1 with ⟨aL, dS⟩
 rw [aR hΩ (f := 72) (fn := Tryz.f72) (x := c72) rfl rfl ab1 rfl rfl rfl]
 unfold P72 at h
 try dsimp only at h
 conv => arg 1; cbv
 refine av hΩ (ak hE) ah fun n1 hn2 => cv ?_
 refine av hΩ (ak hE) aL fun n3 FP => cv ?_
 refine aC hΩ (cv ?_)
 revert h; refine bU (fun hb5 h => cv ?_) fun hb5 h => cv ?_
 exact sp h
 refine av hΩ (ak hE) ah fun n6 hn7 => cv ?_
 replace h := aW h
 obtain ⟨q, l7, h⟩ := h
 refine dL hΩ (fun (a : Int) => (match a with | i8 => ([(1, PV.d (.sl (E.aB aL) (E.aG dS))), (2, PV.d (.fn ql [])), (6, vb false), (15, PV.d (.sl (E.aB ah) (E.aG aY))), (16, vi n6), (17, vi i8)], nO :: st))) (fun (q : Int ⊕ Int) => (match q with | .inl rA => (.exit 0, [(1, PV.d (.sl (E.aB aL) (E.aG dS))), (2, PV.d (.fn ql [])), (6, vb false), (15, PV.d (.sl (E.aB ah) (E.aG aY))), (16, vi n6), (17, vi rA)], nO :: st) | .inr xu => (.ret, [(1, PV.d (.sl (E.aB aL) (E.aG dS))), (2, PV.d (.fn ql [])), (6, vb false), (15, PV.d (.sl (E.aB ah) (E.aG aY))), (16, vi n6), (17, vi xu)], nO :: st))) 0 l7 ?_ ?_
 clear h l7
 rintro i8 q h
 unfold QE at h
 dsimp only at h
 conv => arg 1; cbv
 refine aC hΩ (cv ?_)
 revert h; refine bU (fun nC h => cv ?_) fun nC h => cv ?_
 refine sat_true (bg hΩ (ak hE) ah) (cv ?_)
 replace h := aW h
 obtain ⟨⟨jv, ⟨nT, nU, nV, ⟨lu, lC⟩, ⟨lD, lF⟩, nW, nX, nY⟩⟩, mP, h⟩ := h
 try dsimp only at h
 refine aM (bG hΩ (ak hE) mP) (cv ?_)
 refine sat_true (bg hΩ (ak hE) aL) (cv ?_)
 replace h := aW h
 obtain ⟨⟨iX, ⟨uP, uQ, uR, ⟨oK, oN⟩, ⟨oO, oP⟩, uS, uT, uU⟩⟩, mQ, h⟩ := h
 try dsimp only at h
 refine aM (bG hΩ (ak hE) mQ) (cv ?_)
 replace h := aW h
 obtain ⟨FK, yA, h⟩ := h
 refine aH (hf yA) (cv ?_)
 refine aC hΩ (cv ?_)
 revert h; refine bU (fun qm h => cv ?_) fun qm h => cv ?_
 obtain rfl := fV h
 subst_vars
 exact sR
 obtain rfl := fV h
 subst_vars
 exact s3
 obtain rfl := fV h
 subst_vars
 exact sL
 clear l7
 rcases q with rA | xu
 dsimp only at h
 conv => arg 1; cbv
 exact sp h
 dsimp only at h
 conv => arg 1; cbv
 exact sp h
def H24 (Ω : Om) (E : Enc) (VE : Value → Value → Option (Bool)) : Prop := ∀ {a0 : Value} {a1 : Value} {r : Bool}, VE a0 a1 = some r → ∀ {args : List PV}, [aT E a0, aT E a1] = args → ∀ (st : St), Sat (Ω.cf 24 args st) (fun q => q = (PV.d (.bool r), st))
def H45 (Ω : Om) (E : Enc) (p45 : (Sl Field) → (Sl Field) → Option (Bool)) : Prop := ∀ {a0 : Sl Field} {a1 : Sl Field} {r : Bool}, p45 a0 a1 = some r → ∀ {args : List PV}, [PV.d (.sl (E.aB a0.l) (E.aG a0.x)), PV.d (.sl (E.aB a1.l) (E.aG a1.x))] = args → ∀ (st : St), Sat (Ω.cf 45 args st) (fun q => q = (PV.d (.bool r), st))
def H73 (Ω : Om) (E : Enc) (p73 : Field → Field → Option (Bool)) : Prop := ∀ {a0 : Field} {a1 : Field} {r : Bool}, p73 a0 a1 = some r → ∀ {args : List PV}, [eU E a0, eU E a1] = args → ∀ (st : St), Sat (Ω.cf 73 args st) (fun q => q = (PV.d (.bool r), st))
set_option maxHeartbeats 4000000 in
theorem aqI {VE : Value → Value → Option (Bool)} (aix : H24 Ω E VE) {p45 : (Sl Field) → (Sl Field) → Option (Bool)} (anO : H45 Ω E p45) {p73 : Field → Field → Option (Bool)} (anP : H73 Ω E p73) {a0 : Value} {a1 : Value} {r : Bool} (h : ag8 fu VE p45 p73 a0 a1 = some r) {args : List PV} (ha : [aT E a0, aT E a1] = args) (st : St) :
 Sat (Ω.cf 24 args st) (fun q => q = (PV.d (.bool r), st)) := by
 subst ha
 rcases a0 with ⟨aD, aO, bN, ⟨aK, aS⟩, ⟨au, aA⟩, bO, bT, aQ⟩
 rcases a1 with ⟨iL, jT, oQ, ⟨jh, ku⟩, ⟨iU, iV⟩, su, kT, sw⟩
 rw [aR hΩ (f := 24) (fn := Tryz.f24) (x := c24) rfl rfl abF rfl rfl rfl]
 unfold ag8 at h
 try dsimp only at h
 conv => arg 1; cbv
 replace h := aW h
 obtain ⟨i12, vg, h⟩ := h
 refine aI hΩ ((fun (q : Bool) => (match q with | i12 => ([(2, PV.bf (iY E aD aO bN aK aS au aA bO bT aQ)), (3, PV.bf (iY E iL jT oQ jh ku iU iV su kT sw)), (4, vb i12)], nO :: st))) i12) (fun k hk => ?_) ?_
 clear h
 have h := vg
 clear vg
 conv => arg 1; cbv
 revert h; refine bU (fun hb1 h => cv ?_) fun hb1 h => cv ?_
 refine aj hΩ (cv ?_)
 revert h; refine bU (fun hb2 h => cv ?_) fun hb2 h => cv ?_
 revert h; refine bU (fun hb3 h => cv ?_) fun hb3 h => cv ?_
 refine aj hΩ (cv ?_)
 revert h; refine bU (fun hb4 h => cv ?_) fun hb4 h => cv ?_
 revert h; refine bU (fun hb5 h => cv ?_) fun hb5 h => cv ?_
 refine aj hΩ (cv ?_)
 revert h; refine bU (fun hb6 h => cv ?_) fun hb6 h => cv ?_
 replace h := aW h
 obtain ⟨r7, AY, h⟩ := h
 refine gW (asl hΩ hE (hf := fun h => @fun args ha st => aix h ha st) AY (by (try clear h); subst_vars; rfl) _) (cv ?_)
 refine aj hΩ (cv ?_)
 revert h; refine bU (fun nC h => cv ?_) fun nC h => cv ?_
 replace h := aW h
 obtain ⟨r10, mP, h⟩ := h
 refine aH (anO mP) (cv ?_)
 exact fk h hk
 exact fk h hk
 refine aj hΩ (cv ?_)
 exact fk h hk
 refine aj hΩ (cv ?_)
 refine aj hΩ (cv ?_)
 exact fk h hk
 refine aj hΩ (cv ?_)
 refine aj hΩ (cv ?_)
 exact fk h hk
 refine aj hΩ (cv ?_)
 refine aj hΩ (cv ?_)
 refine aj hΩ (cv ?_)
 exact fk h hk
 refine aj hΩ (cv ?_)
 refine aj hΩ (cv ?_)
 refine aj hΩ (cv ?_)
 exact fk h hk
 refine aj hΩ (cv ?_)
 refine aj hΩ (cv ?_)
 refine aj hΩ (cv ?_)
 refine aj hΩ (cv ?_)
 exact fk h hk
 clear vg
 try dsimp only at h
 conv => arg 1; cbv
 exact sp h
set_option maxHeartbeats 4000000 in
theorem aqJ {VE : Value → Value → Option (Bool)} (aix : H24 Ω E VE) {p45 : (Sl Field) → (Sl Field) → Option (Bool)} (anO : H45 Ω E p45) {p73 : Field → Field → Option (Bool)} (anP : H73 Ω E p73) {a0 : Sl Field} {a1 : Sl Field} {r : Bool} (h : ag9 fu VE p45 p73 a0 a1 = some r) {args : List PV} (ha : [PV.d (.sl (E.aB a0.l) (E.aG a0.x)), PV.d (.sl (E.aB a1.l) (E.aG a1.x))] = args) (st : St) :
 Sat (Ω.cf 45 args st) (fun q => q = (PV.d (.bool r), st)) := by
 subst ha
 rcases a0 with ⟨ah, aY⟩
 rcases a1 with ⟨aL, dS⟩
 rw [aR hΩ (f := 45) (fn := Tryz.f45) (x := c45) rfl rfl abM rfl rfl rfl]
 unfold ag9 at h
 try dsimp only at h
 conv => arg 1; cbv
 replace h := aW h
 obtain ⟨r1, hx2, h⟩ := h
 refine gW (asn hΩ hE (hf := fun h => @fun args ha st => anP h ha st) hx2 (by (try clear h); subst_vars; rfl) _) (cv ?_)
 exact sp h
set_option maxHeartbeats 4000000 in
theorem aqK {VE : Value → Value → Option (Bool)} (aix : H24 Ω E VE) {p45 : (Sl Field) → (Sl Field) → Option (Bool)} (anO : H45 Ω E p45) {p73 : Field → Field → Option (Bool)} (anP : H73 Ω E p73) {a0 : Field} {a1 : Field} {r : Bool} (h : aha fu VE p45 p73 a0 a1 = some r) {args : List PV} (ha : [eU E a0, eU E a1] = args) (st : St) :
 Sat (Ω.cf 73 args st) (fun q => q = (PV.d (.bool r), st)) := by
 subst ha
 rcases a0 with ⟨aD, ⟨og, oh, om, ⟨kM, kN⟩, ⟨kP, kQ⟩, oo, oq, ou⟩⟩
 rcases a1 with ⟨iL, ⟨xw, xA, xB, ⟨pV, pW⟩, ⟨pX, pY⟩, xC, xD, xE⟩⟩
 rw [aR hΩ (f := 73) (fn := Tryz.f73) (x := c73) rfl rfl ab2 rfl rfl rfl]
 unfold aha at h
 try dsimp only at h
 conv => arg 1; cbv
 replace h := aW h
 obtain ⟨i4, hq5, h⟩ := h
 refine aI hΩ ((fun (q : Bool) => (match q with | i4 => ([(2, PV.bf (zD5 E aD og oh om kM kN kP kQ oo oq ou)), (3, PV.bf (zD5 E iL xw xA xB pV pW pX pY xC xD xE)), (4, vb i4)], nO :: st))) i4) (fun k hk => ?_) ?_
 clear h
 have h := hq5
 clear hq5
 conv => arg 1; cbv
 revert h; refine bU (fun hb1 h => cv ?_) fun hb1 h => cv ?_
 replace h := aW h
 obtain ⟨r2, hx3, h⟩ := h
 refine aH (aix hx3) (cv ?_)
 refine aj hΩ (cv ?_)
 exact fk h hk
 refine aj hΩ (cv ?_)
 exact fk h hk
 clear hq5
 try dsimp only at h
 conv => arg 1; cbv
 exact sp h
theorem aqL : ∀ fu,
 (∀ {a0 : Value} {a1 : Value} {r : Bool}, X0 fu a0 a1 = some r → ∀ {args : List PV}, [aT E a0, aT E a1] = args → ∀ (st : St), Sat (Ω.cf 24 args st) (fun q => q = (PV.d (.bool r), st))) ∧
 (∀ {a0 : Sl Field} {a1 : Sl Field} {r : Bool}, P45 fu a0 a1 = some r → ∀ {args : List PV}, [PV.d (.sl (E.aB a0.l) (E.aG a0.x)), PV.d (.sl (E.aB a1.l) (E.aG a1.x))] = args → ∀ (st : St), Sat (Ω.cf 45 args st) (fun q => q = (PV.d (.bool r), st))) ∧
 (∀ {a0 : Field} {a1 : Field} {r : Bool}, P73 fu a0 a1 = some r → ∀ {args : List PV}, [eU E a0, eU E a1] = args → ∀ (st : St), Sat (Ω.cf 73 args st) (fun q => q = (PV.d (.bool r), st))) := by
 intro fu
 induction fu with
 | zero => exact ⟨(fun h => (by cases h)), (fun h => (by cases h)), (fun h => (by cases h))⟩
 | succ fu ih =>
  obtain ⟨i24, i45, i73⟩ := ih
  exact ⟨(fun h => @fun args ha st => aqI (fu := fu) hΩ hE i24 i45 i73 h ha st), (fun h => @fun args ha st => aqJ (fu := fu) hΩ hE i24 i45 i73 h ha st), (fun h => @fun args ha st => aqK (fu := fu) hΩ hE i24 i45 i73 h ha st)⟩
theorem aqM : ∀ {a0 : Value} {a1 : Value} {r : Bool}, X0 fu a0 a1 = some r → ∀ {args : List PV}, [aT E a0, aT E a1] = args → ∀ (st : St), Sat (Ω.cf 24 args st) (fun q => q = (PV.d (.bool r), st)) := (aqL hΩ hE fu).1
set_option maxHeartbeats 4000000 in
theorem aso {a0 : Cell} {r : Bool} (h : P23 fu a0 = some r) {args : List PV} (ha : [jA E a0] = args) (st : St) :
 Sat (Ω.cf 23 args st) (fun q => q = (PV.d (.bool r), st)) := by
 subst ha
 rcases a0 with ⟨aD, aO, ⟨cu, cB, cK, ⟨bA, bB⟩, ⟨bC, bE⟩, dz, cO, dA⟩, ⟨dD, dF, dG, ⟨bH, bI⟩, ⟨bJ, bK⟩, dH, dI, dJ⟩, ⟨au, aA⟩, ⟨dh, dM⟩, ⟨dN, dP⟩, ⟨cZ, dw⟩, eX, eH, ⟨dK, dQ⟩, ⟨dn, dO⟩⟩
 rw [aR hΩ (f := 23) (fn := Tryz.f23) (x := c23) rfl rfl abE rfl rfl rfl]
 unfold P23 at h
 try dsimp only at h
 conv => arg 1; cbv
 replace h := aW h
 obtain ⟨r1, hx2, h⟩ := h
 refine aH (aqM hΩ hE hx2) (cv ?_)
 exact sp h
set_option maxHeartbeats 4000000 in
theorem anQ {a0 : Cell} {a1 : Sl Int} {S : Unit → St} {lz0 kC : Nat} (hg0 : ∀ s, X.look (S s) lz0 kC = some (X.Obj.box 47 [PV.d (.fn 23 [])])) {r : Bool} (h : MK fu a0 a1 = some r) {args : List PV} (ha : [jA E a0, PV.bf [.sl (E.gI a1.l) (E.gY a1.x)], PV.ptr lz0 kC 0] = args) {st : St} (hst : S () = st) :
 Sat (Ω.cf 42 args st) (fun q => q = (PV.d (.bool r), S ())) := by
 subst ha
 subst hst
 rcases a0 with ⟨aD, aO, ⟨cu, cB, cK, ⟨bA, bB⟩, ⟨bC, bE⟩, dz, cO, dA⟩, ⟨dD, dF, dG, ⟨bH, bI⟩, ⟨bJ, bK⟩, dH, dI, dJ⟩, ⟨au, aA⟩, ⟨dh, dM⟩, ⟨dN, dP⟩, ⟨cZ, dw⟩, eX, eH, ⟨dK, dQ⟩, ⟨dn, dO⟩⟩
 rcases a1 with ⟨aL, dS⟩
 rw [aR hΩ (f := 42) (fn := Tryz.f42) (x := c42) rfl rfl Vp rfl rfl rfl]
 unfold MK at h
 try dsimp only at h
 conv => arg 1; cbv
 replace h := aW h
 obtain ⟨i6, hq7, h⟩ := h
 refine aI hΩ ((fun (q : Bool) => (match q with | i6 => ([(1, PV.bf [.sl (E.gI aL) (E.gY dS)]), (2, PV.ptr (lz0+1) kC 0), (3, PV.bf (mI E aD aO cu cB cK bA bB bC bE dz cO dA dD dF dG bH bI bJ bK dH dI dJ au aA dh dM dN dP cZ dw eX eH dK dQ dn dO)), (4, vb i6)], nO :: S ()))) i6) (fun k hk => ?_) ?_
 clear h
 have h := hq7
 clear hq7
 conv => arg 1; cbv
 replace h := aW h
 obtain ⟨r1, hx2, h⟩ := h
 refine aH (aqz hΩ hE hx2) (cv ?_)
 revert h; refine bU (fun hb3 h => cv ?_) fun hb3 h => cv ?_
 refine qJ hΩ (hg0 _) (by exact (show down.iM (lz0+1) [PV.d (.fn 23 [])] = [PV.d (.fn 23 [])] by simp only [down.iM, down, Nat.zero_add])) (cv ?_)
 replace h := aW h
 obtain ⟨r4, hx5, h⟩ := h
 refine aH (aso hΩ hE hx5) (cv ?_)
 exact fk h hk
 exact fk h hk
 clear hq7
 try dsimp only at h
 conv => arg 1; cbv
 exact sp h
set_option maxHeartbeats 4000000 in
theorem anR {a0 : Sl Cell} {d0 : Sl Int} {S : Unit → St} {lz0 kC : Nat} (hg0 : ∀ s, X.look (S s) lz0 kC = some (X.Obj.box 47 [PV.d (.fn 23 [])])) {r : Int} (h : X3 fu a0 d0 = some r) {args : List PV} (ha : [PV.d (.sl (E.bM a0.l) (E.bX a0.x)), PV.fn 42 [.bf [.sl (E.gI d0.l) (E.gY d0.x)], .ptr lz0 kC 0]] = args) {st : St} (hst : S () = st) :
 Sat (Ω.cf 41 args st) (fun q => q = (PV.d (.int .i64 r), S ())) := by
 subst ha
 subst hst
 rcases a0 with ⟨ah, aY⟩
 rw [aR hΩ (f := 41) (fn := Tryz.f41) (x := c41) rfl rfl Vo rfl rfl rfl]
 unfold X3 at h
 try dsimp only at h
 conv => arg 1; cbv
 refine av hΩ (aV hE) ah fun n1 hn2 => cv ?_
 replace h := aW h
 obtain ⟨q, Kn, h⟩ := h
 refine dL hΩ (fun (a : Int × Int) => (match a with | (i3, i4) => ([(0, PV.d (.sl (E.bM ah) (E.bX aY))), (1, PV.fn 42 [.bf [.sl (E.gI d0.l) (E.gY d0.x)], .ptr (lz0+1) kC 0]), (4, vi i3), (7, vi n1), (8, vi i4)], nO :: S ()))) (fun (q : (Int × Int) ⊕ (Int × Int)) => (match q with | .inl (wX, Ph) => (.exit 0, [(0, PV.d (.sl (E.bM ah) (E.bX aY))), (1, PV.fn 42 [.bf [.sl (E.gI d0.l) (E.gY d0.x)], .ptr (lz0+1) kC 0]), (4, vi wX), (7, vi n1), (8, vi Ph)], nO :: S ()) | .inr (Mj, KS) => (.ret, [(0, PV.d (.sl (E.bM ah) (E.bX aY))), (1, PV.fn 42 [.bf [.sl (E.gI d0.l) (E.gY d0.x)], .ptr (lz0+1) kC 0]), (4, vi Mj), (7, vi n1), (8, vi KS)], nO :: S ()))) (0, 0) Kn ?_ ?_
 clear h Kn
 rintro ⟨i3, i4⟩ q h
 unfold Dj at h
 dsimp only at h
 conv => arg 1; cbv
 refine aC hΩ (cv ?_)
 revert h; refine bU (fun hb5 h => cv ?_) fun hb5 h => cv ?_
 refine sat_true (bg hΩ (aV hE) ah) (cv ?_)
 replace h := aW h
 obtain ⟨⟨sj, vK, ⟨Cy, Cz, CB, ⟨uH, uI⟩, ⟨uJ, uK⟩, CG, CJ, CK⟩, ⟨CO, CP, CQ, ⟨uL, uM⟩, ⟨uN, uO⟩, CS, CU, CV⟩, ⟨mW, mX⟩, ⟨CW, CX⟩, ⟨CY, CZ⟩, ⟨C8, C9⟩, Pj, Pk, ⟨Da, Db⟩, ⟨Dc, Df⟩⟩, hx7, h⟩ := h
 try dsimp only at h
 refine aM (bG hΩ (aV hE) hx7) (cv ?_)
 replace h := aW h
 obtain ⟨r9, AY, h⟩ := h
 refine gW (anQ hΩ hE (S := (fun (s : Unit) => nO :: S ())) (lz0 := (lz0+1)) (kC := kC) (fun s => hg0 ()) AY (by (try clear h); subst_vars; rfl) (by (try clear h); subst_vars; rfl)) (cv ?_)
 refine aC hΩ (cv ?_)
 revert h; refine bU (fun jo h => cv ?_) fun jo h => cv ?_
 obtain rfl := fV h
 subst_vars
 exact sR
 obtain rfl := fV h
 subst_vars
 exact s3
 obtain rfl := fV h
 subst_vars
 exact sL
 clear Kn
 rcases q with ⟨wX, Ph⟩ | ⟨Mj, KS⟩
 dsimp only at h
 conv => arg 1; cbv
 exact sp h
 dsimp only at h
 conv => arg 1; cbv
 exact sp h
set_option maxHeartbeats 4000000 in
theorem anS {a0 : Sl Cell} {a2 : Sl Int} {r : Int} (h : X4 fu a0 a2 = some r) {args : List PV} (ha : [PV.d (.sl (E.bM a0.l) (E.bX a0.x)), PV.d (.fn 23 []), PV.d (.sl (E.gI a2.l) (E.gY a2.x))] = args) (st : St) :
 Sat (Ω.cf 22 args st) (fun q => q = (PV.d (.int .i64 r), st)) := by
 subst ha
 rcases a0 with ⟨ah, aY⟩
 rcases a2 with ⟨acX, acY⟩
 rw [aR hΩ (f := 22) (fn := Tryz.f22) (x := c22) rfl rfl Vn rfl rfl rfl]
 unfold X4 at h
 try dsimp only at h
 conv => arg 1; cbv
 replace h := aW h
 obtain ⟨r2, hx1, h⟩ := h
 refine gW (anR hΩ hE (S := (fun (s : Unit) => ([X.Obj.box 47 [.d (.fn 23 [])]] : List X.Obj) :: st)) (lz0 := 0) (kC := 0) (fun s => rfl) hx1 (by (try clear h); subst_vars; rfl) (by (try clear h); subst_vars; rfl)) (cv ?_)
 exact sp h
set_option maxHeartbeats 4000000 in
theorem ok9 {a0 : Sl Cell} {r : Bool} (h : P9 fu a0 = some r) {args : List PV} (ha : [PV.d (.sl (E.bM a0.l) (E.bX a0.x))] = args) (st : St) :
 Sat (Ω.cf 9 args st) (fun q => q = (PV.d (.bool r), st)) := by
 subst ha
 rcases a0 with ⟨ah, aY⟩
 rw [aR hΩ (f := 9) (fn := Tryz.f9) (x := c9) rfl rfl ajl rfl rfl rfl]
 unfold P9 at h
 try dsimp only at h
 conv => arg 1; cbv
 replace h := aW h
 obtain ⟨r1, hx2, h⟩ := h
 refine aH (anS hΩ hE hx2) (cv ?_)
 exact sp h
def H25 (Ω : Om) (E : Enc) (p25 : Value → Value → Option (Bool)) : Prop := ∀ {a0 : Value} {a1 : Value} {r : Bool}, p25 a0 a1 = some r → ∀ {args : List PV}, [aT E a0, aT E a1] = args → ∀ (st : St), Sat (Ω.cf 25 args st) (fun q => q = (PV.d (.bool r), st))
def H46 (Ω : Om) (E : Enc) (p46 : (Sl Field) → (Sl Field) → Option (Bool)) : Prop := ∀ {a0 : Sl Field} {a1 : Sl Field} {r : Bool}, p46 a0 a1 = some r → ∀ {args : List PV}, [PV.d (.sl (E.aB a0.l) (E.aG a0.x)), PV.d (.sl (E.aB a1.l) (E.aG a1.x))] = args → ∀ (st : St), Sat (Ω.cf 46 args st) (fun q => q = (PV.d (.bool r), st))
set_option maxHeartbeats 4000000 in
theorem aqN {p25 : Value → Value → Option (Bool)} (anT : H25 Ω E p25) {p46 : (Sl Field) → (Sl Field) → Option (Bool)} (aqO : H46 Ω E p46) {a0 : Value} {a1 : Value} {r : Bool} (h : ahb fu p25 p46 a0 a1 = some r) {args : List PV} (ha : [aT E a0, aT E a1] = args) (st : St) :
 Sat (Ω.cf 25 args st) (fun q => q = (PV.d (.bool r), st)) := by
 subst ha
 rcases a0 with ⟨aD, aO, bN, ⟨aK, aS⟩, ⟨au, aA⟩, bO, bT, aQ⟩
 rcases a1 with ⟨iL, jT, oQ, ⟨jh, ku⟩, ⟨iU, iV⟩, su, kT, sw⟩
 rw [aR hΩ (f := 25) (fn := Tryz.f25) (x := c25) rfl rfl akG rfl rfl rfl]
 unfold ahb at h
 try dsimp only at h
 conv => arg 1; cbv
 replace h := aW h
 obtain ⟨i11, Kq, h⟩ := h
 refine aI hΩ ((fun (q : Bool) => (match q with | i11 => ([(2, PV.bf (iY E aD aO bN aK aS au aA bO bT aQ)), (3, PV.bf (iY E iL jT oQ jh ku iU iV su kT sw)), (4, vb false), (54, vb i11)], nO :: st))) i11) (fun k hk => ?_) ?_
 clear h
 have h := Kq
 clear Kq
 conv => arg 1; cbv
 revert h; refine bU (fun hb1 h => cv ?_) fun hb1 h => cv ?_
 refine aj hΩ (cv ?_)
 revert h; refine bU (fun hb2 h => cv ?_) fun hb2 h => cv ?_
 revert h; refine bU (fun hb3 h => cv ?_) fun hb3 h => cv ?_
 refine aj hΩ (cv ?_)
 revert h; refine bU (fun hb4 h => cv ?_) fun hb4 h => cv ?_
 revert h; refine bU (fun hb5 h => cv ?_) fun hb5 h => cv ?_
 refine aj hΩ (cv ?_)
 revert h; refine bU (fun hb6 h => cv ?_) fun hb6 h => cv ?_
 refine av hΩ (aF hE) aK fun n7 hn8 => cv ?_
 refine av hΩ (aF hE) jh fun n9 aqP => cv ?_
 refine aj hΩ (cv ?_)
 exact fk h hk
 refine aj hΩ (cv ?_)
 exact fk h hk
 refine aj hΩ (cv ?_)
 refine aj hΩ (cv ?_)
 exact fk h hk
 refine aj hΩ (cv ?_)
 refine aj hΩ (cv ?_)
 exact fk h hk
 refine aj hΩ (cv ?_)
 refine aj hΩ (cv ?_)
 refine aj hΩ (cv ?_)
 exact fk h hk
 refine aj hΩ (cv ?_)
 refine aj hΩ (cv ?_)
 refine aj hΩ (cv ?_)
 exact fk h hk
 refine aj hΩ (cv ?_)
 refine aj hΩ (cv ?_)
 refine aj hΩ (cv ?_)
 refine aj hΩ (cv ?_)
 exact fk h hk
 clear Kq
 try dsimp only at h
 conv => arg 1; cbv
 refine aC hΩ (cv ?_)
 revert h; refine bU (fun EU h => cv ?_) fun EU h => cv ?_
 exact sp h
 replace h := aW h
 obtain ⟨q, Wt, h⟩ := h
 refine dL hΩ (fun (a : Int) => (match a with | zw => ([(2, PV.bf (iY E aD aO bN aK aS au aA bO bT aQ)), (3, PV.bf (iY E iL jT oQ jh ku iU iV su kT sw)), (4, vb false), (5, vi zw)], nO :: st))) (fun (q : Int ⊕ Int) => (match q with | .inl Vu => (.exit 0, [(2, PV.bf (iY E aD aO bN aK aS au aA bO bT aQ)), (3, PV.bf (iY E iL jT oQ jh ku iU iV su kT sw)), (4, vb false), (5, vi Vu)], nO :: st) | .inr o28 => (.ret, [(2, PV.bf (iY E aD aO bN aK aS au aA bO bT aQ)), (3, PV.bf (iY E iL jT oQ jh ku iU iV su kT sw)), (4, vb false), (5, vi o28)], nO :: st))) 0 Wt ?_ ?_
 clear h Wt
 rintro zw q h
 unfold VF at h
 dsimp only at h
 conv => arg 1; cbv
 refine av hΩ (aF hE) aK fun n14 atG => cv ?_
 refine aC hΩ (cv ?_)
 revert h; refine bU (fun qm h => cv ?_) fun qm h => cv ?_
 refine sat_true (bg hΩ (aF hE) aK) (cv ?_)
 replace h := aW h
 obtain ⟨⟨MJ, TG, ajP, ⟨adG, adH⟩, ⟨QB, QC⟩, ajQ, ajR, ajS⟩, u6, h⟩ := h
 try dsimp only at h
 refine aM (bG hΩ (aF hE) u6) (cv ?_)
 refine sat_true (bg hΩ (aF hE) jh) (cv ?_)
 replace h := aW h
 obtain ⟨⟨ajT, ajU, ajV, ⟨adI, adJ⟩, ⟨adK, adL⟩, ajW, ajX, ajY⟩, Wu, h⟩ := h
 try dsimp only at h
 refine aM (bG hΩ (aF hE) Wu) (cv ?_)
 replace h := aW h
 obtain ⟨X5, Kr, h⟩ := h
 refine aH (anT Kr) (cv ?_)
 refine aC hΩ (cv ?_)
 revert h; refine bU (fun yj h => cv ?_) fun yj h => cv ?_
 obtain rfl := fV h
 subst_vars
 exact sR
 obtain rfl := fV h
 subst_vars
 exact s3
 obtain rfl := fV h
 subst_vars
 exact sL
 clear Wt
 rcases q with Vu | o28
 dsimp only at h
 conv => arg 1; cbv
 replace h := aW h
 obtain ⟨r26, hx27, h⟩ := h
 refine aH (aqO hx27) (cv ?_)
 exact sp h
 dsimp only at h
 conv => arg 1; cbv
 exact sp h
set_option maxHeartbeats 4000000 in
theorem aqQ {p25 : Value → Value → Option (Bool)} (anT : H25 Ω E p25) {p46 : (Sl Field) → (Sl Field) → Option (Bool)} (aqO : H46 Ω E p46) {a0 : Sl Field} {a1 : Sl Field} {r : Bool} (h : ahc fu p25 p46 a0 a1 = some r) {args : List PV} (ha : [PV.d (.sl (E.aB a0.l) (E.aG a0.x)), PV.d (.sl (E.aB a1.l) (E.aG a1.x))] = args) (st : St) :
 Sat (Ω.cf 46 args st) (fun q => q = (PV.d (.bool r), st)) := by
 subst ha
 rcases a0 with ⟨ah, aY⟩
 rcases a1 with ⟨aL, dS⟩
 rw [aR hΩ (f := 46) (fn := Tryz.f46) (x := c46) rfl rfl akP rfl rfl rfl]
 unfold ahc at h
 try dsimp only at h
 conv => arg 1; cbv
 refine av hΩ (ak hE) ah fun n1 hn2 => cv ?_
 refine av hΩ (ak hE) aL fun n3 FP => cv ?_
 refine aC hΩ (cv ?_)
 revert h; refine bU (fun hb5 h => cv ?_) fun hb5 h => cv ?_
 exact sp h
 replace h := aW h
 obtain ⟨q, Wt, h⟩ := h
 refine dL hΩ (fun (a : Int) => (match a with | i6 => ([(0, PV.d (.sl (E.aB ah) (E.aG aY))), (1, PV.d (.sl (E.aB aL) (E.aG dS))), (4, vb false), (5, vi i6)], nO :: st))) (fun (q : Int ⊕ Int) => (match q with | .inl Vu => (.exit 0, [(0, PV.d (.sl (E.aB ah) (E.aG aY))), (1, PV.d (.sl (E.aB aL) (E.aG dS))), (4, vb false), (5, vi Vu)], nO :: st) | .inr gB => (.ret, [(0, PV.d (.sl (E.aB ah) (E.aG aY))), (1, PV.d (.sl (E.aB aL) (E.aG dS))), (4, vb false), (5, vi gB)], nO :: st))) 0 Wt ?_ ?_
 clear h Wt
 rintro i6 q h
 unfold QF at h
 dsimp only at h
 conv => arg 1; cbv
 refine av hΩ (ak hE) ah fun n7 hn8 => cv ?_
 refine aC hΩ (cv ?_)
 revert h; refine bU (fun nC h => cv ?_) fun nC h => cv ?_
 replace h := aW h
 obtain ⟨i21, Kt, h⟩ := h
 refine aI hΩ ((fun (q : Bool) => (match q with | i21 => ([(0, PV.d (.sl (E.aB ah) (E.aG aY))), (1, PV.d (.sl (E.aB aL) (E.aG dS))), (4, vb false), (5, vi i6), (41, vb i21)], nO :: st))) i21) (fun k hk => ?_) ?_
 clear h
 have h := Kt
 clear Kt
 conv => arg 1; cbv
 refine sat_true (bg hΩ (ak hE) ah) (cv ?_)
 replace h := aW h
 obtain ⟨⟨jv, ⟨nT, nU, nV, ⟨lu, lC⟩, ⟨lD, lF⟩, nW, nX, nY⟩⟩, mP, h⟩ := h
 try dsimp only at h
 refine aM (bG hΩ (ak hE) mP) (cv ?_)
 refine sat_true (bg hΩ (ak hE) aL) (cv ?_)
 replace h := aW h
 obtain ⟨⟨iX, ⟨uP, uQ, uR, ⟨oK, oN⟩, ⟨oO, oP⟩, uS, uT, uU⟩⟩, mQ, h⟩ := h
 try dsimp only at h
 refine aM (bG hΩ (ak hE) mQ) (cv ?_)
 refine aj hΩ (cv ?_)
 revert h; refine bU (fun nD h => cv ?_) fun nD h => cv ?_
 refine sat_true (bg hΩ (ak hE) ah) (cv ?_)
 replace h := aW h
 obtain ⟨⟨mV, ⟨I8, I9, Ja, ⟨Ct, Cu⟩, ⟨Cv, Cw⟩, Jb, Jc, Jd⟩⟩, hx16, h⟩ := h
 try dsimp only at h
 refine aM (bG hΩ (ak hE) hx16) (cv ?_)
 refine sat_true (bg hΩ (ak hE) aL) (cv ?_)
 replace h := aW h
 obtain ⟨⟨MJ, ⟨adM, adN, adO, ⟨X6, X7⟩, ⟨X8, X9⟩, adP, adQ, adR⟩⟩, u6, h⟩ := h
 try dsimp only at h
 refine aM (bG hΩ (ak hE) u6) (cv ?_)
 replace h := aW h
 obtain ⟨r19, Wu, h⟩ := h
 refine aH (anT Wu) (cv ?_)
 refine aj hΩ (cv ?_)
 exact fk h hk
 refine aj hΩ (cv ?_)
 exact fk h hk
 clear Kt
 try dsimp only at h
 conv => arg 1; cbv
 refine aC hΩ (cv ?_)
 revert h; refine bU (fun yw h => cv ?_) fun yw h => cv ?_
 obtain rfl := fV h
 subst_vars
 exact sR
 obtain rfl := fV h
 subst_vars
 exact s3
 obtain rfl := fV h
 subst_vars
 exact sL
 clear Wt
 rcases q with Vu | gB
 dsimp only at h
 conv => arg 1; cbv
 exact sp h
 dsimp only at h
 conv => arg 1; cbv
 exact sp h
theorem aqR : ∀ fu,
 (∀ {a0 : Value} {a1 : Value} {r : Bool}, VG fu a0 a1 = some r → ∀ {args : List PV}, [aT E a0, aT E a1] = args → ∀ (st : St), Sat (Ω.cf 25 args st) (fun q => q = (PV.d (.bool r), st))) ∧
 (∀ {a0 : Sl Field} {a1 : Sl Field} {r : Bool}, P46 fu a0 a1 = some r → ∀ {args : List PV}, [PV.d (.sl (E.aB a0.l) (E.aG a0.x)), PV.d (.sl (E.aB a1.l) (E.aG a1.x))] = args → ∀ (st : St), Sat (Ω.cf 46 args st) (fun q => q = (PV.d (.bool r), st))) := by
 intro fu
 induction fu with
 | zero => exact ⟨(fun h => (by cases h)), (fun h => (by cases h))⟩
 | succ fu ih =>
  obtain ⟨i25, i46⟩ := ih
  exact ⟨(fun h => @fun args ha st => aqN (fu := fu) hΩ hE i25 i46 h ha st), (fun h => @fun args ha st => aqQ (fu := fu) hΩ hE i25 i46 h ha st)⟩
theorem aqS : ∀ {a0 : Value} {a1 : Value} {r : Bool}, VG fu a0 a1 = some r → ∀ {args : List PV}, [aT E a0, aT E a1] = args → ∀ (st : St), Sat (Ω.cf 25 args st) (fun q => q = (PV.d (.bool r), st)) := (aqR hΩ hE fu).1
set_option maxHeartbeats 4000000 in
theorem asq {a0 : Sl Cell} {r : Bool} (h : P10 fu a0 = some r) {args : List PV} (ha : [PV.d (.sl (E.bM a0.l) (E.bX a0.x))] = args) (st : St) :
 Sat (Ω.cf 10 args st) (fun q => q = (PV.d (.bool r), st)) := by
 subst ha
 rcases a0 with ⟨ah, aY⟩
 rw [aR hΩ (f := 10) (fn := Tryz.f10) (x := c10) rfl rfl akB rfl rfl rfl]
 unfold P10 at h
 try dsimp only at h
 conv => arg 1; cbv
 replace h := aW h
 obtain ⟨q, ais, h⟩ := h
 refine dL hΩ (fun (a : Bool × Int) => (match a with | (i1, i2) => ([(0, PV.d (.sl (E.bM ah) (E.bX aY))), (2, vb i1), (3, vi i2)], nO :: st))) (fun (q : (Bool × Int) ⊕ (Bool × Int)) => (match q with | .inl (xu, Z7) => (.exit 0, [(0, PV.d (.sl (E.bM ah) (E.bX aY))), (2, vb xu), (3, vi Z7)], nO :: st) | .inr (Ye, o22) => (.ret, [(0, PV.d (.sl (E.bM ah) (E.bX aY))), (2, vb Ye), (3, vi o22)], nO :: st))) (false, 0) ais ?_ ?_
 clear h ais
 rintro ⟨i1, i2⟩ q h
 unfold Ju at h
 dsimp only at h
 conv => arg 1; cbv
 refine av hΩ (aV hE) ah fun n3 FP => cv ?_
 refine aC hΩ (cv ?_)
 revert h; refine bU (fun hb5 h => cv ?_) fun hb5 h => cv ?_
 replace h := aW h
 obtain ⟨TL, anU, h⟩ := h
 refine aI hΩ ((fun (q : Bool) => (match q with | TL => ([(0, PV.d (.sl (E.bM ah) (E.bX aY))), (2, vb i1), (3, vi i2), (29, vb TL)], nO :: st))) TL) (fun k hk => ?_) ?_
 clear h
 have h := anU
 clear anU
 conv => arg 1; cbv
 refine sat_true (bg hΩ (aV hE) ah) (cv ?_)
 replace h := aW h
 obtain ⟨⟨sj, vK, ⟨Cy, Cz, CB, ⟨uH, uI⟩, ⟨uJ, uK⟩, CG, CJ, CK⟩, ⟨CO, CP, CQ, ⟨uL, uM⟩, ⟨uN, uO⟩, CS, CU, CV⟩, ⟨mW, mX⟩, ⟨CW, CX⟩, ⟨CY, CZ⟩, ⟨C8, C9⟩, Pj, Pk, ⟨Da, Db⟩, ⟨Dc, Df⟩⟩, hx7, h⟩ := h
 try dsimp only at h
 refine aM (bG hΩ (aV hE) hx7) (cv ?_)
 revert h; refine bU (fun vL h => cv ?_) fun vL h => cv ?_
 refine sat_true (bg hΩ (aV hE) ah) (cv ?_)
 replace h := aW h
 obtain ⟨⟨alC, agZ, ⟨XM, XP, XQ, ⟨Pp, Pq⟩, ⟨Pt, Pv⟩, XR, XT, XU⟩, ⟨ado, adp, adq, ⟨Vz, VA⟩, ⟨VB, VD⟩, adr, ads, adt⟩, ⟨adu, adv⟩, ⟨adw, adx⟩, ⟨ady, adz⟩, ⟨adA, adB⟩, alD, alE, ⟨adC, adD⟩, ⟨adE, adF⟩⟩, EO, h⟩ := h
 try dsimp only at h
 refine aM (bG hΩ (aV hE) EO) (cv ?_)
 refine aj hΩ (cv ?_)
 refine sat_true (bg hΩ (aV hE) ah) (cv ?_)
 replace h := aW h
 obtain ⟨⟨qb, aqa, ⟨al1, al2, al3, ⟨ahd, ahe⟩, ⟨ahf, ahg⟩, al4, al5, al6⟩, ⟨adS, adT, adU, ⟨Ya, Yb⟩, ⟨Yc, Yd⟩, adV, adW, adX⟩, ⟨al7, al8⟩, ⟨al9, ama⟩, ⟨amb, amc⟩, ⟨amd, ame⟩, aqb, aqc, ⟨amf, amg⟩, ⟨amh, ami⟩⟩, AZ, h⟩ := h
 try dsimp only at h
 refine aM (bG hΩ (aV hE) AZ) (cv ?_)
 replace h := aW h
 obtain ⟨r13, EP, h⟩ := h
 refine aH (aqS hΩ hE EP) (cv ?_)
 exact fk h hk
 refine aj hΩ (cv ?_)
 exact fk h hk
 clear anU
 try dsimp only at h
 conv => arg 1; cbv
 refine aC hΩ (cv ?_)
 revert h; refine bU (fun qm h => cv ?_) fun qm h => cv ?_
 obtain rfl := fV h
 subst_vars
 exact sR
 obtain rfl := fV h
 subst_vars
 exact s3
 obtain rfl := fV h
 subst_vars
 exact sL
 clear ais
 rcases q with ⟨xu, Z7⟩ | ⟨Ye, o22⟩
 dsimp only at h
 conv => arg 1; cbv
 exact sp h
 dsimp only at h
 conv => arg 1; cbv
 exact sp h
set_option maxHeartbeats 4000000 in
theorem asr {a0 : Sl Value} {a1 : (Value → Option (Bool))} {kT : Nat} (hf : ∀ {x0 : Value} {r : Bool}, a1 x0 = some r → ∀ {args : List PV}, [aT E x0] = args → ∀ (st : St), Sat (Ω.cf kT args st) (fun q => q = (PV.d (.bool r), st))) {r : Int} (h : P74 fu a0 a1 = some r) {args : List PV} (ha : [PV.d (.sl (E.aN a0.l) (E.aU a0.x)), PV.d (.fn kT [])] = args) (st : St) :
 Sat (Ω.cf 74 args st) (fun q => q = (PV.d (.int .i64 r), st)) := by
 subst ha
 rcases a0 with ⟨ah, aY⟩
 rw [aR hΩ (f := 74) (fn := Tryz.f74) (x := c74) rfl rfl ab3 rfl rfl rfl]
 unfold P74 at h
 try dsimp only at h
 conv => arg 1; cbv
 refine av hΩ (aF hE) ah fun n1 hn2 => cv ?_
 replace h := aW h
 obtain ⟨q, Kn, h⟩ := h
 refine dL hΩ (fun (a : Int × Int) => (match a with | (i3, i4) => ([(0, PV.d (.sl (E.aN ah) (E.aU aY))), (1, PV.d (.fn kT [])), (4, vi i3), (7, vi n1), (8, vi i4)], nO :: st))) (fun (q : (Int × Int) ⊕ (Int × Int)) => (match q with | .inl (wX, Ph) => (.exit 0, [(0, PV.d (.sl (E.aN ah) (E.aU aY))), (1, PV.d (.fn kT [])), (4, vi wX), (7, vi n1), (8, vi Ph)], nO :: st) | .inr (Mj, KS) => (.ret, [(0, PV.d (.sl (E.aN ah) (E.aU aY))), (1, PV.d (.fn kT [])), (4, vi Mj), (7, vi n1), (8, vi KS)], nO :: st))) (0, 0) Kn ?_ ?_
 clear h Kn
 rintro ⟨i3, i4⟩ q h
 unfold QG at h
 dsimp only at h
 conv => arg 1; cbv
 refine aC hΩ (cv ?_)
 revert h; refine bU (fun hb5 h => cv ?_) fun hb5 h => cv ?_
 refine sat_true (bg hΩ (aF hE) ah) (cv ?_)
 replace h := aW h
 obtain ⟨⟨sj, vK, TM, ⟨FL, FM⟩, ⟨mW, mX⟩, TN, TP, TQ⟩, hx7, h⟩ := h
 try dsimp only at h
 refine aM (bG hΩ (aF hE) hx7) (cv ?_)
 replace h := aW h
 obtain ⟨r8, Uh, h⟩ := h
 refine aH (hf Uh) (cv ?_)
 refine aC hΩ (cv ?_)
 revert h; refine bU (fun jo h => cv ?_) fun jo h => cv ?_
 obtain rfl := fV h
 subst_vars
 exact sR
 obtain rfl := fV h
 subst_vars
 exact s3
 obtain rfl := fV h
 subst_vars
 exact sL
 clear Kn
 rcases q with ⟨wX, Ph⟩ | ⟨Mj, KS⟩
 dsimp only at h
 conv => arg 1; cbv
 exact sp h
 dsimp only at h
 conv => arg 1; cbv
 exact sp h
set_option maxHeartbeats 4000000 in
theorem asu {a0 : Sl Value} {a1 : (Value → Option (Bool))} {kT : Nat} (hf : ∀ {x0 : Value} {r : Bool}, a1 x0 = some r → ∀ {args : List PV}, [aT E x0] = args → ∀ (st : St), Sat (Ω.cf kT args st) (fun q => q = (PV.d (.bool r), st))) {r : Bool} (h : P47 fu a0 a1 = some r) {args : List PV} (ha : [PV.d (.sl (E.aN a0.l) (E.aU a0.x)), PV.d (.fn kT [])] = args) (st : St) :
 Sat (Ω.cf 47 args st) (fun q => q = (PV.d (.bool r), st)) := by
 subst ha
 rcases a0 with ⟨ah, aY⟩
 rw [aR hΩ (f := 47) (fn := Tryz.f47) (x := c47) rfl rfl abN rfl rfl rfl]
 unfold P47 at h
 try dsimp only at h
 conv => arg 1; cbv
 replace h := aW h
 obtain ⟨r1, hx2, h⟩ := h
 refine gW (asr hΩ hE (hf := hf) hx2 (by (try clear h); subst_vars; rfl) _) (cv ?_)
 exact sp h
set_option maxHeartbeats 4000000 in
theorem aqT {a0 : ByteArray} {r : Bool} (h : P88 fu a0 = some r) {args : List PV} (ha : [PV.d (.str a0)] = args) (st : St) :
 Sat (Ω.cf 88 args st) (fun q => q = (PV.d (.bool r), st)) := by
 subst ha
 rw [aR hΩ (f := 88) (fn := Tryz.f88) (x := c88) rfl rfl ab8 rfl rfl rfl]
 unfold P88 at h
 try dsimp only at h
 conv => arg 1; cbv
 replace h := aW h
 obtain ⟨i2, hq3, h⟩ := h
 refine aI hΩ ((fun (q : Bool) => (match q with | i2 => ([(2, vb i2)], nO :: st))) i2) (fun k hk => ?_) ?_
 clear h
 have h := hq3
 clear hq3
 conv => arg 1; cbv
 revert h; refine bU (fun hb1 h => cv ?_) fun hb1 h => cv ?_
 exact fk h hk
 exact fk h hk
 clear hq3
 try dsimp only at h
 conv => arg 1; cbv
 exact sp h
set_option maxHeartbeats 4000000 in
theorem aqU {a0 : Int} {r : (Sl ByteArray) × Bool} (h : adY fu a0 = some r) {args : List PV} (ha : [PV.d (.int .u8 a0)] = args) (st : St) :
 Sat (Ω.cf 100 args st) (fun q => q = (PV.yV [PV.d (.sl (E.fQ r.1.l) (E.iA r.1.x)), PV.d (.bool r.2)], st)) := by
 subst ha
 rw [aR hΩ (f := 100) (fn := Tryz.f100) (x := ald) rfl rfl Xt rfl rfl rfl]
 unfold adY at h
 try dsimp only at h
 conv => arg 1; cbv
 replace h := aW h
 obtain ⟨q, Wv, h⟩ := h
 refine aI hΩ ((fun (q : Unit ⊕ ((List ByteArray) × (Option (List ByteArray)))) => (match q with | .inl _ => (.normal, [(0, PV.d (.int .u8 a0)), (2, PV.d (.sl [] (some []))), (3, vb false), (4, PV.d (.int .u8 a0))], nO :: st) | .inr (Yj, Yk) => (.ret, [(0, PV.d (.int .u8 a0)), (2, PV.d (.sl (E.fQ Yj) (E.iA Yk))), (3, vb true), (4, PV.d (.int .u8 a0))], nO :: st))) q) (fun k hk => ?_) ?_
 clear h
 have h := Wv
 clear Wv
 conv => arg 1; cbv
 revert h; refine bU (fun hb1 h => cv ?_) fun hb1 h => cv ?_
 exact fk h hk
 replace h := aW h
 obtain ⟨q, anV, h⟩ := h
 refine aI hΩ ((fun (q : Unit ⊕ ((List ByteArray) × (Option (List ByteArray)))) => (match q with | .inl _ => (.normal, [(0, PV.d (.int .u8 a0)), (2, PV.d (.sl [] (some []))), (3, vb false), (4, PV.d (.int .u8 a0))], nO :: st) | .inr (Yh, Yi) => (.ret, [(0, PV.d (.int .u8 a0)), (2, PV.d (.sl (E.fQ Yh) (E.iA Yi))), (3, vb true), (4, PV.d (.int .u8 a0))], nO :: st))) q) (fun k hk => ?_) ?_
 clear h
 have h := anV
 clear anV
 conv => arg 1; cbv
 revert h; refine bU (fun hb2 h => cv ?_) fun hb2 h => cv ?_
 replace h := aW h
 obtain ⟨l3, hx4, h⟩ := h
 have hL5 : ([[.str (⟨#[97, 103, 97, 105, 110]⟩ : ByteArray)], [.str (⟨#[101, 108, 115, 101]⟩ : ByteArray)]] : List (List D)) = E.fQ l3 := by (have hy := Option.some.inj hx4; clear h; subst hy; subst hE; rfl)
 rw [hL5]
 clear hL5
 conv => arg 1; cbv
 exact fk h hk
 replace h := aW h
 obtain ⟨q, hq12, h⟩ := h
 refine aI hΩ ((fun (q : Unit ⊕ ((List ByteArray) × (Option (List ByteArray)))) => (match q with | .inl _ => (.normal, [(0, PV.d (.int .u8 a0)), (2, PV.d (.sl [] (some []))), (3, vb false), (4, PV.d (.int .u8 a0))], nO :: st) | .inr (Yf, Yg) => (.ret, [(0, PV.d (.int .u8 a0)), (2, PV.d (.sl (E.fQ Yf) (E.iA Yg))), (3, vb true), (4, PV.d (.int .u8 a0))], nO :: st))) q) (fun k hk => ?_) ?_
 clear h
 have h := hq12
 clear hq12
 conv => arg 1; cbv
 revert h; refine bU (fun hb6 h => cv ?_) fun hb6 h => cv ?_
 exact fk h hk
 replace h := aW h
 obtain ⟨i8, Ww, h⟩ := h
 refine aI hΩ ((fun (q : Bool) => (match q with | i8 => (.normal, [(0, PV.d (.int .u8 a0)), (2, PV.d (.sl [] (some []))), (3, vb false), (4, PV.d (.int .u8 a0)), (14, vb i8)], nO :: st))) i8) (fun k hk => ?_) ?_
 clear h
 have h := Ww
 clear Ww
 conv => arg 1; cbv
 revert h; refine bU (fun AX h => cv ?_) fun AX h => cv ?_
 exact fk h hk
 exact fk h hk
 clear Ww
 try dsimp only at h
 conv => arg 1; cbv
 refine aC hΩ (cv ?_)
 revert h; refine bU (fun nC h => cv ?_) fun nC h => cv ?_
 exact fk h hk
 exact fk h hk
 clear hq12
 rcases q with _ | ⟨Yf, Yg⟩
 try dsimp only at h
 conv => arg 1; cbv
 exact fk h hk
 try dsimp only at h
 conv => arg 1; cbv
 exact fk h hk
 clear anV
 rcases q with _ | ⟨Yh, Yi⟩
 try dsimp only at h
 conv => arg 1; cbv
 exact fk h hk
 try dsimp only at h
 conv => arg 1; cbv
 exact fk h hk
 clear Wv
 rcases q with _ | ⟨Yj, Yk⟩
 try dsimp only at h
 conv => arg 1; cbv
 exact sp h
 try dsimp only at h
 conv => arg 1; cbv
 exact sp h
set_option maxHeartbeats 4000000 in
theorem aqV {a0 : Sl Field} {a1 : Sl ByteArray} {a2 : (Field → ByteArray → Option (Bool))} {ql : Nat} (hf : ∀ {x0 : Field} {x1 : ByteArray} {r : Bool}, a2 x0 x1 = some r → ∀ {args : List PV}, [eU E x0, PV.d (.str x1)] = args → ∀ (st : St), Sat (Ω.cf ql args st) (fun q => q = (PV.d (.bool r), st))) {r : Bool} (h : adZ fu a0 a1 a2 = some r) {args : List PV} (ha : [PV.d (.sl (E.aB a0.l) (E.aG a0.x)), PV.d (.sl (E.fQ a1.l) (E.iA a1.x)), PV.d (.fn ql [])] = args) (st : St) :
 Sat (Ω.cf 101 args st) (fun q => q = (PV.d (.bool r), st)) := by
 subst ha
 rcases a0 with ⟨ah, aY⟩
 rcases a1 with ⟨aL, dS⟩
 rw [aR hΩ (f := 101) (fn := Tryz.f101) (x := ale) rfl rfl Xu rfl rfl rfl]
 unfold adZ at h
 try dsimp only at h
 conv => arg 1; cbv
 refine av hΩ (ak hE) ah fun n1 hn2 => cv ?_
 refine av hΩ (d9 hE) aL fun n3 FP => cv ?_
 refine aC hΩ (cv ?_)
 revert h; refine bU (fun hb5 h => cv ?_) fun hb5 h => cv ?_
 exact sp h
 refine av hΩ (ak hE) ah fun n6 hn7 => cv ?_
 replace h := aW h
 obtain ⟨q, l7, h⟩ := h
 refine dL hΩ (fun (a : Int) => (match a with | i8 => ([(1, PV.d (.sl (E.fQ aL) (E.iA dS))), (2, PV.d (.fn ql [])), (6, vb false), (15, PV.d (.sl (E.aB ah) (E.aG aY))), (16, vi n6), (17, vi i8)], nO :: st))) (fun (q : Int ⊕ Int) => (match q with | .inl rA => (.exit 0, [(1, PV.d (.sl (E.fQ aL) (E.iA dS))), (2, PV.d (.fn ql [])), (6, vb false), (15, PV.d (.sl (E.aB ah) (E.aG aY))), (16, vi n6), (17, vi rA)], nO :: st) | .inr xu => (.ret, [(1, PV.d (.sl (E.fQ aL) (E.iA dS))), (2, PV.d (.fn ql [])), (6, vb false), (15, PV.d (.sl (E.aB ah) (E.aG aY))), (16, vi n6), (17, vi xu)], nO :: st))) 0 l7 ?_ ?_
 clear h l7
 rintro i8 q h
 unfold Dk at h
 dsimp only at h
 conv => arg 1; cbv
 refine aC hΩ (cv ?_)
 revert h; refine bU (fun nC h => cv ?_) fun nC h => cv ?_
 refine sat_true (bg hΩ (ak hE) ah) (cv ?_)
 replace h := aW h
 obtain ⟨⟨jv, ⟨nT, nU, nV, ⟨lu, lC⟩, ⟨lD, lF⟩, nW, nX, nY⟩⟩, mP, h⟩ := h
 try dsimp only at h
 refine aM (bG hΩ (ak hE) mP) (cv ?_)
 refine sat_true (bg hΩ (d9 hE) aL) (cv ?_)
 replace h := aW h
 obtain ⟨Z8, mQ, h⟩ := h
 refine aM (bG hΩ (d9 hE) mQ) (cv ?_)
 replace h := aW h
 obtain ⟨FK, yA, h⟩ := h
 refine aH (hf yA) (cv ?_)
 refine aC hΩ (cv ?_)
 revert h; refine bU (fun qm h => cv ?_) fun qm h => cv ?_
 obtain rfl := fV h
 subst_vars
 exact sR
 obtain rfl := fV h
 subst_vars
 exact s3
 obtain rfl := fV h
 subst_vars
 exact sL
 clear l7
 rcases q with rA | xu
 dsimp only at h
 conv => arg 1; cbv
 exact sp h
 dsimp only at h
 conv => arg 1; cbv
 exact sp h
set_option maxHeartbeats 4000000 in
theorem aqW {a0 : Field} {a1 : ByteArray} {r : Bool} (h : Z9 fu a0 a1 = some r) {args : List PV} (ha : [eU E a0, PV.d (.str a1)] = args) (st : St) :
 Sat (Ω.cf 102 args st) (fun q => q = (PV.d (.bool r), st)) := by
 subst ha
 rcases a0 with ⟨aD, ⟨og, oh, om, ⟨kM, kN⟩, ⟨kP, kQ⟩, oo, oq, ou⟩⟩
 rw [aR hΩ (f := 102) (fn := Tryz.f102) (x := alf) rfl rfl Xv rfl rfl rfl]
 unfold Z9 at h
 try dsimp only at h
 conv => arg 1; cbv
 exact sp h
set_option maxHeartbeats 4000000 in
theorem asv {a0 : Value} {r : Bool} (h : P89 fu a0 = some r) {args : List PV} (ha : [aT E a0] = args) (st : St) :
 Sat (Ω.cf 89 args st) (fun q => q = (PV.d (.bool r), st)) := by
 subst ha
 rcases a0 with ⟨aD, aO, bN, ⟨aK, aS⟩, ⟨au, aA⟩, bO, bT, aQ⟩
 rw [aR hΩ (f := 89) (fn := Tryz.f89) (x := c89) rfl rfl ab9 rfl rfl rfl]
 unfold P89 at h
 try dsimp only at h
 conv => arg 1; cbv
 replace h := aW h
 obtain ⟨i2, anW, h⟩ := h
 refine aI hΩ ((fun (q : Bool) => (match q with | i2 => ([(1, PV.bf (iY E aD aO bN aK aS au aA bO bT aQ)), (2, vb false), (12, vb i2)], nO :: st))) i2) (fun k hk => ?_) ?_
 clear h
 have h := anW
 clear anW
 conv => arg 1; cbv
 revert h; refine bU (fun hb1 h => cv ?_) fun hb1 h => cv ?_
 exact fk h hk
 exact fk h hk
 clear anW
 try dsimp only at h
 conv => arg 1; cbv
 replace h := aW h
 obtain ⟨i4, anX, h⟩ := h
 refine aI hΩ ((fun (q : Bool) => (match q with | i4 => ([(1, PV.bf (iY E aD aO bN aK aS au aA bO bT aQ)), (2, vb false), (17, vb i4)], nO :: st))) i4) (fun k hk => ?_) ?_
 clear h
 have h := anX
 clear anX
 conv => arg 1; cbv
 revert h; refine bU (fun hb3 h => cv ?_) fun hb3 h => cv ?_
 exact fk h hk
 exact fk h hk
 clear anX
 try dsimp only at h
 conv => arg 1; cbv
 replace h := aW h
 obtain ⟨i6, anY, h⟩ := h
 refine aI hΩ ((fun (q : Bool) => (match q with | i6 => ([(1, PV.bf (iY E aD aO bN aK aS au aA bO bT aQ)), (2, vb false), (23, vb i6)], nO :: st))) i6) (fun k hk => ?_) ?_
 clear h
 have h := anY
 clear anY
 conv => arg 1; cbv
 revert h; refine bU (fun hb5 h => cv ?_) fun hb5 h => cv ?_
 exact fk h hk
 exact fk h hk
 clear anY
 try dsimp only at h
 conv => arg 1; cbv
 replace h := aW h
 obtain ⟨i9, Kq, h⟩ := h
 refine aI hΩ ((fun (q : Bool) => (match q with | i9 => ([(1, PV.bf (iY E aD aO bN aK aS au aA bO bT aQ)), (2, vb false), (33, vb i9)], nO :: st))) i9) (fun k hk => ?_) ?_
 clear h
 have h := Kq
 clear Kq
 conv => arg 1; cbv
 revert h; refine bU (fun AX h => cv ?_) fun AX h => cv ?_
 revert h; refine bU (fun vL h => cv ?_) fun vL h => cv ?_
 exact fk h hk
 exact fk h hk
 exact fk h hk
 clear Kq
 try dsimp only at h
 conv => arg 1; cbv
 refine aC hΩ (cv ?_)
 revert h; refine bU (fun jo h => cv ?_) fun jo h => cv ?_
 exact sp h
 replace h := aW h
 obtain ⟨⟨⟨FI, FJ⟩, r12⟩, mQ, h⟩ := h
 try dsimp only at h
 refine aH (aqU hΩ hE mQ) (cv ?_)
 replace h := aW h
 obtain ⟨i17, Wx, h⟩ := h
 refine aI hΩ ((fun (q : Bool) => (match q with | i17 => ([(1, PV.bf (iY E aD aO bN aK aS au aA bO bT aQ)), (2, vb false), (3, PV.d (.sl (E.fQ FI) (E.iA FJ))), (4, vb r12), (47, vb i17)], nO :: st))) i17) (fun k hk => ?_) ?_
 clear h
 have h := Wx
 clear Wx
 conv => arg 1; cbv
 revert h; refine bU (fun nD h => cv ?_) fun nD h => cv ?_
 replace h := aW h
 obtain ⟨sJ, hx16, h⟩ := h
 refine gW (aqV hΩ hE (hf := fun h => @fun args ha st => aqW hΩ hE h ha st) hx16 (by (try clear h); subst_vars; rfl) _) (cv ?_)
 exact fk h hk
 exact fk h hk
 clear Wx
 try dsimp only at h
 conv => arg 1; cbv
 refine aC hΩ (cv ?_)
 revert h; refine bU (fun vk h => cv ?_) fun vk h => cv ?_
 exact sp h
 replace h := aW h
 obtain ⟨i23, qj, h⟩ := h
 refine aI hΩ ((fun (q : Bool) => (match q with | i23 => (.normal, [(1, PV.bf (iY E aD aO bN aK aS au aA bO bT aQ)), (2, vb false), (3, PV.d (.sl (E.fQ FI) (E.iA FJ))), (4, vb r12), (49, PV.d (.int .u8 bO)), (50, vb i23)], nO :: st))) i23) (fun k hk => ?_) ?_
 clear h
 have h := qj
 clear qj
 conv => arg 1; cbv
 revert h; refine bU (fun anZ h => cv ?_) fun anZ h => cv ?_
 exact fk h hk
 replace h := aW h
 obtain ⟨i21, qo, h⟩ := h
 refine aI hΩ ((fun (q : Bool) => (match q with | i21 => (.normal, [(1, PV.bf (iY E aD aO bN aK aS au aA bO bT aQ)), (2, vb false), (3, PV.d (.sl (E.fQ FI) (E.iA FJ))), (4, vb r12), (49, PV.d (.int .u8 bO)), (50, vb i21)], nO :: st))) i21) (fun k hk => ?_) ?_
 clear h
 have h := qo
 clear qo
 conv => arg 1; cbv
 revert h; refine bU (fun nZ h => cv ?_) fun nZ h => cv ?_
 exact fk h hk
 exact fk h hk
 clear qo
 try dsimp only at h
 conv => arg 1; cbv
 exact fk h hk
 clear qj
 try dsimp only at h
 conv => arg 1; cbv
 refine aC hΩ (cv ?_)
 revert h; refine bU (fun yt h => cv ?_) fun yt h => cv ?_
 exact sp h
 replace h := aW h
 obtain ⟨Yl, rJ, h⟩ := h
 refine aH (aqT hΩ hE rJ) (cv ?_)
 exact sp h
set_option maxHeartbeats 4000000 in
theorem aqX {a0 : Sl Int} {a1 : Int} {r : Int} (h : ahh fu a0 a1 = some r) {args : List PV} (ha : [PV.d (.sl (E.gI a0.l) (E.gY a0.x)), PV.d (.int .u8 a1)] = args) (st : St) :
 Sat (Ω.cf 103 args st) (fun q => q = (PV.d (.int .i64 r), st)) := by
 subst ha
 rcases a0 with ⟨ah, aY⟩
 rw [aR hΩ (f := 103) (fn := Tryz.f103) (x := alg) rfl rfl Xw rfl rfl rfl]
 unfold ahh at h
 try dsimp only at h
 conv => arg 1; cbv
 refine av hΩ (yP hE) ah fun n1 hn2 => cv ?_
 replace h := aW h
 obtain ⟨q, hl9, h⟩ := h
 refine dL hΩ (fun (a : Int × Int) => (match a with | (i3, i4) => ([(0, PV.d (.sl (E.gI ah) (E.gY aY))), (1, PV.d (.int .u8 a1)), (4, vi i3), (7, vi n1), (8, vi i4)], nO :: st))) (fun (q : (Int × Int) ⊕ (Int × Int)) => (match q with | .inl (o10, K4) => (.exit 0, [(0, PV.d (.sl (E.gI ah) (E.gY aY))), (1, PV.d (.int .u8 a1)), (4, vi o10), (7, vi n1), (8, vi K4)], nO :: st) | .inr (wX, Ph) => (.ret, [(0, PV.d (.sl (E.gI ah) (E.gY aY))), (1, PV.d (.int .u8 a1)), (4, vi wX), (7, vi n1), (8, vi Ph)], nO :: st))) (0, 0) hl9 ?_ ?_
 clear h hl9
 rintro ⟨i3, i4⟩ q h
 unfold GL at h
 dsimp only at h
 conv => arg 1; cbv
 refine aC hΩ (cv ?_)
 revert h; refine bU (fun hb5 h => cv ?_) fun hb5 h => cv ?_
 refine sat_true (bg hΩ (yP hE) ah) (cv ?_)
 replace h := aW h
 obtain ⟨x6, hx7, h⟩ := h
 refine aM (bG hΩ (yP hE) hx7) (cv ?_)
 refine aC hΩ (cv ?_)
 revert h; refine bU (fun vL h => cv ?_) fun vL h => cv ?_
 obtain rfl := fV h
 subst_vars
 exact sR
 obtain rfl := fV h
 subst_vars
 exact s3
 obtain rfl := fV h
 subst_vars
 exact sL
 clear hl9
 rcases q with ⟨o10, K4⟩ | ⟨wX, Ph⟩
 dsimp only at h
 conv => arg 1; cbv
 exact sp h
 dsimp only at h
 conv => arg 1; cbv
 exact sp h
set_option maxHeartbeats 4000000 in
theorem asw {a0 : Sl Int} {a1 : Int} {r : Bool} (h : P91 fu a0 a1 = some r) {args : List PV} (ha : [PV.d (.sl (E.gI a0.l) (E.gY a0.x)), PV.d (.int .u8 a1)] = args) (st : St) :
 Sat (Ω.cf 91 args st) (fun q => q = (PV.d (.bool r), st)) := by
 subst ha
 rcases a0 with ⟨ah, aY⟩
 rw [aR hΩ (f := 91) (fn := Tryz.f91) (x := c91) rfl rfl ace rfl rfl rfl]
 unfold P91 at h
 try dsimp only at h
 conv => arg 1; cbv
 replace h := aW h
 obtain ⟨r1, hx2, h⟩ := h
 refine aH (aqX hΩ hE hx2) (cv ?_)
 exact sp h
set_option maxHeartbeats 4000000 in
theorem Ku {a0 : Sl Int} {a1 : Value} {r : Bool} (h : Dl fu a0 a1 = some r) {args : List PV} (ha : [PV.d (.sl (E.gI a0.l) (E.gY a0.x)), PV.bf (Co E a1)] = args) (st : St) :
 Sat (Ω.cf 90 args st) (fun q => q = (PV.d (.bool r), st)) := by
 subst ha
 rcases a0 with ⟨ah, aY⟩
 rcases a1 with ⟨iL, jT, oQ, ⟨jh, ku⟩, ⟨iU, iV⟩, su, kT, sw⟩
 rw [aR hΩ (f := 90) (fn := Tryz.f90) (x := c90) rfl rfl acd rfl rfl rfl]
 unfold Dl at h
 try dsimp only at h
 conv => arg 1; cbv
 replace h := aW h
 obtain ⟨r1, hx2, h⟩ := h
 refine aH (asw hΩ hE hx2) (cv ?_)
 exact sp h
set_option maxHeartbeats 4000000 in
theorem asx {a0 : Value} {r : Bool} (h : P77 fu a0 = some r) {args : List PV} (ha : [aT E a0] = args) (st : St) :
 Sat (Ω.cf 77 args st) (fun q => q = (PV.d (.bool r), st)) := by
 subst ha
 rcases a0 with ⟨aD, aO, bN, ⟨aK, aS⟩, ⟨au, aA⟩, bO, bT, aQ⟩
 rw [aR hΩ (f := 77) (fn := Tryz.f77) (x := c77) rfl rfl ab6 rfl rfl rfl]
 unfold P77 at h
 try dsimp only at h
 conv => arg 1; cbv
 refine av hΩ (ak hE) au fun n1 hn2 => cv ?_
 replace h := aW h
 obtain ⟨q, an0, h⟩ := h
 refine dL hΩ (fun (a : Int) => (match a with | i3 => ([(1, PV.bf (iY E aD aO bN aK aS au aA bO bT aQ)), (2, vb false), (7, PV.d (.sl (E.aB au) (E.aG aA))), (8, vi n1), (9, vi i3)], nO :: st))) (fun (q : Int ⊕ Int) => (match q with | .inl Mk => (.exit 0, [(1, PV.bf (iY E aD aO bN aK aS au aA bO bT aQ)), (2, vb false), (7, PV.d (.sl (E.aB au) (E.aG aA))), (8, vi n1), (9, vi Mk)], nO :: st) | .inr o74 => (.ret, [(1, PV.bf (iY E aD aO bN aK aS au aA bO bT aQ)), (2, vb false), (7, PV.d (.sl (E.aB au) (E.aG aA))), (8, vi n1), (9, vi o74)], nO :: st))) 0 an0 ?_ ?_
 clear h an0
 rintro i3 q h
 unfold Jv at h
 dsimp only at h
 conv => arg 1; cbv
 refine aC hΩ (cv ?_)
 revert h; refine bU (fun hb4 h => cv ?_) fun hb4 h => cv ?_
 refine sat_true (bg hΩ (ak hE) au) (cv ?_)
 replace h := aW h
 obtain ⟨⟨qB, ⟨xG, xH, xI, ⟨qc, qd⟩, ⟨qg, qh⟩, xJ, xK, xL⟩⟩, hx6, h⟩ := h
 try dsimp only at h
 refine aM (bG hΩ (ak hE) hx6) (cv ?_)
 replace h := aW h
 obtain ⟨zw, A8, h⟩ := h
 refine aI hΩ ((fun (q : Bool) => (match q with | zw => ([(1, PV.bf (iY E aD aO bN aK aS au aA bO bT aQ)), (2, vb false), (3, vi i3), (4, PV.ptr 0 0 0), (7, PV.d (.sl (E.aB au) (E.aG aA))), (8, vi n1), (9, vi i3), (33, vb zw)], ([X.Obj.box 67 (zP0 E qB xG xH xI qc qd qg qh xJ xK xL)] : List X.Obj) :: st))) zw) (fun k hk => ?_) ?_
 clear h
 have h := A8
 clear A8
 conv => arg 1; cbv
 replace h := aW h
 obtain ⟨r7, AY, h⟩ := h
 refine aH (aqT hΩ hE AY) (cv ?_)
 revert h; refine bU (fun nC h => cv ?_) fun nC h => cv ?_
 revert h; refine bU (fun jo h => cv ?_) fun jo h => cv ?_
 refine aj hΩ (cv ?_)
 refine sat_true (bg hΩ (ak hE) au) (cv ?_)
 replace h := aW h
 obtain ⟨⟨qb, ⟨AL, AO, AP, ⟨uV, uW⟩, ⟨uX, uY⟩, AQ, AU, AV⟩⟩, AZ, h⟩ := h
 try dsimp only at h
 refine aM (bG hΩ (ak hE) AZ) (cv ?_)
 exact fk h hk
 refine aj hΩ (cv ?_)
 exact fk h hk
 refine aj hΩ (cv ?_)
 exact fk h hk
 clear A8
 try dsimp only at h
 conv => arg 1; cbv
 refine aC hΩ (cv ?_)
 revert h; refine bU (fun nD h => cv ?_) fun nD h => cv ?_
 obtain rfl := fV h
 subst_vars
 exact sR
 obtain rfl := fV h
 subst_vars
 exact s3
 obtain rfl := fV h
 subst_vars
 exact sL
 clear an0
 rcases q with Mk | o74
 dsimp only at h
 conv => arg 1; cbv
 refine aC hΩ (cv ?_)
 revert h; refine bU (fun vk h => cv ?_) fun vk h => cv ?_
 replace h := aW h
 obtain ⟨r19, Wu, h⟩ := h
 refine aH (asv hΩ hE Wu) (cv ?_)
 exact sp h
 replace h := aW h
 obtain ⟨i22, an1, h⟩ := h
 refine aI hΩ ((fun (q : Bool) => (match q with | i22 => ([(1, PV.bf (iY E aD aO bN aK aS au aA bO bT aQ)), (2, vb false), (5, PV.fn 90 [.bf (iY E aD aO bN aK aS au aA bO bT aQ)]), (7, PV.d (.sl (E.aB au) (E.aG aA))), (8, vi n1), (9, vi Mk), (48, vb i22)], nO :: st))) i22) (fun k hk => ?_) ?_
 clear h
 have h := an1
 clear an1
 conv => arg 1; cbv
 revert h; refine bU (fun EM h => cv ?_) fun EM h => cv ?_
 exact fk h hk
 exact fk h hk
 clear an1
 try dsimp only at h
 conv => arg 1; cbv
 replace h := aW h
 obtain ⟨i24, an2, h⟩ := h
 refine aI hΩ ((fun (q : Bool) => (match q with | i24 => ([(1, PV.bf (iY E aD aO bN aK aS au aA bO bT aQ)), (2, vb false), (5, PV.fn 90 [.bf (iY E aD aO bN aK aS au aA bO bT aQ)]), (7, PV.d (.sl (E.aB au) (E.aG aA))), (8, vi n1), (9, vi Mk), (53, vb i24)], nO :: st))) i24) (fun k hk => ?_) ?_
 clear h
 have h := an2
 clear an2
 conv => arg 1; cbv
 revert h; refine bU (fun yj h => cv ?_) fun yj h => cv ?_
 exact fk h hk
 exact fk h hk
 clear an2
 try dsimp only at h
 conv => arg 1; cbv
 replace h := aW h
 obtain ⟨i26, an3, h⟩ := h
 refine aI hΩ ((fun (q : Bool) => (match q with | i26 => ([(1, PV.bf (iY E aD aO bN aK aS au aA bO bT aQ)), (2, vb false), (5, PV.fn 90 [.bf (iY E aD aO bN aK aS au aA bO bT aQ)]), (7, PV.d (.sl (E.aB au) (E.aG aA))), (8, vi n1), (9, vi Mk), (58, vb i26)], nO :: st))) i26) (fun k hk => ?_) ?_
 clear h
 have h := an3
 clear an3
 conv => arg 1; cbv
 revert h; refine bU (fun Rk h => cv ?_) fun Rk h => cv ?_
 exact fk h hk
 exact fk h hk
 clear an3
 try dsimp only at h
 conv => arg 1; cbv
 replace h := aW h
 obtain ⟨i28, an4, h⟩ := h
 refine aI hΩ ((fun (q : Bool) => (match q with | i28 => ([(1, PV.bf (iY E aD aO bN aK aS au aA bO bT aQ)), (2, vb false), (5, PV.fn 90 [.bf (iY E aD aO bN aK aS au aA bO bT aQ)]), (7, PV.d (.sl (E.aB au) (E.aG aA))), (8, vi n1), (9, vi Mk), (64, vb i28)], nO :: st))) i28) (fun k hk => ?_) ?_
 clear h
 have h := an4
 clear an4
 conv => arg 1; cbv
 revert h; refine bU (fun EW h => cv ?_) fun EW h => cv ?_
 exact fk h hk
 exact fk h hk
 clear an4
 try dsimp only at h
 conv => arg 1; cbv
 replace h := aW h
 obtain ⟨i40, Wy, h⟩ := h
 refine aI hΩ ((fun (q : Bool) => (match q with | i40 => ([(1, PV.bf (iY E aD aO bN aK aS au aA bO bT aQ)), (2, vb false), (5, PV.fn 90 [.bf (iY E aD aO bN aK aS au aA bO bT aQ)]), (7, PV.d (.sl (E.aB au) (E.aG aA))), (8, vi n1), (9, vi Mk), (84, vb i40)], nO :: st))) i40) (fun k hk => ?_) ?_
 clear h
 have h := Wy
 clear Wy
 conv => arg 1; cbv
 revert h; refine bU (fun Kv h => cv ?_) fun Kv h => cv ?_
 revert h; refine bU (fun Wq h => cv ?_) fun Wq h => cv ?_
 replace h := aW h
 obtain ⟨l31, hx32, h⟩ := h
 have aqY : ([[.int .u8 1], [.int .u8 7]] : List (List D)) = E.gI l31 := by (have hy := Option.some.inj hx32; clear h; subst hy; subst hE; rfl)
 rw [aqY]
 clear aqY
 conv => arg 1; cbv
 replace h := aW h
 obtain ⟨r34, afj, h⟩ := h
 refine aH (Ku hΩ hE afj) (cv ?_)
 revert h; refine bU (fun yu h => cv ?_) fun yu h => cv ?_
 refine aj hΩ (cv ?_)
 replace h := aW h
 obtain ⟨r37, hx38, h⟩ := h
 refine aH (Ku hΩ hE hx38) (cv ?_)
 revert h; refine bU (fun Rn h => cv ?_) fun Rn h => cv ?_
 exact fk h hk
 exact fk h hk
 refine aj hΩ (cv ?_)
 exact fk h hk
 refine aj hΩ (cv ?_)
 exact fk h hk
 refine aj hΩ (cv ?_)
 exact fk h hk
 clear Wy
 try dsimp only at h
 conv => arg 1; cbv
 replace h := aW h
 obtain ⟨i48, Wz, h⟩ := h
 refine aI hΩ ((fun (q : Bool) => (match q with | i48 => ([(1, PV.bf (iY E aD aO bN aK aS au aA bO bT aQ)), (2, vb false), (5, PV.fn 90 [.bf (iY E aD aO bN aK aS au aA bO bT aQ)]), (7, PV.d (.sl (E.aB au) (E.aG aA))), (8, vi n1), (9, vi Mk), (94, vb i48)], nO :: st))) i48) (fun k hk => ?_) ?_
 clear h
 have h := Wz
 clear Wz
 conv => arg 1; cbv
 revert h; refine bU (fun yx h => cv ?_) fun yx h => cv ?_
 revert h; refine bU (fun EN h => cv ?_) fun EN h => cv ?_
 replace h := aW h
 obtain ⟨l43, asy, h⟩ := h
 have aqZ : ([[.int .u8 3], [.int .u8 7]] : List (List D)) = E.gI l43 := by (have hy := Option.some.inj asy; clear h; subst hy; subst hE; rfl)
 rw [aqZ]
 clear aqZ
 conv => arg 1; cbv
 replace h := aW h
 obtain ⟨r46, an5, h⟩ := h
 refine aH (Ku hΩ hE an5) (cv ?_)
 exact fk h hk
 exact fk h hk
 exact fk h hk
 clear Wz
 try dsimp only at h
 conv => arg 1; cbv
 replace h := aW h
 obtain ⟨i55, WA, h⟩ := h
 refine aI hΩ ((fun (q : Bool) => (match q with | i55 => ([(1, PV.bf (iY E aD aO bN aK aS au aA bO bT aQ)), (2, vb false), (5, PV.fn 90 [.bf (iY E aD aO bN aK aS au aA bO bT aQ)]), (7, PV.d (.sl (E.aB au) (E.aG aA))), (8, vi n1), (9, vi Mk), (105, vb i55)], nO :: st))) i55) (fun k hk => ?_) ?_
 clear h
 have h := WA
 clear WA
 conv => arg 1; cbv
 revert h; refine bU (fun an6 h => cv ?_) fun an6 h => cv ?_
 refine av hΩ (aF hE) aK fun n50 afc => cv ?_
 revert h; refine bU (fun EK h => cv ?_) fun EK h => cv ?_
 replace h := aW h
 obtain ⟨r53, asz, h⟩ := h
 refine aH (Ku hΩ hE asz) (cv ?_)
 exact fk h hk
 exact fk h hk
 exact fk h hk
 clear WA
 try dsimp only at h
 conv => arg 1; cbv
 replace h := aW h
 obtain ⟨i65, WB, h⟩ := h
 refine aI hΩ ((fun (q : Bool) => (match q with | i65 => ([(1, PV.bf (iY E aD aO bN aK aS au aA bO bT aQ)), (2, vb false), (5, PV.fn 90 [.bf (iY E aD aO bN aK aS au aA bO bT aQ)]), (7, PV.d (.sl (E.aB au) (E.aG aA))), (8, vi n1), (9, vi Mk), (116, vb i65)], nO :: st))) i65) (fun k hk => ?_) ?_
 clear h
 have h := WB
 clear WB
 conv => arg 1; cbv
 revert h; refine bU (fun asA h => cv ?_) fun asA h => cv ?_
 refine av hΩ (ak hE) au fun n57 atH => cv ?_
 revert h; refine bU (fun asB h => cv ?_) fun asB h => cv ?_
 replace h := aW h
 obtain ⟨l60, asC, h⟩ := h
 have aq0 : ([[.int .u8 5], [.int .u8 7]] : List (List D)) = E.gI l60 := by (have hy := Option.some.inj asC; clear h; subst hy; subst hE; rfl)
 rw [aq0]
 clear aq0
 conv => arg 1; cbv
 replace h := aW h
 obtain ⟨r63, an7, h⟩ := h
 refine aH (Ku hΩ hE an7) (cv ?_)
 exact fk h hk
 exact fk h hk
 exact fk h hk
 clear WB
 try dsimp only at h
 conv => arg 1; cbv
 refine aC hΩ (cv ?_)
 exact sp h
 dsimp only at h
 conv => arg 1; cbv
 exact sp h
set_option maxHeartbeats 4000000 in
theorem an8 {a0 : Value} {a1 : Int} {b0 c0 : Int} {b1 c1 : Bool} {S : (Int × Bool) → St} {lz0 kC vM : Nat} (e0 : b0 = c0) (e1 : b1 = c1) (hg0 : ∀ s, X.look (S s) lz0 kC = some (X.Obj.box 3 (Em E s.1))) (hu0 : ∀ s x, X.fM (S s) lz0 kC (X.Obj.box 3 (Em E x)) = S (x, s.2)) (hg1 : ∀ s, X.look (S s) lz0 vM = some (X.Obj.box 4 (En E s.2))) (hu1 : ∀ s x, X.fM (S s) lz0 vM (X.Obj.box 4 (En E x)) = S (s.1, x)) {r : Bool × Int × Bool} (h : Ym fu a0 a1 b0 b1 = some r) {args : List PV} (ha : [aT E a0, PV.d (.int .i64 a1), PV.ptr lz0 kC 0, PV.ptr lz0 vM 0] = args) {st : St} (hst : S (c0, c1) = st) :
 Sat (Ω.cf 76 args st) (fun q => q = (PV.d (.bool r.1), S (r.2.1, r.2.2))) := by
 subst ha
 subst hst
 subst e0
 subst e1
 rcases a0 with ⟨aD, aO, bN, ⟨aK, aS⟩, ⟨au, aA⟩, bO, bT, aQ⟩
 rw [aR hΩ (f := 76) (fn := Tryz.f76) (x := c76) rfl rfl ab5 rfl rfl rfl]
 unfold Ym at h
 try dsimp only at h
 conv => arg 1; cbv
 refine qJ hΩ (hg0 _) rfl (cv ?_)
 refine tT hΩ (hg0 _) (hu0 _ (Ω.wrap .i64 (Ω.add b0 1))) rfl rfl (cv ?_)
 replace h := aW h
 obtain ⟨g5, hq6, h⟩ := h
 refine aI hΩ ((fun (q : Bool) => (match q with | g5 => ([(2, PV.ptr (lz0+1) kC 0), (3, PV.ptr (lz0+1) vM 0), (4, PV.bf (iY E aD aO bN aK aS au aA bO bT aQ)), (6, vb false)], nO :: S (Ω.wrap .i64 (Ω.add b0 1), g5)))) g5) (fun k hk => ?_) ?_
 clear h
 have h := hq6
 clear hq6
 conv => arg 1; cbv
 replace h := aW h
 obtain ⟨r1, hx2, h⟩ := h
 refine aH (asx hΩ hE hx2) (cv ?_)
 revert h; refine bU (fun hb3 h => cv ?_) fun hb3 h => cv ?_
 refine qJ hΩ (hg0 _) rfl (cv ?_)
 revert h; refine bU (fun hb4 h => cv ?_) fun hb4 h => cv ?_
 refine tT hΩ (hg1 _) (hu1 _ (Ω.jF a1 64)) rfl rfl (cv ?_)
 exact fk h hk
 refine tT hΩ (hg1 _) (hu1 _ false) rfl rfl (cv ?_)
 exact fk h hk
 refine tT hΩ (hg1 _) (hu1 _ false) rfl rfl (cv ?_)
 exact fk h hk
 clear hq6
 try dsimp only at h
 conv => arg 1; cbv
 refine qJ hΩ (hg1 _) rfl (cv ?_)
 exact sp h
def aq1 (Ω : Om) (E : Enc) (xO : Value → Int → Int → Bool → Option (Bool × Int × Bool)) : Prop := ∀ {a0 : Value} {a1 : Int} {b1 c1 : Int} {b2 c2 : Bool} {S : (Int × Bool) → St} {lz0 lz1 Kw kC vM GU A9 : Nat} (hl1 : Kw + lz0 = lz1) (e1 : b1 = c1) (e2 : b2 = c2) (hg0 : ∀ s, X.look (S s) lz0 kC = some (X.Obj.box 83 [PV.fn 76 [.ptr Kw vM 0, .ptr Kw GU 0]])) (hg1 : ∀ s, X.look (S s) lz1 vM = some (X.Obj.box 3 (Em E s.1))) (hu1 : ∀ s x, X.fM (S s) lz1 vM (X.Obj.box 3 (Em E x)) = S (x, s.2)) (hg2 : ∀ s, X.look (S s) lz1 GU = some (X.Obj.box 4 (En E s.2))) (hu2 : ∀ s x, X.fM (S s) lz1 GU (X.Obj.box 4 (En E x)) = S (s.1, x)) (hg3 : ∀ s, X.look (S s) lz0 A9 = some (X.Obj.box 83 [PV.fn 87 [.ptr 0 kC 0, .ptr 0 A9 0]])) {r : Bool × Int × Bool}, xO a0 a1 b1 b2 = some r → ∀ {args : List PV}, [aT E a0, PV.d (.int .i64 a1), PV.ptr lz0 kC 0, PV.ptr lz0 A9 0] = args → ∀ {st : St}, S (c1, c2) = st → Sat (Ω.cf 87 args st) (fun q => q = (PV.d (.bool r.1), S (r.2.1, r.2.2)))
set_option maxHeartbeats 4000000 in
theorem aiy {xO : Value → Int → Int → Bool → Option (Bool × Int × Bool)} (afk : aq1 Ω E xO) {a0 : Value} {a1 : Int} {b1 c1 : Int} {b2 c2 : Bool} {S : (Int × Bool) → St} {lz0 lz1 Kw kC vM GU A9 : Nat} (hl1 : Kw + lz0 = lz1) (e1 : b1 = c1) (e2 : b2 = c2) (hg0 : ∀ s, X.look (S s) lz0 kC = some (X.Obj.box 83 [PV.fn 76 [.ptr Kw vM 0, .ptr Kw GU 0]])) (hg1 : ∀ s, X.look (S s) lz1 vM = some (X.Obj.box 3 (Em E s.1))) (hu1 : ∀ s x, X.fM (S s) lz1 vM (X.Obj.box 3 (Em E x)) = S (x, s.2)) (hg2 : ∀ s, X.look (S s) lz1 GU = some (X.Obj.box 4 (En E s.2))) (hu2 : ∀ s x, X.fM (S s) lz1 GU (X.Obj.box 4 (En E x)) = S (s.1, x)) (hg3 : ∀ s, X.look (S s) lz0 A9 = some (X.Obj.box 83 [PV.fn 87 [.ptr 0 kC 0, .ptr 0 A9 0]])) {r : Bool × Int × Bool} (h : QL fu xO a0 a1 b1 b2 = some r) {args : List PV} (ha : [aT E a0, PV.d (.int .i64 a1), PV.ptr lz0 kC 0, PV.ptr lz0 A9 0] = args) {st : St} (hst : S (c1, c2) = st) :
 Sat (Ω.cf 87 args st) (fun q => q = (PV.d (.bool r.1), S (r.2.1, r.2.2))) := by
 subst ha
 subst hst
 subst e1
 subst e2
 rcases a0 with ⟨aD, aO, bN, ⟨aK, aS⟩, ⟨au, aA⟩, bO, bT, aQ⟩
 rw [aR hΩ (f := 87) (fn := Tryz.f87) (x := c87) rfl rfl ab7 rfl rfl rfl]
 unfold QL at h
 try dsimp only at h
 conv => arg 1; cbv
 refine qJ hΩ (hg0 _) (by exact (show down.iM (lz0+1) [PV.fn 76 [.ptr Kw vM 0, .ptr Kw GU 0]] = [PV.fn 76 [.ptr (lz1+1) vM 0, .ptr (lz1+1) GU 0]] by simp only [down.iM, down, Nat.zero_add, ← hl1, Nat.add_assoc])) (cv ?_)
 replace h := aW h
 obtain ⟨⟨r2, wr3, wr4⟩, hx1, h⟩ := h
 try dsimp only at h
 refine gW (an8 hΩ hE (S := (fun (s : Int × Bool) => nO :: S (s.1, s.2))) (lz0 := (lz1+1)) (kC := vM) (vM := GU) (c0 := b1) (c1 := b2) (by (try clear h); subst_vars; rfl) (by (try clear h); subst_vars; rfl) (fun s => hg1 (s.1, s.2)) (fun s x => congrArg (List.cons _) (hu1 (s.1, s.2) x)) (fun s => hg2 (s.1, s.2)) (fun s x => congrArg (List.cons _) (hu2 (s.1, s.2) x)) hx1 (by (try clear h); subst_vars; rfl) (by (try clear h); subst_vars; rfl)) (cv ?_)
 refine aC hΩ (cv ?_)
 revert h; refine bU (fun hb5 h => cv ?_) fun hb5 h => cv ?_
 exact sp h
 refine av hΩ (aF hE) aK fun n6 hn7 => cv ?_
 replace h := aW h
 obtain ⟨q, Rj, h⟩ := h
 refine dL hΩ (fun (a : Int × Bool × Int) => (match a with | (g8, g9, Yn) => ([(1, vi a1), (2, PV.ptr (lz0+1) kC 0), (3, PV.ptr (lz0+1) A9 0), (4, PV.bf (iY E aD aO bN aK aS au aA bO bT aQ)), (6, vb false), (17, PV.d (.sl (E.aN aK) (E.aU aS))), (18, vi n6), (19, vi Yn)], nO :: S (g8, g9)))) (fun (q : (Int × Bool × Int) ⊕ (Int × Bool × Int)) => (match q with | .inl (Z7, Ye, o22) => (.exit 0, [(1, vi a1), (2, PV.ptr (lz0+1) kC 0), (3, PV.ptr (lz0+1) A9 0), (4, PV.bf (iY E aD aO bN aK aS au aA bO bT aQ)), (6, vb false), (17, PV.d (.sl (E.aN aK) (E.aU aS))), (18, vi n6), (19, vi o22)], nO :: S (Z7, Ye)) | .inr (o43, o44, o45) => (.ret, [(1, vi a1), (2, PV.ptr (lz0+1) kC 0), (3, PV.ptr (lz0+1) A9 0), (4, PV.bf (iY E aD aO bN aK aS au aA bO bT aQ)), (6, vb false), (17, PV.d (.sl (E.aN aK) (E.aU aS))), (18, vi n6), (19, vi o45)], nO :: S (o43, o44)))) (wr3, wr4, 0) Rj ?_ ?_
 clear h Rj
 rintro ⟨g8, g9, Yn⟩ q h
 unfold xM at h
 dsimp only at h
 conv => arg 1; cbv
 refine aC hΩ (cv ?_)
 revert h; refine bU (fun Ba h => cv ?_) fun Ba h => cv ?_
 refine sat_true (bg hΩ (aF hE) aK) (cv ?_)
 replace h := aW h
 obtain ⟨⟨iX, oz, wY, ⟨pR, pU⟩, ⟨kR, kS⟩, wZ, w9, xq⟩, mQ, h⟩ := h
 try dsimp only at h
 refine aM (bG hΩ (aF hE) mQ) (cv ?_)
 refine qJ hΩ (hg3 _) (by exact (show down.iM (lz0+1) [PV.fn 87 [.ptr 0 kC 0, .ptr 0 A9 0]] = [PV.fn 87 [.ptr (lz0+1) kC 0, .ptr (lz0+1) A9 0]] by simp only [down.iM, down, Nat.zero_add, ← hl1, Nat.add_assoc])) (cv ?_)
 replace h := aW h
 obtain ⟨⟨sJ, amj, amk⟩, EP, h⟩ := h
 try dsimp only at h
 refine gW (afk (S := (fun (s : Int × Bool) => ([X.Obj.box 29 (zP1 E iX oz wY pR pU kR kS wZ w9 xq)] : List X.Obj) :: S (s.1, s.2))) (lz0 := (lz0+1)) (lz1 := (lz1+1)) (Kw := Kw) (kC := kC) (vM := vM) (GU := GU) (A9 := A9) (c1 := g8) (c2 := g9) (by first | rfl | omega) (by (try clear h); subst_vars; rfl) (by (try clear h); subst_vars; rfl) (fun s => hg0 (s.1, s.2)) (fun s => hg1 (s.1, s.2)) (fun s x => congrArg (List.cons _) (hu1 (s.1, s.2) x)) (fun s => hg2 (s.1, s.2)) (fun s x => congrArg (List.cons _) (hu2 (s.1, s.2) x)) (fun s => hg3 (s.1, s.2)) EP (by (try clear h); subst_vars; rfl) (by (try clear h); subst_vars; rfl)) (cv ?_)
 refine aC hΩ (cv ?_)
 revert h; refine bU (fun vk h => cv ?_) fun vk h => cv ?_
 obtain rfl := fV h
 subst_vars
 exact sR
 obtain rfl := fV h
 subst_vars
 exact s3
 obtain rfl := fV h
 subst_vars
 exact sL
 clear Rj
 rcases q with ⟨Z7, Ye, o22⟩ | ⟨o43, o44, o45⟩
 dsimp only at h
 conv => arg 1; cbv
 refine av hΩ (ak hE) au fun n23 aqB => cv ?_
 replace h := aW h
 obtain ⟨q, an9, h⟩ := h
 refine dL hΩ (fun (a : Int × Bool × Int) => (match a with | (g25, g26, i27) => ([(1, vi a1), (2, PV.ptr (lz0+1) kC 0), (3, PV.ptr (lz0+1) A9 0), (4, PV.bf (iY E aD aO bN aK aS au aA bO bT aQ)), (6, vb false), (17, PV.d (.sl (E.aN aK) (E.aU aS))), (18, vi n6), (19, vi o22), (31, PV.d (.sl (E.aB au) (E.aG aA))), (32, vi n23), (33, vi i27)], nO :: S (g25, g26)))) (fun (q : (Int × Bool × Int) ⊕ (Int × Bool × Int)) => (match q with | .inl (o37, o38, o39) => (.exit 2, [(1, vi a1), (2, PV.ptr (lz0+1) kC 0), (3, PV.ptr (lz0+1) A9 0), (4, PV.bf (iY E aD aO bN aK aS au aA bO bT aQ)), (6, vb false), (17, PV.d (.sl (E.aN aK) (E.aU aS))), (18, vi n6), (19, vi o22), (31, PV.d (.sl (E.aB au) (E.aG aA))), (32, vi n23), (33, vi o39)], nO :: S (o37, o38)) | .inr (o40, o41, o42) => (.ret, [(1, vi a1), (2, PV.ptr (lz0+1) kC 0), (3, PV.ptr (lz0+1) A9 0), (4, PV.bf (iY E aD aO bN aK aS au aA bO bT aQ)), (6, vb false), (17, PV.d (.sl (E.aN aK) (E.aU aS))), (18, vi n6), (19, vi o22), (31, PV.d (.sl (E.aB au) (E.aG aA))), (32, vi n23), (33, vi o42)], nO :: S (o40, o41)))) (Z7, Ye, 0) an9 ?_ ?_
 clear h an9
 rintro ⟨g25, g26, i27⟩ q h
 unfold xP at h
 dsimp only at h
 conv => arg 1; cbv
 refine aC hΩ (cv ?_)
 revert h; refine bU (fun afl h => cv ?_) fun afl h => cv ?_
 refine sat_true (bg hΩ (ak hE) au) (cv ?_)
 replace h := aW h
 obtain ⟨⟨ajZ, ⟨VH, VI, VJ, ⟨QH, QI⟩, ⟨QJ, QK⟩, VK, VL, VN⟩⟩, aoa, h⟩ := h
 try dsimp only at h
 refine aM (bG hΩ (ak hE) aoa) (cv ?_)
 refine qJ hΩ (hg3 _) (by exact (show down.iM (lz0+1) [PV.fn 87 [.ptr 0 kC 0, .ptr 0 A9 0]] = [PV.fn 87 [.ptr (lz0+1) kC 0, .ptr (lz0+1) A9 0]] by simp only [down.iM, down, Nat.zero_add, ← hl1, Nat.add_assoc])) (cv ?_)
 replace h := aW h
 obtain ⟨⟨r32, aml, amm⟩, hx31, h⟩ := h
 try dsimp only at h
 refine gW (afk (S := (fun (s : Int × Bool) => ([X.Obj.box 67 (zP0 E ajZ VH VI VJ QH QI QJ QK VK VL VN)] : List X.Obj) :: S (s.1, s.2))) (lz0 := (lz0+1)) (lz1 := (lz1+1)) (Kw := Kw) (kC := kC) (vM := vM) (GU := GU) (A9 := A9) (c1 := g25) (c2 := g26) (by first | rfl | omega) (by (try clear h); subst_vars; rfl) (by (try clear h); subst_vars; rfl) (fun s => hg0 (s.1, s.2)) (fun s => hg1 (s.1, s.2)) (fun s x => congrArg (List.cons _) (hu1 (s.1, s.2) x)) (fun s => hg2 (s.1, s.2)) (fun s x => congrArg (List.cons _) (hu2 (s.1, s.2) x)) (fun s => hg3 (s.1, s.2)) hx31 (by (try clear h); subst_vars; rfl) (by (try clear h); subst_vars; rfl)) (cv ?_)
 refine aC hΩ (cv ?_)
 revert h; refine bU (fun aob h => cv ?_) fun aob h => cv ?_
 obtain rfl := fV h
 subst_vars
 exact sR
 obtain rfl := fV h
 subst_vars
 exact s3
 obtain rfl := fV h
 subst_vars
 exact sL
 clear an9
 rcases q with ⟨o37, o38, o39⟩ | ⟨o40, o41, o42⟩
 dsimp only at h
 conv => arg 1; cbv
 exact sp h
 dsimp only at h
 conv => arg 1; cbv
 exact sp h
 dsimp only at h
 conv => arg 1; cbv
 exact sp h
theorem aiz : ∀ fu,
 (∀ {a0 : Value} {a1 : Int} {b1 c1 : Int} {b2 c2 : Bool} {S : (Int × Bool) → St} {lz0 lz1 Kw kC vM GU A9 : Nat} (hl1 : Kw + lz0 = lz1) (e1 : b1 = c1) (e2 : b2 = c2) (hg0 : ∀ s, X.look (S s) lz0 kC = some (X.Obj.box 83 [PV.fn 76 [.ptr Kw vM 0, .ptr Kw GU 0]])) (hg1 : ∀ s, X.look (S s) lz1 vM = some (X.Obj.box 3 (Em E s.1))) (hu1 : ∀ s x, X.fM (S s) lz1 vM (X.Obj.box 3 (Em E x)) = S (x, s.2)) (hg2 : ∀ s, X.look (S s) lz1 GU = some (X.Obj.box 4 (En E s.2))) (hu2 : ∀ s x, X.fM (S s) lz1 GU (X.Obj.box 4 (En E x)) = S (s.1, x)) (hg3 : ∀ s, X.look (S s) lz0 A9 = some (X.Obj.box 83 [PV.fn 87 [.ptr 0 kC 0, .ptr 0 A9 0]])) {r : Bool × Int × Bool}, FN fu a0 a1 b1 b2 = some r → ∀ {args : List PV}, [aT E a0, PV.d (.int .i64 a1), PV.ptr lz0 kC 0, PV.ptr lz0 A9 0] = args → ∀ {st : St}, S (c1, c2) = st → Sat (Ω.cf 87 args st) (fun q => q = (PV.d (.bool r.1), S (r.2.1, r.2.2)))) := by
 intro fu
 induction fu with
 | zero => exact (@fun _ _ _ _ _ _ _ _ _ _ _ _ _ _ _ _ _ _ _ _ _ _ _ _ h => by cases h)
 | succ fu ih =>
  have aq2 := @ih
  exact (@fun a0 a1 b1 c1 b2 c2 S lz0 lz1 Kw kC vM GU A9 hl1 e1 e2 hg0 hg1 hu1 hg2 hu2 hg3 r h args ha st hs => aiy (fu := fu) hΩ hE aq2 hl1 e1 e2 hg0 hg1 hu1 hg2 hu2 hg3 h ha hs)
theorem aoc : ∀ {a0 : Value} {a1 : Int} {b1 c1 : Int} {b2 c2 : Bool} {S : (Int × Bool) → St} {lz0 lz1 Kw kC vM GU A9 : Nat} (hl1 : Kw + lz0 = lz1) (e1 : b1 = c1) (e2 : b2 = c2) (hg0 : ∀ s, X.look (S s) lz0 kC = some (X.Obj.box 83 [PV.fn 76 [.ptr Kw vM 0, .ptr Kw GU 0]])) (hg1 : ∀ s, X.look (S s) lz1 vM = some (X.Obj.box 3 (Em E s.1))) (hu1 : ∀ s x, X.fM (S s) lz1 vM (X.Obj.box 3 (Em E x)) = S (x, s.2)) (hg2 : ∀ s, X.look (S s) lz1 GU = some (X.Obj.box 4 (En E s.2))) (hu2 : ∀ s x, X.fM (S s) lz1 GU (X.Obj.box 4 (En E x)) = S (s.1, x)) (hg3 : ∀ s, X.look (S s) lz0 A9 = some (X.Obj.box 83 [PV.fn 87 [.ptr 0 kC 0, .ptr 0 A9 0]])) {r : Bool × Int × Bool}, FN fu a0 a1 b1 b2 = some r → ∀ {args : List PV}, [aT E a0, PV.d (.int .i64 a1), PV.ptr lz0 kC 0, PV.ptr lz0 A9 0] = args → ∀ {st : St}, S (c1, c2) = st → Sat (Ω.cf 87 args st) (fun q => q = (PV.d (.bool r.1), S (r.2.1, r.2.2))) := (aiz hΩ hE fu)
set_option maxHeartbeats 4000000 in
theorem aod {a0 : Value} {b0 c0 : Int} {b1 c1 : Bool} {S : (Int × Bool) → St} {lz0 kC vM : Nat} (e0 : b0 = c0) (e1 : b1 = c1) (hg0 : ∀ s, X.look (S s) lz0 kC = some (X.Obj.box 3 (Em E s.1))) (hu0 : ∀ s x, X.fM (S s) lz0 kC (X.Obj.box 3 (Em E x)) = S (x, s.2)) (hg1 : ∀ s, X.look (S s) lz0 vM = some (X.Obj.box 4 (En E s.2))) (hu1 : ∀ s x, X.fM (S s) lz0 vM (X.Obj.box 4 (En E x)) = S (s.1, x)) {r : Int × Bool} (h : Yo fu a0 b0 b1 = some r) {args : List PV} (ha : [aT E a0, PV.fn 76 [.ptr lz0 kC 0, .ptr lz0 vM 0]] = args) {st : St} (hst : S (c0, c1) = st) :
 Sat (Ω.cf 75 args st) (fun q => q = (PV.yV [], S (r.1, r.2))) := by
 subst ha
 subst hst
 subst e0
 subst e1
 rcases a0 with ⟨aD, aO, bN, ⟨aK, aS⟩, ⟨au, aA⟩, bO, bT, aQ⟩
 rw [aR hΩ (f := 75) (fn := Tryz.f75) (x := c75) rfl rfl ab4 rfl rfl rfl]
 unfold Yo at h
 try dsimp only at h
 conv => arg 1; cbv
 replace h := aW h
 obtain ⟨⟨r2, wr3, wr4⟩, hx1, h⟩ := h
 try dsimp only at h
 refine gW (aoc hΩ hE (S := (fun (s : Int × Bool) => ([X.Obj.box 83 [.fn 76 [.ptr (lz0+1) kC 0, .ptr (lz0+1) vM 0]], X.Obj.box 83 [.fn 87 [.ptr 0 0 0, .ptr 0 1 0]]] : List X.Obj) :: S (s.1, s.2))) (lz0 := 0) (lz1 := (lz0+1)) (Kw := (lz0+1)) (kC := 0) (vM := kC) (GU := vM) (A9 := 1) (c1 := b0) (c2 := b1) (by first | rfl | omega) (by (try clear h); subst_vars; rfl) (by (try clear h); subst_vars; rfl) (fun s => rfl) (fun s => hg0 (s.1, s.2)) (fun s x => congrArg (List.cons _) (hu0 (s.1, s.2) x)) (fun s => hg1 (s.1, s.2)) (fun s x => congrArg (List.cons _) (hu1 (s.1, s.2) x)) (fun s => rfl) hx1 (by (try clear h); subst_vars; rfl) (by (try clear h); subst_vars; rfl)) (cv ?_)
 exact sp h
set_option maxHeartbeats 4000000 in
theorem WC {a0 : Value} {r : Bool} (h : P49 fu a0 = some r) {args : List PV} (ha : [aT E a0] = args) (st : St) :
 Sat (Ω.cf 49 args st) (fun q => q = (PV.d (.bool r), st)) := by
 subst ha
 rcases a0 with ⟨aD, aO, bN, ⟨aK, aS⟩, ⟨au, aA⟩, bO, bT, aQ⟩
 rw [aR hΩ (f := 49) (fn := Tryz.f49) (x := c49) rfl rfl abP rfl rfl rfl]
 unfold P49 at h
 try dsimp only at h
 conv => arg 1; cbv
 replace h := aW h
 obtain ⟨⟨wr2, wr3⟩, hx1, h⟩ := h
 try dsimp only at h
 refine gW (aod hΩ hE (S := (fun (s : Int × Bool) => ([X.Obj.box 3 (Em E s.1), X.Obj.box 4 (En E s.2)] : List X.Obj) :: st)) (lz0 := 0) (kC := 0) (vM := 1) (c0 := 0) (c1 := true) (by (try clear h); subst_vars; rfl) (by (try clear h); subst_vars; rfl) (fun s => rfl) (fun s x => rfl) (fun s => rfl) (fun s x => rfl) hx1 (by (try clear h); subst_vars; rfl) (by (try clear h); subst_vars; rfl)) (cv ?_)
 exact sp h
set_option maxHeartbeats 4000000 in
theorem asD {a0 : Value} {r : Bool} (h : P48 fu a0 = some r) {args : List PV} (ha : [aT E a0] = args) (st : St) :
 Sat (Ω.cf 48 args st) (fun q => q = (PV.d (.bool r), st)) := by
 subst ha
 rcases a0 with ⟨aD, aO, bN, ⟨aK, aS⟩, ⟨au, aA⟩, bO, bT, aQ⟩
 rw [aR hΩ (f := 48) (fn := Tryz.f48) (x := c48) rfl rfl abO rfl rfl rfl]
 unfold P48 at h
 try dsimp only at h
 conv => arg 1; cbv
 replace h := aW h
 obtain ⟨r1, hx2, h⟩ := h
 refine aH (WC hΩ hE hx2) (cv ?_)
 exact sp h
set_option maxHeartbeats 4000000 in
theorem aiA {a0 : ByteArray} {r : Bool} (h : P50 fu a0 = some r) {args : List PV} (ha : [PV.d (.str a0)] = args) (st : St) :
 Sat (Ω.cf 50 args st) (fun q => q = (PV.d (.bool r), st)) := by
 subst ha
 rw [aR hΩ (f := 50) (fn := Tryz.f50) (x := c50) rfl rfl abQ rfl rfl rfl]
 unfold P50 at h
 try dsimp only at h
 conv => arg 1; cbv
 replace h := aW h
 obtain ⟨i2, hq3, h⟩ := h
 refine aI hΩ ((fun (q : Bool) => (match q with | i2 => ([(2, vb i2)], nO :: st))) i2) (fun k hk => ?_) ?_
 clear h
 have h := hq3
 clear hq3
 conv => arg 1; cbv
 revert h; refine bU (fun hb1 h => cv ?_) fun hb1 h => cv ?_
 exact fk h hk
 exact fk h hk
 clear hq3
 try dsimp only at h
 conv => arg 1; cbv
 exact sp h
set_option maxHeartbeats 4000000 in
theorem aiB {a0 : Value} {r : Bool} (h : P51 fu a0 = some r) {args : List PV} (ha : [aT E a0] = args) (st : St) :
 Sat (Ω.cf 51 args st) (fun q => q = (PV.d (.bool r), st)) := by
 subst ha
 rcases a0 with ⟨aD, aO, bN, ⟨aK, aS⟩, ⟨au, aA⟩, bO, bT, aQ⟩
 rw [aR hΩ (f := 51) (fn := Tryz.f51) (x := c51) rfl rfl abR rfl rfl rfl]
 unfold P51 at h
 try dsimp only at h
 conv => arg 1; cbv
 replace h := aW h
 obtain ⟨r1, hx2, h⟩ := h
 refine aH (aqM hΩ hE hx2) (cv ?_)
 exact sp h
set_option maxHeartbeats 4000000 in
theorem aq3 {a0 : Sl Field} {r : Bool} (h : P52 fu a0 = some r) {args : List PV} (ha : [PV.d (.sl (E.aB a0.l) (E.aG a0.x))] = args) (st : St) :
 Sat (Ω.cf 52 args st) (fun q => q = (PV.d (.bool r), st)) := by
 subst ha
 rcases a0 with ⟨ah, aY⟩
 rw [aR hΩ (f := 52) (fn := Tryz.f52) (x := c52) rfl rfl abS rfl rfl rfl]
 unfold P52 at h
 try dsimp only at h
 conv => arg 1; cbv
 refine av hΩ (ak hE) ah fun n1 hn2 => cv ?_
 replace h := aW h
 obtain ⟨q, ET, h⟩ := h
 refine dL hΩ (fun (a : Int) => (match a with | i3 => ([(0, PV.d (.sl (E.aB ah) (E.aG aY))), (2, vb false), (5, PV.d (.sl (E.aB ah) (E.aG aY))), (6, vi n1), (7, vi i3)], nO :: st))) (fun (q : Int ⊕ Int) => (match q with | .inl o23 => (.exit 0, [(0, PV.d (.sl (E.aB ah) (E.aG aY))), (2, vb false), (5, PV.d (.sl (E.aB ah) (E.aG aY))), (6, vi n1), (7, vi o23)], nO :: st) | .inr sI => (.ret, [(0, PV.d (.sl (E.aB ah) (E.aG aY))), (2, vb false), (5, PV.d (.sl (E.aB ah) (E.aG aY))), (6, vi n1), (7, vi sI)], nO :: st))) 0 ET ?_ ?_
 clear h ET
 rintro i3 q h
 unfold Jw at h
 dsimp only at h
 conv => arg 1; cbv
 refine aC hΩ (cv ?_)
 revert h; refine bU (fun hb4 h => cv ?_) fun hb4 h => cv ?_
 refine sat_true (bg hΩ (ak hE) ah) (cv ?_)
 replace h := aW h
 obtain ⟨⟨qB, ⟨xG, xH, xI, ⟨qc, qd⟩, ⟨qg, qh⟩, xJ, xK, xL⟩⟩, hx6, h⟩ := h
 try dsimp only at h
 refine aM (bG hΩ (ak hE) hx6) (cv ?_)
 refine aC hΩ (cv ?_)
 replace h := aW h
 obtain ⟨r7, AY, h⟩ := h
 refine aH (aiA hΩ hE AY) (cv ?_)
 revert h; refine bU (fun nC h => cv ?_) fun nC h => cv ?_
 revert h; refine bU (fun jo h => cv ?_) fun jo h => cv ?_
 refine aj hΩ (cv ?_)
 refine sat_true (bg hΩ (ak hE) ah) (cv ?_)
 replace h := aW h
 obtain ⟨⟨qb, ⟨AL, AO, AP, ⟨uV, uW⟩, ⟨uX, uY⟩, AQ, AU, AV⟩⟩, AZ, h⟩ := h
 try dsimp only at h
 refine aM (bG hΩ (ak hE) AZ) (cv ?_)
 replace h := aW h
 obtain ⟨i16, Ky, h⟩ := h
 refine aI hΩ ((fun (q : Bool) => (match q with | i16 => ([(0, PV.d (.sl (E.aB ah) (E.aG aY))), (2, vb false), (3, vi i3), (4, PV.ptr 0 0 0), (5, PV.d (.sl (E.aB ah) (E.aG aY))), (6, vi n1), (7, vi i3), (36, vb i16)], ([X.Obj.box 67 (zP0 E qB xG xH xI qc qd qg qh xJ xK xL)] : List X.Obj) :: st))) i16) (fun k hk => ?_) ?_
 clear h
 have h := Ky
 clear Ky
 conv => arg 1; cbv
 revert h; refine bU (fun ES h => cv ?_) fun ES h => cv ?_
 replace h := aW h
 obtain ⟨FK, yA, h⟩ := h
 refine aH (WC hΩ hE yA) (cv ?_)
 exact fk h hk
 exact fk h hk
 clear Ky
 try dsimp only at h
 conv => arg 1; cbv
 refine aC hΩ (cv ?_)
 revert h; refine bU (fun u7 h => cv ?_) fun u7 h => cv ?_
 obtain rfl := fV h
 subst_vars
 exact sR
 obtain rfl := fV h
 subst_vars
 exact s3
 refine aj hΩ (cv ?_)
 refine aC hΩ (cv ?_)
 replace h := aW h
 obtain ⟨r19, Wu, h⟩ := h
 refine aH (WC hΩ hE Wu) (cv ?_)
 refine aC hΩ (cv ?_)
 revert h; refine bU (fun EM h => cv ?_) fun EM h => cv ?_
 obtain rfl := fV h
 subst_vars
 exact sR
 obtain rfl := fV h
 subst_vars
 exact s3
 refine aj hΩ (cv ?_)
 refine aC hΩ (cv ?_)
 refine aC hΩ (cv ?_)
 obtain rfl := fV h
 subst_vars
 exact sR
 obtain rfl := fV h
 subst_vars
 exact sL
 clear ET
 rcases q with o23 | sI
 dsimp only at h
 conv => arg 1; cbv
 exact sp h
 dsimp only at h
 conv => arg 1; cbv
 exact sp h
end Go.Proofs.YtipkggkbldgmjaaGreat
