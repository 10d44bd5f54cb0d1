/- The interpreter computes just these functions: printed by a small program. -/
import Derived.Test.YtedfkehkcaaplaaTWO2
namespace Go.Proofs.Ytedfkehkcaaplaa
open Go Go.X
set_option linter.unusedVariables false
set_option linter.unusedSimpArgs false
set_option linter.unusedSectionVars false
variable {Ω : Om} {E : Enc} (hΩ : real (call S) = Ω) (hE : iZ = E) {fu : Nat}
include hΩ hE
set_option maxRecDepth 100000
set_option maxHeartbeats 4000000 in
theorem az1 {a0 : Cell} {a1 : Cell} {r : Bool} (h : P66 fu a0 a1 = some r) {args : List PV} (ha : [Ap E a0, Ap E a1] = args) (st : St) :
 Sat (Ω.cf 66 args st) (fun q => q = (PV.d (.bool r), st)) := by
 subst ha
 rcases a0 with ⟨bn, gG, ⟨lT, lU, lV, ⟨ji, jk⟩, ⟨jl, jm⟩, tJ, lW, tK⟩, ⟨lG, lH, lJ, ⟨jd, je⟩, ⟨jf, jh⟩, lK, lM, lQ⟩, ⟨aF, aJ⟩, ⟨jS, jT⟩, ⟨tL, tN⟩, ⟨jU, jV⟩, Fv, dD, ⟨tO, tQ⟩, ⟨bB, bH⟩⟩
 rcases a1 with ⟨gX, xw, ⟨Rt, Ru, Rv, ⟨Hr, Ht⟩, ⟨Hu, Hw⟩, ake, Rw, akf⟩, ⟨Rl, Rm, Rn, ⟨Hg, Hl⟩, ⟨Ho, Hq⟩, Rp, Rq, Rs⟩, ⟨gJ, gK⟩, ⟨Rx, Ry⟩, ⟨akg, akh⟩, ⟨Rz, RA⟩, as8, nI, ⟨aki, akj⟩, ⟨jF, jG⟩⟩
 rw [aK hΩ (f := 66) (fn := Try.f66) (x := c66) rfl rfl ar9 rfl rfl rfl]
 unfold P66 at h
 try dsimp only at h
 conv => arg 1; cbv
 replace h := bJ h
 obtain ⟨i28, acn, h⟩ := h
 refine aN hΩ ((fun (q : Bool) => (match q with | i28 => ([(2, PV.dA (zD7 E bn gG lT lU lV ji jk jl jm tJ lW tK lG lH lJ jd je jf jh lK lM lQ aF aJ jS jT tL tN jU jV Fv dD tO tQ bB bH)), (3, PV.dA (zD7 E gX xw Rt Ru Rv Hr Ht Hu Hw ake Rw akf Rl Rm Rn Hg Hl Ho Hq Rp Rq Rs gJ gK Rx Ry akg akh Rz RA as8 nI aki akj jF jG)), (4, vb i28)], nO :: st))) i28) (fun k hk => ?_) ?_
 clear h
 have h := acn
 clear acn
 conv => arg 1; cbv
 revert h; refine eU (fun hb1 h => cv ?_) fun hb1 h => cv ?_
 refine ah hΩ (cv ?_)
 revert h; refine eU (fun hb2 h => cv ?_) fun hb2 h => cv ?_
 replace h := bJ h
 obtain ⟨r3, hx4, h⟩ := h
 refine au (aoi hΩ hE hx4) (cv ?_)
 revert h; refine eU (fun hb5 h => cv ?_) fun hb5 h => cv ?_
 refine ah hΩ (cv ?_)
 replace h := bJ h
 obtain ⟨r6, hx7, h⟩ := h
 refine au (aoi hΩ hE hx7) (cv ?_)
 revert h; refine eU (fun Cm h => cv ?_) fun Cm h => cv ?_
 replace h := bJ h
 obtain ⟨r9, acv, h⟩ := h
 refine au (az0 hΩ hE acv) (cv ?_)
 revert h; refine eU (fun ak4 h => cv ?_) fun ak4 h => cv ?_
 refine ah hΩ (cv ?_)
 replace h := bJ h
 obtain ⟨LZ, iH, h⟩ := h
 refine au (au3 hΩ hE iH) (cv ?_)
 revert h; refine eU (fun ali h => cv ?_) fun ali h => cv ?_
 replace h := bJ h
 obtain ⟨r15, hx16, h⟩ := h
 refine au (au3 hΩ hE hx16) (cv ?_)
 refine ah hΩ (cv ?_)
 revert h; refine eU (fun kF h => cv ?_) fun kF h => cv ?_
 replace h := bJ h
 obtain ⟨YL, RD, h⟩ := h
 refine au (ayk hΩ hE RD) (cv ?_)
 revert h; refine eU (fun nZ h => cv ?_) fun nZ h => cv ?_
 refine ah hΩ (cv ?_)
 revert h; refine eU (fun aci h => cv ?_) fun aci h => cv ?_
 revert h; refine eU (fun az2 h => cv ?_) fun az2 h => cv ?_
 refine ah hΩ (cv ?_)
 replace h := bJ h
 obtain ⟨r23, hx24, h⟩ := h
 refine au (au3 hΩ hE hx24) (cv ?_)
 revert h; refine eU (fun xR h => cv ?_) fun xR h => cv ?_
 replace h := bJ h
 obtain ⟨r26, hx27, h⟩ := h
 refine au (ayk hΩ hE hx27) (cv ?_)
 exact fk h hk
 exact fk h hk
 refine ah hΩ (cv ?_)
 exact fk h hk
 refine ah hΩ (cv ?_)
 exact fk h hk
 refine ah hΩ (cv ?_)
 refine ah hΩ (cv ?_)
 exact fk h hk
 refine ah hΩ (cv ?_)
 refine ah hΩ (cv ?_)
 exact fk h hk
 refine ah hΩ (cv ?_)
 refine ah hΩ (cv ?_)
 refine ah hΩ (cv ?_)
 exact fk h hk
 refine ah hΩ (cv ?_)
 refine ah hΩ (cv ?_)
 refine ah hΩ (cv ?_)
 refine ah hΩ (cv ?_)
 exact fk h hk
 refine ah hΩ (cv ?_)
 refine ah hΩ (cv ?_)
 refine ah hΩ (cv ?_)
 refine ah hΩ (cv ?_)
 exact fk h hk
 refine ah hΩ (cv ?_)
 refine ah hΩ (cv ?_)
 refine ah hΩ (cv ?_)
 refine ah hΩ (cv ?_)
 refine ah hΩ (cv ?_)
 exact fk h hk
 refine ah hΩ (cv ?_)
 refine ah hΩ (cv ?_)
 refine ah hΩ (cv ?_)
 refine ah hΩ (cv ?_)
 refine ah hΩ (cv ?_)
 exact fk h hk
 refine ah hΩ (cv ?_)
 refine ah hΩ (cv ?_)
 refine ah hΩ (cv ?_)
 refine ah hΩ (cv ?_)
 refine ah hΩ (cv ?_)
 refine ah hΩ (cv ?_)
 exact fk h hk
 clear acn
 try dsimp only at h
 conv => arg 1; cbv
 exact sp h
set_option maxHeartbeats 4000000 in
theorem az3 {a0 : Sl Cell} {a1 : Sl Cell} {r : Bool} (h : P38 fu a0 a1 = some r) {args : List PV} (ha : [PV.d (.sl (E.iE a0.l) (E.ku a0.x)), PV.d (.sl (E.iE a1.l) (E.ku a1.x))] = args) (st : St) :
 Sat (Ω.cf 38 args st) (fun q => q = (PV.d (.bool r), st)) := by
 subst ha
 rcases a0 with ⟨aj, bF⟩
 rcases a1 with ⟨dR, jI⟩
 rw [aK hΩ (f := 38) (fn := Try.f38) (x := c38) rfl rfl ar0 rfl rfl rfl]
 unfold P38 at h
 try dsimp only at h
 conv => arg 1; cbv
 refine bQ hΩ (eP hE) aj fun n1 hn2 => cv ?_
 refine bQ hΩ (eP hE) dR fun n3 KD => cv ?_
 refine bO hΩ (cv ?_)
 revert h; refine eU (fun hb5 h => cv ?_) fun hb5 h => cv ?_
 exact sp h
 replace h := bJ h
 obtain ⟨q, gY, h⟩ := h
 refine dV hΩ (fun (a : Int) => (match a with | i6 => ([(0, PV.d (.sl (E.iE aj) (E.ku bF))), (1, PV.d (.sl (E.iE dR) (E.ku jI))), (4, vb false), (5, vi i6)], nO :: st))) (fun (q : Int ⊕ Int) => (match q with | .inl jP => (.exit 0, [(0, PV.d (.sl (E.iE aj) (E.ku bF))), (1, PV.d (.sl (E.iE dR) (E.ku jI))), (4, vb false), (5, vi jP)], nO :: st) | .inr oQ => (.ret, [(0, PV.d (.sl (E.iE aj) (E.ku bF))), (1, PV.d (.sl (E.iE dR) (E.ku jI))), (4, vb false), (5, vi oQ)], nO :: st))) 0 gY ?_ ?_
 clear h gY
 rintro i6 q h
 unfold WS at h
 dsimp only at h
 conv => arg 1; cbv
 refine bQ hΩ (eP hE) aj fun n7 hn8 => cv ?_
 refine bO hΩ (cv ?_)
 revert h; refine eU (fun vN h => cv ?_) fun vN h => cv ?_
 refine sat_true (dL hΩ (eP hE) aj) (cv ?_)
 replace h := bJ h
 obtain ⟨⟨gI, j6, ⟨wR, wS, wT, ⟨qK, qL⟩, ⟨qM, qN⟩, Pp, wU, Pq⟩, ⟨wV, wW, wX, ⟨qO, qP⟩, ⟨qQ, qR⟩, wY, wZ, w9⟩, ⟨jD, jE⟩, ⟨wN, wO⟩, ⟨Pt, Pv⟩, ⟨wP, wQ⟩, YN, tH, ⟨Pw, Px⟩, ⟨xq, xu⟩⟩, iF, h⟩ := h
 try dsimp only at h
 refine aH (dw hΩ (eP hE) iF) (cv ?_)
 refine sat_true (dL hΩ (eP hE) dR) (cv ?_)
 replace h := bJ h
 obtain ⟨⟨iG, mD, ⟨AY, AZ, A8, ⟨uR, uS⟩, ⟨uT, uU⟩, Vt, A9, Vu⟩, ⟨Ba, Bb, Bc, ⟨uV, uW⟩, ⟨uX, uY⟩, Bd, Bf, Bg⟩, ⟨kH, kI⟩, ⟨Bh, Bj⟩, ⟨Vv, Vw⟩, ⟨Bl, Bn⟩, ad2, yJ, ⟨Vx, Vy⟩, ⟨Bo, Bp⟩⟩, iH, h⟩ := h
 try dsimp only at h
 refine aH (dw hΩ (eP hE) iH) (cv ?_)
 replace h := bJ h
 obtain ⟨zC, uG, h⟩ := h
 refine au (az1 hΩ hE uG) (cv ?_)
 refine bO hΩ (cv ?_)
 revert h; refine eU (fun xS h => cv ?_) fun xS h => cv ?_
 obtain rfl := kM h
 subst_vars
 exact sR
 obtain rfl := kM h
 subst_vars
 exact s3
 obtain rfl := kM h
 subst_vars
 exact sL
 clear gY
 rcases q with jP | oQ
 dsimp only at h
 conv => arg 1; cbv
 exact sp h
 dsimp only at h
 conv => arg 1; cbv
 exact sp h
set_option maxHeartbeats 4000000 in
theorem az4 {a0 : Sl Child} {a1 : Sl Child} {r : Bool} (h : P39 fu a0 a1 = some r) {args : List PV} (ha : [PV.d (.sl (E.fQ a0.l) (E.iJ a0.x)), PV.d (.sl (E.fQ a1.l) (E.iJ a1.x))] = args) (st : St) :
 Sat (Ω.cf 39 args st) (fun q => q = (PV.d (.bool r), st)) := by
 subst ha
 rcases a0 with ⟨aj, bF⟩
 rcases a1 with ⟨dR, jI⟩
 rw [aK hΩ (f := 39) (fn := Try.f39) (x := c39) rfl rfl ar1 rfl rfl rfl]
 unfold P39 at h
 try dsimp only at h
 conv => arg 1; cbv
 refine bQ hΩ (dQ hE) aj fun n1 hn2 => cv ?_
 refine bQ hΩ (dQ hE) dR fun n3 KD => cv ?_
 refine bO hΩ (cv ?_)
 revert h; refine eU (fun hb5 h => cv ?_) fun hb5 h => cv ?_
 exact sp h
 replace h := bJ h
 obtain ⟨q, gY, h⟩ := h
 refine dV hΩ (fun (a : Int) => (match a with | i6 => ([(0, PV.d (.sl (E.fQ aj) (E.iJ bF))), (1, PV.d (.sl (E.fQ dR) (E.iJ jI))), (4, vb false), (5, vi i6)], nO :: st))) (fun (q : Int ⊕ Int) => (match q with | .inl jP => (.exit 0, [(0, PV.d (.sl (E.fQ aj) (E.iJ bF))), (1, PV.d (.sl (E.fQ dR) (E.iJ jI))), (4, vb false), (5, vi jP)], nO :: st) | .inr oQ => (.ret, [(0, PV.d (.sl (E.fQ aj) (E.iJ bF))), (1, PV.d (.sl (E.fQ dR) (E.iJ jI))), (4, vb false), (5, vi oQ)], nO :: st))) 0 gY ?_ ?_
 clear h gY
 rintro i6 q h
 unfold WU at h
 dsimp only at h
 conv => arg 1; cbv
 refine bQ hΩ (dQ hE) aj fun n7 hn8 => cv ?_
 refine bO hΩ (cv ?_)
 revert h; refine eU (fun vN h => cv ?_) fun vN h => cv ?_
 refine sat_true (dL hΩ (dQ hE) aj) (cv ?_)
 replace h := bJ h
 obtain ⟨⟨gI, j6, qc, ⟨wV, wW, wX, ⟨qO, qP⟩, ⟨qQ, qR⟩, wY, wZ, w9⟩⟩, iF, h⟩ := h
 try dsimp only at h
 refine aH (dw hΩ (dQ hE) iF) (cv ?_)
 refine sat_true (dL hΩ (dQ hE) dR) (cv ?_)
 replace h := bJ h
 obtain ⟨⟨iG, mD, tV, ⟨Ba, Bb, Bc, ⟨uV, uW⟩, ⟨uX, uY⟩, Bd, Bf, Bg⟩⟩, iH, h⟩ := h
 try dsimp only at h
 refine aH (dw hΩ (dQ hE) iH) (cv ?_)
 replace h := bJ h
 obtain ⟨zC, uG, h⟩ := h
 refine au (ayl hΩ hE uG) (cv ?_)
 refine bO hΩ (cv ?_)
 revert h; refine eU (fun xS h => cv ?_) fun xS h => cv ?_
 obtain rfl := kM h
 subst_vars
 exact sR
 obtain rfl := kM h
 subst_vars
 exact s3
 obtain rfl := kM h
 subst_vars
 exact sL
 clear gY
 rcases q with jP | oQ
 dsimp only at h
 conv => arg 1; cbv
 exact sp h
 dsimp only at h
 conv => arg 1; cbv
 exact sp h
def H12 (Ω : Om) (E : Enc) (p12 : Inst → Inst → Option (Bool)) : Prop := ∀ {a0 : Inst} {a1 : Inst} {r : Bool}, p12 a0 a1 = some r → ∀ {args : List PV}, [cZ E a0, cZ E a1] = args → ∀ (st : St), Sat (Ω.cf 12 args st) (fun q => q = (PV.d (.bool r), st))
def H40 (Ω : Om) (E : Enc) (p40 : (Sl Inst) → (Sl Inst) → Option (Bool)) : Prop := ∀ {a0 : Sl Inst} {a1 : Sl Inst} {r : Bool}, p40 a0 a1 = some r → ∀ {args : List PV}, [PV.d (.sl (E.aG a0.l) (E.bR a0.x)), PV.d (.sl (E.aG a1.l) (E.bR a1.x))] = args → ∀ (st : St), Sat (Ω.cf 40 args st) (fun q => q = (PV.d (.bool r), st))
set_option maxHeartbeats 4000000 in
theorem ayo {p12 : Inst → Inst → Option (Bool)} (ayp : H12 Ω E p12) {p40 : (Sl Inst) → (Sl Inst) → Option (Bool)} (au4 : H40 Ω E p40) {a0 : Inst} {a1 : Inst} {r : Bool} (h : ana fu p12 p40 a0 a1 = some r) {args : List PV} (ha : [cZ E a0, cZ E a1] = args) (st : St) :
 Sat (Ω.cf 12 args st) (fun q => q = (PV.d (.bool r), st)) := by
 subst ha
 rcases a0 with ⟨bn, ⟨bK, aL, bL, ⟨aT, aU, aV, ⟨av, ay⟩, ⟨aA, aB⟩, aW, aX, aY⟩⟩, ⟨bU, cO⟩, ⟨aZ, bf⟩, ⟨aF, aJ⟩, dM, dI, dN, ⟨bX, bY, bZ, ⟨aP, aQ⟩, ⟨aR, aS⟩, cu, cB, cK⟩, dD, dY, ⟨bB, bH⟩, eB, eD⟩
 rcases a1 with ⟨gX, ⟨jv, jw, jy, ⟨iK, iL, iM, ⟨gq, gu⟩, ⟨gy, gB⟩, iN, iO, iP⟩⟩, ⟨kR, kS⟩, ⟨iA, iB⟩, ⟨gJ, gK⟩, nE, fT, nG, ⟨kT, kU, kV, ⟨iQ, iR⟩, ⟨iT, iU⟩, kW, kX, kY⟩, nI, qW, ⟨jF, jG⟩, qX, qY⟩
 rw [aK hΩ (f := 12) (fn := Try.f12) (x := c12) rfl rfl arV rfl rfl rfl]
 unfold ana at h
 try dsimp only at h
 conv => arg 1; cbv
 replace h := bJ h
 obtain ⟨i26, lC, h⟩ := h
 refine aN hΩ ((fun (q : Bool) => (match q with | i26 => ([(2, PV.dA (uL E bn bK aL bL aT aU aV av ay aA aB aW aX aY bU cO aZ bf aF aJ dM dI dN bX bY bZ aP aQ aR aS cu cB cK dD dY bB bH eB eD)), (3, PV.dA (uL E gX jv jw jy iK iL iM gq gu gy gB iN iO iP kR kS iA iB gJ gK nE fT nG kT kU kV iQ iR iT iU kW kX kY nI qW jF jG qX qY)), (4, vb i26)], nO :: st))) i26) (fun k hk => ?_) ?_
 clear h
 have h := lC
 clear lC
 conv => arg 1; cbv
 revert h; refine eU (fun hb1 h => cv ?_) fun hb1 h => cv ?_
 replace h := bJ h
 obtain ⟨r2, hx3, h⟩ := h
 refine au (ayl hΩ hE hx3) (cv ?_)
 refine ah hΩ (cv ?_)
 revert h; refine eU (fun hb4 h => cv ?_) fun hb4 h => cv ?_
 replace h := bJ h
 obtain ⟨r5, hx6, h⟩ := h
 refine au (az3 hΩ hE hx6) (cv ?_)
 revert h; refine eU (fun Ck h => cv ?_) fun Ck h => cv ?_
 refine ah hΩ (cv ?_)
 replace h := bJ h
 obtain ⟨r8, EH, h⟩ := h
 refine au (az4 hΩ hE EH) (cv ?_)
 revert h; refine eU (fun K9 h => cv ?_) fun K9 h => cv ?_
 replace h := bJ h
 obtain ⟨r11, RJ, h⟩ := h
 refine au (au4 RJ) (cv ?_)
 revert h; refine eU (fun rM h => cv ?_) fun rM h => cv ?_
 refine ah hΩ (cv ?_)
 revert h; refine eU (fun ali h => cv ?_) fun ali h => cv ?_
 refine ah hΩ (cv ?_)
 revert h; refine eU (fun acp h => cv ?_) fun acp h => cv ?_
 revert h; refine eU (fun xS h => cv ?_) fun xS h => cv ?_
 replace h := bJ h
 obtain ⟨r17, auZ, h⟩ := h
 refine au (aoi hΩ hE auZ) (cv ?_)
 refine ah hΩ (cv ?_)
 revert h; refine eU (fun au0 h => cv ?_) fun au0 h => cv ?_
 revert h; refine eU (fun nZ h => cv ?_) fun nZ h => cv ?_
 refine ah hΩ (cv ?_)
 revert h; refine eU (fun aci h => cv ?_) fun aci h => cv ?_
 replace h := bJ h
 obtain ⟨r22, acj, h⟩ := h
 refine au (au4 acj) (cv ?_)
 revert h; refine eU (fun auO h => cv ?_) fun auO h => cv ?_
 refine ah hΩ (cv ?_)
 revert h; refine eU (fun xR h => cv ?_) fun xR h => cv ?_
 refine ah hΩ (cv ?_)
 exact fk h hk
 refine ah hΩ (cv ?_)
 exact fk h hk
 refine ah hΩ (cv ?_)
 refine ah hΩ (cv ?_)
 exact fk h hk
 refine ah hΩ (cv ?_)
 refine ah hΩ (cv ?_)
 exact fk h hk
 refine ah hΩ (cv ?_)
 refine ah hΩ (cv ?_)
 refine ah hΩ (cv ?_)
 exact fk h hk
 refine ah hΩ (cv ?_)
 refine ah hΩ (cv ?_)
 refine ah hΩ (cv ?_)
 exact fk h hk
 refine ah hΩ (cv ?_)
 refine ah hΩ (cv ?_)
 refine ah hΩ (cv ?_)
 refine ah hΩ (cv ?_)
 exact fk h hk
 refine ah hΩ (cv ?_)
 refine ah hΩ (cv ?_)
 refine ah hΩ (cv ?_)
 refine ah hΩ (cv ?_)
 exact fk h hk
 refine ah hΩ (cv ?_)
 refine ah hΩ (cv ?_)
 refine ah hΩ (cv ?_)
 refine ah hΩ (cv ?_)
 refine ah hΩ (cv ?_)
 exact fk h hk
 refine ah hΩ (cv ?_)
 refine ah hΩ (cv ?_)
 refine ah hΩ (cv ?_)
 refine ah hΩ (cv ?_)
 refine ah hΩ (cv ?_)
 refine ah hΩ (cv ?_)
 exact fk h hk
 refine ah hΩ (cv ?_)
 refine ah hΩ (cv ?_)
 refine ah hΩ (cv ?_)
 refine ah hΩ (cv ?_)
 refine ah hΩ (cv ?_)
 refine ah hΩ (cv ?_)
 exact fk h hk
 refine ah hΩ (cv ?_)
 refine ah hΩ (cv ?_)
 refine ah hΩ (cv ?_)
 refine ah hΩ (cv ?_)
 refine ah hΩ (cv ?_)
 refine ah hΩ (cv ?_)
 refine ah hΩ (cv ?_)
 exact fk h hk
 refine ah hΩ (cv ?_)
 refine ah hΩ (cv ?_)
 refine ah hΩ (cv ?_)
 refine ah hΩ (cv ?_)
 refine ah hΩ (cv ?_)
 refine ah hΩ (cv ?_)
 refine ah hΩ (cv ?_)
 exact fk h hk
 refine ah hΩ (cv ?_)
 refine ah hΩ (cv ?_)
 refine ah hΩ (cv ?_)
 refine ah hΩ (cv ?_)
 refine ah hΩ (cv ?_)
 refine ah hΩ (cv ?_)
 refine ah hΩ (cv ?_)
 refine ah hΩ (cv ?_)
 exact fk h hk
 clear lC
 try dsimp only at h
 conv => arg 1; cbv
 exact sp h
set_option maxHeartbeats 4000000 in
theorem ayq {p12 : Inst → Inst → Option (Bool)} (ayp : H12 Ω E p12) {p40 : (Sl Inst) → (Sl Inst) → Option (Bool)} (au4 : H40 Ω E p40) {a0 : Sl Inst} {a1 : Sl Inst} {r : Bool} (h : anb fu p12 p40 a0 a1 = some r) {args : List PV} (ha : [PV.d (.sl (E.aG a0.l) (E.bR a0.x)), PV.d (.sl (E.aG a1.l) (E.bR a1.x))] = args) (st : St) :
 Sat (Ω.cf 40 args st) (fun q => q = (PV.d (.bool r), st)) := by
 subst ha
 rcases a0 with ⟨aj, bF⟩
 rcases a1 with ⟨dR, jI⟩
 rw [aK hΩ (f := 40) (fn := Try.f40) (x := c40) rfl rfl ar2 rfl rfl rfl]
 unfold anb at h
 try dsimp only at h
 conv => arg 1; cbv
 refine bQ hΩ (aD hE) aj fun n1 hn2 => cv ?_
 refine bQ hΩ (aD hE) dR fun n3 KD => cv ?_
 refine bO hΩ (cv ?_)
 revert h; refine eU (fun hb5 h => cv ?_) fun hb5 h => cv ?_
 exact sp h
 replace h := bJ h
 obtain ⟨q, gY, h⟩ := h
 refine dV hΩ (fun (a : Int) => (match a with | i6 => ([(0, PV.d (.sl (E.aG aj) (E.bR bF))), (1, PV.d (.sl (E.aG dR) (E.bR jI))), (4, vb false), (5, vi i6)], nO :: st))) (fun (q : Int ⊕ Int) => (match q with | .inl jP => (.exit 0, [(0, PV.d (.sl (E.aG aj) (E.bR bF))), (1, PV.d (.sl (E.aG dR) (E.bR jI))), (4, vb false), (5, vi jP)], nO :: st) | .inr oQ => (.ret, [(0, PV.d (.sl (E.aG aj) (E.bR bF))), (1, PV.d (.sl (E.aG dR) (E.bR jI))), (4, vb false), (5, vi oQ)], nO :: st))) 0 gY ?_ ?_
 clear h gY
 rintro i6 q h
 unfold WV at h
 dsimp only at h
 conv => arg 1; cbv
 refine bQ hΩ (aD hE) aj fun n7 hn8 => cv ?_
 refine bO hΩ (cv ?_)
 revert h; refine eU (fun vN h => cv ?_) fun vN h => cv ?_
 refine sat_true (dL hΩ (aD hE) aj) (cv ?_)
 replace h := bJ h
 obtain ⟨⟨gI, ⟨qD, qE, qF, ⟨Jo, Jp, Jq, ⟨D7, D8⟩, ⟨D9, Ea⟩, Jr, Js, Jt⟩⟩, ⟨Py, Pz⟩, ⟨mo, mq⟩, ⟨jD, jE⟩, yA, qd, yB, ⟨PD, PE, PG, ⟨Ju, Jv⟩, ⟨Jw, Jy⟩, PI, PK, PL⟩, tH, YO, ⟨xq, xu⟩, YP, YQ⟩, iF, h⟩ := h
 try dsimp only at h
 refine aH (dw hΩ (aD hE) iF) (cv ?_)
 refine sat_true (dL hΩ (aD hE) dR) (cv ?_)
 replace h := bJ h
 obtain ⟨⟨iG, ⟨uD, uE, uF, ⟨M4, M5, M6, ⟨JK, JL⟩, ⟨JM, JN⟩, M7, M8, M9⟩⟩, ⟨VY, VZ⟩, ⟨nV, nW⟩, ⟨kH, kI⟩, Cw, tX, Cx, ⟨V3, V4, V5, ⟨Na, Nb⟩, ⟨Nc, Nf⟩, V6, V7, V8⟩, yJ, ad7, ⟨Bo, Bp⟩, ad8, ad9⟩, iH, h⟩ := h
 try dsimp only at h
 refine aH (dw hΩ (aD hE) iH) (cv ?_)
 replace h := bJ h
 obtain ⟨zC, uG, h⟩ := h
 refine au (ayp uG) (cv ?_)
 refine bO hΩ (cv ?_)
 revert h; refine eU (fun xS h => cv ?_) fun xS h => cv ?_
 obtain rfl := kM h
 subst_vars
 exact sR
 obtain rfl := kM h
 subst_vars
 exact s3
 obtain rfl := kM h
 subst_vars
 exact sL
 clear gY
 rcases q with jP | oQ
 dsimp only at h
 conv => arg 1; cbv
 exact sp h
 dsimp only at h
 conv => arg 1; cbv
 exact sp h
theorem ayr : ∀ fu,
 (∀ {a0 : Inst} {a1 : Inst} {r : Bool}, P12 fu a0 a1 = some r → ∀ {args : List PV}, [cZ E a0, cZ E a1] = args → ∀ (st : St), Sat (Ω.cf 12 args st) (fun q => q = (PV.d (.bool r), st))) ∧
 (∀ {a0 : Sl Inst} {a1 : Sl Inst} {r : Bool}, P40 fu a0 a1 = some r → ∀ {args : List PV}, [PV.d (.sl (E.aG a0.l) (E.bR a0.x)), PV.d (.sl (E.aG a1.l) (E.bR a1.x))] = args → ∀ (st : St), Sat (Ω.cf 40 args st) (fun q => q = (PV.d (.bool r), st))) := by
 intro fu
 induction fu with
 | zero => exact ⟨(fun h => (by cases h)), (fun h => (by cases h))⟩
 | succ fu ih =>
  obtain ⟨i12, i40⟩ := ih
  exact ⟨(fun h => @fun args ha st => ayo (fu := fu) hΩ hE i12 i40 h ha st), (fun h => @fun args ha st => ayq (fu := fu) hΩ hE i12 i40 h ha st)⟩
theorem ays : ∀ {a0 : Inst} {a1 : Inst} {r : Bool}, P12 fu a0 a1 = some r → ∀ {args : List PV}, [cZ E a0, cZ E a1] = args → ∀ (st : St), Sat (Ω.cf 12 args st) (fun q => q = (PV.d (.bool r), st)) := (ayr hΩ hE fu).1
set_option maxHeartbeats 4000000 in
theorem ok3 {a0 : Inst} {a1 : Int} {r : Bool} (h : P3 fu a0 a1 = some r) {args : List PV} (ha : [cZ E a0, PV.d (.int .u8 a1)] = args) (st : St) :
 Sat (Ω.cf 3 args st) (fun q => q = (PV.d (.bool r), st)) := by
 subst ha
 rcases a0 with ⟨bn, ⟨bK, aL, bL, ⟨aT, aU, aV, ⟨av, ay⟩, ⟨aA, aB⟩, aW, aX, aY⟩⟩, ⟨bU, cO⟩, ⟨aZ, bf⟩, ⟨aF, aJ⟩, dM, dI, dN, ⟨bX, bY, bZ, ⟨aP, aQ⟩, ⟨aR, aS⟩, cu, cB, cK⟩, dD, dY, ⟨bB, bH⟩, eB, eD⟩
 rw [aK hΩ (f := 3) (fn := Try.f3) (x := c3) rfl rfl av8 rfl rfl rfl]
 unfold P3 at h
 try dsimp only at h
 conv => arg 1; cbv
 replace h := bJ h
 obtain ⟨i9, au5, h⟩ := h
 refine aN hΩ ((fun (q : Bool) => (match q with | i9 => ([(1, PV.d (.int .u8 a1)), (2, PV.dA (uL E bn bK aL bL aT aU aV av ay aA aB aW aX aY bU cO aZ bf aF aJ dM dI dN bX bY bZ aP aQ aR aS cu cB cK dD dY bB bH eB eD)), (4, vb false), (24, vb i9)], nO :: st))) i9) (fun k hk => ?_) ?_
 clear h
 have h := au5
 clear au5
 conv => arg 1; cbv
 replace h := bJ h
 obtain ⟨r1, hx2, h⟩ := h
 refine au (ok7 hΩ hE hx2) (cv ?_)
 revert h; refine eU (fun hb3 h => cv ?_) fun hb3 h => cv ?_
 replace h := bJ h
 obtain ⟨r4, hx5, h⟩ := h
 refine au (ok8 hΩ hE hx5) (cv ?_)
 revert h; refine eU (fun hb6 h => cv ?_) fun hb6 h => cv ?_
 replace h := bJ h
 obtain ⟨r7, RG, h⟩ := h
 refine au (ok9 hΩ hE RG) (cv ?_)
 exact fk h hk
 exact fk h hk
 exact fk h hk
 clear au5
 try dsimp only at h
 conv => arg 1; cbv
 refine bO hΩ (cv ?_)
 revert h; refine eU (fun K9 h => cv ?_) fun K9 h => cv ?_
 replace h := bJ h
 obtain ⟨r11, RJ, h⟩ := h
 refine au (ok7 hΩ hE RJ) (cv ?_)
 exact sp h
 replace h := bJ h
 obtain ⟨⟨nX, JJ⟩, auJ, h⟩ := h
 try dsimp only at h
 refine au (auT hΩ hE auJ) (cv ?_)
 refine bQ hΩ (aD hE) nX fun n15 hn16 => cv ?_
 replace h := KY h
 rcases h with ⟨kF, h⟩ | ⟨kF, h⟩
 cases h
 refine ac7 kF (cv ?_)
 refine sat_true (dL hΩ (aD hE) nX) (cv ?_)
 replace h := bJ h
 obtain ⟨⟨xQ, ⟨pO, Br, Bt, ⟨uZ, u6, u7, ⟨rA, rC⟩, ⟨rD, rE⟩, vg, vk, vo⟩⟩, ⟨Bu, Bv⟩, ⟨Bw, Bz⟩, ⟨BA, BD⟩, Kg, Kh, Ki, ⟨BF, BG, BH, ⟨vv, vw⟩, ⟨vB, vC⟩, BI, BJ, BK⟩, Kj, Kk, ⟨BL, BM⟩, Kl, Km⟩, RD, h⟩ := h
 try dsimp only at h
 refine aH (dw hΩ (aD hE) RD) (cv ?_)
 replace h := bJ h
 obtain ⟨⟨Kn, ⟨BN, BO, BP, ⟨vD, vE, vF, ⟨rF, rG⟩, ⟨rH, rJ⟩, vG, vH, vI⟩⟩, ⟨BQ, BR⟩, ⟨BS, BU⟩, ⟨BX, BZ⟩, Ko, Kq, Kr, ⟨Ca, Cb, Cc, ⟨vJ, vK⟩, ⟨vL, vM⟩, Ce, Cg, Ch⟩, Kt, Ku, ⟨Ci, Cj⟩, Kv, Kw⟩, az5, h⟩ := h
 try dsimp only at h
 refine au (auW hΩ hE az5) (cv ?_)
 replace h := bJ h
 obtain ⟨i34, au6, h⟩ := h
 refine aN hΩ ((fun (q : Bool) => (match q with | i34 => ([(1, PV.d (.int .u8 a1)), (2, PV.dA (uL E bn bK aL bL aT aU aV av ay aA aB aW aX aY bU cO aZ bf aF aJ dM dI dN bX bY bZ aP aQ aR aS cu cB cK dD dY bB bH eB eD)), (4, vb false), (5, PV.d (.sl (E.aG nX) (E.bR JJ))), (6, PV.ptr 0 0 0), (7, PV.ptr 0 1 0), (8, PV.ptr 0 2 0), (64, vb i34)], ([X.Obj.box 34 (TJ E xQ pO Br Bt uZ u6 u7 rA rC rD rE vg vk vo Bu Bv Bw Bz BA BD Kg Kh Ki BF BG BH vv vw vB vC BI BJ BK Kj Kk BL BM Kl Km), X.Obj.box 34 [.d (.int .i64 xQ), .d (.str pO), .d (.int .u8 4), .d (.str ByteArray.empty), .d (.int .u8 0), .d (.int .i64 0), .d (.str ByteArray.empty), .d (.sl [] (some [])), .d (.sl [] (some [])), .d (.int .u8 0), .d (.str ByteArray.empty), .d (.bool false), .d (.sl [] (some [])), .d (.sl [] (some [])), .d (.sl [] (some [])), .d (.int .i64 0), .d (.bool false), .d (.bool false), .d (.int .u8 0), .d (.int .i64 0), .d (.str ByteArray.empty), .d (.sl [] (some [])), .d (.sl [] (some [])), .d (.int .u8 0), .d (.str ByteArray.empty), .d (.bool false), .d (.str ByteArray.empty), .d (.bool false), .d (.sl [] (some [])), .d (.bool false), .d (.bool false)], X.Obj.box 34 (TJ E Kn BN BO BP vD vE vF rF rG rH rJ vG vH vI BQ BR BS BU BX BZ Ko Kq Kr Ca Cb Cc vJ vK vL vM Ce Cg Ch Kt Ku Ci Cj Kv Kw)] : List X.Obj) :: st))) i34) (fun k hk => ?_) ?_
 clear h
 have h := au6
 clear au6
 conv => arg 1; cbv
 replace h := bJ h
 obtain ⟨⟨aqV, ⟨aks, akt, aku, ⟨aez, aeA, aeB, ⟨ZQ, ZR⟩, ⟨ZT, ZU⟩, aeC, aeD, aeE⟩⟩, ⟨akv, akw⟩, ⟨akx, aky⟩, ⟨akz, akA⟩, aqW, aqX, aqY, ⟨akB, akC, akD, ⟨aeF, aeG⟩, ⟨aeH, aeI⟩, akE, akF, akG⟩, aqZ, aq0, ⟨akH, akI⟩, aq1, aq2⟩, acj, h⟩ := h
 try dsimp only at h
 refine au (auW hΩ hE acj) (cv ?_)
 refine sat_true (fP hΩ _) (cv ?_)
 replace h := bJ h
 obtain ⟨r24, hx25, h⟩ := h
 refine au (ays hΩ hE hx25) (cv ?_)
 revert h; refine eU (fun auo h => cv ?_) fun auo h => cv ?_
 replace h := bJ h
 obtain ⟨⟨aq3, ⟨akJ, akK, akL, ⟨aeJ, aeK, aeL, ⟨ZV, ZW⟩, ⟨ZX, ZY⟩, aeM, aeN, aeO⟩⟩, ⟨akM, akN⟩, ⟨akO, akP⟩, ⟨akQ, akR⟩, aq4, aq5, aq6, ⟨akS, akT, akU, ⟨aeP, aeQ⟩, ⟨aeR, aeS⟩, akV, akW, akX⟩, aq7, aq8, ⟨akY, akZ⟩, aq9, ara⟩, hx28, h⟩ := h
 try dsimp only at h
 refine au (auW hΩ hE hx28) (cv ?_)
 refine sat_true (fP hΩ _) (cv ?_)
 replace h := bJ h
 obtain ⟨r29, aup, h⟩ := h
 refine au (ays hΩ hE aup) (cv ?_)
 refine ah hΩ (cv ?_)
 revert h; refine eU (fun az6 h => cv ?_) fun az6 h => cv ?_
 replace h := bJ h
 obtain ⟨r32, az7, h⟩ := h
 refine au (ok9 hΩ hE az7) (cv ?_)
 exact fk h hk
 exact fk h hk
 refine ah hΩ (cv ?_)
 exact fk h hk
 clear au6
 try dsimp only at h
 conv => arg 1; cbv
 refine bO hΩ (cv ?_)
 revert h; refine eU (fun ak5 h => cv ?_) fun ak5 h => cv ?_
 exact sp h
 replace h := bJ h
 obtain ⟨⟨TI, axv⟩, aur, h⟩ := h
 try dsimp only at h
 refine au (auT hΩ hE aur) (cv ?_)
 refine bQ hΩ (aD hE) TI fun n38 aAB => cv ?_
 replace h := bJ h
 obtain ⟨⟨zM, Z0⟩, aus, h⟩ := h
 try dsimp only at h
 refine au (auT hΩ hE aus) (cv ?_)
 refine bQ hΩ (aD hE) zM fun n42 hn43 => cv ?_
 refine bQ hΩ (aD hE) nX fun n44 hn45 => cv ?_
 refine bO hΩ (cv ?_)
 revert h; refine eU (fun auu h => cv ?_) fun auu h => cv ?_
 exact sp h
 refine bQ hΩ (aD hE) nX fun n47 aAC => cv ?_
 replace h := KY h
 rcases h with ⟨ayt, h⟩ | ⟨ayt, h⟩
 cases h
 refine ac7 ayt (cv ?_)
 replace h := bJ h
 obtain ⟨q, au7, h⟩ := h
 refine dV hΩ (fun (a : Int) => (match a with | i50 => ([(2, PV.dA (uL E bn bK aL bL aT aU aV av ay aA aB aW aX aY bU cO aZ bf aF aJ dM dI dN bX bY bZ aP aQ aR aS cu cB cK dD dY bB bH eB eD)), (4, vb false), (5, PV.d (.sl (E.aG nX) (E.bR JJ))), (6, PV.ptr 0 0 0), (7, PV.ptr 0 1 0), (8, PV.ptr 0 2 0), (9, PV.d (.int .i64 (Ω.wrap .i64 (Ω.sub n38 1)))), (10, PV.d (.sl (E.aG zM) (E.bR Z0))), (11, PV.d (.int .i64 (Ω.tmod (Ω.wrap .i64 a1) n47))), (12, vi i50)], ([X.Obj.box 34 (TJ E xQ pO Br Bt uZ u6 u7 rA rC rD rE vg vk vo Bu Bv Bw Bz BA BD Kg Kh Ki BF BG BH vv vw vB vC BI BJ BK Kj Kk BL BM Kl Km), X.Obj.box 34 [.d (.int .i64 xQ), .d (.str pO), .d (.int .u8 4), .d (.str ByteArray.empty), .d (.int .u8 0), .d (.int .i64 0), .d (.str ByteArray.empty), .d (.sl [] (some [])), .d (.sl [] (some [])), .d (.int .u8 0), .d (.str ByteArray.empty), .d (.bool false), .d (.sl [] (some [])), .d (.sl [] (some [])), .d (.sl [] (some [])), .d (.int .i64 0), .d (.bool false), .d (.bool false), .d (.int .u8 0), .d (.int .i64 0), .d (.str ByteArray.empty), .d (.sl [] (some [])), .d (.sl [] (some [])), .d (.int .u8 0), .d (.str ByteArray.empty), .d (.bool false), .d (.str ByteArray.empty), .d (.bool false), .d (.sl [] (some [])), .d (.bool false), .d (.bool false)], X.Obj.box 34 (TJ E Kn BN BO BP vD vE vF rF rG rH rJ vG vH vI BQ BR BS BU BX BZ Ko Kq Kr Ca Cb Cc vJ vK vL vM Ce Cg Ch Kt Ku Ci Cj Kv Kw)] : List X.Obj) :: st))) (fun (q : Int ⊕ Int) => (match q with | .inl o63 => (.exit 0, [(2, PV.dA (uL E bn bK aL bL aT aU aV av ay aA aB aW aX aY bU cO aZ bf aF aJ dM dI dN bX bY bZ aP aQ aR aS cu cB cK dD dY bB bH eB eD)), (4, vb false), (5, PV.d (.sl (E.aG nX) (E.bR JJ))), (6, PV.ptr 0 0 0), (7, PV.ptr 0 1 0), (8, PV.ptr 0 2 0), (9, PV.d (.int .i64 (Ω.wrap .i64 (Ω.sub n38 1)))), (10, PV.d (.sl (E.aG zM) (E.bR Z0))), (11, PV.d (.int .i64 (Ω.tmod (Ω.wrap .i64 a1) n47))), (12, vi o63)], ([X.Obj.box 34 (TJ E xQ pO Br Bt uZ u6 u7 rA rC rD rE vg vk vo Bu Bv Bw Bz BA BD Kg Kh Ki BF BG BH vv vw vB vC BI BJ BK Kj Kk BL BM Kl Km), X.Obj.box 34 [.d (.int .i64 xQ), .d (.str pO), .d (.int .u8 4), .d (.str ByteArray.empty), .d (.int .u8 0), .d (.int .i64 0), .d (.str ByteArray.empty), .d (.sl [] (some [])), .d (.sl [] (some [])), .d (.int .u8 0), .d (.str ByteArray.empty), .d (.bool false), .d (.sl [] (some [])), .d (.sl [] (some [])), .d (.sl [] (some [])), .d (.int .i64 0), .d (.bool false), .d (.bool false), .d (.int .u8 0), .d (.int .i64 0), .d (.str ByteArray.empty), .d (.sl [] (some [])), .d (.sl [] (some [])), .d (.int .u8 0), .d (.str ByteArray.empty), .d (.bool false), .d (.str ByteArray.empty), .d (.bool false), .d (.sl [] (some [])), .d (.bool false), .d (.bool false)], X.Obj.box 34 (TJ E Kn BN BO BP vD vE vF rF rG rH rJ vG vH vI BQ BR BS BU BX BZ Ko Kq Kr Ca Cb Cc vJ vK vL vM Ce Cg Ch Kt Ku Ci Cj Kv Kw)] : List X.Obj) :: st) | .inr o64 => (.ret, [(2, PV.dA (uL E bn bK aL bL aT aU aV av ay aA aB aW aX aY bU cO aZ bf aF aJ dM dI dN bX bY bZ aP aQ aR aS cu cB cK dD dY bB bH eB eD)), (4, vb false), (5, PV.d (.sl (E.aG nX) (E.bR JJ))), (6, PV.ptr 0 0 0), (7, PV.ptr 0 1 0), (8, PV.ptr 0 2 0), (9, PV.d (.int .i64 (Ω.wrap .i64 (Ω.sub n38 1)))), (10, PV.d (.sl (E.aG zM) (E.bR Z0))), (11, PV.d (.int .i64 (Ω.tmod (Ω.wrap .i64 a1) n47))), (12, vi o64)], ([X.Obj.box 34 (TJ E xQ pO Br Bt uZ u6 u7 rA rC rD rE vg vk vo Bu Bv Bw Bz BA BD Kg Kh Ki BF BG BH vv vw vB vC BI BJ BK Kj Kk BL BM Kl Km), X.Obj.box 34 [.d (.int .i64 xQ), .d (.str pO), .d (.int .u8 4), .d (.str ByteArray.empty), .d (.int .u8 0), .d (.int .i64 0), .d (.str ByteArray.empty), .d (.sl [] (some [])), .d (.sl [] (some [])), .d (.int .u8 0), .d (.str ByteArray.empty), .d (.bool false), .d (.sl [] (some [])), .d (.sl [] (some [])), .d (.sl [] (some [])), .d (.int .i64 0), .d (.bool false), .d (.bool false), .d (.int .u8 0), .d (.int .i64 0), .d (.str ByteArray.empty), .d (.sl [] (some [])), .d (.sl [] (some [])), .d (.int .u8 0), .d (.str ByteArray.empty), .d (.bool false), .d (.str ByteArray.empty), .d (.bool false), .d (.sl [] (some [])), .d (.bool false), .d (.bool false)], X.Obj.box 34 (TJ E Kn BN BO BP vD vE vF rF rG rH rJ vG vH vI BQ BR BS BU BX BZ Ko Kq Kr Ca Cb Cc vJ vK vL vM Ce Cg Ch Kt Ku Ci Cj Kv Kw)] : List X.Obj) :: st))) 0 au7 ?_ ?_
 clear h au7
 rintro i50 q h
 unfold TH at h
 dsimp only at h
 conv => arg 1; cbv
 refine bQ hΩ (aD hE) zM fun n51 aAD => cv ?_
 refine bO hΩ (cv ?_)
 revert h; refine eU (fun az8 h => cv ?_) fun az8 h => cv ?_
 replace h := bJ h
 obtain ⟨i55, acA, h⟩ := h
 refine aN hΩ ((fun (q : Int) => (match q with | i55 => (.normal, [(2, PV.dA (uL E bn bK aL bL aT aU aV av ay aA aB aW aX aY bU cO aZ bf aF aJ dM dI dN bX bY bZ aP aQ aR aS cu cB cK dD dY bB bH eB eD)), (4, vb false), (5, PV.d (.sl (E.aG nX) (E.bR JJ))), (6, PV.ptr 0 0 0), (7, PV.ptr 0 1 0), (8, PV.ptr 0 2 0), (9, PV.d (.int .i64 (Ω.wrap .i64 (Ω.sub n38 1)))), (10, PV.d (.sl (E.aG zM) (E.bR Z0))), (11, PV.d (.int .i64 (Ω.tmod (Ω.wrap .i64 a1) n47))), (12, vi i50), (13, vi i55)], ([X.Obj.box 34 (TJ E xQ pO Br Bt uZ u6 u7 rA rC rD rE vg vk vo Bu Bv Bw Bz BA BD Kg Kh Ki BF BG BH vv vw vB vC BI BJ BK Kj Kk BL BM Kl Km), X.Obj.box 34 [.d (.int .i64 xQ), .d (.str pO), .d (.int .u8 4), .d (.str ByteArray.empty), .d (.int .u8 0), .d (.int .i64 0), .d (.str ByteArray.empty), .d (.sl [] (some [])), .d (.sl [] (some [])), .d (.int .u8 0), .d (.str ByteArray.empty), .d (.bool false), .d (.sl [] (some [])), .d (.sl [] (some [])), .d (.sl [] (some [])), .d (.int .i64 0), .d (.bool false), .d (.bool false), .d (.int .u8 0), .d (.int .i64 0), .d (.str ByteArray.empty), .d (.sl [] (some [])), .d (.sl [] (some [])), .d (.int .u8 0), .d (.str ByteArray.empty), .d (.bool false), .d (.str ByteArray.empty), .d (.bool false), .d (.sl [] (some [])), .d (.bool false), .d (.bool false)], X.Obj.box 34 (TJ E Kn BN BO BP vD vE vF rF rG rH rJ vG vH vI BQ BR BS BU BX BZ Ko Kq Kr Ca Cb Cc vJ vK vL vM Ce Cg Ch Kt Ku Ci Cj Kv Kw)] : List X.Obj) :: st))) i55) (fun k hk => ?_) ?_
 clear h
 have h := acA
 clear acA
 conv => arg 1; cbv
 revert h; refine eU (fun auw h => cv ?_) fun auw h => cv ?_
 exact fk h hk
 exact fk h hk
 clear acA
 try dsimp only at h
 conv => arg 1; cbv
 refine sat_true (dL hΩ (aD hE) zM) (cv ?_)
 replace h := bJ h
 obtain ⟨⟨aqT, ⟨as9, ata, atb, ⟨anc, ane, anf, ⟨akk, akl⟩, ⟨akm, akn⟩, ang, anh, ani⟩⟩, ⟨atc, atd⟩, ⟨ate, atf⟩, ⟨atg, ath⟩, axf, axg, axh, ⟨ati, atj, atl, ⟨anj, ank⟩, ⟨anl, anm⟩, atm, atn, ato⟩, axi, axj, ⟨atp, atq⟩, axk, axl⟩, az9, h⟩ := h
 try dsimp only at h
 refine aH (dw hΩ (aD hE) az9) (cv ?_)
 refine sat_true (dL hΩ (aD hE) nX) (cv ?_)
 replace h := bJ h
 obtain ⟨⟨aqU, ⟨atr, att, atu, ⟨ano, anp, anq, ⟨ako, akp⟩, ⟨akq, akr⟩, anr, ant, anu⟩⟩, ⟨atv, atw⟩, ⟨atx, aty⟩, ⟨atz, atA⟩, axn, axo, axp, ⟨atB, atC, atD, ⟨anv, anw⟩, ⟨anx, anz⟩, atE, atF, atG⟩, axq, axr, ⟨atH, atI⟩, axt, axu⟩, auy, h⟩ := h
 try dsimp only at h
 refine aH (dw hΩ (aD hE) auy) (cv ?_)
 refine bO hΩ (cv ?_)
 revert h; refine eU (fun aAa h => cv ?_) fun aAa h => cv ?_
 obtain rfl := kM h
 subst_vars
 exact sR
 obtain rfl := kM h
 subst_vars
 exact s3
 obtain rfl := kM h
 subst_vars
 exact sL
 clear au7
 rcases q with o63 | o64
 dsimp only at h
 conv => arg 1; cbv
 exact sp h
 dsimp only at h
 conv => arg 1; cbv
 exact sp h
end Go.Proofs.Ytedfkehkcaaplaa
