/- The interpreter computes just these functions: printed by a small program. -/
import Derived.Test.YtipkggkbldgmjaaGreatCYO2
namespace Go.Proofs.YtipkggkbldgmjaaGreat
open Go Go.X
set_option linter.unusedVariables false
set_option linter.unusedSimpArgs false
set_option linter.unusedSectionVars false
variable {Ω : Om} {E : Enc} (hΩ : real (call S) = Ω) (hE : jO = E) {fu : Nat}
include hΩ hE
set_option maxRecDepth 100000
set_option maxHeartbeats 4000000 in
theorem arp {K7 : Value → Value → Option (Bool)} (afE : H13 Ω E K7) {p28 : (Sl Value) → (Sl Value) → Option (Bool)} (aiF : H28 Ω E p28) {p29 : (Sl Field) → (Sl Field) → Option (Bool)} (aiG : H29 Ω E p29) {p59 : Field → Field → Option (Bool)} (aiH : H59 Ω E p59) {a0 : Sl Field} {a1 : Sl Field} {r : Bool} (h : ahJ fu K7 p28 p29 p59 a0 a1 = some r) {args : List PV} (ha : [PV.d (.sl (E.aB a0.l) (E.aG a0.x)), PV.d (.sl (E.aB a1.l) (E.aG a1.x))] = args) (st : St) :
 Sat (Ω.cf 29 args st) (fun q => q = (PV.d (.bool r), st)) := by
 subst ha
 rcases a0 with ⟨ah, aY⟩
 rcases a1 with ⟨aL, dS⟩
 rw [aR hΩ (f := 29) (fn := Tryz.f29) (x := c29) rfl rfl akJ rfl rfl rfl]
 unfold ahJ at h
 try dsimp only at h
 conv => arg 1; cbv
 refine av hΩ (ak hE) ah fun n1 hn2 => cv ?_
 refine av hΩ (ak hE) aL fun n3 FP => cv ?_
 refine aC hΩ (cv ?_)
 revert h; refine bU (fun hb5 h => cv ?_) fun hb5 h => cv ?_
 exact sp h
 replace h := aW h
 obtain ⟨q, l7, h⟩ := h
 refine dL hΩ (fun (a : Int) => (match a with | i6 => ([(0, PV.d (.sl (E.aB ah) (E.aG aY))), (1, PV.d (.sl (E.aB aL) (E.aG dS))), (4, vb false), (5, vi i6)], nO :: st))) (fun (q : Int ⊕ Int) => (match q with | .inl rA => (.exit 0, [(0, PV.d (.sl (E.aB ah) (E.aG aY))), (1, PV.d (.sl (E.aB aL) (E.aG dS))), (4, vb false), (5, vi rA)], nO :: st) | .inr xu => (.ret, [(0, PV.d (.sl (E.aB ah) (E.aG aY))), (1, PV.d (.sl (E.aB aL) (E.aG dS))), (4, vb false), (5, vi xu)], nO :: st))) 0 l7 ?_ ?_
 clear h l7
 rintro i6 q h
 unfold QV at h
 dsimp only at h
 conv => arg 1; cbv
 refine av hΩ (ak hE) ah fun n7 hn8 => cv ?_
 refine aC hΩ (cv ?_)
 revert h; refine bU (fun nC h => cv ?_) fun nC h => cv ?_
 refine sat_true (bg hΩ (ak hE) ah) (cv ?_)
 replace h := aW h
 obtain ⟨⟨jv, ⟨nT, nU, nV, ⟨lu, lC⟩, ⟨lD, lF⟩, nW, nX, nY⟩⟩, mP, h⟩ := h
 try dsimp only at h
 refine aM (bG hΩ (ak hE) mP) (cv ?_)
 refine sat_true (bg hΩ (ak hE) aL) (cv ?_)
 replace h := aW h
 obtain ⟨⟨iX, ⟨uP, uQ, uR, ⟨oK, oN⟩, ⟨oO, oP⟩, uS, uT, uU⟩⟩, mQ, h⟩ := h
 try dsimp only at h
 refine aM (bG hΩ (ak hE) mQ) (cv ?_)
 replace h := aW h
 obtain ⟨FK, yA, h⟩ := h
 refine aH (aiH yA) (cv ?_)
 refine aC hΩ (cv ?_)
 revert h; refine bU (fun qm h => cv ?_) fun qm h => cv ?_
 obtain rfl := fV h
 subst_vars
 exact sR
 obtain rfl := fV h
 subst_vars
 exact s3
 obtain rfl := fV h
 subst_vars
 exact sL
 clear l7
 rcases q with rA | xu
 dsimp only at h
 conv => arg 1; cbv
 exact sp h
 dsimp only at h
 conv => arg 1; cbv
 exact sp h
set_option maxHeartbeats 4000000 in
theorem arq {K7 : Value → Value → Option (Bool)} (afE : H13 Ω E K7) {p28 : (Sl Value) → (Sl Value) → Option (Bool)} (aiF : H28 Ω E p28) {p29 : (Sl Field) → (Sl Field) → Option (Bool)} (aiG : H29 Ω E p29) {p59 : Field → Field → Option (Bool)} (aiH : H59 Ω E p59) {a0 : Field} {a1 : Field} {r : Bool} (h : ahK fu K7 p28 p29 p59 a0 a1 = some r) {args : List PV} (ha : [eU E a0, eU E a1] = args) (st : St) :
 Sat (Ω.cf 59 args st) (fun q => q = (PV.d (.bool r), st)) := by
 subst ha
 rcases a0 with ⟨aD, ⟨og, oh, om, ⟨kM, kN⟩, ⟨kP, kQ⟩, oo, oq, ou⟩⟩
 rcases a1 with ⟨iL, ⟨xw, xA, xB, ⟨pV, pW⟩, ⟨pX, pY⟩, xC, xD, xE⟩⟩
 rw [aR hΩ (f := 59) (fn := Tryz.f59) (x := c59) rfl rfl akW rfl rfl rfl]
 unfold ahK at h
 try dsimp only at h
 conv => arg 1; cbv
 replace h := aW h
 obtain ⟨i4, hq5, h⟩ := h
 refine aI hΩ ((fun (q : Bool) => (match q with | i4 => ([(2, PV.bf (zD5 E aD og oh om kM kN kP kQ oo oq ou)), (3, PV.bf (zD5 E iL xw xA xB pV pW pX pY xC xD xE)), (4, vb i4)], nO :: st))) i4) (fun k hk => ?_) ?_
 clear h
 have h := hq5
 clear hq5
 conv => arg 1; cbv
 revert h; refine bU (fun hb1 h => cv ?_) fun hb1 h => cv ?_
 replace h := aW h
 obtain ⟨r2, hx3, h⟩ := h
 refine aH (afE hx3) (cv ?_)
 refine aj hΩ (cv ?_)
 exact fk h hk
 refine aj hΩ (cv ?_)
 exact fk h hk
 clear hq5
 try dsimp only at h
 conv => arg 1; cbv
 exact sp h
theorem ars : ∀ fu,
 (∀ {a0 : Value} {a1 : Value} {r : Bool}, P13 fu a0 a1 = some r → ∀ {args : List PV}, [aT E a0, aT E a1] = args → ∀ (st : St), Sat (Ω.cf 13 args st) (fun q => q = (PV.d (.bool r), st))) ∧
 (∀ {a0 : Sl Value} {a1 : Sl Value} {r : Bool}, P28 fu a0 a1 = some r → ∀ {args : List PV}, [PV.d (.sl (E.aN a0.l) (E.aU a0.x)), PV.d (.sl (E.aN a1.l) (E.aU a1.x))] = args → ∀ (st : St), Sat (Ω.cf 28 args st) (fun q => q = (PV.d (.bool r), st))) ∧
 (∀ {a0 : Sl Field} {a1 : Sl Field} {r : Bool}, P29 fu a0 a1 = some r → ∀ {args : List PV}, [PV.d (.sl (E.aB a0.l) (E.aG a0.x)), PV.d (.sl (E.aB a1.l) (E.aG a1.x))] = args → ∀ (st : St), Sat (Ω.cf 29 args st) (fun q => q = (PV.d (.bool r), st))) ∧
 (∀ {a0 : Field} {a1 : Field} {r : Bool}, P59 fu a0 a1 = some r → ∀ {args : List PV}, [eU E a0, eU E a1] = args → ∀ (st : St), Sat (Ω.cf 59 args st) (fun q => q = (PV.d (.bool r), st))) := by
 intro fu
 induction fu with
 | zero => exact ⟨(fun h => (by cases h)), (fun h => (by cases h)), (fun h => (by cases h)), (fun h => (by cases h))⟩
 | succ fu ih =>
  obtain ⟨zw, i28, i29, i59⟩ := ih
  exact ⟨(fun h => @fun args ha st => arn (fu := fu) hΩ hE zw i28 i29 i59 h ha st), (fun h => @fun args ha st => aro (fu := fu) hΩ hE zw i28 i29 i59 h ha st), (fun h => @fun args ha st => arp (fu := fu) hΩ hE zw i28 i29 i59 h ha st), (fun h => @fun args ha st => arq (fu := fu) hΩ hE zw i28 i29 i59 h ha st)⟩
theorem atf : ∀ {a0 : Value} {a1 : Value} {r : Bool}, P13 fu a0 a1 = some r → ∀ {args : List PV}, [aT E a0, aT E a1] = args → ∀ (st : St), Sat (Ω.cf 13 args st) (fun q => q = (PV.d (.bool r), st)) := (ars hΩ hE fu).1
def H60 (Ω : Om) (E : Enc) (p60 : Value → Value → Option (Bool)) : Prop := ∀ {a0 : Value} {a1 : Value} {r : Bool}, p60 a0 a1 = some r → ∀ {args : List PV}, [aT E a0, aT E a1] = args → ∀ (st : St), Sat (Ω.cf 60 args st) (fun q => q = (PV.d (.bool r), st))
def H61 (Ω : Om) (E : Enc) (p61 : (Sl Value) → (Sl Value) → Option (Bool)) : Prop := ∀ {a0 : Sl Value} {a1 : Sl Value} {r : Bool}, p61 a0 a1 = some r → ∀ {args : List PV}, [PV.d (.sl (E.aN a0.l) (E.aU a0.x)), PV.d (.sl (E.aN a1.l) (E.aU a1.x))] = args → ∀ (st : St), Sat (Ω.cf 61 args st) (fun q => q = (PV.d (.bool r), st))
def H63 (Ω : Om) (E : Enc) (p63 : (Sl Field) → (Sl Field) → Option (Bool)) : Prop := ∀ {a0 : Sl Field} {a1 : Sl Field} {r : Bool}, p63 a0 a1 = some r → ∀ {args : List PV}, [PV.d (.sl (E.aB a0.l) (E.aG a0.x)), PV.d (.sl (E.aB a1.l) (E.aG a1.x))] = args → ∀ (st : St), Sat (Ω.cf 63 args st) (fun q => q = (PV.d (.bool r), st))
def H82 (Ω : Om) (E : Enc) (Ng : Field → Field → Option (Bool)) : Prop := ∀ {a0 : Field} {a1 : Field} {r : Bool}, Ng a0 a1 = some r → ∀ {args : List PV}, [eU E a0, eU E a1] = args → ∀ (st : St), Sat (Ω.cf 82 args st) (fun q => q = (PV.d (.bool r), st))
set_option maxHeartbeats 4000000 in
theorem aru {p60 : Value → Value → Option (Bool)} (afF : H60 Ω E p60) {p61 : (Sl Value) → (Sl Value) → Option (Bool)} (aiI : H61 Ω E p61) {p63 : (Sl Field) → (Sl Field) → Option (Bool)} (aiJ : H63 Ω E p63) {Ng : Field → Field → Option (Bool)} (aiK : H82 Ω E Ng) {a0 : Value} {a1 : Value} {r : Bool} (h : ahL fu p60 p61 p63 Ng a0 a1 = some r) {args : List PV} (ha : [aT E a0, aT E a1] = args) (st : St) :
 Sat (Ω.cf 60 args st) (fun q => q = (PV.d (.bool r), st)) := by
 subst ha
 rcases a0 with ⟨aD, aO, bN, ⟨aK, aS⟩, ⟨au, aA⟩, bO, bT, aQ⟩
 rcases a1 with ⟨iL, jT, oQ, ⟨jh, ku⟩, ⟨iU, iV⟩, su, kT, sw⟩
 rw [aR hΩ (f := 60) (fn := Tryz.f60) (x := c60) rfl rfl akX rfl rfl rfl]
 unfold ahL at h
 try dsimp only at h
 conv => arg 1; cbv
 replace h := aW h
 obtain ⟨i12, vg, h⟩ := h
 refine aI hΩ ((fun (q : Bool) => (match q with | i12 => ([(2, PV.bf (iY E aD aO bN aK aS au aA bO bT aQ)), (3, PV.bf (iY E iL jT oQ jh ku iU iV su kT sw)), (4, vb i12)], nO :: st))) i12) (fun k hk => ?_) ?_
 clear h
 have h := vg
 clear vg
 conv => arg 1; cbv
 revert h; refine bU (fun hb1 h => cv ?_) fun hb1 h => cv ?_
 refine aj hΩ (cv ?_)
 revert h; refine bU (fun hb2 h => cv ?_) fun hb2 h => cv ?_
 revert h; refine bU (fun hb3 h => cv ?_) fun hb3 h => cv ?_
 refine aj hΩ (cv ?_)
 replace h := aW h
 obtain ⟨r4, hx5, h⟩ := h
 refine aH (aiI hx5) (cv ?_)
 revert h; refine bU (fun hb6 h => cv ?_) fun hb6 h => cv ?_
 replace h := aW h
 obtain ⟨r7, AY, h⟩ := h
 refine aH (aiJ AY) (cv ?_)
 revert h; refine bU (fun nC h => cv ?_) fun nC h => cv ?_
 refine aj hΩ (cv ?_)
 revert h; refine bU (fun jo h => cv ?_) fun jo h => cv ?_
 refine aj hΩ (cv ?_)
 revert h; refine bU (fun Ba h => cv ?_) fun Ba h => cv ?_
 exact fk h hk
 exact fk h hk
 refine aj hΩ (cv ?_)
 exact fk h hk
 refine aj hΩ (cv ?_)
 refine aj hΩ (cv ?_)
 exact fk h hk
 refine aj hΩ (cv ?_)
 refine aj hΩ (cv ?_)
 exact fk h hk
 refine aj hΩ (cv ?_)
 refine aj hΩ (cv ?_)
 refine aj hΩ (cv ?_)
 exact fk h hk
 refine aj hΩ (cv ?_)
 refine aj hΩ (cv ?_)
 refine aj hΩ (cv ?_)
 exact fk h hk
 refine aj hΩ (cv ?_)
 refine aj hΩ (cv ?_)
 refine aj hΩ (cv ?_)
 refine aj hΩ (cv ?_)
 exact fk h hk
 clear vg
 try dsimp only at h
 conv => arg 1; cbv
 exact sp h
set_option maxHeartbeats 4000000 in
theorem arv {p60 : Value → Value → Option (Bool)} (afF : H60 Ω E p60) {p61 : (Sl Value) → (Sl Value) → Option (Bool)} (aiI : H61 Ω E p61) {p63 : (Sl Field) → (Sl Field) → Option (Bool)} (aiJ : H63 Ω E p63) {Ng : Field → Field → Option (Bool)} (aiK : H82 Ω E Ng) {a0 : Sl Value} {a1 : Sl Value} {r : Bool} (h : aei fu p60 p61 p63 Ng a0 a1 = some r) {args : List PV} (ha : [PV.d (.sl (E.aN a0.l) (E.aU a0.x)), PV.d (.sl (E.aN a1.l) (E.aU a1.x))] = args) (st : St) :
 Sat (Ω.cf 61 args st) (fun q => q = (PV.d (.bool r), st)) := by
 subst ha
 rcases a0 with ⟨ah, _ | aQ⟩
 rcases a1 with ⟨aL, dS⟩
 rw [aR hΩ (f := 61) (fn := Tryz.f61) (x := c61) rfl rfl abT rfl rfl rfl]
 unfold aei at h
 try dsimp only at h
 dsimp only []
 rw [show E.aU none = none from by rw [(aF hE).2.1]; rfl]
 conv => arg 1; cbv
 refine aC hΩ (cv ?_)
 refine av hΩ (aF hE) ah fun n1 hn2 => cv ?_
 refine av hΩ (aF hE) aL fun n3 FP => cv ?_
 replace h := bic h
 rcases h with ⟨hb5, h⟩ | ⟨hb5, h⟩
 cases h
 refine yN hb5 (cv ?_)
 refine aC hΩ (cv ?_)
 exact sp h
 rcases a1 with ⟨aL, dS⟩
 rw [aR hΩ (f := 61) (fn := Tryz.f61) (x := c61) rfl rfl abT rfl rfl rfl]
 unfold aei at h
 try dsimp only at h
 dsimp only []
 rw [show E.aU (some aQ) = some (E.aN aQ) from by rw [(aF hE).2.1]; rfl]
 conv => arg 1; cbv
 replace h := aW h
 obtain ⟨i17, qp, h⟩ := h
 refine aI hΩ ((fun (q : Bool) => (match q with | i17 => ([(0, PV.d (.sl (E.aN ah) (some (E.aN aQ)))), (1, PV.d (.sl (E.aN aL) (E.aU dS))), (4, vb false), (18, vb i17)], nO :: st))) i17) (fun k hk => ?_) ?_
 clear h
 have h := qp
 clear qp
 conv => arg 1; cbv
 refine av hΩ (aF hE) ah fun n6 hn7 => cv ?_
 refine av hΩ (aF hE) aL fun n8 hn9 => cv ?_
 revert h; refine bU (fun jo h => cv ?_) fun jo h => cv ?_
 refine eP hΩ (aF hE) ah aQ fun l11 hl12 n13 WJ => cv ?_
 refine av hΩ (aF hE) aL fun n15 hn16 => cv ?_
 exact fk h hk
 exact fk h hk
 clear qp
 try dsimp only at h
 conv => arg 1; cbv
 refine aC hΩ (cv ?_)
 revert h; refine bU (fun vk h => cv ?_) fun vk h => cv ?_
 exact sp h
 replace h := aW h
 obtain ⟨q, vo, h⟩ := h
 refine dL hΩ (fun (a : Int) => (match a with | i19 => ([(0, PV.d (.sl (E.aN ah) (some (E.aN aQ)))), (1, PV.d (.sl (E.aN aL) (E.aU dS))), (4, vb false), (5, vi i19)], nO :: st))) (fun (q : Int ⊕ Int) => (match q with | .inl QX => (.exit 0, [(0, PV.d (.sl (E.aN ah) (some (E.aN aQ)))), (1, PV.d (.sl (E.aN aL) (E.aU dS))), (4, vb false), (5, vi QX)], nO :: st) | .inr QY => (.ret, [(0, PV.d (.sl (E.aN ah) (some (E.aN aQ)))), (1, PV.d (.sl (E.aN aL) (E.aU dS))), (4, vb false), (5, vi QY)], nO :: st))) 0 vo ?_ ?_
 clear h vo
 rintro i19 q h
 unfold QW at h
 dsimp only at h
 conv => arg 1; cbv
 refine av hΩ (aF hE) aL fun n20 afG => cv ?_
 refine aC hΩ (cv ?_)
 revert h; refine bU (fun yw h => cv ?_) fun yw h => cv ?_
 refine sat_true (bg hΩ (aF hE) ah) (cv ?_)
 replace h := aW h
 obtain ⟨⟨mY, xX, T9, ⟨JO, JQ⟩, ⟨xY, xZ⟩, aj1, Ua, aj2⟩, hx24, h⟩ := h
 try dsimp only at h
 refine aM (bG hΩ (aF hE) hx24) (cv ?_)
 refine sat_true (bg hΩ (aF hE) aL) (cv ?_)
 replace h := aW h
 obtain ⟨⟨qR, yc, Ub, ⟨JR, JU⟩, ⟨yg, yh⟩, aj3, Uc, aj4⟩, rJ, h⟩ := h
 try dsimp only at h
 refine aM (bG hΩ (aF hE) rJ) (cv ?_)
 replace h := aW h
 obtain ⟨Yy, hx28, h⟩ := h
 refine aH (afF hx28) (cv ?_)
 refine aC hΩ (cv ?_)
 revert h; refine bU (fun Kv h => cv ?_) fun Kv h => cv ?_
 obtain rfl := fV h
 subst_vars
 exact sR
 obtain rfl := fV h
 subst_vars
 exact s3
 obtain rfl := fV h
 subst_vars
 exact sL
 clear vo
 rcases q with QX | QY
 dsimp only at h
 conv => arg 1; cbv
 refine av hΩ (aF hE) aL fun n32 aaf => cv ?_
 refine sat_true (wO hΩ (aF hE) ah (some aQ)) (cv ?_)
 refine av hΩ (aF hE) ah fun n34 Rb => cv ?_
 refine eP hΩ (aF hE) ah aQ fun l36 aiL n38 aiM => cv ?_
 replace h := aJ h
 obtain ⟨EY, h⟩ := h
 refine aP EY (cv ?_)
 replace h := aJ h
 obtain ⟨yx, h⟩ := h
 refine aP yx (cv ?_)
 replace h := aJ h
 obtain ⟨EN, h⟩ := h
 refine aP EN (cv ?_)
 refine eT hΩ (aF hE) (ah ++ aQ) 0 (fq ((ln aL) + 1)) fun l43 afH => cv ?_
 refine eT hΩ (aF hE) (ah ++ aQ) (fq ((ln aL) + 1)) (ln (ah ++ aQ)) fun l45 aiN => cv ?_
 refine av hΩ (aF hE) aL fun n47 aiO => cv ?_
 refine sat_true (bg hΩ (aF hE) (cut (ah ++ aQ) 0 (fq ((ln aL) + 1)))) (cv ?_)
 replace h := aW h
 obtain ⟨⟨zx, Du, Ud, ⟨VX, VY⟩, ⟨JV, JW⟩, aqk, aej, aql⟩, Rq, h⟩ := h
 try dsimp only at h
 refine aM (bG hΩ (aF hE) Rq) (cv ?_)
 exact sp h
 dsimp only at h
 conv => arg 1; cbv
 exact sp h
set_option maxHeartbeats 4000000 in
theorem arw {p60 : Value → Value → Option (Bool)} (afF : H60 Ω E p60) {p61 : (Sl Value) → (Sl Value) → Option (Bool)} (aiI : H61 Ω E p61) {p63 : (Sl Field) → (Sl Field) → Option (Bool)} (aiJ : H63 Ω E p63) {Ng : Field → Field → Option (Bool)} (aiK : H82 Ω E Ng) {a0 : Sl Field} {a1 : Sl Field} {r : Bool} (h : aer fu p60 p61 p63 Ng a0 a1 = some r) {args : List PV} (ha : [PV.d (.sl (E.aB a0.l) (E.aG a0.x)), PV.d (.sl (E.aB a1.l) (E.aG a1.x))] = args) (st : St) :
 Sat (Ω.cf 63 args st) (fun q => q = (PV.d (.bool r), st)) := by
 subst ha
 rcases a0 with ⟨ah, _ | aQ⟩
 rcases a1 with ⟨aL, dS⟩
 rw [aR hΩ (f := 63) (fn := Tryz.f63) (x := c63) rfl rfl abV rfl rfl rfl]
 unfold aer at h
 try dsimp only at h
 dsimp only []
 rw [show E.aG none = none from by rw [(ak hE).2.1]; rfl]
 conv => arg 1; cbv
 refine aC hΩ (cv ?_)
 refine av hΩ (ak hE) ah fun n1 hn2 => cv ?_
 refine av hΩ (ak hE) aL fun n3 FP => cv ?_
 replace h := bic h
 rcases h with ⟨hb5, h⟩ | ⟨hb5, h⟩
 cases h
 refine yN hb5 (cv ?_)
 refine aC hΩ (cv ?_)
 exact sp h
 rcases a1 with ⟨aL, dS⟩
 rw [aR hΩ (f := 63) (fn := Tryz.f63) (x := c63) rfl rfl abV rfl rfl rfl]
 unfold aer at h
 try dsimp only at h
 dsimp only []
 rw [show E.aG (some aQ) = some (E.aB aQ) from by rw [(ak hE).2.1]; rfl]
 conv => arg 1; cbv
 replace h := aW h
 obtain ⟨i17, qp, h⟩ := h
 refine aI hΩ ((fun (q : Bool) => (match q with | i17 => ([(0, PV.d (.sl (E.aB ah) (some (E.aB aQ)))), (1, PV.d (.sl (E.aB aL) (E.aG dS))), (4, vb false), (18, vb i17)], nO :: st))) i17) (fun k hk => ?_) ?_
 clear h
 have h := qp
 clear qp
 conv => arg 1; cbv
 refine av hΩ (ak hE) ah fun n6 hn7 => cv ?_
 refine av hΩ (ak hE) aL fun n8 hn9 => cv ?_
 revert h; refine bU (fun jo h => cv ?_) fun jo h => cv ?_
 refine eP hΩ (ak hE) ah aQ fun l11 hl12 n13 WJ => cv ?_
 refine av hΩ (ak hE) aL fun n15 hn16 => cv ?_
 exact fk h hk
 exact fk h hk
 clear qp
 try dsimp only at h
 conv => arg 1; cbv
 refine aC hΩ (cv ?_)
 revert h; refine bU (fun vk h => cv ?_) fun vk h => cv ?_
 exact sp h
 replace h := aW h
 obtain ⟨q, vo, h⟩ := h
 refine dL hΩ (fun (a : Int) => (match a with | i19 => ([(0, PV.d (.sl (E.aB ah) (some (E.aB aQ)))), (1, PV.d (.sl (E.aB aL) (E.aG dS))), (4, vb false), (5, vi i19)], nO :: st))) (fun (q : Int ⊕ Int) => (match q with | .inl QX => (.exit 0, [(0, PV.d (.sl (E.aB ah) (some (E.aB aQ)))), (1, PV.d (.sl (E.aB aL) (E.aG dS))), (4, vb false), (5, vi QX)], nO :: st) | .inr QY => (.ret, [(0, PV.d (.sl (E.aB ah) (some (E.aB aQ)))), (1, PV.d (.sl (E.aB aL) (E.aG dS))), (4, vb false), (5, vi QY)], nO :: st))) 0 vo ?_ ?_
 clear h vo
 rintro i19 q h
 unfold QZ at h
 dsimp only at h
 conv => arg 1; cbv
 refine av hΩ (ak hE) aL fun n20 afG => cv ?_
 refine aC hΩ (cv ?_)
 revert h; refine bU (fun yw h => cv ?_) fun yw h => cv ?_
 refine sat_true (bg hΩ (ak hE) ah) (cv ?_)
 replace h := aW h
 obtain ⟨⟨mY, ⟨xQ, xR, xS, ⟨qN, qO⟩, ⟨qP, qQ⟩, xU, xV, xW⟩⟩, hx24, h⟩ := h
 try dsimp only at h
 refine aM (bG hΩ (ak hE) hx24) (cv ?_)
 refine sat_true (bg hΩ (ak hE) aL) (cv ?_)
 replace h := aW h
 obtain ⟨⟨qR, ⟨aek, ael, aem, ⟨Yz, YA⟩, ⟨YB, YC⟩, aen, aeo, aep⟩⟩, rJ, h⟩ := h
 try dsimp only at h
 refine aM (bG hΩ (ak hE) rJ) (cv ?_)
 replace h := aW h
 obtain ⟨Yy, hx28, h⟩ := h
 refine aH (aiK hx28) (cv ?_)
 refine aC hΩ (cv ?_)
 revert h; refine bU (fun Kv h => cv ?_) fun Kv h => cv ?_
 obtain rfl := fV h
 subst_vars
 exact sR
 obtain rfl := fV h
 subst_vars
 exact s3
 obtain rfl := fV h
 subst_vars
 exact sL
 clear vo
 rcases q with QX | QY
 dsimp only at h
 conv => arg 1; cbv
 refine av hΩ (ak hE) aL fun n32 aaf => cv ?_
 refine sat_true (wO hΩ (ak hE) ah (some aQ)) (cv ?_)
 refine av hΩ (ak hE) ah fun n34 Rb => cv ?_
 refine eP hΩ (ak hE) ah aQ fun l36 aiL n38 aiM => cv ?_
 replace h := aJ h
 obtain ⟨EY, h⟩ := h
 refine aP EY (cv ?_)
 replace h := aJ h
 obtain ⟨yx, h⟩ := h
 refine aP yx (cv ?_)
 replace h := aJ h
 obtain ⟨EN, h⟩ := h
 refine aP EN (cv ?_)
 refine eT hΩ (ak hE) (ah ++ aQ) 0 (fq ((ln aL) + 1)) fun l43 afH => cv ?_
 refine eT hΩ (ak hE) (ah ++ aQ) (fq ((ln aL) + 1)) (ln (ah ++ aQ)) fun l45 aiN => cv ?_
 refine av hΩ (ak hE) aL fun n47 aiO => cv ?_
 refine sat_true (bg hΩ (ak hE) (cut (ah ++ aQ) 0 (fq ((ln aL) + 1)))) (cv ?_)
 replace h := aW h
 obtain ⟨⟨zx, ⟨anb, anc, ane, ⟨ahM, ahN⟩, ⟨ahO, ahP⟩, anf, ang, anh⟩⟩, Rq, h⟩ := h
 try dsimp only at h
 refine aM (bG hΩ (ak hE) Rq) (cv ?_)
 exact sp h
 dsimp only at h
 conv => arg 1; cbv
 exact sp h
set_option maxHeartbeats 4000000 in
theorem arx {p60 : Value → Value → Option (Bool)} (afF : H60 Ω E p60) {p61 : (Sl Value) → (Sl Value) → Option (Bool)} (aiI : H61 Ω E p61) {p63 : (Sl Field) → (Sl Field) → Option (Bool)} (aiJ : H63 Ω E p63) {Ng : Field → Field → Option (Bool)} (aiK : H82 Ω E Ng) {a0 : Field} {a1 : Field} {r : Bool} (h : aes fu p60 p61 p63 Ng a0 a1 = some r) {args : List PV} (ha : [eU E a0, eU E a1] = args) (st : St) :
 Sat (Ω.cf 82 args st) (fun q => q = (PV.d (.bool r), st)) := by
 subst ha
 rcases a0 with ⟨aD, ⟨og, oh, om, ⟨kM, kN⟩, ⟨kP, kQ⟩, oo, oq, ou⟩⟩
 rcases a1 with ⟨iL, ⟨xw, xA, xB, ⟨pV, pW⟩, ⟨pX, pY⟩, xC, xD, xE⟩⟩
 rw [aR hΩ (f := 82) (fn := Tryz.f82) (x := c82) rfl rfl ak4 rfl rfl rfl]
 unfold aes at h
 try dsimp only at h
 conv => arg 1; cbv
 replace h := aW h
 obtain ⟨i4, hq5, h⟩ := h
 refine aI hΩ ((fun (q : Bool) => (match q with | i4 => ([(2, PV.bf (zD5 E aD og oh om kM kN kP kQ oo oq ou)), (3, PV.bf (zD5 E iL xw xA xB pV pW pX pY xC xD xE)), (4, vb i4)], nO :: st))) i4) (fun k hk => ?_) ?_
 clear h
 have h := hq5
 clear hq5
 conv => arg 1; cbv
 revert h; refine bU (fun hb1 h => cv ?_) fun hb1 h => cv ?_
 replace h := aW h
 obtain ⟨r2, hx3, h⟩ := h
 refine aH (afF hx3) (cv ?_)
 refine aj hΩ (cv ?_)
 exact fk h hk
 refine aj hΩ (cv ?_)
 exact fk h hk
 clear hq5
 try dsimp only at h
 conv => arg 1; cbv
 exact sp h
theorem afI : ∀ fu,
 (∀ {a0 : Value} {a1 : Value} {r : Bool}, P60 fu a0 a1 = some r → ∀ {args : List PV}, [aT E a0, aT E a1] = args → ∀ (st : St), Sat (Ω.cf 60 args st) (fun q => q = (PV.d (.bool r), st))) ∧
 (∀ {a0 : Sl Value} {a1 : Sl Value} {r : Bool}, P61 fu a0 a1 = some r → ∀ {args : List PV}, [PV.d (.sl (E.aN a0.l) (E.aU a0.x)), PV.d (.sl (E.aN a1.l) (E.aU a1.x))] = args → ∀ (st : St), Sat (Ω.cf 61 args st) (fun q => q = (PV.d (.bool r), st))) ∧
 (∀ {a0 : Sl Field} {a1 : Sl Field} {r : Bool}, P63 fu a0 a1 = some r → ∀ {args : List PV}, [PV.d (.sl (E.aB a0.l) (E.aG a0.x)), PV.d (.sl (E.aB a1.l) (E.aG a1.x))] = args → ∀ (st : St), Sat (Ω.cf 63 args st) (fun q => q = (PV.d (.bool r), st))) ∧
 (∀ {a0 : Field} {a1 : Field} {r : Bool}, P82 fu a0 a1 = some r → ∀ {args : List PV}, [eU E a0, eU E a1] = args → ∀ (st : St), Sat (Ω.cf 82 args st) (fun q => q = (PV.d (.bool r), st))) := by
 intro fu
 induction fu with
 | zero => exact ⟨(fun h => (by cases h)), (fun h => (by cases h)), (fun h => (by cases h)), (fun h => (by cases h))⟩
 | succ fu ih =>
  obtain ⟨i60, i61, i63, i82⟩ := ih
  exact ⟨(fun h => @fun args ha st => aru (fu := fu) hΩ hE i60 i61 i63 i82 h ha st), (fun h => @fun args ha st => arv (fu := fu) hΩ hE i60 i61 i63 i82 h ha st), (fun h => @fun args ha st => arw (fu := fu) hΩ hE i60 i61 i63 i82 h ha st), (fun h => @fun args ha st => arx (fu := fu) hΩ hE i60 i61 i63 i82 h ha st)⟩
theorem arz : ∀ {a0 : Value} {a1 : Value} {r : Bool}, P60 fu a0 a1 = some r → ∀ {args : List PV}, [aT E a0, aT E a1] = args → ∀ (st : St), Sat (Ω.cf 60 args st) (fun q => q = (PV.d (.bool r), st)) := (afI hΩ hE fu).1
theorem atg : ∀ {a0 : Sl Value} {a1 : Sl Value} {r : Bool}, P61 fu a0 a1 = some r → ∀ {args : List PV}, [PV.d (.sl (E.aN a0.l) (E.aU a0.x)), PV.d (.sl (E.aN a1.l) (E.aU a1.x))] = args → ∀ (st : St), Sat (Ω.cf 61 args st) (fun q => q = (PV.d (.bool r), st)) := (afI hΩ hE fu).2.1
theorem arA : ∀ {a0 : Sl Field} {a1 : Sl Field} {r : Bool}, P63 fu a0 a1 = some r → ∀ {args : List PV}, [PV.d (.sl (E.aB a0.l) (E.aG a0.x)), PV.d (.sl (E.aB a1.l) (E.aG a1.x))] = args → ∀ (st : St), Sat (Ω.cf 63 args st) (fun q => q = (PV.d (.bool r), st)) := (afI hΩ hE fu).2.2.1
set_option maxHeartbeats 4000000 in
theorem arB {a0 : Sl ByteArray} {a1 : Sl ByteArray} {r : Bool} (h : aae fu a0 a1 = some r) {args : List PV} (ha : [PV.d (.sl (E.fQ a0.l) (E.iA a0.x)), PV.d (.sl (E.fQ a1.l) (E.iA a1.x))] = args) (st : St) :
 Sat (Ω.cf 107 args st) (fun q => q = (PV.d (.bool r), st)) := by
 subst ha
 rcases a0 with ⟨ah, _ | aQ⟩
 rcases a1 with ⟨aL, dS⟩
 rw [aR hΩ (f := 107) (fn := Tryz.f107) (x := c107) rfl rfl Xy rfl rfl rfl]
 unfold aae at h
 try dsimp only at h
 dsimp only []
 rw [show E.iA none = none from by rw [(d9 hE).2.1]; rfl]
 conv => arg 1; cbv
 refine aC hΩ (cv ?_)
 refine av hΩ (d9 hE) ah fun n1 hn2 => cv ?_
 refine av hΩ (d9 hE) aL fun n3 FP => cv ?_
 replace h := bic h
 rcases h with ⟨hb5, h⟩ | ⟨hb5, h⟩
 cases h
 refine yN hb5 (cv ?_)
 refine aC hΩ (cv ?_)
 exact sp h
 rcases a1 with ⟨aL, dS⟩
 rw [aR hΩ (f := 107) (fn := Tryz.f107) (x := c107) rfl rfl Xy rfl rfl rfl]
 unfold aae at h
 try dsimp only at h
 dsimp only []
 rw [show E.iA (some aQ) = some (E.fQ aQ) from by rw [(d9 hE).2.1]; rfl]
 conv => arg 1; cbv
 replace h := aW h
 obtain ⟨i17, WQ, h⟩ := h
 refine aI hΩ ((fun (q : Bool) => (match q with | i17 => ([(0, PV.d (.sl (E.fQ ah) (some (E.fQ aQ)))), (1, PV.d (.sl (E.fQ aL) (E.iA dS))), (4, vb false), (18, vb i17)], nO :: st))) i17) (fun k hk => ?_) ?_
 clear h
 have h := WQ
 clear WQ
 conv => arg 1; cbv
 refine av hΩ (d9 hE) ah fun n6 hn7 => cv ?_
 refine av hΩ (d9 hE) aL fun n8 hn9 => cv ?_
 revert h; refine bU (fun jo h => cv ?_) fun jo h => cv ?_
 refine eP hΩ (d9 hE) ah aQ fun l11 hl12 n13 WJ => cv ?_
 refine av hΩ (d9 hE) aL fun n15 hn16 => cv ?_
 exact fk h hk
 exact fk h hk
 clear WQ
 try dsimp only at h
 conv => arg 1; cbv
 refine aC hΩ (cv ?_)
 revert h; refine bU (fun vk h => cv ?_) fun vk h => cv ?_
 exact sp h
 replace h := aW h
 obtain ⟨q, Bb, h⟩ := h
 refine dL hΩ (fun (a : Int) => (match a with | i19 => ([(0, PV.d (.sl (E.fQ ah) (some (E.fQ aQ)))), (1, PV.d (.sl (E.fQ aL) (E.iA dS))), (4, vb false), (5, vi i19)], nO :: st))) (fun (q : Int ⊕ Int) => (match q with | .inl Uu => (.exit 0, [(0, PV.d (.sl (E.fQ ah) (some (E.fQ aQ)))), (1, PV.d (.sl (E.fQ aL) (E.iA dS))), (4, vb false), (5, vi Uu)], nO :: st) | .inr o49 => (.ret, [(0, PV.d (.sl (E.fQ ah) (some (E.fQ aQ)))), (1, PV.d (.sl (E.fQ aL) (E.iA dS))), (4, vb false), (5, vi o49)], nO :: st))) 0 Bb ?_ ?_
 clear h Bb
 rintro i19 q h
 unfold GQ at h
 dsimp only at h
 conv => arg 1; cbv
 refine av hΩ (d9 hE) aL fun n20 afG => cv ?_
 refine aC hΩ (cv ?_)
 revert h; refine bU (fun yw h => cv ?_) fun yw h => cv ?_
 refine sat_true (bg hΩ (d9 hE) ah) (cv ?_)
 replace h := aW h
 obtain ⟨x23, hx24, h⟩ := h
 refine aM (bG hΩ (d9 hE) hx24) (cv ?_)
 refine sat_true (bg hΩ (d9 hE) aL) (cv ?_)
 replace h := aW h
 obtain ⟨x25, rJ, h⟩ := h
 refine aM (bG hΩ (d9 hE) rJ) (cv ?_)
 refine aC hΩ (cv ?_)
 revert h; refine bU (fun EW h => cv ?_) fun EW h => cv ?_
 obtain rfl := fV h
 subst_vars
 exact sR
 obtain rfl := fV h
 subst_vars
 exact s3
 obtain rfl := fV h
 subst_vars
 exact sL
 clear Bb
 rcases q with Uu | o49
 dsimp only at h
 conv => arg 1; cbv
 refine av hΩ (d9 hE) aL fun n30 afa => cv ?_
 refine sat_true (wO hΩ (d9 hE) ah (some aQ)) (cv ?_)
 refine av hΩ (d9 hE) ah fun n32 aaf => cv ?_
 refine eP hΩ (d9 hE) ah aQ fun l34 atP n36 atQ => cv ?_
 replace h := aJ h
 obtain ⟨aoh, h⟩ := h
 refine aP aoh (cv ?_)
 replace h := aJ h
 obtain ⟨Rn, h⟩ := h
 refine aP Rn (cv ?_)
 replace h := aJ h
 obtain ⟨EY, h⟩ := h
 refine aP EY (cv ?_)
 refine eT hΩ (d9 hE) (ah ++ aQ) 0 (fq ((ln aL) + 1)) fun l41 atS => cv ?_
 refine eT hΩ (d9 hE) (ah ++ aQ) (fq ((ln aL) + 1)) (ln (ah ++ aQ)) fun l43 afH => cv ?_
 refine av hΩ (d9 hE) aL fun n45 atT => cv ?_
 refine sat_true (bg hΩ (d9 hE) (cut (ah ++ aQ) 0 (fq ((ln aL) + 1)))) (cv ?_)
 replace h := aW h
 obtain ⟨x47, ath, h⟩ := h
 refine aM (bG hΩ (d9 hE) ath) (cv ?_)
 exact sp h
 dsimp only at h
 conv => arg 1; cbv
 exact sp h
def aiP (Ω : Om) (E : Enc) (sD : (Sl Expr) → (Sl Expr) → Option (Bool)) : Prop := ∀ {a0 : Sl Expr} {a1 : Sl Expr} {r : Bool}, sD a0 a1 = some r → ∀ {args : List PV}, [PV.d (.sl (E.dZ a0.l) (E.fB a0.x)), PV.d (.sl (E.dZ a1.l) (E.fB a1.x))] = args → ∀ (st : St), Sat (Ω.cf 106 args st) (fun q => q = (PV.d (.bool r), st))
def H62 (Ω : Om) (E : Enc) (p62 : (Sl Act) → (Sl Act) → Option (Bool)) : Prop := ∀ {a0 : Sl Act} {a1 : Sl Act} {r : Bool}, p62 a0 a1 = some r → ∀ {args : List PV}, [PV.d (.sl (E.fD a0.l) (E.gq a0.x)), PV.d (.sl (E.fD a1.l) (E.gq a1.x))] = args → ∀ (st : St), Sat (Ω.cf 62 args st) (fun q => q = (PV.d (.bool r), st))
def H81 (Ω : Om) (E : Enc) (Nh : Act → Act → Option (Bool)) : Prop := ∀ {a0 : Act} {a1 : Act} {r : Bool}, Nh a0 a1 = some r → ∀ {args : List PV}, [nS E a0, nS E a1] = args → ∀ (st : St), Sat (Ω.cf 81 args st) (fun q => q = (PV.d (.bool r), st))
def H96 (Ω : Om) (E : Enc) (K8 : Expr → Expr → Option (Bool)) : Prop := ∀ {a0 : Expr} {a1 : Expr} {r : Bool}, K8 a0 a1 = some r → ∀ {args : List PV}, [lq E a0, lq E a1] = args → ∀ (st : St), Sat (Ω.cf 96 args st) (fun q => q = (PV.d (.bool r), st))
set_option maxHeartbeats 4000000 in
theorem aoI {sD : (Sl Expr) → (Sl Expr) → Option (Bool)} (Ni : aiP Ω E sD) {p62 : (Sl Act) → (Sl Act) → Option (Bool)} (aiQ : H62 Ω E p62) {Nh : Act → Act → Option (Bool)} (aiR : H81 Ω E Nh) {K8 : Expr → Expr → Option (Bool)} (afJ : H96 Ω E K8) {a0 : Sl Expr} {a1 : Sl Expr} {r : Bool} (h : Ug fu sD p62 Nh K8 a0 a1 = some r) {args : List PV} (ha : [PV.d (.sl (E.dZ a0.l) (E.fB a0.x)), PV.d (.sl (E.dZ a1.l) (E.fB a1.x))] = args) (st : St) :
 Sat (Ω.cf 106 args st) (fun q => q = (PV.d (.bool r), st)) := by
 subst ha
 rcases a0 with ⟨ah, _ | aQ⟩
 rcases a1 with ⟨aL, dS⟩
 rw [aR hΩ (f := 106) (fn := Tryz.f106) (x := alh) rfl rfl Xx rfl rfl rfl]
 unfold Ug at h
 try dsimp only at h
 dsimp only []
 rw [show E.fB none = none from by rw [(dU hE).2.1]; rfl]
 conv => arg 1; cbv
 refine aC hΩ (cv ?_)
 refine av hΩ (dU hE) ah fun n1 hn2 => cv ?_
 refine av hΩ (dU hE) aL fun n3 FP => cv ?_
 replace h := bic h
 rcases h with ⟨hb5, h⟩ | ⟨hb5, h⟩
 cases h
 refine yN hb5 (cv ?_)
 refine aC hΩ (cv ?_)
 exact sp h
 rcases a1 with ⟨aL, dS⟩
 rw [aR hΩ (f := 106) (fn := Tryz.f106) (x := alh) rfl rfl Xx rfl rfl rfl]
 unfold Ug at h
 try dsimp only at h
 dsimp only []
 rw [show E.fB (some aQ) = some (E.dZ aQ) from by rw [(dU hE).2.1]; rfl]
 conv => arg 1; cbv
 replace h := aW h
 obtain ⟨i17, qp, h⟩ := h
 refine aI hΩ ((fun (q : Bool) => (match q with | i17 => ([(0, PV.d (.sl (E.dZ ah) (some (E.dZ aQ)))), (1, PV.d (.sl (E.dZ aL) (E.fB dS))), (4, vb false), (18, vb i17)], nO :: st))) i17) (fun k hk => ?_) ?_
 clear h
 have h := qp
 clear qp
 conv => arg 1; cbv
 refine av hΩ (dU hE) ah fun n6 hn7 => cv ?_
 refine av hΩ (dU hE) aL fun n8 hn9 => cv ?_
 revert h; refine bU (fun jo h => cv ?_) fun jo h => cv ?_
 refine eP hΩ (dU hE) ah aQ fun l11 hl12 n13 WJ => cv ?_
 refine av hΩ (dU hE) aL fun n15 hn16 => cv ?_
 exact fk h hk
 exact fk h hk
 clear qp
 try dsimp only at h
 conv => arg 1; cbv
 refine aC hΩ (cv ?_)
 revert h; refine bU (fun vk h => cv ?_) fun vk h => cv ?_
 exact sp h
 replace h := aW h
 obtain ⟨q, vo, h⟩ := h
 refine dL hΩ (fun (a : Int) => (match a with | i19 => ([(0, PV.d (.sl (E.dZ ah) (some (E.dZ aQ)))), (1, PV.d (.sl (E.dZ aL) (E.fB dS))), (4, vb false), (5, vi i19)], nO :: st))) (fun (q : Int ⊕ Int) => (match q with | .inl QX => (.exit 0, [(0, PV.d (.sl (E.dZ ah) (some (E.dZ aQ)))), (1, PV.d (.sl (E.dZ aL) (E.fB dS))), (4, vb false), (5, vi QX)], nO :: st) | .inr QY => (.ret, [(0, PV.d (.sl (E.dZ ah) (some (E.dZ aQ)))), (1, PV.d (.sl (E.dZ aL) (E.fB dS))), (4, vb false), (5, vi QY)], nO :: st))) 0 vo ?_ ?_
 clear h vo
 rintro i19 q h
 unfold GR at h
 dsimp only at h
 conv => arg 1; cbv
 refine av hΩ (dU hE) aL fun n20 afG => cv ?_
 refine aC hΩ (cv ?_)
 revert h; refine bU (fun yw h => cv ?_) fun yw h => cv ?_
 refine sat_true (bg hΩ (dU hE) ah) (cv ?_)
 replace h := aW h
 obtain ⟨⟨mY, xX, T9, ⟨JO, JQ⟩, ⟨xY, xZ⟩, ⟨JX, JY⟩, Ua, ⟨JZ, J2⟩, ⟨aeu, aev⟩, Ue⟩, hx24, h⟩ := h
 try dsimp only at h
 refine aM (bG hΩ (dU hE) hx24) (cv ?_)
 refine sat_true (bg hΩ (dU hE) aL) (cv ?_)
 replace h := aW h
 obtain ⟨⟨qR, yc, Ub, ⟨JR, JU⟩, ⟨yg, yh⟩, ⟨J3, J4⟩, Uc, ⟨J5, J6⟩, ⟨aew, aex⟩, Uf⟩, rJ, h⟩ := h
 try dsimp only at h
 refine aM (bG hΩ (dU hE) rJ) (cv ?_)
 replace h := aW h
 obtain ⟨Yy, hx28, h⟩ := h
 refine aH (afJ hx28) (cv ?_)
 refine aC hΩ (cv ?_)
 revert h; refine bU (fun Kv h => cv ?_) fun Kv h => cv ?_
 obtain rfl := fV h
 subst_vars
 exact sR
 obtain rfl := fV h
 subst_vars
 exact s3
 obtain rfl := fV h
 subst_vars
 exact sL
 clear vo
 rcases q with QX | QY
 dsimp only at h
 conv => arg 1; cbv
 refine av hΩ (dU hE) aL fun n32 aaf => cv ?_
 refine sat_true (wO hΩ (dU hE) ah (some aQ)) (cv ?_)
 refine av hΩ (dU hE) ah fun n34 Rb => cv ?_
 refine eP hΩ (dU hE) ah aQ fun l36 aiL n38 aiM => cv ?_
 replace h := aJ h
 obtain ⟨EY, h⟩ := h
 refine aP EY (cv ?_)
 replace h := aJ h
 obtain ⟨yx, h⟩ := h
 refine aP yx (cv ?_)
 replace h := aJ h
 obtain ⟨EN, h⟩ := h
 refine aP EN (cv ?_)
 refine eT hΩ (dU hE) (ah ++ aQ) 0 (fq ((ln aL) + 1)) fun l43 afH => cv ?_
 refine eT hΩ (dU hE) (ah ++ aQ) (fq ((ln aL) + 1)) (ln (ah ++ aQ)) fun l45 aiN => cv ?_
 refine av hΩ (dU hE) aL fun n47 aiO => cv ?_
 refine sat_true (bg hΩ (dU hE) (cut (ah ++ aQ) 0 (fq ((ln aL) + 1)))) (cv ?_)
 replace h := aW h
 obtain ⟨⟨zx, Du, Ud, ⟨VX, VY⟩, ⟨JV, JW⟩, ⟨VZ, V3⟩, aej, ⟨V4, V5⟩, ⟨ani, anj⟩, aey⟩, Rq, h⟩ := h
 try dsimp only at h
 refine aM (bG hΩ (dU hE) Rq) (cv ?_)
 exact sp h
 dsimp only at h
 conv => arg 1; cbv
 exact sp h
set_option maxHeartbeats 4000000 in
theorem arC {sD : (Sl Expr) → (Sl Expr) → Option (Bool)} (Ni : aiP Ω E sD) {p62 : (Sl Act) → (Sl Act) → Option (Bool)} (aiQ : H62 Ω E p62) {Nh : Act → Act → Option (Bool)} (aiR : H81 Ω E Nh) {K8 : Expr → Expr → Option (Bool)} (afJ : H96 Ω E K8) {a0 : Sl Act} {a1 : Sl Act} {r : Bool} (h : aeB fu sD p62 Nh K8 a0 a1 = some r) {args : List PV} (ha : [PV.d (.sl (E.fD a0.l) (E.gq a0.x)), PV.d (.sl (E.fD a1.l) (E.gq a1.x))] = args) (st : St) :
 Sat (Ω.cf 62 args st) (fun q => q = (PV.d (.bool r), st)) := by
 subst ha
 rcases a0 with ⟨ah, _ | aQ⟩
 rcases a1 with ⟨aL, dS⟩
 rw [aR hΩ (f := 62) (fn := Tryz.f62) (x := c62) rfl rfl abU rfl rfl rfl]
 unfold aeB at h
 try dsimp only at h
 dsimp only []
 rw [show E.gq none = none from by rw [(dV hE).2.1]; rfl]
 conv => arg 1; cbv
 refine aC hΩ (cv ?_)
 refine av hΩ (dV hE) ah fun n1 hn2 => cv ?_
 refine av hΩ (dV hE) aL fun n3 FP => cv ?_
 replace h := bic h
 rcases h with ⟨hb5, h⟩ | ⟨hb5, h⟩
 cases h
 refine yN hb5 (cv ?_)
 refine aC hΩ (cv ?_)
 exact sp h
 rcases a1 with ⟨aL, dS⟩
 rw [aR hΩ (f := 62) (fn := Tryz.f62) (x := c62) rfl rfl abU rfl rfl rfl]
 unfold aeB at h
 try dsimp only at h
 dsimp only []
 rw [show E.gq (some aQ) = some (E.fD aQ) from by rw [(dV hE).2.1]; rfl]
 conv => arg 1; cbv
 replace h := aW h
 obtain ⟨i17, qp, h⟩ := h
 refine aI hΩ ((fun (q : Bool) => (match q with | i17 => ([(0, PV.d (.sl (E.fD ah) (some (E.fD aQ)))), (1, PV.d (.sl (E.fD aL) (E.gq dS))), (4, vb false), (18, vb i17)], nO :: st))) i17) (fun k hk => ?_) ?_
 clear h
 have h := qp
 clear qp
 conv => arg 1; cbv
 refine av hΩ (dV hE) ah fun n6 hn7 => cv ?_
 refine av hΩ (dV hE) aL fun n8 hn9 => cv ?_
 revert h; refine bU (fun jo h => cv ?_) fun jo h => cv ?_
 refine eP hΩ (dV hE) ah aQ fun l11 hl12 n13 WJ => cv ?_
 refine av hΩ (dV hE) aL fun n15 hn16 => cv ?_
 exact fk h hk
 exact fk h hk
 clear qp
 try dsimp only at h
 conv => arg 1; cbv
 refine aC hΩ (cv ?_)
 revert h; refine bU (fun vk h => cv ?_) fun vk h => cv ?_
 exact sp h
 replace h := aW h
 obtain ⟨q, vo, h⟩ := h
 refine dL hΩ (fun (a : Int) => (match a with | i19 => ([(0, PV.d (.sl (E.fD ah) (some (E.fD aQ)))), (1, PV.d (.sl (E.fD aL) (E.gq dS))), (4, vb false), (5, vi i19)], nO :: st))) (fun (q : Int ⊕ Int) => (match q with | .inl QX => (.exit 0, [(0, PV.d (.sl (E.fD ah) (some (E.fD aQ)))), (1, PV.d (.sl (E.fD aL) (E.gq dS))), (4, vb false), (5, vi QX)], nO :: st) | .inr QY => (.ret, [(0, PV.d (.sl (E.fD ah) (some (E.fD aQ)))), (1, PV.d (.sl (E.fD aL) (E.gq dS))), (4, vb false), (5, vi QY)], nO :: st))) 0 vo ?_ ?_
 clear h vo
 rintro i19 q h
 unfold Q0 at h
 dsimp only at h
 conv => arg 1; cbv
 refine av hΩ (dV hE) aL fun n20 afG => cv ?_
 refine aC hΩ (cv ?_)
 revert h; refine bU (fun yw h => cv ?_) fun yw h => cv ?_
 refine sat_true (bg hΩ (dV hE) ah) (cv ?_)
 replace h := aW h
 obtain ⟨⟨mY, xX, ⟨J7, J8, J9, ⟨Dv, Dw⟩, ⟨Dx, Dy⟩, ⟨YD, YE⟩, Ka, ⟨YF, YG⟩, ⟨YH, YI⟩, aez⟩⟩, hx24, h⟩ := h
 try dsimp only at h
 refine aM (bG hΩ (dV hE) hx24) (cv ?_)
 refine sat_true (bg hΩ (dV hE) aL) (cv ?_)
 replace h := aW h
 obtain ⟨⟨qR, yc, ⟨Kc, Ke, Kg, ⟨Dz, DC⟩, ⟨DF, DI⟩, ⟨YJ, YK⟩, Kh, ⟨YL, YM⟩, ⟨YN, YO⟩, aeA⟩⟩, rJ, h⟩ := h
 try dsimp only at h
 refine aM (bG hΩ (dV hE) rJ) (cv ?_)
 replace h := aW h
 obtain ⟨Yy, hx28, h⟩ := h
 refine aH (aiR hx28) (cv ?_)
 refine aC hΩ (cv ?_)
 revert h; refine bU (fun Kv h => cv ?_) fun Kv h => cv ?_
 obtain rfl := fV h
 subst_vars
 exact sR
 obtain rfl := fV h
 subst_vars
 exact s3
 obtain rfl := fV h
 subst_vars
 exact sL
 clear vo
 rcases q with QX | QY
 dsimp only at h
 conv => arg 1; cbv
 refine av hΩ (dV hE) aL fun n32 aaf => cv ?_
 refine sat_true (wO hΩ (dV hE) ah (some aQ)) (cv ?_)
 refine av hΩ (dV hE) ah fun n34 Rb => cv ?_
 refine eP hΩ (dV hE) ah aQ fun l36 aiL n38 aiM => cv ?_
 replace h := aJ h
 obtain ⟨EY, h⟩ := h
 refine aP EY (cv ?_)
 replace h := aJ h
 obtain ⟨yx, h⟩ := h
 refine aP yx (cv ?_)
 replace h := aJ h
 obtain ⟨EN, h⟩ := h
 refine aP EN (cv ?_)
 refine eT hΩ (dV hE) (ah ++ aQ) 0 (fq ((ln aL) + 1)) fun l43 afH => cv ?_
 refine eT hΩ (dV hE) (ah ++ aQ) (fq ((ln aL) + 1)) (ln (ah ++ aQ)) fun l45 aiN => cv ?_
 refine av hΩ (dV hE) aL fun n47 aiO => cv ?_
 refine sat_true (bg hΩ (dV hE) (cut (ah ++ aQ) 0 (fq ((ln aL) + 1)))) (cv ?_)
 replace h := aW h
 obtain ⟨⟨zx, Du, ⟨V6, V7, V8, ⟨Q5, Q6⟩, ⟨Q7, Q8⟩, ⟨ahQ, ahR⟩, V9, ⟨ahS, ahT⟩, ⟨ahU, ahV⟩, ank⟩⟩, Rq, h⟩ := h
 try dsimp only at h
 refine aM (bG hΩ (dV hE) Rq) (cv ?_)
 exact sp h
 dsimp only at h
 conv => arg 1; cbv
 exact sp h
set_option maxHeartbeats 4000000 in
theorem arD {sD : (Sl Expr) → (Sl Expr) → Option (Bool)} (Ni : aiP Ω E sD) {p62 : (Sl Act) → (Sl Act) → Option (Bool)} (aiQ : H62 Ω E p62) {Nh : Act → Act → Option (Bool)} (aiR : H81 Ω E Nh) {K8 : Expr → Expr → Option (Bool)} (afJ : H96 Ω E K8) {a0 : Act} {a1 : Act} {r : Bool} (h : aeC fu sD p62 Nh K8 a0 a1 = some r) {args : List PV} (ha : [nS E a0, nS E a1] = args) (st : St) :
 Sat (Ω.cf 81 args st) (fun q => q = (PV.d (.bool r), st)) := by
 subst ha
 rcases a0 with ⟨aD, aO, ⟨cu, cB, cK, ⟨bA, bB⟩, ⟨bC, bE⟩, ⟨Eo, Ep⟩, cO, ⟨Er, Es⟩, ⟨Et, Eu⟩, Mf⟩⟩
 rcases a1 with ⟨iL, jT, ⟨zi, zk, zl, ⟨rE, rF⟩, ⟨rG, rH⟩, ⟨Wd, Wh⟩, zm, ⟨Wi, Wj⟩, ⟨Wm, Wn⟩, aeD⟩⟩
 rw [aR hΩ (f := 81) (fn := Tryz.f81) (x := c81) rfl rfl ak3 rfl rfl rfl]
 unfold aeC at h
 try dsimp only at h
 conv => arg 1; cbv
 replace h := aW h
 obtain ⟨i5, hq6, h⟩ := h
 refine aI hΩ ((fun (q : Bool) => (match q with | i5 => ([(2, PV.bf (zD6 E aD aO cu cB cK bA bB bC bE Eo Ep cO Er Es Et Eu Mf)), (3, PV.bf (zD6 E iL jT zi zk zl rE rF rG rH Wd Wh zm Wi Wj Wm Wn aeD)), (4, vb i5)], nO :: st))) i5) (fun k hk => ?_) ?_
 clear h
 have h := hq6
 clear hq6
 conv => arg 1; cbv
 revert h; refine bU (fun hb1 h => cv ?_) fun hb1 h => cv ?_
 refine aj hΩ (cv ?_)
 revert h; refine bU (fun hb2 h => cv ?_) fun hb2 h => cv ?_
 replace h := aW h
 obtain ⟨r3, hx4, h⟩ := h
 refine aH (afJ hx4) (cv ?_)
 exact fk h hk
 exact fk h hk
 refine aj hΩ (cv ?_)
 exact fk h hk
 clear hq6
 try dsimp only at h
 conv => arg 1; cbv
 exact sp h
set_option maxHeartbeats 4000000 in
theorem arE {sD : (Sl Expr) → (Sl Expr) → Option (Bool)} (Ni : aiP Ω E sD) {p62 : (Sl Act) → (Sl Act) → Option (Bool)} (aiQ : H62 Ω E p62) {Nh : Act → Act → Option (Bool)} (aiR : H81 Ω E Nh) {K8 : Expr → Expr → Option (Bool)} (afJ : H96 Ω E K8) {a0 : Expr} {a1 : Expr} {r : Bool} (h : ahW fu sD p62 Nh K8 a0 a1 = some r) {args : List PV} (ha : [lq E a0, lq E a1] = args) (st : St) :
 Sat (Ω.cf 96 args st) (fun q => q = (PV.d (.bool r), st)) := by
 subst ha
 rcases a0 with ⟨aD, aO, bN, ⟨aK, aS⟩, ⟨au, aA⟩, ⟨dh, dM⟩, bT, ⟨cZ, dw⟩, ⟨Mg, Mh⟩, eH⟩
 rcases a1 with ⟨iL, jT, oQ, ⟨jh, ku⟩, ⟨iU, iV⟩, ⟨zn, zo⟩, kT, ⟨zq, zu⟩, ⟨aeE, aeF⟩, K6⟩
 rw [aR hΩ (f := 96) (fn := Tryz.f96) (x := c96) rfl rfl ala rfl rfl rfl]
 unfold ahW at h
 try dsimp only at h
 conv => arg 1; cbv
 replace h := aW h
 obtain ⟨i20, Ko, h⟩ := h
 refine aI hΩ ((fun (q : Bool) => (match q with | i20 => ([(2, PV.bf (zD7 E aD aO bN aK aS au aA dh dM bT cZ dw Mg Mh eH)), (3, PV.bf (zD7 E iL jT oQ jh ku iU iV zn zo kT zq zu aeE aeF K6)), (4, vb i20)], nO :: st))) i20) (fun k hk => ?_) ?_
 clear h
 have h := Ko
 clear Ko
 conv => arg 1; cbv
 revert h; refine bU (fun hb1 h => cv ?_) fun hb1 h => cv ?_
 refine aj hΩ (cv ?_)
 revert h; refine bU (fun hb2 h => cv ?_) fun hb2 h => cv ?_
 revert h; refine bU (fun hb3 h => cv ?_) fun hb3 h => cv ?_
 refine aj hΩ (cv ?_)
 replace h := aW h
 obtain ⟨r4, hx5, h⟩ := h
 refine aH (Ni hx5) (cv ?_)
 revert h; refine bU (fun hb6 h => cv ?_) fun hb6 h => cv ?_
 replace h := aW h
 obtain ⟨r7, AY, h⟩ := h
 refine aH (arB hΩ hE AY) (cv ?_)
 revert h; refine bU (fun nC h => cv ?_) fun nC h => cv ?_
 refine aj hΩ (cv ?_)
 replace h := aW h
 obtain ⟨r10, mP, h⟩ := h
 refine aH (Ni mP) (cv ?_)
 revert h; refine bU (fun EU h => cv ?_) fun EU h => cv ?_
 refine aj hΩ (cv ?_)
 revert h; refine bU (fun ES h => cv ?_) fun ES h => cv ?_
 replace h := aW h
 obtain ⟨FK, yA, h⟩ := h
 refine aH (Ni yA) (cv ?_)
 revert h; refine bU (fun qm h => cv ?_) fun qm h => cv ?_
 replace h := aW h
 obtain ⟨r17, u6, h⟩ := h
 refine aH (aiQ u6) (cv ?_)
 refine aj hΩ (cv ?_)
 revert h; refine bU (fun anZ h => cv ?_) fun anZ h => cv ?_
 exact fk h hk
 exact fk h hk
 refine aj hΩ (cv ?_)
 exact fk h hk
 refine aj hΩ (cv ?_)
 exact fk h hk
 refine aj hΩ (cv ?_)
 refine aj hΩ (cv ?_)
 exact fk h hk
 refine aj hΩ (cv ?_)
 refine aj hΩ (cv ?_)
 refine aj hΩ (cv ?_)
 exact fk h hk
 refine aj hΩ (cv ?_)
 refine aj hΩ (cv ?_)
 refine aj hΩ (cv ?_)
 exact fk h hk
 refine aj hΩ (cv ?_)
 refine aj hΩ (cv ?_)
 refine aj hΩ (cv ?_)
 refine aj hΩ (cv ?_)
 exact fk h hk
 refine aj hΩ (cv ?_)
 refine aj hΩ (cv ?_)
 refine aj hΩ (cv ?_)
 refine aj hΩ (cv ?_)
 exact fk h hk
 refine aj hΩ (cv ?_)
 refine aj hΩ (cv ?_)
 refine aj hΩ (cv ?_)
 refine aj hΩ (cv ?_)
 refine aj hΩ (cv ?_)
 exact fk h hk
 clear Ko
 try dsimp only at h
 conv => arg 1; cbv
 exact sp h
theorem aoJ : ∀ fu,
 (∀ {a0 : Sl Expr} {a1 : Sl Expr} {r : Bool}, Wo fu a0 a1 = some r → ∀ {args : List PV}, [PV.d (.sl (E.dZ a0.l) (E.fB a0.x)), PV.d (.sl (E.dZ a1.l) (E.fB a1.x))] = args → ∀ (st : St), Sat (Ω.cf 106 args st) (fun q => q = (PV.d (.bool r), st))) ∧
 (∀ {a0 : Sl Act} {a1 : Sl Act} {r : Bool}, P62 fu a0 a1 = some r → ∀ {args : List PV}, [PV.d (.sl (E.fD a0.l) (E.gq a0.x)), PV.d (.sl (E.fD a1.l) (E.gq a1.x))] = args → ∀ (st : St), Sat (Ω.cf 62 args st) (fun q => q = (PV.d (.bool r), st))) ∧
 (∀ {a0 : Act} {a1 : Act} {r : Bool}, P81 fu a0 a1 = some r → ∀ {args : List PV}, [nS E a0, nS E a1] = args → ∀ (st : St), Sat (Ω.cf 81 args st) (fun q => q = (PV.d (.bool r), st))) ∧
 (∀ {a0 : Expr} {a1 : Expr} {r : Bool}, P96 fu a0 a1 = some r → ∀ {args : List PV}, [lq E a0, lq E a1] = args → ∀ (st : St), Sat (Ω.cf 96 args st) (fun q => q = (PV.d (.bool r), st))) := by
 intro fu
 induction fu with
 | zero => exact ⟨(fun h => (by cases h)), (fun h => (by cases h)), (fun h => (by cases h)), (fun h => (by cases h))⟩
 | succ fu ih =>
  obtain ⟨aiS, i62, i81, i96⟩ := ih
  exact ⟨(fun h => @fun args ha st => aoI (fu := fu) hΩ hE aiS i62 i81 i96 h ha st), (fun h => @fun args ha st => arC (fu := fu) hΩ hE aiS i62 i81 i96 h ha st), (fun h => @fun args ha st => arD (fu := fu) hΩ hE aiS i62 i81 i96 h ha st), (fun h => @fun args ha st => arE (fu := fu) hΩ hE aiS i62 i81 i96 h ha st)⟩
theorem aoK : ∀ {a0 : Sl Act} {a1 : Sl Act} {r : Bool}, P62 fu a0 a1 = some r → ∀ {args : List PV}, [PV.d (.sl (E.fD a0.l) (E.gq a0.x)), PV.d (.sl (E.fD a1.l) (E.gq a1.x))] = args → ∀ (st : St), Sat (Ω.cf 62 args st) (fun q => q = (PV.d (.bool r), st)) := (aoJ hΩ hE fu).2.1
set_option maxHeartbeats 4000000 in
theorem ati {a0 : Cell} {a1 : Cell} {r : Bool} (h : P30 fu a0 a1 = some r) {args : List PV} (ha : [jA E a0, jA E a1] = args) (st : St) :
 Sat (Ω.cf 30 args st) (fun q => q = (PV.d (.bool r), st)) := by
 subst ha
 rcases a0 with ⟨aD, aO, ⟨cu, cB, cK, ⟨bA, bB⟩, ⟨bC, bE⟩, dz, cO, dA⟩, ⟨dD, dF, dG, ⟨bH, bI⟩, ⟨bJ, bK⟩, dH, dI, dJ⟩, ⟨au, aA⟩, ⟨dh, dM⟩, ⟨dN, dP⟩, ⟨cZ, dw⟩, eX, eH, ⟨dK, dQ⟩, ⟨dn, dO⟩⟩
 rcases a1 with ⟨iL, jT, ⟨zi, zk, zl, ⟨rE, rF⟩, ⟨rG, rH⟩, Ml, zm, Mq⟩, ⟨Mr, Ms, Mv, ⟨Ev, Ew⟩, ⟨Ey, Ez⟩, Mw, Mx, MB⟩, ⟨iU, iV⟩, ⟨zn, zo⟩, ⟨MC, ME⟩, ⟨zq, zu⟩, Z6, K6, ⟨MF, MG⟩, ⟨MH, MI⟩⟩
 rw [aR hΩ (f := 30) (fn := Tryz.f30) (x := c30) rfl rfl akK rfl rfl rfl]
 unfold P30 at h
 try dsimp only at h
 conv => arg 1; cbv
 replace h := aW h
 obtain ⟨i28, Kq, h⟩ := h
 refine aI hΩ ((fun (q : Bool) => (match q with | i28 => ([(2, PV.bf (mI E aD aO cu cB cK bA bB bC bE dz cO dA dD dF dG bH bI bJ bK dH dI dJ au aA dh dM dN dP cZ dw eX eH dK dQ dn dO)), (3, PV.bf (mI E iL jT zi zk zl rE rF rG rH Ml zm Mq Mr Ms Mv Ev Ew Ey Ez Mw Mx MB iU iV zn zo MC ME zq zu Z6 K6 MF MG MH MI)), (4, vb i28)], nO :: st))) i28) (fun k hk => ?_) ?_
 clear h
 have h := Kq
 clear Kq
 conv => arg 1; cbv
 revert h; refine bU (fun hb1 h => cv ?_) fun hb1 h => cv ?_
 refine aj hΩ (cv ?_)
 revert h; refine bU (fun hb2 h => cv ?_) fun hb2 h => cv ?_
 replace h := aW h
 obtain ⟨r3, hx4, h⟩ := h
 refine aH (arz hΩ hE hx4) (cv ?_)
 revert h; refine bU (fun hb5 h => cv ?_) fun hb5 h => cv ?_
 refine aj hΩ (cv ?_)
 replace h := aW h
 obtain ⟨r6, hx7, h⟩ := h
 refine aH (arz hΩ hE hx7) (cv ?_)
 revert h; refine bU (fun vL h => cv ?_) fun vL h => cv ?_
 replace h := aW h
 obtain ⟨r9, EO, h⟩ := h
 refine aH (atg hΩ hE EO) (cv ?_)
 revert h; refine bU (fun Ba h => cv ?_) fun Ba h => cv ?_
 refine aj hΩ (cv ?_)
 replace h := aW h
 obtain ⟨r12, mQ, h⟩ := h
 refine aH (aoK hΩ hE mQ) (cv ?_)
 revert h; refine bU (fun nD h => cv ?_) fun nD h => cv ?_
 replace h := aW h
 obtain ⟨sJ, hx16, h⟩ := h
 refine aH (aoK hΩ hE hx16) (cv ?_)
 refine aj hΩ (cv ?_)
 revert h; refine bU (fun u7 h => cv ?_) fun u7 h => cv ?_
 replace h := aW h
 obtain ⟨TR, EX, h⟩ := h
 refine aH (arA hΩ hE EX) (cv ?_)
 revert h; refine bU (fun nZ h => cv ?_) fun nZ h => cv ?_
 refine aj hΩ (cv ?_)
 revert h; refine bU (fun EM h => cv ?_) fun EM h => cv ?_
 revert h; refine bU (fun yw h => cv ?_) fun yw h => cv ?_
 refine aj hΩ (cv ?_)
 replace h := aW h
 obtain ⟨r23, hx24, h⟩ := h
 refine aH (aoK hΩ hE hx24) (cv ?_)
 revert h; refine bU (fun Rk h => cv ?_) fun Rk h => cv ?_
 replace h := aW h
 obtain ⟨r26, hx27, h⟩ := h
 refine aH (arA hΩ hE hx27) (cv ?_)
 exact fk h hk
 exact fk h hk
 refine aj hΩ (cv ?_)
 exact fk h hk
 refine aj hΩ (cv ?_)
 exact fk h hk
 refine aj hΩ (cv ?_)
 refine aj hΩ (cv ?_)
 exact fk h hk
 refine aj hΩ (cv ?_)
 refine aj hΩ (cv ?_)
 exact fk h hk
 refine aj hΩ (cv ?_)
 refine aj hΩ (cv ?_)
 refine aj hΩ (cv ?_)
 exact fk h hk
 refine aj hΩ (cv ?_)
 refine aj hΩ (cv ?_)
 refine aj hΩ (cv ?_)
 refine aj hΩ (cv ?_)
 exact fk h hk
 refine aj hΩ (cv ?_)
 refine aj hΩ (cv ?_)
 refine aj hΩ (cv ?_)
 refine aj hΩ (cv ?_)
 exact fk h hk
 refine aj hΩ (cv ?_)
 refine aj hΩ (cv ?_)
 refine aj hΩ (cv ?_)
 refine aj hΩ (cv ?_)
 refine aj hΩ (cv ?_)
 exact fk h hk
 refine aj hΩ (cv ?_)
 refine aj hΩ (cv ?_)
 refine aj hΩ (cv ?_)
 refine aj hΩ (cv ?_)
 refine aj hΩ (cv ?_)
 exact fk h hk
 refine aj hΩ (cv ?_)
 refine aj hΩ (cv ?_)
 refine aj hΩ (cv ?_)
 refine aj hΩ (cv ?_)
 refine aj hΩ (cv ?_)
 refine aj hΩ (cv ?_)
 exact fk h hk
 clear Kq
 try dsimp only at h
 conv => arg 1; cbv
 exact sp h
set_option maxHeartbeats 4000000 in
theorem arF {a0 : Sl Cell} {a1 : Sl Cell} {r : Bool} (h : P14 fu a0 a1 = some r) {args : List PV} (ha : [PV.d (.sl (E.bM a0.l) (E.bX a0.x)), PV.d (.sl (E.bM a1.l) (E.bX a1.x))] = args) (st : St) :
 Sat (Ω.cf 14 args st) (fun q => q = (PV.d (.bool r), st)) := by
 subst ha
 rcases a0 with ⟨ah, _ | aQ⟩
 rcases a1 with ⟨aL, dS⟩
 rw [aR hΩ (f := 14) (fn := Tryz.f14) (x := c14) rfl rfl abz rfl rfl rfl]
 unfold P14 at h
 try dsimp only at h
 dsimp only []
 rw [show E.bX none = none from by rw [(aV hE).2.1]; rfl]
 conv => arg 1; cbv
 refine aC hΩ (cv ?_)
 refine av hΩ (aV hE) ah fun n1 hn2 => cv ?_
 refine av hΩ (aV hE) aL fun n3 FP => cv ?_
 replace h := bic h
 rcases h with ⟨hb5, h⟩ | ⟨hb5, h⟩
 cases h
 refine yN hb5 (cv ?_)
 refine aC hΩ (cv ?_)
 exact sp h
 rcases a1 with ⟨aL, dS⟩
 rw [aR hΩ (f := 14) (fn := Tryz.f14) (x := c14) rfl rfl abz rfl rfl rfl]
 unfold P14 at h
 try dsimp only at h
 dsimp only []
 rw [show E.bX (some aQ) = some (E.bM aQ) from by rw [(aV hE).2.1]; rfl]
 conv => arg 1; cbv
 replace h := aW h
 obtain ⟨i17, qp, h⟩ := h
 refine aI hΩ ((fun (q : Bool) => (match q with | i17 => ([(0, PV.d (.sl (E.bM ah) (some (E.bM aQ)))), (1, PV.d (.sl (E.bM aL) (E.bX dS))), (4, vb false), (18, vb i17)], nO :: st))) i17) (fun k hk => ?_) ?_
 clear h
 have h := qp
 clear qp
 conv => arg 1; cbv
 refine av hΩ (aV hE) ah fun n6 hn7 => cv ?_
 refine av hΩ (aV hE) aL fun n8 hn9 => cv ?_
 revert h; refine bU (fun jo h => cv ?_) fun jo h => cv ?_
 refine eP hΩ (aV hE) ah aQ fun l11 hl12 n13 WJ => cv ?_
 refine av hΩ (aV hE) aL fun n15 hn16 => cv ?_
 exact fk h hk
 exact fk h hk
 clear qp
 try dsimp only at h
 conv => arg 1; cbv
 refine aC hΩ (cv ?_)
 revert h; refine bU (fun vk h => cv ?_) fun vk h => cv ?_
 exact sp h
 replace h := aW h
 obtain ⟨q, vo, h⟩ := h
 refine dL hΩ (fun (a : Int) => (match a with | i19 => ([(0, PV.d (.sl (E.bM ah) (some (E.bM aQ)))), (1, PV.d (.sl (E.bM aL) (E.bX dS))), (4, vb false), (5, vi i19)], nO :: st))) (fun (q : Int ⊕ Int) => (match q with | .inl QX => (.exit 0, [(0, PV.d (.sl (E.bM ah) (some (E.bM aQ)))), (1, PV.d (.sl (E.bM aL) (E.bX dS))), (4, vb false), (5, vi QX)], nO :: st) | .inr QY => (.ret, [(0, PV.d (.sl (E.bM ah) (some (E.bM aQ)))), (1, PV.d (.sl (E.bM aL) (E.bX dS))), (4, vb false), (5, vi QY)], nO :: st))) 0 vo ?_ ?_
 clear h vo
 rintro i19 q h
 unfold Q9 at h
 dsimp only at h
 conv => arg 1; cbv
 refine av hΩ (aV hE) aL fun n20 afG => cv ?_
 refine aC hΩ (cv ?_)
 revert h; refine bU (fun yw h => cv ?_) fun yw h => cv ?_
 refine sat_true (bg hΩ (aV hE) ah) (cv ?_)
 replace h := aW h
 obtain ⟨⟨mY, xX, ⟨J7, J8, J9, ⟨Dv, Dw⟩, ⟨Dx, Dy⟩, aeG, Ka, aeH⟩, ⟨aeI, aeJ, aeK, ⟨YP, YQ⟩, ⟨YR, YS⟩, aeL, aeM, aeN⟩, ⟨xY, xZ⟩, ⟨JX, JY⟩, ⟨aeO, aeP⟩, ⟨JZ, J2⟩, aj5, Ue, ⟨aeQ, aeR⟩, ⟨aeS, aeT⟩⟩, hx24, h⟩ := h
 try dsimp only at h
 refine aM (bG hΩ (aV hE) hx24) (cv ?_)
 refine sat_true (bg hΩ (aV hE) aL) (cv ?_)
 replace h := aW h
 obtain ⟨⟨qR, yc, ⟨Kc, Ke, Kg, ⟨Dz, DC⟩, ⟨DF, DI⟩, aeU, Kh, aeV⟩, ⟨aeW, aeX, aeY, ⟨YT, YU⟩, ⟨YV, YW⟩, aeZ, ae0, ae1⟩, ⟨yg, yh⟩, ⟨J3, J4⟩, ⟨ae2, ae3⟩, ⟨J5, J6⟩, aj6, Uf, ⟨ae4, ae5⟩, ⟨ae6, ae7⟩⟩, rJ, h⟩ := h
 try dsimp only at h
 refine aM (bG hΩ (aV hE) rJ) (cv ?_)
 replace h := aW h
 obtain ⟨Yy, hx28, h⟩ := h
 refine aH (ati hΩ hE hx28) (cv ?_)
 refine aC hΩ (cv ?_)
 revert h; refine bU (fun Kv h => cv ?_) fun Kv h => cv ?_
 obtain rfl := fV h
 subst_vars
 exact sR
 obtain rfl := fV h
 subst_vars
 exact s3
 obtain rfl := fV h
 subst_vars
 exact sL
 clear vo
 rcases q with QX | QY
 dsimp only at h
 conv => arg 1; cbv
 refine av hΩ (aV hE) aL fun n32 aaf => cv ?_
 refine sat_true (wO hΩ (aV hE) ah (some aQ)) (cv ?_)
 refine av hΩ (aV hE) ah fun n34 Rb => cv ?_
 refine eP hΩ (aV hE) ah aQ fun l36 aiL n38 aiM => cv ?_
 replace h := aJ h
 obtain ⟨EY, h⟩ := h
 refine aP EY (cv ?_)
 replace h := aJ h
 obtain ⟨yx, h⟩ := h
 refine aP yx (cv ?_)
 replace h := aJ h
 obtain ⟨EN, h⟩ := h
 refine aP EN (cv ?_)
 refine eT hΩ (aV hE) (ah ++ aQ) 0 (fq ((ln aL) + 1)) fun l43 afH => cv ?_
 refine eT hΩ (aV hE) (ah ++ aQ) (fq ((ln aL) + 1)) (ln (ah ++ aQ)) fun l45 aiN => cv ?_
 refine av hΩ (aV hE) aL fun n47 aiO => cv ?_
 refine sat_true (bg hΩ (aV hE) (cut (ah ++ aQ) 0 (fq ((ln aL) + 1)))) (cv ?_)
 replace h := aW h
 obtain ⟨⟨zx, Du, ⟨V6, V7, V8, ⟨Q5, Q6⟩, ⟨Q7, Q8⟩, anl, V9, anm⟩, ⟨ano, anp, anq, ⟨ahX, ahY⟩, ⟨ahZ, ah0⟩, anr, ant, anu⟩, ⟨JV, JW⟩, ⟨VZ, V3⟩, ⟨anv, anw⟩, ⟨V4, V5⟩, aqm, aey, ⟨anx, anz⟩, ⟨anA, anB⟩⟩, Rq, h⟩ := h
 try dsimp only at h
 refine aM (bG hΩ (aV hE) Rq) (cv ?_)
 exact sp h
 dsimp only at h
 conv => arg 1; cbv
 exact sp h
theorem atj {r : Bool} (h : P15 fu = some r) {args : List PV} (ha : [] = args) (st : St) :
 Sat (Ω.cf 15 args st) (fun q => q = (PV.d (.bool r), st)) := by
 subst ha
 subst hΩ
 obtain rfl := fV h
 exact ⟨_, SG (S := S) (f := 15) rfl st, rfl⟩
set_option maxHeartbeats 4000000 in
theorem ok3 {a0 : Sl Cell} {a1 : Sl Cell} {a2 : ByteArray} {r : Bool} (h : P3 fu a0 a1 a2 = some r) {args : List PV} (ha : [PV.d (.sl (E.bM a0.l) (E.bX a0.x)), PV.d (.sl (E.bM a1.l) (E.bX a1.x)), PV.d (.str a2)] = args) (st : St) :
 Sat (Ω.cf 3 args st) (fun q => q = (PV.d (.bool r), st)) := by
 subst ha
 rcases a0 with ⟨ah, aY⟩
 rcases a1 with ⟨aL, dS⟩
 rw [aR hΩ (f := 3) (fn := Tryz.f3) (x := c3) rfl rfl apB rfl rfl rfl]
 unfold P3 at h
 try dsimp only at h
 conv => arg 1; cbv
 replace h := aW h
 obtain ⟨⟨wV, wW⟩, hx2, h⟩ := h
 try dsimp only at h
 refine aH (ok4 hΩ hE hx2) (cv ?_)
 replace h := aW h
 obtain ⟨⟨Cq, Cr⟩, hx4, h⟩ := h
 try dsimp only at h
 refine aH (ok4 hΩ hE hx4) (cv ?_)
 replace h := aW h
 obtain ⟨⟨⟨ah1, ah2, ah3, ⟨YX, YZ⟩, ⟨Y0, Y1⟩, ah4, ah5, ah6⟩, r6⟩, hx7, h⟩ := h
 try dsimp only at h
 refine aH (ok5 hΩ hE hx7) (cv ?_)
 replace h := aW h
 obtain ⟨⟨⟨ah7, ah8, ah9, ⟨Y2, Y3⟩, ⟨Y4, Y5⟩, aia, aib, aic⟩, r9⟩, EO, h⟩ := h
 try dsimp only at h
 refine aH (ok6 hΩ hE EO) (cv ?_)
 replace h := aW h
 obtain ⟨i25, aoL, h⟩ := h
 refine aI hΩ ((fun (q : Bool) => (match q with | i25 => ([(0, PV.d (.sl (E.bM ah) (E.bX aY))), (1, PV.d (.sl (E.bM aL) (E.bX dS))), (6, vb false), (7, PV.d (.sl (E.bM wV) (E.bX wW))), (8, PV.d (.sl (E.bM Cq) (E.bX Cr))), (9, PV.ptr 0 0 0), (10, vb r6), (11, PV.ptr 0 1 0), (12, vb r9), (49, vb i25)], ([X.Obj.box 29 (zP1 E ah1 ah2 ah3 YX YZ Y0 Y1 ah4 ah5 ah6), X.Obj.box 29 (zP1 E ah7 ah8 ah9 Y2 Y3 Y4 Y5 aia aib aic)] : List X.Obj) :: st))) i25) (fun k hk => ?_) ?_
 clear h
 have h := aoL
 clear aoL
 conv => arg 1; cbv
 replace h := aW h
 obtain ⟨r11, AZ, h⟩ := h
 refine aH (ok7 hΩ hE AZ) (cv ?_)
 replace h := aW h
 obtain ⟨r13, EP, h⟩ := h
 refine aH (ok8 hΩ hE EP) (cv ?_)
 revert h; refine bU (fun Rp h => cv ?_) fun Rp h => cv ?_
 replace h := aW h
 obtain ⟨r16, WO, h⟩ := h
 refine aH (ok9 hΩ hE WO) (cv ?_)
 replace h := aW h
 obtain ⟨TR, EX, h⟩ := h
 refine aH (asq hΩ hE EX) (cv ?_)
 refine aj hΩ (cv ?_)
 revert h; refine bU (fun nZ h => cv ?_) fun nZ h => cv ?_
 replace h := aW h
 obtain ⟨X5, Kr, h⟩ := h
 refine aH (asT hΩ hE Kr) (cv ?_)
 replace h := aW h
 obtain ⟨r23, hx24, h⟩ := h
 refine aH (ate hΩ hE hx24) (cv ?_)
 exact fk h hk
 exact fk h hk
 refine aj hΩ (cv ?_)
 exact fk h hk
 clear aoL
 try dsimp only at h
 conv => arg 1; cbv
 refine aC hΩ (cv ?_)
 revert h; refine bU (fun atl h => cv ?_) fun atl h => cv ?_
 exact sp h
 replace h := aW h
 obtain ⟨i39, aoM, h⟩ := h
 refine aI hΩ ((fun (q : Bool) => (match q with | i39 => ([(6, vb i39), (7, PV.d (.sl (E.bM wV) (E.bX wW))), (8, PV.d (.sl (E.bM Cq) (E.bX Cr))), (9, PV.ptr 0 0 0), (10, vb r6), (11, PV.ptr 0 1 0), (12, vb r9)], ([X.Obj.box 29 (zP1 E ah1 ah2 ah3 YX YZ Y0 Y1 ah4 ah5 ah6), X.Obj.box 29 (zP1 E ah7 ah8 ah9 Y2 Y3 Y4 Y5 aia aib aic)] : List X.Obj) :: st))) i39) (fun k hk => ?_) ?_
 clear h
 have h := aoM
 clear aoM
 conv => arg 1; cbv
 revert h; refine bU (fun EW h => cv ?_) fun EW h => cv ?_
 replace h := aW h
 obtain ⟨r28, hx29, h⟩ := h
 refine aH (atf hΩ hE hx29) (cv ?_)
 revert h; refine bU (fun Wq h => cv ?_) fun Wq h => cv ?_
 replace h := aW h
 obtain ⟨r31, hx32, h⟩ := h
 refine aH (arF hΩ hE hx32) (cv ?_)
 refine aj hΩ (cv ?_)
 revert h; refine bU (fun EJ h => cv ?_) fun EJ h => cv ?_
 replace h := aW h
 obtain ⟨r34, afj, h⟩ := h
 refine aH (arF hΩ hE afj) (cv ?_)
 revert h; refine bU (fun yu h => cv ?_) fun yu h => cv ?_
 replace h := aW h
 obtain ⟨r37, hx38, h⟩ := h
 refine aH (atj hΩ hE hx38) (cv ?_)
 exact fk h hk
 exact fk h hk
 exact fk h hk
 refine aj hΩ (cv ?_)
 exact fk h hk
 refine aj hΩ (cv ?_)
 exact fk h hk
 clear aoM
 try dsimp only at h
 conv => arg 1; cbv
 exact sp h
end Go.Proofs.YtipkggkbldgmjaaGreat
