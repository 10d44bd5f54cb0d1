/- T -/
import Derived.Test.YtedfkehkcaaplaaTFO2
namespace Go.Proofs.Ytedfkehkcaaplaa
open Go Go.X
set_option linter.unusedVariables false
variable {Ω : Om} {E : Enc} (hΩ : real (call S) = Ω) (hE : fH = E) {fu : Nat}
include hΩ hE
set_option maxRecDepth 100000
set_option maxHeartbeats 4000000
theorem acW {rE : Act → Act → Option (Bool)} (QA : ZT Ω E rE) {qB : Expr → Expr → Option (Bool)} (MB : ZU Ω E qB) {rF : (Sl Expr) → (Sl Expr) → Option (Bool)} (Gw : ZV Ω E rF) {Km : (Sl Act) → (Sl Act) → Option (Bool)} (ZW : H90 Ω E Km) {a0 : Sl Expr} {a1 : Sl Expr} {r : Bool} (h : Mr fu rE qB rF Km a0 a1 = some r) {args : List PV} (ha : [PV.d (.sl (E.bL a0.l) (E.bS a0.x)), PV.d (.sl (E.bL a1.l) (E.bS a1.x))] = args) (st : St) :
 Sat (Ω.cf 125 args st) (fun q => q = (PV.d (.bool r), st)) := by
 subst ha
 rcases a0 with ⟨b, e⟩
 rcases a1 with ⟨c, g⟩
 rw [aC hΩ (f := 125) (fn := Try.f125) rfl rfl rfl rfl rfl rfl]
 unfold Mr at h
 try dsimp only at h
 refine cv ?_
 refine aP hΩ (cO hE) b fun n1 s => cv ?_
 refine aP hΩ (cO hE) c fun n3 t => cv ?_
 refine aN hΩ (cv ?_)
 revert h; refine bQ (fun j h => cv ?_) fun j h => cv ?_
 exact sp h
 replace h := aQ h
 obtain ⟨q, i, h⟩ := h
 refine bK hΩ (fun (a : Int) => (match a with | i6 => ([(0, PV.d (.sl (E.bL b) (E.bS e))), (1, PV.d (.sl (E.bL c) (E.bS g))), (4, vb false), (5, vi i6)], nO :: st))) (fun (q : Int ⊕ Int) => (match q with | .inl fq => (.exit 0, [(0, PV.d (.sl (E.bL b) (E.bS e))), (1, PV.d (.sl (E.bL c) (E.bS g))), (4, vb false), (5, vi fq)], nO :: st) | .inr kg => (.ret, [(0, PV.d (.sl (E.bL b) (E.bS e))), (1, PV.d (.sl (E.bL c) (E.bS g))), (4, vb false), (5, vi kg)], nO :: st))) 0 i ?_ ?_
 clear h i
 rintro i6 q h
 unfold BQ at h
 dsimp only at h
 refine cv ?_
 refine aP hΩ (cO hE) b fun n7 u => cv ?_
 refine aN hΩ (cv ?_)
 revert h; refine bQ (fun k h => cv ?_) fun k h => cv ?_
 refine sat_true (bA hΩ (cO hE) b) (cv ?_)
 replace h := aQ h
 obtain ⟨⟨v, w, y, ⟨z, a2⟩, ⟨a3, a4⟩, ⟨a5, a6⟩, a7, ⟨a8, a9⟩, ⟨b0, b1⟩, b2⟩, m, h⟩ := h
 try dsimp only at h
 refine ay (aW hΩ (cO hE) m) (cv ?_)
 refine sat_true (bA hΩ (cO hE) c) (cv ?_)
 replace h := aQ h
 obtain ⟨⟨b3, b4, b5, ⟨b6, b7⟩, ⟨b8, b9⟩, ⟨c0, c1⟩, c2, ⟨c3, c4⟩, ⟨c5, c6⟩, c7⟩, n, h⟩ := h
 try dsimp only at h
 refine ay (aW hΩ (cO hE) n) (cv ?_)
 replace h := aQ h
 obtain ⟨AQ, o, h⟩ := h
 refine av (MB o) (cv ?_)
 refine aN hΩ (cv ?_)
 revert h; refine bQ (fun p h => cv ?_) fun p h => cv ?_
 obtain rfl := fZ h
 subst_vars
 exact sR
 obtain rfl := fZ h
 subst_vars
 exact s3
 obtain rfl := fZ h
 subst_vars
 exact sL
 clear i
 rcases q with fq | kg
 dsimp only at h
 refine cv ?_
 exact sp h
 dsimp only at h
 refine cv ?_
 exact sp h
theorem afF {rE : Act → Act → Option (Bool)} (QA : ZT Ω E rE) {qB : Expr → Expr → Option (Bool)} (MB : ZU Ω E qB) {rF : (Sl Expr) → (Sl Expr) → Option (Bool)} (Gw : ZV Ω E rF) {Km : (Sl Act) → (Sl Act) → Option (Bool)} (ZW : H90 Ω E Km) {a0 : Sl Act} {a1 : Sl Act} {r : Bool} (h : RQ fu rE qB rF Km a0 a1 = some r) {args : List PV} (ha : [PV.d (.sl (E.dF a0.l) (E.dQ a0.x)), PV.d (.sl (E.dF a1.l) (E.dQ a1.x))] = args) (st : St) :
 Sat (Ω.cf 90 args st) (fun q => q = (PV.d (.bool r), st)) := by
 subst ha
 rcases a0 with ⟨b, e⟩
 rcases a1 with ⟨c, g⟩
 rw [aC hΩ (f := 90) (fn := Try.f90) rfl rfl rfl rfl rfl rfl]
 unfold RQ at h
 try dsimp only at h
 refine cv ?_
 refine aP hΩ (dR hE) b fun n1 s => cv ?_
 refine aP hΩ (dR hE) c fun n3 t => cv ?_
 refine aN hΩ (cv ?_)
 revert h; refine bQ (fun j h => cv ?_) fun j h => cv ?_
 exact sp h
 replace h := aQ h
 obtain ⟨q, i, h⟩ := h
 refine bK hΩ (fun (a : Int) => (match a with | i6 => ([(0, PV.d (.sl (E.dF b) (E.dQ e))), (1, PV.d (.sl (E.dF c) (E.dQ g))), (4, vb false), (5, vi i6)], nO :: st))) (fun (q : Int ⊕ Int) => (match q with | .inl fq => (.exit 0, [(0, PV.d (.sl (E.dF b) (E.dQ e))), (1, PV.d (.sl (E.dF c) (E.dQ g))), (4, vb false), (5, vi fq)], nO :: st) | .inr kg => (.ret, [(0, PV.d (.sl (E.dF b) (E.dQ e))), (1, PV.d (.sl (E.dF c) (E.dQ g))), (4, vb false), (5, vi kg)], nO :: st))) 0 i ?_ ?_
 clear h i
 rintro i6 q h
 unfold Jy at h
 dsimp only at h
 refine cv ?_
 refine aP hΩ (dR hE) b fun n7 u => cv ?_
 refine aN hΩ (cv ?_)
 revert h; refine bQ (fun k h => cv ?_) fun k h => cv ?_
 refine sat_true (bA hΩ (dR hE) b) (cv ?_)
 replace h := aQ h
 obtain ⟨⟨v, w, ⟨y, z, a2, ⟨a3, a4⟩, ⟨a5, a6⟩, ⟨a7, a8⟩, a9, ⟨b0, b1⟩, ⟨b2, b3⟩, b4⟩⟩, m, h⟩ := h
 try dsimp only at h
 refine ay (aW hΩ (dR hE) m) (cv ?_)
 refine sat_true (bA hΩ (dR hE) c) (cv ?_)
 replace h := aQ h
 obtain ⟨⟨b5, b6, ⟨b7, b8, b9, ⟨c0, c1⟩, ⟨c2, c3⟩, ⟨c4, c5⟩, c6, ⟨c7, c8⟩, ⟨c9, d0⟩, d1⟩⟩, n, h⟩ := h
 try dsimp only at h
 refine ay (aW hΩ (dR hE) n) (cv ?_)
 replace h := aQ h
 obtain ⟨AQ, o, h⟩ := h
 refine av (QA o) (cv ?_)
 refine aN hΩ (cv ?_)
 revert h; refine bQ (fun p h => cv ?_) fun p h => cv ?_
 obtain rfl := fZ h
 subst_vars
 exact sR
 obtain rfl := fZ h
 subst_vars
 exact s3
 obtain rfl := fZ h
 subst_vars
 exact sL
 clear i
 rcases q with fq | kg
 dsimp only at h
 refine cv ?_
 exact sp h
 dsimp only at h
 refine cv ?_
 exact sp h
theorem acX : ∀ fu,
 (∀ {a0 : Act} {a1 : Act} {r : Bool}, zS fu a0 a1 = some r → ∀ {args : List PV}, [jG E a0, jG E a1] = args → ∀ (st : St), Sat (Ω.cf 108 args st) (fun q => q = (PV.d (.bool r), st))) ∧
 (∀ {a0 : Expr} {a1 : Expr} {r : Bool}, zT fu a0 a1 = some r → ∀ {args : List PV}, [iy E a0, iy E a1] = args → ∀ (st : St), Sat (Ω.cf 118 args st) (fun q => q = (PV.d (.bool r), st))) ∧
 (∀ {a0 : Sl Expr} {a1 : Sl Expr} {r : Bool}, Jz fu a0 a1 = some r → ∀ {args : List PV}, [PV.d (.sl (E.bL a0.l) (E.bS a0.x)), PV.d (.sl (E.bL a1.l) (E.bS a1.x))] = args → ∀ (st : St), Sat (Ω.cf 125 args st) (fun q => q = (PV.d (.bool r), st))) ∧
 (∀ {a0 : Sl Act} {a1 : Sl Act} {r : Bool}, MR fu a0 a1 = some r → ∀ {args : List PV}, [PV.d (.sl (E.dF a0.l) (E.dQ a0.x)), PV.d (.sl (E.dF a1.l) (E.dQ a1.x))] = args → ∀ (st : St), Sat (Ω.cf 90 args st) (fun q => q = (PV.d (.bool r), st))) := by
 intro fu
 induction fu with
 | zero => exact ⟨(fun h => (by cases h)), (fun h => (by cases h)), (fun h => (by cases h)), (fun h => (by cases h))⟩
 | succ fu ih =>
  obtain ⟨ZX, ZY, Z0, i90⟩ := ih
  exact ⟨(fun h => @fun args ha st => acU (fu := fu) hΩ hE ZX ZY Z0 i90 h ha st), (fun h => @fun args ha st => acV (fu := fu) hΩ hE ZX ZY Z0 i90 h ha st), (fun h => @fun args ha st => acW (fu := fu) hΩ hE ZX ZY Z0 i90 h ha st), (fun h => @fun args ha st => afF (fu := fu) hΩ hE ZX ZY Z0 i90 h ha st)⟩
theorem acY : ∀ {a0 : Sl Act} {a1 : Sl Act} {r : Bool}, MR fu a0 a1 = some r → ∀ {args : List PV}, [PV.d (.sl (E.dF a0.l) (E.dQ a0.x)), PV.d (.sl (E.dF a1.l) (E.dQ a1.x))] = args → ∀ (st : St), Sat (Ω.cf 90 args st) (fun q => q = (PV.d (.bool r), st)) := (acX hΩ hE fu).2.2.2
theorem ahp {a0 : Cell} {a1 : Cell} {r : Bool} (h : P66 fu a0 a1 = some r) {args : List PV} (ha : [sM E a0, sM E a1] = args) (st : St) :
 Sat (Ω.cf 66 args st) (fun q => q = (PV.d (.bool r), st)) := by
 subst ha
 rcases a0 with ⟨b, c, ⟨e, g, i, ⟨j, l⟩, ⟨m, n⟩, o, p, s⟩, ⟨t, u, v, ⟨w, y⟩, ⟨z, a2⟩, a3, a4, a5⟩, ⟨a6, a7⟩, ⟨a8, a9⟩, ⟨b0, b1⟩, ⟨b2, b3⟩, b4, b5, ⟨b6, b7⟩, ⟨b8, b9⟩⟩
 rcases a1 with ⟨c0, c1, ⟨c2, c3, c4, ⟨c5, c6⟩, ⟨c7, c8⟩, c9, d0, d1⟩, ⟨d2, d3, d4, ⟨d5, d6⟩, ⟨d7, d8⟩, d9, e0, e3⟩, ⟨e4, e5⟩, ⟨e6, e7⟩, ⟨e8, e9⟩, ⟨f0, f1⟩, f2, f3, ⟨f4, f5⟩, ⟨f6, f7⟩⟩
 rw [kJ hΩ (f := 66) (fn := Try.f66) (x := aew) rfl rfl Yv rfl rfl rfl]
 unfold P66 at h
 try dsimp only at h
 refine cv ?_
 replace h := aQ h
 obtain ⟨i28, a, h⟩ := h
 refine aH hΩ ((fun (q : Bool) => (match q with | i28 => ([(2, PV.aS (Xo E b c e g i j l m n o p s t u v w y z a2 a3 a4 a5 a6 a7 a8 a9 b0 b1 b2 b3 b4 b5 b6 b7 b8 b9)), (3, PV.aS (Xo E c0 c1 c2 c3 c4 c5 c6 c7 c8 c9 d0 d1 d2 d3 d4 d5 d6 d7 d8 d9 e0 e3 e4 e5 e6 e7 e8 e9 f0 f1 f2 f3 f4 f5 f6 f7)), (4, vb i28)], nO :: st))) i28) (fun k hk => ?_) ?_
 clear h
 have h := a
 clear a
 refine cv ?_
 revert h; refine bQ (fun f8 h => cv ?_) fun f8 h => cv ?_
 refine ah hΩ (cv ?_)
 revert h; refine bQ (fun f9 h => cv ?_) fun f9 h => cv ?_
 replace h := aQ h
 obtain ⟨r3, g0, h⟩ := h
 refine av (ZR hΩ hE g0) (cv ?_)
 revert h; refine bQ (fun g1 h => cv ?_) fun g1 h => cv ?_
 refine ah hΩ (cv ?_)
 replace h := aQ h
 obtain ⟨r6, g2, h⟩ := h
 refine av (ZR hΩ hE g2) (cv ?_)
 revert h; refine bQ (fun g3 h => cv ?_) fun g3 h => cv ?_
 replace h := aQ h
 obtain ⟨r9, g4, h⟩ := h
 refine av (aho hΩ hE g4) (cv ?_)
 revert h; refine bQ (fun g5 h => cv ?_) fun g5 h => cv ?_
 refine ah hΩ (cv ?_)
 replace h := aQ h
 obtain ⟨r12, g6, h⟩ := h
 refine av (acY hΩ hE g6) (cv ?_)
 revert h; refine bQ (fun g7 h => cv ?_) fun g7 h => cv ?_
 replace h := aQ h
 obtain ⟨Mh, g8, h⟩ := h
 refine av (acY hΩ hE g8) (cv ?_)
 refine ah hΩ (cv ?_)
 revert h; refine bQ (fun g9 h => cv ?_) fun g9 h => cv ?_
 replace h := aQ h
 obtain ⟨r18, h0, h⟩ := h
 refine av (afC hΩ hE h0) (cv ?_)
 revert h; refine bQ (fun h3 h => cv ?_) fun h3 h => cv ?_
 refine ah hΩ (cv ?_)
 revert h; refine bQ (fun h4 h => cv ?_) fun h4 h => cv ?_
 revert h; refine bQ (fun h5 h => cv ?_) fun h5 h => cv ?_
 refine ah hΩ (cv ?_)
 replace h := aQ h
 obtain ⟨Vp, h6, h⟩ := h
 refine av (acY hΩ hE h6) (cv ?_)
 revert h; refine bQ (fun h7 h => cv ?_) fun h7 h => cv ?_
 replace h := aQ h
 obtain ⟨r26, h8, h⟩ := h
 refine av (afC hΩ hE h8) (cv ?_)
 exact fk h hk
 exact fk h hk
 refine ah hΩ (cv ?_)
 exact fk h hk
 refine ah hΩ (cv ?_)
 exact fk h hk
 refine ah hΩ (cv ?_)
 refine ah hΩ (cv ?_)
 exact fk h hk
 refine ah hΩ (cv ?_)
 refine ah hΩ (cv ?_)
 exact fk h hk
 refine ah hΩ (cv ?_)
 refine ah hΩ (cv ?_)
 refine ah hΩ (cv ?_)
 exact fk h hk
 refine ah hΩ (cv ?_)
 refine ah hΩ (cv ?_)
 refine ah hΩ (cv ?_)
 refine ah hΩ (cv ?_)
 exact fk h hk
 refine ah hΩ (cv ?_)
 refine ah hΩ (cv ?_)
 refine ah hΩ (cv ?_)
 refine ah hΩ (cv ?_)
 exact fk h hk
 refine ah hΩ (cv ?_)
 refine ah hΩ (cv ?_)
 refine ah hΩ (cv ?_)
 refine ah hΩ (cv ?_)
 refine ah hΩ (cv ?_)
 exact fk h hk
 refine ah hΩ (cv ?_)
 refine ah hΩ (cv ?_)
 refine ah hΩ (cv ?_)
 refine ah hΩ (cv ?_)
 refine ah hΩ (cv ?_)
 exact fk h hk
 refine ah hΩ (cv ?_)
 refine ah hΩ (cv ?_)
 refine ah hΩ (cv ?_)
 refine ah hΩ (cv ?_)
 refine ah hΩ (cv ?_)
 refine ah hΩ (cv ?_)
 exact fk h hk
 clear a
 try dsimp only at h
 refine cv ?_
 exact sp h
theorem ahq {a0 : Sl Cell} {a1 : Sl Cell} {r : Bool} (h : P38 fu a0 a1 = some r) {args : List PV} (ha : [PV.d (.sl (E.eH a0.l) (E.gH a0.x)), PV.d (.sl (E.eH a1.l) (E.gH a1.x))] = args) (st : St) :
 Sat (Ω.cf 38 args st) (fun q => q = (PV.d (.bool r), st)) := by
 subst ha
 rcases a0 with ⟨b, e⟩
 rcases a1 with ⟨c, g⟩
 rw [aC hΩ (f := 38) (fn := Try.f38) rfl rfl rfl rfl rfl rfl]
 unfold P38 at h
 try dsimp only at h
 refine cv ?_
 refine aP hΩ (cu hE) b fun n1 s => cv ?_
 refine aP hΩ (cu hE) c fun n3 t => cv ?_
 refine aN hΩ (cv ?_)
 revert h; refine bQ (fun j h => cv ?_) fun j h => cv ?_
 exact sp h
 replace h := aQ h
 obtain ⟨q, i, h⟩ := h
 refine bK hΩ (fun (a : Int) => (match a with | i6 => ([(0, PV.d (.sl (E.eH b) (E.gH e))), (1, PV.d (.sl (E.eH c) (E.gH g))), (4, vb false), (5, vi i6)], nO :: st))) (fun (q : Int ⊕ Int) => (match q with | .inl fq => (.exit 0, [(0, PV.d (.sl (E.eH b) (E.gH e))), (1, PV.d (.sl (E.eH c) (E.gH g))), (4, vb false), (5, vi fq)], nO :: st) | .inr kg => (.ret, [(0, PV.d (.sl (E.eH b) (E.gH e))), (1, PV.d (.sl (E.eH c) (E.gH g))), (4, vb false), (5, vi kg)], nO :: st))) 0 i ?_ ?_
 clear h i
 rintro i6 q h
 unfold JA at h
 dsimp only at h
 refine cv ?_
 refine aP hΩ (cu hE) b fun n7 u => cv ?_
 refine aN hΩ (cv ?_)
 revert h; refine bQ (fun k h => cv ?_) fun k h => cv ?_
 refine sat_true (bA hΩ (cu hE) b) (cv ?_)
 replace h := aQ h
 obtain ⟨⟨v, w, ⟨y, z, a2, ⟨a3, a4⟩, ⟨a5, a6⟩, a7, a8, a9⟩, ⟨b0, b1, b2, ⟨b3, b4⟩, ⟨b5, b6⟩, b7, b8, b9⟩, ⟨c0, c1⟩, ⟨c2, c3⟩, ⟨c4, c5⟩, ⟨c6, c7⟩, c8, c9, ⟨d0, d1⟩, ⟨d2, d3⟩⟩, m, h⟩ := h
 try dsimp only at h
 refine ay (aW hΩ (cu hE) m) (cv ?_)
 refine sat_true (bA hΩ (cu hE) c) (cv ?_)
 replace h := aQ h
 obtain ⟨⟨d4, d5, ⟨d6, d7, d8, ⟨d9, e0⟩, ⟨e3, e4⟩, e5, e6, e7⟩, ⟨e8, e9, f0, ⟨f1, f2⟩, ⟨f3, f4⟩, f5, f6, f7⟩, ⟨f8, f9⟩, ⟨g0, g1⟩, ⟨g2, g3⟩, ⟨g4, g5⟩, g6, g7, ⟨g8, g9⟩, ⟨h0, h3⟩⟩, n, h⟩ := h
 try dsimp only at h
 refine ay (aW hΩ (cu hE) n) (cv ?_)
 replace h := aQ h
 obtain ⟨AQ, o, h⟩ := h
 refine av (ahp hΩ hE o) (cv ?_)
 refine aN hΩ (cv ?_)
 revert h; refine bQ (fun p h => cv ?_) fun p h => cv ?_
 obtain rfl := fZ h
 subst_vars
 exact sR
 obtain rfl := fZ h
 subst_vars
 exact s3
 obtain rfl := fZ h
 subst_vars
 exact sL
 clear i
 rcases q with fq | kg
 dsimp only at h
 refine cv ?_
 exact sp h
 dsimp only at h
 refine cv ?_
 exact sp h
theorem ahr {a0 : Sl Child} {a1 : Sl Child} {r : Bool} (h : P39 fu a0 a1 = some r) {args : List PV} (ha : [PV.d (.sl (E.dJ a0.l) (E.eP a0.x)), PV.d (.sl (E.dJ a1.l) (E.eP a1.x))] = args) (st : St) :
 Sat (Ω.cf 39 args st) (fun q => q = (PV.d (.bool r), st)) := by
 subst ha
 rcases a0 with ⟨b, e⟩
 rcases a1 with ⟨c, g⟩
 rw [aC hΩ (f := 39) (fn := Try.f39) rfl rfl rfl rfl rfl rfl]
 unfold P39 at h
 try dsimp only at h
 refine cv ?_
 refine aP hΩ (bM hE) b fun n1 s => cv ?_
 refine aP hΩ (bM hE) c fun n3 t => cv ?_
 refine aN hΩ (cv ?_)
 revert h; refine bQ (fun j h => cv ?_) fun j h => cv ?_
 exact sp h
 replace h := aQ h
 obtain ⟨q, i, h⟩ := h
 refine bK hΩ (fun (a : Int) => (match a with | i6 => ([(0, PV.d (.sl (E.dJ b) (E.eP e))), (1, PV.d (.sl (E.dJ c) (E.eP g))), (4, vb false), (5, vi i6)], nO :: st))) (fun (q : Int ⊕ Int) => (match q with | .inl fq => (.exit 0, [(0, PV.d (.sl (E.dJ b) (E.eP e))), (1, PV.d (.sl (E.dJ c) (E.eP g))), (4, vb false), (5, vi fq)], nO :: st) | .inr kg => (.ret, [(0, PV.d (.sl (E.dJ b) (E.eP e))), (1, PV.d (.sl (E.dJ c) (E.eP g))), (4, vb false), (5, vi kg)], nO :: st))) 0 i ?_ ?_
 clear h i
 rintro i6 q h
 unfold JB at h
 dsimp only at h
 refine cv ?_
 refine aP hΩ (bM hE) b fun n7 u => cv ?_
 refine aN hΩ (cv ?_)
 revert h; refine bQ (fun k h => cv ?_) fun k h => cv ?_
 refine sat_true (bA hΩ (bM hE) b) (cv ?_)
 replace h := aQ h
 obtain ⟨⟨v, w, y, ⟨z, a2, a3, ⟨a4, a5⟩, ⟨a6, a7⟩, a8, a9, b0⟩⟩, m, h⟩ := h
 try dsimp only at h
 refine ay (aW hΩ (bM hE) m) (cv ?_)
 refine sat_true (bA hΩ (bM hE) c) (cv ?_)
 replace h := aQ h
 obtain ⟨⟨b1, b2, b3, ⟨b4, b5, b6, ⟨b7, b8⟩, ⟨b9, c0⟩, c1, c2, c3⟩⟩, n, h⟩ := h
 try dsimp only at h
 refine ay (aW hΩ (bM hE) n) (cv ?_)
 replace h := aQ h
 obtain ⟨AQ, o, h⟩ := h
 refine av (afD hΩ hE o) (cv ?_)
 refine aN hΩ (cv ?_)
 revert h; refine bQ (fun p h => cv ?_) fun p h => cv ?_
 obtain rfl := fZ h
 subst_vars
 exact sR
 obtain rfl := fZ h
 subst_vars
 exact s3
 obtain rfl := fZ h
 subst_vars
 exact sL
 clear i
 rcases q with fq | kg
 dsimp only at h
 refine cv ?_
 exact sp h
 dsimp only at h
 refine cv ?_
 exact sp h
def H12 (Ω : Om) (E : Enc) (Sr : Inst → Inst → Option (Bool)) : Prop := ∀ {a0 : Inst} {a1 : Inst} {r : Bool}, Sr a0 a1 = some r → ∀ {args : List PV}, [bg E a0, bg E a1] = args → ∀ (st : St), Sat (Ω.cf 12 args st) (fun q => q = (PV.d (.bool r), st))
def H40 (Ω : Om) (E : Enc) (p40 : (Sl Inst) → (Sl Inst) → Option (Bool)) : Prop := ∀ {a0 : Sl Inst} {a1 : Sl Inst} {r : Bool}, p40 a0 a1 = some r → ∀ {args : List PV}, [PV.d (.sl (E.au a0.l) (E.aD a0.x)), PV.d (.sl (E.au a1.l) (E.aD a1.x))] = args → ∀ (st : St), Sat (Ω.cf 40 args st) (fun q => q = (PV.d (.bool r), st))
theorem afG {Sr : Inst → Inst → Option (Bool)} (afH : H12 Ω E Sr) {p40 : (Sl Inst) → (Sl Inst) → Option (Bool)} (acZ : H40 Ω E p40) {a0 : Inst} {a1 : Inst} {r : Bool} (h : Vz fu Sr p40 a0 a1 = some r) {args : List PV} (ha : [bg E a0, bg E a1] = args) (st : St) :
 Sat (Ω.cf 12 args st) (fun q => q = (PV.d (.bool r), st)) := by
 subst ha
 rcases a0 with ⟨b, ⟨c, e, g, ⟨i, j, l, ⟨m, n⟩, ⟨o, p⟩, s, t, u⟩⟩, ⟨v, w⟩, ⟨y, z⟩, ⟨a2, a3⟩, a4, a5, a6, ⟨a7, a8, a9, ⟨b0, b1⟩, ⟨b2, b3⟩, b4, b5, b6⟩, b7, b8, ⟨b9, c0⟩, c1, c2⟩
 rcases a1 with ⟨c3, ⟨c4, c5, c6, ⟨c7, c8, c9, ⟨d0, d1⟩, ⟨d2, d3⟩, d4, d5, d6⟩⟩, ⟨d7, d8⟩, ⟨d9, e0⟩, ⟨e3, e4⟩, e5, e6, e7, ⟨e8, e9, f0, ⟨f1, f2⟩, ⟨f3, f4⟩, f5, f6, f7⟩, f8, f9, ⟨g0, g1⟩, g2, g3⟩
 rw [kJ hΩ (f := 12) (fn := Try.f12) (x := ad6) rfl rfl X6 rfl rfl rfl]
 unfold Vz at h
 try dsimp only at h
 refine cv ?_
 replace h := aQ h
 obtain ⟨i26, a, h⟩ := h
 refine aH hΩ ((fun (q : Bool) => (match q with | i26 => ([(2, PV.aS (jW E b c e g i j l m n o p s t u v w y z a2 a3 a4 a5 a6 a7 a8 a9 b0 b1 b2 b3 b4 b5 b6 b7 b8 b9 c0 c1 c2)), (3, PV.aS (jW E c3 c4 c5 c6 c7 c8 c9 d0 d1 d2 d3 d4 d5 d6 d7 d8 d9 e0 e3 e4 e5 e6 e7 e8 e9 f0 f1 f2 f3 f4 f5 f6 f7 f8 f9 g0 g1 g2 g3)), (4, vb i26)], nO :: st))) i26) (fun k hk => ?_) ?_
 clear h
 have h := a
 clear a
 refine cv ?_
 revert h; refine bQ (fun g4 h => cv ?_) fun g4 h => cv ?_
 replace h := aQ h
 obtain ⟨r2, g5, h⟩ := h
 refine av (afD hΩ hE g5) (cv ?_)
 refine ah hΩ (cv ?_)
 revert h; refine bQ (fun g6 h => cv ?_) fun g6 h => cv ?_
 replace h := aQ h
 obtain ⟨r5, g7, h⟩ := h
 refine av (ahq hΩ hE g7) (cv ?_)
 revert h; refine bQ (fun g8 h => cv ?_) fun g8 h => cv ?_
 refine ah hΩ (cv ?_)
 replace h := aQ h
 obtain ⟨r8, g9, h⟩ := h
 refine av (ahr hΩ hE g9) (cv ?_)
 revert h; refine bQ (fun h0 h => cv ?_) fun h0 h => cv ?_
 replace h := aQ h
 obtain ⟨MQ, h3, h⟩ := h
 refine av (acZ h3) (cv ?_)
 revert h; refine bQ (fun h4 h => cv ?_) fun h4 h => cv ?_
 refine ah hΩ (cv ?_)
 revert h; refine bQ (fun h5 h => cv ?_) fun h5 h => cv ?_
 refine ah hΩ (cv ?_)
 revert h; refine bQ (fun h6 h => cv ?_) fun h6 h => cv ?_
 revert h; refine bQ (fun h7 h => cv ?_) fun h7 h => cv ?_
 replace h := aQ h
 obtain ⟨r17, h8, h⟩ := h
 refine av (ZR hΩ hE h8) (cv ?_)
 refine ah hΩ (cv ?_)
 revert h; refine bQ (fun h9 h => cv ?_) fun h9 h => cv ?_
 revert h; refine bQ (fun i0 h => cv ?_) fun i0 h => cv ?_
 refine ah hΩ (cv ?_)
 revert h; refine bQ (fun i1 h => cv ?_) fun i1 h => cv ?_
 replace h := aQ h
 obtain ⟨r22, i2, h⟩ := h
 refine av (acZ i2) (cv ?_)
 revert h; refine bQ (fun i3 h => cv ?_) fun i3 h => cv ?_
 refine ah hΩ (cv ?_)
 revert h; refine bQ (fun i4 h => cv ?_) fun i4 h => cv ?_
 refine ah hΩ (cv ?_)
 exact fk h hk
 refine ah hΩ (cv ?_)
 exact fk h hk
 refine ah hΩ (cv ?_)
 refine ah hΩ (cv ?_)
 exact fk h hk
 refine ah hΩ (cv ?_)
 refine ah hΩ (cv ?_)
 exact fk h hk
 refine ah hΩ (cv ?_)
 refine ah hΩ (cv ?_)
 refine ah hΩ (cv ?_)
 exact fk h hk
 refine ah hΩ (cv ?_)
 refine ah hΩ (cv ?_)
 refine ah hΩ (cv ?_)
 exact fk h hk
 refine ah hΩ (cv ?_)
 refine ah hΩ (cv ?_)
 refine ah hΩ (cv ?_)
 refine ah hΩ (cv ?_)
 exact fk h hk
 refine ah hΩ (cv ?_)
 refine ah hΩ (cv ?_)
 refine ah hΩ (cv ?_)
 refine ah hΩ (cv ?_)
 exact fk h hk
 refine ah hΩ (cv ?_)
 refine ah hΩ (cv ?_)
 refine ah hΩ (cv ?_)
 refine ah hΩ (cv ?_)
 refine ah hΩ (cv ?_)
 exact fk h hk
 refine ah hΩ (cv ?_)
 refine ah hΩ (cv ?_)
 refine ah hΩ (cv ?_)
 refine ah hΩ (cv ?_)
 refine ah hΩ (cv ?_)
 refine ah hΩ (cv ?_)
 exact fk h hk
 refine ah hΩ (cv ?_)
 refine ah hΩ (cv ?_)
 refine ah hΩ (cv ?_)
 refine ah hΩ (cv ?_)
 refine ah hΩ (cv ?_)
 refine ah hΩ (cv ?_)
 exact fk h hk
 refine ah hΩ (cv ?_)
 refine ah hΩ (cv ?_)
 refine ah hΩ (cv ?_)
 refine ah hΩ (cv ?_)
 refine ah hΩ (cv ?_)
 refine ah hΩ (cv ?_)
 refine ah hΩ (cv ?_)
 exact fk h hk
 refine ah hΩ (cv ?_)
 refine ah hΩ (cv ?_)
 refine ah hΩ (cv ?_)
 refine ah hΩ (cv ?_)
 refine ah hΩ (cv ?_)
 refine ah hΩ (cv ?_)
 refine ah hΩ (cv ?_)
 exact fk h hk
 refine ah hΩ (cv ?_)
 refine ah hΩ (cv ?_)
 refine ah hΩ (cv ?_)
 refine ah hΩ (cv ?_)
 refine ah hΩ (cv ?_)
 refine ah hΩ (cv ?_)
 refine ah hΩ (cv ?_)
 refine ah hΩ (cv ?_)
 exact fk h hk
 clear a
 try dsimp only at h
 refine cv ?_
 exact sp h
theorem afI {Sr : Inst → Inst → Option (Bool)} (afH : H12 Ω E Sr) {p40 : (Sl Inst) → (Sl Inst) → Option (Bool)} (acZ : H40 Ω E p40) {a0 : Sl Inst} {a1 : Sl Inst} {r : Bool} (h : VA fu Sr p40 a0 a1 = some r) {args : List PV} (ha : [PV.d (.sl (E.au a0.l) (E.aD a0.x)), PV.d (.sl (E.au a1.l) (E.aD a1.x))] = args) (st : St) :
 Sat (Ω.cf 40 args st) (fun q => q = (PV.d (.bool r), st)) := by
 subst ha
 rcases a0 with ⟨b, e⟩
 rcases a1 with ⟨c, g⟩
 rw [aC hΩ (f := 40) (fn := Try.f40) rfl rfl rfl rfl rfl rfl]
 unfold VA at h
 try dsimp only at h
 refine cv ?_
 refine aP hΩ (ak hE) b fun n1 s => cv ?_
 refine aP hΩ (ak hE) c fun n3 t => cv ?_
 refine aN hΩ (cv ?_)
 revert h; refine bQ (fun j h => cv ?_) fun j h => cv ?_
 exact sp h
 replace h := aQ h
 obtain ⟨q, i, h⟩ := h
 refine bK hΩ (fun (a : Int) => (match a with | i6 => ([(0, PV.d (.sl (E.au b) (E.aD e))), (1, PV.d (.sl (E.au c) (E.aD g))), (4, vb false), (5, vi i6)], nO :: st))) (fun (q : Int ⊕ Int) => (match q with | .inl fq => (.exit 0, [(0, PV.d (.sl (E.au b) (E.aD e))), (1, PV.d (.sl (E.au c) (E.aD g))), (4, vb false), (5, vi fq)], nO :: st) | .inr kg => (.ret, [(0, PV.d (.sl (E.au b) (E.aD e))), (1, PV.d (.sl (E.au c) (E.aD g))), (4, vb false), (5, vi kg)], nO :: st))) 0 i ?_ ?_
 clear h i
 rintro i6 q h
 unfold JC at h
 dsimp only at h
 refine cv ?_
 refine aP hΩ (ak hE) b fun n7 u => cv ?_
 refine aN hΩ (cv ?_)
 revert h; refine bQ (fun k h => cv ?_) fun k h => cv ?_
 refine sat_true (bA hΩ (ak hE) b) (cv ?_)
 replace h := aQ h
 obtain ⟨⟨v, ⟨w, y, z, ⟨a2, a3, a4, ⟨a5, a6⟩, ⟨a7, a8⟩, a9, b0, b1⟩⟩, ⟨b2, b3⟩, ⟨b4, b5⟩, ⟨b6, b7⟩, b8, b9, c0, ⟨c1, c2, c3, ⟨c4, c5⟩, ⟨c6, c7⟩, c8, c9, d0⟩, d1, d2, ⟨d3, d4⟩, d5, d6⟩, m, h⟩ := h
 try dsimp only at h
 refine ay (aW hΩ (ak hE) m) (cv ?_)
 refine sat_true (bA hΩ (ak hE) c) (cv ?_)
 replace h := aQ h
 obtain ⟨⟨d7, ⟨d8, d9, e0, ⟨e3, e4, e5, ⟨e6, e7⟩, ⟨e8, e9⟩, f0, f1, f2⟩⟩, ⟨f3, f4⟩, ⟨f5, f6⟩, ⟨f7, f8⟩, f9, g0, g1, ⟨g2, g3, g4, ⟨g5, g6⟩, ⟨g7, g8⟩, g9, h0, h3⟩, h4, h5, ⟨h6, h7⟩, h8, h9⟩, n, h⟩ := h
 try dsimp only at h
 refine ay (aW hΩ (ak hE) n) (cv ?_)
 replace h := aQ h
 obtain ⟨AQ, o, h⟩ := h
 refine av (afH o) (cv ?_)
 refine aN hΩ (cv ?_)
 revert h; refine bQ (fun p h => cv ?_) fun p h => cv ?_
 obtain rfl := fZ h
 subst_vars
 exact sR
 obtain rfl := fZ h
 subst_vars
 exact s3
 obtain rfl := fZ h
 subst_vars
 exact sL
 clear i
 rcases q with fq | kg
 dsimp only at h
 refine cv ?_
 exact sp h
 dsimp only at h
 refine cv ?_
 exact sp h
theorem afJ : ∀ fu,
 (∀ {a0 : Inst} {a1 : Inst} {r : Bool}, OB fu a0 a1 = some r → ∀ {args : List PV}, [bg E a0, bg E a1] = args → ∀ (st : St), Sat (Ω.cf 12 args st) (fun q => q = (PV.d (.bool r), st))) ∧
 (∀ {a0 : Sl Inst} {a1 : Sl Inst} {r : Bool}, P40 fu a0 a1 = some r → ∀ {args : List PV}, [PV.d (.sl (E.au a0.l) (E.aD a0.x)), PV.d (.sl (E.au a1.l) (E.aD a1.x))] = args → ∀ (st : St), Sat (Ω.cf 40 args st) (fun q => q = (PV.d (.bool r), st))) := by
 intro fu
 induction fu with
 | zero => exact ⟨(fun h => (by cases h)), (fun h => (by cases h))⟩
 | succ fu ih =>
  obtain ⟨i12, i40⟩ := ih
  exact ⟨(fun h => @fun args ha st => afG (fu := fu) hΩ hE i12 i40 h ha st), (fun h => @fun args ha st => afI (fu := fu) hΩ hE i12 i40 h ha st)⟩
theorem Z4 : ∀ {a0 : Inst} {a1 : Inst} {r : Bool}, OB fu a0 a1 = some r → ∀ {args : List PV}, [bg E a0, bg E a1] = args → ∀ (st : St), Sat (Ω.cf 12 args st) (fun q => q = (PV.d (.bool r), st)) := (afJ hΩ hE fu).1
theorem Z5 {a1 : Inst} {b0 c0 : Option X.Ex} {b2 c2 : List Inst} {Xp : Int} {S : ((Option X.Ex) × Int × (List Inst)) → St} {lz0 bO dw fB : Nat} (e0 : b0 = c0) (e2 : b2 = c2) (ahs : ln b2 = Xp) (hg0 : ∀ s, X.look (S s) lz0 bO = some (X.Obj.loop 150 [(2, PV.ptr 0 dw 0)] s.1)) (hu0 : ∀ s x, X.bJ (S s) lz0 bO (X.Obj.loop 150 [(2, PV.ptr 0 dw 0)] x) = S (x, s.2.1, s.2.2)) (hg1 : ∀ s, X.look (S s) lz0 dw = some (X.Obj.box 32 [PV.row 0 fB s.2.1])) (hu1 : ∀ s x, X.bJ (S s) lz0 dw (X.Obj.box 32 [PV.row 0 fB x]) = S (s.1, x, s.2.2)) (hg2 : ∀ s, X.look (S s) lz0 fB = some (X.Obj.row 34 31 (E.au s.2.2) true none)) (hu2 : ∀ s x, X.bJ (S s) lz0 fB (X.Obj.row 34 31 (E.au x) true none) = S (s.1, s.2.1, x)) {r : Bool × (Option X.Ex) × (List Inst)} (h : Es fu a1 b0 b2 = some r) {args : List PV} (ha : [PV.jv lz0 bO, bg E a1] = args) {st : St} (hst : S (c0, Xp, c2) = st) {rm2 : Int} (aht : ln r.2.2 = rm2) :
 Sat (Ω.rd 150 args st) (fun q => q = (PV.d (.bool r.1), S (r.2.1, rm2, r.2.2))) := by
 subst ha
 subst hst
 subst e0
 subst e2
 rcases a1 with ⟨d1, ⟨d2, d3, d4, ⟨d5, d6, d7, ⟨d8, d9⟩, ⟨e3, e4⟩, e5, e6, e7⟩⟩, ⟨e8, e9⟩, ⟨f0, f1⟩, ⟨f2, f3⟩, f4, f5, f6, ⟨f7, f8, f9, ⟨g0, g1⟩, ⟨g2, g3⟩, g4, g5, g6⟩, g7, g8, ⟨g9, h0⟩, h3, h4⟩
 rw [Dp hΩ (g := 150) rfl rfl Uh]
 unfold Es at h
 try dsimp only at h
 rcases b0 with _ | _
 try dsimp only at h
 refine zN hΩ (hg0 _) (by exact (show nY (lz0+1) [(2, PV.ptr 0 dw 0)] = [(2, PV.ptr (lz0+1) dw 0)] by simp only [nY, down, down.fA, Nat.zero_add])) (cv ?_)
 refine gU hΩ (hg0 _) (cv ?_)
 refine eu hΩ (hu0 _ _) (cv ?_)
 replace h := aQ h
 obtain ⟨g12, c, h⟩ := h
 refine aH hΩ ((fun (q : (List Inst)) => (match q with | g12 => ([(2, PV.ptr (lz0+1) dw 0), (3, PV.ptr 0 0 0), (9, PV.agg (Fb E d1 d2 d3 d4 d5 d6 d7 d8 d9 e3 e4 e5 e6 e7 e8 e9 f0 f1 f2 f3 f4 f5 f6 f7 f8 f9 g0 g1 g2 g3 g4 g5 g6 g7 g8 g9 h0 h3 h4))], ([X.Obj.box 34 (Fb E d1 d2 d3 d4 d5 d6 d7 d8 d9 e3 e4 e5 e6 e7 e8 e9 f0 f1 f2 f3 f4 f5 f6 f7 f8 f9 g0 g1 g2 g3 g4 g5 g6 g7 g8 g9 h0 h3 h4)] : List X.Obj) :: S ((some .normal), (ln g12), g12)))) g12) (fun k hk => ?_) ?_
 clear h
 have h := c
 clear c
 refine cv ?_
 refine pY hΩ (hg1 _) (by exact (show down.fA (lz0+1) [PV.row 0 fB Xp] = [PV.row (lz0+1) fB Xp] by simp only [down.fA, down, Nat.zero_add])) (cv ?_)
 replace h := aQ h
 obtain ⟨⟨e, ⟨f, i, j, ⟨m, o, p, ⟨t, u⟩, ⟨v, w⟩, y, z, a0⟩⟩, ⟨a2, a3⟩, ⟨a4, a5⟩, ⟨a6, a7⟩, a8, a9, b1, ⟨b3, b4, b5, ⟨b6, b7⟩, ⟨b8, b9⟩, c1, c3, c4⟩, c5, c6, ⟨c7, c8⟩, c9, d0⟩, h6, h⟩ := h
 try dsimp only at h
 refine av (afv hΩ hE h6) (cv ?_)
 refine sat_true (dL hΩ _) (cv ?_)
 refine sat_true (dL hΩ _) (cv ?_)
 refine sat_true (gX hΩ _) (cv ?_)
 refine sat_true (bA hΩ (ak hE) [(Inst.mk 0 (Child.mk ByteArray.empty 0 ByteArray.empty (Value.mk 0 0 ByteArray.empty (Sl.mk [] (some [])) (Sl.mk [] (some [])) 0 ByteArray.empty false)) (Sl.mk [] (some [])) (Sl.mk [] (some [])) (Sl.mk [] (some [])) 0 false false (Value.mk 0 0 ByteArray.empty (Sl.mk [] (some [])) (Sl.mk [] (some [])) 0 ByteArray.empty false) ByteArray.empty false (Sl.mk [] (some [])) false false)]) (cv ?_)
 refine gD hΩ (hg2 _) (cv ?_)
 refine sat_true (bB hΩ (ak hE) b2) (cv ?_)
 refine dP (aU hΩ (ak hE) (l := [(Inst.mk 0 (Child.mk ByteArray.empty 0 ByteArray.empty (Value.mk 0 0 ByteArray.empty (Sl.mk [] (some [])) (Sl.mk [] (some [])) 0 ByteArray.empty false)) (Sl.mk [] (some [])) (Sl.mk [] (some [])) (Sl.mk [] (some [])) 0 false false (Value.mk 0 0 ByteArray.empty (Sl.mk [] (some [])) (Sl.mk [] (some [])) 0 ByteArray.empty false) ByteArray.empty false (Sl.mk [] (some [])) false false)]) (b := false) (by rfl)) (cv ?_)
 refine fK hΩ (ak hE) b2 [(Inst.mk 0 (Child.mk ByteArray.empty 0 ByteArray.empty (Value.mk 0 0 ByteArray.empty (Sl.mk [] (some [])) (Sl.mk [] (some [])) 0 ByteArray.empty false)) (Sl.mk [] (some [])) (Sl.mk [] (some [])) (Sl.mk [] (some [])) 0 false false (Value.mk 0 0 ByteArray.empty (Sl.mk [] (some [])) (Sl.mk [] (some [])) 0 ByteArray.empty false) ByteArray.empty false (Sl.mk [] (some [])) false false)] fun l3 l9 n5 m0 => cv ?_
 replace h := dZ h
 obtain ⟨h7, h⟩ := h
 refine fJ h7 (cv ?_)
 refine eu hΩ (hu2 _ l3) (cv ?_)
 refine BG hΩ hk (fun G hk => ?_) (fun G hk => ?_)
 refine cv ?_
 refine gD hΩ (hg2 _) (cv ?_)
 refine sat_true (bB hΩ (ak hE) (b2 ++ [(Inst.mk 0 (Child.mk ByteArray.empty 0 ByteArray.empty (Value.mk 0 0 ByteArray.empty (Sl.mk [] (some [])) (Sl.mk [] (some [])) 0 ByteArray.empty false)) (Sl.mk [] (some [])) (Sl.mk [] (some [])) (Sl.mk [] (some [])) 0 false false (Value.mk 0 0 ByteArray.empty (Sl.mk [] (some [])) (Sl.mk [] (some [])) 0 ByteArray.empty false) ByteArray.empty false (Sl.mk [] (some [])) false false)])) (cv ?_)
 replace h := aQ h
 obtain ⟨⟨h8, ⟨h9, i0, i1, ⟨i2, i3, i4, ⟨i5, i6⟩, ⟨i7, i9⟩, j0, j1, j2⟩⟩, ⟨j3, j4⟩, ⟨j5, j6⟩, ⟨j7, j8⟩, j9, k0, k1, ⟨k2, k3, k4, ⟨k5, k6⟩, ⟨k7, k8⟩, k9, l0, l1⟩, l2, l4, ⟨l5, l6⟩, l7, l8⟩, a, h⟩ := h
 try dsimp only at h
 refine ay (aW hΩ (ak hE) a) (cv ?_)
 refine BG hΩ hk (fun G hk => ?_) (fun G hk => ?_)
 refine cv ?_
 refine gD hΩ (hg2 _) (cv ?_)
 refine sat_true (bB hΩ (ak hE) (b2 ++ [(Inst.mk 0 (Child.mk ByteArray.empty 0 ByteArray.empty (Value.mk 0 0 ByteArray.empty (Sl.mk [] (some [])) (Sl.mk [] (some [])) 0 ByteArray.empty false)) (Sl.mk [] (some [])) (Sl.mk [] (some [])) (Sl.mk [] (some [])) 0 false false (Value.mk 0 0 ByteArray.empty (Sl.mk [] (some [])) (Sl.mk [] (some [])) 0 ByteArray.empty false) ByteArray.empty false (Sl.mk [] (some [])) false false)])) (cv ?_)
 refine ay (aW hΩ (ak hE) a) (cv ?_)
 refine jP hΩ (ak hE) (b2 ++ [(Inst.mk 0 (Child.mk ByteArray.empty 0 ByteArray.empty (Value.mk 0 0 ByteArray.empty (Sl.mk [] (some [])) (Sl.mk [] (some [])) 0 ByteArray.empty false)) (Sl.mk [] (some [])) (Sl.mk [] (some [])) (Sl.mk [] (some [])) 0 false false (Value.mk 0 0 ByteArray.empty (Sl.mk [] (some [])) (Sl.mk [] (some [])) 0 ByteArray.empty false) ByteArray.empty false (Sl.mk [] (some [])) false false)]) (ln b2) (Inst.mk e (Child.mk f i j (Value.mk m o p (Sl.mk t u) (Sl.mk v w) y z a0)) (Sl.mk a2 a3) (Sl.mk a4 a5) (Sl.mk a6 a7) a8 a9 b1 (Value.mk b3 b4 b5 (Sl.mk b6 b7) (Sl.mk b8 b9) c1 c3 c4) c5 c6 (Sl.mk c7 c8) c9 d0) fun l10 h5 => cv ?_
 refine eu hΩ (hu2 _ l10) (cv ?_)
 refine lq hΩ (hg1 _) (hu1 _ n5) (show up.ups (lz0+1) [PV.row (lz0+1) fB n5] = [PV.row 0 fB n5] from qV (zM (by omega)) (rfl)) rfl rfl (cv ?_)
 exact fk h hk
 refine cv ?_
 refine lq hΩ (hg1 _) (hu1 _ n5) (show up.ups (lz0+1) [PV.row (lz0+1) fB n5] = [PV.row 0 fB n5] from qV (zM (by omega)) (rfl)) rfl rfl (cv ?_)
 refine gD hΩ (hg2 _) (cv ?_)
 refine sat_true (bB hΩ (ak hE) (b2 ++ [(Inst.mk 0 (Child.mk ByteArray.empty 0 ByteArray.empty (Value.mk 0 0 ByteArray.empty (Sl.mk [] (some [])) (Sl.mk [] (some [])) 0 ByteArray.empty false)) (Sl.mk [] (some [])) (Sl.mk [] (some [])) (Sl.mk [] (some [])) 0 false false (Value.mk 0 0 ByteArray.empty (Sl.mk [] (some [])) (Sl.mk [] (some [])) 0 ByteArray.empty false) ByteArray.empty false (Sl.mk [] (some [])) false false)])) (cv ?_)
 refine ay (aW hΩ (ak hE) a) (cv ?_)
 refine jP hΩ (ak hE) (b2 ++ [(Inst.mk 0 (Child.mk ByteArray.empty 0 ByteArray.empty (Value.mk 0 0 ByteArray.empty (Sl.mk [] (some [])) (Sl.mk [] (some [])) 0 ByteArray.empty false)) (Sl.mk [] (some [])) (Sl.mk [] (some [])) (Sl.mk [] (some [])) 0 false false (Value.mk 0 0 ByteArray.empty (Sl.mk [] (some [])) (Sl.mk [] (some [])) 0 ByteArray.empty false) ByteArray.empty false (Sl.mk [] (some [])) false false)]) (ln b2) (Inst.mk e (Child.mk f i j (Value.mk m o p (Sl.mk t u) (Sl.mk v w) y z a0)) (Sl.mk a2 a3) (Sl.mk a4 a5) (Sl.mk a6 a7) a8 a9 b1 (Value.mk b3 b4 b5 (Sl.mk b6 b7) (Sl.mk b8 b9) c1 c3 c4) c5 c6 (Sl.mk c7 c8) c9 d0) fun l10 h5 => cv ?_
 refine eu hΩ (hu2 _ l10) (cv ?_)
 exact fk h hk
 refine cv ?_
 refine lq hΩ (hg1 _) (hu1 _ n5) (show up.ups (lz0+1) [PV.row (lz0+1) fB n5] = [PV.row 0 fB n5] from qV (zM (by omega)) (rfl)) rfl rfl (cv ?_)
 refine gD hΩ (hg2 _) (cv ?_)
 refine sat_true (bB hΩ (ak hE) (b2 ++ [(Inst.mk 0 (Child.mk ByteArray.empty 0 ByteArray.empty (Value.mk 0 0 ByteArray.empty (Sl.mk [] (some [])) (Sl.mk [] (some [])) 0 ByteArray.empty false)) (Sl.mk [] (some [])) (Sl.mk [] (some [])) (Sl.mk [] (some [])) 0 false false (Value.mk 0 0 ByteArray.empty (Sl.mk [] (some [])) (Sl.mk [] (some [])) 0 ByteArray.empty false) ByteArray.empty false (Sl.mk [] (some [])) false false)])) (cv ?_)
 replace h := aQ h
 obtain ⟨⟨h8, ⟨h9, i0, i1, ⟨i2, i3, i4, ⟨i5, i6⟩, ⟨i7, i9⟩, j0, j1, j2⟩⟩, ⟨j3, j4⟩, ⟨j5, j6⟩, ⟨j7, j8⟩, j9, k0, k1, ⟨k2, k3, k4, ⟨k5, k6⟩, ⟨k7, k8⟩, k9, l0, l1⟩, l2, l4, ⟨l5, l6⟩, l7, l8⟩, a, h⟩ := h
 try dsimp only at h
 refine ay (aW hΩ (ak hE) a) (cv ?_)
 refine gD hΩ (hg2 _) (cv ?_)
 refine sat_true (bB hΩ (ak hE) (b2 ++ [(Inst.mk 0 (Child.mk ByteArray.empty 0 ByteArray.empty (Value.mk 0 0 ByteArray.empty (Sl.mk [] (some [])) (Sl.mk [] (some [])) 0 ByteArray.empty false)) (Sl.mk [] (some [])) (Sl.mk [] (some [])) (Sl.mk [] (some [])) 0 false false (Value.mk 0 0 ByteArray.empty (Sl.mk [] (some [])) (Sl.mk [] (some [])) 0 ByteArray.empty false) ByteArray.empty false (Sl.mk [] (some [])) false false)])) (cv ?_)
 refine ay (aW hΩ (ak hE) a) (cv ?_)
 refine jP hΩ (ak hE) (b2 ++ [(Inst.mk 0 (Child.mk ByteArray.empty 0 ByteArray.empty (Value.mk 0 0 ByteArray.empty (Sl.mk [] (some [])) (Sl.mk [] (some [])) 0 ByteArray.empty false)) (Sl.mk [] (some [])) (Sl.mk [] (some [])) (Sl.mk [] (some [])) 0 false false (Value.mk 0 0 ByteArray.empty (Sl.mk [] (some [])) (Sl.mk [] (some [])) 0 ByteArray.empty false) ByteArray.empty false (Sl.mk [] (some [])) false false)]) (ln b2) (Inst.mk e (Child.mk f i j (Value.mk m o p (Sl.mk t u) (Sl.mk v w) y z a0)) (Sl.mk a2 a3) (Sl.mk a4 a5) (Sl.mk a6 a7) a8 a9 b1 (Value.mk b3 b4 b5 (Sl.mk b6 b7) (Sl.mk b8 b9) c1 c3 c4) c5 c6 (Sl.mk c7 c8) c9 d0) fun l10 h5 => cv ?_
 refine eu hΩ (hu2 _ l10) (cv ?_)
 exact fk h hk
 clear c
 try dsimp only at h
 obtain ⟨acK, JG⟩ : ∃ n, ln g12 = n := ⟨_, rfl⟩
 simp only [JG]
 refine cv ?_
 refine gU hΩ (hg0 _) (cv ?_)
 refine eu hΩ (hu0 _ _) (cv ?_)
 exact sp h
 try dsimp only at h
 cases h
theorem ac0 {a1 : Inst} {b0 c0 : Option X.Ex} {b2 c2 : List Inst} {Xp : Int} {S : ((Option X.Ex) × Int × (List Inst)) → St} {lz0 bO dw fB : Nat} (e0 : b0 = c0) (e2 : b2 = c2) (ahs : ln b2 = Xp) (hg0 : ∀ s, X.look (S s) lz0 bO = some (X.Obj.loop 150 [(2, PV.ptr 0 dw 0)] s.1)) (hu0 : ∀ s x, X.bJ (S s) lz0 bO (X.Obj.loop 150 [(2, PV.ptr 0 dw 0)] x) = S (x, s.2.1, s.2.2)) (hg1 : ∀ s, X.look (S s) lz0 dw = some (X.Obj.box 32 [PV.row 0 fB s.2.1])) (hu1 : ∀ s x, X.bJ (S s) lz0 dw (X.Obj.box 32 [PV.row 0 fB x]) = S (s.1, x, s.2.2)) (hg2 : ∀ s, X.look (S s) lz0 fB = some (X.Obj.row 34 31 (E.au s.2.2) true none)) (hu2 : ∀ s x, X.bJ (S s) lz0 fB (X.Obj.row 34 31 (E.au x) true none) = S (s.1, s.2.1, x)) {r : (Option X.Ex) × (List Inst)} (h : Ms fu a1 b0 b2 = some r) {args : List PV} (ha : [PV.jv lz0 bO, PV.aS (eT E a1)] = args) {st : St} (hst : S (c0, Xp, c2) = st) {rm2 : Int} (aht : ln r.2 = rm2) :
 Sat (Ω.cf 70 args st) (fun q => q = (PV.pG [], S (r.1, rm2, r.2))) := by
 subst ha
 subst hst
 subst e0
 subst e2
 rcases a1 with ⟨o, ⟨p, t, u, ⟨v, w, y, ⟨z, a0⟩, ⟨a2, a3⟩, a4, a5, a6⟩⟩, ⟨a7, a8⟩, ⟨a9, b1⟩, ⟨g, i⟩, b3, b4, b5, ⟨b6, b7, b8, ⟨b9, c1⟩, ⟨c3, c4⟩, c5, c6, c7⟩, c8, c9, ⟨j, m⟩, d0, d1⟩
 rw [aC hΩ (f := 70) (fn := Try.f70) rfl rfl rfl rfl rfl rfl]
 unfold Ms at h
 try dsimp only at h
 refine cv ?_
 replace h := aQ h
 obtain ⟨l1, i2, h⟩ := h
 have hL3 : ([[.sl (E.au g) (E.aD i)]] : List (List D)) = E.aR l1 := by (have hy := Option.some.inj i2; clear h; subst hy; subst hE; rfl)
 rw [hL3]
 clear hL3
 refine cv ?_
 replace h := aQ h
 obtain ⟨r4, i3, h⟩ := h
 refine av (Zt hΩ hE i3) (cv ?_)
 replace h := aQ h
 obtain ⟨q, d3, h⟩ := h
 refine aH hΩ ((fun (q : (List (Sl Inst)) × (Option (List (Sl Inst)))) => (match q with | (b, c) => (.normal, [(0, PV.jv (lz0+1) bO), (1, PV.aS (jW E o p t u v w y z a0 a2 a3 a4 a5 a6 a7 a8 a9 b1 g i b3 b4 b5 b6 b7 b8 b9 c1 c3 c4 c5 c6 c7 c8 c9 j m d0 d1)), (3, PV.d (.sl (E.aR b) (E.aX c)))], nO :: S (b0, Xp, b2)))) q) (fun k hk => ?_) ?_
 clear h
 have h := d3
 clear d3
 refine cv ?_
 revert h; refine bQ (fun i4 h => cv ?_) fun i4 h => cv ?_
 refine aN hΩ (cv ?_)
 replace h := aQ h
 obtain ⟨l7, i5, h⟩ := h
 have hL9 : ([[.sl (E.au j) (E.aD m)]] : List (List D)) = E.aR l7 := by (have hy := Option.some.inj i5; clear h; subst hy; subst hE; rfl)
 rw [hL9]
 clear hL9
 refine cv ?_
 refine sat_true (gX hΩ _) (cv ?_)
 refine sat_true (bA hΩ (bI hE) l7) (cv ?_)
 replace h := yQ h
 rcases h with ⟨d4, h⟩ | ⟨d4, h⟩
 refine dV (aU hΩ (bI hE) (l := l7) d4) (cv ?_)
 exact fk h hk
 refine dP (aU hΩ (bI hE) (l := l7) d4) (cv ?_)
 refine sat_true (II hΩ (bI hE) l1 (some [])) (cv ?_)
 refine fK hΩ (bI hE) l1 l7 fun l11 j7 n13 j8 => cv ?_
 refine aP hΩ (bI hE) (l1 ++ l7) fun n15 j9 => cv ?_
 replace h := dZ h
 obtain ⟨i6, h⟩ := h
 refine fJ i6 (cv ?_)
 refine sat_true (bB hΩ (bI hE) (l1 ++ l7)) (cv ?_)
 exact fk h hk
 exact fk h hk
 clear d3
 rcases q with ⟨b, c⟩
 try dsimp only at h
 refine cv ?_
 refine aP hΩ (bI hE) b fun n19 k0 => cv ?_
 replace h := aQ h
 obtain ⟨q, d5, h⟩ := h
 refine bK hΩ (fun (a : (Option X.Ex) × (List Inst) × Int) => (match a with | (g21, g22, i23) => ([(0, PV.jv (lz0+1) bO), (1, PV.aS (jW E o p t u v w y z a0 a2 a3 a4 a5 a6 a7 a8 a9 b1 g i b3 b4 b5 b6 b7 b8 b9 c1 c3 c4 c5 c6 c7 c8 c9 j m d0 d1)), (3, PV.d (.sl (E.aR b) (E.aX c))), (18, PV.d (.sl (E.aR b) (E.aX c))), (19, vi n19), (20, vi i23)], nO :: S (g21, (ln g22), g22)))) (fun (q : ((Option X.Ex) × (List Inst) × Int) ⊕ ((Option X.Ex) × (List Inst) × Int)) => (match q with | .inl (Qm, Kk, Sn) => (.exit 0, [(0, PV.jv (lz0+1) bO), (1, PV.aS (jW E o p t u v w y z a0 a2 a3 a4 a5 a6 a7 a8 a9 b1 g i b3 b4 b5 b6 b7 b8 b9 c1 c3 c4 c5 c6 c7 c8 c9 j m d0 d1)), (3, PV.d (.sl (E.aR b) (E.aX c))), (18, PV.d (.sl (E.aR b) (E.aX c))), (19, vi n19), (20, vi Sn)], nO :: S (Qm, (ln Kk), Kk)) | .inr (RI, Kl, Sq) => (.ret, [(0, PV.jv (lz0+1) bO), (1, PV.aS (jW E o p t u v w y z a0 a2 a3 a4 a5 a6 a7 a8 a9 b1 g i b3 b4 b5 b6 b7 b8 b9 c1 c3 c4 c5 c6 c7 c8 c9 j m d0 d1)), (3, PV.d (.sl (E.aR b) (E.aX c))), (18, PV.d (.sl (E.aR b) (E.aX c))), (19, vi n19), (20, vi Sq)], nO :: S (RI, (ln Kl), Kl)))) (b0, b2, 0) d5 ?_ ?_
 clear h d5
 rintro ⟨g21, g22, i23⟩ q h
 unfold oZ at h
 dsimp only at h
 obtain ⟨acM, JK⟩ : ∃ n, ln g22 = n := ⟨_, rfl⟩
 simp only [JK]
 refine cv ?_
 refine aN hΩ (cv ?_)
 revert h; refine bQ (fun i7 h => cv ?_) fun i7 h => cv ?_
 refine sat_true (bA hΩ (bI hE) b) (cv ?_)
 replace h := aQ h
 obtain ⟨⟨e, d2⟩, i9, h⟩ := h
 try dsimp only at h
 refine ay (aW hΩ (bI hE) i9) (cv ?_)
 refine aP hΩ (ak hE) e fun n27 k1 => cv ?_
 replace h := aQ h
 obtain ⟨q, d6, h⟩ := h
 refine bK hΩ (fun (a : (Option X.Ex) × (List Inst) × Int) => (match a with | (En, Jr, i31) => ([(0, PV.jv (lz0+1) bO), (1, PV.aS (jW E o p t u v w y z a0 a2 a3 a4 a5 a6 a7 a8 a9 b1 g i b3 b4 b5 b6 b7 b8 b9 c1 c3 c4 c5 c6 c7 c8 c9 j m d0 d1)), (3, PV.d (.sl (E.aR b) (E.aX c))), (5, PV.d (.sl (E.au e) (E.aD d2))), (18, PV.d (.sl (E.aR b) (E.aX c))), (19, vi n19), (20, vi i23), (24, PV.d (.sl (E.au e) (E.aD d2))), (25, vi n27), (26, vi i31)], nO :: S (En, (ln Jr), Jr)))) (fun (q : ((Option X.Ex) × (List Inst) × Int) ⊕ ((Option X.Ex) × (List Inst) × Int)) => (match q with | .inl (Qk, Ml, Sm) => (.exit 2, [(0, PV.jv (lz0+1) bO), (1, PV.aS (jW E o p t u v w y z a0 a2 a3 a4 a5 a6 a7 a8 a9 b1 g i b3 b4 b5 b6 b7 b8 b9 c1 c3 c4 c5 c6 c7 c8 c9 j m d0 d1)), (3, PV.d (.sl (E.aR b) (E.aX c))), (5, PV.d (.sl (E.au e) (E.aD d2))), (18, PV.d (.sl (E.aR b) (E.aX c))), (19, vi n19), (20, vi i23), (24, PV.d (.sl (E.au e) (E.aD d2))), (25, vi n27), (26, vi Sm)], nO :: S (Qk, (ln Ml), Ml)) | .inr (Ql, Kj, Vx) => (.ret, [(0, PV.jv (lz0+1) bO), (1, PV.aS (jW E o p t u v w y z a0 a2 a3 a4 a5 a6 a7 a8 a9 b1 g i b3 b4 b5 b6 b7 b8 b9 c1 c3 c4 c5 c6 c7 c8 c9 j m d0 d1)), (3, PV.d (.sl (E.aR b) (E.aX c))), (5, PV.d (.sl (E.au e) (E.aD d2))), (18, PV.d (.sl (E.aR b) (E.aX c))), (19, vi n19), (20, vi i23), (24, PV.d (.sl (E.au e) (E.aD d2))), (25, vi n27), (26, vi Vx)], nO :: S (Ql, (ln Kj), Kj)))) (g21, g22, 0) d6 ?_ ?_
 clear h d6
 rintro ⟨En, Jr, i31⟩ q h
 unfold rG at h
 dsimp only at h
 obtain ⟨OI, JL⟩ : ∃ n, ln Jr = n := ⟨_, rfl⟩
 simp only [JL]
 refine cv ?_
 refine aN hΩ (cv ?_)
 revert h; refine bQ (fun j0 h => cv ?_) fun j0 h => cv ?_
 refine sat_true (bA hΩ (ak hE) e) (cv ?_)
 replace h := aQ h
 obtain ⟨⟨d8, ⟨d9, e3, e4, ⟨e5, e6, e7, ⟨e8, e9⟩, ⟨f0, f1⟩, f2, f3, f4⟩⟩, ⟨f5, f6⟩, ⟨f7, f8⟩, ⟨f9, g0⟩, g1, g2, g3, ⟨g4, g5, g6, ⟨g7, g8⟩, ⟨g9, h0⟩, h3, h4, h5⟩, h6, h7, ⟨h8, h9⟩, i0, i1⟩, j1, h⟩ := h
 try dsimp only at h
 refine ay (aW hΩ (ak hE) j1) (cv ?_)
 replace h := aQ h
 obtain ⟨q, d7, h⟩ := h
 refine aH hΩ ((fun (q : (Option X.Ex) × (List Inst) × Bool) => (match q with | (Vw, Oy, i44) => ([(0, PV.jv (lz0+1) bO), (1, PV.aS (jW E o p t u v w y z a0 a2 a3 a4 a5 a6 a7 a8 a9 b1 g i b3 b4 b5 b6 b7 b8 b9 c1 c3 c4 c5 c6 c7 c8 c9 j m d0 d1)), (3, PV.d (.sl (E.aR b) (E.aX c))), (5, PV.d (.sl (E.au e) (E.aD d2))), (7, PV.ptr 0 0 0), (18, PV.d (.sl (E.aR b) (E.aX c))), (19, vi n19), (20, vi i23), (24, PV.d (.sl (E.au e) (E.aD d2))), (25, vi n27), (26, vi i31), (38, vb i44)], ([X.Obj.box 34 (Fb E d8 d9 e3 e4 e5 e6 e7 e8 e9 f0 f1 f2 f3 f4 f5 f6 f7 f8 f9 g0 g1 g2 g3 g4 g5 g6 g7 g8 g9 h0 h3 h4 h5 h6 h7 h8 h9 i0 i1)] : List X.Obj) :: S (Vw, (ln Oy), Oy)))) q) (fun k hk => ?_) ?_
 clear h
 have h := d7
 clear d7
 refine cv ?_
 revert h; refine bQ (fun j2 h => cv ?_) fun j2 h => cv ?_
 rcases En with _ | _
 try dsimp only at h
 refine gU hΩ (hg0 _) (cv ?_)
 replace h := aQ h
 obtain ⟨⟨Qe, k2, j3⟩, j4, h⟩ := h
 try dsimp only at h
 obtain ⟨n40, j5⟩ : ∃ n, ln j3 = n := ⟨_, rfl⟩
 refine bC (Z5 hΩ hE (S := (fun (s : (Option X.Ex) × Int × (List Inst)) => ([X.Obj.box 34 (Fb E d8 d9 e3 e4 e5 e6 e7 e8 e9 f0 f1 f2 f3 f4 f5 f6 f7 f8 f9 g0 g1 g2 g3 g4 g5 g6 g7 g8 g9 h0 h3 h4 h5 h6 h7 h8 h9 i0 i1)] : List X.Obj) :: S (s.1, s.2.1, s.2.2))) (lz0 := (lz0+1)) (bO := bO) (dw := dw) (fB := fB) (c0 := none) (c2 := Jr) (Xp := OI) (by (try clear h); subst_vars; rfl) (by (try clear h); subst_vars; rfl) (by  first | rfl | ((try clear h); subst_vars; rfl) | ((try clear h); subst_vars; simp only [kQ]) | assumption | ((try clear h); subst_vars; assumption)) (fun s => hg0 (s.1, s.2.1, s.2.2)) (fun s x => congrArg (List.cons _) (hu0 (s.1, s.2.1, s.2.2) x)) (fun s => hg1 (s.1, s.2.1, s.2.2)) (fun s x => congrArg (List.cons _) (hu1 (s.1, s.2.1, s.2.2) x)) (fun s => hg2 (s.1, s.2.1, s.2.2)) (fun s x => congrArg (List.cons _) (hu2 (s.1, s.2.1, s.2.2) x)) j4 (by (try clear h); subst_vars; rfl) (by (try clear h); subst_vars; rfl) j5) (cv ?_)
 exact fk h hk
 try dsimp only at h
 cases h
 exact fk h hk
 clear d7
 rcases q with ⟨Vw, Oy, i44⟩
 try dsimp only at h
 obtain ⟨acN, JM⟩ : ∃ n, ln Oy = n := ⟨_, rfl⟩
 simp only [JM]
 refine cv ?_
 refine aN hΩ (cv ?_)
 revert h; refine bQ (fun j6 h => cv ?_) fun j6 h => cv ?_
 obtain rfl := fZ h
 subst_vars
 exact sR
 obtain rfl := fZ h
 subst_vars
 exact s3
 obtain rfl := fZ h
 subst_vars
 exact sL
 clear d6
 rcases q with ⟨Qk, Ml, Sm⟩ | ⟨Ql, Kj, Vx⟩
 dsimp only at h
 obtain ⟨acO, JN⟩ : ∃ n, ln Ml = n := ⟨_, rfl⟩
 simp only [JN]
 refine cv ?_
 obtain rfl := fZ h
 subst_vars
 exact s3
 dsimp only at h
 obtain ⟨acP, JO⟩ : ∃ n, ln Kj = n := ⟨_, rfl⟩
 simp only [JO]
 refine cv ?_
 obtain rfl := fZ h
 subst_vars
 exact sR
 obtain rfl := fZ h
 subst_vars
 exact sL
 clear d5
 rcases q with ⟨Qm, Kk, Sn⟩ | ⟨RI, Kl, Sq⟩
 dsimp only at h
 obtain ⟨acQ, JQ⟩ : ∃ n, ln Kk = n := ⟨_, rfl⟩
 simp only [JQ]
 refine cv ?_
 exact sp h
 dsimp only at h
 obtain ⟨acR, JR⟩ : ∃ n, ln Kl = n := ⟨_, rfl⟩
 simp only [JR]
 refine cv ?_
 exact sp h
theorem ahu {a0 : Inst} {r : (Sl Inst)} (h : P15 fu a0 = some r) {args : List PV} (ha : [bg E a0] = args) (st : St) :
 Sat (Ω.cf 15 args st) (fun q => q = (PV.d (.sl (E.au r.l) (E.aD r.x)), st)) := by
 subst ha
 rcases a0 with ⟨b, ⟨c, e, g, ⟨i, j, k, ⟨m, o⟩, ⟨p, t⟩, u, v, w⟩⟩, ⟨y, z⟩, ⟨a1, a2⟩, ⟨a3, a4⟩, a5, a6, a7, ⟨a8, a9, b0, ⟨b1, b2⟩, ⟨b3, b4⟩, b5, b6, b7⟩, b8, b9, ⟨c1, c3⟩, c4, c5⟩
 rw [aC hΩ (f := 15) (fn := Try.f15) rfl rfl rfl rfl rfl rfl]
 unfold P15 at h
 try dsimp only at h
 refine cv ?_
 refine dA hΩ (ak hE) fun l1 d0 => cv ?_
 refine aN hΩ (cv ?_)
 revert h; refine bQ (fun c6 h => cv ?_) fun c6 h => cv ?_
 exact sp h
 refine bC (acL hΩ hE (a0 := (Inst.mk b (Child.mk c e g (Value.mk i j k (Sl.mk m o) (Sl.mk p t) u v w)) (Sl.mk y z) (Sl.mk a1 a2) (Sl.mk a3 a4) a5 a6 a7 (Value.mk a8 a9 b0 (Sl.mk b1 b2) (Sl.mk b3 b4) b5 b6 b7) b8 b9 (Sl.mk c1 c3) c4 c5)) (by (try clear h); subst_vars; rfl) _) (cv ?_)
 replace h := aQ h
 obtain ⟨⟨c7, a⟩, c8, h⟩ := h
 try dsimp only at h
 obtain ⟨n7, c9⟩ : ∃ n, ln a = n := ⟨_, rfl⟩
 refine bC (ac0 hΩ hE (S := (fun (s : (Option X.Ex) × Int × (List Inst)) => ([X.Obj.row 34 31 (E.au s.2.2) true none, X.Obj.box 32 [PV.row 0 0 s.2.1], X.Obj.loop 150 [(2, PV.ptr 0 1 0)] s.1] : List X.Obj) :: st)) (lz0 := 0) (bO := 2) (dw := 1) (fB := 0) (c0 := none) (c2 := l1) (Xp := 0) (by (try clear h); subst_vars; rfl) (by (try clear h); subst_vars; rfl) (by  first | rfl | ((try clear h); subst_vars; rfl) | ((try clear h); subst_vars; simp only [kQ]) | assumption | ((try clear h); subst_vars; assumption)) (fun s => rfl) (fun s x => rfl) (fun s => rfl) (fun s x => rfl) (fun s => rfl) (fun s x => rfl) c8 (by (try clear h); subst_vars; rfl) (by (try clear h); subst_vars; rfl) c9) (cv ?_)
 rcases c7 with _ | (_ | id | _)
 try dsimp only at h
 refine cv ?_
 refine sat_true (bB hΩ (ak hE) a) (cv ?_)
 exact sp h
 try dsimp only at h
 cases h
 try dsimp only at h
 cases h
 try dsimp only at h
 cases h
theorem ok4 {a0 : Inst} {r : Bool} (h : P4 fu a0 = some r) {args : List PV} (ha : [bg E a0] = args) (st : St) :
 Sat (Ω.cf 4 args st) (fun q => q = (PV.d (.bool r), st)) := by
 subst ha
 rcases a0 with ⟨e, ⟨g, i, j, ⟨l, m, n, ⟨o, p⟩, ⟨s, t⟩, u, v, w⟩⟩, ⟨y, z⟩, ⟨a1, a2⟩, ⟨a3, a4⟩, a5, a6, a7, ⟨a8, a9, b0, ⟨b1, b2⟩, ⟨b3, b4⟩, b5, b6, b7⟩, b8, b9, ⟨c0, c1⟩, c2, c3⟩
 rw [kJ hΩ (f := 4) (fn := Try.f4) (x := cc4) rfl rfl abT rfl rfl rfl]
 unfold P4 at h
 try dsimp only at h
 refine cv ?_
 replace h := aQ h
 obtain ⟨i9, g9, h⟩ := h
 refine aH hΩ ((fun (q : Bool) => (match q with | i9 => ([(1, PV.aS (jW E e g i j l m n o p s t u v w y z a1 a2 a3 a4 a5 a6 a7 a8 a9 b0 b1 b2 b3 b4 b5 b6 b7 b8 b9 c0 c1 c2 c3)), (2, vb false), (23, vb i9)], nO :: st))) i9) (fun k hk => ?_) ?_
 clear h
 have h := g9
 clear g9
 refine cv ?_
 replace h := aQ h
 obtain ⟨r1, h9, h⟩ := h
 refine av (ok7 hΩ hE h9) (cv ?_)
 revert h; refine bQ (fun i0 h => cv ?_) fun i0 h => cv ?_
 replace h := aQ h
 obtain ⟨r4, i1, h⟩ := h
 refine av (ok8 hΩ hE i1) (cv ?_)
 revert h; refine bQ (fun i2 h => cv ?_) fun i2 h => cv ?_
 replace h := aQ h
 obtain ⟨r7, i3, h⟩ := h
 refine av (ok9 hΩ hE i3) (cv ?_)
 exact fk h hk
 exact fk h hk
 exact fk h hk
 clear g9
 try dsimp only at h
 refine cv ?_
 refine aN hΩ (cv ?_)
 revert h; refine bQ (fun i4 h => cv ?_) fun i4 h => cv ?_
 replace h := aQ h
 obtain ⟨MQ, i5, h⟩ := h
 refine av (ok7 hΩ hE i5) (cv ?_)
 exact sp h
 replace h := aQ h
 obtain ⟨⟨b, c4⟩, i6, h⟩ := h
 try dsimp only at h
 refine av (ahl hΩ hE i6) (cv ?_)
 refine aP hΩ (ak hE) b fun n15 l6 => cv ?_
 replace h := yQ h
 rcases h with ⟨h8, h⟩ | ⟨h8, h⟩
 cases h
 refine XY h8 (cv ?_)
 replace h := aQ h
 obtain ⟨q, h0, h⟩ := h
 refine bK hΩ (fun (a : Int) => (match a with | Kn => ([(1, PV.aS (jW E e g i j l m n o p s t u v w y z a1 a2 a3 a4 a5 a6 a7 a8 a9 b0 b1 b2 b3 b4 b5 b6 b7 b8 b9 c0 c1 c2 c3)), (2, vb false), (3, PV.d (.sl (E.au b) (E.aD c4))), (4, PV.d (.int .i64 (Ω.wrap .i64 (Ω.add 1 (Ω.wrap .i64 (Ω.tdiv n15 5)))))), (5, vi Kn)], nO :: st))) (fun (q : Int ⊕ Int) => (match q with | .inl o88 => (.exit 0, [(1, PV.aS (jW E e g i j l m n o p s t u v w y z a1 a2 a3 a4 a5 a6 a7 a8 a9 b0 b1 b2 b3 b4 b5 b6 b7 b8 b9 c0 c1 c2 c3)), (2, vb false), (3, PV.d (.sl (E.au b) (E.aD c4))), (4, PV.d (.int .i64 (Ω.wrap .i64 (Ω.add 1 (Ω.wrap .i64 (Ω.tdiv n15 5)))))), (5, vi o88)], nO :: st) | .inr o91 => (.ret, [(1, PV.aS (jW E e g i j l m n o p s t u v w y z a1 a2 a3 a4 a5 a6 a7 a8 a9 b0 b1 b2 b3 b4 b5 b6 b7 b8 b9 c0 c1 c2 c3)), (2, vb false), (3, PV.d (.sl (E.au b) (E.aD c4))), (4, PV.d (.int .i64 (Ω.wrap .i64 (Ω.add 1 (Ω.wrap .i64 (Ω.tdiv n15 5)))))), (5, vi o91)], nO :: st))) 0 h0 ?_ ?_
 clear h h0
 rintro Kn q h
 unfold Mv at h
 dsimp only at h
 refine cv ?_
 refine aP hΩ (ak hE) b fun n19 l7 => cv ?_
 refine aN hΩ (cv ?_)
 revert h; refine bQ (fun i7 h => cv ?_) fun i7 h => cv ?_
 refine sat_true (bA hΩ (ak hE) b) (cv ?_)
 replace h := aQ h
 obtain ⟨⟨l8, ⟨l9, m0, m1, ⟨m2, m3, m4, ⟨m5, m6⟩, ⟨m7, m8⟩, m9, n0, n1⟩⟩, ⟨n2, n3⟩, ⟨n4, n5⟩, ⟨n6, n7⟩, n8, n9, o0, ⟨o1, o2, o3, ⟨o4, o5⟩, ⟨o6, o7⟩, o8, o9, p0⟩, p1, p2, ⟨p3, p4⟩, p5, p6⟩, j0, h⟩ := h
 try dsimp only at h
 refine ay (aW hΩ (ak hE) j0) (cv ?_)
 replace h := aQ h
 obtain ⟨⟨⟨c5, ⟨c6, c7, c8, ⟨c9, d0, d1, ⟨d2, d3⟩, ⟨d4, d5⟩, d6, d7, d8⟩⟩, ⟨d9, e0⟩, ⟨e3, e4⟩, ⟨e5, e6⟩, e7, e8, e9, ⟨f0, f1, f2, ⟨f3, f5⟩, ⟨f6, f7⟩, f8, f9, g0⟩, g1, g2, ⟨g3, g4⟩, g5, g6⟩, Zi⟩, j1, h⟩ := h
 try dsimp only at h
 refine av (ahn hΩ hE j1) (cv ?_)
 refine sat_true (dL hΩ _) (cv ?_)
 refine ah hΩ (cv ?_)
 refine sat_true (bA hΩ (ak hE) b) (cv ?_)
 replace h := aQ h
 obtain ⟨⟨p7, ⟨p8, p9, q0, ⟨q1, q2, q3, ⟨q4, q5⟩, ⟨q6, q7⟩, q8, q9, r0⟩⟩, ⟨r2, r3⟩, ⟨r5, r6⟩, ⟨r8, r9⟩, s0, s1, s2, ⟨s4, s5, s6, ⟨s7, s8⟩, ⟨s9, t0⟩, t1, t2, t3⟩, t4, t5, ⟨t6, t7⟩, t8, t9⟩, j2, h⟩ := h
 try dsimp only at h
 refine ay (aW hΩ (ak hE) j2) (cv ?_)
 replace h := aQ h
 obtain ⟨⟨c, g7⟩, j3, h⟩ := h
 try dsimp only at h
 refine av (afx hΩ hE j3) (cv ?_)
 replace h := aQ h
 obtain ⟨i54, h3, h⟩ := h
 refine aH hΩ ((fun (q : Bool) => (match q with | i54 => ([(1, PV.aS (jW E e g i j l m n o p s t u v w y z a1 a2 a3 a4 a5 a6 a7 a8 a9 b0 b1 b2 b3 b4 b5 b6 b7 b8 b9 c0 c1 c2 c3)), (2, vb false), (3, PV.d (.sl (E.au b) (E.aD c4))), (4, PV.d (.int .i64 (Ω.wrap .i64 (Ω.add 1 (Ω.wrap .i64 (Ω.tdiv n15 5)))))), (5, vi Kn), (6, PV.ptr 0 0 0), (7, vb Zi), (8, PV.d (.sl (E.au c) (E.aD g7))), (94, vb i54)], ([X.Obj.box 34 (Fb E c5 c6 c7 c8 c9 d0 d1 d2 d3 d4 d5 d6 d7 d8 d9 e0 e3 e4 e5 e6 e7 e8 e9 f0 f1 f2 f3 f5 f6 f7 f8 f9 g0 g1 g2 g3 g4 g5 g6)] : List X.Obj) :: st))) i54) (fun k hk => ?_) ?_
 clear h
 have h := h3
 clear h3
 refine cv ?_
 revert h; refine bQ (fun j4 h => cv ?_) fun j4 h => cv ?_
 refine sat_true (bA hΩ (ak hE) b) (cv ?_)
 replace h := aQ h
 obtain ⟨⟨u0, ⟨u1, u2, u3, ⟨u4, u5, u6, ⟨u7, u9⟩, ⟨v0, v1⟩, v2, v3, v4⟩⟩, ⟨v5, v6⟩, ⟨v7, v8⟩, ⟨v9, w0⟩, w1, w2, w3, ⟨w4, w5, w6, ⟨w7, w8⟩, ⟨w9, x0⟩, x1, x2, x3⟩, x4, x5, ⟨x6, x7⟩, x8, x9⟩, j5, h⟩ := h
 try dsimp only at h
 refine ay (aW hΩ (ak hE) j5) (cv ?_)
 replace h := aQ h
 obtain ⟨r34, j6, h⟩ := h
 refine av (Z4 hΩ hE j6) (cv ?_)
 refine ah hΩ (cv ?_)
 revert h; refine bQ (fun j7 h => cv ?_) fun j7 h => cv ?_
 replace h := aQ h
 obtain ⟨Qe, j8, h⟩ := h
 refine av (ok9 hΩ hE j8) (cv ?_)
 revert h; refine bQ (fun j9 h => cv ?_) fun j9 h => cv ?_
 refine aP hΩ (ak hE) c fun n40 y0 => cv ?_
 revert h; refine bQ (fun k0 h => cv ?_) fun k0 h => cv ?_
 refine sat_true (bA hΩ (ak hE) c) (cv ?_)
 replace h := aQ h
 obtain ⟨⟨y1, ⟨y2, y3, y4, ⟨y5, y6, y7, ⟨y8, y9⟩, ⟨z0, z1⟩, z2, z3, z4⟩⟩, ⟨z5, z6⟩, ⟨z7, z8⟩, ⟨z9, A0⟩, A1, A2, A3, ⟨A4, A5, A6, ⟨A7, A8⟩, ⟨A9, B0⟩, B1, B2, B3⟩, B4, B5, ⟨B6, B7⟩, B8, B9⟩, k1, h⟩ := h
 try dsimp only at h
 refine ay (aW hΩ (ak hE) k1) (cv ?_)
 refine ah hΩ (cv ?_)
 replace h := aQ h
 obtain ⟨r45, k2, h⟩ := h
 refine av (Z4 hΩ hE k2) (cv ?_)
 revert h; refine bQ (fun k3 h => cv ?_) fun k3 h => cv ?_
 refine aP hΩ (ak hE) c fun n48 C0 => cv ?_
 refine sat_true (bA hΩ (ak hE) c) (cv ?_)
 replace h := aQ h
 obtain ⟨⟨C1, ⟨C2, C3, C4, ⟨C5, C6, C7, ⟨C8, C9⟩, ⟨F0, F1⟩, F2, F3, F4⟩⟩, ⟨F5, F6⟩, ⟨F7, F8⟩, ⟨F9, G0⟩, G1, G2, G3, ⟨G4, G5, G6, ⟨G7, G8⟩, ⟨G9, H0⟩, H1, H2, H3⟩, H4, H5, ⟨H6, H7⟩, H8, H9⟩, k4, h⟩ := h
 try dsimp only at h
 refine ay (aW hΩ (ak hE) k4) (cv ?_)
 refine ah hΩ (cv ?_)
 replace h := aQ h
 obtain ⟨r52, k5, h⟩ := h
 refine av (Z4 hΩ hE k5) (cv ?_)
 exact fk h hk
 refine ah hΩ (cv ?_)
 exact fk h hk
 refine ah hΩ (cv ?_)
 refine ah hΩ (cv ?_)
 exact fk h hk
 refine ah hΩ (cv ?_)
 refine ah hΩ (cv ?_)
 exact fk h hk
 refine ah hΩ (cv ?_)
 refine ah hΩ (cv ?_)
 exact fk h hk
 refine ah hΩ (cv ?_)
 refine ah hΩ (cv ?_)
 refine ah hΩ (cv ?_)
 exact fk h hk
 clear h3
 try dsimp only at h
 refine cv ?_
 refine aN hΩ (cv ?_)
 revert h; refine bQ (fun k6 h => cv ?_) fun k6 h => cv ?_
 obtain rfl := fZ h
 subst_vars
 exact sR
 replace h := aQ h
 obtain ⟨q, h4, h⟩ := h
 refine bK hΩ (fun (a : Int) => (match a with | i56 => ([(1, PV.aS (jW E e g i j l m n o p s t u v w y z a1 a2 a3 a4 a5 a6 a7 a8 a9 b0 b1 b2 b3 b4 b5 b6 b7 b8 b9 c0 c1 c2 c3)), (2, vb false), (3, PV.d (.sl (E.au b) (E.aD c4))), (4, PV.d (.int .i64 (Ω.wrap .i64 (Ω.add 1 (Ω.wrap .i64 (Ω.tdiv n15 5)))))), (5, vi Kn), (6, PV.ptr 0 0 0), (7, vb Zi), (8, PV.d (.sl (E.au c) (E.aD g7))), (9, vi i56)], ([X.Obj.box 34 (Fb E c5 c6 c7 c8 c9 d0 d1 d2 d3 d4 d5 d6 d7 d8 d9 e0 e3 e4 e5 e6 e7 e8 e9 f0 f1 f2 f3 f5 f6 f7 f8 f9 g0 g1 g2 g3 g4 g5 g6)] : List X.Obj) :: st))) (fun (q : Int ⊕ Int) => (match q with | .inl o84 => (.exit 2, [(1, PV.aS (jW E e g i j l m n o p s t u v w y z a1 a2 a3 a4 a5 a6 a7 a8 a9 b0 b1 b2 b3 b4 b5 b6 b7 b8 b9 c0 c1 c2 c3)), (2, vb false), (3, PV.d (.sl (E.au b) (E.aD c4))), (4, PV.d (.int .i64 (Ω.wrap .i64 (Ω.add 1 (Ω.wrap .i64 (Ω.tdiv n15 5)))))), (5, vi Kn), (6, PV.ptr 0 0 0), (7, vb Zi), (8, PV.d (.sl (E.au c) (E.aD g7))), (9, vi o84)], ([X.Obj.box 34 (Fb E c5 c6 c7 c8 c9 d0 d1 d2 d3 d4 d5 d6 d7 d8 d9 e0 e3 e4 e5 e6 e7 e8 e9 f0 f1 f2 f3 f5 f6 f7 f8 f9 g0 g1 g2 g3 g4 g5 g6)] : List X.Obj) :: st) | .inr o85 => (.ret, [(1, PV.aS (jW E e g i j l m n o p s t u v w y z a1 a2 a3 a4 a5 a6 a7 a8 a9 b0 b1 b2 b3 b4 b5 b6 b7 b8 b9 c0 c1 c2 c3)), (2, vb false), (3, PV.d (.sl (E.au b) (E.aD c4))), (4, PV.d (.int .i64 (Ω.wrap .i64 (Ω.add 1 (Ω.wrap .i64 (Ω.tdiv n15 5)))))), (5, vi Kn), (6, PV.ptr 0 0 0), (7, vb Zi), (8, PV.d (.sl (E.au c) (E.aD g7))), (9, vi o85)], ([X.Obj.box 34 (Fb E c5 c6 c7 c8 c9 d0 d1 d2 d3 d4 d5 d6 d7 d8 d9 e0 e3 e4 e5 e6 e7 e8 e9 f0 f1 f2 f3 f5 f6 f7 f8 f9 g0 g1 g2 g3 g4 g5 g6)] : List X.Obj) :: st))) 1 h4 ?_ ?_
 clear h h4
 rintro i56 q h
 unfold Eu at h
 dsimp only at h
 refine cv ?_
 refine aP hΩ (ak hE) c fun n57 I0 => cv ?_
 refine aN hΩ (cv ?_)
 revert h; refine bQ (fun k7 h => cv ?_) fun k7 h => cv ?_
 refine sat_true (bA hΩ (ak hE) c) (cv ?_)
 replace h := aQ h
 obtain ⟨⟨I1, ⟨I2, I3, I4, ⟨I5, I6, I7, ⟨I8, I9⟩, ⟨J0, J1⟩, J2, J3, J4⟩⟩, ⟨J5, J6⟩, ⟨J7, J8⟩, ⟨J9, K0⟩, K1, K2, K3, ⟨K4, K5, K6, ⟨K7, K8⟩, ⟨K9, L0⟩, L1, L2, L3⟩, L4, L5, ⟨L6, L7⟩, L8, L9⟩, k8, h⟩ := h
 try dsimp only at h
 refine ay (aW hΩ (ak hE) k8) (cv ?_)
 replace h := aQ h
 obtain ⟨⟨g8, h5⟩, k9, h⟩ := h
 try dsimp only at h
 refine av (ahu hΩ hE k9) (cv ?_)
 replace h := aQ h
 obtain ⟨q, h6, h⟩ := h
 refine bK hΩ (fun (a : Bool × Int) => (match a with | (i65, i66) => ([(1, PV.aS (jW E e g i j l m n o p s t u v w y z a1 a2 a3 a4 a5 a6 a7 a8 a9 b0 b1 b2 b3 b4 b5 b6 b7 b8 b9 c0 c1 c2 c3)), (2, vb false), (3, PV.d (.sl (E.au b) (E.aD c4))), (4, PV.d (.int .i64 (Ω.wrap .i64 (Ω.add 1 (Ω.wrap .i64 (Ω.tdiv n15 5)))))), (5, vi Kn), (6, PV.ptr 0 0 0), (7, vb Zi), (8, PV.d (.sl (E.au c) (E.aD g7))), (9, vi i56), (10, PV.d (.sl (E.au g8) (E.aD h5))), (11, vb i65), (12, vi i66)], ([X.Obj.box 34 (Fb E c5 c6 c7 c8 c9 d0 d1 d2 d3 d4 d5 d6 d7 d8 d9 e0 e3 e4 e5 e6 e7 e8 e9 f0 f1 f2 f3 f5 f6 f7 f8 f9 g0 g1 g2 g3 g4 g5 g6)] : List X.Obj) :: st))) (fun (q : (Bool × Int)) => (match q with | (o80, o81) => (.exit 4, [(1, PV.aS (jW E e g i j l m n o p s t u v w y z a1 a2 a3 a4 a5 a6 a7 a8 a9 b0 b1 b2 b3 b4 b5 b6 b7 b8 b9 c0 c1 c2 c3)), (2, vb false), (3, PV.d (.sl (E.au b) (E.aD c4))), (4, PV.d (.int .i64 (Ω.wrap .i64 (Ω.add 1 (Ω.wrap .i64 (Ω.tdiv n15 5)))))), (5, vi Kn), (6, PV.ptr 0 0 0), (7, vb Zi), (8, PV.d (.sl (E.au c) (E.aD g7))), (9, vi i56), (10, PV.d (.sl (E.au g8) (E.aD h5))), (11, vb o80), (12, vi o81)], ([X.Obj.box 34 (Fb E c5 c6 c7 c8 c9 d0 d1 d2 d3 d4 d5 d6 d7 d8 d9 e0 e3 e4 e5 e6 e7 e8 e9 f0 f1 f2 f3 f5 f6 f7 f8 f9 g0 g1 g2 g3 g4 g5 g6)] : List X.Obj) :: st))) (false, 0) h6 ?_ ?_
 clear h h6
 rintro ⟨i65, i66⟩ q h
 unfold Et at h
 dsimp only at h
 refine cv ?_
 refine aP hΩ (ak hE) g8 fun n67 M0 => cv ?_
 refine aN hΩ (cv ?_)
 revert h; refine bQ (fun l0 h => cv ?_) fun l0 h => cv ?_
 replace h := aQ h
 obtain ⟨i77, h7, h⟩ := h
 refine aH hΩ ((fun (q : Bool) => (match q with | i77 => ([(1, PV.aS (jW E e g i j l m n o p s t u v w y z a1 a2 a3 a4 a5 a6 a7 a8 a9 b0 b1 b2 b3 b4 b5 b6 b7 b8 b9 c0 c1 c2 c3)), (2, vb false), (3, PV.d (.sl (E.au b) (E.aD c4))), (4, PV.d (.int .i64 (Ω.wrap .i64 (Ω.add 1 (Ω.wrap .i64 (Ω.tdiv n15 5)))))), (5, vi Kn), (6, PV.ptr 0 0 0), (7, vb Zi), (8, PV.d (.sl (E.au c) (E.aD g7))), (9, vi i56), (10, PV.d (.sl (E.au g8) (E.aD h5))), (11, vb i77), (12, vi i66)], ([X.Obj.box 34 (Fb E c5 c6 c7 c8 c9 d0 d1 d2 d3 d4 d5 d6 d7 d8 d9 e0 e3 e4 e5 e6 e7 e8 e9 f0 f1 f2 f3 f5 f6 f7 f8 f9 g0 g1 g2 g3 g4 g5 g6)] : List X.Obj) :: st))) i77) (fun k hk => ?_) ?_
 clear h
 have h := h7
 clear h7
 refine cv ?_
 revert h; refine bQ (fun l1 h => cv ?_) fun l1 h => cv ?_
 refine sat_true (bA hΩ (ak hE) g8) (cv ?_)
 replace h := aQ h
 obtain ⟨⟨M1, ⟨M2, M3, M4, ⟨M5, M6, M7, ⟨M8, M9⟩, ⟨N0, N1⟩, N2, N3, N4⟩⟩, ⟨N5, N6⟩, ⟨N7, N8⟩, ⟨N9, Q0⟩, Q1, Q2, Q3, ⟨Q4, Q5, Q6, ⟨Q7, Q8⟩, ⟨Q9, R0⟩, R1, R2, R3⟩, R4, R5, ⟨R6, R7⟩, R8, R9⟩, l2, h⟩ := h
 try dsimp only at h
 refine ay (aW hΩ (ak hE) l2) (cv ?_)
 refine sat_true (bA hΩ (ak hE) c) (cv ?_)
 replace h := aQ h
 obtain ⟨⟨T0, ⟨T1, T2, T3, ⟨T4, T5, T6, ⟨T7, T8⟩, ⟨T9, U0⟩, U1, U2, U3⟩⟩, ⟨U4, U5⟩, ⟨U6, U7⟩, ⟨U8, U9⟩, V0, V1, V2, ⟨V3, V4, V5, ⟨V6, V7⟩, ⟨V8, V9⟩, W0, W1, W2⟩, W3, W4, ⟨W5, W6⟩, W7, W8⟩, l3, h⟩ := h
 try dsimp only at h
 refine ay (aW hΩ (ak hE) l3) (cv ?_)
 replace h := aQ h
 obtain ⟨r75, l4, h⟩ := h
 refine av (Z4 hΩ hE l4) (cv ?_)
 refine ah hΩ (cv ?_)
 exact fk h hk
 refine ah hΩ (cv ?_)
 exact fk h hk
 clear h7
 try dsimp only at h
 refine cv ?_
 obtain rfl := fZ h
 subst_vars
 exact s3
 obtain rfl := fZ h
 subst_vars
 exact sL
 clear h6
 rcases q with ⟨o80, o81⟩
 dsimp only at h
 refine cv ?_
 refine aN hΩ (cv ?_)
 revert h; refine bQ (fun l5 h => cv ?_) fun l5 h => cv ?_
 obtain rfl := fZ h
 subst_vars
 exact sR
 obtain rfl := fZ h
 subst_vars
 exact s3
 obtain rfl := fZ h
 subst_vars
 exact sL
 clear h4
 rcases q with o84 | o85
 dsimp only at h
 refine cv ?_
 obtain rfl := fZ h
 subst_vars
 exact s3
 dsimp only at h
 refine cv ?_
 obtain rfl := fZ h
 subst_vars
 exact sR
 obtain rfl := fZ h
 subst_vars
 exact sL
 clear h0
 rcases q with o88 | o91
 dsimp only at h
 refine cv ?_
 refine aP hΩ (ak hE) b fun n89 W9 => cv ?_
 exact sp h
 dsimp only at h
 refine cv ?_
 exact sp h
end Go.Proofs.Ytedfkehkcaaplaa
