/- The interpreter computes just these functions: printed by a small program. -/
import Derived.Test.YtedfkehkcaaplaaTWO0
namespace Go.Proofs.Ytedfkehkcaaplaa
open Go Go.X
set_option linter.unusedVariables false
set_option linter.unusedSimpArgs false
set_option linter.unusedSectionVars false
variable {Ω : Om} {E : Enc} (hΩ : real (call S) = Ω) (hE : iZ = E) {fu : Nat}
include hΩ hE
set_option maxRecDepth 100000
set_option maxHeartbeats 4000000 in
theorem anK {rY : Inst → Int → (List (Int × Bool)) → Option (Bool × (List (Int × Bool)))} (WY : aeU Ω E rY) {qg : Inst → Int → (List (Int × Bool)) → Option (Bool × (List (Int × Bool)))} (WZ : aeV Ω E qg) {qU : (Sl Inst) → Int → (List (Int × Bool)) → Option (Bool × (List (Int × Bool)))} (RI : aeW Ω E qU) {rZ : (Sl Inst) → Int → (List (Int × Bool)) → Option (Int × (List (Int × Bool)))} (W9 : aeX Ω E rZ) {a0 : Inst} {a1 : Int} {b1 c1 : List (Int × Bool)} {S : (List (Int × Bool)) → St} {lz0 dW fC gP : Nat} (e1 : b1 = c1) (hg0 : ∀ s, X.look (S s) lz0 dW = some (X.Obj.box 49 [PV.map 0 fC])) (hg1 : ∀ s, X.look (S s) lz0 fC = some (X.Obj.map (.int .i64) true (E.dz s))) (hu1 : ∀ s x, X.dU (S s) lz0 fC (X.Obj.map (.int .i64) true (E.dz x)) = S x) (hg2 : ∀ s, X.look (S s) lz0 gP = some (X.Obj.box 55 [PV.fn 25 [.ptr 0 dW 0, .ptr 0 gP 0]])) {r : Bool × (List (Int × Bool))} (h : AB fu rY qg qU rZ a0 a1 b1 = some r) {args : List PV} (ha : [cZ E a0, PV.d (.int .i64 a1), PV.ptr lz0 dW 0, PV.ptr lz0 gP 0] = args) {st : St} (hst : S c1 = st) :
 Sat (Ω.cf 25 args st) (fun q => q = (PV.d (.bool r.1), S r.2)) := by
 subst ha
 subst hst
 subst e1
 rcases a0 with ⟨bn, ⟨bK, aL, bL, ⟨aT, aU, aV, ⟨av, ay⟩, ⟨aA, aB⟩, aW, aX, aY⟩⟩, ⟨bU, cO⟩, ⟨aZ, bf⟩, ⟨aF, aJ⟩, dM, dI, dN, ⟨bX, bY, bZ, ⟨aP, aQ⟩, ⟨aR, aS⟩, cu, cB, cK⟩, dD, dY, ⟨bB, bH⟩, eB, eD⟩
 rw [aK hΩ (f := 25) (fn := Try.f25) (x := U3) rfl rfl aha rfl rfl rfl]
 unfold AB at h
 try dsimp only at h
 conv => arg 1; cbv
 replace h := bJ h
 obtain ⟨i9, RB, h⟩ := h
 refine aN hΩ ((fun (q : Bool) => (match q with | i9 => ([(2, PV.ptr (lz0+1) dW 0), (3, PV.ptr (lz0+1) gP 0), (4, PV.dA (uL E bn bK aL bL aT aU aV av ay aA aB aW aX aY bU cO aZ bf aF aJ dM dI dN bX bY bZ aP aQ aR aS cu cB cK dD dY bB bH eB eD)), (5, PV.dA [.int .i64 a1]), (6, vb false), (20, vb i9)], nO :: S b1))) i9) (fun k hk => ?_) ?_
 clear h
 have h := RB
 clear RB
 conv => arg 1; cbv
 revert h; refine eU (fun hb1 h => cv ?_) fun hb1 h => cv ?_
 refine qz hΩ (hg0 _) (by exact (show down.gZ (lz0+1) [PV.map 0 fC] = [PV.map (lz0+1) fC] by simp only [down.gZ, down, Nat.zero_add])) (cv ?_)
 refine OA hΩ (hg1 _) (cv ?_)
 rcases hq3 : Dx b1 bn with _ | x2
 rw [hq3] at h
 dsimp only at h
 refine R8 hΩ (sK hE) hq3 (cv ?_)
 replace h := bJ h
 obtain ⟨r4, hx5, h⟩ := h
 refine au (axQ hΩ hE hx5) (cv ?_)
 refine ah hΩ (cv ?_)
 exact fk h hk
 rw [hq3] at h
 dsimp only at h
 refine R9 hΩ (sK hE) hq3 (cv ?_)
 revert h; refine eU (fun hb6 h => cv ?_) fun hb6 h => cv ?_
 replace h := bJ h
 obtain ⟨r7, RG, h⟩ := h
 refine au (axQ hΩ hE RG) (cv ?_)
 refine ah hΩ (cv ?_)
 exact fk h hk
 refine ah hΩ (cv ?_)
 exact fk h hk
 refine ah hΩ (cv ?_)
 exact fk h hk
 clear RB
 try dsimp only at h
 conv => arg 1; cbv
 refine bO hΩ (cv ?_)
 revert h; refine eU (fun K9 h => cv ?_) fun K9 h => cv ?_
 exact sp h
 refine qz hΩ (hg0 _) (by exact (show down.gZ (lz0+1) [PV.map 0 fC] = [PV.map (lz0+1) fC] by simp only [down.gZ, down, Nat.zero_add])) (cv ?_)
 refine OA hΩ (hg1 _) (cv ?_)
 refine ac9 hΩ (sK hE) b1 bn true fun m11 aAx => cv ?_
 refine pF hΩ (hu1 _ _) (cv ?_)
 replace h := bJ h
 obtain ⟨q, acf, h⟩ := h
 refine aN hΩ ((fun (q : (List (Int × Bool)) × Bool) => (match q with | (g20, i21) => ([(2, PV.ptr (lz0+1) dW 0), (3, PV.ptr (lz0+1) gP 0), (4, PV.dA (uL E bn bK aL bL aT aU aV av ay aA aB aW aX aY bU cO aZ bf aF aJ dM dI dN bX bY bZ aP aQ aR aS cu cB cK dD dY bB bH eB eD)), (5, PV.dA [.int .i64 a1]), (6, vb i21), (7, PV.fn 27 [.ptr (lz0+1) gP 0, .dA [.int .i64 a1]])], nO :: S g20))) q) (fun k hk => ?_) ?_
 clear h
 have h := acf
 clear acf
 conv => arg 1; cbv
 replace h := bJ h
 obtain ⟨⟨zC, amK⟩, iH, h⟩ := h
 try dsimp only at h
 refine dJ (RI (S := (fun (s : (List (Int × Bool))) => nO :: S s)) (lz0 := (lz0+1)) (dW := gP) (fC := dW) (gP := fC) (c2 := m11) (by (try clear h); subst_vars; rfl) (fun s => hg2 s) (fun s => hg0 s) (fun s => hg1 s) (fun s x => congrArg (List.cons _) (hu1 s x)) iH (by (try clear h); subst_vars; rfl) (by (try clear h); subst_vars; rfl)) (cv ?_)
 revert h; refine eU (fun xS h => cv ?_) fun xS h => cv ?_
 replace h := bJ h
 obtain ⟨⟨YL, awn⟩, at7, h⟩ := h
 try dsimp only at h
 refine dJ (RI (S := (fun (s : (List (Int × Bool))) => nO :: S s)) (lz0 := (lz0+1)) (dW := gP) (fC := dW) (gP := fC) (c2 := amK) (by (try clear h); subst_vars; rfl) (fun s => hg2 s) (fun s => hg0 s) (fun s => hg1 s) (fun s x => congrArg (List.cons _) (hu1 s x)) at7 (by (try clear h); subst_vars; rfl) (by (try clear h); subst_vars; rfl)) (cv ?_)
 refine ah hΩ (cv ?_)
 exact fk h hk
 refine ah hΩ (cv ?_)
 exact fk h hk
 clear acf
 rcases q with ⟨g20, i21⟩
 try dsimp only at h
 conv => arg 1; cbv
 exact sp h
set_option maxHeartbeats 4000000 in
theorem anL {rY : Inst → Int → (List (Int × Bool)) → Option (Bool × (List (Int × Bool)))} (WY : aeU Ω E rY) {qg : Inst → Int → (List (Int × Bool)) → Option (Bool × (List (Int × Bool)))} (WZ : aeV Ω E qg) {qU : (Sl Inst) → Int → (List (Int × Bool)) → Option (Bool × (List (Int × Bool)))} (RI : aeW Ω E qU) {rZ : (Sl Inst) → Int → (List (Int × Bool)) → Option (Int × (List (Int × Bool)))} (W9 : aeX Ω E rZ) {a0 : Inst} {a2 : Int} {b2 c2 : List (Int × Bool)} {S : (List (Int × Bool)) → St} {lz0 dW fC gP : Nat} (e2 : b2 = c2) (hg0 : ∀ s, X.look (S s) lz0 dW = some (X.Obj.box 55 [PV.fn 25 [.ptr 0 fC 0, .ptr 0 dW 0]])) (hg1 : ∀ s, X.look (S s) lz0 fC = some (X.Obj.box 49 [PV.map 0 gP])) (hg2 : ∀ s, X.look (S s) lz0 gP = some (X.Obj.map (.int .i64) true (E.dz s))) (hu2 : ∀ s x, X.dU (S s) lz0 gP (X.Obj.map (.int .i64) true (E.dz x)) = S x) {r : Bool × (List (Int × Bool))} (h : Vl fu rY qg qU rZ a0 a2 b2 = some r) {args : List PV} (ha : [cZ E a0, PV.ptr lz0 dW 0, PV.dA [.int .i64 a2]] = args) {st : St} (hst : S c2 = st) :
 Sat (Ω.cf 27 args st) (fun q => q = (PV.d (.bool r.1), S r.2)) := by
 subst ha
 subst hst
 subst e2
 rcases a0 with ⟨bn, ⟨bK, aL, bL, ⟨aT, aU, aV, ⟨av, ay⟩, ⟨aA, aB⟩, aW, aX, aY⟩⟩, ⟨bU, cO⟩, ⟨aZ, bf⟩, ⟨aF, aJ⟩, dM, dI, dN, ⟨bX, bY, bZ, ⟨aP, aQ⟩, ⟨aR, aS⟩, cu, cB, cK⟩, dD, dY, ⟨bB, bH⟩, eB, eD⟩
 rw [aK hΩ (f := 27) (fn := Try.f27) (x := c27) rfl rfl ahc rfl rfl rfl]
 unfold Vl at h
 try dsimp only at h
 conv => arg 1; cbv
 refine qz hΩ (hg0 _) (by exact (show down.gZ (lz0+1) [PV.fn 25 [.ptr 0 fC 0, .ptr 0 dW 0]] = [PV.fn 25 [.ptr (lz0+1) fC 0, .ptr (lz0+1) dW 0]] by simp only [down.gZ, down, Nat.zero_add])) (cv ?_)
 replace h := bJ h
 obtain ⟨⟨r2, wr3⟩, hx1, h⟩ := h
 try dsimp only at h
 refine dJ (WY (S := (fun (s : (List (Int × Bool))) => nO :: S s)) (lz0 := (lz0+1)) (dW := fC) (fC := gP) (gP := dW) (c1 := b2) (by (try clear h); subst_vars; rfl) (fun s => hg1 s) (fun s => hg2 s) (fun s x => congrArg (List.cons _) (hu2 s x)) (fun s => hg0 s) hx1 (by (try clear h); subst_vars; rfl) (by (try clear h); subst_vars; rfl)) (cv ?_)
 exact sp h
set_option maxHeartbeats 4000000 in
theorem anM {rY : Inst → Int → (List (Int × Bool)) → Option (Bool × (List (Int × Bool)))} (WY : aeU Ω E rY) {qg : Inst → Int → (List (Int × Bool)) → Option (Bool × (List (Int × Bool)))} (WZ : aeV Ω E qg) {qU : (Sl Inst) → Int → (List (Int × Bool)) → Option (Bool × (List (Int × Bool)))} (RI : aeW Ω E qU) {rZ : (Sl Inst) → Int → (List (Int × Bool)) → Option (Int × (List (Int × Bool)))} (W9 : aeX Ω E rZ) {a0 : Sl Inst} {d0 : Int} {b2 c2 : List (Int × Bool)} {S : (List (Int × Bool)) → St} {lz0 dW fC gP : Nat} (e2 : b2 = c2) (hg0 : ∀ s, X.look (S s) lz0 dW = some (X.Obj.box 55 [PV.fn 25 [.ptr 0 fC 0, .ptr 0 dW 0]])) (hg1 : ∀ s, X.look (S s) lz0 fC = some (X.Obj.box 49 [PV.map 0 gP])) (hg2 : ∀ s, X.look (S s) lz0 gP = some (X.Obj.map (.int .i64) true (E.dz s))) (hu2 : ∀ s x, X.dU (S s) lz0 gP (X.Obj.map (.int .i64) true (E.dz x)) = S x) {r : Bool × (List (Int × Bool))} (h : Vm fu rY qg qU rZ a0 d0 b2 = some r) {args : List PV} (ha : [PV.d (.sl (E.aG a0.l) (E.bR a0.x)), PV.fn 27 [.ptr lz0 dW 0, .dA [.int .i64 d0]]] = args) {st : St} (hst : S c2 = st) :
 Sat (Ω.cf 28 args st) (fun q => q = (PV.d (.bool r.1), S r.2)) := by
 subst ha
 subst hst
 subst e2
 rcases a0 with ⟨aj, bF⟩
 rw [aK hΩ (f := 28) (fn := Try.f28) (x := c28) rfl rfl ahd rfl rfl rfl]
 unfold Vm at h
 try dsimp only at h
 conv => arg 1; cbv
 replace h := bJ h
 obtain ⟨⟨r2, wr3⟩, hx1, h⟩ := h
 try dsimp only at h
 refine dJ (W9 (S := (fun (s : (List (Int × Bool))) => nO :: S s)) (lz0 := (lz0+1)) (dW := dW) (fC := fC) (gP := gP) (c2 := b2) (by (try clear h); subst_vars; rfl) (fun s => hg0 s) (fun s => hg1 s) (fun s => hg2 s) (fun s x => congrArg (List.cons _) (hu2 s x)) hx1 (by (try clear h); subst_vars; rfl) (by (try clear h); subst_vars; rfl)) (cv ?_)
 exact sp h
set_option maxHeartbeats 4000000 in
theorem anN {rY : Inst → Int → (List (Int × Bool)) → Option (Bool × (List (Int × Bool)))} (WY : aeU Ω E rY) {qg : Inst → Int → (List (Int × Bool)) → Option (Bool × (List (Int × Bool)))} (WZ : aeV Ω E qg) {qU : (Sl Inst) → Int → (List (Int × Bool)) → Option (Bool × (List (Int × Bool)))} (RI : aeW Ω E qU) {rZ : (Sl Inst) → Int → (List (Int × Bool)) → Option (Int × (List (Int × Bool)))} (W9 : aeX Ω E rZ) {a0 : Sl Inst} {d0 : Int} {b2 c2 : List (Int × Bool)} {S : (List (Int × Bool)) → St} {lz0 dW fC gP : Nat} (e2 : b2 = c2) (hg0 : ∀ s, X.look (S s) lz0 dW = some (X.Obj.box 55 [PV.fn 25 [.ptr 0 fC 0, .ptr 0 dW 0]])) (hg1 : ∀ s, X.look (S s) lz0 fC = some (X.Obj.box 49 [PV.map 0 gP])) (hg2 : ∀ s, X.look (S s) lz0 gP = some (X.Obj.map (.int .i64) true (E.dz s))) (hu2 : ∀ s x, X.dU (S s) lz0 gP (X.Obj.map (.int .i64) true (E.dz x)) = S x) {r : Int × (List (Int × Bool))} (h : Vn fu rY qg qU rZ a0 d0 b2 = some r) {args : List PV} (ha : [PV.d (.sl (E.aG a0.l) (E.bR a0.x)), PV.fn 27 [.ptr lz0 dW 0, .dA [.int .i64 d0]]] = args) {st : St} (hst : S c2 = st) :
 Sat (Ω.cf 61 args st) (fun q => q = (PV.d (.int .i64 r.1), S r.2)) := by
 subst ha
 subst hst
 subst e2
 rcases a0 with ⟨aj, bF⟩
 rw [aK hΩ (f := 61) (fn := Try.f61) (x := c61) rfl rfl ahu rfl rfl rfl]
 unfold Vn at h
 try dsimp only at h
 conv => arg 1; cbv
 refine bQ hΩ (aD hE) aj fun n1 hn2 => cv ?_
 replace h := bJ h
 obtain ⟨q, acd, h⟩ := h
 refine dV hΩ (fun (a : (List (Int × Bool)) × Int × Int) => (match a with | (g3, i4, i5) => ([(0, PV.d (.sl (E.aG aj) (E.bR bF))), (1, PV.fn 27 [.ptr (lz0+1) dW 0, .dA [.int .i64 d0]]), (4, vi i4), (7, vi n1), (8, vi i5)], nO :: S g3))) (fun (q : ((List (Int × Bool)) × Int × Int) ⊕ ((List (Int × Bool)) × Int × Int)) => (match q with | .inl (Vf, o15, o16) => (.exit 0, [(0, PV.d (.sl (E.aG aj) (E.bR bF))), (1, PV.fn 27 [.ptr (lz0+1) dW 0, .dA [.int .i64 d0]]), (4, vi o15), (7, vi n1), (8, vi o16)], nO :: S Vf) | .inr (CO, jP, oQ) => (.ret, [(0, PV.d (.sl (E.aG aj) (E.bR bF))), (1, PV.fn 27 [.ptr (lz0+1) dW 0, .dA [.int .i64 d0]]), (4, vi jP), (7, vi n1), (8, vi oQ)], nO :: S CO))) (b2, 0, 0) acd ?_ ?_
 clear h acd
 rintro ⟨g3, i4, i5⟩ q h
 unfold zG at h
 dsimp only at h
 conv => arg 1; cbv
 refine bO hΩ (cv ?_)
 revert h; refine eU (fun hb6 h => cv ?_) fun hb6 h => cv ?_
 refine sat_true (dL hΩ (aD hE) aj) (cv ?_)
 replace h := bJ h
 obtain ⟨⟨awo, ⟨apl, apm, apn, ⟨aiQ, aiR, aiS, ⟨adW, adX⟩, ⟨adY, adZ⟩, aiT, aiU, aiV⟩⟩, ⟨apo, apq⟩, ⟨apr, aps⟩, ⟨apt, apu⟩, awp, awq, awr, ⟨apv, apw, apx, ⟨aiW, aiX⟩, ⟨aiY, aiZ⟩, apy, apz, apA⟩, awt, awu, ⟨apB, apC⟩, awv, aww⟩, RG, h⟩ := h
 try dsimp only at h
 refine aH (dw hΩ (aD hE) RG) (cv ?_)
 replace h := bJ h
 obtain ⟨⟨Xn, asP⟩, EH, h⟩ := h
 try dsimp only at h
 refine dJ (WZ (S := (fun (s : (List (Int × Bool))) => nO :: S s)) (lz0 := (lz0+1)) (dW := dW) (fC := fC) (gP := gP) (c2 := g3) (by (try clear h); subst_vars; rfl) (fun s => hg0 s) (fun s => hg1 s) (fun s => hg2 s) (fun s x => congrArg (List.cons _) (hu2 s x)) EH (by (try clear h); subst_vars; rfl) (by (try clear h); subst_vars; rfl)) (cv ?_)
 refine bO hΩ (cv ?_)
 revert h; refine eU (fun auA h => cv ?_) fun auA h => cv ?_
 obtain rfl := kM h
 subst_vars
 exact sR
 obtain rfl := kM h
 subst_vars
 exact s3
 obtain rfl := kM h
 subst_vars
 exact sL
 clear acd
 rcases q with ⟨Vf, o15, o16⟩ | ⟨CO, jP, oQ⟩
 dsimp only at h
 conv => arg 1; cbv
 exact sp h
 dsimp only at h
 conv => arg 1; cbv
 exact sp h
theorem anO : ∀ fu,
 (∀ {a0 : Inst} {a1 : Int} {b1 c1 : List (Int × Bool)} {S : (List (Int × Bool)) → St} {lz0 dW fC gP : Nat} (e1 : b1 = c1) (hg0 : ∀ s, X.look (S s) lz0 dW = some (X.Obj.box 49 [PV.map 0 fC])) (hg1 : ∀ s, X.look (S s) lz0 fC = some (X.Obj.map (.int .i64) true (E.dz s))) (hu1 : ∀ s x, X.dU (S s) lz0 fC (X.Obj.map (.int .i64) true (E.dz x)) = S x) (hg2 : ∀ s, X.look (S s) lz0 gP = some (X.Obj.box 55 [PV.fn 25 [.ptr 0 dW 0, .ptr 0 gP 0]])) {r : Bool × (List (Int × Bool))}, JA fu a0 a1 b1 = some r → ∀ {args : List PV}, [cZ E a0, PV.d (.int .i64 a1), PV.ptr lz0 dW 0, PV.ptr lz0 gP 0] = args → ∀ {st : St}, S c1 = st → Sat (Ω.cf 25 args st) (fun q => q = (PV.d (.bool r.1), S r.2))) ∧
 (∀ {a0 : Inst} {a2 : Int} {b2 c2 : List (Int × Bool)} {S : (List (Int × Bool)) → St} {lz0 dW fC gP : Nat} (e2 : b2 = c2) (hg0 : ∀ s, X.look (S s) lz0 dW = some (X.Obj.box 55 [PV.fn 25 [.ptr 0 fC 0, .ptr 0 dW 0]])) (hg1 : ∀ s, X.look (S s) lz0 fC = some (X.Obj.box 49 [PV.map 0 gP])) (hg2 : ∀ s, X.look (S s) lz0 gP = some (X.Obj.map (.int .i64) true (E.dz s))) (hu2 : ∀ s x, X.dU (S s) lz0 gP (X.Obj.map (.int .i64) true (E.dz x)) = S x) {r : Bool × (List (Int × Bool))}, Qe fu a0 a2 b2 = some r → ∀ {args : List PV}, [cZ E a0, PV.ptr lz0 dW 0, PV.dA [.int .i64 a2]] = args → ∀ {st : St}, S c2 = st → Sat (Ω.cf 27 args st) (fun q => q = (PV.d (.bool r.1), S r.2))) ∧
 (∀ {a0 : Sl Inst} {d0 : Int} {b2 c2 : List (Int × Bool)} {S : (List (Int × Bool)) → St} {lz0 dW fC gP : Nat} (e2 : b2 = c2) (hg0 : ∀ s, X.look (S s) lz0 dW = some (X.Obj.box 55 [PV.fn 25 [.ptr 0 fC 0, .ptr 0 dW 0]])) (hg1 : ∀ s, X.look (S s) lz0 fC = some (X.Obj.box 49 [PV.map 0 gP])) (hg2 : ∀ s, X.look (S s) lz0 gP = some (X.Obj.map (.int .i64) true (E.dz s))) (hu2 : ∀ s x, X.dU (S s) lz0 gP (X.Obj.map (.int .i64) true (E.dz x)) = S x) {r : Bool × (List (Int × Bool))}, JB fu a0 d0 b2 = some r → ∀ {args : List PV}, [PV.d (.sl (E.aG a0.l) (E.bR a0.x)), PV.fn 27 [.ptr lz0 dW 0, .dA [.int .i64 d0]]] = args → ∀ {st : St}, S c2 = st → Sat (Ω.cf 28 args st) (fun q => q = (PV.d (.bool r.1), S r.2))) ∧
 (∀ {a0 : Sl Inst} {d0 : Int} {b2 c2 : List (Int × Bool)} {S : (List (Int × Bool)) → St} {lz0 dW fC gP : Nat} (e2 : b2 = c2) (hg0 : ∀ s, X.look (S s) lz0 dW = some (X.Obj.box 55 [PV.fn 25 [.ptr 0 fC 0, .ptr 0 dW 0]])) (hg1 : ∀ s, X.look (S s) lz0 fC = some (X.Obj.box 49 [PV.map 0 gP])) (hg2 : ∀ s, X.look (S s) lz0 gP = some (X.Obj.map (.int .i64) true (E.dz s))) (hu2 : ∀ s x, X.dU (S s) lz0 gP (X.Obj.map (.int .i64) true (E.dz x)) = S x) {r : Int × (List (Int × Bool))}, TB fu a0 d0 b2 = some r → ∀ {args : List PV}, [PV.d (.sl (E.aG a0.l) (E.bR a0.x)), PV.fn 27 [.ptr lz0 dW 0, .dA [.int .i64 d0]]] = args → ∀ {st : St}, S c2 = st → Sat (Ω.cf 61 args st) (fun q => q = (PV.d (.int .i64 r.1), S r.2))) := by
 intro fu
 induction fu with
 | zero => exact ⟨(@fun _ _ _ _ _ _ _ _ _ _ _ _ _ _ _ h => by cases h), (@fun _ _ _ _ _ _ _ _ _ _ _ _ _ _ _ h => by cases h), (@fun _ _ _ _ _ _ _ _ _ _ _ _ _ _ _ h => by cases h), (@fun _ _ _ _ _ _ _ _ _ _ _ _ _ _ _ h => by cases h)⟩
 | succ fu ih =>
  obtain ⟨aeY, aeZ, ae0, ae1⟩ := ih
  exact ⟨(@fun a0 a1 b1 c1 S lz0 dW fC gP e1 hg0 hg1 hu1 hg2 r h args ha st hs => anK (fu := fu) hΩ hE aeY aeZ ae0 ae1 e1 hg0 hg1 hu1 hg2 h ha hs), (@fun a0 a2 b2 c2 S lz0 dW fC gP e2 hg0 hg1 hg2 hu2 r h args ha st hs => anL (fu := fu) hΩ hE aeY aeZ ae0 ae1 e2 hg0 hg1 hg2 hu2 h ha hs), (@fun a0 d0 b2 c2 S lz0 dW fC gP e2 hg0 hg1 hg2 hu2 r h args ha st hs => anM (fu := fu) hΩ hE aeY aeZ ae0 ae1 e2 hg0 hg1 hg2 hu2 h ha hs), (@fun a0 d0 b2 c2 S lz0 dW fC gP e2 hg0 hg1 hg2 hu2 r h args ha st hs => anN (fu := fu) hΩ hE aeY aeZ ae0 ae1 e2 hg0 hg1 hg2 hu2 h ha hs)⟩
theorem auB : ∀ {a0 : Inst} {a1 : Int} {b1 c1 : List (Int × Bool)} {S : (List (Int × Bool)) → St} {lz0 dW fC gP : Nat} (e1 : b1 = c1) (hg0 : ∀ s, X.look (S s) lz0 dW = some (X.Obj.box 49 [PV.map 0 fC])) (hg1 : ∀ s, X.look (S s) lz0 fC = some (X.Obj.map (.int .i64) true (E.dz s))) (hu1 : ∀ s x, X.dU (S s) lz0 fC (X.Obj.map (.int .i64) true (E.dz x)) = S x) (hg2 : ∀ s, X.look (S s) lz0 gP = some (X.Obj.box 55 [PV.fn 25 [.ptr 0 dW 0, .ptr 0 gP 0]])) {r : Bool × (List (Int × Bool))}, JA fu a0 a1 b1 = some r → ∀ {args : List PV}, [cZ E a0, PV.d (.int .i64 a1), PV.ptr lz0 dW 0, PV.ptr lz0 gP 0] = args → ∀ {st : St}, S c1 = st → Sat (Ω.cf 25 args st) (fun q => q = (PV.d (.bool r.1), S r.2)) := (anO hΩ hE fu).1
set_option maxHeartbeats 4000000 in
theorem ok9 {a0 : Inst} {r : Bool} (h : P9 fu a0 = some r) {args : List PV} (ha : [cZ E a0] = args) (st : St) :
 Sat (Ω.cf 9 args st) (fun q => q = (PV.d (.bool r), st)) := by
 subst ha
 rcases a0 with ⟨bn, ⟨bK, aL, bL, ⟨aT, aU, aV, ⟨av, ay⟩, ⟨aA, aB⟩, aW, aX, aY⟩⟩, ⟨bU, cO⟩, ⟨aZ, bf⟩, ⟨aF, aJ⟩, dM, dI, dN, ⟨bX, bY, bZ, ⟨aP, aQ⟩, ⟨aR, aS⟩, cu, cB, cK⟩, dD, dY, ⟨bB, bH⟩, eB, eD⟩
 rw [aK hΩ (f := 9) (fn := Try.f9) (x := c9) rfl rfl aoY rfl rfl rfl]
 unfold P9 at h
 try dsimp only at h
 conv => arg 1; cbv
 refine sat_empty hΩ (sK hE) fun m1 hm2 => cv ?_
 replace h := bJ h
 obtain ⟨⟨r4, wr5⟩, hx3, h⟩ := h
 try dsimp only at h
 refine dJ (auB hΩ hE (S := (fun (s : (List (Int × Bool))) => ([X.Obj.map (.int .i64) true (E.dz s), X.Obj.box 49 [.map 0 0], X.Obj.box 55 [.fn 25 [.ptr 0 1 0, .ptr 0 2 0]]] : List X.Obj) :: st)) (lz0 := 0) (dW := 1) (fC := 0) (gP := 2) (c1 := m1) (by (try clear h); subst_vars; rfl) (fun s => rfl) (fun s => rfl) (fun s x => rfl) (fun s => rfl) hx3 (by (try clear h); subst_vars; rfl) (by (try clear h); subst_vars; rfl)) (cv ?_)
 exact sp h
set_option maxHeartbeats 4000000 in
theorem axT {a0 : Sl Value} {r : (List Value)} (h : amL fu a0 = some r) {args : List PV} (ha : [PV.d (.sl (E.bE a0.l) (E.bN a0.x))] = args) {st : St} (hH : X.jL st 0 = true) {n : Int} (hn : ln r = n) :
 Sat (Ω.cf 111 args st) (fun q => q = (PV.row 0 (X.fE st 0) n, X.mU st 0 (X.Obj.row 27 8 (E.bE r) true none))) := by
 subst ha
 rcases a0 with ⟨aj, bF⟩
 rw [aK hΩ (f := 111) (fn := Try.f111) (x := asu) rfl rfl adp rfl rfl rfl]
 unfold amL at h
 try dsimp only at h
 conv => arg 1; cbv
 refine fG hΩ (dG hE) fun l1 hl2 => cv ?_
 refine bO hΩ (cv ?_)
 replace h := KY h
 rcases h with ⟨hb3, h⟩ | ⟨hb3, h⟩
 refine gW (bW hΩ (dG hE) (l := aj) hb3) (cv ?_)
 obtain ⟨ha16, kF⟩ := jM h
 clear h
 refine tq hΩ ?_ ?_
 clear kF
 have h := ha16
 clear ha16
 conv => arg 1; cbv
 refine fG hΩ (dG hE) fun l4 hl5 => cv ?_
 refine dS hΩ hH fun kk st2 hk2 hs2 => cv ?_
 exact sp h
 clear ha16
 have h := kF
 clear kF
 conv => arg 1; cbv
 replace h := bJ h
 obtain ⟨oh, pQ, h⟩ := h
 refine aN hΩ ((fun (q : (List Value)) => (match q with | oh => ([(2, PV.row 0 1 (ln oh))], ([X.Obj.row 27 8 (E.bE l1) true none, X.Obj.row 27 8 (E.bE oh) true none] : List X.Obj) :: st))) oh) (fun k hk => ?_) ?_
 clear h
 have h := pQ
 clear pQ
 conv => arg 1; cbv
 refine fG hΩ (dG hE) fun l6 hl7 => cv ?_
 refine sat_true (nD hΩ _) (cv ?_)
 refine sat_true (dL hΩ (dG hE) aj) (cv ?_)
 refine sat_true (dK hΩ (dG hE) ([] : List Value)) (cv ?_)
 replace h := KY h
 rcases h with ⟨Cm, h⟩ | ⟨Cm, h⟩
 refine gW (bW hΩ (dG hE) (l := aj) Cm) (cv ?_)
 exact fk h hk
 refine gQ (bW hΩ (dG hE) (l := aj) Cm) (cv ?_)
 refine kD hΩ (dG hE) ([] : List Value) aj fun l9 RF n11 Z5 => cv ?_
 replace h := jr h
 obtain ⟨rM, h⟩ := h
 refine kC rM (cv ?_)
 exact fk h hk
 clear pQ
 try dsimp only at h
 obtain ⟨Hz, mM⟩ : ∃ n, ln oh = n := ⟨_, rfl⟩
 simp only [mM]
 conv => arg 1; cbv
 refine dS hΩ hH fun kk st2 hk2 hs2 => cv ?_
 exact sp h
 refine gQ (bW hΩ (dG hE) (l := aj) hb3) (cv ?_)
 refine bO hΩ (cv ?_)
 replace h := bJ h
 obtain ⟨pI, lC, h⟩ := h
 refine aN hΩ ((fun (q : (List Value)) => (match q with | pI => ([(2, PV.row 0 1 (ln pI))], ([X.Obj.row 27 8 (E.bE l1) true none, X.Obj.row 27 8 (E.bE pI) true none] : List X.Obj) :: st))) pI) (fun k hk => ?_) ?_
 clear h
 have h := lC
 clear lC
 conv => arg 1; cbv
 refine fG hΩ (dG hE) fun l18 acr => cv ?_
 refine sat_true (nD hΩ _) (cv ?_)
 refine sat_true (dL hΩ (dG hE) aj) (cv ?_)
 refine sat_true (dK hΩ (dG hE) ([] : List Value)) (cv ?_)
 replace h := KY h
 rcases h with ⟨nZ, h⟩ | ⟨nZ, h⟩
 refine gW (bW hΩ (dG hE) (l := aj) nZ) (cv ?_)
 exact fk h hk
 refine gQ (bW hΩ (dG hE) (l := aj) nZ) (cv ?_)
 refine kD hΩ (dG hE) ([] : List Value) aj fun l21 Z6 n23 acs => cv ?_
 replace h := jr h
 obtain ⟨xR, h⟩ := h
 refine kC xR (cv ?_)
 exact fk h hk
 clear lC
 try dsimp only at h
 obtain ⟨HV, mO⟩ : ∃ n, ln pI = n := ⟨_, rfl⟩
 simp only [mO]
 conv => arg 1; cbv
 refine dS hΩ hH fun kk st2 hk2 hs2 => cv ?_
 exact sp h
set_option maxHeartbeats 4000000 in
theorem axU {a0 : Sl Value} {a1 : (Value → Option (Value))} {fT : Nat} (hf : ∀ {x0 : Value} {r : Value}, a1 x0 = some r → ∀ {args : List PV}, [eO E x0] = args → ∀ (st : St), Sat (Ω.cf fT args st) (fun q => q = (eO E r, st))) {r : (Sl Value)} (h : amM fu a0 a1 = some r) {args : List PV} (ha : [PV.d (.sl (E.bE a0.l) (E.bN a0.x)), PV.d (.fn fT [])] = args) (st : St) :
 Sat (Ω.cf 105 args st) (fun q => q = (PV.d (.sl (E.bE r.l) (E.bN r.x)), st)) := by
 subst ha
 rcases a0 with ⟨aj, bF⟩
 rw [aK hΩ (f := 105) (fn := Try.f105) (x := c105) rfl rfl adl rfl rfl rfl]
 unfold amM at h
 try dsimp only at h
 conv => arg 1; cbv
 replace h := bJ h
 obtain ⟨r2, hx1, h⟩ := h
 obtain ⟨n3, KD⟩ : ∃ n, ln r2 = n := ⟨_, rfl⟩
 refine dJ (axT hΩ hE (st := nO :: st) hx1 (by (try clear h); subst_vars; rfl) rfl KD) (cv ?_)
 replace h := bJ h
 obtain ⟨q, gY, h⟩ := h
 refine dV hΩ (fun (a : (List Value) × Int) => (match a with | (l5, i6) => ([(1, PV.d (.fn fT [])), (4, PV.d (.sl [] (some []))), (5, PV.row 0 0 (ln l5)), (10, PV.row 0 0 (ln l5)), (11, vi n3), (12, vi i6)], ([X.Obj.row 27 8 (E.bE l5) true none] : List X.Obj) :: st))) (fun (q : ((List Value) × Int)) => (match q with | (jP, oQ) => (.exit 0, [(1, PV.d (.fn fT [])), (4, PV.d (.sl [] (some []))), (5, PV.row 0 0 (ln jP)), (10, PV.row 0 0 (ln jP)), (11, vi n3), (12, vi oQ)], ([X.Obj.row 27 8 (E.bE jP) true none] : List X.Obj) :: st))) (r2, 0) gY ?_ ?_
 clear h gY
 rintro ⟨l5, i6⟩ q h
 unfold MP at h
 dsimp only at h
 obtain ⟨TL, sI⟩ : ∃ n, ln l5 = n := ⟨_, rfl⟩
 simp only [sI]
 conv => arg 1; cbv
 refine bO hΩ (cv ?_)
 revert h; refine eU (fun Ck h => cv ?_) fun Ck h => cv ?_
 refine sat_true (dK hΩ (dG hE) l5) (cv ?_)
 replace h := bJ h
 obtain ⟨⟨uz, JC, Y1, ⟨zD, zF⟩, ⟨uJ, uK⟩, Si, K6, Sj⟩, EH, h⟩ := h
 try dsimp only at h
 refine aH (dw hΩ (dG hE) EH) (cv ?_)
 refine sat_true (dK hΩ (dG hE) l5) (cv ?_)
 refine aH (dw hΩ (dG hE) EH) (cv ?_)
 replace h := bJ h
 obtain ⟨⟨mE, qV, Eb, ⟨xA, xB⟩, ⟨pJ, pK⟩, Qf, Ec, Qg⟩, iF, h⟩ := h
 try dsimp only at h
 refine au (hf iF) (cv ?_)
 refine sat_true (dK hΩ (dG hE) l5) (cv ?_)
 replace h := bJ h
 obtain ⟨⟨iG, mD, tV, ⟨nV, nW⟩, ⟨kH, kI⟩, Cw, tX, Cx⟩, iH, h⟩ := h
 try dsimp only at h
 refine aH (dw hΩ (dG hE) iH) (cv ?_)
 refine sat_true (dK hΩ (dG hE) l5) (cv ?_)
 refine aH (dw hΩ (dG hE) iH) (cv ?_)
 refine qA hΩ (dG hE) l5 i6 (Value.mk mE qV Eb (Sl.mk xA xB) (Sl.mk pJ pK) Qf Ec Qg) fun oh mY => cv ?_
 obtain rfl := kM h
 subst_vars
 exact s3
 obtain rfl := kM h
 subst_vars
 exact sL
 clear gY
 rcases q with ⟨jP, oQ⟩
 dsimp only at h
 obtain ⟨La, oC⟩ : ∃ n, ln jP = n := ⟨_, rfl⟩
 simp only [oC]
 conv => arg 1; cbv
 refine sat_true (dK hΩ (dG hE) jP) (cv ?_)
 exact sp h
set_option maxHeartbeats 4000000 in
theorem axV {a0 : Sl Field} {r : (List Field)} (h : amN fu a0 = some r) {args : List PV} (ha : [PV.d (.sl (E.aO a0.l) (E.bA a0.x))] = args) {st : St} (hH : X.jL st 0 = true) {n : Int} (hn : ln r = n) :
 Sat (Ω.cf 113 args st) (fun q => q = (PV.row 0 (X.fE st 0) n, X.mU st 0 (X.Obj.row 112 9 (E.aO r) true none))) := by
 subst ha
 rcases a0 with ⟨aj, bF⟩
 rw [aK hΩ (f := 113) (fn := Try.f113) (x := asv) rfl rfl adq rfl rfl rfl]
 unfold amN at h
 try dsimp only at h
 conv => arg 1; cbv
 refine fG hΩ (dH hE) fun l1 hl2 => cv ?_
 refine bO hΩ (cv ?_)
 replace h := KY h
 rcases h with ⟨hb3, h⟩ | ⟨hb3, h⟩
 refine gW (bW hΩ (dH hE) (l := aj) hb3) (cv ?_)
 obtain ⟨ha16, kF⟩ := jM h
 clear h
 refine tq hΩ ?_ ?_
 clear kF
 have h := ha16
 clear ha16
 conv => arg 1; cbv
 refine fG hΩ (dH hE) fun l4 hl5 => cv ?_
 refine dS hΩ hH fun kk st2 hk2 hs2 => cv ?_
 exact sp h
 clear ha16
 have h := kF
 clear kF
 conv => arg 1; cbv
 replace h := bJ h
 obtain ⟨oh, pQ, h⟩ := h
 refine aN hΩ ((fun (q : (List Field)) => (match q with | oh => ([(2, PV.row 0 1 (ln oh))], ([X.Obj.row 112 9 (E.aO l1) true none, X.Obj.row 112 9 (E.aO oh) true none] : List X.Obj) :: st))) oh) (fun k hk => ?_) ?_
 clear h
 have h := pQ
 clear pQ
 conv => arg 1; cbv
 refine fG hΩ (dH hE) fun l6 hl7 => cv ?_
 refine sat_true (nD hΩ _) (cv ?_)
 refine sat_true (dL hΩ (dH hE) aj) (cv ?_)
 refine sat_true (dK hΩ (dH hE) ([] : List Field)) (cv ?_)
 replace h := KY h
 rcases h with ⟨Cm, h⟩ | ⟨Cm, h⟩
 refine gW (bW hΩ (dH hE) (l := aj) Cm) (cv ?_)
 exact fk h hk
 refine gQ (bW hΩ (dH hE) (l := aj) Cm) (cv ?_)
 refine kD hΩ (dH hE) ([] : List Field) aj fun l9 RF n11 Z5 => cv ?_
 replace h := jr h
 obtain ⟨rM, h⟩ := h
 refine kC rM (cv ?_)
 exact fk h hk
 clear pQ
 try dsimp only at h
 obtain ⟨Hz, mM⟩ : ∃ n, ln oh = n := ⟨_, rfl⟩
 simp only [mM]
 conv => arg 1; cbv
 refine dS hΩ hH fun kk st2 hk2 hs2 => cv ?_
 exact sp h
 refine gQ (bW hΩ (dH hE) (l := aj) hb3) (cv ?_)
 refine bO hΩ (cv ?_)
 replace h := bJ h
 obtain ⟨pI, lC, h⟩ := h
 refine aN hΩ ((fun (q : (List Field)) => (match q with | pI => ([(2, PV.row 0 1 (ln pI))], ([X.Obj.row 112 9 (E.aO l1) true none, X.Obj.row 112 9 (E.aO pI) true none] : List X.Obj) :: st))) pI) (fun k hk => ?_) ?_
 clear h
 have h := lC
 clear lC
 conv => arg 1; cbv
 refine fG hΩ (dH hE) fun l18 acr => cv ?_
 refine sat_true (nD hΩ _) (cv ?_)
 refine sat_true (dL hΩ (dH hE) aj) (cv ?_)
 refine sat_true (dK hΩ (dH hE) ([] : List Field)) (cv ?_)
 replace h := KY h
 rcases h with ⟨nZ, h⟩ | ⟨nZ, h⟩
 refine gW (bW hΩ (dH hE) (l := aj) nZ) (cv ?_)
 exact fk h hk
 refine gQ (bW hΩ (dH hE) (l := aj) nZ) (cv ?_)
 refine kD hΩ (dH hE) ([] : List Field) aj fun l21 Z6 n23 acs => cv ?_
 replace h := jr h
 obtain ⟨xR, h⟩ := h
 refine kC xR (cv ?_)
 exact fk h hk
 clear lC
 try dsimp only at h
 obtain ⟨HV, mO⟩ : ∃ n, ln pI = n := ⟨_, rfl⟩
 simp only [mO]
 conv => arg 1; cbv
 refine dS hΩ hH fun kk st2 hk2 hs2 => cv ?_
 exact sp h
set_option maxHeartbeats 4000000 in
theorem axW {a0 : Sl Field} {a1 : (Field → Option (Field))} {fT : Nat} (hf : ∀ {x0 : Field} {r : Field}, a1 x0 = some r → ∀ {args : List PV}, [fO E x0] = args → ∀ (st : St), Sat (Ω.cf fT args st) (fun q => q = (fO E r, st))) {r : (Sl Field)} (h : amO fu a0 a1 = some r) {args : List PV} (ha : [PV.d (.sl (E.aO a0.l) (E.bA a0.x)), PV.d (.fn fT [])] = args) (st : St) :
 Sat (Ω.cf 106 args st) (fun q => q = (PV.d (.sl (E.aO r.l) (E.bA r.x)), st)) := by
 subst ha
 rcases a0 with ⟨aj, bF⟩
 rw [aK hΩ (f := 106) (fn := Try.f106) (x := asr) rfl rfl adn rfl rfl rfl]
 unfold amO at h
 try dsimp only at h
 conv => arg 1; cbv
 replace h := bJ h
 obtain ⟨r2, hx1, h⟩ := h
 obtain ⟨n3, KD⟩ : ∃ n, ln r2 = n := ⟨_, rfl⟩
 refine dJ (axV hΩ hE (st := nO :: st) hx1 (by (try clear h); subst_vars; rfl) rfl KD) (cv ?_)
 replace h := bJ h
 obtain ⟨q, gY, h⟩ := h
 refine dV hΩ (fun (a : (List Field) × Int) => (match a with | (l5, i6) => ([(1, PV.d (.fn fT [])), (4, PV.d (.sl [] (some []))), (5, PV.row 0 0 (ln l5)), (10, PV.row 0 0 (ln l5)), (11, vi n3), (12, vi i6)], ([X.Obj.row 112 9 (E.aO l5) true none] : List X.Obj) :: st))) (fun (q : ((List Field) × Int)) => (match q with | (jP, oQ) => (.exit 0, [(1, PV.d (.fn fT [])), (4, PV.d (.sl [] (some []))), (5, PV.row 0 0 (ln jP)), (10, PV.row 0 0 (ln jP)), (11, vi n3), (12, vi oQ)], ([X.Obj.row 112 9 (E.aO jP) true none] : List X.Obj) :: st))) (r2, 0) gY ?_ ?_
 clear h gY
 rintro ⟨l5, i6⟩ q h
 unfold MQ at h
 dsimp only at h
 obtain ⟨TL, sI⟩ : ∃ n, ln l5 = n := ⟨_, rfl⟩
 simp only [sI]
 conv => arg 1; cbv
 refine bO hΩ (cv ?_)
 revert h; refine eU (fun Ck h => cv ?_) fun Ck h => cv ?_
 refine sat_true (dK hΩ (dH hE) l5) (cv ?_)
 replace h := bJ h
 obtain ⟨⟨uz, ⟨Cv, FL, FM, ⟨ai0, ai1⟩, ⟨ai2, ai3⟩, apD, apE, apF⟩⟩, EH, h⟩ := h
 try dsimp only at h
 refine aH (dw hΩ (dH hE) EH) (cv ?_)
 refine sat_true (dK hΩ (dH hE) l5) (cv ?_)
 refine aH (dw hΩ (dH hE) EH) (cv ?_)
 replace h := bJ h
 obtain ⟨⟨mE, ⟨GI, GJ, GK, ⟨Vo, Vp⟩, ⟨Vq, Vr⟩, abp, abq, abr⟩⟩, iF, h⟩ := h
 try dsimp only at h
 refine au (hf iF) (cv ?_)
 refine sat_true (dK hΩ (dH hE) l5) (cv ?_)
 replace h := bJ h
 obtain ⟨⟨iG, ⟨uD, uE, uF, ⟨Aw, Ay⟩, ⟨Az, AA⟩, Gv, Gw, Gx⟩⟩, iH, h⟩ := h
 try dsimp only at h
 refine aH (dw hΩ (dH hE) iH) (cv ?_)
 refine sat_true (dK hΩ (dH hE) l5) (cv ?_)
 refine aH (dw hΩ (dH hE) iH) (cv ?_)
 refine qA hΩ (dH hE) l5 i6 (Field.mk mE (Value.mk GI GJ GK (Sl.mk Vo Vp) (Sl.mk Vq Vr) abp abq abr)) fun oh mY => cv ?_
 obtain rfl := kM h
 subst_vars
 exact s3
 obtain rfl := kM h
 subst_vars
 exact sL
 clear gY
 rcases q with ⟨jP, oQ⟩
 dsimp only at h
 obtain ⟨La, oC⟩ : ∃ n, ln jP = n := ⟨_, rfl⟩
 simp only [oC]
 conv => arg 1; cbv
 refine sat_true (dK hΩ (dH hE) jP) (cv ?_)
 exact sp h
def anP (Ω : Om) (E : Enc) (CB : Field → Option (Field)) : Prop := ∀ {a0 : Field} {r : Field}, CB a0 = some r → ∀ {args : List PV}, [fO E a0] = args → ∀ (st : St), Sat (Ω.cf 107 args st) (fun q => q = (fO E r, st))
def H65 (Ω : Om) (E : Enc) (p65 : Value → Option (Value)) : Prop := ∀ {a0 : Value} {r : Value}, p65 a0 = some r → ∀ {args : List PV}, [eO E a0] = args → ∀ (st : St), Sat (Ω.cf 65 args st) (fun q => q = (eO E r, st))
def H88 (Ω : Om) (E : Enc) (Xo : (Sl Value) → Option ((Sl Value))) : Prop := ∀ {a0 : Sl Value} {r : (Sl Value)}, Xo a0 = some r → ∀ {args : List PV}, [PV.d (.sl (E.bE a0.l) (E.bN a0.x))] = args → ∀ (st : St), Sat (Ω.cf 88 args st) (fun q => q = (PV.d (.sl (E.bE r.l) (E.bN r.x)), st))
def H89 (Ω : Om) (E : Enc) (Xp : (Sl Field) → Option ((Sl Field))) : Prop := ∀ {a0 : Sl Field} {r : (Sl Field)}, Xp a0 = some r → ∀ {args : List PV}, [PV.d (.sl (E.aO a0.l) (E.bA a0.x))] = args → ∀ (st : St), Sat (Ω.cf 89 args st) (fun q => q = (PV.d (.sl (E.aO r.l) (E.bA r.x)), st))
set_option maxHeartbeats 4000000 in
theorem auC {CB : Field → Option (Field)} (ae2 : anP Ω E CB) {p65 : Value → Option (Value)} (ak6 : H65 Ω E p65) {Xo : (Sl Value) → Option ((Sl Value))} (anQ : H88 Ω E Xo) {Xp : (Sl Field) → Option ((Sl Field))} (anR : H89 Ω E Xp) {a0 : Field} {r : Field} (h : ad1 fu CB p65 Xo Xp a0 = some r) {args : List PV} (ha : [fO E a0] = args) (st : St) :
 Sat (Ω.cf 107 args st) (fun q => q = (fO E r, st)) := by
 subst ha
 rcases a0 with ⟨bn, ⟨bK, aL, bL, ⟨qG, qH⟩, ⟨qI, qJ⟩, yG, yH, yI⟩⟩
 rw [aK hΩ (f := 107) (fn := Try.f107) (x := c107) rfl rfl ado rfl rfl rfl]
 unfold ad1 at h
 try dsimp only at h
 conv => arg 1; cbv
 replace h := bJ h
 obtain ⟨⟨zH, JD, JE, ⟨tY, tZ⟩, ⟨uf, ug⟩, JF, Ed, JG⟩, hx2, h⟩ := h
 try dsimp only at h
 refine au (ak6 hx2) (cv ?_)
 refine sat_true (fP hΩ _) (cv ?_)
 exact sp h
set_option maxHeartbeats 4000000 in
theorem axX {CB : Field → Option (Field)} (ae2 : anP Ω E CB) {p65 : Value → Option (Value)} (ak6 : H65 Ω E p65) {Xo : (Sl Value) → Option ((Sl Value))} (anQ : H88 Ω E Xo) {Xp : (Sl Field) → Option ((Sl Field))} (anR : H89 Ω E Xp) {a0 : Value} {r : Value} (h : amP fu CB p65 Xo Xp a0 = some r) {args : List PV} (ha : [eO E a0] = args) (st : St) :
 Sat (Ω.cf 65 args st) (fun q => q = (eO E r, st)) := by
 subst ha
 rcases a0 with ⟨bn, gG, kr, ⟨aZ, bf⟩, ⟨aF, aJ⟩, dM, dI, dN⟩
 rw [aK hΩ (f := 65) (fn := Try.f65) (x := c65) rfl rfl ahy rfl rfl rfl]
 unfold amP at h
 try dsimp only at h
 conv => arg 1; cbv
 replace h := bJ h
 obtain ⟨⟨uh, uj⟩, hx2, h⟩ := h
 try dsimp only at h
 refine au (anQ hx2) (cv ?_)
 refine sat_true (fP hΩ _) (cv ?_)
 replace h := bJ h
 obtain ⟨⟨JH, JI⟩, hx4, h⟩ := h
 try dsimp only at h
 refine au (anR hx4) (cv ?_)
 refine sat_true (fP hΩ _) (cv ?_)
 exact sp h
set_option maxHeartbeats 4000000 in
theorem axY {CB : Field → Option (Field)} (ae2 : anP Ω E CB) {p65 : Value → Option (Value)} (ak6 : H65 Ω E p65) {Xo : (Sl Value) → Option ((Sl Value))} (anQ : H88 Ω E Xo) {Xp : (Sl Field) → Option ((Sl Field))} (anR : H89 Ω E Xp) {a0 : Sl Value} {r : (Sl Value)} (h : amQ fu CB p65 Xo Xp a0 = some r) {args : List PV} (ha : [PV.d (.sl (E.bE a0.l) (E.bN a0.x))] = args) (st : St) :
 Sat (Ω.cf 88 args st) (fun q => q = (PV.d (.sl (E.bE r.l) (E.bN r.x)), st)) := by
 subst ha
 rcases a0 with ⟨aj, bF⟩
 rw [aK hΩ (f := 88) (fn := Try.f88) (x := c88) rfl rfl ahH rfl rfl rfl]
 unfold amQ at h
 try dsimp only at h
 conv => arg 1; cbv
 replace h := bJ h
 obtain ⟨⟨uh, uj⟩, hx2, h⟩ := h
 try dsimp only at h
 refine dJ (axU hΩ hE (hf := fun h => @fun args ha st => ak6 h ha st) hx2 (by (try clear h); subst_vars; rfl) _) (cv ?_)
 exact sp h
set_option maxHeartbeats 4000000 in
theorem axZ {CB : Field → Option (Field)} (ae2 : anP Ω E CB) {p65 : Value → Option (Value)} (ak6 : H65 Ω E p65) {Xo : (Sl Value) → Option ((Sl Value))} (anQ : H88 Ω E Xo) {Xp : (Sl Field) → Option ((Sl Field))} (anR : H89 Ω E Xp) {a0 : Sl Field} {r : (Sl Field)} (h : amR fu CB p65 Xo Xp a0 = some r) {args : List PV} (ha : [PV.d (.sl (E.aO a0.l) (E.bA a0.x))] = args) (st : St) :
 Sat (Ω.cf 89 args st) (fun q => q = (PV.d (.sl (E.aO r.l) (E.bA r.x)), st)) := by
 subst ha
 rcases a0 with ⟨aj, bF⟩
 rw [aK hΩ (f := 89) (fn := Try.f89) (x := c89) rfl rfl ahI rfl rfl rfl]
 unfold amR at h
 try dsimp only at h
 conv => arg 1; cbv
 replace h := bJ h
 obtain ⟨⟨uh, uj⟩, hx2, h⟩ := h
 try dsimp only at h
 refine dJ (axW hΩ hE (hf := fun h => @fun args ha st => ae2 h ha st) hx2 (by (try clear h); subst_vars; rfl) _) (cv ?_)
 exact sp h
theorem acu : ∀ fu,
 (∀ {a0 : Field} {r : Field}, Y2 fu a0 = some r → ∀ {args : List PV}, [fO E a0] = args → ∀ (st : St), Sat (Ω.cf 107 args st) (fun q => q = (fO E r, st))) ∧
 (∀ {a0 : Value} {r : Value}, Xq fu a0 = some r → ∀ {args : List PV}, [eO E a0] = args → ∀ (st : St), Sat (Ω.cf 65 args st) (fun q => q = (eO E r, st))) ∧
 (∀ {a0 : Sl Value} {r : (Sl Value)}, P88 fu a0 = some r → ∀ {args : List PV}, [PV.d (.sl (E.bE a0.l) (E.bN a0.x))] = args → ∀ (st : St), Sat (Ω.cf 88 args st) (fun q => q = (PV.d (.sl (E.bE r.l) (E.bN r.x)), st))) ∧
 (∀ {a0 : Sl Field} {r : (Sl Field)}, P89 fu a0 = some r → ∀ {args : List PV}, [PV.d (.sl (E.aO a0.l) (E.bA a0.x))] = args → ∀ (st : St), Sat (Ω.cf 89 args st) (fun q => q = (PV.d (.sl (E.aO r.l) (E.bA r.x)), st))) := by
 intro fu
 induction fu with
 | zero => exact ⟨(fun h => (by cases h)), (fun h => (by cases h)), (fun h => (by cases h)), (fun h => (by cases h))⟩
 | succ fu ih =>
  obtain ⟨i107, i65, i88, i89⟩ := ih
  exact ⟨(fun h => @fun args ha st => auC (fu := fu) hΩ hE i107 i65 i88 i89 h ha st), (fun h => @fun args ha st => axX (fu := fu) hΩ hE i107 i65 i88 i89 h ha st), (fun h => @fun args ha st => axY (fu := fu) hΩ hE i107 i65 i88 i89 h ha st), (fun h => @fun args ha st => axZ (fu := fu) hΩ hE i107 i65 i88 i89 h ha st)⟩
theorem anS : ∀ {a0 : Value} {r : Value}, Xq fu a0 = some r → ∀ {args : List PV}, [eO E a0] = args → ∀ (st : St), Sat (Ω.cf 65 args st) (fun q => q = (eO E r, st)) := (acu hΩ hE fu).2.1
theorem azC : ∀ {a0 : Sl Value} {r : (Sl Value)}, P88 fu a0 = some r → ∀ {args : List PV}, [PV.d (.sl (E.bE a0.l) (E.bN a0.x))] = args → ∀ (st : St), Sat (Ω.cf 88 args st) (fun q => q = (PV.d (.sl (E.bE r.l) (E.bN r.x)), st)) := (acu hΩ hE fu).2.2.1
theorem ax0 : ∀ {a0 : Sl Field} {r : (Sl Field)}, P89 fu a0 = some r → ∀ {args : List PV}, [PV.d (.sl (E.aO a0.l) (E.bA a0.x))] = args → ∀ (st : St), Sat (Ω.cf 89 args st) (fun q => q = (PV.d (.sl (E.aO r.l) (E.bA r.x)), st)) := (acu hΩ hE fu).2.2.2
set_option maxHeartbeats 4000000 in
theorem ax3 {a0 : Child} {r : Child} (h : P62 fu a0 = some r) {args : List PV} (ha : [wJ E a0] = args) (st : St) :
 Sat (Ω.cf 62 args st) (fun q => q = (wJ E r, st)) := by
 subst ha
 rcases a0 with ⟨bn, gG, kr, ⟨lG, lH, lJ, ⟨jd, je⟩, ⟨jf, jh⟩, lK, lM, lQ⟩⟩
 rw [aK hΩ (f := 62) (fn := Try.f62) (x := c62) rfl rfl ahv rfl rfl rfl]
 unfold P62 at h
 try dsimp only at h
 conv => arg 1; cbv
 replace h := bJ h
 obtain ⟨⟨zH, JD, JE, ⟨tY, tZ⟩, ⟨uf, ug⟩, JF, Ed, JG⟩, hx2, h⟩ := h
 try dsimp only at h
 refine au (anS hΩ hE hx2) (cv ?_)
 exact sp h
set_option maxHeartbeats 4000000 in
theorem azD {a0 : Sl Cell} {r : (List Cell)} (h : P94 fu a0 = some r) {args : List PV} (ha : [PV.d (.sl (E.iE a0.l) (E.ku a0.x))] = args) {st : St} (hH : X.jL st 0 = true) {n : Int} (hn : ln r = n) :
 Sat (Ω.cf 94 args st) (fun q => q = (PV.row 0 (X.fE st 0) n, X.mU st 0 (X.Obj.row 78 26 (E.iE r) true none))) := by
 subst ha
 rcases a0 with ⟨aj, bF⟩
 rw [aK hΩ (f := 94) (fn := Try.f94) (x := c94) rfl rfl ahJ rfl rfl rfl]
 unfold P94 at h
 try dsimp only at h
 conv => arg 1; cbv
 refine fG hΩ (eP hE) fun l1 hl2 => cv ?_
 refine bO hΩ (cv ?_)
 replace h := KY h
 rcases h with ⟨hb3, h⟩ | ⟨hb3, h⟩
 refine gW (bW hΩ (eP hE) (l := aj) hb3) (cv ?_)
 obtain ⟨ha16, kF⟩ := jM h
 clear h
 refine tq hΩ ?_ ?_
 clear kF
 have h := ha16
 clear ha16
 conv => arg 1; cbv
 refine fG hΩ (eP hE) fun l4 hl5 => cv ?_
 refine dS hΩ hH fun kk st2 hk2 hs2 => cv ?_
 exact sp h
 clear ha16
 have h := kF
 clear kF
 conv => arg 1; cbv
 replace h := bJ h
 obtain ⟨oh, pQ, h⟩ := h
 refine aN hΩ ((fun (q : (List Cell)) => (match q with | oh => ([(2, PV.row 0 1 (ln oh))], ([X.Obj.row 78 26 (E.iE l1) true none, X.Obj.row 78 26 (E.iE oh) true none] : List X.Obj) :: st))) oh) (fun k hk => ?_) ?_
 clear h
 have h := pQ
 clear pQ
 conv => arg 1; cbv
 refine fG hΩ (eP hE) fun l6 hl7 => cv ?_
 refine sat_true (nD hΩ _) (cv ?_)
 refine sat_true (dL hΩ (eP hE) aj) (cv ?_)
 refine sat_true (dK hΩ (eP hE) ([] : List Cell)) (cv ?_)
 replace h := KY h
 rcases h with ⟨Cm, h⟩ | ⟨Cm, h⟩
 refine gW (bW hΩ (eP hE) (l := aj) Cm) (cv ?_)
 exact fk h hk
 refine gQ (bW hΩ (eP hE) (l := aj) Cm) (cv ?_)
 refine kD hΩ (eP hE) ([] : List Cell) aj fun l9 RF n11 Z5 => cv ?_
 replace h := jr h
 obtain ⟨rM, h⟩ := h
 refine kC rM (cv ?_)
 exact fk h hk
 clear pQ
 try dsimp only at h
 obtain ⟨Hz, mM⟩ : ∃ n, ln oh = n := ⟨_, rfl⟩
 simp only [mM]
 conv => arg 1; cbv
 refine dS hΩ hH fun kk st2 hk2 hs2 => cv ?_
 exact sp h
 refine gQ (bW hΩ (eP hE) (l := aj) hb3) (cv ?_)
 refine bO hΩ (cv ?_)
 replace h := bJ h
 obtain ⟨pI, lC, h⟩ := h
 refine aN hΩ ((fun (q : (List Cell)) => (match q with | pI => ([(2, PV.row 0 1 (ln pI))], ([X.Obj.row 78 26 (E.iE l1) true none, X.Obj.row 78 26 (E.iE pI) true none] : List X.Obj) :: st))) pI) (fun k hk => ?_) ?_
 clear h
 have h := lC
 clear lC
 conv => arg 1; cbv
 refine fG hΩ (eP hE) fun l18 acr => cv ?_
 refine sat_true (nD hΩ _) (cv ?_)
 refine sat_true (dL hΩ (eP hE) aj) (cv ?_)
 refine sat_true (dK hΩ (eP hE) ([] : List Cell)) (cv ?_)
 replace h := KY h
 rcases h with ⟨nZ, h⟩ | ⟨nZ, h⟩
 refine gW (bW hΩ (eP hE) (l := aj) nZ) (cv ?_)
 exact fk h hk
 refine gQ (bW hΩ (eP hE) (l := aj) nZ) (cv ?_)
 refine kD hΩ (eP hE) ([] : List Cell) aj fun l21 Z6 n23 acs => cv ?_
 replace h := jr h
 obtain ⟨xR, h⟩ := h
 refine kC xR (cv ?_)
 exact fk h hk
 clear lC
 try dsimp only at h
 obtain ⟨HV, mO⟩ : ∃ n, ln pI = n := ⟨_, rfl⟩
 simp only [mO]
 conv => arg 1; cbv
 refine dS hΩ hH fun kk st2 hk2 hs2 => cv ?_
 exact sp h
set_option maxHeartbeats 4000000 in
theorem azE {a0 : Sl Cell} {a1 : (Cell → Option (Cell))} {fT : Nat} (hf : ∀ {x0 : Cell} {r : Cell}, a1 x0 = some r → ∀ {args : List PV}, [Ap E x0] = args → ∀ (st : St), Sat (Ω.cf fT args st) (fun q => q = (Ap E r, st))) {r : (Sl Cell)} (h : P85 fu a0 a1 = some r) {args : List PV} (ha : [PV.d (.sl (E.iE a0.l) (E.ku a0.x)), PV.d (.fn fT [])] = args) (st : St) :
 Sat (Ω.cf 85 args st) (fun q => q = (PV.d (.sl (E.iE r.l) (E.ku r.x)), st)) := by
 subst ha
 rcases a0 with ⟨aj, bF⟩
 rw [aK hΩ (f := 85) (fn := Try.f85) (x := c85) rfl rfl ahE rfl rfl rfl]
 unfold P85 at h
 try dsimp only at h
 conv => arg 1; cbv
 replace h := bJ h
 obtain ⟨r2, hx1, h⟩ := h
 obtain ⟨n3, KD⟩ : ∃ n, ln r2 = n := ⟨_, rfl⟩
 refine dJ (azD hΩ hE (st := nO :: st) hx1 (by (try clear h); subst_vars; rfl) rfl KD) (cv ?_)
 replace h := bJ h
 obtain ⟨q, gY, h⟩ := h
 refine dV hΩ (fun (a : (List Cell) × Int) => (match a with | (l5, i6) => ([(1, PV.d (.fn fT [])), (4, PV.d (.sl [] (some []))), (5, PV.row 0 0 (ln l5)), (10, PV.row 0 0 (ln l5)), (11, vi n3), (12, vi i6)], ([X.Obj.row 78 26 (E.iE l5) true none] : List X.Obj) :: st))) (fun (q : ((List Cell) × Int)) => (match q with | (jP, oQ) => (.exit 0, [(1, PV.d (.fn fT [])), (4, PV.d (.sl [] (some []))), (5, PV.row 0 0 (ln jP)), (10, PV.row 0 0 (ln jP)), (11, vi n3), (12, vi oQ)], ([X.Obj.row 78 26 (E.iE jP) true none] : List X.Obj) :: st))) (r2, 0) gY ?_ ?_
 clear h gY
 rintro ⟨l5, i6⟩ q h
 unfold Vs at h
 dsimp only at h
 obtain ⟨TL, sI⟩ : ∃ n, ln l5 = n := ⟨_, rfl⟩
 simp only [sI]
 conv => arg 1; cbv
 refine bO hΩ (cv ?_)
 revert h; refine eU (fun Ck h => cv ?_) fun Ck h => cv ?_
 refine sat_true (dK hΩ (eP hE) l5) (cv ?_)
 replace h := bJ h
 obtain ⟨⟨uz, JC, ⟨Y3, Y4, Y5, ⟨Qh, Qi⟩, ⟨Qj, Qk⟩, apG, Y6, apH⟩, ⟨Y7, Y8, Y9, ⟨Ql, Qm⟩, ⟨Qn, Qo⟩, Za, Zb, Zc⟩, ⟨uJ, uK⟩, ⟨Zd, Ze⟩, ⟨apI, apJ⟩, ⟨Zf, Zg⟩, awx, K7, ⟨apK, apL⟩, ⟨FN, FP⟩⟩, EH, h⟩ := h
 try dsimp only at h
 refine aH (dw hΩ (eP hE) EH) (cv ?_)
 refine sat_true (dK hΩ (eP hE) l5) (cv ?_)
 refine aH (dw hΩ (eP hE) EH) (cv ?_)
 replace h := bJ h
 obtain ⟨⟨mE, qV, ⟨GL, GN, GQ, ⟨AJ, AL⟩, ⟨AO, AP⟩, abt, GR, abu⟩, ⟨GU, GV, GX, ⟨AQ, AU⟩, ⟨AV, AX⟩, GY, GZ, G5⟩, ⟨pJ, pK⟩, ⟨G6, G7⟩, ⟨abv, abw⟩, ⟨G8, G9⟩, ai4, Ee, ⟨abx, aby⟩, ⟨He, Hf⟩⟩, iF, h⟩ := h
 try dsimp only at h
 refine au (hf iF) (cv ?_)
 refine sat_true (dK hΩ (eP hE) l5) (cv ?_)
 replace h := bJ h
 obtain ⟨⟨iG, mD, ⟨AY, AZ, A8, ⟨uR, uS⟩, ⟨uT, uU⟩, Vt, A9, Vu⟩, ⟨Ba, Bb, Bc, ⟨uV, uW⟩, ⟨uX, uY⟩, Bd, Bf, Bg⟩, ⟨kH, kI⟩, ⟨Bh, Bj⟩, ⟨Vv, Vw⟩, ⟨Bl, Bn⟩, ad2, yJ, ⟨Vx, Vy⟩, ⟨Bo, Bp⟩⟩, iH, h⟩ := h
 try dsimp only at h
 refine aH (dw hΩ (eP hE) iH) (cv ?_)
 refine sat_true (dK hΩ (eP hE) l5) (cv ?_)
 refine aH (dw hΩ (eP hE) iH) (cv ?_)
 refine qA hΩ (eP hE) l5 i6 (Cell.mk mE qV (Value.mk GL GN GQ (Sl.mk AJ AL) (Sl.mk AO AP) abt GR abu) (Value.mk GU GV GX (Sl.mk AQ AU) (Sl.mk AV AX) GY GZ G5) (Sl.mk pJ pK) (Sl.mk G6 G7) (Sl.mk abv abw) (Sl.mk G8 G9) ai4 Ee (Sl.mk abx aby) (Sl.mk He Hf)) fun oh mY => cv ?_
 obtain rfl := kM h
 subst_vars
 exact s3
 obtain rfl := kM h
 subst_vars
 exact sL
 clear gY
 rcases q with ⟨jP, oQ⟩
 dsimp only at h
 obtain ⟨La, oC⟩ : ∃ n, ln jP = n := ⟨_, rfl⟩
 simp only [oC]
 conv => arg 1; cbv
 refine sat_true (dK hΩ (eP hE) jP) (cv ?_)
 exact sp h
set_option maxHeartbeats 4000000 in
theorem ax4 {a0 : Sl Act} {r : (List Act)} (h : amS fu a0 = some r) {args : List PV} (ha : [PV.d (.sl (E.fD a0.l) (E.fU a0.x))] = args) {st : St} (hH : X.jL st 0 = true) {n : Int} (hn : ln r = n) :
 Sat (Ω.cf 120 args st) (fun q => q = (PV.row 0 (X.fE st 0) n, X.mU st 0 (X.Obj.row 128 12 (E.fD r) true none))) := by
 subst ha
 rcases a0 with ⟨aj, bF⟩
 rw [aK hΩ (f := 120) (fn := Try.f120) (x := asx) rfl rfl adu rfl rfl rfl]
 unfold amS at h
 try dsimp only at h
 conv => arg 1; cbv
 refine fG hΩ (fV hE) fun l1 hl2 => cv ?_
 refine bO hΩ (cv ?_)
 replace h := KY h
 rcases h with ⟨hb3, h⟩ | ⟨hb3, h⟩
 refine gW (bW hΩ (fV hE) (l := aj) hb3) (cv ?_)
 obtain ⟨ha16, kF⟩ := jM h
 clear h
 refine tq hΩ ?_ ?_
 clear kF
 have h := ha16
 clear ha16
 conv => arg 1; cbv
 refine fG hΩ (fV hE) fun l4 hl5 => cv ?_
 refine dS hΩ hH fun kk st2 hk2 hs2 => cv ?_
 exact sp h
 clear ha16
 have h := kF
 clear kF
 conv => arg 1; cbv
 replace h := bJ h
 obtain ⟨oh, pQ, h⟩ := h
 refine aN hΩ ((fun (q : (List Act)) => (match q with | oh => ([(2, PV.row 0 1 (ln oh))], ([X.Obj.row 128 12 (E.fD l1) true none, X.Obj.row 128 12 (E.fD oh) true none] : List X.Obj) :: st))) oh) (fun k hk => ?_) ?_
 clear h
 have h := pQ
 clear pQ
 conv => arg 1; cbv
 refine fG hΩ (fV hE) fun l6 hl7 => cv ?_
 refine sat_true (nD hΩ _) (cv ?_)
 refine sat_true (dL hΩ (fV hE) aj) (cv ?_)
 refine sat_true (dK hΩ (fV hE) ([] : List Act)) (cv ?_)
 replace h := KY h
 rcases h with ⟨Cm, h⟩ | ⟨Cm, h⟩
 refine gW (bW hΩ (fV hE) (l := aj) Cm) (cv ?_)
 exact fk h hk
 refine gQ (bW hΩ (fV hE) (l := aj) Cm) (cv ?_)
 refine kD hΩ (fV hE) ([] : List Act) aj fun l9 RF n11 Z5 => cv ?_
 replace h := jr h
 obtain ⟨rM, h⟩ := h
 refine kC rM (cv ?_)
 exact fk h hk
 clear pQ
 try dsimp only at h
 obtain ⟨Hz, mM⟩ : ∃ n, ln oh = n := ⟨_, rfl⟩
 simp only [mM]
 conv => arg 1; cbv
 refine dS hΩ hH fun kk st2 hk2 hs2 => cv ?_
 exact sp h
 refine gQ (bW hΩ (fV hE) (l := aj) hb3) (cv ?_)
 refine bO hΩ (cv ?_)
 replace h := bJ h
 obtain ⟨pI, lC, h⟩ := h
 refine aN hΩ ((fun (q : (List Act)) => (match q with | pI => ([(2, PV.row 0 1 (ln pI))], ([X.Obj.row 128 12 (E.fD l1) true none, X.Obj.row 128 12 (E.fD pI) true none] : List X.Obj) :: st))) pI) (fun k hk => ?_) ?_
 clear h
 have h := lC
 clear lC
 conv => arg 1; cbv
 refine fG hΩ (fV hE) fun l18 acr => cv ?_
 refine sat_true (nD hΩ _) (cv ?_)
 refine sat_true (dL hΩ (fV hE) aj) (cv ?_)
 refine sat_true (dK hΩ (fV hE) ([] : List Act)) (cv ?_)
 replace h := KY h
 rcases h with ⟨nZ, h⟩ | ⟨nZ, h⟩
 refine gW (bW hΩ (fV hE) (l := aj) nZ) (cv ?_)
 exact fk h hk
 refine gQ (bW hΩ (fV hE) (l := aj) nZ) (cv ?_)
 refine kD hΩ (fV hE) ([] : List Act) aj fun l21 Z6 n23 acs => cv ?_
 replace h := jr h
 obtain ⟨xR, h⟩ := h
 refine kC xR (cv ?_)
 exact fk h hk
 clear lC
 try dsimp only at h
 obtain ⟨HV, mO⟩ : ∃ n, ln pI = n := ⟨_, rfl⟩
 simp only [mO]
 conv => arg 1; cbv
 refine dS hΩ hH fun kk st2 hk2 hs2 => cv ?_
 exact sp h
set_option maxHeartbeats 4000000 in
theorem ax5 {a0 : Sl Act} {a1 : (Act → Option (Act))} {fT : Nat} (hf : ∀ {x0 : Act} {r : Act}, a1 x0 = some r → ∀ {args : List PV}, [nU E x0] = args → ∀ (st : St), Sat (Ω.cf fT args st) (fun q => q = (nU E r, st))) {r : (Sl Act)} (h : amT fu a0 a1 = some r) {args : List PV} (ha : [PV.d (.sl (E.fD a0.l) (E.fU a0.x)), PV.d (.fn fT [])] = args) (st : St) :
 Sat (Ω.cf 115 args st) (fun q => q = (PV.d (.sl (E.fD r.l) (E.fU r.x)), st)) := by
 subst ha
 rcases a0 with ⟨aj, bF⟩
 rw [aK hΩ (f := 115) (fn := Try.f115) (x := asw) rfl rfl adr rfl rfl rfl]
 unfold amT at h
 try dsimp only at h
 conv => arg 1; cbv
 replace h := bJ h
 obtain ⟨r2, hx1, h⟩ := h
 obtain ⟨n3, KD⟩ : ∃ n, ln r2 = n := ⟨_, rfl⟩
 refine dJ (ax4 hΩ hE (st := nO :: st) hx1 (by (try clear h); subst_vars; rfl) rfl KD) (cv ?_)
 replace h := bJ h
 obtain ⟨q, gY, h⟩ := h
 refine dV hΩ (fun (a : (List Act) × Int) => (match a with | (l5, i6) => ([(1, PV.d (.fn fT [])), (4, PV.d (.sl [] (some []))), (5, PV.row 0 0 (ln l5)), (10, PV.row 0 0 (ln l5)), (11, vi n3), (12, vi i6)], ([X.Obj.row 128 12 (E.fD l5) true none] : List X.Obj) :: st))) (fun (q : ((List Act) × Int)) => (match q with | (jP, oQ) => (.exit 0, [(1, PV.d (.fn fT [])), (4, PV.d (.sl [] (some []))), (5, PV.row 0 0 (ln jP)), (10, PV.row 0 0 (ln jP)), (11, vi n3), (12, vi oQ)], ([X.Obj.row 128 12 (E.fD jP) true none] : List X.Obj) :: st))) (r2, 0) gY ?_ ?_
 clear h gY
 rintro ⟨l5, i6⟩ q h
 unfold MR at h
 dsimp only at h
 obtain ⟨TL, sI⟩ : ∃ n, ln l5 = n := ⟨_, rfl⟩
 simp only [sI]
 conv => arg 1; cbv
 refine bO hΩ (cv ?_)
 revert h; refine eU (fun Ck h => cv ?_) fun Ck h => cv ?_
 refine sat_true (dK hΩ (fV hE) l5) (cv ?_)
 replace h := bJ h
 obtain ⟨⟨uz, JC, ⟨Y3, Y4, Y5, ⟨Qh, Qi⟩, ⟨Qj, Qk⟩, ⟨ai5, ai6⟩, Y6, ⟨ai7, ai8⟩, ⟨ai9, aja⟩, apM⟩⟩, EH, h⟩ := h
 try dsimp only at h
 refine aH (dw hΩ (fV hE) EH) (cv ?_)
 refine sat_true (dK hΩ (fV hE) l5) (cv ?_)
 refine aH (dw hΩ (fV hE) EH) (cv ?_)
 replace h := bJ h
 obtain ⟨⟨mE, qV, ⟨GL, GN, GQ, ⟨AJ, AL⟩, ⟨AO, AP⟩, ⟨Vz, VA⟩, GR, ⟨VB, VD⟩, ⟨VE, VF⟩, abz⟩⟩, iF, h⟩ := h
 try dsimp only at h
 refine au (hf iF) (cv ?_)
 refine sat_true (dK hΩ (fV hE) l5) (cv ?_)
 replace h := bJ h
 obtain ⟨⟨iG, mD, ⟨AY, AZ, A8, ⟨uR, uS⟩, ⟨uT, uU⟩, ⟨MS, MU⟩, A9, ⟨MV, MW⟩, ⟨MX, MZ⟩, VG⟩⟩, iH, h⟩ := h
 try dsimp only at h
 refine aH (dw hΩ (fV hE) iH) (cv ?_)
 refine sat_true (dK hΩ (fV hE) l5) (cv ?_)
 refine aH (dw hΩ (fV hE) iH) (cv ?_)
 refine qA hΩ (fV hE) l5 i6 (Act.mk mE qV (Expr.mk GL GN GQ (Sl.mk AJ AL) (Sl.mk AO AP) (Sl.mk Vz VA) GR (Sl.mk VB VD) (Sl.mk VE VF) abz)) fun oh mY => cv ?_
 obtain rfl := kM h
 subst_vars
 exact s3
 obtain rfl := kM h
 subst_vars
 exact sL
 clear gY
 rcases q with ⟨jP, oQ⟩
 dsimp only at h
 obtain ⟨La, oC⟩ : ∃ n, ln jP = n := ⟨_, rfl⟩
 simp only [oC]
 conv => arg 1; cbv
 refine sat_true (dK hΩ (fV hE) jP) (cv ?_)
 exact sp h
set_option maxHeartbeats 4000000 in
theorem ax6 {a0 : Sl Expr} {r : (List Expr)} (h : amU fu a0 = some r) {args : List PV} (ha : [PV.d (.sl (E.dP a0.l) (E.d9 a0.x))] = args) {st : St} (hH : X.jL st 0 = true) {n : Int} (hn : ln r = n) :
 Sat (Ω.cf 132 args st) (fun q => q = (PV.row 0 (X.fE st 0) n, X.mU st 0 (X.Obj.row 126 10 (E.dP r) true none))) := by
 subst ha
 rcases a0 with ⟨aj, bF⟩
 rw [aK hΩ (f := 132) (fn := Try.f132) (x := asz) rfl rfl ady rfl rfl rfl]
 unfold amU at h
 try dsimp only at h
 conv => arg 1; cbv
 refine fG hΩ (eY hE) fun l1 hl2 => cv ?_
 refine bO hΩ (cv ?_)
 replace h := KY h
 rcases h with ⟨hb3, h⟩ | ⟨hb3, h⟩
 refine gW (bW hΩ (eY hE) (l := aj) hb3) (cv ?_)
 obtain ⟨ha16, kF⟩ := jM h
 clear h
 refine tq hΩ ?_ ?_
 clear kF
 have h := ha16
 clear ha16
 conv => arg 1; cbv
 refine fG hΩ (eY hE) fun l4 hl5 => cv ?_
 refine dS hΩ hH fun kk st2 hk2 hs2 => cv ?_
 exact sp h
 clear ha16
 have h := kF
 clear kF
 conv => arg 1; cbv
 replace h := bJ h
 obtain ⟨oh, pQ, h⟩ := h
 refine aN hΩ ((fun (q : (List Expr)) => (match q with | oh => ([(2, PV.row 0 1 (ln oh))], ([X.Obj.row 126 10 (E.dP l1) true none, X.Obj.row 126 10 (E.dP oh) true none] : List X.Obj) :: st))) oh) (fun k hk => ?_) ?_
 clear h
 have h := pQ
 clear pQ
 conv => arg 1; cbv
 refine fG hΩ (eY hE) fun l6 hl7 => cv ?_
 refine sat_true (nD hΩ _) (cv ?_)
 refine sat_true (dL hΩ (eY hE) aj) (cv ?_)
 refine sat_true (dK hΩ (eY hE) ([] : List Expr)) (cv ?_)
 replace h := KY h
 rcases h with ⟨Cm, h⟩ | ⟨Cm, h⟩
 refine gW (bW hΩ (eY hE) (l := aj) Cm) (cv ?_)
 exact fk h hk
 refine gQ (bW hΩ (eY hE) (l := aj) Cm) (cv ?_)
 refine kD hΩ (eY hE) ([] : List Expr) aj fun l9 RF n11 Z5 => cv ?_
 replace h := jr h
 obtain ⟨rM, h⟩ := h
 refine kC rM (cv ?_)
 exact fk h hk
 clear pQ
 try dsimp only at h
 obtain ⟨Hz, mM⟩ : ∃ n, ln oh = n := ⟨_, rfl⟩
 simp only [mM]
 conv => arg 1; cbv
 refine dS hΩ hH fun kk st2 hk2 hs2 => cv ?_
 exact sp h
 refine gQ (bW hΩ (eY hE) (l := aj) hb3) (cv ?_)
 refine bO hΩ (cv ?_)
 replace h := bJ h
 obtain ⟨pI, lC, h⟩ := h
 refine aN hΩ ((fun (q : (List Expr)) => (match q with | pI => ([(2, PV.row 0 1 (ln pI))], ([X.Obj.row 126 10 (E.dP l1) true none, X.Obj.row 126 10 (E.dP pI) true none] : List X.Obj) :: st))) pI) (fun k hk => ?_) ?_
 clear h
 have h := lC
 clear lC
 conv => arg 1; cbv
 refine fG hΩ (eY hE) fun l18 acr => cv ?_
 refine sat_true (nD hΩ _) (cv ?_)
 refine sat_true (dL hΩ (eY hE) aj) (cv ?_)
 refine sat_true (dK hΩ (eY hE) ([] : List Expr)) (cv ?_)
 replace h := KY h
 rcases h with ⟨nZ, h⟩ | ⟨nZ, h⟩
 refine gW (bW hΩ (eY hE) (l := aj) nZ) (cv ?_)
 exact fk h hk
 refine gQ (bW hΩ (eY hE) (l := aj) nZ) (cv ?_)
 refine kD hΩ (eY hE) ([] : List Expr) aj fun l21 Z6 n23 acs => cv ?_
 replace h := jr h
 obtain ⟨xR, h⟩ := h
 refine kC xR (cv ?_)
 exact fk h hk
 clear lC
 try dsimp only at h
 obtain ⟨HV, mO⟩ : ∃ n, ln pI = n := ⟨_, rfl⟩
 simp only [mO]
 conv => arg 1; cbv
 refine dS hΩ hH fun kk st2 hk2 hs2 => cv ?_
 exact sp h
set_option maxHeartbeats 4000000 in
theorem ax7 {a0 : Sl Expr} {a1 : (Expr → Option (Expr))} {fT : Nat} (hf : ∀ {x0 : Expr} {r : Expr}, a1 x0 = some r → ∀ {args : List PV}, [kQ E x0] = args → ∀ (st : St), Sat (Ω.cf fT args st) (fun q => q = (kQ E r, st))) {r : (Sl Expr)} (h : amV fu a0 a1 = some r) {args : List PV} (ha : [PV.d (.sl (E.dP a0.l) (E.d9 a0.x)), PV.d (.fn fT [])] = args) (st : St) :
 Sat (Ω.cf 131 args st) (fun q => q = (PV.d (.sl (E.dP r.l) (E.d9 r.x)), st)) := by
 subst ha
 rcases a0 with ⟨aj, bF⟩
 rw [aK hΩ (f := 131) (fn := Try.f131) (x := c131) rfl rfl adx rfl rfl rfl]
 unfold amV at h
 try dsimp only at h
 conv => arg 1; cbv
 replace h := bJ h
 obtain ⟨r2, hx1, h⟩ := h
 obtain ⟨n3, KD⟩ : ∃ n, ln r2 = n := ⟨_, rfl⟩
 refine dJ (ax6 hΩ hE (st := nO :: st) hx1 (by (try clear h); subst_vars; rfl) rfl KD) (cv ?_)
 replace h := bJ h
 obtain ⟨q, gY, h⟩ := h
 refine dV hΩ (fun (a : (List Expr) × Int) => (match a with | (l5, i6) => ([(1, PV.d (.fn fT [])), (4, PV.d (.sl [] (some []))), (5, PV.row 0 0 (ln l5)), (10, PV.row 0 0 (ln l5)), (11, vi n3), (12, vi i6)], ([X.Obj.row 126 10 (E.dP l5) true none] : List X.Obj) :: st))) (fun (q : ((List Expr) × Int)) => (match q with | (jP, oQ) => (.exit 0, [(1, PV.d (.fn fT [])), (4, PV.d (.sl [] (some []))), (5, PV.row 0 0 (ln jP)), (10, PV.row 0 0 (ln jP)), (11, vi n3), (12, vi oQ)], ([X.Obj.row 126 10 (E.dP jP) true none] : List X.Obj) :: st))) (r2, 0) gY ?_ ?_
 clear h gY
 rintro ⟨l5, i6⟩ q h
 unfold M0 at h
 dsimp only at h
 obtain ⟨TL, sI⟩ : ∃ n, ln l5 = n := ⟨_, rfl⟩
 simp only [sI]
 conv => arg 1; cbv
 refine bO hΩ (cv ?_)
 revert h; refine eU (fun Ck h => cv ?_) fun Ck h => cv ?_
 refine sat_true (dK hΩ (eY hE) l5) (cv ?_)
 replace h := bJ h
 obtain ⟨⟨uz, JC, Y1, ⟨zD, zF⟩, ⟨uJ, uK⟩, ⟨Zd, Ze⟩, K6, ⟨Zf, Zg⟩, ⟨apN, apO⟩, K7⟩, EH, h⟩ := h
 try dsimp only at h
 refine aH (dw hΩ (eY hE) EH) (cv ?_)
 refine sat_true (dK hΩ (eY hE) l5) (cv ?_)
 refine aH (dw hΩ (eY hE) EH) (cv ?_)
 replace h := bJ h
 obtain ⟨⟨mE, qV, Eb, ⟨xA, xB⟩, ⟨pJ, pK⟩, ⟨G6, G7⟩, Ec, ⟨G8, G9⟩, ⟨abA, abB⟩, Ee⟩, iF, h⟩ := h
 try dsimp only at h
 refine au (hf iF) (cv ?_)
 refine sat_true (dK hΩ (eY hE) l5) (cv ?_)
 replace h := bJ h
 obtain ⟨⟨iG, mD, tV, ⟨nV, nW⟩, ⟨kH, kI⟩, ⟨Bh, Bj⟩, tX, ⟨Bl, Bn⟩, ⟨VH, VI⟩, yJ⟩, iH, h⟩ := h
 try dsimp only at h
 refine aH (dw hΩ (eY hE) iH) (cv ?_)
 refine sat_true (dK hΩ (eY hE) l5) (cv ?_)
 refine aH (dw hΩ (eY hE) iH) (cv ?_)
 refine qA hΩ (eY hE) l5 i6 (Expr.mk mE qV Eb (Sl.mk xA xB) (Sl.mk pJ pK) (Sl.mk G6 G7) Ec (Sl.mk G8 G9) (Sl.mk abA abB) Ee) fun oh mY => cv ?_
 obtain rfl := kM h
 subst_vars
 exact s3
 obtain rfl := kM h
 subst_vars
 exact sL
 clear gY
 rcases q with ⟨jP, oQ⟩
 dsimp only at h
 obtain ⟨La, oC⟩ : ∃ n, ln jP = n := ⟨_, rfl⟩
 simp only [oC]
 conv => arg 1; cbv
 refine sat_true (dK hΩ (eY hE) jP) (cv ?_)
 exact sp h
set_option maxHeartbeats 4000000 in
theorem ax8 {a0 : Sl ByteArray} {r : (List ByteArray)} (h : amW fu a0 = some r) {args : List PV} (ha : [PV.d (.sl (E.mh a0.l) (E.oK a0.x))] = args) {st : St} (hH : X.jL st 0 = true) {n : Int} (hn : ln r = n) :
 Sat (Ω.cf 124 args st) (fun q => q = (PV.row 0 (X.fE st 0) n, X.mU st 0 (X.Obj.row 9 1 (E.mh r) true none))) := by
 subst ha
 rcases a0 with ⟨aj, bF⟩
 rw [aK hΩ (f := 124) (fn := Try.f124) (x := c124) rfl rfl adw rfl rfl rfl]
 unfold amW at h
 try dsimp only at h
 conv => arg 1; cbv
 refine fG hΩ (jc hE) fun l1 hl2 => cv ?_
 refine bO hΩ (cv ?_)
 replace h := KY h
 rcases h with ⟨hb3, h⟩ | ⟨hb3, h⟩
 refine gW (bW hΩ (jc hE) (l := aj) hb3) (cv ?_)
 obtain ⟨ha16, kF⟩ := jM h
 clear h
 refine tq hΩ ?_ ?_
 clear kF
 have h := ha16
 clear ha16
 conv => arg 1; cbv
 refine fG hΩ (jc hE) fun l4 hl5 => cv ?_
 refine dS hΩ hH fun kk st2 hk2 hs2 => cv ?_
 exact sp h
 clear ha16
 have h := kF
 clear kF
 conv => arg 1; cbv
 replace h := bJ h
 obtain ⟨oh, pQ, h⟩ := h
 refine aN hΩ ((fun (q : (List ByteArray)) => (match q with | oh => ([(2, PV.row 0 1 (ln oh))], ([X.Obj.row 9 1 (E.mh l1) true none, X.Obj.row 9 1 (E.mh oh) true none] : List X.Obj) :: st))) oh) (fun k hk => ?_) ?_
 clear h
 have h := pQ
 clear pQ
 conv => arg 1; cbv
 refine fG hΩ (jc hE) fun l6 hl7 => cv ?_
 refine sat_true (nD hΩ _) (cv ?_)
 refine sat_true (dL hΩ (jc hE) aj) (cv ?_)
 refine sat_true (dK hΩ (jc hE) ([] : List ByteArray)) (cv ?_)
 replace h := KY h
 rcases h with ⟨Cm, h⟩ | ⟨Cm, h⟩
 refine gW (bW hΩ (jc hE) (l := aj) Cm) (cv ?_)
 exact fk h hk
 refine gQ (bW hΩ (jc hE) (l := aj) Cm) (cv ?_)
 refine kD hΩ (jc hE) ([] : List ByteArray) aj fun l9 RF n11 Z5 => cv ?_
 replace h := jr h
 obtain ⟨rM, h⟩ := h
 refine kC rM (cv ?_)
 exact fk h hk
 clear pQ
 try dsimp only at h
 obtain ⟨Hz, mM⟩ : ∃ n, ln oh = n := ⟨_, rfl⟩
 simp only [mM]
 conv => arg 1; cbv
 refine dS hΩ hH fun kk st2 hk2 hs2 => cv ?_
 exact sp h
 refine gQ (bW hΩ (jc hE) (l := aj) hb3) (cv ?_)
 refine bO hΩ (cv ?_)
 replace h := bJ h
 obtain ⟨pI, lC, h⟩ := h
 refine aN hΩ ((fun (q : (List ByteArray)) => (match q with | pI => ([(2, PV.row 0 1 (ln pI))], ([X.Obj.row 9 1 (E.mh l1) true none, X.Obj.row 9 1 (E.mh pI) true none] : List X.Obj) :: st))) pI) (fun k hk => ?_) ?_
 clear h
 have h := lC
 clear lC
 conv => arg 1; cbv
 refine fG hΩ (jc hE) fun l18 acr => cv ?_
 refine sat_true (nD hΩ _) (cv ?_)
 refine sat_true (dL hΩ (jc hE) aj) (cv ?_)
 refine sat_true (dK hΩ (jc hE) ([] : List ByteArray)) (cv ?_)
 replace h := KY h
 rcases h with ⟨nZ, h⟩ | ⟨nZ, h⟩
 refine gW (bW hΩ (jc hE) (l := aj) nZ) (cv ?_)
 exact fk h hk
 refine gQ (bW hΩ (jc hE) (l := aj) nZ) (cv ?_)
 refine kD hΩ (jc hE) ([] : List ByteArray) aj fun l21 Z6 n23 acs => cv ?_
 replace h := jr h
 obtain ⟨xR, h⟩ := h
 refine kC xR (cv ?_)
 exact fk h hk
 clear lC
 try dsimp only at h
 obtain ⟨HV, mO⟩ : ∃ n, ln pI = n := ⟨_, rfl⟩
 simp only [mO]
 conv => arg 1; cbv
 refine dS hΩ hH fun kk st2 hk2 hs2 => cv ?_
 exact sp h
def anT (Ω : Om) (E : Enc) (CG : (Sl Act) → Option ((Sl Act))) : Prop := ∀ {a0 : Sl Act} {r : (Sl Act)}, CG a0 = some r → ∀ {args : List PV}, [PV.d (.sl (E.fD a0.l) (E.fU a0.x))] = args → ∀ (st : St), Sat (Ω.cf 104 args st) (fun q => q = (PV.d (.sl (E.fD r.l) (E.fU r.x)), st))
def anU (Ω : Om) (E : Enc) (CJ : Act → Option (Act)) : Prop := ∀ {a0 : Act} {r : Act}, CJ a0 = some r → ∀ {args : List PV}, [nU E a0] = args → ∀ (st : St), Sat (Ω.cf 116 args st) (fun q => q = (nU E r, st))
def anV (Ω : Om) (E : Enc) (Bq : Expr → Option (Expr)) : Prop := ∀ {a0 : Expr} {r : Expr}, Bq a0 = some r → ∀ {args : List PV}, [kQ E a0] = args → ∀ (st : St), Sat (Ω.cf 117 args st) (fun q => q = (kQ E r, st))
def anW (Ω : Om) (E : Enc) (zI : (Sl Expr) → Option ((Sl Expr))) : Prop := ∀ {a0 : Sl Expr} {r : (Sl Expr)}, zI a0 = some r → ∀ {args : List PV}, [PV.d (.sl (E.dP a0.l) (E.d9 a0.x))] = args → ∀ (st : St), Sat (Ω.cf 123 args st) (fun q => q = (PV.d (.sl (E.dP r.l) (E.d9 r.x)), st))
set_option maxHeartbeats 4000000 in
theorem auD {CG : (Sl Act) → Option ((Sl Act))} (ae3 : anT Ω E CG) {CJ : Act → Option (Act)} (ae4 : anU Ω E CJ) {Bq : Expr → Option (Expr)} (Z7 : anV Ω E Bq) {zI : (Sl Expr) → Option ((Sl Expr))} (TM : anW Ω E zI) {a0 : Sl Act} {r : (Sl Act)} (h : ad3 fu CG CJ Bq zI a0 = some r) {args : List PV} (ha : [PV.d (.sl (E.fD a0.l) (E.fU a0.x))] = args) (st : St) :
 Sat (Ω.cf 104 args st) (fun q => q = (PV.d (.sl (E.fD r.l) (E.fU r.x)), st)) := by
 subst ha
 rcases a0 with ⟨aj, bF⟩
 rw [aK hΩ (f := 104) (fn := Try.f104) (x := asq) rfl rfl adk rfl rfl rfl]
 unfold ad3 at h
 try dsimp only at h
 conv => arg 1; cbv
 replace h := bJ h
 obtain ⟨⟨uh, uj⟩, hx2, h⟩ := h
 try dsimp only at h
 refine dJ (ax5 hΩ hE (hf := fun h => @fun args ha st => ae4 h ha st) hx2 (by (try clear h); subst_vars; rfl) _) (cv ?_)
 exact sp h
set_option maxHeartbeats 4000000 in
theorem auE {CG : (Sl Act) → Option ((Sl Act))} (ae3 : anT Ω E CG) {CJ : Act → Option (Act)} (ae4 : anU Ω E CJ) {Bq : Expr → Option (Expr)} (Z7 : anV Ω E Bq) {zI : (Sl Expr) → Option ((Sl Expr))} (TM : anW Ω E zI) {a0 : Act} {r : Act} (h : ad4 fu CG CJ Bq zI a0 = some r) {args : List PV} (ha : [nU E a0] = args) (st : St) :
 Sat (Ω.cf 116 args st) (fun q => q = (nU E r, st)) := by
 subst ha
 rcases a0 with ⟨bn, gG, ⟨lT, lU, lV, ⟨ji, jk⟩, ⟨jl, jm⟩, ⟨yX, yY⟩, lW, ⟨yZ, y5⟩, ⟨y7, y8⟩, FK⟩⟩
 rw [aK hΩ (f := 116) (fn := Try.f116) (x := c116) rfl rfl ads rfl rfl rfl]
 unfold ad4 at h
 try dsimp only at h
 conv => arg 1; cbv
 replace h := bJ h
 obtain ⟨⟨zH, JD, JE, ⟨tY, tZ⟩, ⟨uf, ug⟩, ⟨apP, apQ⟩, Ed, ⟨apR, apS⟩, ⟨apT, apU⟩, Zh⟩, hx2, h⟩ := h
 try dsimp only at h
 refine au (Z7 hx2) (cv ?_)
 exact sp h
set_option maxHeartbeats 4000000 in
theorem auF {CG : (Sl Act) → Option ((Sl Act))} (ae3 : anT Ω E CG) {CJ : Act → Option (Act)} (ae4 : anU Ω E CJ) {Bq : Expr → Option (Expr)} (Z7 : anV Ω E Bq) {zI : (Sl Expr) → Option ((Sl Expr))} (TM : anW Ω E zI) {a0 : Expr} {r : Expr} (h : ad5 fu CG CJ Bq zI a0 = some r) {args : List PV} (ha : [kQ E a0] = args) (st : St) :
 Sat (Ω.cf 117 args st) (fun q => q = (kQ E r, st)) := by
 subst ha
 rcases a0 with ⟨bn, gG, kr, ⟨aZ, bf⟩, ⟨aF, aJ⟩, ⟨jS, jT⟩, dI, ⟨jU, jV⟩, ⟨wL, wM⟩, dD⟩
 rw [aK hΩ (f := 117) (fn := Try.f117) (x := c117) rfl rfl adt rfl rfl rfl]
 unfold ad5 at h
 try dsimp only at h
 conv => arg 1; cbv
 replace h := bJ h
 obtain ⟨⟨uh, uj⟩, hx2, h⟩ := h
 try dsimp only at h
 refine au (TM hx2) (cv ?_)
 refine sat_true (fP hΩ _) (cv ?_)
 replace h := bJ h
 obtain ⟨⟨JH, JI⟩, hx4, h⟩ := h
 try dsimp only at h
 refine au (TM hx4) (cv ?_)
 refine sat_true (fP hΩ _) (cv ?_)
 replace h := bJ h
 obtain ⟨⟨Zi, Zj⟩, hx6, h⟩ := h
 try dsimp only at h
 refine au (TM hx6) (cv ?_)
 refine sat_true (fP hΩ _) (cv ?_)
 replace h := bJ h
 obtain ⟨r8, hx7, h⟩ := h
 obtain ⟨n9, auG⟩ : ∃ n, ln r8 = n := ⟨_, rfl⟩
 refine dJ (ax8 hΩ hE (st := ([X.Obj.box 126 (zP0 E bn gG kr aZ bf aF aJ jS jT dI jU jV wL wM dD), X.Obj.box 126 [.d (.int .u8 0), .d (.int .i64 0), .d (.str ByteArray.empty), .d (.sl [] (some [])), .d (.sl [] (some [])), .d (.sl [] (some [])), .d (.int .u8 0), .d (.sl [] (some [])), .d (.sl [] (some [])), .d (.str ByteArray.empty)]] : List X.Obj) :: st) hx7 (by (try clear h); subst_vars; rfl) rfl auG) (cv ?_)
 refine sat_true (dK hΩ (jc hE) r8) (cv ?_)
 refine sat_true (fP hΩ _) (cv ?_)
 refine ah hΩ (cv ?_)
 replace h := bJ h
 obtain ⟨⟨L6, L8⟩, RJ, h⟩ := h
 try dsimp only at h
 refine au (ae3 RJ) (cv ?_)
 refine sat_true (fP hΩ _) (cv ?_)
 refine ah hΩ (cv ?_)
 exact sp h
set_option maxHeartbeats 4000000 in
theorem auH {CG : (Sl Act) → Option ((Sl Act))} (ae3 : anT Ω E CG) {CJ : Act → Option (Act)} (ae4 : anU Ω E CJ) {Bq : Expr → Option (Expr)} (Z7 : anV Ω E Bq) {zI : (Sl Expr) → Option ((Sl Expr))} (TM : anW Ω E zI) {a0 : Sl Expr} {r : (Sl Expr)} (h : ad6 fu CG CJ Bq zI a0 = some r) {args : List PV} (ha : [PV.d (.sl (E.dP a0.l) (E.d9 a0.x))] = args) (st : St) :
 Sat (Ω.cf 123 args st) (fun q => q = (PV.d (.sl (E.dP r.l) (E.d9 r.x)), st)) := by
 subst ha
 rcases a0 with ⟨aj, bF⟩
 rw [aK hΩ (f := 123) (fn := Try.f123) (x := asy) rfl rfl adv rfl rfl rfl]
 unfold ad6 at h
 try dsimp only at h
 conv => arg 1; cbv
 replace h := bJ h
 obtain ⟨⟨uh, uj⟩, hx2, h⟩ := h
 try dsimp only at h
 refine dJ (ax7 hΩ hE (hf := fun h => @fun args ha st => Z7 h ha st) hx2 (by (try clear h); subst_vars; rfl) _) (cv ?_)
 exact sp h
theorem auI : ∀ fu,
 (∀ {a0 : Sl Act} {r : (Sl Act)}, Mv fu a0 = some r → ∀ {args : List PV}, [PV.d (.sl (E.fD a0.l) (E.fU a0.x))] = args → ∀ (st : St), Sat (Ω.cf 104 args st) (fun q => q = (PV.d (.sl (E.fD r.l) (E.fU r.x)), st))) ∧
 (∀ {a0 : Act} {r : Act}, abC fu a0 = some r → ∀ {args : List PV}, [nU E a0] = args → ∀ (st : St), Sat (Ω.cf 116 args st) (fun q => q = (nU E r, st))) ∧
 (∀ {a0 : Expr} {r : Expr}, Qp fu a0 = some r → ∀ {args : List PV}, [kQ E a0] = args → ∀ (st : St), Sat (Ω.cf 117 args st) (fun q => q = (kQ E r, st))) ∧
 (∀ {a0 : Sl Expr} {r : (Sl Expr)}, abD fu a0 = some r → ∀ {args : List PV}, [PV.d (.sl (E.dP a0.l) (E.d9 a0.x))] = args → ∀ (st : St), Sat (Ω.cf 123 args st) (fun q => q = (PV.d (.sl (E.dP r.l) (E.d9 r.x)), st))) := by
 intro fu
 induction fu with
 | zero => exact ⟨(fun h => (by cases h)), (fun h => (by cases h)), (fun h => (by cases h)), (fun h => (by cases h))⟩
 | succ fu ih =>
  obtain ⟨anX, anY, i117, anZ⟩ := ih
  exact ⟨(fun h => @fun args ha st => auD (fu := fu) hΩ hE anX anY i117 anZ h ha st), (fun h => @fun args ha st => auE (fu := fu) hΩ hE anX anY i117 anZ h ha st), (fun h => @fun args ha st => auF (fu := fu) hΩ hE anX anY i117 anZ h ha st), (fun h => @fun args ha st => auH (fu := fu) hΩ hE anX anY i117 anZ h ha st)⟩
theorem ak7 : ∀ {a0 : Sl Act} {r : (Sl Act)}, Mv fu a0 = some r → ∀ {args : List PV}, [PV.d (.sl (E.fD a0.l) (E.fU a0.x))] = args → ∀ (st : St), Sat (Ω.cf 104 args st) (fun q => q = (PV.d (.sl (E.fD r.l) (E.fU r.x)), st)) := (auI hΩ hE fu).1
set_option maxHeartbeats 4000000 in
theorem azF {a0 : Cell} {r : Cell} (h : P86 fu a0 = some r) {args : List PV} (ha : [Ap E a0] = args) (st : St) :
 Sat (Ω.cf 86 args st) (fun q => q = (Ap E r, st)) := by
 subst ha
 rcases a0 with ⟨bn, gG, ⟨lT, lU, lV, ⟨ji, jk⟩, ⟨jl, jm⟩, tJ, lW, tK⟩, ⟨lG, lH, lJ, ⟨jd, je⟩, ⟨jf, jh⟩, lK, lM, lQ⟩, ⟨aF, aJ⟩, ⟨jS, jT⟩, ⟨tL, tN⟩, ⟨jU, jV⟩, Fv, dD, ⟨tO, tQ⟩, ⟨bB, bH⟩⟩
 rw [aK hΩ (f := 86) (fn := Try.f86) (x := c86) rfl rfl ahF rfl rfl rfl]
 unfold P86 at h
 try dsimp only at h
 conv => arg 1; cbv
 replace h := bJ h
 obtain ⟨⟨zH, JD, JE, ⟨tY, tZ⟩, ⟨uf, ug⟩, JF, Ed, JG⟩, hx2, h⟩ := h
 try dsimp only at h
 refine au (anS hΩ hE hx2) (cv ?_)
 refine sat_true (fP hΩ _) (cv ?_)
 replace h := bJ h
 obtain ⟨⟨awy, awz, awC, ⟨apV, apW⟩, ⟨apX, apY⟩, awD, awE, awF⟩, hx4, h⟩ := h
 try dsimp only at h
 refine au (anS hΩ hE hx4) (cv ?_)
 refine sat_true (fP hΩ _) (cv ?_)
 replace h := bJ h
 obtain ⟨⟨Zi, Zj⟩, hx6, h⟩ := h
 try dsimp only at h
 refine au (azC hΩ hE hx6) (cv ?_)
 refine sat_true (fP hΩ _) (cv ?_)
 refine ah hΩ (cv ?_)
 replace h := bJ h
 obtain ⟨⟨awG, awH⟩, RG, h⟩ := h
 try dsimp only at h
 refine au (ak7 hΩ hE RG) (cv ?_)
 refine sat_true (fP hΩ _) (cv ?_)
 replace h := bJ h
 obtain ⟨⟨Zk, Zl⟩, acv, h⟩ := h
 try dsimp only at h
 refine au (ak7 hΩ hE acv) (cv ?_)
 refine sat_true (fP hΩ _) (cv ?_)
 replace h := bJ h
 obtain ⟨⟨L6, L8⟩, RJ, h⟩ := h
 try dsimp only at h
 refine au (ak7 hΩ hE RJ) (cv ?_)
 refine sat_true (fP hΩ _) (cv ?_)
 refine ah hΩ (cv ?_)
 replace h := bJ h
 obtain ⟨⟨nX, JJ⟩, auJ, h⟩ := h
 try dsimp only at h
 refine au (ax0 hΩ hE auJ) (cv ?_)
 refine sat_true (fP hΩ _) (cv ?_)
 replace h := bJ h
 obtain ⟨⟨apZ, ap0⟩, hx16, h⟩ := h
 try dsimp only at h
 refine au (ax0 hΩ hE hx16) (cv ?_)
 refine sat_true (fP hΩ _) (cv ?_)
 exact sp h
set_option maxHeartbeats 4000000 in
theorem azG {a0 : Sl Cell} {r : (Sl Cell)} (h : P63 fu a0 = some r) {args : List PV} (ha : [PV.d (.sl (E.iE a0.l) (E.ku a0.x))] = args) (st : St) :
 Sat (Ω.cf 63 args st) (fun q => q = (PV.d (.sl (E.iE r.l) (E.ku r.x)), st)) := by
 subst ha
 rcases a0 with ⟨aj, bF⟩
 rw [aK hΩ (f := 63) (fn := Try.f63) (x := c63) rfl rfl ahw rfl rfl rfl]
 unfold P63 at h
 try dsimp only at h
 conv => arg 1; cbv
 replace h := bJ h
 obtain ⟨⟨uh, uj⟩, hx2, h⟩ := h
 try dsimp only at h
 refine dJ (azE hΩ hE (hf := fun h => @fun args ha st => azF hΩ hE h ha st) hx2 (by (try clear h); subst_vars; rfl) _) (cv ?_)
 exact sp h
set_option maxHeartbeats 4000000 in
theorem azH {a0 : Sl Child} {r : (List Child)} (h : P97 fu a0 = some r) {args : List PV} (ha : [PV.d (.sl (E.fQ a0.l) (E.iJ a0.x))] = args) {st : St} (hH : X.jL st 0 = true) {n : Int} (hn : ln r = n) :
 Sat (Ω.cf 97 args st) (fun q => q = (PV.row 0 (X.fE st 0) n, X.mU st 0 (X.Obj.row 29 11 (E.fQ r) true none))) := by
 subst ha
 rcases a0 with ⟨aj, bF⟩
 rw [aK hΩ (f := 97) (fn := Try.f97) (x := c97) rfl rfl ahK rfl rfl rfl]
 unfold P97 at h
 try dsimp only at h
 conv => arg 1; cbv
 refine fG hΩ (dQ hE) fun l1 hl2 => cv ?_
 refine bO hΩ (cv ?_)
 replace h := KY h
 rcases h with ⟨hb3, h⟩ | ⟨hb3, h⟩
 refine gW (bW hΩ (dQ hE) (l := aj) hb3) (cv ?_)
 obtain ⟨ha16, kF⟩ := jM h
 clear h
 refine tq hΩ ?_ ?_
 clear kF
 have h := ha16
 clear ha16
 conv => arg 1; cbv
 refine fG hΩ (dQ hE) fun l4 hl5 => cv ?_
 refine dS hΩ hH fun kk st2 hk2 hs2 => cv ?_
 exact sp h
 clear ha16
 have h := kF
 clear kF
 conv => arg 1; cbv
 replace h := bJ h
 obtain ⟨oh, pQ, h⟩ := h
 refine aN hΩ ((fun (q : (List Child)) => (match q with | oh => ([(2, PV.row 0 1 (ln oh))], ([X.Obj.row 29 11 (E.fQ l1) true none, X.Obj.row 29 11 (E.fQ oh) true none] : List X.Obj) :: st))) oh) (fun k hk => ?_) ?_
 clear h
 have h := pQ
 clear pQ
 conv => arg 1; cbv
 refine fG hΩ (dQ hE) fun l6 hl7 => cv ?_
 refine sat_true (nD hΩ _) (cv ?_)
 refine sat_true (dL hΩ (dQ hE) aj) (cv ?_)
 refine sat_true (dK hΩ (dQ hE) ([] : List Child)) (cv ?_)
 replace h := KY h
 rcases h with ⟨Cm, h⟩ | ⟨Cm, h⟩
 refine gW (bW hΩ (dQ hE) (l := aj) Cm) (cv ?_)
 exact fk h hk
 refine gQ (bW hΩ (dQ hE) (l := aj) Cm) (cv ?_)
 refine kD hΩ (dQ hE) ([] : List Child) aj fun l9 RF n11 Z5 => cv ?_
 replace h := jr h
 obtain ⟨rM, h⟩ := h
 refine kC rM (cv ?_)
 exact fk h hk
 clear pQ
 try dsimp only at h
 obtain ⟨Hz, mM⟩ : ∃ n, ln oh = n := ⟨_, rfl⟩
 simp only [mM]
 conv => arg 1; cbv
 refine dS hΩ hH fun kk st2 hk2 hs2 => cv ?_
 exact sp h
 refine gQ (bW hΩ (dQ hE) (l := aj) hb3) (cv ?_)
 refine bO hΩ (cv ?_)
 replace h := bJ h
 obtain ⟨pI, lC, h⟩ := h
 refine aN hΩ ((fun (q : (List Child)) => (match q with | pI => ([(2, PV.row 0 1 (ln pI))], ([X.Obj.row 29 11 (E.fQ l1) true none, X.Obj.row 29 11 (E.fQ pI) true none] : List X.Obj) :: st))) pI) (fun k hk => ?_) ?_
 clear h
 have h := lC
 clear lC
 conv => arg 1; cbv
 refine fG hΩ (dQ hE) fun l18 acr => cv ?_
 refine sat_true (nD hΩ _) (cv ?_)
 refine sat_true (dL hΩ (dQ hE) aj) (cv ?_)
 refine sat_true (dK hΩ (dQ hE) ([] : List Child)) (cv ?_)
 replace h := KY h
 rcases h with ⟨nZ, h⟩ | ⟨nZ, h⟩
 refine gW (bW hΩ (dQ hE) (l := aj) nZ) (cv ?_)
 exact fk h hk
 refine gQ (bW hΩ (dQ hE) (l := aj) nZ) (cv ?_)
 refine kD hΩ (dQ hE) ([] : List Child) aj fun l21 Z6 n23 acs => cv ?_
 replace h := jr h
 obtain ⟨xR, h⟩ := h
 refine kC xR (cv ?_)
 exact fk h hk
 clear lC
 try dsimp only at h
 obtain ⟨HV, mO⟩ : ∃ n, ln pI = n := ⟨_, rfl⟩
 simp only [mO]
 conv => arg 1; cbv
 refine dS hΩ hH fun kk st2 hk2 hs2 => cv ?_
 exact sp h
set_option maxHeartbeats 4000000 in
theorem azI {a0 : Sl Child} {a1 : (Child → Option (Child))} {fT : Nat} (hf : ∀ {x0 : Child} {r : Child}, a1 x0 = some r → ∀ {args : List PV}, [wJ E x0] = args → ∀ (st : St), Sat (Ω.cf fT args st) (fun q => q = (wJ E r, st))) {r : (Sl Child)} (h : P87 fu a0 a1 = some r) {args : List PV} (ha : [PV.d (.sl (E.fQ a0.l) (E.iJ a0.x)), PV.d (.fn fT [])] = args) (st : St) :
 Sat (Ω.cf 87 args st) (fun q => q = (PV.d (.sl (E.fQ r.l) (E.iJ r.x)), st)) := by
 subst ha
 rcases a0 with ⟨aj, bF⟩
 rw [aK hΩ (f := 87) (fn := Try.f87) (x := c87) rfl rfl ahG rfl rfl rfl]
 unfold P87 at h
 try dsimp only at h
 conv => arg 1; cbv
 replace h := bJ h
 obtain ⟨r2, hx1, h⟩ := h
 obtain ⟨n3, KD⟩ : ∃ n, ln r2 = n := ⟨_, rfl⟩
 refine dJ (azH hΩ hE (st := nO :: st) hx1 (by (try clear h); subst_vars; rfl) rfl KD) (cv ?_)
 replace h := bJ h
 obtain ⟨q, gY, h⟩ := h
 refine dV hΩ (fun (a : (List Child) × Int) => (match a with | (l5, i6) => ([(1, PV.d (.fn fT [])), (4, PV.d (.sl [] (some []))), (5, PV.row 0 0 (ln l5)), (10, PV.row 0 0 (ln l5)), (11, vi n3), (12, vi i6)], ([X.Obj.row 29 11 (E.fQ l5) true none] : List X.Obj) :: st))) (fun (q : ((List Child) × Int)) => (match q with | (jP, oQ) => (.exit 0, [(1, PV.d (.fn fT [])), (4, PV.d (.sl [] (some []))), (5, PV.row 0 0 (ln jP)), (10, PV.row 0 0 (ln jP)), (11, vi n3), (12, vi oQ)], ([X.Obj.row 29 11 (E.fQ jP) true none] : List X.Obj) :: st))) (r2, 0) gY ?_ ?_
 clear h gY
 rintro ⟨l5, i6⟩ q h
 unfold VJ at h
 dsimp only at h
 obtain ⟨TL, sI⟩ : ∃ n, ln l5 = n := ⟨_, rfl⟩
 simp only [sI]
 conv => arg 1; cbv
 refine bO hΩ (cv ?_)
 revert h; refine eU (fun Ck h => cv ?_) fun Ck h => cv ?_
 refine sat_true (dK hΩ (dQ hE) l5) (cv ?_)
 replace h := bJ h
 obtain ⟨⟨uz, JC, Y1, ⟨Y7, Y8, Y9, ⟨Ql, Qm⟩, ⟨Qn, Qo⟩, Za, Zb, Zc⟩⟩, EH, h⟩ := h
 try dsimp only at h
 refine aH (dw hΩ (dQ hE) EH) (cv ?_)
 refine sat_true (dK hΩ (dQ hE) l5) (cv ?_)
 refine aH (dw hΩ (dQ hE) EH) (cv ?_)
 replace h := bJ h
 obtain ⟨⟨mE, qV, Eb, ⟨GU, GV, GX, ⟨AQ, AU⟩, ⟨AV, AX⟩, GY, GZ, G5⟩⟩, iF, h⟩ := h
 try dsimp only at h
 refine au (hf iF) (cv ?_)
 refine sat_true (dK hΩ (dQ hE) l5) (cv ?_)
 replace h := bJ h
 obtain ⟨⟨iG, mD, tV, ⟨Ba, Bb, Bc, ⟨uV, uW⟩, ⟨uX, uY⟩, Bd, Bf, Bg⟩⟩, iH, h⟩ := h
 try dsimp only at h
 refine aH (dw hΩ (dQ hE) iH) (cv ?_)
 refine sat_true (dK hΩ (dQ hE) l5) (cv ?_)
 refine aH (dw hΩ (dQ hE) iH) (cv ?_)
 refine qA hΩ (dQ hE) l5 i6 (Child.mk mE qV Eb (Value.mk GU GV GX (Sl.mk AQ AU) (Sl.mk AV AX) GY GZ G5)) fun oh mY => cv ?_
 obtain rfl := kM h
 subst_vars
 exact s3
 obtain rfl := kM h
 subst_vars
 exact sL
 clear gY
 rcases q with ⟨jP, oQ⟩
 dsimp only at h
 obtain ⟨La, oC⟩ : ∃ n, ln jP = n := ⟨_, rfl⟩
 simp only [oC]
 conv => arg 1; cbv
 refine sat_true (dK hΩ (dQ hE) jP) (cv ?_)
 exact sp h
set_option maxHeartbeats 4000000 in
theorem azJ {a0 : Sl Child} {r : (Sl Child)} (h : P64 fu a0 = some r) {args : List PV} (ha : [PV.d (.sl (E.fQ a0.l) (E.iJ a0.x))] = args) (st : St) :
 Sat (Ω.cf 64 args st) (fun q => q = (PV.d (.sl (E.fQ r.l) (E.iJ r.x)), st)) := by
 subst ha
 rcases a0 with ⟨aj, bF⟩
 rw [aK hΩ (f := 64) (fn := Try.f64) (x := c64) rfl rfl ahx rfl rfl rfl]
 unfold P64 at h
 try dsimp only at h
 conv => arg 1; cbv
 replace h := bJ h
 obtain ⟨⟨uh, uj⟩, hx2, h⟩ := h
 try dsimp only at h
 refine dJ (azI hΩ hE (hf := fun h => @fun args ha st => ax3 hΩ hE h ha st) hx2 (by (try clear h); subst_vars; rfl) _) (cv ?_)
 exact sp h
set_option maxHeartbeats 4000000 in
theorem ax9 {a0 : Sl Inst} {r : (List Inst)} (h : P34 fu a0 = some r) {args : List PV} (ha : [PV.d (.sl (E.aG a0.l) (E.bR a0.x))] = args) {st : St} (hH : X.jL st 0 = true) {n : Int} (hn : ln r = n) :
 Sat (Ω.cf 34 args st) (fun q => q = (PV.row 0 (X.fE st 0) n, X.mU st 0 (X.Obj.row 34 31 (E.aG r) true none))) := by
 subst ha
 rcases a0 with ⟨aj, bF⟩
 rw [aK hΩ (f := 34) (fn := Try.f34) (x := c34) rfl rfl ahl rfl rfl rfl]
 unfold P34 at h
 try dsimp only at h
 conv => arg 1; cbv
 refine fG hΩ (aD hE) fun l1 hl2 => cv ?_
 refine bO hΩ (cv ?_)
 replace h := KY h
 rcases h with ⟨hb3, h⟩ | ⟨hb3, h⟩
 refine gW (bW hΩ (aD hE) (l := aj) hb3) (cv ?_)
 obtain ⟨ha16, kF⟩ := jM h
 clear h
 refine tq hΩ ?_ ?_
 clear kF
 have h := ha16
 clear ha16
 conv => arg 1; cbv
 refine fG hΩ (aD hE) fun l4 hl5 => cv ?_
 refine dS hΩ hH fun kk st2 hk2 hs2 => cv ?_
 exact sp h
 clear ha16
 have h := kF
 clear kF
 conv => arg 1; cbv
 replace h := bJ h
 obtain ⟨oh, pQ, h⟩ := h
 refine aN hΩ ((fun (q : (List Inst)) => (match q with | oh => ([(2, PV.row 0 1 (ln oh))], ([X.Obj.row 34 31 (E.aG l1) true none, X.Obj.row 34 31 (E.aG oh) true none] : List X.Obj) :: st))) oh) (fun k hk => ?_) ?_
 clear h
 have h := pQ
 clear pQ
 conv => arg 1; cbv
 refine fG hΩ (aD hE) fun l6 hl7 => cv ?_
 refine sat_true (nD hΩ _) (cv ?_)
 refine sat_true (dL hΩ (aD hE) aj) (cv ?_)
 refine sat_true (dK hΩ (aD hE) ([] : List Inst)) (cv ?_)
 replace h := KY h
 rcases h with ⟨Cm, h⟩ | ⟨Cm, h⟩
 refine gW (bW hΩ (aD hE) (l := aj) Cm) (cv ?_)
 exact fk h hk
 refine gQ (bW hΩ (aD hE) (l := aj) Cm) (cv ?_)
 refine kD hΩ (aD hE) ([] : List Inst) aj fun l9 RF n11 Z5 => cv ?_
 replace h := jr h
 obtain ⟨rM, h⟩ := h
 refine kC rM (cv ?_)
 exact fk h hk
 clear pQ
 try dsimp only at h
 obtain ⟨Hz, mM⟩ : ∃ n, ln oh = n := ⟨_, rfl⟩
 simp only [mM]
 conv => arg 1; cbv
 refine dS hΩ hH fun kk st2 hk2 hs2 => cv ?_
 exact sp h
 refine gQ (bW hΩ (aD hE) (l := aj) hb3) (cv ?_)
 refine bO hΩ (cv ?_)
 replace h := bJ h
 obtain ⟨pI, lC, h⟩ := h
 refine aN hΩ ((fun (q : (List Inst)) => (match q with | pI => ([(2, PV.row 0 1 (ln pI))], ([X.Obj.row 34 31 (E.aG l1) true none, X.Obj.row 34 31 (E.aG pI) true none] : List X.Obj) :: st))) pI) (fun k hk => ?_) ?_
 clear h
 have h := lC
 clear lC
 conv => arg 1; cbv
 refine fG hΩ (aD hE) fun l18 acr => cv ?_
 refine sat_true (nD hΩ _) (cv ?_)
 refine sat_true (dL hΩ (aD hE) aj) (cv ?_)
 refine sat_true (dK hΩ (aD hE) ([] : List Inst)) (cv ?_)
 replace h := KY h
 rcases h with ⟨nZ, h⟩ | ⟨nZ, h⟩
 refine gW (bW hΩ (aD hE) (l := aj) nZ) (cv ?_)
 exact fk h hk
 refine gQ (bW hΩ (aD hE) (l := aj) nZ) (cv ?_)
 refine kD hΩ (aD hE) ([] : List Inst) aj fun l21 Z6 n23 acs => cv ?_
 replace h := jr h
 obtain ⟨xR, h⟩ := h
 refine kC xR (cv ?_)
 exact fk h hk
 clear lC
 try dsimp only at h
 obtain ⟨HV, mO⟩ : ∃ n, ln pI = n := ⟨_, rfl⟩
 simp only [mO]
 conv => arg 1; cbv
 refine dS hΩ hH fun kk st2 hk2 hs2 => cv ?_
 exact sp h
set_option maxHeartbeats 4000000 in
theorem azK {a0 : Sl Inst} {a1 : (Inst → Option (Inst))} {fT : Nat} (hf : ∀ {x0 : Inst} {r : Inst}, a1 x0 = some r → ∀ {args : List PV}, [cZ E x0] = args → ∀ (st : St), Sat (Ω.cf fT args st) (fun q => q = (cZ E r, st))) {r : (Sl Inst)} (h : P69 fu a0 a1 = some r) {args : List PV} (ha : [PV.d (.sl (E.aG a0.l) (E.bR a0.x)), PV.d (.fn fT [])] = args) (st : St) :
 Sat (Ω.cf 69 args st) (fun q => q = (PV.d (.sl (E.aG r.l) (E.bR r.x)), st)) := by
 subst ha
 rcases a0 with ⟨aj, bF⟩
 rw [aK hΩ (f := 69) (fn := Try.f69) (x := c69) rfl rfl ahz rfl rfl rfl]
 unfold P69 at h
 try dsimp only at h
 conv => arg 1; cbv
 replace h := bJ h
 obtain ⟨r2, hx1, h⟩ := h
 obtain ⟨n3, KD⟩ : ∃ n, ln r2 = n := ⟨_, rfl⟩
 refine dJ (ax9 hΩ hE (st := nO :: st) hx1 (by (try clear h); subst_vars; rfl) rfl KD) (cv ?_)
 replace h := bJ h
 obtain ⟨q, gY, h⟩ := h
 refine dV hΩ (fun (a : (List Inst) × Int) => (match a with | (l5, i6) => ([(1, PV.d (.fn fT [])), (4, PV.d (.sl [] (some []))), (5, PV.row 0 0 (ln l5)), (10, PV.row 0 0 (ln l5)), (11, vi n3), (12, vi i6)], ([X.Obj.row 34 31 (E.aG l5) true none] : List X.Obj) :: st))) (fun (q : ((List Inst) × Int)) => (match q with | (jP, oQ) => (.exit 0, [(1, PV.d (.fn fT [])), (4, PV.d (.sl [] (some []))), (5, PV.row 0 0 (ln jP)), (10, PV.row 0 0 (ln jP)), (11, vi n3), (12, vi oQ)], ([X.Obj.row 34 31 (E.aG jP) true none] : List X.Obj) :: st))) (r2, 0) gY ?_ ?_
 clear h gY
 rintro ⟨l5, i6⟩ q h
 unfold VK at h
 dsimp only at h
 obtain ⟨TL, sI⟩ : ∃ n, ln l5 = n := ⟨_, rfl⟩
 simp only [sI]
 conv => arg 1; cbv
 refine bO hΩ (cv ?_)
 revert h; refine eU (fun Ck h => cv ?_) fun Ck h => cv ?_
 refine sat_true (dK hΩ (aD hE) l5) (cv ?_)
 replace h := bJ h
 obtain ⟨⟨uz, ⟨Cv, FL, FM, ⟨Gj, Gl, Gm, ⟨Aq, Ar⟩, ⟨Au, Av⟩, Gn, Gp, Gq⟩⟩, ⟨PU, PW⟩, ⟨zD, zF⟩, ⟨uJ, uK⟩, Si, K6, Sj, ⟨PX, PY, PZ, ⟨Gr, Gs⟩, ⟨Gt, Gu⟩, P5, P6, Qa⟩, K7, abk, ⟨FN, FP⟩, abl, abm⟩, EH, h⟩ := h
 try dsimp only at h
 refine aH (dw hΩ (aD hE) EH) (cv ?_)
 refine sat_true (dK hΩ (aD hE) l5) (cv ?_)
 refine aH (dw hΩ (aD hE) EH) (cv ?_)
 replace h := bJ h
 obtain ⟨⟨mE, ⟨GI, GJ, GK, ⟨VL, VN, VO, ⟨Qq, Qr⟩, ⟨Qs, Qt⟩, VP, VQ, VR⟩⟩, ⟨abE, abF⟩, ⟨xA, xB⟩, ⟨pJ, pK⟩, Qf, Ec, Qg, ⟨abG, abH, abI, ⟨VT, VU⟩, ⟨VW, VX⟩, abJ, abK, abL⟩, Ee, ajb, ⟨He, Hf⟩, ajc, ajd⟩, iF, h⟩ := h
 try dsimp only at h
 refine au (hf iF) (cv ?_)
 refine sat_true (dK hΩ (aD hE) l5) (cv ?_)
 replace h := bJ h
 obtain ⟨⟨iG, ⟨uD, uE, uF, ⟨M4, M5, M6, ⟨JK, JL⟩, ⟨JM, JN⟩, M7, M8, M9⟩⟩, ⟨VY, VZ⟩, ⟨nV, nW⟩, ⟨kH, kI⟩, Cw, tX, Cx, ⟨V3, V4, V5, ⟨Na, Nb⟩, ⟨Nc, Nf⟩, V6, V7, V8⟩, yJ, ad7, ⟨Bo, Bp⟩, ad8, ad9⟩, iH, h⟩ := h
 try dsimp only at h
 refine aH (dw hΩ (aD hE) iH) (cv ?_)
 refine sat_true (dK hΩ (aD hE) l5) (cv ?_)
 refine aH (dw hΩ (aD hE) iH) (cv ?_)
 refine qA hΩ (aD hE) l5 i6 (Inst.mk mE (Child.mk GI GJ GK (Value.mk VL VN VO (Sl.mk Qq Qr) (Sl.mk Qs Qt) VP VQ VR)) (Sl.mk abE abF) (Sl.mk xA xB) (Sl.mk pJ pK) Qf Ec Qg (Value.mk abG abH abI (Sl.mk VT VU) (Sl.mk VW VX) abJ abK abL) Ee ajb (Sl.mk He Hf) ajc ajd) fun oh mY => cv ?_
 obtain rfl := kM h
 subst_vars
 exact s3
 obtain rfl := kM h
 subst_vars
 exact sL
 clear gY
 rcases q with ⟨jP, oQ⟩
 dsimp only at h
 obtain ⟨La, oC⟩ : ∃ n, ln jP = n := ⟨_, rfl⟩
 simp only [oC]
 conv => arg 1; cbv
 refine sat_true (dK hΩ (aD hE) jP) (cv ?_)
 exact sp h
def H31 (Ω : Om) (E : Enc) (p31 : Inst → Option (Inst)) : Prop := ∀ {a0 : Inst} {r : Inst}, p31 a0 = some r → ∀ {args : List PV}, [cZ E a0] = args → ∀ (st : St), Sat (Ω.cf 31 args st) (fun q => q = (cZ E r, st))
def H42 (Ω : Om) (E : Enc) (p42 : (Sl Inst) → Option ((Sl Inst))) : Prop := ∀ {a0 : Sl Inst} {r : (Sl Inst)}, p42 a0 = some r → ∀ {args : List PV}, [PV.d (.sl (E.aG a0.l) (E.bR a0.x))] = args → ∀ (st : St), Sat (Ω.cf 42 args st) (fun q => q = (PV.d (.sl (E.aG r.l) (E.bR r.x)), st))
set_option maxHeartbeats 4000000 in
theorem aya {p31 : Inst → Option (Inst)} (ayb : H31 Ω E p31) {p42 : (Sl Inst) → Option ((Sl Inst))} (auK : H42 Ω E p42) {a0 : Inst} {r : Inst} (h : amX fu p31 p42 a0 = some r) {args : List PV} (ha : [cZ E a0] = args) (st : St) :
 Sat (Ω.cf 31 args st) (fun q => q = (cZ E r, st)) := by
 subst ha
 rcases a0 with ⟨bn, ⟨bK, aL, bL, ⟨aT, aU, aV, ⟨av, ay⟩, ⟨aA, aB⟩, aW, aX, aY⟩⟩, ⟨bU, cO⟩, ⟨aZ, bf⟩, ⟨aF, aJ⟩, dM, dI, dN, ⟨bX, bY, bZ, ⟨aP, aQ⟩, ⟨aR, aS⟩, cu, cB, cK⟩, dD, dY, ⟨bB, bH⟩, eB, eD⟩
 rw [aK hΩ (f := 31) (fn := Try.f31) (x := c31) rfl rfl ahi rfl rfl rfl]
 unfold amX at h
 try dsimp only at h
 conv => arg 1; cbv
 replace h := bJ h
 obtain ⟨⟨zH, JD, JE, ⟨ap1, ap2, ap3, ⟨aje, ajf⟩, ⟨ajg, ajh⟩, ap4, ap5, ap6⟩⟩, hx2, h⟩ := h
 try dsimp only at h
 refine au (ax3 hΩ hE hx2) (cv ?_)
 refine sat_true (fP hΩ _) (cv ?_)
 replace h := bJ h
 obtain ⟨⟨JH, JI⟩, hx4, h⟩ := h
 try dsimp only at h
 refine au (azG hΩ hE hx4) (cv ?_)
 refine sat_true (fP hΩ _) (cv ?_)
 replace h := bJ h
 obtain ⟨⟨Zi, Zj⟩, hx6, h⟩ := h
 try dsimp only at h
 refine au (azJ hΩ hE hx6) (cv ?_)
 refine sat_true (fP hΩ _) (cv ?_)
 replace h := bJ h
 obtain ⟨⟨aji, awI, awJ, ⟨Zm, Zn⟩, ⟨Zo, Zp⟩, ajj, ajk, ajl⟩, RG, h⟩ := h
 try dsimp only at h
 refine au (anS hΩ hE RG) (cv ?_)
 refine sat_true (fP hΩ _) (cv ?_)
 refine ah hΩ (cv ?_)
 replace h := bJ h
 obtain ⟨⟨Zk, Zl⟩, acv, h⟩ := h
 try dsimp only at h
 refine au (auK acv) (cv ?_)
 refine sat_true (fP hΩ _) (cv ?_)
 replace h := bJ h
 obtain ⟨⟨L6, L8⟩, RJ, h⟩ := h
 try dsimp only at h
 refine au (auK RJ) (cv ?_)
 refine sat_true (fP hΩ _) (cv ?_)
 exact sp h
set_option maxHeartbeats 4000000 in
theorem ayc {p31 : Inst → Option (Inst)} (ayb : H31 Ω E p31) {p42 : (Sl Inst) → Option ((Sl Inst))} (auK : H42 Ω E p42) {a0 : Sl Inst} {r : (Sl Inst)} (h : amY fu p31 p42 a0 = some r) {args : List PV} (ha : [PV.d (.sl (E.aG a0.l) (E.bR a0.x))] = args) (st : St) :
 Sat (Ω.cf 42 args st) (fun q => q = (PV.d (.sl (E.aG r.l) (E.bR r.x)), st)) := by
 subst ha
 rcases a0 with ⟨aj, bF⟩
 rw [aK hΩ (f := 42) (fn := Try.f42) (x := c42) rfl rfl aho rfl rfl rfl]
 unfold amY at h
 try dsimp only at h
 conv => arg 1; cbv
 replace h := bJ h
 obtain ⟨⟨uh, uj⟩, hx2, h⟩ := h
 try dsimp only at h
 refine dJ (azK hΩ hE (hf := fun h => @fun args ha st => ayb h ha st) hx2 (by (try clear h); subst_vars; rfl) _) (cv ?_)
 exact sp h
theorem ayd : ∀ fu,
 (∀ {a0 : Inst} {r : Inst}, P31 fu a0 = some r → ∀ {args : List PV}, [cZ E a0] = args → ∀ (st : St), Sat (Ω.cf 31 args st) (fun q => q = (cZ E r, st))) ∧
 (∀ {a0 : Sl Inst} {r : (Sl Inst)}, P42 fu a0 = some r → ∀ {args : List PV}, [PV.d (.sl (E.aG a0.l) (E.bR a0.x))] = args → ∀ (st : St), Sat (Ω.cf 42 args st) (fun q => q = (PV.d (.sl (E.aG r.l) (E.bR r.x)), st))) := by
 intro fu
 induction fu with
 | zero => exact ⟨(fun h => (by cases h)), (fun h => (by cases h))⟩
 | succ fu ih =>
  obtain ⟨i31, i42⟩ := ih
  exact ⟨(fun h => @fun args ha st => aya (fu := fu) hΩ hE i31 i42 h ha st), (fun h => @fun args ha st => ayc (fu := fu) hΩ hE i31 i42 h ha st)⟩
theorem auL : ∀ {a0 : Inst} {r : Inst}, P31 fu a0 = some r → ∀ {args : List PV}, [cZ E a0] = args → ∀ (st : St), Sat (Ω.cf 31 args st) (fun q => q = (cZ E r, st)) := (ayd hΩ hE fu).1
end Go.Proofs.Ytedfkehkcaaplaa
