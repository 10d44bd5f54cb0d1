/- The interpreter computes just these functions: printed by a small program. -/
import Derived.Test.YtedfkehkcaaplaaTWO1
namespace Go.Proofs.Ytedfkehkcaaplaa
open Go Go.X
set_option linter.unusedVariables false
set_option linter.unusedSimpArgs false
set_option linter.unusedSectionVars false
variable {Ω : Om} {E : Enc} (hΩ : real (call S) = Ω) (hE : iZ = E) {fu : Nat}
include hΩ hE
set_option maxRecDepth 100000
set_option maxHeartbeats 4000000 in
theorem auM {a0 : Inst} {b1 c1 : List Inst} {Sm : Int} {S : (Int × (List Inst)) → St} {lz0 dW fC : Nat} (e1 : b1 = c1) (afQ : ln b1 = Sm) (hg0 : ∀ s, X.look (S s) lz0 dW = some (X.Obj.box 32 [PV.row 0 fC s.1])) (hu0 : ∀ s x, X.dU (S s) lz0 dW (X.Obj.box 32 [PV.row 0 fC x]) = S (x, s.2)) (hg1 : ∀ s, X.look (S s) lz0 fC = some (X.Obj.row 34 31 (E.aG s.2) true none)) (hu1 : ∀ s x, X.dU (S s) lz0 fC (X.Obj.row 34 31 (E.aG x) true none) = S (s.1, x)) {r : (List Inst)} (h : Zq fu a0 b1 = some r) {args : List PV} (ha : [cZ E a0, PV.ptr lz0 dW 0] = args) {st : St} (hst : S (Sm, c1) = st) {rm1 : Int} (hrm1 : ln r = rm1) :
 Sat (Ω.cf 30 args st) (fun q => q = (PV.zh [], S (rm1, r))) := by
 subst ha
 subst hst
 subst e1
 rcases a0 with ⟨bn, ⟨bK, aL, bL, ⟨aT, aU, aV, ⟨av, ay⟩, ⟨aA, aB⟩, aW, aX, aY⟩⟩, ⟨bU, cO⟩, ⟨aZ, bf⟩, ⟨aF, aJ⟩, dM, dI, dN, ⟨bX, bY, bZ, ⟨aP, aQ⟩, ⟨aR, aS⟩, cu, cB, cK⟩, dD, dY, ⟨bB, bH⟩, eB, eD⟩
 rw [aK hΩ (f := 30) (fn := Try.f30) (x := c30) rfl rfl ahh rfl rfl rfl]
 unfold Zq at h
 try dsimp only at h
 conv => arg 1; cbv
 replace h := bJ h
 obtain ⟨g12, Hy, h⟩ := h
 refine aN hΩ ((fun (q : (List Inst)) => (match q with | g12 => ([(0, PV.agg (TJ E bn bK aL bL aT aU aV av ay aA aB aW aX aY bU cO aZ bf aF aJ dM dI dN bX bY bZ aP aQ aR aS cu cB cK dD dY bB bH eB eD)), (1, PV.ptr (lz0+1) dW 0), (2, PV.dA (uL E bn bK aL bL aT aU aV av ay aA aB aW aX aY bU cO aZ bf aF aJ dM dI dN bX bY bZ aP aQ aR aS cu cB cK dD dY bB bH eB eD))], nO :: S ((ln g12), g12)))) g12) (fun k hk => ?_) ?_
 clear h
 have h := Hy
 clear Hy
 conv => arg 1; cbv
 refine qz hΩ (hg0 _) (by exact (show down.gZ (lz0+1) [PV.row 0 fC Sm] = [PV.row (lz0+1) fC Sm] by simp only [down.gZ, down, Nat.zero_add])) (cv ?_)
 replace h := bJ h
 obtain ⟨⟨zH, ⟨Zr, Zt, Zu, ⟨Qu, Qv, Qw, ⟨JO, JQ⟩, ⟨JR, JU⟩, Qx, Qy, Qz⟩⟩, ⟨Zv, Zw⟩, ⟨tY, tZ⟩, ⟨uf, ug⟩, JF, Ed, JG, ⟨Zx, Zy, Zz, ⟨QA, QB⟩, ⟨QC, QD⟩, ZA, ZB, ZC⟩, Zh, ajm, ⟨ZE, ZF⟩, ajn, ajo⟩, hx2, h⟩ := h
 try dsimp only at h
 refine au (auL hΩ hE hx2) (cv ?_)
 refine sat_true (fP hΩ _) (cv ?_)
 refine sat_true (fP hΩ _) (cv ?_)
 refine sat_true (nD hΩ _) (cv ?_)
 refine sat_true (dL hΩ (aD hE) [(Inst.mk 0 (Child.mk ByteArray.empty 0 ByteArray.empty (Value.mk 0 0 ByteArray.empty (Sl.mk [] (some [])) (Sl.mk [] (some [])) 0 ByteArray.empty false)) (Sl.mk [] (some [])) (Sl.mk [] (some [])) (Sl.mk [] (some [])) 0 false false (Value.mk 0 0 ByteArray.empty (Sl.mk [] (some [])) (Sl.mk [] (some [])) 0 ByteArray.empty false) ByteArray.empty false (Sl.mk [] (some [])) false false)]) (cv ?_)
 refine sG hΩ (hg1 _) (cv ?_)
 refine sat_true (dK hΩ (aD hE) b1) (cv ?_)
 refine gQ (bW hΩ (aD hE) (l := [(Inst.mk 0 (Child.mk ByteArray.empty 0 ByteArray.empty (Value.mk 0 0 ByteArray.empty (Sl.mk [] (some [])) (Sl.mk [] (some [])) 0 ByteArray.empty false)) (Sl.mk [] (some [])) (Sl.mk [] (some [])) (Sl.mk [] (some [])) 0 false false (Value.mk 0 0 ByteArray.empty (Sl.mk [] (some [])) (Sl.mk [] (some [])) 0 ByteArray.empty false) ByteArray.empty false (Sl.mk [] (some [])) false false)]) (b := false) (by rfl)) (cv ?_)
 refine kD hΩ (aD hE) b1 [(Inst.mk 0 (Child.mk ByteArray.empty 0 ByteArray.empty (Value.mk 0 0 ByteArray.empty (Sl.mk [] (some [])) (Sl.mk [] (some [])) 0 ByteArray.empty false)) (Sl.mk [] (some [])) (Sl.mk [] (some [])) (Sl.mk [] (some [])) 0 false false (Value.mk 0 0 ByteArray.empty (Sl.mk [] (some [])) (Sl.mk [] (some [])) 0 ByteArray.empty false) ByteArray.empty false (Sl.mk [] (some [])) false false)] fun l3 hl4 n5 hn6 => cv ?_
 replace h := jr h
 obtain ⟨Ck, h⟩ := h
 refine kC Ck (cv ?_)
 refine pF hΩ (hu1 _ l3) (cv ?_)
 refine ac8 hΩ hk (fun G hk => ?_) (fun G hk => ?_)
 conv => arg 1; cbv
 refine sG hΩ (hg1 _) (cv ?_)
 refine sat_true (dK hΩ (aD hE) (b1 ++ [(Inst.mk 0 (Child.mk ByteArray.empty 0 ByteArray.empty (Value.mk 0 0 ByteArray.empty (Sl.mk [] (some [])) (Sl.mk [] (some [])) 0 ByteArray.empty false)) (Sl.mk [] (some [])) (Sl.mk [] (some [])) (Sl.mk [] (some [])) 0 false false (Value.mk 0 0 ByteArray.empty (Sl.mk [] (some [])) (Sl.mk [] (some [])) 0 ByteArray.empty false) ByteArray.empty false (Sl.mk [] (some [])) false false)])) (cv ?_)
 replace h := bJ h
 obtain ⟨⟨uz, ⟨Cv, FL, FM, ⟨Gj, Gl, Gm, ⟨Aq, Ar⟩, ⟨Au, Av⟩, Gn, Gp, Gq⟩⟩, ⟨PU, PW⟩, ⟨zD, zF⟩, ⟨uJ, uK⟩, Si, K6, Sj, ⟨PX, PY, PZ, ⟨Gr, Gs⟩, ⟨Gt, Gu⟩, P5, P6, Qa⟩, K7, abk, ⟨FN, FP⟩, abl, abm⟩, EH, h⟩ := h
 try dsimp only at h
 refine aH (dw hΩ (aD hE) EH) (cv ?_)
 refine ac8 hΩ hk (fun G hk => ?_) (fun G hk => ?_)
 conv => arg 1; cbv
 refine sG hΩ (hg1 _) (cv ?_)
 refine sat_true (dK hΩ (aD hE) (b1 ++ [(Inst.mk 0 (Child.mk ByteArray.empty 0 ByteArray.empty (Value.mk 0 0 ByteArray.empty (Sl.mk [] (some [])) (Sl.mk [] (some [])) 0 ByteArray.empty false)) (Sl.mk [] (some [])) (Sl.mk [] (some [])) (Sl.mk [] (some [])) 0 false false (Value.mk 0 0 ByteArray.empty (Sl.mk [] (some [])) (Sl.mk [] (some [])) 0 ByteArray.empty false) ByteArray.empty false (Sl.mk [] (some [])) false false)])) (cv ?_)
 refine aH (dw hΩ (aD hE) EH) (cv ?_)
 refine qA hΩ (aD hE) (b1 ++ [(Inst.mk 0 (Child.mk ByteArray.empty 0 ByteArray.empty (Value.mk 0 0 ByteArray.empty (Sl.mk [] (some [])) (Sl.mk [] (some [])) 0 ByteArray.empty false)) (Sl.mk [] (some [])) (Sl.mk [] (some [])) (Sl.mk [] (some [])) 0 false false (Value.mk 0 0 ByteArray.empty (Sl.mk [] (some [])) (Sl.mk [] (some [])) 0 ByteArray.empty false) ByteArray.empty false (Sl.mk [] (some [])) false false)]) (ln b1) (Inst.mk zH (Child.mk Zr Zt Zu (Value.mk Qu Qv Qw (Sl.mk JO JQ) (Sl.mk JR JU) Qx Qy Qz)) (Sl.mk Zv Zw) (Sl.mk tY tZ) (Sl.mk uf ug) JF Ed JG (Value.mk Zx Zy Zz (Sl.mk QA QB) (Sl.mk QC QD) ZA ZB ZC) Zh ajm (Sl.mk ZE ZF) ajn ajo) fun l10 aye => cv ?_
 refine pF hΩ (hu1 _ l10) (cv ?_)
 refine Dy hΩ (hg0 _) (hu0 _ n5) (show up.ups (lz0+1) [PV.row (lz0+1) fC n5] = [PV.row 0 fC n5] from Oz (aa6 (by omega)) (rfl)) rfl rfl (cv ?_)
 exact fk h hk
 conv => arg 1; cbv
 refine Dy hΩ (hg0 _) (hu0 _ n5) (show up.ups (lz0+1) [PV.row (lz0+1) fC n5] = [PV.row 0 fC n5] from Oz (aa6 (by omega)) (rfl)) rfl rfl (cv ?_)
 refine sG hΩ (hg1 _) (cv ?_)
 refine sat_true (dK hΩ (aD hE) (b1 ++ [(Inst.mk 0 (Child.mk ByteArray.empty 0 ByteArray.empty (Value.mk 0 0 ByteArray.empty (Sl.mk [] (some [])) (Sl.mk [] (some [])) 0 ByteArray.empty false)) (Sl.mk [] (some [])) (Sl.mk [] (some [])) (Sl.mk [] (some [])) 0 false false (Value.mk 0 0 ByteArray.empty (Sl.mk [] (some [])) (Sl.mk [] (some [])) 0 ByteArray.empty false) ByteArray.empty false (Sl.mk [] (some [])) false false)])) (cv ?_)
 refine aH (dw hΩ (aD hE) EH) (cv ?_)
 refine qA hΩ (aD hE) (b1 ++ [(Inst.mk 0 (Child.mk ByteArray.empty 0 ByteArray.empty (Value.mk 0 0 ByteArray.empty (Sl.mk [] (some [])) (Sl.mk [] (some [])) 0 ByteArray.empty false)) (Sl.mk [] (some [])) (Sl.mk [] (some [])) (Sl.mk [] (some [])) 0 false false (Value.mk 0 0 ByteArray.empty (Sl.mk [] (some [])) (Sl.mk [] (some [])) 0 ByteArray.empty false) ByteArray.empty false (Sl.mk [] (some [])) false false)]) (ln b1) (Inst.mk zH (Child.mk Zr Zt Zu (Value.mk Qu Qv Qw (Sl.mk JO JQ) (Sl.mk JR JU) Qx Qy Qz)) (Sl.mk Zv Zw) (Sl.mk tY tZ) (Sl.mk uf ug) JF Ed JG (Value.mk Zx Zy Zz (Sl.mk QA QB) (Sl.mk QC QD) ZA ZB ZC) Zh ajm (Sl.mk ZE ZF) ajn ajo) fun l10 aye => cv ?_
 refine pF hΩ (hu1 _ l10) (cv ?_)
 exact fk h hk
 conv => arg 1; cbv
 refine Dy hΩ (hg0 _) (hu0 _ n5) (show up.ups (lz0+1) [PV.row (lz0+1) fC n5] = [PV.row 0 fC n5] from Oz (aa6 (by omega)) (rfl)) rfl rfl (cv ?_)
 refine sG hΩ (hg1 _) (cv ?_)
 refine sat_true (dK hΩ (aD hE) (b1 ++ [(Inst.mk 0 (Child.mk ByteArray.empty 0 ByteArray.empty (Value.mk 0 0 ByteArray.empty (Sl.mk [] (some [])) (Sl.mk [] (some [])) 0 ByteArray.empty false)) (Sl.mk [] (some [])) (Sl.mk [] (some [])) (Sl.mk [] (some [])) 0 false false (Value.mk 0 0 ByteArray.empty (Sl.mk [] (some [])) (Sl.mk [] (some [])) 0 ByteArray.empty false) ByteArray.empty false (Sl.mk [] (some [])) false false)])) (cv ?_)
 replace h := bJ h
 obtain ⟨⟨uz, ⟨Cv, FL, FM, ⟨Gj, Gl, Gm, ⟨Aq, Ar⟩, ⟨Au, Av⟩, Gn, Gp, Gq⟩⟩, ⟨PU, PW⟩, ⟨zD, zF⟩, ⟨uJ, uK⟩, Si, K6, Sj, ⟨PX, PY, PZ, ⟨Gr, Gs⟩, ⟨Gt, Gu⟩, P5, P6, Qa⟩, K7, abk, ⟨FN, FP⟩, abl, abm⟩, EH, h⟩ := h
 try dsimp only at h
 refine aH (dw hΩ (aD hE) EH) (cv ?_)
 refine sG hΩ (hg1 _) (cv ?_)
 refine sat_true (dK hΩ (aD hE) (b1 ++ [(Inst.mk 0 (Child.mk ByteArray.empty 0 ByteArray.empty (Value.mk 0 0 ByteArray.empty (Sl.mk [] (some [])) (Sl.mk [] (some [])) 0 ByteArray.empty false)) (Sl.mk [] (some [])) (Sl.mk [] (some [])) (Sl.mk [] (some [])) 0 false false (Value.mk 0 0 ByteArray.empty (Sl.mk [] (some [])) (Sl.mk [] (some [])) 0 ByteArray.empty false) ByteArray.empty false (Sl.mk [] (some [])) false false)])) (cv ?_)
 refine aH (dw hΩ (aD hE) EH) (cv ?_)
 refine qA hΩ (aD hE) (b1 ++ [(Inst.mk 0 (Child.mk ByteArray.empty 0 ByteArray.empty (Value.mk 0 0 ByteArray.empty (Sl.mk [] (some [])) (Sl.mk [] (some [])) 0 ByteArray.empty false)) (Sl.mk [] (some [])) (Sl.mk [] (some [])) (Sl.mk [] (some [])) 0 false false (Value.mk 0 0 ByteArray.empty (Sl.mk [] (some [])) (Sl.mk [] (some [])) 0 ByteArray.empty false) ByteArray.empty false (Sl.mk [] (some [])) false false)]) (ln b1) (Inst.mk zH (Child.mk Zr Zt Zu (Value.mk Qu Qv Qw (Sl.mk JO JQ) (Sl.mk JR JU) Qx Qy Qz)) (Sl.mk Zv Zw) (Sl.mk tY tZ) (Sl.mk uf ug) JF Ed JG (Value.mk Zx Zy Zz (Sl.mk QA QB) (Sl.mk QC QD) ZA ZB ZC) Zh ajm (Sl.mk ZE ZF) ajn ajo) fun l10 aye => cv ?_
 refine pF hΩ (hu1 _ l10) (cv ?_)
 exact fk h hk
 clear Hy
 try dsimp only at h
 obtain ⟨azL, an0⟩ : ∃ n, ln g12 = n := ⟨_, rfl⟩
 simp only [an0]
 conv => arg 1; cbv
 exact sp h
theorem azM {a0 : Inst} {args : List PV} (ha : [cZ E a0] = args) (st : St) :
 Sat (Ω.cf 44 args st) (fun q => q = (PV.fn 70 [.dA (j3 E a0)], st)) := by
 subst ha
 rcases a0 with ⟨bn, ⟨bK, aL, bL, ⟨aT, aU, aV, ⟨av, ay⟩, ⟨aA, aB⟩, aW, aX, aY⟩⟩, ⟨bU, cO⟩, ⟨aZ, bf⟩, ⟨aF, aJ⟩, dM, dI, dN, ⟨bX, bY, bZ, ⟨aP, aQ⟩, ⟨aR, aS⟩, cu, cB, cK⟩, dD, dY, ⟨bB, bH⟩, eB, eD⟩
 rw [aK hΩ (f := 44) (fn := Try.f44) (x := c44) rfl rfl ahp rfl rfl rfl]
 conv => arg 1; cbv
 exact ag3 rfl
set_option maxHeartbeats 4000000 in
theorem ok32 {a0 : Inst} {r : Unit} (h : P32 fu a0 = some r) {args : List PV} (ha : [cZ E a0] = args) (st : St) :
 Sat (Ω.cf 32 args st) (fun q => q = (PV.zh [], st)) := by
 subst ha
 rcases a0 with ⟨bn, ⟨bK, aL, bL, ⟨aT, aU, aV, ⟨av, ay⟩, ⟨aA, aB⟩, aW, aX, aY⟩⟩, ⟨bU, cO⟩, ⟨aZ, bf⟩, ⟨aF, aJ⟩, dM, dI, dN, ⟨bX, bY, bZ, ⟨aP, aQ⟩, ⟨aR, aS⟩, cu, cB, cK⟩, dD, dY, ⟨bB, bH⟩, eB, eD⟩
 rw [aK hΩ (f := 32) (fn := Try.f32) (x := c32) rfl rfl ahj rfl rfl rfl]
 unfold P32 at h
 try dsimp only at h
 conv => arg 1; cbv
 exact sp h
def acw (Ω : Om) (E : Enc) (nH : Inst → (Option X.Ex) → (List Inst) → Option (Bool × (Option X.Ex) × (List Inst))) : Prop := ∀ {a1 : Inst} {b0 c0 : Option X.Ex} {b3 c3 : List Inst} {RL : Int} {S : ((Option X.Ex) × Int × (List Inst)) → St} {lz0 lz1 RN dW fC gP EJ H9 : Nat} (hl1 : RN + lz0 = lz1) (e0 : b0 = c0) (e3 : b3 = c3) (Xa : ln b3 = RL) (hg0 : ∀ s, X.look (S s) lz0 dW = some (X.Obj.loop 155 [(4, PV.ptr 0 fC 0), (5, PV.ptr 0 H9 0)] s.1)) (hu0 : ∀ s x, X.dU (S s) lz0 dW (X.Obj.loop 155 [(4, PV.ptr 0 fC 0), (5, PV.ptr 0 H9 0)] x) = S (x, s.2.1, s.2.2)) (hg1 : ∀ s, X.look (S s) lz0 fC = some (X.Obj.box 59 [PV.fn 30 [.ptr RN gP 0]])) (hg2 : ∀ s, X.look (S s) lz1 gP = some (X.Obj.box 32 [PV.row 0 EJ s.2.1])) (hu2 : ∀ s x, X.dU (S s) lz1 gP (X.Obj.box 32 [PV.row 0 EJ x]) = S (s.1, x, s.2.2)) (hg3 : ∀ s, X.look (S s) lz1 EJ = some (X.Obj.row 34 31 (E.aG s.2.2) true none)) (hu3 : ∀ s x, X.dU (S s) lz1 EJ (X.Obj.row 34 31 (E.aG x) true none) = S (s.1, s.2.1, x)) (hg4 : ∀ s, X.look (S s) lz0 H9 = some (X.Obj.box 59 [PV.d (.fn 32 [])])) {r : Bool × (Option X.Ex) × (List Inst)}, nH a1 b0 b3 = some r → ∀ {args : List PV}, [PV.vP lz0 dW, cZ E a1] = args → ∀ {st : St}, S (c0, RL, c3) = st → ∀ {Xb : Int}, ln r.2.2 = Xb → Sat (Ω.rd 155 args st) (fun q => q = (PV.d (.bool r.1), S (r.2.1, Xb, r.2.2)))
def ak8 (Ω : Om) (E : Enc) (yK : Inst → (List Inst) → Option ((List Inst))) : Prop := ∀ {a0 : Inst} {b1 c1 : List Inst} {Sm : Int} {S : (Int × (List Inst)) → St} {lz0 dW fC : Nat} (e1 : b1 = c1) (afQ : ln b1 = Sm) (hg0 : ∀ s, X.look (S s) lz0 dW = some (X.Obj.box 32 [PV.row 0 fC s.1])) (hu0 : ∀ s x, X.dU (S s) lz0 dW (X.Obj.box 32 [PV.row 0 fC x]) = S (x, s.2)) (hg1 : ∀ s, X.look (S s) lz0 fC = some (X.Obj.row 34 31 (E.aG s.2) true none)) (hu1 : ∀ s x, X.dU (S s) lz0 fC (X.Obj.row 34 31 (E.aG x) true none) = S (s.1, x)) {r : (List Inst)}, yK a0 b1 = some r → ∀ {args : List PV}, [cZ E a0, PV.fn 30 [.ptr lz0 dW 0], PV.d (.fn 32 [])] = args → ∀ {st : St}, S (Sm, c1) = st → ∀ {rm1 : Int}, ln r = rm1 → Sat (Ω.cf 29 args st) (fun q => q = (PV.zh [], S (rm1, r)))
def ak9 (Ω : Om) (E : Enc) (yL : Inst → (Option X.Ex) → (List Inst) → Option ((Option X.Ex) × (List Inst))) : Prop := ∀ {a1 : Inst} {b0 c0 : Option X.Ex} {b3 c3 : List Inst} {RL : Int} {S : ((Option X.Ex) × Int × (List Inst)) → St} {lz0 lz1 RN dW fC gP EJ H9 : Nat} (hl1 : RN + lz0 = lz1) (e0 : b0 = c0) (e3 : b3 = c3) (Xa : ln b3 = RL) (hg0 : ∀ s, X.look (S s) lz0 dW = some (X.Obj.loop 155 [(4, PV.ptr 0 fC 0), (5, PV.ptr 0 H9 0)] s.1)) (hu0 : ∀ s x, X.dU (S s) lz0 dW (X.Obj.loop 155 [(4, PV.ptr 0 fC 0), (5, PV.ptr 0 H9 0)] x) = S (x, s.2.1, s.2.2)) (hg1 : ∀ s, X.look (S s) lz0 fC = some (X.Obj.box 59 [PV.fn 30 [.ptr RN gP 0]])) (hg2 : ∀ s, X.look (S s) lz1 gP = some (X.Obj.box 32 [PV.row 0 EJ s.2.1])) (hu2 : ∀ s x, X.dU (S s) lz1 gP (X.Obj.box 32 [PV.row 0 EJ x]) = S (s.1, x, s.2.2)) (hg3 : ∀ s, X.look (S s) lz1 EJ = some (X.Obj.row 34 31 (E.aG s.2.2) true none)) (hu3 : ∀ s x, X.dU (S s) lz1 EJ (X.Obj.row 34 31 (E.aG x) true none) = S (s.1, s.2.1, x)) (hg4 : ∀ s, X.look (S s) lz0 H9 = some (X.Obj.box 59 [PV.d (.fn 32 [])])) {r : (Option X.Ex) × (List Inst)}, yL a1 b0 b3 = some r → ∀ {args : List PV}, [PV.vP lz0 dW, PV.dA (j3 E a1)] = args → ∀ {st : St}, S (c0, RL, c3) = st → ∀ {Xb : Int}, ln r.2 = Xb → Sat (Ω.cf 70 args st) (fun q => q = (PV.zh [], S (r.1, Xb, r.2)))
set_option maxHeartbeats 4000000 in
theorem ala {nH : Inst → (Option X.Ex) → (List Inst) → Option (Bool × (Option X.Ex) × (List Inst))} (Xc : acw Ω E nH) {yK : Inst → (List Inst) → Option ((List Inst))} (acy : ak8 Ω E yK) {yL : Inst → (Option X.Ex) → (List Inst) → Option ((Option X.Ex) × (List Inst))} (acz : ak9 Ω E yL) {a1 : Inst} {b0 c0 : Option X.Ex} {b3 c3 : List Inst} {RL : Int} {S : ((Option X.Ex) × Int × (List Inst)) → St} {lz0 lz1 RN dW fC gP EJ H9 : Nat} (hl1 : RN + lz0 = lz1) (e0 : b0 = c0) (e3 : b3 = c3) (Xa : ln b3 = RL) (hg0 : ∀ s, X.look (S s) lz0 dW = some (X.Obj.loop 155 [(4, PV.ptr 0 fC 0), (5, PV.ptr 0 H9 0)] s.1)) (hu0 : ∀ s x, X.dU (S s) lz0 dW (X.Obj.loop 155 [(4, PV.ptr 0 fC 0), (5, PV.ptr 0 H9 0)] x) = S (x, s.2.1, s.2.2)) (hg1 : ∀ s, X.look (S s) lz0 fC = some (X.Obj.box 59 [PV.fn 30 [.ptr RN gP 0]])) (hg2 : ∀ s, X.look (S s) lz1 gP = some (X.Obj.box 32 [PV.row 0 EJ s.2.1])) (hu2 : ∀ s x, X.dU (S s) lz1 gP (X.Obj.box 32 [PV.row 0 EJ x]) = S (s.1, x, s.2.2)) (hg3 : ∀ s, X.look (S s) lz1 EJ = some (X.Obj.row 34 31 (E.aG s.2.2) true none)) (hu3 : ∀ s x, X.dU (S s) lz1 EJ (X.Obj.row 34 31 (E.aG x) true none) = S (s.1, s.2.1, x)) (hg4 : ∀ s, X.look (S s) lz0 H9 = some (X.Obj.box 59 [PV.d (.fn 32 [])])) {r : Bool × (Option X.Ex) × (List Inst)} (h : Ng fu nH yK yL a1 b0 b3 = some r) {args : List PV} (ha : [PV.vP lz0 dW, cZ E a1] = args) {st : St} (hst : S (c0, RL, c3) = st) {Xb : Int} (alb : ln r.2.2 = Xb) :
 Sat (Ω.rd 155 args st) (fun q => q = (PV.d (.bool r.1), S (r.2.1, Xb, r.2.2))) := by
 subst ha
 subst hst
 subst e0
 subst e3
 rcases a1 with ⟨gX, ⟨jv, jw, jy, ⟨iK, iL, iM, ⟨gq, gu⟩, ⟨gy, gB⟩, iN, iO, iP⟩⟩, ⟨kR, kS⟩, ⟨iA, iB⟩, ⟨gJ, gK⟩, nE, fT, nG, ⟨kT, kU, kV, ⟨iQ, iR⟩, ⟨iT, iU⟩, kW, kX, kY⟩, nI, qW, ⟨jF, jG⟩, qX, qY⟩
 rw [ag5 hΩ (g := 155) rfl rfl Yi]
 unfold Ng at h
 try dsimp only at h
 rcases b0 with _ | _
 try dsimp only at h
 refine afK hΩ (hg0 _) (by exact (show CQ (lz0+1) [(4, PV.ptr 0 fC 0), (5, PV.ptr 0 H9 0)] = [(4, PV.ptr (lz0+1) fC 0), (5, PV.ptr (lz0+1) H9 0)] by simp only [CQ, down, down.gZ, Nat.zero_add, ← hl1, Nat.add_assoc])) (cv ?_)
 refine Dz hΩ (hg0 _) (cv ?_)
 refine pF hΩ (hu0 _ _) (cv ?_)
 refine qz hΩ (hg1 _) (by exact (show down.gZ (lz0+1) [PV.fn 30 [.ptr RN gP 0]] = [PV.fn 30 [.ptr (lz1+1) gP 0]] by simp only [down.gZ, down, Nat.zero_add, ← hl1, Nat.add_assoc])) (cv ?_)
 refine qz hΩ (hg4 _) (by exact (show down.gZ (lz0+1) [PV.d (.fn 32 [])] = [PV.d (.fn 32 [])] by simp only [down.gZ, down, Nat.zero_add, ← hl1, Nat.add_assoc])) (cv ?_)
 replace h := bJ h
 obtain ⟨wr2, hx1, h⟩ := h
 obtain ⟨n3, KD⟩ : ∃ n, ln wr2 = n := ⟨_, rfl⟩
 refine dJ (acy (S := (fun (s : Int × (List Inst)) => ([X.Obj.box 34 (TJ E gX jv jw jy iK iL iM gq gu gy gB iN iO iP kR kS iA iB gJ gK nE fT nG kT kU kV iQ iR iT iU kW kX kY nI qW jF jG qX qY)] : List X.Obj) :: S ((some .normal), s.1, s.2))) (lz0 := (lz1+1)) (dW := gP) (fC := EJ) (c1 := b3) (Sm := RL) (by (try clear h); subst_vars; rfl) (by  first | rfl | ((try clear h); subst_vars; rfl) | ((try clear h); subst_vars; simp only [sF]) | assumption | ((try clear h); subst_vars; assumption)) (fun s => hg2 ((some .normal), s.1, s.2)) (fun s x => congrArg (List.cons _) (hu2 ((some .normal), s.1, s.2) x)) (fun s => hg3 ((some .normal), s.1, s.2)) (fun s x => congrArg (List.cons _) (hu3 ((some .normal), s.1, s.2) x)) hx1 (by (try clear h); subst_vars; rfl) (by (try clear h); subst_vars; rfl) KD) (cv ?_)
 refine Dz hΩ (hg0 _) (cv ?_)
 refine pF hΩ (hu0 _ _) (cv ?_)
 exact sp h
 try dsimp only at h
 cases h
set_option maxHeartbeats 4000000 in
theorem an1 {nH : Inst → (Option X.Ex) → (List Inst) → Option (Bool × (Option X.Ex) × (List Inst))} (Xc : acw Ω E nH) {yK : Inst → (List Inst) → Option ((List Inst))} (acy : ak8 Ω E yK) {yL : Inst → (Option X.Ex) → (List Inst) → Option ((Option X.Ex) × (List Inst))} (acz : ak9 Ω E yL) {a0 : Inst} {b1 c1 : List Inst} {Sm : Int} {S : (Int × (List Inst)) → St} {lz0 dW fC : Nat} (e1 : b1 = c1) (afQ : ln b1 = Sm) (hg0 : ∀ s, X.look (S s) lz0 dW = some (X.Obj.box 32 [PV.row 0 fC s.1])) (hu0 : ∀ s x, X.dU (S s) lz0 dW (X.Obj.box 32 [PV.row 0 fC x]) = S (x, s.2)) (hg1 : ∀ s, X.look (S s) lz0 fC = some (X.Obj.row 34 31 (E.aG s.2) true none)) (hu1 : ∀ s x, X.dU (S s) lz0 fC (X.Obj.row 34 31 (E.aG x) true none) = S (s.1, x)) {r : (List Inst)} (h : QE fu nH yK yL a0 b1 = some r) {args : List PV} (ha : [cZ E a0, PV.fn 30 [.ptr lz0 dW 0], PV.d (.fn 32 [])] = args) {st : St} (hst : S (Sm, c1) = st) {rm1 : Int} (hrm1 : ln r = rm1) :
 Sat (Ω.cf 29 args st) (fun q => q = (PV.zh [], S (rm1, r))) := by
 subst ha
 subst hst
 subst e1
 rcases a0 with ⟨bn, ⟨bK, aL, bL, ⟨aT, aU, aV, ⟨av, ay⟩, ⟨aA, aB⟩, aW, aX, aY⟩⟩, ⟨bU, cO⟩, ⟨aZ, bf⟩, ⟨aF, aJ⟩, dM, dI, dN, ⟨bX, bY, bZ, ⟨aP, aQ⟩, ⟨aR, aS⟩, cu, cB, cK⟩, dD, dY, ⟨bB, bH⟩, eB, eD⟩
 rw [aK hΩ (f := 29) (fn := Try.f29) (x := c29) rfl rfl ahg rfl rfl rfl]
 unfold QE at h
 try dsimp only at h
 conv => arg 1; cbv
 refine bO hΩ (cv ?_)
 revert h; refine eU (fun hb1 h => cv ?_) fun hb1 h => cv ?_
 exact sp h
 replace h := bJ h
 obtain ⟨wr3, hx2, h⟩ := h
 obtain ⟨n4, hn5⟩ : ∃ n, ln wr3 = n := ⟨_, rfl⟩
 refine dJ (auM hΩ hE (S := (fun (s : Int × (List Inst)) => ([X.Obj.box 59 [.fn 30 [.ptr (lz0+1) dW 0]], X.Obj.box 59 [.d (.fn 32 [])]] : List X.Obj) :: S (s.1, s.2))) (lz0 := (lz0+1)) (dW := dW) (fC := fC) (c1 := b1) (Sm := Sm) (by (try clear h); subst_vars; rfl) (by  first | rfl | ((try clear h); subst_vars; rfl) | ((try clear h); subst_vars; simp only [sF]) | assumption | ((try clear h); subst_vars; assumption)) (fun s => hg0 (s.1, s.2)) (fun s x => congrArg (List.cons _) (hu0 (s.1, s.2) x)) (fun s => hg1 (s.1, s.2)) (fun s x => congrArg (List.cons _) (hu1 (s.1, s.2) x)) hx2 (by (try clear h); subst_vars; rfl) (by (try clear h); subst_vars; rfl) hn5) (cv ?_)
 refine dJ (azM hΩ hE (a0 := (Inst.mk bn (Child.mk bK aL bL (Value.mk aT aU aV (Sl.mk av ay) (Sl.mk aA aB) aW aX aY)) (Sl.mk bU cO) (Sl.mk aZ bf) (Sl.mk aF aJ) dM dI dN (Value.mk bX bY bZ (Sl.mk aP aQ) (Sl.mk aR aS) cu cB cK) dD dY (Sl.mk bB bH) eB eD)) (by (try clear h); subst_vars; rfl) _) (cv ?_)
 replace h := bJ h
 obtain ⟨⟨wr7, wr8⟩, hx6, h⟩ := h
 try dsimp only at h
 obtain ⟨n9, auG⟩ : ∃ n, ln wr8 = n := ⟨_, rfl⟩
 refine dJ (acz (S := (fun (s : (Option X.Ex) × Int × (List Inst)) => ([X.Obj.box 59 [.fn 30 [.ptr (lz0+1) dW 0]], X.Obj.box 59 [.d (.fn 32 [])], X.Obj.loop 155 [(4, PV.ptr 0 0 0), (5, PV.ptr 0 1 0)] s.1] : List X.Obj) :: S (s.2.1, s.2.2))) (lz0 := 0) (lz1 := (lz0+1)) (RN := (lz0+1)) (dW := 2) (fC := 0) (gP := dW) (EJ := fC) (H9 := 1) (c0 := none) (c3 := wr3) (RL := n4) (by first | rfl | omega) (by (try clear h); subst_vars; rfl) (by (try clear h); subst_vars; rfl) (by  first | rfl | ((try clear h); subst_vars; rfl) | ((try clear h); subst_vars; simp only [sF]) | assumption | ((try clear h); subst_vars; assumption)) (fun s => rfl) (fun s x => rfl) (fun s => rfl) (fun s => hg0 (s.2.1, s.2.2)) (fun s x => congrArg (List.cons _) (hu0 (s.2.1, s.2.2) x)) (fun s => hg1 (s.2.1, s.2.2)) (fun s x => congrArg (List.cons _) (hu1 (s.2.1, s.2.2) x)) (fun s => rfl) hx6 (by (try clear h); subst_vars; rfl) (by (try clear h); subst_vars; rfl) auG) (cv ?_)
 rcases wr7 with _ | (_ | id | _)
 try dsimp only at h
 conv => arg 1; cbv
 replace h := bJ h
 obtain ⟨_, iF, h⟩ := h
 refine au (ok32 hΩ hE iF) (cv ?_)
 exact sp h
 try dsimp only at h
 cases h
 try dsimp only at h
 cases h
 try dsimp only at h
 cases h
set_option maxHeartbeats 4000000 in
theorem an2 {nH : Inst → (Option X.Ex) → (List Inst) → Option (Bool × (Option X.Ex) × (List Inst))} (Xc : acw Ω E nH) {yK : Inst → (List Inst) → Option ((List Inst))} (acy : ak8 Ω E yK) {yL : Inst → (Option X.Ex) → (List Inst) → Option ((Option X.Ex) × (List Inst))} (acz : ak9 Ω E yL) {a1 : Inst} {b0 c0 : Option X.Ex} {b3 c3 : List Inst} {RL : Int} {S : ((Option X.Ex) × Int × (List Inst)) → St} {lz0 lz1 RN dW fC gP EJ H9 : Nat} (hl1 : RN + lz0 = lz1) (e0 : b0 = c0) (e3 : b3 = c3) (Xa : ln b3 = RL) (hg0 : ∀ s, X.look (S s) lz0 dW = some (X.Obj.loop 155 [(4, PV.ptr 0 fC 0), (5, PV.ptr 0 H9 0)] s.1)) (hu0 : ∀ s x, X.dU (S s) lz0 dW (X.Obj.loop 155 [(4, PV.ptr 0 fC 0), (5, PV.ptr 0 H9 0)] x) = S (x, s.2.1, s.2.2)) (hg1 : ∀ s, X.look (S s) lz0 fC = some (X.Obj.box 59 [PV.fn 30 [.ptr RN gP 0]])) (hg2 : ∀ s, X.look (S s) lz1 gP = some (X.Obj.box 32 [PV.row 0 EJ s.2.1])) (hu2 : ∀ s x, X.dU (S s) lz1 gP (X.Obj.box 32 [PV.row 0 EJ x]) = S (s.1, x, s.2.2)) (hg3 : ∀ s, X.look (S s) lz1 EJ = some (X.Obj.row 34 31 (E.aG s.2.2) true none)) (hu3 : ∀ s x, X.dU (S s) lz1 EJ (X.Obj.row 34 31 (E.aG x) true none) = S (s.1, s.2.1, x)) (hg4 : ∀ s, X.look (S s) lz0 H9 = some (X.Obj.box 59 [PV.d (.fn 32 [])])) {r : (Option X.Ex) × (List Inst)} (h : QF fu nH yK yL a1 b0 b3 = some r) {args : List PV} (ha : [PV.vP lz0 dW, PV.dA (j3 E a1)] = args) {st : St} (hst : S (c0, RL, c3) = st) {Xb : Int} (alb : ln r.2 = Xb) :
 Sat (Ω.cf 70 args st) (fun q => q = (PV.zh [], S (r.1, Xb, r.2))) := by
 subst ha
 subst hst
 subst e0
 subst e3
 rcases a1 with ⟨gX, ⟨jv, jw, jy, ⟨iK, iL, iM, ⟨gq, gu⟩, ⟨gy, gB⟩, iN, iO, iP⟩⟩, ⟨kR, kS⟩, ⟨iA, iB⟩, ⟨gJ, gK⟩, nE, fT, nG, ⟨kT, kU, kV, ⟨iQ, iR⟩, ⟨iT, iU⟩, kW, kX, kY⟩, nI, qW, ⟨jF, jG⟩, qX, qY⟩
 rw [aK hΩ (f := 70) (fn := Try.f70) (x := c70) rfl rfl ahA rfl rfl rfl]
 unfold QF at h
 try dsimp only at h
 conv => arg 1; cbv
 replace h := bJ h
 obtain ⟨l1, hx2, h⟩ := h
 have hL3 : ([[.sl (E.aG gJ) (E.bR gK)]] : List (List D)) = E.gN l1 := by (have hy := Option.some.inj hx2; clear h; subst hy; subst hE; rfl)
 rw [hL3]
 clear hL3
 conv => arg 1; cbv
 replace h := bJ h
 obtain ⟨r4, hx5, h⟩ := h
 refine au (aug hΩ hE hx5) (cv ?_)
 replace h := bJ h
 obtain ⟨q, acA, h⟩ := h
 refine aN hΩ ((fun (q : (List (Sl Inst)) × (Option (List (Sl Inst)))) => (match q with | (nY, um) => (.normal, [(0, PV.vP (lz0+1) dW), (1, PV.dA (uL E gX jv jw jy iK iL iM gq gu gy gB iN iO iP kR kS iA iB gJ gK nE fT nG kT kU kV iQ iR iT iU kW kX kY nI qW jF jG qX qY)), (3, PV.d (.sl (E.gN nY) (E.iy um)))], nO :: S (b0, RL, b3)))) q) (fun k hk => ?_) ?_
 clear h
 have h := acA
 clear acA
 conv => arg 1; cbv
 revert h; refine eU (fun hb6 h => cv ?_) fun hb6 h => cv ?_
 refine bO hΩ (cv ?_)
 replace h := bJ h
 obtain ⟨l7, RG, h⟩ := h
 have hL9 : ([[.sl (E.aG jF) (E.bR jG)]] : List (List D)) = E.gN l7 := by (have hy := Option.some.inj RG; clear h; subst hy; subst hE; rfl)
 rw [hL9]
 clear hL9
 conv => arg 1; cbv
 refine sat_true (nD hΩ _) (cv ?_)
 refine sat_true (dL hΩ (lu hE) l7) (cv ?_)
 replace h := KY h
 rcases h with ⟨K9, h⟩ | ⟨K9, h⟩
 refine gW (bW hΩ (lu hE) (l := l7) K9) (cv ?_)
 exact fk h hk
 refine gQ (bW hΩ (lu hE) (l := l7) K9) (cv ?_)
 refine sat_true (arT hΩ (lu hE) l1 (some [])) (cv ?_)
 refine kD hΩ (lu hE) l1 l7 fun l11 hl12 n13 aAy => cv ?_
 refine bQ hΩ (lu hE) (l1 ++ l7) fun n15 hn16 => cv ?_
 replace h := jr h
 obtain ⟨kF, h⟩ := h
 refine kC kF (cv ?_)
 refine sat_true (dK hΩ (lu hE) (l1 ++ l7)) (cv ?_)
 exact fk h hk
 exact fk h hk
 clear acA
 rcases q with ⟨nY, um⟩
 try dsimp only at h
 conv => arg 1; cbv
 refine bQ hΩ (lu hE) nY fun n19 aAz => cv ?_
 replace h := bJ h
 obtain ⟨q, auN, h⟩ := h
 refine dV hΩ (fun (a : (Option X.Ex) × (List Inst) × Int) => (match a with | (g21, g22, i23) => ([(0, PV.vP (lz0+1) dW), (1, PV.dA (uL E gX jv jw jy iK iL iM gq gu gy gB iN iO iP kR kS iA iB gJ gK nE fT nG kT kU kV iQ iR iT iU kW kX kY nI qW jF jG qX qY)), (3, PV.d (.sl (E.gN nY) (E.iy um))), (18, PV.d (.sl (E.gN nY) (E.iy um))), (19, vi n19), (20, vi i23)], nO :: S (g21, (ln g22), g22)))) (fun (q : ((Option X.Ex) × (List Inst) × Int) ⊕ ((Option X.Ex) × (List Inst) × Int)) => (match q with | .inl (o55, o56, o57) => (.exit 0, [(0, PV.vP (lz0+1) dW), (1, PV.dA (uL E gX jv jw jy iK iL iM gq gu gy gB iN iO iP kR kS iA iB gJ gK nE fT nG kT kU kV iQ iR iT iU kW kX kY nI qW jF jG qX qY)), (3, PV.d (.sl (E.gN nY) (E.iy um))), (18, PV.d (.sl (E.gN nY) (E.iy um))), (19, vi n19), (20, vi o57)], nO :: S (o55, (ln o56), o56)) | .inr (o58, o59, o60) => (.ret, [(0, PV.vP (lz0+1) dW), (1, PV.dA (uL E gX jv jw jy iK iL iM gq gu gy gB iN iO iP kR kS iA iB gJ gK nE fT nG kT kU kV iQ iR iT iU kW kX kY nI qW jF jG qX qY)), (3, PV.d (.sl (E.gN nY) (E.iy um))), (18, PV.d (.sl (E.gN nY) (E.iy um))), (19, vi n19), (20, vi o60)], nO :: S (o58, (ln o59), o59)))) (b0, b3, 0) auN ?_ ?_
 clear h auN
 rintro ⟨g21, g22, i23⟩ q h
 unfold xD at h
 dsimp only at h
 obtain ⟨azN, an3⟩ : ∃ n, ln g22 = n := ⟨_, rfl⟩
 simp only [an3]
 conv => arg 1; cbv
 refine bO hΩ (cv ?_)
 revert h; refine eU (fun auO h => cv ?_) fun auO h => cv ?_
 refine sat_true (dL hΩ (lu hE) nY) (cv ?_)
 replace h := bJ h
 obtain ⟨⟨xC, JZ⟩, azO, h⟩ := h
 try dsimp only at h
 refine aH (dw hΩ (lu hE) azO) (cv ?_)
 refine bQ hΩ (aD hE) xC fun n27 aAA => cv ?_
 replace h := bJ h
 obtain ⟨q, auP, h⟩ := h
 refine dV hΩ (fun (a : (Option X.Ex) × (List Inst) × Int) => (match a with | (g29, g30, i31) => ([(0, PV.vP (lz0+1) dW), (1, PV.dA (uL E gX jv jw jy iK iL iM gq gu gy gB iN iO iP kR kS iA iB gJ gK nE fT nG kT kU kV iQ iR iT iU kW kX kY nI qW jF jG qX qY)), (3, PV.d (.sl (E.gN nY) (E.iy um))), (5, PV.d (.sl (E.aG xC) (E.bR JZ))), (18, PV.d (.sl (E.gN nY) (E.iy um))), (19, vi n19), (20, vi i23), (24, PV.d (.sl (E.aG xC) (E.bR JZ))), (25, vi n27), (26, vi i31)], nO :: S (g29, (ln g30), g30)))) (fun (q : ((Option X.Ex) × (List Inst) × Int) ⊕ ((Option X.Ex) × (List Inst) × Int)) => (match q with | .inl (o48, o49, o50) => (.exit 2, [(0, PV.vP (lz0+1) dW), (1, PV.dA (uL E gX jv jw jy iK iL iM gq gu gy gB iN iO iP kR kS iA iB gJ gK nE fT nG kT kU kV iQ iR iT iU kW kX kY nI qW jF jG qX qY)), (3, PV.d (.sl (E.gN nY) (E.iy um))), (5, PV.d (.sl (E.aG xC) (E.bR JZ))), (18, PV.d (.sl (E.gN nY) (E.iy um))), (19, vi n19), (20, vi i23), (24, PV.d (.sl (E.aG xC) (E.bR JZ))), (25, vi n27), (26, vi o50)], nO :: S (o48, (ln o49), o49)) | .inr (o51, o52, o53) => (.ret, [(0, PV.vP (lz0+1) dW), (1, PV.dA (uL E gX jv jw jy iK iL iM gq gu gy gB iN iO iP kR kS iA iB gJ gK nE fT nG kT kU kV iQ iR iT iU kW kX kY nI qW jF jG qX qY)), (3, PV.d (.sl (E.gN nY) (E.iy um))), (5, PV.d (.sl (E.aG xC) (E.bR JZ))), (18, PV.d (.sl (E.gN nY) (E.iy um))), (19, vi n19), (20, vi i23), (24, PV.d (.sl (E.aG xC) (E.bR JZ))), (25, vi n27), (26, vi o53)], nO :: S (o51, (ln o52), o52)))) (g21, g22, 0) auP ?_ ?_
 clear h auP
 rintro ⟨g29, g30, i31⟩ q h
 unfold zJ at h
 dsimp only at h
 obtain ⟨auQ, an4⟩ : ∃ n, ln g30 = n := ⟨_, rfl⟩
 simp only [an4]
 conv => arg 1; cbv
 refine bO hΩ (cv ?_)
 revert h; refine eU (fun azP h => cv ?_) fun azP h => cv ?_
 refine sat_true (dL hΩ (aD hE) xC) (cv ?_)
 replace h := bJ h
 obtain ⟨⟨ZG, ⟨V9, Wd, Wh, ⟨Nh, Ni, Nj, ⟨JV, JW⟩, ⟨JX, JY⟩, Nk, Nl, Nn⟩⟩, ⟨Wi, Wj⟩, ⟨Wm, Wn⟩, ⟨Wo, Wp⟩, aea, aeb, aec, ⟨Wq, Ws, Wt, ⟨Np, Nq⟩, ⟨Nr, Ns⟩, Wu, Wv, Ww⟩, aed, aee, ⟨Wx, Wy⟩, aef, aeg⟩, hx34, h⟩ := h
 try dsimp only at h
 refine aH (dw hΩ (aD hE) hx34) (cv ?_)
 replace h := bJ h
 obtain ⟨q, auR, h⟩ := h
 refine aN hΩ ((fun (q : (Option X.Ex) × (List Inst) × Bool) => (match q with | (g42, g43, i44) => ([(0, PV.vP (lz0+1) dW), (1, PV.dA (uL E gX jv jw jy iK iL iM gq gu gy gB iN iO iP kR kS iA iB gJ gK nE fT nG kT kU kV iQ iR iT iU kW kX kY nI qW jF jG qX qY)), (3, PV.d (.sl (E.gN nY) (E.iy um))), (5, PV.d (.sl (E.aG xC) (E.bR JZ))), (7, PV.ptr 0 0 0), (18, PV.d (.sl (E.gN nY) (E.iy um))), (19, vi n19), (20, vi i23), (24, PV.d (.sl (E.aG xC) (E.bR JZ))), (25, vi n27), (26, vi i31), (38, vb i44)], ([X.Obj.box 34 (TJ E ZG V9 Wd Wh Nh Ni Nj JV JW JX JY Nk Nl Nn Wi Wj Wm Wn Wo Wp aea aeb aec Wq Ws Wt Np Nq Nr Ns Wu Wv Ww aed aee Wx Wy aef aeg)] : List X.Obj) :: S (g42, (ln g43), g43)))) q) (fun k hk => ?_) ?_
 clear h
 have h := auR
 clear auR
 conv => arg 1; cbv
 revert h; refine eU (fun ak5 h => cv ?_) fun ak5 h => cv ?_
 rcases g29 with _ | _
 try dsimp only at h
 refine Dz hΩ (hg0 _) (cv ?_)
 replace h := bJ h
 obtain ⟨⟨r37, awK, asQ⟩, azQ, h⟩ := h
 try dsimp only at h
 obtain ⟨n40, azR⟩ : ∃ n, ln asQ = n := ⟨_, rfl⟩
 refine dJ (Xc (S := (fun (s : (Option X.Ex) × Int × (List Inst)) => ([X.Obj.box 34 (TJ E ZG V9 Wd Wh Nh Ni Nj JV JW JX JY Nk Nl Nn Wi Wj Wm Wn Wo Wp aea aeb aec Wq Ws Wt Np Nq Nr Ns Wu Wv Ww aed aee Wx Wy aef aeg)] : List X.Obj) :: S (s.1, s.2.1, s.2.2))) (lz0 := (lz0+1)) (lz1 := (lz1+1)) (RN := RN) (dW := dW) (fC := fC) (gP := gP) (EJ := EJ) (H9 := H9) (c0 := none) (c3 := g30) (RL := auQ) (by first | rfl | omega) (by (try clear h); subst_vars; rfl) (by (try clear h); subst_vars; rfl) (by  first | rfl | ((try clear h); subst_vars; rfl) | ((try clear h); subst_vars; simp only [sF]) | assumption | ((try clear h); subst_vars; assumption)) (fun s => hg0 (s.1, s.2.1, s.2.2)) (fun s x => congrArg (List.cons _) (hu0 (s.1, s.2.1, s.2.2) x)) (fun s => hg1 (s.1, s.2.1, s.2.2)) (fun s => hg2 (s.1, s.2.1, s.2.2)) (fun s x => congrArg (List.cons _) (hu2 (s.1, s.2.1, s.2.2) x)) (fun s => hg3 (s.1, s.2.1, s.2.2)) (fun s x => congrArg (List.cons _) (hu3 (s.1, s.2.1, s.2.2) x)) (fun s => hg4 (s.1, s.2.1, s.2.2)) azQ (by (try clear h); subst_vars; rfl) (by (try clear h); subst_vars; rfl) azR) (cv ?_)
 exact fk h hk
 try dsimp only at h
 cases h
 exact fk h hk
 clear auR
 rcases q with ⟨g42, g43, i44⟩
 try dsimp only at h
 obtain ⟨azS, an5⟩ : ∃ n, ln g43 = n := ⟨_, rfl⟩
 simp only [an5]
 conv => arg 1; cbv
 refine bO hΩ (cv ?_)
 revert h; refine eU (fun azT h => cv ?_) fun azT h => cv ?_
 obtain rfl := kM h
 subst_vars
 exact sR
 obtain rfl := kM h
 subst_vars
 exact s3
 obtain rfl := kM h
 subst_vars
 exact sL
 clear auP
 rcases q with ⟨o48, o49, o50⟩ | ⟨o51, o52, o53⟩
 dsimp only at h
 obtain ⟨azU, an6⟩ : ∃ n, ln o49 = n := ⟨_, rfl⟩
 simp only [an6]
 conv => arg 1; cbv
 obtain rfl := kM h
 subst_vars
 exact s3
 dsimp only at h
 obtain ⟨azV, an7⟩ : ∃ n, ln o52 = n := ⟨_, rfl⟩
 simp only [an7]
 conv => arg 1; cbv
 obtain rfl := kM h
 subst_vars
 exact sR
 obtain rfl := kM h
 subst_vars
 exact sL
 clear auN
 rcases q with ⟨o55, o56, o57⟩ | ⟨o58, o59, o60⟩
 dsimp only at h
 obtain ⟨azW, an8⟩ : ∃ n, ln o56 = n := ⟨_, rfl⟩
 simp only [an8]
 conv => arg 1; cbv
 exact sp h
 dsimp only at h
 obtain ⟨azX, an9⟩ : ∃ n, ln o59 = n := ⟨_, rfl⟩
 simp only [an9]
 conv => arg 1; cbv
 exact sp h
theorem alc : ∀ fu,
 (∀ {a1 : Inst} {b0 c0 : Option X.Ex} {b3 c3 : List Inst} {RL : Int} {S : ((Option X.Ex) × Int × (List Inst)) → St} {lz0 lz1 RN dW fC gP EJ H9 : Nat} (hl1 : RN + lz0 = lz1) (e0 : b0 = c0) (e3 : b3 = c3) (Xa : ln b3 = RL) (hg0 : ∀ s, X.look (S s) lz0 dW = some (X.Obj.loop 155 [(4, PV.ptr 0 fC 0), (5, PV.ptr 0 H9 0)] s.1)) (hu0 : ∀ s x, X.dU (S s) lz0 dW (X.Obj.loop 155 [(4, PV.ptr 0 fC 0), (5, PV.ptr 0 H9 0)] x) = S (x, s.2.1, s.2.2)) (hg1 : ∀ s, X.look (S s) lz0 fC = some (X.Obj.box 59 [PV.fn 30 [.ptr RN gP 0]])) (hg2 : ∀ s, X.look (S s) lz1 gP = some (X.Obj.box 32 [PV.row 0 EJ s.2.1])) (hu2 : ∀ s x, X.dU (S s) lz1 gP (X.Obj.box 32 [PV.row 0 EJ x]) = S (s.1, x, s.2.2)) (hg3 : ∀ s, X.look (S s) lz1 EJ = some (X.Obj.row 34 31 (E.aG s.2.2) true none)) (hu3 : ∀ s x, X.dU (S s) lz1 EJ (X.Obj.row 34 31 (E.aG x) true none) = S (s.1, s.2.1, x)) (hg4 : ∀ s, X.look (S s) lz0 H9 = some (X.Obj.box 59 [PV.d (.fn 32 [])])) {r : Bool × (Option X.Ex) × (List Inst)}, y9 fu a1 b0 b3 = some r → ∀ {args : List PV}, [PV.vP lz0 dW, cZ E a1] = args → ∀ {st : St}, S (c0, RL, c3) = st → ∀ {Xb : Int}, ln r.2.2 = Xb → Sat (Ω.rd 155 args st) (fun q => q = (PV.d (.bool r.1), S (r.2.1, Xb, r.2.2)))) ∧
 (∀ {a0 : Inst} {b1 c1 : List Inst} {Sm : Int} {S : (Int × (List Inst)) → St} {lz0 dW fC : Nat} (e1 : b1 = c1) (afQ : ln b1 = Sm) (hg0 : ∀ s, X.look (S s) lz0 dW = some (X.Obj.box 32 [PV.row 0 fC s.1])) (hu0 : ∀ s x, X.dU (S s) lz0 dW (X.Obj.box 32 [PV.row 0 fC x]) = S (x, s.2)) (hg1 : ∀ s, X.look (S s) lz0 fC = some (X.Obj.row 34 31 (E.aG s.2) true none)) (hu1 : ∀ s x, X.dU (S s) lz0 fC (X.Obj.row 34 31 (E.aG x) true none) = S (s.1, x)) {r : (List Inst)}, Ma fu a0 b1 = some r → ∀ {args : List PV}, [cZ E a0, PV.fn 30 [.ptr lz0 dW 0], PV.d (.fn 32 [])] = args → ∀ {st : St}, S (Sm, c1) = st → ∀ {rm1 : Int}, ln r = rm1 → Sat (Ω.cf 29 args st) (fun q => q = (PV.zh [], S (rm1, r)))) ∧
 (∀ {a1 : Inst} {b0 c0 : Option X.Ex} {b3 c3 : List Inst} {RL : Int} {S : ((Option X.Ex) × Int × (List Inst)) → St} {lz0 lz1 RN dW fC gP EJ H9 : Nat} (hl1 : RN + lz0 = lz1) (e0 : b0 = c0) (e3 : b3 = c3) (Xa : ln b3 = RL) (hg0 : ∀ s, X.look (S s) lz0 dW = some (X.Obj.loop 155 [(4, PV.ptr 0 fC 0), (5, PV.ptr 0 H9 0)] s.1)) (hu0 : ∀ s x, X.dU (S s) lz0 dW (X.Obj.loop 155 [(4, PV.ptr 0 fC 0), (5, PV.ptr 0 H9 0)] x) = S (x, s.2.1, s.2.2)) (hg1 : ∀ s, X.look (S s) lz0 fC = some (X.Obj.box 59 [PV.fn 30 [.ptr RN gP 0]])) (hg2 : ∀ s, X.look (S s) lz1 gP = some (X.Obj.box 32 [PV.row 0 EJ s.2.1])) (hu2 : ∀ s x, X.dU (S s) lz1 gP (X.Obj.box 32 [PV.row 0 EJ x]) = S (s.1, x, s.2.2)) (hg3 : ∀ s, X.look (S s) lz1 EJ = some (X.Obj.row 34 31 (E.aG s.2.2) true none)) (hu3 : ∀ s x, X.dU (S s) lz1 EJ (X.Obj.row 34 31 (E.aG x) true none) = S (s.1, s.2.1, x)) (hg4 : ∀ s, X.look (S s) lz0 H9 = some (X.Obj.box 59 [PV.d (.fn 32 [])])) {r : (Option X.Ex) × (List Inst)}, QG fu a1 b0 b3 = some r → ∀ {args : List PV}, [PV.vP lz0 dW, PV.dA (j3 E a1)] = args → ∀ {st : St}, S (c0, RL, c3) = st → ∀ {Xb : Int}, ln r.2 = Xb → Sat (Ω.cf 70 args st) (fun q => q = (PV.zh [], S (r.1, Xb, r.2)))) := by
 intro fu
 induction fu with
 | zero => exact ⟨(@fun _ _ _ _ _ _ _ _ _ _ _ _ _ _ _ _ _ _ _ _ _ _ _ _ _ _ _ _ h => by cases h), (@fun _ _ _ _ _ _ _ _ _ _ _ _ _ _ _ h => by cases h), (@fun _ _ _ _ _ _ _ _ _ _ _ _ _ _ _ _ _ _ _ _ _ _ _ _ _ _ _ _ h => by cases h)⟩
 | succ fu ih =>
  obtain ⟨acB, ald, ale⟩ := ih
  exact ⟨(@fun a1 b0 c0 b3 c3 RL S lz0 lz1 RN dW fC gP EJ H9 hl1 e0 e3 Xa hg0 hu0 hg1 hg2 hu2 hg3 hu3 hg4 r h args ha st hs Xb alb => ala (fu := fu) hΩ hE acB ald ale hl1 e0 e3 Xa hg0 hu0 hg1 hg2 hu2 hg3 hu3 hg4 h ha hs alb), (@fun a0 b1 c1 Sm S lz0 dW fC e1 afQ hg0 hu0 hg1 hu1 r h args ha st hs rm1 hrm1 => an1 (fu := fu) hΩ hE acB ald ale e1 afQ hg0 hu0 hg1 hu1 h ha hs hrm1), (@fun a1 b0 c0 b3 c3 RL S lz0 lz1 RN dW fC gP EJ H9 hl1 e0 e3 Xa hg0 hu0 hg1 hg2 hu2 hg3 hu3 hg4 r h args ha st hs Xb alb => an2 (fu := fu) hΩ hE acB ald ale hl1 e0 e3 Xa hg0 hu0 hg1 hg2 hu2 hg3 hu3 hg4 h ha hs alb)⟩
theorem auS : ∀ {a0 : Inst} {b1 c1 : List Inst} {Sm : Int} {S : (Int × (List Inst)) → St} {lz0 dW fC : Nat} (e1 : b1 = c1) (afQ : ln b1 = Sm) (hg0 : ∀ s, X.look (S s) lz0 dW = some (X.Obj.box 32 [PV.row 0 fC s.1])) (hu0 : ∀ s x, X.dU (S s) lz0 dW (X.Obj.box 32 [PV.row 0 fC x]) = S (x, s.2)) (hg1 : ∀ s, X.look (S s) lz0 fC = some (X.Obj.row 34 31 (E.aG s.2) true none)) (hu1 : ∀ s x, X.dU (S s) lz0 fC (X.Obj.row 34 31 (E.aG x) true none) = S (s.1, x)) {r : (List Inst)}, Ma fu a0 b1 = some r → ∀ {args : List PV}, [cZ E a0, PV.fn 30 [.ptr lz0 dW 0], PV.d (.fn 32 [])] = args → ∀ {st : St}, S (Sm, c1) = st → ∀ {rm1 : Int}, ln r = rm1 → Sat (Ω.cf 29 args st) (fun q => q = (PV.zh [], S (rm1, r))) := (alc hΩ hE fu).2.1
set_option maxHeartbeats 4000000 in
theorem auT {a0 : Inst} {r : (Sl Inst)} (h : P10 fu a0 = some r) {args : List PV} (ha : [cZ E a0] = args) (st : St) :
 Sat (Ω.cf 10 args st) (fun q => q = (PV.d (.sl (E.aG r.l) (E.bR r.x)), st)) := by
 subst ha
 rcases a0 with ⟨bn, ⟨bK, aL, bL, ⟨aT, aU, aV, ⟨av, ay⟩, ⟨aA, aB⟩, aW, aX, aY⟩⟩, ⟨bU, cO⟩, ⟨aZ, bf⟩, ⟨aF, aJ⟩, dM, dI, dN, ⟨bX, bY, bZ, ⟨aP, aQ⟩, ⟨aR, aS⟩, cu, cB, cK⟩, dD, dY, ⟨bB, bH⟩, eB, eD⟩
 rw [aK hΩ (f := 10) (fn := Try.f10) (x := c10) rfl rfl ag8 rfl rfl rfl]
 unfold P10 at h
 try dsimp only at h
 conv => arg 1; cbv
 refine fG hΩ (aD hE) fun l1 hl2 => cv ?_
 replace h := bJ h
 obtain ⟨wr4, hx3, h⟩ := h
 obtain ⟨n5, hn6⟩ : ∃ n, ln wr4 = n := ⟨_, rfl⟩
 refine dJ (auS hΩ hE (S := (fun (s : Int × (List Inst)) => ([X.Obj.row 34 31 (E.aG s.2) true none, X.Obj.box 32 [PV.row 0 0 s.1]] : List X.Obj) :: st)) (lz0 := 0) (dW := 1) (fC := 0) (c1 := l1) (Sm := 0) (by (try clear h); subst_vars; rfl) (by  first | rfl | ((try clear h); subst_vars; rfl) | ((try clear h); subst_vars; simp only [sF]) | assumption | ((try clear h); subst_vars; assumption)) (fun s => rfl) (fun s x => rfl) (fun s => rfl) (fun s x => rfl) hx3 (by (try clear h); subst_vars; rfl) (by (try clear h); subst_vars; rfl) hn6) (cv ?_)
 refine sat_true (dK hΩ (aD hE) wr4) (cv ?_)
 exact sp h
def arb (Ω : Om) (E : Enc) (EF : (Sl Inst) → Inst → Bool → Option ((Sl Inst) × Bool)) : Prop := ∀ {a0 : Sl Inst} {d0 : Inst} {b0 c0 : Bool} {S : Bool → St} {lz0 dW fC gP : Nat} (e0 : b0 = c0) (hg0 : ∀ s, X.look (S s) lz0 dW = some (X.Obj.box 4 (Gi E s))) (hu0 : ∀ s x, X.dU (S s) lz0 dW (X.Obj.box 4 (Gi E x)) = S x) (hg1 : ∀ s, X.look (S s) lz0 fC = some (X.Obj.box 58 [PV.fn 35 [.dA (j3 E d0), .ptr 0 dW 0, .ptr 0 gP 0]])) (hg2 : ∀ s, X.look (S s) lz0 gP = some (X.Obj.box 60 [PV.fn 33 [.ptr 0 dW 0, .ptr 0 fC 0]])) {r : (Sl Inst) × Bool}, EF a0 d0 b0 = some r → ∀ {args : List PV}, [PV.d (.sl (E.aG a0.l) (E.bR a0.x)), PV.ptr lz0 dW 0, PV.ptr lz0 fC 0] = args → ∀ {st : St}, S c0 = st → Sat (Ω.cf 33 args st) (fun q => q = (PV.d (.sl (E.aG r.1.l) (E.bR r.1.x)), S r.2))
def ard (Ω : Om) (E : Enc) (Cy : Inst → Inst → Inst → Bool → Option (Inst × Bool)) : Prop := ∀ {a0 : Inst} {a1 : Inst} {d0 : Inst} {b0 c0 : Bool} {S : Bool → St} {lz0 dW fC gP : Nat} (e0 : b0 = c0) (hg0 : ∀ s, X.look (S s) lz0 dW = some (X.Obj.box 4 (Gi E s))) (hu0 : ∀ s x, X.dU (S s) lz0 dW (X.Obj.box 4 (Gi E x)) = S x) (hg1 : ∀ s, X.look (S s) lz0 fC = some (X.Obj.box 60 [PV.fn 33 [.ptr 0 dW 0, .ptr 0 gP 0]])) (hg2 : ∀ s, X.look (S s) lz0 gP = some (X.Obj.box 58 [PV.fn 35 [.dA (j3 E d0), .ptr 0 dW 0, .ptr 0 fC 0]])) {r : Inst × Bool}, Cy a0 a1 d0 b0 = some r → ∀ {args : List PV}, [cZ E a0, PV.dA (j3 E a1), PV.ptr lz0 dW 0, PV.ptr lz0 fC 0] = args → ∀ {st : St}, S c0 = st → Sat (Ω.cf 35 args st) (fun q => q = (cZ E r.1, S r.2))
set_option maxHeartbeats 4000000 in
theorem aoa {EF : (Sl Inst) → Inst → Bool → Option ((Sl Inst) × Bool)} (acC : arb Ω E EF) {Cy : Inst → Inst → Inst → Bool → Option (Inst × Bool)} (alf : ard Ω E Cy) {a0 : Sl Inst} {d0 : Inst} {b0 c0 : Bool} {S : Bool → St} {lz0 dW fC gP : Nat} (e0 : b0 = c0) (hg0 : ∀ s, X.look (S s) lz0 dW = some (X.Obj.box 4 (Gi E s))) (hu0 : ∀ s x, X.dU (S s) lz0 dW (X.Obj.box 4 (Gi E x)) = S x) (hg1 : ∀ s, X.look (S s) lz0 fC = some (X.Obj.box 58 [PV.fn 35 [.dA (j3 E d0), .ptr 0 dW 0, .ptr 0 gP 0]])) (hg2 : ∀ s, X.look (S s) lz0 gP = some (X.Obj.box 60 [PV.fn 33 [.ptr 0 dW 0, .ptr 0 fC 0]])) {r : (Sl Inst) × Bool} (h : WL fu EF Cy a0 d0 b0 = some r) {args : List PV} (ha : [PV.d (.sl (E.aG a0.l) (E.bR a0.x)), PV.ptr lz0 dW 0, PV.ptr lz0 fC 0] = args) {st : St} (hst : S c0 = st) :
 Sat (Ω.cf 33 args st) (fun q => q = (PV.d (.sl (E.aG r.1.l) (E.bR r.1.x)), S r.2)) := by
 subst ha
 subst hst
 subst e0
 rcases a0 with ⟨aj, bF⟩
 rcases d0 with ⟨QH, ⟨Ef, Eh, Ei, ⟨xE, xG, xH, ⟨qZ, q9⟩, ⟨ru, rz⟩, xI, xJ, xK⟩⟩, ⟨Ej, El⟩, ⟨Em, En⟩, ⟨Eo, Ep⟩, QI, QJ, QK, ⟨Er, Es, Et, ⟨xL, xM⟩, ⟨xO, xP⟩, Eu, Ev, Ew⟩, QL, QM, ⟨Ey, Ez⟩, QN, QO⟩
 rw [aK hΩ (f := 33) (fn := Try.f33) (x := c33) rfl rfl ahk rfl rfl rfl]
 unfold WL at h
 try dsimp only at h
 conv => arg 1; cbv
 replace h := bJ h
 obtain ⟨r2, hx1, h⟩ := h
 obtain ⟨n3, KD⟩ : ∃ n, ln r2 = n := ⟨_, rfl⟩
 refine dJ (ax9 hΩ hE (st := nO :: S b0) hx1 (by (try clear h); subst_vars; rfl) rfl KD) (cv ?_)
 refine bQ hΩ (aD hE) aj fun n5 hn6 => cv ?_
 replace h := bJ h
 obtain ⟨q, auU, h⟩ := h
 refine dV hΩ (fun (a : (List Inst) × Bool × Int) => (match a with | (l7, g8, i9) => ([(1, PV.ptr (lz0+1) dW 0), (2, PV.ptr (lz0+1) fC 0), (4, PV.d (.sl [] (some []))), (5, PV.row 0 0 (ln l7)), (10, PV.d (.sl (E.aG aj) (E.bR bF))), (11, vi n5), (12, vi i9)], ([X.Obj.row 34 31 (E.aG l7) true none] : List X.Obj) :: S g8))) (fun (q : ((List Inst) × Bool × Int)) => (match q with | (o29, o30, o31) => (.exit 0, [(1, PV.ptr (lz0+1) dW 0), (2, PV.ptr (lz0+1) fC 0), (4, PV.d (.sl [] (some []))), (5, PV.row 0 0 (ln o29)), (10, PV.d (.sl (E.aG aj) (E.bR bF))), (11, vi n5), (12, vi o31)], ([X.Obj.row 34 31 (E.aG o29) true none] : List X.Obj) :: S o30))) (r2, b0, 0) auU ?_ ?_
 clear h auU
 rintro ⟨l7, g8, i9⟩ q h
 unfold J2 at h
 dsimp only at h
 obtain ⟨ayf, acD⟩ : ∃ n, ln l7 = n := ⟨_, rfl⟩
 simp only [acD]
 conv => arg 1; cbv
 refine bO hΩ (cv ?_)
 revert h; refine eU (fun K9 h => cv ?_) fun K9 h => cv ?_
 refine sat_true (dL hΩ (aD hE) aj) (cv ?_)
 replace h := bJ h
 obtain ⟨⟨TD, ⟨QS, QT, QU, ⟨J3, J4, J5, ⟨EA, EB⟩, ⟨EC, ED⟩, J6, J7, J8⟩⟩, ⟨QV, QW⟩, ⟨QX, QY⟩, ⟨QZ, Q0⟩, ZH, ZI, ZJ, ⟨Q5, Q6, Q7, ⟨J9, Ka⟩, ⟨Kc, Ke⟩, Q8, Q9, Ra⟩, ZK, ZL, ⟨Rb, Rf⟩, ZM, ZN⟩, RJ, h⟩ := h
 try dsimp only at h
 refine aH (dw hΩ (aD hE) RJ) (cv ?_)
 replace h := bJ h
 obtain ⟨YR, lC, h⟩ := h
 refine aN hΩ ((fun (q : Bool) => (match q with | YR => ([(1, PV.ptr (lz0+1) dW 0), (2, PV.ptr (lz0+1) fC 0), (4, PV.d (.sl [] (some []))), (5, PV.row 0 0 (ln l7)), (6, vi i9), (7, PV.ptr 0 1 0), (10, PV.d (.sl (E.aG aj) (E.bR bF))), (11, vi n5), (12, vi i9), (23, vb YR)], ([X.Obj.row 34 31 (E.aG l7) true none, X.Obj.box 34 (TJ E TD QS QT QU J3 J4 J5 EA EB EC ED J6 J7 J8 QV QW QX QY QZ Q0 ZH ZI ZJ Q5 Q6 Q7 J9 Ka Kc Ke Q8 Q9 Ra ZK ZL Rb Rf ZM ZN)] : List X.Obj) :: S g8))) YR) (fun k hk => ?_) ?_
 clear h
 have h := lC
 clear lC
 conv => arg 1; cbv
 refine qz hΩ (hg0 _) rfl (cv ?_)
 revert h; refine eU (fun rM h => cv ?_) fun rM h => cv ?_
 exact fk h hk
 exact fk h hk
 clear lC
 try dsimp only at h
 obtain ⟨ayf, acD⟩ : ∃ n, ln l7 = n := ⟨_, rfl⟩
 simp only [acD]
 conv => arg 1; cbv
 replace h := bJ h
 obtain ⟨q, aco, h⟩ := h
 refine aN hΩ ((fun (q : (List Inst) × Bool) => (match q with | (l24, g25) => (.normal, [(1, PV.ptr (lz0+1) dW 0), (2, PV.ptr (lz0+1) fC 0), (4, PV.d (.sl [] (some []))), (5, PV.row 0 0 (ln l24)), (6, vi i9), (7, PV.ptr 0 1 0), (10, PV.d (.sl (E.aG aj) (E.bR bF))), (11, vi n5), (12, vi i9)], ([X.Obj.row 34 31 (E.aG l24) true none, X.Obj.box 34 (TJ E TD QS QT QU J3 J4 J5 EA EB EC ED J6 J7 J8 QV QW QX QY QZ Q0 ZH ZI ZJ Q5 Q6 Q7 J9 Ka Kc Ke Q8 Q9 Ra ZK ZL Rb Rf ZM ZN)] : List X.Obj) :: S g25))) q) (fun k hk => ?_) ?_
 clear h
 have h := aco
 clear aco
 conv => arg 1; cbv
 revert h; refine eU (fun acp h => cv ?_) fun acp h => cv ?_
 refine qz hΩ (hg1 _) (by exact (show down.gZ (lz0+1) [PV.fn 35 [.dA (j3 E ⟨QH, ⟨Ef, Eh, Ei, ⟨xE, xG, xH, ⟨qZ, q9⟩, ⟨ru, rz⟩, xI, xJ, xK⟩⟩, ⟨Ej, El⟩, ⟨Em, En⟩, ⟨Eo, Ep⟩, QI, QJ, QK, ⟨Er, Es, Et, ⟨xL, xM⟩, ⟨xO, xP⟩, Eu, Ev, Ew⟩, QL, QM, ⟨Ey, Ez⟩, QN, QO⟩), .ptr 0 dW 0, .ptr 0 gP 0]] = [PV.fn 35 [.dA (uL E QH Ef Eh Ei xE xG xH qZ q9 ru rz xI xJ xK Ej El Em En Eo Ep QI QJ QK Er Es Et xL xM xO xP Eu Ev Ew QL QM Ey Ez QN QO), .ptr (lz0+1) dW 0, .ptr (lz0+1) gP 0]] by simp only [down.gZ, down, Nat.zero_add] <;> rfl)) (cv ?_)
 replace h := bJ h
 obtain ⟨⟨⟨ajp, ⟨abM, abN, abO, ⟨Wz, WA, WB, ⟨Rh, Ri⟩, ⟨Rj, Rk⟩, WC, WE, WG⟩⟩, ⟨abP, abQ⟩, ⟨abR, abS⟩, ⟨abT, abU⟩, ajq, ajr, ajs, ⟨abV, abW, abX, ⟨WH, WI⟩, ⟨WJ, WK⟩, abY, abZ, ab0⟩, ajt, aju, ⟨ab1, ab2⟩, ajv, ajw⟩, awL⟩, hx16, h⟩ := h
 try dsimp only at h
 refine dJ (alf (S := (fun (s : Bool) => ([X.Obj.row 34 31 (E.aG l7) true none, X.Obj.box 34 (TJ E TD QS QT QU J3 J4 J5 EA EB EC ED J6 J7 J8 QV QW QX QY QZ Q0 ZH ZI ZJ Q5 Q6 Q7 J9 Ka Kc Ke Q8 Q9 Ra ZK ZL Rb Rf ZM ZN)] : List X.Obj) :: S s)) (lz0 := (lz0+1)) (dW := dW) (fC := gP) (gP := fC) (c0 := g8) (by (try clear h); subst_vars; rfl) (fun s => hg0 s) (fun s x => congrArg (List.cons _) (hu0 s x)) (fun s => hg2 s) (fun s => hg1 s) hx16 (by (try clear h); subst_vars; rfl) (by (try clear h); subst_vars; rfl)) (cv ?_)
 refine sat_true (dK hΩ (aD hE) l7) (cv ?_)
 replace h := bJ h
 obtain ⟨⟨awM, ⟨asR, asS, asT, ⟨amZ, am0, am1, ⟨ajx, ajy⟩, ⟨ajz, ajA⟩, am2, am3, am4⟩⟩, ⟨asU, asV⟩, ⟨asW, asX⟩, ⟨asY, asZ⟩, awN, awO, awP, ⟨as0, as1, as2, ⟨am5, am6⟩, ⟨am7, am8⟩, as3, as4, as5⟩, awQ, awR, ⟨as6, as7⟩, awS, awT⟩, anJ, h⟩ := h
 try dsimp only at h
 refine aH (dw hΩ (aD hE) anJ) (cv ?_)
 refine sat_true (dK hΩ (aD hE) l7) (cv ?_)
 refine aH (dw hΩ (aD hE) anJ) (cv ?_)
 refine qA hΩ (aD hE) l7 i9 (Inst.mk ajp (Child.mk abM abN abO (Value.mk Wz WA WB (Sl.mk Rh Ri) (Sl.mk Rj Rk) WC WE WG)) (Sl.mk abP abQ) (Sl.mk abR abS) (Sl.mk abT abU) ajq ajr ajs (Value.mk abV abW abX (Sl.mk WH WI) (Sl.mk WJ WK) abY abZ ab0) ajt aju (Sl.mk ab1 ab2) ajv ajw) fun l21 Z6 => cv ?_
 exact fk h hk
 exact fk h hk
 clear aco
 rcases q with ⟨l24, g25⟩
 try dsimp only at h
 obtain ⟨azY, aob⟩ : ∃ n, ln l24 = n := ⟨_, rfl⟩
 simp only [aob]
 conv => arg 1; cbv
 obtain rfl := kM h
 subst_vars
 exact s3
 obtain rfl := kM h
 subst_vars
 exact sL
 clear auU
 rcases q with ⟨o29, o30, o31⟩
 dsimp only at h
 obtain ⟨azZ, aoc⟩ : ∃ n, ln o29 = n := ⟨_, rfl⟩
 simp only [aoc]
 conv => arg 1; cbv
 refine sat_true (dK hΩ (aD hE) o29) (cv ?_)
 exact sp h
set_option maxHeartbeats 4000000 in
theorem aod {EF : (Sl Inst) → Inst → Bool → Option ((Sl Inst) × Bool)} (acC : arb Ω E EF) {Cy : Inst → Inst → Inst → Bool → Option (Inst × Bool)} (alf : ard Ω E Cy) {a0 : Inst} {a1 : Inst} {d0 : Inst} {b0 c0 : Bool} {S : Bool → St} {lz0 dW fC gP : Nat} (e0 : b0 = c0) (hg0 : ∀ s, X.look (S s) lz0 dW = some (X.Obj.box 4 (Gi E s))) (hu0 : ∀ s x, X.dU (S s) lz0 dW (X.Obj.box 4 (Gi E x)) = S x) (hg1 : ∀ s, X.look (S s) lz0 fC = some (X.Obj.box 60 [PV.fn 33 [.ptr 0 dW 0, .ptr 0 gP 0]])) (hg2 : ∀ s, X.look (S s) lz0 gP = some (X.Obj.box 58 [PV.fn 35 [.dA (j3 E d0), .ptr 0 dW 0, .ptr 0 fC 0]])) {r : Inst × Bool} (h : K8 fu EF Cy a0 a1 d0 b0 = some r) {args : List PV} (ha : [cZ E a0, PV.dA (j3 E a1), PV.ptr lz0 dW 0, PV.ptr lz0 fC 0] = args) {st : St} (hst : S c0 = st) :
 Sat (Ω.cf 35 args st) (fun q => q = (cZ E r.1, S r.2)) := by
 subst ha
 subst hst
 subst e0
 rcases a0 with ⟨bn, ⟨bK, aL, bL, ⟨aT, aU, aV, ⟨av, ay⟩, ⟨aA, aB⟩, aW, aX, aY⟩⟩, ⟨bU, cO⟩, ⟨aZ, bf⟩, ⟨aF, aJ⟩, dM, dI, dN, ⟨bX, bY, bZ, ⟨aP, aQ⟩, ⟨aR, aS⟩, cu, cB, cK⟩, dD, dY, ⟨bB, bH⟩, eB, eD⟩
 rcases a1 with ⟨gX, ⟨jv, jw, jy, ⟨iK, iL, iM, ⟨gq, gu⟩, ⟨gy, gB⟩, iN, iO, iP⟩⟩, ⟨kR, kS⟩, ⟨iA, iB⟩, ⟨gJ, gK⟩, nE, fT, nG, ⟨kT, kU, kV, ⟨iQ, iR⟩, ⟨iT, iU⟩, kW, kX, kY⟩, nI, qW, ⟨jF, jG⟩, qX, qY⟩
 rcases d0 with ⟨QH, ⟨Ef, Eh, Ei, ⟨xE, xG, xH, ⟨qZ, q9⟩, ⟨ru, rz⟩, xI, xJ, xK⟩⟩, ⟨Ej, El⟩, ⟨Em, En⟩, ⟨Eo, Ep⟩, QI, QJ, QK, ⟨Er, Es, Et, ⟨xL, xM⟩, ⟨xO, xP⟩, Eu, Ev, Ew⟩, QL, QM, ⟨Ey, Ez⟩, QN, QO⟩
 rw [aK hΩ (f := 35) (fn := Try.f35) (x := c35) rfl rfl ahm rfl rfl rfl]
 unfold K8 at h
 try dsimp only at h
 conv => arg 1; cbv
 refine bO hΩ (cv ?_)
 revert h; refine eU (fun hb1 h => cv ?_) fun hb1 h => cv ?_
 refine aa7 hΩ (hg0 _) (hu0 _ true) rfl rfl (cv ?_)
 exact sp h
 refine qz hΩ (hg1 _) (by exact (show down.gZ (lz0+1) [PV.fn 33 [.ptr 0 dW 0, .ptr 0 gP 0]] = [PV.fn 33 [.ptr (lz0+1) dW 0, .ptr (lz0+1) gP 0]] by simp only [down.gZ, down, Nat.zero_add] <;> rfl)) (cv ?_)
 replace h := bJ h
 obtain ⟨⟨⟨JH, JI⟩, wr4⟩, hx2, h⟩ := h
 try dsimp only at h
 refine dJ (acC (S := (fun (s : Bool) => ([X.Obj.box 34 (TJ E bn bK aL bL aT aU aV av ay aA aB aW aX aY bU cO aZ bf aF aJ dM dI dN bX bY bZ aP aQ aR aS cu cB cK dD dY bB bH eB eD), X.Obj.box 34 [.d (.int .i64 0), .d (.str ByteArray.empty), .d (.int .u8 0), .d (.str ByteArray.empty), .d (.int .u8 0), .d (.int .i64 0), .d (.str ByteArray.empty), .d (.sl [] (some [])), .d (.sl [] (some [])), .d (.int .u8 0), .d (.str ByteArray.empty), .d (.bool false), .d (.sl [] (some [])), .d (.sl [] (some [])), .d (.sl [] (some [])), .d (.int .i64 0), .d (.bool false), .d (.bool false), .d (.int .u8 0), .d (.int .i64 0), .d (.str ByteArray.empty), .d (.sl [] (some [])), .d (.sl [] (some [])), .d (.int .u8 0), .d (.str ByteArray.empty), .d (.bool false), .d (.str ByteArray.empty), .d (.bool false), .d (.sl [] (some [])), .d (.bool false), .d (.bool false)]] : List X.Obj) :: S s)) (lz0 := (lz0+1)) (dW := dW) (fC := gP) (gP := fC) (c0 := b0) (by (try clear h); subst_vars; rfl) (fun s => hg0 s) (fun s x => congrArg (List.cons _) (hu0 s x)) (fun s => hg2 s) (fun s => hg1 s) hx2 (by (try clear h); subst_vars; rfl) (by (try clear h); subst_vars; rfl)) (cv ?_)
 replace h := bJ h
 obtain ⟨r5, hx6, h⟩ := h
 refine au (aug hΩ hE hx6) (cv ?_)
 replace h := bJ h
 obtain ⟨q, Hy, h⟩ := h
 refine aN hΩ ((fun (q : (List Inst) × (Option (List Inst)) × Bool) => (match q with | (aeh, aei, g12) => (.normal, [(1, PV.dA (uL E gX jv jw jy iK iL iM gq gu gy gB iN iO iP kR kS iA iB gJ gK nE fT nG kT kU kV iQ iR iT iU kW kX kY nI qW jF jG qX qY)), (2, PV.ptr (lz0+1) dW 0), (3, PV.ptr (lz0+1) fC 0), (4, PV.ptr 0 0 0), (5, PV.ptr 0 1 0)], ([X.Obj.box 34 (TJ E bn bK aL bL aT aU aV av ay aA aB aW aX aY bU cO aZ bf JH JI dM dI dN bX bY bZ aP aQ aR aS cu cB cK dD dY aeh aei eB eD), X.Obj.box 34 [.d (.int .i64 0), .d (.str ByteArray.empty), .d (.int .u8 0), .d (.str ByteArray.empty), .d (.int .u8 0), .d (.int .i64 0), .d (.str ByteArray.empty), .d (.sl [] (some [])), .d (.sl [] (some [])), .d (.int .u8 0), .d (.str ByteArray.empty), .d (.bool false), .d (.sl [] (some [])), .d (.sl [] (some [])), .d (.sl [] (some [])), .d (.int .i64 0), .d (.bool false), .d (.bool false), .d (.int .u8 0), .d (.int .i64 0), .d (.str ByteArray.empty), .d (.sl [] (some [])), .d (.sl [] (some [])), .d (.int .u8 0), .d (.str ByteArray.empty), .d (.bool false), .d (.str ByteArray.empty), .d (.bool false), .d (.sl [] (some [])), .d (.bool false), .d (.bool false)]] : List X.Obj) :: S g12))) q) (fun k hk => ?_) ?_
 clear h
 have h := Hy
 clear Hy
 conv => arg 1; cbv
 revert h; refine eU (fun Ck h => cv ?_) fun Ck h => cv ?_
 refine qz hΩ (hg1 _) (by exact (show down.gZ (lz0+1) [PV.fn 33 [.ptr 0 dW 0, .ptr 0 gP 0]] = [PV.fn 33 [.ptr (lz0+1) dW 0, .ptr (lz0+1) gP 0]] by simp only [down.gZ, down, Nat.zero_add] <;> rfl)) (cv ?_)
 replace h := bJ h
 obtain ⟨⟨⟨Zk, Zl⟩, awU⟩, RG, h⟩ := h
 try dsimp only at h
 refine dJ (acC (S := (fun (s : Bool) => ([X.Obj.box 34 (TJ E bn bK aL bL aT aU aV av ay aA aB aW aX aY bU cO aZ bf JH JI dM dI dN bX bY bZ aP aQ aR aS cu cB cK dD dY bB bH eB eD), X.Obj.box 34 [.d (.int .i64 0), .d (.str ByteArray.empty), .d (.int .u8 0), .d (.str ByteArray.empty), .d (.int .u8 0), .d (.int .i64 0), .d (.str ByteArray.empty), .d (.sl [] (some [])), .d (.sl [] (some [])), .d (.int .u8 0), .d (.str ByteArray.empty), .d (.bool false), .d (.sl [] (some [])), .d (.sl [] (some [])), .d (.sl [] (some [])), .d (.int .i64 0), .d (.bool false), .d (.bool false), .d (.int .u8 0), .d (.int .i64 0), .d (.str ByteArray.empty), .d (.sl [] (some [])), .d (.sl [] (some [])), .d (.int .u8 0), .d (.str ByteArray.empty), .d (.bool false), .d (.str ByteArray.empty), .d (.bool false), .d (.sl [] (some [])), .d (.bool false), .d (.bool false)]] : List X.Obj) :: S s)) (lz0 := (lz0+1)) (dW := dW) (fC := gP) (gP := fC) (c0 := wr4) (by (try clear h); subst_vars; rfl) (fun s => hg0 s) (fun s x => congrArg (List.cons _) (hu0 s x)) (fun s => hg2 s) (fun s => hg1 s) RG (by (try clear h); subst_vars; rfl) (by (try clear h); subst_vars; rfl)) (cv ?_)
 exact fk h hk
 exact fk h hk
 clear Hy
 rcases q with ⟨aeh, aei, g12⟩
 try dsimp only at h
 conv => arg 1; cbv
 exact sp h
theorem aoe : ∀ fu,
 (∀ {a0 : Sl Inst} {d0 : Inst} {b0 c0 : Bool} {S : Bool → St} {lz0 dW fC gP : Nat} (e0 : b0 = c0) (hg0 : ∀ s, X.look (S s) lz0 dW = some (X.Obj.box 4 (Gi E s))) (hu0 : ∀ s x, X.dU (S s) lz0 dW (X.Obj.box 4 (Gi E x)) = S x) (hg1 : ∀ s, X.look (S s) lz0 fC = some (X.Obj.box 58 [PV.fn 35 [.dA (j3 E d0), .ptr 0 dW 0, .ptr 0 gP 0]])) (hg2 : ∀ s, X.look (S s) lz0 gP = some (X.Obj.box 60 [PV.fn 33 [.ptr 0 dW 0, .ptr 0 fC 0]])) {r : (Sl Inst) × Bool}, TF fu a0 d0 b0 = some r → ∀ {args : List PV}, [PV.d (.sl (E.aG a0.l) (E.bR a0.x)), PV.ptr lz0 dW 0, PV.ptr lz0 fC 0] = args → ∀ {st : St}, S c0 = st → Sat (Ω.cf 33 args st) (fun q => q = (PV.d (.sl (E.aG r.1.l) (E.bR r.1.x)), S r.2))) ∧
 (∀ {a0 : Inst} {a1 : Inst} {d0 : Inst} {b0 c0 : Bool} {S : Bool → St} {lz0 dW fC gP : Nat} (e0 : b0 = c0) (hg0 : ∀ s, X.look (S s) lz0 dW = some (X.Obj.box 4 (Gi E s))) (hu0 : ∀ s x, X.dU (S s) lz0 dW (X.Obj.box 4 (Gi E x)) = S x) (hg1 : ∀ s, X.look (S s) lz0 fC = some (X.Obj.box 60 [PV.fn 33 [.ptr 0 dW 0, .ptr 0 gP 0]])) (hg2 : ∀ s, X.look (S s) lz0 gP = some (X.Obj.box 58 [PV.fn 35 [.dA (j3 E d0), .ptr 0 dW 0, .ptr 0 fC 0]])) {r : Inst × Bool}, EG fu a0 a1 d0 b0 = some r → ∀ {args : List PV}, [cZ E a0, PV.dA (j3 E a1), PV.ptr lz0 dW 0, PV.ptr lz0 fC 0] = args → ∀ {st : St}, S c0 = st → Sat (Ω.cf 35 args st) (fun q => q = (cZ E r.1, S r.2))) := by
 intro fu
 induction fu with
 | zero => exact ⟨(@fun _ _ _ _ _ _ _ _ _ _ _ _ _ _ _ h => by cases h), (@fun _ _ _ _ _ _ _ _ _ _ _ _ _ _ _ _ h => by cases h)⟩
 | succ fu ih =>
  obtain ⟨arf, arh⟩ := ih
  exact ⟨(@fun a0 d0 b0 c0 S lz0 dW fC gP e0 hg0 hu0 hg1 hg2 r h args ha st hs => aoa (fu := fu) hΩ hE arf arh e0 hg0 hu0 hg1 hg2 h ha hs), (@fun a0 a1 d0 b0 c0 S lz0 dW fC gP e0 hg0 hu0 hg1 hg2 r h args ha st hs => aod (fu := fu) hΩ hE arf arh e0 hg0 hu0 hg1 hg2 h ha hs)⟩
theorem auV : ∀ {a0 : Inst} {a1 : Inst} {d0 : Inst} {b0 c0 : Bool} {S : Bool → St} {lz0 dW fC gP : Nat} (e0 : b0 = c0) (hg0 : ∀ s, X.look (S s) lz0 dW = some (X.Obj.box 4 (Gi E s))) (hu0 : ∀ s x, X.dU (S s) lz0 dW (X.Obj.box 4 (Gi E x)) = S x) (hg1 : ∀ s, X.look (S s) lz0 fC = some (X.Obj.box 60 [PV.fn 33 [.ptr 0 dW 0, .ptr 0 gP 0]])) (hg2 : ∀ s, X.look (S s) lz0 gP = some (X.Obj.box 58 [PV.fn 35 [.dA (j3 E d0), .ptr 0 dW 0, .ptr 0 fC 0]])) {r : Inst × Bool}, EG fu a0 a1 d0 b0 = some r → ∀ {args : List PV}, [cZ E a0, PV.dA (j3 E a1), PV.ptr lz0 dW 0, PV.ptr lz0 fC 0] = args → ∀ {st : St}, S c0 = st → Sat (Ω.cf 35 args st) (fun q => q = (cZ E r.1, S r.2)) := (aoe hΩ hE fu).2
set_option maxHeartbeats 4000000 in
theorem auW {a0 : Inst} {a1 : Inst} {r : Inst} (h : P11 fu a0 a1 = some r) {args : List PV} (ha : [cZ E a0, cZ E a1] = args) (st : St) :
 Sat (Ω.cf 11 args st) (fun q => q = (cZ E r, st)) := by
 subst ha
 rcases a0 with ⟨bn, ⟨bK, aL, bL, ⟨aT, aU, aV, ⟨av, ay⟩, ⟨aA, aB⟩, aW, aX, aY⟩⟩, ⟨bU, cO⟩, ⟨aZ, bf⟩, ⟨aF, aJ⟩, dM, dI, dN, ⟨bX, bY, bZ, ⟨aP, aQ⟩, ⟨aR, aS⟩, cu, cB, cK⟩, dD, dY, ⟨bB, bH⟩, eB, eD⟩
 rcases a1 with ⟨gX, ⟨jv, jw, jy, ⟨iK, iL, iM, ⟨gq, gu⟩, ⟨gy, gB⟩, iN, iO, iP⟩⟩, ⟨kR, kS⟩, ⟨iA, iB⟩, ⟨gJ, gK⟩, nE, fT, nG, ⟨kT, kU, kV, ⟨iQ, iR⟩, ⟨iT, iU⟩, kW, kX, kY⟩, nI, qW, ⟨jF, jG⟩, qX, qY⟩
 rw [aK hΩ (f := 11) (fn := Try.f11) (x := c11) rfl rfl ag9 rfl rfl rfl]
 unfold P11 at h
 try dsimp only at h
 conv => arg 1; cbv
 replace h := bJ h
 obtain ⟨i2, hq11, h⟩ := h
 refine aN hΩ ((fun (q : Bool) => (match q with | i2 => ([(2, PV.dA (uL E bn bK aL bL aT aU aV av ay aA aB aW aX aY bU cO aZ bf aF aJ dM dI dN bX bY bZ aP aQ aR aS cu cB cK dD dY bB bH eB eD)), (3, PV.dA (uL E gX jv jw jy iK iL iM gq gu gy gB iN iO iP kR kS iA iB gJ gK nE fT nG kT kU kV iQ iR iT iU kW kX kY nI qW jF jG qX qY)), (4, PV.ptr 0 0 0), (5, PV.ptr 0 1 0), (6, PV.ptr 0 2 0), (7, PV.ptr 0 3 0), (17, vb i2)], ([X.Obj.box 34 [.d (.int .i64 0), .d (.str ByteArray.empty), .d (.int .u8 0), .d (.str ByteArray.empty), .d (.int .u8 0), .d (.int .i64 0), .d (.str ByteArray.empty), .d (.sl [] (some [])), .d (.sl [] (some [])), .d (.int .u8 0), .d (.str ByteArray.empty), .d (.bool false), .d (.sl [] (some [])), .d (.sl [] (some [])), .d (.sl [] (some [])), .d (.int .i64 0), .d (.bool false), .d (.bool false), .d (.int .u8 0), .d (.int .i64 0), .d (.str ByteArray.empty), .d (.sl [] (some [])), .d (.sl [] (some [])), .d (.int .u8 0), .d (.str ByteArray.empty), .d (.bool false), .d (.str ByteArray.empty), .d (.bool false), .d (.sl [] (some [])), .d (.bool false), .d (.bool false)], X.Obj.box 4 [.d (.bool false)], X.Obj.box 58 [.fn 35 [.dA (uL E gX jv jw jy iK iL iM gq gu gy gB iN iO iP kR kS iA iB gJ gK nE fT nG kT kU kV iQ iR iT iU kW kX kY nI qW jF jG qX qY), .ptr 0 1 0, .ptr 0 3 0]], X.Obj.box 60 [.fn 33 [.ptr 0 1 0, .ptr 0 2 0]]] : List X.Obj) :: st))) i2) (fun k hk => ?_) ?_
 clear h
 have h := hq11
 clear hq11
 conv => arg 1; cbv
 revert h; refine eU (fun hb1 h => cv ?_) fun hb1 h => cv ?_
 exact fk h hk
 exact fk h hk
 clear hq11
 try dsimp only at h
 conv => arg 1; cbv
 refine bO hΩ (cv ?_)
 revert h; refine eU (fun hb3 h => cv ?_) fun hb3 h => cv ?_
 replace h := bJ h
 obtain ⟨⟨awV, ⟨ap7, ap8, ap9, ⟨ajB, ajC, ajD, ⟨aej, aek⟩, ⟨ael, aem⟩, ajE, ajF, ajG⟩⟩, ⟨aqa, aqb⟩, ⟨aqc, aqd⟩, ⟨aqe, aqf⟩, awW, awX, awY, ⟨aqg, aqh, aqi, ⟨ajH, ajI⟩, ⟨ajJ, ajK⟩, aqj, aqk, aql⟩, awZ, aw0, ⟨aqm, aqn⟩, aw1, aw2⟩, hx5, h⟩ := h
 try dsimp only at h
 refine au (auL hΩ hE hx5) (cv ?_)
 exact sp h
 replace h := bJ h
 obtain ⟨⟨⟨aji, ⟨aqo, aqp, aqr, ⟨ajL, ajM, ajN, ⟨aen, aeo⟩, ⟨aep, aer⟩, ajO, ajP, ajQ⟩⟩, ⟨aqs, aqt⟩, ⟨Zm, Zn⟩, ⟨Zo, Zp⟩, ajj, ajk, ajl, ⟨aqu, aqv, aqw, ⟨ajR, ajS⟩, ⟨ajT, ajU⟩, aqx, aqy, aqz⟩, aw3, aw4, ⟨aqA, aqB⟩, aw5, aw6⟩, wr8⟩, hx6, h⟩ := h
 try dsimp only at h
 refine dJ (auV hΩ hE (S := (fun (s : Bool) => ([X.Obj.box 34 [.d (.int .i64 0), .d (.str ByteArray.empty), .d (.int .u8 0), .d (.str ByteArray.empty), .d (.int .u8 0), .d (.int .i64 0), .d (.str ByteArray.empty), .d (.sl [] (some [])), .d (.sl [] (some [])), .d (.int .u8 0), .d (.str ByteArray.empty), .d (.bool false), .d (.sl [] (some [])), .d (.sl [] (some [])), .d (.sl [] (some [])), .d (.int .i64 0), .d (.bool false), .d (.bool false), .d (.int .u8 0), .d (.int .i64 0), .d (.str ByteArray.empty), .d (.sl [] (some [])), .d (.sl [] (some [])), .d (.int .u8 0), .d (.str ByteArray.empty), .d (.bool false), .d (.str ByteArray.empty), .d (.bool false), .d (.sl [] (some [])), .d (.bool false), .d (.bool false)], X.Obj.box 4 (Gi E s), X.Obj.box 58 [.fn 35 [.dA (uL E gX jv jw jy iK iL iM gq gu gy gB iN iO iP kR kS iA iB gJ gK nE fT nG kT kU kV iQ iR iT iU kW kX kY nI qW jF jG qX qY), .ptr 0 1 0, .ptr 0 3 0]], X.Obj.box 60 [.fn 33 [.ptr 0 1 0, .ptr 0 2 0]]] : List X.Obj) :: st)) (lz0 := 0) (dW := 1) (fC := 3) (gP := 2) (c0 := false) (by (try clear h); subst_vars; rfl) (fun s => rfl) (fun s x => rfl) (fun s => rfl) (fun s => rfl) hx6 (by (try clear h); subst_vars; rfl) (by (try clear h); subst_vars; rfl)) (cv ?_)
 replace h := bJ h
 obtain ⟨⟨aw7, ⟨aqC, aqD, aqE, ⟨ajV, ajW, ajX, ⟨aes, aeu⟩, ⟨aev, aew⟩, ajY, ajZ, aj0⟩⟩, ⟨aqF, aqG⟩, ⟨aqH, aqI⟩, ⟨aqJ, aqK⟩, aw8, aw9, axa, ⟨aqL, aqM, aqN, ⟨aj1, aj2⟩, ⟨aj3, aj4⟩, aqO, aqP, aqQ⟩, axb, axc, ⟨aqR, aqS⟩, axd, axe⟩, acv, h⟩ := h
 try dsimp only at h
 refine au (auL hΩ hE acv) (cv ?_)
 exact sp h
def H41 (Ω : Om) (E : Enc) (p41 : Value → Value → Option (Bool)) : Prop := ∀ {a0 : Value} {a1 : Value} {r : Bool}, p41 a0 a1 = some r → ∀ {args : List PV}, [eO E a0, eO E a1] = args → ∀ (st : St), Sat (Ω.cf 41 args st) (fun q => q = (PV.d (.bool r), st))
def H67 (Ω : Om) (E : Enc) (p67 : (Sl Value) → (Sl Value) → Option (Bool)) : Prop := ∀ {a0 : Sl Value} {a1 : Sl Value} {r : Bool}, p67 a0 a1 = some r → ∀ {args : List PV}, [PV.d (.sl (E.bE a0.l) (E.bN a0.x)), PV.d (.sl (E.bE a1.l) (E.bN a1.x))] = args → ∀ (st : St), Sat (Ω.cf 67 args st) (fun q => q = (PV.d (.bool r), st))
def H68 (Ω : Om) (E : Enc) (p68 : (Sl Field) → (Sl Field) → Option (Bool)) : Prop := ∀ {a0 : Sl Field} {a1 : Sl Field} {r : Bool}, p68 a0 a1 = some r → ∀ {args : List PV}, [PV.d (.sl (E.aO a0.l) (E.bA a0.x)), PV.d (.sl (E.aO a1.l) (E.bA a1.x))] = args → ∀ (st : St), Sat (Ω.cf 68 args st) (fun q => q = (PV.d (.bool r), st))
def H91 (Ω : Om) (E : Enc) (TG : Field → Field → Option (Bool)) : Prop := ∀ {a0 : Field} {a1 : Field} {r : Bool}, TG a0 a1 = some r → ∀ {args : List PV}, [fO E a0, fO E a1] = args → ∀ (st : St), Sat (Ω.cf 91 args st) (fun q => q = (PV.d (.bool r), st))
set_option maxHeartbeats 4000000 in
theorem ayg {p41 : Value → Value → Option (Bool)} (alg : H41 Ω E p41) {p67 : (Sl Value) → (Sl Value) → Option (Bool)} (aof : H67 Ω E p67) {p68 : (Sl Field) → (Sl Field) → Option (Bool)} (aog : H68 Ω E p68) {TG : Field → Field → Option (Bool)} (aoh : H91 Ω E TG) {a0 : Value} {a1 : Value} {r : Bool} (h : am9 fu p41 p67 p68 TG a0 a1 = some r) {args : List PV} (ha : [eO E a0, eO E a1] = args) (st : St) :
 Sat (Ω.cf 41 args st) (fun q => q = (PV.d (.bool r), st)) := by
 subst ha
 rcases a0 with ⟨bn, gG, kr, ⟨aZ, bf⟩, ⟨aF, aJ⟩, dM, dI, dN⟩
 rcases a1 with ⟨gX, xw, GH, ⟨iA, iB⟩, ⟨gJ, gK⟩, nE, fT, nG⟩
 rw [aK hΩ (f := 41) (fn := Try.f41) (x := c41) rfl rfl ar3 rfl rfl rfl]
 unfold am9 at h
 try dsimp only at h
 conv => arg 1; cbv
 replace h := bJ h
 obtain ⟨i12, Hy, h⟩ := h
 refine aN hΩ ((fun (q : Bool) => (match q with | i12 => ([(2, PV.dA (zD2 E bn gG kr aZ bf aF aJ dM dI dN)), (3, PV.dA (zD2 E gX xw GH iA iB gJ gK nE fT nG)), (4, vb i12)], nO :: st))) i12) (fun k hk => ?_) ?_
 clear h
 have h := Hy
 clear Hy
 conv => arg 1; cbv
 revert h; refine eU (fun hb1 h => cv ?_) fun hb1 h => cv ?_
 refine ah hΩ (cv ?_)
 revert h; refine eU (fun hb2 h => cv ?_) fun hb2 h => cv ?_
 revert h; refine eU (fun hb3 h => cv ?_) fun hb3 h => cv ?_
 refine ah hΩ (cv ?_)
 replace h := bJ h
 obtain ⟨r4, hx5, h⟩ := h
 refine au (aof hx5) (cv ?_)
 revert h; refine eU (fun hb6 h => cv ?_) fun hb6 h => cv ?_
 replace h := bJ h
 obtain ⟨r7, RG, h⟩ := h
 refine au (aog RG) (cv ?_)
 revert h; refine eU (fun vN h => cv ?_) fun vN h => cv ?_
 refine ah hΩ (cv ?_)
 revert h; refine eU (fun K9 h => cv ?_) fun K9 h => cv ?_
 refine ah hΩ (cv ?_)
 revert h; refine eU (fun ak4 h => cv ?_) fun ak4 h => cv ?_
 exact fk h hk
 exact fk h hk
 refine ah hΩ (cv ?_)
 exact fk h hk
 refine ah hΩ (cv ?_)
 refine ah hΩ (cv ?_)
 exact fk h hk
 refine ah hΩ (cv ?_)
 refine ah hΩ (cv ?_)
 exact fk h hk
 refine ah hΩ (cv ?_)
 refine ah hΩ (cv ?_)
 refine ah hΩ (cv ?_)
 exact fk h hk
 refine ah hΩ (cv ?_)
 refine ah hΩ (cv ?_)
 refine ah hΩ (cv ?_)
 exact fk h hk
 refine ah hΩ (cv ?_)
 refine ah hΩ (cv ?_)
 refine ah hΩ (cv ?_)
 refine ah hΩ (cv ?_)
 exact fk h hk
 clear Hy
 try dsimp only at h
 conv => arg 1; cbv
 exact sp h
set_option maxHeartbeats 4000000 in
theorem ayh {p41 : Value → Value → Option (Bool)} (alg : H41 Ω E p41) {p67 : (Sl Value) → (Sl Value) → Option (Bool)} (aof : H67 Ω E p67) {p68 : (Sl Field) → (Sl Field) → Option (Bool)} (aog : H68 Ω E p68) {TG : Field → Field → Option (Bool)} (aoh : H91 Ω E TG) {a0 : Sl Value} {a1 : Sl Value} {r : Bool} (h : aj5 fu p41 p67 p68 TG a0 a1 = some r) {args : List PV} (ha : [PV.d (.sl (E.bE a0.l) (E.bN a0.x)), PV.d (.sl (E.bE a1.l) (E.bN a1.x))] = args) (st : St) :
 Sat (Ω.cf 67 args st) (fun q => q = (PV.d (.bool r), st)) := by
 subst ha
 rcases a0 with ⟨aj, bF⟩
 rcases a1 with ⟨dR, jI⟩
 rw [aK hΩ (f := 67) (fn := Try.f67) (x := c67) rfl rfl asa rfl rfl rfl]
 unfold aj5 at h
 try dsimp only at h
 conv => arg 1; cbv
 refine bQ hΩ (dG hE) aj fun n1 hn2 => cv ?_
 refine bQ hΩ (dG hE) dR fun n3 KD => cv ?_
 refine bO hΩ (cv ?_)
 revert h; refine eU (fun hb5 h => cv ?_) fun hb5 h => cv ?_
 exact sp h
 replace h := bJ h
 obtain ⟨q, gY, h⟩ := h
 refine dV hΩ (fun (a : Int) => (match a with | i6 => ([(0, PV.d (.sl (E.bE aj) (E.bN bF))), (1, PV.d (.sl (E.bE dR) (E.bN jI))), (4, vb false), (5, vi i6)], nO :: st))) (fun (q : Int ⊕ Int) => (match q with | .inl jP => (.exit 0, [(0, PV.d (.sl (E.bE aj) (E.bN bF))), (1, PV.d (.sl (E.bE dR) (E.bN jI))), (4, vb false), (5, vi jP)], nO :: st) | .inr oQ => (.ret, [(0, PV.d (.sl (E.bE aj) (E.bN bF))), (1, PV.d (.sl (E.bE dR) (E.bN jI))), (4, vb false), (5, vi oQ)], nO :: st))) 0 gY ?_ ?_
 clear h gY
 rintro i6 q h
 unfold WM at h
 dsimp only at h
 conv => arg 1; cbv
 refine bQ hΩ (dG hE) aj fun n7 hn8 => cv ?_
 refine bO hΩ (cv ?_)
 revert h; refine eU (fun vN h => cv ?_) fun vN h => cv ?_
 refine sat_true (dL hΩ (dG hE) aj) (cv ?_)
 replace h := bJ h
 obtain ⟨⟨gI, j6, qc, ⟨mo, mq⟩, ⟨jD, jE⟩, yA, qd, yB⟩, iF, h⟩ := h
 try dsimp only at h
 refine aH (dw hΩ (dG hE) iF) (cv ?_)
 refine sat_true (dL hΩ (dG hE) dR) (cv ?_)
 replace h := bJ h
 obtain ⟨⟨iG, mD, tV, ⟨nV, nW⟩, ⟨kH, kI⟩, Cw, tX, Cx⟩, iH, h⟩ := h
 try dsimp only at h
 refine aH (dw hΩ (dG hE) iH) (cv ?_)
 replace h := bJ h
 obtain ⟨zC, uG, h⟩ := h
 refine au (alg uG) (cv ?_)
 refine bO hΩ (cv ?_)
 revert h; refine eU (fun xS h => cv ?_) fun xS h => cv ?_
 obtain rfl := kM h
 subst_vars
 exact sR
 obtain rfl := kM h
 subst_vars
 exact s3
 obtain rfl := kM h
 subst_vars
 exact sL
 clear gY
 rcases q with jP | oQ
 dsimp only at h
 conv => arg 1; cbv
 exact sp h
 dsimp only at h
 conv => arg 1; cbv
 exact sp h
set_option maxHeartbeats 4000000 in
theorem ayi {p41 : Value → Value → Option (Bool)} (alg : H41 Ω E p41) {p67 : (Sl Value) → (Sl Value) → Option (Bool)} (aof : H67 Ω E p67) {p68 : (Sl Field) → (Sl Field) → Option (Bool)} (aog : H68 Ω E p68) {TG : Field → Field → Option (Bool)} (aoh : H91 Ω E TG) {a0 : Sl Field} {a1 : Sl Field} {r : Bool} (h : aj6 fu p41 p67 p68 TG a0 a1 = some r) {args : List PV} (ha : [PV.d (.sl (E.aO a0.l) (E.bA a0.x)), PV.d (.sl (E.aO a1.l) (E.bA a1.x))] = args) (st : St) :
 Sat (Ω.cf 68 args st) (fun q => q = (PV.d (.bool r), st)) := by
 subst ha
 rcases a0 with ⟨aj, bF⟩
 rcases a1 with ⟨dR, jI⟩
 rw [aK hΩ (f := 68) (fn := Try.f68) (x := c68) rfl rfl asb rfl rfl rfl]
 unfold aj6 at h
 try dsimp only at h
 conv => arg 1; cbv
 refine bQ hΩ (dH hE) aj fun n1 hn2 => cv ?_
 refine bQ hΩ (dH hE) dR fun n3 KD => cv ?_
 refine bO hΩ (cv ?_)
 revert h; refine eU (fun hb5 h => cv ?_) fun hb5 h => cv ?_
 exact sp h
 replace h := bJ h
 obtain ⟨q, gY, h⟩ := h
 refine dV hΩ (fun (a : Int) => (match a with | i6 => ([(0, PV.d (.sl (E.aO aj) (E.bA bF))), (1, PV.d (.sl (E.aO dR) (E.bA jI))), (4, vb false), (5, vi i6)], nO :: st))) (fun (q : Int ⊕ Int) => (match q with | .inl jP => (.exit 0, [(0, PV.d (.sl (E.aO aj) (E.bA bF))), (1, PV.d (.sl (E.aO dR) (E.bA jI))), (4, vb false), (5, vi jP)], nO :: st) | .inr oQ => (.ret, [(0, PV.d (.sl (E.aO aj) (E.bA bF))), (1, PV.d (.sl (E.aO dR) (E.bA jI))), (4, vb false), (5, vi oQ)], nO :: st))) 0 gY ?_ ?_
 clear h gY
 rintro i6 q h
 unfold WO at h
 dsimp only at h
 conv => arg 1; cbv
 refine bQ hΩ (dH hE) aj fun n7 hn8 => cv ?_
 refine bO hΩ (cv ?_)
 revert h; refine eU (fun vN h => cv ?_) fun vN h => cv ?_
 refine sat_true (dL hΩ (dH hE) aj) (cv ?_)
 replace h := bJ h
 obtain ⟨⟨gI, ⟨qD, qE, qF, ⟨yC, yD⟩, ⟨yE, yF⟩, DZ, D5, D6⟩⟩, iF, h⟩ := h
 try dsimp only at h
 refine aH (dw hΩ (dH hE) iF) (cv ?_)
 refine sat_true (dL hΩ (dH hE) dR) (cv ?_)
 replace h := bJ h
 obtain ⟨⟨iG, ⟨uD, uE, uF, ⟨Aw, Ay⟩, ⟨Az, AA⟩, Gv, Gw, Gx⟩⟩, iH, h⟩ := h
 try dsimp only at h
 refine aH (dw hΩ (dH hE) iH) (cv ?_)
 replace h := bJ h
 obtain ⟨zC, uG, h⟩ := h
 refine au (aoh uG) (cv ?_)
 refine bO hΩ (cv ?_)
 revert h; refine eU (fun xS h => cv ?_) fun xS h => cv ?_
 obtain rfl := kM h
 subst_vars
 exact sR
 obtain rfl := kM h
 subst_vars
 exact s3
 obtain rfl := kM h
 subst_vars
 exact sL
 clear gY
 rcases q with jP | oQ
 dsimp only at h
 conv => arg 1; cbv
 exact sp h
 dsimp only at h
 conv => arg 1; cbv
 exact sp h
set_option maxHeartbeats 4000000 in
theorem ayj {p41 : Value → Value → Option (Bool)} (alg : H41 Ω E p41) {p67 : (Sl Value) → (Sl Value) → Option (Bool)} (aof : H67 Ω E p67) {p68 : (Sl Field) → (Sl Field) → Option (Bool)} (aog : H68 Ω E p68) {TG : Field → Field → Option (Bool)} (aoh : H91 Ω E TG) {a0 : Field} {a1 : Field} {r : Bool} (h : aj7 fu p41 p67 p68 TG a0 a1 = some r) {args : List PV} (ha : [fO E a0, fO E a1] = args) (st : St) :
 Sat (Ω.cf 91 args st) (fun q => q = (PV.d (.bool r), st)) := by
 subst ha
 rcases a0 with ⟨bn, ⟨bK, aL, bL, ⟨qG, qH⟩, ⟨qI, qJ⟩, yG, yH, yI⟩⟩
 rcases a1 with ⟨gX, ⟨jv, jw, jy, ⟨Gy, Gz⟩, ⟨GA, GD⟩, Qb, Qc, Qd⟩⟩
 rw [aK hΩ (f := 91) (fn := Try.f91) (x := c91) rfl rfl asi rfl rfl rfl]
 unfold aj7 at h
 try dsimp only at h
 conv => arg 1; cbv
 replace h := bJ h
 obtain ⟨i4, WX, h⟩ := h
 refine aN hΩ ((fun (q : Bool) => (match q with | i4 => ([(2, PV.dA (zD3 E bn bK aL bL qG qH qI qJ yG yH yI)), (3, PV.dA (zD3 E gX jv jw jy Gy Gz GA GD Qb Qc Qd)), (4, vb i4)], nO :: st))) i4) (fun k hk => ?_) ?_
 clear h
 have h := WX
 clear WX
 conv => arg 1; cbv
 revert h; refine eU (fun hb1 h => cv ?_) fun hb1 h => cv ?_
 replace h := bJ h
 obtain ⟨r2, hx3, h⟩ := h
 refine au (alg hx3) (cv ?_)
 refine ah hΩ (cv ?_)
 exact fk h hk
 refine ah hΩ (cv ?_)
 exact fk h hk
 clear WX
 try dsimp only at h
 conv => arg 1; cbv
 exact sp h
theorem alh : ∀ fu,
 (∀ {a0 : Value} {a1 : Value} {r : Bool}, P41 fu a0 a1 = some r → ∀ {args : List PV}, [eO E a0, eO E a1] = args → ∀ (st : St), Sat (Ω.cf 41 args st) (fun q => q = (PV.d (.bool r), st))) ∧
 (∀ {a0 : Sl Value} {a1 : Sl Value} {r : Bool}, P67 fu a0 a1 = some r → ∀ {args : List PV}, [PV.d (.sl (E.bE a0.l) (E.bN a0.x)), PV.d (.sl (E.bE a1.l) (E.bN a1.x))] = args → ∀ (st : St), Sat (Ω.cf 67 args st) (fun q => q = (PV.d (.bool r), st))) ∧
 (∀ {a0 : Sl Field} {a1 : Sl Field} {r : Bool}, P68 fu a0 a1 = some r → ∀ {args : List PV}, [PV.d (.sl (E.aO a0.l) (E.bA a0.x)), PV.d (.sl (E.aO a1.l) (E.bA a1.x))] = args → ∀ (st : St), Sat (Ω.cf 68 args st) (fun q => q = (PV.d (.bool r), st))) ∧
 (∀ {a0 : Field} {a1 : Field} {r : Bool}, P91 fu a0 a1 = some r → ∀ {args : List PV}, [fO E a0, fO E a1] = args → ∀ (st : St), Sat (Ω.cf 91 args st) (fun q => q = (PV.d (.bool r), st))) := by
 intro fu
 induction fu with
 | zero => exact ⟨(fun h => (by cases h)), (fun h => (by cases h)), (fun h => (by cases h)), (fun h => (by cases h))⟩
 | succ fu ih =>
  obtain ⟨i41, i67, i68, i91⟩ := ih
  exact ⟨(fun h => @fun args ha st => ayg (fu := fu) hΩ hE i41 i67 i68 i91 h ha st), (fun h => @fun args ha st => ayh (fu := fu) hΩ hE i41 i67 i68 i91 h ha st), (fun h => @fun args ha st => ayi (fu := fu) hΩ hE i41 i67 i68 i91 h ha st), (fun h => @fun args ha st => ayj (fu := fu) hΩ hE i41 i67 i68 i91 h ha st)⟩
theorem aoi : ∀ {a0 : Value} {a1 : Value} {r : Bool}, P41 fu a0 a1 = some r → ∀ {args : List PV}, [eO E a0, eO E a1] = args → ∀ (st : St), Sat (Ω.cf 41 args st) (fun q => q = (PV.d (.bool r), st)) := (alh hΩ hE fu).1
theorem az0 : ∀ {a0 : Sl Value} {a1 : Sl Value} {r : Bool}, P67 fu a0 a1 = some r → ∀ {args : List PV}, [PV.d (.sl (E.bE a0.l) (E.bN a0.x)), PV.d (.sl (E.bE a1.l) (E.bN a1.x))] = args → ∀ (st : St), Sat (Ω.cf 67 args st) (fun q => q = (PV.d (.bool r), st)) := (alh hΩ hE fu).2.1
theorem ayk : ∀ {a0 : Sl Field} {a1 : Sl Field} {r : Bool}, P68 fu a0 a1 = some r → ∀ {args : List PV}, [PV.d (.sl (E.aO a0.l) (E.bA a0.x)), PV.d (.sl (E.aO a1.l) (E.bA a1.x))] = args → ∀ (st : St), Sat (Ω.cf 68 args st) (fun q => q = (PV.d (.bool r), st)) := (alh hΩ hE fu).2.2.1
set_option maxHeartbeats 4000000 in
theorem ayl {a0 : Child} {a1 : Child} {r : Bool} (h : P37 fu a0 a1 = some r) {args : List PV} (ha : [wJ E a0, wJ E a1] = args) (st : St) :
 Sat (Ω.cf 37 args st) (fun q => q = (PV.d (.bool r), st)) := by
 subst ha
 rcases a0 with ⟨bn, gG, kr, ⟨lG, lH, lJ, ⟨jd, je⟩, ⟨jf, jh⟩, lK, lM, lQ⟩⟩
 rcases a1 with ⟨gX, xw, GH, ⟨Rl, Rm, Rn, ⟨Hg, Hl⟩, ⟨Ho, Hq⟩, Rp, Rq, Rs⟩⟩
 rw [aK hΩ (f := 37) (fn := Try.f37) (x := c37) rfl rfl arZ rfl rfl rfl]
 unfold P37 at h
 try dsimp only at h
 conv => arg 1; cbv
 replace h := bJ h
 obtain ⟨i6, hq7, h⟩ := h
 refine aN hΩ ((fun (q : Bool) => (match q with | i6 => ([(2, PV.dA (zD4 E bn gG kr lG lH lJ jd je jf jh lK lM lQ)), (3, PV.dA (zD4 E gX xw GH Rl Rm Rn Hg Hl Ho Hq Rp Rq Rs)), (4, vb i6)], nO :: st))) i6) (fun k hk => ?_) ?_
 clear h
 have h := hq7
 clear hq7
 conv => arg 1; cbv
 revert h; refine eU (fun hb1 h => cv ?_) fun hb1 h => cv ?_
 refine ah hΩ (cv ?_)
 revert h; refine eU (fun hb2 h => cv ?_) fun hb2 h => cv ?_
 revert h; refine eU (fun hb3 h => cv ?_) fun hb3 h => cv ?_
 refine ah hΩ (cv ?_)
 replace h := bJ h
 obtain ⟨r4, hx5, h⟩ := h
 refine au (aoi hΩ hE hx5) (cv ?_)
 exact fk h hk
 refine ah hΩ (cv ?_)
 exact fk h hk
 refine ah hΩ (cv ?_)
 exact fk h hk
 refine ah hΩ (cv ?_)
 refine ah hΩ (cv ?_)
 exact fk h hk
 clear hq7
 try dsimp only at h
 conv => arg 1; cbv
 exact sp h
set_option maxHeartbeats 4000000 in
theorem aym {a0 : Sl ByteArray} {a1 : Sl ByteArray} {r : Bool} (h : aj8 fu a0 a1 = some r) {args : List PV} (ha : [PV.d (.sl (E.mh a0.l) (E.oK a0.x)), PV.d (.sl (E.mh a1.l) (E.oK a1.x))] = args) (st : St) :
 Sat (Ω.cf 126 args st) (fun q => q = (PV.d (.bool r), st)) := by
 subst ha
 rcases a0 with ⟨aj, bF⟩
 rcases a1 with ⟨dR, jI⟩
 rw [aK hΩ (f := 126) (fn := Try.f126) (x := awf) rfl rfl ams rfl rfl rfl]
 unfold aj8 at h
 try dsimp only at h
 conv => arg 1; cbv
 refine bQ hΩ (jc hE) aj fun n1 hn2 => cv ?_
 refine bQ hΩ (jc hE) dR fun n3 KD => cv ?_
 refine bO hΩ (cv ?_)
 revert h; refine eU (fun hb5 h => cv ?_) fun hb5 h => cv ?_
 exact sp h
 replace h := bJ h
 obtain ⟨q, mY, h⟩ := h
 refine dV hΩ (fun (a : Int) => (match a with | i6 => ([(0, PV.d (.sl (E.mh aj) (E.oK bF))), (1, PV.d (.sl (E.mh dR) (E.oK jI))), (4, vb false), (5, vi i6)], nO :: st))) (fun (q : Int ⊕ Int) => (match q with | .inl o16 => (.exit 0, [(0, PV.d (.sl (E.mh aj) (E.oK bF))), (1, PV.d (.sl (E.mh dR) (E.oK jI))), (4, vb false), (5, vi o16)], nO :: st) | .inr CO => (.ret, [(0, PV.d (.sl (E.mh aj) (E.oK bF))), (1, PV.d (.sl (E.mh dR) (E.oK jI))), (4, vb false), (5, vi CO)], nO :: st))) 0 mY ?_ ?_
 clear h mY
 rintro i6 q h
 unfold Nt at h
 dsimp only at h
 conv => arg 1; cbv
 refine bQ hΩ (jc hE) aj fun n7 hn8 => cv ?_
 refine bO hΩ (cv ?_)
 revert h; refine eU (fun vN h => cv ?_) fun vN h => cv ?_
 refine sat_true (dL hΩ (jc hE) aj) (cv ?_)
 replace h := bJ h
 obtain ⟨x10, iF, h⟩ := h
 refine aH (dw hΩ (jc hE) iF) (cv ?_)
 refine sat_true (dL hΩ (jc hE) dR) (cv ?_)
 replace h := bJ h
 obtain ⟨WQ, iH, h⟩ := h
 refine aH (dw hΩ (jc hE) iH) (cv ?_)
 refine bO hΩ (cv ?_)
 revert h; refine eU (fun ali h => cv ?_) fun ali h => cv ?_
 obtain rfl := kM h
 subst_vars
 exact sR
 obtain rfl := kM h
 subst_vars
 exact s3
 obtain rfl := kM h
 subst_vars
 exact sL
 clear mY
 rcases q with o16 | CO
 dsimp only at h
 conv => arg 1; cbv
 exact sp h
 dsimp only at h
 conv => arg 1; cbv
 exact sp h
def aoj (Ω : Om) (E : Enc) (zK : Act → Act → Option (Bool)) : Prop := ∀ {a0 : Act} {a1 : Act} {r : Bool}, zK a0 a1 = some r → ∀ {args : List PV}, [nU E a0, nU E a1] = args → ∀ (st : St), Sat (Ω.cf 108 args st) (fun q => q = (PV.d (.bool r), st))
def aok (Ω : Om) (E : Enc) (za : Expr → Expr → Option (Bool)) : Prop := ∀ {a0 : Expr} {a1 : Expr} {r : Bool}, za a0 a1 = some r → ∀ {args : List PV}, [kQ E a0, kQ E a1] = args → ∀ (st : St), Sat (Ω.cf 118 args st) (fun q => q = (PV.d (.bool r), st))
def aol (Ω : Om) (E : Enc) (zL : (Sl Expr) → (Sl Expr) → Option (Bool)) : Prop := ∀ {a0 : Sl Expr} {a1 : Sl Expr} {r : Bool}, zL a0 a1 = some r → ∀ {args : List PV}, [PV.d (.sl (E.dP a0.l) (E.d9 a0.x)), PV.d (.sl (E.dP a1.l) (E.d9 a1.x))] = args → ∀ (st : St), Sat (Ω.cf 125 args st) (fun q => q = (PV.d (.bool r), st))
def H90 (Ω : Om) (E : Enc) (Xr : (Sl Act) → (Sl Act) → Option (Bool)) : Prop := ∀ {a0 : Sl Act} {a1 : Sl Act} {r : Bool}, Xr a0 a1 = some r → ∀ {args : List PV}, [PV.d (.sl (E.fD a0.l) (E.fU a0.x)), PV.d (.sl (E.fD a1.l) (E.fU a1.x))] = args → ∀ (st : St), Sat (Ω.cf 90 args st) (fun q => q = (PV.d (.bool r), st))
set_option maxHeartbeats 4000000 in
theorem auX {zK : Act → Act → Option (Bool)} (ae5 : aoj Ω E zK) {za : Expr → Expr → Option (Bool)} (Z8 : aok Ω E za) {zL : (Sl Expr) → (Sl Expr) → Option (Bool)} (TN : aol Ω E zL) {Xr : (Sl Act) → (Sl Act) → Option (Bool)} (aom : H90 Ω E Xr) {a0 : Act} {a1 : Act} {r : Bool} (h : ZO fu zK za zL Xr a0 a1 = some r) {args : List PV} (ha : [nU E a0, nU E a1] = args) (st : St) :
 Sat (Ω.cf 108 args st) (fun q => q = (PV.d (.bool r), st)) := by
 subst ha
 rcases a0 with ⟨bn, gG, ⟨lT, lU, lV, ⟨ji, jk⟩, ⟨jl, jm⟩, ⟨yX, yY⟩, lW, ⟨yZ, y5⟩, ⟨y7, y8⟩, FK⟩⟩
 rcases a1 with ⟨gX, xw, ⟨Rt, Ru, Rv, ⟨Hr, Ht⟩, ⟨Hu, Hw⟩, ⟨ab3, ab4⟩, Rw, ⟨ab5, ab6⟩, ⟨ab7, ab8⟩, aj9⟩⟩
 rw [aK hΩ (f := 108) (fn := Try.f108) (x := awc) rfl rfl amm rfl rfl rfl]
 unfold ZO at h
 try dsimp only at h
 conv => arg 1; cbv
 replace h := bJ h
 obtain ⟨i5, hq6, h⟩ := h
 refine aN hΩ ((fun (q : Bool) => (match q with | i5 => ([(2, PV.dA (zD5 E bn gG lT lU lV ji jk jl jm yX yY lW yZ y5 y7 y8 FK)), (3, PV.dA (zD5 E gX xw Rt Ru Rv Hr Ht Hu Hw ab3 ab4 Rw ab5 ab6 ab7 ab8 aj9)), (4, vb i5)], nO :: st))) i5) (fun k hk => ?_) ?_
 clear h
 have h := hq6
 clear hq6
 conv => arg 1; cbv
 revert h; refine eU (fun hb1 h => cv ?_) fun hb1 h => cv ?_
 refine ah hΩ (cv ?_)
 revert h; refine eU (fun hb2 h => cv ?_) fun hb2 h => cv ?_
 replace h := bJ h
 obtain ⟨r3, hx4, h⟩ := h
 refine au (Z8 hx4) (cv ?_)
 exact fk h hk
 exact fk h hk
 refine ah hΩ (cv ?_)
 exact fk h hk
 clear hq6
 try dsimp only at h
 conv => arg 1; cbv
 exact sp h
set_option maxHeartbeats 4000000 in
theorem auY {zK : Act → Act → Option (Bool)} (ae5 : aoj Ω E zK) {za : Expr → Expr → Option (Bool)} (Z8 : aok Ω E za) {zL : (Sl Expr) → (Sl Expr) → Option (Bool)} (TN : aol Ω E zL) {Xr : (Sl Act) → (Sl Act) → Option (Bool)} (aom : H90 Ω E Xr) {a0 : Expr} {a1 : Expr} {r : Bool} (h : aex fu zK za zL Xr a0 a1 = some r) {args : List PV} (ha : [kQ E a0, kQ E a1] = args) (st : St) :
 Sat (Ω.cf 118 args st) (fun q => q = (PV.d (.bool r), st)) := by
 subst ha
 rcases a0 with ⟨bn, gG, kr, ⟨aZ, bf⟩, ⟨aF, aJ⟩, ⟨jS, jT⟩, dI, ⟨jU, jV⟩, ⟨wL, wM⟩, dD⟩
 rcases a1 with ⟨gX, xw, GH, ⟨iA, iB⟩, ⟨gJ, gK⟩, ⟨Rx, Ry⟩, fT, ⟨Rz, RA⟩, ⟨akb, akc⟩, nI⟩
 rw [aK hΩ (f := 118) (fn := Try.f118) (x := awd) rfl rfl amo rfl rfl rfl]
 unfold aex at h
 try dsimp only at h
 conv => arg 1; cbv
 replace h := bJ h
 obtain ⟨i20, acg, h⟩ := h
 refine aN hΩ ((fun (q : Bool) => (match q with | i20 => ([(2, PV.dA (zD6 E bn gG kr aZ bf aF aJ jS jT dI jU jV wL wM dD)), (3, PV.dA (zD6 E gX xw GH iA iB gJ gK Rx Ry fT Rz RA akb akc nI)), (4, vb i20)], nO :: st))) i20) (fun k hk => ?_) ?_
 clear h
 have h := acg
 clear acg
 conv => arg 1; cbv
 revert h; refine eU (fun hb1 h => cv ?_) fun hb1 h => cv ?_
 refine ah hΩ (cv ?_)
 revert h; refine eU (fun hb2 h => cv ?_) fun hb2 h => cv ?_
 revert h; refine eU (fun hb3 h => cv ?_) fun hb3 h => cv ?_
 refine ah hΩ (cv ?_)
 replace h := bJ h
 obtain ⟨r4, hx5, h⟩ := h
 refine au (TN hx5) (cv ?_)
 revert h; refine eU (fun hb6 h => cv ?_) fun hb6 h => cv ?_
 replace h := bJ h
 obtain ⟨r7, RG, h⟩ := h
 refine au (aym hΩ hE RG) (cv ?_)
 revert h; refine eU (fun vN h => cv ?_) fun vN h => cv ?_
 refine ah hΩ (cv ?_)
 replace h := bJ h
 obtain ⟨Xn, iF, h⟩ := h
 refine au (TN iF) (cv ?_)
 revert h; refine eU (fun auA h => cv ?_) fun auA h => cv ?_
 refine ah hΩ (cv ?_)
 revert h; refine eU (fun rM h => cv ?_) fun rM h => cv ?_
 replace h := bJ h
 obtain ⟨zC, uG, h⟩ := h
 refine au (TN uG) (cv ?_)
 revert h; refine eU (fun xS h => cv ?_) fun xS h => cv ?_
 replace h := bJ h
 obtain ⟨r17, auZ, h⟩ := h
 refine au (aom auZ) (cv ?_)
 refine ah hΩ (cv ?_)
 revert h; refine eU (fun au0 h => cv ?_) fun au0 h => cv ?_
 exact fk h hk
 exact fk h hk
 refine ah hΩ (cv ?_)
 exact fk h hk
 refine ah hΩ (cv ?_)
 exact fk h hk
 refine ah hΩ (cv ?_)
 refine ah hΩ (cv ?_)
 exact fk h hk
 refine ah hΩ (cv ?_)
 refine ah hΩ (cv ?_)
 refine ah hΩ (cv ?_)
 exact fk h hk
 refine ah hΩ (cv ?_)
 refine ah hΩ (cv ?_)
 refine ah hΩ (cv ?_)
 exact fk h hk
 refine ah hΩ (cv ?_)
 refine ah hΩ (cv ?_)
 refine ah hΩ (cv ?_)
 refine ah hΩ (cv ?_)
 exact fk h hk
 refine ah hΩ (cv ?_)
 refine ah hΩ (cv ?_)
 refine ah hΩ (cv ?_)
 refine ah hΩ (cv ?_)
 exact fk h hk
 refine ah hΩ (cv ?_)
 refine ah hΩ (cv ?_)
 refine ah hΩ (cv ?_)
 refine ah hΩ (cv ?_)
 refine ah hΩ (cv ?_)
 exact fk h hk
 clear acg
 try dsimp only at h
 conv => arg 1; cbv
 exact sp h
set_option maxHeartbeats 4000000 in
theorem au1 {zK : Act → Act → Option (Bool)} (ae5 : aoj Ω E zK) {za : Expr → Expr → Option (Bool)} (Z8 : aok Ω E za) {zL : (Sl Expr) → (Sl Expr) → Option (Bool)} (TN : aol Ω E zL) {Xr : (Sl Act) → (Sl Act) → Option (Bool)} (aom : H90 Ω E Xr) {a0 : Sl Expr} {a1 : Sl Expr} {r : Bool} (h : aey fu zK za zL Xr a0 a1 = some r) {args : List PV} (ha : [PV.d (.sl (E.dP a0.l) (E.d9 a0.x)), PV.d (.sl (E.dP a1.l) (E.d9 a1.x))] = args) (st : St) :
 Sat (Ω.cf 125 args st) (fun q => q = (PV.d (.bool r), st)) := by
 subst ha
 rcases a0 with ⟨aj, bF⟩
 rcases a1 with ⟨dR, jI⟩
 rw [aK hΩ (f := 125) (fn := Try.f125) (x := awe) rfl rfl amr rfl rfl rfl]
 unfold aey at h
 try dsimp only at h
 conv => arg 1; cbv
 refine bQ hΩ (eY hE) aj fun n1 hn2 => cv ?_
 refine bQ hΩ (eY hE) dR fun n3 KD => cv ?_
 refine bO hΩ (cv ?_)
 revert h; refine eU (fun hb5 h => cv ?_) fun hb5 h => cv ?_
 exact sp h
 replace h := bJ h
 obtain ⟨q, gY, h⟩ := h
 refine dV hΩ (fun (a : Int) => (match a with | i6 => ([(0, PV.d (.sl (E.dP aj) (E.d9 bF))), (1, PV.d (.sl (E.dP dR) (E.d9 jI))), (4, vb false), (5, vi i6)], nO :: st))) (fun (q : Int ⊕ Int) => (match q with | .inl jP => (.exit 0, [(0, PV.d (.sl (E.dP aj) (E.d9 bF))), (1, PV.d (.sl (E.dP dR) (E.d9 jI))), (4, vb false), (5, vi jP)], nO :: st) | .inr oQ => (.ret, [(0, PV.d (.sl (E.dP aj) (E.d9 bF))), (1, PV.d (.sl (E.dP dR) (E.d9 jI))), (4, vb false), (5, vi oQ)], nO :: st))) 0 gY ?_ ?_
 clear h gY
 rintro i6 q h
 unfold Nu at h
 dsimp only at h
 conv => arg 1; cbv
 refine bQ hΩ (eY hE) aj fun n7 hn8 => cv ?_
 refine bO hΩ (cv ?_)
 revert h; refine eU (fun vN h => cv ?_) fun vN h => cv ?_
 refine sat_true (dL hΩ (eY hE) aj) (cv ?_)
 replace h := bJ h
 obtain ⟨⟨gI, j6, qc, ⟨mo, mq⟩, ⟨jD, jE⟩, ⟨wN, wO⟩, qd, ⟨wP, wQ⟩, ⟨Pm, Pn⟩, tH⟩, iF, h⟩ := h
 try dsimp only at h
 refine aH (dw hΩ (eY hE) iF) (cv ?_)
 refine sat_true (dL hΩ (eY hE) dR) (cv ?_)
 replace h := bJ h
 obtain ⟨⟨iG, mD, tV, ⟨nV, nW⟩, ⟨kH, kI⟩, ⟨Bh, Bj⟩, tX, ⟨Bl, Bn⟩, ⟨VH, VI⟩, yJ⟩, iH, h⟩ := h
 try dsimp only at h
 refine aH (dw hΩ (eY hE) iH) (cv ?_)
 replace h := bJ h
 obtain ⟨zC, uG, h⟩ := h
 refine au (Z8 uG) (cv ?_)
 refine bO hΩ (cv ?_)
 revert h; refine eU (fun xS h => cv ?_) fun xS h => cv ?_
 obtain rfl := kM h
 subst_vars
 exact sR
 obtain rfl := kM h
 subst_vars
 exact s3
 obtain rfl := kM h
 subst_vars
 exact sL
 clear gY
 rcases q with jP | oQ
 dsimp only at h
 conv => arg 1; cbv
 exact sp h
 dsimp only at h
 conv => arg 1; cbv
 exact sp h
set_option maxHeartbeats 4000000 in
theorem ayn {zK : Act → Act → Option (Bool)} (ae5 : aoj Ω E zK) {za : Expr → Expr → Option (Bool)} (Z8 : aok Ω E za) {zL : (Sl Expr) → (Sl Expr) → Option (Bool)} (TN : aol Ω E zL) {Xr : (Sl Act) → (Sl Act) → Option (Bool)} (aom : H90 Ω E Xr) {a0 : Sl Act} {a1 : Sl Act} {r : Bool} (h : akd fu zK za zL Xr a0 a1 = some r) {args : List PV} (ha : [PV.d (.sl (E.fD a0.l) (E.fU a0.x)), PV.d (.sl (E.fD a1.l) (E.fU a1.x))] = args) (st : St) :
 Sat (Ω.cf 90 args st) (fun q => q = (PV.d (.bool r), st)) := by
 subst ha
 rcases a0 with ⟨aj, bF⟩
 rcases a1 with ⟨dR, jI⟩
 rw [aK hΩ (f := 90) (fn := Try.f90) (x := c90) rfl rfl ash rfl rfl rfl]
 unfold akd at h
 try dsimp only at h
 conv => arg 1; cbv
 refine bQ hΩ (fV hE) aj fun n1 hn2 => cv ?_
 refine bQ hΩ (fV hE) dR fun n3 KD => cv ?_
 refine bO hΩ (cv ?_)
 revert h; refine eU (fun hb5 h => cv ?_) fun hb5 h => cv ?_
 exact sp h
 replace h := bJ h
 obtain ⟨q, gY, h⟩ := h
 refine dV hΩ (fun (a : Int) => (match a with | i6 => ([(0, PV.d (.sl (E.fD aj) (E.fU bF))), (1, PV.d (.sl (E.fD dR) (E.fU jI))), (4, vb false), (5, vi i6)], nO :: st))) (fun (q : Int ⊕ Int) => (match q with | .inl jP => (.exit 0, [(0, PV.d (.sl (E.fD aj) (E.fU bF))), (1, PV.d (.sl (E.fD dR) (E.fU jI))), (4, vb false), (5, vi jP)], nO :: st) | .inr oQ => (.ret, [(0, PV.d (.sl (E.fD aj) (E.fU bF))), (1, PV.d (.sl (E.fD dR) (E.fU jI))), (4, vb false), (5, vi oQ)], nO :: st))) 0 gY ?_ ?_
 clear h gY
 rintro i6 q h
 unfold WR at h
 dsimp only at h
 conv => arg 1; cbv
 refine bQ hΩ (fV hE) aj fun n7 hn8 => cv ?_
 refine bO hΩ (cv ?_)
 revert h; refine eU (fun vN h => cv ?_) fun vN h => cv ?_
 refine sat_true (dL hΩ (fV hE) aj) (cv ?_)
 replace h := bJ h
 obtain ⟨⟨gI, j6, ⟨wR, wS, wT, ⟨qK, qL⟩, ⟨qM, qN⟩, ⟨Jh, Ji⟩, wU, ⟨Jj, Jk⟩, ⟨Jl, Jm⟩, Po⟩⟩, iF, h⟩ := h
 try dsimp only at h
 refine aH (dw hΩ (fV hE) iF) (cv ?_)
 refine sat_true (dL hΩ (fV hE) dR) (cv ?_)
 replace h := bJ h
 obtain ⟨⟨iG, mD, ⟨AY, AZ, A8, ⟨uR, uS⟩, ⟨uT, uU⟩, ⟨MS, MU⟩, A9, ⟨MV, MW⟩, ⟨MX, MZ⟩, VG⟩⟩, iH, h⟩ := h
 try dsimp only at h
 refine aH (dw hΩ (fV hE) iH) (cv ?_)
 replace h := bJ h
 obtain ⟨zC, uG, h⟩ := h
 refine au (ae5 uG) (cv ?_)
 refine bO hΩ (cv ?_)
 revert h; refine eU (fun xS h => cv ?_) fun xS h => cv ?_
 obtain rfl := kM h
 subst_vars
 exact sR
 obtain rfl := kM h
 subst_vars
 exact s3
 obtain rfl := kM h
 subst_vars
 exact sL
 clear gY
 rcases q with jP | oQ
 dsimp only at h
 conv => arg 1; cbv
 exact sp h
 dsimp only at h
 conv => arg 1; cbv
 exact sp h
theorem au2 : ∀ fu,
 (∀ {a0 : Act} {a1 : Act} {r : Bool}, Sk fu a0 a1 = some r → ∀ {args : List PV}, [nU E a0, nU E a1] = args → ∀ (st : St), Sat (Ω.cf 108 args st) (fun q => q = (PV.d (.bool r), st))) ∧
 (∀ {a0 : Expr} {a1 : Expr} {r : Bool}, ZP fu a0 a1 = some r → ∀ {args : List PV}, [kQ E a0, kQ E a1] = args → ∀ (st : St), Sat (Ω.cf 118 args st) (fun q => q = (PV.d (.bool r), st))) ∧
 (∀ {a0 : Sl Expr} {a1 : Sl Expr} {r : Bool}, ab9 fu a0 a1 = some r → ∀ {args : List PV}, [PV.d (.sl (E.dP a0.l) (E.d9 a0.x)), PV.d (.sl (E.dP a1.l) (E.d9 a1.x))] = args → ∀ (st : St), Sat (Ω.cf 125 args st) (fun q => q = (PV.d (.bool r), st))) ∧
 (∀ {a0 : Sl Act} {a1 : Sl Act} {r : Bool}, P90 fu a0 a1 = some r → ∀ {args : List PV}, [PV.d (.sl (E.fD a0.l) (E.fU a0.x)), PV.d (.sl (E.fD a1.l) (E.fU a1.x))] = args → ∀ (st : St), Sat (Ω.cf 90 args st) (fun q => q = (PV.d (.bool r), st))) := by
 intro fu
 induction fu with
 | zero => exact ⟨(fun h => (by cases h)), (fun h => (by cases h)), (fun h => (by cases h)), (fun h => (by cases h))⟩
 | succ fu ih =>
  obtain ⟨aon, aoo, aop, i90⟩ := ih
  exact ⟨(fun h => @fun args ha st => auX (fu := fu) hΩ hE aon aoo aop i90 h ha st), (fun h => @fun args ha st => auY (fu := fu) hΩ hE aon aoo aop i90 h ha st), (fun h => @fun args ha st => au1 (fu := fu) hΩ hE aon aoo aop i90 h ha st), (fun h => @fun args ha st => ayn (fu := fu) hΩ hE aon aoo aop i90 h ha st)⟩
theorem au3 : ∀ {a0 : Sl Act} {a1 : Sl Act} {r : Bool}, P90 fu a0 a1 = some r → ∀ {args : List PV}, [PV.d (.sl (E.fD a0.l) (E.fU a0.x)), PV.d (.sl (E.fD a1.l) (E.fU a1.x))] = args → ∀ (st : St), Sat (Ω.cf 90 args st) (fun q => q = (PV.d (.bool r), st)) := (au2 hΩ hE fu).2.2.2
end Go.Proofs.Ytedfkehkcaaplaa
