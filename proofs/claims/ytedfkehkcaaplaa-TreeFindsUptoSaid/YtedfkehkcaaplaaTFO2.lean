/- T -/
import Derived.Test.YtedfkehkcaaplaaTFO1
namespace Go.Proofs.Ytedfkehkcaaplaa
open Go Go.X
set_option linter.unusedVariables false
variable {Ω : Om} {E : Enc} (hΩ : real (call S) = Ω) (hE : fH = E) {fu : Nat}
include hΩ hE
set_option maxRecDepth 100000
set_option maxHeartbeats 4000000
theorem acJ {a0 : Inst} {b1 c1 : List Inst} {Fe : Int} {S : (Int × (List Inst)) → St} {lz0 bO dw : Nat} (e1 : b1 = c1) (RS : ln b1 = Fe) (hg0 : ∀ s, X.look (S s) lz0 bO = some (X.Obj.box 32 [PV.row 0 dw s.1])) (hu0 : ∀ s x, X.bJ (S s) lz0 bO (X.Obj.box 32 [PV.row 0 dw x]) = S (x, s.2)) (hg1 : ∀ s, X.look (S s) lz0 dw = some (X.Obj.row 34 31 (E.au s.2) true none)) (hu1 : ∀ s x, X.bJ (S s) lz0 dw (X.Obj.row 34 31 (E.au x) true none) = S (s.1, x)) {r : (List Inst)} (h : Mk fu a0 b1 = some r) {args : List PV} (ha : [bg E a0, PV.ptr lz0 bO 0] = args) {st : St} (hst : S (Fe, c1) = st) {OD : Int} (hrm1 : ln r = OD) :
 Sat (Ω.cf 30 args st) (fun q => q = (PV.pG [], S (OD, r))) := by
 subst ha
 subst hst
 subst e1
 rcases a0 with ⟨c8, ⟨c9, d0, d1, ⟨d2, d3, d4, ⟨d5, d6⟩, ⟨d7, d8⟩, d9, e0, e3⟩⟩, ⟨e4, e5⟩, ⟨e6, e7⟩, ⟨e8, e9⟩, f0, f1, f2, ⟨f3, f4, f5, ⟨f6, f7⟩, ⟨f8, f9⟩, g0, g1, g2⟩, g3, g4, ⟨g5, g6⟩, g7, g8⟩
 rw [aC hΩ (f := 30) (fn := Try.f30) rfl rfl rfl rfl rfl rfl]
 unfold Mk at h
 try dsimp only at h
 refine cv ?_
 replace h := aQ h
 obtain ⟨g12, c, h⟩ := h
 refine aH hΩ ((fun (q : (List Inst)) => (match q with | g12 => ([(0, PV.agg (Fb E c8 c9 d0 d1 d2 d3 d4 d5 d6 d7 d8 d9 e0 e3 e4 e5 e6 e7 e8 e9 f0 f1 f2 f3 f4 f5 f6 f7 f8 f9 g0 g1 g2 g3 g4 g5 g6 g7 g8)), (1, PV.ptr (lz0+1) bO 0), (2, PV.aS (jW E c8 c9 d0 d1 d2 d3 d4 d5 d6 d7 d8 d9 e0 e3 e4 e5 e6 e7 e8 e9 f0 f1 f2 f3 f4 f5 f6 f7 f8 f9 g0 g1 g2 g3 g4 g5 g6 g7 g8))], nO :: S ((ln g12), g12)))) g12) (fun k hk => ?_) ?_
 clear h
 have h := c
 clear c
 refine cv ?_
 refine pY hΩ (hg0 _) (by exact (show down.fA (lz0+1) [PV.row 0 dw Fe] = [PV.row (lz0+1) dw Fe] by simp only [down.fA, down, Nat.zero_add])) (cv ?_)
 replace h := aQ h
 obtain ⟨⟨d, ⟨e, g, i, ⟨j, m, o, ⟨p, t⟩, ⟨u, v⟩, w, y, z⟩⟩, ⟨a1, a2⟩, ⟨a3, a4⟩, ⟨a5, a6⟩, a7, a8, a9, ⟨b0, b2, b3, ⟨b4, b5⟩, ⟨b6, b7⟩, b8, b9, c0⟩, c2, c3, ⟨c4, c5⟩, c6, c7⟩, h0, h⟩ := h
 try dsimp only at h
 refine av (afv hΩ hE h0) (cv ?_)
 refine sat_true (dL hΩ _) (cv ?_)
 refine sat_true (dL hΩ _) (cv ?_)
 refine sat_true (gX hΩ _) (cv ?_)
 refine sat_true (bA hΩ (ak hE) [(Inst.mk 0 (Child.mk ByteArray.empty 0 ByteArray.empty (Value.mk 0 0 ByteArray.empty (Sl.mk [] (some [])) (Sl.mk [] (some [])) 0 ByteArray.empty false)) (Sl.mk [] (some [])) (Sl.mk [] (some [])) (Sl.mk [] (some [])) 0 false false (Value.mk 0 0 ByteArray.empty (Sl.mk [] (some [])) (Sl.mk [] (some [])) 0 ByteArray.empty false) ByteArray.empty false (Sl.mk [] (some [])) false false)]) (cv ?_)
 refine gD hΩ (hg1 _) (cv ?_)
 refine sat_true (bB hΩ (ak hE) b1) (cv ?_)
 refine dP (aU hΩ (ak hE) (l := [(Inst.mk 0 (Child.mk ByteArray.empty 0 ByteArray.empty (Value.mk 0 0 ByteArray.empty (Sl.mk [] (some [])) (Sl.mk [] (some [])) 0 ByteArray.empty false)) (Sl.mk [] (some [])) (Sl.mk [] (some [])) (Sl.mk [] (some [])) 0 false false (Value.mk 0 0 ByteArray.empty (Sl.mk [] (some [])) (Sl.mk [] (some [])) 0 ByteArray.empty false) ByteArray.empty false (Sl.mk [] (some [])) false false)]) (b := false) (by rfl)) (cv ?_)
 refine fK hΩ (ak hE) b1 [(Inst.mk 0 (Child.mk ByteArray.empty 0 ByteArray.empty (Value.mk 0 0 ByteArray.empty (Sl.mk [] (some [])) (Sl.mk [] (some [])) 0 ByteArray.empty false)) (Sl.mk [] (some [])) (Sl.mk [] (some [])) (Sl.mk [] (some [])) 0 false false (Value.mk 0 0 ByteArray.empty (Sl.mk [] (some [])) (Sl.mk [] (some [])) 0 ByteArray.empty false) ByteArray.empty false (Sl.mk [] (some [])) false false)] fun l3 l5 n5 l6 => cv ?_
 replace h := dZ h
 obtain ⟨h3, h⟩ := h
 refine fJ h3 (cv ?_)
 refine eu hΩ (hu1 _ l3) (cv ?_)
 refine BG hΩ hk (fun G hk => ?_) (fun G hk => ?_)
 refine cv ?_
 refine gD hΩ (hg1 _) (cv ?_)
 refine sat_true (bB hΩ (ak hE) (b1 ++ [(Inst.mk 0 (Child.mk ByteArray.empty 0 ByteArray.empty (Value.mk 0 0 ByteArray.empty (Sl.mk [] (some [])) (Sl.mk [] (some [])) 0 ByteArray.empty false)) (Sl.mk [] (some [])) (Sl.mk [] (some [])) (Sl.mk [] (some [])) 0 false false (Value.mk 0 0 ByteArray.empty (Sl.mk [] (some [])) (Sl.mk [] (some [])) 0 ByteArray.empty false) ByteArray.empty false (Sl.mk [] (some [])) false false)])) (cv ?_)
 replace h := aQ h
 obtain ⟨⟨h4, ⟨h5, h6, h7, ⟨h8, h9, i0, ⟨i1, i2⟩, ⟨i3, i4⟩, i5, i6, i7⟩⟩, ⟨i9, j0⟩, ⟨j1, j2⟩, ⟨j3, j4⟩, j5, j6, j7, ⟨j8, j9, k0, ⟨k1, k2⟩, ⟨k3, k4⟩, k5, k6, k7⟩, k8, k9, ⟨l0, l1⟩, l2, l4⟩, a, h⟩ := h
 try dsimp only at h
 refine ay (aW hΩ (ak hE) a) (cv ?_)
 refine BG hΩ hk (fun G hk => ?_) (fun G hk => ?_)
 refine cv ?_
 refine gD hΩ (hg1 _) (cv ?_)
 refine sat_true (bB hΩ (ak hE) (b1 ++ [(Inst.mk 0 (Child.mk ByteArray.empty 0 ByteArray.empty (Value.mk 0 0 ByteArray.empty (Sl.mk [] (some [])) (Sl.mk [] (some [])) 0 ByteArray.empty false)) (Sl.mk [] (some [])) (Sl.mk [] (some [])) (Sl.mk [] (some [])) 0 false false (Value.mk 0 0 ByteArray.empty (Sl.mk [] (some [])) (Sl.mk [] (some [])) 0 ByteArray.empty false) ByteArray.empty false (Sl.mk [] (some [])) false false)])) (cv ?_)
 refine ay (aW hΩ (ak hE) a) (cv ?_)
 refine jP hΩ (ak hE) (b1 ++ [(Inst.mk 0 (Child.mk ByteArray.empty 0 ByteArray.empty (Value.mk 0 0 ByteArray.empty (Sl.mk [] (some [])) (Sl.mk [] (some [])) 0 ByteArray.empty false)) (Sl.mk [] (some [])) (Sl.mk [] (some [])) (Sl.mk [] (some [])) 0 false false (Value.mk 0 0 ByteArray.empty (Sl.mk [] (some [])) (Sl.mk [] (some [])) 0 ByteArray.empty false) ByteArray.empty false (Sl.mk [] (some [])) false false)]) (ln b1) (Inst.mk d (Child.mk e g i (Value.mk j m o (Sl.mk p t) (Sl.mk u v) w y z)) (Sl.mk a1 a2) (Sl.mk a3 a4) (Sl.mk a5 a6) a7 a8 a9 (Value.mk b0 b2 b3 (Sl.mk b4 b5) (Sl.mk b6 b7) b8 b9 c0) c2 c3 (Sl.mk c4 c5) c6 c7) fun l10 g9 => cv ?_
 refine eu hΩ (hu1 _ l10) (cv ?_)
 refine lq hΩ (hg0 _) (hu0 _ n5) (show up.ups (lz0+1) [PV.row (lz0+1) dw n5] = [PV.row 0 dw n5] from qV (zM (by omega)) (rfl)) rfl rfl (cv ?_)
 exact fk h hk
 refine cv ?_
 refine lq hΩ (hg0 _) (hu0 _ n5) (show up.ups (lz0+1) [PV.row (lz0+1) dw n5] = [PV.row 0 dw n5] from qV (zM (by omega)) (rfl)) rfl rfl (cv ?_)
 refine gD hΩ (hg1 _) (cv ?_)
 refine sat_true (bB hΩ (ak hE) (b1 ++ [(Inst.mk 0 (Child.mk ByteArray.empty 0 ByteArray.empty (Value.mk 0 0 ByteArray.empty (Sl.mk [] (some [])) (Sl.mk [] (some [])) 0 ByteArray.empty false)) (Sl.mk [] (some [])) (Sl.mk [] (some [])) (Sl.mk [] (some [])) 0 false false (Value.mk 0 0 ByteArray.empty (Sl.mk [] (some [])) (Sl.mk [] (some [])) 0 ByteArray.empty false) ByteArray.empty false (Sl.mk [] (some [])) false false)])) (cv ?_)
 refine ay (aW hΩ (ak hE) a) (cv ?_)
 refine jP hΩ (ak hE) (b1 ++ [(Inst.mk 0 (Child.mk ByteArray.empty 0 ByteArray.empty (Value.mk 0 0 ByteArray.empty (Sl.mk [] (some [])) (Sl.mk [] (some [])) 0 ByteArray.empty false)) (Sl.mk [] (some [])) (Sl.mk [] (some [])) (Sl.mk [] (some [])) 0 false false (Value.mk 0 0 ByteArray.empty (Sl.mk [] (some [])) (Sl.mk [] (some [])) 0 ByteArray.empty false) ByteArray.empty false (Sl.mk [] (some [])) false false)]) (ln b1) (Inst.mk d (Child.mk e g i (Value.mk j m o (Sl.mk p t) (Sl.mk u v) w y z)) (Sl.mk a1 a2) (Sl.mk a3 a4) (Sl.mk a5 a6) a7 a8 a9 (Value.mk b0 b2 b3 (Sl.mk b4 b5) (Sl.mk b6 b7) b8 b9 c0) c2 c3 (Sl.mk c4 c5) c6 c7) fun l10 g9 => cv ?_
 refine eu hΩ (hu1 _ l10) (cv ?_)
 exact fk h hk
 refine cv ?_
 refine lq hΩ (hg0 _) (hu0 _ n5) (show up.ups (lz0+1) [PV.row (lz0+1) dw n5] = [PV.row 0 dw n5] from qV (zM (by omega)) (rfl)) rfl rfl (cv ?_)
 refine gD hΩ (hg1 _) (cv ?_)
 refine sat_true (bB hΩ (ak hE) (b1 ++ [(Inst.mk 0 (Child.mk ByteArray.empty 0 ByteArray.empty (Value.mk 0 0 ByteArray.empty (Sl.mk [] (some [])) (Sl.mk [] (some [])) 0 ByteArray.empty false)) (Sl.mk [] (some [])) (Sl.mk [] (some [])) (Sl.mk [] (some [])) 0 false false (Value.mk 0 0 ByteArray.empty (Sl.mk [] (some [])) (Sl.mk [] (some [])) 0 ByteArray.empty false) ByteArray.empty false (Sl.mk [] (some [])) false false)])) (cv ?_)
 replace h := aQ h
 obtain ⟨⟨h4, ⟨h5, h6, h7, ⟨h8, h9, i0, ⟨i1, i2⟩, ⟨i3, i4⟩, i5, i6, i7⟩⟩, ⟨i9, j0⟩, ⟨j1, j2⟩, ⟨j3, j4⟩, j5, j6, j7, ⟨j8, j9, k0, ⟨k1, k2⟩, ⟨k3, k4⟩, k5, k6, k7⟩, k8, k9, ⟨l0, l1⟩, l2, l4⟩, a, h⟩ := h
 try dsimp only at h
 refine ay (aW hΩ (ak hE) a) (cv ?_)
 refine gD hΩ (hg1 _) (cv ?_)
 refine sat_true (bB hΩ (ak hE) (b1 ++ [(Inst.mk 0 (Child.mk ByteArray.empty 0 ByteArray.empty (Value.mk 0 0 ByteArray.empty (Sl.mk [] (some [])) (Sl.mk [] (some [])) 0 ByteArray.empty false)) (Sl.mk [] (some [])) (Sl.mk [] (some [])) (Sl.mk [] (some [])) 0 false false (Value.mk 0 0 ByteArray.empty (Sl.mk [] (some [])) (Sl.mk [] (some [])) 0 ByteArray.empty false) ByteArray.empty false (Sl.mk [] (some [])) false false)])) (cv ?_)
 refine ay (aW hΩ (ak hE) a) (cv ?_)
 refine jP hΩ (ak hE) (b1 ++ [(Inst.mk 0 (Child.mk ByteArray.empty 0 ByteArray.empty (Value.mk 0 0 ByteArray.empty (Sl.mk [] (some [])) (Sl.mk [] (some [])) 0 ByteArray.empty false)) (Sl.mk [] (some [])) (Sl.mk [] (some [])) (Sl.mk [] (some [])) 0 false false (Value.mk 0 0 ByteArray.empty (Sl.mk [] (some [])) (Sl.mk [] (some [])) 0 ByteArray.empty false) ByteArray.empty false (Sl.mk [] (some [])) false false)]) (ln b1) (Inst.mk d (Child.mk e g i (Value.mk j m o (Sl.mk p t) (Sl.mk u v) w y z)) (Sl.mk a1 a2) (Sl.mk a3 a4) (Sl.mk a5 a6) a7 a8 a9 (Value.mk b0 b2 b3 (Sl.mk b4 b5) (Sl.mk b6 b7) b8 b9 c0) c2 c3 (Sl.mk c4 c5) c6 c7) fun l10 g9 => cv ?_
 refine eu hΩ (hu1 _ l10) (cv ?_)
 exact fk h hk
 clear c
 try dsimp only at h
 obtain ⟨acK, JG⟩ : ∃ n, ln g12 = n := ⟨_, rfl⟩
 simp only [JG]
 refine cv ?_
 exact sp h
theorem acL {a0 : Inst} {args : List PV} (ha : [bg E a0] = args) (st : St) :
 Sat (Ω.cf 44 args st) (fun q => q = (PV.fn 70 [.aS (eT E a0)], st)) := by
 subst ha
 rcases a0 with ⟨a, ⟨b, c, d, ⟨e, g, h, ⟨i, j⟩, ⟨k, l⟩, m, n, o⟩⟩, ⟨p, r⟩, ⟨s, t⟩, ⟨u, v⟩, w, x, y, ⟨z, a1, a2, ⟨a3, a4⟩, ⟨a5, a6⟩, a7, a8, a9⟩, b0, b1, ⟨b2, b3⟩, b4, b5⟩
 rw [aC hΩ (f := 44) (fn := Try.f44) rfl rfl rfl rfl rfl rfl]
 refine cv ?_
 exact Ub rfl
theorem ok32 {a0 : Inst} {r : Unit} (h : P32 fu a0 = some r) {args : List PV} (ha : [bg E a0] = args) (st : St) :
 Sat (Ω.cf 32 args st) (fun q => q = (PV.pG [], st)) := by
 subst ha
 rcases a0 with ⟨a, ⟨b, c, d, ⟨e, g, i, ⟨j, k⟩, ⟨l, m⟩, n, o, p⟩⟩, ⟨s, t⟩, ⟨u, v⟩, ⟨w, x⟩, y, z, a1, ⟨a2, a3, a4, ⟨a5, a6⟩, ⟨a7, a8⟩, a9, b0, b1⟩, b2, b3, ⟨b4, b5⟩, b6, b7⟩
 rw [aC hΩ (f := 32) (fn := Try.f32) rfl rfl rfl rfl rfl rfl]
 unfold P32 at h
 try dsimp only at h
 refine cv ?_
 exact sp h
def OE (Ω : Om) (E : Enc) (jo : Inst → (Option X.Ex) → (List Inst) → Option (Bool × (Option X.Ex) × (List Inst))) : Prop := ∀ {a1 : Inst} {b0 c0 : Option X.Ex} {b3 c3 : List Inst} {Ey : Int} {S : ((Option X.Ex) × Int × (List Inst)) → St} {lz0 lz1 Ez bO dw fB vg xE : Nat} (hl1 : Ez + lz0 = lz1) (e0 : b0 = c0) (e3 : b3 = c3) (JH : ln b3 = Ey) (hg0 : ∀ s, X.look (S s) lz0 bO = some (X.Obj.loop 155 [(4, PV.ptr 0 dw 0), (5, PV.ptr 0 xE 0)] s.1)) (hu0 : ∀ s x, X.bJ (S s) lz0 bO (X.Obj.loop 155 [(4, PV.ptr 0 dw 0), (5, PV.ptr 0 xE 0)] x) = S (x, s.2.1, s.2.2)) (hg1 : ∀ s, X.look (S s) lz0 dw = some (X.Obj.box 59 [PV.fn 30 [.ptr Ez fB 0]])) (hg2 : ∀ s, X.look (S s) lz1 fB = some (X.Obj.box 32 [PV.row 0 vg s.2.1])) (hu2 : ∀ s x, X.bJ (S s) lz1 fB (X.Obj.box 32 [PV.row 0 vg x]) = S (s.1, x, s.2.2)) (hg3 : ∀ s, X.look (S s) lz1 vg = some (X.Obj.row 34 31 (E.au s.2.2) true none)) (hu3 : ∀ s x, X.bJ (S s) lz1 vg (X.Obj.row 34 31 (E.au x) true none) = S (s.1, s.2.1, x)) (hg4 : ∀ s, X.look (S s) lz0 xE = some (X.Obj.box 59 [PV.d (.fn 32 [])])) {r : Bool × (Option X.Ex) × (List Inst)}, jo a1 b0 b3 = some r → ∀ {args : List PV}, [PV.jv lz0 bO, bg E a1] = args → ∀ {st : St}, S (c0, Ey, c3) = st → ∀ {JI : Int}, ln r.2.2 = JI → Sat (Ω.rd 155 args st) (fun q => q = (PV.d (.bool r.1), S (r.2.1, JI, r.2.2)))
def VJ (Ω : Om) (E : Enc) (qb : Inst → (List Inst) → Option ((List Inst))) : Prop := ∀ {a0 : Inst} {b1 c1 : List Inst} {Fe : Int} {S : (Int × (List Inst)) → St} {lz0 bO dw : Nat} (e1 : b1 = c1) (RS : ln b1 = Fe) (hg0 : ∀ s, X.look (S s) lz0 bO = some (X.Obj.box 32 [PV.row 0 dw s.1])) (hu0 : ∀ s x, X.bJ (S s) lz0 bO (X.Obj.box 32 [PV.row 0 dw x]) = S (x, s.2)) (hg1 : ∀ s, X.look (S s) lz0 dw = some (X.Obj.row 34 31 (E.au s.2) true none)) (hu1 : ∀ s x, X.bJ (S s) lz0 dw (X.Obj.row 34 31 (E.au x) true none) = S (s.1, x)) {r : (List Inst)}, qb a0 b1 = some r → ∀ {args : List PV}, [bg E a0, PV.fn 30 [.ptr lz0 bO 0], PV.d (.fn 32 [])] = args → ∀ {st : St}, S (Fe, c1) = st → ∀ {OD : Int}, ln r = OD → Sat (Ω.cf 29 args st) (fun q => q = (PV.pG [], S (OD, r)))
def VK (Ω : Om) (E : Enc) (qc : Inst → (Option X.Ex) → (List Inst) → Option ((Option X.Ex) × (List Inst))) : Prop := ∀ {a1 : Inst} {b0 c0 : Option X.Ex} {b3 c3 : List Inst} {Ey : Int} {S : ((Option X.Ex) × Int × (List Inst)) → St} {lz0 lz1 Ez bO dw fB vg xE : Nat} (hl1 : Ez + lz0 = lz1) (e0 : b0 = c0) (e3 : b3 = c3) (JH : ln b3 = Ey) (hg0 : ∀ s, X.look (S s) lz0 bO = some (X.Obj.loop 155 [(4, PV.ptr 0 dw 0), (5, PV.ptr 0 xE 0)] s.1)) (hu0 : ∀ s x, X.bJ (S s) lz0 bO (X.Obj.loop 155 [(4, PV.ptr 0 dw 0), (5, PV.ptr 0 xE 0)] x) = S (x, s.2.1, s.2.2)) (hg1 : ∀ s, X.look (S s) lz0 dw = some (X.Obj.box 59 [PV.fn 30 [.ptr Ez fB 0]])) (hg2 : ∀ s, X.look (S s) lz1 fB = some (X.Obj.box 32 [PV.row 0 vg s.2.1])) (hu2 : ∀ s x, X.bJ (S s) lz1 fB (X.Obj.box 32 [PV.row 0 vg x]) = S (s.1, x, s.2.2)) (hg3 : ∀ s, X.look (S s) lz1 vg = some (X.Obj.row 34 31 (E.au s.2.2) true none)) (hu3 : ∀ s x, X.bJ (S s) lz1 vg (X.Obj.row 34 31 (E.au x) true none) = S (s.1, s.2.1, x)) (hg4 : ∀ s, X.look (S s) lz0 xE = some (X.Obj.box 59 [PV.d (.fn 32 [])])) {r : (Option X.Ex) × (List Inst)}, qc a1 b0 b3 = some r → ∀ {args : List PV}, [PV.jv lz0 bO, PV.aS (eT E a1)] = args → ∀ {st : St}, S (c0, Ey, c3) = st → ∀ {JI : Int}, ln r.2 = JI → Sat (Ω.cf 70 args st) (fun q => q = (PV.pG [], S (r.1, JI, r.2)))
theorem VL {jo : Inst → (Option X.Ex) → (List Inst) → Option (Bool × (Option X.Ex) × (List Inst))} (JJ : OE Ω E jo) {qb : Inst → (List Inst) → Option ((List Inst))} (OG : VJ Ω E qb) {qc : Inst → (Option X.Ex) → (List Inst) → Option ((Option X.Ex) × (List Inst))} (OH : VK Ω E qc) {a1 : Inst} {b0 c0 : Option X.Ex} {b3 c3 : List Inst} {Ey : Int} {S : ((Option X.Ex) × Int × (List Inst)) → St} {lz0 lz1 Ez bO dw fB vg xE : Nat} (hl1 : Ez + lz0 = lz1) (e0 : b0 = c0) (e3 : b3 = c3) (JH : ln b3 = Ey) (hg0 : ∀ s, X.look (S s) lz0 bO = some (X.Obj.loop 155 [(4, PV.ptr 0 dw 0), (5, PV.ptr 0 xE 0)] s.1)) (hu0 : ∀ s x, X.bJ (S s) lz0 bO (X.Obj.loop 155 [(4, PV.ptr 0 dw 0), (5, PV.ptr 0 xE 0)] x) = S (x, s.2.1, s.2.2)) (hg1 : ∀ s, X.look (S s) lz0 dw = some (X.Obj.box 59 [PV.fn 30 [.ptr Ez fB 0]])) (hg2 : ∀ s, X.look (S s) lz1 fB = some (X.Obj.box 32 [PV.row 0 vg s.2.1])) (hu2 : ∀ s x, X.bJ (S s) lz1 fB (X.Obj.box 32 [PV.row 0 vg x]) = S (s.1, x, s.2.2)) (hg3 : ∀ s, X.look (S s) lz1 vg = some (X.Obj.row 34 31 (E.au s.2.2) true none)) (hu3 : ∀ s x, X.bJ (S s) lz1 vg (X.Obj.row 34 31 (E.au x) true none) = S (s.1, s.2.1, x)) (hg4 : ∀ s, X.look (S s) lz0 xE = some (X.Obj.box 59 [PV.d (.fn 32 [])])) {r : Bool × (Option X.Ex) × (List Inst)} (h : BO fu jo qb qc a1 b0 b3 = some r) {args : List PV} (ha : [PV.jv lz0 bO, bg E a1] = args) {st : St} (hst : S (c0, Ey, c3) = st) {JI : Int} (ahk : ln r.2.2 = JI) :
 Sat (Ω.rd 155 args st) (fun q => q = (PV.d (.bool r.1), S (r.2.1, JI, r.2.2))) := by
 subst ha
 subst hst
 subst e0
 subst e3
 rcases a1 with ⟨a, ⟨b, c, e, ⟨f, i, j, ⟨k, l⟩, ⟨m, o⟩, p, t, u⟩⟩, ⟨v, w⟩, ⟨y, z⟩, ⟨a0, a2⟩, a3, a4, a5, ⟨a6, a7, a8, ⟨a9, b1⟩, ⟨b2, b4⟩, b5, b6, b7⟩, b8, b9, ⟨c2, c4⟩, c5, c6⟩
 rw [Dp hΩ (g := 155) rfl rfl Ll]
 unfold BO at h
 try dsimp only at h
 rcases b0 with _ | _
 try dsimp only at h
 refine zN hΩ (hg0 _) (by exact (show nY (lz0+1) [(4, PV.ptr 0 dw 0), (5, PV.ptr 0 xE 0)] = [(4, PV.ptr (lz0+1) dw 0), (5, PV.ptr (lz0+1) xE 0)] by simp only [nY, down, down.fA, Nat.zero_add, ← hl1, Nat.add_assoc])) (cv ?_)
 refine gU hΩ (hg0 _) (cv ?_)
 refine eu hΩ (hu0 _ _) (cv ?_)
 refine pY hΩ (hg1 _) (by exact (show down.fA (lz0+1) [PV.fn 30 [.ptr Ez fB 0]] = [PV.fn 30 [.ptr (lz1+1) fB 0]] by simp only [down.fA, down, Nat.zero_add, ← hl1, Nat.add_assoc])) (cv ?_)
 refine pY hΩ (hg4 _) (by exact (show down.fA (lz0+1) [PV.d (.fn 32 [])] = [PV.d (.fn 32 [])] by simp only [down.fA, down, Nat.zero_add, ← hl1, Nat.add_assoc])) (cv ?_)
 replace h := aQ h
 obtain ⟨c7, c8, h⟩ := h
 obtain ⟨n3, c9⟩ : ∃ n, ln c7 = n := ⟨_, rfl⟩
 refine bC (OG (S := (fun (s : Int × (List Inst)) => ([X.Obj.box 34 (Fb E a b c e f i j k l m o p t u v w y z a0 a2 a3 a4 a5 a6 a7 a8 a9 b1 b2 b4 b5 b6 b7 b8 b9 c2 c4 c5 c6)] : List X.Obj) :: S ((some .normal), s.1, s.2))) (lz0 := (lz1+1)) (bO := fB) (dw := vg) (c1 := b3) (Fe := Ey) (by (try clear h); subst_vars; rfl) (by  first | rfl | ((try clear h); subst_vars; rfl) | ((try clear h); subst_vars; simp only [kQ]) | assumption | ((try clear h); subst_vars; assumption)) (fun s => hg2 ((some .normal), s.1, s.2)) (fun s x => congrArg (List.cons _) (hu2 ((some .normal), s.1, s.2) x)) (fun s => hg3 ((some .normal), s.1, s.2)) (fun s x => congrArg (List.cons _) (hu3 ((some .normal), s.1, s.2) x)) c8 (by (try clear h); subst_vars; rfl) (by (try clear h); subst_vars; rfl) c9) (cv ?_)
 refine gU hΩ (hg0 _) (cv ?_)
 refine eu hΩ (hu0 _ _) (cv ?_)
 exact sp h
 try dsimp only at h
 cases h
theorem ZL {jo : Inst → (Option X.Ex) → (List Inst) → Option (Bool × (Option X.Ex) × (List Inst))} (JJ : OE Ω E jo) {qb : Inst → (List Inst) → Option ((List Inst))} (OG : VJ Ω E qb) {qc : Inst → (Option X.Ex) → (List Inst) → Option ((Option X.Ex) × (List Inst))} (OH : VK Ω E qc) {a0 : Inst} {b1 c1 : List Inst} {Fe : Int} {S : (Int × (List Inst)) → St} {lz0 bO dw : Nat} (e1 : b1 = c1) (RS : ln b1 = Fe) (hg0 : ∀ s, X.look (S s) lz0 bO = some (X.Obj.box 32 [PV.row 0 dw s.1])) (hu0 : ∀ s x, X.bJ (S s) lz0 bO (X.Obj.box 32 [PV.row 0 dw x]) = S (x, s.2)) (hg1 : ∀ s, X.look (S s) lz0 dw = some (X.Obj.row 34 31 (E.au s.2) true none)) (hu1 : ∀ s x, X.bJ (S s) lz0 dw (X.Obj.row 34 31 (E.au x) true none) = S (s.1, x)) {r : (List Inst)} (h : Em fu jo qb qc a0 b1 = some r) {args : List PV} (ha : [bg E a0, PV.fn 30 [.ptr lz0 bO 0], PV.d (.fn 32 [])] = args) {st : St} (hst : S (Fe, c1) = st) {OD : Int} (hrm1 : ln r = OD) :
 Sat (Ω.cf 29 args st) (fun q => q = (PV.pG [], S (OD, r))) := by
 subst ha
 subst hst
 subst e1
 rcases a0 with ⟨b, ⟨c, e, g, ⟨i, j, k, ⟨l, m⟩, ⟨o, p⟩, t, u, v⟩⟩, ⟨w, y⟩, ⟨z, a1⟩, ⟨a2, a3⟩, a4, a5, a6, ⟨a7, a8, a9, ⟨b0, b2⟩, ⟨b3, b4⟩, b5, b6, b7⟩, b8, b9, ⟨c2, c4⟩, c5, c6⟩
 rw [aC hΩ (f := 29) (fn := Try.f29) rfl rfl rfl rfl rfl rfl]
 unfold Em at h
 try dsimp only at h
 refine cv ?_
 refine aN hΩ (cv ?_)
 revert h; refine bQ (fun c7 h => cv ?_) fun c7 h => cv ?_
 exact sp h
 replace h := aQ h
 obtain ⟨a, c8, h⟩ := h
 obtain ⟨n4, c9⟩ : ∃ n, ln a = n := ⟨_, rfl⟩
 refine bC (acJ hΩ hE (S := (fun (s : Int × (List Inst)) => ([X.Obj.box 59 [.fn 30 [.ptr (lz0+1) bO 0]], X.Obj.box 59 [.d (.fn 32 [])]] : List X.Obj) :: S (s.1, s.2))) (lz0 := (lz0+1)) (bO := bO) (dw := dw) (c1 := b1) (Fe := Fe) (by (try clear h); subst_vars; rfl) (by  first | rfl | ((try clear h); subst_vars; rfl) | ((try clear h); subst_vars; simp only [kQ]) | assumption | ((try clear h); subst_vars; assumption)) (fun s => hg0 (s.1, s.2)) (fun s x => congrArg (List.cons _) (hu0 (s.1, s.2) x)) (fun s => hg1 (s.1, s.2)) (fun s x => congrArg (List.cons _) (hu1 (s.1, s.2) x)) c8 (by (try clear h); subst_vars; rfl) (by (try clear h); subst_vars; rfl) c9) (cv ?_)
 refine bC (acL hΩ hE (a0 := (Inst.mk b (Child.mk c e g (Value.mk i j k (Sl.mk l m) (Sl.mk o p) t u v)) (Sl.mk w y) (Sl.mk z a1) (Sl.mk a2 a3) a4 a5 a6 (Value.mk a7 a8 a9 (Sl.mk b0 b2) (Sl.mk b3 b4) b5 b6 b7) b8 b9 (Sl.mk c2 c4) c5 c6)) (by (try clear h); subst_vars; rfl) _) (cv ?_)
 replace h := aQ h
 obtain ⟨⟨d0, d1⟩, d2, h⟩ := h
 try dsimp only at h
 obtain ⟨n9, d3⟩ : ∃ n, ln d1 = n := ⟨_, rfl⟩
 refine bC (OH (S := (fun (s : (Option X.Ex) × Int × (List Inst)) => ([X.Obj.box 59 [.fn 30 [.ptr (lz0+1) bO 0]], X.Obj.box 59 [.d (.fn 32 [])], X.Obj.loop 155 [(4, PV.ptr 0 0 0), (5, PV.ptr 0 1 0)] s.1] : List X.Obj) :: S (s.2.1, s.2.2))) (lz0 := 0) (lz1 := (lz0+1)) (Ez := (lz0+1)) (bO := 2) (dw := 0) (fB := bO) (vg := dw) (xE := 1) (c0 := none) (c3 := a) (Ey := n4) (by first | rfl | omega) (by (try clear h); subst_vars; rfl) (by (try clear h); subst_vars; rfl) (by  first | rfl | ((try clear h); subst_vars; rfl) | ((try clear h); subst_vars; simp only [kQ]) | assumption | ((try clear h); subst_vars; assumption)) (fun s => rfl) (fun s x => rfl) (fun s => rfl) (fun s => hg0 (s.2.1, s.2.2)) (fun s x => congrArg (List.cons _) (hu0 (s.2.1, s.2.2) x)) (fun s => hg1 (s.2.1, s.2.2)) (fun s x => congrArg (List.cons _) (hu1 (s.2.1, s.2.2) x)) (fun s => rfl) d2 (by (try clear h); subst_vars; rfl) (by (try clear h); subst_vars; rfl) d3) (cv ?_)
 rcases d0 with _ | (_ | id | _)
 try dsimp only at h
 refine cv ?_
 replace h := aQ h
 obtain ⟨_, d4, h⟩ := h
 refine av (ok32 hΩ hE d4) (cv ?_)
 exact sp h
 try dsimp only at h
 cases h
 try dsimp only at h
 cases h
 try dsimp only at h
 cases h
theorem ZM {jo : Inst → (Option X.Ex) → (List Inst) → Option (Bool × (Option X.Ex) × (List Inst))} (JJ : OE Ω E jo) {qb : Inst → (List Inst) → Option ((List Inst))} (OG : VJ Ω E qb) {qc : Inst → (Option X.Ex) → (List Inst) → Option ((Option X.Ex) × (List Inst))} (OH : VK Ω E qc) {a1 : Inst} {b0 c0 : Option X.Ex} {b3 c3 : List Inst} {Ey : Int} {S : ((Option X.Ex) × Int × (List Inst)) → St} {lz0 lz1 Ez bO dw fB vg xE : Nat} (hl1 : Ez + lz0 = lz1) (e0 : b0 = c0) (e3 : b3 = c3) (JH : ln b3 = Ey) (hg0 : ∀ s, X.look (S s) lz0 bO = some (X.Obj.loop 155 [(4, PV.ptr 0 dw 0), (5, PV.ptr 0 xE 0)] s.1)) (hu0 : ∀ s x, X.bJ (S s) lz0 bO (X.Obj.loop 155 [(4, PV.ptr 0 dw 0), (5, PV.ptr 0 xE 0)] x) = S (x, s.2.1, s.2.2)) (hg1 : ∀ s, X.look (S s) lz0 dw = some (X.Obj.box 59 [PV.fn 30 [.ptr Ez fB 0]])) (hg2 : ∀ s, X.look (S s) lz1 fB = some (X.Obj.box 32 [PV.row 0 vg s.2.1])) (hu2 : ∀ s x, X.bJ (S s) lz1 fB (X.Obj.box 32 [PV.row 0 vg x]) = S (s.1, x, s.2.2)) (hg3 : ∀ s, X.look (S s) lz1 vg = some (X.Obj.row 34 31 (E.au s.2.2) true none)) (hu3 : ∀ s x, X.bJ (S s) lz1 vg (X.Obj.row 34 31 (E.au x) true none) = S (s.1, s.2.1, x)) (hg4 : ∀ s, X.look (S s) lz0 xE = some (X.Obj.box 59 [PV.d (.fn 32 [])])) {r : (Option X.Ex) × (List Inst)} (h : Eo fu jo qb qc a1 b0 b3 = some r) {args : List PV} (ha : [PV.jv lz0 bO, PV.aS (eT E a1)] = args) {st : St} (hst : S (c0, Ey, c3) = st) {JI : Int} (ahk : ln r.2 = JI) :
 Sat (Ω.cf 70 args st) (fun q => q = (PV.pG [], S (r.1, JI, r.2))) := by
 subst ha
 subst hst
 subst e0
 subst e3
 rcases a1 with ⟨o, ⟨p, t, u, ⟨v, w, y, ⟨z, a0⟩, ⟨a2, a3⟩, a4, a5, a6⟩⟩, ⟨a7, a8⟩, ⟨a9, b1⟩, ⟨g, i⟩, b2, b4, b5, ⟨b6, b7, b8, ⟨b9, c1⟩, ⟨c2, c4⟩, c5, c6, c7⟩, c8, c9, ⟨j, m⟩, d0, d1⟩
 rw [aC hΩ (f := 70) (fn := Try.f70) rfl rfl rfl rfl rfl rfl]
 unfold Eo at h
 try dsimp only at h
 refine cv ?_
 replace h := aQ h
 obtain ⟨l1, i3, h⟩ := h
 have hL3 : ([[.sl (E.au g) (E.aD i)]] : List (List D)) = E.aR l1 := by (have hy := Option.some.inj i3; clear h; subst hy; subst hE; rfl)
 rw [hL3]
 clear hL3
 refine cv ?_
 replace h := aQ h
 obtain ⟨r4, i4, h⟩ := h
 refine av (Zt hΩ hE i4) (cv ?_)
 replace h := aQ h
 obtain ⟨q, d3, h⟩ := h
 refine aH hΩ ((fun (q : (List (Sl Inst)) × (Option (List (Sl Inst)))) => (match q with | (b, c) => (.normal, [(0, PV.jv (lz0+1) bO), (1, PV.aS (jW E o p t u v w y z a0 a2 a3 a4 a5 a6 a7 a8 a9 b1 g i b2 b4 b5 b6 b7 b8 b9 c1 c2 c4 c5 c6 c7 c8 c9 j m d0 d1)), (3, PV.d (.sl (E.aR b) (E.aX c)))], nO :: S (b0, Ey, b3)))) q) (fun k hk => ?_) ?_
 clear h
 have h := d3
 clear d3
 refine cv ?_
 revert h; refine bQ (fun i5 h => cv ?_) fun i5 h => cv ?_
 refine aN hΩ (cv ?_)
 replace h := aQ h
 obtain ⟨l7, i6, h⟩ := h
 have hL9 : ([[.sl (E.au j) (E.aD m)]] : List (List D)) = E.aR l7 := by (have hy := Option.some.inj i6; clear h; subst hy; subst hE; rfl)
 rw [hL9]
 clear hL9
 refine cv ?_
 refine sat_true (gX hΩ _) (cv ?_)
 refine sat_true (bA hΩ (bI hE) l7) (cv ?_)
 replace h := yQ h
 rcases h with ⟨d4, h⟩ | ⟨d4, h⟩
 refine dV (aU hΩ (bI hE) (l := l7) d4) (cv ?_)
 exact fk h hk
 refine dP (aU hΩ (bI hE) (l := l7) d4) (cv ?_)
 refine sat_true (II hΩ (bI hE) l1 (some [])) (cv ?_)
 refine fK hΩ (bI hE) l1 l7 fun l11 j8 n13 j9 => cv ?_
 refine aP hΩ (bI hE) (l1 ++ l7) fun n15 k0 => cv ?_
 replace h := dZ h
 obtain ⟨i7, h⟩ := h
 refine fJ i7 (cv ?_)
 refine sat_true (bB hΩ (bI hE) (l1 ++ l7)) (cv ?_)
 exact fk h hk
 exact fk h hk
 clear d3
 rcases q with ⟨b, c⟩
 try dsimp only at h
 refine cv ?_
 refine aP hΩ (bI hE) b fun n19 k1 => cv ?_
 replace h := aQ h
 obtain ⟨q, d5, h⟩ := h
 refine bK hΩ (fun (a : (Option X.Ex) × (List Inst) × Int) => (match a with | (g21, g22, i23) => ([(0, PV.jv (lz0+1) bO), (1, PV.aS (jW E o p t u v w y z a0 a2 a3 a4 a5 a6 a7 a8 a9 b1 g i b2 b4 b5 b6 b7 b8 b9 c1 c2 c4 c5 c6 c7 c8 c9 j m d0 d1)), (3, PV.d (.sl (E.aR b) (E.aX c))), (18, PV.d (.sl (E.aR b) (E.aX c))), (19, vi n19), (20, vi i23)], nO :: S (g21, (ln g22), g22)))) (fun (q : ((Option X.Ex) × (List Inst) × Int) ⊕ ((Option X.Ex) × (List Inst) × Int)) => (match q with | .inl (Qm, Kk, Sn) => (.exit 0, [(0, PV.jv (lz0+1) bO), (1, PV.aS (jW E o p t u v w y z a0 a2 a3 a4 a5 a6 a7 a8 a9 b1 g i b2 b4 b5 b6 b7 b8 b9 c1 c2 c4 c5 c6 c7 c8 c9 j m d0 d1)), (3, PV.d (.sl (E.aR b) (E.aX c))), (18, PV.d (.sl (E.aR b) (E.aX c))), (19, vi n19), (20, vi Sn)], nO :: S (Qm, (ln Kk), Kk)) | .inr (RI, Kl, Sq) => (.ret, [(0, PV.jv (lz0+1) bO), (1, PV.aS (jW E o p t u v w y z a0 a2 a3 a4 a5 a6 a7 a8 a9 b1 g i b2 b4 b5 b6 b7 b8 b9 c1 c2 c4 c5 c6 c7 c8 c9 j m d0 d1)), (3, PV.d (.sl (E.aR b) (E.aX c))), (18, PV.d (.sl (E.aR b) (E.aX c))), (19, vi n19), (20, vi Sq)], nO :: S (RI, (ln Kl), Kl)))) (b0, b3, 0) d5 ?_ ?_
 clear h d5
 rintro ⟨g21, g22, i23⟩ q h
 unfold oV at h
 dsimp only at h
 obtain ⟨acM, JK⟩ : ∃ n, ln g22 = n := ⟨_, rfl⟩
 simp only [JK]
 refine cv ?_
 refine aN hΩ (cv ?_)
 revert h; refine bQ (fun i9 h => cv ?_) fun i9 h => cv ?_
 refine sat_true (bA hΩ (bI hE) b) (cv ?_)
 replace h := aQ h
 obtain ⟨⟨e, d2⟩, j0, h⟩ := h
 try dsimp only at h
 refine ay (aW hΩ (bI hE) j0) (cv ?_)
 refine aP hΩ (ak hE) e fun n27 k2 => cv ?_
 replace h := aQ h
 obtain ⟨q, d6, h⟩ := h
 refine bK hΩ (fun (a : (Option X.Ex) × (List Inst) × Int) => (match a with | (En, Jr, i31) => ([(0, PV.jv (lz0+1) bO), (1, PV.aS (jW E o p t u v w y z a0 a2 a3 a4 a5 a6 a7 a8 a9 b1 g i b2 b4 b5 b6 b7 b8 b9 c1 c2 c4 c5 c6 c7 c8 c9 j m d0 d1)), (3, PV.d (.sl (E.aR b) (E.aX c))), (5, PV.d (.sl (E.au e) (E.aD d2))), (18, PV.d (.sl (E.aR b) (E.aX c))), (19, vi n19), (20, vi i23), (24, PV.d (.sl (E.au e) (E.aD d2))), (25, vi n27), (26, vi i31)], nO :: S (En, (ln Jr), Jr)))) (fun (q : ((Option X.Ex) × (List Inst) × Int) ⊕ ((Option X.Ex) × (List Inst) × Int)) => (match q with | .inl (Qk, Ml, Sm) => (.exit 2, [(0, PV.jv (lz0+1) bO), (1, PV.aS (jW E o p t u v w y z a0 a2 a3 a4 a5 a6 a7 a8 a9 b1 g i b2 b4 b5 b6 b7 b8 b9 c1 c2 c4 c5 c6 c7 c8 c9 j m d0 d1)), (3, PV.d (.sl (E.aR b) (E.aX c))), (5, PV.d (.sl (E.au e) (E.aD d2))), (18, PV.d (.sl (E.aR b) (E.aX c))), (19, vi n19), (20, vi i23), (24, PV.d (.sl (E.au e) (E.aD d2))), (25, vi n27), (26, vi Sm)], nO :: S (Qk, (ln Ml), Ml)) | .inr (Ql, Kj, Vx) => (.ret, [(0, PV.jv (lz0+1) bO), (1, PV.aS (jW E o p t u v w y z a0 a2 a3 a4 a5 a6 a7 a8 a9 b1 g i b2 b4 b5 b6 b7 b8 b9 c1 c2 c4 c5 c6 c7 c8 c9 j m d0 d1)), (3, PV.d (.sl (E.aR b) (E.aX c))), (5, PV.d (.sl (E.au e) (E.aD d2))), (18, PV.d (.sl (E.aR b) (E.aX c))), (19, vi n19), (20, vi i23), (24, PV.d (.sl (E.au e) (E.aD d2))), (25, vi n27), (26, vi Vx)], nO :: S (Ql, (ln Kj), Kj)))) (g21, g22, 0) d6 ?_ ?_
 clear h d6
 rintro ⟨En, Jr, i31⟩ q h
 unfold rD at h
 dsimp only at h
 obtain ⟨OI, JL⟩ : ∃ n, ln Jr = n := ⟨_, rfl⟩
 simp only [JL]
 refine cv ?_
 refine aN hΩ (cv ?_)
 revert h; refine bQ (fun j1 h => cv ?_) fun j1 h => cv ?_
 refine sat_true (bA hΩ (ak hE) e) (cv ?_)
 replace h := aQ h
 obtain ⟨⟨d8, ⟨d9, e4, e5, ⟨e6, e7, e8, ⟨e9, f0⟩, ⟨f1, f2⟩, f3, f4, f5⟩⟩, ⟨f6, f7⟩, ⟨f8, f9⟩, ⟨g0, g1⟩, g2, g3, g4, ⟨g5, g6, g7, ⟨g8, g9⟩, ⟨h0, h3⟩, h4, h5, h6⟩, h7, h8, ⟨h9, i0⟩, i1, i2⟩, j2, h⟩ := h
 try dsimp only at h
 refine ay (aW hΩ (ak hE) j2) (cv ?_)
 replace h := aQ h
 obtain ⟨q, d7, h⟩ := h
 refine aH hΩ ((fun (q : (Option X.Ex) × (List Inst) × Bool) => (match q with | (Vw, Oy, i44) => ([(0, PV.jv (lz0+1) bO), (1, PV.aS (jW E o p t u v w y z a0 a2 a3 a4 a5 a6 a7 a8 a9 b1 g i b2 b4 b5 b6 b7 b8 b9 c1 c2 c4 c5 c6 c7 c8 c9 j m d0 d1)), (3, PV.d (.sl (E.aR b) (E.aX c))), (5, PV.d (.sl (E.au e) (E.aD d2))), (7, PV.ptr 0 0 0), (18, PV.d (.sl (E.aR b) (E.aX c))), (19, vi n19), (20, vi i23), (24, PV.d (.sl (E.au e) (E.aD d2))), (25, vi n27), (26, vi i31), (38, vb i44)], ([X.Obj.box 34 (Fb E d8 d9 e4 e5 e6 e7 e8 e9 f0 f1 f2 f3 f4 f5 f6 f7 f8 f9 g0 g1 g2 g3 g4 g5 g6 g7 g8 g9 h0 h3 h4 h5 h6 h7 h8 h9 i0 i1 i2)] : List X.Obj) :: S (Vw, (ln Oy), Oy)))) q) (fun k hk => ?_) ?_
 clear h
 have h := d7
 clear d7
 refine cv ?_
 revert h; refine bQ (fun j3 h => cv ?_) fun j3 h => cv ?_
 rcases En with _ | _
 try dsimp only at h
 refine gU hΩ (hg0 _) (cv ?_)
 replace h := aQ h
 obtain ⟨⟨Qe, k3, j4⟩, j5, h⟩ := h
 try dsimp only at h
 obtain ⟨n40, j6⟩ : ∃ n, ln j4 = n := ⟨_, rfl⟩
 refine bC (JJ (S := (fun (s : (Option X.Ex) × Int × (List Inst)) => ([X.Obj.box 34 (Fb E d8 d9 e4 e5 e6 e7 e8 e9 f0 f1 f2 f3 f4 f5 f6 f7 f8 f9 g0 g1 g2 g3 g4 g5 g6 g7 g8 g9 h0 h3 h4 h5 h6 h7 h8 h9 i0 i1 i2)] : List X.Obj) :: S (s.1, s.2.1, s.2.2))) (lz0 := (lz0+1)) (lz1 := (lz1+1)) (Ez := Ez) (bO := bO) (dw := dw) (fB := fB) (vg := vg) (xE := xE) (c0 := none) (c3 := Jr) (Ey := OI) (by first | rfl | omega) (by (try clear h); subst_vars; rfl) (by (try clear h); subst_vars; rfl) (by  first | rfl | ((try clear h); subst_vars; rfl) | ((try clear h); subst_vars; simp only [kQ]) | assumption | ((try clear h); subst_vars; assumption)) (fun s => hg0 (s.1, s.2.1, s.2.2)) (fun s x => congrArg (List.cons _) (hu0 (s.1, s.2.1, s.2.2) x)) (fun s => hg1 (s.1, s.2.1, s.2.2)) (fun s => hg2 (s.1, s.2.1, s.2.2)) (fun s x => congrArg (List.cons _) (hu2 (s.1, s.2.1, s.2.2) x)) (fun s => hg3 (s.1, s.2.1, s.2.2)) (fun s x => congrArg (List.cons _) (hu3 (s.1, s.2.1, s.2.2) x)) (fun s => hg4 (s.1, s.2.1, s.2.2)) j5 (by (try clear h); subst_vars; rfl) (by (try clear h); subst_vars; rfl) j6) (cv ?_)
 exact fk h hk
 try dsimp only at h
 cases h
 exact fk h hk
 clear d7
 rcases q with ⟨Vw, Oy, i44⟩
 try dsimp only at h
 obtain ⟨acN, JM⟩ : ∃ n, ln Oy = n := ⟨_, rfl⟩
 simp only [JM]
 refine cv ?_
 refine aN hΩ (cv ?_)
 revert h; refine bQ (fun j7 h => cv ?_) fun j7 h => cv ?_
 obtain rfl := fZ h
 subst_vars
 exact sR
 obtain rfl := fZ h
 subst_vars
 exact s3
 obtain rfl := fZ h
 subst_vars
 exact sL
 clear d6
 rcases q with ⟨Qk, Ml, Sm⟩ | ⟨Ql, Kj, Vx⟩
 dsimp only at h
 obtain ⟨acO, JN⟩ : ∃ n, ln Ml = n := ⟨_, rfl⟩
 simp only [JN]
 refine cv ?_
 obtain rfl := fZ h
 subst_vars
 exact s3
 dsimp only at h
 obtain ⟨acP, JO⟩ : ∃ n, ln Kj = n := ⟨_, rfl⟩
 simp only [JO]
 refine cv ?_
 obtain rfl := fZ h
 subst_vars
 exact sR
 obtain rfl := fZ h
 subst_vars
 exact sL
 clear d5
 rcases q with ⟨Qm, Kk, Sn⟩ | ⟨RI, Kl, Sq⟩
 dsimp only at h
 obtain ⟨acQ, JQ⟩ : ∃ n, ln Kk = n := ⟨_, rfl⟩
 simp only [JQ]
 refine cv ?_
 exact sp h
 dsimp only at h
 obtain ⟨acR, JR⟩ : ∃ n, ln Kl = n := ⟨_, rfl⟩
 simp only [JR]
 refine cv ?_
 exact sp h
theorem VN : ∀ fu,
 (∀ {a1 : Inst} {b0 c0 : Option X.Ex} {b3 c3 : List Inst} {Ey : Int} {S : ((Option X.Ex) × Int × (List Inst)) → St} {lz0 lz1 Ez bO dw fB vg xE : Nat} (hl1 : Ez + lz0 = lz1) (e0 : b0 = c0) (e3 : b3 = c3) (JH : ln b3 = Ey) (hg0 : ∀ s, X.look (S s) lz0 bO = some (X.Obj.loop 155 [(4, PV.ptr 0 dw 0), (5, PV.ptr 0 xE 0)] s.1)) (hu0 : ∀ s x, X.bJ (S s) lz0 bO (X.Obj.loop 155 [(4, PV.ptr 0 dw 0), (5, PV.ptr 0 xE 0)] x) = S (x, s.2.1, s.2.2)) (hg1 : ∀ s, X.look (S s) lz0 dw = some (X.Obj.box 59 [PV.fn 30 [.ptr Ez fB 0]])) (hg2 : ∀ s, X.look (S s) lz1 fB = some (X.Obj.box 32 [PV.row 0 vg s.2.1])) (hu2 : ∀ s x, X.bJ (S s) lz1 fB (X.Obj.box 32 [PV.row 0 vg x]) = S (s.1, x, s.2.2)) (hg3 : ∀ s, X.look (S s) lz1 vg = some (X.Obj.row 34 31 (E.au s.2.2) true none)) (hu3 : ∀ s x, X.bJ (S s) lz1 vg (X.Obj.row 34 31 (E.au x) true none) = S (s.1, s.2.1, x)) (hg4 : ∀ s, X.look (S s) lz0 xE = some (X.Obj.box 59 [PV.d (.fn 32 [])])) {r : Bool × (Option X.Ex) × (List Inst)}, qz fu a1 b0 b3 = some r → ∀ {args : List PV}, [PV.jv lz0 bO, bg E a1] = args → ∀ {st : St}, S (c0, Ey, c3) = st → ∀ {JI : Int}, ln r.2.2 = JI → Sat (Ω.rd 155 args st) (fun q => q = (PV.d (.bool r.1), S (r.2.1, JI, r.2.2)))) ∧
 (∀ {a0 : Inst} {b1 c1 : List Inst} {Fe : Int} {S : (Int × (List Inst)) → St} {lz0 bO dw : Nat} (e1 : b1 = c1) (RS : ln b1 = Fe) (hg0 : ∀ s, X.look (S s) lz0 bO = some (X.Obj.box 32 [PV.row 0 dw s.1])) (hu0 : ∀ s x, X.bJ (S s) lz0 bO (X.Obj.box 32 [PV.row 0 dw x]) = S (x, s.2)) (hg1 : ∀ s, X.look (S s) lz0 dw = some (X.Obj.row 34 31 (E.au s.2) true none)) (hu1 : ∀ s x, X.bJ (S s) lz0 dw (X.Obj.row 34 31 (E.au x) true none) = S (s.1, x)) {r : (List Inst)}, AU fu a0 b1 = some r → ∀ {args : List PV}, [bg E a0, PV.fn 30 [.ptr lz0 bO 0], PV.d (.fn 32 [])] = args → ∀ {st : St}, S (Fe, c1) = st → ∀ {OD : Int}, ln r = OD → Sat (Ω.cf 29 args st) (fun q => q = (PV.pG [], S (OD, r)))) ∧
 (∀ {a1 : Inst} {b0 c0 : Option X.Ex} {b3 c3 : List Inst} {Ey : Int} {S : ((Option X.Ex) × Int × (List Inst)) → St} {lz0 lz1 Ez bO dw fB vg xE : Nat} (hl1 : Ez + lz0 = lz1) (e0 : b0 = c0) (e3 : b3 = c3) (JH : ln b3 = Ey) (hg0 : ∀ s, X.look (S s) lz0 bO = some (X.Obj.loop 155 [(4, PV.ptr 0 dw 0), (5, PV.ptr 0 xE 0)] s.1)) (hu0 : ∀ s x, X.bJ (S s) lz0 bO (X.Obj.loop 155 [(4, PV.ptr 0 dw 0), (5, PV.ptr 0 xE 0)] x) = S (x, s.2.1, s.2.2)) (hg1 : ∀ s, X.look (S s) lz0 dw = some (X.Obj.box 59 [PV.fn 30 [.ptr Ez fB 0]])) (hg2 : ∀ s, X.look (S s) lz1 fB = some (X.Obj.box 32 [PV.row 0 vg s.2.1])) (hu2 : ∀ s x, X.bJ (S s) lz1 fB (X.Obj.box 32 [PV.row 0 vg x]) = S (s.1, x, s.2.2)) (hg3 : ∀ s, X.look (S s) lz1 vg = some (X.Obj.row 34 31 (E.au s.2.2) true none)) (hu3 : ∀ s x, X.bJ (S s) lz1 vg (X.Obj.row 34 31 (E.au x) true none) = S (s.1, s.2.1, x)) (hg4 : ∀ s, X.look (S s) lz0 xE = some (X.Obj.box 59 [PV.d (.fn 32 [])])) {r : (Option X.Ex) × (List Inst)}, Ep fu a1 b0 b3 = some r → ∀ {args : List PV}, [PV.jv lz0 bO, PV.aS (eT E a1)] = args → ∀ {st : St}, S (c0, Ey, c3) = st → ∀ {JI : Int}, ln r.2 = JI → Sat (Ω.cf 70 args st) (fun q => q = (PV.pG [], S (r.1, JI, r.2)))) := by
 intro fu
 induction fu with
 | zero => exact ⟨(@fun _ _ _ _ _ _ _ _ _ _ _ _ _ _ _ _ _ _ _ _ _ _ _ _ _ _ _ _ h => by cases h), (@fun _ _ _ _ _ _ _ _ _ _ _ _ _ _ _ h => by cases h), (@fun _ _ _ _ _ _ _ _ _ _ _ _ _ _ _ _ _ _ _ _ _ _ _ _ _ _ _ _ h => by cases h)⟩
 | succ fu ih =>
  obtain ⟨OJ, VO, VP⟩ := ih
  exact ⟨(@fun a1 b0 c0 b3 c3 Ey S lz0 lz1 Ez bO dw fB vg xE hl1 e0 e3 JH hg0 hu0 hg1 hg2 hu2 hg3 hu3 hg4 r h args ha st hs JI a => VL (fu := fu) hΩ hE OJ VO VP hl1 e0 e3 JH hg0 hu0 hg1 hg2 hu2 hg3 hu3 hg4 h ha hs a), (@fun a0 b1 c1 Fe S lz0 bO dw e1 RS hg0 hu0 hg1 hu1 r h args ha st hs OD b => ZL (fu := fu) hΩ hE OJ VO VP e1 RS hg0 hu0 hg1 hu1 h ha hs b), (@fun a1 b0 c0 b3 c3 Ey S lz0 lz1 Ez bO dw fB vg xE hl1 e0 e3 JH hg0 hu0 hg1 hg2 hu2 hg3 hu3 hg4 r h args ha st hs JI a => ZM (fu := fu) hΩ hE OJ VO VP hl1 e0 e3 JH hg0 hu0 hg1 hg2 hu2 hg3 hu3 hg4 h ha hs a)⟩
theorem acS : ∀ {a0 : Inst} {b1 c1 : List Inst} {Fe : Int} {S : (Int × (List Inst)) → St} {lz0 bO dw : Nat} (e1 : b1 = c1) (RS : ln b1 = Fe) (hg0 : ∀ s, X.look (S s) lz0 bO = some (X.Obj.box 32 [PV.row 0 dw s.1])) (hu0 : ∀ s x, X.bJ (S s) lz0 bO (X.Obj.box 32 [PV.row 0 dw x]) = S (x, s.2)) (hg1 : ∀ s, X.look (S s) lz0 dw = some (X.Obj.row 34 31 (E.au s.2) true none)) (hu1 : ∀ s x, X.bJ (S s) lz0 dw (X.Obj.row 34 31 (E.au x) true none) = S (s.1, x)) {r : (List Inst)}, AU fu a0 b1 = some r → ∀ {args : List PV}, [bg E a0, PV.fn 30 [.ptr lz0 bO 0], PV.d (.fn 32 [])] = args → ∀ {st : St}, S (Fe, c1) = st → ∀ {OD : Int}, ln r = OD → Sat (Ω.cf 29 args st) (fun q => q = (PV.pG [], S (OD, r))) := (VN hΩ hE fu).2.1
theorem ahl {a0 : Inst} {r : (Sl Inst)} (h : P10 fu a0 = some r) {args : List PV} (ha : [bg E a0] = args) (st : St) :
 Sat (Ω.cf 10 args st) (fun q => q = (PV.d (.sl (E.au r.l) (E.aD r.x)), st)) := by
 subst ha
 rcases a0 with ⟨e, ⟨g, i, j, ⟨k, m, o, ⟨p, t⟩, ⟨u, v⟩, w, y, z⟩⟩, ⟨a1, a2⟩, ⟨a3, a4⟩, ⟨a5, a6⟩, a7, a8, a9, ⟨b0, b1, b2, ⟨b3, b4⟩, ⟨b5, b6⟩, b7, b8, b9⟩, c0, c2, ⟨c3, c4⟩, c5, c6⟩
 rw [aC hΩ (f := 10) (fn := Try.f10) rfl rfl rfl rfl rfl rfl]
 unfold P10 at h
 try dsimp only at h
 refine cv ?_
 refine dA hΩ (ak hE) fun l1 c7 => cv ?_
 replace h := aQ h
 obtain ⟨a, b, h⟩ := h
 obtain ⟨n5, c⟩ : ∃ n, ln a = n := ⟨_, rfl⟩
 refine bC (acS hΩ hE (S := (fun (s : Int × (List Inst)) => ([X.Obj.row 34 31 (E.au s.2) true none, X.Obj.box 32 [PV.row 0 0 s.1]] : List X.Obj) :: st)) (lz0 := 0) (bO := 1) (dw := 0) (c1 := l1) (Fe := 0) (by (try clear h); subst_vars; rfl) (by  first | rfl | ((try clear h); subst_vars; rfl) | ((try clear h); subst_vars; simp only [kQ]) | assumption | ((try clear h); subst_vars; assumption)) (fun s => rfl) (fun s x => rfl) (fun s => rfl) (fun s x => rfl) b (by (try clear h); subst_vars; rfl) (by (try clear h); subst_vars; rfl) c) (cv ?_)
 refine sat_true (bB hΩ (ak hE) a) (cv ?_)
 exact sp h
def OL (Ω : Om) (E : Enc) (jq : Inst → Inst → Int → (Option X.Ex) → (Sl Inst) → Option (Bool × (Option X.Ex) × (Sl Inst))) : Prop := ∀ {a1 : Inst} {d0 : Inst} {d1 : Int} {b0 c0 : Option X.Ex} {b1 c1 : Sl Inst} {S : ((Option X.Ex) × (Sl Inst)) → St} {lz0 bO dw : Nat} (e0 : b0 = c0) (e1 : b1 = c1) (hg0 : ∀ s, X.look (S s) lz0 bO = some (X.Obj.loop 156 [(2, PV.aS (eT E d0)), (3, PV.aS [.int .i64 d1]), (4, PV.ptr 0 dw 0)] s.1)) (hu0 : ∀ s x, X.bJ (S s) lz0 bO (X.Obj.loop 156 [(2, PV.aS (eT E d0)), (3, PV.aS [.int .i64 d1]), (4, PV.ptr 0 dw 0)] x) = S (x, s.2)) (hg1 : ∀ s, X.look (S s) lz0 dw = some (X.Obj.box 32 (qZ E s.2))) (hu1 : ∀ s x, X.bJ (S s) lz0 dw (X.Obj.box 32 (qZ E x)) = S (s.1, x)) {r : Bool × (Option X.Ex) × (Sl Inst)}, jq a1 d0 d1 b0 b1 = some r → ∀ {args : List PV}, [PV.jv lz0 bO, bg E a1] = args → ∀ {st : St}, S (c0, c1) = st → Sat (Ω.rd 156 args st) (fun q => q = (PV.d (.bool r.1), S (r.2.1, r.2.2)))
def H43 (Ω : Om) (E : Enc) (p43 : Inst → Int → Option ((Sl Inst))) : Prop := ∀ {a0 : Inst} {a1 : Int} {r : (Sl Inst)}, p43 a0 a1 = some r → ∀ {args : List PV}, [bg E a0, PV.d (.int .i64 a1)] = args → ∀ (st : St), Sat (Ω.cf 43 args st) (fun q => q = (PV.d (.sl (E.au r.l) (E.aD r.x)), st))
def VQ (Ω : Om) (E : Enc) (qd : Inst → Inst → Int → (Option X.Ex) → (Sl Inst) → Option ((Option X.Ex) × (Sl Inst))) : Prop := ∀ {a1 : Inst} {d0 : Inst} {d1 : Int} {b0 c0 : Option X.Ex} {b1 c1 : Sl Inst} {S : ((Option X.Ex) × (Sl Inst)) → St} {lz0 bO dw : Nat} (e0 : b0 = c0) (e1 : b1 = c1) (hg0 : ∀ s, X.look (S s) lz0 bO = some (X.Obj.loop 156 [(2, PV.aS (eT E d0)), (3, PV.aS [.int .i64 d1]), (4, PV.ptr 0 dw 0)] s.1)) (hu0 : ∀ s x, X.bJ (S s) lz0 bO (X.Obj.loop 156 [(2, PV.aS (eT E d0)), (3, PV.aS [.int .i64 d1]), (4, PV.ptr 0 dw 0)] x) = S (x, s.2)) (hg1 : ∀ s, X.look (S s) lz0 dw = some (X.Obj.box 32 (qZ E s.2))) (hu1 : ∀ s x, X.bJ (S s) lz0 dw (X.Obj.box 32 (qZ E x)) = S (s.1, x)) {r : (Option X.Ex) × (Sl Inst)}, qd a1 d0 d1 b0 b1 = some r → ∀ {args : List PV}, [PV.jv lz0 bO, PV.aS (eT E a1)] = args → ∀ {st : St}, S (c0, c1) = st → Sat (Ω.cf 70 args st) (fun q => q = (PV.pG [], S (r.1, r.2)))
theorem VR {jq : Inst → Inst → Int → (Option X.Ex) → (Sl Inst) → Option (Bool × (Option X.Ex) × (Sl Inst))} (JU : OL Ω E jq) {p43 : Inst → Int → Option ((Sl Inst))} (acT : H43 Ω E p43) {qd : Inst → Inst → Int → (Option X.Ex) → (Sl Inst) → Option ((Option X.Ex) × (Sl Inst))} (OM : VQ Ω E qd) {a1 : Inst} {d0 : Inst} {d1 : Int} {b0 c0 : Option X.Ex} {b1 c1 : Sl Inst} {S : ((Option X.Ex) × (Sl Inst)) → St} {lz0 bO dw : Nat} (e0 : b0 = c0) (e1 : b1 = c1) (hg0 : ∀ s, X.look (S s) lz0 bO = some (X.Obj.loop 156 [(2, PV.aS (eT E d0)), (3, PV.aS [.int .i64 d1]), (4, PV.ptr 0 dw 0)] s.1)) (hu0 : ∀ s x, X.bJ (S s) lz0 bO (X.Obj.loop 156 [(2, PV.aS (eT E d0)), (3, PV.aS [.int .i64 d1]), (4, PV.ptr 0 dw 0)] x) = S (x, s.2)) (hg1 : ∀ s, X.look (S s) lz0 dw = some (X.Obj.box 32 (qZ E s.2))) (hu1 : ∀ s x, X.bJ (S s) lz0 dw (X.Obj.box 32 (qZ E x)) = S (s.1, x)) {r : Bool × (Option X.Ex) × (Sl Inst)} (h : yY fu jq p43 qd a1 d0 d1 b0 b1 = some r) {args : List PV} (ha : [PV.jv lz0 bO, bg E a1] = args) {st : St} (hst : S (c0, c1) = st) :
 Sat (Ω.rd 156 args st) (fun q => q = (PV.d (.bool r.1), S (r.2.1, r.2.2))) := by
 subst ha
 subst hst
 subst e0
 subst e1
 rcases a1 with ⟨c8, ⟨c9, d2, d3, ⟨d4, d5, d6, ⟨d7, d8⟩, ⟨d9, e3⟩, e4, e5, e6⟩⟩, ⟨e7, e8⟩, ⟨e9, f0⟩, ⟨f1, f2⟩, f3, f4, f5, ⟨f6, f7, f8, ⟨f9, g0⟩, ⟨g1, g2⟩, g3, g4, g5⟩, g6, g7, ⟨g8, g9⟩, h0, h3⟩
 rcases d0 with ⟨b, ⟨c, e, f, ⟨i, j, m, ⟨n, o⟩, ⟨p, t⟩, u, v, w⟩⟩, ⟨y, z⟩, ⟨a0, a2⟩, ⟨a3, a4⟩, a5, a6, a7, ⟨a8, a9, b2, ⟨b3, b4⟩, ⟨b5, b6⟩, b7, b8, b9⟩, c2, c3, ⟨c4, c5⟩, c6, c7⟩
 rcases b1 with ⟨h9, i0⟩
 rw [Dp hΩ (g := 156) rfl rfl Lm]
 unfold yY at h
 try dsimp only at h
 rcases b0 with _ | _
 try dsimp only at h
 refine zN hΩ (hg0 _) (by exact (show nY (lz0+1) [(2, PV.aS (eT E ⟨b, ⟨c, e, f, ⟨i, j, m, ⟨n, o⟩, ⟨p, t⟩, u, v, w⟩⟩, ⟨y, z⟩, ⟨a0, a2⟩, ⟨a3, a4⟩, a5, a6, a7, ⟨a8, a9, b2, ⟨b3, b4⟩, ⟨b5, b6⟩, b7, b8, b9⟩, c2, c3, ⟨c4, c5⟩, c6, c7⟩)), (3, PV.aS [.int .i64 d1]), (4, PV.ptr 0 dw 0)] = [(2, PV.aS (jW E b c e f i j m n o p t u v w y z a0 a2 a3 a4 a5 a6 a7 a8 a9 b2 b3 b4 b5 b6 b7 b8 b9 c2 c3 c4 c5 c6 c7)), (3, PV.aS [.int .i64 d1]), (4, PV.ptr (lz0+1) dw 0)] by simp only [nY, down, down.fA, Nat.zero_add] <;> rfl)) (cv ?_)
 refine gU hΩ (hg0 _) (cv ?_)
 refine eu hΩ (hu0 _ _) (cv ?_)
 replace h := aQ h
 obtain ⟨⟨a, h6⟩, i1, h⟩ := h
 try dsimp only at h
 refine av (acT i1) (cv ?_)
 refine aP hΩ (ak hE) a fun n3 i5 => cv ?_
 replace h := aQ h
 obtain ⟨q, h4, h⟩ := h
 refine aH hΩ ((fun (q : Unit ⊕ ((List Inst) × (Option (List Inst)))) => (match q with | .inl _ => (.normal, [(2, PV.aS (jW E b c e f i j m n o p t u v w y z a0 a2 a3 a4 a5 a6 a7 a8 a9 b2 b3 b4 b5 b6 b7 b8 b9 c2 c3 c4 c5 c6 c7)), (3, PV.aS [.int .i64 d1]), (4, PV.ptr (lz0+1) dw 0), (5, PV.ptr 0 0 0), (6, PV.d (.sl (E.au a) (E.aD h6))), (18, PV.agg (Fb E c8 c9 d2 d3 d4 d5 d6 d7 d8 d9 e3 e4 e5 e6 e7 e8 e9 f0 f1 f2 f3 f4 f5 f6 f7 f8 f9 g0 g1 g2 g3 g4 g5 g6 g7 g8 g9 h0 h3))], ([X.Obj.box 34 (Fb E c8 c9 d2 d3 d4 d5 d6 d7 d8 d9 e3 e4 e5 e6 e7 e8 e9 f0 f1 f2 f3 f4 f5 f6 f7 f8 f9 g0 g1 g2 g3 g4 g5 g6 g7 g8 g9 h0 h3)] : List X.Obj) :: S ((some .normal), (Sl.mk h9 i0))) | .inr (h7, h8) => (.ret, [(2, PV.aS (jW E b c e f i j m n o p t u v w y z a0 a2 a3 a4 a5 a6 a7 a8 a9 b2 b3 b4 b5 b6 b7 b8 b9 c2 c3 c4 c5 c6 c7)), (3, PV.aS [.int .i64 d1]), (4, PV.ptr (lz0+1) dw 0), (5, PV.ptr 0 0 0), (6, PV.d (.sl (E.au a) (E.aD h6))), (18, PV.agg (Fb E c8 c9 d2 d3 d4 d5 d6 d7 d8 d9 e3 e4 e5 e6 e7 e8 e9 f0 f1 f2 f3 f4 f5 f6 f7 f8 f9 g0 g1 g2 g3 g4 g5 g6 g7 g8 g9 h0 h3))], ([X.Obj.box 34 (Fb E c8 c9 d2 d3 d4 d5 d6 d7 d8 d9 e3 e4 e5 e6 e7 e8 e9 f0 f1 f2 f3 f4 f5 f6 f7 f8 f9 g0 g1 g2 g3 g4 g5 g6 g7 g8 g9 h0 h3)] : List X.Obj) :: S ((some .normal), (Sl.mk h7 h8))))) q) (fun k hk => ?_) ?_
 clear h
 have h := h4
 clear h4
 refine cv ?_
 revert h; refine bQ (fun i2 h => cv ?_) fun i2 h => cv ?_
 refine aN hΩ (cv ?_)
 replace h := aQ h
 obtain ⟨l6, i3, h⟩ := h
 have hL8 : ([[.int .i64 b, .str c, .int .u8 e, .str f, .int .u8 i, .int .i64 j, .str m, .sl (E.aJ n) (E.aT o), .sl (E.aG p) (E.aI t), .int .u8 u, .str v, .bool w, .sl (E.eH y) (E.gH z), .sl (E.dJ a0) (E.eP a2), .sl (E.au a3) (E.aD a4), .int .i64 a5, .bool a6, .bool a7, .int .u8 a8, .int .i64 a9, .str b2, .sl (E.aJ b3) (E.aT b4), .sl (E.aG b5) (E.aI b6), .int .u8 b7, .str b8, .bool b9, .str c2, .bool c3, .sl (E.au c4) (E.aD c5), .bool c6, .bool c7]] : List (List D)) = E.au l6 := by (have hy := Option.some.inj i3; clear h; subst hy; subst hE; rfl)
 rw [hL8]
 clear hL8
 refine cv ?_
 refine sat_true (gX hΩ _) (cv ?_)
 refine sat_true (bA hΩ (ak hE) a) (cv ?_)
 replace h := yQ h
 rcases h with ⟨h5, h⟩ | ⟨h5, h⟩
 refine dV (aU hΩ (ak hE) (l := a) h5) (cv ?_)
 refine Dm hΩ (hg1 _) (hu1 _ (Sl.mk l6 (some []))) rfl rfl (cv ?_)
 exact fk h hk
 refine dP (aU hΩ (ak hE) (l := a) h5) (cv ?_)
 refine sat_true (II hΩ (ak hE) l6 (some [])) (cv ?_)
 refine fK hΩ (ak hE) l6 a fun l10 i6 n12 i7 => cv ?_
 refine aP hΩ (ak hE) (l6 ++ a) fun n14 i9 => cv ?_
 replace h := dZ h
 obtain ⟨i4, h⟩ := h
 refine fJ i4 (cv ?_)
 refine sat_true (bB hΩ (ak hE) (l6 ++ a)) (cv ?_)
 refine Dm hΩ (hg1 _) (hu1 _ (Sl.mk l10 none)) rfl rfl (cv ?_)
 exact fk h hk
 exact fk h hk
 clear h4
 rcases q with _ | ⟨h7, h8⟩
 try dsimp only at h
 refine cv ?_
 refine gU hΩ (hg0 _) (cv ?_)
 refine eu hΩ (hu0 _ _) (cv ?_)
 exact sp h
 try dsimp only at h
 refine cv ?_
 refine gU hΩ (hg0 _) (cv ?_)
 refine eu hΩ (hu0 _ _) (cv ?_)
 exact sp h
 try dsimp only at h
 cases h
theorem afw {jq : Inst → Inst → Int → (Option X.Ex) → (Sl Inst) → Option (Bool × (Option X.Ex) × (Sl Inst))} (JU : OL Ω E jq) {p43 : Inst → Int → Option ((Sl Inst))} (acT : H43 Ω E p43) {qd : Inst → Inst → Int → (Option X.Ex) → (Sl Inst) → Option ((Option X.Ex) × (Sl Inst))} (OM : VQ Ω E qd) {a0 : Inst} {a1 : Int} {r : (Sl Inst)} (h : RJ fu jq p43 qd a0 a1 = some r) {args : List PV} (ha : [bg E a0, PV.d (.int .i64 a1)] = args) (st : St) :
 Sat (Ω.cf 43 args st) (fun q => q = (PV.d (.sl (E.au r.l) (E.aD r.x)), st)) := by
 subst ha
 rcases a0 with ⟨a, ⟨b, c, e, ⟨g, i, j, ⟨k, m⟩, ⟨n, o⟩, p, t, u⟩⟩, ⟨v, w⟩, ⟨y, z⟩, ⟨a2, a3⟩, a4, a5, a6, ⟨a7, a8, a9, ⟨b0, b1⟩, ⟨b2, b3⟩, b4, b5, b6⟩, b7, b8, ⟨b9, c2⟩, c3, c4⟩
 rw [aC hΩ (f := 43) (fn := Try.f43) rfl rfl rfl rfl rfl rfl]
 unfold RJ at h
 try dsimp only at h
 refine cv ?_
 refine aN hΩ (cv ?_)
 revert h; refine bQ (fun c5 h => cv ?_) fun c5 h => cv ?_
 exact sp h
 refine aN hΩ (cv ?_)
 revert h; refine bQ (fun c6 h => cv ?_) fun c6 h => cv ?_
 replace h := aQ h
 obtain ⟨l3, c7, h⟩ := h
 have hL5 : ([[.int .i64 a, .str b, .int .u8 c, .str e, .int .u8 g, .int .i64 i, .str j, .sl (E.aJ k) (E.aT m), .sl (E.aG n) (E.aI o), .int .u8 p, .str t, .bool u, .sl (E.eH v) (E.gH w), .sl (E.dJ y) (E.eP z), .sl (E.au a2) (E.aD a3), .int .i64 a4, .bool a5, .bool a6, .int .u8 a7, .int .i64 a8, .str a9, .sl (E.aJ b0) (E.aT b1), .sl (E.aG b2) (E.aI b3), .int .u8 b4, .str b5, .bool b6, .str b7, .bool b8, .sl (E.au b9) (E.aD c2), .bool c3, .bool c4]] : List (List D)) = E.au l3 := by (have hy := Option.some.inj c7; clear h; subst hy; subst hE; rfl)
 rw [hL5]
 clear hL5
 refine cv ?_
 exact sp h
 refine bC (acL hΩ hE (a0 := (Inst.mk a (Child.mk b c e (Value.mk g i j (Sl.mk k m) (Sl.mk n o) p t u)) (Sl.mk v w) (Sl.mk y z) (Sl.mk a2 a3) a4 a5 a6 (Value.mk a7 a8 a9 (Sl.mk b0 b1) (Sl.mk b2 b3) b4 b5 b6) b7 b8 (Sl.mk b9 c2) c3 c4)) (by (try clear h); subst_vars; rfl) _) (cv ?_)
 replace h := aQ h
 obtain ⟨⟨c8, ⟨d0, d1⟩⟩, c9, h⟩ := h
 try dsimp only at h
 refine bC (OM (S := (fun (s : (Option X.Ex) × (Sl Inst)) => ([X.Obj.box 32 (qZ E s.2), X.Obj.loop 156 [(2, PV.aS (eT E (Inst.mk a (Child.mk b c e (Value.mk g i j (Sl.mk k m) (Sl.mk n o) p t u)) (Sl.mk v w) (Sl.mk y z) (Sl.mk a2 a3) a4 a5 a6 (Value.mk a7 a8 a9 (Sl.mk b0 b1) (Sl.mk b2 b3) b4 b5 b6) b7 b8 (Sl.mk b9 c2) c3 c4))), (3, PV.aS [.int .i64 a1]), (4, PV.ptr 0 0 0)] s.1] : List X.Obj) :: st)) (lz0 := 0) (bO := 1) (dw := 0) (c0 := none) (c1 := (Sl.mk [] (some []))) (by (try clear h); subst_vars; rfl) (by (try clear h); subst_vars; rfl) (fun s => rfl) (fun s x => rfl) (fun s => rfl) (fun s x => rfl) c9 (by (try clear h); subst_vars; rfl) (by (try clear h); subst_vars; rfl)) (cv ?_)
 rcases c8 with _ | (_ | id | _)
 try dsimp only at h
 refine cv ?_
 exact sp h
 try dsimp only at h
 cases h
 try dsimp only at h
 cases h
 try dsimp only at h
 refine cv ?_
 exact sp h
theorem ZN {jq : Inst → Inst → Int → (Option X.Ex) → (Sl Inst) → Option (Bool × (Option X.Ex) × (Sl Inst))} (JU : OL Ω E jq) {p43 : Inst → Int → Option ((Sl Inst))} (acT : H43 Ω E p43) {qd : Inst → Inst → Int → (Option X.Ex) → (Sl Inst) → Option ((Option X.Ex) × (Sl Inst))} (OM : VQ Ω E qd) {a1 : Inst} {d0 : Inst} {d1 : Int} {b0 c0 : Option X.Ex} {b1 c1 : Sl Inst} {S : ((Option X.Ex) × (Sl Inst)) → St} {lz0 bO dw : Nat} (e0 : b0 = c0) (e1 : b1 = c1) (hg0 : ∀ s, X.look (S s) lz0 bO = some (X.Obj.loop 156 [(2, PV.aS (eT E d0)), (3, PV.aS [.int .i64 d1]), (4, PV.ptr 0 dw 0)] s.1)) (hu0 : ∀ s x, X.bJ (S s) lz0 bO (X.Obj.loop 156 [(2, PV.aS (eT E d0)), (3, PV.aS [.int .i64 d1]), (4, PV.ptr 0 dw 0)] x) = S (x, s.2)) (hg1 : ∀ s, X.look (S s) lz0 dw = some (X.Obj.box 32 (qZ E s.2))) (hu1 : ∀ s x, X.bJ (S s) lz0 dw (X.Obj.box 32 (qZ E x)) = S (s.1, x)) {r : (Option X.Ex) × (Sl Inst)} (h : Js fu jq p43 qd a1 d0 d1 b0 b1 = some r) {args : List PV} (ha : [PV.jv lz0 bO, PV.aS (eT E a1)] = args) {st : St} (hst : S (c0, c1) = st) :
 Sat (Ω.cf 70 args st) (fun q => q = (PV.pG [], S (r.1, r.2))) := by
 subst ha
 subst hst
 subst e0
 subst e1
 rcases a1 with ⟨n, ⟨o, p, t, ⟨u, v, w, ⟨y, z⟩, ⟨a0, a2⟩, a3, a4, a5⟩⟩, ⟨a6, a7⟩, ⟨a8, a9⟩, ⟨g, i⟩, b2, b3, b4, ⟨b5, b6, b7, ⟨b8, b9⟩, ⟨c2, c3⟩, c4, c5, c6⟩, c7, c8, ⟨j, m⟩, c9, d2⟩
 rcases d0 with ⟨k4, ⟨k5, k6, k7, ⟨k8, k9, l0, ⟨l2, l3⟩, ⟨l4, l5⟩, l6, l8, l9⟩⟩, ⟨m0, m1⟩, ⟨m2, m3⟩, ⟨m4, m5⟩, m6, m7, m8, ⟨m9, n0, n1, ⟨n2, n3⟩, ⟨n4, n5⟩, n6, n7, n8⟩, n9, o0, ⟨o1, o2⟩, o3, o4⟩
 rcases b1 with ⟨e6, e7⟩
 rw [aC hΩ (f := 70) (fn := Try.f70) rfl rfl rfl rfl rfl rfl]
 unfold Js at h
 try dsimp only at h
 refine cv ?_
 replace h := aQ h
 obtain ⟨l1, j2, h⟩ := h
 have hL3 : ([[.sl (E.au g) (E.aD i)]] : List (List D)) = E.aR l1 := by (have hy := Option.some.inj j2; clear h; subst hy; subst hE; rfl)
 rw [hL3]
 clear hL3
 refine cv ?_
 replace h := aQ h
 obtain ⟨r4, j3, h⟩ := h
 refine av (Zt hΩ hE j3) (cv ?_)
 replace h := aQ h
 obtain ⟨q, d4, h⟩ := h
 refine aH hΩ ((fun (q : (List (Sl Inst)) × (Option (List (Sl Inst)))) => (match q with | (b, c) => (.normal, [(0, PV.jv (lz0+1) bO), (1, PV.aS (jW E n o p t u v w y z a0 a2 a3 a4 a5 a6 a7 a8 a9 g i b2 b3 b4 b5 b6 b7 b8 b9 c2 c3 c4 c5 c6 c7 c8 j m c9 d2)), (3, PV.d (.sl (E.aR b) (E.aX c)))], nO :: S (b0, (Sl.mk e6 e7))))) q) (fun k hk => ?_) ?_
 clear h
 have h := d4
 clear d4
 refine cv ?_
 revert h; refine bQ (fun j4 h => cv ?_) fun j4 h => cv ?_
 refine aN hΩ (cv ?_)
 replace h := aQ h
 obtain ⟨l7, j5, h⟩ := h
 have hL9 : ([[.sl (E.au j) (E.aD m)]] : List (List D)) = E.aR l7 := by (have hy := Option.some.inj j5; clear h; subst hy; subst hE; rfl)
 rw [hL9]
 clear hL9
 refine cv ?_
 refine sat_true (gX hΩ _) (cv ?_)
 refine sat_true (bA hΩ (bI hE) l7) (cv ?_)
 replace h := yQ h
 rcases h with ⟨d5, h⟩ | ⟨d5, h⟩
 refine dV (aU hΩ (bI hE) (l := l7) d5) (cv ?_)
 exact fk h hk
 refine dP (aU hΩ (bI hE) (l := l7) d5) (cv ?_)
 refine sat_true (II hΩ (bI hE) l1 (some [])) (cv ?_)
 refine fK hΩ (bI hE) l1 l7 fun l11 o5 n13 o6 => cv ?_
 refine aP hΩ (bI hE) (l1 ++ l7) fun n15 o7 => cv ?_
 replace h := dZ h
 obtain ⟨j6, h⟩ := h
 refine fJ j6 (cv ?_)
 refine sat_true (bB hΩ (bI hE) (l1 ++ l7)) (cv ?_)
 exact fk h hk
 exact fk h hk
 clear d4
 rcases q with ⟨b, c⟩
 try dsimp only at h
 refine cv ?_
 refine aP hΩ (bI hE) b fun n19 o8 => cv ?_
 replace h := aQ h
 obtain ⟨q, d6, h⟩ := h
 refine bK hΩ (fun (a : (Option X.Ex) × (List Inst) × (Option (List Inst)) × Int) => (match a with | (g21, d7, d8, i23) => ([(0, PV.jv (lz0+1) bO), (1, PV.aS (jW E n o p t u v w y z a0 a2 a3 a4 a5 a6 a7 a8 a9 g i b2 b3 b4 b5 b6 b7 b8 b9 c2 c3 c4 c5 c6 c7 c8 j m c9 d2)), (3, PV.d (.sl (E.aR b) (E.aX c))), (18, PV.d (.sl (E.aR b) (E.aX c))), (19, vi n19), (20, vi i23)], nO :: S (g21, (Sl.mk d7 d8))))) (fun (q : ((Option X.Ex) × (List Inst) × (Option (List Inst)) × Int) ⊕ ((Option X.Ex) × (List Inst) × (Option (List Inst)) × Int)) => (match q with | .inl (Qm, Kk, Sn, RI) => (.exit 0, [(0, PV.jv (lz0+1) bO), (1, PV.aS (jW E n o p t u v w y z a0 a2 a3 a4 a5 a6 a7 a8 a9 g i b2 b3 b4 b5 b6 b7 b8 b9 c2 c3 c4 c5 c6 c7 c8 j m c9 d2)), (3, PV.d (.sl (E.aR b) (E.aX c))), (18, PV.d (.sl (E.aR b) (E.aX c))), (19, vi n19), (20, vi RI)], nO :: S (Qm, (Sl.mk Kk Sn))) | .inr (Kl, Sq, o61, o62) => (.ret, [(0, PV.jv (lz0+1) bO), (1, PV.aS (jW E n o p t u v w y z a0 a2 a3 a4 a5 a6 a7 a8 a9 g i b2 b3 b4 b5 b6 b7 b8 b9 c2 c3 c4 c5 c6 c7 c8 j m c9 d2)), (3, PV.d (.sl (E.aR b) (E.aX c))), (18, PV.d (.sl (E.aR b) (E.aX c))), (19, vi n19), (20, vi o62)], nO :: S (Kl, (Sl.mk Sq o61))))) (b0, e6, e7, 0) d6 ?_ ?_
 clear h d6
 rintro ⟨g21, d7, d8, i23⟩ q h
 unfold mg at h
 dsimp only at h
 refine cv ?_
 refine aN hΩ (cv ?_)
 revert h; refine bQ (fun j7 h => cv ?_) fun j7 h => cv ?_
 refine sat_true (bA hΩ (bI hE) b) (cv ?_)
 replace h := aQ h
 obtain ⟨⟨e, d3⟩, j8, h⟩ := h
 try dsimp only at h
 refine ay (aW hΩ (bI hE) j8) (cv ?_)
 refine aP hΩ (ak hE) e fun n27 o9 => cv ?_
 replace h := aQ h
 obtain ⟨q, d9, h⟩ := h
 refine bK hΩ (fun (a : (Option X.Ex) × (List Inst) × (Option (List Inst)) × Int) => (match a with | (En, e3, e4, i31) => ([(0, PV.jv (lz0+1) bO), (1, PV.aS (jW E n o p t u v w y z a0 a2 a3 a4 a5 a6 a7 a8 a9 g i b2 b3 b4 b5 b6 b7 b8 b9 c2 c3 c4 c5 c6 c7 c8 j m c9 d2)), (3, PV.d (.sl (E.aR b) (E.aX c))), (5, PV.d (.sl (E.au e) (E.aD d3))), (18, PV.d (.sl (E.aR b) (E.aX c))), (19, vi n19), (20, vi i23), (24, PV.d (.sl (E.au e) (E.aD d3))), (25, vi n27), (26, vi i31)], nO :: S (En, (Sl.mk e3 e4))))) (fun (q : ((Option X.Ex) × (List Inst) × (Option (List Inst)) × Int) ⊕ ((Option X.Ex) × (List Inst) × (Option (List Inst)) × Int)) => (match q with | .inl (o46, o47, Qk, Ml) => (.exit 2, [(0, PV.jv (lz0+1) bO), (1, PV.aS (jW E n o p t u v w y z a0 a2 a3 a4 a5 a6 a7 a8 a9 g i b2 b3 b4 b5 b6 b7 b8 b9 c2 c3 c4 c5 c6 c7 c8 j m c9 d2)), (3, PV.d (.sl (E.aR b) (E.aX c))), (5, PV.d (.sl (E.au e) (E.aD d3))), (18, PV.d (.sl (E.aR b) (E.aX c))), (19, vi n19), (20, vi i23), (24, PV.d (.sl (E.au e) (E.aD d3))), (25, vi n27), (26, vi Ml)], nO :: S (o46, (Sl.mk o47 Qk))) | .inr (Sm, Ql, Kj, Vx) => (.ret, [(0, PV.jv (lz0+1) bO), (1, PV.aS (jW E n o p t u v w y z a0 a2 a3 a4 a5 a6 a7 a8 a9 g i b2 b3 b4 b5 b6 b7 b8 b9 c2 c3 c4 c5 c6 c7 c8 j m c9 d2)), (3, PV.d (.sl (E.aR b) (E.aX c))), (5, PV.d (.sl (E.au e) (E.aD d3))), (18, PV.d (.sl (E.aR b) (E.aX c))), (19, vi n19), (20, vi i23), (24, PV.d (.sl (E.au e) (E.aD d3))), (25, vi n27), (26, vi Vx)], nO :: S (Sm, (Sl.mk Ql Kj))))) (g21, d7, d8, 0) d9 ?_ ?_
 clear h d9
 rintro ⟨En, e3, e4, i31⟩ q h
 unfold yZ at h
 dsimp only at h
 refine cv ?_
 refine aN hΩ (cv ?_)
 revert h; refine bQ (fun j9 h => cv ?_) fun j9 h => cv ?_
 refine sat_true (bA hΩ (ak hE) e) (cv ?_)
 replace h := aQ h
 obtain ⟨⟨e8, ⟨e9, f0, f1, ⟨f2, f3, f4, ⟨f5, f6⟩, ⟨f7, f8⟩, f9, g0, g1⟩⟩, ⟨g2, g3⟩, ⟨g4, g5⟩, ⟨g6, g7⟩, g8, g9, h0, ⟨h3, h4, h5, ⟨h6, h7⟩, ⟨h8, h9⟩, i0, i1, i2⟩, i3, i4, ⟨i5, i6⟩, i7, i9⟩, k0, h⟩ := h
 try dsimp only at h
 refine ay (aW hΩ (ak hE) k0) (cv ?_)
 replace h := aQ h
 obtain ⟨q, e5, h⟩ := h
 refine aH hΩ ((fun (q : (Option X.Ex) × (List Inst) × (Option (List Inst)) × Bool) => (match q with | (g40, j0, j1, i42) => ([(0, PV.jv (lz0+1) bO), (1, PV.aS (jW E n o p t u v w y z a0 a2 a3 a4 a5 a6 a7 a8 a9 g i b2 b3 b4 b5 b6 b7 b8 b9 c2 c3 c4 c5 c6 c7 c8 j m c9 d2)), (3, PV.d (.sl (E.aR b) (E.aX c))), (5, PV.d (.sl (E.au e) (E.aD d3))), (7, PV.ptr 0 0 0), (18, PV.d (.sl (E.aR b) (E.aX c))), (19, vi n19), (20, vi i23), (24, PV.d (.sl (E.au e) (E.aD d3))), (25, vi n27), (26, vi i31), (38, vb i42)], ([X.Obj.box 34 (Fb E e8 e9 f0 f1 f2 f3 f4 f5 f6 f7 f8 f9 g0 g1 g2 g3 g4 g5 g6 g7 g8 g9 h0 h3 h4 h5 h6 h7 h8 h9 i0 i1 i2 i3 i4 i5 i6 i7 i9)] : List X.Obj) :: S (g40, (Sl.mk j0 j1))))) q) (fun k hk => ?_) ?_
 clear h
 have h := e5
 clear e5
 refine cv ?_
 revert h; refine bQ (fun k1 h => cv ?_) fun k1 h => cv ?_
 rcases En with _ | _
 try dsimp only at h
 refine gU hΩ (hg0 _) (cv ?_)
 replace h := aQ h
 obtain ⟨⟨Qe, p0, ⟨p1, p2⟩⟩, k2, h⟩ := h
 try dsimp only at h
 refine bC (JU (S := (fun (s : (Option X.Ex) × (Sl Inst)) => ([X.Obj.box 34 (Fb E e8 e9 f0 f1 f2 f3 f4 f5 f6 f7 f8 f9 g0 g1 g2 g3 g4 g5 g6 g7 g8 g9 h0 h3 h4 h5 h6 h7 h8 h9 i0 i1 i2 i3 i4 i5 i6 i7 i9)] : List X.Obj) :: S (s.1, s.2))) (lz0 := (lz0+1)) (bO := bO) (dw := dw) (c0 := none) (c1 := (Sl.mk e3 e4)) (by (try clear h); subst_vars; rfl) (by (try clear h); subst_vars; rfl) (fun s => hg0 (s.1, s.2)) (fun s x => congrArg (List.cons _) (hu0 (s.1, s.2) x)) (fun s => hg1 (s.1, s.2)) (fun s x => congrArg (List.cons _) (hu1 (s.1, s.2) x)) k2 (by (try clear h); subst_vars; rfl) (by (try clear h); subst_vars; rfl)) (cv ?_)
 exact fk h hk
 try dsimp only at h
 cases h
 exact fk h hk
 clear e5
 rcases q with ⟨g40, j0, j1, i42⟩
 try dsimp only at h
 refine cv ?_
 refine aN hΩ (cv ?_)
 revert h; refine bQ (fun k3 h => cv ?_) fun k3 h => cv ?_
 obtain rfl := fZ h
 subst_vars
 exact sR
 obtain rfl := fZ h
 subst_vars
 exact s3
 obtain rfl := fZ h
 subst_vars
 exact sL
 clear d9
 rcases q with ⟨o46, o47, Qk, Ml⟩ | ⟨Sm, Ql, Kj, Vx⟩
 dsimp only at h
 refine cv ?_
 obtain rfl := fZ h
 subst_vars
 exact s3
 dsimp only at h
 refine cv ?_
 obtain rfl := fZ h
 subst_vars
 exact sR
 obtain rfl := fZ h
 subst_vars
 exact sL
 clear d6
 rcases q with ⟨Qm, Kk, Sn, RI⟩ | ⟨Kl, Sq, o61, o62⟩
 dsimp only at h
 refine cv ?_
 exact sp h
 dsimp only at h
 refine cv ?_
 exact sp h
theorem VT : ∀ fu,
 (∀ {a1 : Inst} {d0 : Inst} {d1 : Int} {b0 c0 : Option X.Ex} {b1 c1 : Sl Inst} {S : ((Option X.Ex) × (Sl Inst)) → St} {lz0 bO dw : Nat} (e0 : b0 = c0) (e1 : b1 = c1) (hg0 : ∀ s, X.look (S s) lz0 bO = some (X.Obj.loop 156 [(2, PV.aS (eT E d0)), (3, PV.aS [.int .i64 d1]), (4, PV.ptr 0 dw 0)] s.1)) (hu0 : ∀ s x, X.bJ (S s) lz0 bO (X.Obj.loop 156 [(2, PV.aS (eT E d0)), (3, PV.aS [.int .i64 d1]), (4, PV.ptr 0 dw 0)] x) = S (x, s.2)) (hg1 : ∀ s, X.look (S s) lz0 dw = some (X.Obj.box 32 (qZ E s.2))) (hu1 : ∀ s x, X.bJ (S s) lz0 dw (X.Obj.box 32 (qZ E x)) = S (s.1, x)) {r : Bool × (Option X.Ex) × (Sl Inst)}, qA fu a1 d0 d1 b0 b1 = some r → ∀ {args : List PV}, [PV.jv lz0 bO, bg E a1] = args → ∀ {st : St}, S (c0, c1) = st → Sat (Ω.rd 156 args st) (fun q => q = (PV.d (.bool r.1), S (r.2.1, r.2.2)))) ∧
 (∀ {a0 : Inst} {a1 : Int} {r : (Sl Inst)}, Zg fu a0 a1 = some r → ∀ {args : List PV}, [bg E a0, PV.d (.int .i64 a1)] = args → ∀ (st : St), Sat (Ω.cf 43 args st) (fun q => q = (PV.d (.sl (E.au r.l) (E.aD r.x)), st))) ∧
 (∀ {a1 : Inst} {d0 : Inst} {d1 : Int} {b0 c0 : Option X.Ex} {b1 c1 : Sl Inst} {S : ((Option X.Ex) × (Sl Inst)) → St} {lz0 bO dw : Nat} (e0 : b0 = c0) (e1 : b1 = c1) (hg0 : ∀ s, X.look (S s) lz0 bO = some (X.Obj.loop 156 [(2, PV.aS (eT E d0)), (3, PV.aS [.int .i64 d1]), (4, PV.ptr 0 dw 0)] s.1)) (hu0 : ∀ s x, X.bJ (S s) lz0 bO (X.Obj.loop 156 [(2, PV.aS (eT E d0)), (3, PV.aS [.int .i64 d1]), (4, PV.ptr 0 dw 0)] x) = S (x, s.2)) (hg1 : ∀ s, X.look (S s) lz0 dw = some (X.Obj.box 32 (qZ E s.2))) (hu1 : ∀ s x, X.bJ (S s) lz0 dw (X.Obj.box 32 (qZ E x)) = S (s.1, x)) {r : (Option X.Ex) × (Sl Inst)}, Er fu a1 d0 d1 b0 b1 = some r → ∀ {args : List PV}, [PV.jv lz0 bO, PV.aS (eT E a1)] = args → ∀ {st : St}, S (c0, c1) = st → Sat (Ω.cf 70 args st) (fun q => q = (PV.pG [], S (r.1, r.2)))) := by
 intro fu
 induction fu with
 | zero => exact ⟨(@fun _ _ _ _ _ _ _ _ _ _ _ _ _ _ _ _ _ _ h => by cases h), (fun h => (by cases h)), (@fun _ _ _ _ _ _ _ _ _ _ _ _ _ _ _ _ _ _ h => by cases h)⟩
 | succ fu ih =>
  obtain ⟨OO, i43, VU⟩ := ih
  exact ⟨(@fun a1 d0 d1 b0 c0 b1 c1 S lz0 bO dw e0 e1 hg0 hu0 hg1 hu1 r h args ha st hs => VR (fu := fu) hΩ hE OO i43 VU e0 e1 hg0 hu0 hg1 hu1 h ha hs), (fun h => @fun args ha st => afw (fu := fu) hΩ hE OO i43 VU h ha st), (@fun a1 d0 d1 b0 c0 b1 c1 S lz0 bO dw e0 e1 hg0 hu0 hg1 hu1 r h args ha st hs => ZN (fu := fu) hΩ hE OO i43 VU e0 e1 hg0 hu0 hg1 hu1 h ha hs)⟩
theorem ahm : ∀ {a0 : Inst} {a1 : Int} {r : (Sl Inst)}, Zg fu a0 a1 = some r → ∀ {args : List PV}, [bg E a0, PV.d (.int .i64 a1)] = args → ∀ (st : St), Sat (Ω.cf 43 args st) (fun q => q = (PV.d (.sl (E.au r.l) (E.aD r.x)), st)) := (VT hΩ hE fu).2.1
theorem afx {a0 : Inst} {a1 : Int} {r : (Sl Inst)} (h : P14 fu a0 a1 = some r) {args : List PV} (ha : [bg E a0, PV.d (.int .i64 a1)] = args) (st : St) :
 Sat (Ω.cf 14 args st) (fun q => q = (PV.d (.sl (E.au r.l) (E.aD r.x)), st)) := by
 subst ha
 rcases a0 with ⟨e, ⟨g, i, j, ⟨k, m, n, ⟨o, p⟩, ⟨s, t⟩, u, v, w⟩⟩, ⟨y, z⟩, ⟨a2, a3⟩, ⟨a4, a5⟩, a6, a7, a8, ⟨a9, b0, b1, ⟨b2, b3⟩, ⟨b4, b5⟩, b6, b7, b8⟩, b9, c0, ⟨c1, c2⟩, c3, c4⟩
 rw [aC hΩ (f := 14) (fn := Try.f14) rfl rfl rfl rfl rfl rfl]
 unfold P14 at h
 try dsimp only at h
 refine cv ?_
 refine aN hΩ (cv ?_)
 revert h; refine bQ (fun a h => cv ?_) fun a h => cv ?_
 exact sp h
 replace h := aQ h
 obtain ⟨⟨c5, c6⟩, b, h⟩ := h
 try dsimp only at h
 refine av (ahm hΩ hE b) (cv ?_)
 replace h := aQ h
 obtain ⟨⟨c7, c8⟩, c, h⟩ := h
 try dsimp only at h
 refine av (ahj hΩ hE c) (cv ?_)
 exact sp h
theorem ahn {a0 : Inst} {a1 : Int} {r : Inst × Bool} (h : P13 fu a0 a1 = some r) {args : List PV} (ha : [bg E a0, PV.d (.int .i64 a1)] = args) (st : St) :
 Sat (Ω.cf 13 args st) (fun q => q = (PV.pG [bg E r.1, PV.d (.bool r.2)], st)) := by
 subst ha
 rcases a0 with ⟨g, ⟨i, j, k, ⟨l, m, n, ⟨o, p⟩, ⟨s, t⟩, u, v, w⟩⟩, ⟨x, y⟩, ⟨z, a2⟩, ⟨a3, a4⟩, a5, a6, a7, ⟨a8, a9, b0, ⟨b1, b2⟩, ⟨b3, b4⟩, b5, b6, b7⟩, b8, b9, ⟨c0, c1⟩, c2, c3⟩
 rw [aC hΩ (f := 13) (fn := Try.f13) rfl rfl rfl rfl rfl rfl]
 unfold P13 at h
 try dsimp only at h
 refine cv ?_
 replace h := aQ h
 obtain ⟨⟨a, c4⟩, b, h⟩ := h
 try dsimp only at h
 refine av (afx hΩ hE b) (cv ?_)
 refine aP hΩ (ak hE) a fun n3 c5 => cv ?_
 refine aN hΩ (cv ?_)
 revert h; refine bQ (fun c h => cv ?_) fun c h => cv ?_
 exact sp h
 refine aP hΩ (ak hE) a fun n6 c6 => cv ?_
 refine sat_true (bA hΩ (ak hE) a) (cv ?_)
 replace h := aQ h
 obtain ⟨⟨c7, ⟨c8, c9, d0, ⟨d1, d2, d3, ⟨d4, d5⟩, ⟨d6, d7⟩, d8, d9, e0⟩⟩, ⟨e3, e4⟩, ⟨e5, e6⟩, ⟨e7, e8⟩, e9, f0, f1, ⟨f2, f3, f4, ⟨f5, f6⟩, ⟨f7, f8⟩, f9, g0, g1⟩, g2, g3, ⟨g4, g5⟩, g6, g7⟩, e, h⟩ := h
 try dsimp only at h
 refine ay (aW hΩ (ak hE) e) (cv ?_)
 exact sp h
def H41 (Ω : Om) (E : Enc) (p41 : Value → Value → Option (Bool)) : Prop := ∀ {a0 : Value} {a1 : Value} {r : Bool}, p41 a0 a1 = some r → ∀ {args : List PV}, [bX E a0, bX E a1] = args → ∀ (st : St), Sat (Ω.cf 41 args st) (fun q => q = (PV.d (.bool r), st))
def H67 (Ω : Om) (E : Enc) (p67 : (Sl Value) → (Sl Value) → Option (Bool)) : Prop := ∀ {a0 : Sl Value} {a1 : Sl Value} {r : Bool}, p67 a0 a1 = some r → ∀ {args : List PV}, [PV.d (.sl (E.aJ a0.l) (E.aT a0.x)), PV.d (.sl (E.aJ a1.l) (E.aT a1.x))] = args → ∀ (st : St), Sat (Ω.cf 67 args st) (fun q => q = (PV.d (.bool r), st))
def H68 (Ω : Om) (E : Enc) (p68 : (Sl Field) → (Sl Field) → Option (Bool)) : Prop := ∀ {a0 : Sl Field} {a1 : Sl Field} {r : Bool}, p68 a0 a1 = some r → ∀ {args : List PV}, [PV.d (.sl (E.aG a0.l) (E.aI a0.x)), PV.d (.sl (E.aG a1.l) (E.aI a1.x))] = args → ∀ (st : St), Sat (Ω.cf 68 args st) (fun q => q = (PV.d (.bool r), st))
def H91 (Ω : Om) (E : Enc) (Gr : Field → Field → Option (Bool)) : Prop := ∀ {a0 : Field} {a1 : Field} {r : Bool}, Gr a0 a1 = some r → ∀ {args : List PV}, [dO E a0, dO E a1] = args → ∀ (st : St), Sat (Ω.cf 91 args st) (fun q => q = (PV.d (.bool r), st))
theorem afy {p41 : Value → Value → Option (Bool)} (VW : H41 Ω E p41) {p67 : (Sl Value) → (Sl Value) → Option (Bool)} (ZO : H67 Ω E p67) {p68 : (Sl Field) → (Sl Field) → Option (Bool)} (ZP : H68 Ω E p68) {Gr : Field → Field → Option (Bool)} (ZQ : H91 Ω E Gr) {a0 : Value} {a1 : Value} {r : Bool} (h : Vy fu p41 p67 p68 Gr a0 a1 = some r) {args : List PV} (ha : [bX E a0, bX E a1] = args) (st : St) :
 Sat (Ω.cf 41 args st) (fun q => q = (PV.d (.bool r), st)) := by
 subst ha
 rcases a0 with ⟨b, c, e, ⟨g, i⟩, ⟨j, l⟩, m, n, o⟩
 rcases a1 with ⟨p, s, t, ⟨u, v⟩, ⟨w, y⟩, z, a2, a3⟩
 rw [kJ hΩ (f := 41) (fn := Try.f41) (x := aei) rfl rfl Yi rfl rfl rfl]
 unfold Vy at h
 try dsimp only at h
 refine cv ?_
 replace h := aQ h
 obtain ⟨i12, a, h⟩ := h
 refine aH hΩ ((fun (q : Bool) => (match q with | i12 => ([(2, PV.aS (zD0 E b c e g i j l m n o)), (3, PV.aS (zD0 E p s t u v w y z a2 a3)), (4, vb i12)], nO :: st))) i12) (fun k hk => ?_) ?_
 clear h
 have h := a
 clear a
 refine cv ?_
 revert h; refine bQ (fun a4 h => cv ?_) fun a4 h => cv ?_
 refine ah hΩ (cv ?_)
 revert h; refine bQ (fun a5 h => cv ?_) fun a5 h => cv ?_
 revert h; refine bQ (fun a6 h => cv ?_) fun a6 h => cv ?_
 refine ah hΩ (cv ?_)
 replace h := aQ h
 obtain ⟨r4, a7, h⟩ := h
 refine av (ZO a7) (cv ?_)
 revert h; refine bQ (fun a8 h => cv ?_) fun a8 h => cv ?_
 replace h := aQ h
 obtain ⟨r7, a9, h⟩ := h
 refine av (ZP a9) (cv ?_)
 revert h; refine bQ (fun b0 h => cv ?_) fun b0 h => cv ?_
 refine ah hΩ (cv ?_)
 revert h; refine bQ (fun b1 h => cv ?_) fun b1 h => cv ?_
 refine ah hΩ (cv ?_)
 revert h; refine bQ (fun b2 h => cv ?_) fun b2 h => cv ?_
 exact fk h hk
 exact fk h hk
 refine ah hΩ (cv ?_)
 exact fk h hk
 refine ah hΩ (cv ?_)
 refine ah hΩ (cv ?_)
 exact fk h hk
 refine ah hΩ (cv ?_)
 refine ah hΩ (cv ?_)
 exact fk h hk
 refine ah hΩ (cv ?_)
 refine ah hΩ (cv ?_)
 refine ah hΩ (cv ?_)
 exact fk h hk
 refine ah hΩ (cv ?_)
 refine ah hΩ (cv ?_)
 refine ah hΩ (cv ?_)
 exact fk h hk
 refine ah hΩ (cv ?_)
 refine ah hΩ (cv ?_)
 refine ah hΩ (cv ?_)
 refine ah hΩ (cv ?_)
 exact fk h hk
 clear a
 try dsimp only at h
 refine cv ?_
 exact sp h
theorem afz {p41 : Value → Value → Option (Bool)} (VW : H41 Ω E p41) {p67 : (Sl Value) → (Sl Value) → Option (Bool)} (ZO : H67 Ω E p67) {p68 : (Sl Field) → (Sl Field) → Option (Bool)} (ZP : H68 Ω E p68) {Gr : Field → Field → Option (Bool)} (ZQ : H91 Ω E Gr) {a0 : Sl Value} {a1 : Sl Value} {r : Bool} (h : RL fu p41 p67 p68 Gr a0 a1 = some r) {args : List PV} (ha : [PV.d (.sl (E.aJ a0.l) (E.aT a0.x)), PV.d (.sl (E.aJ a1.l) (E.aT a1.x))] = args) (st : St) :
 Sat (Ω.cf 67 args st) (fun q => q = (PV.d (.bool r), st)) := by
 subst ha
 rcases a0 with ⟨b, e⟩
 rcases a1 with ⟨c, g⟩
 rw [aC hΩ (f := 67) (fn := Try.f67) rfl rfl rfl rfl rfl rfl]
 unfold RL at h
 try dsimp only at h
 refine cv ?_
 refine aP hΩ (bE hE) b fun n1 s => cv ?_
 refine aP hΩ (bE hE) c fun n3 t => cv ?_
 refine aN hΩ (cv ?_)
 revert h; refine bQ (fun j h => cv ?_) fun j h => cv ?_
 exact sp h
 replace h := aQ h
 obtain ⟨q, i, h⟩ := h
 refine bK hΩ (fun (a : Int) => (match a with | i6 => ([(0, PV.d (.sl (E.aJ b) (E.aT e))), (1, PV.d (.sl (E.aJ c) (E.aT g))), (4, vb false), (5, vi i6)], nO :: st))) (fun (q : Int ⊕ Int) => (match q with | .inl fq => (.exit 0, [(0, PV.d (.sl (E.aJ b) (E.aT e))), (1, PV.d (.sl (E.aJ c) (E.aT g))), (4, vb false), (5, vi fq)], nO :: st) | .inr kg => (.ret, [(0, PV.d (.sl (E.aJ b) (E.aT e))), (1, PV.d (.sl (E.aJ c) (E.aT g))), (4, vb false), (5, vi kg)], nO :: st))) 0 i ?_ ?_
 clear h i
 rintro i6 q h
 unfold Jt at h
 dsimp only at h
 refine cv ?_
 refine aP hΩ (bE hE) b fun n7 u => cv ?_
 refine aN hΩ (cv ?_)
 revert h; refine bQ (fun k h => cv ?_) fun k h => cv ?_
 refine sat_true (bA hΩ (bE hE) b) (cv ?_)
 replace h := aQ h
 obtain ⟨⟨v, w, y, ⟨z, a2⟩, ⟨a3, a4⟩, a5, a6, a7⟩, m, h⟩ := h
 try dsimp only at h
 refine ay (aW hΩ (bE hE) m) (cv ?_)
 refine sat_true (bA hΩ (bE hE) c) (cv ?_)
 replace h := aQ h
 obtain ⟨⟨a8, a9, b0, ⟨b1, b2⟩, ⟨b3, b4⟩, b5, b6, b7⟩, n, h⟩ := h
 try dsimp only at h
 refine ay (aW hΩ (bE hE) n) (cv ?_)
 replace h := aQ h
 obtain ⟨AQ, o, h⟩ := h
 refine av (VW o) (cv ?_)
 refine aN hΩ (cv ?_)
 revert h; refine bQ (fun p h => cv ?_) fun p h => cv ?_
 obtain rfl := fZ h
 subst_vars
 exact sR
 obtain rfl := fZ h
 subst_vars
 exact s3
 obtain rfl := fZ h
 subst_vars
 exact sL
 clear i
 rcases q with fq | kg
 dsimp only at h
 refine cv ?_
 exact sp h
 dsimp only at h
 refine cv ?_
 exact sp h
theorem afA {p41 : Value → Value → Option (Bool)} (VW : H41 Ω E p41) {p67 : (Sl Value) → (Sl Value) → Option (Bool)} (ZO : H67 Ω E p67) {p68 : (Sl Field) → (Sl Field) → Option (Bool)} (ZP : H68 Ω E p68) {Gr : Field → Field → Option (Bool)} (ZQ : H91 Ω E Gr) {a0 : Sl Field} {a1 : Sl Field} {r : Bool} (h : RN fu p41 p67 p68 Gr a0 a1 = some r) {args : List PV} (ha : [PV.d (.sl (E.aG a0.l) (E.aI a0.x)), PV.d (.sl (E.aG a1.l) (E.aI a1.x))] = args) (st : St) :
 Sat (Ω.cf 68 args st) (fun q => q = (PV.d (.bool r), st)) := by
 subst ha
 rcases a0 with ⟨b, e⟩
 rcases a1 with ⟨c, g⟩
 rw [aC hΩ (f := 68) (fn := Try.f68) rfl rfl rfl rfl rfl rfl]
 unfold RN at h
 try dsimp only at h
 refine cv ?_
 refine aP hΩ (bF hE) b fun n1 s => cv ?_
 refine aP hΩ (bF hE) c fun n3 t => cv ?_
 refine aN hΩ (cv ?_)
 revert h; refine bQ (fun j h => cv ?_) fun j h => cv ?_
 exact sp h
 replace h := aQ h
 obtain ⟨q, i, h⟩ := h
 refine bK hΩ (fun (a : Int) => (match a with | i6 => ([(0, PV.d (.sl (E.aG b) (E.aI e))), (1, PV.d (.sl (E.aG c) (E.aI g))), (4, vb false), (5, vi i6)], nO :: st))) (fun (q : Int ⊕ Int) => (match q with | .inl fq => (.exit 0, [(0, PV.d (.sl (E.aG b) (E.aI e))), (1, PV.d (.sl (E.aG c) (E.aI g))), (4, vb false), (5, vi fq)], nO :: st) | .inr kg => (.ret, [(0, PV.d (.sl (E.aG b) (E.aI e))), (1, PV.d (.sl (E.aG c) (E.aI g))), (4, vb false), (5, vi kg)], nO :: st))) 0 i ?_ ?_
 clear h i
 rintro i6 q h
 unfold Ju at h
 dsimp only at h
 refine cv ?_
 refine aP hΩ (bF hE) b fun n7 u => cv ?_
 refine aN hΩ (cv ?_)
 revert h; refine bQ (fun k h => cv ?_) fun k h => cv ?_
 refine sat_true (bA hΩ (bF hE) b) (cv ?_)
 replace h := aQ h
 obtain ⟨⟨v, ⟨w, y, z, ⟨a2, a3⟩, ⟨a4, a5⟩, a6, a7, a8⟩⟩, m, h⟩ := h
 try dsimp only at h
 refine ay (aW hΩ (bF hE) m) (cv ?_)
 refine sat_true (bA hΩ (bF hE) c) (cv ?_)
 replace h := aQ h
 obtain ⟨⟨a9, ⟨b0, b1, b2, ⟨b3, b4⟩, ⟨b5, b6⟩, b7, b8, b9⟩⟩, n, h⟩ := h
 try dsimp only at h
 refine ay (aW hΩ (bF hE) n) (cv ?_)
 replace h := aQ h
 obtain ⟨AQ, o, h⟩ := h
 refine av (ZQ o) (cv ?_)
 refine aN hΩ (cv ?_)
 revert h; refine bQ (fun p h => cv ?_) fun p h => cv ?_
 obtain rfl := fZ h
 subst_vars
 exact sR
 obtain rfl := fZ h
 subst_vars
 exact s3
 obtain rfl := fZ h
 subst_vars
 exact sL
 clear i
 rcases q with fq | kg
 dsimp only at h
 refine cv ?_
 exact sp h
 dsimp only at h
 refine cv ?_
 exact sp h
theorem afB {p41 : Value → Value → Option (Bool)} (VW : H41 Ω E p41) {p67 : (Sl Value) → (Sl Value) → Option (Bool)} (ZO : H67 Ω E p67) {p68 : (Sl Field) → (Sl Field) → Option (Bool)} (ZP : H68 Ω E p68) {Gr : Field → Field → Option (Bool)} (ZQ : H91 Ω E Gr) {a0 : Field} {a1 : Field} {r : Bool} (h : RO fu p41 p67 p68 Gr a0 a1 = some r) {args : List PV} (ha : [dO E a0, dO E a1] = args) (st : St) :
 Sat (Ω.cf 91 args st) (fun q => q = (PV.d (.bool r), st)) := by
 subst ha
 rcases a0 with ⟨b, ⟨c, e, g, ⟨i, j⟩, ⟨l, m⟩, n, o, p⟩⟩
 rcases a1 with ⟨s, ⟨t, u, v, ⟨w, x⟩, ⟨y, z⟩, a2, a3, a4⟩⟩
 rw [aC hΩ (f := 91) (fn := Try.f91) rfl rfl rfl rfl rfl rfl]
 unfold RO at h
 try dsimp only at h
 refine cv ?_
 replace h := aQ h
 obtain ⟨i4, a, h⟩ := h
 refine aH hΩ ((fun (q : Bool) => (match q with | i4 => ([(2, PV.aS (zD1 E b c e g i j l m n o p)), (3, PV.aS (zD1 E s t u v w x y z a2 a3 a4)), (4, vb i4)], nO :: st))) i4) (fun k hk => ?_) ?_
 clear h
 have h := a
 clear a
 refine cv ?_
 revert h; refine bQ (fun a5 h => cv ?_) fun a5 h => cv ?_
 replace h := aQ h
 obtain ⟨r2, a6, h⟩ := h
 refine av (VW a6) (cv ?_)
 refine ah hΩ (cv ?_)
 exact fk h hk
 refine ah hΩ (cv ?_)
 exact fk h hk
 clear a
 try dsimp only at h
 refine cv ?_
 exact sp h
theorem VX : ∀ fu,
 (∀ {a0 : Value} {a1 : Value} {r : Bool}, Jv fu a0 a1 = some r → ∀ {args : List PV}, [bX E a0, bX E a1] = args → ∀ (st : St), Sat (Ω.cf 41 args st) (fun q => q = (PV.d (.bool r), st))) ∧
 (∀ {a0 : Sl Value} {a1 : Sl Value} {r : Bool}, Qn fu a0 a1 = some r → ∀ {args : List PV}, [PV.d (.sl (E.aJ a0.l) (E.aT a0.x)), PV.d (.sl (E.aJ a1.l) (E.aT a1.x))] = args → ∀ (st : St), Sat (Ω.cf 67 args st) (fun q => q = (PV.d (.bool r), st))) ∧
 (∀ {a0 : Sl Field} {a1 : Sl Field} {r : Bool}, Oz fu a0 a1 = some r → ∀ {args : List PV}, [PV.d (.sl (E.aG a0.l) (E.aI a0.x)), PV.d (.sl (E.aG a1.l) (E.aI a1.x))] = args → ∀ (st : St), Sat (Ω.cf 68 args st) (fun q => q = (PV.d (.bool r), st))) ∧
 (∀ {a0 : Field} {a1 : Field} {r : Bool}, RP fu a0 a1 = some r → ∀ {args : List PV}, [dO E a0, dO E a1] = args → ∀ (st : St), Sat (Ω.cf 91 args st) (fun q => q = (PV.d (.bool r), st))) := by
 intro fu
 induction fu with
 | zero => exact ⟨(fun h => (by cases h)), (fun h => (by cases h)), (fun h => (by cases h)), (fun h => (by cases h))⟩
 | succ fu ih =>
  obtain ⟨i41, i67, i68, i91⟩ := ih
  exact ⟨(fun h => @fun args ha st => afy (fu := fu) hΩ hE i41 i67 i68 i91 h ha st), (fun h => @fun args ha st => afz (fu := fu) hΩ hE i41 i67 i68 i91 h ha st), (fun h => @fun args ha st => afA (fu := fu) hΩ hE i41 i67 i68 i91 h ha st), (fun h => @fun args ha st => afB (fu := fu) hΩ hE i41 i67 i68 i91 h ha st)⟩
theorem ZR : ∀ {a0 : Value} {a1 : Value} {r : Bool}, Jv fu a0 a1 = some r → ∀ {args : List PV}, [bX E a0, bX E a1] = args → ∀ (st : St), Sat (Ω.cf 41 args st) (fun q => q = (PV.d (.bool r), st)) := (VX hΩ hE fu).1
theorem aho : ∀ {a0 : Sl Value} {a1 : Sl Value} {r : Bool}, Qn fu a0 a1 = some r → ∀ {args : List PV}, [PV.d (.sl (E.aJ a0.l) (E.aT a0.x)), PV.d (.sl (E.aJ a1.l) (E.aT a1.x))] = args → ∀ (st : St), Sat (Ω.cf 67 args st) (fun q => q = (PV.d (.bool r), st)) := (VX hΩ hE fu).2.1
theorem afC : ∀ {a0 : Sl Field} {a1 : Sl Field} {r : Bool}, Oz fu a0 a1 = some r → ∀ {args : List PV}, [PV.d (.sl (E.aG a0.l) (E.aI a0.x)), PV.d (.sl (E.aG a1.l) (E.aI a1.x))] = args → ∀ (st : St), Sat (Ω.cf 68 args st) (fun q => q = (PV.d (.bool r), st)) := (VX hΩ hE fu).2.2.1
theorem afD {a0 : Child} {a1 : Child} {r : Bool} (h : Zh fu a0 a1 = some r) {args : List PV} (ha : [oU E a0, oU E a1] = args) (st : St) :
 Sat (Ω.cf 37 args st) (fun q => q = (PV.d (.bool r), st)) := by
 subst ha
 rcases a0 with ⟨b, c, e, ⟨g, i, j, ⟨l, m⟩, ⟨n, o⟩, p, s, t⟩⟩
 rcases a1 with ⟨u, v, w, ⟨y, z, a2, ⟨a3, a4⟩, ⟨a5, a6⟩, a7, a8, a9⟩⟩
 rw [kJ hΩ (f := 37) (fn := Try.f37) (x := aeh) rfl rfl Yh rfl rfl rfl]
 unfold Zh at h
 try dsimp only at h
 refine cv ?_
 replace h := aQ h
 obtain ⟨i6, a, h⟩ := h
 refine aH hΩ ((fun (q : Bool) => (match q with | i6 => ([(2, PV.aS (zD2 E b c e g i j l m n o p s t)), (3, PV.aS (zD2 E u v w y z a2 a3 a4 a5 a6 a7 a8 a9)), (4, vb i6)], nO :: st))) i6) (fun k hk => ?_) ?_
 clear h
 have h := a
 clear a
 refine cv ?_
 revert h; refine bQ (fun b0 h => cv ?_) fun b0 h => cv ?_
 refine ah hΩ (cv ?_)
 revert h; refine bQ (fun b1 h => cv ?_) fun b1 h => cv ?_
 revert h; refine bQ (fun b2 h => cv ?_) fun b2 h => cv ?_
 refine ah hΩ (cv ?_)
 replace h := aQ h
 obtain ⟨r4, b3, h⟩ := h
 refine av (ZR hΩ hE b3) (cv ?_)
 exact fk h hk
 refine ah hΩ (cv ?_)
 exact fk h hk
 refine ah hΩ (cv ?_)
 exact fk h hk
 refine ah hΩ (cv ?_)
 refine ah hΩ (cv ?_)
 exact fk h hk
 clear a
 try dsimp only at h
 refine cv ?_
 exact sp h
theorem afE {a0 : Sl ByteArray} {a1 : Sl ByteArray} {r : Bool} (h : OA fu a0 a1 = some r) {args : List PV} (ha : [PV.d (.sl (E.iO a0.l) (E.jV a0.x)), PV.d (.sl (E.iO a1.l) (E.jV a1.x))] = args) (st : St) :
 Sat (Ω.cf 126 args st) (fun q => q = (PV.d (.bool r), st)) := by
 subst ha
 rcases a0 with ⟨b, e⟩
 rcases a1 with ⟨c, g⟩
 rw [aC hΩ (f := 126) (fn := Try.f126) rfl rfl rfl rfl rfl rfl]
 unfold OA at h
 try dsimp only at h
 refine cv ?_
 refine aP hΩ (fI hE) b fun n1 p => cv ?_
 refine aP hΩ (fI hE) c fun n3 s => cv ?_
 refine aN hΩ (cv ?_)
 revert h; refine bQ (fun j h => cv ?_) fun j h => cv ?_
 exact sp h
 replace h := aQ h
 obtain ⟨q, i, h⟩ := h
 refine bK hΩ (fun (a : Int) => (match a with | i6 => ([(0, PV.d (.sl (E.iO b) (E.jV e))), (1, PV.d (.sl (E.iO c) (E.jV g))), (4, vb false), (5, vi i6)], nO :: st))) (fun (q : Int ⊕ Int) => (match q with | .inl o16 => (.exit 0, [(0, PV.d (.sl (E.iO b) (E.jV e))), (1, PV.d (.sl (E.iO c) (E.jV g))), (4, vb false), (5, vi o16)], nO :: st) | .inr qx => (.ret, [(0, PV.d (.sl (E.iO b) (E.jV e))), (1, PV.d (.sl (E.iO c) (E.jV g))), (4, vb false), (5, vi qx)], nO :: st))) 0 i ?_ ?_
 clear h i
 rintro i6 q h
 unfold BP at h
 dsimp only at h
 refine cv ?_
 refine aP hΩ (fI hE) b fun n7 t => cv ?_
 refine aN hΩ (cv ?_)
 revert h; refine bQ (fun k h => cv ?_) fun k h => cv ?_
 refine sat_true (bA hΩ (fI hE) b) (cv ?_)
 replace h := aQ h
 obtain ⟨x10, m, h⟩ := h
 refine ay (aW hΩ (fI hE) m) (cv ?_)
 refine sat_true (bA hΩ (fI hE) c) (cv ?_)
 replace h := aQ h
 obtain ⟨Jw, n, h⟩ := h
 refine ay (aW hΩ (fI hE) n) (cv ?_)
 refine aN hΩ (cv ?_)
 revert h; refine bQ (fun o h => cv ?_) fun o h => cv ?_
 obtain rfl := fZ h
 subst_vars
 exact sR
 obtain rfl := fZ h
 subst_vars
 exact s3
 obtain rfl := fZ h
 subst_vars
 exact sL
 clear i
 rcases q with o16 | qx
 dsimp only at h
 refine cv ?_
 exact sp h
 dsimp only at h
 refine cv ?_
 exact sp h
def ZT (Ω : Om) (E : Enc) (rE : Act → Act → Option (Bool)) : Prop := ∀ {a0 : Act} {a1 : Act} {r : Bool}, rE a0 a1 = some r → ∀ {args : List PV}, [jG E a0, jG E a1] = args → ∀ (st : St), Sat (Ω.cf 108 args st) (fun q => q = (PV.d (.bool r), st))
def ZU (Ω : Om) (E : Enc) (qB : Expr → Expr → Option (Bool)) : Prop := ∀ {a0 : Expr} {a1 : Expr} {r : Bool}, qB a0 a1 = some r → ∀ {args : List PV}, [iy E a0, iy E a1] = args → ∀ (st : St), Sat (Ω.cf 118 args st) (fun q => q = (PV.d (.bool r), st))
def ZV (Ω : Om) (E : Enc) (rF : (Sl Expr) → (Sl Expr) → Option (Bool)) : Prop := ∀ {a0 : Sl Expr} {a1 : Sl Expr} {r : Bool}, rF a0 a1 = some r → ∀ {args : List PV}, [PV.d (.sl (E.bL a0.l) (E.bS a0.x)), PV.d (.sl (E.bL a1.l) (E.bS a1.x))] = args → ∀ (st : St), Sat (Ω.cf 125 args st) (fun q => q = (PV.d (.bool r), st))
def H90 (Ω : Om) (E : Enc) (Km : (Sl Act) → (Sl Act) → Option (Bool)) : Prop := ∀ {a0 : Sl Act} {a1 : Sl Act} {r : Bool}, Km a0 a1 = some r → ∀ {args : List PV}, [PV.d (.sl (E.dF a0.l) (E.dQ a0.x)), PV.d (.sl (E.dF a1.l) (E.dQ a1.x))] = args → ∀ (st : St), Sat (Ω.cf 90 args st) (fun q => q = (PV.d (.bool r), st))
theorem acU {rE : Act → Act → Option (Bool)} (QA : ZT Ω E rE) {qB : Expr → Expr → Option (Bool)} (MB : ZU Ω E qB) {rF : (Sl Expr) → (Sl Expr) → Option (Bool)} (Gw : ZV Ω E rF) {Km : (Sl Act) → (Sl Act) → Option (Bool)} (ZW : H90 Ω E Km) {a0 : Act} {a1 : Act} {r : Bool} (h : Gs fu rE qB rF Km a0 a1 = some r) {args : List PV} (ha : [jG E a0, jG E a1] = args) (st : St) :
 Sat (Ω.cf 108 args st) (fun q => q = (PV.d (.bool r), st)) := by
 subst ha
 rcases a0 with ⟨b, c, ⟨e, g, i, ⟨j, l⟩, ⟨m, n⟩, ⟨o, p⟩, s, ⟨t, u⟩, ⟨v, w⟩, y⟩⟩
 rcases a1 with ⟨z, a2, ⟨a3, a4, a5, ⟨a6, a7⟩, ⟨a8, a9⟩, ⟨b0, b1⟩, b2, ⟨b3, b4⟩, ⟨b5, b6⟩, b7⟩⟩
 rw [kJ hΩ (f := 108) (fn := Try.f108) (x := aaT) rfl rfl Ut rfl rfl rfl]
 unfold Gs at h
 try dsimp only at h
 refine cv ?_
 replace h := aQ h
 obtain ⟨i5, a, h⟩ := h
 refine aH hΩ ((fun (q : Bool) => (match q with | i5 => ([(2, PV.aS (zD3 E b c e g i j l m n o p s t u v w y)), (3, PV.aS (zD3 E z a2 a3 a4 a5 a6 a7 a8 a9 b0 b1 b2 b3 b4 b5 b6 b7)), (4, vb i5)], nO :: st))) i5) (fun k hk => ?_) ?_
 clear h
 have h := a
 clear a
 refine cv ?_
 revert h; refine bQ (fun b8 h => cv ?_) fun b8 h => cv ?_
 refine ah hΩ (cv ?_)
 revert h; refine bQ (fun b9 h => cv ?_) fun b9 h => cv ?_
 replace h := aQ h
 obtain ⟨r3, c0, h⟩ := h
 refine av (MB c0) (cv ?_)
 exact fk h hk
 exact fk h hk
 refine ah hΩ (cv ?_)
 exact fk h hk
 clear a
 try dsimp only at h
 refine cv ?_
 exact sp h
theorem acV {rE : Act → Act → Option (Bool)} (QA : ZT Ω E rE) {qB : Expr → Expr → Option (Bool)} (MB : ZU Ω E qB) {rF : (Sl Expr) → (Sl Expr) → Option (Bool)} (Gw : ZV Ω E rF) {Km : (Sl Act) → (Sl Act) → Option (Bool)} (ZW : H90 Ω E Km) {a0 : Expr} {a1 : Expr} {r : Bool} (h : Mq fu rE qB rF Km a0 a1 = some r) {args : List PV} (ha : [iy E a0, iy E a1] = args) (st : St) :
 Sat (Ω.cf 118 args st) (fun q => q = (PV.d (.bool r), st)) := by
 subst ha
 rcases a0 with ⟨b, c, e, ⟨g, i⟩, ⟨j, l⟩, ⟨m, n⟩, o, ⟨p, s⟩, ⟨t, u⟩, v⟩
 rcases a1 with ⟨w, y, z, ⟨a2, a3⟩, ⟨a4, a5⟩, ⟨a6, a7⟩, a8, ⟨a9, b0⟩, ⟨b1, b2⟩, b3⟩
 rw [kJ hΩ (f := 118) (fn := Try.f118) (x := aaY) rfl rfl Uz rfl rfl rfl]
 unfold Mq at h
 try dsimp only at h
 refine cv ?_
 replace h := aQ h
 obtain ⟨i20, a, h⟩ := h
 refine aH hΩ ((fun (q : Bool) => (match q with | i20 => ([(2, PV.aS (zD4 E b c e g i j l m n o p s t u v)), (3, PV.aS (zD4 E w y z a2 a3 a4 a5 a6 a7 a8 a9 b0 b1 b2 b3)), (4, vb i20)], nO :: st))) i20) (fun k hk => ?_) ?_
 clear h
 have h := a
 clear a
 refine cv ?_
 revert h; refine bQ (fun b4 h => cv ?_) fun b4 h => cv ?_
 refine ah hΩ (cv ?_)
 revert h; refine bQ (fun b5 h => cv ?_) fun b5 h => cv ?_
 revert h; refine bQ (fun b6 h => cv ?_) fun b6 h => cv ?_
 refine ah hΩ (cv ?_)
 replace h := aQ h
 obtain ⟨r4, b7, h⟩ := h
 refine av (Gw b7) (cv ?_)
 revert h; refine bQ (fun b8 h => cv ?_) fun b8 h => cv ?_
 replace h := aQ h
 obtain ⟨r7, b9, h⟩ := h
 refine av (afE hΩ hE b9) (cv ?_)
 revert h; refine bQ (fun c0 h => cv ?_) fun c0 h => cv ?_
 refine ah hΩ (cv ?_)
 replace h := aQ h
 obtain ⟨YX, c1, h⟩ := h
 refine av (Gw c1) (cv ?_)
 revert h; refine bQ (fun c2 h => cv ?_) fun c2 h => cv ?_
 refine ah hΩ (cv ?_)
 revert h; refine bQ (fun c3 h => cv ?_) fun c3 h => cv ?_
 replace h := aQ h
 obtain ⟨AQ, c4, h⟩ := h
 refine av (Gw c4) (cv ?_)
 revert h; refine bQ (fun c5 h => cv ?_) fun c5 h => cv ?_
 replace h := aQ h
 obtain ⟨r17, c6, h⟩ := h
 refine av (ZW c6) (cv ?_)
 refine ah hΩ (cv ?_)
 revert h; refine bQ (fun c7 h => cv ?_) fun c7 h => cv ?_
 exact fk h hk
 exact fk h hk
 refine ah hΩ (cv ?_)
 exact fk h hk
 refine ah hΩ (cv ?_)
 exact fk h hk
 refine ah hΩ (cv ?_)
 refine ah hΩ (cv ?_)
 exact fk h hk
 refine ah hΩ (cv ?_)
 refine ah hΩ (cv ?_)
 refine ah hΩ (cv ?_)
 exact fk h hk
 refine ah hΩ (cv ?_)
 refine ah hΩ (cv ?_)
 refine ah hΩ (cv ?_)
 exact fk h hk
 refine ah hΩ (cv ?_)
 refine ah hΩ (cv ?_)
 refine ah hΩ (cv ?_)
 refine ah hΩ (cv ?_)
 exact fk h hk
 refine ah hΩ (cv ?_)
 refine ah hΩ (cv ?_)
 refine ah hΩ (cv ?_)
 refine ah hΩ (cv ?_)
 exact fk h hk
 refine ah hΩ (cv ?_)
 refine ah hΩ (cv ?_)
 refine ah hΩ (cv ?_)
 refine ah hΩ (cv ?_)
 refine ah hΩ (cv ?_)
 exact fk h hk
 clear a
 try dsimp only at h
 refine cv ?_
 exact sp h
end Go.Proofs.Ytedfkehkcaaplaa
