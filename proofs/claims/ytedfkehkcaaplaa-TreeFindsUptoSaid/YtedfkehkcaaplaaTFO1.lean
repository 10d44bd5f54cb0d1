/- T -/
import Derived.Test.YtedfkehkcaaplaaTFO0
namespace Go.Proofs.Ytedfkehkcaaplaa
open Go Go.X
set_option linter.unusedVariables false
variable {Ω : Om} {E : Enc} (hΩ : real (call S) = Ω) (hE : fH = E) {fu : Nat}
include hΩ hE
set_option maxRecDepth 100000
set_option maxHeartbeats 4000000
theorem Zu {mK : Inst → Int → (List (Int × Bool)) → Option (Bool × (List (Int × Bool)))} (JD : Qp Ω E mK) {lC : Inst → Int → (List (Int × Bool)) → Option (Bool × (List (Int × Bool)))} (JE : Qq Ω E lC) {lY : (Sl Inst) → Int → (List (Int × Bool)) → Option (Bool × (List (Int × Bool)))} (Ew : Qr Ω E lY) {mM : (Sl Inst) → Int → (List (Int × Bool)) → Option (Int × (List (Int × Bool)))} (JF : Qs Ω E mM) {a0 : Inst} {a1 : Int} {b1 c1 : List (Int × Bool)} {S : (List (Int × Bool)) → St} {lz0 bO dw fB : Nat} (e1 : b1 = c1) (hg0 : ∀ s, X.look (S s) lz0 bO = some (X.Obj.box 49 [PV.map 0 dw])) (hg1 : ∀ s, X.look (S s) lz0 dw = some (X.Obj.map (.int .i64) true (E.bn s))) (hu1 : ∀ s x, X.bJ (S s) lz0 dw (X.Obj.map (.int .i64) true (E.bn x)) = S x) (hg2 : ∀ s, X.look (S s) lz0 fB = some (X.Obj.box 55 [PV.fn 25 [.ptr 0 bO 0, .ptr 0 fB 0]])) {r : Bool × (List (Int × Bool))} (h : sN fu mK lC lY mM a0 a1 b1 = some r) {args : List PV} (ha : [bg E a0, PV.d (.int .i64 a1), PV.ptr lz0 bO 0, PV.ptr lz0 fB 0] = args) {st : St} (hst : S c1 = st) :
 Sat (Ω.cf 25 args st) (fun q => q = (PV.d (.bool r.1), S r.2)) := by
 subst ha
 subst hst
 subst e1
 rcases a0 with ⟨a, ⟨g, i, j, ⟨l, m, n, ⟨o, p⟩, ⟨t, u⟩, v, w, y⟩⟩, ⟨z, a2⟩, ⟨a3, a4⟩, ⟨a5, a6⟩, a7, a8, a9, ⟨b0, b2, b3, ⟨b4, b5⟩, ⟨b6, b7⟩, b8, b9, c0⟩, c3, c4, ⟨c5, c6⟩, c7, c8⟩
 rw [aC hΩ (f := 25) (fn := Try.f25) rfl rfl rfl rfl rfl rfl]
 unfold sN at h
 try dsimp only at h
 refine cv ?_
 replace h := aQ h
 obtain ⟨i9, c, h⟩ := h
 refine aH hΩ ((fun (q : Bool) => (match q with | i9 => ([(2, PV.ptr (lz0+1) bO 0), (3, PV.ptr (lz0+1) fB 0), (4, PV.aS (jW E a g i j l m n o p t u v w y z a2 a3 a4 a5 a6 a7 a8 a9 b0 b2 b3 b4 b5 b6 b7 b8 b9 c0 c3 c4 c5 c6 c7 c8)), (5, PV.aS [.int .i64 a1]), (6, vb false), (20, vb i9)], nO :: S b1))) i9) (fun k hk => ?_) ?_
 clear h
 have h := c
 clear c
 refine cv ?_
 revert h; refine bQ (fun c9 h => cv ?_) fun c9 h => cv ?_
 refine pY hΩ (hg0 _) (by exact (show down.fA (lz0+1) [PV.map 0 dw] = [PV.map (lz0+1) dw] by simp only [down.fA, down, Nat.zero_add])) (cv ?_)
 refine Dn hΩ (hg1 _) (cv ?_)
 rcases b : uK b1 a with _ | x2
 rw [b] at h
 dsimp only at h
 refine EY hΩ (mY hE) b (cv ?_)
 replace h := aQ h
 obtain ⟨r4, d0, h⟩ := h
 refine av (afb hΩ hE d0) (cv ?_)
 refine ah hΩ (cv ?_)
 exact fk h hk
 rw [b] at h
 dsimp only at h
 refine EZ hΩ (mY hE) b (cv ?_)
 revert h; refine bQ (fun d1 h => cv ?_) fun d1 h => cv ?_
 replace h := aQ h
 obtain ⟨r7, d2, h⟩ := h
 refine av (afb hΩ hE d2) (cv ?_)
 refine ah hΩ (cv ?_)
 exact fk h hk
 refine ah hΩ (cv ?_)
 exact fk h hk
 refine ah hΩ (cv ?_)
 exact fk h hk
 clear c
 try dsimp only at h
 refine cv ?_
 refine aN hΩ (cv ?_)
 revert h; refine bQ (fun d3 h => cv ?_) fun d3 h => cv ?_
 exact sp h
 refine pY hΩ (hg0 _) (by exact (show down.fA (lz0+1) [PV.map 0 dw] = [PV.map (lz0+1) dw] by simp only [down.fA, down, Nat.zero_add])) (cv ?_)
 refine Dn hΩ (hg1 _) (cv ?_)
 refine PK hΩ (mY hE) b1 a true fun m11 ahS => cv ?_
 refine eu hΩ (hu1 _ _) (cv ?_)
 replace h := aQ h
 obtain ⟨q, e, h⟩ := h
 refine aH hΩ ((fun (q : (List (Int × Bool)) × Bool) => (match q with | (g20, i21) => ([(2, PV.ptr (lz0+1) bO 0), (3, PV.ptr (lz0+1) fB 0), (4, PV.aS (jW E a g i j l m n o p t u v w y z a2 a3 a4 a5 a6 a7 a8 a9 b0 b2 b3 b4 b5 b6 b7 b8 b9 c0 c3 c4 c5 c6 c7 c8)), (5, PV.aS [.int .i64 a1]), (6, vb i21), (7, PV.fn 27 [.ptr (lz0+1) fB 0, .aS [.int .i64 a1]])], nO :: S g20))) q) (fun k hk => ?_) ?_
 clear h
 have h := e
 clear e
 refine cv ?_
 replace h := aQ h
 obtain ⟨⟨AQ, d4⟩, d5, h⟩ := h
 try dsimp only at h
 refine bC (Ew (S := (fun (s : (List (Int × Bool))) => nO :: S s)) (lz0 := (lz0+1)) (bO := fB) (dw := bO) (fB := dw) (c2 := m11) (by (try clear h); subst_vars; rfl) (fun s => hg2 s) (fun s => hg0 s) (fun s => hg1 s) (fun s x => congrArg (List.cons _) (hu1 s x)) d5 (by (try clear h); subst_vars; rfl) (by (try clear h); subst_vars; rfl)) (cv ?_)
 revert h; refine bQ (fun d6 h => cv ?_) fun d6 h => cv ?_
 replace h := aQ h
 obtain ⟨⟨r18, d8⟩, d7, h⟩ := h
 try dsimp only at h
 refine bC (Ew (S := (fun (s : (List (Int × Bool))) => nO :: S s)) (lz0 := (lz0+1)) (bO := fB) (dw := bO) (fB := dw) (c2 := d4) (by (try clear h); subst_vars; rfl) (fun s => hg2 s) (fun s => hg0 s) (fun s => hg1 s) (fun s x => congrArg (List.cons _) (hu1 s x)) d7 (by (try clear h); subst_vars; rfl) (by (try clear h); subst_vars; rfl)) (cv ?_)
 refine ah hΩ (cv ?_)
 exact fk h hk
 refine ah hΩ (cv ?_)
 exact fk h hk
 clear e
 rcases q with ⟨g20, i21⟩
 try dsimp only at h
 refine cv ?_
 exact sp h
theorem Zv {mK : Inst → Int → (List (Int × Bool)) → Option (Bool × (List (Int × Bool)))} (JD : Qp Ω E mK) {lC : Inst → Int → (List (Int × Bool)) → Option (Bool × (List (Int × Bool)))} (JE : Qq Ω E lC) {lY : (Sl Inst) → Int → (List (Int × Bool)) → Option (Bool × (List (Int × Bool)))} (Ew : Qr Ω E lY) {mM : (Sl Inst) → Int → (List (Int × Bool)) → Option (Int × (List (Int × Bool)))} (JF : Qs Ω E mM) {a0 : Inst} {a2 : Int} {b2 c2 : List (Int × Bool)} {S : (List (Int × Bool)) → St} {lz0 bO dw fB : Nat} (e2 : b2 = c2) (hg0 : ∀ s, X.look (S s) lz0 bO = some (X.Obj.box 55 [PV.fn 25 [.ptr 0 dw 0, .ptr 0 bO 0]])) (hg1 : ∀ s, X.look (S s) lz0 dw = some (X.Obj.box 49 [PV.map 0 fB])) (hg2 : ∀ s, X.look (S s) lz0 fB = some (X.Obj.map (.int .i64) true (E.bn s))) (hu2 : ∀ s x, X.bJ (S s) lz0 fB (X.Obj.map (.int .i64) true (E.bn x)) = S x) {r : Bool × (List (Int × Bool))} (h : Jk fu mK lC lY mM a0 a2 b2 = some r) {args : List PV} (ha : [bg E a0, PV.ptr lz0 bO 0, PV.aS [.int .i64 a2]] = args) {st : St} (hst : S c2 = st) :
 Sat (Ω.cf 27 args st) (fun q => q = (PV.d (.bool r.1), S r.2)) := by
 subst ha
 subst hst
 subst e2
 rcases a0 with ⟨b, ⟨c, e, g, ⟨i, j, k, ⟨l, m⟩, ⟨n, o⟩, p, t, u⟩⟩, ⟨v, w⟩, ⟨y, z⟩, ⟨a1, a3⟩, a4, a5, a6, ⟨a7, a8, a9, ⟨b0, b1⟩, ⟨b3, b4⟩, b5, b6, b7⟩, b8, b9, ⟨c0, c3⟩, c4, c5⟩
 rw [aC hΩ (f := 27) (fn := Try.f27) rfl rfl rfl rfl rfl rfl]
 unfold Jk at h
 try dsimp only at h
 refine cv ?_
 refine pY hΩ (hg0 _) (by exact (show down.fA (lz0+1) [PV.fn 25 [.ptr 0 dw 0, .ptr 0 bO 0]] = [PV.fn 25 [.ptr (lz0+1) dw 0, .ptr (lz0+1) bO 0]] by simp only [down.fA, down, Nat.zero_add])) (cv ?_)
 replace h := aQ h
 obtain ⟨⟨r2, c6⟩, a, h⟩ := h
 try dsimp only at h
 refine bC (JD (S := (fun (s : (List (Int × Bool))) => nO :: S s)) (lz0 := (lz0+1)) (bO := dw) (dw := fB) (fB := bO) (c1 := b2) (by (try clear h); subst_vars; rfl) (fun s => hg1 s) (fun s => hg2 s) (fun s x => congrArg (List.cons _) (hu2 s x)) (fun s => hg0 s) a (by (try clear h); subst_vars; rfl) (by (try clear h); subst_vars; rfl)) (cv ?_)
 exact sp h
theorem Zw {mK : Inst → Int → (List (Int × Bool)) → Option (Bool × (List (Int × Bool)))} (JD : Qp Ω E mK) {lC : Inst → Int → (List (Int × Bool)) → Option (Bool × (List (Int × Bool)))} (JE : Qq Ω E lC) {lY : (Sl Inst) → Int → (List (Int × Bool)) → Option (Bool × (List (Int × Bool)))} (Ew : Qr Ω E lY) {mM : (Sl Inst) → Int → (List (Int × Bool)) → Option (Int × (List (Int × Bool)))} (JF : Qs Ω E mM) {a0 : Sl Inst} {d0 : Int} {b2 c2 : List (Int × Bool)} {S : (List (Int × Bool)) → St} {lz0 bO dw fB : Nat} (e2 : b2 = c2) (hg0 : ∀ s, X.look (S s) lz0 bO = some (X.Obj.box 55 [PV.fn 25 [.ptr 0 dw 0, .ptr 0 bO 0]])) (hg1 : ∀ s, X.look (S s) lz0 dw = some (X.Obj.box 49 [PV.map 0 fB])) (hg2 : ∀ s, X.look (S s) lz0 fB = some (X.Obj.map (.int .i64) true (E.bn s))) (hu2 : ∀ s x, X.bJ (S s) lz0 fB (X.Obj.map (.int .i64) true (E.bn x)) = S x) {r : Bool × (List (Int × Bool))} (h : Jl fu mK lC lY mM a0 d0 b2 = some r) {args : List PV} (ha : [PV.d (.sl (E.au a0.l) (E.aD a0.x)), PV.fn 27 [.ptr lz0 bO 0, .aS [.int .i64 d0]]] = args) {st : St} (hst : S c2 = st) :
 Sat (Ω.cf 28 args st) (fun q => q = (PV.d (.bool r.1), S r.2)) := by
 subst ha
 subst hst
 subst e2
 rcases a0 with ⟨b, c⟩
 rw [aC hΩ (f := 28) (fn := Try.f28) rfl rfl rfl rfl rfl rfl]
 unfold Jl at h
 try dsimp only at h
 refine cv ?_
 replace h := aQ h
 obtain ⟨⟨r2, e⟩, a, h⟩ := h
 try dsimp only at h
 refine bC (JF (S := (fun (s : (List (Int × Bool))) => nO :: S s)) (lz0 := (lz0+1)) (bO := bO) (dw := dw) (fB := fB) (c2 := b2) (by (try clear h); subst_vars; rfl) (fun s => hg0 s) (fun s => hg1 s) (fun s => hg2 s) (fun s x => congrArg (List.cons _) (hu2 s x)) a (by (try clear h); subst_vars; rfl) (by (try clear h); subst_vars; rfl)) (cv ?_)
 exact sp h
theorem Zx {mK : Inst → Int → (List (Int × Bool)) → Option (Bool × (List (Int × Bool)))} (JD : Qp Ω E mK) {lC : Inst → Int → (List (Int × Bool)) → Option (Bool × (List (Int × Bool)))} (JE : Qq Ω E lC) {lY : (Sl Inst) → Int → (List (Int × Bool)) → Option (Bool × (List (Int × Bool)))} (Ew : Qr Ω E lY) {mM : (Sl Inst) → Int → (List (Int × Bool)) → Option (Int × (List (Int × Bool)))} (JF : Qs Ω E mM) {a0 : Sl Inst} {d0 : Int} {b2 c2 : List (Int × Bool)} {S : (List (Int × Bool)) → St} {lz0 bO dw fB : Nat} (e2 : b2 = c2) (hg0 : ∀ s, X.look (S s) lz0 bO = some (X.Obj.box 55 [PV.fn 25 [.ptr 0 dw 0, .ptr 0 bO 0]])) (hg1 : ∀ s, X.look (S s) lz0 dw = some (X.Obj.box 49 [PV.map 0 fB])) (hg2 : ∀ s, X.look (S s) lz0 fB = some (X.Obj.map (.int .i64) true (E.bn s))) (hu2 : ∀ s x, X.bJ (S s) lz0 fB (X.Obj.map (.int .i64) true (E.bn x)) = S x) {r : Int × (List (Int × Bool))} (h : Jm fu mK lC lY mM a0 d0 b2 = some r) {args : List PV} (ha : [PV.d (.sl (E.au a0.l) (E.aD a0.x)), PV.fn 27 [.ptr lz0 bO 0, .aS [.int .i64 d0]]] = args) {st : St} (hst : S c2 = st) :
 Sat (Ω.cf 61 args st) (fun q => q = (PV.d (.int .i64 r.1), S r.2)) := by
 subst ha
 subst hst
 subst e2
 rcases a0 with ⟨b, c⟩
 rw [aC hΩ (f := 61) (fn := Try.f61) rfl rfl rfl rfl rfl rfl]
 unfold Jm at h
 try dsimp only at h
 refine cv ?_
 refine aP hΩ (ak hE) b fun n1 m => cv ?_
 replace h := aQ h
 obtain ⟨q, e, h⟩ := h
 refine bK hΩ (fun (a : (List (Int × Bool)) × Int × Int) => (match a with | (g3, i4, i5) => ([(0, PV.d (.sl (E.au b) (E.aD c))), (1, PV.fn 27 [.ptr (lz0+1) bO 0, .aS [.int .i64 d0]]), (4, vi i4), (7, vi n1), (8, vi i5)], nO :: S g3))) (fun (q : ((List (Int × Bool)) × Int × Int) ⊕ ((List (Int × Bool)) × Int × Int)) => (match q with | .inl (Qb, Sj, o16) => (.exit 0, [(0, PV.d (.sl (E.au b) (E.aD c))), (1, PV.fn 27 [.ptr (lz0+1) bO 0, .aS [.int .i64 d0]]), (4, vi Sj), (7, vi n1), (8, vi o16)], nO :: S Qb) | .inr (qx, fq, kg) => (.ret, [(0, PV.d (.sl (E.au b) (E.aD c))), (1, PV.fn 27 [.ptr (lz0+1) bO 0, .aS [.int .i64 d0]]), (4, vi fq), (7, vi n1), (8, vi kg)], nO :: S qx))) (b2, 0, 0) e ?_ ?_
 clear h e
 rintro ⟨g3, i4, i5⟩ q h
 unfold rA at h
 dsimp only at h
 refine cv ?_
 refine aN hΩ (cv ?_)
 revert h; refine bQ (fun g h => cv ?_) fun g h => cv ?_
 refine sat_true (bA hΩ (ak hE) b) (cv ?_)
 replace h := aQ h
 obtain ⟨⟨n, ⟨o, p, t, ⟨u, v, w, ⟨y, z⟩, ⟨a1, a2⟩, a3, a4, a5⟩⟩, ⟨a6, a7⟩, ⟨a8, a9⟩, ⟨b0, b1⟩, b3, b4, b5, ⟨b6, b7, b8, ⟨b9, c0⟩, ⟨c1, c3⟩, c4, c5, c6⟩, c7, c8, ⟨c9, d1⟩, d2, d3⟩, i, h⟩ := h
 try dsimp only at h
 refine ay (aW hΩ (ak hE) i) (cv ?_)
 replace h := aQ h
 obtain ⟨⟨YX, d4⟩, j, h⟩ := h
 try dsimp only at h
 refine bC (JE (S := (fun (s : (List (Int × Bool))) => nO :: S s)) (lz0 := (lz0+1)) (bO := bO) (dw := dw) (fB := fB) (c2 := g3) (by (try clear h); subst_vars; rfl) (fun s => hg0 s) (fun s => hg1 s) (fun s => hg2 s) (fun s x => congrArg (List.cons _) (hu2 s x)) j (by (try clear h); subst_vars; rfl) (by (try clear h); subst_vars; rfl)) (cv ?_)
 refine aN hΩ (cv ?_)
 revert h; refine bQ (fun k h => cv ?_) fun k h => cv ?_
 obtain rfl := fZ h
 subst_vars
 exact sR
 obtain rfl := fZ h
 subst_vars
 exact s3
 obtain rfl := fZ h
 subst_vars
 exact sL
 clear e
 rcases q with ⟨Qb, Sj, o16⟩ | ⟨qx, fq, kg⟩
 dsimp only at h
 refine cv ?_
 exact sp h
 dsimp only at h
 refine cv ?_
 exact sp h
theorem Zy : ∀ fu,
 (∀ {a0 : Inst} {a1 : Int} {b1 c1 : List (Int × Bool)} {S : (List (Int × Bool)) → St} {lz0 bO dw fB : Nat} (e1 : b1 = c1) (hg0 : ∀ s, X.look (S s) lz0 bO = some (X.Obj.box 49 [PV.map 0 dw])) (hg1 : ∀ s, X.look (S s) lz0 dw = some (X.Obj.map (.int .i64) true (E.bn s))) (hu1 : ∀ s x, X.bJ (S s) lz0 dw (X.Obj.map (.int .i64) true (E.bn x)) = S x) (hg2 : ∀ s, X.look (S s) lz0 fB = some (X.Obj.box 55 [PV.fn 25 [.ptr 0 bO 0, .ptr 0 fB 0]])) {r : Bool × (List (Int × Bool))}, yV fu a0 a1 b1 = some r → ∀ {args : List PV}, [bg E a0, PV.d (.int .i64 a1), PV.ptr lz0 bO 0, PV.ptr lz0 fB 0] = args → ∀ {st : St}, S c1 = st → Sat (Ω.cf 25 args st) (fun q => q = (PV.d (.bool r.1), S r.2))) ∧
 (∀ {a0 : Inst} {a2 : Int} {b2 c2 : List (Int × Bool)} {S : (List (Int × Bool)) → St} {lz0 bO dw fB : Nat} (e2 : b2 = c2) (hg0 : ∀ s, X.look (S s) lz0 bO = some (X.Obj.box 55 [PV.fn 25 [.ptr 0 dw 0, .ptr 0 bO 0]])) (hg1 : ∀ s, X.look (S s) lz0 dw = some (X.Obj.box 49 [PV.map 0 fB])) (hg2 : ∀ s, X.look (S s) lz0 fB = some (X.Obj.map (.int .i64) true (E.bn s))) (hu2 : ∀ s x, X.bJ (S s) lz0 fB (X.Obj.map (.int .i64) true (E.bn x)) = S x) {r : Bool × (List (Int × Bool))}, Ej fu a0 a2 b2 = some r → ∀ {args : List PV}, [bg E a0, PV.ptr lz0 bO 0, PV.aS [.int .i64 a2]] = args → ∀ {st : St}, S c2 = st → Sat (Ω.cf 27 args st) (fun q => q = (PV.d (.bool r.1), S r.2))) ∧
 (∀ {a0 : Sl Inst} {d0 : Int} {b2 c2 : List (Int × Bool)} {S : (List (Int × Bool)) → St} {lz0 bO dw fB : Nat} (e2 : b2 = c2) (hg0 : ∀ s, X.look (S s) lz0 bO = some (X.Obj.box 55 [PV.fn 25 [.ptr 0 dw 0, .ptr 0 bO 0]])) (hg1 : ∀ s, X.look (S s) lz0 dw = some (X.Obj.box 49 [PV.map 0 fB])) (hg2 : ∀ s, X.look (S s) lz0 fB = some (X.Obj.map (.int .i64) true (E.bn s))) (hu2 : ∀ s x, X.bJ (S s) lz0 fB (X.Obj.map (.int .i64) true (E.bn x)) = S x) {r : Bool × (List (Int × Bool))}, yX fu a0 d0 b2 = some r → ∀ {args : List PV}, [PV.d (.sl (E.au a0.l) (E.aD a0.x)), PV.fn 27 [.ptr lz0 bO 0, .aS [.int .i64 d0]]] = args → ∀ {st : St}, S c2 = st → Sat (Ω.cf 28 args st) (fun q => q = (PV.d (.bool r.1), S r.2))) ∧
 (∀ {a0 : Sl Inst} {d0 : Int} {b2 c2 : List (Int × Bool)} {S : (List (Int × Bool)) → St} {lz0 bO dw fB : Nat} (e2 : b2 = c2) (hg0 : ∀ s, X.look (S s) lz0 bO = some (X.Obj.box 55 [PV.fn 25 [.ptr 0 dw 0, .ptr 0 bO 0]])) (hg1 : ∀ s, X.look (S s) lz0 dw = some (X.Obj.box 49 [PV.map 0 fB])) (hg2 : ∀ s, X.look (S s) lz0 fB = some (X.Obj.map (.int .i64) true (E.bn s))) (hu2 : ∀ s x, X.bJ (S s) lz0 fB (X.Obj.map (.int .i64) true (E.bn x)) = S x) {r : Int × (List (Int × Bool))}, Gq fu a0 d0 b2 = some r → ∀ {args : List PV}, [PV.d (.sl (E.au a0.l) (E.aD a0.x)), PV.fn 27 [.ptr lz0 bO 0, .aS [.int .i64 d0]]] = args → ∀ {st : St}, S c2 = st → Sat (Ω.cf 61 args st) (fun q => q = (PV.d (.int .i64 r.1), S r.2))) := by
 intro fu
 induction fu with
 | zero => exact ⟨(@fun _ _ _ _ _ _ _ _ _ _ _ _ _ _ _ h => by cases h), (@fun _ _ _ _ _ _ _ _ _ _ _ _ _ _ _ h => by cases h), (@fun _ _ _ _ _ _ _ _ _ _ _ _ _ _ _ h => by cases h), (@fun _ _ _ _ _ _ _ _ _ _ _ _ _ _ _ h => by cases h)⟩
 | succ fu ih =>
  obtain ⟨Qt, Qu, Qv, Qw⟩ := ih
  exact ⟨(@fun a0 a1 b1 c1 S lz0 bO dw fB e1 hg0 hg1 hu1 hg2 r h args ha st hs => Zu (fu := fu) hΩ hE Qt Qu Qv Qw e1 hg0 hg1 hu1 hg2 h ha hs), (@fun a0 a2 b2 c2 S lz0 bO dw fB e2 hg0 hg1 hg2 hu2 r h args ha st hs => Zv (fu := fu) hΩ hE Qt Qu Qv Qw e2 hg0 hg1 hg2 hu2 h ha hs), (@fun a0 d0 b2 c2 S lz0 bO dw fB e2 hg0 hg1 hg2 hu2 r h args ha st hs => Zw (fu := fu) hΩ hE Qt Qu Qv Qw e2 hg0 hg1 hg2 hu2 h ha hs), (@fun a0 d0 b2 c2 S lz0 bO dw fB e2 hg0 hg1 hg2 hu2 r h args ha st hs => Zx (fu := fu) hΩ hE Qt Qu Qv Qw e2 hg0 hg1 hg2 hu2 h ha hs)⟩
theorem acB : ∀ {a0 : Inst} {a1 : Int} {b1 c1 : List (Int × Bool)} {S : (List (Int × Bool)) → St} {lz0 bO dw fB : Nat} (e1 : b1 = c1) (hg0 : ∀ s, X.look (S s) lz0 bO = some (X.Obj.box 49 [PV.map 0 dw])) (hg1 : ∀ s, X.look (S s) lz0 dw = some (X.Obj.map (.int .i64) true (E.bn s))) (hu1 : ∀ s x, X.bJ (S s) lz0 dw (X.Obj.map (.int .i64) true (E.bn x)) = S x) (hg2 : ∀ s, X.look (S s) lz0 fB = some (X.Obj.box 55 [PV.fn 25 [.ptr 0 bO 0, .ptr 0 fB 0]])) {r : Bool × (List (Int × Bool))}, yV fu a0 a1 b1 = some r → ∀ {args : List PV}, [bg E a0, PV.d (.int .i64 a1), PV.ptr lz0 bO 0, PV.ptr lz0 fB 0] = args → ∀ {st : St}, S c1 = st → Sat (Ω.cf 25 args st) (fun q => q = (PV.d (.bool r.1), S r.2)) := (Zy hΩ hE fu).1
theorem ok9 {a0 : Inst} {r : Bool} (h : P9 fu a0 = some r) {args : List PV} (ha : [bg E a0] = args) (st : St) :
 Sat (Ω.cf 9 args st) (fun q => q = (PV.d (.bool r), st)) := by
 subst ha
 rcases a0 with ⟨b, ⟨c, e, g, ⟨i, j, k, ⟨l, m⟩, ⟨n, o⟩, p, t, u⟩⟩, ⟨v, w⟩, ⟨y, z⟩, ⟨a1, a2⟩, a3, a4, a5, ⟨a6, a7, a8, ⟨a9, b0⟩, ⟨b1, b2⟩, b3, b4, b5⟩, b6, b7, ⟨b8, b9⟩, c0, c2⟩
 rw [aC hΩ (f := 9) (fn := Try.f9) rfl rfl rfl rfl rfl rfl]
 unfold P9 at h
 try dsimp only at h
 refine cv ?_
 refine sat_empty hΩ (mY hE) fun m1 hm2 => cv ?_
 replace h := aQ h
 obtain ⟨⟨r4, c3⟩, a, h⟩ := h
 try dsimp only at h
 refine bC (acB hΩ hE (S := (fun (s : (List (Int × Bool))) => ([X.Obj.map (.int .i64) true (E.bn s), X.Obj.box 49 [.map 0 0], X.Obj.box 55 [.fn 25 [.ptr 0 1 0, .ptr 0 2 0]]] : List X.Obj) :: st)) (lz0 := 0) (bO := 1) (dw := 0) (fB := 2) (c1 := m1) (by (try clear h); subst_vars; rfl) (fun s => rfl) (fun s => rfl) (fun s x => rfl) (fun s => rfl) a (by (try clear h); subst_vars; rfl) (by (try clear h); subst_vars; rfl)) (cv ?_)
 exact sp h
theorem afe {a0 : Sl Value} {r : (List Value)} (h : Y1 fu a0 = some r) {args : List PV} (ha : [PV.d (.sl (E.aJ a0.l) (E.aT a0.x))] = args) {st : St} (hH : X.fQ st 0 = true) {n : Int} (hn : ln r = n) :
 Sat (Ω.cf 111 args st) (fun q => q = (PV.row 0 (X.dD st 0) n, X.iQ st 0 (X.Obj.row 27 8 (E.aJ r) true none))) := by
 subst ha
 rcases a0 with ⟨a, p⟩
 rw [aC hΩ (f := 111) (fn := Try.f111) rfl rfl rfl rfl rfl rfl]
 unfold Y1 at h
 try dsimp only at h
 refine cv ?_
 refine dA hΩ (bE hE) fun l1 s => cv ?_
 refine aN hΩ (cv ?_)
 replace h := yQ h
 rcases h with ⟨b, h⟩ | ⟨b, h⟩
 refine dV (aU hΩ (bE hE) (l := a) b) (cv ?_)
 obtain ⟨ha16, c⟩ := gB h
 clear h
 refine nG hΩ ?_ ?_
 clear c
 have h := ha16
 clear ha16
 refine cv ?_
 refine dA hΩ (bE hE) fun l4 t => cv ?_
 refine bN hΩ hH fun kk st2 hk2 hs2 => cv ?_
 exact sp h
 clear ha16
 have h := c
 clear c
 refine cv ?_
 replace h := aQ h
 obtain ⟨jJ, e, h⟩ := h
 refine aH hΩ ((fun (q : (List Value)) => (match q with | jJ => ([(2, PV.row 0 1 (ln jJ))], ([X.Obj.row 27 8 (E.aJ l1) true none, X.Obj.row 27 8 (E.aJ jJ) true none] : List X.Obj) :: st))) jJ) (fun k hk => ?_) ?_
 clear h
 have h := e
 clear e
 refine cv ?_
 refine dA hΩ (bE hE) fun l6 u => cv ?_
 refine sat_true (gX hΩ _) (cv ?_)
 refine sat_true (bA hΩ (bE hE) a) (cv ?_)
 refine sat_true (bB hΩ (bE hE) ([] : List Value)) (cv ?_)
 replace h := yQ h
 rcases h with ⟨g, h⟩ | ⟨g, h⟩
 refine dV (aU hΩ (bE hE) (l := a) g) (cv ?_)
 exact fk h hk
 refine dP (aU hΩ (bE hE) (l := a) g) (cv ?_)
 refine fK hΩ (bE hE) ([] : List Value) a fun l9 v n11 w => cv ?_
 replace h := dZ h
 obtain ⟨m, h⟩ := h
 refine fJ m (cv ?_)
 exact fk h hk
 clear e
 try dsimp only at h
 obtain ⟨xq, iX⟩ : ∃ n, ln jJ = n := ⟨_, rfl⟩
 simp only [iX]
 refine cv ?_
 refine bN hΩ hH fun kk st2 hk2 hs2 => cv ?_
 exact sp h
 refine dP (aU hΩ (bE hE) (l := a) b) (cv ?_)
 refine aN hΩ (cv ?_)
 replace h := aQ h
 obtain ⟨kT, i, h⟩ := h
 refine aH hΩ ((fun (q : (List Value)) => (match q with | kT => ([(2, PV.row 0 1 (ln kT))], ([X.Obj.row 27 8 (E.aJ l1) true none, X.Obj.row 27 8 (E.aJ kT) true none] : List X.Obj) :: st))) kT) (fun k hk => ?_) ?_
 clear h
 have h := i
 clear i
 refine cv ?_
 refine dA hΩ (bE hE) fun l18 y => cv ?_
 refine sat_true (gX hΩ _) (cv ?_)
 refine sat_true (bA hΩ (bE hE) a) (cv ?_)
 refine sat_true (bB hΩ (bE hE) ([] : List Value)) (cv ?_)
 replace h := yQ h
 rcases h with ⟨j, h⟩ | ⟨j, h⟩
 refine dV (aU hΩ (bE hE) (l := a) j) (cv ?_)
 exact fk h hk
 refine dP (aU hΩ (bE hE) (l := a) j) (cv ?_)
 refine fK hΩ (bE hE) ([] : List Value) a fun l21 z n23 a1 => cv ?_
 replace h := dZ h
 obtain ⟨o, h⟩ := h
 refine fJ o (cv ?_)
 exact fk h hk
 clear i
 try dsimp only at h
 obtain ⟨xu, iY⟩ : ∃ n, ln kT = n := ⟨_, rfl⟩
 simp only [iY]
 refine cv ?_
 refine bN hΩ hH fun kk st2 hk2 hs2 => cv ?_
 exact sp h
theorem aff {a0 : Sl Value} {a1 : (Value → Option (Value))} {jQ : Nat} (hf : ∀ {x0 : Value} {r : Value}, a1 x0 = some r → ∀ {args : List PV}, [bX E x0] = args → ∀ (st : St), Sat (Ω.cf jQ args st) (fun q => q = (bX E r, st))) {r : (Sl Value)} (h : Y2 fu a0 a1 = some r) {args : List PV} (ha : [PV.d (.sl (E.aJ a0.l) (E.aT a0.x)), PV.d (.fn jQ [])] = args) (st : St) :
 Sat (Ω.cf 105 args st) (fun q => q = (PV.d (.sl (E.aJ r.l) (E.aT r.x)), st)) := by
 subst ha
 rcases a0 with ⟨a2, a3⟩
 rw [aC hΩ (f := 105) (fn := Try.f105) rfl rfl rfl rfl rfl rfl]
 unfold Y2 at h
 try dsimp only at h
 refine cv ?_
 replace h := aQ h
 obtain ⟨r2, g, h⟩ := h
 obtain ⟨n3, i⟩ : ∃ n, ln r2 = n := ⟨_, rfl⟩
 refine bC (afe hΩ hE (st := nO :: st) g (by (try clear h); subst_vars; rfl) rfl i) (cv ?_)
 replace h := aQ h
 obtain ⟨q, b, h⟩ := h
 refine bK hΩ (fun (a : (List Value) × Int) => (match a with | (l5, i6) => ([(1, PV.d (.fn jQ [])), (4, PV.d (.sl [] (some []))), (5, PV.row 0 0 (ln l5)), (10, PV.row 0 0 (ln l5)), (11, vi n3), (12, vi i6)], ([X.Obj.row 27 8 (E.aJ l5) true none] : List X.Obj) :: st))) (fun (q : ((List Value) × Int)) => (match q with | (fq, kg) => (.exit 0, [(1, PV.d (.fn jQ [])), (4, PV.d (.sl [] (some []))), (5, PV.row 0 0 (ln fq)), (10, PV.row 0 0 (ln fq)), (11, vi n3), (12, vi kg)], ([X.Obj.row 27 8 (E.aJ fq) true none] : List X.Obj) :: st))) (r2, 0) b ?_ ?_
 clear h b
 rintro ⟨l5, i6⟩ q h
 unfold BK at h
 dsimp only at h
 obtain ⟨Gu, mV⟩ : ∃ n, ln l5 = n := ⟨_, rfl⟩
 simp only [mV]
 refine cv ?_
 refine aN hΩ (cv ?_)
 revert h; refine bQ (fun j h => cv ?_) fun j h => cv ?_
 refine sat_true (bB hΩ (bE hE) l5) (cv ?_)
 replace h := aQ h
 obtain ⟨⟨a4, a5, a6, ⟨a7, a8⟩, ⟨a9, b0⟩, b1, b2, b3⟩, c, h⟩ := h
 try dsimp only at h
 refine ay (aW hΩ (bE hE) c) (cv ?_)
 refine sat_true (bB hΩ (bE hE) l5) (cv ?_)
 refine ay (aW hΩ (bE hE) c) (cv ?_)
 replace h := aQ h
 obtain ⟨⟨k, m, o, ⟨p, s⟩, ⟨t, u⟩, v, w, y⟩, z, h⟩ := h
 try dsimp only at h
 refine av (hf z) (cv ?_)
 refine sat_true (bB hΩ (bE hE) l5) (cv ?_)
 replace h := aQ h
 obtain ⟨⟨b4, b5, b6, ⟨b7, b8⟩, ⟨b9, c0⟩, c1, c2, c3⟩, e, h⟩ := h
 try dsimp only at h
 refine ay (aW hΩ (bE hE) e) (cv ?_)
 refine sat_true (bB hΩ (bE hE) l5) (cv ?_)
 refine ay (aW hΩ (bE hE) e) (cv ?_)
 refine jP hΩ (bE hE) l5 i6 (Value.mk k m o (Sl.mk p s) (Sl.mk t u) v w y) fun jJ c4 => cv ?_
 obtain rfl := fZ h
 subst_vars
 exact s3
 obtain rfl := fZ h
 subst_vars
 exact sL
 clear b
 rcases q with ⟨fq, kg⟩
 dsimp only at h
 obtain ⟨zU, jR⟩ : ∃ n, ln fq = n := ⟨_, rfl⟩
 simp only [jR]
 refine cv ?_
 refine sat_true (bB hΩ (bE hE) fq) (cv ?_)
 exact sp h
theorem afg {a0 : Sl Field} {r : (List Field)} (h : Y3 fu a0 = some r) {args : List PV} (ha : [PV.d (.sl (E.aG a0.l) (E.aI a0.x))] = args) {st : St} (hH : X.fQ st 0 = true) {n : Int} (hn : ln r = n) :
 Sat (Ω.cf 113 args st) (fun q => q = (PV.row 0 (X.dD st 0) n, X.iQ st 0 (X.Obj.row 112 9 (E.aG r) true none))) := by
 subst ha
 rcases a0 with ⟨a, p⟩
 rw [aC hΩ (f := 113) (fn := Try.f113) rfl rfl rfl rfl rfl rfl]
 unfold Y3 at h
 try dsimp only at h
 refine cv ?_
 refine dA hΩ (bF hE) fun l1 s => cv ?_
 refine aN hΩ (cv ?_)
 replace h := yQ h
 rcases h with ⟨b, h⟩ | ⟨b, h⟩
 refine dV (aU hΩ (bF hE) (l := a) b) (cv ?_)
 obtain ⟨ha16, c⟩ := gB h
 clear h
 refine nG hΩ ?_ ?_
 clear c
 have h := ha16
 clear ha16
 refine cv ?_
 refine dA hΩ (bF hE) fun l4 t => cv ?_
 refine bN hΩ hH fun kk st2 hk2 hs2 => cv ?_
 exact sp h
 clear ha16
 have h := c
 clear c
 refine cv ?_
 replace h := aQ h
 obtain ⟨jJ, e, h⟩ := h
 refine aH hΩ ((fun (q : (List Field)) => (match q with | jJ => ([(2, PV.row 0 1 (ln jJ))], ([X.Obj.row 112 9 (E.aG l1) true none, X.Obj.row 112 9 (E.aG jJ) true none] : List X.Obj) :: st))) jJ) (fun k hk => ?_) ?_
 clear h
 have h := e
 clear e
 refine cv ?_
 refine dA hΩ (bF hE) fun l6 u => cv ?_
 refine sat_true (gX hΩ _) (cv ?_)
 refine sat_true (bA hΩ (bF hE) a) (cv ?_)
 refine sat_true (bB hΩ (bF hE) ([] : List Field)) (cv ?_)
 replace h := yQ h
 rcases h with ⟨g, h⟩ | ⟨g, h⟩
 refine dV (aU hΩ (bF hE) (l := a) g) (cv ?_)
 exact fk h hk
 refine dP (aU hΩ (bF hE) (l := a) g) (cv ?_)
 refine fK hΩ (bF hE) ([] : List Field) a fun l9 v n11 w => cv ?_
 replace h := dZ h
 obtain ⟨m, h⟩ := h
 refine fJ m (cv ?_)
 exact fk h hk
 clear e
 try dsimp only at h
 obtain ⟨xq, iX⟩ : ∃ n, ln jJ = n := ⟨_, rfl⟩
 simp only [iX]
 refine cv ?_
 refine bN hΩ hH fun kk st2 hk2 hs2 => cv ?_
 exact sp h
 refine dP (aU hΩ (bF hE) (l := a) b) (cv ?_)
 refine aN hΩ (cv ?_)
 replace h := aQ h
 obtain ⟨kT, i, h⟩ := h
 refine aH hΩ ((fun (q : (List Field)) => (match q with | kT => ([(2, PV.row 0 1 (ln kT))], ([X.Obj.row 112 9 (E.aG l1) true none, X.Obj.row 112 9 (E.aG kT) true none] : List X.Obj) :: st))) kT) (fun k hk => ?_) ?_
 clear h
 have h := i
 clear i
 refine cv ?_
 refine dA hΩ (bF hE) fun l18 y => cv ?_
 refine sat_true (gX hΩ _) (cv ?_)
 refine sat_true (bA hΩ (bF hE) a) (cv ?_)
 refine sat_true (bB hΩ (bF hE) ([] : List Field)) (cv ?_)
 replace h := yQ h
 rcases h with ⟨j, h⟩ | ⟨j, h⟩
 refine dV (aU hΩ (bF hE) (l := a) j) (cv ?_)
 exact fk h hk
 refine dP (aU hΩ (bF hE) (l := a) j) (cv ?_)
 refine fK hΩ (bF hE) ([] : List Field) a fun l21 z n23 a1 => cv ?_
 replace h := dZ h
 obtain ⟨o, h⟩ := h
 refine fJ o (cv ?_)
 exact fk h hk
 clear i
 try dsimp only at h
 obtain ⟨xu, iY⟩ : ∃ n, ln kT = n := ⟨_, rfl⟩
 simp only [iY]
 refine cv ?_
 refine bN hΩ hH fun kk st2 hk2 hs2 => cv ?_
 exact sp h
theorem afh {a0 : Sl Field} {a1 : (Field → Option (Field))} {jQ : Nat} (hf : ∀ {x0 : Field} {r : Field}, a1 x0 = some r → ∀ {args : List PV}, [dO E x0] = args → ∀ (st : St), Sat (Ω.cf jQ args st) (fun q => q = (dO E r, st))) {r : (Sl Field)} (h : Y4 fu a0 a1 = some r) {args : List PV} (ha : [PV.d (.sl (E.aG a0.l) (E.aI a0.x)), PV.d (.fn jQ [])] = args) (st : St) :
 Sat (Ω.cf 106 args st) (fun q => q = (PV.d (.sl (E.aG r.l) (E.aI r.x)), st)) := by
 subst ha
 rcases a0 with ⟨a3, a4⟩
 rw [aC hΩ (f := 106) (fn := Try.f106) rfl rfl rfl rfl rfl rfl]
 unfold Y4 at h
 try dsimp only at h
 refine cv ?_
 replace h := aQ h
 obtain ⟨r2, g, h⟩ := h
 obtain ⟨n3, i⟩ : ∃ n, ln r2 = n := ⟨_, rfl⟩
 refine bC (afg hΩ hE (st := nO :: st) g (by (try clear h); subst_vars; rfl) rfl i) (cv ?_)
 replace h := aQ h
 obtain ⟨q, b, h⟩ := h
 refine bK hΩ (fun (a : (List Field) × Int) => (match a with | (l5, i6) => ([(1, PV.d (.fn jQ [])), (4, PV.d (.sl [] (some []))), (5, PV.row 0 0 (ln l5)), (10, PV.row 0 0 (ln l5)), (11, vi n3), (12, vi i6)], ([X.Obj.row 112 9 (E.aG l5) true none] : List X.Obj) :: st))) (fun (q : ((List Field) × Int)) => (match q with | (fq, kg) => (.exit 0, [(1, PV.d (.fn jQ [])), (4, PV.d (.sl [] (some []))), (5, PV.row 0 0 (ln fq)), (10, PV.row 0 0 (ln fq)), (11, vi n3), (12, vi kg)], ([X.Obj.row 112 9 (E.aG fq) true none] : List X.Obj) :: st))) (r2, 0) b ?_ ?_
 clear h b
 rintro ⟨l5, i6⟩ q h
 unfold BL at h
 dsimp only at h
 obtain ⟨Gu, mV⟩ : ∃ n, ln l5 = n := ⟨_, rfl⟩
 simp only [mV]
 refine cv ?_
 refine aN hΩ (cv ?_)
 revert h; refine bQ (fun j h => cv ?_) fun j h => cv ?_
 refine sat_true (bB hΩ (bF hE) l5) (cv ?_)
 replace h := aQ h
 obtain ⟨⟨a5, ⟨a6, a7, a8, ⟨a9, b0⟩, ⟨b1, b2⟩, b3, b4, b5⟩⟩, c, h⟩ := h
 try dsimp only at h
 refine ay (aW hΩ (bF hE) c) (cv ?_)
 refine sat_true (bB hΩ (bF hE) l5) (cv ?_)
 refine ay (aW hΩ (bF hE) c) (cv ?_)
 replace h := aQ h
 obtain ⟨⟨k, ⟨m, o, p, ⟨s, t⟩, ⟨u, v⟩, w, y, z⟩⟩, a2, h⟩ := h
 try dsimp only at h
 refine av (hf a2) (cv ?_)
 refine sat_true (bB hΩ (bF hE) l5) (cv ?_)
 replace h := aQ h
 obtain ⟨⟨b6, ⟨b7, b8, b9, ⟨c0, c1⟩, ⟨c2, c3⟩, c4, c5, c6⟩⟩, e, h⟩ := h
 try dsimp only at h
 refine ay (aW hΩ (bF hE) e) (cv ?_)
 refine sat_true (bB hΩ (bF hE) l5) (cv ?_)
 refine ay (aW hΩ (bF hE) e) (cv ?_)
 refine jP hΩ (bF hE) l5 i6 (Field.mk k (Value.mk m o p (Sl.mk s t) (Sl.mk u v) w y z)) fun jJ c7 => cv ?_
 obtain rfl := fZ h
 subst_vars
 exact s3
 obtain rfl := fZ h
 subst_vars
 exact sL
 clear b
 rcases q with ⟨fq, kg⟩
 dsimp only at h
 obtain ⟨zU, jR⟩ : ∃ n, ln fq = n := ⟨_, rfl⟩
 simp only [jR]
 refine cv ?_
 refine sat_true (bB hΩ (bF hE) fq) (cv ?_)
 exact sp h
def Zz (Ω : Om) (E : Enc) (tC : Field → Option (Field)) : Prop := ∀ {a0 : Field} {r : Field}, tC a0 = some r → ∀ {args : List PV}, [dO E a0] = args → ∀ (st : St), Sat (Ω.cf 107 args st) (fun q => q = (dO E r, st))
def H65 (Ω : Om) (E : Enc) (p65 : Value → Option (Value)) : Prop := ∀ {a0 : Value} {r : Value}, p65 a0 = some r → ∀ {args : List PV}, [bX E a0] = args → ∀ (st : St), Sat (Ω.cf 65 args st) (fun q => q = (bX E r, st))
def H88 (Ω : Om) (E : Enc) (Kg : (Sl Value) → Option ((Sl Value))) : Prop := ∀ {a0 : Sl Value} {r : (Sl Value)}, Kg a0 = some r → ∀ {args : List PV}, [PV.d (.sl (E.aJ a0.l) (E.aT a0.x))] = args → ∀ (st : St), Sat (Ω.cf 88 args st) (fun q => q = (PV.d (.sl (E.aJ r.l) (E.aT r.x)), st))
def H89 (Ω : Om) (E : Enc) (Kh : (Sl Field) → Option ((Sl Field))) : Prop := ∀ {a0 : Sl Field} {r : (Sl Field)}, Kh a0 = some r → ∀ {args : List PV}, [PV.d (.sl (E.aG a0.l) (E.aI a0.x))] = args → ∀ (st : St), Sat (Ω.cf 89 args st) (fun q => q = (PV.d (.sl (E.aG r.l) (E.aI r.x)), st))
theorem acC {tC : Field → Option (Field)} (Qx : Zz Ω E tC) {p65 : Value → Option (Value)} (VH : H65 Ω E p65) {Kg : (Sl Value) → Option ((Sl Value))} (ZA : H88 Ω E Kg) {Kh : (Sl Field) → Option ((Sl Field))} (ZB : H89 Ω E Kh) {a0 : Field} {r : Field} (h : Qf fu tC p65 Kg Kh a0 = some r) {args : List PV} (ha : [dO E a0] = args) (st : St) :
 Sat (Ω.cf 107 args st) (fun q => q = (dO E r, st)) := by
 subst ha
 rcases a0 with ⟨b, ⟨c, d, e, ⟨g, i⟩, ⟨j, k⟩, l, m, n⟩⟩
 rw [aC hΩ (f := 107) (fn := Try.f107) rfl rfl rfl rfl rfl rfl]
 unfold Qf at h
 try dsimp only at h
 refine cv ?_
 replace h := aQ h
 obtain ⟨⟨o, p, s, ⟨t, u⟩, ⟨v, w⟩, x, y, z⟩, a, h⟩ := h
 try dsimp only at h
 refine av (VH a) (cv ?_)
 refine sat_true (dL hΩ _) (cv ?_)
 exact sp h
theorem afi {tC : Field → Option (Field)} (Qx : Zz Ω E tC) {p65 : Value → Option (Value)} (VH : H65 Ω E p65) {Kg : (Sl Value) → Option ((Sl Value))} (ZA : H88 Ω E Kg) {Kh : (Sl Field) → Option ((Sl Field))} (ZB : H89 Ω E Kh) {a0 : Value} {r : Value} (h : Y5 fu tC p65 Kg Kh a0 = some r) {args : List PV} (ha : [bX E a0] = args) (st : St) :
 Sat (Ω.cf 65 args st) (fun q => q = (bX E r, st)) := by
 subst ha
 rcases a0 with ⟨c, d, e, ⟨g, i⟩, ⟨j, k⟩, l, m, n⟩
 rw [aC hΩ (f := 65) (fn := Try.f65) rfl rfl rfl rfl rfl rfl]
 unfold Y5 at h
 try dsimp only at h
 refine cv ?_
 replace h := aQ h
 obtain ⟨⟨o, p⟩, a, h⟩ := h
 try dsimp only at h
 refine av (ZA a) (cv ?_)
 refine sat_true (dL hΩ _) (cv ?_)
 replace h := aQ h
 obtain ⟨⟨s, t⟩, b, h⟩ := h
 try dsimp only at h
 refine av (ZB b) (cv ?_)
 refine sat_true (dL hΩ _) (cv ?_)
 exact sp h
theorem afj {tC : Field → Option (Field)} (Qx : Zz Ω E tC) {p65 : Value → Option (Value)} (VH : H65 Ω E p65) {Kg : (Sl Value) → Option ((Sl Value))} (ZA : H88 Ω E Kg) {Kh : (Sl Field) → Option ((Sl Field))} (ZB : H89 Ω E Kh) {a0 : Sl Value} {r : (Sl Value)} (h : Y6 fu tC p65 Kg Kh a0 = some r) {args : List PV} (ha : [PV.d (.sl (E.aJ a0.l) (E.aT a0.x))] = args) (st : St) :
 Sat (Ω.cf 88 args st) (fun q => q = (PV.d (.sl (E.aJ r.l) (E.aT r.x)), st)) := by
 subst ha
 rcases a0 with ⟨b, c⟩
 rw [aC hΩ (f := 88) (fn := Try.f88) rfl rfl rfl rfl rfl rfl]
 unfold Y6 at h
 try dsimp only at h
 refine cv ?_
 replace h := aQ h
 obtain ⟨⟨e, g⟩, a, h⟩ := h
 try dsimp only at h
 refine bC (aff hΩ hE (hf := fun h => @fun args ha st => VH h ha st) a (by (try clear h); subst_vars; rfl) _) (cv ?_)
 exact sp h
theorem afk {tC : Field → Option (Field)} (Qx : Zz Ω E tC) {p65 : Value → Option (Value)} (VH : H65 Ω E p65) {Kg : (Sl Value) → Option ((Sl Value))} (ZA : H88 Ω E Kg) {Kh : (Sl Field) → Option ((Sl Field))} (ZB : H89 Ω E Kh) {a0 : Sl Field} {r : (Sl Field)} (h : Y7 fu tC p65 Kg Kh a0 = some r) {args : List PV} (ha : [PV.d (.sl (E.aG a0.l) (E.aI a0.x))] = args) (st : St) :
 Sat (Ω.cf 89 args st) (fun q => q = (PV.d (.sl (E.aG r.l) (E.aI r.x)), st)) := by
 subst ha
 rcases a0 with ⟨b, c⟩
 rw [aC hΩ (f := 89) (fn := Try.f89) rfl rfl rfl rfl rfl rfl]
 unfold Y7 at h
 try dsimp only at h
 refine cv ?_
 replace h := aQ h
 obtain ⟨⟨e, g⟩, a, h⟩ := h
 try dsimp only at h
 refine bC (afh hΩ hE (hf := fun h => @fun args ha st => Qx h ha st) a (by (try clear h); subst_vars; rfl) _) (cv ?_)
 exact sp h
theorem OC : ∀ fu,
 (∀ {a0 : Field} {r : Field}, Mj fu a0 = some r → ∀ {args : List PV}, [dO E a0] = args → ∀ (st : St), Sat (Ω.cf 107 args st) (fun q => q = (dO E r, st))) ∧
 (∀ {a0 : Value} {r : Value}, Ki fu a0 = some r → ∀ {args : List PV}, [bX E a0] = args → ∀ (st : St), Sat (Ω.cf 65 args st) (fun q => q = (bX E r, st))) ∧
 (∀ {a0 : Sl Value} {r : (Sl Value)}, Xn fu a0 = some r → ∀ {args : List PV}, [PV.d (.sl (E.aJ a0.l) (E.aT a0.x))] = args → ∀ (st : St), Sat (Ω.cf 88 args st) (fun q => q = (PV.d (.sl (E.aJ r.l) (E.aT r.x)), st))) ∧
 (∀ {a0 : Sl Field} {r : (Sl Field)}, Vu fu a0 = some r → ∀ {args : List PV}, [PV.d (.sl (E.aG a0.l) (E.aI a0.x))] = args → ∀ (st : St), Sat (Ω.cf 89 args st) (fun q => q = (PV.d (.sl (E.aG r.l) (E.aI r.x)), st))) := by
 intro fu
 induction fu with
 | zero => exact ⟨(fun h => (by cases h)), (fun h => (by cases h)), (fun h => (by cases h)), (fun h => (by cases h))⟩
 | succ fu ih =>
  obtain ⟨i107, i65, i88, i89⟩ := ih
  exact ⟨(fun h => @fun args ha st => acC (fu := fu) hΩ hE i107 i65 i88 i89 h ha st), (fun h => @fun args ha st => afi (fu := fu) hΩ hE i107 i65 i88 i89 h ha st), (fun h => @fun args ha st => afj (fu := fu) hΩ hE i107 i65 i88 i89 h ha st), (fun h => @fun args ha st => afk (fu := fu) hΩ hE i107 i65 i88 i89 h ha st)⟩
theorem ZC : ∀ {a0 : Value} {r : Value}, Ki fu a0 = some r → ∀ {args : List PV}, [bX E a0] = args → ∀ (st : St), Sat (Ω.cf 65 args st) (fun q => q = (bX E r, st)) := (OC hΩ hE fu).2.1
theorem ag9 : ∀ {a0 : Sl Value} {r : (Sl Value)}, Xn fu a0 = some r → ∀ {args : List PV}, [PV.d (.sl (E.aJ a0.l) (E.aT a0.x))] = args → ∀ (st : St), Sat (Ω.cf 88 args st) (fun q => q = (PV.d (.sl (E.aJ r.l) (E.aT r.x)), st)) := (OC hΩ hE fu).2.2.1
theorem afl : ∀ {a0 : Sl Field} {r : (Sl Field)}, Vu fu a0 = some r → ∀ {args : List PV}, [PV.d (.sl (E.aG a0.l) (E.aI a0.x))] = args → ∀ (st : St), Sat (Ω.cf 89 args st) (fun q => q = (PV.d (.sl (E.aG r.l) (E.aI r.x)), st)) := (OC hΩ hE fu).2.2.2
theorem afm {a0 : Child} {r : Child} (h : P62 fu a0 = some r) {args : List PV} (ha : [oU E a0] = args) (st : St) :
 Sat (Ω.cf 62 args st) (fun q => q = (oU E r, st)) := by
 subst ha
 rcases a0 with ⟨b, c, d, ⟨e, g, i, ⟨j, k⟩, ⟨l, m⟩, n, o, p⟩⟩
 rw [aC hΩ (f := 62) (fn := Try.f62) rfl rfl rfl rfl rfl rfl]
 unfold P62 at h
 try dsimp only at h
 refine cv ?_
 replace h := aQ h
 obtain ⟨⟨s, t, u, ⟨v, w⟩, ⟨x, y⟩, z, a1, a2⟩, a, h⟩ := h
 try dsimp only at h
 refine av (ZC hΩ hE a) (cv ?_)
 exact sp h
theorem aha {a0 : Sl Cell} {r : (List Cell)} (h : P94 fu a0 = some r) {args : List PV} (ha : [PV.d (.sl (E.eH a0.l) (E.gH a0.x))] = args) {st : St} (hH : X.fQ st 0 = true) {n : Int} (hn : ln r = n) :
 Sat (Ω.cf 94 args st) (fun q => q = (PV.row 0 (X.dD st 0) n, X.iQ st 0 (X.Obj.row 78 26 (E.eH r) true none))) := by
 subst ha
 rcases a0 with ⟨a, p⟩
 rw [aC hΩ (f := 94) (fn := Try.f94) rfl rfl rfl rfl rfl rfl]
 unfold P94 at h
 try dsimp only at h
 refine cv ?_
 refine dA hΩ (cu hE) fun l1 s => cv ?_
 refine aN hΩ (cv ?_)
 replace h := yQ h
 rcases h with ⟨b, h⟩ | ⟨b, h⟩
 refine dV (aU hΩ (cu hE) (l := a) b) (cv ?_)
 obtain ⟨ha16, c⟩ := gB h
 clear h
 refine nG hΩ ?_ ?_
 clear c
 have h := ha16
 clear ha16
 refine cv ?_
 refine dA hΩ (cu hE) fun l4 t => cv ?_
 refine bN hΩ hH fun kk st2 hk2 hs2 => cv ?_
 exact sp h
 clear ha16
 have h := c
 clear c
 refine cv ?_
 replace h := aQ h
 obtain ⟨jJ, e, h⟩ := h
 refine aH hΩ ((fun (q : (List Cell)) => (match q with | jJ => ([(2, PV.row 0 1 (ln jJ))], ([X.Obj.row 78 26 (E.eH l1) true none, X.Obj.row 78 26 (E.eH jJ) true none] : List X.Obj) :: st))) jJ) (fun k hk => ?_) ?_
 clear h
 have h := e
 clear e
 refine cv ?_
 refine dA hΩ (cu hE) fun l6 u => cv ?_
 refine sat_true (gX hΩ _) (cv ?_)
 refine sat_true (bA hΩ (cu hE) a) (cv ?_)
 refine sat_true (bB hΩ (cu hE) ([] : List Cell)) (cv ?_)
 replace h := yQ h
 rcases h with ⟨g, h⟩ | ⟨g, h⟩
 refine dV (aU hΩ (cu hE) (l := a) g) (cv ?_)
 exact fk h hk
 refine dP (aU hΩ (cu hE) (l := a) g) (cv ?_)
 refine fK hΩ (cu hE) ([] : List Cell) a fun l9 v n11 w => cv ?_
 replace h := dZ h
 obtain ⟨m, h⟩ := h
 refine fJ m (cv ?_)
 exact fk h hk
 clear e
 try dsimp only at h
 obtain ⟨xq, iX⟩ : ∃ n, ln jJ = n := ⟨_, rfl⟩
 simp only [iX]
 refine cv ?_
 refine bN hΩ hH fun kk st2 hk2 hs2 => cv ?_
 exact sp h
 refine dP (aU hΩ (cu hE) (l := a) b) (cv ?_)
 refine aN hΩ (cv ?_)
 replace h := aQ h
 obtain ⟨kT, i, h⟩ := h
 refine aH hΩ ((fun (q : (List Cell)) => (match q with | kT => ([(2, PV.row 0 1 (ln kT))], ([X.Obj.row 78 26 (E.eH l1) true none, X.Obj.row 78 26 (E.eH kT) true none] : List X.Obj) :: st))) kT) (fun k hk => ?_) ?_
 clear h
 have h := i
 clear i
 refine cv ?_
 refine dA hΩ (cu hE) fun l18 y => cv ?_
 refine sat_true (gX hΩ _) (cv ?_)
 refine sat_true (bA hΩ (cu hE) a) (cv ?_)
 refine sat_true (bB hΩ (cu hE) ([] : List Cell)) (cv ?_)
 replace h := yQ h
 rcases h with ⟨j, h⟩ | ⟨j, h⟩
 refine dV (aU hΩ (cu hE) (l := a) j) (cv ?_)
 exact fk h hk
 refine dP (aU hΩ (cu hE) (l := a) j) (cv ?_)
 refine fK hΩ (cu hE) ([] : List Cell) a fun l21 z n23 a1 => cv ?_
 replace h := dZ h
 obtain ⟨o, h⟩ := h
 refine fJ o (cv ?_)
 exact fk h hk
 clear i
 try dsimp only at h
 obtain ⟨xu, iY⟩ : ∃ n, ln kT = n := ⟨_, rfl⟩
 simp only [iY]
 refine cv ?_
 refine bN hΩ hH fun kk st2 hk2 hs2 => cv ?_
 exact sp h
theorem ahb {a0 : Sl Cell} {a1 : (Cell → Option (Cell))} {jQ : Nat} (hf : ∀ {x0 : Cell} {r : Cell}, a1 x0 = some r → ∀ {args : List PV}, [sM E x0] = args → ∀ (st : St), Sat (Ω.cf jQ args st) (fun q => q = (sM E r, st))) {r : (Sl Cell)} (h : P85 fu a0 a1 = some r) {args : List PV} (ha : [PV.d (.sl (E.eH a0.l) (E.gH a0.x)), PV.d (.fn jQ [])] = args) (st : St) :
 Sat (Ω.cf 85 args st) (fun q => q = (PV.d (.sl (E.eH r.l) (E.gH r.x)), st)) := by
 subst ha
 rcases a0 with ⟨c8, c9⟩
 rw [aC hΩ (f := 85) (fn := Try.f85) rfl rfl rfl rfl rfl rfl]
 unfold P85 at h
 try dsimp only at h
 refine cv ?_
 replace h := aQ h
 obtain ⟨r2, g, h⟩ := h
 obtain ⟨n3, i⟩ : ∃ n, ln r2 = n := ⟨_, rfl⟩
 refine bC (aha hΩ hE (st := nO :: st) g (by (try clear h); subst_vars; rfl) rfl i) (cv ?_)
 replace h := aQ h
 obtain ⟨q, b, h⟩ := h
 refine bK hΩ (fun (a : (List Cell) × Int) => (match a with | (l5, i6) => ([(1, PV.d (.fn jQ [])), (4, PV.d (.sl [] (some []))), (5, PV.row 0 0 (ln l5)), (10, PV.row 0 0 (ln l5)), (11, vi n3), (12, vi i6)], ([X.Obj.row 78 26 (E.eH l5) true none] : List X.Obj) :: st))) (fun (q : ((List Cell) × Int)) => (match q with | (fq, kg) => (.exit 0, [(1, PV.d (.fn jQ [])), (4, PV.d (.sl [] (some []))), (5, PV.row 0 0 (ln fq)), (10, PV.row 0 0 (ln fq)), (11, vi n3), (12, vi kg)], ([X.Obj.row 78 26 (E.eH fq) true none] : List X.Obj) :: st))) (r2, 0) b ?_ ?_
 clear h b
 rintro ⟨l5, i6⟩ q h
 unfold Jo at h
 dsimp only at h
 obtain ⟨Gu, mV⟩ : ∃ n, ln l5 = n := ⟨_, rfl⟩
 simp only [mV]
 refine cv ?_
 refine aN hΩ (cv ?_)
 revert h; refine bQ (fun j h => cv ?_) fun j h => cv ?_
 refine sat_true (bB hΩ (cu hE) l5) (cv ?_)
 replace h := aQ h
 obtain ⟨⟨d0, d1, ⟨d2, d3, d4, ⟨d5, d6⟩, ⟨d7, d8⟩, d9, e0, e3⟩, ⟨e4, e5, e6, ⟨e7, e8⟩, ⟨e9, f0⟩, f1, f2, f3⟩, ⟨f4, f5⟩, ⟨f6, f7⟩, ⟨f8, f9⟩, ⟨g0, g1⟩, g2, g3, ⟨g4, g5⟩, ⟨g6, g7⟩⟩, c, h⟩ := h
 try dsimp only at h
 refine ay (aW hΩ (cu hE) c) (cv ?_)
 refine sat_true (bB hΩ (cu hE) l5) (cv ?_)
 refine ay (aW hΩ (cu hE) c) (cv ?_)
 replace h := aQ h
 obtain ⟨⟨k, m, ⟨o, p, s, ⟨t, u⟩, ⟨v, w⟩, y, z, a2⟩, ⟨a3, a4, a5, ⟨a6, a7⟩, ⟨a8, a9⟩, b0, b1, b2⟩, ⟨b3, b4⟩, ⟨b5, b6⟩, ⟨b7, b8⟩, ⟨b9, c0⟩, c1, c2, ⟨c3, c4⟩, ⟨c5, c6⟩⟩, c7, h⟩ := h
 try dsimp only at h
 refine av (hf c7) (cv ?_)
 refine sat_true (bB hΩ (cu hE) l5) (cv ?_)
 replace h := aQ h
 obtain ⟨⟨g8, g9, ⟨h0, h3, h4, ⟨h5, h6⟩, ⟨h7, h8⟩, h9, i0, i1⟩, ⟨i2, i3, i4, ⟨i5, i7⟩, ⟨i9, j0⟩, j1, j2, j3⟩, ⟨j4, j5⟩, ⟨j6, j7⟩, ⟨j8, j9⟩, ⟨k0, k1⟩, k2, k3, ⟨k4, k5⟩, ⟨k6, k7⟩⟩, e, h⟩ := h
 try dsimp only at h
 refine ay (aW hΩ (cu hE) e) (cv ?_)
 refine sat_true (bB hΩ (cu hE) l5) (cv ?_)
 refine ay (aW hΩ (cu hE) e) (cv ?_)
 refine jP hΩ (cu hE) l5 i6 (Cell.mk k m (Value.mk o p s (Sl.mk t u) (Sl.mk v w) y z a2) (Value.mk a3 a4 a5 (Sl.mk a6 a7) (Sl.mk a8 a9) b0 b1 b2) (Sl.mk b3 b4) (Sl.mk b5 b6) (Sl.mk b7 b8) (Sl.mk b9 c0) c1 c2 (Sl.mk c3 c4) (Sl.mk c5 c6)) fun jJ k8 => cv ?_
 obtain rfl := fZ h
 subst_vars
 exact s3
 obtain rfl := fZ h
 subst_vars
 exact sL
 clear b
 rcases q with ⟨fq, kg⟩
 dsimp only at h
 obtain ⟨zU, jR⟩ : ∃ n, ln fq = n := ⟨_, rfl⟩
 simp only [jR]
 refine cv ?_
 refine sat_true (bB hΩ (cu hE) fq) (cv ?_)
 exact sp h
theorem afn {a0 : Sl Act} {r : (List Act)} (h : Y8 fu a0 = some r) {args : List PV} (ha : [PV.d (.sl (E.dF a0.l) (E.dQ a0.x))] = args) {st : St} (hH : X.fQ st 0 = true) {n : Int} (hn : ln r = n) :
 Sat (Ω.cf 120 args st) (fun q => q = (PV.row 0 (X.dD st 0) n, X.iQ st 0 (X.Obj.row 128 12 (E.dF r) true none))) := by
 subst ha
 rcases a0 with ⟨a, p⟩
 rw [aC hΩ (f := 120) (fn := Try.f120) rfl rfl rfl rfl rfl rfl]
 unfold Y8 at h
 try dsimp only at h
 refine cv ?_
 refine dA hΩ (dR hE) fun l1 s => cv ?_
 refine aN hΩ (cv ?_)
 replace h := yQ h
 rcases h with ⟨b, h⟩ | ⟨b, h⟩
 refine dV (aU hΩ (dR hE) (l := a) b) (cv ?_)
 obtain ⟨ha16, c⟩ := gB h
 clear h
 refine nG hΩ ?_ ?_
 clear c
 have h := ha16
 clear ha16
 refine cv ?_
 refine dA hΩ (dR hE) fun l4 t => cv ?_
 refine bN hΩ hH fun kk st2 hk2 hs2 => cv ?_
 exact sp h
 clear ha16
 have h := c
 clear c
 refine cv ?_
 replace h := aQ h
 obtain ⟨jJ, e, h⟩ := h
 refine aH hΩ ((fun (q : (List Act)) => (match q with | jJ => ([(2, PV.row 0 1 (ln jJ))], ([X.Obj.row 128 12 (E.dF l1) true none, X.Obj.row 128 12 (E.dF jJ) true none] : List X.Obj) :: st))) jJ) (fun k hk => ?_) ?_
 clear h
 have h := e
 clear e
 refine cv ?_
 refine dA hΩ (dR hE) fun l6 u => cv ?_
 refine sat_true (gX hΩ _) (cv ?_)
 refine sat_true (bA hΩ (dR hE) a) (cv ?_)
 refine sat_true (bB hΩ (dR hE) ([] : List Act)) (cv ?_)
 replace h := yQ h
 rcases h with ⟨g, h⟩ | ⟨g, h⟩
 refine dV (aU hΩ (dR hE) (l := a) g) (cv ?_)
 exact fk h hk
 refine dP (aU hΩ (dR hE) (l := a) g) (cv ?_)
 refine fK hΩ (dR hE) ([] : List Act) a fun l9 v n11 w => cv ?_
 replace h := dZ h
 obtain ⟨m, h⟩ := h
 refine fJ m (cv ?_)
 exact fk h hk
 clear e
 try dsimp only at h
 obtain ⟨xq, iX⟩ : ∃ n, ln jJ = n := ⟨_, rfl⟩
 simp only [iX]
 refine cv ?_
 refine bN hΩ hH fun kk st2 hk2 hs2 => cv ?_
 exact sp h
 refine dP (aU hΩ (dR hE) (l := a) b) (cv ?_)
 refine aN hΩ (cv ?_)
 replace h := aQ h
 obtain ⟨kT, i, h⟩ := h
 refine aH hΩ ((fun (q : (List Act)) => (match q with | kT => ([(2, PV.row 0 1 (ln kT))], ([X.Obj.row 128 12 (E.dF l1) true none, X.Obj.row 128 12 (E.dF kT) true none] : List X.Obj) :: st))) kT) (fun k hk => ?_) ?_
 clear h
 have h := i
 clear i
 refine cv ?_
 refine dA hΩ (dR hE) fun l18 y => cv ?_
 refine sat_true (gX hΩ _) (cv ?_)
 refine sat_true (bA hΩ (dR hE) a) (cv ?_)
 refine sat_true (bB hΩ (dR hE) ([] : List Act)) (cv ?_)
 replace h := yQ h
 rcases h with ⟨j, h⟩ | ⟨j, h⟩
 refine dV (aU hΩ (dR hE) (l := a) j) (cv ?_)
 exact fk h hk
 refine dP (aU hΩ (dR hE) (l := a) j) (cv ?_)
 refine fK hΩ (dR hE) ([] : List Act) a fun l21 z n23 a1 => cv ?_
 replace h := dZ h
 obtain ⟨o, h⟩ := h
 refine fJ o (cv ?_)
 exact fk h hk
 clear i
 try dsimp only at h
 obtain ⟨xu, iY⟩ : ∃ n, ln kT = n := ⟨_, rfl⟩
 simp only [iY]
 refine cv ?_
 refine bN hΩ hH fun kk st2 hk2 hs2 => cv ?_
 exact sp h
theorem afo {a0 : Sl Act} {a1 : (Act → Option (Act))} {jQ : Nat} (hf : ∀ {x0 : Act} {r : Act}, a1 x0 = some r → ∀ {args : List PV}, [jG E x0] = args → ∀ (st : St), Sat (Ω.cf jQ args st) (fun q => q = (jG E r, st))) {r : (Sl Act)} (h : Y9 fu a0 a1 = some r) {args : List PV} (ha : [PV.d (.sl (E.dF a0.l) (E.dQ a0.x)), PV.d (.fn jQ [])] = args) (st : St) :
 Sat (Ω.cf 115 args st) (fun q => q = (PV.d (.sl (E.dF r.l) (E.dQ r.x)), st)) := by
 subst ha
 rcases a0 with ⟨a9, b0⟩
 rw [aC hΩ (f := 115) (fn := Try.f115) rfl rfl rfl rfl rfl rfl]
 unfold Y9 at h
 try dsimp only at h
 refine cv ?_
 replace h := aQ h
 obtain ⟨r2, g, h⟩ := h
 obtain ⟨n3, i⟩ : ∃ n, ln r2 = n := ⟨_, rfl⟩
 refine bC (afn hΩ hE (st := nO :: st) g (by (try clear h); subst_vars; rfl) rfl i) (cv ?_)
 replace h := aQ h
 obtain ⟨q, b, h⟩ := h
 refine bK hΩ (fun (a : (List Act) × Int) => (match a with | (l5, i6) => ([(1, PV.d (.fn jQ [])), (4, PV.d (.sl [] (some []))), (5, PV.row 0 0 (ln l5)), (10, PV.row 0 0 (ln l5)), (11, vi n3), (12, vi i6)], ([X.Obj.row 128 12 (E.dF l5) true none] : List X.Obj) :: st))) (fun (q : ((List Act) × Int)) => (match q with | (fq, kg) => (.exit 0, [(1, PV.d (.fn jQ [])), (4, PV.d (.sl [] (some []))), (5, PV.row 0 0 (ln fq)), (10, PV.row 0 0 (ln fq)), (11, vi n3), (12, vi kg)], ([X.Obj.row 128 12 (E.dF fq) true none] : List X.Obj) :: st))) (r2, 0) b ?_ ?_
 clear h b
 rintro ⟨l5, i6⟩ q h
 unfold BM at h
 dsimp only at h
 obtain ⟨Gu, mV⟩ : ∃ n, ln l5 = n := ⟨_, rfl⟩
 simp only [mV]
 refine cv ?_
 refine aN hΩ (cv ?_)
 revert h; refine bQ (fun j h => cv ?_) fun j h => cv ?_
 refine sat_true (bB hΩ (dR hE) l5) (cv ?_)
 replace h := aQ h
 obtain ⟨⟨b1, b2, ⟨b3, b4, b5, ⟨b6, b7⟩, ⟨b8, b9⟩, ⟨c0, c1⟩, c2, ⟨c3, c4⟩, ⟨c5, c6⟩, c7⟩⟩, c, h⟩ := h
 try dsimp only at h
 refine ay (aW hΩ (dR hE) c) (cv ?_)
 refine sat_true (bB hΩ (dR hE) l5) (cv ?_)
 refine ay (aW hΩ (dR hE) c) (cv ?_)
 replace h := aQ h
 obtain ⟨⟨k, m, ⟨o, p, s, ⟨t, u⟩, ⟨v, w⟩, ⟨y, z⟩, a2, ⟨a3, a4⟩, ⟨a5, a6⟩, a7⟩⟩, a8, h⟩ := h
 try dsimp only at h
 refine av (hf a8) (cv ?_)
 refine sat_true (bB hΩ (dR hE) l5) (cv ?_)
 replace h := aQ h
 obtain ⟨⟨c8, c9, ⟨d0, d1, d2, ⟨d3, d4⟩, ⟨d5, d6⟩, ⟨d7, d8⟩, d9, ⟨e0, e3⟩, ⟨e4, e5⟩, e6⟩⟩, e, h⟩ := h
 try dsimp only at h
 refine ay (aW hΩ (dR hE) e) (cv ?_)
 refine sat_true (bB hΩ (dR hE) l5) (cv ?_)
 refine ay (aW hΩ (dR hE) e) (cv ?_)
 refine jP hΩ (dR hE) l5 i6 (Act.mk k m (Expr.mk o p s (Sl.mk t u) (Sl.mk v w) (Sl.mk y z) a2 (Sl.mk a3 a4) (Sl.mk a5 a6) a7)) fun jJ e7 => cv ?_
 obtain rfl := fZ h
 subst_vars
 exact s3
 obtain rfl := fZ h
 subst_vars
 exact sL
 clear b
 rcases q with ⟨fq, kg⟩
 dsimp only at h
 obtain ⟨zU, jR⟩ : ∃ n, ln fq = n := ⟨_, rfl⟩
 simp only [jR]
 refine cv ?_
 refine sat_true (bB hΩ (dR hE) fq) (cv ?_)
 exact sp h
theorem afp {a0 : Sl Expr} {r : (List Expr)} (h : Za fu a0 = some r) {args : List PV} (ha : [PV.d (.sl (E.bL a0.l) (E.bS a0.x))] = args) {st : St} (hH : X.fQ st 0 = true) {n : Int} (hn : ln r = n) :
 Sat (Ω.cf 132 args st) (fun q => q = (PV.row 0 (X.dD st 0) n, X.iQ st 0 (X.Obj.row 126 10 (E.bL r) true none))) := by
 subst ha
 rcases a0 with ⟨a, p⟩
 rw [aC hΩ (f := 132) (fn := Try.f132) rfl rfl rfl rfl rfl rfl]
 unfold Za at h
 try dsimp only at h
 refine cv ?_
 refine dA hΩ (cO hE) fun l1 s => cv ?_
 refine aN hΩ (cv ?_)
 replace h := yQ h
 rcases h with ⟨b, h⟩ | ⟨b, h⟩
 refine dV (aU hΩ (cO hE) (l := a) b) (cv ?_)
 obtain ⟨ha16, c⟩ := gB h
 clear h
 refine nG hΩ ?_ ?_
 clear c
 have h := ha16
 clear ha16
 refine cv ?_
 refine dA hΩ (cO hE) fun l4 t => cv ?_
 refine bN hΩ hH fun kk st2 hk2 hs2 => cv ?_
 exact sp h
 clear ha16
 have h := c
 clear c
 refine cv ?_
 replace h := aQ h
 obtain ⟨jJ, e, h⟩ := h
 refine aH hΩ ((fun (q : (List Expr)) => (match q with | jJ => ([(2, PV.row 0 1 (ln jJ))], ([X.Obj.row 126 10 (E.bL l1) true none, X.Obj.row 126 10 (E.bL jJ) true none] : List X.Obj) :: st))) jJ) (fun k hk => ?_) ?_
 clear h
 have h := e
 clear e
 refine cv ?_
 refine dA hΩ (cO hE) fun l6 u => cv ?_
 refine sat_true (gX hΩ _) (cv ?_)
 refine sat_true (bA hΩ (cO hE) a) (cv ?_)
 refine sat_true (bB hΩ (cO hE) ([] : List Expr)) (cv ?_)
 replace h := yQ h
 rcases h with ⟨g, h⟩ | ⟨g, h⟩
 refine dV (aU hΩ (cO hE) (l := a) g) (cv ?_)
 exact fk h hk
 refine dP (aU hΩ (cO hE) (l := a) g) (cv ?_)
 refine fK hΩ (cO hE) ([] : List Expr) a fun l9 v n11 w => cv ?_
 replace h := dZ h
 obtain ⟨m, h⟩ := h
 refine fJ m (cv ?_)
 exact fk h hk
 clear e
 try dsimp only at h
 obtain ⟨xq, iX⟩ : ∃ n, ln jJ = n := ⟨_, rfl⟩
 simp only [iX]
 refine cv ?_
 refine bN hΩ hH fun kk st2 hk2 hs2 => cv ?_
 exact sp h
 refine dP (aU hΩ (cO hE) (l := a) b) (cv ?_)
 refine aN hΩ (cv ?_)
 replace h := aQ h
 obtain ⟨kT, i, h⟩ := h
 refine aH hΩ ((fun (q : (List Expr)) => (match q with | kT => ([(2, PV.row 0 1 (ln kT))], ([X.Obj.row 126 10 (E.bL l1) true none, X.Obj.row 126 10 (E.bL kT) true none] : List X.Obj) :: st))) kT) (fun k hk => ?_) ?_
 clear h
 have h := i
 clear i
 refine cv ?_
 refine dA hΩ (cO hE) fun l18 y => cv ?_
 refine sat_true (gX hΩ _) (cv ?_)
 refine sat_true (bA hΩ (cO hE) a) (cv ?_)
 refine sat_true (bB hΩ (cO hE) ([] : List Expr)) (cv ?_)
 replace h := yQ h
 rcases h with ⟨j, h⟩ | ⟨j, h⟩
 refine dV (aU hΩ (cO hE) (l := a) j) (cv ?_)
 exact fk h hk
 refine dP (aU hΩ (cO hE) (l := a) j) (cv ?_)
 refine fK hΩ (cO hE) ([] : List Expr) a fun l21 z n23 a1 => cv ?_
 replace h := dZ h
 obtain ⟨o, h⟩ := h
 refine fJ o (cv ?_)
 exact fk h hk
 clear i
 try dsimp only at h
 obtain ⟨xu, iY⟩ : ∃ n, ln kT = n := ⟨_, rfl⟩
 simp only [iY]
 refine cv ?_
 refine bN hΩ hH fun kk st2 hk2 hs2 => cv ?_
 exact sp h
theorem afq {a0 : Sl Expr} {a1 : (Expr → Option (Expr))} {jQ : Nat} (hf : ∀ {x0 : Expr} {r : Expr}, a1 x0 = some r → ∀ {args : List PV}, [iy E x0] = args → ∀ (st : St), Sat (Ω.cf jQ args st) (fun q => q = (iy E r, st))) {r : (Sl Expr)} (h : Zb fu a0 a1 = some r) {args : List PV} (ha : [PV.d (.sl (E.bL a0.l) (E.bS a0.x)), PV.d (.fn jQ [])] = args) (st : St) :
 Sat (Ω.cf 131 args st) (fun q => q = (PV.d (.sl (E.bL r.l) (E.bS r.x)), st)) := by
 subst ha
 rcases a0 with ⟨a7, a8⟩
 rw [aC hΩ (f := 131) (fn := Try.f131) rfl rfl rfl rfl rfl rfl]
 unfold Zb at h
 try dsimp only at h
 refine cv ?_
 replace h := aQ h
 obtain ⟨r2, g, h⟩ := h
 obtain ⟨n3, i⟩ : ∃ n, ln r2 = n := ⟨_, rfl⟩
 refine bC (afp hΩ hE (st := nO :: st) g (by (try clear h); subst_vars; rfl) rfl i) (cv ?_)
 replace h := aQ h
 obtain ⟨q, b, h⟩ := h
 refine bK hΩ (fun (a : (List Expr) × Int) => (match a with | (l5, i6) => ([(1, PV.d (.fn jQ [])), (4, PV.d (.sl [] (some []))), (5, PV.row 0 0 (ln l5)), (10, PV.row 0 0 (ln l5)), (11, vi n3), (12, vi i6)], ([X.Obj.row 126 10 (E.bL l5) true none] : List X.Obj) :: st))) (fun (q : ((List Expr) × Int)) => (match q with | (fq, kg) => (.exit 0, [(1, PV.d (.fn jQ [])), (4, PV.d (.sl [] (some []))), (5, PV.row 0 0 (ln fq)), (10, PV.row 0 0 (ln fq)), (11, vi n3), (12, vi kg)], ([X.Obj.row 126 10 (E.bL fq) true none] : List X.Obj) :: st))) (r2, 0) b ?_ ?_
 clear h b
 rintro ⟨l5, i6⟩ q h
 unfold BN at h
 dsimp only at h
 obtain ⟨Gu, mV⟩ : ∃ n, ln l5 = n := ⟨_, rfl⟩
 simp only [mV]
 refine cv ?_
 refine aN hΩ (cv ?_)
 revert h; refine bQ (fun j h => cv ?_) fun j h => cv ?_
 refine sat_true (bB hΩ (cO hE) l5) (cv ?_)
 replace h := aQ h
 obtain ⟨⟨a9, b0, b1, ⟨b2, b3⟩, ⟨b4, b5⟩, ⟨b6, b7⟩, b8, ⟨b9, c0⟩, ⟨c1, c2⟩, c3⟩, c, h⟩ := h
 try dsimp only at h
 refine ay (aW hΩ (cO hE) c) (cv ?_)
 refine sat_true (bB hΩ (cO hE) l5) (cv ?_)
 refine ay (aW hΩ (cO hE) c) (cv ?_)
 replace h := aQ h
 obtain ⟨⟨k, m, o, ⟨p, s⟩, ⟨t, u⟩, ⟨v, w⟩, y, ⟨z, a2⟩, ⟨a3, a4⟩, a5⟩, a6, h⟩ := h
 try dsimp only at h
 refine av (hf a6) (cv ?_)
 refine sat_true (bB hΩ (cO hE) l5) (cv ?_)
 replace h := aQ h
 obtain ⟨⟨c4, c5, c6, ⟨c7, c8⟩, ⟨c9, d0⟩, ⟨d1, d2⟩, d3, ⟨d4, d5⟩, ⟨d6, d7⟩, d8⟩, e, h⟩ := h
 try dsimp only at h
 refine ay (aW hΩ (cO hE) e) (cv ?_)
 refine sat_true (bB hΩ (cO hE) l5) (cv ?_)
 refine ay (aW hΩ (cO hE) e) (cv ?_)
 refine jP hΩ (cO hE) l5 i6 (Expr.mk k m o (Sl.mk p s) (Sl.mk t u) (Sl.mk v w) y (Sl.mk z a2) (Sl.mk a3 a4) a5) fun jJ d9 => cv ?_
 obtain rfl := fZ h
 subst_vars
 exact s3
 obtain rfl := fZ h
 subst_vars
 exact sL
 clear b
 rcases q with ⟨fq, kg⟩
 dsimp only at h
 obtain ⟨zU, jR⟩ : ∃ n, ln fq = n := ⟨_, rfl⟩
 simp only [jR]
 refine cv ?_
 refine sat_true (bB hΩ (cO hE) fq) (cv ?_)
 exact sp h
theorem afr {a0 : Sl ByteArray} {r : (List ByteArray)} (h : Zc fu a0 = some r) {args : List PV} (ha : [PV.d (.sl (E.iO a0.l) (E.jV a0.x))] = args) {st : St} (hH : X.fQ st 0 = true) {n : Int} (hn : ln r = n) :
 Sat (Ω.cf 124 args st) (fun q => q = (PV.row 0 (X.dD st 0) n, X.iQ st 0 (X.Obj.row 9 1 (E.iO r) true none))) := by
 subst ha
 rcases a0 with ⟨a, p⟩
 rw [aC hΩ (f := 124) (fn := Try.f124) rfl rfl rfl rfl rfl rfl]
 unfold Zc at h
 try dsimp only at h
 refine cv ?_
 refine dA hΩ (fI hE) fun l1 s => cv ?_
 refine aN hΩ (cv ?_)
 replace h := yQ h
 rcases h with ⟨b, h⟩ | ⟨b, h⟩
 refine dV (aU hΩ (fI hE) (l := a) b) (cv ?_)
 obtain ⟨ha16, c⟩ := gB h
 clear h
 refine nG hΩ ?_ ?_
 clear c
 have h := ha16
 clear ha16
 refine cv ?_
 refine dA hΩ (fI hE) fun l4 t => cv ?_
 refine bN hΩ hH fun kk st2 hk2 hs2 => cv ?_
 exact sp h
 clear ha16
 have h := c
 clear c
 refine cv ?_
 replace h := aQ h
 obtain ⟨jJ, e, h⟩ := h
 refine aH hΩ ((fun (q : (List ByteArray)) => (match q with | jJ => ([(2, PV.row 0 1 (ln jJ))], ([X.Obj.row 9 1 (E.iO l1) true none, X.Obj.row 9 1 (E.iO jJ) true none] : List X.Obj) :: st))) jJ) (fun k hk => ?_) ?_
 clear h
 have h := e
 clear e
 refine cv ?_
 refine dA hΩ (fI hE) fun l6 u => cv ?_
 refine sat_true (gX hΩ _) (cv ?_)
 refine sat_true (bA hΩ (fI hE) a) (cv ?_)
 refine sat_true (bB hΩ (fI hE) ([] : List ByteArray)) (cv ?_)
 replace h := yQ h
 rcases h with ⟨g, h⟩ | ⟨g, h⟩
 refine dV (aU hΩ (fI hE) (l := a) g) (cv ?_)
 exact fk h hk
 refine dP (aU hΩ (fI hE) (l := a) g) (cv ?_)
 refine fK hΩ (fI hE) ([] : List ByteArray) a fun l9 v n11 w => cv ?_
 replace h := dZ h
 obtain ⟨m, h⟩ := h
 refine fJ m (cv ?_)
 exact fk h hk
 clear e
 try dsimp only at h
 obtain ⟨xq, iX⟩ : ∃ n, ln jJ = n := ⟨_, rfl⟩
 simp only [iX]
 refine cv ?_
 refine bN hΩ hH fun kk st2 hk2 hs2 => cv ?_
 exact sp h
 refine dP (aU hΩ (fI hE) (l := a) b) (cv ?_)
 refine aN hΩ (cv ?_)
 replace h := aQ h
 obtain ⟨kT, i, h⟩ := h
 refine aH hΩ ((fun (q : (List ByteArray)) => (match q with | kT => ([(2, PV.row 0 1 (ln kT))], ([X.Obj.row 9 1 (E.iO l1) true none, X.Obj.row 9 1 (E.iO kT) true none] : List X.Obj) :: st))) kT) (fun k hk => ?_) ?_
 clear h
 have h := i
 clear i
 refine cv ?_
 refine dA hΩ (fI hE) fun l18 y => cv ?_
 refine sat_true (gX hΩ _) (cv ?_)
 refine sat_true (bA hΩ (fI hE) a) (cv ?_)
 refine sat_true (bB hΩ (fI hE) ([] : List ByteArray)) (cv ?_)
 replace h := yQ h
 rcases h with ⟨j, h⟩ | ⟨j, h⟩
 refine dV (aU hΩ (fI hE) (l := a) j) (cv ?_)
 exact fk h hk
 refine dP (aU hΩ (fI hE) (l := a) j) (cv ?_)
 refine fK hΩ (fI hE) ([] : List ByteArray) a fun l21 z n23 a1 => cv ?_
 replace h := dZ h
 obtain ⟨o, h⟩ := h
 refine fJ o (cv ?_)
 exact fk h hk
 clear i
 try dsimp only at h
 obtain ⟨xu, iY⟩ : ∃ n, ln kT = n := ⟨_, rfl⟩
 simp only [iY]
 refine cv ?_
 refine bN hΩ hH fun kk st2 hk2 hs2 => cv ?_
 exact sp h
def ZE (Ω : Om) (E : Enc) (tF : (Sl Act) → Option ((Sl Act))) : Prop := ∀ {a0 : Sl Act} {r : (Sl Act)}, tF a0 = some r → ∀ {args : List PV}, [PV.d (.sl (E.dF a0.l) (E.dQ a0.x))] = args → ∀ (st : St), Sat (Ω.cf 104 args st) (fun q => q = (PV.d (.sl (E.dF r.l) (E.dQ r.x)), st))
def ZF (Ω : Om) (E : Enc) (tH : Act → Option (Act)) : Prop := ∀ {a0 : Act} {r : Act}, tH a0 = some r → ∀ {args : List PV}, [jG E a0] = args → ∀ (st : St), Sat (Ω.cf 116 args st) (fun q => q = (jG E r, st))
def ZG (Ω : Om) (E : Enc) (sO : Expr → Option (Expr)) : Prop := ∀ {a0 : Expr} {r : Expr}, sO a0 = some r → ∀ {args : List PV}, [iy E a0] = args → ∀ (st : St), Sat (Ω.cf 117 args st) (fun q => q = (iy E r, st))
def ZH (Ω : Om) (E : Enc) (rC : (Sl Expr) → Option ((Sl Expr))) : Prop := ∀ {a0 : Sl Expr} {r : (Sl Expr)}, rC a0 = some r → ∀ {args : List PV}, [PV.d (.sl (E.bL a0.l) (E.bS a0.x))] = args → ∀ (st : St), Sat (Ω.cf 123 args st) (fun q => q = (PV.d (.sl (E.bL r.l) (E.bS r.x)), st))
theorem acD {tF : (Sl Act) → Option ((Sl Act))} (Qy : ZE Ω E tF) {tH : Act → Option (Act)} (Qz : ZF Ω E tH) {sO : Expr → Option (Expr)} (Mx : ZG Ω E sO) {rC : (Sl Expr) → Option ((Sl Expr))} (Gv : ZH Ω E rC) {a0 : Sl Act} {r : (Sl Act)} (h : Qg fu tF tH sO rC a0 = some r) {args : List PV} (ha : [PV.d (.sl (E.dF a0.l) (E.dQ a0.x))] = args) (st : St) :
 Sat (Ω.cf 104 args st) (fun q => q = (PV.d (.sl (E.dF r.l) (E.dQ r.x)), st)) := by
 subst ha
 rcases a0 with ⟨b, c⟩
 rw [aC hΩ (f := 104) (fn := Try.f104) rfl rfl rfl rfl rfl rfl]
 unfold Qg at h
 try dsimp only at h
 refine cv ?_
 replace h := aQ h
 obtain ⟨⟨e, g⟩, a, h⟩ := h
 try dsimp only at h
 refine bC (afo hΩ hE (hf := fun h => @fun args ha st => Qz h ha st) a (by (try clear h); subst_vars; rfl) _) (cv ?_)
 exact sp h
theorem acE {tF : (Sl Act) → Option ((Sl Act))} (Qy : ZE Ω E tF) {tH : Act → Option (Act)} (Qz : ZF Ω E tH) {sO : Expr → Option (Expr)} (Mx : ZG Ω E sO) {rC : (Sl Expr) → Option ((Sl Expr))} (Gv : ZH Ω E rC) {a0 : Act} {r : Act} (h : Qh fu tF tH sO rC a0 = some r) {args : List PV} (ha : [jG E a0] = args) (st : St) :
 Sat (Ω.cf 116 args st) (fun q => q = (jG E r, st)) := by
 subst ha
 rcases a0 with ⟨b, c, ⟨d, e, g, ⟨i, j⟩, ⟨k, l⟩, ⟨m, n⟩, o, ⟨p, s⟩, ⟨t, u⟩, v⟩⟩
 rw [aC hΩ (f := 116) (fn := Try.f116) rfl rfl rfl rfl rfl rfl]
 unfold Qh at h
 try dsimp only at h
 refine cv ?_
 replace h := aQ h
 obtain ⟨⟨w, x, y, ⟨z, a1⟩, ⟨a2, a3⟩, ⟨a4, a5⟩, a6, ⟨a7, a8⟩, ⟨a9, b0⟩, b1⟩, a, h⟩ := h
 try dsimp only at h
 refine av (Mx a) (cv ?_)
 exact sp h
theorem acF {tF : (Sl Act) → Option ((Sl Act))} (Qy : ZE Ω E tF) {tH : Act → Option (Act)} (Qz : ZF Ω E tH) {sO : Expr → Option (Expr)} (Mx : ZG Ω E sO) {rC : (Sl Expr) → Option ((Sl Expr))} (Gv : ZH Ω E rC) {a0 : Expr} {r : Expr} (h : Qi fu tF tH sO rC a0 = some r) {args : List PV} (ha : [iy E a0] = args) (st : St) :
 Sat (Ω.cf 117 args st) (fun q => q = (iy E r, st)) := by
 subst ha
 rcases a0 with ⟨a, b, c, ⟨e, g⟩, ⟨i, j⟩, ⟨k, l⟩, m, ⟨o, p⟩, ⟨s, t⟩, u⟩
 rw [kJ hΩ (f := 117) (fn := Try.f117) (x := Uy) rfl rfl Lp rfl rfl rfl]
 unfold Qi at h
 try dsimp only at h
 refine cv ?_
 replace h := aQ h
 obtain ⟨⟨a3, a4⟩, v, h⟩ := h
 try dsimp only at h
 refine av (Gv v) (cv ?_)
 refine sat_true (dL hΩ _) (cv ?_)
 replace h := aQ h
 obtain ⟨⟨a5, a6⟩, w, h⟩ := h
 try dsimp only at h
 refine av (Gv w) (cv ?_)
 refine sat_true (dL hΩ _) (cv ?_)
 replace h := aQ h
 obtain ⟨⟨a7, a8⟩, y, h⟩ := h
 try dsimp only at h
 refine av (Gv y) (cv ?_)
 refine sat_true (dL hΩ _) (cv ?_)
 replace h := aQ h
 obtain ⟨r8, z, h⟩ := h
 obtain ⟨n9, a1⟩ : ∃ n, ln r8 = n := ⟨_, rfl⟩
 refine bC (afr hΩ hE (st := ([X.Obj.box 126 (zP7 E a b c e g i j k l m o p s t u), X.Obj.box 126 [.d (.int .u8 0), .d (.int .i64 0), .d (.str ByteArray.empty), .d (.sl [] (some [])), .d (.sl [] (some [])), .d (.sl [] (some [])), .d (.int .u8 0), .d (.sl [] (some [])), .d (.sl [] (some [])), .d (.str ByteArray.empty)]] : List X.Obj) :: st) z (by (try clear h); subst_vars; rfl) rfl a1) (cv ?_)
 refine sat_true (bB hΩ (fI hE) r8) (cv ?_)
 refine sat_true (dL hΩ _) (cv ?_)
 refine ah hΩ (cv ?_)
 replace h := aQ h
 obtain ⟨⟨a9, b0⟩, a2, h⟩ := h
 try dsimp only at h
 refine av (Qy a2) (cv ?_)
 refine sat_true (dL hΩ _) (cv ?_)
 refine ah hΩ (cv ?_)
 exact sp h
theorem acG {tF : (Sl Act) → Option ((Sl Act))} (Qy : ZE Ω E tF) {tH : Act → Option (Act)} (Qz : ZF Ω E tH) {sO : Expr → Option (Expr)} (Mx : ZG Ω E sO) {rC : (Sl Expr) → Option ((Sl Expr))} (Gv : ZH Ω E rC) {a0 : Sl Expr} {r : (Sl Expr)} (h : Qj fu tF tH sO rC a0 = some r) {args : List PV} (ha : [PV.d (.sl (E.bL a0.l) (E.bS a0.x))] = args) (st : St) :
 Sat (Ω.cf 123 args st) (fun q => q = (PV.d (.sl (E.bL r.l) (E.bS r.x)), st)) := by
 subst ha
 rcases a0 with ⟨b, c⟩
 rw [aC hΩ (f := 123) (fn := Try.f123) rfl rfl rfl rfl rfl rfl]
 unfold Qj at h
 try dsimp only at h
 refine cv ?_
 replace h := aQ h
 obtain ⟨⟨e, g⟩, a, h⟩ := h
 try dsimp only at h
 refine bC (afq hΩ hE (hf := fun h => @fun args ha st => Mx h ha st) a (by (try clear h); subst_vars; rfl) _) (cv ?_)
 exact sp h
theorem acH : ∀ fu,
 (∀ {a0 : Sl Act} {r : (Sl Act)}, Bj fu a0 = some r → ∀ {args : List PV}, [PV.d (.sl (E.dF a0.l) (E.dQ a0.x))] = args → ∀ (st : St), Sat (Ω.cf 104 args st) (fun q => q = (PV.d (.sl (E.dF r.l) (E.dQ r.x)), st))) ∧
 (∀ {a0 : Act} {r : Act}, Ow fu a0 = some r → ∀ {args : List PV}, [jG E a0] = args → ∀ (st : St), Sat (Ω.cf 116 args st) (fun q => q = (jG E r, st))) ∧
 (∀ {a0 : Expr} {r : Expr}, El fu a0 = some r → ∀ {args : List PV}, [iy E a0] = args → ∀ (st : St), Sat (Ω.cf 117 args st) (fun q => q = (iy E r, st))) ∧
 (∀ {a0 : Sl Expr} {r : (Sl Expr)}, Ox fu a0 = some r → ∀ {args : List PV}, [PV.d (.sl (E.bL a0.l) (E.bS a0.x))] = args → ∀ (st : St), Sat (Ω.cf 123 args st) (fun q => q = (PV.d (.sl (E.bL r.l) (E.bS r.x)), st))) := by
 intro fu
 induction fu with
 | zero => exact ⟨(fun h => (by cases h)), (fun h => (by cases h)), (fun h => (by cases h)), (fun h => (by cases h))⟩
 | succ fu ih =>
  obtain ⟨ZI, ZJ, i117, ZK⟩ := ih
  exact ⟨(fun h => @fun args ha st => acD (fu := fu) hΩ hE ZI ZJ i117 ZK h ha st), (fun h => @fun args ha st => acE (fu := fu) hΩ hE ZI ZJ i117 ZK h ha st), (fun h => @fun args ha st => acF (fu := fu) hΩ hE ZI ZJ i117 ZK h ha st), (fun h => @fun args ha st => acG (fu := fu) hΩ hE ZI ZJ i117 ZK h ha st)⟩
theorem VI : ∀ {a0 : Sl Act} {r : (Sl Act)}, Bj fu a0 = some r → ∀ {args : List PV}, [PV.d (.sl (E.dF a0.l) (E.dQ a0.x))] = args → ∀ (st : St), Sat (Ω.cf 104 args st) (fun q => q = (PV.d (.sl (E.dF r.l) (E.dQ r.x)), st)) := (acH hΩ hE fu).1
theorem ahc {a0 : Cell} {r : Cell} (h : P86 fu a0 = some r) {args : List PV} (ha : [sM E a0] = args) (st : St) :
 Sat (Ω.cf 86 args st) (fun q => q = (sM E r, st)) := by
 subst ha
 rcases a0 with ⟨k, l, ⟨m, n, o, ⟨p, s⟩, ⟨t, u⟩, v, w, x⟩, ⟨y, z, a1, ⟨a2, a3⟩, ⟨a4, a5⟩, a6, a7, a8⟩, ⟨a9, b0⟩, ⟨b1, b2⟩, ⟨b3, b4⟩, ⟨b5, b6⟩, b7, b8, ⟨b9, c0⟩, ⟨c1, c2⟩⟩
 rw [aC hΩ (f := 86) (fn := Try.f86) rfl rfl rfl rfl rfl rfl]
 unfold P86 at h
 try dsimp only at h
 refine cv ?_
 replace h := aQ h
 obtain ⟨⟨c3, c4, c5, ⟨c6, c7⟩, ⟨c8, c9⟩, d0, d1, d2⟩, a, h⟩ := h
 try dsimp only at h
 refine av (ZC hΩ hE a) (cv ?_)
 refine sat_true (dL hΩ _) (cv ?_)
 replace h := aQ h
 obtain ⟨⟨d3, d4, d5, ⟨d6, d7⟩, ⟨d8, d9⟩, e0, e3, e4⟩, b, h⟩ := h
 try dsimp only at h
 refine av (ZC hΩ hE b) (cv ?_)
 refine sat_true (dL hΩ _) (cv ?_)
 replace h := aQ h
 obtain ⟨⟨e5, e6⟩, c, h⟩ := h
 try dsimp only at h
 refine av (ag9 hΩ hE c) (cv ?_)
 refine sat_true (dL hΩ _) (cv ?_)
 refine ah hΩ (cv ?_)
 replace h := aQ h
 obtain ⟨⟨e7, e8⟩, d, h⟩ := h
 try dsimp only at h
 refine av (VI hΩ hE d) (cv ?_)
 refine sat_true (dL hΩ _) (cv ?_)
 replace h := aQ h
 obtain ⟨⟨e9, f0⟩, e, h⟩ := h
 try dsimp only at h
 refine av (VI hΩ hE e) (cv ?_)
 refine sat_true (dL hΩ _) (cv ?_)
 replace h := aQ h
 obtain ⟨⟨f1, f2⟩, g, h⟩ := h
 try dsimp only at h
 refine av (VI hΩ hE g) (cv ?_)
 refine sat_true (dL hΩ _) (cv ?_)
 refine ah hΩ (cv ?_)
 replace h := aQ h
 obtain ⟨⟨f3, f4⟩, i, h⟩ := h
 try dsimp only at h
 refine av (afl hΩ hE i) (cv ?_)
 refine sat_true (dL hΩ _) (cv ?_)
 replace h := aQ h
 obtain ⟨⟨f5, f6⟩, j, h⟩ := h
 try dsimp only at h
 refine av (afl hΩ hE j) (cv ?_)
 refine sat_true (dL hΩ _) (cv ?_)
 exact sp h
theorem ahd {a0 : Sl Cell} {r : (Sl Cell)} (h : P63 fu a0 = some r) {args : List PV} (ha : [PV.d (.sl (E.eH a0.l) (E.gH a0.x))] = args) (st : St) :
 Sat (Ω.cf 63 args st) (fun q => q = (PV.d (.sl (E.eH r.l) (E.gH r.x)), st)) := by
 subst ha
 rcases a0 with ⟨b, c⟩
 rw [aC hΩ (f := 63) (fn := Try.f63) rfl rfl rfl rfl rfl rfl]
 unfold P63 at h
 try dsimp only at h
 refine cv ?_
 replace h := aQ h
 obtain ⟨⟨e, g⟩, a, h⟩ := h
 try dsimp only at h
 refine bC (ahb hΩ hE (hf := fun h => @fun args ha st => ahc hΩ hE h ha st) a (by (try clear h); subst_vars; rfl) _) (cv ?_)
 exact sp h
theorem ahe {a0 : Sl Child} {r : (List Child)} (h : P97 fu a0 = some r) {args : List PV} (ha : [PV.d (.sl (E.dJ a0.l) (E.eP a0.x))] = args) {st : St} (hH : X.fQ st 0 = true) {n : Int} (hn : ln r = n) :
 Sat (Ω.cf 97 args st) (fun q => q = (PV.row 0 (X.dD st 0) n, X.iQ st 0 (X.Obj.row 29 11 (E.dJ r) true none))) := by
 subst ha
 rcases a0 with ⟨a, p⟩
 rw [aC hΩ (f := 97) (fn := Try.f97) rfl rfl rfl rfl rfl rfl]
 unfold P97 at h
 try dsimp only at h
 refine cv ?_
 refine dA hΩ (bM hE) fun l1 s => cv ?_
 refine aN hΩ (cv ?_)
 replace h := yQ h
 rcases h with ⟨b, h⟩ | ⟨b, h⟩
 refine dV (aU hΩ (bM hE) (l := a) b) (cv ?_)
 obtain ⟨ha16, c⟩ := gB h
 clear h
 refine nG hΩ ?_ ?_
 clear c
 have h := ha16
 clear ha16
 refine cv ?_
 refine dA hΩ (bM hE) fun l4 t => cv ?_
 refine bN hΩ hH fun kk st2 hk2 hs2 => cv ?_
 exact sp h
 clear ha16
 have h := c
 clear c
 refine cv ?_
 replace h := aQ h
 obtain ⟨jJ, e, h⟩ := h
 refine aH hΩ ((fun (q : (List Child)) => (match q with | jJ => ([(2, PV.row 0 1 (ln jJ))], ([X.Obj.row 29 11 (E.dJ l1) true none, X.Obj.row 29 11 (E.dJ jJ) true none] : List X.Obj) :: st))) jJ) (fun k hk => ?_) ?_
 clear h
 have h := e
 clear e
 refine cv ?_
 refine dA hΩ (bM hE) fun l6 u => cv ?_
 refine sat_true (gX hΩ _) (cv ?_)
 refine sat_true (bA hΩ (bM hE) a) (cv ?_)
 refine sat_true (bB hΩ (bM hE) ([] : List Child)) (cv ?_)
 replace h := yQ h
 rcases h with ⟨g, h⟩ | ⟨g, h⟩
 refine dV (aU hΩ (bM hE) (l := a) g) (cv ?_)
 exact fk h hk
 refine dP (aU hΩ (bM hE) (l := a) g) (cv ?_)
 refine fK hΩ (bM hE) ([] : List Child) a fun l9 v n11 w => cv ?_
 replace h := dZ h
 obtain ⟨m, h⟩ := h
 refine fJ m (cv ?_)
 exact fk h hk
 clear e
 try dsimp only at h
 obtain ⟨xq, iX⟩ : ∃ n, ln jJ = n := ⟨_, rfl⟩
 simp only [iX]
 refine cv ?_
 refine bN hΩ hH fun kk st2 hk2 hs2 => cv ?_
 exact sp h
 refine dP (aU hΩ (bM hE) (l := a) b) (cv ?_)
 refine aN hΩ (cv ?_)
 replace h := aQ h
 obtain ⟨kT, i, h⟩ := h
 refine aH hΩ ((fun (q : (List Child)) => (match q with | kT => ([(2, PV.row 0 1 (ln kT))], ([X.Obj.row 29 11 (E.dJ l1) true none, X.Obj.row 29 11 (E.dJ kT) true none] : List X.Obj) :: st))) kT) (fun k hk => ?_) ?_
 clear h
 have h := i
 clear i
 refine cv ?_
 refine dA hΩ (bM hE) fun l18 y => cv ?_
 refine sat_true (gX hΩ _) (cv ?_)
 refine sat_true (bA hΩ (bM hE) a) (cv ?_)
 refine sat_true (bB hΩ (bM hE) ([] : List Child)) (cv ?_)
 replace h := yQ h
 rcases h with ⟨j, h⟩ | ⟨j, h⟩
 refine dV (aU hΩ (bM hE) (l := a) j) (cv ?_)
 exact fk h hk
 refine dP (aU hΩ (bM hE) (l := a) j) (cv ?_)
 refine fK hΩ (bM hE) ([] : List Child) a fun l21 z n23 a1 => cv ?_
 replace h := dZ h
 obtain ⟨o, h⟩ := h
 refine fJ o (cv ?_)
 exact fk h hk
 clear i
 try dsimp only at h
 obtain ⟨xu, iY⟩ : ∃ n, ln kT = n := ⟨_, rfl⟩
 simp only [iY]
 refine cv ?_
 refine bN hΩ hH fun kk st2 hk2 hs2 => cv ?_
 exact sp h
theorem ahf {a0 : Sl Child} {a1 : (Child → Option (Child))} {jQ : Nat} (hf : ∀ {x0 : Child} {r : Child}, a1 x0 = some r → ∀ {args : List PV}, [oU E x0] = args → ∀ (st : St), Sat (Ω.cf jQ args st) (fun q => q = (oU E r, st))) {r : (Sl Child)} (h : P87 fu a0 a1 = some r) {args : List PV} (ha : [PV.d (.sl (E.dJ a0.l) (E.eP a0.x)), PV.d (.fn jQ [])] = args) (st : St) :
 Sat (Ω.cf 87 args st) (fun q => q = (PV.d (.sl (E.dJ r.l) (E.eP r.x)), st)) := by
 subst ha
 rcases a0 with ⟨a5, a6⟩
 rw [aC hΩ (f := 87) (fn := Try.f87) rfl rfl rfl rfl rfl rfl]
 unfold P87 at h
 try dsimp only at h
 refine cv ?_
 replace h := aQ h
 obtain ⟨r2, g, h⟩ := h
 obtain ⟨n3, i⟩ : ∃ n, ln r2 = n := ⟨_, rfl⟩
 refine bC (ahe hΩ hE (st := nO :: st) g (by (try clear h); subst_vars; rfl) rfl i) (cv ?_)
 replace h := aQ h
 obtain ⟨q, b, h⟩ := h
 refine bK hΩ (fun (a : (List Child) × Int) => (match a with | (l5, i6) => ([(1, PV.d (.fn jQ [])), (4, PV.d (.sl [] (some []))), (5, PV.row 0 0 (ln l5)), (10, PV.row 0 0 (ln l5)), (11, vi n3), (12, vi i6)], ([X.Obj.row 29 11 (E.dJ l5) true none] : List X.Obj) :: st))) (fun (q : ((List Child) × Int)) => (match q with | (fq, kg) => (.exit 0, [(1, PV.d (.fn jQ [])), (4, PV.d (.sl [] (some []))), (5, PV.row 0 0 (ln fq)), (10, PV.row 0 0 (ln fq)), (11, vi n3), (12, vi kg)], ([X.Obj.row 29 11 (E.dJ fq) true none] : List X.Obj) :: st))) (r2, 0) b ?_ ?_
 clear h b
 rintro ⟨l5, i6⟩ q h
 unfold Jp at h
 dsimp only at h
 obtain ⟨Gu, mV⟩ : ∃ n, ln l5 = n := ⟨_, rfl⟩
 simp only [mV]
 refine cv ?_
 refine aN hΩ (cv ?_)
 revert h; refine bQ (fun j h => cv ?_) fun j h => cv ?_
 refine sat_true (bB hΩ (bM hE) l5) (cv ?_)
 replace h := aQ h
 obtain ⟨⟨a7, a8, a9, ⟨b0, b1, b2, ⟨b3, b4⟩, ⟨b5, b6⟩, b7, b8, b9⟩⟩, c, h⟩ := h
 try dsimp only at h
 refine ay (aW hΩ (bM hE) c) (cv ?_)
 refine sat_true (bB hΩ (bM hE) l5) (cv ?_)
 refine ay (aW hΩ (bM hE) c) (cv ?_)
 replace h := aQ h
 obtain ⟨⟨k, m, o, ⟨p, s, t, ⟨u, v⟩, ⟨w, y⟩, z, a2, a3⟩⟩, a4, h⟩ := h
 try dsimp only at h
 refine av (hf a4) (cv ?_)
 refine sat_true (bB hΩ (bM hE) l5) (cv ?_)
 replace h := aQ h
 obtain ⟨⟨c0, c1, c2, ⟨c3, c4, c5, ⟨c6, c7⟩, ⟨c8, c9⟩, d0, d1, d2⟩⟩, e, h⟩ := h
 try dsimp only at h
 refine ay (aW hΩ (bM hE) e) (cv ?_)
 refine sat_true (bB hΩ (bM hE) l5) (cv ?_)
 refine ay (aW hΩ (bM hE) e) (cv ?_)
 refine jP hΩ (bM hE) l5 i6 (Child.mk k m o (Value.mk p s t (Sl.mk u v) (Sl.mk w y) z a2 a3)) fun jJ d3 => cv ?_
 obtain rfl := fZ h
 subst_vars
 exact s3
 obtain rfl := fZ h
 subst_vars
 exact sL
 clear b
 rcases q with ⟨fq, kg⟩
 dsimp only at h
 obtain ⟨zU, jR⟩ : ∃ n, ln fq = n := ⟨_, rfl⟩
 simp only [jR]
 refine cv ?_
 refine sat_true (bB hΩ (bM hE) fq) (cv ?_)
 exact sp h
theorem ahg {a0 : Sl Child} {r : (Sl Child)} (h : P64 fu a0 = some r) {args : List PV} (ha : [PV.d (.sl (E.dJ a0.l) (E.eP a0.x))] = args) (st : St) :
 Sat (Ω.cf 64 args st) (fun q => q = (PV.d (.sl (E.dJ r.l) (E.eP r.x)), st)) := by
 subst ha
 rcases a0 with ⟨b, c⟩
 rw [aC hΩ (f := 64) (fn := Try.f64) rfl rfl rfl rfl rfl rfl]
 unfold P64 at h
 try dsimp only at h
 refine cv ?_
 replace h := aQ h
 obtain ⟨⟨e, g⟩, a, h⟩ := h
 try dsimp only at h
 refine bC (ahf hΩ hE (hf := fun h => @fun args ha st => afm hΩ hE h ha st) a (by (try clear h); subst_vars; rfl) _) (cv ?_)
 exact sp h
theorem ahh {a0 : Sl Inst} {r : (List Inst)} (h : P34 fu a0 = some r) {args : List PV} (ha : [PV.d (.sl (E.au a0.l) (E.aD a0.x))] = args) {st : St} (hH : X.fQ st 0 = true) {n : Int} (hn : ln r = n) :
 Sat (Ω.cf 34 args st) (fun q => q = (PV.row 0 (X.dD st 0) n, X.iQ st 0 (X.Obj.row 34 31 (E.au r) true none))) := by
 subst ha
 rcases a0 with ⟨a, p⟩
 rw [aC hΩ (f := 34) (fn := Try.f34) rfl rfl rfl rfl rfl rfl]
 unfold P34 at h
 try dsimp only at h
 refine cv ?_
 refine dA hΩ (ak hE) fun l1 s => cv ?_
 refine aN hΩ (cv ?_)
 replace h := yQ h
 rcases h with ⟨b, h⟩ | ⟨b, h⟩
 refine dV (aU hΩ (ak hE) (l := a) b) (cv ?_)
 obtain ⟨ha16, c⟩ := gB h
 clear h
 refine nG hΩ ?_ ?_
 clear c
 have h := ha16
 clear ha16
 refine cv ?_
 refine dA hΩ (ak hE) fun l4 t => cv ?_
 refine bN hΩ hH fun kk st2 hk2 hs2 => cv ?_
 exact sp h
 clear ha16
 have h := c
 clear c
 refine cv ?_
 replace h := aQ h
 obtain ⟨jJ, e, h⟩ := h
 refine aH hΩ ((fun (q : (List Inst)) => (match q with | jJ => ([(2, PV.row 0 1 (ln jJ))], ([X.Obj.row 34 31 (E.au l1) true none, X.Obj.row 34 31 (E.au jJ) true none] : List X.Obj) :: st))) jJ) (fun k hk => ?_) ?_
 clear h
 have h := e
 clear e
 refine cv ?_
 refine dA hΩ (ak hE) fun l6 u => cv ?_
 refine sat_true (gX hΩ _) (cv ?_)
 refine sat_true (bA hΩ (ak hE) a) (cv ?_)
 refine sat_true (bB hΩ (ak hE) ([] : List Inst)) (cv ?_)
 replace h := yQ h
 rcases h with ⟨g, h⟩ | ⟨g, h⟩
 refine dV (aU hΩ (ak hE) (l := a) g) (cv ?_)
 exact fk h hk
 refine dP (aU hΩ (ak hE) (l := a) g) (cv ?_)
 refine fK hΩ (ak hE) ([] : List Inst) a fun l9 v n11 w => cv ?_
 replace h := dZ h
 obtain ⟨m, h⟩ := h
 refine fJ m (cv ?_)
 exact fk h hk
 clear e
 try dsimp only at h
 obtain ⟨xq, iX⟩ : ∃ n, ln jJ = n := ⟨_, rfl⟩
 simp only [iX]
 refine cv ?_
 refine bN hΩ hH fun kk st2 hk2 hs2 => cv ?_
 exact sp h
 refine dP (aU hΩ (ak hE) (l := a) b) (cv ?_)
 refine aN hΩ (cv ?_)
 replace h := aQ h
 obtain ⟨kT, i, h⟩ := h
 refine aH hΩ ((fun (q : (List Inst)) => (match q with | kT => ([(2, PV.row 0 1 (ln kT))], ([X.Obj.row 34 31 (E.au l1) true none, X.Obj.row 34 31 (E.au kT) true none] : List X.Obj) :: st))) kT) (fun k hk => ?_) ?_
 clear h
 have h := i
 clear i
 refine cv ?_
 refine dA hΩ (ak hE) fun l18 y => cv ?_
 refine sat_true (gX hΩ _) (cv ?_)
 refine sat_true (bA hΩ (ak hE) a) (cv ?_)
 refine sat_true (bB hΩ (ak hE) ([] : List Inst)) (cv ?_)
 replace h := yQ h
 rcases h with ⟨j, h⟩ | ⟨j, h⟩
 refine dV (aU hΩ (ak hE) (l := a) j) (cv ?_)
 exact fk h hk
 refine dP (aU hΩ (ak hE) (l := a) j) (cv ?_)
 refine fK hΩ (ak hE) ([] : List Inst) a fun l21 z n23 a1 => cv ?_
 replace h := dZ h
 obtain ⟨o, h⟩ := h
 refine fJ o (cv ?_)
 exact fk h hk
 clear i
 try dsimp only at h
 obtain ⟨xu, iY⟩ : ∃ n, ln kT = n := ⟨_, rfl⟩
 simp only [iY]
 refine cv ?_
 refine bN hΩ hH fun kk st2 hk2 hs2 => cv ?_
 exact sp h
theorem ahi {a0 : Sl Inst} {a1 : (Inst → Option (Inst))} {jQ : Nat} (hf : ∀ {x0 : Inst} {r : Inst}, a1 x0 = some r → ∀ {args : List PV}, [bg E x0] = args → ∀ (st : St), Sat (Ω.cf jQ args st) (fun q => q = (bg E r, st))) {r : (Sl Inst)} (h : P69 fu a0 a1 = some r) {args : List PV} (ha : [PV.d (.sl (E.au a0.l) (E.aD a0.x)), PV.d (.fn jQ [])] = args) (st : St) :
 Sat (Ω.cf 69 args st) (fun q => q = (PV.d (.sl (E.au r.l) (E.aD r.x)), st)) := by
 subst ha
 rcases a0 with ⟨d1, d2⟩
 rw [aC hΩ (f := 69) (fn := Try.f69) rfl rfl rfl rfl rfl rfl]
 unfold P69 at h
 try dsimp only at h
 refine cv ?_
 replace h := aQ h
 obtain ⟨r2, g, h⟩ := h
 obtain ⟨n3, i⟩ : ∃ n, ln r2 = n := ⟨_, rfl⟩
 refine bC (ahh hΩ hE (st := nO :: st) g (by (try clear h); subst_vars; rfl) rfl i) (cv ?_)
 replace h := aQ h
 obtain ⟨q, b, h⟩ := h
 refine bK hΩ (fun (a : (List Inst) × Int) => (match a with | (l5, i6) => ([(1, PV.d (.fn jQ [])), (4, PV.d (.sl [] (some []))), (5, PV.row 0 0 (ln l5)), (10, PV.row 0 0 (ln l5)), (11, vi n3), (12, vi i6)], ([X.Obj.row 34 31 (E.au l5) true none] : List X.Obj) :: st))) (fun (q : ((List Inst) × Int)) => (match q with | (fq, kg) => (.exit 0, [(1, PV.d (.fn jQ [])), (4, PV.d (.sl [] (some []))), (5, PV.row 0 0 (ln fq)), (10, PV.row 0 0 (ln fq)), (11, vi n3), (12, vi kg)], ([X.Obj.row 34 31 (E.au fq) true none] : List X.Obj) :: st))) (r2, 0) b ?_ ?_
 clear h b
 rintro ⟨l5, i6⟩ q h
 unfold Jq at h
 dsimp only at h
 obtain ⟨Gu, mV⟩ : ∃ n, ln l5 = n := ⟨_, rfl⟩
 simp only [mV]
 refine cv ?_
 refine aN hΩ (cv ?_)
 revert h; refine bQ (fun j h => cv ?_) fun j h => cv ?_
 refine sat_true (bB hΩ (ak hE) l5) (cv ?_)
 replace h := aQ h
 obtain ⟨⟨d3, ⟨d4, d5, d6, ⟨d7, d8, d9, ⟨e0, e3⟩, ⟨e4, e5⟩, e6, e7, e8⟩⟩, ⟨e9, f0⟩, ⟨f1, f2⟩, ⟨f3, f4⟩, f5, f6, f7, ⟨f8, f9, g0, ⟨g1, g2⟩, ⟨g3, g4⟩, g5, g6, g7⟩, g8, g9, ⟨h0, h3⟩, h4, h5⟩, c, h⟩ := h
 try dsimp only at h
 refine ay (aW hΩ (ak hE) c) (cv ?_)
 refine sat_true (bB hΩ (ak hE) l5) (cv ?_)
 refine ay (aW hΩ (ak hE) c) (cv ?_)
 replace h := aQ h
 obtain ⟨⟨k, ⟨m, o, p, ⟨s, t, u, ⟨v, w⟩, ⟨y, z⟩, a2, a3, a4⟩⟩, ⟨a5, a6⟩, ⟨a7, a8⟩, ⟨a9, b0⟩, b1, b2, b3, ⟨b4, b5, b6, ⟨b7, b8⟩, ⟨b9, c0⟩, c1, c2, c3⟩, c4, c5, ⟨c6, c7⟩, c8, c9⟩, d0, h⟩ := h
 try dsimp only at h
 refine av (hf d0) (cv ?_)
 refine sat_true (bB hΩ (ak hE) l5) (cv ?_)
 replace h := aQ h
 obtain ⟨⟨h6, ⟨h7, h8, h9, ⟨i0, i1, i2, ⟨i3, i4⟩, ⟨i5, i7⟩, i9, j0, j1⟩⟩, ⟨j2, j3⟩, ⟨j4, j5⟩, ⟨j6, j7⟩, j8, j9, k0, ⟨k1, k2, k3, ⟨k4, k5⟩, ⟨k6, k7⟩, k8, k9, l0⟩, l1, l2, ⟨l3, l4⟩, l6, l7⟩, e, h⟩ := h
 try dsimp only at h
 refine ay (aW hΩ (ak hE) e) (cv ?_)
 refine sat_true (bB hΩ (ak hE) l5) (cv ?_)
 refine ay (aW hΩ (ak hE) e) (cv ?_)
 refine jP hΩ (ak hE) l5 i6 (Inst.mk k (Child.mk m o p (Value.mk s t u (Sl.mk v w) (Sl.mk y z) a2 a3 a4)) (Sl.mk a5 a6) (Sl.mk a7 a8) (Sl.mk a9 b0) b1 b2 b3 (Value.mk b4 b5 b6 (Sl.mk b7 b8) (Sl.mk b9 c0) c1 c2 c3) c4 c5 (Sl.mk c6 c7) c8 c9) fun jJ l8 => cv ?_
 obtain rfl := fZ h
 subst_vars
 exact s3
 obtain rfl := fZ h
 subst_vars
 exact sL
 clear b
 rcases q with ⟨fq, kg⟩
 dsimp only at h
 obtain ⟨zU, jR⟩ : ∃ n, ln fq = n := ⟨_, rfl⟩
 simp only [jR]
 refine cv ?_
 refine sat_true (bB hΩ (ak hE) fq) (cv ?_)
 exact sp h
def H31 (Ω : Om) (E : Enc) (p31 : Inst → Option (Inst)) : Prop := ∀ {a0 : Inst} {r : Inst}, p31 a0 = some r → ∀ {args : List PV}, [bg E a0] = args → ∀ (st : St), Sat (Ω.cf 31 args st) (fun q => q = (bg E r, st))
def H42 (Ω : Om) (E : Enc) (p42 : (Sl Inst) → Option ((Sl Inst))) : Prop := ∀ {a0 : Sl Inst} {r : (Sl Inst)}, p42 a0 = some r → ∀ {args : List PV}, [PV.d (.sl (E.au a0.l) (E.aD a0.x))] = args → ∀ (st : St), Sat (Ω.cf 42 args st) (fun q => q = (PV.d (.sl (E.au r.l) (E.aD r.x)), st))
theorem afs {p31 : Inst → Option (Inst)} (aft : H31 Ω E p31) {p42 : (Sl Inst) → Option ((Sl Inst))} (acI : H42 Ω E p42) {a0 : Inst} {r : Inst} (h : Zd fu p31 p42 a0 = some r) {args : List PV} (ha : [bg E a0] = args) (st : St) :
 Sat (Ω.cf 31 args st) (fun q => q = (bg E r, st)) := by
 subst ha
 rcases a0 with ⟨i, ⟨j, k, l, ⟨m, n, o, ⟨p, s⟩, ⟨t, u⟩, v, w, y⟩⟩, ⟨z, a1⟩, ⟨a2, a3⟩, ⟨a4, a5⟩, a6, a7, a8, ⟨a9, b0, b1, ⟨b2, b3⟩, ⟨b4, b5⟩, b6, b7, b8⟩, b9, c0, ⟨c1, c2⟩, c3, c4⟩
 rw [kJ hΩ (f := 31) (fn := Try.f31) (x := abY) rfl rfl PW rfl rfl rfl]
 unfold Zd at h
 try dsimp only at h
 refine cv ?_
 replace h := aQ h
 obtain ⟨⟨c5, c6, c7, ⟨c8, c9, d0, ⟨d1, d2⟩, ⟨d3, d4⟩, d5, d6, d7⟩⟩, a, h⟩ := h
 try dsimp only at h
 refine av (afm hΩ hE a) (cv ?_)
 refine sat_true (dL hΩ _) (cv ?_)
 replace h := aQ h
 obtain ⟨⟨d8, d9⟩, b, h⟩ := h
 try dsimp only at h
 refine av (ahd hΩ hE b) (cv ?_)
 refine sat_true (dL hΩ _) (cv ?_)
 replace h := aQ h
 obtain ⟨⟨e0, e3⟩, c, h⟩ := h
 try dsimp only at h
 refine av (ahg hΩ hE c) (cv ?_)
 refine sat_true (dL hΩ _) (cv ?_)
 replace h := aQ h
 obtain ⟨⟨e4, e5, e6, ⟨e7, e8⟩, ⟨e9, f0⟩, f1, f2, f3⟩, d, h⟩ := h
 try dsimp only at h
 refine av (ZC hΩ hE d) (cv ?_)
 refine sat_true (dL hΩ _) (cv ?_)
 refine ah hΩ (cv ?_)
 replace h := aQ h
 obtain ⟨⟨f4, f5⟩, e, h⟩ := h
 try dsimp only at h
 refine av (acI e) (cv ?_)
 refine sat_true (dL hΩ _) (cv ?_)
 replace h := aQ h
 obtain ⟨⟨f6, f7⟩, g, h⟩ := h
 try dsimp only at h
 refine av (acI g) (cv ?_)
 refine sat_true (dL hΩ _) (cv ?_)
 exact sp h
theorem afu {p31 : Inst → Option (Inst)} (aft : H31 Ω E p31) {p42 : (Sl Inst) → Option ((Sl Inst))} (acI : H42 Ω E p42) {a0 : Sl Inst} {r : (Sl Inst)} (h : Ze fu p31 p42 a0 = some r) {args : List PV} (ha : [PV.d (.sl (E.au a0.l) (E.aD a0.x))] = args) (st : St) :
 Sat (Ω.cf 42 args st) (fun q => q = (PV.d (.sl (E.au r.l) (E.aD r.x)), st)) := by
 subst ha
 rcases a0 with ⟨b, c⟩
 rw [aC hΩ (f := 42) (fn := Try.f42) rfl rfl rfl rfl rfl rfl]
 unfold Ze at h
 try dsimp only at h
 refine cv ?_
 replace h := aQ h
 obtain ⟨⟨e, g⟩, a, h⟩ := h
 try dsimp only at h
 refine bC (ahi hΩ hE (hf := fun h => @fun args ha st => aft h ha st) a (by (try clear h); subst_vars; rfl) _) (cv ?_)
 exact sp h
theorem aa9 : ∀ fu,
 (∀ {a0 : Inst} {r : Inst}, Zf fu a0 = some r → ∀ {args : List PV}, [bg E a0] = args → ∀ (st : St), Sat (Ω.cf 31 args st) (fun q => q = (bg E r, st))) ∧
 (∀ {a0 : Sl Inst} {r : (Sl Inst)}, P42 fu a0 = some r → ∀ {args : List PV}, [PV.d (.sl (E.au a0.l) (E.aD a0.x))] = args → ∀ (st : St), Sat (Ω.cf 42 args st) (fun q => q = (PV.d (.sl (E.au r.l) (E.aD r.x)), st))) := by
 intro fu
 induction fu with
 | zero => exact ⟨(fun h => (by cases h)), (fun h => (by cases h))⟩
 | succ fu ih =>
  obtain ⟨i31, i42⟩ := ih
  exact ⟨(fun h => @fun args ha st => afs (fu := fu) hΩ hE i31 i42 h ha st), (fun h => @fun args ha st => afu (fu := fu) hΩ hE i31 i42 h ha st)⟩
theorem afv : ∀ {a0 : Inst} {r : Inst}, Zf fu a0 = some r → ∀ {args : List PV}, [bg E a0] = args → ∀ (st : St), Sat (Ω.cf 31 args st) (fun q => q = (bg E r, st)) := (aa9 hΩ hE fu).1
theorem ahj : ∀ {a0 : Sl Inst} {r : (Sl Inst)}, P42 fu a0 = some r → ∀ {args : List PV}, [PV.d (.sl (E.au a0.l) (E.aD a0.x))] = args → ∀ (st : St), Sat (Ω.cf 42 args st) (fun q => q = (PV.d (.sl (E.au r.l) (E.aD r.x)), st)) := (aa9 hΩ hE fu).2
end Go.Proofs.Ytedfkehkcaaplaa
