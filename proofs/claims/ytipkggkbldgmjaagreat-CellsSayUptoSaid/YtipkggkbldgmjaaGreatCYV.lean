/- Data of a type is an encoded value: printed by a small program. -/
import Derived.Test.YtipkggkbldgmjaaGreatCYE
import Derived.Test.YtipkggkbldgmjaaGreatXP
namespace Go.Proofs.YtipkggkbldgmjaaGreat
open Go Go.X
set_option linter.unusedVariables false
set_option linter.unusedSimpArgs false
set_option maxRecDepth 100000
theorem len8 {l : List D} (h : l.length = 8) : ∃ c0 c1 c2 c3 c4 c5 c6 c7, l = [c0, c1, c2, c3, c4, c5, c6, c7] := by
 match l, h with
 | [c0, c1, c2, c3, c4, c5, c6, c7], _ => exact ⟨c0, c1, c2, c3, c4, c5, c6, c7, rfl⟩
theorem atm {l : List D} (h : l.length = 9) : ∃ c0 c1 c2 c3 c4 c5 c6 c7 c8, l = [c0, c1, c2, c3, c4, c5, c6, c7, c8] := by
 match l, h with
 | [c0, c1, c2, c3, c4, c5, c6, c7, c8], _ => exact ⟨c0, c1, c2, c3, c4, c5, c6, c7, c8, rfl⟩
theorem arG {l : List D} (h : l.length = 10) : ∃ c0 c1 c2 c3 c4 c5 c6 c7 c8 c9, l = [c0, c1, c2, c3, c4, c5, c6, c7, c8, c9] := by
 match l, h with
 | [c0, c1, c2, c3, c4, c5, c6, c7, c8, c9], _ => exact ⟨c0, c1, c2, c3, c4, c5, c6, c7, c8, c9, rfl⟩
theorem arH {l : List D} (h : l.length = 12) : ∃ c0 c1 c2 c3 c4 c5 c6 c7 c8 c9 c10 c11, l = [c0, c1, c2, c3, c4, c5, c6, c7, c8, c9, c10, c11] := by
 match l, h with
 | [c0, c1, c2, c3, c4, c5, c6, c7, c8, c9, c10, c11], _ => exact ⟨c0, c1, c2, c3, c4, c5, c6, c7, c8, c9, c10, c11, rfl⟩
theorem arI {l : List D} (h : l.length = 26) : ∃ c0 c1 c2 c3 c4 c5 c6 c7 c8 c9 c10 c11 c12 c13 c14 c15 c16 c17 c18 c19 c20 c21 c22 c23 c24 c25, l = [c0, c1, c2, c3, c4, c5, c6, c7, c8, c9, c10, c11, c12, c13, c14, c15, c16, c17, c18, c19, c20, c21, c22, c23, c24, c25] := by
 match l, h with
 | [c0, c1, c2, c3, c4, c5, c6, c7, c8, c9, c10, c11, c12, c13, c14, c15, c16, c17, c18, c19, c20, c21, c22, c23, c24, c25], _ => exact ⟨c0, c1, c2, c3, c4, c5, c6, c7, c8, c9, c10, c11, c12, c13, c14, c15, c16, c17, c18, c19, c20, c21, c22, c23, c24, c25, rfl⟩
theorem KG : tab.ty 22 = .slice 40 26 400 := rfl
theorem Nj : tab.ty 40 = .agg 26 [(0, 1, 37), (1, 1, 9), (2, 8, 29), (10, 8, 29), (18, 1, 25), (19, 1, 38), (20, 1, 38), (21, 1, 26), (22, 1, 4), (23, 1, 4), (24, 1, 38), (25, 1, 26)] := rfl
theorem Nk : tab.ty 37 = .int .u8 := rfl
theorem K9 : tab.ty 9 = .str := rfl
theorem KH : tab.ty 29 = .agg 8 [(0, 1, 24), (1, 1, 2), (2, 1, 9), (3, 1, 25), (4, 1, 26), (5, 1, 27), (6, 1, 9), (7, 1, 4)] := rfl
theorem KI : tab.ty 24 = .int .u8 := rfl
theorem ty_2 : tab.ty 2 = .int .i64 := rfl
theorem FQ : tab.ty 25 = .slice 29 8 112 := rfl
theorem DJ : tab.ty 26 = .slice 67 9 128 := rfl
theorem Nl : tab.ty 67 = .agg 9 [(0, 1, 9), (1, 8, 29)] := rfl
theorem Nn : tab.ty 27 = .int .u8 := rfl
theorem WS : tab.ty 4 = .bool := rfl
theorem zy : tab.ty 38 = .slice 76 12 200 := rfl
theorem Np : tab.ty 76 = .agg 12 [(0, 1, 69), (1, 1, 9), (2, 10, 74)] := rfl
theorem Nq : tab.ty 69 = .int .u8 := rfl
theorem Nr : tab.ty 74 = .agg 10 [(0, 1, 70), (1, 1, 2), (2, 1, 9), (3, 1, 71), (4, 1, 72), (5, 1, 71), (6, 1, 27), (7, 1, 71), (8, 1, 38), (9, 1, 9)] := rfl
theorem Ns : tab.ty 70 = .int .u8 := rfl
theorem DK : tab.ty 71 = .slice 74 10 176 := rfl
theorem Nt : tab.ty 72 = .slice 9 1 16 := rfl
theorem WU {t : Nat} {l : List D} (h : WT tab t l) :
  (t = 22 → ∃ x : Sl Cell, l = [.sl (x.l.map fun y => iK y) (x.x.map (List.map fun y => iK y))]) ∧
  (t = 40 → ∃ x : Cell, l = iK x) ∧
  (t = 37 → ∃ x : Int, l = [.int .u8 x]) ∧
  (t = 9 → ∃ x : ByteArray, l = [.str x]) ∧
  (t = 29 → ∃ x : Value, l = fK x) ∧
  (t = 24 → ∃ x : Int, l = [.int .u8 x]) ∧
  (t = 2 → ∃ x : Int, l = [.int .i64 x]) ∧
  (t = 25 → ∃ x : Sl Value, l = [iy x]) ∧
  (t = 26 → ∃ x : Sl Field, l = [gK x]) ∧
  (t = 67 → ∃ x : Field, l = iJ x) ∧
  (t = 27 → ∃ x : Int, l = [.int .u8 x]) ∧
  (t = 4 → ∃ x : Bool, l = [.bool x]) ∧
  (t = 38 → ∃ x : Sl Act, l = [jN x]) ∧
  (t = 76 → ∃ x : Act, l = pJ x) ∧
  (t = 69 → ∃ x : Int, l = [.int .u8 x]) ∧
  (t = 74 → ∃ x : Expr, l = kg x) ∧
  (t = 70 → ∃ x : Int, l = [.int .u8 x]) ∧
  (t = 71 → ∃ x : Sl Expr, l = [jk x]) ∧
  (t = 72 → ∃ x : Sl ByteArray, l = [.sl (x.l.map fun y => [.str y]) (x.x.map (List.map fun y => [.str y]))]) := by
 induction h with
 | int h1 h2 =>
  refine ⟨?_, ?_, ?_, ?_, ?_, ?_, ?_, ?_, ?_, ?_, ?_, ?_, ?_, ?_, ?_, ?_, ?_, ?_, ?_⟩
  ·intro ht
   subst ht
   rw [KG] at h1
   cases h1
  ·intro ht
   subst ht
   rw [Nj] at h1
   cases h1
  ·intro ht
   subst ht
   rw [Nk] at h1
   cases h1
   exact ⟨_, rfl⟩
  ·intro ht
   subst ht
   rw [K9] at h1
   cases h1
  ·intro ht
   subst ht
   rw [KH] at h1
   cases h1
  ·intro ht
   subst ht
   rw [KI] at h1
   cases h1
   exact ⟨_, rfl⟩
  ·intro ht
   subst ht
   rw [ty_2] at h1
   cases h1
   exact ⟨_, rfl⟩
  ·intro ht
   subst ht
   rw [FQ] at h1
   cases h1
  ·intro ht
   subst ht
   rw [DJ] at h1
   cases h1
  ·intro ht
   subst ht
   rw [Nl] at h1
   cases h1
  ·intro ht
   subst ht
   rw [Nn] at h1
   cases h1
   exact ⟨_, rfl⟩
  ·intro ht
   subst ht
   rw [WS] at h1
   cases h1
  ·intro ht
   subst ht
   rw [zy] at h1
   cases h1
  ·intro ht
   subst ht
   rw [Np] at h1
   cases h1
  ·intro ht
   subst ht
   rw [Nq] at h1
   cases h1
   exact ⟨_, rfl⟩
  ·intro ht
   subst ht
   rw [Nr] at h1
   cases h1
  ·intro ht
   subst ht
   rw [Ns] at h1
   cases h1
   exact ⟨_, rfl⟩
  ·intro ht
   subst ht
   rw [DK] at h1
   cases h1
  ·intro ht
   subst ht
   rw [Nt] at h1
   cases h1
 | bool h1 =>
  refine ⟨?_, ?_, ?_, ?_, ?_, ?_, ?_, ?_, ?_, ?_, ?_, ?_, ?_, ?_, ?_, ?_, ?_, ?_, ?_⟩
  ·intro ht
   subst ht
   rw [KG] at h1
   cases h1
  ·intro ht
   subst ht
   rw [Nj] at h1
   cases h1
  ·intro ht
   subst ht
   rw [Nk] at h1
   cases h1
  ·intro ht
   subst ht
   rw [K9] at h1
   cases h1
  ·intro ht
   subst ht
   rw [KH] at h1
   cases h1
  ·intro ht
   subst ht
   rw [KI] at h1
   cases h1
  ·intro ht
   subst ht
   rw [ty_2] at h1
   cases h1
  ·intro ht
   subst ht
   rw [FQ] at h1
   cases h1
  ·intro ht
   subst ht
   rw [DJ] at h1
   cases h1
  ·intro ht
   subst ht
   rw [Nl] at h1
   cases h1
  ·intro ht
   subst ht
   rw [Nn] at h1
   cases h1
  ·intro ht
   subst ht
   rw [WS] at h1
   cases h1
   exact ⟨_, rfl⟩
  ·intro ht
   subst ht
   rw [zy] at h1
   cases h1
  ·intro ht
   subst ht
   rw [Np] at h1
   cases h1
  ·intro ht
   subst ht
   rw [Nq] at h1
   cases h1
  ·intro ht
   subst ht
   rw [Nr] at h1
   cases h1
  ·intro ht
   subst ht
   rw [Ns] at h1
   cases h1
  ·intro ht
   subst ht
   rw [DK] at h1
   cases h1
  ·intro ht
   subst ht
   rw [Nt] at h1
   cases h1
 | str h1 h2 =>
  refine ⟨?_, ?_, ?_, ?_, ?_, ?_, ?_, ?_, ?_, ?_, ?_, ?_, ?_, ?_, ?_, ?_, ?_, ?_, ?_⟩
  ·intro ht
   subst ht
   rw [KG] at h1
   cases h1
  ·intro ht
   subst ht
   rw [Nj] at h1
   cases h1
  ·intro ht
   subst ht
   rw [Nk] at h1
   cases h1
  ·intro ht
   subst ht
   rw [K9] at h1
   cases h1
   exact ⟨_, rfl⟩
  ·intro ht
   subst ht
   rw [KH] at h1
   cases h1
  ·intro ht
   subst ht
   rw [KI] at h1
   cases h1
  ·intro ht
   subst ht
   rw [ty_2] at h1
   cases h1
  ·intro ht
   subst ht
   rw [FQ] at h1
   cases h1
  ·intro ht
   subst ht
   rw [DJ] at h1
   cases h1
  ·intro ht
   subst ht
   rw [Nl] at h1
   cases h1
  ·intro ht
   subst ht
   rw [Nn] at h1
   cases h1
  ·intro ht
   subst ht
   rw [WS] at h1
   cases h1
  ·intro ht
   subst ht
   rw [zy] at h1
   cases h1
  ·intro ht
   subst ht
   rw [Np] at h1
   cases h1
  ·intro ht
   subst ht
   rw [Nq] at h1
   cases h1
  ·intro ht
   subst ht
   rw [Nr] at h1
   cases h1
  ·intro ht
   subst ht
   rw [Ns] at h1
   cases h1
  ·intro ht
   subst ht
   rw [DK] at h1
   cases h1
  ·intro ht
   subst ht
   rw [Nt] at h1
   cases h1
 | slice h1 h2 hb h3 h4 ih1 ih2 =>
  refine ⟨?_, ?_, ?_, ?_, ?_, ?_, ?_, ?_, ?_, ?_, ?_, ?_, ?_, ?_, ?_, ?_, ?_, ?_, ?_⟩
  ·intro ht
   subst ht
   rw [KG] at h1
   cases h1
   obtain ⟨l1, hl1⟩ := gX (fun r hr => (ih1 r hr).2.1 rfl)
   obtain ⟨l2, hl2⟩ := gX (fun r hr => (ih2 r hr).2.1 rfl)
   subst hl1; subst hl2
   refine ⟨⟨l1, some l2⟩, ?_⟩
   rfl
  ·intro ht
   subst ht
   rw [Nj] at h1
   cases h1
  ·intro ht
   subst ht
   rw [Nk] at h1
   cases h1
  ·intro ht
   subst ht
   rw [K9] at h1
   cases h1
  ·intro ht
   subst ht
   rw [KH] at h1
   cases h1
  ·intro ht
   subst ht
   rw [KI] at h1
   cases h1
  ·intro ht
   subst ht
   rw [ty_2] at h1
   cases h1
  ·intro ht
   subst ht
   rw [FQ] at h1
   cases h1
   obtain ⟨l1, hl1⟩ := gX (fun r hr => (ih1 r hr).2.2.2.2.1 rfl)
   obtain ⟨l2, hl2⟩ := gX (fun r hr => (ih2 r hr).2.2.2.2.1 rfl)
   subst hl1; subst hl2
   refine ⟨⟨l1, some l2⟩, ?_⟩
   rw [← ig, ← ig]; rfl
  ·intro ht
   subst ht
   rw [DJ] at h1
   cases h1
   obtain ⟨l1, hl1⟩ := gX (fun r hr => (ih1 r hr).2.2.2.2.2.2.2.2.2.1 rfl)
   obtain ⟨l2, hl2⟩ := gX (fun r hr => (ih2 r hr).2.2.2.2.2.2.2.2.2.1 rfl)
   subst hl1; subst hl2
   refine ⟨⟨l1, some l2⟩, ?_⟩
   rw [← iq, ← iq]; rfl
  ·intro ht
   subst ht
   rw [Nl] at h1
   cases h1
  ·intro ht
   subst ht
   rw [Nn] at h1
   cases h1
  ·intro ht
   subst ht
   rw [WS] at h1
   cases h1
  ·intro ht
   subst ht
   rw [zy] at h1
   cases h1
   obtain ⟨l1, hl1⟩ := gX (fun r hr => (ih1 r hr).2.2.2.2.2.2.2.2.2.2.2.2.2.1 rfl)
   obtain ⟨l2, hl2⟩ := gX (fun r hr => (ih2 r hr).2.2.2.2.2.2.2.2.2.2.2.2.2.1 rfl)
   subst hl1; subst hl2
   refine ⟨⟨l1, some l2⟩, ?_⟩
   rw [← lM, ← lM]; rfl
  ·intro ht
   subst ht
   rw [Np] at h1
   cases h1
  ·intro ht
   subst ht
   rw [Nq] at h1
   cases h1
  ·intro ht
   subst ht
   rw [Nr] at h1
   cases h1
  ·intro ht
   subst ht
   rw [Ns] at h1
   cases h1
  ·intro ht
   subst ht
   rw [DK] at h1
   cases h1
   obtain ⟨l1, hl1⟩ := gX (fun r hr => (ih1 r hr).2.2.2.2.2.2.2.2.2.2.2.2.2.2.2.1 rfl)
   obtain ⟨l2, hl2⟩ := gX (fun r hr => (ih2 r hr).2.2.2.2.2.2.2.2.2.2.2.2.2.2.2.1 rfl)
   subst hl1; subst hl2
   refine ⟨⟨l1, some l2⟩, ?_⟩
   rw [← kr, ← kr]; rfl
  ·intro ht
   subst ht
   rw [Nt] at h1
   cases h1
   obtain ⟨l1, hl1⟩ := gX (fun r hr => (ih1 r hr).2.2.2.1 rfl)
   obtain ⟨l2, hl2⟩ := gX (fun r hr => (ih2 r hr).2.2.2.1 rfl)
   subst hl1; subst hl2
   refine ⟨⟨l1, some l2⟩, ?_⟩
   rfl
 | agg h1 h2 h3 ih =>
  refine ⟨?_, ?_, ?_, ?_, ?_, ?_, ?_, ?_, ?_, ?_, ?_, ?_, ?_, ?_, ?_, ?_, ?_, ?_, ?_⟩
  ·intro ht
   subst ht
   rw [KG] at h1
   cases h1
  ·intro ht
   subst ht
   rw [Nj] at h1
   cases h1
   obtain ⟨c0, c1, c2, c3, c4, c5, c6, c7, c8, c9, c10, c11, c12, c13, c14, c15, c16, c17, c18, c19, c20, c21, c22, c23, c24, c25, rfl⟩ : ∃ c0 c1 c2 c3 c4 c5 c6 c7 c8 c9 c10 c11 c12 c13 c14 c15 c16 c17 c18 c19 c20 c21 c22 c23 c24 c25, _ = [c0, c1, c2, c3, c4, c5, c6, c7, c8, c9, c10, c11, c12, c13, c14, c15, c16, c17, c18, c19, c20, c21, c22, c23, c24, c25] := arI h2
   obtain ⟨x0, e0⟩ := (ih (0, 1, 37) (by simp)).2.2.1 rfl
   replace e0 : [c0] = [.int .u8 x0] := e0
   obtain ⟨x1, e1⟩ := (ih (1, 1, 9) (by simp)).2.2.2.1 rfl
   replace e1 : [c1] = [.str x1] := e1
   obtain ⟨x2, e2⟩ := (ih (2, 8, 29) (by simp)).2.2.2.2.1 rfl
   replace e2 : [c2, c3, c4, c5, c6, c7, c8, c9] = fK x2 := e2
   obtain ⟨x3, e3⟩ := (ih (10, 8, 29) (by simp)).2.2.2.2.1 rfl
   replace e3 : [c10, c11, c12, c13, c14, c15, c16, c17] = fK x3 := e3
   obtain ⟨x4, e4⟩ := (ih (18, 1, 25) (by simp)).2.2.2.2.2.2.2.1 rfl
   replace e4 : [c18] = [iy x4] := e4
   obtain ⟨x5, e5⟩ := (ih (19, 1, 38) (by simp)).2.2.2.2.2.2.2.2.2.2.2.2.1 rfl
   replace e5 : [c19] = [jN x5] := e5
   obtain ⟨x6, e6⟩ := (ih (20, 1, 38) (by simp)).2.2.2.2.2.2.2.2.2.2.2.2.1 rfl
   replace e6 : [c20] = [jN x6] := e6
   obtain ⟨x7, e7⟩ := (ih (21, 1, 26) (by simp)).2.2.2.2.2.2.2.2.1 rfl
   replace e7 : [c21] = [gK x7] := e7
   obtain ⟨x8, e8⟩ := (ih (22, 1, 4) (by simp)).2.2.2.2.2.2.2.2.2.2.2.1 rfl
   replace e8 : [c22] = [.bool x8] := e8
   obtain ⟨x9, e9⟩ := (ih (23, 1, 4) (by simp)).2.2.2.2.2.2.2.2.2.2.2.1 rfl
   replace e9 : [c23] = [.bool x9] := e9
   obtain ⟨x10, e10⟩ := (ih (24, 1, 38) (by simp)).2.2.2.2.2.2.2.2.2.2.2.2.1 rfl
   replace e10 : [c24] = [jN x10] := e10
   obtain ⟨x11, e11⟩ := (ih (25, 1, 26) (by simp)).2.2.2.2.2.2.2.2.1 rfl
   replace e11 : [c25] = [gK x11] := e11
   refine ⟨Cell.mk x0 x1 x2 x3 x4 x5 x6 x7 x8 x9 x10 x11, ?_⟩
   simp only [iK]
   rw [← e0, ← e1, ← e2, ← e3, ← e4, ← e5, ← e6, ← e7, ← e8, ← e9, ← e10, ← e11]
   rfl
  ·intro ht
   subst ht
   rw [Nk] at h1
   cases h1
  ·intro ht
   subst ht
   rw [K9] at h1
   cases h1
  ·intro ht
   subst ht
   rw [KH] at h1
   cases h1
   obtain ⟨c0, c1, c2, c3, c4, c5, c6, c7, rfl⟩ : ∃ c0 c1 c2 c3 c4 c5 c6 c7, _ = [c0, c1, c2, c3, c4, c5, c6, c7] := len8 h2
   obtain ⟨x0, e0⟩ := (ih (0, 1, 24) (by simp)).2.2.2.2.2.1 rfl
   replace e0 : [c0] = [.int .u8 x0] := e0
   obtain ⟨x1, e1⟩ := (ih (1, 1, 2) (by simp)).2.2.2.2.2.2.1 rfl
   replace e1 : [c1] = [.int .i64 x1] := e1
   obtain ⟨x2, e2⟩ := (ih (2, 1, 9) (by simp)).2.2.2.1 rfl
   replace e2 : [c2] = [.str x2] := e2
   obtain ⟨x3, e3⟩ := (ih (3, 1, 25) (by simp)).2.2.2.2.2.2.2.1 rfl
   replace e3 : [c3] = [iy x3] := e3
   obtain ⟨x4, e4⟩ := (ih (4, 1, 26) (by simp)).2.2.2.2.2.2.2.2.1 rfl
   replace e4 : [c4] = [gK x4] := e4
   obtain ⟨x5, e5⟩ := (ih (5, 1, 27) (by simp)).2.2.2.2.2.2.2.2.2.2.1 rfl
   replace e5 : [c5] = [.int .u8 x5] := e5
   obtain ⟨x6, e6⟩ := (ih (6, 1, 9) (by simp)).2.2.2.1 rfl
   replace e6 : [c6] = [.str x6] := e6
   obtain ⟨x7, e7⟩ := (ih (7, 1, 4) (by simp)).2.2.2.2.2.2.2.2.2.2.2.1 rfl
   replace e7 : [c7] = [.bool x7] := e7
   refine ⟨Value.mk x0 x1 x2 x3 x4 x5 x6 x7, ?_⟩
   simp only [fK]
   rw [← e0, ← e1, ← e2, ← e3, ← e4, ← e5, ← e6, ← e7]
   rfl
  ·intro ht
   subst ht
   rw [KI] at h1
   cases h1
  ·intro ht
   subst ht
   rw [ty_2] at h1
   cases h1
  ·intro ht
   subst ht
   rw [FQ] at h1
   cases h1
  ·intro ht
   subst ht
   rw [DJ] at h1
   cases h1
  ·intro ht
   subst ht
   rw [Nl] at h1
   cases h1
   obtain ⟨c0, c1, c2, c3, c4, c5, c6, c7, c8, rfl⟩ : ∃ c0 c1 c2 c3 c4 c5 c6 c7 c8, _ = [c0, c1, c2, c3, c4, c5, c6, c7, c8] := atm h2
   obtain ⟨x0, e0⟩ := (ih (0, 1, 9) (by simp)).2.2.2.1 rfl
   replace e0 : [c0] = [.str x0] := e0
   obtain ⟨x1, e1⟩ := (ih (1, 8, 29) (by simp)).2.2.2.2.1 rfl
   replace e1 : [c1, c2, c3, c4, c5, c6, c7, c8] = fK x1 := e1
   refine ⟨Field.mk x0 x1, ?_⟩
   simp only [iJ]
   rw [← e0, ← e1]
   rfl
  ·intro ht
   subst ht
   rw [Nn] at h1
   cases h1
  ·intro ht
   subst ht
   rw [WS] at h1
   cases h1
  ·intro ht
   subst ht
   rw [zy] at h1
   cases h1
  ·intro ht
   subst ht
   rw [Np] at h1
   cases h1
   obtain ⟨c0, c1, c2, c3, c4, c5, c6, c7, c8, c9, c10, c11, rfl⟩ : ∃ c0 c1 c2 c3 c4 c5 c6 c7 c8 c9 c10 c11, _ = [c0, c1, c2, c3, c4, c5, c6, c7, c8, c9, c10, c11] := arH h2
   obtain ⟨x0, e0⟩ := (ih (0, 1, 69) (by simp)).2.2.2.2.2.2.2.2.2.2.2.2.2.2.1 rfl
   replace e0 : [c0] = [.int .u8 x0] := e0
   obtain ⟨x1, e1⟩ := (ih (1, 1, 9) (by simp)).2.2.2.1 rfl
   replace e1 : [c1] = [.str x1] := e1
   obtain ⟨x2, e2⟩ := (ih (2, 10, 74) (by simp)).2.2.2.2.2.2.2.2.2.2.2.2.2.2.2.1 rfl
   replace e2 : [c2, c3, c4, c5, c6, c7, c8, c9, c10, c11] = kg x2 := e2
   refine ⟨Act.mk x0 x1 x2, ?_⟩
   simp only [pJ]
   rw [← e0, ← e1, ← e2]
   rfl
  ·intro ht
   subst ht
   rw [Nq] at h1
   cases h1
  ·intro ht
   subst ht
   rw [Nr] at h1
   cases h1
   obtain ⟨c0, c1, c2, c3, c4, c5, c6, c7, c8, c9, rfl⟩ : ∃ c0 c1 c2 c3 c4 c5 c6 c7 c8 c9, _ = [c0, c1, c2, c3, c4, c5, c6, c7, c8, c9] := arG h2
   obtain ⟨x0, e0⟩ := (ih (0, 1, 70) (by simp)).2.2.2.2.2.2.2.2.2.2.2.2.2.2.2.2.1 rfl
   replace e0 : [c0] = [.int .u8 x0] := e0
   obtain ⟨x1, e1⟩ := (ih (1, 1, 2) (by simp)).2.2.2.2.2.2.1 rfl
   replace e1 : [c1] = [.int .i64 x1] := e1
   obtain ⟨x2, e2⟩ := (ih (2, 1, 9) (by simp)).2.2.2.1 rfl
   replace e2 : [c2] = [.str x2] := e2
   obtain ⟨x3, e3⟩ := (ih (3, 1, 71) (by simp)).2.2.2.2.2.2.2.2.2.2.2.2.2.2.2.2.2.1 rfl
   replace e3 : [c3] = [jk x3] := e3
   obtain ⟨x4, e4⟩ := (ih (4, 1, 72) (by simp)).2.2.2.2.2.2.2.2.2.2.2.2.2.2.2.2.2.2 rfl
   replace e4 : [c4] = [.sl (x4.l.map fun y => [.str y]) (x4.x.map (List.map fun y => [.str y]))] := e4
   obtain ⟨x5, e5⟩ := (ih (5, 1, 71) (by simp)).2.2.2.2.2.2.2.2.2.2.2.2.2.2.2.2.2.1 rfl
   replace e5 : [c5] = [jk x5] := e5
   obtain ⟨x6, e6⟩ := (ih (6, 1, 27) (by simp)).2.2.2.2.2.2.2.2.2.2.1 rfl
   replace e6 : [c6] = [.int .u8 x6] := e6
   obtain ⟨x7, e7⟩ := (ih (7, 1, 71) (by simp)).2.2.2.2.2.2.2.2.2.2.2.2.2.2.2.2.2.1 rfl
   replace e7 : [c7] = [jk x7] := e7
   obtain ⟨x8, e8⟩ := (ih (8, 1, 38) (by simp)).2.2.2.2.2.2.2.2.2.2.2.2.1 rfl
   replace e8 : [c8] = [jN x8] := e8
   obtain ⟨x9, e9⟩ := (ih (9, 1, 9) (by simp)).2.2.2.1 rfl
   replace e9 : [c9] = [.str x9] := e9
   refine ⟨Expr.mk x0 x1 x2 x3 x4 x5 x6 x7 x8 x9, ?_⟩
   simp only [kg]
   rw [← e0, ← e1, ← e2, ← e3, ← e4, ← e5, ← e6, ← e7, ← e8, ← e9]
   rfl
  ·intro ht
   subst ht
   rw [Ns] at h1
   cases h1
  ·intro ht
   subst ht
   rw [DK] at h1
   cases h1
  ·intro ht
   subst ht
   rw [Nt] at h1
   cases h1
theorem aj7 {l : List D} (h : WT tab 22 l) : ∃ x : Sl Cell, l = [.sl (x.l.map fun y => iK y) (x.x.map (List.map fun y => iK y))] := (WU h).1 rfl
theorem atn {l : List D} (h : WT tab 9 l) : ∃ x : ByteArray, l = [.str x] := (WU h).2.2.2.1 rfl
theorem aj8 {l : List D} (h : WT tab 29 l) : ∃ x : Value, l = fK x := (WU h).2.2.2.2.1 rfl
end Go.Proofs.YtipkggkbldgmjaaGreat
