/- T -/
import Derived.Test.YtedfkehkcaaplaaTFE
import Derived.Test.YtedfkehkcaaplaaXP
namespace Go.Proofs.Ytedfkehkcaaplaa
open Go Go.X
set_option linter.unusedVariables false
set_option maxRecDepth 100000
theorem len8 {l : List D} (h : l.length = 8) : ∃ c0 c1 c2 c3 c4 c5 c6 c7, l = [c0, c1, c2, c3, c4, c5, c6, c7] := by
 match l, h with
 | [c0, c1, c2, c3, c4, c5, c6, c7], _ => exact ⟨c0, c1, c2, c3, c4, c5, c6, c7, rfl⟩
theorem ahv {l : List D} (h : l.length = 9) : ∃ c0 c1 c2 c3 c4 c5 c6 c7 c8, l = [c0, c1, c2, c3, c4, c5, c6, c7, c8] := by
 match l, h with
 | [c0, c1, c2, c3, c4, c5, c6, c7, c8], _ => exact ⟨c0, c1, c2, c3, c4, c5, c6, c7, c8, rfl⟩
theorem afK {l : List D} (h : l.length = 10) : ∃ c0 c1 c2 c3 c4 c5 c6 c7 c8 c9, l = [c0, c1, c2, c3, c4, c5, c6, c7, c8, c9] := by
 match l, h with
 | [c0, c1, c2, c3, c4, c5, c6, c7, c8, c9], _ => exact ⟨c0, c1, c2, c3, c4, c5, c6, c7, c8, c9, rfl⟩
theorem afL {l : List D} (h : l.length = 11) : ∃ c0 c1 c2 c3 c4 c5 c6 c7 c8 c9 c10, l = [c0, c1, c2, c3, c4, c5, c6, c7, c8, c9, c10] := by
 match l, h with
 | [c0, c1, c2, c3, c4, c5, c6, c7, c8, c9, c10], _ => exact ⟨c0, c1, c2, c3, c4, c5, c6, c7, c8, c9, c10, rfl⟩
theorem afM {l : List D} (h : l.length = 12) : ∃ c0 c1 c2 c3 c4 c5 c6 c7 c8 c9 c10 c11, l = [c0, c1, c2, c3, c4, c5, c6, c7, c8, c9, c10, c11] := by
 match l, h with
 | [c0, c1, c2, c3, c4, c5, c6, c7, c8, c9, c10, c11], _ => exact ⟨c0, c1, c2, c3, c4, c5, c6, c7, c8, c9, c10, c11, rfl⟩
theorem afN {l : List D} (h : l.length = 26) : ∃ c0 c1 c2 c3 c4 c5 c6 c7 c8 c9 c10 c11 c12 c13 c14 c15 c16 c17 c18 c19 c20 c21 OP c23 c24 OQ, l = [c0, c1, c2, c3, c4, c5, c6, c7, c8, c9, c10, c11, c12, c13, c14, c15, c16, c17, c18, c19, c20, c21, OP, c23, c24, OQ] := by
 match l, h with
 | [c0, c1, c2, c3, c4, c5, c6, c7, c8, c9, c10, c11, c12, c13, c14, c15, c16, c17, c18, c19, c20, c21, OP, c23, c24, OQ], _ => exact ⟨c0, c1, c2, c3, c4, c5, c6, c7, c8, c9, c10, c11, c12, c13, c14, c15, c16, c17, c18, c19, c20, c21, OP, c23, c24, OQ, rfl⟩
theorem afO {l : List D} (h : l.length = 31) : ∃ c0 c1 c2 c3 c4 c5 c6 c7 c8 c9 c10 c11 c12 c13 c14 c15 c16 c17 c18 c19 c20 c21 OP c23 c24 OQ c26 c27 c28 c29 c30, l = [c0, c1, c2, c3, c4, c5, c6, c7, c8, c9, c10, c11, c12, c13, c14, c15, c16, c17, c18, c19, c20, c21, OP, c23, c24, OQ, c26, c27, c28, c29, c30] := by
 match l, h with
 | [c0, c1, c2, c3, c4, c5, c6, c7, c8, c9, c10, c11, c12, c13, c14, c15, c16, c17, c18, c19, c20, c21, OP, c23, c24, OQ, c26, c27, c28, c29, c30], _ => exact ⟨c0, c1, c2, c3, c4, c5, c6, c7, c8, c9, c10, c11, c12, c13, c14, c15, c16, c17, c18, c19, c20, c21, OP, c23, c24, OQ, c26, c27, c28, c29, c30, rfl⟩
theorem Gx : tab.ty 34 = .agg 31 [(0, 1, 3), (1, 11, 29), (12, 1, 30), (13, 1, 31), (14, 1, 32), (15, 1, 3), (16, 1, 4), (17, 1, 4), (18, 8, 27), (26, 1, 9), (27, 1, 4), (28, 1, 32), (29, 1, 4), (30, 1, 4)] := rfl
theorem OT : tab.ty 3 = .int .i64 := rfl
theorem Gy : tab.ty 29 = .agg 11 [(0, 1, 9), (1, 1, 22), (2, 1, 9), (3, 8, 27)] := rfl
theorem zV : tab.ty 9 = .str := rfl
theorem EA : tab.ty 22 = .int .u8 := rfl
theorem Gz : tab.ty 27 = .agg 8 [(0, 1, 23), (1, 1, 2), (2, 1, 9), (3, 1, 24), (4, 1, 25), (5, 1, 22), (6, 1, 9), (7, 1, 4)] := rfl
theorem GA : tab.ty 23 = .int .u8 := rfl
theorem ty_2 : tab.ty 2 = .int .i64 := rfl
theorem AV : tab.ty 24 = .slice 27 8 112 := rfl
theorem za : tab.ty 25 = .slice 112 9 128 := rfl
theorem zW : tab.ty 112 = .agg 9 [(0, 1, 9), (1, 8, 27)] := rfl
theorem Bl : tab.ty 4 = .bool := rfl
theorem GD : tab.ty 30 = .slice 78 26 400 := rfl
theorem GH : tab.ty 78 = .agg 26 [(0, 1, 75), (1, 1, 9), (2, 8, 27), (10, 8, 27), (18, 1, 24), (19, 1, 76), (20, 1, 76), (21, 1, 25), (22, 1, 4), (23, 1, 4), (24, 1, 76), (25, 1, 25)] := rfl
theorem GI : tab.ty 75 = .int .u8 := rfl
theorem wE : tab.ty 76 = .slice 128 12 200 := rfl
theorem zX : tab.ty 128 = .agg 12 [(0, 1, 121), (1, 1, 9), (2, 10, 126)] := rfl
theorem zY : tab.ty 121 = .int .u8 := rfl
theorem zZ : tab.ty 126 = .agg 10 [(0, 1, 122), (1, 1, 2), (2, 1, 9), (3, 1, 123), (4, 1, 124), (5, 1, 123), (6, 1, 22), (7, 1, 123), (8, 1, 76), (9, 1, 9)] := rfl
theorem Aa : tab.ty 122 = .int .u8 := rfl
theorem sP : tab.ty 123 = .slice 126 10 176 := rfl
theorem Ab : tab.ty 124 = .slice 9 1 16 := rfl
theorem GJ : tab.ty 31 = .slice 29 11 152 := rfl
theorem AX : tab.ty 32 = .slice 34 31 416 := rfl
theorem OU {t : Nat} {l : List D} (h : WT tab t l) :
  (t = 34 → ∃ x : Inst, l = gG x) ∧
  (t = 3 → ∃ x : Int, l = [.int .i64 x]) ∧
  (t = 29 → ∃ x : Child, l = dU x) ∧
  (t = 9 → ∃ x : ByteArray, l = [.str x]) ∧
  (t = 22 → ∃ x : Int, l = [.int .u8 x]) ∧
  (t = 27 → ∃ x : Value, l = dM x) ∧
  (t = 23 → ∃ x : Int, l = [.int .u8 x]) ∧
  (t = 2 → ∃ x : Int, l = [.int .i64 x]) ∧
  (t = 24 → ∃ x : Sl Value, l = [fD x]) ∧
  (t = 25 → ∃ x : Sl Field, l = [eG x]) ∧
  (t = 112 → ∃ x : Field, l = gN x) ∧
  (t = 4 → ∃ x : Bool, l = [.bool x]) ∧
  (t = 30 → ∃ x : Sl Cell, l = [.sl (x.l.map fun y => gP y) (x.x.map (List.map fun y => gP y))]) ∧
  (t = 78 → ∃ x : Cell, l = gP x) ∧
  (t = 75 → ∃ x : Int, l = [.int .u8 x]) ∧
  (t = 76 → ∃ x : Sl Act, l = [gY x]) ∧
  (t = 128 → ∃ x : Act, l = lX x) ∧
  (t = 121 → ∃ x : Int, l = [.int .u8 x]) ∧
  (t = 126 → ∃ x : Expr, l = iD x) ∧
  (t = 122 → ∃ x : Int, l = [.int .u8 x]) ∧
  (t = 123 → ∃ x : Sl Expr, l = [gy x]) ∧
  (t = 124 → ∃ x : Sl ByteArray, l = [.sl (x.l.map fun y => [.str y]) (x.x.map (List.map fun y => [.str y]))]) ∧
  (t = 31 → ∃ x : Sl Child, l = [.sl (x.l.map fun y => dU y) (x.x.map (List.map fun y => dU y))]) ∧
  (t = 32 → ∃ x : Sl Inst, l = [fM x]) := by
 induction h with
 | int h1 h2 =>
  refine ⟨?_, ?_, ?_, ?_, ?_, ?_, ?_, ?_, ?_, ?_, ?_, ?_, ?_, ?_, ?_, ?_, ?_, ?_, ?_, ?_, ?_, ?_, ?_, ?_⟩
  all_goals intro ht
  all_goals subst ht
  all_goals first | rw [Gx] at h1 | rw [OT] at h1 | rw [Gy] at h1 | rw [zV] at h1 | rw [EA] at h1 | rw [Gz] at h1 | rw [GA] at h1 | rw [ty_2] at h1 | rw [AV] at h1 | rw [za] at h1 | rw [zW] at h1 | rw [Bl] at h1 | rw [GD] at h1 | rw [GH] at h1 | rw [GI] at h1 | rw [wE] at h1 | rw [zX] at h1 | rw [zY] at h1 | rw [zZ] at h1 | rw [Aa] at h1 | rw [sP] at h1 | rw [Ab] at h1 | rw [GJ] at h1 | rw [AX] at h1
  all_goals cases h1
  all_goals exact ⟨_, rfl⟩
 | bool h1 =>
  refine ⟨?_, ?_, ?_, ?_, ?_, ?_, ?_, ?_, ?_, ?_, ?_, ?_, ?_, ?_, ?_, ?_, ?_, ?_, ?_, ?_, ?_, ?_, ?_, ?_⟩
  all_goals intro ht
  all_goals subst ht
  all_goals first | rw [Gx] at h1 | rw [OT] at h1 | rw [Gy] at h1 | rw [zV] at h1 | rw [EA] at h1 | rw [Gz] at h1 | rw [GA] at h1 | rw [ty_2] at h1 | rw [AV] at h1 | rw [za] at h1 | rw [zW] at h1 | rw [Bl] at h1 | rw [GD] at h1 | rw [GH] at h1 | rw [GI] at h1 | rw [wE] at h1 | rw [zX] at h1 | rw [zY] at h1 | rw [zZ] at h1 | rw [Aa] at h1 | rw [sP] at h1 | rw [Ab] at h1 | rw [GJ] at h1 | rw [AX] at h1
  all_goals cases h1
  all_goals exact ⟨_, rfl⟩
 | str h1 h2 =>
  refine ⟨?_, ?_, ?_, ?_, ?_, ?_, ?_, ?_, ?_, ?_, ?_, ?_, ?_, ?_, ?_, ?_, ?_, ?_, ?_, ?_, ?_, ?_, ?_, ?_⟩
  all_goals intro ht
  all_goals subst ht
  all_goals first | rw [Gx] at h1 | rw [OT] at h1 | rw [Gy] at h1 | rw [zV] at h1 | rw [EA] at h1 | rw [Gz] at h1 | rw [GA] at h1 | rw [ty_2] at h1 | rw [AV] at h1 | rw [za] at h1 | rw [zW] at h1 | rw [Bl] at h1 | rw [GD] at h1 | rw [GH] at h1 | rw [GI] at h1 | rw [wE] at h1 | rw [zX] at h1 | rw [zY] at h1 | rw [zZ] at h1 | rw [Aa] at h1 | rw [sP] at h1 | rw [Ab] at h1 | rw [GJ] at h1 | rw [AX] at h1
  all_goals cases h1
  all_goals exact ⟨_, rfl⟩
 | slice h1 h2 hb h3 h4 ih1 ih2 =>
  refine ⟨?_, ?_, ?_, ?_, ?_, ?_, ?_, ?_, ?_, ?_, ?_, ?_, ?_, ?_, ?_, ?_, ?_, ?_, ?_, ?_, ?_, ?_, ?_, ?_⟩
  all_goals intro ht
  all_goals subst ht
  all_goals first | rw [Gx] at h1 | rw [OT] at h1 | rw [Gy] at h1 | rw [zV] at h1 | rw [EA] at h1 | rw [Gz] at h1 | rw [GA] at h1 | rw [ty_2] at h1 | rw [AV] at h1 | rw [za] at h1 | rw [zW] at h1 | rw [Bl] at h1 | rw [GD] at h1 | rw [GH] at h1 | rw [GI] at h1 | rw [wE] at h1 | rw [zX] at h1 | rw [zY] at h1 | rw [zZ] at h1 | rw [Aa] at h1 | rw [sP] at h1 | rw [Ab] at h1 | rw [GJ] at h1 | rw [AX] at h1
  all_goals cases h1
  ·obtain ⟨l1, hl1⟩ := dW (fun r hr => (ih1 r hr).2.2.2.2.2.1 rfl)
   obtain ⟨l2, hl2⟩ := dW (fun r hr => (ih2 r hr).2.2.2.2.2.1 rfl)
   subst hl1; subst hl2
   refine ⟨⟨l1, some l2⟩, ?_⟩
   rw [← iq, ← iq]; rfl
  ·obtain ⟨l1, hl1⟩ := dW (fun r hr => (ih1 r hr).2.2.2.2.2.2.2.2.2.2.1 rfl)
   obtain ⟨l2, hl2⟩ := dW (fun r hr => (ih2 r hr).2.2.2.2.2.2.2.2.2.2.1 rfl)
   subst hl1; subst hl2
   refine ⟨⟨l1, some l2⟩, ?_⟩
   rw [← iw, ← iw]; rfl
  ·obtain ⟨l1, hl1⟩ := dW (fun r hr => (ih1 r hr).2.2.2.2.2.2.2.2.2.2.2.2.2.1 rfl)
   obtain ⟨l2, hl2⟩ := dW (fun r hr => (ih2 r hr).2.2.2.2.2.2.2.2.2.2.2.2.2.1 rfl)
   subst hl1; subst hl2
   refine ⟨⟨l1, some l2⟩, ?_⟩
   rfl
  ·obtain ⟨l1, hl1⟩ := dW (fun r hr => (ih1 r hr).2.2.2.2.2.2.2.2.2.2.2.2.2.2.2.2.1 rfl)
   obtain ⟨l2, hl2⟩ := dW (fun r hr => (ih2 r hr).2.2.2.2.2.2.2.2.2.2.2.2.2.2.2.2.1 rfl)
   subst hl1; subst hl2
   refine ⟨⟨l1, some l2⟩, ?_⟩
   rw [← kS, ← kS]; rfl
  ·obtain ⟨l1, hl1⟩ := dW (fun r hr => (ih1 r hr).2.2.2.2.2.2.2.2.2.2.2.2.2.2.2.2.2.2.1 rfl)
   obtain ⟨l2, hl2⟩ := dW (fun r hr => (ih2 r hr).2.2.2.2.2.2.2.2.2.2.2.2.2.2.2.2.2.2.1 rfl)
   subst hl1; subst hl2
   refine ⟨⟨l1, some l2⟩, ?_⟩
   rw [← jF, ← jF]; rfl
  ·obtain ⟨l1, hl1⟩ := dW (fun r hr => (ih1 r hr).2.2.2.1 rfl)
   obtain ⟨l2, hl2⟩ := dW (fun r hr => (ih2 r hr).2.2.2.1 rfl)
   subst hl1; subst hl2
   refine ⟨⟨l1, some l2⟩, ?_⟩
   rfl
  ·obtain ⟨l1, hl1⟩ := dW (fun r hr => (ih1 r hr).2.2.1 rfl)
   obtain ⟨l2, hl2⟩ := dW (fun r hr => (ih2 r hr).2.2.1 rfl)
   subst hl1; subst hl2
   refine ⟨⟨l1, some l2⟩, ?_⟩
   rfl
  ·obtain ⟨l1, hl1⟩ := dW (fun r hr => (ih1 r hr).1 rfl)
   obtain ⟨l2, hl2⟩ := dW (fun r hr => (ih2 r hr).1 rfl)
   subst hl1; subst hl2
   refine ⟨⟨l1, some l2⟩, ?_⟩
   rw [← iP, ← iP]; rfl
 | agg h1 h2 h3 ih =>
  refine ⟨?_, ?_, ?_, ?_, ?_, ?_, ?_, ?_, ?_, ?_, ?_, ?_, ?_, ?_, ?_, ?_, ?_, ?_, ?_, ?_, ?_, ?_, ?_, ?_⟩
  all_goals intro ht
  all_goals subst ht
  all_goals first | rw [Gx] at h1 | rw [OT] at h1 | rw [Gy] at h1 | rw [zV] at h1 | rw [EA] at h1 | rw [Gz] at h1 | rw [GA] at h1 | rw [ty_2] at h1 | rw [AV] at h1 | rw [za] at h1 | rw [zW] at h1 | rw [Bl] at h1 | rw [GD] at h1 | rw [GH] at h1 | rw [GI] at h1 | rw [wE] at h1 | rw [zX] at h1 | rw [zY] at h1 | rw [zZ] at h1 | rw [Aa] at h1 | rw [sP] at h1 | rw [Ab] at h1 | rw [GJ] at h1 | rw [AX] at h1
  all_goals cases h1
  ·obtain ⟨c0, c1, c2, c3, c4, c5, c6, c7, c8, c9, c10, c11, c12, c13, c14, c15, c16, c17, c18, c19, c20, c21, OP, c23, c24, OQ, c26, c27, c28, c29, c30, rfl⟩ : ∃ c0 c1 c2 c3 c4 c5 c6 c7 c8 c9 c10 c11 c12 c13 c14 c15 c16 c17 c18 c19 c20 c21 OP c23 c24 OQ c26 c27 c28 c29 c30, _ = [c0, c1, c2, c3, c4, c5, c6, c7, c8, c9, c10, c11, c12, c13, c14, c15, c16, c17, c18, c19, c20, c21, OP, c23, c24, OQ, c26, c27, c28, c29, c30] := afO h2
   obtain ⟨x0, e0⟩ := (ih (0, 1, 3) (by simp)).2.1 rfl
   replace e0 : [c0] = [.int .i64 x0] := e0
   obtain ⟨x1, e1⟩ := (ih (1, 11, 29) (by simp)).2.2.1 rfl
   replace e1 : [c1, c2, c3, c4, c5, c6, c7, c8, c9, c10, c11] = dU x1 := e1
   obtain ⟨x2, e2⟩ := (ih (12, 1, 30) (by simp)).2.2.2.2.2.2.2.2.2.2.2.2.1 rfl
   replace e2 : [c12] = [.sl (x2.l.map fun y => gP y) (x2.x.map (List.map fun y => gP y))] := e2
   obtain ⟨x3, e3⟩ := (ih (13, 1, 31) (by simp)).2.2.2.2.2.2.2.2.2.2.2.2.2.2.2.2.2.2.2.2.2.2.1 rfl
   replace e3 : [c13] = [.sl (x3.l.map fun y => dU y) (x3.x.map (List.map fun y => dU y))] := e3
   obtain ⟨x4, e4⟩ := (ih (14, 1, 32) (by simp)).2.2.2.2.2.2.2.2.2.2.2.2.2.2.2.2.2.2.2.2.2.2.2 rfl
   replace e4 : [c14] = [fM x4] := e4
   obtain ⟨x5, e5⟩ := (ih (15, 1, 3) (by simp)).2.1 rfl
   replace e5 : [c15] = [.int .i64 x5] := e5
   obtain ⟨x6, e6⟩ := (ih (16, 1, 4) (by simp)).2.2.2.2.2.2.2.2.2.2.2.1 rfl
   replace e6 : [c16] = [.bool x6] := e6
   obtain ⟨x7, e7⟩ := (ih (17, 1, 4) (by simp)).2.2.2.2.2.2.2.2.2.2.2.1 rfl
   replace e7 : [c17] = [.bool x7] := e7
   obtain ⟨x8, e8⟩ := (ih (18, 8, 27) (by simp)).2.2.2.2.2.1 rfl
   replace e8 : [c18, c19, c20, c21, OP, c23, c24, OQ] = dM x8 := e8
   obtain ⟨x9, e9⟩ := (ih (26, 1, 9) (by simp)).2.2.2.1 rfl
   replace e9 : [c26] = [.str x9] := e9
   obtain ⟨x10, e10⟩ := (ih (27, 1, 4) (by simp)).2.2.2.2.2.2.2.2.2.2.2.1 rfl
   replace e10 : [c27] = [.bool x10] := e10
   obtain ⟨EO, e11⟩ := (ih (28, 1, 32) (by simp)).2.2.2.2.2.2.2.2.2.2.2.2.2.2.2.2.2.2.2.2.2.2.2 rfl
   replace e11 : [c28] = [fM EO] := e11
   obtain ⟨Jw, e12⟩ := (ih (29, 1, 4) (by simp)).2.2.2.2.2.2.2.2.2.2.2.1 rfl
   replace e12 : [c29] = [.bool Jw] := e12
   obtain ⟨FZ, e13⟩ := (ih (30, 1, 4) (by simp)).2.2.2.2.2.2.2.2.2.2.2.1 rfl
   replace e13 : [c30] = [.bool FZ] := e13
   refine ⟨Inst.mk x0 x1 x2 x3 x4 x5 x6 x7 x8 x9 x10 EO Jw FZ, ?_⟩
   simp only [gG]
   rw [← e0, ← e1, ← e2, ← e3, ← e4, ← e5, ← e6, ← e7, ← e8, ← e9, ← e10, ← e11, ← e12, ← e13]
   rfl
  ·obtain ⟨c0, c1, c2, c3, c4, c5, c6, c7, c8, c9, c10, rfl⟩ : ∃ c0 c1 c2 c3 c4 c5 c6 c7 c8 c9 c10, _ = [c0, c1, c2, c3, c4, c5, c6, c7, c8, c9, c10] := afL h2
   obtain ⟨x0, e0⟩ := (ih (0, 1, 9) (by simp)).2.2.2.1 rfl
   replace e0 : [c0] = [.str x0] := e0
   obtain ⟨x1, e1⟩ := (ih (1, 1, 22) (by simp)).2.2.2.2.1 rfl
   replace e1 : [c1] = [.int .u8 x1] := e1
   obtain ⟨x2, e2⟩ := (ih (2, 1, 9) (by simp)).2.2.2.1 rfl
   replace e2 : [c2] = [.str x2] := e2
   obtain ⟨x3, e3⟩ := (ih (3, 8, 27) (by simp)).2.2.2.2.2.1 rfl
   replace e3 : [c3, c4, c5, c6, c7, c8, c9, c10] = dM x3 := e3
   refine ⟨Child.mk x0 x1 x2 x3, ?_⟩
   simp only [dU]
   rw [← e0, ← e1, ← e2, ← e3]
   rfl
  ·obtain ⟨c0, c1, c2, c3, c4, c5, c6, c7, rfl⟩ : ∃ c0 c1 c2 c3 c4 c5 c6 c7, _ = [c0, c1, c2, c3, c4, c5, c6, c7] := len8 h2
   obtain ⟨x0, e0⟩ := (ih (0, 1, 23) (by simp)).2.2.2.2.2.2.1 rfl
   replace e0 : [c0] = [.int .u8 x0] := e0
   obtain ⟨x1, e1⟩ := (ih (1, 1, 2) (by simp)).2.2.2.2.2.2.2.1 rfl
   replace e1 : [c1] = [.int .i64 x1] := e1
   obtain ⟨x2, e2⟩ := (ih (2, 1, 9) (by simp)).2.2.2.1 rfl
   replace e2 : [c2] = [.str x2] := e2
   obtain ⟨x3, e3⟩ := (ih (3, 1, 24) (by simp)).2.2.2.2.2.2.2.2.1 rfl
   replace e3 : [c3] = [fD x3] := e3
   obtain ⟨x4, e4⟩ := (ih (4, 1, 25) (by simp)).2.2.2.2.2.2.2.2.2.1 rfl
   replace e4 : [c4] = [eG x4] := e4
   obtain ⟨x5, e5⟩ := (ih (5, 1, 22) (by simp)).2.2.2.2.1 rfl
   replace e5 : [c5] = [.int .u8 x5] := e5
   obtain ⟨x6, e6⟩ := (ih (6, 1, 9) (by simp)).2.2.2.1 rfl
   replace e6 : [c6] = [.str x6] := e6
   obtain ⟨x7, e7⟩ := (ih (7, 1, 4) (by simp)).2.2.2.2.2.2.2.2.2.2.2.1 rfl
   replace e7 : [c7] = [.bool x7] := e7
   refine ⟨Value.mk x0 x1 x2 x3 x4 x5 x6 x7, ?_⟩
   simp only [dM]
   rw [← e0, ← e1, ← e2, ← e3, ← e4, ← e5, ← e6, ← e7]
   rfl
  ·obtain ⟨c0, c1, c2, c3, c4, c5, c6, c7, c8, rfl⟩ : ∃ c0 c1 c2 c3 c4 c5 c6 c7 c8, _ = [c0, c1, c2, c3, c4, c5, c6, c7, c8] := ahv h2
   obtain ⟨x0, e0⟩ := (ih (0, 1, 9) (by simp)).2.2.2.1 rfl
   replace e0 : [c0] = [.str x0] := e0
   obtain ⟨x1, e1⟩ := (ih (1, 8, 27) (by simp)).2.2.2.2.2.1 rfl
   replace e1 : [c1, c2, c3, c4, c5, c6, c7, c8] = dM x1 := e1
   refine ⟨Field.mk x0 x1, ?_⟩
   simp only [gN]
   rw [← e0, ← e1]
   rfl
  ·obtain ⟨c0, c1, c2, c3, c4, c5, c6, c7, c8, c9, c10, c11, c12, c13, c14, c15, c16, c17, c18, c19, c20, c21, OP, c23, c24, OQ, rfl⟩ : ∃ c0 c1 c2 c3 c4 c5 c6 c7 c8 c9 c10 c11 c12 c13 c14 c15 c16 c17 c18 c19 c20 c21 OP c23 c24 OQ, _ = [c0, c1, c2, c3, c4, c5, c6, c7, c8, c9, c10, c11, c12, c13, c14, c15, c16, c17, c18, c19, c20, c21, OP, c23, c24, OQ] := afN h2
   obtain ⟨x0, e0⟩ := (ih (0, 1, 75) (by simp)).2.2.2.2.2.2.2.2.2.2.2.2.2.2.1 rfl
   replace e0 : [c0] = [.int .u8 x0] := e0
   obtain ⟨x1, e1⟩ := (ih (1, 1, 9) (by simp)).2.2.2.1 rfl
   replace e1 : [c1] = [.str x1] := e1
   obtain ⟨x2, e2⟩ := (ih (2, 8, 27) (by simp)).2.2.2.2.2.1 rfl
   replace e2 : [c2, c3, c4, c5, c6, c7, c8, c9] = dM x2 := e2
   obtain ⟨x3, e3⟩ := (ih (10, 8, 27) (by simp)).2.2.2.2.2.1 rfl
   replace e3 : [c10, c11, c12, c13, c14, c15, c16, c17] = dM x3 := e3
   obtain ⟨x4, e4⟩ := (ih (18, 1, 24) (by simp)).2.2.2.2.2.2.2.2.1 rfl
   replace e4 : [c18] = [fD x4] := e4
   obtain ⟨x5, e5⟩ := (ih (19, 1, 76) (by simp)).2.2.2.2.2.2.2.2.2.2.2.2.2.2.2.1 rfl
   replace e5 : [c19] = [gY x5] := e5
   obtain ⟨x6, e6⟩ := (ih (20, 1, 76) (by simp)).2.2.2.2.2.2.2.2.2.2.2.2.2.2.2.1 rfl
   replace e6 : [c20] = [gY x6] := e6
   obtain ⟨x7, e7⟩ := (ih (21, 1, 25) (by simp)).2.2.2.2.2.2.2.2.2.1 rfl
   replace e7 : [c21] = [eG x7] := e7
   obtain ⟨x8, e8⟩ := (ih (22, 1, 4) (by simp)).2.2.2.2.2.2.2.2.2.2.2.1 rfl
   replace e8 : [OP] = [.bool x8] := e8
   obtain ⟨x9, e9⟩ := (ih (23, 1, 4) (by simp)).2.2.2.2.2.2.2.2.2.2.2.1 rfl
   replace e9 : [c23] = [.bool x9] := e9
   obtain ⟨x10, e10⟩ := (ih (24, 1, 76) (by simp)).2.2.2.2.2.2.2.2.2.2.2.2.2.2.2.1 rfl
   replace e10 : [c24] = [gY x10] := e10
   obtain ⟨EO, e11⟩ := (ih (25, 1, 25) (by simp)).2.2.2.2.2.2.2.2.2.1 rfl
   replace e11 : [OQ] = [eG EO] := e11
   refine ⟨Cell.mk x0 x1 x2 x3 x4 x5 x6 x7 x8 x9 x10 EO, ?_⟩
   simp only [gP]
   rw [← e0, ← e1, ← e2, ← e3, ← e4, ← e5, ← e6, ← e7, ← e8, ← e9, ← e10, ← e11]
   rfl
  ·obtain ⟨c0, c1, c2, c3, c4, c5, c6, c7, c8, c9, c10, c11, rfl⟩ : ∃ c0 c1 c2 c3 c4 c5 c6 c7 c8 c9 c10 c11, _ = [c0, c1, c2, c3, c4, c5, c6, c7, c8, c9, c10, c11] := afM h2
   obtain ⟨x0, e0⟩ := (ih (0, 1, 121) (by simp)).2.2.2.2.2.2.2.2.2.2.2.2.2.2.2.2.2.1 rfl
   replace e0 : [c0] = [.int .u8 x0] := e0
   obtain ⟨x1, e1⟩ := (ih (1, 1, 9) (by simp)).2.2.2.1 rfl
   replace e1 : [c1] = [.str x1] := e1
   obtain ⟨x2, e2⟩ := (ih (2, 10, 126) (by simp)).2.2.2.2.2.2.2.2.2.2.2.2.2.2.2.2.2.2.1 rfl
   replace e2 : [c2, c3, c4, c5, c6, c7, c8, c9, c10, c11] = iD x2 := e2
   refine ⟨Act.mk x0 x1 x2, ?_⟩
   simp only [lX]
   rw [← e0, ← e1, ← e2]
   rfl
  ·obtain ⟨c0, c1, c2, c3, c4, c5, c6, c7, c8, c9, rfl⟩ : ∃ c0 c1 c2 c3 c4 c5 c6 c7 c8 c9, _ = [c0, c1, c2, c3, c4, c5, c6, c7, c8, c9] := afK h2
   obtain ⟨x0, e0⟩ := (ih (0, 1, 122) (by simp)).2.2.2.2.2.2.2.2.2.2.2.2.2.2.2.2.2.2.2.1 rfl
   replace e0 : [c0] = [.int .u8 x0] := e0
   obtain ⟨x1, e1⟩ := (ih (1, 1, 2) (by simp)).2.2.2.2.2.2.2.1 rfl
   replace e1 : [c1] = [.int .i64 x1] := e1
   obtain ⟨x2, e2⟩ := (ih (2, 1, 9) (by simp)).2.2.2.1 rfl
   replace e2 : [c2] = [.str x2] := e2
   obtain ⟨x3, e3⟩ := (ih (3, 1, 123) (by simp)).2.2.2.2.2.2.2.2.2.2.2.2.2.2.2.2.2.2.2.2.1 rfl
   replace e3 : [c3] = [gy x3] := e3
   obtain ⟨x4, e4⟩ := (ih (4, 1, 124) (by simp)).2.2.2.2.2.2.2.2.2.2.2.2.2.2.2.2.2.2.2.2.2.1 rfl
   replace e4 : [c4] = [.sl (x4.l.map fun y => [.str y]) (x4.x.map (List.map fun y => [.str y]))] := e4
   obtain ⟨x5, e5⟩ := (ih (5, 1, 123) (by simp)).2.2.2.2.2.2.2.2.2.2.2.2.2.2.2.2.2.2.2.2.1 rfl
   replace e5 : [c5] = [gy x5] := e5
   obtain ⟨x6, e6⟩ := (ih (6, 1, 22) (by simp)).2.2.2.2.1 rfl
   replace e6 : [c6] = [.int .u8 x6] := e6
   obtain ⟨x7, e7⟩ := (ih (7, 1, 123) (by simp)).2.2.2.2.2.2.2.2.2.2.2.2.2.2.2.2.2.2.2.2.1 rfl
   replace e7 : [c7] = [gy x7] := e7
   obtain ⟨x8, e8⟩ := (ih (8, 1, 76) (by simp)).2.2.2.2.2.2.2.2.2.2.2.2.2.2.2.1 rfl
   replace e8 : [c8] = [gY x8] := e8
   obtain ⟨x9, e9⟩ := (ih (9, 1, 9) (by simp)).2.2.2.1 rfl
   replace e9 : [c9] = [.str x9] := e9
   refine ⟨Expr.mk x0 x1 x2 x3 x4 x5 x6 x7 x8 x9, ?_⟩
   simp only [iD]
   rw [← e0, ← e1, ← e2, ← e3, ← e4, ← e5, ← e6, ← e7, ← e8, ← e9]
   rfl
theorem afP {l : List D} (h : WT tab 34 l) : ∃ x : Inst, l = gG x := (OU h).1 rfl
theorem afQ {l : List D} (h : WT tab 29 l) : ∃ x : Child, l = dU x := (OU h).2.2.1 rfl
theorem VY {l : List D} (h : WT tab 27 l) : ∃ x : Value, l = dM x := (OU h).2.2.2.2.2.1 rfl
end Go.Proofs.Ytedfkehkcaaplaa
