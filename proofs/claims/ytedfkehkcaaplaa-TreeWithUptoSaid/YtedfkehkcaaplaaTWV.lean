/- Data of a type is an encoded value: printed by a small program. -/
import Derived.Test.YtedfkehkcaaplaaTWE
import Derived.Test.YtedfkehkcaaplaaXP
namespace Go.Proofs.Ytedfkehkcaaplaa
open Go Go.X
set_option linter.unusedVariables false
set_option linter.unusedSimpArgs false
set_option maxRecDepth 100000
theorem len8 {l : List D} (h : l.length = 8) : ∃ c0 c1 c2 c3 c4 c5 c6 c7, l = [c0, c1, c2, c3, c4, c5, c6, c7] := by
 match l, h with
 | [c0, c1, c2, c3, c4, c5, c6, c7], _ => exact ⟨c0, c1, c2, c3, c4, c5, c6, c7, rfl⟩
theorem aAb {l : List D} (h : l.length = 9) : ∃ c0 c1 c2 c3 c4 c5 c6 c7 c8, l = [c0, c1, c2, c3, c4, c5, c6, c7, c8] := by
 match l, h with
 | [c0, c1, c2, c3, c4, c5, c6, c7, c8], _ => exact ⟨c0, c1, c2, c3, c4, c5, c6, c7, c8, rfl⟩
theorem ayu {l : List D} (h : l.length = 10) : ∃ c0 c1 c2 c3 c4 c5 c6 c7 c8 c9, l = [c0, c1, c2, c3, c4, c5, c6, c7, c8, c9] := by
 match l, h with
 | [c0, c1, c2, c3, c4, c5, c6, c7, c8, c9], _ => exact ⟨c0, c1, c2, c3, c4, c5, c6, c7, c8, c9, rfl⟩
theorem ayv {l : List D} (h : l.length = 11) : ∃ c0 c1 c2 c3 c4 c5 c6 c7 c8 c9 c10, l = [c0, c1, c2, c3, c4, c5, c6, c7, c8, c9, c10] := by
 match l, h with
 | [c0, c1, c2, c3, c4, c5, c6, c7, c8, c9, c10], _ => exact ⟨c0, c1, c2, c3, c4, c5, c6, c7, c8, c9, c10, rfl⟩
theorem ayw {l : List D} (h : l.length = 12) : ∃ c0 c1 c2 c3 c4 c5 c6 c7 c8 c9 c10 c11, l = [c0, c1, c2, c3, c4, c5, c6, c7, c8, c9, c10, c11] := by
 match l, h with
 | [c0, c1, c2, c3, c4, c5, c6, c7, c8, c9, c10, c11], _ => exact ⟨c0, c1, c2, c3, c4, c5, c6, c7, c8, c9, c10, c11, rfl⟩
theorem ayx {l : List D} (h : l.length = 26) : ∃ c0 c1 c2 c3 c4 c5 c6 c7 c8 c9 c10 c11 c12 c13 c14 c15 c16 c17 c18 c19 c20 c21 c22 c23 c24 U3, l = [c0, c1, c2, c3, c4, c5, c6, c7, c8, c9, c10, c11, c12, c13, c14, c15, c16, c17, c18, c19, c20, c21, c22, c23, c24, U3] := by
 match l, h with
 | [c0, c1, c2, c3, c4, c5, c6, c7, c8, c9, c10, c11, c12, c13, c14, c15, c16, c17, c18, c19, c20, c21, c22, c23, c24, U3], _ => exact ⟨c0, c1, c2, c3, c4, c5, c6, c7, c8, c9, c10, c11, c12, c13, c14, c15, c16, c17, c18, c19, c20, c21, c22, c23, c24, U3, rfl⟩
theorem ayy {l : List D} (h : l.length = 31) : ∃ c0 c1 c2 c3 c4 c5 c6 c7 c8 c9 c10 c11 c12 c13 c14 c15 c16 c17 c18 c19 c20 c21 c22 c23 c24 U3 c26 c27 c28 c29 c30, l = [c0, c1, c2, c3, c4, c5, c6, c7, c8, c9, c10, c11, c12, c13, c14, c15, c16, c17, c18, c19, c20, c21, c22, c23, c24, U3, c26, c27, c28, c29, c30] := by
 match l, h with
 | [c0, c1, c2, c3, c4, c5, c6, c7, c8, c9, c10, c11, c12, c13, c14, c15, c16, c17, c18, c19, c20, c21, c22, c23, c24, U3, c26, c27, c28, c29, c30], _ => exact ⟨c0, c1, c2, c3, c4, c5, c6, c7, c8, c9, c10, c11, c12, c13, c14, c15, c16, c17, c18, c19, c20, c21, c22, c23, c24, U3, c26, c27, c28, c29, c30, rfl⟩
theorem TP : tab.ty 34 = .agg 31 [(0, 1, 3), (1, 11, 29), (12, 1, 30), (13, 1, 31), (14, 1, 32), (15, 1, 3), (16, 1, 4), (17, 1, 4), (18, 8, 27), (26, 1, 9), (27, 1, 4), (28, 1, 32), (29, 1, 4), (30, 1, 4)] := rfl
theorem acE : tab.ty 3 = .int .i64 := rfl
theorem TQ : tab.ty 29 = .agg 11 [(0, 1, 9), (1, 1, 22), (2, 1, 9), (3, 8, 27)] := rfl
theorem Lb : tab.ty 9 = .str := rfl
theorem RO : tab.ty 22 = .int .u8 := rfl
theorem TR : tab.ty 27 = .agg 8 [(0, 1, 23), (1, 1, 2), (2, 1, 9), (3, 1, 24), (4, 1, 25), (5, 1, 22), (6, 1, 9), (7, 1, 4)] := rfl
theorem TS : tab.ty 23 = .int .u8 := rfl
theorem ty_2 : tab.ty 2 = .int .i64 := rfl
theorem Mc : tab.ty 24 = .slice 27 8 112 := rfl
theorem Ky : tab.ty 25 = .slice 112 9 128 := rfl
theorem Lc : tab.ty 112 = .agg 9 [(0, 1, 9), (1, 8, 27)] := rfl
theorem Mw : tab.ty 4 = .bool := rfl
theorem TT : tab.ty 30 = .slice 78 26 400 := rfl
theorem TU : tab.ty 78 = .agg 26 [(0, 1, 75), (1, 1, 9), (2, 8, 27), (10, 8, 27), (18, 1, 24), (19, 1, 76), (20, 1, 76), (21, 1, 25), (22, 1, 4), (23, 1, 4), (24, 1, 76), (25, 1, 25)] := rfl
theorem TV : tab.ty 75 = .int .u8 := rfl
theorem FQ : tab.ty 76 = .slice 128 12 200 := rfl
theorem Ld : tab.ty 128 = .agg 12 [(0, 1, 121), (1, 1, 9), (2, 10, 126)] := rfl
theorem Lf : tab.ty 121 = .int .u8 := rfl
theorem Lg : tab.ty 126 = .agg 10 [(0, 1, 122), (1, 1, 2), (2, 1, 9), (3, 1, 123), (4, 1, 124), (5, 1, 123), (6, 1, 22), (7, 1, 123), (8, 1, 76), (9, 1, 9)] := rfl
theorem Lh : tab.ty 122 = .int .u8 := rfl
theorem Cn : tab.ty 123 = .slice 126 10 176 := rfl
theorem Li : tab.ty 124 = .slice 9 1 16 := rfl
theorem TW : tab.ty 31 = .slice 29 11 152 := rfl
theorem Md : tab.ty 32 = .slice 34 31 416 := rfl
theorem afR : tab.ty 5 = .int .u8 := rfl
theorem acF {t : Nat} {l : List D} (h : WT tab t l) :
  (t = 34 → ∃ x : Inst, l = jO x) ∧
  (t = 3 → ∃ x : Int, l = [.int .i64 x]) ∧
  (t = 29 → ∃ x : Child, l = fZ x) ∧
  (t = 9 → ∃ x : ByteArray, l = [.str x]) ∧
  (t = 22 → ∃ x : Int, l = [.int .u8 x]) ∧
  (t = 27 → ∃ x : Value, l = fK x) ∧
  (t = 23 → ∃ x : Int, l = [.int .u8 x]) ∧
  (t = 2 → ∃ x : Int, l = [.int .i64 x]) ∧
  (t = 24 → ∃ x : Sl Value, l = [iI x]) ∧
  (t = 25 → ∃ x : Sl Field, l = [gU x]) ∧
  (t = 112 → ∃ x : Field, l = jY x) ∧
  (t = 4 → ∃ x : Bool, l = [.bool x]) ∧
  (t = 30 → ∃ x : Sl Cell, l = [.sl (x.l.map fun y => jZ y) (x.x.map (List.map fun y => jZ y))]) ∧
  (t = 78 → ∃ x : Cell, l = jZ x) ∧
  (t = 75 → ∃ x : Int, l = [.int .u8 x]) ∧
  (t = 76 → ∃ x : Sl Act, l = [kG x]) ∧
  (t = 128 → ∃ x : Act, l = qC x) ∧
  (t = 121 → ∃ x : Int, l = [.int .u8 x]) ∧
  (t = 126 → ∃ x : Expr, l = lq x) ∧
  (t = 122 → ∃ x : Int, l = [.int .u8 x]) ∧
  (t = 123 → ∃ x : Sl Expr, l = [jK x]) ∧
  (t = 124 → ∃ x : Sl ByteArray, l = [.sl (x.l.map fun y => [.str y]) (x.x.map (List.map fun y => [.str y]))]) ∧
  (t = 31 → ∃ x : Sl Child, l = [.sl (x.l.map fun y => fZ y) (x.x.map (List.map fun y => fZ y))]) ∧
  (t = 32 → ∃ x : Sl Inst, l = [jo x]) ∧
  (t = 5 → ∃ x : Int, l = [.int .u8 x]) := by
 induction h with
 | int h1 h2 =>
  refine ⟨?_, ?_, ?_, ?_, ?_, ?_, ?_, ?_, ?_, ?_, ?_, ?_, ?_, ?_, ?_, ?_, ?_, ?_, ?_, ?_, ?_, ?_, ?_, ?_, ?_⟩
  ·intro ht
   subst ht
   rw [TP] at h1
   cases h1
  ·intro ht
   subst ht
   rw [acE] at h1
   cases h1
   exact ⟨_, rfl⟩
  ·intro ht
   subst ht
   rw [TQ] at h1
   cases h1
  ·intro ht
   subst ht
   rw [Lb] at h1
   cases h1
  ·intro ht
   subst ht
   rw [RO] at h1
   cases h1
   exact ⟨_, rfl⟩
  ·intro ht
   subst ht
   rw [TR] at h1
   cases h1
  ·intro ht
   subst ht
   rw [TS] at h1
   cases h1
   exact ⟨_, rfl⟩
  ·intro ht
   subst ht
   rw [ty_2] at h1
   cases h1
   exact ⟨_, rfl⟩
  ·intro ht
   subst ht
   rw [Mc] at h1
   cases h1
  ·intro ht
   subst ht
   rw [Ky] at h1
   cases h1
  ·intro ht
   subst ht
   rw [Lc] at h1
   cases h1
  ·intro ht
   subst ht
   rw [Mw] at h1
   cases h1
  ·intro ht
   subst ht
   rw [TT] at h1
   cases h1
  ·intro ht
   subst ht
   rw [TU] at h1
   cases h1
  ·intro ht
   subst ht
   rw [TV] at h1
   cases h1
   exact ⟨_, rfl⟩
  ·intro ht
   subst ht
   rw [FQ] at h1
   cases h1
  ·intro ht
   subst ht
   rw [Ld] at h1
   cases h1
  ·intro ht
   subst ht
   rw [Lf] at h1
   cases h1
   exact ⟨_, rfl⟩
  ·intro ht
   subst ht
   rw [Lg] at h1
   cases h1
  ·intro ht
   subst ht
   rw [Lh] at h1
   cases h1
   exact ⟨_, rfl⟩
  ·intro ht
   subst ht
   rw [Cn] at h1
   cases h1
  ·intro ht
   subst ht
   rw [Li] at h1
   cases h1
  ·intro ht
   subst ht
   rw [TW] at h1
   cases h1
  ·intro ht
   subst ht
   rw [Md] at h1
   cases h1
  ·intro ht
   subst ht
   rw [afR] at h1
   cases h1
   exact ⟨_, rfl⟩
 | bool h1 =>
  refine ⟨?_, ?_, ?_, ?_, ?_, ?_, ?_, ?_, ?_, ?_, ?_, ?_, ?_, ?_, ?_, ?_, ?_, ?_, ?_, ?_, ?_, ?_, ?_, ?_, ?_⟩
  ·intro ht
   subst ht
   rw [TP] at h1
   cases h1
  ·intro ht
   subst ht
   rw [acE] at h1
   cases h1
  ·intro ht
   subst ht
   rw [TQ] at h1
   cases h1
  ·intro ht
   subst ht
   rw [Lb] at h1
   cases h1
  ·intro ht
   subst ht
   rw [RO] at h1
   cases h1
  ·intro ht
   subst ht
   rw [TR] at h1
   cases h1
  ·intro ht
   subst ht
   rw [TS] at h1
   cases h1
  ·intro ht
   subst ht
   rw [ty_2] at h1
   cases h1
  ·intro ht
   subst ht
   rw [Mc] at h1
   cases h1
  ·intro ht
   subst ht
   rw [Ky] at h1
   cases h1
  ·intro ht
   subst ht
   rw [Lc] at h1
   cases h1
  ·intro ht
   subst ht
   rw [Mw] at h1
   cases h1
   exact ⟨_, rfl⟩
  ·intro ht
   subst ht
   rw [TT] at h1
   cases h1
  ·intro ht
   subst ht
   rw [TU] at h1
   cases h1
  ·intro ht
   subst ht
   rw [TV] at h1
   cases h1
  ·intro ht
   subst ht
   rw [FQ] at h1
   cases h1
  ·intro ht
   subst ht
   rw [Ld] at h1
   cases h1
  ·intro ht
   subst ht
   rw [Lf] at h1
   cases h1
  ·intro ht
   subst ht
   rw [Lg] at h1
   cases h1
  ·intro ht
   subst ht
   rw [Lh] at h1
   cases h1
  ·intro ht
   subst ht
   rw [Cn] at h1
   cases h1
  ·intro ht
   subst ht
   rw [Li] at h1
   cases h1
  ·intro ht
   subst ht
   rw [TW] at h1
   cases h1
  ·intro ht
   subst ht
   rw [Md] at h1
   cases h1
  ·intro ht
   subst ht
   rw [afR] at h1
   cases h1
 | str h1 h2 =>
  refine ⟨?_, ?_, ?_, ?_, ?_, ?_, ?_, ?_, ?_, ?_, ?_, ?_, ?_, ?_, ?_, ?_, ?_, ?_, ?_, ?_, ?_, ?_, ?_, ?_, ?_⟩
  ·intro ht
   subst ht
   rw [TP] at h1
   cases h1
  ·intro ht
   subst ht
   rw [acE] at h1
   cases h1
  ·intro ht
   subst ht
   rw [TQ] at h1
   cases h1
  ·intro ht
   subst ht
   rw [Lb] at h1
   cases h1
   exact ⟨_, rfl⟩
  ·intro ht
   subst ht
   rw [RO] at h1
   cases h1
  ·intro ht
   subst ht
   rw [TR] at h1
   cases h1
  ·intro ht
   subst ht
   rw [TS] at h1
   cases h1
  ·intro ht
   subst ht
   rw [ty_2] at h1
   cases h1
  ·intro ht
   subst ht
   rw [Mc] at h1
   cases h1
  ·intro ht
   subst ht
   rw [Ky] at h1
   cases h1
  ·intro ht
   subst ht
   rw [Lc] at h1
   cases h1
  ·intro ht
   subst ht
   rw [Mw] at h1
   cases h1
  ·intro ht
   subst ht
   rw [TT] at h1
   cases h1
  ·intro ht
   subst ht
   rw [TU] at h1
   cases h1
  ·intro ht
   subst ht
   rw [TV] at h1
   cases h1
  ·intro ht
   subst ht
   rw [FQ] at h1
   cases h1
  ·intro ht
   subst ht
   rw [Ld] at h1
   cases h1
  ·intro ht
   subst ht
   rw [Lf] at h1
   cases h1
  ·intro ht
   subst ht
   rw [Lg] at h1
   cases h1
  ·intro ht
   subst ht
   rw [Lh] at h1
   cases h1
  ·intro ht
   subst ht
   rw [Cn] at h1
   cases h1
  ·intro ht
   subst ht
   rw [Li] at h1
   cases h1
  ·intro ht
   subst ht
   rw [TW] at h1
   cases h1
  ·intro ht
   subst ht
   rw [Md] at h1
   cases h1
  ·intro ht
   subst ht
   rw [afR] at h1
   cases h1
 | slice h1 h2 hb h3 h4 ih1 ih2 =>
  refine ⟨?_, ?_, ?_, ?_, ?_, ?_, ?_, ?_, ?_, ?_, ?_, ?_, ?_, ?_, ?_, ?_, ?_, ?_, ?_, ?_, ?_, ?_, ?_, ?_, ?_⟩
  ·intro ht
   subst ht
   rw [TP] at h1
   cases h1
  ·intro ht
   subst ht
   rw [acE] at h1
   cases h1
  ·intro ht
   subst ht
   rw [TQ] at h1
   cases h1
  ·intro ht
   subst ht
   rw [Lb] at h1
   cases h1
  ·intro ht
   subst ht
   rw [RO] at h1
   cases h1
  ·intro ht
   subst ht
   rw [TR] at h1
   cases h1
  ·intro ht
   subst ht
   rw [TS] at h1
   cases h1
  ·intro ht
   subst ht
   rw [ty_2] at h1
   cases h1
  ·intro ht
   subst ht
   rw [Mc] at h1
   cases h1
   obtain ⟨l1, hl1⟩ := gH (fun r hr => (ih1 r hr).2.2.2.2.2.1 rfl)
   obtain ⟨l2, hl2⟩ := gH (fun r hr => (ih2 r hr).2.2.2.2.2.1 rfl)
   subst hl1; subst hl2
   refine ⟨⟨l1, some l2⟩, ?_⟩
   rw [← kN, ← kN]; rfl
  ·intro ht
   subst ht
   rw [Ky] at h1
   cases h1
   obtain ⟨l1, hl1⟩ := gH (fun r hr => (ih1 r hr).2.2.2.2.2.2.2.2.2.2.1 rfl)
   obtain ⟨l2, hl2⟩ := gH (fun r hr => (ih2 r hr).2.2.2.2.2.2.2.2.2.2.1 rfl)
   subst hl1; subst hl2
   refine ⟨⟨l1, some l2⟩, ?_⟩
   rw [← kP, ← kP]; rfl
  ·intro ht
   subst ht
   rw [Lc] at h1
   cases h1
  ·intro ht
   subst ht
   rw [Mw] at h1
   cases h1
  ·intro ht
   subst ht
   rw [TT] at h1
   cases h1
   obtain ⟨l1, hl1⟩ := gH (fun r hr => (ih1 r hr).2.2.2.2.2.2.2.2.2.2.2.2.2.1 rfl)
   obtain ⟨l2, hl2⟩ := gH (fun r hr => (ih2 r hr).2.2.2.2.2.2.2.2.2.2.2.2.2.1 rfl)
   subst hl1; subst hl2
   refine ⟨⟨l1, some l2⟩, ?_⟩
   rfl
  ·intro ht
   subst ht
   rw [TU] at h1
   cases h1
  ·intro ht
   subst ht
   rw [TV] at h1
   cases h1
  ·intro ht
   subst ht
   rw [FQ] at h1
   cases h1
   obtain ⟨l1, hl1⟩ := gH (fun r hr => (ih1 r hr).2.2.2.2.2.2.2.2.2.2.2.2.2.2.2.2.1 rfl)
   obtain ⟨l2, hl2⟩ := gH (fun r hr => (ih2 r hr).2.2.2.2.2.2.2.2.2.2.2.2.2.2.2.2.1 rfl)
   subst hl1; subst hl2
   refine ⟨⟨l1, some l2⟩, ?_⟩
   rw [← pG, ← pG]; rfl
  ·intro ht
   subst ht
   rw [Ld] at h1
   cases h1
  ·intro ht
   subst ht
   rw [Lf] at h1
   cases h1
  ·intro ht
   subst ht
   rw [Lg] at h1
   cases h1
  ·intro ht
   subst ht
   rw [Lh] at h1
   cases h1
  ·intro ht
   subst ht
   rw [Cn] at h1
   cases h1
   obtain ⟨l1, hl1⟩ := gH (fun r hr => (ih1 r hr).2.2.2.2.2.2.2.2.2.2.2.2.2.2.2.2.2.2.1 rfl)
   obtain ⟨l2, hl2⟩ := gH (fun r hr => (ih2 r hr).2.2.2.2.2.2.2.2.2.2.2.2.2.2.2.2.2.2.1 rfl)
   subst hl1; subst hl2
   refine ⟨⟨l1, some l2⟩, ?_⟩
   rw [← nT, ← nT]; rfl
  ·intro ht
   subst ht
   rw [Li] at h1
   cases h1
   obtain ⟨l1, hl1⟩ := gH (fun r hr => (ih1 r hr).2.2.2.1 rfl)
   obtain ⟨l2, hl2⟩ := gH (fun r hr => (ih2 r hr).2.2.2.1 rfl)
   subst hl1; subst hl2
   refine ⟨⟨l1, some l2⟩, ?_⟩
   rfl
  ·intro ht
   subst ht
   rw [TW] at h1
   cases h1
   obtain ⟨l1, hl1⟩ := gH (fun r hr => (ih1 r hr).2.2.1 rfl)
   obtain ⟨l2, hl2⟩ := gH (fun r hr => (ih2 r hr).2.2.1 rfl)
   subst hl1; subst hl2
   refine ⟨⟨l1, some l2⟩, ?_⟩
   rfl
  ·intro ht
   subst ht
   rw [Md] at h1
   cases h1
   obtain ⟨l1, hl1⟩ := gH (fun r hr => (ih1 r hr).1 rfl)
   obtain ⟨l2, hl2⟩ := gH (fun r hr => (ih2 r hr).1 rfl)
   subst hl1; subst hl2
   refine ⟨⟨l1, some l2⟩, ?_⟩
   rw [← mJ, ← mJ]; rfl
  ·intro ht
   subst ht
   rw [afR] at h1
   cases h1
 | agg h1 h2 h3 ih =>
  refine ⟨?_, ?_, ?_, ?_, ?_, ?_, ?_, ?_, ?_, ?_, ?_, ?_, ?_, ?_, ?_, ?_, ?_, ?_, ?_, ?_, ?_, ?_, ?_, ?_, ?_⟩
  ·intro ht
   subst ht
   rw [TP] at h1
   cases h1
   obtain ⟨c0, c1, c2, c3, c4, c5, c6, c7, c8, c9, c10, c11, c12, c13, c14, c15, c16, c17, c18, c19, c20, c21, c22, c23, c24, U3, c26, c27, c28, c29, c30, rfl⟩ : ∃ c0 c1 c2 c3 c4 c5 c6 c7 c8 c9 c10 c11 c12 c13 c14 c15 c16 c17 c18 c19 c20 c21 c22 c23 c24 U3 c26 c27 c28 c29 c30, _ = [c0, c1, c2, c3, c4, c5, c6, c7, c8, c9, c10, c11, c12, c13, c14, c15, c16, c17, c18, c19, c20, c21, c22, c23, c24, U3, c26, c27, c28, c29, c30] := ayy h2
   obtain ⟨x0, e0⟩ := (ih (0, 1, 3) (by simp)).2.1 rfl
   replace e0 : [c0] = [.int .i64 x0] := e0
   obtain ⟨x1, e1⟩ := (ih (1, 11, 29) (by simp)).2.2.1 rfl
   replace e1 : [c1, c2, c3, c4, c5, c6, c7, c8, c9, c10, c11] = fZ x1 := e1
   obtain ⟨x2, e2⟩ := (ih (12, 1, 30) (by simp)).2.2.2.2.2.2.2.2.2.2.2.2.1 rfl
   replace e2 : [c12] = [.sl (x2.l.map fun y => jZ y) (x2.x.map (List.map fun y => jZ y))] := e2
   obtain ⟨x3, e3⟩ := (ih (13, 1, 31) (by simp)).2.2.2.2.2.2.2.2.2.2.2.2.2.2.2.2.2.2.2.2.2.2.1 rfl
   replace e3 : [c13] = [.sl (x3.l.map fun y => fZ y) (x3.x.map (List.map fun y => fZ y))] := e3
   obtain ⟨x4, e4⟩ := (ih (14, 1, 32) (by simp)).2.2.2.2.2.2.2.2.2.2.2.2.2.2.2.2.2.2.2.2.2.2.2.1 rfl
   replace e4 : [c14] = [jo x4] := e4
   obtain ⟨x5, e5⟩ := (ih (15, 1, 3) (by simp)).2.1 rfl
   replace e5 : [c15] = [.int .i64 x5] := e5
   obtain ⟨x6, e6⟩ := (ih (16, 1, 4) (by simp)).2.2.2.2.2.2.2.2.2.2.2.1 rfl
   replace e6 : [c16] = [.bool x6] := e6
   obtain ⟨x7, e7⟩ := (ih (17, 1, 4) (by simp)).2.2.2.2.2.2.2.2.2.2.2.1 rfl
   replace e7 : [c17] = [.bool x7] := e7
   obtain ⟨x8, e8⟩ := (ih (18, 8, 27) (by simp)).2.2.2.2.2.1 rfl
   replace e8 : [c18, c19, c20, c21, c22, c23, c24, U3] = fK x8 := e8
   obtain ⟨x9, e9⟩ := (ih (26, 1, 9) (by simp)).2.2.2.1 rfl
   replace e9 : [c26] = [.str x9] := e9
   obtain ⟨x10, e10⟩ := (ih (27, 1, 4) (by simp)).2.2.2.2.2.2.2.2.2.2.2.1 rfl
   replace e10 : [c27] = [.bool x10] := e10
   obtain ⟨WW, e11⟩ := (ih (28, 1, 32) (by simp)).2.2.2.2.2.2.2.2.2.2.2.2.2.2.2.2.2.2.2.2.2.2.2.1 rfl
   replace e11 : [c28] = [jo WW] := e11
   obtain ⟨WQ, e12⟩ := (ih (29, 1, 4) (by simp)).2.2.2.2.2.2.2.2.2.2.2.1 rfl
   replace e12 : [c29] = [.bool WQ] := e12
   obtain ⟨Ti, e13⟩ := (ih (30, 1, 4) (by simp)).2.2.2.2.2.2.2.2.2.2.2.1 rfl
   replace e13 : [c30] = [.bool Ti] := e13
   refine ⟨Inst.mk x0 x1 x2 x3 x4 x5 x6 x7 x8 x9 x10 WW WQ Ti, ?_⟩
   simp only [jO]
   rw [← e0, ← e1, ← e2, ← e3, ← e4, ← e5, ← e6, ← e7, ← e8, ← e9, ← e10, ← e11, ← e12, ← e13]
   rfl
  ·intro ht
   subst ht
   rw [acE] at h1
   cases h1
  ·intro ht
   subst ht
   rw [TQ] at h1
   cases h1
   obtain ⟨c0, c1, c2, c3, c4, c5, c6, c7, c8, c9, c10, rfl⟩ : ∃ c0 c1 c2 c3 c4 c5 c6 c7 c8 c9 c10, _ = [c0, c1, c2, c3, c4, c5, c6, c7, c8, c9, c10] := ayv h2
   obtain ⟨x0, e0⟩ := (ih (0, 1, 9) (by simp)).2.2.2.1 rfl
   replace e0 : [c0] = [.str x0] := e0
   obtain ⟨x1, e1⟩ := (ih (1, 1, 22) (by simp)).2.2.2.2.1 rfl
   replace e1 : [c1] = [.int .u8 x1] := e1
   obtain ⟨x2, e2⟩ := (ih (2, 1, 9) (by simp)).2.2.2.1 rfl
   replace e2 : [c2] = [.str x2] := e2
   obtain ⟨x3, e3⟩ := (ih (3, 8, 27) (by simp)).2.2.2.2.2.1 rfl
   replace e3 : [c3, c4, c5, c6, c7, c8, c9, c10] = fK x3 := e3
   refine ⟨Child.mk x0 x1 x2 x3, ?_⟩
   simp only [fZ]
   rw [← e0, ← e1, ← e2, ← e3]
   rfl
  ·intro ht
   subst ht
   rw [Lb] at h1
   cases h1
  ·intro ht
   subst ht
   rw [RO] at h1
   cases h1
  ·intro ht
   subst ht
   rw [TR] at h1
   cases h1
   obtain ⟨c0, c1, c2, c3, c4, c5, c6, c7, rfl⟩ : ∃ c0 c1 c2 c3 c4 c5 c6 c7, _ = [c0, c1, c2, c3, c4, c5, c6, c7] := len8 h2
   obtain ⟨x0, e0⟩ := (ih (0, 1, 23) (by simp)).2.2.2.2.2.2.1 rfl
   replace e0 : [c0] = [.int .u8 x0] := e0
   obtain ⟨x1, e1⟩ := (ih (1, 1, 2) (by simp)).2.2.2.2.2.2.2.1 rfl
   replace e1 : [c1] = [.int .i64 x1] := e1
   obtain ⟨x2, e2⟩ := (ih (2, 1, 9) (by simp)).2.2.2.1 rfl
   replace e2 : [c2] = [.str x2] := e2
   obtain ⟨x3, e3⟩ := (ih (3, 1, 24) (by simp)).2.2.2.2.2.2.2.2.1 rfl
   replace e3 : [c3] = [iI x3] := e3
   obtain ⟨x4, e4⟩ := (ih (4, 1, 25) (by simp)).2.2.2.2.2.2.2.2.2.1 rfl
   replace e4 : [c4] = [gU x4] := e4
   obtain ⟨x5, e5⟩ := (ih (5, 1, 22) (by simp)).2.2.2.2.1 rfl
   replace e5 : [c5] = [.int .u8 x5] := e5
   obtain ⟨x6, e6⟩ := (ih (6, 1, 9) (by simp)).2.2.2.1 rfl
   replace e6 : [c6] = [.str x6] := e6
   obtain ⟨x7, e7⟩ := (ih (7, 1, 4) (by simp)).2.2.2.2.2.2.2.2.2.2.2.1 rfl
   replace e7 : [c7] = [.bool x7] := e7
   refine ⟨Value.mk x0 x1 x2 x3 x4 x5 x6 x7, ?_⟩
   simp only [fK]
   rw [← e0, ← e1, ← e2, ← e3, ← e4, ← e5, ← e6, ← e7]
   rfl
  ·intro ht
   subst ht
   rw [TS] at h1
   cases h1
  ·intro ht
   subst ht
   rw [ty_2] at h1
   cases h1
  ·intro ht
   subst ht
   rw [Mc] at h1
   cases h1
  ·intro ht
   subst ht
   rw [Ky] at h1
   cases h1
  ·intro ht
   subst ht
   rw [Lc] at h1
   cases h1
   obtain ⟨c0, c1, c2, c3, c4, c5, c6, c7, c8, rfl⟩ : ∃ c0 c1 c2 c3 c4 c5 c6 c7 c8, _ = [c0, c1, c2, c3, c4, c5, c6, c7, c8] := aAb h2
   obtain ⟨x0, e0⟩ := (ih (0, 1, 9) (by simp)).2.2.2.1 rfl
   replace e0 : [c0] = [.str x0] := e0
   obtain ⟨x1, e1⟩ := (ih (1, 8, 27) (by simp)).2.2.2.2.2.1 rfl
   replace e1 : [c1, c2, c3, c4, c5, c6, c7, c8] = fK x1 := e1
   refine ⟨Field.mk x0 x1, ?_⟩
   simp only [jY]
   rw [← e0, ← e1]
   rfl
  ·intro ht
   subst ht
   rw [Mw] at h1
   cases h1
  ·intro ht
   subst ht
   rw [TT] at h1
   cases h1
  ·intro ht
   subst ht
   rw [TU] at h1
   cases h1
   obtain ⟨c0, c1, c2, c3, c4, c5, c6, c7, c8, c9, c10, c11, c12, c13, c14, c15, c16, c17, c18, c19, c20, c21, c22, c23, c24, U3, rfl⟩ : ∃ c0 c1 c2 c3 c4 c5 c6 c7 c8 c9 c10 c11 c12 c13 c14 c15 c16 c17 c18 c19 c20 c21 c22 c23 c24 U3, _ = [c0, c1, c2, c3, c4, c5, c6, c7, c8, c9, c10, c11, c12, c13, c14, c15, c16, c17, c18, c19, c20, c21, c22, c23, c24, U3] := ayx h2
   obtain ⟨x0, e0⟩ := (ih (0, 1, 75) (by simp)).2.2.2.2.2.2.2.2.2.2.2.2.2.2.1 rfl
   replace e0 : [c0] = [.int .u8 x0] := e0
   obtain ⟨x1, e1⟩ := (ih (1, 1, 9) (by simp)).2.2.2.1 rfl
   replace e1 : [c1] = [.str x1] := e1
   obtain ⟨x2, e2⟩ := (ih (2, 8, 27) (by simp)).2.2.2.2.2.1 rfl
   replace e2 : [c2, c3, c4, c5, c6, c7, c8, c9] = fK x2 := e2
   obtain ⟨x3, e3⟩ := (ih (10, 8, 27) (by simp)).2.2.2.2.2.1 rfl
   replace e3 : [c10, c11, c12, c13, c14, c15, c16, c17] = fK x3 := e3
   obtain ⟨x4, e4⟩ := (ih (18, 1, 24) (by simp)).2.2.2.2.2.2.2.2.1 rfl
   replace e4 : [c18] = [iI x4] := e4
   obtain ⟨x5, e5⟩ := (ih (19, 1, 76) (by simp)).2.2.2.2.2.2.2.2.2.2.2.2.2.2.2.1 rfl
   replace e5 : [c19] = [kG x5] := e5
   obtain ⟨x6, e6⟩ := (ih (20, 1, 76) (by simp)).2.2.2.2.2.2.2.2.2.2.2.2.2.2.2.1 rfl
   replace e6 : [c20] = [kG x6] := e6
   obtain ⟨x7, e7⟩ := (ih (21, 1, 25) (by simp)).2.2.2.2.2.2.2.2.2.1 rfl
   replace e7 : [c21] = [gU x7] := e7
   obtain ⟨x8, e8⟩ := (ih (22, 1, 4) (by simp)).2.2.2.2.2.2.2.2.2.2.2.1 rfl
   replace e8 : [c22] = [.bool x8] := e8
   obtain ⟨x9, e9⟩ := (ih (23, 1, 4) (by simp)).2.2.2.2.2.2.2.2.2.2.2.1 rfl
   replace e9 : [c23] = [.bool x9] := e9
   obtain ⟨x10, e10⟩ := (ih (24, 1, 76) (by simp)).2.2.2.2.2.2.2.2.2.2.2.2.2.2.2.1 rfl
   replace e10 : [c24] = [kG x10] := e10
   obtain ⟨WW, e11⟩ := (ih (25, 1, 25) (by simp)).2.2.2.2.2.2.2.2.2.1 rfl
   replace e11 : [U3] = [gU WW] := e11
   refine ⟨Cell.mk x0 x1 x2 x3 x4 x5 x6 x7 x8 x9 x10 WW, ?_⟩
   simp only [jZ]
   rw [← e0, ← e1, ← e2, ← e3, ← e4, ← e5, ← e6, ← e7, ← e8, ← e9, ← e10, ← e11]
   rfl
  ·intro ht
   subst ht
   rw [TV] at h1
   cases h1
  ·intro ht
   subst ht
   rw [FQ] at h1
   cases h1
  ·intro ht
   subst ht
   rw [Ld] at h1
   cases h1
   obtain ⟨c0, c1, c2, c3, c4, c5, c6, c7, c8, c9, c10, c11, rfl⟩ : ∃ c0 c1 c2 c3 c4 c5 c6 c7 c8 c9 c10 c11, _ = [c0, c1, c2, c3, c4, c5, c6, c7, c8, c9, c10, c11] := ayw h2
   obtain ⟨x0, e0⟩ := (ih (0, 1, 121) (by simp)).2.2.2.2.2.2.2.2.2.2.2.2.2.2.2.2.2.1 rfl
   replace e0 : [c0] = [.int .u8 x0] := e0
   obtain ⟨x1, e1⟩ := (ih (1, 1, 9) (by simp)).2.2.2.1 rfl
   replace e1 : [c1] = [.str x1] := e1
   obtain ⟨x2, e2⟩ := (ih (2, 10, 126) (by simp)).2.2.2.2.2.2.2.2.2.2.2.2.2.2.2.2.2.2.1 rfl
   replace e2 : [c2, c3, c4, c5, c6, c7, c8, c9, c10, c11] = lq x2 := e2
   refine ⟨Act.mk x0 x1 x2, ?_⟩
   simp only [qC]
   rw [← e0, ← e1, ← e2]
   rfl
  ·intro ht
   subst ht
   rw [Lf] at h1
   cases h1
  ·intro ht
   subst ht
   rw [Lg] at h1
   cases h1
   obtain ⟨c0, c1, c2, c3, c4, c5, c6, c7, c8, c9, rfl⟩ : ∃ c0 c1 c2 c3 c4 c5 c6 c7 c8 c9, _ = [c0, c1, c2, c3, c4, c5, c6, c7, c8, c9] := ayu h2
   obtain ⟨x0, e0⟩ := (ih (0, 1, 122) (by simp)).2.2.2.2.2.2.2.2.2.2.2.2.2.2.2.2.2.2.2.1 rfl
   replace e0 : [c0] = [.int .u8 x0] := e0
   obtain ⟨x1, e1⟩ := (ih (1, 1, 2) (by simp)).2.2.2.2.2.2.2.1 rfl
   replace e1 : [c1] = [.int .i64 x1] := e1
   obtain ⟨x2, e2⟩ := (ih (2, 1, 9) (by simp)).2.2.2.1 rfl
   replace e2 : [c2] = [.str x2] := e2
   obtain ⟨x3, e3⟩ := (ih (3, 1, 123) (by simp)).2.2.2.2.2.2.2.2.2.2.2.2.2.2.2.2.2.2.2.2.1 rfl
   replace e3 : [c3] = [jK x3] := e3
   obtain ⟨x4, e4⟩ := (ih (4, 1, 124) (by simp)).2.2.2.2.2.2.2.2.2.2.2.2.2.2.2.2.2.2.2.2.2.1 rfl
   replace e4 : [c4] = [.sl (x4.l.map fun y => [.str y]) (x4.x.map (List.map fun y => [.str y]))] := e4
   obtain ⟨x5, e5⟩ := (ih (5, 1, 123) (by simp)).2.2.2.2.2.2.2.2.2.2.2.2.2.2.2.2.2.2.2.2.1 rfl
   replace e5 : [c5] = [jK x5] := e5
   obtain ⟨x6, e6⟩ := (ih (6, 1, 22) (by simp)).2.2.2.2.1 rfl
   replace e6 : [c6] = [.int .u8 x6] := e6
   obtain ⟨x7, e7⟩ := (ih (7, 1, 123) (by simp)).2.2.2.2.2.2.2.2.2.2.2.2.2.2.2.2.2.2.2.2.1 rfl
   replace e7 : [c7] = [jK x7] := e7
   obtain ⟨x8, e8⟩ := (ih (8, 1, 76) (by simp)).2.2.2.2.2.2.2.2.2.2.2.2.2.2.2.1 rfl
   replace e8 : [c8] = [kG x8] := e8
   obtain ⟨x9, e9⟩ := (ih (9, 1, 9) (by simp)).2.2.2.1 rfl
   replace e9 : [c9] = [.str x9] := e9
   refine ⟨Expr.mk x0 x1 x2 x3 x4 x5 x6 x7 x8 x9, ?_⟩
   simp only [lq]
   rw [← e0, ← e1, ← e2, ← e3, ← e4, ← e5, ← e6, ← e7, ← e8, ← e9]
   rfl
  ·intro ht
   subst ht
   rw [Lh] at h1
   cases h1
  ·intro ht
   subst ht
   rw [Cn] at h1
   cases h1
  ·intro ht
   subst ht
   rw [Li] at h1
   cases h1
  ·intro ht
   subst ht
   rw [TW] at h1
   cases h1
  ·intro ht
   subst ht
   rw [Md] at h1
   cases h1
  ·intro ht
   subst ht
   rw [afR] at h1
   cases h1
theorem ayz {l : List D} (h : WT tab 34 l) : ∃ x : Inst, l = jO x := (acF h).1 rfl
theorem ayA {l : List D} (h : WT tab 29 l) : ∃ x : Child, l = fZ x := (acF h).2.2.1 rfl
theorem alj {l : List D} (h : WT tab 27 l) : ∃ x : Value, l = fK x := (acF h).2.2.2.2.2.1 rfl
end Go.Proofs.Ytedfkehkcaaplaa
