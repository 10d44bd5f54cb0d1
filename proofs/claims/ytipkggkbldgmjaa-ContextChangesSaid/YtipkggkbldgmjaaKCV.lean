/- Data of a type is an encoded value: printed by a small program. -/
import Derived.Test.YtipkggkbldgmjaaKCE
import Derived.Test.YtipkggkbldgmjaaXP
namespace Go.Proofs.Ytipkggkbldgmjaa
open Go Go.X
set_option linter.unusedVariables false
set_option linter.unusedSimpArgs false
set_option maxRecDepth 100000
theorem len8 {l : List D} (h : l.length = 8) : ∃ c0 c1 c2 c3 c4 c5 c6 c7, l = [c0, c1, c2, c3, c4, c5, c6, c7] := by
  match l, h with
  | [c0, c1, c2, c3, c4, c5, c6, c7], _ => exact ⟨c0, c1, c2, c3, c4, c5, c6, c7, rfl⟩
theorem len9 {l : List D} (h : l.length = 9) : ∃ c0 c1 c2 c3 c4 c5 c6 c7 c8, l = [c0, c1, c2, c3, c4, c5, c6, c7, c8] := by
  match l, h with
  | [c0, c1, c2, c3, c4, c5, c6, c7, c8], _ => exact ⟨c0, c1, c2, c3, c4, c5, c6, c7, c8, rfl⟩
theorem len10 {l : List D} (h : l.length = 10) : ∃ c0 c1 c2 c3 c4 c5 c6 c7 c8 c9, l = [c0, c1, c2, c3, c4, c5, c6, c7, c8, c9] := by
  match l, h with
  | [c0, c1, c2, c3, c4, c5, c6, c7, c8, c9], _ => exact ⟨c0, c1, c2, c3, c4, c5, c6, c7, c8, c9, rfl⟩
theorem len12 {l : List D} (h : l.length = 12) : ∃ c0 c1 c2 c3 c4 c5 c6 c7 c8 c9 c10 c11, l = [c0, c1, c2, c3, c4, c5, c6, c7, c8, c9, c10, c11] := by
  match l, h with
  | [c0, c1, c2, c3, c4, c5, c6, c7, c8, c9, c10, c11], _ => exact ⟨c0, c1, c2, c3, c4, c5, c6, c7, c8, c9, c10, c11, rfl⟩
theorem len26 {l : List D} (h : l.length = 26) : ∃ c0 c1 c2 c3 c4 c5 c6 c7 c8 c9 c10 c11 c12 c13 c14 c15 c16 c17 c18 c19 c20 c21 c22 c23 c24 c25, l = [c0, c1, c2, c3, c4, c5, c6, c7, c8, c9, c10, c11, c12, c13, c14, c15, c16, c17, c18, c19, c20, c21, c22, c23, c24, c25] := by
  match l, h with
  | [c0, c1, c2, c3, c4, c5, c6, c7, c8, c9, c10, c11, c12, c13, c14, c15, c16, c17, c18, c19, c20, c21, c22, c23, c24, c25], _ => exact ⟨c0, c1, c2, c3, c4, c5, c6, c7, c8, c9, c10, c11, c12, c13, c14, c15, c16, c17, c18, c19, c20, c21, c22, c23, c24, c25, rfl⟩
theorem ty_33 : tab.ty 33 = .slice 61 26 400 := rfl
theorem ty_61 : tab.ty 61 = .agg 26 [(0, 1, 58), (1, 1, 9), (2, 8, 27), (10, 8, 27), (18, 1, 24), (19, 1, 59), (20, 1, 59), (21, 1, 22), (22, 1, 4), (23, 1, 4), (24, 1, 59), (25, 1, 22)] := rfl
theorem ty_58 : tab.ty 58 = .int .u8 := rfl
theorem ty_9 : tab.ty 9 = .str := rfl
theorem ty_27 : tab.ty 27 = .agg 8 [(0, 1, 23), (1, 1, 2), (2, 1, 9), (3, 1, 24), (4, 1, 22), (5, 1, 25), (6, 1, 9), (7, 1, 4)] := rfl
theorem ty_23 : tab.ty 23 = .int .u8 := rfl
theorem ty_2 : tab.ty 2 = .int .i64 := rfl
theorem ty_24 : tab.ty 24 = .slice 27 8 112 := rfl
theorem ty_22 : tab.ty 22 = .slice 49 9 128 := rfl
theorem ty_49 : tab.ty 49 = .agg 9 [(0, 1, 9), (1, 8, 27)] := rfl
theorem ty_25 : tab.ty 25 = .int .u8 := rfl
theorem ty_4 : tab.ty 4 = .bool := rfl
theorem ty_59 : tab.ty 59 = .slice 105 12 200 := rfl
theorem ty_105 : tab.ty 105 = .agg 12 [(0, 1, 99), (1, 1, 9), (2, 10, 103)] := rfl
theorem ty_99 : tab.ty 99 = .int .u8 := rfl
theorem ty_103 : tab.ty 103 = .agg 10 [(0, 1, 100), (1, 1, 2), (2, 1, 9), (3, 1, 101), (4, 1, 93), (5, 1, 101), (6, 1, 25), (7, 1, 101), (8, 1, 59), (9, 1, 9)] := rfl
theorem ty_100 : tab.ty 100 = .int .u8 := rfl
theorem ty_101 : tab.ty 101 = .slice 103 10 176 := rfl
theorem ty_93 : tab.ty 93 = .slice 9 1 16 := rfl
theorem wt_all {t : Nat} {l : List D} (h : WT tab t l) :
    (t = 33 → ∃ x : Sl Cell, l = [.sl (x.l.map fun y => e_Cell y) (x.x.map (List.map fun y => e_Cell y))]) ∧
    (t = 61 → ∃ x : Cell, l = e_Cell x) ∧
    (t = 58 → ∃ x : Int, l = [.int .u8 x]) ∧
    (t = 9 → ∃ x : ByteArray, l = [.str x]) ∧
    (t = 27 → ∃ x : Value, l = e_Value x) ∧
    (t = 23 → ∃ x : Int, l = [.int .u8 x]) ∧
    (t = 2 → ∃ x : Int, l = [.int .i64 x]) ∧
    (t = 24 → ∃ x : Sl Value, l = [es_Value x]) ∧
    (t = 22 → ∃ x : Sl Field, l = [es_Field x]) ∧
    (t = 49 → ∃ x : Field, l = e_Field x) ∧
    (t = 25 → ∃ x : Int, l = [.int .u8 x]) ∧
    (t = 4 → ∃ x : Bool, l = [.bool x]) ∧
    (t = 59 → ∃ x : Sl Act, l = [es_Act x]) ∧
    (t = 105 → ∃ x : Act, l = e_Act x) ∧
    (t = 99 → ∃ x : Int, l = [.int .u8 x]) ∧
    (t = 103 → ∃ x : Expr, l = e_Expr x) ∧
    (t = 100 → ∃ x : Int, l = [.int .u8 x]) ∧
    (t = 101 → ∃ x : Sl Expr, l = [es_Expr x]) ∧
    (t = 93 → ∃ x : Sl ByteArray, l = [.sl (x.l.map fun y => [.str y]) (x.x.map (List.map fun y => [.str y]))]) := by
  induction h with
  | int h1 h2 =>
    refine ⟨?_, ?_, ?_, ?_, ?_, ?_, ?_, ?_, ?_, ?_, ?_, ?_, ?_, ?_, ?_, ?_, ?_, ?_, ?_⟩
    · intro ht
      subst ht
      rw [ty_33] at h1
      cases h1
    · intro ht
      subst ht
      rw [ty_61] at h1
      cases h1
    · intro ht
      subst ht
      rw [ty_58] at h1
      cases h1
      exact ⟨_, rfl⟩
    · intro ht
      subst ht
      rw [ty_9] at h1
      cases h1
    · intro ht
      subst ht
      rw [ty_27] at h1
      cases h1
    · intro ht
      subst ht
      rw [ty_23] at h1
      cases h1
      exact ⟨_, rfl⟩
    · intro ht
      subst ht
      rw [ty_2] at h1
      cases h1
      exact ⟨_, rfl⟩
    · intro ht
      subst ht
      rw [ty_24] at h1
      cases h1
    · intro ht
      subst ht
      rw [ty_22] at h1
      cases h1
    · intro ht
      subst ht
      rw [ty_49] at h1
      cases h1
    · intro ht
      subst ht
      rw [ty_25] at h1
      cases h1
      exact ⟨_, rfl⟩
    · intro ht
      subst ht
      rw [ty_4] at h1
      cases h1
    · intro ht
      subst ht
      rw [ty_59] at h1
      cases h1
    · intro ht
      subst ht
      rw [ty_105] at h1
      cases h1
    · intro ht
      subst ht
      rw [ty_99] at h1
      cases h1
      exact ⟨_, rfl⟩
    · intro ht
      subst ht
      rw [ty_103] at h1
      cases h1
    · intro ht
      subst ht
      rw [ty_100] at h1
      cases h1
      exact ⟨_, rfl⟩
    · intro ht
      subst ht
      rw [ty_101] at h1
      cases h1
    · intro ht
      subst ht
      rw [ty_93] at h1
      cases h1
  | bool h1 =>
    refine ⟨?_, ?_, ?_, ?_, ?_, ?_, ?_, ?_, ?_, ?_, ?_, ?_, ?_, ?_, ?_, ?_, ?_, ?_, ?_⟩
    · intro ht
      subst ht
      rw [ty_33] at h1
      cases h1
    · intro ht
      subst ht
      rw [ty_61] at h1
      cases h1
    · intro ht
      subst ht
      rw [ty_58] at h1
      cases h1
    · intro ht
      subst ht
      rw [ty_9] at h1
      cases h1
    · intro ht
      subst ht
      rw [ty_27] at h1
      cases h1
    · intro ht
      subst ht
      rw [ty_23] at h1
      cases h1
    · intro ht
      subst ht
      rw [ty_2] at h1
      cases h1
    · intro ht
      subst ht
      rw [ty_24] at h1
      cases h1
    · intro ht
      subst ht
      rw [ty_22] at h1
      cases h1
    · intro ht
      subst ht
      rw [ty_49] at h1
      cases h1
    · intro ht
      subst ht
      rw [ty_25] at h1
      cases h1
    · intro ht
      subst ht
      rw [ty_4] at h1
      cases h1
      exact ⟨_, rfl⟩
    · intro ht
      subst ht
      rw [ty_59] at h1
      cases h1
    · intro ht
      subst ht
      rw [ty_105] at h1
      cases h1
    · intro ht
      subst ht
      rw [ty_99] at h1
      cases h1
    · intro ht
      subst ht
      rw [ty_103] at h1
      cases h1
    · intro ht
      subst ht
      rw [ty_100] at h1
      cases h1
    · intro ht
      subst ht
      rw [ty_101] at h1
      cases h1
    · intro ht
      subst ht
      rw [ty_93] at h1
      cases h1
  | str h1 h2 =>
    refine ⟨?_, ?_, ?_, ?_, ?_, ?_, ?_, ?_, ?_, ?_, ?_, ?_, ?_, ?_, ?_, ?_, ?_, ?_, ?_⟩
    · intro ht
      subst ht
      rw [ty_33] at h1
      cases h1
    · intro ht
      subst ht
      rw [ty_61] at h1
      cases h1
    · intro ht
      subst ht
      rw [ty_58] at h1
      cases h1
    · intro ht
      subst ht
      rw [ty_9] at h1
      cases h1
      exact ⟨_, rfl⟩
    · intro ht
      subst ht
      rw [ty_27] at h1
      cases h1
    · intro ht
      subst ht
      rw [ty_23] at h1
      cases h1
    · intro ht
      subst ht
      rw [ty_2] at h1
      cases h1
    · intro ht
      subst ht
      rw [ty_24] at h1
      cases h1
    · intro ht
      subst ht
      rw [ty_22] at h1
      cases h1
    · intro ht
      subst ht
      rw [ty_49] at h1
      cases h1
    · intro ht
      subst ht
      rw [ty_25] at h1
      cases h1
    · intro ht
      subst ht
      rw [ty_4] at h1
      cases h1
    · intro ht
      subst ht
      rw [ty_59] at h1
      cases h1
    · intro ht
      subst ht
      rw [ty_105] at h1
      cases h1
    · intro ht
      subst ht
      rw [ty_99] at h1
      cases h1
    · intro ht
      subst ht
      rw [ty_103] at h1
      cases h1
    · intro ht
      subst ht
      rw [ty_100] at h1
      cases h1
    · intro ht
      subst ht
      rw [ty_101] at h1
      cases h1
    · intro ht
      subst ht
      rw [ty_93] at h1
      cases h1
  | slice h1 h2 hb h3 h4 ih1 ih2 =>
    refine ⟨?_, ?_, ?_, ?_, ?_, ?_, ?_, ?_, ?_, ?_, ?_, ?_, ?_, ?_, ?_, ?_, ?_, ?_, ?_⟩
    · intro ht
      subst ht
      rw [ty_33] at h1
      cases h1
      obtain ⟨l1, hl1⟩ := forall_map (fun r hr => (ih1 r hr).2.1 rfl)
      obtain ⟨l2, hl2⟩ := forall_map (fun r hr => (ih2 r hr).2.1 rfl)
      subst hl1; subst hl2
      refine ⟨⟨l1, some l2⟩, ?_⟩
      rfl
    · intro ht
      subst ht
      rw [ty_61] at h1
      cases h1
    · intro ht
      subst ht
      rw [ty_58] at h1
      cases h1
    · intro ht
      subst ht
      rw [ty_9] at h1
      cases h1
    · intro ht
      subst ht
      rw [ty_27] at h1
      cases h1
    · intro ht
      subst ht
      rw [ty_23] at h1
      cases h1
    · intro ht
      subst ht
      rw [ty_2] at h1
      cases h1
    · intro ht
      subst ht
      rw [ty_24] at h1
      cases h1
      obtain ⟨l1, hl1⟩ := forall_map (fun r hr => (ih1 r hr).2.2.2.2.1 rfl)
      obtain ⟨l2, hl2⟩ := forall_map (fun r hr => (ih2 r hr).2.2.2.2.1 rfl)
      subst hl1; subst hl2
      refine ⟨⟨l1, some l2⟩, ?_⟩
      rw [← el_Value_map, ← el_Value_map]; rfl
    · intro ht
      subst ht
      rw [ty_22] at h1
      cases h1
      obtain ⟨l1, hl1⟩ := forall_map (fun r hr => (ih1 r hr).2.2.2.2.2.2.2.2.2.1 rfl)
      obtain ⟨l2, hl2⟩ := forall_map (fun r hr => (ih2 r hr).2.2.2.2.2.2.2.2.2.1 rfl)
      subst hl1; subst hl2
      refine ⟨⟨l1, some l2⟩, ?_⟩
      rw [← el_Field_map, ← el_Field_map]; rfl
    · intro ht
      subst ht
      rw [ty_49] at h1
      cases h1
    · intro ht
      subst ht
      rw [ty_25] at h1
      cases h1
    · intro ht
      subst ht
      rw [ty_4] at h1
      cases h1
    · intro ht
      subst ht
      rw [ty_59] at h1
      cases h1
      obtain ⟨l1, hl1⟩ := forall_map (fun r hr => (ih1 r hr).2.2.2.2.2.2.2.2.2.2.2.2.2.1 rfl)
      obtain ⟨l2, hl2⟩ := forall_map (fun r hr => (ih2 r hr).2.2.2.2.2.2.2.2.2.2.2.2.2.1 rfl)
      subst hl1; subst hl2
      refine ⟨⟨l1, some l2⟩, ?_⟩
      rw [← el_Act_map, ← el_Act_map]; rfl
    · intro ht
      subst ht
      rw [ty_105] at h1
      cases h1
    · intro ht
      subst ht
      rw [ty_99] at h1
      cases h1
    · intro ht
      subst ht
      rw [ty_103] at h1
      cases h1
    · intro ht
      subst ht
      rw [ty_100] at h1
      cases h1
    · intro ht
      subst ht
      rw [ty_101] at h1
      cases h1
      obtain ⟨l1, hl1⟩ := forall_map (fun r hr => (ih1 r hr).2.2.2.2.2.2.2.2.2.2.2.2.2.2.2.1 rfl)
      obtain ⟨l2, hl2⟩ := forall_map (fun r hr => (ih2 r hr).2.2.2.2.2.2.2.2.2.2.2.2.2.2.2.1 rfl)
      subst hl1; subst hl2
      refine ⟨⟨l1, some l2⟩, ?_⟩
      rw [← el_Expr_map, ← el_Expr_map]; rfl
    · intro ht
      subst ht
      rw [ty_93] at h1
      cases h1
      obtain ⟨l1, hl1⟩ := forall_map (fun r hr => (ih1 r hr).2.2.2.1 rfl)
      obtain ⟨l2, hl2⟩ := forall_map (fun r hr => (ih2 r hr).2.2.2.1 rfl)
      subst hl1; subst hl2
      refine ⟨⟨l1, some l2⟩, ?_⟩
      rfl
  | agg h1 h2 h3 ih =>
    refine ⟨?_, ?_, ?_, ?_, ?_, ?_, ?_, ?_, ?_, ?_, ?_, ?_, ?_, ?_, ?_, ?_, ?_, ?_, ?_⟩
    · intro ht
      subst ht
      rw [ty_33] at h1
      cases h1
    · intro ht
      subst ht
      rw [ty_61] at h1
      cases h1
      obtain ⟨c0, c1, c2, c3, c4, c5, c6, c7, c8, c9, c10, c11, c12, c13, c14, c15, c16, c17, c18, c19, c20, c21, c22, c23, c24, c25, rfl⟩ : ∃ c0 c1 c2 c3 c4 c5 c6 c7 c8 c9 c10 c11 c12 c13 c14 c15 c16 c17 c18 c19 c20 c21 c22 c23 c24 c25, _ = [c0, c1, c2, c3, c4, c5, c6, c7, c8, c9, c10, c11, c12, c13, c14, c15, c16, c17, c18, c19, c20, c21, c22, c23, c24, c25] := len26 h2
      obtain ⟨x0, e0⟩ := (ih (0, 1, 58) (by simp)).2.2.1 rfl
      replace e0 : [c0] = [.int .u8 x0] := e0
      obtain ⟨x1, e1⟩ := (ih (1, 1, 9) (by simp)).2.2.2.1 rfl
      replace e1 : [c1] = [.str x1] := e1
      obtain ⟨x2, e2⟩ := (ih (2, 8, 27) (by simp)).2.2.2.2.1 rfl
      replace e2 : [c2, c3, c4, c5, c6, c7, c8, c9] = e_Value x2 := e2
      obtain ⟨x3, e3⟩ := (ih (10, 8, 27) (by simp)).2.2.2.2.1 rfl
      replace e3 : [c10, c11, c12, c13, c14, c15, c16, c17] = e_Value x3 := e3
      obtain ⟨x4, e4⟩ := (ih (18, 1, 24) (by simp)).2.2.2.2.2.2.2.1 rfl
      replace e4 : [c18] = [es_Value x4] := e4
      obtain ⟨x5, e5⟩ := (ih (19, 1, 59) (by simp)).2.2.2.2.2.2.2.2.2.2.2.2.1 rfl
      replace e5 : [c19] = [es_Act x5] := e5
      obtain ⟨x6, e6⟩ := (ih (20, 1, 59) (by simp)).2.2.2.2.2.2.2.2.2.2.2.2.1 rfl
      replace e6 : [c20] = [es_Act x6] := e6
      obtain ⟨x7, e7⟩ := (ih (21, 1, 22) (by simp)).2.2.2.2.2.2.2.2.1 rfl
      replace e7 : [c21] = [es_Field x7] := e7
      obtain ⟨x8, e8⟩ := (ih (22, 1, 4) (by simp)).2.2.2.2.2.2.2.2.2.2.2.1 rfl
      replace e8 : [c22] = [.bool x8] := e8
      obtain ⟨x9, e9⟩ := (ih (23, 1, 4) (by simp)).2.2.2.2.2.2.2.2.2.2.2.1 rfl
      replace e9 : [c23] = [.bool x9] := e9
      obtain ⟨x10, e10⟩ := (ih (24, 1, 59) (by simp)).2.2.2.2.2.2.2.2.2.2.2.2.1 rfl
      replace e10 : [c24] = [es_Act x10] := e10
      obtain ⟨x11, e11⟩ := (ih (25, 1, 22) (by simp)).2.2.2.2.2.2.2.2.1 rfl
      replace e11 : [c25] = [es_Field x11] := e11
      refine ⟨Cell.mk x0 x1 x2 x3 x4 x5 x6 x7 x8 x9 x10 x11, ?_⟩
      simp only [e_Cell]
      rw [← e0, ← e1, ← e2, ← e3, ← e4, ← e5, ← e6, ← e7, ← e8, ← e9, ← e10, ← e11]
      rfl
    · intro ht
      subst ht
      rw [ty_58] at h1
      cases h1
    · intro ht
      subst ht
      rw [ty_9] at h1
      cases h1
    · intro ht
      subst ht
      rw [ty_27] at h1
      cases h1
      obtain ⟨c0, c1, c2, c3, c4, c5, c6, c7, rfl⟩ : ∃ c0 c1 c2 c3 c4 c5 c6 c7, _ = [c0, c1, c2, c3, c4, c5, c6, c7] := len8 h2
      obtain ⟨x0, e0⟩ := (ih (0, 1, 23) (by simp)).2.2.2.2.2.1 rfl
      replace e0 : [c0] = [.int .u8 x0] := e0
      obtain ⟨x1, e1⟩ := (ih (1, 1, 2) (by simp)).2.2.2.2.2.2.1 rfl
      replace e1 : [c1] = [.int .i64 x1] := e1
      obtain ⟨x2, e2⟩ := (ih (2, 1, 9) (by simp)).2.2.2.1 rfl
      replace e2 : [c2] = [.str x2] := e2
      obtain ⟨x3, e3⟩ := (ih (3, 1, 24) (by simp)).2.2.2.2.2.2.2.1 rfl
      replace e3 : [c3] = [es_Value x3] := e3
      obtain ⟨x4, e4⟩ := (ih (4, 1, 22) (by simp)).2.2.2.2.2.2.2.2.1 rfl
      replace e4 : [c4] = [es_Field x4] := e4
      obtain ⟨x5, e5⟩ := (ih (5, 1, 25) (by simp)).2.2.2.2.2.2.2.2.2.2.1 rfl
      replace e5 : [c5] = [.int .u8 x5] := e5
      obtain ⟨x6, e6⟩ := (ih (6, 1, 9) (by simp)).2.2.2.1 rfl
      replace e6 : [c6] = [.str x6] := e6
      obtain ⟨x7, e7⟩ := (ih (7, 1, 4) (by simp)).2.2.2.2.2.2.2.2.2.2.2.1 rfl
      replace e7 : [c7] = [.bool x7] := e7
      refine ⟨Value.mk x0 x1 x2 x3 x4 x5 x6 x7, ?_⟩
      simp only [e_Value]
      rw [← e0, ← e1, ← e2, ← e3, ← e4, ← e5, ← e6, ← e7]
      rfl
    · intro ht
      subst ht
      rw [ty_23] at h1
      cases h1
    · intro ht
      subst ht
      rw [ty_2] at h1
      cases h1
    · intro ht
      subst ht
      rw [ty_24] at h1
      cases h1
    · intro ht
      subst ht
      rw [ty_22] at h1
      cases h1
    · intro ht
      subst ht
      rw [ty_49] at h1
      cases h1
      obtain ⟨c0, c1, c2, c3, c4, c5, c6, c7, c8, rfl⟩ : ∃ c0 c1 c2 c3 c4 c5 c6 c7 c8, _ = [c0, c1, c2, c3, c4, c5, c6, c7, c8] := len9 h2
      obtain ⟨x0, e0⟩ := (ih (0, 1, 9) (by simp)).2.2.2.1 rfl
      replace e0 : [c0] = [.str x0] := e0
      obtain ⟨x1, e1⟩ := (ih (1, 8, 27) (by simp)).2.2.2.2.1 rfl
      replace e1 : [c1, c2, c3, c4, c5, c6, c7, c8] = e_Value x1 := e1
      refine ⟨Field.mk x0 x1, ?_⟩
      simp only [e_Field]
      rw [← e0, ← e1]
      rfl
    · intro ht
      subst ht
      rw [ty_25] at h1
      cases h1
    · intro ht
      subst ht
      rw [ty_4] at h1
      cases h1
    · intro ht
      subst ht
      rw [ty_59] at h1
      cases h1
    · intro ht
      subst ht
      rw [ty_105] at h1
      cases h1
      obtain ⟨c0, c1, c2, c3, c4, c5, c6, c7, c8, c9, c10, c11, rfl⟩ : ∃ c0 c1 c2 c3 c4 c5 c6 c7 c8 c9 c10 c11, _ = [c0, c1, c2, c3, c4, c5, c6, c7, c8, c9, c10, c11] := len12 h2
      obtain ⟨x0, e0⟩ := (ih (0, 1, 99) (by simp)).2.2.2.2.2.2.2.2.2.2.2.2.2.2.1 rfl
      replace e0 : [c0] = [.int .u8 x0] := e0
      obtain ⟨x1, e1⟩ := (ih (1, 1, 9) (by simp)).2.2.2.1 rfl
      replace e1 : [c1] = [.str x1] := e1
      obtain ⟨x2, e2⟩ := (ih (2, 10, 103) (by simp)).2.2.2.2.2.2.2.2.2.2.2.2.2.2.2.1 rfl
      replace e2 : [c2, c3, c4, c5, c6, c7, c8, c9, c10, c11] = e_Expr x2 := e2
      refine ⟨Act.mk x0 x1 x2, ?_⟩
      simp only [e_Act]
      rw [← e0, ← e1, ← e2]
      rfl
    · intro ht
      subst ht
      rw [ty_99] at h1
      cases h1
    · intro ht
      subst ht
      rw [ty_103] at h1
      cases h1
      obtain ⟨c0, c1, c2, c3, c4, c5, c6, c7, c8, c9, rfl⟩ : ∃ c0 c1 c2 c3 c4 c5 c6 c7 c8 c9, _ = [c0, c1, c2, c3, c4, c5, c6, c7, c8, c9] := len10 h2
      obtain ⟨x0, e0⟩ := (ih (0, 1, 100) (by simp)).2.2.2.2.2.2.2.2.2.2.2.2.2.2.2.2.1 rfl
      replace e0 : [c0] = [.int .u8 x0] := e0
      obtain ⟨x1, e1⟩ := (ih (1, 1, 2) (by simp)).2.2.2.2.2.2.1 rfl
      replace e1 : [c1] = [.int .i64 x1] := e1
      obtain ⟨x2, e2⟩ := (ih (2, 1, 9) (by simp)).2.2.2.1 rfl
      replace e2 : [c2] = [.str x2] := e2
      obtain ⟨x3, e3⟩ := (ih (3, 1, 101) (by simp)).2.2.2.2.2.2.2.2.2.2.2.2.2.2.2.2.2.1 rfl
      replace e3 : [c3] = [es_Expr x3] := e3
      obtain ⟨x4, e4⟩ := (ih (4, 1, 93) (by simp)).2.2.2.2.2.2.2.2.2.2.2.2.2.2.2.2.2.2 rfl
      replace e4 : [c4] = [.sl (x4.l.map fun y => [.str y]) (x4.x.map (List.map fun y => [.str y]))] := e4
      obtain ⟨x5, e5⟩ := (ih (5, 1, 101) (by simp)).2.2.2.2.2.2.2.2.2.2.2.2.2.2.2.2.2.1 rfl
      replace e5 : [c5] = [es_Expr x5] := e5
      obtain ⟨x6, e6⟩ := (ih (6, 1, 25) (by simp)).2.2.2.2.2.2.2.2.2.2.1 rfl
      replace e6 : [c6] = [.int .u8 x6] := e6
      obtain ⟨x7, e7⟩ := (ih (7, 1, 101) (by simp)).2.2.2.2.2.2.2.2.2.2.2.2.2.2.2.2.2.1 rfl
      replace e7 : [c7] = [es_Expr x7] := e7
      obtain ⟨x8, e8⟩ := (ih (8, 1, 59) (by simp)).2.2.2.2.2.2.2.2.2.2.2.2.1 rfl
      replace e8 : [c8] = [es_Act x8] := e8
      obtain ⟨x9, e9⟩ := (ih (9, 1, 9) (by simp)).2.2.2.1 rfl
      replace e9 : [c9] = [.str x9] := e9
      refine ⟨Expr.mk x0 x1 x2 x3 x4 x5 x6 x7 x8 x9, ?_⟩
      simp only [e_Expr]
      rw [← e0, ← e1, ← e2, ← e3, ← e4, ← e5, ← e6, ← e7, ← e8, ← e9]
      rfl
    · intro ht
      subst ht
      rw [ty_100] at h1
      cases h1
    · intro ht
      subst ht
      rw [ty_101] at h1
      cases h1
    · intro ht
      subst ht
      rw [ty_93] at h1
      cases h1
theorem wt_33 {l : List D} (h : WT tab 33 l) : ∃ x : Sl Cell, l = [.sl (x.l.map fun y => e_Cell y) (x.x.map (List.map fun y => e_Cell y))] := (wt_all h).1 rfl
theorem wt_61 {l : List D} (h : WT tab 61 l) : ∃ x : Cell, l = e_Cell x := (wt_all h).2.1 rfl
theorem wt_58 {l : List D} (h : WT tab 58 l) : ∃ x : Int, l = [.int .u8 x] := (wt_all h).2.2.1 rfl
theorem wt_9 {l : List D} (h : WT tab 9 l) : ∃ x : ByteArray, l = [.str x] := (wt_all h).2.2.2.1 rfl
theorem wt_27 {l : List D} (h : WT tab 27 l) : ∃ x : Value, l = e_Value x := (wt_all h).2.2.2.2.1 rfl
theorem wt_23 {l : List D} (h : WT tab 23 l) : ∃ x : Int, l = [.int .u8 x] := (wt_all h).2.2.2.2.2.1 rfl
theorem wt_2 {l : List D} (h : WT tab 2 l) : ∃ x : Int, l = [.int .i64 x] := (wt_all h).2.2.2.2.2.2.1 rfl
theorem wt_24 {l : List D} (h : WT tab 24 l) : ∃ x : Sl Value, l = [es_Value x] := (wt_all h).2.2.2.2.2.2.2.1 rfl
theorem wt_22 {l : List D} (h : WT tab 22 l) : ∃ x : Sl Field, l = [es_Field x] := (wt_all h).2.2.2.2.2.2.2.2.1 rfl
theorem wt_49 {l : List D} (h : WT tab 49 l) : ∃ x : Field, l = e_Field x := (wt_all h).2.2.2.2.2.2.2.2.2.1 rfl
theorem wt_25 {l : List D} (h : WT tab 25 l) : ∃ x : Int, l = [.int .u8 x] := (wt_all h).2.2.2.2.2.2.2.2.2.2.1 rfl
theorem wt_4 {l : List D} (h : WT tab 4 l) : ∃ x : Bool, l = [.bool x] := (wt_all h).2.2.2.2.2.2.2.2.2.2.2.1 rfl
theorem wt_59 {l : List D} (h : WT tab 59 l) : ∃ x : Sl Act, l = [es_Act x] := (wt_all h).2.2.2.2.2.2.2.2.2.2.2.2.1 rfl
theorem wt_105 {l : List D} (h : WT tab 105 l) : ∃ x : Act, l = e_Act x := (wt_all h).2.2.2.2.2.2.2.2.2.2.2.2.2.1 rfl
theorem wt_99 {l : List D} (h : WT tab 99 l) : ∃ x : Int, l = [.int .u8 x] := (wt_all h).2.2.2.2.2.2.2.2.2.2.2.2.2.2.1 rfl
theorem wt_103 {l : List D} (h : WT tab 103 l) : ∃ x : Expr, l = e_Expr x := (wt_all h).2.2.2.2.2.2.2.2.2.2.2.2.2.2.2.1 rfl
theorem wt_100 {l : List D} (h : WT tab 100 l) : ∃ x : Int, l = [.int .u8 x] := (wt_all h).2.2.2.2.2.2.2.2.2.2.2.2.2.2.2.2.1 rfl
theorem wt_101 {l : List D} (h : WT tab 101 l) : ∃ x : Sl Expr, l = [es_Expr x] := (wt_all h).2.2.2.2.2.2.2.2.2.2.2.2.2.2.2.2.2.1 rfl
theorem wt_93 {l : List D} (h : WT tab 93 l) : ∃ x : Sl ByteArray, l = [.sl (x.l.map fun y => [.str y]) (x.x.map (List.map fun y => [.str y]))] := (wt_all h).2.2.2.2.2.2.2.2.2.2.2.2.2.2.2.2.2.2 rfl
end Go.Proofs.Ytipkggkbldgmjaa
