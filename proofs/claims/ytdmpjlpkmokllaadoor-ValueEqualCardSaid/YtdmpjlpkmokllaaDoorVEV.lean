/- Data of a type is an encoded value: printed by a small program. -/
import Derived.Test.YtdmpjlpkmokllaaDoorVEE
import Derived.Test.YtdmpjlpkmokllaaDoorXP
namespace Go.Proofs.YtdmpjlpkmokllaaDoor
open Go Go.X
set_option linter.unusedVariables false
set_option linter.unusedSimpArgs false
set_option maxRecDepth 100000
theorem len8 {l : List D} (h : l.length = 8) : ∃ c0 c1 c2 c3 c4 c5 c6 c7, l = [c0, c1, c2, c3, c4, c5, c6, c7] := by
  match l, h with
  | [c0, c1, c2, c3, c4, c5, c6, c7], _ => exact ⟨c0, c1, c2, c3, c4, c5, c6, c7, rfl⟩
theorem len9 {l : List D} (h : l.length = 9) : ∃ c0 c1 c2 c3 c4 c5 c6 c7 c8, l = [c0, c1, c2, c3, c4, c5, c6, c7, c8] := by
  match l, h with
  | [c0, c1, c2, c3, c4, c5, c6, c7, c8], _ => exact ⟨c0, c1, c2, c3, c4, c5, c6, c7, c8, rfl⟩
theorem ty_27 : tab.ty 27 = .agg 8 [(0, 1, 22), (1, 1, 2), (2, 1, 9), (3, 1, 23), (4, 1, 24), (5, 1, 25), (6, 1, 9), (7, 1, 4)] := rfl
theorem ty_22 : tab.ty 22 = .int .u8 := rfl
theorem ty_2 : tab.ty 2 = .int .i64 := rfl
theorem ty_9 : tab.ty 9 = .str := rfl
theorem ty_23 : tab.ty 23 = .slice 27 8 112 := rfl
theorem ty_24 : tab.ty 24 = .slice 36 9 128 := rfl
theorem ty_36 : tab.ty 36 = .agg 9 [(0, 1, 9), (1, 8, 27)] := rfl
theorem ty_25 : tab.ty 25 = .int .u8 := rfl
theorem ty_4 : tab.ty 4 = .bool := rfl
theorem wt_all {t : Nat} {l : List D} (h : WT tab t l) :
    (t = 27 → ∃ x : Value, l = e_Value x) ∧
    (t = 22 → ∃ x : Int, l = [.int .u8 x]) ∧
    (t = 2 → ∃ x : Int, l = [.int .i64 x]) ∧
    (t = 9 → ∃ x : ByteArray, l = [.str x]) ∧
    (t = 23 → ∃ x : Sl Value, l = [es_Value x]) ∧
    (t = 24 → ∃ x : Sl Field, l = [es_Field x]) ∧
    (t = 36 → ∃ x : Field, l = e_Field x) ∧
    (t = 25 → ∃ x : Int, l = [.int .u8 x]) ∧
    (t = 4 → ∃ x : Bool, l = [.bool x]) := by
  induction h with
  | int h1 h2 =>
    refine ⟨?_, ?_, ?_, ?_, ?_, ?_, ?_, ?_, ?_⟩
    · intro ht
      subst ht
      rw [ty_27] at h1
      cases h1
    · intro ht
      subst ht
      rw [ty_22] at h1
      cases h1
      exact ⟨_, rfl⟩
    · intro ht
      subst ht
      rw [ty_2] at h1
      cases h1
      exact ⟨_, rfl⟩
    · intro ht
      subst ht
      rw [ty_9] at h1
      cases h1
    · intro ht
      subst ht
      rw [ty_23] at h1
      cases h1
    · intro ht
      subst ht
      rw [ty_24] at h1
      cases h1
    · intro ht
      subst ht
      rw [ty_36] at h1
      cases h1
    · intro ht
      subst ht
      rw [ty_25] at h1
      cases h1
      exact ⟨_, rfl⟩
    · intro ht
      subst ht
      rw [ty_4] at h1
      cases h1
  | bool h1 =>
    refine ⟨?_, ?_, ?_, ?_, ?_, ?_, ?_, ?_, ?_⟩
    · intro ht
      subst ht
      rw [ty_27] at h1
      cases h1
    · intro ht
      subst ht
      rw [ty_22] at h1
      cases h1
    · intro ht
      subst ht
      rw [ty_2] at h1
      cases h1
    · intro ht
      subst ht
      rw [ty_9] at h1
      cases h1
    · intro ht
      subst ht
      rw [ty_23] at h1
      cases h1
    · intro ht
      subst ht
      rw [ty_24] at h1
      cases h1
    · intro ht
      subst ht
      rw [ty_36] at h1
      cases h1
    · intro ht
      subst ht
      rw [ty_25] at h1
      cases h1
    · intro ht
      subst ht
      rw [ty_4] at h1
      cases h1
      exact ⟨_, rfl⟩
  | str h1 h2 =>
    refine ⟨?_, ?_, ?_, ?_, ?_, ?_, ?_, ?_, ?_⟩
    · intro ht
      subst ht
      rw [ty_27] at h1
      cases h1
    · intro ht
      subst ht
      rw [ty_22] at h1
      cases h1
    · intro ht
      subst ht
      rw [ty_2] at h1
      cases h1
    · intro ht
      subst ht
      rw [ty_9] at h1
      cases h1
      exact ⟨_, rfl⟩
    · intro ht
      subst ht
      rw [ty_23] at h1
      cases h1
    · intro ht
      subst ht
      rw [ty_24] at h1
      cases h1
    · intro ht
      subst ht
      rw [ty_36] at h1
      cases h1
    · intro ht
      subst ht
      rw [ty_25] at h1
      cases h1
    · intro ht
      subst ht
      rw [ty_4] at h1
      cases h1
  | slice h1 h2 hb h3 h4 ih1 ih2 =>
    refine ⟨?_, ?_, ?_, ?_, ?_, ?_, ?_, ?_, ?_⟩
    · intro ht
      subst ht
      rw [ty_27] at h1
      cases h1
    · intro ht
      subst ht
      rw [ty_22] at h1
      cases h1
    · intro ht
      subst ht
      rw [ty_2] at h1
      cases h1
    · intro ht
      subst ht
      rw [ty_9] at h1
      cases h1
    · intro ht
      subst ht
      rw [ty_23] at h1
      cases h1
      obtain ⟨l1, hl1⟩ := forall_map (fun r hr => (ih1 r hr).1 rfl)
      obtain ⟨l2, hl2⟩ := forall_map (fun r hr => (ih2 r hr).1 rfl)
      subst hl1; subst hl2
      refine ⟨⟨l1, some l2⟩, ?_⟩
      rw [← el_Value_map, ← el_Value_map]; rfl
    · intro ht
      subst ht
      rw [ty_24] at h1
      cases h1
      obtain ⟨l1, hl1⟩ := forall_map (fun r hr => (ih1 r hr).2.2.2.2.2.2.1 rfl)
      obtain ⟨l2, hl2⟩ := forall_map (fun r hr => (ih2 r hr).2.2.2.2.2.2.1 rfl)
      subst hl1; subst hl2
      refine ⟨⟨l1, some l2⟩, ?_⟩
      rw [← el_Field_map, ← el_Field_map]; rfl
    · intro ht
      subst ht
      rw [ty_36] at h1
      cases h1
    · intro ht
      subst ht
      rw [ty_25] at h1
      cases h1
    · intro ht
      subst ht
      rw [ty_4] at h1
      cases h1
  | agg h1 h2 h3 ih =>
    refine ⟨?_, ?_, ?_, ?_, ?_, ?_, ?_, ?_, ?_⟩
    · intro ht
      subst ht
      rw [ty_27] at h1
      cases h1
      obtain ⟨c0, c1, c2, c3, c4, c5, c6, c7, rfl⟩ : ∃ c0 c1 c2 c3 c4 c5 c6 c7, _ = [c0, c1, c2, c3, c4, c5, c6, c7] := len8 h2
      obtain ⟨x0, e0⟩ := (ih (0, 1, 22) (by simp)).2.1 rfl
      replace e0 : [c0] = [.int .u8 x0] := e0
      obtain ⟨x1, e1⟩ := (ih (1, 1, 2) (by simp)).2.2.1 rfl
      replace e1 : [c1] = [.int .i64 x1] := e1
      obtain ⟨x2, e2⟩ := (ih (2, 1, 9) (by simp)).2.2.2.1 rfl
      replace e2 : [c2] = [.str x2] := e2
      obtain ⟨x3, e3⟩ := (ih (3, 1, 23) (by simp)).2.2.2.2.1 rfl
      replace e3 : [c3] = [es_Value x3] := e3
      obtain ⟨x4, e4⟩ := (ih (4, 1, 24) (by simp)).2.2.2.2.2.1 rfl
      replace e4 : [c4] = [es_Field x4] := e4
      obtain ⟨x5, e5⟩ := (ih (5, 1, 25) (by simp)).2.2.2.2.2.2.2.1 rfl
      replace e5 : [c5] = [.int .u8 x5] := e5
      obtain ⟨x6, e6⟩ := (ih (6, 1, 9) (by simp)).2.2.2.1 rfl
      replace e6 : [c6] = [.str x6] := e6
      obtain ⟨x7, e7⟩ := (ih (7, 1, 4) (by simp)).2.2.2.2.2.2.2.2 rfl
      replace e7 : [c7] = [.bool x7] := e7
      refine ⟨Value.mk x0 x1 x2 x3 x4 x5 x6 x7, ?_⟩
      simp only [e_Value]
      rw [← e0, ← e1, ← e2, ← e3, ← e4, ← e5, ← e6, ← e7]
      rfl
    · intro ht
      subst ht
      rw [ty_22] at h1
      cases h1
    · intro ht
      subst ht
      rw [ty_2] at h1
      cases h1
    · intro ht
      subst ht
      rw [ty_9] at h1
      cases h1
    · intro ht
      subst ht
      rw [ty_23] at h1
      cases h1
    · intro ht
      subst ht
      rw [ty_24] at h1
      cases h1
    · intro ht
      subst ht
      rw [ty_36] at h1
      cases h1
      obtain ⟨c0, c1, c2, c3, c4, c5, c6, c7, c8, rfl⟩ : ∃ c0 c1 c2 c3 c4 c5 c6 c7 c8, _ = [c0, c1, c2, c3, c4, c5, c6, c7, c8] := len9 h2
      obtain ⟨x0, e0⟩ := (ih (0, 1, 9) (by simp)).2.2.2.1 rfl
      replace e0 : [c0] = [.str x0] := e0
      obtain ⟨x1, e1⟩ := (ih (1, 8, 27) (by simp)).1 rfl
      replace e1 : [c1, c2, c3, c4, c5, c6, c7, c8] = e_Value x1 := e1
      refine ⟨Field.mk x0 x1, ?_⟩
      simp only [e_Field]
      rw [← e0, ← e1]
      rfl
    · intro ht
      subst ht
      rw [ty_25] at h1
      cases h1
    · intro ht
      subst ht
      rw [ty_4] at h1
      cases h1
theorem wt_27 {l : List D} (h : WT tab 27 l) : ∃ x : Value, l = e_Value x := (wt_all h).1 rfl
theorem wt_22 {l : List D} (h : WT tab 22 l) : ∃ x : Int, l = [.int .u8 x] := (wt_all h).2.1 rfl
theorem wt_2 {l : List D} (h : WT tab 2 l) : ∃ x : Int, l = [.int .i64 x] := (wt_all h).2.2.1 rfl
theorem wt_9 {l : List D} (h : WT tab 9 l) : ∃ x : ByteArray, l = [.str x] := (wt_all h).2.2.2.1 rfl
theorem wt_23 {l : List D} (h : WT tab 23 l) : ∃ x : Sl Value, l = [es_Value x] := (wt_all h).2.2.2.2.1 rfl
theorem wt_24 {l : List D} (h : WT tab 24 l) : ∃ x : Sl Field, l = [es_Field x] := (wt_all h).2.2.2.2.2.1 rfl
theorem wt_36 {l : List D} (h : WT tab 36 l) : ∃ x : Field, l = e_Field x := (wt_all h).2.2.2.2.2.2.1 rfl
theorem wt_25 {l : List D} (h : WT tab 25 l) : ∃ x : Int, l = [.int .u8 x] := (wt_all h).2.2.2.2.2.2.2.1 rfl
theorem wt_4 {l : List D} (h : WT tab 4 l) : ∃ x : Bool, l = [.bool x] := (wt_all h).2.2.2.2.2.2.2.2 rfl
end Go.Proofs.YtdmpjlpkmokllaaDoor
