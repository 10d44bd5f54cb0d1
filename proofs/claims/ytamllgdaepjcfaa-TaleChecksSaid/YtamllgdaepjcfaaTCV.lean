/- Data of a type is an encoded value: printed by a small program. -/
import Derived.Test.YtamllgdaepjcfaaTCE
import Derived.Test.YtamllgdaepjcfaaXP
namespace Go.Proofs.Ytamllgdaepjcfaa
open Go Go.X
set_option linter.unusedVariables false
set_option linter.unusedSimpArgs false
set_option maxRecDepth 100000
theorem len5 {l : List D} (h : l.length = 5) : ∃ c0 c1 c2 c3 c4, l = [c0, c1, c2, c3, c4] := by
  match l, h with
  | [c0, c1, c2, c3, c4], _ => exact ⟨c0, c1, c2, c3, c4, rfl⟩
theorem ty_45 : tab.ty 45 = .slice 70 5 56 := rfl
theorem ty_70 : tab.ty 70 = .agg 5 [(0, 1, 68), (1, 1, 3), (2, 1, 9), (3, 1, 4), (4, 1, 9)] := rfl
theorem ty_68 : tab.ty 68 = .int .u8 := rfl
theorem ty_3 : tab.ty 3 = .int .i64 := rfl
theorem ty_9 : tab.ty 9 = .str := rfl
theorem ty_4 : tab.ty 4 = .bool := rfl
theorem wt_all {t : Nat} {l : List D} (h : WT tab t l) :
    (t = 45 → ∃ x : Sl Note, l = [.sl (x.l.map fun y => e_Note y) (x.x.map (List.map fun y => e_Note y))]) ∧
    (t = 70 → ∃ x : Note, l = e_Note x) ∧
    (t = 68 → ∃ x : Int, l = [.int .u8 x]) ∧
    (t = 3 → ∃ x : Int, l = [.int .i64 x]) ∧
    (t = 9 → ∃ x : ByteArray, l = [.str x]) ∧
    (t = 4 → ∃ x : Bool, l = [.bool x]) := by
  induction h with
  | int h1 h2 =>
    refine ⟨?_, ?_, ?_, ?_, ?_, ?_⟩
    · intro ht
      subst ht
      rw [ty_45] at h1
      cases h1
    · intro ht
      subst ht
      rw [ty_70] at h1
      cases h1
    · intro ht
      subst ht
      rw [ty_68] at h1
      cases h1
      exact ⟨_, rfl⟩
    · intro ht
      subst ht
      rw [ty_3] at h1
      cases h1
      exact ⟨_, rfl⟩
    · intro ht
      subst ht
      rw [ty_9] at h1
      cases h1
    · intro ht
      subst ht
      rw [ty_4] at h1
      cases h1
  | bool h1 =>
    refine ⟨?_, ?_, ?_, ?_, ?_, ?_⟩
    · intro ht
      subst ht
      rw [ty_45] at h1
      cases h1
    · intro ht
      subst ht
      rw [ty_70] at h1
      cases h1
    · intro ht
      subst ht
      rw [ty_68] at h1
      cases h1
    · intro ht
      subst ht
      rw [ty_3] at h1
      cases h1
    · intro ht
      subst ht
      rw [ty_9] at h1
      cases h1
    · intro ht
      subst ht
      rw [ty_4] at h1
      cases h1
      exact ⟨_, rfl⟩
  | str h1 h2 =>
    refine ⟨?_, ?_, ?_, ?_, ?_, ?_⟩
    · intro ht
      subst ht
      rw [ty_45] at h1
      cases h1
    · intro ht
      subst ht
      rw [ty_70] at h1
      cases h1
    · intro ht
      subst ht
      rw [ty_68] at h1
      cases h1
    · intro ht
      subst ht
      rw [ty_3] at h1
      cases h1
    · intro ht
      subst ht
      rw [ty_9] at h1
      cases h1
      exact ⟨_, rfl⟩
    · intro ht
      subst ht
      rw [ty_4] at h1
      cases h1
  | slice h1 h2 h3 h4 ih1 ih2 =>
    refine ⟨?_, ?_, ?_, ?_, ?_, ?_⟩
    · intro ht
      subst ht
      rw [ty_45] at h1
      cases h1
      obtain ⟨l1, hl1⟩ := forall_map (fun r hr => (ih1 r hr).2.1 rfl)
      obtain ⟨l2, hl2⟩ := forall_map (fun r hr => (ih2 r hr).2.1 rfl)
      subst hl1; subst hl2
      refine ⟨⟨l1, some l2⟩, ?_⟩
      rfl
    · intro ht
      subst ht
      rw [ty_70] at h1
      cases h1
    · intro ht
      subst ht
      rw [ty_68] at h1
      cases h1
    · intro ht
      subst ht
      rw [ty_3] at h1
      cases h1
    · intro ht
      subst ht
      rw [ty_9] at h1
      cases h1
    · intro ht
      subst ht
      rw [ty_4] at h1
      cases h1
  | agg h1 h2 h3 ih =>
    refine ⟨?_, ?_, ?_, ?_, ?_, ?_⟩
    · intro ht
      subst ht
      rw [ty_45] at h1
      cases h1
    · intro ht
      subst ht
      rw [ty_70] at h1
      cases h1
      obtain ⟨c0, c1, c2, c3, c4, rfl⟩ : ∃ c0 c1 c2 c3 c4, _ = [c0, c1, c2, c3, c4] := len5 h2
      obtain ⟨x0, e0⟩ := (ih (0, 1, 68) (by simp)).2.2.1 rfl
      replace e0 : [c0] = [.int .u8 x0] := e0
      obtain ⟨x1, e1⟩ := (ih (1, 1, 3) (by simp)).2.2.2.1 rfl
      replace e1 : [c1] = [.int .i64 x1] := e1
      obtain ⟨x2, e2⟩ := (ih (2, 1, 9) (by simp)).2.2.2.2.1 rfl
      replace e2 : [c2] = [.str x2] := e2
      obtain ⟨x3, e3⟩ := (ih (3, 1, 4) (by simp)).2.2.2.2.2 rfl
      replace e3 : [c3] = [.bool x3] := e3
      obtain ⟨x4, e4⟩ := (ih (4, 1, 9) (by simp)).2.2.2.2.1 rfl
      replace e4 : [c4] = [.str x4] := e4
      refine ⟨Note.mk x0 x1 x2 x3 x4, ?_⟩
      simp only [e_Note]
      rw [← e0, ← e1, ← e2, ← e3, ← e4]
      rfl
    · intro ht
      subst ht
      rw [ty_68] at h1
      cases h1
    · intro ht
      subst ht
      rw [ty_3] at h1
      cases h1
    · intro ht
      subst ht
      rw [ty_9] at h1
      cases h1
    · intro ht
      subst ht
      rw [ty_4] at h1
      cases h1
theorem wt_45 {l : List D} (h : WT tab 45 l) : ∃ x : Sl Note, l = [.sl (x.l.map fun y => e_Note y) (x.x.map (List.map fun y => e_Note y))] := (wt_all h).1 rfl
theorem wt_70 {l : List D} (h : WT tab 70 l) : ∃ x : Note, l = e_Note x := (wt_all h).2.1 rfl
theorem wt_68 {l : List D} (h : WT tab 68 l) : ∃ x : Int, l = [.int .u8 x] := (wt_all h).2.2.1 rfl
theorem wt_3 {l : List D} (h : WT tab 3 l) : ∃ x : Int, l = [.int .i64 x] := (wt_all h).2.2.2.1 rfl
theorem wt_9 {l : List D} (h : WT tab 9 l) : ∃ x : ByteArray, l = [.str x] := (wt_all h).2.2.2.2.1 rfl
theorem wt_4 {l : List D} (h : WT tab 4 l) : ∃ x : Bool, l = [.bool x] := (wt_all h).2.2.2.2.2 rfl
end Go.Proofs.Ytamllgdaepjcfaa
