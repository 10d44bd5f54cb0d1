/- Data of a type is an encoded value: printed by a small program. -/
import Derived.Test.YtamllgdaepjcfaaPCE
import Derived.Test.YtamllgdaepjcfaaXP
namespace Go.Proofs.Ytamllgdaepjcfaa
open Go Go.X
set_option linter.unusedVariables false
set_option linter.unusedSimpArgs false
set_option maxRecDepth 100000
theorem ty_31 : tab.ty 31 = .slice 3 1 8 := rfl
theorem ty_3 : tab.ty 3 = .int .i64 := rfl
theorem wt_all {t : Nat} {l : List D} (h : WT tab t l) :
    (t = 31 → ∃ x : Sl Int, l = [.sl (x.l.map fun y => [.int .i64 y]) (x.x.map (List.map fun y => [.int .i64 y]))]) ∧
    (t = 3 → ∃ x : Int, l = [.int .i64 x]) := by
  induction h with
  | int h1 h2 =>
    refine ⟨?_, ?_⟩
    · intro ht
      subst ht
      rw [ty_31] at h1
      cases h1
    · intro ht
      subst ht
      rw [ty_3] at h1
      cases h1
      exact ⟨_, rfl⟩
  | bool h1 =>
    refine ⟨?_, ?_⟩
    · intro ht
      subst ht
      rw [ty_31] at h1
      cases h1
    · intro ht
      subst ht
      rw [ty_3] at h1
      cases h1
  | str h1 h2 =>
    refine ⟨?_, ?_⟩
    · intro ht
      subst ht
      rw [ty_31] at h1
      cases h1
    · intro ht
      subst ht
      rw [ty_3] at h1
      cases h1
  | slice h1 h2 h3 h4 ih1 ih2 =>
    refine ⟨?_, ?_⟩
    · intro ht
      subst ht
      rw [ty_31] at h1
      cases h1
      obtain ⟨l1, hl1⟩ := forall_map (fun r hr => (ih1 r hr).2 rfl)
      obtain ⟨l2, hl2⟩ := forall_map (fun r hr => (ih2 r hr).2 rfl)
      subst hl1; subst hl2
      refine ⟨⟨l1, some l2⟩, ?_⟩
      rfl
    · intro ht
      subst ht
      rw [ty_3] at h1
      cases h1
  | agg h1 h2 h3 ih =>
    refine ⟨?_, ?_⟩
    · intro ht
      subst ht
      rw [ty_31] at h1
      cases h1
    · intro ht
      subst ht
      rw [ty_3] at h1
      cases h1
theorem wt_31 {l : List D} (h : WT tab 31 l) : ∃ x : Sl Int, l = [.sl (x.l.map fun y => [.int .i64 y]) (x.x.map (List.map fun y => [.int .i64 y]))] := (wt_all h).1 rfl
theorem wt_3 {l : List D} (h : WT tab 3 l) : ∃ x : Int, l = [.int .i64 x] := (wt_all h).2 rfl
end Go.Proofs.Ytamllgdaepjcfaa
