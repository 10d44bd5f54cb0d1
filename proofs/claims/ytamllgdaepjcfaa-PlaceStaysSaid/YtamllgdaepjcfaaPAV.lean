/- Data of a type is an encoded value: printed by a small program. -/
import Derived.Test.YtamllgdaepjcfaaPAE
import Derived.Test.YtamllgdaepjcfaaXP
namespace Go.Proofs.Ytamllgdaepjcfaa
open Go Go.X
set_option linter.unusedVariables false
set_option linter.unusedSimpArgs false
set_option maxRecDepth 100000
theorem ty_60 : tab.ty 60 = .slice 5 1 1 := rfl
theorem ty_5 : tab.ty 5 = .int .u8 := rfl
theorem wt_all {t : Nat} {l : List D} (h : WT tab t l) :
    (t = 60 → ∃ x : Sl Int, l = [.sl (x.l.map fun y => [.int .u8 y]) (x.x.map (List.map fun y => [.int .u8 y]))]) ∧
    (t = 5 → ∃ x : Int, l = [.int .u8 x]) := by
  induction h with
  | int h1 h2 =>
    refine ⟨?_, ?_⟩
    · intro ht
      subst ht
      rw [ty_60] at h1
      cases h1
    · intro ht
      subst ht
      rw [ty_5] at h1
      cases h1
      exact ⟨_, rfl⟩
  | bool h1 =>
    refine ⟨?_, ?_⟩
    · intro ht
      subst ht
      rw [ty_60] at h1
      cases h1
    · intro ht
      subst ht
      rw [ty_5] at h1
      cases h1
  | str h1 h2 =>
    refine ⟨?_, ?_⟩
    · intro ht
      subst ht
      rw [ty_60] at h1
      cases h1
    · intro ht
      subst ht
      rw [ty_5] at h1
      cases h1
  | slice h1 h2 h3 h4 ih1 ih2 =>
    refine ⟨?_, ?_⟩
    · intro ht
      subst ht
      rw [ty_60] at h1
      cases h1
      obtain ⟨l1, hl1⟩ := forall_map (fun r hr => (ih1 r hr).2 rfl)
      obtain ⟨l2, hl2⟩ := forall_map (fun r hr => (ih2 r hr).2 rfl)
      subst hl1; subst hl2
      refine ⟨⟨l1, some l2⟩, ?_⟩
      rfl
    · intro ht
      subst ht
      rw [ty_5] at h1
      cases h1
  | agg h1 h2 h3 ih =>
    refine ⟨?_, ?_⟩
    · intro ht
      subst ht
      rw [ty_60] at h1
      cases h1
    · intro ht
      subst ht
      rw [ty_5] at h1
      cases h1
theorem wt_60 {l : List D} (h : WT tab 60 l) : ∃ x : Sl Int, l = [.sl (x.l.map fun y => [.int .u8 y]) (x.x.map (List.map fun y => [.int .u8 y]))] := (wt_all h).1 rfl
theorem wt_5 {l : List D} (h : WT tab 5 l) : ∃ x : Int, l = [.int .u8 x] := (wt_all h).2 rfl
end Go.Proofs.Ytamllgdaepjcfaa
