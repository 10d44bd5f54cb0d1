/- T -/
import Derived.Test.YtedfkehkcaaplaaXTab
namespace Go.X
open Go
set_option linter.unusedVariables false
variable [bY]
section
variable {Γ : Tab} {t : Nat} {l : List D}
theorem WT.mX {k : IntKind} (h : WT Γ t l) (ht : Γ.ty t = .int k) : ∃ n, l = [.int k n] ∧ (Lit.int k n).wf = true := by
 cases h with
 | int h1 h2 => rw [ht] at h1; cases h1; exact ⟨_, rfl, h2⟩
 | bool h1 => rw [ht] at h1; cases h1
 | str h1 => rw [ht] at h1; cases h1
 | slice h1 => rw [ht] at h1; cases h1
 | agg h1 => rw [ht] at h1; cases h1
theorem WT.oK (h : WT Γ t l) (ht : Γ.ty t = .bool) : ∃ b, l = [.bool b] := by
 cases h with
 | int h1 h2 => rw [ht] at h1; cases h1
 | bool h1 => exact ⟨_, rfl⟩
 | str h1 => rw [ht] at h1; cases h1
 | slice h1 => rw [ht] at h1; cases h1
 | agg h1 => rw [ht] at h1; cases h1
theorem WT.pX (h : WT Γ t l) (ht : Γ.ty t = .str) : ∃ s, l = [.str s] ∧ s.size ≤ maxLen := by
 cases h with
 | int h1 h2 => rw [ht] at h1; cases h1
 | bool h1 => rw [ht] at h1; cases h1
 | str h1 h2 => exact ⟨_, rfl, Nat.le_trans h2 (by decide)⟩
 | slice h1 => rw [ht] at h1; cases h1
 | agg h1 => rw [ht] at h1; cases h1
theorem WT.dz {e sz b : Nat} (h : WT Γ t l) (ht : Γ.ty t = .slice e sz b) : ∃ rows hid, l = [.sl rows (some hid)] ∧ (rows.length + hid.length) * b ≤ reachBytes ∧ (∀ r ∈ rows, WT Γ e r) ∧ ∀ r ∈ hid, WT Γ e r := by
 cases h with
 | int h1 h2 => rw [ht] at h1; cases h1
 | bool h1 => rw [ht] at h1; cases h1
 | str h1 => rw [ht] at h1; cases h1
 | slice h1 h2 hb h3 h4 => rw [ht] at h1; cases h1; exact ⟨_, _, rfl, hb, h3, h4⟩
 | agg h1 => rw [ht] at h1; cases h1
def WTF (Γ : Tab) : List (Nat × Nat × Nat) → List D → Prop
 | [], l => l = []
 | q :: r, l => ∃ a b, l = a ++ b ∧ WT Γ q.2.2 a ∧ WTF Γ r b
theorem Ua : ∀ {fs : List (Nat × Nat × Nat)} {off n : Nat} {l : List D}, kP off n fs = true → l.length + off = n → (∀ q ∈ fs, off ≤ q.1 → WT Γ q.2.2 ((l.drop (q.1 - off)).take q.2.1)) → WTF Γ fs l
 | [], off, n, l, hc, hl, _ => by
  simp only [kP] at hc
  have := beq_eq hc
  exact List.eq_nil_of_length_eq_zero (by omega)
 | q :: fs, off, n, l, hc, hl, h => by
  simp only [kP, Bool.and_eq_true] at hc
  have h1 := beq_eq hc.1
  have hle : ∀ (fs : List (Nat × Nat × Nat)) (off : Nat), kP off n fs = true → off ≤ n := by
   intro fs
   induction fs with
   | nil => intro off h; simp only [kP] at h; have := beq_eq h; omega
   | cons q fs ih => intro off h; simp only [kP, Bool.and_eq_true] at h; have := ih _ h.2; omega
  have hoff := hle fs _ hc.2
  have hq := h q (by simp) (by omega)
  rw [h1, Nat.sub_self, List.drop_zero] at hq
  refine ⟨l.take q.2.1, l.drop q.2.1, (List.take_append_drop _ _).symm, hq, Ua hc.2 (by simp; omega) fun q' hq' hle' => ?_⟩
  have h2 := h q' (by simp [hq']) (by omega)
  rw [List.drop_drop]
  have : q.2.1 + (q'.1 - (off + q.2.1)) = q'.1 - off := by omega
  rw [this]; exact h2
theorem WT.sJ {n : Nat} {fs : List (Nat × Nat × Nat)} (h : WT Γ t l) (ht : Γ.ty t = .agg n fs) (hc : kP 0 n fs = true) : WTF Γ fs l := by
 cases h with
 | int h1 h2 => rw [ht] at h1; cases h1
 | bool h1 => rw [ht] at h1; cases h1
 | str h1 => rw [ht] at h1; cases h1
 | slice h1 => rw [ht] at h1; cases h1
 | agg h1 h2 h3 =>
  rw [ht] at h1; cases h1
  exact Ua hc (by omega) fun q hq _ => by simpa using h3 q hq
end
end Go.X
namespace Go.X
end Go.X
