/- Plain laws of the words that the printed functions use. -/
import Derived.Test.YtipkggkbldgmjaaGreatXW
import Derived.Laws.Strings
namespace Go.X
open Go
set_option linter.unusedSectionVars false
set_option linter.unusedSimpArgs false
set_option linter.unusedVariables false
theorem SA {α β : Type} (f : α → Option (α ⊕ β)) (a : α) : wl f a = (match f a with | none => none | some (.inl a') => wl f a' | some (.inr b) => some b) := by
 rw [wl]
 cases h : f a with
 | none => rfl
 | some q => cases q <;> rfl
theorem Xo {α β : Type} {f : α → Option (α ⊕ β)} (I : α → Prop) (μ : α → Nat) (Post : β → Prop)
  (h : ∀ a, I a → (∃ a', f a = some (.inl a') ∧ I a' ∧ μ a' < μ a) ∨ ∃ b, f a = some (.inr b) ∧ Post b) : ∀ (n : Nat) (a : α), μ a ≤ n → I a → ∃ b, wl f a = some b ∧ Post b := by
 intro n
 induction n with
 | zero =>
  intro a hn hI
  rcases h a hI with ⟨a', h1, h2, h3⟩ | ⟨b, h1, h2⟩
  ·omega
  ·exact ⟨b, by rw [SA, h1], h2⟩
 | succ n ih =>
  intro a hn hI
  rcases h a hI with ⟨a', h1, h2, h3⟩ | ⟨b, h1, h2⟩
  ·obtain ⟨b, h4, h5⟩ := ih a' (by omega) h2
   exact ⟨b, by rw [SA, h1]; exact h4, h5⟩
  ·exact ⟨b, by rw [SA, h1], h2⟩
theorem OA {α β : Type} {f : α → Option (α ⊕ β)} {a a' : α} (h : f a = some (.inl a')) : wl f a = wl f a' := by rw [SA, h]
theorem Ei {α β : Type} {f : α → Option (α ⊕ β)} {a : α} {b : β} (h : f a = some (.inr b)) : wl f a = some b := by rw [SA, h]
theorem nA {n : Int} (h1 : -9223372036854775808 ≤ n) (h2 : n < 9223372036854775808) : fq n = n := by
 unfold fq
 rw [IntKind.wrap_i64]
 omega
theorem Xp {α : Type} (x : Option α) : (x.bind fun r => some r) = x := by cases x <;> rfl
theorem agA {α : Type} (l : List α) (n : Nat) : idx l (n : Int) = l[n]? := by simp [idx]
theorem fO {α : Type} (l : List α) (n : Nat) (h : n < l.length) : idx l (n : Int) = some l[n] := by simp [idx, h]
theorem SB {α : Type} (l : List α) : ln l = (l.length : Int) := rfl
theorem agB {b n : Int} (h : n * b ≤ 140737488355328) : room b n = true := by simpa [room] using h
theorem gJ (a : ByteArray) : seq a a = true := by simp [seq]
theorem agC {a b : ByteArray} : seq a b = true ↔ a = b := by
 constructor
 ·intro h
  have h1 : a.toList = b.toList := by simpa [seq] using h
  have : a.data.toList = b.data.toList := by rw [← ByteArray.toList_eq, ← ByteArray.toList_eq, h1]
  exact ByteArray.ext (Array.ext' this)
 ·rintro rfl; exact gJ a
def jS {A B : Type} (a : List A) (b : List B) (p : A → B → Option Bool) : Int → Option (Int ⊕ (Int ⊕ Int)) := fun i =>
 bif decide (i < ln a) then (idx a i).bind fun x => (idx b i).bind fun y => (p x y).bind fun r => bif !r then some (.inr (.inr i)) else some (.inl (fq (i + 1)))
 else some (.inr (.inl i))
theorem gX {α β : Type} {e : α → β} : ∀ {rows : List β}, (∀ r ∈ rows, ∃ x, r = e x) → ∃ l : List α, rows = l.map e
 | [], _ => ⟨[], rfl⟩
 | r :: rows, h => by
  obtain ⟨x, rfl⟩ := h r (by simp)
  obtain ⟨l, rfl⟩ := gX (rows := rows) fun r hr => h r (by simp [hr])
  exact ⟨x :: l, rfl⟩
end Go.X
namespace Go.X
end Go.X
namespace Go.X
theorem iF {k : Nat} (h : k < 9223372036854775807) : fq ((k : Int) + 1) = ((k + 1 : Nat) : Int) := by
 rw [nA (by omega) (by omega)]; rfl
theorem gU {α : Type} {l : List α} {k : Nat} (h : k < l.length) : decide ((k : Int) < ln l) = true := by simp [ln]; omega
theorem fU {α : Type} {l : List α} : decide ((l.length : Int) < ln l) = false := by simp [ln]
end Go.X
