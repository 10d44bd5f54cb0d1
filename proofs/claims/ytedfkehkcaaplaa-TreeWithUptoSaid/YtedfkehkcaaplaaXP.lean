/- Plain laws of the words that the printed functions use. -/
import Derived.Test.YtedfkehkcaaplaaXW
import Derived.Laws.Strings
namespace Go.X
open Go
set_option linter.unusedSectionVars false
set_option linter.unusedSimpArgs false
set_option linter.unusedVariables false
theorem Yb {α β : Type} (f : α → Option (α ⊕ β)) (a : α) : wl f a = (match f a with | none => none | some (.inl a') => wl f a' | some (.inr b) => some b) := by
 rw [wl]
 cases h : f a with
 | none => rfl
 | some q => cases q <;> rfl
theorem UU {α β : Type} {f : α → Option (α ⊕ β)} (I : α → Prop) (μ : α → Nat) (Post : β → Prop)
  (h : ∀ a, I a → (∃ a', f a = some (.inl a') ∧ I a' ∧ μ a' < μ a) ∨ ∃ b, f a = some (.inr b) ∧ Post b) : ∀ (n : Nat) (a : α), μ a ≤ n → I a → ∃ b, wl f a = some b ∧ Post b := by
 intro n
 induction n with
 | zero =>
  intro a hn hI
  rcases h a hI with ⟨a', h1, h2, h3⟩ | ⟨b, h1, h2⟩
  ·omega
  ·exact ⟨b, by rw [Yb, h1], h2⟩
 | succ n ih =>
  intro a hn hI
  rcases h a hI with ⟨a', h1, h2, h3⟩ | ⟨b, h1, h2⟩
  ·obtain ⟨b, h4, h5⟩ := ih a' (by omega) h2
   exact ⟨b, by rw [Yb, h1]; exact h4, h5⟩
  ·exact ⟨b, by rw [Yb, h1], h2⟩
theorem Gd {α β : Type} {f : α → Option (α ⊕ β)} {a a' : α} (h : f a = some (.inl a')) : wl f a = wl f a' := by rw [Yb, h]
theorem yT {α β : Type} {f : α → Option (α ⊕ β)} {a : α} {b : β} (h : f a = some (.inr b)) : wl f a = some b := by rw [Yb, h]
theorem wE {n : Int} (h1 : -9223372036854775808 ≤ n) (h2 : n < 9223372036854775808) : gD n = n := by
 unfold gD
 rw [IntKind.wrap_i64]
 omega
theorem UW {α : Type} (l : List α) (n : Nat) : idx l (n : Int) = l[n]? := by simp [idx]
theorem qB {α : Type} (l : List α) (n : Nat) (h : n < l.length) : idx l (n : Int) = some l[n] := by simp [idx, h]
theorem aoX {α : Type} (l : List α) : ln l = (l.length : Int) := rfl
theorem UY {b n : Int} (h : n * b ≤ 140737488355328) : room b n = true := by simpa [room] using h
theorem nR (a : ByteArray) : seq a a = true := by simp [seq]
def oH {A B : Type} (a : List A) (b : List B) (p : A → B → Option Bool) : Int → Option (Int ⊕ (Int ⊕ Int)) := fun i =>
 bif decide (i < ln a) then (idx a i).bind fun x => (idx b i).bind fun y => (p x y).bind fun r => bif !r then some (.inr (.inr i)) else some (.inl (gD (i + 1)))
 else some (.inr (.inl i))
theorem gH {α β : Type} {e : α → β} : ∀ {rows : List β}, (∀ r ∈ rows, ∃ x, r = e x) → ∃ l : List α, rows = l.map e
 | [], _ => ⟨[], rfl⟩
 | r :: rows, h => by
  obtain ⟨x, rfl⟩ := h r (by simp)
  obtain ⟨l, rfl⟩ := gH (rows := rows) fun r hr => h r (by simp [hr])
  exact ⟨x :: l, rfl⟩
end Go.X
namespace Go.X
theorem aml {σ β : Type} {f : σ × Int → Option ((σ × Int) ⊕ β)} (n : Nat) (hn : n ≤ 9223372036854775807)
  (h : ∀ (s : σ) (k : Nat), k ≤ n → (∃ b, f (s, (k : Int)) = some (.inr b)) ∨ (k < n ∧ ∃ s', f (s, (k : Int)) = some (.inl (s', gD ((k : Int) + 1))))) (s : σ) : ∃ b, wl f (s, 0) = some b := by
 obtain ⟨b, h1, _⟩ := UU (f := f) (fun a => ∃ k : Nat, a.2 = (k : Int) ∧ k ≤ n) (fun a => n - a.2.toNat) (fun _ => True) (fun a hI => by
  obtain ⟨s, i⟩ := a
  obtain ⟨k, rfl, hk⟩ := hI
  rcases h s k hk with ⟨b, h1⟩ | ⟨hlt, s', h1⟩
  ·exact .inr ⟨b, h1, trivial⟩
  ·left
   refine ⟨_, h1, ⟨k + 1, ?_, hlt⟩, ?_⟩
   ·show gD _ = _
    rw [wE (by omega) (by omega)]; rfl
   ·show n - (gD _).toNat < n - _
    rw [wE (by omega) (by omega)]
    omega) n (s, 0) (by simp) ⟨0, rfl, by omega⟩
 exact ⟨b, h1⟩
end Go.X
namespace Go.X
theorem ada {α β σ : Type} {f : α → Option (α ⊕ β)} (mk : σ → Nat → α) (n : Nat) (s : Nat → σ) {b : β} (h : ∀ k, k < n → f (mk (s k) k) = some (.inl (mk (s (k + 1)) (k + 1)))) (hend : f (mk (s n) n) = some (.inr b)) : wl f (mk (s 0) 0) = some b := by
 have : ∀ d k, k + d = n → wl f (mk (s k) k) = some b := by
  intro d
  induction d with
  | zero => intro k hk; have : k = n := by omega
            subst this; exact yT hend
  | succ d ih => intro k hk; rw [Gd (h k (by omega))]; exact ih (k + 1) (by omega)
 exact this n 0 (by omega)
theorem tu {k : Nat} (h : k < 9223372036854775807) : gD ((k : Int) + 1) = ((k + 1 : Nat) : Int) := by
 rw [wE (by omega) (by omega)]; rfl
theorem uQ {α : Type} {l : List α} {k : Nat} (h : k < l.length) : decide ((k : Int) < ln l) = true := by simp [ln]; omega
theorem tC {α : Type} {l : List α} : decide ((l.length : Int) < ln l) = false := by simp [ln]
end Go.X
