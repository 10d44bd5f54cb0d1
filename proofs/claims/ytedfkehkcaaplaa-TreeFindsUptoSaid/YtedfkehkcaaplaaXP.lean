/- T -/
import Derived.Test.YtedfkehkcaaplaaXW
import Derived.Laws.Strings
namespace Go.X
open Go
set_option linter.unusedVariables false
theorem Lc {α β : Type} (f : α → Option (α ⊕ β)) (a : α) : wl f a = (match f a with | none => none | some (.inl a') => wl f a' | some (.inr b) => some b) := by
 rw [wl]
 cases h : f a with
 | none => rfl
 | some q => cases q <;> rfl
theorem vO {α β : Type} {f : α → Option (α ⊕ β)} (I : α → Prop) (μ : α → Nat) (Post : β → Prop)
  (h : ∀ a, I a → (∃ a', f a = some (.inl a') ∧ I a' ∧ μ a' < μ a) ∨ ∃ b, f a = some (.inr b) ∧ Post b) : ∀ (n : Nat) (a : α), μ a ≤ n → I a → ∃ b, wl f a = some b ∧ Post b := by
 intro n
 induction n with
 | zero =>
  intro a hn hI
  rcases h a hI with ⟨a', h1, h2, h3⟩ | ⟨b, h1, h2⟩
  ·omega
  ·exact ⟨b, by rw [Lc, h1], h2⟩
 | succ n ih =>
  intro a hn hI
  rcases h a hI with ⟨a', h1, h2, h3⟩ | ⟨b, h1, h2⟩
  ·obtain ⟨b, h4, h5⟩ := ih a' (by omega) h2
   exact ⟨b, by rw [Lc, h1]; exact h4, h5⟩
  ·exact ⟨b, by rw [Lc, h1], h2⟩
theorem kR {α β : Type} {f : α → Option (α ⊕ β)} {a a' : α} (h : f a = some (.inl a')) : wl f a = wl f a' := by rw [Lc, h]
theorem iV {α β : Type} {f : α → Option (α ⊕ β)} {a : α} {b : β} (h : f a = some (.inr b)) : wl f a = some b := by rw [Lc, h]
theorem lU {n : Int} (h1 : -9223372036854775808 ≤ n) (h2 : n < 9223372036854775808) : dS n = n := by
 unfold dS
 rw [IntKind.wrap_i64]
 omega
theorem vP {α : Type} (l : List α) (n : Nat) : idx l (n : Int) = l[n]? := by simp [idx]
theorem iM {α : Type} (l : List α) (n : Nat) (h : n < l.length) : idx l (n : Int) = some l[n] := by simp [idx, h]
theorem Ud {α : Type} (l : List α) : ln l = (l.length : Int) := rfl
theorem sK {b n : Int} (h : n * b ≤ 140737488355328) : room b n = true := by simpa [room] using h
theorem kE (a : ByteArray) : seq a a = true := by simp [seq]
def iN {A B : Type} (a : List A) (b : List B) (p : A → B → Option Bool) : Int → Option (Int ⊕ (Int ⊕ Int)) := fun i =>
 bif decide (i < ln a) then (idx a i).bind fun x => (idx b i).bind fun y => (p x y).bind fun r => bif !r then some (.inr (.inr i)) else some (.inl (dS (i + 1)))
 else some (.inr (.inl i))
theorem Ue {A B : Type} (a : List A) (b : List B) (p : A → B → Option Bool) (r : A → B → Bool) (hl : a.length = b.length) (hn : a.length ≤ 9223372036854775807) (hp : ∀ x ∈ a, ∀ y ∈ b, p x y = some (r x y)) :
  ∃ q, wl (iN a b p) 0 = some q ∧ (match q with | .inl _ => (List.zip a b).all (fun q => r q.1 q.2) = true | .inr _ => (List.zip a b).all (fun q => r q.1 q.2) = false) := by
 refine vO (fun i : Int => ∃ k : Nat, i = (k : Int) ∧ k ≤ a.length ∧ ∀ j, j < k → ∀ x y, a[j]? = some x → b[j]? = some y → r x y = true) (fun i : Int => a.length - i.toNat) _ ?_ a.length 0 (by omega) ⟨0, rfl, by omega, by intro j hj; omega⟩
 rintro i ⟨k, rfl, hk, hall⟩
 by_cases hlt : k < a.length
 ·have hb : k < b.length := by omega
  have h1 : decide ((k : Int) < ln a) = true := by simp [ln]; omega
  have h2 := hp a[k] (List.getElem_mem hlt) b[k] (List.getElem_mem hb)
  cases hr : r a[k] b[k] with
  | true =>
   left
   refine ⟨((k + 1 : Nat) : Int), ?_, ⟨k + 1, rfl, by omega, fun j hj x y hx hy => ?_⟩, by omega⟩
   ·simp only [iN, h1, cond_true, iM a k hlt, iM b k hb, Option.bind_some, h2, hr, Bool.not_true, cond_false]
    rw [lU (by omega) (by omega)]
    rfl
   ·by_cases hj2 : j < k
    ·exact hall j hj2 x y hx hy
    ·have : j = k := by omega
     subst this
     rw [List.getElem?_eq_getElem hlt] at hx
     rw [List.getElem?_eq_getElem hb] at hy
     cases hx; cases hy; exact hr
  | false =>
   right
   refine ⟨.inr (k : Int), ?_, ?_⟩
   ·simp only [iN, h1, cond_true, iM a k hlt, iM b k hb, Option.bind_some, h2, hr, Bool.not_false]
   ·show (List.zip a b).all _ = false
    rw [List.all_eq_false]
    refine ⟨(a[k], b[k]), ?_, by simp [hr]⟩
    rw [List.mem_iff_getElem]
    exact ⟨k, by simp; omega, by simp⟩
 ·right
  have h1 : decide ((k : Int) < ln a) = false := by simp [ln]; omega
  refine ⟨.inl (k : Int), by simp only [iN, h1, cond_false], ?_⟩
  show (List.zip a b).all _ = true
  rw [List.all_eq_true]
  rintro ⟨x, y⟩ hxy
  obtain ⟨j, hj, he⟩ := List.mem_iff_getElem.1 hxy
  simp only [List.length_zip] at hj
  simp only [List.getElem_zip, Prod.mk.injEq] at he
  exact hall j (by omega) x y (by rw [← he.1]; exact List.getElem?_eq_getElem (by omega)) (by rw [← he.2]; exact List.getElem?_eq_getElem (by omega))
theorem dW {α β : Type} {e : α → β} : ∀ {rows : List β}, (∀ r ∈ rows, ∃ x, r = e x) → ∃ l : List α, rows = l.map e
 | [], _ => ⟨[], rfl⟩
 | r :: rows, h => by
  obtain ⟨x, rfl⟩ := h r (by simp)
  obtain ⟨l, rfl⟩ := dW (rows := rows) fun r hr => h r (by simp [hr])
  exact ⟨x :: l, rfl⟩
end Go.X
namespace Go.X
theorem X3 {σ β : Type} {f : σ × Int → Option ((σ × Int) ⊕ β)} (n : Nat) (hn : n ≤ 9223372036854775807)
  (h : ∀ (s : σ) (k : Nat), k ≤ n → (∃ b, f (s, (k : Int)) = some (.inr b)) ∨ (k < n ∧ ∃ s', f (s, (k : Int)) = some (.inl (s', dS ((k : Int) + 1))))) (s : σ) : ∃ b, wl f (s, 0) = some b := by
 obtain ⟨b, h1, _⟩ := vO (f := f) (fun a => ∃ k : Nat, a.2 = (k : Int) ∧ k ≤ n) (fun a => n - a.2.toNat) (fun _ => True) (fun a hI => by
  obtain ⟨s, i⟩ := a
  obtain ⟨k, rfl, hk⟩ := hI
  rcases h s k hk with ⟨b, h1⟩ | ⟨hlt, s', h1⟩
  ·exact .inr ⟨b, h1, trivial⟩
  ·left
   refine ⟨_, h1, ⟨k + 1, ?_, hlt⟩, ?_⟩
   ·show dS _ = _
    rw [lU (by omega) (by omega)]; rfl
   ·show n - (dS _).toNat < n - _
    rw [lU (by omega) (by omega)]
    omega) n (s, 0) (by simp) ⟨0, rfl, by omega⟩
 exact ⟨b, h1⟩
end Go.X
namespace Go.X
theorem PL {α β σ : Type} {f : α → Option (α ⊕ β)} (mk : σ → Nat → α) (n : Nat) (s : Nat → σ) {b : β} (h : ∀ k, k < n → f (mk (s k) k) = some (.inl (mk (s (k + 1)) (k + 1)))) (hend : f (mk (s n) n) = some (.inr b)) : wl f (mk (s 0) 0) = some b := by
 have : ∀ d k, k + d = n → wl f (mk (s k) k) = some b := by
  intro d
  induction d with
  | zero => intro k hk; have : k = n := by omega
            subst this; exact iV hend
  | succ d ih => intro k hk; rw [kR (h k (by omega))]; exact ih (k + 1) (by omega)
 exact this n 0 (by omega)
theorem lV {k : Nat} (h : k < 9223372036854775807) : dS ((k : Int) + 1) = ((k + 1 : Nat) : Int) := by
 rw [lU (by omega) (by omega)]; rfl
theorem kK {α : Type} {l : List α} {k : Nat} (h : k < l.length) : decide ((k : Int) < ln l) = true := by simp [ln]; omega
theorem lW {α : Type} {l : List α} : decide ((l.length : Int) < ln l) = false := by simp [ln]
end Go.X
