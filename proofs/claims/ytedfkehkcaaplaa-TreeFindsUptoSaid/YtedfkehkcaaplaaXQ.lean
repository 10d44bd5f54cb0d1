/- T -/
import Derived.Test.YtedfkehkcaaplaaXP
namespace Go.X
open Go
set_option linter.unusedVariables false
theorem IJ {α β σ A : Type} {f : α → Option (α ⊕ β)} (l : List A) (step : σ → A → σ) (mk : σ → Nat → α) (I : Nat → σ → Prop) (s0 : σ) (h0 : I 0 s0)
  (h : ∀ k (hk : k < l.length) s, I k s → f (mk s k) = some (.inl (mk (step s l[k]) (k + 1))) ∧ I (k + 1) (step s l[k])) {b : β}
  (hend : ∀ s, I l.length s → s = l.foldl step s0 → f (mk s l.length) = some (.inr b)) : wl f (mk s0 0) = some b := by
 have hs : ∀ k (hk : k < l.length), (l.take (k + 1)).foldl step s0 = step ((l.take k).foldl step s0) l[k] := fun k hk => by
  rw [List.take_add_one, List.getElem?_eq_getElem hk, Option.toList_some, List.foldl_append]; rfl
 have hI : ∀ k, k ≤ l.length → I k ((l.take k).foldl step s0) := by
  intro k
  induction k with
  | zero => intro _; simpa using h0
  | succ k ih => intro hk; rw [hs k (by omega)]; exact (h k (by omega) _ (ih (by omega))).2
 have := PL (f := f) mk l.length (fun k => (l.take k).foldl step s0) (b := b) (fun k hk => by rw [hs k hk]; exact (h k hk _ (hI k (by omega))).1) (hend _ (hI _ (Nat.le_refl _)) (by rw [List.take_length]))
 simpa using this
theorem E5 {α β A : Type} {f : α → Option (α ⊕ β)} (l : List A) (p : A → Bool) (mk : Nat → α) (hit : Nat → β) (miss : β)
  (h : ∀ k (hk : k < l.length), f (mk k) = some (bif p l[k] then .inr (hit k) else .inl (mk (k + 1)))) (hend : f (mk l.length) = some (.inr miss)) :
  ∀ k, k ≤ l.length → wl f (mk k) = some (match (l.drop k).findIdx? p with | some j => hit (k + j) | none => miss) := by
 have : ∀ d k, k + d = l.length → wl f (mk k) = some (match (l.drop k).findIdx? p with | some j => hit (k + j) | none => miss) := by
  intro d
  induction d with
  | zero => intro k hk; have : k = l.length := by omega
            subst this; rw [iV hend]; simp
  | succ d ih =>
   intro k hk
   have hk' : k < l.length := by omega
   have hh := h k hk'
   rw [List.drop_eq_getElem_cons hk', List.findIdx?_cons]
   cases hp : p l[k] with
   | true => rw [hp] at hh; rw [iV hh]; simp
   | false =>
    rw [hp] at hh
    rw [kR hh, ih (k + 1) (by omega)]
    cases (l.drop (k + 1)).findIdx? p with
    | none => simp
    | some j => simp; congr 1; omega
 exact fun k hk => this (l.length - k) k (by omega)
theorem RB {α β A : Type} {f : α → Option (α ⊕ β)} (l : List A) (p : A → Bool) (mk : Nat → α) (hit : Nat → β) (miss : β)
  (h : ∀ k (hk : k < l.length), f (mk k) = some (bif p l[k] then .inr (hit k) else .inl (mk (k + 1)))) (hend : f (mk l.length) = some (.inr miss)) :
  wl f (mk 0) = some (match l.findIdx? p with | some j => hit j | none => miss) := by
 have := E5 l p mk hit miss h hend 0 (by omega)
 simpa using this
theorem X4 {α β σ A : Type} {f : α → Option (α ⊕ β)} (l : List A) (mk : σ → Nat → α) (I : Nat → σ → Prop) (out : σ → β)
  (h : ∀ k (hk : k < l.length) s, I k s → ∃ s', f (mk s k) = some (.inl (mk s' (k + 1))) ∧ I (k + 1) s') (hend : ∀ s, I l.length s → f (mk s l.length) = some (.inr (out s))) :
  ∀ s, I 0 s → ∃ s', wl f (mk s 0) = some (out s') ∧ I l.length s' := by
 have : ∀ d k s, k + d = l.length → I k s → ∃ s', wl f (mk s k) = some (out s') ∧ I l.length s' := by
  intro d
  induction d with
  | zero => intro k s hk hI; have : k = l.length := by omega
            subst this; exact ⟨s, iV (hend s hI), hI⟩
  | succ d ih =>
   intro k s hk hI
   obtain ⟨s', h1, h2⟩ := h k (by omega) s hI
   obtain ⟨s2, h3, h4⟩ := ih (k + 1) s' (by omega) h2
   exact ⟨s2, by rw [kR h1]; exact h3, h4⟩
 exact fun s hI => this l.length 0 s (by omega) hI
theorem Dq {K V : Type} [BEq K] [LawfulBEq K] [DecidableEq K] (l : List (K × V)) (k : K) (v : V) (x : K) : uK (yP l k v) x = if x = k then some v else uK l x := by
 induction l with
 | nil =>
  simp only [yP, uK]
  by_cases h : x = k
  ·simp [h]
  ·simp [h]
 | cons p r ih =>
  obtain ⟨k', v'⟩ := p
  simp only [yP]
  by_cases h1 : k = k'
  ·subst h1
   simp only [beq_self_eq_true, if_true, uK]
   by_cases h : x = k <;> simp [h]
  ·have : (k == k') = false := by simp [h1]
   simp only [this, Bool.false_eq_true, if_false, uK, ih]
   by_cases h : x = k
   ·subst h; simp [h1]
   ·by_cases h2 : x = k'
    ·subst h2; simp [h]
    ·simp [h, h2]
theorem zO {A : Type} (l : List A) (p : A → Bool) : (l.findIdx? p).isSome = l.any p := by
 induction l with
 | nil => rfl
 | cons a l ih => rw [List.findIdx?_cons]; cases h : p a <;> simp [h, ih]
end Go.X
namespace Go.X
open Go
theorem take_snoc' {α : Type} (l : List α) (k : Nat) (h : k < l.length) : l.take (k + 1) = l.take k ++ [l[k]] := by
 rw [List.take_add_one, List.getElem?_eq_getElem h]; rfl
end Go.X
