/- Plain laws of loops over lists. -/
import Derived.Test.YtipkggkbldgmjaaGreatXP
namespace Go.X
open Go
set_option linter.unusedVariables false
theorem KZ {α β A : Type} {f : α → Option (α ⊕ β)} (l : List A) (p : A → Bool) (mk : Nat → α) (hit : Nat → β) (miss : β)
  (h : ∀ k (hk : k < l.length), f (mk k) = some (bif p l[k] then .inr (hit k) else .inl (mk (k + 1)))) (hend : f (mk l.length) = some (.inr miss)) :
  ∀ k, k ≤ l.length → wl f (mk k) = some (match (l.drop k).findIdx? p with | some j => hit (k + j) | none => miss) := by
 have : ∀ d k, k + d = l.length → wl f (mk k) = some (match (l.drop k).findIdx? p with | some j => hit (k + j) | none => miss) := by
  intro d
  induction d with
  | zero => intro k hk; have : k = l.length := by omega
            subst this; rw [Ei hend]; simp
  | succ d ih =>
   intro k hk
   have hk' : k < l.length := by omega
   have hh := h k hk'
   rw [List.drop_eq_getElem_cons hk', List.findIdx?_cons]
   cases hp : p l[k] with
   | true => rw [hp] at hh; rw [Ei hh]; simp
   | false =>
    rw [hp] at hh
    rw [OA hh, ih (k + 1) (by omega)]
    cases (l.drop (k + 1)).findIdx? p with
    | none => simp
    | some j => simp; congr 1; omega
 exact fun k hk => this (l.length - k) k (by omega)
theorem Ej {α β A : Type} {f : α → Option (α ⊕ β)} (l : List A) (p : A → Bool) (mk : Nat → α) (hit : Nat → β) (miss : β)
  (h : ∀ k (hk : k < l.length), f (mk k) = some (bif p l[k] then .inr (hit k) else .inl (mk (k + 1)))) (hend : f (mk l.length) = some (.inr miss)) :
  wl f (mk 0) = some (match l.findIdx? p with | some j => hit j | none => miss) := by
 have := KZ l p mk hit miss h hend 0 (by omega)
 simpa using this
theorem Xq {α β σ A : Type} {f : α → Option (α ⊕ β)} (l : List A) (mk : σ → Nat → α) (I : Nat → σ → Prop) (out : σ → β)
  (h : ∀ k (hk : k < l.length) s, I k s → ∃ s', f (mk s k) = some (.inl (mk s' (k + 1))) ∧ I (k + 1) s') (hend : ∀ s, I l.length s → f (mk s l.length) = some (.inr (out s))) :
  ∀ s, I 0 s → ∃ s', wl f (mk s 0) = some (out s') ∧ I l.length s' := by
 have : ∀ d k s, k + d = l.length → I k s → ∃ s', wl f (mk s k) = some (out s') ∧ I l.length s' := by
  intro d
  induction d with
  | zero => intro k s hk hI; have : k = l.length := by omega
            subst this; exact ⟨s, Ei (hend s hI), hI⟩
  | succ d ih =>
   intro k s hk hI
   obtain ⟨s', h1, h2⟩ := h k (by omega) s hI
   obtain ⟨s2, h3, h4⟩ := ih (k + 1) s' (by omega) h2
   exact ⟨s2, by rw [OA h1]; exact h3, h4⟩
 exact fun s hI => this l.length 0 s (by omega) hI
end Go.X
namespace Go.X
open Go
end Go.X
