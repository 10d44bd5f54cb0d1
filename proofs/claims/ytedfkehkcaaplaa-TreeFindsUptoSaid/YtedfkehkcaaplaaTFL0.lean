/- T -/
import Derived.Test.YtedfkehkcaaplaaXQ
import Derived.Test.YtedfkehkcaaplaaTFE
namespace Go.X
open Go
set_option linter.unusedVariables false
theorem EB : reachBytes = 140737488351232 := by decide
theorem VZ {A B : Type} {a : List A} {b : List B} {p : A → B → Option Bool} {n : Nat} {r : Nat → Bool} (ha : a.length = n) (hb : b.length = n) (hn : n ≤ 9223372036854775807)
  (hp : ∀ (i : Nat) x y, a[i]? = some x → b[i]? = some y → p x y = some (r i)) : ∃ q, wl (iN a b p) 0 = some q ∧ (match q with | .inl _ => ∀ i, i < n → r i = true | .inr _ => ∃ i, i < n ∧ r i = false) := by
 refine vO (fun i : Int => ∃ k : Nat, i = (k : Int) ∧ k ≤ n ∧ ∀ j, j < k → r j = true) (fun i : Int => n - i.toNat) _ ?_ n 0 (by omega) ⟨0, rfl, by omega, by intro j hj; omega⟩
 rintro i ⟨k, rfl, hk, hall⟩
 by_cases hlt : k < n
 ·have hka : k < a.length := by omega
  have hkb : k < b.length := by omega
  have h1 : decide ((k : Int) < ln a) = true := by simp [ln]; omega
  have h2 := hp k a[k] b[k] (List.getElem?_eq_getElem hka) (List.getElem?_eq_getElem hkb)
  cases hr : r k with
  | true =>
   left
   refine ⟨((k + 1 : Nat) : Int), ?_, ⟨k + 1, rfl, by omega, fun j hj => ?_⟩, by omega⟩
   ·simp only [iN, h1, cond_true, iM a k hka, iM b k hkb, Option.bind_some, h2, hr, Bool.not_true, cond_false]
    rw [lU (by omega) (by omega)]
    rfl
   ·by_cases hj2 : j < k
    ·exact hall j hj2
    ·have : j = k := by omega
     subst this; exact hr
  | false =>
   right
   refine ⟨.inr (k : Int), ?_, k, hlt, hr⟩
   simp only [iN, h1, cond_true, iM a k hka, iM b k hkb, Option.bind_some, h2, hr, Bool.not_false]
 ·right
  have h1 : decide ((k : Int) < ln a) = false := by simp [ln]; omega
  refine ⟨.inl (k : Int), by simp only [iN, h1, cond_false], ?_⟩
  intro i hi
  exact hall i (by omega)
def Runs (x : Option (Int ⊕ Int)) (r : Bool) : Prop := ∀ (β : Type) (g : Int ⊕ Int → Option β) (t f : Option β), (∀ i, g (.inl i) = t) → (∀ i, g (.inr i) = f) → x.bind g = bif r then t else f
theorem Runs.use {x : Option (Int ⊕ Int)} {r : Bool} (h : Runs x r) {β : Type} {g : Int ⊕ Int → Option β} {t f : Option β} (ht : ∀ i, g (.inl i) = t) (hf : ∀ i, g (.inr i) = f) : x.bind g = bif r then t else f := h β g t f ht hf
theorem OV {A B : Type} {a : List A} {b : List B} {p : A → B → Option Bool} {n : Nat} {r : Nat → Bool} (ha : a.length = n) (hb : b.length = n) (hn : n ≤ 9223372036854775807)
  (hp : ∀ (i : Nat) x y, a[i]? = some x → b[i]? = some y → p x y = some (r i)) : Runs (wl (iN a b p) 0) ((List.range n).all r) := by
 obtain ⟨q, h1, h2⟩ := VZ ha hb hn hp
 intro β g t f ht hf
 rw [h1, Option.bind_some]
 cases q with
 | inl i =>
  have : (List.range n).all r = true := by simpa using h2
  rw [ht, this]; rfl
 | inr i =>
  obtain ⟨i, h3, h4⟩ := h2
  have : (List.range n).all r = false := by rw [List.all_eq_false]; exact ⟨i, by simpa using h3, by simp [h4]⟩
  rw [hf, this]; rfl
theorem pq {A B : Type} {a : List A} {b : List B} {p : A → B → Option Bool} {n : Nat} (h1 : a.length = n) (h2 : b.length = n) (hn : n ≤ 9223372036854775807)
  (hp : ∀ (i : Nat) x y, a[i]? = some x → b[i]? = some y → p x y = some true) : Runs (wl (iN a b p) 0) true := by
 have := OV (r := fun _ => true) h1 h2 hn hp
 have e : (List.range n).all (fun _ => true) = true := by simp
 rw [e] at this
 exact this
theorem Z6 {b : Int} {n : Nat} {k : Nat} (h : n * k ≤ 140737488355328) (hb : b = k) : room b (n : Int) = true := by
 refine sK ?_
 subst hb
 have : ((n * k : Nat) : Int) ≤ ((140737488355328 : Nat) : Int) := Int.ofNat_le.2 h
 rw [Int.natCast_mul] at this
 exact this
theorem bH {n b : Nat} (hb : 16 ≤ b) (h : n * b ≤ reachBytes) : n ≤ 8796093022208 := by
 rw [EB] at h
 have : n * 16 ≤ n * b := Nat.mul_le_mul_left _ hb
 omega
noncomputable def qC {A : Type} (vX : Int) (l : List A) : Option (List A) :=
 bif ln l == 0 then
  agree (some ([] : List A)) ((bif ln l == 0 then some ([] : List A) else bif room vX (ln (([] : List A) ++ l)) then some (([] : List A) ++ l) else none).bind fun (q : List A) => match q with | l => some l)
 else
  (bif ln l == 0 then some ([] : List A) else bif room vX (ln (([] : List A) ++ l)) then some (([] : List A) ++ l) else none).bind fun (q : List A) => match q with | l => some l
theorem nJ {A : Type} {vX : Int} {k : Nat} {l : List A} (hk : vX = k) (h : l.length * k ≤ reachBytes) : qC vX l = some l := by
 rw [EB] at h
 have hr : room vX (ln (([] : List A) ++ l)) = true := Z6 (k := k) (by rw [List.nil_append]; omega) hk
 unfold qC
 cases l with
 | nil => exact oD rfl rfl
 | cons a l =>
  have e : (ln (a :: l) == 0) = false := by simp [ln]; omega
  rw [List.nil_append] at hr
  simp only [e, cond_false, List.nil_append, hr, cond_true, Option.bind_some]
def mh {A : Type} (h : A → Option A) (r : List A) : (List A × Int) → Option ((List A × Int) ⊕ (List A × Int))
 | (l, i) => bif decide (i < ln r) then (idx l i).bind fun x => (h x).bind fun t => some (.inl (l.set i.toNat t, dS (i + 1))) else some (.inr (l, i))
theorem map_ok {A : Type} {h : A → Option A} {r : List A} (T : A → A → Prop) (hn : r.length ≤ 8796093022208) (hp : ∀ x ∈ r, ∃ t, h x = some t ∧ T t x) :
  ∃ o, wl (mh h r) (r, 0) = some (o, (r.length : Int)) ∧ o.length = r.length ∧ ∀ (i : Nat) t a, o[i]? = some t → r[i]? = some a → T t a := by
 obtain ⟨o, h1, h2, h3⟩ := X4 (f := mh h r) r (fun s k => (s, (k : Int)))
  (fun k s => s.length = r.length ∧ ∀ (i : Nat) t a, s[i]? = some t → r[i]? = some a → (i < k → T t a) ∧ (k ≤ i → t = a)) (fun o => (o, (r.length : Int)))
  (fun k hk s hs => by
   obtain ⟨g1, g2⟩ := hs
   have hks : k < s.length := by omega
   have heq : s[k] = r[k] := (g2 k s[k] r[k] (List.getElem?_eq_getElem hks) (List.getElem?_eq_getElem hk)).2 (Nat.le_refl _)
   obtain ⟨t, ht, hT⟩ := hp r[k] (List.getElem_mem hk)
   refine ⟨s.set k t, ?_, by simp [g1], fun i u a hu ha => ?_⟩
   ·simp only [mh, kK hk, cond_true, iM s k hks, heq, Option.bind_some, ht, Int.toNat_natCast, lV (show k < 9223372036854775807 by omega)]
   ·by_cases hik : i = k
    ·subst hik
     rw [List.getElem?_set_self hks] at hu
     rw [List.getElem?_eq_getElem hk] at ha
     cases hu; cases ha
     exact ⟨fun _ => hT, fun h => by omega⟩
    ·rw [List.getElem?_set_ne (fun e => hik e.symm)] at hu
     obtain ⟨j1, j2⟩ := g2 i u a hu ha
     exact ⟨fun h => j1 (by omega), fun h => j2 (by omega)⟩)
  (fun s hs => by simp only [mh, lW, cond_false]) r ⟨rfl, fun i t a h1 h2 => ⟨fun h => by omega, fun _ => by rw [h1] at h2; cases h2; rfl⟩⟩
 exact ⟨o, h1, h2, fun i t a g1 g2 => (h3 i t a g1 g2).1 (by have := (List.getElem?_eq_some_iff.1 g2).1; omega)⟩
theorem QB {α β : Type} {x : Option α} {f : α → Option β} (h : ∃ r, x = some r) (k : ∀ r, ∃ q, f r = some q) : ∃ q, x.bind f = some q := by
 obtain ⟨r, h⟩ := h
 rw [h]
 exact k r
def Ac {A : Type} (p : A → Option Bool) (l : List A) : (Int × Int) → Option ((Int × Int) ⊕ ((Int × Int) ⊕ (Int × Int)))
 | (r, i) => bif decide (i < ln l) then (idx l i).bind fun x => (p x).bind fun b => bif b then some (.inr (.inr (i, i))) else some (.inl (r, dS (i + 1))) else some (.inr (.inl (r, i)))
theorem find_ok {A : Type} {p : A → Option Bool} {l : List A} (q : A → Bool) (hn : l.length ≤ 9223372036854775806) (hp : ∀ x ∈ l, p x = some (q x)) :
  wl (Ac p l) (0, 0) = some (match l.findIdx? q with | some j => .inr ((j : Int), (j : Int)) | none => .inl (0, (l.length : Int))) := by
 refine RB (f := Ac p l) l q (fun k => (0, (k : Int))) (fun j => .inr ((j : Int), (j : Int))) (.inl (0, (l.length : Int))) (fun k hk => ?_) ?_
 ·simp only [Ac, kK hk, cond_true, iM l k hk, Option.bind_some, hp _ (List.getElem_mem hk), lV (show k < 9223372036854775807 by omega)]
  cases q l[k] <;> rfl
 ·simp only [Ac, lW, cond_false]
def placeOf (o : Option Nat) : Int := match o with | some j => (j : Int) | none => -1
theorem OW {A : Type} {p : A → Option Bool} {l : List A} (q : A → Bool) (hn : l.length ≤ 9223372036854775806) (hp : ∀ x ∈ l, p x = some (q x)) :
  ((wl (Ac p l) (0, 0)).bind fun r => match r with | .inl (o, i) => some (-1) | .inr (o, i) => some o) = some (placeOf (l.findIdx? q)) := by
 rw [find_ok q hn hp, Option.bind_some]
 cases l.findIdx? q <;> rfl
end Go.X
