/- Laws of loops, for all programs. -/
import Derived.Test.YtipkggkbldgmjaaGreatXQ
import Derived.Test.YtipkggkbldgmjaaGreatCYE
namespace Go.X
open Go
set_option linter.unusedVariables false
set_option linter.unusedSimpArgs false
theorem KJ : reachBytes = 140737488351232 := by decide
theorem afK {A B : Type} {a : List A} {b : List B} {p : A → B → Option Bool} {n : Nat} {r : Nat → Bool} (ha : a.length = n) (hb : b.length = n) (hn : n ≤ 9223372036854775807)
  (hp : ∀ (i : Nat) x y, a[i]? = some x → b[i]? = some y → p x y = some (r i)) : ∃ q, wl (jS a b p) 0 = some q ∧ (match q with | .inl _ => ∀ i, i < n → r i = true | .inr _ => ∃ i, i < n ∧ r i = false) := by
 refine Xo (fun i : Int => ∃ k : Nat, i = (k : Int) ∧ k ≤ n ∧ ∀ j, j < k → r j = true) (fun i : Int => n - i.toNat) _ ?_ n 0 (by omega) ⟨0, rfl, by omega, by intro j hj; omega⟩
 rintro i ⟨k, rfl, hk, hall⟩
 by_cases hlt : k < n
 ·have hka : k < a.length := by omega
  have hkb : k < b.length := by omega
  have h1 : decide ((k : Int) < ln a) = true := by simp [ln]; omega
  have h2 := hp k a[k] b[k] (List.getElem?_eq_getElem hka) (List.getElem?_eq_getElem hkb)
  cases hr : r k with
  | true =>
   left
   refine ⟨((k + 1 : Nat) : Int), ?_, ⟨k + 1, rfl, by omega, fun j hj => ?_⟩, by omega⟩
   ·simp only [jS, h1, cond_true, fO a k hka, fO b k hkb, Option.bind_some, h2, hr, Bool.not_true, cond_false]
    rw [nA (by omega) (by omega)]
    rfl
   ·by_cases hj2 : j < k
    ·exact hall j hj2
    ·have : j = k := by omega
     subst this; exact hr
  | false =>
   right
   refine ⟨.inr (k : Int), ?_, k, hlt, hr⟩
   simp only [jS, h1, cond_true, fO a k hka, fO b k hkb, Option.bind_some, h2, hr, Bool.not_false]
 ·right
  have h1 : decide ((k : Int) < ln a) = false := by simp [ln]; omega
  refine ⟨.inl (k : Int), by simp only [jS, h1, cond_false], ?_⟩
  intro i hi
  exact hall i (by omega)
def Runs (x : Option (Int ⊕ Int)) (r : Bool) : Prop := ∀ (β : Type) (g : Int ⊕ Int → Option β) (t f : Option β), (∀ i, g (.inl i) = t) → (∀ i, g (.inr i) = f) → x.bind g = bif r then t else f
theorem Runs.use {x : Option (Int ⊕ Int)} {r : Bool} (h : Runs x r) {β : Type} {g : Int ⊕ Int → Option β} {t f : Option β} (ht : ∀ i, g (.inl i) = t) (hf : ∀ i, g (.inr i) = f) : x.bind g = bif r then t else f := h β g t f ht hf
theorem vv {A B : Type} {a : List A} {b : List B} {p : A → B → Option Bool} {n : Nat} {r : Nat → Bool} (ha : a.length = n) (hb : b.length = n) (hn : n ≤ 9223372036854775807)
  (hp : ∀ (i : Nat) x y, a[i]? = some x → b[i]? = some y → p x y = some (r i)) : Runs (wl (jS a b p) 0) ((List.range n).all r) := by
 obtain ⟨q, h1, h2⟩ := afK ha hb hn hp
 intro β g t f ht hf
 rw [h1, Option.bind_some]
 cases q with
 | inl i =>
  have : (List.range n).all r = true := by simpa using h2
  rw [ht, this]; rfl
 | inr i =>
  obtain ⟨i, h3, h4⟩ := h2
  have : (List.range n).all r = false := by rw [List.all_eq_false]; exact ⟨i, by simpa using h3, by simp [h4]⟩
  rw [hf, this]; rfl
theorem aj9 {A B A' B' : Type} {a : List A} {b : List B} {a' : List A'} {b' : List B'} {p : A → B → Option Bool} {p' : A' → B' → Option Bool} {n : Nat}
  (h1 : a.length = n) (h2 : b.length = n) (h3 : a'.length = n) (h4 : b'.length = n) (hn : n ≤ 9223372036854775807)
  (hp : ∀ (i : Nat) x y x' y', a[i]? = some x → b[i]? = some y → a'[i]? = some x' → b'[i]? = some y' → ∃ r, p x y = some r ∧ p' x' y' = some r) :
  ∃ r, Runs (wl (jS a b p) 0) r ∧ Runs (wl (jS a' b' p') 0) r := by
 let r : Nat → Bool := fun i => match a[i]?, b[i]? with | some x, some y => (p x y).getD false | _, _ => false
 have g1 : ∀ (i : Nat) x y, a[i]? = some x → b[i]? = some y → p x y = some (r i) := fun i x y hx hy => by
  have hi : i < n := by rw [← h1]; exact (List.getElem?_eq_some_iff.1 hx).1
  obtain ⟨q, e1, e2⟩ := hp i x y _ _ hx hy (List.getElem?_eq_getElem (by omega)) (List.getElem?_eq_getElem (by omega))
  simp only [r, hx, hy, e1, Option.getD_some]
 have g2 : ∀ (i : Nat) x y, a'[i]? = some x → b'[i]? = some y → p' x y = some (r i) := fun i x y hx hy => by
  have hi : i < n := by rw [← h3]; exact (List.getElem?_eq_some_iff.1 hx).1
  have ha : a[i]? = some a[i] := List.getElem?_eq_getElem (by omega)
  have hb : b[i]? = some b[i] := List.getElem?_eq_getElem (by omega)
  obtain ⟨q, e1, e2⟩ := hp i _ _ x y ha hb hx hy
  simp only [r, ha, hb, e1, e2, Option.getD_some]
 exact ⟨_, vv h1 h2 hn g1, vv h3 h4 hn g2⟩
theorem WV {A B : Type} {a : List A} {b : List B} {p : A → B → Option Bool} {n : Nat} (h1 : a.length = n) (h2 : b.length = n) (hn : n ≤ 9223372036854775807)
  (hp : ∀ (i : Nat) x y, a[i]? = some x → b[i]? = some y → p x y = some true) : Runs (wl (jS a b p) 0) true := by
 have := vv (r := fun _ => true) h1 h2 hn hp
 have e : (List.range n).all (fun _ => true) = true := by simp
 rw [e] at this
 exact this
theorem aaj {A B : Type} {f : (List B × Int) → Option ((List B × Int) ⊕ (List B × Int))} (l : List A) (T : B → A → Prop)
  (h : ∀ k (hk : k < l.length) o, o.length = k → ∃ t, f (o, (k : Int)) = some (.inl (o ++ [t], ((k + 1 : Nat) : Int))) ∧ T t l[k])
  (hend : ∀ o, o.length = l.length → f (o, (l.length : Int)) = some (.inr (o, (l.length : Int)))) :
  ∃ o, wl f ([], 0) = some (o, (l.length : Int)) ∧ o.length = l.length ∧ ∀ (i : Nat) t a, o[i]? = some t → l[i]? = some a → T t a := by
 obtain ⟨o, h1, h2, h3⟩ := Xq (f := f) l (fun s k => (s, (k : Int))) (fun k o => o.length = k ∧ ∀ (i : Nat) t a, o[i]? = some t → l[i]? = some a → T t a) (fun o => (o, (l.length : Int)))
  (fun k hk o ho => by
   obtain ⟨t, h1, h2⟩ := h k hk o ho.1
   refine ⟨o ++ [t], h1, by simp [ho.1], fun i u a hi ha => ?_⟩
   by_cases hik : i < k
   ·rw [List.getElem?_append_left (by have := ho.1; omega)] at hi; exact ho.2 i u a hi ha
   ·have hi' : i = k := by
     have := (List.getElem?_eq_some_iff.1 hi).1
     have := ho.1
     simp at *; omega
    subst hi'
    rw [List.getElem?_append_right (by have := ho.1; omega)] at hi
    have : i - o.length = 0 := by have := ho.1; omega
    rw [this] at hi
    simp at hi
    subst hi
    rw [List.getElem?_eq_getElem hk] at ha
    cases ha
    exact h2)
  (fun o ho => hend o ho.1) [] ⟨rfl, by simp⟩
 exact ⟨o, h1, h2, h3⟩
theorem Y7 {b : Int} {n : Nat} {k : Nat} (h : n * k ≤ 140737488355328) (hb : b = k) : room b (n : Int) = true := by
 refine agB ?_
 subst hb
 have : ((n * k : Nat) : Int) ≤ ((140737488355328 : Nat) : Int) := Int.ofNat_le.2 h
 rw [Int.natCast_mul] at this
 exact this
theorem dX {n b : Nat} (hb : 16 ≤ b) (h : n * b ≤ reachBytes) : n ≤ 8796093022208 := by
 rw [KJ] at h
 have : n * 16 ≤ n * b := Nat.mul_le_mul_left _ hb
 omega
def iW {A : Type} (pz : Int) (p : A → Option A) (l : List A) : (List A × Int) → Option ((List A × Int) ⊕ (List A × Int))
 | (o, i) =>
  bif decide (i < ln l) then
   (idx l i).bind fun x => (p x).bind fun t =>
    bif room pz (ln (o ++ [t])) then
     bif decide (ln (o ++ [t]) ≤ fq (ln l + 1)) then some (.inl (o ++ [t], fq (i + 1))) else none
    else none
  else some (.inr (o, i))
def DL {A : Type} (pz : Int) (m : A) (st : (List A × Int) → Option ((List A × Int) ⊕ (List A × Int))) (l : List A) : Option (Sl A) :=
 bif decide (0 ≤ 0) then
  bif decide (0 ≤ fq (ln l + 1)) then
   bif room pz (fq (ln l + 1)) then
    (wl st ([], 0)).bind fun q =>
     match q with
     | (o, i) =>
      bif room pz (ln (o ++ [m])) then
       bif decide (ln (o ++ [m]) ≤ fq (ln l + 1)) then
        bif (fq (ln l + 1) == ln (o ++ [m])) then
         bif decide (0 ≤ 0) then
          bif decide (0 ≤ ln l) then
           bif decide (ln l ≤ ln ((o ++ [m]) ++ [])) then
            some (Sl.mk (cut ((o ++ [m]) ++ []) 0 (ln l)) (some (cut ((o ++ [m]) ++ []) (ln l) (ln ((o ++ [m]) ++ [])))))
           else none
          else none
         else none
        else
         bif decide (0 ≤ 0) then
          bif decide (0 ≤ ln l) then
           bif decide (ln l ≤ ln (o ++ [m])) then
            some (Sl.mk (cut (o ++ [m]) 0 (ln l)) none)
           else none
          else none
         else none
       else none
      else none
   else none
  else none
 else none
theorem oV {A : Type} {pz : Int} {k : Nat} {m : A} {p : A → Option A} {l : List A} (T : A → A → Prop) (hk : pz = k) (hk0 : 16 ≤ k) (hk1 : k ≤ 4096) (hl : l.length * k ≤ reachBytes)
  (hp : ∀ x ∈ l, ∃ t, p x = some t ∧ T t x) :
  ∃ o, DL pz m (iW pz p l) l = some ⟨o, some [m]⟩ ∧ o.length = l.length ∧ ∀ (i : Nat) t a, o[i]? = some t → l[i]? = some a → T t a := by
 have hlen := dX hk0 hl
 have hroom : ∀ j, j ≤ l.length + 1 → room pz ((j : Nat) : Int) = true := fun j hj => Y7 (k := k) (by
  rw [KJ] at hl
  have h1 : j * k ≤ (l.length + 1) * k := Nat.mul_le_mul_right _ hj
  rw [Nat.add_mul, Nat.one_mul] at h1
  omega) hk
 have hw : fq (ln l + 1) = ((l.length + 1 : Nat) : Int) := by rw [SB]; exact iF (by omega)
 obtain ⟨o, h1, h2, h3⟩ := aaj (f := iW pz p l) l T (fun k' hk' o ho => by
  obtain ⟨t, ht, hT⟩ := hp l[k'] (List.getElem_mem hk')
  refine ⟨t, ?_, hT⟩
  have e1 : decide ((k' : Int) < ln l) = true := gU hk'
  have e2 : ln (o ++ [t]) = ((k' + 1 : Nat) : Int) := by simp [ln, ho]
  simp only [iW, e1, cond_true, fO l k' hk', Option.bind_some, ht, e2, hroom (k' + 1) (by omega), hw, iF (show k' < 9223372036854775807 by omega)]
  have e3 : decide (((k' + 1 : Nat) : Int) ≤ ((l.length + 1 : Nat) : Int)) = true := by simp; omega
  simp only [e3, cond_true]) (fun o ho => by
  simp only [iW, fU, cond_false])
 refine ⟨o, ?_, h2, h3⟩
 unfold DL
 have e2 : ln (o ++ [m]) = ((l.length + 1 : Nat) : Int) := by simp [ln, h2]
 have e3 : ln ((o ++ [m]) ++ []) = ((l.length + 1 : Nat) : Int) := by simp [ln, h2]
 have e4 : decide (0 ≤ ((l.length + 1 : Nat) : Int)) = true := by simp; omega
 have e5 : decide (0 ≤ ln l) = true := by simp [ln]
 have e6 : decide (ln l ≤ ((l.length + 1 : Nat) : Int)) = true := by rw [SB]; exact decide_eq_true (by omega)
 have e7 : (((l.length + 1 : Nat) : Int) == ((l.length + 1 : Nat) : Int)) = true := by simp
 have e8 : decide (((l.length + 1 : Nat) : Int) ≤ ((l.length + 1 : Nat) : Int)) = true := by simp
 have e9 : decide ((0 : Nat) ≤ 0) = true := rfl
 have c1 : cut ((o ++ [m]) ++ []) 0 (ln l) = o := by simp [cut, ln, ← h2]
 have c2 : cut ((o ++ [m]) ++ []) (ln l) ((l.length + 1 : Nat) : Int) = [m] := by
  simp only [cut, ln, ← h2, Int.toNat_natCast, List.append_nil]
  rw [List.take_of_length_le (by simp)]
  simp
 simp only [hw, h1, Option.bind_some, e2, e3, e4, e5, e6, e7, e8, e9, hroom (l.length + 1) (Nat.le_refl _), cond_true, c1, c2]
def gZ {A : Type} (p : A → A → Option Bool) (a b : List A) : Int → Option (Int ⊕ (Int ⊕ Int)) := fun i =>
 bif decide (i < ln b) then (idx a i).bind fun x => (idx b i).bind fun y => (p x y).bind fun r => bif !r then some (.inr (.inr i)) else some (.inl (fq (i + 1)))
 else some (.inr (.inl i))
theorem aak {A : Type} (p : A → A → Option Bool) {a b : List A} (h : a.length = b.length) : gZ p a b = jS a b p := by
 funext i
 have : ln a = ln b := by simp [ln, h]
 simp only [gZ, jS, this]
def leftG {A : Type} (st : Int → Option (Int ⊕ (Int ⊕ Int))) (l h b : List A) (g : A → Option Bool) : Option Bool :=
 (bif !(!(ln l == ln b)) then some (decide (ln (l ++ h) ≤ ln b)) else some true).bind fun (q : Bool) =>
  match q with
  | i =>
   bif i then some false
   else
    (wl st 0).bind fun q =>
     match q with
     | .inl o =>
      bif decide (0 ≤ 0) then
       bif decide (0 ≤ fq (ln b + 1)) then
        bif decide (fq (ln b + 1) ≤ ln (l ++ h)) then
         (idx (cut (l ++ h) 0 (fq (ln b + 1))) (ln b)).bind g
        else none
       else none
      else none
     | .inr o => some false
def DN {A : Type} (st : Int → Option (Int ⊕ (Int ⊕ Int))) (isM : A → Bool) (l h b : List A) : Option Bool := leftG st l h b fun x => some (isM x)
theorem oW {A : Type} {m : A} {p : A → A → Option Bool} {isM : A → Bool} {l b : List A} (hlen : l.length = b.length) (hn : b.length ≤ 8796093022208) (hm : isM m = true)
  (hp : ∀ (i : Nat) x y, l[i]? = some x → b[i]? = some y → p x y = some true) : DN (gZ p l b) isM l [m] b = some true := by
 rw [aak p hlen]
 have e1 : (ln l == ln b) = true := by simp [ln, hlen]
 have e2 : ln (l ++ [m]) = ((b.length + 1 : Nat) : Int) := by simp [ln, hlen]
 have e3 : decide (((b.length + 1 : Nat) : Int) ≤ ln b) = false := by rw [SB]; exact decide_eq_false (by omega)
 have hw : fq (ln b + 1) = ((b.length + 1 : Nat) : Int) := by rw [SB]; exact iF (by omega)
 have e4 : decide (0 ≤ ((b.length + 1 : Nat) : Int)) = true := by simp; omega
 have e5 : decide (((b.length + 1 : Nat) : Int) ≤ ((b.length + 1 : Nat) : Int)) = true := by simp
 have e6 : idx (cut (l ++ [m]) 0 ((b.length + 1 : Nat) : Int)) (ln b) = some m := by
  rw [SB, agA]
  simp [cut, ← hlen]
 have e9 : decide ((0 : Nat) ≤ 0) = true := rfl
 unfold DN leftG
 simp only [e1, Bool.not_true, Bool.not_false, cond_true, cond_false, e2, e3, Option.bind_some]
 rw [(WV hlen rfl (by omega) hp).use (t := some true) (f := some false) (fun _ => by
  simp only [e9, hw, e4, e5, e6, cond_true, Option.bind_some, hm]) (fun _ => rfl)]
 rfl
noncomputable def Rs {A : Type} (pz : Int) (l : List A) : Option (List A) :=
 bif ln l == 0 then
  agree (some ([] : List A)) ((bif ln l == 0 then some ([] : List A) else bif room pz (ln (([] : List A) ++ l)) then some (([] : List A) ++ l) else none).bind fun (q : List A) => match q with | l => some l)
 else
  (bif ln l == 0 then some ([] : List A) else bif room pz (ln (([] : List A) ++ l)) then some (([] : List A) ++ l) else none).bind fun (q : List A) => match q with | l => some l
theorem Ui {A : Type} {pz : Int} {k : Nat} {l : List A} (hk : pz = k) (h : l.length * k ≤ reachBytes) : Rs pz l = some l := by
 rw [KJ] at h
 have hr : room pz (ln (([] : List A) ++ l)) = true := Y7 (k := k) (by rw [List.nil_append]; omega) hk
 unfold Rs
 cases l with
 | nil => exact Bz rfl rfl
 | cons a l =>
  have e : (ln (a :: l) == 0) = false := by simp [ln]; omega
  rw [List.nil_append] at hr
  simp only [e, cond_false, List.nil_append, hr, cond_true, Option.bind_some]
def Y8 {A : Type} (l : List A) : Option (Sl A) :=
 bif decide (0 ≤ 0) then bif decide (0 ≤ ln l) then bif decide (ln l ≤ ln l) then bif decide (ln l ≤ ln l) then some (Sl.mk (cut l 0 (ln l)) (some (cut l (ln l) (ln l)))) else none else none else none else none
theorem aiT {A : Type} (l : List A) : cut l 0 (ln l) = l := by simp [cut, ln]
theorem Y9 {A : Type} (l : List A) : Y8 l = some ⟨l, some []⟩ := by
 have e1 : decide (0 ≤ ln l) = true := by simp [ln]
 have e2 : decide (ln l ≤ ln l) = true := by simp
 have e3 : decide ((0 : Nat) ≤ 0) = true := rfl
 have e4 : cut l (ln l) (ln l) = [] := by simp [cut, ln]
 unfold Y8
 simp only [e1, e2, e3, cond_true, aiT, e4]
def FR {A : Type} (h : A → Option A) (r : List A) : (List A × Int) → Option ((List A × Int) ⊕ (List A × Int))
 | (l, i) => bif decide (i < ln r) then (idx l i).bind fun x => (h x).bind fun t => some (.inl (l.set i.toNat t, fq (i + 1))) else some (.inr (l, i))
theorem map_ok {A : Type} {h : A → Option A} {r : List A} (T : A → A → Prop) (hn : r.length ≤ 8796093022208) (hp : ∀ x ∈ r, ∃ t, h x = some t ∧ T t x) :
  ∃ o, wl (FR h r) (r, 0) = some (o, (r.length : Int)) ∧ o.length = r.length ∧ ∀ (i : Nat) t a, o[i]? = some t → r[i]? = some a → T t a := by
 obtain ⟨o, h1, h2, h3⟩ := Xq (f := FR h r) r (fun s k => (s, (k : Int)))
  (fun k s => s.length = r.length ∧ ∀ (i : Nat) t a, s[i]? = some t → r[i]? = some a → (i < k → T t a) ∧ (k ≤ i → t = a)) (fun o => (o, (r.length : Int)))
  (fun k hk s hs => by
   obtain ⟨g1, g2⟩ := hs
   have hks : k < s.length := by omega
   have heq : s[k] = r[k] := (g2 k s[k] r[k] (List.getElem?_eq_getElem hks) (List.getElem?_eq_getElem hk)).2 (Nat.le_refl _)
   obtain ⟨t, ht, hT⟩ := hp r[k] (List.getElem_mem hk)
   refine ⟨s.set k t, ?_, by simp [g1], fun i u a hu ha => ?_⟩
   ·simp only [FR, gU hk, cond_true, fO s k hks, heq, Option.bind_some, ht, Int.toNat_natCast, iF (show k < 9223372036854775807 by omega)]
   ·by_cases hik : i = k
    ·subst hik
     rw [List.getElem?_set_self hks] at hu
     rw [List.getElem?_eq_getElem hk] at ha
     cases hu; cases ha
     exact ⟨fun _ => hT, fun h => by omega⟩
    ·rw [List.getElem?_set_ne (fun e => hik e.symm)] at hu
     obtain ⟨j1, j2⟩ := g2 i u a hu ha
     exact ⟨fun h => j1 (by omega), fun h => j2 (by omega)⟩)
  (fun s hs => by simp only [FR, fU, cond_false]) r ⟨rfl, fun i t a h1 h2 => ⟨fun h => by omega, fun _ => by rw [h1] at h2; cases h2; rfl⟩⟩
 exact ⟨o, h1, h2, fun i t a g1 g2 => (h3 i t a g1 g2).1 (by have := (List.getElem?_eq_some_iff.1 g2).1; omega)⟩
def l8 {A : Type} (p : A → Option Bool) (l : List A) : (Int × Int) → Option ((Int × Int) ⊕ ((Int × Int) ⊕ (Int × Int)))
 | (r, i) => bif decide (i < ln l) then (idx l i).bind fun x => (p x).bind fun b => bif b then some (.inr (.inr (i, i))) else some (.inl (r, fq (i + 1))) else some (.inr (.inl (r, i)))
theorem find_ok {A : Type} {p : A → Option Bool} {l : List A} (q : A → Bool) (hn : l.length ≤ 9223372036854775806) (hp : ∀ x ∈ l, p x = some (q x)) :
  wl (l8 p l) (0, 0) = some (match l.findIdx? q with | some j => .inr ((j : Int), (j : Int)) | none => .inl (0, (l.length : Int))) := by
 refine Ej (f := l8 p l) l q (fun k => (0, (k : Int))) (fun j => .inr ((j : Int), (j : Int))) (.inl (0, (l.length : Int))) (fun k hk => ?_) ?_
 ·simp only [l8, gU hk, cond_true, fO l k hk, Option.bind_some, hp _ (List.getElem_mem hk), iF (show k < 9223372036854775807 by omega)]
  cases q l[k] <;> rfl
 ·simp only [l8, fU, cond_false]
def placeOf (o : Option Nat) : Int := match o with | some j => (j : Int) | none => -1
theorem vw {A : Type} {p : A → Option Bool} {l : List A} (q : A → Bool) (hn : l.length ≤ 9223372036854775806) (hp : ∀ x ∈ l, p x = some (q x)) :
  ((wl (l8 p l) (0, 0)).bind fun r => match r with | .inl (o, i) => some (-1) | .inr (o, i) => some o) = some (placeOf (l.findIdx? q)) := by
 rw [find_ok q hn hp, Option.bind_some]
 cases l.findIdx? q <;> rfl
end Go.X
