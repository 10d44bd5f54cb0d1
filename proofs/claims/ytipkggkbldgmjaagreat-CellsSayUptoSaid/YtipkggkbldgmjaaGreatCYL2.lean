/- Values on plain data: several laws, one behind the other. -/
import Derived.Test.YtipkggkbldgmjaaGreatCYL1
namespace Go.Proofs.YtipkggkbldgmjaaGreat
open Go Go.X
set_option linter.unusedVariables false
set_option linter.unusedSimpArgs false
set_option maxRecDepth 100000
theorem jq {f : Int → Option (Int ⊕ (Int ⊕ Int))} {n : Nat} (r : Nat → Bool) (hn : n ≤ 9223372036854775806)
  (h : ∀ k : Nat, k < n → f (k : Int) = some (bif r k then .inl (fq ((k : Int) + 1)) else .inr (.inr (k : Int)))) (hend : f (n : Int) = some (.inr (.inl (n : Int)))) : Runs (wl f 0) ((List.range n).all r) := by
 obtain ⟨q, h1, h2⟩ : ∃ q, wl f 0 = some q ∧ (match q with | .inl _ => ∀ i, i < n → r i = true | .inr _ => ∃ i, i < n ∧ r i = false) := by
  refine Xo (fun i : Int => ∃ k : Nat, i = (k : Int) ∧ k ≤ n ∧ ∀ j, j < k → r j = true) (fun i : Int => n - i.toNat) _ ?_ n 0 (by omega) ⟨0, rfl, by omega, by intro j hj; omega⟩
  rintro i ⟨k, rfl, hk, hall⟩
  by_cases hlt : k < n
  ·cases hr : r k with
   | true =>
    left
    refine ⟨((k + 1 : Nat) : Int), ?_, ⟨k + 1, rfl, by omega, fun j hj => ?_⟩, by omega⟩
    ·rw [h k hlt, hr, iF (by omega)]; rfl
    ·by_cases hj2 : j < k
     ·exact hall j hj2
     ·have : j = k := by omega
      subst this; exact hr
   | false =>
    right
    exact ⟨.inr (k : Int), by rw [h k hlt, hr]; rfl, k, hlt, hr⟩
  ·right
   have : k = n := by omega
   subst this
   exact ⟨.inl (k : Int), hend, fun i hi => hall i (by omega)⟩
 intro β g t f ht hf
 rw [h1, Option.bind_some]
 cases q with
 | inl i =>
  have : (List.range n).all r = true := by simpa using h2
  rw [ht, this]; rfl
 | inr i =>
  obtain ⟨i, h3, h4⟩ := h2
  have : (List.range n).all r = false := by rw [List.all_eq_false]; exact ⟨i, by simpa using h3, by simp [h4]⟩
  rw [hf, this]; rfl
theorem KN (s : ByteArray) : seq s ByteArray.empty = !decide (1 ≤ (s.size : Int)) := by
 by_cases h : s.size = 0
 ·have : s = ByteArray.empty := by
   apply ByteArray.ext
   apply Array.ext_getElem?
   intro i
   have h1 : s.data.size = 0 := h
   have h2 : ByteArray.empty.data.size = 0 := rfl
   rw [Array.getElem?_eq_none (by omega), Array.getElem?_eq_none (by omega)]
  subst this
  rw [gJ]; rfl
 ·have h1 : decide (1 ≤ (s.size : Int)) = true := by simp; omega
  rw [h1]
  cases h2 : seq s ByteArray.empty with
  | false => rfl
  | true => rw [agC] at h2; subst h2; exact absurd rfl h
def F9 (s : ByteArray) : Bool := !(seq s ByteArray.empty) && decide ((s.size : Int) ≤ 4096)
theorem fH (a b : Bool) : (bif a then some b else some false) = some (a && b) := by cases a <;> rfl
theorem qU (a b : Bool) : (bif !a then some b else some true) = some (a || b) := by cases a <;> rfl
theorem Zn (fu : Nat) (s : ByteArray) : P88 fu s = some (F9 s) := by
 unfold P88 F9
 rw [fH]
 rfl
def vB : Field → ByteArray | ⟨m, _⟩ => m
def fZ : Field → Value | ⟨_, v⟩ => v
def vC (l : List Field) (i : Nat) : Bool := match l[i]? with
 | none => true
 | some f => F9 (vB f) && match i with
  | 0 => true
  | j + 1 => match l[j]? with | none => true | some g => slt (vB g) (vB f)
theorem FT {l : List Field} {f : Field} (h : l[0]? = some f) : vC l 0 = F9 (vB f) := by
 unfold vC; rw [h]; exact Bool.and_true _
theorem FU {l : List Field} {k : Nat} {f g : Field} (h : l[k + 1]? = some f) (h2 : l[k]? = some g) : vC l (k + 1) = (F9 (vB f) && slt (vB g) (vB f)) := by
 unfold vC; rw [h]; dsimp only; rw [h2]
def vJ (l : List Field) : Bool := (List.range l.length).all (vC l)
def nG (f : List Field) (ks : List ByteArray) (i : Nat) : Bool := match f[i]?, ks[i]? with
 | some q, some s => seq (vB q) s
 | _, _ => true
def jP (f : List Field) (ks : List ByteArray) : Bool := (ln f == ln ks) && (List.range f.length).all (nG f ks)
def kv : ByteArray := ⟨#[118, 97, 108, 117, 101]⟩
def ka : ByteArray := ⟨#[97, 103, 97, 105, 110]⟩
def ke : ByteArray := ⟨#[101, 108, 115, 101]⟩
def ownB (e : Int) (f : List Field) : Bool := bif e == 6 then jP f [kv] else bif e == 7 then jP f [ka, ke] else bif e == 8 then jP f [ke] else bif e == 4 || e == 5 then jP f [] else true
def elB : Value → Bool
 | .mk k n s _ ⟨f, _⟩ e c b => n == 0 && decide (0 < e) && decide (e < 9) && decide ((c.size : Int) ≤ 4096) && (b || seq c ByteArray.empty) && ownB e f && (bif e == 4 || (e == 7 || e == 8) then seq s ByteArray.empty else F9 s)
def plB : Value → Bool
 | .mk k n s ⟨l, _⟩ ⟨f, _⟩ e c b => decide (k ≤ 7) && e == 0 && seq c ByteArray.empty && !b && decide ((s.size : Int) ≤ 4096) && (n == 0 || ((k == 1 || k == 7) || (k == 2 && n == 1))) && (seq s ByteArray.empty || (k == 3 || k == 7)) &&
   (ln l == 0 || k == 4) && (ln f == 0 || (k == 5 || k == 7))
def alB : Value → Bool
 | .mk k n s l ⟨f, y⟩ e c b => vJ f && bif k == 6 then elB (.mk k n s l ⟨f, y⟩ e c b) else plB (.mk k n s l ⟨f, y⟩ e c b)
theorem afR (fu : Nat) (f : List Field) (fx : Option (List Field)) (ks : List ByteArray) (kx : Option (List ByteArray)) (hk : ks.length ≤ 2) : adZ fu ⟨f, fx⟩ ⟨ks, kx⟩ (Z9 fu) = some (jP f ks) := by
 unfold adZ jP
 dsimp only
 cases hl : ln f == ln ks with
 | false => rfl
 | true =>
  have hl' : f.length = ks.length := by simp [ln] at hl; omega
  rw [Bool.not_true, cond_false]
  have hr : Runs (wl (Dk fu (Z9 fu) f ks) 0) ((List.range f.length).all (nG f ks)) := by
   refine jq (n := f.length) (nG f ks) (by omega) (fun k hk => ?_) ?_
   ·unfold Dk nG
    dsimp only
    rw [gU hk, fO f k hk, fO ks k (by omega), List.getElem?_eq_getElem hk, List.getElem?_eq_getElem (show k < ks.length by omega)]
    generalize f[k] = q
    obtain ⟨m, ⟨_, _, _, ⟨_, _⟩, ⟨_, _⟩, _, _, _⟩⟩ := q
    simp only [cond_true, Option.bind_some, Z9, vB]
    cases seq m _ <;> rfl
   ·unfold Dk
    dsimp only
    rw [fU]; rfl
  rw [hr.use (t := some true) (f := some false) (fun _ => rfl) (fun _ => rfl)]
  cases (List.range f.length).all (nG f ks) <;> rfl
theorem apb (fu : Nat) (e : Int) (f : List Field) : ∃ ks kx w, adY fu e = some (⟨ks, kx⟩, w) ∧ ks.length ≤ 2 ∧ ownB e f = (bif w then jP f ks else true) := by
 unfold adY ownB
 cases e == 6 <;> cases e == 7 <;> cases e == 8 <;> cases e == 4 <;> cases e == 5 <;> exact ⟨_, _, _, rfl, by decide, rfl⟩
theorem ai2 (fu : Nat) (v : Value) : P89 fu v = some (elB v) := by
 obtain ⟨k, n, s, ⟨l, x⟩, ⟨f, y⟩, e, c, b⟩ := v
 have h0 : (decide (0 < e)) = !decide (e ≤ 0) := by by_cases h : e ≤ 0 <;> simp [h] <;> omega
 have h9 : (decide (e < 9)) = !decide (9 ≤ e) := by by_cases h : 9 ≤ e <;> simp [h] <;> omega
 have hc : (decide ((c.size : Int) ≤ 4096)) = !decide (4096 < (c.size : Int)) := by by_cases h : (c.size : Int) ≤ 4096 <;> simp [h] <;> omega
 obtain ⟨ks, kx, w, g1, g2, g3⟩ := apb fu e f
 have g4 := afR fu f y ks kx g2
 unfold P89 elB
 dsimp only
 rw [g1, g3, h0, h9, hc, Zn]
 dsimp only [Option.bind_some]
 rw [g4]
 generalize jP f ks = N
 generalize (n == 0) = A
 generalize decide (e ≤ 0) = B
 generalize decide (9 ≤ e) = C
 generalize decide (4096 < (c.size : Int)) = D
 generalize seq c ByteArray.empty = F
 cases A
 ·rfl
 cases B
 rotate_left
 ·rfl
 cases C
 rotate_left
 ·rfl
 cases D
 rotate_left
 ·rfl
 cases b <;> cases F <;> cases w <;> cases N <;> cases e == 4 <;> cases e == 7 <;> cases e == 8 <;> rfl
theorem aap (fu : Nat) (l : List Int) (a : Int) : GL fu l a = l8 (fun x => some (a == x)) l := by
 funext q
 obtain ⟨r, i⟩ := q
 unfold GL l8
 rfl
theorem KO (fu : Nat) (l : List Int) (x : Option (List Int)) (hl : l.length ≤ 2) (k n : Int) (s : ByteArray) (L : List Value) (Lx : Option (List Value)) (f : List Field) (y : Option (List Field)) (e : Int) (c : ByteArray) (b : Bool) :
  Dl fu ⟨l, x⟩ (Value.mk k n s ⟨L, Lx⟩ ⟨f, y⟩ e c b) = some (l.any (fun z => k == z)) := by
 unfold Dl P91 ahh
 dsimp only
 rw [aap, find_ok (fun x => k == x) (by omega) (fun x hx => rfl)]
 cases h : List.findIdx? (fun z => k == z) l with
 | none =>
  have : l.any (fun z => k == z) = false := by
   rw [List.findIdx?_eq_none_iff] at h
   rw [List.any_eq_false]
   intro z hz
   rw [h z hz]
   decide
  rw [this]; rfl
 | some j =>
  have : l.any (fun z => k == z) = true := by
   obtain ⟨h1, h2, _⟩ := List.findIdx?_eq_some_iff_getElem.1 h
   exact List.any_eq_true.2 ⟨_, List.getElem_mem h1, h2⟩
  rw [this]
  show some (decide ((0 : Int) ≤ (j : Int))) = some true
  simp
theorem ai3 (fu : Nat) (f : List Field) (hf : f.length ≤ 9223372036854775806) : Runs (wl (Jv fu f) 0) (vJ f) := by
 refine jq (n := f.length) (vC f) hf (fun k hk => ?_) ?_
 ·unfold Jv
  dsimp only
  have hm := List.getElem?_eq_getElem hk
  rw [gU hk, fO f k hk]
  generalize f[k] = q at hm
  obtain ⟨m, ⟨_, _, _, ⟨_, _⟩, ⟨_, _⟩, _, _, _⟩⟩ := q
  simp only [cond_true, Option.bind_some, Zn]
  cases k with
  | zero =>
   rw [FT hm]
   simp only [vB]
   cases F9 m <;> rfl
  | succ k =>
   have hz := List.getElem?_eq_getElem (show k < f.length by omega)
   have e1 : decide (0 < ((k + 1 : Nat) : Int)) = true := by simp
   have e2 : fq (((k + 1 : Nat) : Int) - 1) = (k : Int) := by rw [nA (by omega) (by omega)]; omega
   rw [e1, e2, fO f k (by omega)]
   generalize f[k] = z at hz
   rw [FU hm hz]
   obtain ⟨m', ⟨_, _, _, ⟨_, _⟩, ⟨_, _⟩, _, _, _⟩⟩ := z
   simp only [Option.bind_some, vB, cond_true]
   cases F9 m <;> cases slt m' m <;> rfl
 ·unfold Jv
  dsimp only
  rw [fU]; rfl
theorem afS (fu : Nat) (v : Value) (N : Nat) (hv : Fit N v) : P77 fu v = some (alB v) := by
 obtain ⟨k, n, s, ⟨l, x⟩, ⟨f, y⟩, e, c, b⟩ := v
 cases N with
 | zero => exact absurd hv (by simp [Fit])
 | succ N =>
 obtain ⟨_, h1, _⟩ := hv
 have hf := dX (by omega) h1
 unfold P77 alB
 dsimp only
 rw [(ai3 fu f (by omega)).use (f := some false) (fun _ => rfl) (fun _ => rfl)]
 cases vJ f
 ·rfl
 rw [cond_true]
 cases hk : k == 6 with
 | true =>
  rw [cond_true, ai2, Option.bind_some]
  rfl
 | false =>
  unfold plB
  dsimp only [Option.bind_some]
  simp only [KO fu _ _ (show [1, 7].length ≤ 2 by decide), KO fu _ _ (show [2].length ≤ 2 by decide), KO fu _ _ (show [3, 7].length ≤ 2 by decide), KO fu _ _ (show [4].length ≤ 2 by decide), KO fu _ _ (show [5, 7].length ≤ 2 by decide),
   List.any_cons, List.any_nil, Bool.or_false, cond_false, Option.bind_some]
  simp only [fH, qU, Option.bind_some]
  rfl
def rP : Nat → Value → Bool
 | 0, _ => false
 | N + 1, .mk k n s ⟨l, x⟩ ⟨f, y⟩ e c b => alB (.mk k n s ⟨l, x⟩ ⟨f, y⟩ e c b) && (l.all (rP N) && f.all fun q => rP N (fZ q))
def vN : Nat → Value → Nat
 | 0, _ => 0
 | N + 1, .mk _ _ _ ⟨l, _⟩ ⟨f, _⟩ _ _ _ => 1 + ((l.map (vN N)).sum + (f.map fun q => vN N (fZ q)).sum)
def mx : List Nat → Nat
 | [] => 0
 | a :: r => max a (mx r)
theorem afT {l : List Nat} {b : Nat} : mx l ≤ b ↔ ∀ a ∈ l, a ≤ b := by
 induction l with
 | nil => simp [mx]
 | cons a r ih => simp only [mx, List.mem_cons, forall_eq_or_imp, ← ih]; omega
def Bg : Nat → Value → Nat
 | 0, _ => 0
 | N + 1, .mk _ _ _ ⟨l, _⟩ ⟨f, _⟩ _ _ _ => max (mx (l.map (Bg N))) (mx (f.map fun q => Bg N (fZ q))) + 1
theorem EZ {A : Type} {f : (Int × Bool × Int) → Option ((Int × Bool × Int) ⊕ ((Int × Bool × Int) ⊕ (Int × Bool × Int)))} (l : List A) (ok : A → Bool) (sz : A → Nat)
  (h : ∀ k (hk : k < l.length) (c : Nat) (b : Bool), c ≤ 4096 → ∃ (r : Bool) (c' : Int) (b' : Bool), f ((c : Int), b, (k : Int)) = some (bif r then .inl (c', b', ((k + 1 : Nat) : Int)) else .inr (.inr (c', b', (k : Int)))) ∧
   (r = true → ok l[k] = true ∧ c' = ((c + sz l[k] : Nat) : Int) ∧ c + sz l[k] ≤ 4096 ∧ b' = true) ∧ (r = false → b' = false ∧ ¬ (ok l[k] = true ∧ c + sz l[k] ≤ 4096)))
  (hend : ∀ (c : Nat) b, f ((c : Int), b, (l.length : Int)) = some (.inr (.inl ((c : Int), b, (l.length : Int))))) :
  ∀ (m k c : Nat) (b : Bool), k + m = l.length → c ≤ 4096 → ∃ q, wl f ((c : Int), b, (k : Int)) = some q ∧ match q with
   | .inl (c', b', _) => (l.drop k).all ok = true ∧ c' = ((c + ((l.drop k).map sz).sum : Nat) : Int) ∧ c + ((l.drop k).map sz).sum ≤ 4096 ∧ (b = true → b' = true)
   | .inr (_, b', _) => b' = false ∧ ¬ ((l.drop k).all ok = true ∧ c + ((l.drop k).map sz).sum ≤ 4096)
 | 0, k, c, b, hk, hc => by
  have hk : k = l.length := by omega
  subst hk
  refine ⟨_, Ei (hend c b), ?_⟩
  simp only [List.drop_length, List.all_nil, List.map_nil, List.sum_nil, Nat.add_zero]
  exact ⟨trivial, trivial, hc, id⟩
 | m + 1, k, c, b, hk, hc => by
  have hlt : k < l.length := by omega
  obtain ⟨r, c', b', g1, g2, g3⟩ := h k hlt c b hc
  rw [List.drop_eq_getElem_cons hlt]
  simp only [List.all_cons, List.map_cons, List.sum_cons]
  cases r with
  | true =>
   obtain ⟨j1, j2, j3, j4⟩ := g2 rfl
   subst j2; subst j4
   obtain ⟨q, w1, w2⟩ := EZ l ok sz h hend m (k + 1) (c + sz l[k]) true (by omega) j3
   refine ⟨q, (OA g1).trans w1, ?_⟩
   rw [j1]
   rcases q with ⟨c2, b2, i2⟩ | ⟨c2, b2, i2⟩
   ·obtain ⟨u1, u2, u3, u4⟩ := w2
    refine ⟨by rw [u1]; rfl, by rw [u2, Nat.add_assoc], by omega, fun _ => u4 rfl⟩
   ·obtain ⟨u1, u2⟩ := w2
    refine ⟨u1, fun hh => u2 ⟨by simpa using hh.1, by omega⟩⟩
  | false =>
   obtain ⟨j1, j2⟩ := g3 rfl
   refine ⟨_, Ei g1, j1, fun hh => j2 ⟨?_, ?_⟩⟩
   ·have := hh.1
    rw [Bool.and_eq_true] at this
    exact this.1
   ·have := hh.2; omega
theorem afU {A : Type} (l : List A) (g : A → Bool) (h : A → Nat) (d : Nat) (hd : d ≤ 64) : l.all (fun v => g v && decide (d + 1 + h v ≤ 65)) = true ↔ l.all g = true ∧ mx (l.map h) ≤ 64 - d := by
 simp only [List.all_eq_true, Bool.and_eq_true, decide_eq_true_eq, afT, List.mem_map, forall_exists_index, and_imp, forall_apply_eq_imp_iff₂]
 constructor
 ·intro hh
  exact ⟨fun v hv => (hh v hv).1, fun v hv => by have := (hh v hv).2; omega⟩
 ·intro hh v hv
  exact ⟨hh.1 v hv, by have := hh.2 v hv; omega⟩
theorem ai4 : ∀ (N n : Nat) (v : Value), Fit N v → N ≤ n → ∀ (d c : Nat) (b2 : Bool), d ≤ 100 → c ≤ 4096 → ∃ (r : Bool) (c' : Int) (b' : Bool), FN n v (d : Int) (c : Int) b2 = some (r, c', b') ∧
  (r = true → rP N v = true ∧ d + Bg N v ≤ 65 ∧ c' = ((c + vN N v : Nat) : Int) ∧ c + vN N v ≤ 4096 ∧ b' = true) ∧ (r = false → b' = false ∧ ¬ (rP N v = true ∧ d + Bg N v ≤ 65 ∧ c + vN N v ≤ 4096)) := by
 intro N
 induction N with
 | zero => intro n v h; exact absurd h (by obtain ⟨_, _, _, ⟨_, _⟩, ⟨_, _⟩, _, _, _⟩ := v; simp [Fit])
 | succ N ih =>
  intro n v h hn d c b2 hd hc
  obtain ⟨n', rfl⟩ : ∃ n', n = n' + 1 := ⟨n - 1, by omega⟩
  have ha := afS n' v _ h
  obtain ⟨k, nn, s, ⟨l, x⟩, ⟨f, y⟩, e, cc, b⟩ := v
  obtain ⟨⟨p1, p2⟩, p3, p4⟩ := h
  have hl1 := dX (by omega) p1
  have hl3 := dX (by omega) p3
  have ew : fq ((c : Int) + 1) = ((c + 1 : Nat) : Int) := iF (by omega)
  have ed : fq ((d : Int) + 1) = ((d + 1 : Nat) : Int) := iF (by omega)
  rw [FN.eq_2]
  unfold QL Ym
  dsimp only
  rw [ha]
  simp only [rP, vN, Bg]
  generalize alB (Value.mk k nn s ⟨l, x⟩ ⟨f, y⟩ e cc b) = A
  simp only [Option.bind_some, fH, ew]
  have e1 : decide (((c + 1 : Nat) : Int) ≤ 4096) = decide (c + 1 ≤ 4096) := by by_cases h : c + 1 ≤ 4096 <;> simp [h] <;> omega
  have e2 : decide ((d : Int) ≤ 64) = decide (d ≤ 64) := by by_cases h : d ≤ 64 <;> simp [h] <;> omega
  rw [e1, e2]
  cases hq : (A && (decide (c + 1 ≤ 4096) && decide (d ≤ 64))) with
  | false =>
   refine ⟨_, _, _, rfl, fun hh => (Bool.noConfusion hh), fun _ => ⟨rfl, fun hh => ?_⟩⟩
   obtain ⟨h1, h2, h3⟩ := hh
   rw [Bool.and_eq_true] at h1
   rw [h1.1] at hq
   simp at hq
   omega
  | true =>
   simp only [Bool.and_eq_true, decide_eq_true_eq] at hq
   obtain ⟨q1, q2, q3⟩ := hq
   rw [q1]
   simp only [Bool.not_true, cond_false]
   obtain ⟨q, w1, w2⟩ := EZ (f := xM n' (FN n') l (d : Int)) l (fun v => rP N v && decide (d + 1 + Bg N v ≤ 65)) (vN N) (fun k hk c b hc => by
    obtain ⟨r, c', b', g1, g2, g3⟩ := ih n' l[k] (p2 _ (List.getElem_mem hk)) (by omega) (d + 1) c b (by omega) hc
    refine ⟨r, c', b', ?_, fun hr => ?_, fun hr => ?_⟩
    ·unfold xM
     dsimp only
     rw [gU hk, fO l k hk, ed]
     generalize l[k] = v at g1
     obtain ⟨_, _, _, ⟨_, _⟩, ⟨_, _⟩, _, _, _⟩ := v
     simp only [cond_true, Option.bind_some, g1, iF (show k < 9223372036854775807 by omega)]
     cases r <;> rfl
    ·obtain ⟨j1, j2, j3, j4, j5⟩ := g2 hr
     exact ⟨by rw [j1]; simpa using j2, j3, j4, j5⟩
    ·obtain ⟨j1, j2⟩ := g3 hr
     refine ⟨j1, fun hh => j2 ?_⟩
     have h1 := hh.1
     simp only [Bool.and_eq_true, decide_eq_true_eq] at h1
     exact ⟨h1.1, h1.2, hh.2⟩) (fun c b => by
    unfold xM
    dsimp only
    rw [fU]; rfl) l.length 0 (c + 1) true (by omega) (by omega)
   rw [show ((0 : Nat) : Int) = 0 from rfl] at w1
   rw [w1]
   rw [List.drop_zero] at w2
   have hL := afU l (rP N) (Bg N) d q3
   have hF := afU f (fun q => rP N (fZ q)) (fun q => Bg N (fZ q)) d q3
   have hmax : ∀ a b : Nat, d + (max a b + 1) ≤ 65 ↔ a ≤ 64 - d ∧ b ≤ 64 - d := by intro a b; omega
   simp only [Bool.true_and, Bool.and_eq_true, hmax]
   rcases q with ⟨c1, b1, i1⟩ | ⟨c1, b1, i1⟩
   ·obtain ⟨u1, u2, u3, u4⟩ := w2
    have u4 := u4 rfl
    subst u2; subst u4
    dsimp only [Option.bind_some]
    obtain ⟨q, v1, v2⟩ := EZ (f := xP n' (FN n') f (d : Int)) f (fun q => rP N (fZ q) && decide (d + 1 + Bg N (fZ q) ≤ 65)) (fun q => vN N (fZ q)) (fun k hk c b hc => by
     obtain ⟨r, c', b', g1, g2, g3⟩ := ih n' (fZ f[k]) (by
      have := p4 _ (List.getElem_mem hk)
      generalize f[k] = z at this
      obtain ⟨m, z⟩ := z
      exact this) (by omega) (d + 1) c b (by omega) hc
     refine ⟨r, c', b', ?_, fun hr => ?_, fun hr => ?_⟩
     ·unfold xP
      dsimp only
      rw [gU hk, fO f k hk, ed]
      generalize f[k] = z at g1
      obtain ⟨m, ⟨_, _, _, ⟨_, _⟩, ⟨_, _⟩, _, _, _⟩⟩ := z
      simp only [fZ] at g1
      simp only [cond_true, Option.bind_some, g1, iF (show k < 9223372036854775807 by omega)]
      cases r <;> rfl
     ·obtain ⟨j1, j2, j3, j4, j5⟩ := g2 hr
      exact ⟨by rw [j1]; simpa using j2, j3, j4, j5⟩
     ·obtain ⟨j1, j2⟩ := g3 hr
      refine ⟨j1, fun hh => j2 ?_⟩
      have h1 := hh.1
      simp only [Bool.and_eq_true, decide_eq_true_eq] at h1
      exact ⟨h1.1, h1.2, hh.2⟩) (fun c b => by
     unfold xP
     dsimp only
     rw [fU]; rfl) f.length 0 (c + 1 + (l.map (vN N)).sum) true (by omega) u3
    rw [show ((0 : Nat) : Int) = 0 from rfl] at v1
    rw [v1]
    rw [List.drop_zero] at v2
    rcases q with ⟨c2, b2', i2⟩ | ⟨c2, b2', i2⟩
    ·obtain ⟨t1, t2, t3, t4⟩ := v2
     have t4 := t4 rfl
     subst t2; subst t4
     refine ⟨_, _, _, rfl, fun _ => ?_, fun hh => Bool.noConfusion hh⟩
     obtain ⟨a1, a2⟩ := hL.1 u1
     obtain ⟨a3, a4⟩ := hF.1 t1
     exact ⟨⟨a1, a3⟩, ⟨a2, a4⟩, by congr 1; omega, by omega, rfl⟩
    ·obtain ⟨t1, t2⟩ := v2
     refine ⟨_, _, _, rfl, fun hh => Bool.noConfusion hh, fun _ => ⟨t1, fun hh => t2 ⟨hF.2 ⟨hh.1.2, hh.2.1.2⟩, by omega⟩⟩⟩
   ·obtain ⟨u1, u2⟩ := w2
    refine ⟨_, _, _, rfl, fun hh => Bool.noConfusion hh, fun _ => ⟨u1, fun hh => u2 ⟨hL.2 ⟨hh.1.1, hh.2.1.1⟩, by omega⟩⟩⟩
def kV (N : Nat) (v : Value) : Bool := rP N v && (decide (vN N v ≤ 4096) && decide (Bg N v ≤ 64))
theorem Um {N n : Nat} {v : Value} (h : Fit N v) (hn : N ≤ n) : P49 n v = some (kV N v) := by
 obtain ⟨r, c', b', g1, g2, g3⟩ := ai4 N n v h hn 1 0 true (by omega) (by omega)
 obtain ⟨k, nn, s, ⟨l, x⟩, ⟨f, y⟩, e, cc, b⟩ := v
 unfold P49 Yo
 dsimp only
 rw [show ((1 : Nat) : Int) = 1 from rfl, show ((0 : Nat) : Int) = 0 from rfl] at g1
 rw [g1]
 dsimp only [Option.bind_some]
 congr 1
 unfold kV
 cases r with
 | true =>
  obtain ⟨j1, j2, j3, j4, j5⟩ := g2 rfl
  rw [j5, j1]
  have h1 : decide (vN N (Value.mk k nn s ⟨l, x⟩ ⟨f, y⟩ e cc b) ≤ 4096) = true := by simp; omega
  have h2 : decide (Bg N (Value.mk k nn s ⟨l, x⟩ ⟨f, y⟩ e cc b) ≤ 64) = true := by simp; omega
  rw [h1, h2]; rfl
 | false =>
  obtain ⟨j1, j2⟩ := g3 rfl
  rw [j1]
  symm
  rw [Bool.eq_false_iff]
  intro hh
  simp only [Bool.and_eq_true, decide_eq_true_eq] at hh
  exact j2 ⟨hh.1, by omega, by omega⟩
theorem Zo (fu : Nat) (s : ByteArray) : TS fu s = some (F9 s) := by
 unfold TS F9
 rw [fH, KN, Bool.not_not]
 rfl
theorem ai5 (fu : Nat) (k m : Int) (t : ByteArray) (L : List Value) (Lx : Option (List Value)) (f : List Field) (y : Option (List Field)) (e : Int) (c : ByteArray) (b n s l q : Bool) :
  P92 fu (Value.mk k m t ⟨L, Lx⟩ ⟨f, y⟩ e c b) n s l q = some ((n || m == 0) && (s || seq t ByteArray.empty) && (l || ln L == 0) && (q || ln f == 0) && e == 0 && seq c ByteArray.empty && !b) := by
 unfold P92
 simp only [fH, qU, Option.bind_some]
theorem nE {A : Type} (l : List A) (r : Nat → Bool) (p : A → Bool) (h : ∀ k (hk : k < l.length), r k = p l[k]) : (List.range l.length).all r = l.all p := by
 rw [Bool.eq_iff_iff]
 simp only [List.all_eq_true, List.mem_range]
 constructor
 ·intro hh x hx
  obtain ⟨i, hi, rfl⟩ := List.mem_iff_getElem.1 hx
  rw [← h i hi]; exact hh i hi
 ·intro hh k hk
  rw [h k hk]; exact hh _ (List.getElem_mem hk)
theorem aaq (n : Nat) (r s : Nat → Bool) : (List.range n).all (fun k => r k && s k) = ((List.range n).all r && (List.range n).all s) := by
 rw [Bool.eq_iff_iff]
 simp only [List.all_eq_true, List.mem_range, Bool.and_eq_true]
 exact ⟨fun h => ⟨fun k hk => (h k hk).1, fun k hk => (h k hk).2⟩, fun h k hk => ⟨h.1 k hk, h.2 k hk⟩⟩
def WW {A : Type} (l : List A) (p : A → Bool) (k : Nat) : Bool := match l[k]? with | some x => p x | none => true
theorem jQ {A : Type} {l : List A} {p : A → Bool} {k : Nat} (hk : k < l.length) : WW l p k = p l[k] := by
 unfold WW; rw [List.getElem?_eq_getElem hk]
theorem E5 (fu : Nat) (f : List Field) (fx : Option (List Field)) (ks : List ByteArray) (kx : Option (List ByteArray)) (hk : ks.length ≤ 2) : VO fu ⟨f, fx⟩ ⟨ks, kx⟩ = some (jP f ks) := by
 unfold VO jP
 dsimp only
 cases hl : ln f == ln ks with
 | false => rfl
 | true =>
  have hl' : f.length = ks.length := by simp [ln] at hl; omega
  rw [Bool.not_true, cond_false]
  have hr : Runs (wl (Dm fu f ks) 0) ((List.range f.length).all (nG f ks)) := by
   refine jq (n := f.length) (nG f ks) (by omega) (fun k hk => ?_) ?_
   ·unfold Dm nG
    dsimp only
    rw [gU hk, fO f k hk, fO ks k (by omega), List.getElem?_eq_getElem hk, List.getElem?_eq_getElem (show k < ks.length by omega)]
    generalize f[k] = q
    obtain ⟨m, ⟨_, _, _, ⟨_, _⟩, ⟨_, _⟩, _, _, _⟩⟩ := q
    simp only [cond_true, Option.bind_some, vB]
    cases seq m _ <;> rfl
   ·unfold Dm
    dsimp only
    rw [fU]; rfl
  rw [hr.use (t := some true) (f := some false) (fun _ => rfl) (fun _ => rfl)]
  cases (List.range f.length).all (nG f ks) <;> rfl
theorem Un {N m : Nat} {l : List Value} {x : Option (List Value)} (hl : l.length ≤ 9223372036854775806) (h : ∀ v ∈ l, Uv m v = some (rP N v)) : P93 (m + 1) ⟨l, x⟩ = some (l.all (rP N)) := by
 rw [P93.eq_2]
 unfold ahl
 dsimp only
 have hr : Runs (wl (Jz m (Uv m) l) 0) ((List.range l.length).all (WW l (rP N))) := by
  refine jq (n := l.length) _ hl (fun k hk => ?_) ?_
  ·unfold Jz
   dsimp only
   rw [gU hk, fO l k hk, jQ hk]
   have := h l[k] (List.getElem_mem hk)
   generalize l[k] = v at this
   obtain ⟨_, _, _, ⟨_, _⟩, ⟨_, _⟩, _, _, _⟩ := v
   simp only [cond_true, Option.bind_some, this]
   cases rP N _ <;> rfl
  ·unfold Jz
   dsimp only
   rw [fU]; rfl
 rw [hr.use (t := some true) (f := some false) (fun _ => rfl) (fun _ => rfl), nE l _ (rP N) fun k hk => jQ hk]
 cases l.all (rP N) <;> rfl
theorem KP {N m : Nat} {l : List Field} {x : Option (List Field)} (hl : l.length ≤ 9223372036854775806) (h : ∀ q ∈ l, Uv m (fZ q) = some (rP N (fZ q))) :
  P94 (m + 1) ⟨l, x⟩ = some (vJ l && l.all fun q => rP N (fZ q)) := by
 rw [P94.eq_2]
 unfold ahm
 dsimp only
 have hr : Runs (wl (JA m (Uv m) l) 0) ((List.range l.length).all fun k => vC l k && WW l (fun q => rP N (fZ q)) k) := by
  refine jq (n := l.length) _ hl (fun k hk => ?_) ?_
  ·unfold JA
   dsimp only
   rw [gU hk, fO l k hk, jQ hk]
   have hm := List.getElem?_eq_getElem hk
   have := h l[k] (List.getElem_mem hk)
   generalize l[k] = q at this hm
   obtain ⟨n, ⟨_, _, _, ⟨_, _⟩, ⟨_, _⟩, _, _, _⟩⟩ := q
   simp only [fZ] at this
   simp only [cond_true, Option.bind_some, Zo, this, fZ]
   cases k with
   | zero =>
    rw [FT hm]
    simp only [vB]
    cases F9 n <;> cases rP N _ <;> rfl
   | succ k =>
    have hz := List.getElem?_eq_getElem (show k < l.length by omega)
    have e1 : decide (0 < ((k + 1 : Nat) : Int)) = true := by simp
    have e2 : fq (((k + 1 : Nat) : Int) - 1) = (k : Int) := by rw [nA (by omega) (by omega)]; omega
    rw [e1, e2, fO l k (by omega)]
    generalize l[k] = z at hz
    rw [FU hm hz]
    obtain ⟨m', ⟨_, _, _, ⟨_, _⟩, ⟨_, _⟩, _, _, _⟩⟩ := z
    simp only [Option.bind_some, vB, cond_true]
    cases F9 n <;> cases slt m' n <;> cases rP N _ <;> rfl
  ·unfold JA
   dsimp only
   rw [fU]; rfl
 rw [hr.use (t := some true) (f := some false) (fun _ => rfl) (fun _ => rfl), aaq, nE l (WW l fun q => rP N (fZ q)) (fun q => rP N (fZ q)) fun k hk => jQ hk]
 unfold vJ
 cases (List.range l.length).all (vC l) <;> cases l.all (fun q => rP N (fZ q)) <;> rfl
theorem Bd {A : Type} {l : List A} (h : (ln l == 0) = true) : l = [] := by
 cases l with
 | nil => rfl
 | cons a r => simp [ln] at h; omega
theorem aar (f : List Field) : jP f [] = (ln f == 0) := by
 unfold jP
 show (ln f == 0 && _) = _
 cases h : ln f == 0 with
 | false => rfl
 | true => rw [Bd h]; rfl
theorem afV {N m : Nat} {k n : Int} {s : ByteArray} {l : List Value} {x : Option (List Value)} {f : List Field} {y : Option (List Field)} {e : Int} {c : ByteArray} {b : Bool}
  (hl : l.length ≤ 9223372036854775806) (hf : f.length ≤ 9223372036854775806) (h1 : ∀ v ∈ l, Uv m v = some (rP N v)) (h2 : ∀ q ∈ f, Uv m (fZ q) = some (rP N (fZ q))) :
  P95 (m + 2) (Value.mk k n s ⟨l, x⟩ ⟨f, y⟩ e c b) = some ((vJ f && elB (Value.mk k n s ⟨l, x⟩ ⟨f, y⟩ e c b)) && (l.all (rP N) && f.all fun q => rP N (fZ q))) := by
 have hc : (decide ((c.size : Int) ≤ 4096)) = !decide (4096 < (c.size : Int)) := by by_cases h : (c.size : Int) ≤ 4096 <;> simp [h] <;> omega
 rw [P95.eq_2]
 unfold ahn elB
 dsimp only
 rw [Un hl h1, KP hf h2, hc]
 have g6 := E5 (m + 1) f y [kv] (some []) (by decide)
 have g7 := E5 (m + 1) f y [ka, ke] (some []) (by decide)
 have g8 := E5 (m + 1) f y [ke] (some []) (by decide)
 unfold ownB
 rw [aar]
 simp only [kv, ka, ke] at g6 g7 g8 ⊢
 simp only [Option.bind_some, Zo, g6, g7, g8]
 generalize jP f [⟨#[118, 97, 108, 117, 101]⟩] = N6
 generalize jP f [⟨#[97, 103, 97, 105, 110]⟩, ⟨#[101, 108, 115, 101]⟩] = N7
 generalize jP f [⟨#[101, 108, 115, 101]⟩] = N8
 generalize l.all (rP N) = L
 generalize f.all (fun q => rP N (fZ q)) = F
 generalize vJ f = R
 generalize (n == 0) = A
 generalize decide (4096 < (c.size : Int)) = D
 generalize seq c ByteArray.empty = C
 generalize seq s ByteArray.empty = S
 generalize F9 s = M
 generalize (ln f == 0) = Z
 cases A
 ·cases R <;> rfl
 cases D
 rotate_left
 ·cases b <;> cases C <;> cases R <;> cases decide (0 < e) <;> cases decide (e < 9) <;> rfl
 have hbc : (b || C) = false ∨ (b || C) = true := by cases (b || C) <;> simp
 rcases hbc with hbc | hbc
 ·have h1 : b = false := by cases b <;> simp at hbc ⊢
  have h2 : C = false := by cases C <;> simp at hbc ⊢
  subst h1; subst h2
  cases R <;> cases decide (0 < e) <;> cases decide (e < 9) <;> rfl
 have h0 : (bif !!true then bif !b then some !C else some false else some true) = some false := by
  cases b <;> cases C <;> first | rfl | cases hbc
 rw [h0, hbc]
 cases R
 ·rfl
 cases L
 ·cases F <;> cases decide (0 < e) <;> cases decide (e < 9) <;> simp
 cases F
 ·cases decide (0 < e) <;> cases decide (e < 9) <;> simp
 by_cases e1 : e = 1
 ·subst e1; cases M <;> rfl
 by_cases e2 : e = 2
 ·subst e2; cases M <;> rfl
 by_cases e3 : e = 3
 ·subst e3; cases M <;> rfl
 by_cases e4 : e = 4
 ·subst e4; cases S <;> cases Z <;> rfl
 by_cases e5 : e = 5
 ·subst e5; cases M <;> cases Z <;> rfl
 by_cases e6 : e = 6
 ·subst e6; cases M <;> cases N6 <;> rfl
 by_cases e7 : e = 7
 ·subst e7; cases S <;> cases N7 <;> rfl
 by_cases e8 : e = 8
 ·subst e8; cases S <;> cases N8 <;> rfl
 have hw : (decide (0 < e) && decide (e < 9)) = false := by
  cases h : (decide (0 < e) && decide (e < 9)) with
  | false => rfl
  | true => simp only [Bool.and_eq_true, decide_eq_true_eq] at h; omega
 have f1 : (e == 1) = false := by simpa using e1
 have f2 : (e == 2) = false := by simpa using e2
 have f3 : (e == 3) = false := by simpa using e3
 have f4 : (e == 4) = false := by simpa using e4
 have f5 : (e == 5) = false := by simpa using e5
 have f6 : (e == 6) = false := by simpa using e6
 have f7 : (e == 7) = false := by simpa using e7
 have f8 : (e == 8) = false := by simpa using e8
 simp only [f1, f2, f3, f4, f5, f6, f7, f8, hw, Bool.true_and, Bool.false_and, Bool.and_false]
 rfl
def Kd : Nat → Value → Prop
 | 0, _ => False
 | N + 1, .mk k _ _ ⟨l, _⟩ ⟨f, _⟩ _ _ _ => 0 ≤ k ∧ (∀ v ∈ l, Kd N v) ∧ ∀ q ∈ f, aoO (Kd N) q
theorem afW {k n : Int} {s key : ByteArray} {l : Sl Value} {f : Sl Field} {e : Int} {hk : Bool} (h : KT (Value.mk k n s l f e key hk)) : 0 ≤ k := by
 obtain ⟨l, x⟩ := l
 obtain ⟨f, y⟩ := f
 obtain ⟨a0, _, e0, h0, a1, _, e1, h1, _⟩ := h.yL KH rfl
 obtain ⟨z, rfl, hz⟩ := h0.qI KI
 simp only [fK, List.cons_append, List.nil_append, List.cons.injEq, D.int.injEq] at e0
 obtain ⟨⟨_, rfl⟩, _⟩ := e0
 simp [Lit.wf, show IntKind.u8.min = 0 from rfl, show IntKind.u8.max = 255 from rfl] at hz
 omega
theorem arM : ∀ (N : Nat) (v : Value), SizeOf.sizeOf v ≤ N → KT v → Kd N v := by
 intro N
 induction N with
 | zero =>
  intro v h
  obtain ⟨_, _, _, ⟨_, _⟩, ⟨_, _⟩, _, _, _⟩ := v
  simp only [Value.mk.sizeOf_spec] at h
  omega
 | succ N ih =>
  intro v h ov
  obtain ⟨k, n, s, ⟨l, x⟩, ⟨f, y⟩, e, c, b⟩ := v
  have hk := afW ov
  obtain ⟨p1, p2, p3, p4⟩ := sF ov
  refine ⟨hk, fun v hv => ?_, fun q hq => ?_⟩
  ·have := Rt (k := k) (n := n) (s := s) (key := c) (lx := x) (f := ⟨f, y⟩) (e := e) (hk := b) hv
   exact ih v (by omega) (p2 v hv)
  ·have := Ru (k := k) (n := n) (s := s) (key := c) (l := ⟨l, x⟩) (fx := y) (e := e) (hk := b) hq
   obtain ⟨m, v⟩ := q
   have := Rv (m := m) (v := v)
   exact ih v (by omega) (mF (p4 _ hq))
theorem aas : ∀ (N n : Nat) (v : Value), Fit N v → Kd N v → 4 * N ≤ n → Uv n v = some (rP N v) := by
 intro N
 induction N with
 | zero => intro n v h; exact absurd h (by obtain ⟨_, _, _, ⟨_, _⟩, ⟨_, _⟩, _, _, _⟩ := v; simp [Fit])
 | succ N ih =>
  intro n v h hd hn
  obtain ⟨n', rfl⟩ : ∃ n', n = n' + 4 := ⟨n - 4, by omega⟩
  obtain ⟨k, nn, s, ⟨l, x⟩, ⟨f, y⟩, e, c, b⟩ := v
  obtain ⟨⟨p1, p2⟩, p3, p4⟩ := h
  obtain ⟨d1, d2, d3⟩ := hd
  have hl1 := dX (by omega) p1
  have hl3 := dX (by omega) p3
  have fF : ∀ m, 4 * N ≤ m → ∀ q ∈ f, Uv m (fZ q) = some (rP N (fZ q)) := fun m hm q hq => ih m _ (by
   have := p4 _ hq
   obtain ⟨m, z⟩ := q
   exact this) (by
   have := d3 _ hq
   obtain ⟨m, z⟩ := q
   exact this) hm
  have eE := afV (N := N) (m := n' + 1) (k := k) (n := nn) (s := s) (l := l) (x := x) (f := f) (y := y) (e := e) (c := c) (b := b) (by omega) (by omega) (fun v hv => ih _ v (p2 v hv) (d2 v hv) (by omega)) (fF _ (by omega))
  have eV := Un (N := N) (m := n' + 2) (l := l) (x := x) (by omega) (fun v hv => ih _ v (p2 v hv) (d2 v hv) (by omega))
  have eF := KP (N := N) (m := n' + 2) (l := f) (x := y) (by omega) (fF _ (by omega))
  rw [Uv.eq_2]
  unfold ahk
  dsimp only
  rw [eE, eV, eF]
  simp only [ai5, Option.bind_some, fH, qU, rP, alB]
  have hL0 : (ln l == 0) = true → l.all (rP N) = true := fun h => by rw [Bd h]; rfl
  have hF0 : (ln f == 0) = true → vJ f = true ∧ (f.all fun q => rP N (fZ q)) = true := fun h => by rw [Bd h]; exact ⟨rfl, rfl⟩
  have hsz : seq s ByteArray.empty = true → decide ((s.size : Int) ≤ 4096) = true := fun h => by
   rw [KN] at h
   simp at h ⊢
   omega
  unfold plB
  dsimp only
  generalize elB (Value.mk k nn s ⟨l, x⟩ ⟨f, y⟩ e c b) = EL
  generalize l.all (rP N) = L at hL0 ⊢
  generalize f.all (fun q => rP N (fZ q)) = F at hF0 ⊢
  generalize vJ f = R at hF0 ⊢
  generalize (ln l == 0) = ZL at hL0 ⊢
  generalize (ln f == 0) = ZF at hF0 ⊢
  generalize seq s ByteArray.empty = S at hsz ⊢
  generalize decide ((s.size : Int) ≤ 4096) = SZ at hsz ⊢
  generalize seq c ByteArray.empty = C
  generalize (e == 0) = E0
  generalize (nn == 0) = A
  generalize (nn == 1) = B
  by_cases k0 : k = 0
  ·subst k0
   show some _ = some _
   congr 1
   grind
  by_cases k1 : k = 1
  ·subst k1
   show some _ = some _
   congr 1
   grind
  by_cases k2 : k = 2
  ·subst k2
   show some _ = some _
   congr 1
   grind
  by_cases k3 : k = 3
  ·subst k3
   show some _ = some _
   congr 1
   grind
  by_cases k4 : k = 4
  ·subst k4
   show some _ = some _
   congr 1
   grind
  by_cases k5 : k = 5
  ·subst k5
   show some _ = some _
   congr 1
   grind
  by_cases k6 : k = 6
  ·subst k6
   show some _ = some _
   congr 1
  by_cases k7 : k = 7
  ·subst k7
   show some _ = some _
   congr 1
   grind
  have f0 : (k == 0) = false := by simpa using k0
  have f1 : (k == 1) = false := by simpa using k1
  have f2 : (k == 2) = false := by simpa using k2
  have f3 : (k == 3) = false := by simpa using k3
  have f4 : (k == 4) = false := by simpa using k4
  have f5 : (k == 5) = false := by simpa using k5
  have f6 : (k == 6) = false := by simpa using k6
  have f7 : (k == 7) = false := by simpa using k7
  have fk : decide (k ≤ 7) = false := by simp; omega
  simp only [f0, f1, f2, f3, f4, f5, f6, f7, fk, cond_false, Bool.false_and, Bool.and_false]
  rfl
theorem DR {A : Type} {f : (Int × Int) → Option ((Int × Int) ⊕ (Int × Int))} (l : List A) (step : Nat → A → Nat) (B : Nat) (hm : ∀ s a, s ≤ step s a)
  (h : ∀ k (hk : k < l.length) (s : Nat), step s l[k] ≤ B → f ((s : Int), (k : Int)) = some (.inl (((step s l[k] : Nat) : Int), ((k + 1 : Nat) : Int)))) (hend : ∀ s : Nat, f ((s : Int), (l.length : Int)) = some (.inr ((s : Int), (l.length : Int)))) :
  ∀ s : Nat, l.foldl step s ≤ B → wl f ((s : Int), 0) = some (((l.foldl step s : Nat) : Int), (l.length : Int)) := by
 have mono : ∀ (r : List A) (s : Nat), s ≤ r.foldl step s := by
  intro r
  induction r with
  | nil => intro s; exact Nat.le_refl _
  | cons a r ih => intro s; exact Nat.le_trans (hm s a) (ih _)
 have go : ∀ (m k s : Nat), k + m = l.length → (l.drop k).foldl step s ≤ B → wl f ((s : Int), (k : Int)) = some ((((l.drop k).foldl step s : Nat) : Int), (l.length : Int)) := by
  intro m
  induction m with
  | zero =>
   intro k s hk _
   have : k = l.length := by omega
   subst this
   rw [Ei (hend s), List.drop_length]
   rfl
  | succ m ih =>
   intro k s hk hb
   have hlt : k < l.length := by omega
   rw [List.drop_eq_getElem_cons hlt, List.foldl_cons] at hb ⊢
   rw [OA (h k hlt s (Nat.le_trans (mono _ _) hb))]
   exact ih (k + 1) _ (by omega) hb
 intro s hs
 have := go l.length 0 s (by omega) (by rw [List.drop_zero]; exact hs)
 rw [List.drop_zero] at this
 exact this
theorem sG {A : Type} (g : A → Nat) : ∀ (l : List A) (s : Nat), l.foldl (fun s a => s + g a) s = s + (l.map g).sum
 | [], s => by simp
 | a :: r, s => by rw [List.foldl_cons, sG g r, List.map_cons, List.sum_cons]; omega
theorem yC {A : Type} (g : A → Nat) : ∀ (l : List A) (s : Nat), l.foldl (fun s a => max s (g a)) s = max s (mx (l.map g))
 | [], s => by simp [mx]
 | a :: r, s => by rw [List.foldl_cons, yC g r, List.map_cons, mx]; omega
theorem WX {A : Type} (g : A → Nat) : ∀ (l : List A) (a : A), a ∈ l → g a ≤ (l.map g).sum
 | b :: r, a, h => by
  rw [List.map_cons, List.sum_cons]
  rcases List.mem_cons.1 h with rfl | h
  ·omega
  ·have := WX g r a h; omega
theorem ai6 : ∀ (N n : Nat) (v : Value), Fit N v → N ≤ n → vN N v ≤ 4611686018427387904 → P79 n v = some ((vN N v : Nat) : Int) := by
 intro N
 induction N with
 | zero => intro n v h; exact absurd h (by obtain ⟨_, _, _, ⟨_, _⟩, ⟨_, _⟩, _, _, _⟩ := v; simp [Fit])
 | succ N ih =>
  intro n v h hn hz
  obtain ⟨n', rfl⟩ : ∃ n', n = n' + 1 := ⟨n - 1, by omega⟩
  obtain ⟨k, nn, s, ⟨l, x⟩, ⟨f, y⟩, e, c, b⟩ := v
  obtain ⟨⟨p1, p2⟩, p3, p4⟩ := h
  have hl1 := dX (by omega) p1
  have hl3 := dX (by omega) p3
  simp only [vN] at hz ⊢
  rw [P79.eq_2]
  unfold aho
  dsimp only
  have w1 := DR (f := JH n' (P79 n') l) l (fun s v => s + vN N v) 4611686018427387904 (fun s a => Nat.le_add_right _ _) (fun k hk s hs => by
   unfold JH
   dsimp only
   rw [gU hk, fO l k hk]
   have hv := ih n' l[k] (p2 _ (List.getElem_mem hk)) (by omega) (by omega)
   generalize l[k] = v at hv hs
   obtain ⟨_, _, _, ⟨_, _⟩, ⟨_, _⟩, _, _, _⟩ := v
   simp only [cond_true, Option.bind_some, hv, iF (show k < 9223372036854775807 by omega)]
   rw [nA (by omega) (by omega)]
   rfl) (fun s => by
   unfold JH
   dsimp only
   rw [fU]; rfl) 1 (by rw [sG]; omega)
  rw [show ((1 : Nat) : Int) = 1 from rfl] at w1
  rw [w1, sG]
  dsimp only [Option.bind_some]
  have w2 := DR (f := JI n' (P79 n') f) f (fun s q => s + vN N (fZ q)) 4611686018427387904 (fun s a => Nat.le_add_right _ _) (fun k hk s hs => by
   unfold JI
   dsimp only
   rw [gU hk, fO f k hk]
   have hv := ih n' (fZ f[k]) (by
    have := p4 _ (List.getElem_mem hk)
    generalize f[k] = z at this
    obtain ⟨m, z⟩ := z
    exact this) (by omega) (by omega)
   generalize f[k] = z at hv hs
   obtain ⟨m, ⟨_, _, _, ⟨_, _⟩, ⟨_, _⟩, _, _, _⟩⟩ := z
   simp only [fZ] at hv hs ⊢
   simp only [cond_true, Option.bind_some, hv, iF (show k < 9223372036854775807 by omega)]
   rw [nA (by omega) (by omega)]
   rfl) (fun s => by
   unfold JI
   dsimp only
   rw [fU]; rfl) (1 + (l.map (vN N)).sum) (by rw [sG (fun q => vN N (fZ q))]; omega)
  rw [w2, sG (fun q => vN N (fZ q))]
  dsimp only [Option.bind_some]
  congr 2
  omega
theorem arN : ∀ (N : Nat) (v : Value), Bg N v ≤ vN N v := by
 intro N
 induction N with
 | zero => intro v; simp [Bg]
 | succ N ih =>
  intro v
  obtain ⟨k, nn, s, ⟨l, x⟩, ⟨f, y⟩, e, c, b⟩ := v
  simp only [Bg, vN]
  have h1 : mx (l.map (Bg N)) ≤ (l.map (vN N)).sum := afT.2 fun a ha => by
   obtain ⟨v, hv, rfl⟩ := List.mem_map.1 ha
   exact Nat.le_trans (ih v) (WX _ _ _ hv)
  have h2 : mx (f.map fun q => Bg N (fZ q)) ≤ (f.map fun q => vN N (fZ q)).sum := afT.2 fun a ha => by
   obtain ⟨v, hv, rfl⟩ := List.mem_map.1 ha
   exact Nat.le_trans (ih _) (WX (fun q => vN N (fZ q)) _ _ hv)
  omega
theorem ai7 : ∀ (N n : Nat) (v : Value), Fit N v → N ≤ n → Bg N v ≤ 4611686018427387904 → P80 n v = some ((Bg N v : Nat) : Int) := by
 intro N
 induction N with
 | zero => intro n v h; exact absurd h (by obtain ⟨_, _, _, ⟨_, _⟩, ⟨_, _⟩, _, _, _⟩ := v; simp [Fit])
 | succ N ih =>
  intro n v h hn hz
  obtain ⟨n', rfl⟩ : ∃ n', n = n' + 1 := ⟨n - 1, by omega⟩
  obtain ⟨k, nn, s, ⟨l, x⟩, ⟨f, y⟩, e, c, b⟩ := v
  obtain ⟨⟨p1, p2⟩, p3, p4⟩ := h
  have hl1 := dX (by omega) p1
  have hl3 := dX (by omega) p3
  simp only [Bg] at hz ⊢
  have arO : ∀ (s t : Nat), (bif decide ((s : Int) ≤ (t : Int)) then some ((t : Nat) : Int) else some (s : Int)) = some ((max s t : Nat) : Int) := fun s t => by
   by_cases h : s ≤ t
   ·have : decide ((s : Int) ≤ (t : Int)) = true := by simp; omega
    rw [this, Nat.max_eq_right h]; rfl
   ·have : decide ((s : Int) ≤ (t : Int)) = false := by simp; omega
    rw [this, Nat.max_eq_left (by omega)]; rfl
  rw [P80.eq_2]
  unfold ahp
  dsimp only
  have w1 := DR (f := JJ n' (P80 n') l) l (fun s v => max s (Bg N v)) 4611686018427387904 (fun s a => Nat.le_max_left _ _) (fun k hk s hs => by
   unfold JJ
   dsimp only
   rw [gU hk, fO l k hk]
   have hv := ih n' l[k] (p2 _ (List.getElem_mem hk)) (by omega) (by omega)
   generalize l[k] = v at hv hs
   obtain ⟨_, _, _, ⟨_, _⟩, ⟨_, _⟩, _, _, _⟩ := v
   simp only [cond_true, Option.bind_some, hv, arO, iF (show k < 9223372036854775807 by omega)]) (fun s => by
   unfold JJ
   dsimp only
   rw [fU]; rfl) 0 (by rw [yC]; omega)
  rw [show ((0 : Nat) : Int) = 0 from rfl] at w1
  rw [w1, yC]
  dsimp only [Option.bind_some]
  have w2 := DR (f := JK n' (P80 n') f) f (fun s q => max s (Bg N (fZ q))) 4611686018427387904 (fun s a => Nat.le_max_left _ _) (fun k hk s hs => by
   unfold JK
   dsimp only
   rw [gU hk, fO f k hk]
   have hv := ih n' (fZ f[k]) (by
    have := p4 _ (List.getElem_mem hk)
    generalize f[k] = z at this
    obtain ⟨m, z⟩ := z
    exact this) (by omega) (by omega)
   generalize f[k] = z at hv hs
   obtain ⟨m, ⟨_, _, _, ⟨_, _⟩, ⟨_, _⟩, _, _, _⟩⟩ := z
   simp only [fZ] at hv hs ⊢
   simp only [cond_true, Option.bind_some, hv, arO, iF (show k < 9223372036854775807 by omega)]) (fun s => by
   unfold JK
   dsimp only
   rw [fU]; rfl) (max 0 (mx (l.map (Bg N)))) (by rw [yC (fun q => Bg N (fZ q))]; omega)
  rw [w2, yC (fun q => Bg N (fZ q))]
  dsimp only [Option.bind_some]
  rw [nA (by omega) (by omega), Nat.zero_max]
  rfl
theorem aat {N n : Nat} {v : Value} (h : Fit N v) (hd : Kd N v) (hn : 4 * N ≤ n) (hz : vN N v ≤ 4611686018427387904) : P54 n v = some (kV N v) := by
 have h1 := aas N n v h hd hn
 have h2 := ai6 N n v h (by omega) hz
 have h3 := ai7 N n v h (by omega) (Nat.le_trans (arN N v) hz)
 obtain ⟨k, nn, s, ⟨l, x⟩, ⟨f, y⟩, e, cc, b⟩ := v
 unfold P54 kV
 dsimp only
 rw [h1, h2, h3]
 have e1 : ∀ (a c : Nat), decide ((a : Int) ≤ (c : Int)) = decide (a ≤ c) := fun a c => by by_cases h : a ≤ c <;> simp [h] <;> omega
 have e2 := e1 (vN N (Value.mk k nn s ⟨l, x⟩ ⟨f, y⟩ e cc b)) 4096
 have e3 := e1 (Bg N (Value.mk k nn s ⟨l, x⟩ ⟨f, y⟩ e cc b)) 64
 simp only [Option.bind_some, fH]
 rw [show ((4096 : Nat) : Int) = 4096 from rfl] at e2
 rw [show ((64 : Nat) : Int) = 64 from rfl] at e3
 rw [e2, e3]
theorem Zp {A : Type} {l l' : List A} (p : A → Bool) (hl : l.length = l'.length) (h : ∀ (i : Nat) t a, l[i]? = some t → l'[i]? = some a → p t = p a) : l.all p = l'.all p := by
 rw [← nE l (WW l p) p fun k hk => jQ hk, ← nE l' (WW l' p) p fun k hk => jQ hk, hl]
 rw [Bool.eq_iff_iff]
 simp only [List.all_eq_true, List.mem_range]
 constructor <;> intro hh i hi
 ·have := hh i hi
  rw [jQ (by omega)] at this ⊢
  rw [← h i l[i] l'[i] (List.getElem?_eq_getElem (by omega)) (List.getElem?_eq_getElem hi)]; exact this
 ·have := hh i hi
  rw [jQ (by omega)] at this ⊢
  rw [h i l[i] l'[i] (List.getElem?_eq_getElem (by omega)) (List.getElem?_eq_getElem hi)]; exact this
theorem GY {A : Type} {l l' : List A} (p : A → Nat) (hl : l.length = l'.length) (h : ∀ (i : Nat) t a, l[i]? = some t → l'[i]? = some a → p t = p a) : l.map p = l'.map p := by
 refine List.ext_getElem (by simpa using hl) fun i h1 h2 => ?_
 simp only [List.getElem_map]
 simp only [List.length_map] at h1 h2
 exact h i _ _ (List.getElem?_eq_getElem h1) (List.getElem?_eq_getElem h2)
theorem Nw {N : Nat} {f f' : List Field} (hl : f.length = f'.length) (h : ∀ (i : Nat) t a, f[i]? = some t → f'[i]? = some a → yU (qC N) t a) : f.map vB = f'.map vB := by
 refine List.ext_getElem (by simpa using hl) fun i h1 h2 => ?_
 simp only [List.getElem_map]
 simp only [List.length_map] at h1 h2
 have := h i _ _ (List.getElem?_eq_getElem h1) (List.getElem?_eq_getElem h2)
 generalize f[i] = a at this
 generalize f'[i] = b at this
 obtain ⟨m, v⟩ := a
 obtain ⟨m', v'⟩ := b
 exact this.1
theorem sH {f f' : List Field} (h : f.map vB = f'.map vB) (i : Nat) : (f[i]?).map vB = (f'[i]?).map vB := by
 rw [← List.getElem?_map, ← List.getElem?_map, h]
theorem WY {f f' : List Field} (h : f.map vB = f'.map vB) : vJ f = vJ f' := by
 have hl : f.length = f'.length := by simpa using congrArg List.length h
 unfold vJ
 rw [hl]
 congr 1
 funext i
 unfold vC
 have h1 := sH h i
 cases i with
 | zero => cases h2 : f[0]? <;> cases h3 : f'[0]? <;> simp_all
 | succ j =>
  have h4 := sH h j
  cases h2 : f[j + 1]? <;> cases h3 : f'[j + 1]? <;> cases h5 : f[j]? <;> cases h6 : f'[j]? <;> simp_all
theorem Uo {f f' : List Field} (h : f.map vB = f'.map vB) (ks : List ByteArray) : jP f ks = jP f' ks := by
 have hl : f.length = f'.length := by simpa using congrArg List.length h
 unfold jP ln
 rw [hl]
 congr 1
 congr 1
 funext i
 unfold nG
 have h1 := sH h i
 cases h2 : f[i]? <;> cases h3 : f'[i]? <;> cases ks[i]? <;> simp_all
theorem apc {N : Nat} {t v : Value} (h : qC N t v) : alB t = alB v := by
 cases N with
 | zero => exact absurd h (by obtain ⟨_, _, _, ⟨_, _⟩, ⟨_, _⟩, _, _, _⟩ := t; simp [qC])
 | succ N =>
 obtain ⟨k, n, s, ⟨l, x⟩, ⟨f, y⟩, e, c, b⟩ := v
 obtain ⟨k', n', s', ⟨l', x'⟩, ⟨f', y'⟩, e', c', b'⟩ := t
 obtain ⟨rfl, rfl, rfl, rfl, rfl, rfl, ⟨h1, h2⟩, h3, h4⟩ := h
 have hn := Nw h3 h4
 have hl : ln l' = ln l := by simp [ln, h1]
 have hf : ln f' = ln f := by simp [ln, h3]
 simp only [alB, elB, plB, ownB, WY hn, Uo hn, hl, hf]
theorem aau : ∀ (N : Nat) (t v : Value), qC N t v → rP N t = rP N v ∧ vN N t = vN N v ∧ Bg N t = Bg N v := by
 intro N
 induction N with
 | zero => intro t v h; exact absurd h (by obtain ⟨_, _, _, ⟨_, _⟩, ⟨_, _⟩, _, _, _⟩ := t; simp [qC])
 | succ N ih =>
  intro t v h
  have ha := apc h
  obtain ⟨k, n, s, ⟨l, x⟩, ⟨f, y⟩, e, c, b⟩ := v
  obtain ⟨k', n', s', ⟨l', x'⟩, ⟨f', y'⟩, e', c', b'⟩ := t
  obtain ⟨_, _, _, _, _, _, ⟨h1, h2⟩, h3, h4⟩ := h
  have hf : ∀ (i : Nat) t a, f'[i]? = some t → f[i]? = some a → qC N (fZ t) (fZ a) := fun i t a g1 g2 => by
   have := h4 i t a g1 g2
   obtain ⟨m, u⟩ := t
   obtain ⟨m', u'⟩ := a
   exact this.2
  simp only [rP, vN, Bg]
  rw [ha, Zp (rP N) h1 fun i t a g1 g2 => (ih _ _ (h2 i t a g1 g2)).1, Zp (fun q => rP N (fZ q)) h3 fun i t a g1 g2 => (ih _ _ (hf i t a g1 g2)).1,
   GY (vN N) h1 fun i t a g1 g2 => (ih _ _ (h2 i t a g1 g2)).2.1, GY (fun q => vN N (fZ q)) h3 fun i t a g1 g2 => (ih _ _ (hf i t a g1 g2)).2.1,
   GY (Bg N) h1 fun i t a g1 g2 => (ih _ _ (h2 i t a g1 g2)).2.2, GY (fun q => Bg N (fZ q)) h3 fun i t a g1 g2 => (ih _ _ (hf i t a g1 g2)).2.2]
  exact ⟨rfl, rfl, rfl⟩
theorem GZ {N : Nat} {t v : Value} (h : qC N t v) : kV N t = kV N v := by
 obtain ⟨h1, h2, h3⟩ := aau N t v h
 unfold kV
 rw [h1, h2, h3]
end Go.Proofs.YtipkggkbldgmjaaGreat
