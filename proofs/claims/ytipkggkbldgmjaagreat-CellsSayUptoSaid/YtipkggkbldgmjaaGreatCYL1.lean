/- Values on plain data: several laws, one behind the other. -/
import Derived.Test.YtipkggkbldgmjaaGreatCYO
import Derived.Test.YtipkggkbldgmjaaGreatCYV
import Derived.Test.YtipkggkbldgmjaaGreatCYL0
namespace Go.Proofs.YtipkggkbldgmjaaGreat
open Go Go.X
set_option linter.unusedVariables false
set_option linter.unusedSimpArgs false
set_option maxRecDepth 100000
def KT (v : Value) : Prop := WT tab 29 (fK v)
def OKF (f : Field) : Prop := WT tab 67 (iJ f)
theorem sF {k n : Int} {s key : ByteArray} {l : List Value} {f : List Field} {x : Option (List Value)} {fx : Option (List Field)} {e : Int} {hk : Bool} (h : KT (Value.mk k n s ⟨l, x⟩ ⟨f, fx⟩ e key hk)) :
  l.length * 112 ≤ reachBytes ∧ (∀ v ∈ l, KT v) ∧ f.length * 128 ≤ reachBytes ∧ (∀ q ∈ f, OKF q) := by
 obtain ⟨a0, _, e0, h0, a1, _, e1, h1, a2, _, e2, h2, a3, _, e3, h3, a4, _, e4, h4, _⟩ := h.yL KH rfl
 obtain ⟨_, rfl, _⟩ := h0.qI KI
 obtain ⟨_, rfl, _⟩ := h1.qI ty_2
 obtain ⟨_, rfl, _⟩ := h2.Cj K9
 obtain ⟨r3, q3, rfl, l3, m3, _⟩ := h3.fG FQ
 obtain ⟨r4, q4, rfl, l4, m4, _⟩ := h4.fG DJ
 subst e4; subst e3; subst e2; subst e1
 simp only [fK, iy, gK, List.cons_append, List.nil_append, List.cons.injEq, D.sl.injEq] at e0
 obtain ⟨_, _, _, ⟨rfl, _⟩, ⟨rfl, _⟩, _⟩ := e0
 rw [ig] at l3 m3
 rw [iq] at l4 m4
 simp only [List.length_map, List.mem_map, forall_exists_index, and_imp, forall_apply_eq_imp_iff₂, Nat.add_mul] at l3 m3 l4 m4
 exact ⟨by omega, m3, by omega, m4⟩
theorem mF {n : ByteArray} {v : Value} (h : OKF (Field.mk n v)) : KT v := by
 obtain ⟨a0, _, e0, h0, a1, _, e1, h1, e2⟩ := h.yL Nl rfl
 obtain ⟨_, rfl, _⟩ := h0.Cj K9
 subst e2; subst e1
 simp only [iJ, List.cons_append, List.nil_append, List.cons.injEq, List.append_nil] at e0
 obtain ⟨_, rfl⟩ := e0
 exact h1
theorem Rt {x : Value} {k n : Int} {s key : ByteArray} {l : List Value} {lx : Option (List Value)} {f : Sl Field} {e : Int} {hk : Bool} (h : x ∈ l) : SizeOf.sizeOf x < SizeOf.sizeOf (Value.mk k n s ⟨l, lx⟩ f e key hk) := by
 have := List.sizeOf_lt_of_mem h
 simp only [Value.mk.sizeOf_spec, Sl.mk.sizeOf_spec]
 omega
theorem Ru {q : Field} {k n : Int} {s key : ByteArray} {f : List Field} {fx : Option (List Field)} {l : Sl Value} {e : Int} {hk : Bool} (h : q ∈ f) : SizeOf.sizeOf q < SizeOf.sizeOf (Value.mk k n s l ⟨f, fx⟩ e key hk) := by
 have := List.sizeOf_lt_of_mem h
 simp only [Value.mk.sizeOf_spec, Sl.mk.sizeOf_spec]
 omega
theorem Rv {m : ByteArray} {v : Value} : SizeOf.sizeOf v < SizeOf.sizeOf (Field.mk m v) := by
 simp only [Field.mk.sizeOf_spec]
 omega
def yU (p : Value → Value → Prop) : Field → Field → Prop
 | ⟨m, v⟩, ⟨m', v'⟩ => m = m' ∧ p v v'
def qC : Nat → Value → Value → Prop
 | 0, _, _ => False
 | N + 1, .mk k n s ⟨l, _⟩ ⟨f, _⟩ e c b, .mk k' n' s' ⟨l', _⟩ ⟨f', _⟩ e' c' b' => k = k' ∧ n = n' ∧ s = s' ∧ e = e' ∧ c = c' ∧ b = b' ∧
   (l.length = l'.length ∧ ∀ (i : Nat) t a, l[i]? = some t → l'[i]? = some a → qC N t a) ∧ f.length = f'.length ∧ ∀ (i : Nat) t a, f[i]? = some t → f'[i]? = some a → yU (qC N) t a
theorem qC.refl : ∀ (N : Nat) (v : Value), SizeOf.sizeOf v ≤ N → qC N v v := by
 intro N
 induction N with
 | zero =>
  intro v h
  obtain ⟨_, _, _, ⟨_, _⟩, ⟨_, _⟩, _, _, _⟩ := v
  simp only [Value.mk.sizeOf_spec] at h
  omega
 | succ N ih =>
  intro v h
  obtain ⟨k, n, s, ⟨l, x⟩, ⟨f, y⟩, e, c, b⟩ := v
  refine ⟨rfl, rfl, rfl, rfl, rfl, rfl, ⟨rfl, fun i t a h1 h2 => ?_⟩, rfl, fun i t a h1 h2 => ?_⟩
  ·rw [h1] at h2; cases h2
   have := Rt (k := k) (n := n) (s := s) (key := c) (lx := x) (f := ⟨f, y⟩) (e := e) (hk := b) (List.mem_of_getElem? h1)
   exact ih t (by omega)
  ·rw [h1] at h2; cases h2
   have := Ru (k := k) (n := n) (s := s) (key := c) (l := ⟨l, x⟩) (fx := y) (e := e) (hk := b) (List.mem_of_getElem? h1)
   obtain ⟨m, v⟩ := t
   have := Rv (m := m) (v := v)
   exact ⟨rfl, ih v (by omega)⟩
theorem afL (fu : Nat) (p : Value → Value → Option Bool) (a b : List Value) : QD fu p a b = jS a b p := by
 funext i
 unfold QD jS
 dsimp only
 cases decide (i < ln a)
 ·rfl
 ·cases idx a i with
  | none => rfl
  | some x =>
   obtain ⟨_, _, _, ⟨_, _⟩, ⟨_, _⟩, _, _, _⟩ := x
   cases idx b i with
   | none => rfl
   | some y =>
    obtain ⟨_, _, _, ⟨_, _⟩, ⟨_, _⟩, _, _, _⟩ := y
    rfl
theorem aoN (fu : Nat) (p : Field → Field → Option Bool) (a b : List Field) : QE fu p a b = jS a b p := by
 funext i
 unfold QE jS
 dsimp only
 cases decide (i < ln a)
 ·rfl
 ·cases idx a i with
  | none => rfl
  | some x =>
   obtain ⟨_, ⟨_, _, _, ⟨_, _⟩, ⟨_, _⟩, _, _, _⟩⟩ := x
   cases idx b i with
   | none => rfl
   | some y =>
    obtain ⟨_, ⟨_, _, _, ⟨_, _⟩, ⟨_, _⟩, _, _, _⟩⟩ := y
    rfl
def fld (p : Value → Value → Option Bool) : Field → Field → Option Bool
 | ⟨n, v⟩, ⟨m, w⟩ => bif seq n m then p v w else some false
theorem aal (fu : Nat) (a b : Field) : P73 (fu + 1) a b = fld (X0 fu) a b := by
 obtain ⟨n, ⟨_, _, _, ⟨_, _⟩, ⟨_, _⟩, _, _, _⟩⟩ := a
 obtain ⟨m, ⟨_, _, _, ⟨_, _⟩, ⟨_, _⟩, _, _, _⟩⟩ := b
 rw [P73.eq_2]
 simp only [aha, Xp, fld]
theorem aiU (fu : Nat) (p : Value → Value → Option Bool) (a b : List Value) : VF fu p a b = jS a b p := afL fu p a b
theorem aiV (fu : Nat) (p : Value → Value → Option Bool) (a b : List Field) : QF fu p a b = jS a b (fld p) := by
 funext i
 unfold QF jS
 dsimp only
 cases hd : decide (i < ln a)
 ·rfl
 ·cases h1 : idx a i with
  | none => rfl
  | some x =>
   obtain ⟨n, ⟨_, _, _, ⟨_, _⟩, ⟨_, _⟩, _, _, _⟩⟩ := x
   cases h2 : idx b i with
   | none => rfl
   | some y =>
    obtain ⟨m, ⟨_, _, _, ⟨_, _⟩, ⟨_, _⟩, _, _, _⟩⟩ := y
    simp only [Option.bind_some, cond_true, fld, Bool.not_not]
    cases seq n m with
    | false => rfl
    | true =>
     simp only [cond_true]
     cases p _ _ with
     | none => rfl
     | some r => cases r <;> rfl
theorem aam {N n m : Nat} (ih : ∀ (n m : Nat) (a b ta tb : Value), qC N ta a → qC N tb b → 4 * N ≤ n → 4 * N ≤ m → KT a → ∃ r, X0 n ta tb = some r ∧ VG m a b = some r)
  {f g tf tg : List Field} {fx gx tfx tgx : Option (List Field)} (a1 : tf.length = f.length) (a2 : ∀ (i : Nat) t a, tf[i]? = some t → f[i]? = some a → yU (qC N) t a)
  (b1 : tg.length = g.length) (b2 : ∀ (i : Nat) t a, tg[i]? = some t → g[i]? = some a → yU (qC N) t a) (hn : 4 * N ≤ n) (hm : 4 * N ≤ m) (o1 : f.length * 128 ≤ reachBytes) (o2 : ∀ q ∈ f, OKF q) :
  ∃ r, P45 (n + 3) ⟨tf, tfx⟩ ⟨tg, tgx⟩ = some r ∧ P46 (m + 2) ⟨f, fx⟩ ⟨g, gx⟩ = some r := by
 have hlen := dX (by omega) o1
 rw [P45.eq_2, P46.eq_2]
 simp only [Xp, ag9, P72, ahc, aoN, aiV]
 by_cases hl : f.length = g.length
 ·have e1 : (!(ln f == ln g)) = false := by simp [ln, hl]
  have e2 : (!(ln tf == ln tg)) = false := by simp [ln, a1, b1, hl]
  simp only [e1, e2, cond_false]
  obtain ⟨r, w1, w2⟩ := aj9 (a := tf) (b := tg) (a' := f) (b' := g) (p := P73 (n + 2)) (p' := fld (VG (m + 1))) (n := f.length) a1 (by omega) rfl hl.symm (by omega) (fun i x y x' y' hx hy hx' hy' => by
   rw [aal]
   obtain ⟨q1, r1⟩ := x
   obtain ⟨q2, r2⟩ := y
   obtain ⟨q3, r3⟩ := x'
   obtain ⟨q4, r4⟩ := y'
   obtain ⟨rfl, h1⟩ := a2 i _ _ hx hx'
   obtain ⟨rfl, h2⟩ := b2 i _ _ hy hy'
   obtain ⟨r, g1, g2⟩ := ih (n + 1) (m + 1) r3 r4 r1 r2 h1 h2 (by omega) (by omega) (mF (o2 _ (List.mem_of_getElem? hx')))
   simp only [fld, g1, g2]
   cases seq q1 q2 <;> exact ⟨_, rfl, rfl⟩)
  refine ⟨r, ?_, ?_⟩
  ·rw [w1.use (t := some true) (f := some false) (fun _ => rfl) (fun _ => rfl)]; cases r <;> rfl
  ·rw [w2.use (t := some true) (f := some false) (fun _ => rfl) (fun _ => rfl)]; cases r <;> rfl
 ·have e1 : (!(ln f == ln g)) = true := by simp [ln]; omega
  have e2 : (!(ln tf == ln tg)) = true := by simp [ln]; omega
  simp only [e1, e2, cond_true]
  exact ⟨false, rfl, rfl⟩
theorem Uj : ∀ (N n m : Nat) (a b ta tb : Value), qC N ta a → qC N tb b → 4 * N ≤ n → 4 * N ≤ m → KT a → ∃ r, X0 n ta tb = some r ∧ VG m a b = some r := by
 intro N
 induction N with
 | zero => intro n m a b ta tb h; exact absurd h (by obtain ⟨_, _, _, ⟨_, _⟩, ⟨_, _⟩, _, _, _⟩ := ta; simp [qC])
 | succ N ih =>
  intro n m a b ta tb ha hb hn hm oa
  obtain ⟨n', rfl⟩ : ∃ n', n = n' + 4 := ⟨n - 4, by omega⟩
  obtain ⟨m', rfl⟩ : ∃ m', m = m' + 4 := ⟨m - 4, by omega⟩
  obtain ⟨k1, n1, s1, ⟨l1, x1⟩, ⟨f1, y1⟩, e1, c1, b1⟩ := a
  obtain ⟨k2, n2, s2, ⟨l2, x2⟩, ⟨f2, y2⟩, e2, c2, b2⟩ := b
  obtain ⟨k3, n3, s3, ⟨l3, x3⟩, ⟨f3, y3⟩, e3, c3, b3⟩ := ta
  obtain ⟨k4, n4, s4, ⟨l4, x4⟩, ⟨f4, y4⟩, e4, c4, b4⟩ := tb
  obtain ⟨rfl, rfl, rfl, rfl, rfl, rfl, ⟨u1, u2⟩, u3, u4⟩ := ha
  obtain ⟨rfl, rfl, rfl, rfl, rfl, rfl, ⟨v1, v2⟩, v3, v4⟩ := hb
  obtain ⟨p1, p2, p3, p4⟩ := sF oa
  have hlen := dX (by omega) p1
  rw [X0.eq_2, VG.eq_2]
  simp only [ag8, ahb, Bool.not_not]
  cases k3 == k4 with
  | false => exact ⟨_, rfl, rfl⟩
  | true =>
  cases n3 == n4 with
  | false => exact ⟨_, rfl, rfl⟩
  | true =>
  cases seq s3 s4 with
  | false => exact ⟨_, rfl, rfl⟩
  | true =>
  cases e3 == e4 with
  | false => exact ⟨_, rfl, rfl⟩
  | true =>
  cases seq c3 c4 with
  | false => exact ⟨_, rfl, rfl⟩
  | true =>
  cases b3 == b4 with
  | false => exact ⟨_, rfl, rfl⟩
  | true =>
  simp only [cond_true, P44, afL, aiU, Option.bind_some]
  by_cases hl : l1.length = l2.length
  ·have h0 : (!(ln l1 == ln l2)) = false := by simp [ln, hl]
   have h0' : (!(ln l3 == ln l4)) = false := by simp [ln, u1, v1, hl]
   simp only [h0, h0', cond_false]
   obtain ⟨r, w1, w2⟩ := aj9 (a := l3) (b := l4) (a' := l1) (b' := l2) (p := X0 (n' + 3)) (p' := VG (m' + 3)) (n := l1.length) u1 (by omega) rfl hl.symm (by omega) (fun i x y x' y' hx hy hx' hy' =>
    ih (n' + 3) (m' + 3) x' y' x y (u2 i _ _ hx hx') (v2 i _ _ hy hy') (by omega) (by omega) (p2 _ (List.mem_of_getElem? hx')))
   obtain ⟨r2, z1, z2⟩ := aam (fx := y1) (gx := y2) (tfx := y3) (tgx := y4) (n := n') (m := m' + 1) ih u3 u4 v3 v4 (by omega) (by omega) p3 p4
   refine ⟨bif r then r2 else false, ?_, ?_⟩
   ·rw [w1.use (t := some true) (f := some false) (fun _ => rfl) (fun _ => rfl)]
    cases r
    ·rfl
    ·simp only [cond_true, Option.bind_some, z1]
   ·rw [w2.use (t := some r2) (f := some false) (fun _ => by dsimp only; rw [z2]; rfl) (fun _ => rfl)]; cases r <;> rfl
  ·have h0 : (!(ln l1 == ln l2)) = true := by simp [ln]; omega
   have h0' : (!(ln l3 == ln l4)) = true := by simp [ln]; omega
   simp only [h0, h0', cond_true]
   exact ⟨_, rfl, rfl⟩
def aoO (p : Value → Prop) : Field → Prop
 | ⟨_, v⟩ => p v
def Fit : Nat → Value → Prop
 | 0, _ => False
 | N + 1, .mk _ _ _ ⟨l, _⟩ ⟨f, _⟩ _ _ _ => (l.length * 112 ≤ reachBytes ∧ ∀ v ∈ l, Fit N v) ∧ f.length * 128 ≤ reachBytes ∧ ∀ q ∈ f, aoO (Fit N) q
theorem aoP : ∀ (N : Nat) (v : Value), SizeOf.sizeOf v ≤ N → KT v → Fit N v := by
 intro N
 induction N with
 | zero =>
  intro v h
  obtain ⟨_, _, _, ⟨_, _⟩, ⟨_, _⟩, _, _, _⟩ := v
  simp only [Value.mk.sizeOf_spec] at h
  omega
 | succ N ih =>
  intro v h ov
  obtain ⟨k, n, s, ⟨l, x⟩, ⟨f, y⟩, e, c, b⟩ := v
  obtain ⟨p1, p2, p3, p4⟩ := sF ov
  refine ⟨⟨p1, fun v hv => ?_⟩, p3, fun q hq => ?_⟩
  ·have := Rt (k := k) (n := n) (s := s) (key := c) (lx := x) (f := ⟨f, y⟩) (e := e) (hk := b) hv
   exact ih v (by omega) (p2 v hv)
  ·have := Ru (k := k) (n := n) (s := s) (key := c) (l := ⟨l, x⟩) (fx := y) (e := e) (hk := b) hq
   obtain ⟨m, v⟩ := q
   have := Rv (m := m) (v := v)
   exact ih v (by omega) (mF (p4 _ hq))
theorem GX : ∀ (N : Nat) (t v : Value), qC N t v → Fit N v → Fit N t := by
 intro N
 induction N with
 | zero => intro t v h; exact absurd h (by obtain ⟨_, _, _, ⟨_, _⟩, ⟨_, _⟩, _, _, _⟩ := t; simp [qC])
 | succ N ih =>
  intro t v h hf
  obtain ⟨k, n, s, ⟨l, x⟩, ⟨f, y⟩, e, c, b⟩ := v
  obtain ⟨k', n', s', ⟨l', x'⟩, ⟨f', y'⟩, e', c', b'⟩ := t
  obtain ⟨_, _, _, _, _, _, ⟨h1, h2⟩, h3, h4⟩ := h
  obtain ⟨⟨p1, p2⟩, p3, p4⟩ := hf
  refine ⟨⟨by rw [h1]; exact p1, fun u hu => ?_⟩, by rw [h3]; exact p3, fun q hq => ?_⟩
  ·obtain ⟨i, hi⟩ := List.mem_iff_getElem?.1 hu
   have hl : i < l.length := by rw [← h1]; exact (List.getElem?_eq_some_iff.1 hi).1
   exact ih _ _ (h2 i u l[i] hi (List.getElem?_eq_getElem hl)) (p2 _ (List.getElem_mem hl))
  ·obtain ⟨i, hi⟩ := List.mem_iff_getElem?.1 hq
   have hl : i < f.length := by rw [← h3]; exact (List.getElem?_eq_some_iff.1 hi).1
   have h5 := h4 i q f[i] hi (List.getElem?_eq_getElem hl)
   have h6 := p4 _ (List.getElem_mem hl)
   obtain ⟨m, u⟩ := q
   generalize f[i] = q' at h5 h6
   obtain ⟨m', v⟩ := q'
   exact ih _ _ h5.2 h6
theorem qC.symm : ∀ (N : Nat) (t v : Value), qC N t v → qC N v t := by
 intro N
 induction N with
 | zero => intro t v h; exact absurd h (by obtain ⟨_, _, _, ⟨_, _⟩, ⟨_, _⟩, _, _, _⟩ := t; simp [qC])
 | succ N ih =>
  intro t v h
  obtain ⟨k, n, s, ⟨l, x⟩, ⟨f, y⟩, e, c, b⟩ := v
  obtain ⟨k', n', s', ⟨l', x'⟩, ⟨f', y'⟩, e', c', b'⟩ := t
  obtain ⟨h1, h2, h3, h4, h5, h6, ⟨h7, h8⟩, h9, h10⟩ := h
  refine ⟨h1.symm, h2.symm, h3.symm, h4.symm, h5.symm, h6.symm, ⟨h7.symm, fun i t a g1 g2 => ih _ _ (h8 i a t g2 g1)⟩, h9.symm, fun i t a g1 g2 => ?_⟩
  have := h10 i a t g2 g1
  obtain ⟨m, u⟩ := a
  obtain ⟨m', u'⟩ := t
  exact ⟨this.1.symm, ih _ _ this.2⟩
theorem qC.trans : ∀ (N : Nat) (a b c : Value), qC N a b → qC N b c → qC N a c := by
 intro N
 induction N with
 | zero => intro a b c h; exact absurd h (by obtain ⟨_, _, _, ⟨_, _⟩, ⟨_, _⟩, _, _, _⟩ := a; simp [qC])
 | succ N ih =>
  intro a b c h k
  obtain ⟨k1, n1, s1, ⟨l1, x1⟩, ⟨f1, y1⟩, e1, c1, b1⟩ := a
  obtain ⟨k2, n2, s2, ⟨l2, x2⟩, ⟨f2, y2⟩, e2, c2, b2⟩ := b
  obtain ⟨k3, n3, s3, ⟨l3, x3⟩, ⟨f3, y3⟩, e3, c3, b3⟩ := c
  obtain ⟨h1, h2, h3, h4, h5, h6, ⟨h7, h8⟩, h9, h10⟩ := h
  obtain ⟨g1, g2, g3, g4, g5, g6, ⟨g7, g8⟩, g9, g10⟩ := k
  refine ⟨h1.trans g1, h2.trans g2, h3.trans g3, h4.trans g4, h5.trans g5, h6.trans g6, ⟨h7.trans g7, fun i t a u1 u2 => ?_⟩, h9.trans g9, fun i t a u1 u2 => ?_⟩
  ·have hl : i < l2.length := by rw [← h7]; exact (List.getElem?_eq_some_iff.1 u1).1
   exact ih _ _ _ (h8 i t l2[i] u1 (List.getElem?_eq_getElem hl)) (g8 i l2[i] a (List.getElem?_eq_getElem hl) u2)
  ·have hl : i < f2.length := by rw [← h9]; exact (List.getElem?_eq_some_iff.1 u1).1
   have w1 := h10 i t f2[i] u1 (List.getElem?_eq_getElem hl)
   have w2 := g10 i f2[i] a (List.getElem?_eq_getElem hl) u2
   generalize f2[i] = q at w1 w2
   obtain ⟨m1, v1⟩ := t
   obtain ⟨m2, v2⟩ := q
   obtain ⟨m3, v3⟩ := a
   exact ⟨w1.1.trans w2.1, ih _ _ _ w1.2 w2.2⟩
theorem aan (fu : Nat) (l : List Value) (x : Option (List Value)) : P67 fu ⟨l, x⟩ = Rs 112 l := rfl
theorem aao (fu : Nat) (l : List Field) (x : Option (List Field)) : P69 fu ⟨l, x⟩ = Rs 128 l := rfl
theorem afM (fu : Nat) (l : List Value) (x : Option (List Value)) : P68 fu ⟨l, x⟩ = Y8 l := rfl
theorem afN (fu : Nat) (l : List Field) (x : Option (List Field)) : P70 fu ⟨l, x⟩ = Y8 l := rfl
theorem aoQ (fu : Nat) (p : Value → Option Value) (r : List Value) : Pn fu p r = FR p r := by
 funext q
 obtain ⟨o, i⟩ := q
 unfold Pn FR
 dsimp only
 cases decide (i < ln r)
 ·rfl
 ·cases idx o i with
  | none => rfl
  | some x =>
   obtain ⟨_, _, _, ⟨_, _⟩, ⟨_, _⟩, _, _, _⟩ := x
   simp only [cond_true, Option.bind_some]
   cases p _ with
   | none => rfl
   | some t => obtain ⟨_, _, _, ⟨_, _⟩, ⟨_, _⟩, _, _, _⟩ := t; rfl
def inF (p : Value → Option Value) : Field → Option Field
 | ⟨m, v⟩ => (p v).bind fun t => some ⟨m, t⟩
theorem aoR (fu : Nat) (p : Value → Option Value) (r : List Field) : Po fu p r = FR (inF p) r := by
 funext q
 obtain ⟨o, i⟩ := q
 unfold Po FR
 dsimp only
 cases decide (i < ln r)
 ·rfl
 ·cases idx o i with
  | none => rfl
  | some x =>
   obtain ⟨m, ⟨_, _, _, ⟨_, _⟩, ⟨_, _⟩, _, _, _⟩⟩ := x
   simp only [cond_true, Option.bind_some, inF]
   cases p _ with
   | none => rfl
   | some t => obtain ⟨_, _, _, ⟨_, _⟩, ⟨_, _⟩, _, _, _⟩ := t; rfl
theorem arJ {N n : Nat} {l : List Value} {x : Option (List Value)} (h1 : l.length * 112 ≤ reachBytes) (h : ∀ v ∈ l, ∃ t, P18 n v = some t ∧ qC N t v) :
  ∃ o, P39 (n + 1) ⟨l, x⟩ = some ⟨o, some []⟩ ∧ o.length = l.length ∧ ∀ (i : Nat) t a, o[i]? = some t → l[i]? = some a → qC N t a := by
 obtain ⟨o, w1, w2, w3⟩ := map_ok (h := P18 n) (r := l) (qC N) (dX (by omega) h1) h
 refine ⟨o, ?_, w2, w3⟩
 rw [P39.eq_2]
 unfold agX
 dsimp only
 rw [aan, Ui (pz := 112) (k := 112) rfl h1]
 dsimp only [Option.bind_some]
 rw [aoQ, w1]
 dsimp only [Option.bind_some]
 rw [afM, Y9]
 rfl
theorem arK {N n : Nat} {l : List Field} {x : Option (List Field)} (h1 : l.length * 128 ≤ reachBytes) (h : ∀ q ∈ l, aoO (fun v => ∃ t, P18 n v = some t ∧ qC N t v) q) :
  ∃ o, P40 (n + 1) ⟨l, x⟩ = some ⟨o, some []⟩ ∧ o.length = l.length ∧ ∀ (i : Nat) t a, o[i]? = some t → l[i]? = some a → yU (qC N) t a := by
 obtain ⟨o, w1, w2, w3⟩ := map_ok (h := inF (P18 n)) (r := l) (yU (qC N)) (dX (by omega) h1) (fun q hq => by
  obtain ⟨m, v⟩ := q
  obtain ⟨t, h2, h3⟩ := h _ hq
  exact ⟨⟨m, t⟩, by simp only [inF, h2, Option.bind_some], rfl, h3⟩)
 refine ⟨o, ?_, w2, w3⟩
 rw [P40.eq_2]
 unfold agY
 dsimp only
 rw [aao, Ui (pz := 128) (k := 128) rfl h1]
 dsimp only [Option.bind_some]
 rw [aoR, w1]
 dsimp only [Option.bind_some]
 rw [afN, Y9]
 rfl
theorem ato : ∀ (N n : Nat) (v : Value), Fit N v → 2 * N ≤ n → ∃ t, P18 n v = some t ∧ qC N t v := by
 intro N
 induction N with
 | zero => intro n v h; exact absurd h (by obtain ⟨_, _, _, ⟨_, _⟩, ⟨_, _⟩, _, _, _⟩ := v; simp [Fit])
 | succ N ih =>
  intro n v h hn
  obtain ⟨n', rfl⟩ : ∃ n', n = n' + 2 := ⟨n - 2, by omega⟩
  obtain ⟨k, nn, s, ⟨l, x⟩, ⟨f, y⟩, e, c, b⟩ := v
  obtain ⟨⟨p1, p2⟩, p3, p4⟩ := h
  rw [P18.eq_2]
  unfold agW
  dsimp only
  obtain ⟨o, g1, g2, g3⟩ := arJ (N := N) (n := n') (x := x) p1 (fun v hv => ih n' v (p2 v hv) (by omega))
  obtain ⟨o2, g4, g5, g6⟩ := arK (N := N) (n := n') (x := y) p3 (fun q hq => by
   have := p4 q hq
   obtain ⟨m, v⟩ := q
   exact ih n' v this (by omega))
  rw [g1, g4]
  exact ⟨_, rfl, rfl, rfl, rfl, rfl, rfl, rfl, ⟨g2, g3⟩, g5, g6⟩
theorem aoS (fu : Nat) (p : Value → Value → Option Bool) (a b : List Value) : QU fu p a b = jS a b p := by
 funext i
 unfold QU jS
 dsimp only
 cases decide (i < ln a)
 ·rfl
 ·cases idx a i with
  | none => rfl
  | some x =>
   obtain ⟨_, _, _, ⟨_, _⟩, ⟨_, _⟩, _, _, _⟩ := x
   cases idx b i with
   | none => rfl
   | some y =>
    obtain ⟨_, _, _, ⟨_, _⟩, ⟨_, _⟩, _, _, _⟩ := y
    rfl
theorem aoT (fu : Nat) (p : Field → Field → Option Bool) (a b : List Field) : QV fu p a b = jS a b p := by
 funext i
 unfold QV jS
 dsimp only
 cases decide (i < ln a)
 ·rfl
 ·cases idx a i with
  | none => rfl
  | some x =>
   obtain ⟨_, ⟨_, _, _, ⟨_, _⟩, ⟨_, _⟩, _, _, _⟩⟩ := x
   cases idx b i with
   | none => rfl
   | some y =>
    obtain ⟨_, ⟨_, _, _, ⟨_, _⟩, ⟨_, _⟩, _, _, _⟩⟩ := y
    rfl
theorem Nu : ∀ (N n : Nat) (a b : Value), qC N a b → Fit N a → 3 * N ≤ n → P13 n a b = some true := by
 intro N
 induction N with
 | zero => intro n a b h; exact absurd h (by obtain ⟨_, _, _, ⟨_, _⟩, ⟨_, _⟩, _, _, _⟩ := a; simp [qC])
 | succ N ih =>
  intro n a b h hf hn
  obtain ⟨n', rfl⟩ : ∃ n', n = n' + 3 := ⟨n - 3, by omega⟩
  obtain ⟨k1, n1, s1, ⟨l1, x1⟩, ⟨f1, y1⟩, e1, c1, b1⟩ := a
  obtain ⟨k2, n2, s2, ⟨l2, x2⟩, ⟨f2, y2⟩, e2, c2, b2⟩ := b
  obtain ⟨rfl, rfl, rfl, rfl, rfl, rfl, ⟨u1, u2⟩, u3, u4⟩ := h
  obtain ⟨⟨p1, p2⟩, p3, p4⟩ := hf
  have hl1 := dX (by omega) p1
  have hl3 := dX (by omega) p3
  have e1 : (ln l1 == ln l2) = true := by simp [ln, u1]
  have e2 : (ln f1 == ln f2) = true := by simp [ln, u3]
  have hV : P28 (n' + 2) ⟨l1, x1⟩ ⟨l2, x2⟩ = some true := by
   rw [P28.eq_2]
   simp only [ahI, aoS, e1, Bool.not_true, cond_false]
   rw [(WV (a := l1) (b := l2) (p := P13 (n' + 1)) rfl u1.symm (by omega) (fun i x y hx hy => ih (n' + 1) x y (u2 i x y hx hy) (p2 _ (List.mem_of_getElem? hx)) (by omega))).use (t := some true) (f := some false) (fun _ => rfl) (fun _ => rfl)]
   rfl
  have hF : P29 (n' + 2) ⟨f1, y1⟩ ⟨f2, y2⟩ = some true := by
   rw [P29.eq_2]
   simp only [ahJ, aoT, e2, Bool.not_true, cond_false]
   rw [(WV (a := f1) (b := f2) (p := P59 (n' + 1)) rfl u3.symm (by omega) (fun i x y hx hy => by
    have h1 := u4 i x y hx hy
    have h2 := p4 x (List.mem_of_getElem? hx)
    obtain ⟨m, v⟩ := x
    obtain ⟨m', w⟩ := y
    obtain ⟨rfl, h1⟩ := h1
    have := ih n' v w h1 h2 (by omega)
    rw [P59.eq_2]
    unfold ahK
    obtain ⟨_, _, _, ⟨_, _⟩, ⟨_, _⟩, _, _, _⟩ := v
    obtain ⟨_, _, _, ⟨_, _⟩, ⟨_, _⟩, _, _, _⟩ := w
    dsimp only
    rw [gJ, this]
    rfl)).use (t := some true) (f := some false) (fun _ => rfl) (fun _ => rfl)]
   rfl
  rw [P13.eq_2]
  simp only [ahH, beq_self_eq_true, gJ, cond_true, hV, hF, Option.bind_some]
def kU : ByteArray := ⟨#[115, 112, 97, 114, 101]⟩
def rM : Value := Value.mk 0 0 kU (Sl.mk [] (some [])) (Sl.mk [] (some [])) 0 ByteArray.empty false
def qw : Field := Field.mk kU (Value.mk 0 0 ByteArray.empty (Sl.mk [] (some [])) (Sl.mk [] (some [])) 0 ByteArray.empty false)
def Tw : Nat → Value → Value → Prop
 | 0, _, _ => False
 | N + 1, .mk k n s ⟨l, x⟩ ⟨f, y⟩ e c b, .mk k' n' s' ⟨l', _⟩ ⟨f', _⟩ e' c' b' => k = k' ∧ n = n' ∧ s = s' ∧ e = e' ∧ c = c' ∧ b = b' ∧
   (x = some [rM] ∧ l.length = l'.length ∧ ∀ (i : Nat) t a, l[i]? = some t → l'[i]? = some a → Tw N t a) ∧
   y = some [qw] ∧ f.length = f'.length ∧ ∀ (i : Nat) t a, f[i]? = some t → f'[i]? = some a → yU (Tw N) t a
theorem Tw.ali : ∀ (N : Nat) (t v : Value), Tw N t v → qC N t v := by
 intro N
 induction N with
 | zero => intro t v h; exact absurd h (by obtain ⟨_, _, _, ⟨_, _⟩, ⟨_, _⟩, _, _, _⟩ := t; simp [Tw])
 | succ N ih =>
  intro t v h
  obtain ⟨k, n, s, ⟨l, x⟩, ⟨f, y⟩, e, c, b⟩ := v
  obtain ⟨k', n', s', ⟨l', x'⟩, ⟨f', y'⟩, e', c', b'⟩ := t
  obtain ⟨h1, h2, h3, h4, h5, h6, ⟨h7, h8, h9⟩, h10, h11, h12⟩ := h
  refine ⟨h1, h2, h3, h4, h5, h6, ⟨h8, fun i t a g1 g2 => ih _ _ (h9 i t a g1 g2)⟩, h11, fun i t a g1 g2 => ?_⟩
  have := h12 i t a g1 g2
  obtain ⟨m, v⟩ := t
  obtain ⟨m', v'⟩ := a
  exact ⟨this.1, ih _ _ this.2⟩
theorem aoU (fu : Nat) (p : Value → Option Value) (l : List Value) : OM fu p l = iW 112 p l := by
 funext q
 obtain ⟨o, i⟩ := q
 unfold OM iW
 dsimp only
 cases decide (i < ln l)
 ·rfl
 ·cases idx l i with
  | none => rfl
  | some x =>
   obtain ⟨_, _, _, ⟨_, _⟩, ⟨_, _⟩, _, _, _⟩ := x
   simp only [cond_true, Option.bind_some]
   cases p _ with
   | none => rfl
   | some t => obtain ⟨_, _, _, ⟨_, _⟩, ⟨_, _⟩, _, _, _⟩ := t; rfl
theorem aoV (fu : Nat) (p : Field → Option Field) (l : List Field) : OP fu p l = iW 128 p l := by
 funext q
 obtain ⟨o, i⟩ := q
 unfold OP iW
 dsimp only
 cases decide (i < ln l)
 ·rfl
 ·cases idx l i with
  | none => rfl
  | some x =>
   obtain ⟨_, ⟨_, _, _, ⟨_, _⟩, ⟨_, _⟩, _, _, _⟩⟩ := x
   simp only [cond_true, Option.bind_some]
   cases p _ with
   | none => rfl
   | some t => obtain ⟨_, ⟨_, _, _, ⟨_, _⟩, ⟨_, _⟩, _, _, _⟩⟩ := t; rfl
theorem Za (fu : Nat) (l : List Value) (x : Option (List Value)) : P35 (fu + 1) ⟨l, x⟩ = DL 112 rM (iW 112 (Z4 fu) l) l := by
 rw [P35.eq_2]
 unfold agR
 dsimp only
 rw [aoU]
 rfl
theorem Zb (fu : Nat) (l : List Field) (x : Option (List Field)) : P37 (fu + 1) ⟨l, x⟩ = DL 128 qw (iW 128 (P66 fu) l) l := by
 rw [P37.eq_2]
 unfold agS
 dsimp only
 rw [aoV]
 rfl
theorem Rw : ∀ (N n : Nat) (v : Value), SizeOf.sizeOf v ≤ N → 4 * N ≤ n → KT v → ∃ t, Z4 n v = some t ∧ Tw N t v := by
 intro N
 induction N with
 | zero =>
  intro n v h
  obtain ⟨_, _, _, ⟨_, _⟩, ⟨_, _⟩, _, _, _⟩ := v
  simp only [Value.mk.sizeOf_spec] at h
  omega
 | succ N ih =>
  intro n v h hn ov
  obtain ⟨n', rfl⟩ : ∃ n', n = n' + 4 := ⟨n - 4, by omega⟩
  obtain ⟨k, nn, s, ⟨l, x⟩, ⟨f, y⟩, e, c, b⟩ := v
  obtain ⟨p1, p2, p3, p4⟩ := sF ov
  rw [Z4.eq_2]
  unfold agQ
  dsimp only
  rw [Za, Zb]
  obtain ⟨o, g1, g2, g3⟩ := oV (pz := 112) (k := 112) (m := rM) (p := Z4 (n' + 2)) (l := l) (Tw N) rfl (by omega) (by omega) p1 (fun x' hx => by
   have := Rt (k := k) (n := nn) (s := s) (key := c) (lx := x) (f := ⟨f, y⟩) (e := e) (hk := b) hx
   exact ih (n' + 2) x' (by omega) (by omega) (p2 x' hx))
  obtain ⟨o2, g4, g5, g6⟩ := oV (pz := 128) (k := 128) (m := qw) (p := P66 (n' + 2)) (l := f) (yU (Tw N)) rfl (by omega) (by omega) p3 (fun q hq => by
   have h1 := Ru (k := k) (n := nn) (s := s) (key := c) (l := ⟨l, x⟩) (fx := y) (e := e) (hk := b) hq
   obtain ⟨m, w⟩ := q
   have h2 := Rv (m := m) (v := w)
   obtain ⟨t, h3, h4⟩ := ih (n' + 1) w (by omega) (by omega) (mF (p4 _ hq))
   refine ⟨Field.mk m t, ?_, rfl, h4⟩
   rw [P66.eq_2]
   unfold acK
   obtain ⟨_, _, _, ⟨_, _⟩, ⟨_, _⟩, _, _, _⟩ := w
   dsimp only
   rw [h3]
   obtain ⟨_, _, _, ⟨_, _⟩, ⟨_, _⟩, _, _, _⟩ := t
   rfl)
  rw [g1, g4]
  exact ⟨_, rfl, rfl, rfl, rfl, rfl, rfl, rfl, ⟨rfl, g2, g3⟩, rfl, g5, g6⟩
theorem aiW {N n : Nat} {l : List Value} {x : Option (List Value)} (hN : ∀ v ∈ l, SizeOf.sizeOf v ≤ N) (hn : 4 * N ≤ n) (h1 : l.length * 112 ≤ reachBytes) (h2 : ∀ v ∈ l, KT v) :
  ∃ o, P35 (n + 1) ⟨l, x⟩ = some ⟨o, some [rM]⟩ ∧ o.length = l.length ∧ ∀ (i : Nat) t a, o[i]? = some t → l[i]? = some a → Tw N t a := by
 rw [Za]
 exact oV (pz := 112) (k := 112) (m := rM) (p := Z4 n) (l := l) (Tw N) rfl (by omega) (by omega) h1 (fun x' hx => Rw N n x' (hN x' hx) hn (h2 x' hx))
theorem aoW (fu : Nat) (p : Value → Value → Option Bool) (a b : List Value) : QW fu p a b = gZ p a b := by
 funext i
 unfold QW gZ
 dsimp only
 cases decide (i < ln b)
 ·rfl
 ·cases idx a i with
  | none => rfl
  | some x =>
   obtain ⟨_, _, _, ⟨_, _⟩, ⟨_, _⟩, _, _, _⟩ := x
   cases idx b i with
   | none => rfl
   | some y =>
    obtain ⟨_, _, _, ⟨_, _⟩, ⟨_, _⟩, _, _, _⟩ := y
    rfl
theorem aoX (fu : Nat) (p : Field → Field → Option Bool) (a b : List Field) : QZ fu p a b = gZ p a b := by
 funext i
 unfold QZ gZ
 dsimp only
 cases decide (i < ln b)
 ·rfl
 ·cases idx a i with
  | none => rfl
  | some x =>
   obtain ⟨_, ⟨_, _, _, ⟨_, _⟩, ⟨_, _⟩, _, _, _⟩⟩ := x
   cases idx b i with
   | none => rfl
   | some y =>
    obtain ⟨_, ⟨_, _, _, ⟨_, _⟩, ⟨_, _⟩, _, _, _⟩⟩ := y
    rfl
def Zc : Value → Bool
 | .mk _ _ s _ _ _ _ _ => seq s kU
def Zd : Field → Bool
 | .mk s _ => seq s kU
theorem Ze (fu : Nat) (l h b : List Value) (x : Option (List Value)) : P61 (fu + 1) ⟨l, some h⟩ ⟨b, x⟩ = DN (gZ (P60 fu) l b) Zc l h b := by
 rw [P61.eq_2]
 unfold aei
 dsimp only
 rw [aoW]
 refine (show _ = leftG (gZ (P60 fu) l b) l h b _ from rfl).trans (congrArg (leftG _ l h b) (funext fun x => ?_))
 obtain ⟨_, _, _, ⟨_, _⟩, ⟨_, _⟩, _, _, _⟩ := x
 rfl
theorem Zf (fu : Nat) (l h b : List Field) (x : Option (List Field)) : P63 (fu + 1) ⟨l, some h⟩ ⟨b, x⟩ = DN (gZ (P82 fu) l b) Zd l h b := by
 rw [P63.eq_2]
 unfold aer
 dsimp only
 rw [aoX]
 refine (show _ = leftG (gZ (P82 fu) l b) l h b _ from rfl).trans (congrArg (leftG _ l h b) (funext fun x => ?_))
 obtain ⟨_, ⟨_, _, _, ⟨_, _⟩, ⟨_, _⟩, _, _, _⟩⟩ := x
 rfl
theorem KL : Zc rM = true := gJ _
theorem KM : Zd qw = true := gJ _
theorem Rx : ∀ (N n : Nat) (t v : Value), Tw N t v → 4 * N ≤ n → KT v → P60 n t v = some true := by
 intro N
 induction N with
 | zero => intro n t v h; exact absurd h (by obtain ⟨_, _, _, ⟨_, _⟩, ⟨_, _⟩, _, _, _⟩ := t; simp [Tw])
 | succ N ih =>
  intro n t v h hn ov
  obtain ⟨n', rfl⟩ : ∃ n', n = n' + 4 := ⟨n - 4, by omega⟩
  obtain ⟨k, nn, s, ⟨l, x⟩, ⟨f, y⟩, e, c, b⟩ := v
  obtain ⟨k', n2, s', ⟨l', x'⟩, ⟨f', y'⟩, e', c', b'⟩ := t
  obtain ⟨rfl, rfl, rfl, rfl, rfl, rfl, ⟨rfl, h8, h9⟩, rfl, h11, h12⟩ := h
  obtain ⟨p1, p2, p3, p4⟩ := sF ov
  have hl1 := dX (by omega) p1
  have hl3 := dX (by omega) p3
  rw [P60.eq_2]
  unfold ahL
  dsimp only
  rw [Ze, Zf]
  rw [oW (m := rM) (isM := Zc) h8 hl1 KL (fun i t a h1 h2 => ih (n' + 2) t a (h9 i t a h1 h2) (by omega) (p2 _ (List.mem_of_getElem? h2)))]
  rw [oW (m := qw) (isM := Zd) h11 hl3 KM (fun i t a h1 h2 => by
   have hh := h12 i t a h1 h2
   obtain ⟨m, w⟩ := t
   obtain ⟨m', w'⟩ := a
   obtain ⟨rfl, hw⟩ := hh
   have hi := ih (n' + 1) w w' hw (by omega) (mF (p4 _ (List.mem_of_getElem? h2)))
   rw [P82.eq_2]
   unfold aes
   obtain ⟨_, _, _, ⟨_, _⟩, ⟨_, _⟩, _, _, _⟩ := w
   obtain ⟨_, _, _, ⟨_, _⟩, ⟨_, _⟩, _, _, _⟩ := w'
   dsimp only
   rw [gJ, hi]
   rfl)]
  simp only [beq_self_eq_true, gJ, cond_true, Option.bind_some]
theorem aiX {N n : Nat} {o l : List Value} {x : Option (List Value)} (h0 : o.length = l.length) (hT : ∀ (i : Nat) t a, o[i]? = some t → l[i]? = some a → Tw N t a) (hn : 4 * N ≤ n) (h1 : l.length * 112 ≤ reachBytes) (h2 : ∀ v ∈ l, KT v) :
  P61 (n + 1) ⟨o, some [rM]⟩ ⟨l, x⟩ = some true := by
 rw [Ze]
 exact oW (m := rM) (isM := Zc) h0 (dX (by omega) h1) KL fun i t a g1 g2 => Rx N n t a (hT i t a g1 g2) hn (h2 _ (List.mem_of_getElem? g2))
def OKE (e : Expr) : Prop := WT tab 74 (kg e)
def OKA (a : Act) : Prop := WT tab 76 (pJ a)
def OKC (c : Cell) : Prop := WT tab 40 (iK c)
theorem afO {l : List Expr} {x : Option (List Expr)} {d : D} (e : jk ⟨l, x⟩ = d) (h : WT tab 71 [d]) : l.length * 176 ≤ reachBytes ∧ ∀ v ∈ l, OKE v := by
 subst e
 obtain ⟨r, q, e, h1, h2, _⟩ := h.fG DK
 simp only [jk, List.cons.injEq, D.sl.injEq] at e
 obtain ⟨⟨rfl, _⟩, _⟩ := e
 rw [kr] at h1 h2
 simp only [List.length_map, List.mem_map, forall_exists_index, and_imp, forall_apply_eq_imp_iff₂, Nat.add_mul] at h1 h2
 exact ⟨by omega, h2⟩
theorem Zg {l : List Act} {x : Option (List Act)} {d : D} (e : jN ⟨l, x⟩ = d) (h : WT tab 38 [d]) : l.length * 200 ≤ reachBytes ∧ ∀ v ∈ l, OKA v := by
 subst e
 obtain ⟨r, q, e, h1, h2, _⟩ := h.fG zy
 simp only [jN, List.cons.injEq, D.sl.injEq] at e
 obtain ⟨⟨rfl, _⟩, _⟩ := e
 rw [lM] at h1 h2
 simp only [List.length_map, List.mem_map, forall_exists_index, and_imp, forall_apply_eq_imp_iff₂, Nat.add_mul] at h1 h2
 exact ⟨by omega, h2⟩
theorem arL {l : List Value} {x : Option (List Value)} {d : D} (e : iy ⟨l, x⟩ = d) (h : WT tab 25 [d]) : l.length * 112 ≤ reachBytes ∧ ∀ v ∈ l, KT v := by
 subst e
 obtain ⟨r, q, e, h1, h2, _⟩ := h.fG FQ
 simp only [iy, List.cons.injEq, D.sl.injEq] at e
 obtain ⟨⟨rfl, _⟩, _⟩ := e
 rw [ig] at h1 h2
 simp only [List.length_map, List.mem_map, forall_exists_index, and_imp, forall_apply_eq_imp_iff₂, Nat.add_mul] at h1 h2
 exact ⟨by omega, h2⟩
theorem akb {l : List Field} {x : Option (List Field)} {d : D} (e : gK ⟨l, x⟩ = d) (h : WT tab 26 [d]) : l.length * 128 ≤ reachBytes ∧ ∀ v ∈ l, OKF v := by
 subst e
 obtain ⟨r, q, e, h1, h2, _⟩ := h.fG DJ
 simp only [gK, List.cons.injEq, D.sl.injEq] at e
 obtain ⟨⟨rfl, _⟩, _⟩ := e
 rw [iq] at h1 h2
 simp only [List.length_map, List.mem_map, forall_exists_index, and_imp, forall_apply_eq_imp_iff₂, Nat.add_mul] at h1 h2
 exact ⟨by omega, h2⟩
theorem Nv {k n el : Int} {s t : ByteArray} {a v ky : List Expr} {ax vx kx : Option (List Expr)} {ns : Sl ByteArray} {c : List Act} {cx : Option (List Act)} (h : OKE (Expr.mk k n s ⟨a, ax⟩ ns ⟨v, vx⟩ el ⟨ky, kx⟩ ⟨c, cx⟩ t)) :
  (a.length * 176 ≤ reachBytes ∧ ∀ e ∈ a, OKE e) ∧ ns.l.length * 16 ≤ reachBytes ∧ (v.length * 176 ≤ reachBytes ∧ ∀ e ∈ v, OKE e) ∧ (ky.length * 176 ≤ reachBytes ∧ ∀ e ∈ ky, OKE e) ∧ c.length * 200 ≤ reachBytes ∧ ∀ q ∈ c, OKA q := by
 obtain ⟨a0, _, e0, h0, a1, _, e1, h1, a2, _, e2, h2, a3, _, e3, h3, a4, _, e4, h4, a5, _, e5, h5, a6, _, e6, h6, a7, _, e7, h7, a8, _, e8, h8, a9, _, e9, h9, e10⟩ := h.yL Nr rfl
 obtain ⟨_, rfl, _⟩ := h0.qI Ns
 obtain ⟨_, rfl, _⟩ := h1.qI ty_2
 obtain ⟨_, rfl, _⟩ := h2.Cj K9
 obtain ⟨r3, q3, rfl, _⟩ := h3.fG DK
 obtain ⟨r4, q4, rfl, l4, _⟩ := h4.fG Nt
 obtain ⟨r5, q5, rfl, _⟩ := h5.fG DK
 obtain ⟨_, rfl, _⟩ := h6.qI Nn
 obtain ⟨r7, q7, rfl, _⟩ := h7.fG DK
 obtain ⟨r8, q8, rfl, _⟩ := h8.fG zy
 subst e10; subst e9; subst e8; subst e7; subst e6; subst e5; subst e4; subst e3; subst e2; subst e1
 simp only [kg, List.cons_append, List.nil_append, List.cons.injEq] at e0
 obtain ⟨_, _, _, g3, g4, g5, _, g7, g8, _⟩ := e0
 simp only [D.sl.injEq] at g4
 obtain ⟨rfl, _⟩ := g4
 simp only [List.length_map, Nat.add_mul] at l4
 exact ⟨afO g3 h3, by omega, afO g5 h5, afO g7 h7, Zg g8 h8⟩
theorem yQ {k : Int} {n : ByteArray} {e : Expr} (h : OKA (Act.mk k n e)) : OKE e := by
 obtain ⟨a0, _, e0, h0, a1, _, e1, h1, a2, _, e2, h2, e3⟩ := h.yL Np rfl
 obtain ⟨_, rfl, _⟩ := h0.qI Nq
 obtain ⟨_, rfl, _⟩ := h1.Cj K9
 subst e3; subst e2; subst e1
 simp only [pJ, List.cons_append, List.nil_append, List.cons.injEq, List.append_nil] at e0
 obtain ⟨_, _, rfl⟩ := e0
 exact h2
def yB : Expr := Expr.mk 0 0 kU (Sl.mk [] (some [])) (Sl.mk [] (some [])) (Sl.mk [] (some [])) 0 (Sl.mk [] (some [])) (Sl.mk [] (some [])) ByteArray.empty
def noE : Expr := Expr.mk 0 0 ByteArray.empty (Sl.mk [] (some [])) (Sl.mk [] (some [])) (Sl.mk [] (some [])) 0 (Sl.mk [] (some [])) (Sl.mk [] (some [])) ByteArray.empty
def qx : Act := Act.mk 0 kU noE
def RG : Value := Value.mk 0 0 ByteArray.empty (Sl.mk [] (some [])) (Sl.mk [] (some [])) 0 ByteArray.empty false
def rO : Cell := Cell.mk 0 kU RG RG (Sl.mk [] (some [])) (Sl.mk [] (some [])) (Sl.mk [] (some [])) (Sl.mk [] (some [])) false false (Sl.mk [] (some [])) (Sl.mk [] (some []))
def oC {A : Type} (m : A) (R : A → A → Prop) (t o : Sl A) : Prop := t.x = some [m] ∧ t.l.length = o.l.length ∧ ∀ (i : Nat) u a, t.l[i]? = some u → o.l[i]? = some a → R u a
def Uk (p : Expr → Expr → Prop) : Act → Act → Prop
 | .mk k n e, .mk k' n' e' => k = k' ∧ n = n' ∧ p e e'
def Ul : Nat → Expr → Expr → Prop
 | 0, _, _ => False
 | N + 1, .mk k n s a ns v el ky c t, .mk k' n' s' a' ns' v' el' ky' c' t' => k = k' ∧ n = n' ∧ s = s' ∧ el = el' ∧ t = t' ∧
   oC yB (Ul N) a a' ∧ oC kU Eq ns ns' ∧ oC yB (Ul N) v v' ∧ oC yB (Ul N) ky ky' ∧ oC qx (Uk (Ul N)) c c'
theorem row_of {A : Type} {m : A} {R : A → A → Prop} {o l : List A} {x : Option (List A)} (h1 : o.length = l.length) (h2 : ∀ (i : Nat) t a, o[i]? = some t → l[i]? = some a → R t a) : oC m R ⟨o, some [m]⟩ ⟨l, x⟩ := ⟨rfl, h1, h2⟩
theorem aoY (fu : Nat) (p : Expr → Option Expr) (l : List Expr) : OU fu p l = iW 176 p l := by
 funext q
 obtain ⟨o, i⟩ := q
 unfold OU iW
 dsimp only
 cases decide (i < ln l)
 ·rfl
 ·cases idx l i with
  | none => rfl
  | some x =>
   obtain ⟨_, _, _, ⟨_, _⟩, ⟨_, _⟩, ⟨_, _⟩, _, ⟨_, _⟩, ⟨_, _⟩, _⟩ := x
   simp only [cond_true, Option.bind_some]
   cases p _ with
   | none => rfl
   | some t => obtain ⟨_, _, _, ⟨_, _⟩, ⟨_, _⟩, ⟨_, _⟩, _, ⟨_, _⟩, ⟨_, _⟩, _⟩ := t; rfl
theorem aoZ (fu : Nat) (p : Act → Option Act) (l : List Act) : OT fu p l = iW 200 p l := by
 funext q
 obtain ⟨o, i⟩ := q
 unfold OT iW
 dsimp only
 cases decide (i < ln l)
 ·rfl
 ·cases idx l i with
  | none => rfl
  | some x =>
   obtain ⟨_, _, ⟨_, _, _, ⟨_, _⟩, ⟨_, _⟩, ⟨_, _⟩, _, ⟨_, _⟩, ⟨_, _⟩, _⟩⟩ := x
   simp only [cond_true, Option.bind_some]
   cases p _ with
   | none => rfl
   | some t => obtain ⟨_, _, ⟨_, _, _, ⟨_, _⟩, ⟨_, _⟩, ⟨_, _⟩, _, ⟨_, _⟩, ⟨_, _⟩, _⟩⟩ := t; rfl
theorem ao0 (fu : Nat) (l : List ByteArray) : OQ fu l = iW 16 some l := by
 funext q
 obtain ⟨o, i⟩ := q
 unfold OQ iW
 dsimp only
 cases decide (i < ln l)
 ·rfl
 ·cases idx l i <;> rfl
theorem ao1 (fu : Nat) (l : List Cell) : XH fu l = iW 400 (P16 fu) l := by
 funext q
 obtain ⟨o, i⟩ := q
 unfold XH iW
 dsimp only
 cases decide (i < ln l)
 ·rfl
 ·cases idx l i with
  | none => rfl
  | some x =>
   obtain ⟨_, _, ⟨_, _, _, ⟨_, _⟩, ⟨_, _⟩, _, _, _⟩, ⟨_, _, _, ⟨_, _⟩, ⟨_, _⟩, _, _, _⟩, ⟨_, _⟩, ⟨_, _⟩, ⟨_, _⟩, ⟨_, _⟩, _, _, ⟨_, _⟩, ⟨_, _⟩⟩ := x
   simp only [cond_true, Option.bind_some]
   cases P16 _ _ with
   | none => rfl
   | some t => obtain ⟨_, _, ⟨_, _, _, ⟨_, _⟩, ⟨_, _⟩, _, _, _⟩, ⟨_, _, _, ⟨_, _⟩, ⟨_, _⟩, _, _, _⟩, ⟨_, _⟩, ⟨_, _⟩, ⟨_, _⟩, ⟨_, _⟩, _, _, ⟨_, _⟩, ⟨_, _⟩⟩ := t; rfl
theorem Ry (fu : Nat) (l : List Expr) (x : Option (List Expr)) : P98 (fu + 1) ⟨l, x⟩ = DL 176 yB (iW 176 (P86 fu) l) l := by
 rw [P98.eq_2]
 unfold agV
 dsimp only
 rw [aoY]
 rfl
theorem Zh (fu : Nat) (l : List Act) (x : Option (List Act)) : P36 (fu + 1) ⟨l, x⟩ = DL 200 qx (iW 200 (P65 fu) l) l := by
 rw [P36.eq_2]
 unfold agT
 dsimp only
 rw [aoZ]
 rfl
theorem aiY (fu : Nat) (l : List ByteArray) (x : Option (List ByteArray)) : P99 fu ⟨l, x⟩ = DL 16 kU (iW 16 some l) l := by
 unfold P99
 dsimp only
 rw [ao0]
 rfl
theorem aiZ (fu : Nat) (l : List Cell) (x : Option (List Cell)) : P4 fu ⟨l, x⟩ = DL 400 rO (iW 400 (P16 fu) l) l := by
 unfold P4
 dsimp only
 rw [ao1]
 rfl
theorem ao2 : ∀ (N n : Nat) (e : Expr), SizeOf.sizeOf e ≤ N → 4 * N ≤ n → OKE e → ∃ t, P86 n e = some t ∧ Ul N t e := by
 intro N
 induction N with
 | zero =>
  intro n e h
  obtain ⟨_, _, _, ⟨_, _⟩, ⟨_, _⟩, ⟨_, _⟩, _, ⟨_, _⟩, ⟨_, _⟩, _⟩ := e
  simp only [Expr.mk.sizeOf_spec] at h
  omega
 | succ N ih =>
  intro n e h hn oe
  obtain ⟨n', rfl⟩ : ∃ n', n = n' + 4 := ⟨n - 4, by omega⟩
  obtain ⟨k, nn, s, ⟨a, ax⟩, ⟨ns, nx⟩, ⟨v, vx⟩, el, ⟨ky, kx⟩, ⟨c, cx⟩, t⟩ := e
  obtain ⟨⟨p1, p2⟩, p3, ⟨p4, p5⟩, ⟨p6, p7⟩, p8, p9⟩ := Nv oe
  simp only [Expr.mk.sizeOf_spec, Sl.mk.sizeOf_spec] at h
  rw [P86.eq_2]
  unfold agU
  dsimp only
  rw [Ry, Ry, Ry, Zh, aiY]
  have hE : ∀ {l : List Expr}, l.length * 176 ≤ reachBytes → (∀ u ∈ l, OKE u) → SizeOf.sizeOf l ≤ N → ∃ o, DL 176 yB (iW 176 (P86 (n' + 2)) l) l = some ⟨o, some [yB]⟩ ∧ o.length = l.length ∧ ∀ (i : Nat) t a, o[i]? = some t → l[i]? = some a → Ul N t a := by
   intro l q1 q2 q3
   refine oV (pz := 176) (k := 176) (Ul N) rfl (by omega) (by omega) q1 fun u hu => ?_
   have := List.sizeOf_lt_of_mem hu
   exact ih (n' + 2) u (by omega) (by omega) (q2 u hu)
  obtain ⟨o1, g1, g2, g3⟩ := hE p1 p2 (by omega)
  obtain ⟨o2, g4, g5, g6⟩ := hE p4 p5 (by omega)
  obtain ⟨o3, g7, g8, g9⟩ := hE p6 p7 (by omega)
  obtain ⟨o4, j1, j2, j3⟩ := oV (pz := 16) (k := 16) (m := kU) (p := some) (l := ns) Eq rfl (by omega) (by omega) p3 (fun u _ => ⟨u, rfl, rfl⟩)
  obtain ⟨o5, j4, j5, j6⟩ := oV (pz := 200) (k := 200) (m := qx) (p := P65 (n' + 2)) (l := c) (Uk (Ul N)) rfl (by omega) (by omega) p8 (fun q hq => by
   have h1 := List.sizeOf_lt_of_mem hq
   obtain ⟨k1, m, w⟩ := q
   simp only [Act.mk.sizeOf_spec] at h1
   obtain ⟨t, h3, h4⟩ := ih (n' + 1) w (by omega) (by omega) (yQ (p9 _ hq))
   refine ⟨Act.mk k1 m t, ?_, rfl, rfl, h4⟩
   rw [P65.eq_2]
   unfold acO
   obtain ⟨_, _, _, ⟨_, _⟩, ⟨_, _⟩, ⟨_, _⟩, _, ⟨_, _⟩, ⟨_, _⟩, _⟩ := w
   dsimp only
   rw [h3]
   obtain ⟨_, _, _, ⟨_, _⟩, ⟨_, _⟩, ⟨_, _⟩, _, ⟨_, _⟩, ⟨_, _⟩, _⟩ := t
   rfl)
  rw [g1, g4, g7, j1, j4]
  exact ⟨_, rfl, rfl, rfl, rfl, rfl, rfl, row_of g2 g3, row_of j2 j3, row_of g5 g6, row_of g8 g9, row_of j5 j6⟩
theorem Rz {N n : Nat} {l : List Act} {x : Option (List Act)} (hs : SizeOf.sizeOf l ≤ N) (hn : 4 * N ≤ n) (h1 : l.length * 200 ≤ reachBytes) (h2 : ∀ q ∈ l, OKA q) : ∃ o, P36 (n + 2) ⟨l, x⟩ = some o ∧ oC qx (Uk (Ul N)) o ⟨l, x⟩ := by
 rw [Zh]
 obtain ⟨o5, j4, j5, j6⟩ := oV (pz := 200) (k := 200) (m := qx) (p := P65 (n + 1)) (l := l) (Uk (Ul N)) rfl (by omega) (by omega) h1 (fun q hq => by
  have h3 := List.sizeOf_lt_of_mem hq
  have h4 := h2 q hq
  obtain ⟨k1, m, w⟩ := q
  simp only [Act.mk.sizeOf_spec] at h3
  obtain ⟨t, h5, h6⟩ := ao2 N n w (by omega) (by omega) (yQ h4)
  refine ⟨Act.mk k1 m t, ?_, rfl, rfl, h6⟩
  rw [P65.eq_2]
  unfold acO
  obtain ⟨_, _, _, ⟨_, _⟩, ⟨_, _⟩, ⟨_, _⟩, _, ⟨_, _⟩, ⟨_, _⟩, _⟩ := w
  dsimp only
  rw [h5]
  obtain ⟨_, _, _, ⟨_, _⟩, ⟨_, _⟩, ⟨_, _⟩, _, ⟨_, _⟩, ⟨_, _⟩, _⟩ := t
  rfl)
 exact ⟨_, j4, row_of j5 j6⟩
theorem Zi {N n : Nat} {l : List Field} {x : Option (List Field)} (hs : SizeOf.sizeOf l ≤ N) (hn : 4 * N ≤ n) (h1 : l.length * 128 ≤ reachBytes) (h2 : ∀ q ∈ l, OKF q) : ∃ o, P37 (n + 2) ⟨l, x⟩ = some o ∧ oC qw (yU (Tw N)) o ⟨l, x⟩ := by
 rw [Zb]
 obtain ⟨o5, j4, j5, j6⟩ := oV (pz := 128) (k := 128) (m := qw) (p := P66 (n + 1)) (l := l) (yU (Tw N)) rfl (by omega) (by omega) h1 (fun q hq => by
  have h3 := List.sizeOf_lt_of_mem hq
  have h4 := h2 q hq
  obtain ⟨m, w⟩ := q
  simp only [Field.mk.sizeOf_spec] at h3
  obtain ⟨t, h5, h6⟩ := Rw N n w (by omega) (by omega) (mF h4)
  refine ⟨Field.mk m t, ?_, rfl, h6⟩
  rw [P66.eq_2]
  unfold acK
  obtain ⟨_, _, _, ⟨_, _⟩, ⟨_, _⟩, _, _, _⟩ := w
  dsimp only
  rw [h5]
  obtain ⟨_, _, _, ⟨_, _⟩, ⟨_, _⟩, _, _, _⟩ := t
  rfl)
 exact ⟨_, j4, row_of j5 j6⟩
theorem ao3 (fu : Nat) (p : Expr → Expr → Option Bool) (a b : List Expr) : GR fu p a b = gZ p a b := by
 funext i
 unfold GR gZ
 dsimp only
 cases decide (i < ln b)
 ·rfl
 ·cases idx a i with
  | none => rfl
  | some x =>
   obtain ⟨_, _, _, ⟨_, _⟩, ⟨_, _⟩, ⟨_, _⟩, _, ⟨_, _⟩, ⟨_, _⟩, _⟩ := x
   cases idx b i with
   | none => rfl
   | some y =>
    obtain ⟨_, _, _, ⟨_, _⟩, ⟨_, _⟩, ⟨_, _⟩, _, ⟨_, _⟩, ⟨_, _⟩, _⟩ := y
    rfl
theorem ao4 (fu : Nat) (p : Act → Act → Option Bool) (a b : List Act) : Q0 fu p a b = gZ p a b := by
 funext i
 unfold Q0 gZ
 dsimp only
 cases decide (i < ln b)
 ·rfl
 ·cases idx a i with
  | none => rfl
  | some x =>
   obtain ⟨_, _, ⟨_, _, _, ⟨_, _⟩, ⟨_, _⟩, ⟨_, _⟩, _, ⟨_, _⟩, ⟨_, _⟩, _⟩⟩ := x
   cases idx b i with
   | none => rfl
   | some y =>
    obtain ⟨_, _, ⟨_, _, _, ⟨_, _⟩, ⟨_, _⟩, ⟨_, _⟩, _, ⟨_, _⟩, ⟨_, _⟩, _⟩⟩ := y
    rfl
theorem ao5 (fu : Nat) (a b : List ByteArray) : GQ fu a b = gZ (fun x y => some (seq x y)) a b := by
 funext i
 unfold GQ gZ
 dsimp only
 cases decide (i < ln b)
 ·rfl
 ·cases idx a i <;> cases idx b i <;> rfl
theorem ao6 (fu : Nat) (a b : List Cell) : Q9 fu a b = gZ (P30 fu) a b := by
 funext i
 unfold Q9 gZ
 dsimp only
 cases decide (i < ln b)
 ·rfl
 ·cases idx a i with
  | none => rfl
  | some x =>
   obtain ⟨_, _, ⟨_, _, _, ⟨_, _⟩, ⟨_, _⟩, _, _, _⟩, ⟨_, _, _, ⟨_, _⟩, ⟨_, _⟩, _, _, _⟩, ⟨_, _⟩, ⟨_, _⟩, ⟨_, _⟩, ⟨_, _⟩, _, _, ⟨_, _⟩, ⟨_, _⟩⟩ := x
   cases idx b i with
   | none => rfl
   | some y =>
    obtain ⟨_, _, ⟨_, _, _, ⟨_, _⟩, ⟨_, _⟩, _, _, _⟩, ⟨_, _, _, ⟨_, _⟩, ⟨_, _⟩, _, _, _⟩, ⟨_, _⟩, ⟨_, _⟩, ⟨_, _⟩, ⟨_, _⟩, _, _, ⟨_, _⟩, ⟨_, _⟩⟩ := y
    rfl
def afP : Expr → Bool
 | .mk _ _ s _ _ _ _ _ _ _ => seq s kU
def afQ : Act → Bool
 | .mk _ s _ => seq s kU
def akc : Cell → Bool
 | .mk _ s _ _ _ _ _ _ _ _ _ _ => seq s kU
theorem RA (fu : Nat) (l h b : List Expr) (x : Option (List Expr)) : Wo (fu + 1) ⟨l, some h⟩ ⟨b, x⟩ = DN (gZ (P96 fu) l b) afP l h b := by
 rw [Wo.eq_2]
 unfold Ug
 dsimp only
 rw [ao3]
 refine (show _ = leftG (gZ (P96 fu) l b) l h b _ from rfl).trans (congrArg (leftG _ l h b) (funext fun x => ?_))
 obtain ⟨_, _, _, ⟨_, _⟩, ⟨_, _⟩, ⟨_, _⟩, _, ⟨_, _⟩, ⟨_, _⟩, _⟩ := x
 rfl
theorem Zj (fu : Nat) (l h b : List Act) (x : Option (List Act)) : P62 (fu + 1) ⟨l, some h⟩ ⟨b, x⟩ = DN (gZ (P81 fu) l b) afQ l h b := by
 rw [P62.eq_2]
 unfold aeB
 dsimp only
 rw [ao4]
 refine (show _ = leftG (gZ (P81 fu) l b) l h b _ from rfl).trans (congrArg (leftG _ l h b) (funext fun x => ?_))
 obtain ⟨_, _, ⟨_, _, _, ⟨_, _⟩, ⟨_, _⟩, ⟨_, _⟩, _, ⟨_, _⟩, ⟨_, _⟩, _⟩⟩ := x
 rfl
theorem ai0 (fu : Nat) (l h b : List ByteArray) (x : Option (List ByteArray)) : aae fu ⟨l, some h⟩ ⟨b, x⟩ = DN (gZ (fun x y => some (seq x y)) l b) (fun s => seq s kU) l h b := by
 unfold aae
 dsimp only
 rw [ao5]
 rfl
theorem ai1 (fu : Nat) (l h b : List Cell) (x : Option (List Cell)) : P14 fu ⟨l, some h⟩ ⟨b, x⟩ = DN (gZ (P30 fu) l b) akc l h b := by
 unfold P14
 dsimp only
 rw [ao6]
 refine (show _ = leftG (gZ (P30 fu) l b) l h b _ from rfl).trans (congrArg (leftG _ l h b) (funext fun x => ?_))
 obtain ⟨_, _, ⟨_, _, _, ⟨_, _⟩, ⟨_, _⟩, _, _, _⟩, ⟨_, _, _, ⟨_, _⟩, ⟨_, _⟩, _, _, _⟩, ⟨_, _⟩, ⟨_, _⟩, ⟨_, _⟩, ⟨_, _⟩, _, _, ⟨_, _⟩, ⟨_, _⟩⟩ := x
 rfl
theorem ao7 : ∀ (N n : Nat) (t e : Expr), Ul N t e → 4 * N ≤ n → OKE e → P96 n t e = some true := by
 intro N
 induction N with
 | zero => intro n t e h; exact absurd h (by obtain ⟨_, _, _, ⟨_, _⟩, ⟨_, _⟩, ⟨_, _⟩, _, ⟨_, _⟩, ⟨_, _⟩, _⟩ := t; simp [Ul])
 | succ N ih =>
  intro n t e h hn oe
  obtain ⟨n', rfl⟩ : ∃ n', n = n' + 4 := ⟨n - 4, by omega⟩
  obtain ⟨k, nn, s, ⟨a, ax⟩, ⟨ns, nx⟩, ⟨v, vx⟩, el, ⟨ky, kx⟩, ⟨c, cx⟩, z⟩ := e
  obtain ⟨k', n2, s', ⟨a', ax'⟩, ⟨ns', nx'⟩, ⟨v', vx'⟩, el', ⟨ky', kx'⟩, ⟨c', cx'⟩, z'⟩ := t
  obtain ⟨⟨p1, p2⟩, p3, ⟨p4, p5⟩, ⟨p6, p7⟩, p8, p9⟩ := Nv oe
  obtain ⟨rfl, rfl, rfl, rfl, rfl, ⟨e1, q1, q2⟩, ⟨e2, q3, q4⟩, ⟨e3, q5, q6⟩, ⟨e4, q7, q8⟩, ⟨e5, q9, q10⟩⟩ := h
  dsimp only at e1 e2 e3 e4 e5 q1 q2 q3 q4 q5 q6 q7 q8 q9 q10
  subst e1; subst e2; subst e3; subst e4; subst e5
  rw [P96.eq_2]
  unfold ahW
  dsimp only
  rw [RA, RA, RA, Zj, ai0]
  have hE : ∀ {o l : List Expr}, o.length = l.length → (∀ (i : Nat) t a, o[i]? = some t → l[i]? = some a → Ul N t a) → l.length * 176 ≤ reachBytes → (∀ u ∈ l, OKE u) → DN (gZ (P96 (n' + 2)) o l) afP o [yB] l = some true := fun h1 h2 h3 h4 =>
   oW (m := yB) (isM := afP) h1 (dX (by omega) h3) (gJ _) fun i t a g1 g2 => ih (n' + 2) t a (h2 i t a g1 g2) (by omega) (h4 _ (List.mem_of_getElem? g2))
  rw [hE q1 q2 p1 p2, hE q5 q6 p4 p5, hE q7 q8 p6 p7]
  rw [oW (m := kU) (isM := fun s => seq s kU) q3 (dX (by omega) p3) (gJ _) (fun i t a g1 g2 => by rw [q4 i t a g1 g2, gJ])]
  rw [oW (m := qx) (isM := afQ) q9 (dX (by omega) p8) (gJ _) (fun i t a h1 h2 => by
   have hh := q10 i t a h1 h2
   have ho := p9 _ (List.mem_of_getElem? h2)
   obtain ⟨k, m, w⟩ := t
   obtain ⟨k', m', w'⟩ := a
   obtain ⟨rfl, rfl, hw⟩ := hh
   have hi := ih (n' + 1) w w' hw (by omega) (yQ ho)
   rw [P81.eq_2]
   unfold aeC
   obtain ⟨_, _, _, ⟨_, _⟩, ⟨_, _⟩, ⟨_, _⟩, _, ⟨_, _⟩, ⟨_, _⟩, _⟩ := w
   obtain ⟨_, _, _, ⟨_, _⟩, ⟨_, _⟩, ⟨_, _⟩, _, ⟨_, _⟩, ⟨_, _⟩, _⟩ := w'
   dsimp only
   rw [gJ, hi, beq_self_eq_true]
   rfl)]
  simp only [beq_self_eq_true, gJ, cond_true, Option.bind_some]
theorem RB {N n : Nat} {o : Sl Act} {l : List Act} {x : Option (List Act)} (h : oC qx (Uk (Ul N)) o ⟨l, x⟩) (hn : 4 * N ≤ n) (h1 : l.length * 200 ≤ reachBytes) (h2 : ∀ q ∈ l, OKA q) : P62 (n + 2) o ⟨l, x⟩ = some true := by
 obtain ⟨o, y⟩ := o
 obtain ⟨e1, q1, q2⟩ := h
 dsimp only at e1 q1 q2
 subst e1
 rw [Zj]
 refine oW (m := qx) (isM := afQ) q1 (dX (by omega) h1) (gJ _) fun i t a g1 g2 => ?_
 have hh := q2 i t a g1 g2
 have ho := h2 _ (List.mem_of_getElem? g2)
 obtain ⟨k, m, w⟩ := t
 obtain ⟨k', m', w'⟩ := a
 obtain ⟨rfl, rfl, hw⟩ := hh
 have hi := ao7 N n w w' hw hn (yQ ho)
 rw [P81.eq_2]
 unfold aeC
 obtain ⟨_, _, _, ⟨_, _⟩, ⟨_, _⟩, ⟨_, _⟩, _, ⟨_, _⟩, ⟨_, _⟩, _⟩ := w
 obtain ⟨_, _, _, ⟨_, _⟩, ⟨_, _⟩, ⟨_, _⟩, _, ⟨_, _⟩, ⟨_, _⟩, _⟩ := w'
 dsimp only
 rw [gJ, hi, beq_self_eq_true]
 rfl
theorem Zk {N n : Nat} {o : Sl Field} {l : List Field} {x : Option (List Field)} (h : oC qw (yU (Tw N)) o ⟨l, x⟩) (hn : 4 * N ≤ n) (h1 : l.length * 128 ≤ reachBytes) (h2 : ∀ q ∈ l, OKF q) : P63 (n + 2) o ⟨l, x⟩ = some true := by
 obtain ⟨o, y⟩ := o
 obtain ⟨e1, q1, q2⟩ := h
 dsimp only at e1 q1 q2
 subst e1
 rw [Zf]
 refine oW (m := qw) (isM := Zd) q1 (dX (by omega) h1) KM fun i t a g1 g2 => ?_
 have hh := q2 i t a g1 g2
 have ho := h2 _ (List.mem_of_getElem? g2)
 obtain ⟨m, w⟩ := t
 obtain ⟨m', w'⟩ := a
 obtain ⟨rfl, hw⟩ := hh
 have hi := Rx N n w w' hw hn (mF ho)
 rw [P82.eq_2]
 unfold aes
 obtain ⟨_, _, _, ⟨_, _⟩, ⟨_, _⟩, _, _, _⟩ := w
 obtain ⟨_, _, _, ⟨_, _⟩, ⟨_, _⟩, _, _, _⟩ := w'
 dsimp only
 rw [gJ, hi]
 rfl
structure Bc (N : Nat) (c : Cell) : Prop where
 size : SizeOf.sizeOf c ≤ N
 value : KT c.lK
 next : KT c.Next
 deps : c.Vq.l.length * 112 ≤ reachBytes ∧ ∀ v ∈ c.Vq.l, KT v
 does : c.Do.l.length * 200 ≤ reachBytes ∧ ∀ v ∈ c.Do.l, OKA v
 undo : c.Undo.l.length * 200 ≤ reachBytes ∧ ∀ v ∈ c.Undo.l, OKA v
 env : c.Env.l.length * 128 ≤ reachBytes ∧ ∀ v ∈ c.Env.l, OKF v
 old : c.Old.l.length * 200 ≤ reachBytes ∧ ∀ v ∈ c.Old.l, OKA v
 past : c.Past.l.length * 128 ≤ reachBytes ∧ ∀ v ∈ c.Past.l, OKF v
theorem ao8 {c : Cell} (h : OKC c) : Bc (SizeOf.sizeOf c) c := by
 obtain ⟨k, nm, v, nx, ⟨dl, dx⟩, ⟨ol, ox⟩, ⟨ul, ux⟩, ⟨el, ex⟩, r, q, ⟨pl, px⟩, ⟨tl, tx⟩⟩ := c
 obtain ⟨a0, _, e0, h0, a1, _, e1, h1, a2, _, e2, h2, a3, _, e3, h3, a4, _, e4, h4, a5, _, e5, h5, a6, _, e6, h6, a7, _, e7, h7, a8, _, e8, h8, a9, _, e9, h9, a10, _, e10, h10, a11, _, e11, h11, e12⟩ := h.yL Nj rfl
 obtain ⟨_, rfl, _⟩ := h0.qI Nk
 obtain ⟨_, rfl, _⟩ := h1.Cj K9
 obtain ⟨v', rfl⟩ := aj8 h2
 obtain ⟨nx', rfl⟩ := aj8 h3
 obtain ⟨r4, q4, rfl, _⟩ := h4.fG FQ
 obtain ⟨r5, q5, rfl, _⟩ := h5.fG zy
 obtain ⟨r6, q6, rfl, _⟩ := h6.fG zy
 obtain ⟨r7, q7, rfl, _⟩ := h7.fG DJ
 obtain ⟨_, rfl⟩ := h8.Sy WS
 obtain ⟨_, rfl⟩ := h9.Sy WS
 obtain ⟨r10, q10, rfl, _⟩ := h10.fG zy
 obtain ⟨r11, q11, rfl, _⟩ := h11.fG DJ
 subst e12; subst e11; subst e10; subst e9; subst e8; subst e7; subst e6; subst e5; subst e4; subst e3; subst e2; subst e1
 simp only [iK, List.cons_append, List.nil_append, List.append_assoc, List.cons.injEq] at e0
 obtain ⟨_, _, e0⟩ := e0
 have hl : ∀ w : Value, (fK w).length = 8 := by intro w; obtain ⟨_, _, _, ⟨_, _⟩, ⟨_, _⟩, _, _, _⟩ := w; rfl
 obtain ⟨g2, e0⟩ := List.append_inj e0 (by rw [hl, hl])
 obtain ⟨g3, e0⟩ := List.append_inj e0 (by rw [hl, hl])
 simp only [List.cons.injEq] at e0
 obtain ⟨g4, g5, g6, g7, _, _, g10, g11, _⟩ := e0
 have h2' : KT v := by unfold KT; rw [g2]; exact h2
 have h3' : KT nx := by unfold KT; rw [g3]; exact h3
 exact ⟨Nat.le_refl _, h2', h3', arL g4 h4, Zg g5 h5, Zg g6 h6, akb g7 h7, Zg g10 h10, akb g11 h11⟩
structure TwC (N : Nat) (t c : Cell) : Prop where
 kind : t.Kind = c.Kind
 name : t.Name = c.Name
 value : Tw N t.lK c.lK
 next : Tw N t.Next c.Next
 deps : oC rM (Tw N) t.Vq c.Vq
 does : oC qx (Uk (Ul N)) t.Do c.Do
 undo : oC qx (Uk (Ul N)) t.Undo c.Undo
 env : oC qw (yU (Tw N)) t.Env c.Env
 runs : t.Runs = c.Runs
 ran : t.Ran = c.Ran
 old : oC qx (Uk (Ul N)) t.Old c.Old
 past : oC qw (yU (Tw N)) t.Past c.Past
theorem ao9 {N n : Nat} {c : Cell} (h : Bc N c) (hn : 4 * N + 2 ≤ n) : ∃ t, P16 n c = some t ∧ TwC N t c := by
 obtain ⟨n', rfl⟩ : ∃ n', n = n' + 2 := ⟨n - 2, by omega⟩
 obtain ⟨hs, hv, hx, ⟨d1, d2⟩, ⟨do1, do2⟩, ⟨u1, u2⟩, ⟨e1, e2⟩, ⟨o1, o2⟩, ⟨p1, p2⟩⟩ := h
 obtain ⟨k, nm, v, nx, ⟨dl, dx⟩, ⟨ol, ox⟩, ⟨ul, ux⟩, ⟨el, ex⟩, r, q, ⟨pl, px⟩, ⟨tl, tx⟩⟩ := c
 simp only [Cell.mk.sizeOf_spec, Sl.mk.sizeOf_spec] at hs
 dsimp only at hv hx d1 d2 do1 do2 u1 u2 e1 e2 o1 o2 p1 p2
 obtain ⟨v', a1, a2⟩ := Rw N (n' + 2) v (by omega) (by omega) hv
 obtain ⟨x', a3, a4⟩ := Rw N (n' + 2) nx (by omega) (by omega) hx
 obtain ⟨d', a5, a6, a7⟩ := aiW (N := N) (n := n' + 1) (l := dl) (x := dx) (fun u hu => by have := List.sizeOf_lt_of_mem hu; omega) (by omega) d1 d2
 obtain ⟨o', a8, a9⟩ := Rz (N := N) (n := n') (l := ol) (x := ox) (by omega) (by omega) do1 do2
 obtain ⟨u', b1, b2⟩ := Rz (N := N) (n := n') (l := ul) (x := ux) (by omega) (by omega) u1 u2
 obtain ⟨e', b3, b4⟩ := Zi (N := N) (n := n') (l := el) (x := ex) (by omega) (by omega) e1 e2
 obtain ⟨p', b5, b6⟩ := Rz (N := N) (n := n') (l := pl) (x := px) (by omega) (by omega) o1 o2
 obtain ⟨t', b7, b8⟩ := Zi (N := N) (n := n') (l := tl) (x := tx) (by omega) (by omega) p1 p2
 unfold P16
 obtain ⟨_, _, _, ⟨_, _⟩, ⟨_, _⟩, _, _, _⟩ := v
 obtain ⟨_, _, _, ⟨_, _⟩, ⟨_, _⟩, _, _, _⟩ := nx
 dsimp only
 rw [a1, a3, a5, a8, b1, b3, b5, b7]
 obtain ⟨_, _, _, ⟨_, _⟩, ⟨_, _⟩, _, _, _⟩ := v'
 obtain ⟨_, _, _, ⟨_, _⟩, ⟨_, _⟩, _, _, _⟩ := x'
 obtain ⟨_, _⟩ := o'
 obtain ⟨_, _⟩ := u'
 obtain ⟨_, _⟩ := e'
 obtain ⟨_, _⟩ := p'
 obtain ⟨_, _⟩ := t'
 exact ⟨_, rfl, rfl, rfl, a2, a4, row_of a6 a7, a9, b2, b4, rfl, rfl, b6, b8⟩
theorem apa {N n : Nat} {t c : Cell} (ht : TwC N t c) (h : Bc N c) (hn : 4 * N + 2 ≤ n) : P30 n t c = some true := by
 obtain ⟨n', rfl⟩ : ∃ n', n = n' + 2 := ⟨n - 2, by omega⟩
 obtain ⟨hs, hv, hx, ⟨d1, d2⟩, ⟨do1, do2⟩, ⟨u1, u2⟩, ⟨e1, e2⟩, ⟨o1, o2⟩, ⟨p1, p2⟩⟩ := h
 obtain ⟨k, nm, v, nx, ⟨dl, dx⟩, ⟨ol, ox⟩, ⟨ul, ux⟩, ⟨el, ex⟩, r, q, ⟨pl, px⟩, ⟨tl, tx⟩⟩ := c
 obtain ⟨k', nm', v', nx', ⟨dl', dx'⟩, o', u', e', r', q', p', t'⟩ := t
 obtain ⟨t1, t2, t3, t4, ⟨t5, t6, t7⟩, t8, t9, t10, t11, t12, t13, t14⟩ := ht
 dsimp only at hv hx d1 d2 do1 do2 u1 u2 e1 e2 o1 o2 p1 p2 t1 t2 t3 t4 t5 t6 t7 t8 t9 t10 t11 t12 t13 t14
 subst t1; subst t2; subst t5; subst t11; subst t12
 have a1 := Rx N (n' + 2) _ _ t3 (by omega) hv
 have a2 := Rx N (n' + 2) _ _ t4 (by omega) hx
 have a3 := aiX (N := N) (n := n' + 1) (x := dx) t6 t7 (by omega) d1 d2
 have a4 := RB (N := N) (n := n') t8 (by omega) do1 do2
 have a5 := RB (N := N) (n := n') t9 (by omega) u1 u2
 have a6 := Zk (N := N) (n := n') t10 (by omega) e1 e2
 have a7 := RB (N := N) (n := n') t13 (by omega) o1 o2
 have a8 := Zk (N := N) (n := n') t14 (by omega) p1 p2
 unfold P30
 obtain ⟨_, _, _, ⟨_, _⟩, ⟨_, _⟩, _, _, _⟩ := v
 obtain ⟨_, _, _, ⟨_, _⟩, ⟨_, _⟩, _, _, _⟩ := nx
 obtain ⟨_, _, _, ⟨_, _⟩, ⟨_, _⟩, _, _, _⟩ := v'
 obtain ⟨_, _, _, ⟨_, _⟩, ⟨_, _⟩, _, _, _⟩ := nx'
 obtain ⟨_, _⟩ := o'
 obtain ⟨_, _⟩ := u'
 obtain ⟨_, _⟩ := e'
 obtain ⟨_, _⟩ := p'
 obtain ⟨_, _⟩ := t'
 dsimp only
 rw [a1, a2, a3, a4, a5, a6, a7, a8]
 simp only [beq_self_eq_true, gJ, cond_true, Option.bind_some]
theorem Zl {N n : Nat} {l : List Cell} {x : Option (List Cell)} (hn : 4 * N + 2 ≤ n) (h1 : l.length * 400 ≤ reachBytes) (h2 : ∀ c ∈ l, Bc N c) :
  ∃ o, P4 n ⟨l, x⟩ = some ⟨o, some [rO]⟩ ∧ o.length = l.length ∧ ∀ (i : Nat) t a, o[i]? = some t → l[i]? = some a → TwC N t a := by
 rw [aiZ]
 exact oV (pz := 400) (k := 400) (m := rO) (p := P16 n) (l := l) (TwC N) rfl (by omega) (by omega) h1 (fun c hc => ao9 (h2 c hc) hn)
theorem Zm {N n : Nat} {o l : List Cell} {x : Option (List Cell)} (h0 : o.length = l.length) (hT : ∀ (i : Nat) t a, o[i]? = some t → l[i]? = some a → TwC N t a) (hn : 4 * N + 2 ≤ n) (h1 : l.length * 400 ≤ reachBytes) (h2 : ∀ c ∈ l, Bc N c) :
  P14 n ⟨o, some [rO]⟩ ⟨l, x⟩ = some true := by
 rw [ai1]
 exact oW (m := rO) (isM := akc) h0 (dX (by omega) h1) (gJ _) fun i t a g1 g2 => apa (hT i t a g1 g2) (h2 _ (List.mem_of_getElem? g2)) hn
end Go.Proofs.YtipkggkbldgmjaaGreat
