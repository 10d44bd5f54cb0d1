/- Values on plain data: their parts; being the same as the program tells it and as the reference does. -/
import Derived.Test.YtipkggkbldgmjaaKRO
import Derived.Test.YtipkggkbldgmjaaKRV
import Derived.Test.YtipkggkbldgmjaaKRL0
namespace Go.Proofs.Ytipkggkbldgmjaa
open Go Go.X
set_option linter.unusedVariables false
set_option linter.unusedSimpArgs false
set_option maxRecDepth 100000
theorem call_of {f : Nat} {args : List PV} {st : St} {r : PV × St} (h : Sat ((real (call S)).cf f args st) (fun q => q = r)) : call S f args st = some r := by
  obtain ⟨_, h1, rfl⟩ := h; exact h1
def OKV (v : Value) : Prop := WT tab 27 (e_Value v)
def OKF (f : Field) : Prop := WT tab 49 (e_Field f)
theorem okV_parts {k n : Int} {s key : ByteArray} {l : List Value} {f : List Field} {x : Option (List Value)} {fx : Option (List Field)} {e : Int} {hk : Bool} (h : OKV (Value.mk k n s ⟨l, x⟩ ⟨f, fx⟩ e key hk)) :
    l.length * 112 ≤ reachBytes ∧ (∀ v ∈ l, OKV v) ∧ f.length * 128 ≤ reachBytes ∧ (∀ q ∈ f, OKF q) := by
  obtain ⟨a0, _, e0, h0, a1, _, e1, h1, a2, _, e2, h2, a3, _, e3, h3, a4, _, e4, h4, _⟩ := h.agg_inv ty_27 rfl
  obtain ⟨_, rfl, _⟩ := h0.int_inv ty_23
  obtain ⟨_, rfl, _⟩ := h1.int_inv ty_2
  obtain ⟨_, rfl, _⟩ := h2.str_inv ty_9
  obtain ⟨r3, q3, rfl, l3, m3, _⟩ := h3.slice_room ty_24
  obtain ⟨r4, q4, rfl, l4, m4, _⟩ := h4.slice_room ty_22
  subst e4; subst e3; subst e2; subst e1
  simp only [e_Value, es_Value, es_Field, List.cons_append, List.nil_append, List.cons.injEq, D.sl.injEq] at e0
  obtain ⟨_, _, _, ⟨rfl, _⟩, ⟨rfl, _⟩, _⟩ := e0
  rw [el_Value_map] at l3 m3
  rw [el_Field_map] at l4 m4
  simp only [List.length_map, List.mem_map, forall_exists_index, and_imp, forall_apply_eq_imp_iff₂, Nat.add_mul] at l3 m3 l4 m4
  exact ⟨by omega, m3, by omega, m4⟩
theorem okF_parts {n : ByteArray} {v : Value} (h : OKF (Field.mk n v)) : OKV v := by
  obtain ⟨a0, _, e0, h0, a1, _, e1, h1, e2⟩ := h.agg_inv ty_49 rfl
  obtain ⟨_, rfl, _⟩ := h0.str_inv ty_9
  subst e2; subst e1
  simp only [e_Field, List.cons_append, List.nil_append, List.cons.injEq, List.append_nil] at e0
  obtain ⟨_, rfl⟩ := e0
  exact h1
theorem size_L {x : Value} {k n : Int} {s key : ByteArray} {l : List Value} {lx : Option (List Value)} {f : Sl Field} {e : Int} {hk : Bool} (h : x ∈ l) : SizeOf.sizeOf x < SizeOf.sizeOf (Value.mk k n s ⟨l, lx⟩ f e key hk) := by
  have := List.sizeOf_lt_of_mem h
  simp only [Value.mk.sizeOf_spec, Sl.mk.sizeOf_spec]
  omega
theorem size_F {q : Field} {k n : Int} {s key : ByteArray} {f : List Field} {fx : Option (List Field)} {l : Sl Value} {e : Int} {hk : Bool} (h : q ∈ f) : SizeOf.sizeOf q < SizeOf.sizeOf (Value.mk k n s l ⟨f, fx⟩ e key hk) := by
  have := List.sizeOf_lt_of_mem h
  simp only [Value.mk.sizeOf_spec, Sl.mk.sizeOf_spec]
  omega
theorem size_V {m : ByteArray} {v : Value} : SizeOf.sizeOf v < SizeOf.sizeOf (Field.mk m v) := by
  simp only [Field.mk.sizeOf_spec]
  omega

/-! Alike but for what lies behind lists. -/
def fldR (p : Value → Value → Prop) : Field → Field → Prop
  | ⟨m, v⟩, ⟨m', v'⟩ => m = m' ∧ p v v'
def Ali : Nat → Value → Value → Prop
  | 0, _, _ => False
  | N + 1, .mk k n s ⟨l, _⟩ ⟨f, _⟩ e c b, .mk k' n' s' ⟨l', _⟩ ⟨f', _⟩ e' c' b' => k = k' ∧ n = n' ∧ s = s' ∧ e = e' ∧ c = c' ∧ b = b' ∧
      (l.length = l'.length ∧ ∀ (i : Nat) t a, l[i]? = some t → l'[i]? = some a → Ali N t a) ∧ f.length = f'.length ∧ ∀ (i : Nat) t a, f[i]? = some t → f'[i]? = some a → fldR (Ali N) t a
theorem Ali.refl : ∀ (N : Nat) (v : Value), SizeOf.sizeOf v ≤ N → Ali N v v := by
  intro N
  induction N with
  | zero =>
    intro v h
    obtain ⟨_, _, _, ⟨_, _⟩, ⟨_, _⟩, _, _, _⟩ := v
    simp only [Value.mk.sizeOf_spec] at h
    omega
  | succ N ih =>
    intro v h
    obtain ⟨k, n, s, ⟨l, x⟩, ⟨f, y⟩, e, c, b⟩ := v
    refine ⟨rfl, rfl, rfl, rfl, rfl, rfl, ⟨rfl, fun i t a h1 h2 => ?_⟩, rfl, fun i t a h1 h2 => ?_⟩
    · rw [h1] at h2; cases h2
      have := size_L (k := k) (n := n) (s := s) (key := c) (lx := x) (f := ⟨f, y⟩) (e := e) (hk := b) (List.mem_of_getElem? h1)
      exact ih t (by omega)
    · rw [h1] at h2; cases h2
      have := size_F (k := k) (n := n) (s := s) (key := c) (l := ⟨l, x⟩) (fx := y) (e := e) (hk := b) (List.mem_of_getElem? h1)
      obtain ⟨m, v⟩ := t
      have := size_V (m := m) (v := v)
      exact ⟨rfl, ih v (by omega)⟩

theorem eqV_st (fu : Nat) (p : Value → Value → Option Bool) (a b : List Value) : P36_s0 fu p a b = stAll a b p := by
  funext i
  unfold P36_s0 stAll
  dsimp only
  cases decide (i < ln a)
  · rfl
  · cases idx a i with
    | none => rfl
    | some x =>
      obtain ⟨_, _, _, ⟨_, _⟩, ⟨_, _⟩, _, _, _⟩ := x
      cases idx b i with
      | none => rfl
      | some y =>
        obtain ⟨_, _, _, ⟨_, _⟩, ⟨_, _⟩, _, _, _⟩ := y
        rfl
theorem refV_st (fu : Nat) (p : Value → Value → Option Bool) (a b : List Value) : P33_s0 fu p a b = stAll a b p := eqV_st fu p a b
theorem eqF_st (fu : Nat) (p : Field → Field → Option Bool) (a b : List Field) : P72_s0 fu p a b = stAll a b p := by
  funext i
  unfold P72_s0 stAll
  dsimp only
  cases decide (i < ln a)
  · rfl
  · cases idx a i with
    | none => rfl
    | some x =>
      obtain ⟨_, ⟨_, _, _, ⟨_, _⟩, ⟨_, _⟩, _, _, _⟩⟩ := x
      cases idx b i with
      | none => rfl
      | some y =>
        obtain ⟨_, ⟨_, _, _, ⟨_, _⟩, ⟨_, _⟩, _, _, _⟩⟩ := y
        rfl
/-- Fields, held against each other. -/
def fld (p : Value → Value → Option Bool) : Field → Field → Option Bool
  | ⟨n, v⟩, ⟨m, w⟩ => bif seq n m then p v w else some false
theorem refF_st (fu : Nat) (p : Value → Value → Option Bool) (a b : List Field) : P56_s0 fu p a b = stAll a b (fld p) := by
  funext i
  unfold P56_s0 stAll
  dsimp only
  cases hd : decide (i < ln a)
  · rfl
  · cases h1 : idx a i with
    | none => rfl
    | some x =>
      obtain ⟨n, ⟨_, _, _, ⟨_, _⟩, ⟨_, _⟩, _, _, _⟩⟩ := x
      cases h2 : idx b i with
      | none => rfl
      | some y =>
        obtain ⟨m, ⟨_, _, _, ⟨_, _⟩, ⟨_, _⟩, _, _, _⟩⟩ := y
        simp only [Option.bind_some, cond_true, fld, Bool.not_not]
        cases seq n m with
        | false => rfl
        | true =>
          simp only [cond_true]
          cases p _ _ with
          | none => rfl
          | some r => cases r <;> rfl
theorem sameF_fld (fu : Nat) (a b : Field) : P73 (fu + 1) a b = fld (P32 fu) a b := by
  obtain ⟨n, ⟨_, _, _, ⟨_, _⟩, ⟨_, _⟩, _, _, _⟩⟩ := a
  obtain ⟨m, ⟨_, _, _, ⟨_, _⟩, ⟨_, _⟩, _, _, _⟩⟩ := b
  rw [P73.eq_2]
  simp only [Pb73, bind_id, fld]

theorem sameFs_eq {N n m : Nat} (ih : ∀ (n m : Nat) (a b ta tb : Value), Ali N ta a → Ali N tb b → 4 * N ≤ n → 4 * N ≤ m → OKV a → ∃ r, P32 n ta tb = some r ∧ P33 m a b = some r)
    {f g tf tg : List Field} {fx gx tfx tgx : Option (List Field)} (a1 : tf.length = f.length) (a2 : ∀ (i : Nat) t a, tf[i]? = some t → f[i]? = some a → fldR (Ali N) t a)
    (b1 : tg.length = g.length) (b2 : ∀ (i : Nat) t a, tg[i]? = some t → g[i]? = some a → fldR (Ali N) t a) (hn : 4 * N ≤ n) (hm : 4 * N ≤ m) (o1 : f.length * 128 ≤ reachBytes) (o2 : ∀ q ∈ f, OKF q) :
    ∃ r, P55 (n + 3) ⟨tf, tfx⟩ ⟨tg, tgx⟩ = some r ∧ P56 (m + 2) ⟨f, fx⟩ ⟨g, gx⟩ = some r := by
  have hlen := len_room (by omega) o1
  rw [P55.eq_2, P56.eq_2]
  simp only [bind_id, Pb55, P72, Pb56, eqF_st, refF_st]
  by_cases hl : f.length = g.length
  · have e1 : (!(ln f == ln g)) = false := by simp [ln, hl]
    have e2 : (!(ln tf == ln tg)) = false := by simp [ln, a1, b1, hl]
    simp only [e1, e2, cond_false]
    obtain ⟨r, w1, w2⟩ := both2 (a := tf) (b := tg) (a' := f) (b' := g) (p := P73 (n + 2)) (p' := fld (P33 (m + 1))) (n := f.length) a1 (by omega) rfl hl.symm (by omega) (fun i x y x' y' hx hy hx' hy' => by
      rw [sameF_fld]
      obtain ⟨q1, r1⟩ := x
      obtain ⟨q2, r2⟩ := y
      obtain ⟨q3, r3⟩ := x'
      obtain ⟨q4, r4⟩ := y'
      obtain ⟨rfl, h1⟩ := a2 i _ _ hx hx'
      obtain ⟨rfl, h2⟩ := b2 i _ _ hy hy'
      obtain ⟨r, g1, g2⟩ := ih (n + 1) (m + 1) r3 r4 r1 r2 h1 h2 (by omega) (by omega) (okF_parts (o2 _ (List.mem_of_getElem? hx')))
      simp only [fld, g1, g2]
      cases seq q1 q2 <;> exact ⟨_, rfl, rfl⟩)
    refine ⟨r, ?_, ?_⟩
    · rw [w1.use (t := some true) (f := some false) (fun _ => rfl) (fun _ => rfl)]; cases r <;> rfl
    · rw [w2.use (t := some true) (f := some false) (fun _ => rfl) (fun _ => rfl)]; cases r <;> rfl
  · have e1 : (!(ln f == ln g)) = true := by simp [ln]; omega
    have e2 : (!(ln tf == ln tg)) = true := by simp [ln]; omega
    simp only [e1, e2, cond_true]
    exact ⟨false, rfl, rfl⟩
/-- The program tells of such as are alike what the reference tells. -/
theorem same_ali : ∀ (N n m : Nat) (a b ta tb : Value), Ali N ta a → Ali N tb b → 4 * N ≤ n → 4 * N ≤ m → OKV a → ∃ r, P32 n ta tb = some r ∧ P33 m a b = some r := by
  intro N
  induction N with
  | zero => intro n m a b ta tb h; exact absurd h (by obtain ⟨_, _, _, ⟨_, _⟩, ⟨_, _⟩, _, _, _⟩ := ta; simp [Ali])
  | succ N ih =>
    intro n m a b ta tb ha hb hn hm oa
    obtain ⟨n', rfl⟩ : ∃ n', n = n' + 4 := ⟨n - 4, by omega⟩
    obtain ⟨m', rfl⟩ : ∃ m', m = m' + 4 := ⟨m - 4, by omega⟩
    obtain ⟨k1, n1, s1, ⟨l1, x1⟩, ⟨f1, y1⟩, e1, c1, b1⟩ := a
    obtain ⟨k2, n2, s2, ⟨l2, x2⟩, ⟨f2, y2⟩, e2, c2, b2⟩ := b
    obtain ⟨k3, n3, s3, ⟨l3, x3⟩, ⟨f3, y3⟩, e3, c3, b3⟩ := ta
    obtain ⟨k4, n4, s4, ⟨l4, x4⟩, ⟨f4, y4⟩, e4, c4, b4⟩ := tb
    obtain ⟨rfl, rfl, rfl, rfl, rfl, rfl, ⟨u1, u2⟩, u3, u4⟩ := ha
    obtain ⟨rfl, rfl, rfl, rfl, rfl, rfl, ⟨v1, v2⟩, v3, v4⟩ := hb
    obtain ⟨p1, p2, p3, p4⟩ := okV_parts oa
    have hlen := len_room (by omega) p1
    rw [P32.eq_2, P33.eq_2]
    simp only [Pb32, Pb33, Bool.not_not]
    cases k3 == k4 with
    | false => exact ⟨_, rfl, rfl⟩
    | true =>
    cases n3 == n4 with
    | false => exact ⟨_, rfl, rfl⟩
    | true =>
    cases seq s3 s4 with
    | false => exact ⟨_, rfl, rfl⟩
    | true =>
    cases e3 == e4 with
    | false => exact ⟨_, rfl, rfl⟩
    | true =>
    cases seq c3 c4 with
    | false => exact ⟨_, rfl, rfl⟩
    | true =>
    cases b3 == b4 with
    | false => exact ⟨_, rfl, rfl⟩
    | true =>
    simp only [cond_true, P36, eqV_st, refV_st, Option.bind_some]
    by_cases hl : l1.length = l2.length
    · have h0 : (!(ln l1 == ln l2)) = false := by simp [ln, hl]
      have h0' : (!(ln l3 == ln l4)) = false := by simp [ln, u1, v1, hl]
      simp only [h0, h0', cond_false]
      obtain ⟨r, w1, w2⟩ := both2 (a := l3) (b := l4) (a' := l1) (b' := l2) (p := P32 (n' + 3)) (p' := P33 (m' + 3)) (n := l1.length) u1 (by omega) rfl hl.symm (by omega) (fun i x y x' y' hx hy hx' hy' =>
        ih (n' + 3) (m' + 3) x' y' x y (u2 i _ _ hx hx') (v2 i _ _ hy hy') (by omega) (by omega) (p2 _ (List.mem_of_getElem? hx')))
      obtain ⟨r2, z1, z2⟩ := sameFs_eq (fx := y1) (gx := y2) (tfx := y3) (tgx := y4) (n := n') (m := m' + 1) ih u3 u4 v3 v4 (by omega) (by omega) p3 p4
      refine ⟨bif r then r2 else false, ?_, ?_⟩
      · rw [w1.use (t := some true) (f := some false) (fun _ => rfl) (fun _ => rfl)]
        cases r
        · rfl
        · simp only [cond_true, Option.bind_some, z1]
      · rw [w2.use (t := some r2) (f := some false) (fun _ => by dsimp only; rw [z2]; rfl) (fun _ => rfl)]; cases r <;> rfl
    · have h0 : (!(ln l1 == ln l2)) = true := by simp [ln]; omega
      have h0' : (!(ln l3 == ln l4)) = true := by simp [ln]; omega
      simp only [h0, h0', cond_true]
      exact ⟨_, rfl, rfl⟩
end Go.Proofs.Ytipkggkbldgmjaa
