/- Values on plain data: several laws, one behind the other. -/
import Derived.Test.YtdmpjlpkmokllaaDoorVEO
import Derived.Test.YtdmpjlpkmokllaaDoorVEV
import Derived.Test.YtdmpjlpkmokllaaDoorVEL0
namespace Go.Proofs.YtdmpjlpkmokllaaDoor
open Go Go.X
set_option linter.unusedVariables false
set_option linter.unusedSimpArgs false
set_option maxRecDepth 100000
def OKV (v : Value) : Prop := WT tab 27 (e_Value v)
def OKF (f : Field) : Prop := WT tab 36 (e_Field f)
theorem okV_parts {k n : Int} {s key : ByteArray} {l : List Value} {f : List Field} {x : Option (List Value)} {fx : Option (List Field)} {e : Int} {hk : Bool} (h : OKV (Value.mk k n s ⟨l, x⟩ ⟨f, fx⟩ e key hk)) :
    l.length * 112 ≤ reachBytes ∧ (∀ v ∈ l, OKV v) ∧ f.length * 128 ≤ reachBytes ∧ (∀ q ∈ f, OKF q) := by
  obtain ⟨a0, _, e0, h0, a1, _, e1, h1, a2, _, e2, h2, a3, _, e3, h3, a4, _, e4, h4, _⟩ := h.agg_inv ty_27 rfl
  obtain ⟨_, rfl, _⟩ := h0.int_inv ty_22
  obtain ⟨_, rfl, _⟩ := h1.int_inv ty_2
  obtain ⟨_, rfl, _⟩ := h2.str_inv ty_9
  obtain ⟨r3, q3, rfl, l3, m3, _⟩ := h3.slice_room ty_23
  obtain ⟨r4, q4, rfl, l4, m4, _⟩ := h4.slice_room ty_24
  subst e4; subst e3; subst e2; subst e1
  simp only [e_Value, es_Value, es_Field, List.cons_append, List.nil_append, List.cons.injEq, D.sl.injEq] at e0
  obtain ⟨_, _, _, ⟨rfl, _⟩, ⟨rfl, _⟩, _⟩ := e0
  rw [el_Value_map] at l3 m3
  rw [el_Field_map] at l4 m4
  simp only [List.length_map, List.mem_map, forall_exists_index, and_imp, forall_apply_eq_imp_iff₂, Nat.add_mul] at l3 m3 l4 m4
  exact ⟨by omega, m3, by omega, m4⟩
theorem okF_parts {n : ByteArray} {v : Value} (h : OKF (Field.mk n v)) : OKV v := by
  obtain ⟨a0, _, e0, h0, a1, _, e1, h1, e2⟩ := h.agg_inv ty_36 rfl
  obtain ⟨_, rfl, _⟩ := h0.str_inv ty_9
  subst e2; subst e1
  simp only [e_Field, List.cons_append, List.nil_append, List.cons.injEq, List.append_nil] at e0
  obtain ⟨_, rfl⟩ := e0
  exact h1
theorem size_L {x : Value} {k n : Int} {s key : ByteArray} {l : List Value} {lx : Option (List Value)} {f : Sl Field} {e : Int} {hk : Bool} (h : x ∈ l) : SizeOf.sizeOf x < SizeOf.sizeOf (Value.mk k n s ⟨l, lx⟩ f e key hk) := by
  have := List.sizeOf_lt_of_mem h
  simp only [Value.mk.sizeOf_spec, Sl.mk.sizeOf_spec]
  omega
theorem size_F {q : Field} {k n : Int} {s key : ByteArray} {f : List Field} {fx : Option (List Field)} {l : Sl Value} {e : Int} {hk : Bool} (h : q ∈ f) : SizeOf.sizeOf q < SizeOf.sizeOf (Value.mk k n s l ⟨f, fx⟩ e key hk) := by
  have := List.sizeOf_lt_of_mem h
  simp only [Value.mk.sizeOf_spec, Sl.mk.sizeOf_spec]
  omega
theorem size_V {m : ByteArray} {v : Value} : SizeOf.sizeOf v < SizeOf.sizeOf (Field.mk m v) := by
  simp only [Field.mk.sizeOf_spec]
  omega

/-! Alike but for what lies behind lists. -/
def fldR (p : Value → Value → Prop) : Field → Field → Prop
  | ⟨m, v⟩, ⟨m', v'⟩ => m = m' ∧ p v v'
def Ali : Nat → Value → Value → Prop
  | 0, _, _ => False
  | N + 1, .mk k n s ⟨l, _⟩ ⟨f, _⟩ e c b, .mk k' n' s' ⟨l', _⟩ ⟨f', _⟩ e' c' b' => k = k' ∧ n = n' ∧ s = s' ∧ e = e' ∧ c = c' ∧ b = b' ∧
      (l.length = l'.length ∧ ∀ (i : Nat) t a, l[i]? = some t → l'[i]? = some a → Ali N t a) ∧ f.length = f'.length ∧ ∀ (i : Nat) t a, f[i]? = some t → f'[i]? = some a → fldR (Ali N) t a
theorem Ali.refl : ∀ (N : Nat) (v : Value), SizeOf.sizeOf v ≤ N → Ali N v v := by
  intro N
  induction N with
  | zero =>
    intro v h
    obtain ⟨_, _, _, ⟨_, _⟩, ⟨_, _⟩, _, _, _⟩ := v
    simp only [Value.mk.sizeOf_spec] at h
    omega
  | succ N ih =>
    intro v h
    obtain ⟨k, n, s, ⟨l, x⟩, ⟨f, y⟩, e, c, b⟩ := v
    refine ⟨rfl, rfl, rfl, rfl, rfl, rfl, ⟨rfl, fun i t a h1 h2 => ?_⟩, rfl, fun i t a h1 h2 => ?_⟩
    · rw [h1] at h2; cases h2
      have := size_L (k := k) (n := n) (s := s) (key := c) (lx := x) (f := ⟨f, y⟩) (e := e) (hk := b) (List.mem_of_getElem? h1)
      exact ih t (by omega)
    · rw [h1] at h2; cases h2
      have := size_F (k := k) (n := n) (s := s) (key := c) (l := ⟨l, x⟩) (fx := y) (e := e) (hk := b) (List.mem_of_getElem? h1)
      obtain ⟨m, v⟩ := t
      have := size_V (m := m) (v := v)
      exact ⟨rfl, ih v (by omega)⟩

def fldP (p : Value → Prop) : Field → Prop
  | ⟨_, v⟩ => p v
def Fit : Nat → Value → Prop
  | 0, _ => False
  | N + 1, .mk _ _ _ ⟨l, _⟩ ⟨f, _⟩ _ _ _ => (l.length * 112 ≤ reachBytes ∧ ∀ v ∈ l, Fit N v) ∧ f.length * 128 ≤ reachBytes ∧ ∀ q ∈ f, fldP (Fit N) q
theorem fit_of : ∀ (N : Nat) (v : Value), SizeOf.sizeOf v ≤ N → OKV v → Fit N v := by
  intro N
  induction N with
  | zero =>
    intro v h
    obtain ⟨_, _, _, ⟨_, _⟩, ⟨_, _⟩, _, _, _⟩ := v
    simp only [Value.mk.sizeOf_spec] at h
    omega
  | succ N ih =>
    intro v h ov
    obtain ⟨k, n, s, ⟨l, x⟩, ⟨f, y⟩, e, c, b⟩ := v
    obtain ⟨p1, p2, p3, p4⟩ := okV_parts ov
    refine ⟨⟨p1, fun v hv => ?_⟩, p3, fun q hq => ?_⟩
    · have := size_L (k := k) (n := n) (s := s) (key := c) (lx := x) (f := ⟨f, y⟩) (e := e) (hk := b) hv
      exact ih v (by omega) (p2 v hv)
    · have := size_F (k := k) (n := n) (s := s) (key := c) (l := ⟨l, x⟩) (fx := y) (e := e) (hk := b) hq
      obtain ⟨m, v⟩ := q
      have := size_V (m := m) (v := v)
      exact ih v (by omega) (okF_parts (p4 _ hq))
theorem fit_ali : ∀ (N : Nat) (t v : Value), Ali N t v → Fit N v → Fit N t := by
  intro N
  induction N with
  | zero => intro t v h; exact absurd h (by obtain ⟨_, _, _, ⟨_, _⟩, ⟨_, _⟩, _, _, _⟩ := t; simp [Ali])
  | succ N ih =>
    intro t v h hf
    obtain ⟨k, n, s, ⟨l, x⟩, ⟨f, y⟩, e, c, b⟩ := v
    obtain ⟨k', n', s', ⟨l', x'⟩, ⟨f', y'⟩, e', c', b'⟩ := t
    obtain ⟨_, _, _, _, _, _, ⟨h1, h2⟩, h3, h4⟩ := h
    obtain ⟨⟨p1, p2⟩, p3, p4⟩ := hf
    refine ⟨⟨by rw [h1]; exact p1, fun u hu => ?_⟩, by rw [h3]; exact p3, fun q hq => ?_⟩
    · obtain ⟨i, hi⟩ := List.mem_iff_getElem?.1 hu
      have hl : i < l.length := by rw [← h1]; exact (List.getElem?_eq_some_iff.1 hi).1
      exact ih _ _ (h2 i u l[i] hi (List.getElem?_eq_getElem hl)) (p2 _ (List.getElem_mem hl))
    · obtain ⟨i, hi⟩ := List.mem_iff_getElem?.1 hq
      have hl : i < f.length := by rw [← h3]; exact (List.getElem?_eq_some_iff.1 hi).1
      have h5 := h4 i q f[i] hi (List.getElem?_eq_getElem hl)
      have h6 := p4 _ (List.getElem_mem hl)
      obtain ⟨m, u⟩ := q
      generalize f[i] = q' at h5 h6
      obtain ⟨m', v⟩ := q'
      exact ih _ _ h5.2 h6
theorem Ali.symm : ∀ (N : Nat) (t v : Value), Ali N t v → Ali N v t := by
  intro N
  induction N with
  | zero => intro t v h; exact absurd h (by obtain ⟨_, _, _, ⟨_, _⟩, ⟨_, _⟩, _, _, _⟩ := t; simp [Ali])
  | succ N ih =>
    intro t v h
    obtain ⟨k, n, s, ⟨l, x⟩, ⟨f, y⟩, e, c, b⟩ := v
    obtain ⟨k', n', s', ⟨l', x'⟩, ⟨f', y'⟩, e', c', b'⟩ := t
    obtain ⟨h1, h2, h3, h4, h5, h6, ⟨h7, h8⟩, h9, h10⟩ := h
    refine ⟨h1.symm, h2.symm, h3.symm, h4.symm, h5.symm, h6.symm, ⟨h7.symm, fun i t a g1 g2 => ih _ _ (h8 i a t g2 g1)⟩, h9.symm, fun i t a g1 g2 => ?_⟩
    have := h10 i a t g2 g1
    obtain ⟨m, u⟩ := a
    obtain ⟨m', u'⟩ := t
    exact ⟨this.1.symm, ih _ _ this.2⟩
theorem Ali.trans : ∀ (N : Nat) (a b c : Value), Ali N a b → Ali N b c → Ali N a c := by
  intro N
  induction N with
  | zero => intro a b c h; exact absurd h (by obtain ⟨_, _, _, ⟨_, _⟩, ⟨_, _⟩, _, _, _⟩ := a; simp [Ali])
  | succ N ih =>
    intro a b c h k
    obtain ⟨k1, n1, s1, ⟨l1, x1⟩, ⟨f1, y1⟩, e1, c1, b1⟩ := a
    obtain ⟨k2, n2, s2, ⟨l2, x2⟩, ⟨f2, y2⟩, e2, c2, b2⟩ := b
    obtain ⟨k3, n3, s3, ⟨l3, x3⟩, ⟨f3, y3⟩, e3, c3, b3⟩ := c
    obtain ⟨h1, h2, h3, h4, h5, h6, ⟨h7, h8⟩, h9, h10⟩ := h
    obtain ⟨g1, g2, g3, g4, g5, g6, ⟨g7, g8⟩, g9, g10⟩ := k
    refine ⟨h1.trans g1, h2.trans g2, h3.trans g3, h4.trans g4, h5.trans g5, h6.trans g6, ⟨h7.trans g7, fun i t a u1 u2 => ?_⟩, h9.trans g9, fun i t a u1 u2 => ?_⟩
    · have hl : i < l2.length := by rw [← h7]; exact (List.getElem?_eq_some_iff.1 u1).1
      exact ih _ _ _ (h8 i t l2[i] u1 (List.getElem?_eq_getElem hl)) (g8 i l2[i] a (List.getElem?_eq_getElem hl) u2)
    · have hl : i < f2.length := by rw [← h9]; exact (List.getElem?_eq_some_iff.1 u1).1
      have w1 := h10 i t f2[i] u1 (List.getElem?_eq_getElem hl)
      have w2 := g10 i f2[i] a (List.getElem?_eq_getElem hl) u2
      generalize f2[i] = q at w1 w2
      obtain ⟨m1, v1⟩ := t
      obtain ⟨m2, v2⟩ := q
      obtain ⟨m3, v3⟩ := a
      exact ⟨w1.1.trans w2.1, ih _ _ _ w1.2 w2.2⟩
theorem eqV_st (fu : Nat) (p : Value → Value → Option Bool) (a b : List Value) : P38_s0 fu p a b = stAll a b p := by
  funext i
  unfold P38_s0 stAll
  dsimp only
  cases decide (i < ln a)
  · rfl
  · cases idx a i with
    | none => rfl
    | some x =>
      obtain ⟨_, _, _, ⟨_, _⟩, ⟨_, _⟩, _, _, _⟩ := x
      cases idx b i with
      | none => rfl
      | some y =>
        obtain ⟨_, _, _, ⟨_, _⟩, ⟨_, _⟩, _, _, _⟩ := y
        rfl
theorem eqF_st (fu : Nat) (p : Field → Field → Option Bool) (a b : List Field) : P62_s0 fu p a b = stAll a b p := by
  funext i
  unfold P62_s0 stAll
  dsimp only
  cases decide (i < ln a)
  · rfl
  · cases idx a i with
    | none => rfl
    | some x =>
      obtain ⟨_, ⟨_, _, _, ⟨_, _⟩, ⟨_, _⟩, _, _, _⟩⟩ := x
      cases idx b i with
      | none => rfl
      | some y =>
        obtain ⟨_, ⟨_, _, _, ⟨_, _⟩, ⟨_, _⟩, _, _, _⟩⟩ := y
        rfl
/-- Fields, held against each other. -/
def fld (p : Value → Value → Option Bool) : Field → Field → Option Bool
  | ⟨n, v⟩, ⟨m, w⟩ => bif seq n m then p v w else some false
theorem sameF_fld (fu : Nat) (a b : Field) : P63 (fu + 1) a b = fld (P17 fu) a b := by
  obtain ⟨n, ⟨_, _, _, ⟨_, _⟩, ⟨_, _⟩, _, _, _⟩⟩ := a
  obtain ⟨m, ⟨_, _, _, ⟨_, _⟩, ⟨_, _⟩, _, _, _⟩⟩ := b
  rw [P63.eq_2]
  simp only [Pb63, bind_id, fld]

theorem name_t (fu : Nat) (s : ByteArray) : ∃ r, P51 fu s = some r := by
  unfold P51
  cases !(seq s ByteArray.empty) <;> exact ⟨_, rfl⟩
theorem own_t (fu : Nat) (e : Int) : ∃ r, P84 fu e = some r ∧ r.1.l.length ≤ 2 := by
  unfold P84
  cases e == 6 <;> cases e == 7 <;> cases e == 8 <;> cases e == 4 <;> cases e == 5 <;> exact ⟨_, rfl, by decide⟩
theorem named_st (fu : Nat) (p : Field → ByteArray → Option Bool) (a : List Field) (b : List ByteArray) : P85_s0 fu p a b = stAll a b p := by
  funext i
  unfold P85_s0 stAll
  dsimp only
  cases decide (i < ln a)
  · rfl
  · cases idx a i with
    | none => rfl
    | some x =>
      obtain ⟨_, ⟨_, _, _, ⟨_, _⟩, ⟨_, _⟩, _, _, _⟩⟩ := x
      cases idx b i with
      | none => rfl
      | some y => rfl
theorem named_t (fu : Nat) (f : List Field) (fx : Option (List Field)) (ks : List ByteArray) (kx : Option (List ByteArray)) (hk : ks.length ≤ 2) : ∃ r, P85 fu ⟨f, fx⟩ ⟨ks, kx⟩ (P86 fu) = some r := by
  unfold P85
  dsimp only
  rw [named_st]
  by_cases hl : f.length = ks.length
  · have e1 : (!(ln f == ln ks)) = false := by simp [ln, hl]
    rw [e1]
    dsimp only [cond_false]
    obtain ⟨q, h1, _⟩ := stAll_ok f ks (P86 fu) (fun q s => (P86 fu q s).getD false) hl (by omega) (fun x hx y hy => by
      obtain ⟨m, ⟨_, _, _, ⟨_, _⟩, ⟨_, _⟩, _, _, _⟩⟩ := x
      rfl)
    rw [h1]
    cases q <;> exact ⟨_, rfl⟩
  · have e1 : (!(ln f == ln ks)) = true := by simp [ln]; omega
    rw [e1]
    exact ⟨_, rfl⟩
theorem elem_t (fu : Nat) (v : Value) : ∃ r, P52 fu v = some r := by
  obtain ⟨k, n, s, ⟨l, x⟩, ⟨f, y⟩, e, c, b⟩ := v
  obtain ⟨⟨⟨ks, kx⟩, q⟩, h1, h2⟩ := own_t fu e
  obtain ⟨r1, h3⟩ := named_t fu f y ks kx h2
  obtain ⟨r2, h4⟩ := name_t fu s
  unfold P52
  dsimp only
  refine ex_bind ?_ fun i => ?_
  · repeat' (first | exact ⟨_, rfl⟩ | refine ex_bif ?_ ?_)
  · cases i with
    | true => exact ⟨_, rfl⟩
    | false =>
      rw [h1]
      dsimp only [cond_false, Option.bind_some]
      rw [h3, h4]
      repeat' (first | exact ⟨_, rfl⟩ | refine ex_bif ?_ ?_ | (refine ex_bind ?_ fun _ => ?_) | dsimp only)
theorem index_st (fu : Nat) (l : List Int) (a : Int) : P87_s0 fu l a = stFind (fun x => some (a == x)) l := by
  funext q
  obtain ⟨r, i⟩ := q
  unfold P87_s0 stFind
  rfl
theorem kinds_t (fu : Nat) (l : List Int) (x : Option (List Int)) (hl : l.length ≤ 2) (v : Value) : ∃ r, P53x1 fu ⟨l, x⟩ v = some r := by
  obtain ⟨_, _, _, ⟨_, _⟩, ⟨_, _⟩, _, _, _⟩ := v
  unfold P53x1 P54 P87
  dsimp only
  rw [index_st, find_ok (fun x => _) (by omega) (fun x hx => rfl)]
  cases List.findIdx? _ l <;> exact ⟨_, rfl⟩
def outA (b : Bool) (k : Int) : Option (Int ⊕ (Int ⊕ Int)) := bif b then some (.inr (.inr k)) else some (.inl (w64 (k + 1)))
theorem alone_t (fu : Nat) (v : Value) (N : Nat) (hv : Fit N v) : ∃ r, P35 fu v = some r := by
  obtain ⟨k, n, s, ⟨l, x⟩, ⟨f, y⟩, e, c, b⟩ := v
  cases N with
  | zero => exact absurd hv (by simp [Fit])
  | succ N =>
  obtain ⟨_, h1, _⟩ := hv
  have hf := len_room (by omega) h1
  unfold P35
  dsimp only
  refine ex_bind ?_ fun q => ?_
  · refine wl_tot (fun i => i) f.length (fun i k hi hk => ?_) 0 rfl
    subst hi
    unfold P35_s0
    dsimp only
    by_cases hlt : k < f.length
    · rw [lt_true hlt, idx_lt f k hlt]
      generalize hx : f[k] = x
      obtain ⟨m, ⟨_, _, _, ⟨_, _⟩, ⟨_, _⟩, _, _, _⟩⟩ := x
      dsimp only [cond_true, Option.bind_some]
      obtain ⟨r, hr⟩ := name_t fu m
      rw [hr]
      dsimp only [Option.bind_some]
      have fin : ∀ b : Bool, (∃ b', outA b (k : Int) = some (Sum.inr b')) ∨ k < f.length ∧ ∃ a', outA b (k : Int) = some (Sum.inl a') ∧ a' = ((k + 1 : Nat) : Int) := by
        intro b
        cases b with
        | true => exact .inl ⟨_, rfl⟩
        | false => exact .inr ⟨hlt, _, rfl, w64_succ (by omega)⟩
      cases r with
      | false => exact fin true
      | true =>
        cases k with
        | zero => exact fin false
        | succ k =>
          have e1 : decide (0 < ((k + 1 : Nat) : Int)) = true := by simp
          have e2 : w64 (((k + 1 : Nat) : Int) - 1) = (k : Int) := by rw [w64_id (by omega) (by omega)]; omega
          rw [e1, e2, idx_lt f k (by omega)]
          generalize hz : f[k] = z
          obtain ⟨m', ⟨_, _, _, ⟨_, _⟩, ⟨_, _⟩, _, _, _⟩⟩ := z
          exact fin (!(slt m' m))
    · have : k = f.length := by omega
      subst this
      rw [lt_false]
      exact .inl ⟨_, rfl⟩
  · cases q with
    | inr i => exact ⟨_, rfl⟩
    | inl i =>
      dsimp only
      obtain ⟨q1, e1⟩ := kinds_t fu [1, 7] (some []) (by decide) (Value.mk k n s ⟨l, x⟩ ⟨f, y⟩ e c b)
      obtain ⟨q2, e2⟩ := kinds_t fu [2] (some []) (by decide) (Value.mk k n s ⟨l, x⟩ ⟨f, y⟩ e c b)
      obtain ⟨q3, e3⟩ := kinds_t fu [3, 7] (some []) (by decide) (Value.mk k n s ⟨l, x⟩ ⟨f, y⟩ e c b)
      obtain ⟨q4, e4⟩ := kinds_t fu [4] (some []) (by decide) (Value.mk k n s ⟨l, x⟩ ⟨f, y⟩ e c b)
      obtain ⟨q5, e5⟩ := kinds_t fu [5, 7] (some []) (by decide) (Value.mk k n s ⟨l, x⟩ ⟨f, y⟩ e c b)
      obtain ⟨q6, e6⟩ := elem_t fu (Value.mk k n s ⟨l, x⟩ ⟨f, y⟩ e c b)
      simp only [Option.bind_some, e1, e2, e3, e4, e5, e6]
      repeat' (first | exact ⟨_, rfl⟩ | refine ex_bif ?_ ?_ | (refine ex_bind ?_ fun _ => ?_))
theorem walk_t : ∀ (N n : Nat) (v : Value), Fit N v → N ≤ n → ∀ (d b1 : Int) (b2 : Bool), ∃ r, P50x1 n v d b1 b2 = some r := by
  intro N
  induction N with
  | zero => intro n v h; exact absurd h (by obtain ⟨_, _, _, ⟨_, _⟩, ⟨_, _⟩, _, _, _⟩ := v; simp [Fit])
  | succ N ih =>
    intro n v h hn d b1 b2
    obtain ⟨n', rfl⟩ : ∃ n', n = n' + 1 := ⟨n - 1, by omega⟩
    have ha := alone_t n' v _ h
    obtain ⟨k, nn, s, ⟨l, x⟩, ⟨f, y⟩, e, c, b⟩ := v
    obtain ⟨⟨p1, p2⟩, p3, p4⟩ := h
    have hl1 := len_room (by omega) p1
    have hl3 := len_room (by omega) p3
    rw [P50x1.eq_2]
    unfold Pb50x1
    dsimp only
    refine ex_bind ?_ fun q => ?_
    · unfold P34x1
      dsimp only
      obtain ⟨r, hr⟩ := ha
      rw [hr]
      cases r <;> cases decide (w64 (b1 + 1) ≤ 4096) <;> exact ⟨_, rfl⟩
    · obtain ⟨r, g1, g2⟩ := q
      dsimp only
      cases r with
      | false => exact ⟨_, rfl⟩
      | true =>
        refine ex_bind ?_ fun q => ?_
        · refine wl_tot (fun a => a.2.2) l.length (fun a k hi hk => ?_) _ rfl
          obtain ⟨u1, u2, i⟩ := a
          dsimp only at hi
          subst hi
          unfold P50x1_s0
          dsimp only
          by_cases hlt : k < l.length
          · rw [lt_true hlt, idx_lt l k hlt]
            have hx := ih n' l[k] (p2 _ (List.getElem_mem hlt)) (by omega) (w64 (d + 1)) u1 u2
            generalize l[k] = z at hx
            obtain ⟨_, _, _, ⟨_, _⟩, ⟨_, _⟩, _, _, _⟩ := z
            dsimp only [cond_true, Option.bind_some]
            obtain ⟨⟨r, z1, z2⟩, hr⟩ := hx
            rw [hr]
            cases r with
            | false => exact .inl ⟨_, rfl⟩
            | true => exact .inr ⟨hlt, _, rfl, w64_succ (by omega)⟩
          · have : k = l.length := by omega
            subst this
            rw [lt_false]
            exact .inl ⟨_, rfl⟩
        · rcases q with ⟨q1, q2, q3⟩ | ⟨q1, q2, q3⟩
          · dsimp only
            refine ex_bind ?_ fun q => ?_
            · refine wl_tot (fun a => a.2.2) f.length (fun a k hi hk => ?_) _ rfl
              obtain ⟨u1, u2, i⟩ := a
              dsimp only at hi
              subst hi
              unfold P50x1_s1
              dsimp only
              by_cases hlt : k < f.length
              · rw [lt_true hlt, idx_lt f k hlt]
                have hq := p4 f[k] (List.getElem_mem hlt)
                generalize f[k] = z at hq
                obtain ⟨m, z⟩ := z
                have hx := ih n' z hq (by omega) (w64 (d + 1)) u1 u2
                obtain ⟨_, _, _, ⟨_, _⟩, ⟨_, _⟩, _, _, _⟩ := z
                dsimp only [cond_true, Option.bind_some]
                obtain ⟨⟨r, z1, z2⟩, hr⟩ := hx
                rw [hr]
                cases r with
                | false => exact .inl ⟨_, rfl⟩
                | true => exact .inr ⟨hlt, _, rfl, w64_succ (by omega)⟩
              · have : k = f.length := by omega
                subst this
                rw [lt_false]
                exact .inl ⟨_, rfl⟩
            · rcases q with ⟨q1, q2, q3⟩ | ⟨q1, q2, q3⟩ <;> exact ⟨_, rfl⟩
          · exact ⟨_, rfl⟩
theorem check_t {N n : Nat} {v : Value} (h : Fit N v) (hn : N ≤ n) : ∃ r, P15 n v = some r := by
  obtain ⟨⟨r, z1, z2⟩, hr⟩ := walk_t N n v h hn 1 0 true
  obtain ⟨_, _, _, ⟨_, _⟩, ⟨_, _⟩, _, _, _⟩ := v
  unfold P15 P33x1
  dsimp only
  rw [hr]
  exact ⟨_, rfl⟩
def spareB : ByteArray := ⟨#[115, 112, 97, 114, 101]⟩
def spareV : Value := Value.mk 0 0 spareB (Sl.mk [] (some [])) (Sl.mk [] (some [])) 0 ByteArray.empty false
def spareF : Field := Field.mk spareB (Value.mk 0 0 ByteArray.empty (Sl.mk [] (some [])) (Sl.mk [] (some [])) 0 ByteArray.empty false)
def Tw : Nat → Value → Value → Prop
  | 0, _, _ => False
  | N + 1, .mk k n s ⟨l, x⟩ ⟨f, y⟩ e c b, .mk k' n' s' ⟨l', _⟩ ⟨f', _⟩ e' c' b' => k = k' ∧ n = n' ∧ s = s' ∧ e = e' ∧ c = c' ∧ b = b' ∧
      (x = some [spareV] ∧ l.length = l'.length ∧ ∀ (i : Nat) t a, l[i]? = some t → l'[i]? = some a → Tw N t a) ∧
      y = some [spareF] ∧ f.length = f'.length ∧ ∀ (i : Nat) t a, f[i]? = some t → f'[i]? = some a → fldR (Tw N) t a
theorem Tw.ali : ∀ (N : Nat) (t v : Value), Tw N t v → Ali N t v := by
  intro N
  induction N with
  | zero => intro t v h; exact absurd h (by obtain ⟨_, _, _, ⟨_, _⟩, ⟨_, _⟩, _, _, _⟩ := t; simp [Tw])
  | succ N ih =>
    intro t v h
    obtain ⟨k, n, s, ⟨l, x⟩, ⟨f, y⟩, e, c, b⟩ := v
    obtain ⟨k', n', s', ⟨l', x'⟩, ⟨f', y'⟩, e', c', b'⟩ := t
    obtain ⟨h1, h2, h3, h4, h5, h6, ⟨h7, h8, h9⟩, h10, h11, h12⟩ := h
    refine ⟨h1, h2, h3, h4, h5, h6, ⟨h8, fun i t a g1 g2 => ih _ _ (h9 i t a g1 g2)⟩, h11, fun i t a g1 g2 => ?_⟩
    have := h12 i t a g1 g2
    obtain ⟨m, v⟩ := t
    obtain ⟨m', v'⟩ := a
    exact ⟨this.1, ih _ _ this.2⟩
theorem twV_st (fu : Nat) (p : Value → Option Value) (l : List Value) : P42_s0 fu p l = stTwin 112 p l := by
  funext q
  obtain ⟨o, i⟩ := q
  unfold P42_s0 stTwin
  dsimp only
  cases decide (i < ln l)
  · rfl
  · cases idx l i with
    | none => rfl
    | some x =>
      obtain ⟨_, _, _, ⟨_, _⟩, ⟨_, _⟩, _, _, _⟩ := x
      simp only [cond_true, Option.bind_some]
      cases p _ with
      | none => rfl
      | some t => obtain ⟨_, _, _, ⟨_, _⟩, ⟨_, _⟩, _, _, _⟩ := t; rfl
theorem twF_st (fu : Nat) (p : Field → Option Field) (l : List Field) : P43_s0 fu p l = stTwin 128 p l := by
  funext q
  obtain ⟨o, i⟩ := q
  unfold P43_s0 stTwin
  dsimp only
  cases decide (i < ln l)
  · rfl
  · cases idx l i with
    | none => rfl
    | some x =>
      obtain ⟨_, ⟨_, _, _, ⟨_, _⟩, ⟨_, _⟩, _, _, _⟩⟩ := x
      simp only [cond_true, Option.bind_some]
      cases p _ with
      | none => rfl
      | some t => obtain ⟨_, ⟨_, _, _, ⟨_, _⟩, ⟨_, _⟩, _, _, _⟩⟩ := t; rfl
theorem twVs_eq (fu : Nat) (l : List Value) (x : Option (List Value)) : P42 (fu + 1) ⟨l, x⟩ = twinS 112 spareV (stTwin 112 (P21 fu) l) l := by
  rw [P42.eq_2]
  unfold Pb42
  dsimp only
  rw [twV_st]
  rfl
theorem twFs_eq (fu : Nat) (l : List Field) (x : Option (List Field)) : P43 (fu + 1) ⟨l, x⟩ = twinS 128 spareF (stTwin 128 (P64 fu) l) l := by
  rw [P43.eq_2]
  unfold Pb43
  dsimp only
  rw [twF_st]
  rfl
theorem twin_V : ∀ (N n : Nat) (v : Value), SizeOf.sizeOf v ≤ N → 4 * N ≤ n → OKV v → ∃ t, P21 n v = some t ∧ Tw N t v := by
  intro N
  induction N with
  | zero =>
    intro n v h
    obtain ⟨_, _, _, ⟨_, _⟩, ⟨_, _⟩, _, _, _⟩ := v
    simp only [Value.mk.sizeOf_spec] at h
    omega
  | succ N ih =>
    intro n v h hn ov
    obtain ⟨n', rfl⟩ : ∃ n', n = n' + 4 := ⟨n - 4, by omega⟩
    obtain ⟨k, nn, s, ⟨l, x⟩, ⟨f, y⟩, e, c, b⟩ := v
    obtain ⟨p1, p2, p3, p4⟩ := okV_parts ov
    rw [P21.eq_2]
    unfold Pb21
    dsimp only
    rw [twVs_eq, twFs_eq]
    obtain ⟨o, g1, g2, g3⟩ := twin_ok (by_ := 112) (k := 112) (m := spareV) (p := P21 (n' + 2)) (l := l) (Tw N) rfl (by omega) (by omega) p1 (fun x' hx => by
      have := size_L (k := k) (n := nn) (s := s) (key := c) (lx := x) (f := ⟨f, y⟩) (e := e) (hk := b) hx
      exact ih (n' + 2) x' (by omega) (by omega) (p2 x' hx))
    obtain ⟨o2, g4, g5, g6⟩ := twin_ok (by_ := 128) (k := 128) (m := spareF) (p := P64 (n' + 2)) (l := f) (fldR (Tw N)) rfl (by omega) (by omega) p3 (fun q hq => by
      have h1 := size_F (k := k) (n := nn) (s := s) (key := c) (l := ⟨l, x⟩) (fx := y) (e := e) (hk := b) hq
      obtain ⟨m, w⟩ := q
      have h2 := size_V (m := m) (v := w)
      obtain ⟨t, h3, h4⟩ := ih (n' + 1) w (by omega) (by omega) (okF_parts (p4 _ hq))
      refine ⟨Field.mk m t, ?_, rfl, h4⟩
      rw [P64.eq_2]
      unfold Pb64
      obtain ⟨_, _, _, ⟨_, _⟩, ⟨_, _⟩, _, _, _⟩ := w
      dsimp only
      rw [h3]
      obtain ⟨_, _, _, ⟨_, _⟩, ⟨_, _⟩, _, _, _⟩ := t
      rfl)
    rw [g1, g4]
    exact ⟨_, rfl, rfl, rfl, rfl, rfl, rfl, rfl, ⟨rfl, g2, g3⟩, rfl, g5, g6⟩
theorem P13_def (fu : Nat) (l : List Int) (x : Option (List Int)) (hl : l.length ≤ 9223372036854775807) : ∃ r, P13 fu ⟨l, x⟩ = some r := by
  obtain ⟨q, hq⟩ : ∃ q, wl (P13_s0 fu l) (false, 0, 0) = some q := by
    obtain ⟨b, h1, _⟩ := wl_rule (f := P13_s0 fu l) (fun a => ∃ k : Nat, a.2.2 = (k : Int) ∧ k ≤ l.length) (fun a => l.length - a.2.2.toNat) (fun _ => True) (fun a hI => by
      obtain ⟨b, s, i⟩ := a
      obtain ⟨k, hk0, hk⟩ := hI
      dsimp only at hk0
      subst hk0
      unfold P13_s0
      dsimp only
      by_cases hlt : k < l.length
      · have h1 : decide ((k : Int) < ln l) = true := by simp [ln]; omega
        rw [h1, idx_lt l k hlt]
        simp only [cond_true, Option.bind_some]
        cases decide (1048576 < w64 (s + l[k])) with
        | true => exact .inr ⟨_, rfl, trivial⟩
        | false =>
          left
          refine ⟨_, rfl, ⟨k + 1, ?_, by omega⟩, ?_⟩
          · show w64 _ = _
            rw [w64_id (by omega) (by omega)]; rfl
          · show l.length - (w64 _).toNat < l.length - _
            rw [w64_id (by omega) (by omega)]
            omega
      · have h1 : decide ((k : Int) < ln l) = false := by simp [ln]; omega
        rw [h1]
        exact .inr ⟨_, rfl, trivial⟩) l.length (false, 0, 0) (by simp) ⟨0, rfl, by omega⟩
    exact ⟨b, h1⟩
  unfold P13
  dsimp only
  rw [hq]
  rcases q with ⟨_, _, _⟩ | ⟨_, _, _⟩ <;> exact ⟨_, rfl⟩
theorem P27_def (fu : Nat) (p : Value → Option Int) (l : List Value) (a : Int) (hl : l.length ≤ 9223372036854775807) (h : ∀ x ∈ l, ∃ r, p x = some r) : ∃ q, wl (P27_s0 fu p l) (a, 0) = some q := by
  refine wl_ends l.length hl (fun s k hk => ?_) a
  unfold P27_s0
  dsimp only
  by_cases hlt : k < l.length
  · have h1 : decide ((k : Int) < ln l) = true := by simp [ln]; omega
    rw [h1]
    simp only [cond_true]
    cases decide (s ≤ 1048576) with
    | false => exact .inl ⟨_, rfl⟩
    | true =>
      right
      refine ⟨hlt, ?_⟩
      obtain ⟨r, hr⟩ := h l[k] (List.getElem_mem hlt)
      rw [idx_lt l k hlt]
      generalize l[k] = x at hr
      obtain ⟨_, _, _, ⟨_, _⟩, ⟨_, _⟩, _, _, _⟩ := x
      simp only [cond_true, Option.bind_some, hr]
      exact ⟨_, rfl⟩
  · have h1 : decide ((k : Int) < ln l) = false := by simp [ln]; omega
    rw [h1]
    exact .inl ⟨_, rfl⟩
theorem P32_def (fu : Nat) (p : Field → Option Int) (l : List Field) (a : Int) (hl : l.length ≤ 9223372036854775807) (h : ∀ x ∈ l, ∃ r, p x = some r) : ∃ q, wl (P32_s0 fu p l) (a, 0) = some q := by
  refine wl_ends l.length hl (fun s k hk => ?_) a
  unfold P32_s0
  dsimp only
  by_cases hlt : k < l.length
  · have h1 : decide ((k : Int) < ln l) = true := by simp [ln]; omega
    rw [h1]
    simp only [cond_true]
    cases decide (s ≤ 1048576) with
    | false => exact .inl ⟨_, rfl⟩
    | true =>
      right
      refine ⟨hlt, ?_⟩
      obtain ⟨r, hr⟩ := h l[k] (List.getElem_mem hlt)
      rw [idx_lt l k hlt]
      generalize l[k] = x at hr
      obtain ⟨_, ⟨_, _, _, ⟨_, _⟩, ⟨_, _⟩, _, _, _⟩⟩ := x
      simp only [cond_true, Option.bind_some, hr]
      exact ⟨_, rfl⟩
  · have h1 : decide ((k : Int) < ln l) = false := by simp [ln]; omega
    rw [h1]
    exact .inl ⟨_, rfl⟩
/-- A value's size is told. -/
theorem P14_def : ∀ (N n : Nat) (a : Value), SizeOf.sizeOf a ≤ N → 4 * N ≤ n → OKV a → ∃ r, P14 n a = some r := by
  intro N
  induction N with
  | zero =>
    intro n a h
    obtain ⟨_, _, _, _, _, _, _, _⟩ := a
    simp only [Value.mk.sizeOf_spec] at h
    omega
  | succ N ih =>
    intro n a h hn oa
    obtain ⟨n', rfl⟩ : ∃ n', n = n' + 4 := ⟨n - 4, by omega⟩
    obtain ⟨k1, n1, s1, ⟨l1, x1⟩, ⟨f1, y1⟩, e1, c1, b1⟩ := a
    obtain ⟨p1, p2, p3, p4⟩ := okV_parts oa
    have hL : ∃ r, P27 (n' + 3) ⟨l1, x1⟩ = some r := by
      rw [P27.eq_2]
      unfold Pb27
      dsimp only
      obtain ⟨⟨q, i⟩, hq⟩ := P27_def (n' + 2) (P14 (n' + 2)) l1 (ln l1) (by have := len_room (by omega) p1; omega) fun x hx => by
        have hs := size_L (k := k1) (n := n1) (s := s1) (key := c1) (lx := x1) (f := ⟨f1, y1⟩) (e := e1) (hk := b1) hx
        exact ih (n' + 2) x (by omega) (by omega) (p2 x hx)
      rw [hq]
      exact ⟨_, rfl⟩
    have hF : ∃ r, P32 (n' + 3) ⟨f1, y1⟩ = some r := by
      rw [P32.eq_2]
      unfold Pb32
      dsimp only
      obtain ⟨⟨q, i⟩, hq⟩ := P32_def (n' + 2) (P49 (n' + 2)) f1 (ln f1) (by have := len_room (by omega) p3; omega) fun x hx => by
        have hs := size_F (k := k1) (n := n1) (s := s1) (key := c1) (l := ⟨l1, x1⟩) (fx := y1) (e := e1) (hk := b1) hx
        have ok := p4 x hx
        obtain ⟨m, v⟩ := x
        have hv := size_V (m := m) (v := v)
        obtain ⟨r, hr⟩ := ih (n' + 1) v (by omega) (by omega) (okF_parts ok)
        obtain ⟨_, _, _, ⟨_, _⟩, ⟨_, _⟩, _, _, _⟩ := v
        rw [P49.eq_2]
        unfold Pb49
        dsimp only
        cases decide (w64 (1 + (m.size : Int)) ≤ 1048576) with
        | true => rw [hr]; exact ⟨_, rfl⟩
        | false => exact ⟨_, rfl⟩
      rw [hq]
      exact ⟨_, rfl⟩
    obtain ⟨rL, hL⟩ := hL
    obtain ⟨rF, hF⟩ := hF
    rw [P14.eq_2]
    unfold Pb14
    dsimp only
    rw [hL, hF]
    simp only [Option.bind_some]
    exact ex_bind (ex_bif ⟨_, rfl⟩ ⟨_, rfl⟩) fun q => ex_bind (ex_bif ⟨_, rfl⟩ ⟨_, rfl⟩) fun q => ⟨_, rfl⟩
theorem sizes_told (N n : Nat) (l : List Value) (x : Option (List Value)) (h1 : l.length * 112 ≤ reachBytes) (h2 : ∀ v ∈ l, SizeOf.sizeOf v ≤ N ∧ OKV v) (hn : 4 * N + 1 ≤ n) : ∃ r, P27 n ⟨l, x⟩ = some r := by
  obtain ⟨n', rfl⟩ : ∃ n', n = n' + 1 := ⟨n - 1, by omega⟩
  rw [P27.eq_2]
  unfold Pb27
  dsimp only
  obtain ⟨⟨q, i⟩, hq⟩ := P27_def n' (P14 n') l (ln l) (by have := len_room (by omega) h1; omega) fun v hv => P14_def N n' v (h2 v hv).1 (by omega) (h2 v hv).2
  rw [hq]
  exact ⟨_, rfl⟩
theorem no_iff {p : Prop} (h : ¬ p) : false = true ↔ p := ⟨fun h => (by cases h), fun hp => absurd hp h⟩
theorem all_iff {A B : Type} {a : List A} {b : List B} {p : A → B → Option Bool} {R : A → B → Prop} (hl : a.length = b.length) (hn : a.length ≤ 9223372036854775807)
    (hp : ∀ (i : Nat) x y, a[i]? = some x → b[i]? = some y → ∃ r, p x y = some r ∧ (r = true ↔ R x y)) : ∃ r, Runs (wl (stAll a b p) 0) r ∧ (r = true ↔ ∀ (i : Nat) x y, a[i]? = some x → b[i]? = some y → R x y) := by
  let r : Nat → Bool := fun i => match a[i]?, b[i]? with | some x, some y => (p x y).getD false | _, _ => false
  have hr : ∀ (i : Nat) x y, a[i]? = some x → b[i]? = some y → p x y = some (r i) := fun i x y hx hy => by
    obtain ⟨q, h1, _⟩ := hp i x y hx hy
    simp only [r, hx, hy, h1, Option.getD_some]
  refine ⟨(List.range a.length).all r, stAll_runs rfl hl.symm hn hr, ?_⟩
  rw [List.all_eq_true]
  constructor
  · intro h i x y hx hy
    have hi : i < a.length := (List.getElem?_eq_some_iff.1 hx).1
    obtain ⟨q, h1, h2⟩ := hp i x y hx hy
    have h3 := hr i x y hx hy
    rw [h1] at h3
    have h4 := h i (by simpa using hi)
    cases h3
    exact h2.1 h4
  · intro h i hi
    have hi : i < a.length := by simpa using hi
    have hx : a[i]? = some a[i] := List.getElem?_eq_getElem hi
    have hy : b[i]? = some b[i] := List.getElem?_eq_getElem (by omega)
    obtain ⟨q, h1, h2⟩ := hp i _ _ hx hy
    have h3 := hr i _ _ hx hy
    rw [h1] at h3
    cases h3
    exact h2.2 (h i _ _ hx hy)
theorem same_Fs {N n : Nat} {f g : List Field} {fx gx : Option (List Field)} (h1 : f.length * 128 ≤ reachBytes) (h2 : ∀ q ∈ f, fldP (fun v => ∀ w, ∃ r, P17 n v w = some r ∧ (r = true ↔ Ali N v w)) q) :
    ∃ r, P39 (n + 2) ⟨f, fx⟩ ⟨g, gx⟩ = some r ∧ (r = true ↔ (f.length = g.length ∧ ∀ (i : Nat) t a, f[i]? = some t → g[i]? = some a → fldR (Ali N) t a)) := by
  have hlen := len_room (by omega) h1
  rw [P39.eq_2]
  simp only [bind_id, Pb39, P62, eqF_st]
  by_cases hl : f.length = g.length
  · have e1 : (!(ln f == ln g)) = false := by simp [ln, hl]
    rw [e1, cond_false]
    obtain ⟨r, w1, w2⟩ := all_iff (a := f) (b := g) (p := P63 (n + 1)) (R := fldR (Ali N)) hl (by omega) (fun i x y hx hy => by
      have hq := h2 x (List.mem_of_getElem? hx)
      rw [sameF_fld]
      obtain ⟨m, v⟩ := x
      obtain ⟨m', v'⟩ := y
      obtain ⟨r, g1, g2⟩ := hq v'
      simp only [fld, g1]
      cases hs : seq m m' with
      | true =>
        have := seq_iff.1 hs
        exact ⟨r, rfl, g2.trans ⟨fun h => ⟨this, h⟩, fun h => h.2⟩⟩
      | false =>
        exact ⟨false, rfl, no_iff fun h => by rw [h.1, seq_self] at hs; cases hs⟩)
    refine ⟨r, ?_, w2.trans ⟨fun h => ⟨hl, h⟩, fun h => h.2⟩⟩
    rw [w1.use (t := some true) (f := some false) (fun _ => rfl) (fun _ => rfl)]
    cases r <;> rfl
  · have e1 : (!(ln f == ln g)) = true := by simp [ln]; omega
    rw [e1, cond_true]
    exact ⟨false, rfl, no_iff fun h => absurd h.1 hl⟩
theorem same_iff : ∀ (N n : Nat) (a b : Value), Fit N a → 4 * N ≤ n → ∃ r, P17 n a b = some r ∧ (r = true ↔ Ali N a b) := by
  intro N
  induction N with
  | zero => intro n a b h; exact absurd h (by obtain ⟨_, _, _, ⟨_, _⟩, ⟨_, _⟩, _, _, _⟩ := a; simp [Fit])
  | succ N ih =>
    intro n a b h hn
    obtain ⟨n', rfl⟩ : ∃ n', n = n' + 4 := ⟨n - 4, by omega⟩
    obtain ⟨k1, n1, s1, ⟨l1, x1⟩, ⟨f1, y1⟩, e1, c1, b1⟩ := a
    obtain ⟨k2, n2, s2, ⟨l2, x2⟩, ⟨f2, y2⟩, e2, c2, b2⟩ := b
    obtain ⟨⟨p1, p2⟩, p3, p4⟩ := h
    have hlen := len_room (by omega) p1
    obtain ⟨rF, z1, z2⟩ := same_Fs (N := N) (n := n' + 1) (fx := y1) (gx := y2) (g := f2) p3 (fun q hq => by
      have := p4 q hq
      obtain ⟨m, v⟩ := q
      exact fun w => ih (n' + 1) v w this (by omega))
    have hL : ∃ r, P38 (n' + 3) ⟨l1, x1⟩ ⟨l2, x2⟩ (P17 (n' + 3)) = some r ∧ (r = true ↔ (l1.length = l2.length ∧ ∀ (i : Nat) t a, l1[i]? = some t → l2[i]? = some a → Ali N t a)) := by
      unfold P38
      dsimp only
      rw [eqV_st]
      by_cases hl : l1.length = l2.length
      · have e1 : (!(ln l1 == ln l2)) = false := by simp [ln, hl]
        rw [e1, cond_false]
        obtain ⟨r, w1, w2⟩ := all_iff (a := l1) (b := l2) (p := P17 (n' + 3)) (R := Ali N) hl (by omega) (fun i x y hx hy => ih (n' + 3) x y (p2 _ (List.mem_of_getElem? hx)) (by omega))
        refine ⟨r, ?_, w2.trans ⟨fun h => ⟨hl, h⟩, fun h => h.2⟩⟩
        rw [w1.use (t := some true) (f := some false) (fun _ => rfl) (fun _ => rfl)]
        cases r <;> rfl
      · have e1 : (!(ln l1 == ln l2)) = true := by simp [ln]; omega
        rw [e1, cond_true]
        exact ⟨false, rfl, no_iff fun h => absurd h.1 hl⟩
    obtain ⟨rL, v1, v2⟩ := hL
    rw [P17.eq_2]
    simp only [Pb17]
    cases hk : k1 == k2 with
    | false => exact ⟨_, rfl, no_iff fun h => by obtain ⟨rfl, _⟩ := h; simp at hk⟩
    | true =>
    cases hnn : n1 == n2 with
    | false => exact ⟨_, rfl, no_iff fun h => by obtain ⟨_, rfl, _⟩ := h; simp at hnn⟩
    | true =>
    cases hs : seq s1 s2 with
    | false => exact ⟨_, rfl, no_iff fun h => by obtain ⟨_, _, rfl, _⟩ := h; rw [seq_self] at hs; cases hs⟩
    | true =>
    cases he : e1 == e2 with
    | false => exact ⟨_, rfl, no_iff fun h => by obtain ⟨_, _, _, rfl, _⟩ := h; simp at he⟩
    | true =>
    cases hc : seq c1 c2 with
    | false => exact ⟨_, rfl, no_iff fun h => by obtain ⟨_, _, _, _, rfl, _⟩ := h; rw [seq_self] at hc; cases hc⟩
    | true =>
    cases hb : b1 == b2 with
    | false => exact ⟨_, rfl, no_iff fun h => by obtain ⟨_, _, _, _, _, rfl, _⟩ := h; simp at hb⟩
    | true =>
    have hk := beq_iff_eq.1 hk
    have hnn := beq_iff_eq.1 hnn
    have hs := seq_iff.1 hs
    have he := beq_iff_eq.1 he
    have hc := seq_iff.1 hc
    have hb := beq_iff_eq.1 hb
    simp only [cond_true, v1, z1, Option.bind_some]
    cases rL with
    | false => exact ⟨_, rfl, no_iff fun h => by obtain ⟨_, _, _, _, _, _, h, _⟩ := h; have := v2.2 h; cases this⟩
    | true =>
    refine ⟨rF, rfl, z2.trans ⟨fun h => ⟨hk, hnn, hs, he, hc, hb, v2.1 rfl, h⟩, fun h => by obtain ⟨_, _, _, _, _, _, _, h⟩ := h; exact h⟩⟩
/-- What may be may be alone. -/
theorem walk_c : ∀ (N n : Nat) (v : Value), Fit N v → N ≤ n → ∀ (d b1 : Int) (b2 : Bool), ∃ r, P50x1 (n + 1) v d b1 b2 = some r ∧ r.2.2 = r.1 ∧ (r.1 = true → P35 n v = some true) := by
  intro N
  induction N with
  | zero => intro n v h; exact absurd h (by obtain ⟨_, _, _, ⟨_, _⟩, ⟨_, _⟩, _, _, _⟩ := v; simp [Fit])
  | succ N ih =>
    intro n v h hn d b1 b2
    obtain ⟨n', rfl⟩ : ∃ n', n = n' + 1 := ⟨n - 1, by omega⟩
    obtain ⟨ra, hra⟩ := alone_t (n' + 1) v _ h
    obtain ⟨k, nn, s, ⟨l, x⟩, ⟨f, y⟩, e, c, b⟩ := v
    obtain ⟨⟨p1, p2⟩, p3, p4⟩ := h
    have hl1 := len_room (by omega) p1
    have hl3 := len_room (by omega) p3
    rw [P50x1.eq_2]
    unfold Pb50x1 P34x1
    dsimp only
    rw [hra]
    have hg : ∃ g, (bif ra then bif decide (w64 (b1 + 1) ≤ 4096) then some (decide (d ≤ 64)) else some false else some false) = some g ∧ (g = true → ra = true) := by
      cases ra with
      | false => exact ⟨false, rfl, fun h => (by cases h)⟩
      | true => cases decide (w64 (b1 + 1) ≤ 4096) <;> exact ⟨_, rfl, fun _ => rfl⟩
    obtain ⟨g, hg1, hg2⟩ := hg
    simp only [Option.bind_some, hg1]
    cases g with
    | false => exact ⟨_, rfl, rfl, fun h => (by cases h)⟩
    | true =>
      obtain rfl := hg2 rfl
      simp only [Bool.not_true, cond_false]
      obtain ⟨q, h1, h2⟩ := wl_rule (f := P50x1_s0 (n' + 1) (P50x1 (n' + 1)) l d) (fun a => a.2.1 = true ∧ ∃ k : Nat, a.2.2 = (k : Int) ∧ k ≤ l.length) (fun a => l.length - a.2.2.toNat)
        (fun q => (∃ a, q = .inl a ∧ a.2.1 = true) ∨ ∃ a, q = .inr a ∧ a.2.1 = false) (fun a hI => by
          obtain ⟨u1, u2, i⟩ := a
          obtain ⟨hu, k, hk0, hk⟩ := hI
          dsimp only at hu hk0
          subst hu hk0
          unfold P50x1_s0
          dsimp only
          by_cases hlt : k < l.length
          · rw [lt_true hlt, idx_lt l k hlt]
            have hx := ih n' l[k] (p2 _ (List.getElem_mem hlt)) (by omega) (w64 (d + 1)) u1 true
            generalize l[k] = z at hx
            obtain ⟨_, _, _, ⟨_, _⟩, ⟨_, _⟩, _, _, _⟩ := z
            dsimp only [cond_true, Option.bind_some]
            obtain ⟨⟨r, z1, z2⟩, hr, hz, _⟩ := hx
            rw [hr]
            dsimp only at hz
            subst hz
            cases z2 with
            | false => exact .inr ⟨_, rfl, .inr ⟨_, rfl, rfl⟩⟩
            | true =>
              refine .inl ⟨_, rfl, ⟨rfl, k + 1, w64_succ (by omega), by omega⟩, ?_⟩
              show l.length - (w64 ((k : Int) + 1)).toNat < _
              rw [w64_succ (by omega)]
              simp only [Int.toNat_natCast]
              omega
          · have : k = l.length := by omega
            subst this
            rw [lt_false]
            exact .inr ⟨_, rfl, .inl ⟨_, rfl, rfl⟩⟩) l.length (w64 (b1 + 1), true, 0) (by simp) ⟨rfl, 0, rfl, by omega⟩
      rw [h1]
      rcases h2 with ⟨⟨o1, o2, o3⟩, rfl, h2⟩ | ⟨⟨o1, o2, o3⟩, rfl, h2⟩
      · dsimp only at h2
        subst h2
        simp only [Option.bind_some]
        obtain ⟨q, h1, h2⟩ := wl_rule (f := P50x1_s1 (n' + 1) (P50x1 (n' + 1)) f d) (fun a => a.2.1 = true ∧ ∃ k : Nat, a.2.2 = (k : Int) ∧ k ≤ f.length) (fun a => f.length - a.2.2.toNat)
          (fun q => (∃ a, q = .inl a ∧ a.2.1 = true) ∨ ∃ a, q = .inr a ∧ a.2.1 = false) (fun a hI => by
            obtain ⟨u1, u2, i⟩ := a
            obtain ⟨hu, k, hk0, hk⟩ := hI
            dsimp only at hu hk0
            subst hu hk0
            unfold P50x1_s1
            dsimp only
            by_cases hlt : k < f.length
            · rw [lt_true hlt, idx_lt f k hlt]
              have hq := p4 f[k] (List.getElem_mem hlt)
              generalize f[k] = z at hq
              obtain ⟨m, z⟩ := z
              have hx := ih n' z hq (by omega) (w64 (d + 1)) u1 true
              obtain ⟨_, _, _, ⟨_, _⟩, ⟨_, _⟩, _, _, _⟩ := z
              dsimp only [cond_true, Option.bind_some]
              obtain ⟨⟨r, z1, z2⟩, hr, hz, _⟩ := hx
              rw [hr]
              dsimp only at hz
              subst hz
              cases z2 with
              | false => exact .inr ⟨_, rfl, .inr ⟨_, rfl, rfl⟩⟩
              | true =>
                refine .inl ⟨_, rfl, ⟨rfl, k + 1, w64_succ (by omega), by omega⟩, ?_⟩
                show f.length - (w64 ((k : Int) + 1)).toNat < _
                rw [w64_succ (by omega)]
                simp only [Int.toNat_natCast]
                omega
            · have : k = f.length := by omega
              subst this
              rw [lt_false]
              exact .inr ⟨_, rfl, .inl ⟨_, rfl, rfl⟩⟩) f.length (o1, true, 0) (by simp) ⟨rfl, 0, rfl, by omega⟩
        rw [h1]
        rcases h2 with ⟨⟨o4, o5, o6⟩, rfl, h2⟩ | ⟨⟨o4, o5, o6⟩, rfl, h2⟩ <;> dsimp only at h2 <;> subst h2
        · exact ⟨_, rfl, rfl, fun _ => by first | exact hra | trivial⟩
        · exact ⟨_, rfl, rfl, fun h => (by cases h)⟩
      · dsimp only at h2
        subst h2
        exact ⟨_, rfl, rfl, fun h => (by cases h)⟩
theorem check_c {N n : Nat} {v : Value} (h : Fit N v) (hn : N ≤ n) : ∃ r, P15 (n + 1) v = some r ∧ (r = true → P35 n v = some true) := by
  obtain ⟨⟨r, z1, z2⟩, hr, h1, h2⟩ := walk_c N n v h hn 1 0 true
  dsimp only at h1 h2
  subst h1
  refine ⟨z2, ?_, h2⟩
  obtain ⟨_, _, _, ⟨_, _⟩, ⟨_, _⟩, _, _, _⟩ := v
  unfold P15 P33x1
  dsimp only
  rw [hr]
  rfl
theorem kinds_5 (fu : Nat) (l : List Int) (x : Option (List Int)) (hl : l.length ≤ 2) (hno : (5 : Int) ∉ l) (n : Int) (s : ByteArray) (L : Sl Value) (F : Sl Field) (e : Int) (c : ByteArray) (b : Bool) : P53x1 fu ⟨l, x⟩ (Value.mk 5 n s L F e c b) = some false := by
  obtain ⟨L, lx⟩ := L
  obtain ⟨F, fx⟩ := F
  unfold P53x1 P54 P87
  dsimp only
  rw [index_st, find_ok (fun x => (5 : Int) == x) (by omega) (fun x hx => rfl)]
  have : List.findIdx? (fun x => (5 : Int) == x) l = none := by
    rw [List.findIdx?_eq_none_iff]
    intro y hy
    have : (5 : Int) ≠ y := fun h => hno (h ▸ hy)
    simpa using this
  rw [this]
  rfl
/-- A record that may be has nothing but fields. -/
theorem record_only {fu : Nat} {n : Int} {s : ByteArray} {l : List Value} {x : Option (List Value)} {F : Sl Field} {e : Int} {c : ByteArray} {b : Bool} (h : P35 fu (Value.mk 5 n s ⟨l, x⟩ F e c b) = some true) :
    n = 0 ∧ s = ByteArray.empty ∧ e = 0 ∧ c = ByteArray.empty ∧ b = false ∧ l = [] := by
  obtain ⟨f, y⟩ := F
  unfold P35 at h
  dsimp only at h
  obtain ⟨q, _, h⟩ := Option.bind_eq_some_iff.1 h
  cases q with
  | inr o => cases h
  | inl o =>
  have k1 := kinds_5 fu [1, 7] (some []) (by decide) (by decide) n s ⟨l, x⟩ ⟨f, y⟩ e c b
  have k2 := kinds_5 fu [2] (some []) (by decide) (by decide) n s ⟨l, x⟩ ⟨f, y⟩ e c b
  have k3 := kinds_5 fu [3, 7] (some []) (by decide) (by decide) n s ⟨l, x⟩ ⟨f, y⟩ e c b
  have k4 := kinds_5 fu [4] (some []) (by decide) (by decide) n s ⟨l, x⟩ ⟨f, y⟩ e c b
  simp only [Option.bind_some, k1, k2, k3, k4, show ((5 : Int) == 6) = false from rfl, show decide ((5 : Int) ≤ 7) = true from rfl, cond_false, cond_true, Bool.not_false] at h
  cases he : e == 0 with
  | false => rw [he] at h; cases h
  | true =>
  rw [he] at h
  cases hc : seq c ByteArray.empty with
  | false => rw [hc] at h; cases h
  | true =>
  rw [hc] at h
  cases b with
  | true => cases h
  | false =>
  simp only [cond_true, Bool.not_false] at h
  cases hs4 : decide ((s.size : Int) ≤ 4096) with
  | false => rw [hs4] at h; cases h
  | true =>
  rw [hs4] at h
  cases hn : n == 0 with
  | false => rw [hn] at h; cases h
  | true =>
  rw [hn] at h
  simp only [cond_true, Bool.not_true, cond_false] at h
  cases hs : seq s ByteArray.empty with
  | false => rw [hs] at h; cases h
  | true =>
  rw [hs] at h
  simp only [Bool.not_true, cond_false] at h
  cases hl : ln l == 0 with
  | false => rw [hl] at h; cases h
  | true =>
    refine ⟨beq_iff_eq.1 hn, seq_iff.1 hs, beq_iff_eq.1 he, seq_iff.1 hc, rfl, ?_⟩
    have : ln l = 0 := beq_iff_eq.1 hl
    rw [ln_eq] at this
    exact List.eq_nil_of_length_eq_zero (by omega)
def Sh (N : Nat) : Value → Value → Prop
  | .mk k _ _ _ ⟨f, _⟩ _ _ _, .mk k' _ _ _ ⟨g, _⟩ _ _ _ => k = 5 ∧ k' = 5 ∧ f.length = g.length ∧ ∀ (i : Nat) t a, f[i]? = some t → g[i]? = some a → fldR (Ali N) t a
theorem Sh.symm {N : Nat} {a b : Value} (h : Sh N a b) : Sh N b a := by
  obtain ⟨k, n, s, l, ⟨f, y⟩, e, c, hk⟩ := a
  obtain ⟨k', n', s', l', ⟨f', y'⟩, e', c', hk'⟩ := b
  obtain ⟨h1, h2, h3, h4⟩ := h
  refine ⟨h2, h1, h3.symm, fun i t a g1 g2 => ?_⟩
  have := h4 i a t g2 g1
  obtain ⟨m, u⟩ := a
  obtain ⟨m', u'⟩ := t
  exact ⟨this.1.symm, Ali.symm _ _ _ this.2⟩
theorem shallow_iff {N n : Nat} {a b : Value} (h : Fit (N + 1) a) (hn : 4 * (N + 1) ≤ n) : ∃ r, P22 n a b = some r ∧ (r = true ↔ Sh N a b) := by
  obtain ⟨n', rfl⟩ : ∃ n', n = n' + 2 := ⟨n - 2, by omega⟩
  obtain ⟨k1, n1, s1, ⟨l1, x1⟩, ⟨f1, y1⟩, e1, c1, b1⟩ := a
  obtain ⟨k2, n2, s2, ⟨l2, x2⟩, ⟨f2, y2⟩, e2, c2, b2⟩ := b
  obtain ⟨⟨p1, p2⟩, p3, p4⟩ := h
  obtain ⟨rF, z1, z2⟩ := same_Fs (N := N) (n := n') (fx := y1) (gx := y2) (g := f2) p3 (fun q hq => by
    have := p4 q hq
    obtain ⟨m, v⟩ := q
    exact fun w => same_iff N n' v w this (by omega))
  unfold P22
  dsimp only
  rw [z1]
  cases h1 : k1 == 5 with
  | false => exact ⟨_, rfl, no_iff fun h => by obtain ⟨rfl, _⟩ := h; cases h1⟩
  | true =>
  cases h2 : k2 == 5 with
  | false => exact ⟨_, rfl, no_iff fun h => by obtain ⟨_, rfl, _⟩ := h; cases h2⟩
  | true => exact ⟨rF, rfl, z2.trans ⟨fun h => ⟨beq_iff_eq.1 h1, beq_iff_eq.1 h2, h⟩, fun h => h.2.2⟩⟩
theorem bool_of {a b : Bool} {p q : Prop} (h1 : a = true ↔ p) (h2 : b = true ↔ q) (h : p ↔ q) : a = b := Bool.eq_iff_iff.2 (h1.trans (h.trans h2.symm))
theorem equal_true (a b c : Value) (ha : OKV a) (hb : OKV b) (hc : OKV c) : ∃ fu, P6 fu a b c = some true := by
  let M := SizeOf.sizeOf a + SizeOf.sizeOf b + SizeOf.sizeOf c
  have hM : SizeOf.sizeOf a ≤ M ∧ SizeOf.sizeOf b ≤ M ∧ SizeOf.sizeOf c ≤ M := ⟨by show _ ≤ _ + _ + _; omega, by show _ ≤ _ + _ + _; omega, by show _ ≤ _ + _ + _; omega⟩
  generalize M = M at hM
  obtain ⟨sa, sb, sc⟩ := hM
  have fa := fit_of (M + 1) a (by omega) ha
  have fb := fit_of (M + 1) b (by omega) hb
  have fc := fit_of (M + 1) c (by omega) hc
  obtain ⟨m, hm⟩ : ∃ m, m = 4 * M + 40 := ⟨_, rfl⟩
  obtain ⟨z1, hz1⟩ := P14_def (M + 1) (m + 1) a (by omega) (by omega) ha
  obtain ⟨z2, hz2⟩ := P14_def (M + 1) (m + 1) b (by omega) (by omega) hb
  obtain ⟨z3, hz3⟩ := P14_def (M + 1) (m + 1) c (by omega) (by omega) hc
  obtain ⟨zb, hzb⟩ := P13_def (m + 1) [z1, z2, z3] (some []) (by simp)
  obtain ⟨t, ht1, ht2⟩ := twin_V (M + 1) (m + 1) a (by omega) (by omega) ha
  have ht3 := Ali.symm _ _ _ (Tw.ali _ _ _ ht2)
  obtain ⟨x, hx1, hx2⟩ := same_iff (M + 1) (m + 1) a b fa (by omega)
  obtain ⟨y, hy1, hy2⟩ := same_iff (M + 1) (m + 1) b c fb (by omega)
  obtain ⟨z, hz1', hz2'⟩ := same_iff (M + 1) (m + 1) a c fa (by omega)
  obtain ⟨w, hw1, hw2⟩ := same_iff (M + 1) (m + 1) a t fa (by omega)
  obtain ⟨x', hx1', hx2'⟩ := same_iff (M + 1) (m + 1) b a fb (by omega)
  obtain ⟨u, hu1, hu2⟩ := shallow_iff (b := b) (n := m + 1) fa (by omega)
  obtain ⟨u', hu1', hu2'⟩ := shallow_iff (b := a) (n := m + 1) fb (by omega)
  obtain ⟨ca, hca, hca'⟩ := check_c (n := m) fa (by omega)
  obtain ⟨cb, hcb, hcb'⟩ := check_c (n := m) fb (by omega)
  obtain rfl : w = true := hw2.2 ht3
  obtain rfl : x' = x := bool_of hx2' hx2 ⟨Ali.symm _ _ _, Ali.symm _ _ _⟩
  obtain rfl : u' = u := bool_of hu2' hu2 ⟨Sh.symm, Sh.symm⟩
  have hxyz : x' = true → y = true → z = true := fun h1 h2 => hz2'.2 (Ali.trans _ _ _ _ (hx2.1 h1) (hy2.1 h2))
  obtain ⟨k1, n1, s1, ⟨l1, x1⟩, ⟨f1, y1⟩, e1, c1, b1⟩ := a
  obtain ⟨k2, n2, s2, ⟨l2, x2⟩, ⟨f2, y2⟩, e2, c2, b2⟩ := b
  obtain ⟨k3, n3, s3, ⟨l3, x3⟩, ⟨f3, y3⟩, e3, c3, b3⟩ := c
  refine ⟨m + 1, ?_⟩
  unfold P6 P12
  dsimp only
  simp only [Option.bind_some, Bool.not_true, Bool.not_false, cond_true, hz1, hz2, hz3, hzb]
  cases zb with
  | true => rfl
  | false =>
  rw [ht1]
  obtain ⟨k4, n4, s4, ⟨l4, x4⟩, ⟨f4, y4⟩, e4, c4, b4⟩ := t
  have hmid : ∀ (Y : Option Bool), Y = some false → ∀ (K : Bool → Option Bool), K false = some true → Y.bind K = some true := fun Y h K hK => by rw [h]; exact hK
  simp only [cond_false, Option.bind_some, hx1, hy1, hz1', hw1, hx1', hu1, hu1', Bool.not_true, Bool.not_false, cond_true, beq_self_eq_true]
  refine hmid _ ?_ _ ?_
  · cases x' with
    | false => rfl
    | true => cases y with
      | false => rfl
      | true => rw [hxyz rfl rfl]; rfl
  · cases hk1 : k1 == 5 with
    | false =>
      have : u' = false := by
        cases u' with
        | false => rfl
        | true => obtain ⟨rfl, _⟩ := hu2.1 rfl; cases hk1
      subst this
      rfl
    | true =>
    cases hk2 : k2 == 5 with
    | false =>
      have : u' = false := by
        cases u' with
        | false => rfl
        | true => obtain ⟨_, rfl, _⟩ := hu2.1 rfl; cases hk2
      subst this
      rfl
    | true =>
      simp only [cond_true, cond_false, Option.bind_some, Bool.not_true, Bool.not_false, hca, hcb]
      cases ca with
      | false => rfl
      | true =>
      cases cb with
      | false => rfl
      | true =>
        obtain rfl := beq_iff_eq.1 hk1
        obtain rfl := beq_iff_eq.1 hk2
        obtain ⟨rfl, rfl, rfl, rfl, rfl, rfl⟩ := record_only (hca' rfl)
        obtain ⟨rfl, rfl, rfl, rfl, rfl, rfl⟩ := record_only (hcb' rfl)
        have : u' = x' := bool_of hu2 hx2 ⟨fun h => ⟨rfl, rfl, rfl, rfl, rfl, rfl, ⟨rfl, fun i t a h => by simp at h⟩, h.2.2⟩, fun h => by
          obtain ⟨_, _, _, _, _, _, _, h⟩ := h
          exact ⟨rfl, rfl, h⟩⟩
        subst this
        simp only [Bool.not_true, Bool.not_false, cond_true, Option.bind_some, beq_self_eq_true, cond_false]
theorem law6 (ls : List (List D)) (h : WTs tab [27, 27, 27] ls) : call S 6 (argsPV tab [27, 27, 27] ls) [] = some (.d (.bool true), []) := by
  obtain ⟨l1, _, rfl, h1, l2, _, rfl, h2, l3, _, rfl, h3, rfl⟩ := h
  obtain ⟨a, rfl⟩ := wt_27 h1
  obtain ⟨b, rfl⟩ := wt_27 h2
  obtain ⟨c, rfl⟩ := wt_27 h3
  obtain ⟨fu, hp⟩ := equal_true a b c h1 h2 h3
  obtain ⟨k1, n1, s1, ⟨l1, x1⟩, ⟨f1, y1⟩, e1, c1, b1⟩ := a
  obtain ⟨k2, n2, s2, ⟨l2, x2⟩, ⟨f2, y2⟩, e2, c2, b2⟩ := b
  obtain ⟨k3, n3, s3, ⟨l3, x3⟩, ⟨f3, y3⟩, e3, c3, b3⟩ := c
  exact call_of (ok6 rfl rfl hp rfl [])
end Go.Proofs.YtdmpjlpkmokllaaDoor
