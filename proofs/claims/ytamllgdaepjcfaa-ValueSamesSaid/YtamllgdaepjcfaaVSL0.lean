/- tapestrylaw01.ValueSames: two values are the same, wholly or as records, as the reference says: on plain data. -/
import Derived.Test.YtamllgdaepjcfaaVSO
import Derived.Test.YtamllgdaepjcfaaVSV
namespace Go.Proofs.Ytamllgdaepjcfaa
open Go Go.X
set_option linter.unusedVariables false
set_option linter.unusedSimpArgs false
set_option maxRecDepth 100000
theorem call_of {f : Nat} {args : List PV} {st : St} {r : PV × St} (h : Sat ((real (call S)).cf f args st) (fun q => q = r)) : call S f args st = some r := by
  obtain ⟨_, h1, rfl⟩ := h; exact h1
def OKV (v : Value) : Prop := WT tab 27 (e_Value v)
def OKF (f : Field) : Prop := WT tab 99 (e_Field f)
theorem ok_rows {t e sz b : Nat} {d : D} (ht : tab.ty t = .slice e sz b) (h : WT tab t [d]) : ∃ rows hid, d = .sl rows (some hid) ∧ rows.length ≤ maxLen ∧ ∀ r ∈ rows, WT tab e r := by
  obtain ⟨rows, hid, h1, h2, h3, _⟩ := h.slice_inv ht
  cases h1
  exact ⟨rows, hid, rfl, by omega, h3⟩
theorem okV_parts {k n : Int} {s key : ByteArray} {l : List Value} {f : List Field} {x : Option (List Value)} {fx : Option (List Field)} {e : Int} {hk : Bool} (h : OKV (Value.mk k n s ⟨l, x⟩ ⟨f, fx⟩ e key hk)) :
    l.length ≤ maxLen ∧ (∀ v ∈ l, OKV v) ∧ f.length ≤ maxLen ∧ (∀ q ∈ f, OKF q) := by
  obtain ⟨a0, _, e0, h0, a1, _, e1, h1, a2, _, e2, h2, a3, _, e3, h3, a4, _, e4, h4, _⟩ := h.agg_inv ty_27 rfl
  obtain ⟨_, rfl, _⟩ := h0.int_inv ty_23
  obtain ⟨_, rfl, _⟩ := h1.int_inv ty_2
  obtain ⟨_, rfl, _⟩ := h2.str_inv ty_9
  obtain ⟨r3, q3, rfl, l3, m3, _⟩ := h3.slice_inv ty_24
  obtain ⟨r4, q4, rfl, l4, m4, _⟩ := h4.slice_inv ty_25
  subst e4; subst e3; subst e2; subst e1
  simp only [e_Value, es_Value, es_Field, List.cons_append, List.nil_append, List.cons.injEq, D.sl.injEq] at e0
  obtain ⟨_, _, _, ⟨rfl, _⟩, ⟨rfl, _⟩, _⟩ := e0
  rw [el_Value_map] at l3 m3
  rw [el_Field_map] at l4 m4
  simp only [List.length_map, List.mem_map, forall_exists_index, and_imp, forall_apply_eq_imp_iff₂] at l3 m3 l4 m4
  exact ⟨by omega, m3, by omega, m4⟩
theorem okF_parts {n : ByteArray} {v : Value} (h : OKF (Field.mk n v)) : OKV v := by
  obtain ⟨a0, _, e0, h0, a1, _, e1, h1, e2⟩ := h.agg_inv ty_99 rfl
  obtain ⟨_, rfl, _⟩ := h0.str_inv ty_9
  subst e2; subst e1
  simp only [e_Field, List.cons_append, List.nil_append, List.cons.injEq, List.append_nil] at e0
  obtain ⟨_, rfl⟩ := e0
  exact h1

theorem P55_st (fu : Nat) (p : Value → Value → Option Bool) (a b : List Value) : P55_s0 fu p a b = stAll a b p := by
  funext i
  unfold P55_s0 stAll
  dsimp only
  cases decide (i < ln a)
  · rfl
  · cases idx a i with
    | none => rfl
    | some x =>
      obtain ⟨_, _, _, ⟨_, _⟩, ⟨_, _⟩, _, _, _⟩ := x
      cases idx b i with
      | none => rfl
      | some y =>
        obtain ⟨_, _, _, ⟨_, _⟩, ⟨_, _⟩, _, _, _⟩ := y
        rfl
theorem P30_st (fu : Nat) (p : Value → Value → Option Bool) (a b : List Value) : P30_s0 fu p a b = stAll a b p := P55_st fu p a b
theorem P67_st (fu : Nat) (p : Field → Field → Option Bool) (a b : List Field) : P67_s0 fu p a b = stAll a b p := by
  funext i
  unfold P67_s0 stAll
  dsimp only
  cases decide (i < ln a)
  · rfl
  · cases idx a i with
    | none => rfl
    | some x =>
      obtain ⟨_, ⟨_, _, _, ⟨_, _⟩, ⟨_, _⟩, _, _, _⟩⟩ := x
      cases idx b i with
      | none => rfl
      | some y =>
        obtain ⟨_, ⟨_, _, _, ⟨_, _⟩, ⟨_, _⟩, _, _, _⟩⟩ := y
        rfl
/-- Fields, held against each other. -/
def fld (p : Value → Value → Option Bool) : Field → Field → Option Bool
  | ⟨n, v⟩, ⟨m, w⟩ => bif seq n m then p v w else some false
theorem P57_st (fu : Nat) (p : Value → Value → Option Bool) (a b : List Field) : P57_s0 fu p a b = stAll a b (fld p) := by
  funext i
  unfold P57_s0 stAll
  dsimp only
  cases hd : decide (i < ln a)
  · rfl
  · cases h1 : idx a i with
    | none => rfl
    | some x =>
      obtain ⟨n, ⟨_, _, _, ⟨_, _⟩, ⟨_, _⟩, _, _, _⟩⟩ := x
      cases h2 : idx b i with
      | none => rfl
      | some y =>
        obtain ⟨m, ⟨_, _, _, ⟨_, _⟩, ⟨_, _⟩, _, _, _⟩⟩ := y
        simp only [Option.bind_some, cond_true, fld, Bool.not_not]
        cases seq n m <;> rfl
theorem P68_fld (fu : Nat) (a b : Field) : P68 (fu + 1) a b = fld (P29 fu) a b := by
  obtain ⟨n, ⟨_, _, _, ⟨_, _⟩, ⟨_, _⟩, _, _, _⟩⟩ := a
  obtain ⟨m, ⟨_, _, _, ⟨_, _⟩, ⟨_, _⟩, _, _, _⟩⟩ := b
  rw [P68.eq_2]
  simp only [Pb68, bind_id, fld]

theorem size_L {x : Value} {k n : Int} {s key : ByteArray} {l : List Value} {lx : Option (List Value)} {f : Sl Field} {e : Int} {hk : Bool} (h : x ∈ l) : SizeOf.sizeOf x < SizeOf.sizeOf (Value.mk k n s ⟨l, lx⟩ f e key hk) := by
  have := List.sizeOf_lt_of_mem h
  simp only [Value.mk.sizeOf_spec, Sl.mk.sizeOf_spec]
  omega
theorem size_F {q : Field} {k n : Int} {s key : ByteArray} {f : List Field} {fx : Option (List Field)} {l : Sl Value} {e : Int} {hk : Bool} (h : q ∈ f) : SizeOf.sizeOf q < SizeOf.sizeOf (Value.mk k n s l ⟨f, fx⟩ e key hk) := by
  have := List.sizeOf_lt_of_mem h
  simp only [Value.mk.sizeOf_spec, Sl.mk.sizeOf_spec]
  omega
theorem size_V {m : ByteArray} {v : Value} : SizeOf.sizeOf v < SizeOf.sizeOf (Field.mk m v) := by
  simp only [Field.mk.sizeOf_spec]
  omega
/-- The outcome of a loop over two lists, as both functions use it. -/
theorem both {A B : Type} {a : List A} {b : List B} {p p' : A → B → Option Bool} (hl : a.length = b.length) (hn : a.length ≤ maxLen) (hp : ∀ x ∈ a, ∀ y ∈ b, ∃ r, p x y = some r ∧ p' x y = some r) :
    ∃ r : Bool, (∀ {g : Int ⊕ Int → Option Bool} {t f : Option Bool}, (∀ i, g (.inl i) = t) → (∀ i, g (.inr i) = f) → (wl (stAll a b p) 0).bind g = bif r then t else f) ∧ (∀ {g : Int ⊕ Int → Option Bool} {t f : Option Bool}, (∀ i, g (.inl i) = t) → (∀ i, g (.inr i) = f) → (wl (stAll a b p') 0).bind g = bif r then t else f) := by
  have hm : maxLen ≤ 9223372036854775807 := by decide
  have h1 : ∀ x ∈ a, ∀ y ∈ b, p x y = some ((p x y).getD false) := fun x hx y hy => by
    obtain ⟨r, h1, h2⟩ := hp x hx y hy
    rw [h1]; rfl
  have h2 : ∀ x ∈ a, ∀ y ∈ b, p' x y = some ((p x y).getD false) := fun x hx y hy => by
    obtain ⟨r, h1, h2⟩ := hp x hx y hy
    rw [h1, h2]; rfl
  obtain ⟨q1, w1, w2⟩ := stAll_ok a b p _ hl (by omega) h1
  obtain ⟨q2, w3, w4⟩ := stAll_ok a b p' _ hl (by omega) h2
  refine ⟨(List.zip a b).all fun q => (p q.1 q.2).getD false, fun {g t f} ht hf => ?_, fun {g t f} ht hf => ?_⟩
  · rw [w1, Option.bind_some]
    cases q1 with
    | inl i => rw [ht]; dsimp only at w2; rw [w2]; rfl
    | inr i => rw [hf]; dsimp only at w2; rw [w2]; rfl
  · rw [w3, Option.bind_some]
    cases q2 with
    | inl i => rw [ht]; dsimp only at w4; rw [w4]; rfl
    | inr i => rw [hf]; dsimp only at w4; rw [w4]; rfl

theorem fields_eq {N n m : Nat} (ih : ∀ (n m : Nat) (a b : Value), SizeOf.sizeOf a ≤ N → 4 * N ≤ n → 4 * N ≤ m → OKV a → OKV b → ∃ r, P29 n a b = some r ∧ P30 m a b = some r)
    {f g : List Field} {fx gx : Option (List Field)} (h1 : ∀ q ∈ f, SizeOf.sizeOf q ≤ N + 1) (hn : 4 * N ≤ n) (hm : 4 * N ≤ m) (o1 : f.length ≤ maxLen) (o2 : ∀ q ∈ f, OKF q) (o3 : ∀ q ∈ g, OKF q) :
    ∃ r, P56 (n + 3) ⟨f, fx⟩ ⟨g, gx⟩ = some r ∧ P57 (m + 2) ⟨f, fx⟩ ⟨g, gx⟩ = some r := by
  rw [P56.eq_2, P57.eq_2]
  simp only [bind_id, Pb56, P67, Pb57, P67_st, P57_st]
  by_cases hl : f.length = g.length
  · have e1 : (!(ln f == ln g)) = false := by simp [ln, hl]
    simp only [e1, cond_false]
    obtain ⟨r, w1, w2⟩ := both (p := P68 (n + 2)) (p' := fld (P30 (m + 1))) hl o1 (fun x hx y hy => by
      rw [P68_fld]
      obtain ⟨a, v⟩ := x
      obtain ⟨b, w⟩ := y
      have hs : SizeOf.sizeOf v ≤ N := by
        have := h1 _ hx
        have := size_V (m := a) (v := v)
        omega
      obtain ⟨r, g1, g2⟩ := ih (n + 1) (m + 1) v w hs (by omega) (by omega) (okF_parts (o2 _ hx)) (okF_parts (o3 _ hy))
      simp only [fld, g1, g2]
      cases seq a b <;> exact ⟨_, rfl, rfl⟩)
    refine ⟨r, ?_, ?_⟩
    · rw [w1 (t := some true) (f := some false) (fun _ => rfl) (fun _ => rfl)]; cases r <;> rfl
    · rw [w2 (t := some true) (f := some false) (fun _ => rfl) (fun _ => rfl)]; cases r <;> rfl
  · have e1 : (!(ln f == ln g)) = true := by simp [ln]; omega
    simp only [e1, cond_true]
    exact ⟨false, rfl, rfl⟩
theorem same_eq : ∀ (N n m : Nat) (a b : Value), SizeOf.sizeOf a ≤ N → 4 * N ≤ n → 4 * N ≤ m → OKV a → OKV b → ∃ r, P29 n a b = some r ∧ P30 m a b = some r := by
  intro N
  induction N with
  | zero =>
    intro n m a b h
    obtain ⟨_, _, _, _, _, _, _, _⟩ := a
    simp only [Value.mk.sizeOf_spec] at h
    omega
  | succ N ih =>
    intro n m a b h hn hm oa ob
    obtain ⟨n', rfl⟩ : ∃ n', n = n' + 4 := ⟨n - 4, by omega⟩
    obtain ⟨m', rfl⟩ : ∃ m', m = m' + 4 := ⟨m - 4, by omega⟩
    obtain ⟨k1, n1, s1, ⟨l1, x1⟩, ⟨f1, y1⟩, e1, c1, b1⟩ := a
    obtain ⟨k2, n2, s2, ⟨l2, x2⟩, ⟨f2, y2⟩, e2, c2, b2⟩ := b
    obtain ⟨p1, p2, p3, p4⟩ := okV_parts oa
    obtain ⟨q1, q2, q3, q4⟩ := okV_parts ob
    rw [P29.eq_2, P30.eq_2]
    simp only [Pb29, Pb30, Bool.not_not]
    cases k1 == k2 with
    | false => exact ⟨_, rfl, rfl⟩
    | true =>
    cases n1 == n2 with
    | false => exact ⟨_, rfl, rfl⟩
    | true =>
    cases seq s1 s2 with
    | false => exact ⟨_, rfl, rfl⟩
    | true =>
    cases e1 == e2 with
    | false => exact ⟨_, rfl, rfl⟩
    | true =>
    cases seq c1 c2 with
    | false => exact ⟨_, rfl, rfl⟩
    | true =>
    cases b1 == b2 with
    | false => exact ⟨_, rfl, rfl⟩
    | true =>
    simp only [cond_true, P55, P55_st, P30_st]
    by_cases hl : l1.length = l2.length
    · have h0 : (!(ln l1 == ln l2)) = false := by simp [ln, hl]
      simp only [h0, cond_false]
      obtain ⟨r, w1, w2⟩ := both (p := P29 (n' + 3)) (p' := P30 (m' + 3)) hl p1 (fun x hx y hy => by
        have hs := size_L (k := k1) (n := n1) (s := s1) (key := c1) (lx := x1) (f := ⟨f1, y1⟩) (e := e1) (hk := b1) hx
        exact ih (n' + 3) (m' + 3) x y (by omega) (by omega) (by omega) (p2 x hx) (q2 y hy))
      obtain ⟨r2, v1, v2⟩ := fields_eq (fx := y1) (gx := y2) (n := n') (m := m' + 1) ih (fun q hq => by
        have := size_F (k := k1) (n := n1) (s := s1) (key := c1) (l := ⟨l1, x1⟩) (fx := y1) (e := e1) (hk := b1) hq
        omega) (by omega) (by omega) p3 p4 q4
      refine ⟨bif r then r2 else false, ?_, ?_⟩
      · rw [w1 (t := some true) (f := some false) (fun _ => rfl) (fun _ => rfl), v1]; cases r <;> rfl
      · rw [w2 (t := some r2) (f := some false) (fun _ => by rw [v2]; rfl) (fun _ => rfl)]; cases r <;> rfl
    · have h0 : (!(ln l1 == ln l2)) = true := by simp [ln]; omega
      simp only [h0, cond_true]
      exact ⟨_, rfl, rfl⟩
end Go.Proofs.Ytamllgdaepjcfaa
