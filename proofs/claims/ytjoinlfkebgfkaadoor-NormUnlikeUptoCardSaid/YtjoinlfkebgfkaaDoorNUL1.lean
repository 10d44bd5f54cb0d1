/- Values on plain data: their parts; alike but for what lies behind lists. -/
import Derived.Test.YtjoinlfkebgfkaaDoorNUO
import Derived.Test.YtjoinlfkebgfkaaDoorNUV
import Derived.Test.YtjoinlfkebgfkaaDoorNUL0
namespace Go.Proofs.YtjoinlfkebgfkaaDoor
open Go Go.X
set_option linter.unusedVariables false
set_option linter.unusedSimpArgs false
set_option maxRecDepth 100000
def OKV (v : Value) : Prop := WT tab 32 (e_Value v)
def OKF (f : Field) : Prop := WT tab 57 (e_Field f)
theorem okV_parts {k n : Int} {s key : ByteArray} {l : List Value} {f : List Field} {x : Option (List Value)} {fx : Option (List Field)} {e : Int} {hk : Bool} (h : OKV (Value.mk k n s ⟨l, x⟩ ⟨f, fx⟩ e key hk)) :
    l.length * 112 ≤ reachBytes ∧ (∀ v ∈ l, OKV v) ∧ f.length * 128 ≤ reachBytes ∧ (∀ q ∈ f, OKF q) := by
  obtain ⟨a0, _, e0, h0, a1, _, e1, h1, a2, _, e2, h2, a3, _, e3, h3, a4, _, e4, h4, _⟩ := h.agg_inv ty_32 rfl
  obtain ⟨_, rfl, _⟩ := h0.int_inv ty_29
  obtain ⟨_, rfl, _⟩ := h1.int_inv ty_2
  obtain ⟨_, rfl, _⟩ := h2.str_inv ty_9
  obtain ⟨r3, q3, rfl, l3, m3, _⟩ := h3.slice_room ty_22
  obtain ⟨r4, q4, rfl, l4, m4, _⟩ := h4.slice_room ty_30
  subst e4; subst e3; subst e2; subst e1
  simp only [e_Value, es_Value, es_Field, List.cons_append, List.nil_append, List.cons.injEq, D.sl.injEq] at e0
  obtain ⟨_, _, _, ⟨rfl, _⟩, ⟨rfl, _⟩, _⟩ := e0
  rw [el_Value_map] at l3 m3
  rw [el_Field_map] at l4 m4
  simp only [List.length_map, List.mem_map, forall_exists_index, and_imp, forall_apply_eq_imp_iff₂, Nat.add_mul] at l3 m3 l4 m4
  exact ⟨by omega, m3, by omega, m4⟩
theorem okF_parts {n : ByteArray} {v : Value} (h : OKF (Field.mk n v)) : OKV v := by
  obtain ⟨a0, _, e0, h0, a1, _, e1, h1, e2⟩ := h.agg_inv ty_57 rfl
  obtain ⟨_, rfl, _⟩ := h0.str_inv ty_9
  subst e2; subst e1
  simp only [e_Field, List.cons_append, List.nil_append, List.cons.injEq, List.append_nil] at e0
  obtain ⟨_, rfl⟩ := e0
  exact h1
theorem size_L {x : Value} {k n : Int} {s key : ByteArray} {l : List Value} {lx : Option (List Value)} {f : Sl Field} {e : Int} {hk : Bool} (h : x ∈ l) : SizeOf.sizeOf x < SizeOf.sizeOf (Value.mk k n s ⟨l, lx⟩ f e key hk) := by
  have := List.sizeOf_lt_of_mem h
  simp only [Value.mk.sizeOf_spec, Sl.mk.sizeOf_spec]
  omega
theorem size_F {q : Field} {k n : Int} {s key : ByteArray} {f : List Field} {fx : Option (List Field)} {l : Sl Value} {e : Int} {hk : Bool} (h : q ∈ f) : SizeOf.sizeOf q < SizeOf.sizeOf (Value.mk k n s l ⟨f, fx⟩ e key hk) := by
  have := List.sizeOf_lt_of_mem h
  simp only [Value.mk.sizeOf_spec, Sl.mk.sizeOf_spec]
  omega
theorem size_V {m : ByteArray} {v : Value} : SizeOf.sizeOf v < SizeOf.sizeOf (Field.mk m v) := by
  simp only [Field.mk.sizeOf_spec]
  omega

/-! Alike but for what lies behind lists. -/
def fldR (p : Value → Value → Prop) : Field → Field → Prop
  | ⟨m, v⟩, ⟨m', v'⟩ => m = m' ∧ p v v'
def Ali : Nat → Value → Value → Prop
  | 0, _, _ => False
  | N + 1, .mk k n s ⟨l, _⟩ ⟨f, _⟩ e c b, .mk k' n' s' ⟨l', _⟩ ⟨f', _⟩ e' c' b' => k = k' ∧ n = n' ∧ s = s' ∧ e = e' ∧ c = c' ∧ b = b' ∧
      (l.length = l'.length ∧ ∀ (i : Nat) t a, l[i]? = some t → l'[i]? = some a → Ali N t a) ∧ f.length = f'.length ∧ ∀ (i : Nat) t a, f[i]? = some t → f'[i]? = some a → fldR (Ali N) t a
theorem Ali.refl : ∀ (N : Nat) (v : Value), SizeOf.sizeOf v ≤ N → Ali N v v := by
  intro N
  induction N with
  | zero =>
    intro v h
    obtain ⟨_, _, _, ⟨_, _⟩, ⟨_, _⟩, _, _, _⟩ := v
    simp only [Value.mk.sizeOf_spec] at h
    omega
  | succ N ih =>
    intro v h
    obtain ⟨k, n, s, ⟨l, x⟩, ⟨f, y⟩, e, c, b⟩ := v
    refine ⟨rfl, rfl, rfl, rfl, rfl, rfl, ⟨rfl, fun i t a h1 h2 => ?_⟩, rfl, fun i t a h1 h2 => ?_⟩
    · rw [h1] at h2; cases h2
      have := size_L (k := k) (n := n) (s := s) (key := c) (lx := x) (f := ⟨f, y⟩) (e := e) (hk := b) (List.mem_of_getElem? h1)
      exact ih t (by omega)
    · rw [h1] at h2; cases h2
      have := size_F (k := k) (n := n) (s := s) (key := c) (l := ⟨l, x⟩) (fx := y) (e := e) (hk := b) (List.mem_of_getElem? h1)
      obtain ⟨m, v⟩ := t
      have := size_V (m := m) (v := v)
      exact ⟨rfl, ih v (by omega)⟩

end Go.Proofs.YtjoinlfkebgfkaaDoor
