/- Values that are there, and their size: it comes to an end. -/
import Derived.Test.YtamllgdaepjcfaaMPO
import Derived.Test.YtamllgdaepjcfaaMPV
namespace Go.Proofs.Ytamllgdaepjcfaa
open Go Go.X
set_option linter.unusedVariables false
set_option linter.unusedSimpArgs false
set_option maxRecDepth 100000
theorem call_of {f : Nat} {args : List PV} {st : St} {r : PV × St} (h : Sat ((real (call S)).cf f args st) (fun q => q = r)) : call S f args st = some r := by
  obtain ⟨_, h1, rfl⟩ := h; exact h1
def OKV (v : Value) : Prop := WT tab 27 (e_Value v)
def OKF (f : Field) : Prop := WT tab 99 (e_Field f)
theorem ok_rows {t e sz b : Nat} {d : D} (ht : tab.ty t = .slice e sz b) (h : WT tab t [d]) : ∃ rows hid, d = .sl rows (some hid) ∧ rows.length ≤ maxLen ∧ ∀ r ∈ rows, WT tab e r := by
  obtain ⟨rows, hid, h1, h2, h3, _⟩ := h.slice_inv ht
  cases h1
  exact ⟨rows, hid, rfl, by omega, h3⟩
theorem okV_parts {k n : Int} {s key : ByteArray} {l : List Value} {f : List Field} {x : Option (List Value)} {fx : Option (List Field)} {e : Int} {hk : Bool} (h : OKV (Value.mk k n s ⟨l, x⟩ ⟨f, fx⟩ e key hk)) :
    l.length ≤ maxLen ∧ (∀ v ∈ l, OKV v) ∧ f.length ≤ maxLen ∧ (∀ q ∈ f, OKF q) := by
  obtain ⟨a0, _, e0, h0, a1, _, e1, h1, a2, _, e2, h2, a3, _, e3, h3, a4, _, e4, h4, _⟩ := h.agg_inv ty_27 rfl
  obtain ⟨_, rfl, _⟩ := h0.int_inv ty_23
  obtain ⟨_, rfl, _⟩ := h1.int_inv ty_2
  obtain ⟨_, rfl, _⟩ := h2.str_inv ty_9
  obtain ⟨r3, q3, rfl, l3, m3, _⟩ := h3.slice_inv ty_24
  obtain ⟨r4, q4, rfl, l4, m4, _⟩ := h4.slice_inv ty_25
  subst e4; subst e3; subst e2; subst e1
  simp only [e_Value, es_Value, es_Field, List.cons_append, List.nil_append, List.cons.injEq, D.sl.injEq] at e0
  obtain ⟨_, _, _, ⟨rfl, _⟩, ⟨rfl, _⟩, _⟩ := e0
  rw [el_Value_map] at l3 m3
  rw [el_Field_map] at l4 m4
  simp only [List.length_map, List.mem_map, forall_exists_index, and_imp, forall_apply_eq_imp_iff₂] at l3 m3 l4 m4
  exact ⟨by omega, m3, by omega, m4⟩
theorem okF_parts {n : ByteArray} {v : Value} (h : OKF (Field.mk n v)) : OKV v := by
  obtain ⟨a0, _, e0, h0, a1, _, e1, h1, e2⟩ := h.agg_inv ty_99 rfl
  obtain ⟨_, rfl, _⟩ := h0.str_inv ty_9
  subst e2; subst e1
  simp only [e_Field, List.cons_append, List.nil_append, List.cons.injEq, List.append_nil] at e0
  obtain ⟨_, rfl⟩ := e0
  exact h1
theorem size_L {x : Value} {k n : Int} {s key : ByteArray} {l : List Value} {lx : Option (List Value)} {f : Sl Field} {e : Int} {hk : Bool} (h : x ∈ l) : SizeOf.sizeOf x < SizeOf.sizeOf (Value.mk k n s ⟨l, lx⟩ f e key hk) := by
  have := List.sizeOf_lt_of_mem h
  simp only [Value.mk.sizeOf_spec, Sl.mk.sizeOf_spec]
  omega
theorem size_F {q : Field} {k n : Int} {s key : ByteArray} {f : List Field} {fx : Option (List Field)} {l : Sl Value} {e : Int} {hk : Bool} (h : q ∈ f) : SizeOf.sizeOf q < SizeOf.sizeOf (Value.mk k n s l ⟨f, fx⟩ e key hk) := by
  have := List.sizeOf_lt_of_mem h
  simp only [Value.mk.sizeOf_spec, Sl.mk.sizeOf_spec]
  omega
theorem size_V {m : ByteArray} {v : Value} : SizeOf.sizeOf v < SizeOf.sizeOf (Field.mk m v) := by
  simp only [Field.mk.sizeOf_spec]
  omega
theorem maxLen_eq : maxLen = 9223372036854775807 := by decide
theorem P19_def (fu : Nat) (l : List Int) (x : Option (List Int)) (hl : l.length ≤ maxLen) : ∃ r, P19 fu ⟨l, x⟩ = some r := by
  rw [maxLen_eq] at hl
  obtain ⟨q, hq⟩ : ∃ q, wl (P19_s0 fu l) (false, 0, 0) = some q := by
    obtain ⟨b, h1, _⟩ := wl_rule (f := P19_s0 fu l) (fun a => ∃ k : Nat, a.2.2 = (k : Int) ∧ k ≤ l.length) (fun a => l.length - a.2.2.toNat) (fun _ => True) (fun a hI => by
      obtain ⟨b, s, i⟩ := a
      obtain ⟨k, hk0, hk⟩ := hI
      dsimp only at hk0
      subst hk0
      unfold P19_s0
      dsimp only
      by_cases hlt : k < l.length
      · have h1 : decide ((k : Int) < ln l) = true := by simp [ln]; omega
        rw [h1, idx_lt l k hlt]
        simp only [cond_true, Option.bind_some]
        cases decide (1048576 < w64 (s + l[k])) with
        | true => exact .inr ⟨_, rfl, trivial⟩
        | false =>
          left
          refine ⟨_, rfl, ⟨k + 1, ?_, by omega⟩, ?_⟩
          · show w64 _ = _
            rw [w64_id (by omega) (by omega)]; rfl
          · show l.length - (w64 _).toNat < l.length - _
            rw [w64_id (by omega) (by omega)]
            omega
      · have h1 : decide ((k : Int) < ln l) = false := by simp [ln]; omega
        rw [h1]
        exact .inr ⟨_, rfl, trivial⟩) l.length (false, 0, 0) (by simp) ⟨0, rfl, by omega⟩
    exact ⟨b, h1⟩
  unfold P19
  dsimp only
  rw [hq]
  rcases q with ⟨_, _, _⟩ | ⟨_, _, _⟩ <;> exact ⟨_, rfl⟩
theorem P53_def (fu : Nat) (p : Value → Option Int) (l : List Value) (a : Int) (hl : l.length ≤ maxLen) (h : ∀ x ∈ l, ∃ r, p x = some r) : ∃ q, wl (P53_s0 fu p l) (a, 0) = some q := by
  rw [maxLen_eq] at hl
  refine wl_ends l.length hl (fun s k hk => ?_) a
  unfold P53_s0
  dsimp only
  by_cases hlt : k < l.length
  · have h1 : decide ((k : Int) < ln l) = true := by simp [ln]; omega
    rw [h1]
    simp only [cond_true]
    cases decide (s ≤ 1048576) with
    | false => exact .inl ⟨_, rfl⟩
    | true =>
      right
      refine ⟨hlt, ?_⟩
      obtain ⟨r, hr⟩ := h l[k] (List.getElem_mem hlt)
      rw [idx_lt l k hlt]
      generalize l[k] = x at hr
      obtain ⟨_, _, _, ⟨_, _⟩, ⟨_, _⟩, _, _, _⟩ := x
      simp only [cond_true, Option.bind_some, hr]
      exact ⟨_, rfl⟩
  · have h1 : decide ((k : Int) < ln l) = false := by simp [ln]; omega
    rw [h1]
    exact .inl ⟨_, rfl⟩
theorem P54_def (fu : Nat) (p : Field → Option Int) (l : List Field) (a : Int) (hl : l.length ≤ maxLen) (h : ∀ x ∈ l, ∃ r, p x = some r) : ∃ q, wl (P54_s0 fu p l) (a, 0) = some q := by
  rw [maxLen_eq] at hl
  refine wl_ends l.length hl (fun s k hk => ?_) a
  unfold P54_s0
  dsimp only
  by_cases hlt : k < l.length
  · have h1 : decide ((k : Int) < ln l) = true := by simp [ln]; omega
    rw [h1]
    simp only [cond_true]
    cases decide (s ≤ 1048576) with
    | false => exact .inl ⟨_, rfl⟩
    | true =>
      right
      refine ⟨hlt, ?_⟩
      obtain ⟨r, hr⟩ := h l[k] (List.getElem_mem hlt)
      rw [idx_lt l k hlt]
      generalize l[k] = x at hr
      obtain ⟨_, ⟨_, _, _, ⟨_, _⟩, ⟨_, _⟩, _, _, _⟩⟩ := x
      simp only [cond_true, Option.bind_some, hr]
      exact ⟨_, rfl⟩
  · have h1 : decide ((k : Int) < ln l) = false := by simp [ln]; omega
    rw [h1]
    exact .inl ⟨_, rfl⟩
/-- A value's size is told. -/
theorem P28_def : ∀ (N n : Nat) (a : Value), SizeOf.sizeOf a ≤ N → 4 * N ≤ n → OKV a → ∃ r, P28 n a = some r := by
  intro N
  induction N with
  | zero =>
    intro n a h
    obtain ⟨_, _, _, _, _, _, _, _⟩ := a
    simp only [Value.mk.sizeOf_spec] at h
    omega
  | succ N ih =>
    intro n a h hn oa
    obtain ⟨n', rfl⟩ : ∃ n', n = n' + 4 := ⟨n - 4, by omega⟩
    obtain ⟨k1, n1, s1, ⟨l1, x1⟩, ⟨f1, y1⟩, e1, c1, b1⟩ := a
    obtain ⟨p1, p2, p3, p4⟩ := okV_parts oa
    have hL : ∃ r, P53 (n' + 3) ⟨l1, x1⟩ = some r := by
      rw [P53.eq_2]
      unfold Pb53
      dsimp only
      obtain ⟨⟨q, i⟩, hq⟩ := P53_def (n' + 2) (P28 (n' + 2)) l1 (ln l1) p1 fun x hx => by
        have hs := size_L (k := k1) (n := n1) (s := s1) (key := c1) (lx := x1) (f := ⟨f1, y1⟩) (e := e1) (hk := b1) hx
        exact ih (n' + 2) x (by omega) (by omega) (p2 x hx)
      rw [hq]
      exact ⟨_, rfl⟩
    have hF : ∃ r, P54 (n' + 3) ⟨f1, y1⟩ = some r := by
      rw [P54.eq_2]
      unfold Pb54
      dsimp only
      obtain ⟨⟨q, i⟩, hq⟩ := P54_def (n' + 2) (P66 (n' + 2)) f1 (ln f1) p3 fun x hx => by
        have hs := size_F (k := k1) (n := n1) (s := s1) (key := c1) (l := ⟨l1, x1⟩) (fx := y1) (e := e1) (hk := b1) hx
        have ok := p4 x hx
        obtain ⟨m, v⟩ := x
        have hv := size_V (m := m) (v := v)
        obtain ⟨r, hr⟩ := ih (n' + 1) v (by omega) (by omega) (okF_parts ok)
        obtain ⟨_, _, _, ⟨_, _⟩, ⟨_, _⟩, _, _, _⟩ := v
        rw [P66.eq_2]
        unfold Pb66
        dsimp only
        cases decide (w64 (1 + (m.size : Int)) ≤ 1048576) with
        | true => rw [hr]; exact ⟨_, rfl⟩
        | false => exact ⟨_, rfl⟩
      rw [hq]
      exact ⟨_, rfl⟩
    obtain ⟨rL, hL⟩ := hL
    obtain ⟨rF, hF⟩ := hF
    rw [P28.eq_2]
    unfold Pb28
    dsimp only
    rw [hL, hF]
    simp only [Option.bind_some]
    repeat' (first | exact ⟨_, rfl⟩ | refine ex_bif ?_ ?_)
end Go.Proofs.Ytamllgdaepjcfaa
