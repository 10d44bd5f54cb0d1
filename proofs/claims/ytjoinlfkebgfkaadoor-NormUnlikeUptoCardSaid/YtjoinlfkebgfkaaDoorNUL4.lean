/- Values' size: it is told, whatever it comes to. -/
import Derived.Test.YtjoinlfkebgfkaaDoorNUL2
namespace Go.Proofs.YtjoinlfkebgfkaaDoor
open Go Go.X
set_option linter.unusedVariables false
set_option linter.unusedSimpArgs false
set_option maxRecDepth 100000
theorem P7_def (fu : Nat) (l : List Int) (x : Option (List Int)) (hl : l.length ≤ 9223372036854775807) : ∃ r, P7 fu ⟨l, x⟩ = some r := by
  obtain ⟨q, hq⟩ : ∃ q, wl (P7_s0 fu l) (false, 0, 0) = some q := by
    obtain ⟨b, h1, _⟩ := wl_rule (f := P7_s0 fu l) (fun a => ∃ k : Nat, a.2.2 = (k : Int) ∧ k ≤ l.length) (fun a => l.length - a.2.2.toNat) (fun _ => True) (fun a hI => by
      obtain ⟨b, s, i⟩ := a
      obtain ⟨k, hk0, hk⟩ := hI
      dsimp only at hk0
      subst hk0
      unfold P7_s0
      dsimp only
      by_cases hlt : k < l.length
      · have h1 : decide ((k : Int) < ln l) = true := by simp [ln]; omega
        rw [h1, idx_lt l k hlt]
        simp only [cond_true, Option.bind_some]
        cases decide (1048576 < w64 (s + l[k])) with
        | true => exact .inr ⟨_, rfl, trivial⟩
        | false =>
          left
          refine ⟨_, rfl, ⟨k + 1, ?_, by omega⟩, ?_⟩
          · show w64 _ = _
            rw [w64_id (by omega) (by omega)]; rfl
          · show l.length - (w64 _).toNat < l.length - _
            rw [w64_id (by omega) (by omega)]
            omega
      · have h1 : decide ((k : Int) < ln l) = false := by simp [ln]; omega
        rw [h1]
        exact .inr ⟨_, rfl, trivial⟩) l.length (false, 0, 0) (by simp) ⟨0, rfl, by omega⟩
    exact ⟨b, h1⟩
  unfold P7
  dsimp only
  rw [hq]
  rcases q with ⟨_, _, _⟩ | ⟨_, _, _⟩ <;> exact ⟨_, rfl⟩
theorem P8_def (fu : Nat) (p : Value → Option Int) (l : List Value) (a : Int) (hl : l.length ≤ 9223372036854775807) (h : ∀ x ∈ l, ∃ r, p x = some r) : ∃ q, wl (P8_s0 fu p l) (a, 0) = some q := by
  refine wl_ends l.length hl (fun s k hk => ?_) a
  unfold P8_s0
  dsimp only
  by_cases hlt : k < l.length
  · have h1 : decide ((k : Int) < ln l) = true := by simp [ln]; omega
    rw [h1]
    simp only [cond_true]
    cases decide (s ≤ 1048576) with
    | false => exact .inl ⟨_, rfl⟩
    | true =>
      right
      refine ⟨hlt, ?_⟩
      obtain ⟨r, hr⟩ := h l[k] (List.getElem_mem hlt)
      rw [idx_lt l k hlt]
      generalize l[k] = x at hr
      obtain ⟨_, _, _, ⟨_, _⟩, ⟨_, _⟩, _, _, _⟩ := x
      simp only [cond_true, Option.bind_some, hr]
      exact ⟨_, rfl⟩
  · have h1 : decide ((k : Int) < ln l) = false := by simp [ln]; omega
    rw [h1]
    exact .inl ⟨_, rfl⟩
theorem P20_def (fu : Nat) (p : Field → Option Int) (l : List Field) (a : Int) (hl : l.length ≤ 9223372036854775807) (h : ∀ x ∈ l, ∃ r, p x = some r) : ∃ q, wl (P20_s0 fu p l) (a, 0) = some q := by
  refine wl_ends l.length hl (fun s k hk => ?_) a
  unfold P20_s0
  dsimp only
  by_cases hlt : k < l.length
  · have h1 : decide ((k : Int) < ln l) = true := by simp [ln]; omega
    rw [h1]
    simp only [cond_true]
    cases decide (s ≤ 1048576) with
    | false => exact .inl ⟨_, rfl⟩
    | true =>
      right
      refine ⟨hlt, ?_⟩
      obtain ⟨r, hr⟩ := h l[k] (List.getElem_mem hlt)
      rw [idx_lt l k hlt]
      generalize l[k] = x at hr
      obtain ⟨_, ⟨_, _, _, ⟨_, _⟩, ⟨_, _⟩, _, _, _⟩⟩ := x
      simp only [cond_true, Option.bind_some, hr]
      exact ⟨_, rfl⟩
  · have h1 : decide ((k : Int) < ln l) = false := by simp [ln]; omega
    rw [h1]
    exact .inl ⟨_, rfl⟩
/-- A value's size is told. -/
theorem P13_def : ∀ (N n : Nat) (a : Value), SizeOf.sizeOf a ≤ N → 4 * N ≤ n → OKV a → ∃ r, P13 n a = some r := by
  intro N
  induction N with
  | zero =>
    intro n a h
    obtain ⟨_, _, _, _, _, _, _, _⟩ := a
    simp only [Value.mk.sizeOf_spec] at h
    omega
  | succ N ih =>
    intro n a h hn oa
    obtain ⟨n', rfl⟩ : ∃ n', n = n' + 4 := ⟨n - 4, by omega⟩
    obtain ⟨k1, n1, s1, ⟨l1, x1⟩, ⟨f1, y1⟩, e1, c1, b1⟩ := a
    obtain ⟨p1, p2, p3, p4⟩ := okV_parts oa
    have hL : ∃ r, P8 (n' + 3) ⟨l1, x1⟩ = some r := by
      rw [P8.eq_2]
      unfold Pb8
      dsimp only
      obtain ⟨⟨q, i⟩, hq⟩ := P8_def (n' + 2) (P13 (n' + 2)) l1 (ln l1) (by have := len_room (by omega) p1; omega) fun x hx => by
        have hs := size_L (k := k1) (n := n1) (s := s1) (key := c1) (lx := x1) (f := ⟨f1, y1⟩) (e := e1) (hk := b1) hx
        exact ih (n' + 2) x (by omega) (by omega) (p2 x hx)
      rw [hq]
      exact ⟨_, rfl⟩
    have hF : ∃ r, P20 (n' + 3) ⟨f1, y1⟩ = some r := by
      rw [P20.eq_2]
      unfold Pb20
      dsimp only
      obtain ⟨⟨q, i⟩, hq⟩ := P20_def (n' + 2) (P28 (n' + 2)) f1 (ln f1) (by have := len_room (by omega) p3; omega) fun x hx => by
        have hs := size_F (k := k1) (n := n1) (s := s1) (key := c1) (l := ⟨l1, x1⟩) (fx := y1) (e := e1) (hk := b1) hx
        have ok := p4 x hx
        obtain ⟨m, v⟩ := x
        have hv := size_V (m := m) (v := v)
        obtain ⟨r, hr⟩ := ih (n' + 1) v (by omega) (by omega) (okF_parts ok)
        obtain ⟨_, _, _, ⟨_, _⟩, ⟨_, _⟩, _, _, _⟩ := v
        rw [P28.eq_2]
        unfold Pb28
        dsimp only
        cases decide (w64 (1 + (m.size : Int)) ≤ 1048576) with
        | true => rw [hr]; exact ⟨_, rfl⟩
        | false => exact ⟨_, rfl⟩
      rw [hq]
      exact ⟨_, rfl⟩
    obtain ⟨rL, hL⟩ := hL
    obtain ⟨rF, hF⟩ := hF
    rw [P13.eq_2]
    unfold Pb13
    dsimp only
    rw [hL, hF]
    simp only [Option.bind_some]
    exact ex_bind (ex_bif ⟨_, rfl⟩ ⟨_, rfl⟩) fun q => ex_bind (ex_bif ⟨_, rfl⟩ ⟨_, rfl⟩) fun q => ⟨_, rfl⟩
theorem sizes_told (N n : Nat) (l : List Value) (x : Option (List Value)) (h1 : l.length * 112 ≤ reachBytes) (h2 : ∀ v ∈ l, SizeOf.sizeOf v ≤ N ∧ OKV v) (hn : 4 * N + 1 ≤ n) : ∃ r, P8 n ⟨l, x⟩ = some r := by
  obtain ⟨n', rfl⟩ : ∃ n', n = n' + 1 := ⟨n - 1, by omega⟩
  rw [P8.eq_2]
  unfold Pb8
  dsimp only
  obtain ⟨⟨q, i⟩, hq⟩ := P8_def n' (P13 n') l (ln l) (by have := len_room (by omega) h1; omega) fun v hv => P13_def N n' v (h2 v hv).1 (by omega) (h2 v hv).2
  rw [hq]
  exact ⟨_, rfl⟩
end Go.Proofs.YtjoinlfkebgfkaaDoor
