import Derived.Test.YtamllgdaepjcfaaVSL0
namespace Go.Proofs.Ytamllgdaepjcfaa
open Go Go.X
set_option linter.unusedVariables false
set_option linter.unusedSimpArgs false
set_option maxRecDepth 100000
theorem maxLen_eq : maxLen = 9223372036854775807 := by decide
theorem P19_def (fu : Nat) (l : List Int) (x : Option (List Int)) (hl : l.length ≤ maxLen) : ∃ r, P19 fu ⟨l, x⟩ = some r := by
  rw [maxLen_eq] at hl
  obtain ⟨q, hq⟩ : ∃ q, wl (P19_s0 fu l) (false, 0, 0) = some q := by
    obtain ⟨b, h1, _⟩ := wl_rule (f := P19_s0 fu l) (fun a => ∃ k : Nat, a.2.2 = (k : Int) ∧ k ≤ l.length) (fun a => l.length - a.2.2.toNat) (fun _ => True) (fun a hI => by
      obtain ⟨b, s, i⟩ := a
      obtain ⟨k, hk0, hk⟩ := hI
      dsimp only at hk0
      subst hk0
      unfold P19_s0
      dsimp only
      by_cases hlt : k < l.length
      · have h1 : decide ((k : Int) < ln l) = true := by simp [ln]; omega
        rw [h1, idx_lt l k hlt]
        simp only [cond_true, Option.bind_some]
        cases decide (1048576 < w64 (s + l[k])) with
        | true => exact .inr ⟨_, rfl, trivial⟩
        | false =>
          left
          refine ⟨_, rfl, ⟨k + 1, ?_, by omega⟩, ?_⟩
          · show w64 _ = _
            rw [w64_id (by omega) (by omega)]; rfl
          · show l.length - (w64 _).toNat < l.length - _
            rw [w64_id (by omega) (by omega)]
            omega
      · have h1 : decide ((k : Int) < ln l) = false := by simp [ln]; omega
        rw [h1]
        exact .inr ⟨_, rfl, trivial⟩) l.length (false, 0, 0) (by simp) ⟨0, rfl, by omega⟩
    exact ⟨b, h1⟩
  unfold P19
  dsimp only
  rw [hq]
  rcases q with ⟨_, _, _⟩ | ⟨_, _, _⟩ <;> exact ⟨_, rfl⟩
theorem P53_def (fu : Nat) (p : Value → Option Int) (l : List Value) (a : Int) (hl : l.length ≤ maxLen) (h : ∀ x ∈ l, ∃ r, p x = some r) : ∃ q, wl (P53_s0 fu p l) (a, 0) = some q := by
  rw [maxLen_eq] at hl
  refine wl_ends l.length hl (fun s k hk => ?_) a
  unfold P53_s0
  dsimp only
  by_cases hlt : k < l.length
  · have h1 : decide ((k : Int) < ln l) = true := by simp [ln]; omega
    rw [h1]
    simp only [cond_true]
    cases decide (s ≤ 1048576) with
    | false => exact .inl ⟨_, rfl⟩
    | true =>
      right
      refine ⟨hlt, ?_⟩
      obtain ⟨r, hr⟩ := h l[k] (List.getElem_mem hlt)
      rw [idx_lt l k hlt]
      generalize l[k] = x at hr
      obtain ⟨_, _, _, ⟨_, _⟩, ⟨_, _⟩, _, _, _⟩ := x
      simp only [cond_true, Option.bind_some, hr]
      exact ⟨_, rfl⟩
  · have h1 : decide ((k : Int) < ln l) = false := by simp [ln]; omega
    rw [h1]
    exact .inl ⟨_, rfl⟩
theorem P54_def (fu : Nat) (p : Field → Option Int) (l : List Field) (a : Int) (hl : l.length ≤ maxLen) (h : ∀ x ∈ l, ∃ r, p x = some r) : ∃ q, wl (P54_s0 fu p l) (a, 0) = some q := by
  rw [maxLen_eq] at hl
  refine wl_ends l.length hl (fun s k hk => ?_) a
  unfold P54_s0
  dsimp only
  by_cases hlt : k < l.length
  · have h1 : decide ((k : Int) < ln l) = true := by simp [ln]; omega
    rw [h1]
    simp only [cond_true]
    cases decide (s ≤ 1048576) with
    | false => exact .inl ⟨_, rfl⟩
    | true =>
      right
      refine ⟨hlt, ?_⟩
      obtain ⟨r, hr⟩ := h l[k] (List.getElem_mem hlt)
      rw [idx_lt l k hlt]
      generalize l[k] = x at hr
      obtain ⟨_, ⟨_, _, _, ⟨_, _⟩, ⟨_, _⟩, _, _, _⟩⟩ := x
      simp only [cond_true, Option.bind_some, hr]
      exact ⟨_, rfl⟩
  · have h1 : decide ((k : Int) < ln l) = false := by simp [ln]; omega
    rw [h1]
    exact .inl ⟨_, rfl⟩
/-- A value's size is told. -/
theorem P28_def : ∀ (N n : Nat) (a : Value), SizeOf.sizeOf a ≤ N → 4 * N ≤ n → OKV a → ∃ r, P28 n a = some r := by
  intro N
  induction N with
  | zero =>
    intro n a h
    obtain ⟨_, _, _, _, _, _, _, _⟩ := a
    simp only [Value.mk.sizeOf_spec] at h
    omega
  | succ N ih =>
    intro n a h hn oa
    obtain ⟨n', rfl⟩ : ∃ n', n = n' + 4 := ⟨n - 4, by omega⟩
    obtain ⟨k1, n1, s1, ⟨l1, x1⟩, ⟨f1, y1⟩, e1, c1, b1⟩ := a
    obtain ⟨p1, p2, p3, p4⟩ := okV_parts oa
    have hL : ∃ r, P53 (n' + 3) ⟨l1, x1⟩ = some r := by
      rw [P53.eq_2]
      unfold Pb53
      dsimp only
      obtain ⟨⟨q, i⟩, hq⟩ := P53_def (n' + 2) (P28 (n' + 2)) l1 (ln l1) p1 fun x hx => by
        have hs := size_L (k := k1) (n := n1) (s := s1) (key := c1) (lx := x1) (f := ⟨f1, y1⟩) (e := e1) (hk := b1) hx
        exact ih (n' + 2) x (by omega) (by omega) (p2 x hx)
      rw [hq]
      exact ⟨_, rfl⟩
    have hF : ∃ r, P54 (n' + 3) ⟨f1, y1⟩ = some r := by
      rw [P54.eq_2]
      unfold Pb54
      dsimp only
      obtain ⟨⟨q, i⟩, hq⟩ := P54_def (n' + 2) (P66 (n' + 2)) f1 (ln f1) p3 fun x hx => by
        have hs := size_F (k := k1) (n := n1) (s := s1) (key := c1) (l := ⟨l1, x1⟩) (fx := y1) (e := e1) (hk := b1) hx
        have ok := p4 x hx
        obtain ⟨m, v⟩ := x
        have hv := size_V (m := m) (v := v)
        obtain ⟨r, hr⟩ := ih (n' + 1) v (by omega) (by omega) (okF_parts ok)
        obtain ⟨_, _, _, ⟨_, _⟩, ⟨_, _⟩, _, _, _⟩ := v
        rw [P66.eq_2]
        unfold Pb66
        dsimp only
        cases decide (w64 (1 + (m.size : Int)) ≤ 1048576) with
        | true => rw [hr]; exact ⟨_, rfl⟩
        | false => exact ⟨_, rfl⟩
      rw [hq]
      exact ⟨_, rfl⟩
    obtain ⟨rL, hL⟩ := hL
    obtain ⟨rF, hF⟩ := hF
    rw [P28.eq_2]
    unfold Pb28
    dsimp only
    rw [hL, hF]
    simp only [Option.bind_some]
    repeat' (first | exact ⟨_, rfl⟩ | refine ex_bif ?_ ?_)
theorem P7_true (a b : Value) (ha : OKV a) (hb : OKV b) : ∃ fu, P7 fu a b = some true := by
  refine ⟨4 * (SizeOf.sizeOf a + SizeOf.sizeOf b) + 8, ?_⟩
  generalize hfu : 4 * (SizeOf.sizeOf a + SizeOf.sizeOf b) + 8 = fu
  obtain ⟨r1, h1⟩ := P28_def (SizeOf.sizeOf a) fu a (by omega) (by omega) ha
  obtain ⟨r2, h2⟩ := P28_def (SizeOf.sizeOf b) fu b (by omega) (by omega) hb
  obtain ⟨r3, h3⟩ := P19_def fu [r1, r2] (some []) (by simp [maxLen_eq])
  obtain ⟨r4, h4, h5⟩ := same_eq (SizeOf.sizeOf a) fu fu a b (by omega) (by omega) (by omega) ha hb
  obtain ⟨k1, n1, s1, ⟨l1, x1⟩, ⟨f1, y1⟩, e1, c1, b1⟩ := a
  obtain ⟨k2, n2, s2, ⟨l2, x2⟩, ⟨f2, y2⟩, e2, c2, b2⟩ := b
  obtain ⟨p1, p2, p3, p4⟩ := okV_parts ha
  obtain ⟨q1, q2, q3, q4⟩ := okV_parts hb
  have h6 : ∃ r, P56 fu ⟨f1, y1⟩ ⟨f2, y2⟩ = some r ∧ P57 fu ⟨f1, y1⟩ ⟨f2, y2⟩ = some r := by
    obtain ⟨g, rfl⟩ : ∃ g, fu = g + 3 := ⟨fu - 3, by omega⟩
    exact fields_eq (N := SizeOf.sizeOf (Value.mk k1 n1 s1 ⟨l1, x1⟩ ⟨f1, y1⟩ e1 c1 b1)) (n := g) (m := g + 1) (same_eq _) (fun q hq => by
      have := size_F (k := k1) (n := n1) (s := s1) (key := c1) (l := ⟨l1, x1⟩) (fx := y1) (e := e1) (hk := b1) hq
      omega) (by omega) (by omega) p3 p4 q4
  obtain ⟨r6, h6, h7⟩ := h6
  unfold P7
  dsimp only
  rw [h1, h2]
  simp only [Option.bind_some, h3, h4, h5, beq_self_eq_true, cond_true, P31, P32, h6, h7]
  cases r3 with
  | true => rfl
  | false =>
    simp only [cond_false]
    cases k1 == 5 <;> cases k2 == 5 <;> simp
theorem law7 (ls : List (List D)) (h : WTs tab [27, 27] ls) : call S 7 (argsPV tab [27, 27] ls) [] = some (.d (.bool true), []) := by
  obtain ⟨l1, _, rfl, h1, l2, _, rfl, h2, rfl⟩ := h
  obtain ⟨a, rfl⟩ := wt_27 h1
  obtain ⟨b, rfl⟩ := wt_27 h2
  obtain ⟨fu, hp⟩ := P7_true a b h1 h2
  refine call_of (ok7 rfl rfl hp ?_ [])
  obtain ⟨_, _, _, ⟨_, _⟩, ⟨_, _⟩, _, _, _⟩ := a
  obtain ⟨_, _, _, ⟨_, _⟩, ⟨_, _⟩, _, _, _⟩ := b
  rfl
end Go.Proofs.Ytamllgdaepjcfaa
