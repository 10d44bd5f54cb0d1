/- Whether a value may be, is told (of each value that has room). -/
import Derived.Test.YtipkggkbldgmjaaKQL3
namespace Go.Proofs.Ytipkggkbldgmjaa
open Go Go.X
set_option linter.unusedVariables false
set_option linter.unusedSimpArgs false
set_option maxRecDepth 100000
theorem name_t (fu : Nat) (s : ByteArray) : ∃ r, P82 fu s = some r := by
  unfold P82
  cases !(seq s ByteArray.empty) <;> exact ⟨_, rfl⟩
theorem own_t (fu : Nat) (e : Int) : ∃ r, P89 fu e = some r ∧ r.1.l.length ≤ 2 := by
  unfold P89
  cases e == 6 <;> cases e == 7 <;> cases e == 8 <;> cases e == 4 <;> cases e == 5 <;> exact ⟨_, rfl, by decide⟩
theorem named_st (fu : Nat) (p : Field → ByteArray → Option Bool) (a : List Field) (b : List ByteArray) : P90_s0 fu p a b = stAll a b p := by
  funext i
  unfold P90_s0 stAll
  dsimp only
  cases decide (i < ln a)
  · rfl
  · cases idx a i with
    | none => rfl
    | some x =>
      obtain ⟨_, ⟨_, _, _, ⟨_, _⟩, ⟨_, _⟩, _, _, _⟩⟩ := x
      cases idx b i with
      | none => rfl
      | some y => rfl
theorem named_t (fu : Nat) (f : List Field) (fx : Option (List Field)) (ks : List ByteArray) (kx : Option (List ByteArray)) (hk : ks.length ≤ 2) : ∃ r, P90 fu ⟨f, fx⟩ ⟨ks, kx⟩ (P91 fu) = some r := by
  unfold P90
  dsimp only
  rw [named_st]
  by_cases hl : f.length = ks.length
  · have e1 : (!(ln f == ln ks)) = false := by simp [ln, hl]
    rw [e1]
    dsimp only [cond_false]
    obtain ⟨q, h1, _⟩ := stAll_ok f ks (P91 fu) (fun q s => (P91 fu q s).getD false) hl (by omega) (fun x hx y hy => by
      obtain ⟨m, ⟨_, _, _, ⟨_, _⟩, ⟨_, _⟩, _, _, _⟩⟩ := x
      rfl)
    rw [h1]
    cases q <;> exact ⟨_, rfl⟩
  · have e1 : (!(ln f == ln ks)) = true := by simp [ln]; omega
    rw [e1]
    exact ⟨_, rfl⟩
theorem elem_t (fu : Nat) (v : Value) : ∃ r, P83 fu v = some r := by
  obtain ⟨k, n, s, ⟨l, x⟩, ⟨f, y⟩, e, c, b⟩ := v
  obtain ⟨⟨⟨ks, kx⟩, q⟩, h1, h2⟩ := own_t fu e
  obtain ⟨r1, h3⟩ := named_t fu f y ks kx h2
  obtain ⟨r2, h4⟩ := name_t fu s
  unfold P83
  dsimp only
  refine ex_bind ?_ fun i => ?_
  · repeat' (first | exact ⟨_, rfl⟩ | refine ex_bif ?_ ?_)
  · cases i with
    | true => exact ⟨_, rfl⟩
    | false =>
      rw [h1]
      dsimp only [cond_false, Option.bind_some]
      rw [h3, h4]
      repeat' (first | exact ⟨_, rfl⟩ | refine ex_bif ?_ ?_ | (refine ex_bind ?_ fun _ => ?_) | dsimp only)
theorem index_st (fu : Nat) (l : List Int) (a : Int) : P92_s0 fu l a = stFind (fun x => some (a == x)) l := by
  funext q
  obtain ⟨r, i⟩ := q
  unfold P92_s0 stFind
  rfl
theorem kinds_t (fu : Nat) (l : List Int) (x : Option (List Int)) (hl : l.length ≤ 2) (v : Value) : ∃ r, P84x1 fu ⟨l, x⟩ v = some r := by
  obtain ⟨_, _, _, ⟨_, _⟩, ⟨_, _⟩, _, _, _⟩ := v
  unfold P84x1 P85 P92
  dsimp only
  rw [index_st, find_ok (fun x => _) (by omega) (fun x hx => rfl)]
  cases List.findIdx? _ l <;> exact ⟨_, rfl⟩
def outA (b : Bool) (k : Int) : Option (Int ⊕ (Int ⊕ Int)) := bif b then some (.inr (.inr k)) else some (.inl (w64 (k + 1)))
theorem alone_t (fu : Nat) (v : Value) (N : Nat) (hv : Fit N v) : ∃ r, P63 fu v = some r := by
  obtain ⟨k, n, s, ⟨l, x⟩, ⟨f, y⟩, e, c, b⟩ := v
  cases N with
  | zero => exact absurd hv (by simp [Fit])
  | succ N =>
  obtain ⟨_, h1, _⟩ := hv
  have hf := len_room (by omega) h1
  unfold P63
  dsimp only
  refine ex_bind ?_ fun q => ?_
  · refine wl_tot (fun i => i) f.length (fun i k hi hk => ?_) 0 rfl
    subst hi
    unfold P63_s0
    dsimp only
    by_cases hlt : k < f.length
    · rw [lt_true hlt, idx_lt f k hlt]
      generalize hx : f[k] = x
      obtain ⟨m, ⟨_, _, _, ⟨_, _⟩, ⟨_, _⟩, _, _, _⟩⟩ := x
      dsimp only [cond_true, Option.bind_some]
      obtain ⟨r, hr⟩ := name_t fu m
      rw [hr]
      dsimp only [Option.bind_some]
      have fin : ∀ b : Bool, (∃ b', outA b (k : Int) = some (Sum.inr b')) ∨ k < f.length ∧ ∃ a', outA b (k : Int) = some (Sum.inl a') ∧ a' = ((k + 1 : Nat) : Int) := by
        intro b
        cases b with
        | true => exact .inl ⟨_, rfl⟩
        | false => exact .inr ⟨hlt, _, rfl, w64_succ (by omega)⟩
      cases r with
      | false => exact fin true
      | true =>
        cases k with
        | zero => exact fin false
        | succ k =>
          have e1 : decide (0 < ((k + 1 : Nat) : Int)) = true := by simp
          have e2 : w64 (((k + 1 : Nat) : Int) - 1) = (k : Int) := by rw [w64_id (by omega) (by omega)]; omega
          rw [e1, e2, idx_lt f k (by omega)]
          generalize hz : f[k] = z
          obtain ⟨m', ⟨_, _, _, ⟨_, _⟩, ⟨_, _⟩, _, _, _⟩⟩ := z
          exact fin (!(slt m' m))
    · have : k = f.length := by omega
      subst this
      rw [lt_false]
      exact .inl ⟨_, rfl⟩
  · cases q with
    | inr i => exact ⟨_, rfl⟩
    | inl i =>
      dsimp only
      obtain ⟨q1, e1⟩ := kinds_t fu [1, 7] (some []) (by decide) (Value.mk k n s ⟨l, x⟩ ⟨f, y⟩ e c b)
      obtain ⟨q2, e2⟩ := kinds_t fu [2] (some []) (by decide) (Value.mk k n s ⟨l, x⟩ ⟨f, y⟩ e c b)
      obtain ⟨q3, e3⟩ := kinds_t fu [3, 7] (some []) (by decide) (Value.mk k n s ⟨l, x⟩ ⟨f, y⟩ e c b)
      obtain ⟨q4, e4⟩ := kinds_t fu [4] (some []) (by decide) (Value.mk k n s ⟨l, x⟩ ⟨f, y⟩ e c b)
      obtain ⟨q5, e5⟩ := kinds_t fu [5, 7] (some []) (by decide) (Value.mk k n s ⟨l, x⟩ ⟨f, y⟩ e c b)
      obtain ⟨q6, e6⟩ := elem_t fu (Value.mk k n s ⟨l, x⟩ ⟨f, y⟩ e c b)
      simp only [Option.bind_some, e1, e2, e3, e4, e5, e6]
      repeat' (first | exact ⟨_, rfl⟩ | refine ex_bif ?_ ?_ | (refine ex_bind ?_ fun _ => ?_))
theorem walk_t : ∀ (N n : Nat) (v : Value), Fit N v → N ≤ n → ∀ (d b1 : Int) (b2 : Bool), ∃ r, P81x1 n v d b1 b2 = some r := by
  intro N
  induction N with
  | zero => intro n v h; exact absurd h (by obtain ⟨_, _, _, ⟨_, _⟩, ⟨_, _⟩, _, _, _⟩ := v; simp [Fit])
  | succ N ih =>
    intro n v h hn d b1 b2
    obtain ⟨n', rfl⟩ : ∃ n', n = n' + 1 := ⟨n - 1, by omega⟩
    have ha := alone_t n' v _ h
    obtain ⟨k, nn, s, ⟨l, x⟩, ⟨f, y⟩, e, c, b⟩ := v
    obtain ⟨⟨p1, p2⟩, p3, p4⟩ := h
    have hl1 := len_room (by omega) p1
    have hl3 := len_room (by omega) p3
    rw [P81x1.eq_2]
    unfold Pb81x1
    dsimp only
    refine ex_bind ?_ fun q => ?_
    · unfold P62x1
      dsimp only
      obtain ⟨r, hr⟩ := ha
      rw [hr]
      cases r <;> cases decide (w64 (b1 + 1) ≤ 4096) <;> exact ⟨_, rfl⟩
    · obtain ⟨r, g1, g2⟩ := q
      dsimp only
      cases r with
      | false => exact ⟨_, rfl⟩
      | true =>
        refine ex_bind ?_ fun q => ?_
        · refine wl_tot (fun a => a.2.2) l.length (fun a k hi hk => ?_) _ rfl
          obtain ⟨u1, u2, i⟩ := a
          dsimp only at hi
          subst hi
          unfold P81x1_s0
          dsimp only
          by_cases hlt : k < l.length
          · rw [lt_true hlt, idx_lt l k hlt]
            have hx := ih n' l[k] (p2 _ (List.getElem_mem hlt)) (by omega) (w64 (d + 1)) u1 u2
            generalize l[k] = z at hx
            obtain ⟨_, _, _, ⟨_, _⟩, ⟨_, _⟩, _, _, _⟩ := z
            dsimp only [cond_true, Option.bind_some]
            obtain ⟨⟨r, z1, z2⟩, hr⟩ := hx
            rw [hr]
            cases r with
            | false => exact .inl ⟨_, rfl⟩
            | true => exact .inr ⟨hlt, _, rfl, w64_succ (by omega)⟩
          · have : k = l.length := by omega
            subst this
            rw [lt_false]
            exact .inl ⟨_, rfl⟩
        · rcases q with ⟨q1, q2, q3⟩ | ⟨q1, q2, q3⟩
          · dsimp only
            refine ex_bind ?_ fun q => ?_
            · refine wl_tot (fun a => a.2.2) f.length (fun a k hi hk => ?_) _ rfl
              obtain ⟨u1, u2, i⟩ := a
              dsimp only at hi
              subst hi
              unfold P81x1_s1
              dsimp only
              by_cases hlt : k < f.length
              · rw [lt_true hlt, idx_lt f k hlt]
                have hq := p4 f[k] (List.getElem_mem hlt)
                generalize f[k] = z at hq
                obtain ⟨m, z⟩ := z
                have hx := ih n' z hq (by omega) (w64 (d + 1)) u1 u2
                obtain ⟨_, _, _, ⟨_, _⟩, ⟨_, _⟩, _, _, _⟩ := z
                dsimp only [cond_true, Option.bind_some]
                obtain ⟨⟨r, z1, z2⟩, hr⟩ := hx
                rw [hr]
                cases r with
                | false => exact .inl ⟨_, rfl⟩
                | true => exact .inr ⟨hlt, _, rfl, w64_succ (by omega)⟩
              · have : k = f.length := by omega
                subst this
                rw [lt_false]
                exact .inl ⟨_, rfl⟩
            · rcases q with ⟨q1, q2, q3⟩ | ⟨q1, q2, q3⟩ <;> exact ⟨_, rfl⟩
          · exact ⟨_, rfl⟩
theorem check_t {N n : Nat} {v : Value} (h : Fit N v) (hn : N ≤ n) : ∃ r, P41 n v = some r := by
  obtain ⟨⟨r, z1, z2⟩, hr⟩ := walk_t N n v h hn 1 0 true
  obtain ⟨_, _, _, ⟨_, _⟩, ⟨_, _⟩, _, _, _⟩ := v
  unfold P41 P61x1
  dsimp only
  rw [hr]
  exact ⟨_, rfl⟩
end Go.Proofs.Ytipkggkbldgmjaa
