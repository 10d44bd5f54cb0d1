/- The statements' own word for being the same, of such as are alike. -/
import Derived.Test.YtjoinlfkebgfkaaDoorNUL2
namespace Go.Proofs.YtjoinlfkebgfkaaDoor
open Go Go.X
set_option linter.unusedVariables false
set_option linter.unusedSimpArgs false
set_option maxRecDepth 100000
theorem slV_st (fu : Nat) (p : Value → Value → Option Bool) (a b : List Value) : P36_s0 fu p a b = stAll a b p := by
  funext i
  unfold P36_s0 stAll
  dsimp only
  cases decide (i < ln a)
  · rfl
  · cases idx a i with
    | none => rfl
    | some x =>
      obtain ⟨_, _, _, ⟨_, _⟩, ⟨_, _⟩, _, _, _⟩ := x
      cases idx b i with
      | none => rfl
      | some y =>
        obtain ⟨_, _, _, ⟨_, _⟩, ⟨_, _⟩, _, _, _⟩ := y
        rfl
theorem slF_st (fu : Nat) (p : Field → Field → Option Bool) (a b : List Field) : P37_s0 fu p a b = stAll a b p := by
  funext i
  unfold P37_s0 stAll
  dsimp only
  cases decide (i < ln a)
  · rfl
  · cases idx a i with
    | none => rfl
    | some x =>
      obtain ⟨_, ⟨_, _, _, ⟨_, _⟩, ⟨_, _⟩, _, _, _⟩⟩ := x
      cases idx b i with
      | none => rfl
      | some y =>
        obtain ⟨_, ⟨_, _, _, ⟨_, _⟩, ⟨_, _⟩, _, _, _⟩⟩ := y
        rfl
theorem said_same : ∀ (N n : Nat) (a b : Value), Ali N a b → Fit N a → 3 * N ≤ n → P27 n a b = some true := by
  intro N
  induction N with
  | zero => intro n a b h; exact absurd h (by obtain ⟨_, _, _, ⟨_, _⟩, ⟨_, _⟩, _, _, _⟩ := a; simp [Ali])
  | succ N ih =>
    intro n a b h hf hn
    obtain ⟨n', rfl⟩ : ∃ n', n = n' + 3 := ⟨n - 3, by omega⟩
    obtain ⟨k1, n1, s1, ⟨l1, x1⟩, ⟨f1, y1⟩, e1, c1, b1⟩ := a
    obtain ⟨k2, n2, s2, ⟨l2, x2⟩, ⟨f2, y2⟩, e2, c2, b2⟩ := b
    obtain ⟨rfl, rfl, rfl, rfl, rfl, rfl, ⟨u1, u2⟩, u3, u4⟩ := h
    obtain ⟨⟨p1, p2⟩, p3, p4⟩ := hf
    have hl1 := len_room (by omega) p1
    have hl3 := len_room (by omega) p3
    have e1 : (ln l1 == ln l2) = true := by simp [ln, u1]
    have e2 : (ln f1 == ln f2) = true := by simp [ln, u3]
    have hV : P36 (n' + 2) ⟨l1, x1⟩ ⟨l2, x2⟩ = some true := by
      rw [P36.eq_2]
      simp only [Pb36, slV_st, e1, Bool.not_true, cond_false]
      rw [(allYes (a := l1) (b := l2) (p := P27 (n' + 1)) rfl u1.symm (by omega) (fun i x y hx hy => ih (n' + 1) x y (u2 i x y hx hy) (p2 _ (List.mem_of_getElem? hx)) (by omega))).use (t := some true) (f := some false) (fun _ => rfl) (fun _ => rfl)]
      rfl
    have hF : P37 (n' + 2) ⟨f1, y1⟩ ⟨f2, y2⟩ = some true := by
      rw [P37.eq_2]
      simp only [Pb37, slF_st, e2, Bool.not_true, cond_false]
      rw [(allYes (a := f1) (b := f2) (p := P45 (n' + 1)) rfl u3.symm (by omega) (fun i x y hx hy => by
        have h1 := u4 i x y hx hy
        have h2 := p4 x (List.mem_of_getElem? hx)
        obtain ⟨m, v⟩ := x
        obtain ⟨m', w⟩ := y
        obtain ⟨rfl, h1⟩ := h1
        have := ih n' v w h1 h2 (by omega)
        rw [P45.eq_2]
        unfold Pb45
        obtain ⟨_, _, _, ⟨_, _⟩, ⟨_, _⟩, _, _, _⟩ := v
        obtain ⟨_, _, _, ⟨_, _⟩, ⟨_, _⟩, _, _, _⟩ := w
        dsimp only
        rw [seq_self, this]
        rfl)).use (t := some true) (f := some false) (fun _ => rfl) (fun _ => rfl)]
      rfl
    rw [P27.eq_2]
    simp only [Pb27, beq_self_eq_true, seq_self, cond_true, hV, hF, Option.bind_some]
end Go.Proofs.YtjoinlfkebgfkaaDoor
