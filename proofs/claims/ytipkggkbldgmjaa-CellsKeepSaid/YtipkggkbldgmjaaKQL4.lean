/- Such as are alike are the same. -/
import Derived.Test.YtipkggkbldgmjaaKQL3
import Derived.Test.YtipkggkbldgmjaaKQL2
namespace Go.Proofs.Ytipkggkbldgmjaa
open Go Go.X
set_option linter.unusedVariables false
set_option linter.unusedSimpArgs false
set_option maxRecDepth 100000
theorem same_true : ∀ (N n : Nat) (a b : Value), Ali N a b → Fit N a → 4 * N ≤ n → P32 n a b = some true := by
  intro N
  induction N with
  | zero => intro n a b h; exact absurd h (by obtain ⟨_, _, _, ⟨_, _⟩, ⟨_, _⟩, _, _, _⟩ := a; simp [Ali])
  | succ N ih =>
    intro n a b h hf hn
    obtain ⟨n', rfl⟩ : ∃ n', n = n' + 4 := ⟨n - 4, by omega⟩
    obtain ⟨k1, n1, s1, ⟨l1, x1⟩, ⟨f1, y1⟩, e1, c1, b1⟩ := a
    obtain ⟨k2, n2, s2, ⟨l2, x2⟩, ⟨f2, y2⟩, e2, c2, b2⟩ := b
    obtain ⟨rfl, rfl, rfl, rfl, rfl, rfl, ⟨u1, u2⟩, u3, u4⟩ := h
    obtain ⟨⟨p1, p2⟩, p3, p4⟩ := hf
    have hl1 := len_room (by omega) p1
    have hl3 := len_room (by omega) p3
    rw [P32.eq_2]
    simp only [Pb32, beq_self_eq_true, seq_self, cond_true, P36, eqV_st]
    have e1 : (!(ln l1 == ln l2)) = false := by simp [ln, u1]
    have e2 : (!(ln f1 == ln f2)) = false := by simp [ln, u3]
    simp only [e1, cond_false]
    rw [(allYes (a := l1) (b := l2) (p := P32 (n' + 3)) rfl u1.symm (by omega) (fun i x y hx hy => ih (n' + 3) x y (u2 i x y hx hy) (p2 _ (List.mem_of_getElem? hx)) (by omega))).use (t := some true) (f := some false) (fun _ => rfl) (fun _ => rfl)]
    simp only [cond_true, Option.bind_some]
    rw [P55.eq_2]
    simp only [Pb55, P72, eqF_st, e2, cond_false]
    rw [(allYes (a := f1) (b := f2) (p := P73 (n' + 2)) rfl u3.symm (by omega) (fun i x y hx hy => by
      have h1 := u4 i x y hx hy
      have h2 := p4 x (List.mem_of_getElem? hx)
      obtain ⟨m, v⟩ := x
      obtain ⟨m', w⟩ := y
      obtain ⟨rfl, h1⟩ := h1
      rw [sameF_fld]
      simp only [fld, seq_self, cond_true]
      exact ih (n' + 1) v w h1 h2 (by omega))).use (t := some true) (f := some false) (fun _ => rfl) (fun _ => rfl)]
    rfl
end Go.Proofs.Ytipkggkbldgmjaa
