/- Values on plain data: their parts; being the same as the program tells it and as the reference does. -/
import Derived.Test.YtipkggkbldgmjaaKCL2
namespace Go.Proofs.Ytipkggkbldgmjaa
open Go Go.X
set_option linter.unusedVariables false
set_option linter.unusedSimpArgs false
set_option maxRecDepth 100000
theorem refV_st (fu : Nat) (p : Value → Value → Option Bool) (a b : List Value) : P33_s0 fu p a b = stAll a b p := eqV_st fu p a b
theorem refF_st (fu : Nat) (p : Value → Value → Option Bool) (a b : List Field) : P56_s0 fu p a b = stAll a b (fld p) := by
  funext i
  unfold P56_s0 stAll
  dsimp only
  cases hd : decide (i < ln a)
  · rfl
  · cases h1 : idx a i with
    | none => rfl
    | some x =>
      obtain ⟨n, ⟨_, _, _, ⟨_, _⟩, ⟨_, _⟩, _, _, _⟩⟩ := x
      cases h2 : idx b i with
      | none => rfl
      | some y =>
        obtain ⟨m, ⟨_, _, _, ⟨_, _⟩, ⟨_, _⟩, _, _, _⟩⟩ := y
        simp only [Option.bind_some, cond_true, fld, Bool.not_not]
        cases seq n m with
        | false => rfl
        | true =>
          simp only [cond_true]
          cases p _ _ with
          | none => rfl
          | some r => cases r <;> rfl
theorem sameFs_eq {N n m : Nat} (ih : ∀ (n m : Nat) (a b ta tb : Value), Ali N ta a → Ali N tb b → 4 * N ≤ n → 4 * N ≤ m → OKV a → ∃ r, P32 n ta tb = some r ∧ P33 m a b = some r)
    {f g tf tg : List Field} {fx gx tfx tgx : Option (List Field)} (a1 : tf.length = f.length) (a2 : ∀ (i : Nat) t a, tf[i]? = some t → f[i]? = some a → fldR (Ali N) t a)
    (b1 : tg.length = g.length) (b2 : ∀ (i : Nat) t a, tg[i]? = some t → g[i]? = some a → fldR (Ali N) t a) (hn : 4 * N ≤ n) (hm : 4 * N ≤ m) (o1 : f.length * 128 ≤ reachBytes) (o2 : ∀ q ∈ f, OKF q) :
    ∃ r, P55 (n + 3) ⟨tf, tfx⟩ ⟨tg, tgx⟩ = some r ∧ P56 (m + 2) ⟨f, fx⟩ ⟨g, gx⟩ = some r := by
  have hlen := len_room (by omega) o1
  rw [P55.eq_2, P56.eq_2]
  simp only [bind_id, Pb55, P72, Pb56, eqF_st, refF_st]
  by_cases hl : f.length = g.length
  · have e1 : (!(ln f == ln g)) = false := by simp [ln, hl]
    have e2 : (!(ln tf == ln tg)) = false := by simp [ln, a1, b1, hl]
    simp only [e1, e2, cond_false]
    obtain ⟨r, w1, w2⟩ := both2 (a := tf) (b := tg) (a' := f) (b' := g) (p := P73 (n + 2)) (p' := fld (P33 (m + 1))) (n := f.length) a1 (by omega) rfl hl.symm (by omega) (fun i x y x' y' hx hy hx' hy' => by
      rw [sameF_fld]
      obtain ⟨q1, r1⟩ := x
      obtain ⟨q2, r2⟩ := y
      obtain ⟨q3, r3⟩ := x'
      obtain ⟨q4, r4⟩ := y'
      obtain ⟨rfl, h1⟩ := a2 i _ _ hx hx'
      obtain ⟨rfl, h2⟩ := b2 i _ _ hy hy'
      obtain ⟨r, g1, g2⟩ := ih (n + 1) (m + 1) r3 r4 r1 r2 h1 h2 (by omega) (by omega) (okF_parts (o2 _ (List.mem_of_getElem? hx')))
      simp only [fld, g1, g2]
      cases seq q1 q2 <;> exact ⟨_, rfl, rfl⟩)
    refine ⟨r, ?_, ?_⟩
    · rw [w1.use (t := some true) (f := some false) (fun _ => rfl) (fun _ => rfl)]; cases r <;> rfl
    · rw [w2.use (t := some true) (f := some false) (fun _ => rfl) (fun _ => rfl)]; cases r <;> rfl
  · have e1 : (!(ln f == ln g)) = true := by simp [ln]; omega
    have e2 : (!(ln tf == ln tg)) = true := by simp [ln]; omega
    simp only [e1, e2, cond_true]
    exact ⟨false, rfl, rfl⟩
/-- The program tells of such as are alike what the reference tells. -/
theorem same_ali : ∀ (N n m : Nat) (a b ta tb : Value), Ali N ta a → Ali N tb b → 4 * N ≤ n → 4 * N ≤ m → OKV a → ∃ r, P32 n ta tb = some r ∧ P33 m a b = some r := by
  intro N
  induction N with
  | zero => intro n m a b ta tb h; exact absurd h (by obtain ⟨_, _, _, ⟨_, _⟩, ⟨_, _⟩, _, _, _⟩ := ta; simp [Ali])
  | succ N ih =>
    intro n m a b ta tb ha hb hn hm oa
    obtain ⟨n', rfl⟩ : ∃ n', n = n' + 4 := ⟨n - 4, by omega⟩
    obtain ⟨m', rfl⟩ : ∃ m', m = m' + 4 := ⟨m - 4, by omega⟩
    obtain ⟨k1, n1, s1, ⟨l1, x1⟩, ⟨f1, y1⟩, e1, c1, b1⟩ := a
    obtain ⟨k2, n2, s2, ⟨l2, x2⟩, ⟨f2, y2⟩, e2, c2, b2⟩ := b
    obtain ⟨k3, n3, s3, ⟨l3, x3⟩, ⟨f3, y3⟩, e3, c3, b3⟩ := ta
    obtain ⟨k4, n4, s4, ⟨l4, x4⟩, ⟨f4, y4⟩, e4, c4, b4⟩ := tb
    obtain ⟨rfl, rfl, rfl, rfl, rfl, rfl, ⟨u1, u2⟩, u3, u4⟩ := ha
    obtain ⟨rfl, rfl, rfl, rfl, rfl, rfl, ⟨v1, v2⟩, v3, v4⟩ := hb
    obtain ⟨p1, p2, p3, p4⟩ := okV_parts oa
    have hlen := len_room (by omega) p1
    rw [P32.eq_2, P33.eq_2]
    simp only [Pb32, Pb33, Bool.not_not]
    cases k3 == k4 with
    | false => exact ⟨_, rfl, rfl⟩
    | true =>
    cases n3 == n4 with
    | false => exact ⟨_, rfl, rfl⟩
    | true =>
    cases seq s3 s4 with
    | false => exact ⟨_, rfl, rfl⟩
    | true =>
    cases e3 == e4 with
    | false => exact ⟨_, rfl, rfl⟩
    | true =>
    cases seq c3 c4 with
    | false => exact ⟨_, rfl, rfl⟩
    | true =>
    cases b3 == b4 with
    | false => exact ⟨_, rfl, rfl⟩
    | true =>
    simp only [cond_true, P36, eqV_st, refV_st, Option.bind_some]
    by_cases hl : l1.length = l2.length
    · have h0 : (!(ln l1 == ln l2)) = false := by simp [ln, hl]
      have h0' : (!(ln l3 == ln l4)) = false := by simp [ln, u1, v1, hl]
      simp only [h0, h0', cond_false]
      obtain ⟨r, w1, w2⟩ := both2 (a := l3) (b := l4) (a' := l1) (b' := l2) (p := P32 (n' + 3)) (p' := P33 (m' + 3)) (n := l1.length) u1 (by omega) rfl hl.symm (by omega) (fun i x y x' y' hx hy hx' hy' =>
        ih (n' + 3) (m' + 3) x' y' x y (u2 i _ _ hx hx') (v2 i _ _ hy hy') (by omega) (by omega) (p2 _ (List.mem_of_getElem? hx')))
      obtain ⟨r2, z1, z2⟩ := sameFs_eq (fx := y1) (gx := y2) (tfx := y3) (tgx := y4) (n := n') (m := m' + 1) ih u3 u4 v3 v4 (by omega) (by omega) p3 p4
      refine ⟨bif r then r2 else false, ?_, ?_⟩
      · rw [w1.use (t := some true) (f := some false) (fun _ => rfl) (fun _ => rfl)]
        cases r
        · rfl
        · simp only [cond_true, Option.bind_some, z1]
      · rw [w2.use (t := some r2) (f := some false) (fun _ => by dsimp only; rw [z2]; rfl) (fun _ => rfl)]; cases r <;> rfl
    · have h0 : (!(ln l1 == ln l2)) = true := by simp [ln]; omega
      have h0' : (!(ln l3 == ln l4)) = true := by simp [ln]; omega
      simp only [h0, h0', cond_true]
      exact ⟨_, rfl, rfl⟩
end Go.Proofs.Ytipkggkbldgmjaa
