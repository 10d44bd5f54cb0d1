/- What match.Match answers. -/
import Derived.Test.YtamllgdaepjcfaaMPL1
namespace Go.Proofs.Ytamllgdaepjcfaa
open Go Go.X
set_option linter.unusedVariables false
set_option linter.unusedSimpArgs false
set_option maxRecDepth 100000
/-- Alike: of one kind and one name. -/
def al (a b : Child) : Bool := (a.Kind == b.Kind) && seq a.Name b.Name
theorem P17_al (fu : Nat) (a b : Child) : P17 fu a b = some (al a b) := by
  obtain ⟨k1, d1, n1, ⟨_, _, _, ⟨_, _⟩, ⟨_, _⟩, _, _, _⟩⟩ := a
  obtain ⟨k2, d2, n2, ⟨_, _, _, ⟨_, _⟩, ⟨_, _⟩, _, _, _⟩⟩ := b
  unfold P17 al
  dsimp only
  cases d1 == d2 <;> rfl
theorem map_step (fu : Nat) (l : List Child) (m : List (ByteArray × Int)) (j : Nat) (c : Child) (hc : l[j]? = some c) (hj : j < 9223372036854775807) : P26_s0 fu l (m, (j : Int)) = some (.inl (mset m c.Key (j : Int), (j : Int) - 1)) := by
  unfold P26_s0
  dsimp only
  have h1 : decide ((0 : Int) ≤ (j : Int)) = true := decide_eq_true (by omega)
  have h2 : w64 ((j : Int) - 1) = (j : Int) - 1 := w64_id (by omega) (by omega)
  rw [h1, cond_true, idx_nat, hc, Option.bind_some, h2]
  obtain ⟨ck, cd, cn, ⟨c1, c2, c3, ⟨c4, c5⟩, ⟨c6, c7⟩, c8, c9, c10⟩⟩ := c
  rfl
theorem map_end (fu : Nat) (l : List Child) (m : List (ByteArray × Int)) : P26_s0 fu l (m, -1) = some (.inr (m, -1)) := rfl
/-- The map of first places, from place i + 1 on. -/
structure Firsts (old : List Child) (i : Int) (m : List (ByteArray × Int)) : Prop where
  nd : Nd m
  good : ∀ x v, mget m x = some v → ∃ (j : Nat) (o : Child), v = (j : Int) ∧ i < v ∧ old[j]? = some o ∧ o.Key = x
  full : ∀ x, mget m x = none → ∀ (j : Nat) (o : Child), old[j]? = some o → i < (j : Int) → o.Key ≠ x
theorem firsts (fu : Nat) (old : List Child) (hl : old.length < 9223372036854775807) : ∃ m, wl (P26_s0 fu old) (([] : List (ByteArray × Int)), w64 (ln old - 1)) = some (m, -1) ∧ Firsts old (-1) m := by
  rw [w64_id (by simp [ln]; omega) (by simp [ln]; omega)]
  obtain ⟨q, h1, h2⟩ := wl_rule (f := P26_s0 fu old) (fun a => -1 ≤ a.2 ∧ a.2 < (old.length : Int) ∧ Firsts old a.2 a.1) (fun a => (a.2 + 1).toNat) (fun q => q.2 = -1 ∧ Firsts old (-1) q.1) (by
    rintro ⟨m, i⟩ ⟨hi, hn, hf⟩
    dsimp only at hi hn hf
    by_cases h0 : i = -1
    · subst h0
      exact .inr ⟨_, map_end fu old m, rfl, hf⟩
    · left
      obtain ⟨j, rfl⟩ : ∃ j : Nat, i = (j : Int) := ⟨i.toNat, by omega⟩
      have hj : j < old.length := by omega
      have hc := List.getElem?_eq_getElem hj
      generalize old[j] = c at hc
      refine ⟨_, map_step fu old m j c hc (by omega), ?_, ?_⟩
      · dsimp only
        refine ⟨by omega, by omega, nd_mset hf.nd, fun x v hv => ?_, fun x hv j' o ho hlt => ?_⟩
        · rw [mget_mset] at hv
          split at hv
          · rename_i hx
            cases hv
            exact ⟨j, c, rfl, by omega, hc, hx.symm⟩
          · obtain ⟨j2, o, e1, e2, e3, e4⟩ := hf.good x v hv
            exact ⟨j2, o, e1, by omega, e3, e4⟩
        · rw [mget_mset] at hv
          split at hv
          · cases hv
          · rename_i hx
            by_cases e : j' = j
            · subst e
              rw [ho] at hc
              cases hc
              exact fun e => hx e.symm
            · exact hf.full x hv j' o ho (by omega)
      · dsimp only; omega) (old.length) (([] : List (ByteArray × Int)), ln old - 1) (by simp [ln]) (by
    dsimp only
    refine ⟨by simp [ln]; omega, by simp [ln]; omega, ?_, (by intro x v hv; cases hv), fun x _ j o ho hlt => ?_⟩
    · simp [Nd]
    · have : j < old.length := by
        rcases Nat.lt_or_ge j old.length with h | h
        · exact h
        · rw [List.getElem?_eq_none h] at ho; cases ho
      simp [ln] at hlt
      omega)
  obtain ⟨m, i⟩ := q
  obtain ⟨e, h2⟩ := h2
  dsimp only at e h2
  subst e
  exact ⟨m, h1, h2⟩
/-- What holds of the answers for the first k children. -/
structure Inv (old next : List Child) (k : Nat) (r : List Int) (m : List (ByteArray × Int)) : Prop where
  len : r.length = k
  nd : Nd m
  good : ∀ x v, mget m x = some v → ∃ (j : Nat) (o : Child), v = (j : Int) ∧ old[j]? = some o ∧ o.Key = x
  ans : ∀ (t : Nat) x, r[t]? = some x → x = -1 ∨ ∃ (j : Nat) (o c : Child), x = (j : Int) ∧ old[j]? = some o ∧ next[t]? = some c ∧ o.Key = c.Key ∧ al o c = true
  once : ∀ (t t' j : Nat), r[t]? = some (j : Int) → r[t']? = some (j : Int) → t = t'
  gone : ∀ (t j : Nat), r[t]? = some (j : Int) → ∀ x, mget m x ≠ some (j : Int)
theorem at_snoc {r : List Int} {v x : Int} {t : Nat} (h : (r ++ [v])[t]? = some x) : r[t]? = some x ∨ (t = r.length ∧ x = v) := by
  rcases Nat.lt_trichotomy t r.length with hl | hl | hl
  · rw [List.getElem?_append_left hl] at h; exact .inl h
  · subst hl; simp at h; exact .inr ⟨rfl, h.symm⟩
  · rw [List.getElem?_eq_none (by simp; omega)] at h; cases h
theorem inv_neg {old next : List Child} {k : Nat} {r : List Int} {m : List (ByteArray × Int)} (h : Inv old next k r m) : Inv old next (k + 1) (r ++ [-1]) m := by
  refine ⟨by simp [h.len], h.nd, h.good, fun t x hx => ?_, fun t t' j h1 h2 => ?_, fun t j h1 => ?_⟩
  · rcases at_snoc hx with e | ⟨_, e⟩
    · exact h.ans t x e
    · exact .inl e
  · rcases at_snoc h1 with e1 | ⟨_, e1⟩
    · rcases at_snoc h2 with e2 | ⟨_, e2⟩
      · exact h.once t t' j e1 e2
      · omega
    · omega
  · rcases at_snoc h1 with e1 | ⟨_, e1⟩
    · exact h.gone t j e1
    · omega
theorem inv_pos {old next : List Child} {k j : Nat} {r : List Int} {m : List (ByteArray × Int)} {o c : Child} (h : Inv old next k r m) (hc : next[k]? = some c) (hm : mget m c.Key = some (j : Int)) (ho : old[j]? = some o) (ha : al o c = true) :
    Inv old next (k + 1) (r ++ [(j : Int)]) (mrem m c.Key) := by
  have hsub : ∀ x v, mget (mrem m c.Key) x = some v → x ≠ c.Key ∧ mget m x = some v := fun x v hv => by
    rw [mget_mrem _ _ h.nd] at hv
    split at hv
    · cases hv
    · rename_i hx; exact ⟨hx, hv⟩
  have hk : o.Key = c.Key := by
    obtain ⟨j2, o2, e1, e2, e3⟩ := h.good _ _ hm
    have : j2 = j := by omega
    subst this
    rw [ho] at e2
    cases e2
    exact e3
  refine ⟨by simp [h.len], nd_mrem h.nd, fun x v hv => h.good x v (hsub x v hv).2, fun t x hx => ?_, fun t t' j' h1 h2 => ?_, fun t j' h1 x hx => ?_⟩
  · rcases at_snoc hx with e | ⟨e1, e⟩
    · exact h.ans t x e
    · rw [h.len] at e1
      subst e1
      exact .inr ⟨j, o, c, e, ho, hc, hk, ha⟩
  · rcases at_snoc h1 with e1 | ⟨e0, e1⟩
    · rcases at_snoc h2 with e2 | ⟨e3, e2⟩
      · exact h.once t t' j' e1 e2
      · rw [e2] at e1
        exact absurd hm (h.gone t j e1 _)
    · rcases at_snoc h2 with e2 | ⟨e3, e2⟩
      · rw [e1] at e2
        exact absurd hm (h.gone t' j e2 _)
      · omega
  · obtain ⟨hne, hx⟩ := hsub x _ hx
    rcases at_snoc h1 with e1 | ⟨e0, e1⟩
    · exact h.gone t j' e1 x hx
    · obtain ⟨j2, o2, e4, e2, e3⟩ := h.good _ _ hx
      have : j2 = j := by omega
      subst this
      rw [ho] at e2
      cases e2
      exact hne (e3.symm.trans hk)
/-- What Match does with one child: its answer and the map behind it. -/
def one (old : List Child) (m : List (ByteArray × Int)) (c : Child) : Int × List (ByteArray × Int) :=
  match mget m c.Key with
  | none => (-1, m)
  | some v => match idx old v with
    | none => (-1, m)
    | some o => if al o c then (v, mrem m c.Key) else (-1, m)
theorem one_step (fu : Nat) (old next : List Child) (k : Nat) (c : Child) (hc : next[k]? = some c) (hl : next.length ≤ 1048576) (r : List Int) (hr : r.length = k) (m : List (ByteArray × Int)) (hg : ∀ v, mget m c.Key = some v → ∃ o, idx old v = some o) :
    P26_s1 fu old next (r, m, (k : Int)) = some (.inl (r ++ [(one old m c).1], (one old m c).2, ((k + 1 : Nat) : Int))) := by
  have hk : k < next.length := by
    rcases Nat.lt_or_ge k next.length with h | h
    · exact h
    · rw [List.getElem?_eq_none h] at hc; cases hc
  unfold P26_s1 one
  dsimp only
  have hlen : ∀ v : Int, ln (r ++ [v]) = ((k + 1 : Nat) : Int) := fun v => by simp [ln, hr]
  have hrm : room 8 ((k + 1 : Nat) : Int) = true := room_ok (by omega)
  rw [lt_true hk, idx_nat, hc, w64_succ (by omega), cond_true, Option.bind_some]
  obtain ⟨ck, cd, cn, ⟨c1, c2, c3, ⟨c4, c5⟩, ⟨c6, c7⟩, c8, c9, c10⟩⟩ := c
  dsimp only at hg ⊢
  cases hm : mget m ck with
  | none => simp only [hlen, hrm, cond_true]
  | some v =>
    obtain ⟨o, ho⟩ := hg v hm
    dsimp only
    rw [ho, Option.bind_some]
    obtain ⟨ok, od, on, ⟨o1, o2, o3, ⟨o4, o5⟩, ⟨o6, o7⟩, o8, o9, o10⟩⟩ := o
    dsimp only
    rw [P17_al, Option.bind_some]
    cases al _ _ with
    | true => simp only [Bool.not_true, cond_false, hlen, hrm, cond_true, if_true]
    | false => simp only [Bool.not_false, cond_true, hlen, hrm, Bool.false_eq_true, if_false]
theorem one_end (fu : Nat) (old next : List Child) (r : List Int) (m : List (ByteArray × Int)) : P26_s1 fu old next (r, m, (next.length : Int)) = some (.inr (r, m, (next.length : Int))) := by
  unfold P26_s1
  dsimp only
  rw [lt_false]
  rfl
theorem inv_one {old next : List Child} {k : Nat} {r : List Int} {m : List (ByteArray × Int)} {c : Child} (h : Inv old next k r m) (hc : next[k]? = some c) : Inv old next (k + 1) (r ++ [(one old m c).1]) (one old m c).2 := by
  unfold one
  cases hm : mget m c.Key with
  | none => exact inv_neg h
  | some v =>
    dsimp only
    obtain ⟨j, o, rfl, ho, _⟩ := h.good _ _ hm
    rw [idx_nat, ho]
    dsimp only
    split
    · rename_i ha; exact inv_pos h hc hm ho ha
    · exact inv_neg h
theorem match_ok (fu : Nat) (old next : List Child) (x y : Option (List Child)) (h1 : old.length ≤ 1048576) (h2 : next.length ≤ 1048576) : ∃ r m, P26 fu ⟨old, x⟩ ⟨next, y⟩ = some ⟨r, none⟩ ∧ Inv old next next.length r m := by
  obtain ⟨m0, e0, f0⟩ := firsts fu old (by omega)
  obtain ⟨q, e1, e2⟩ := wl_rule (f := P26_s1 fu old next) (fun a => ∃ k : Nat, a.2.2 = (k : Int) ∧ k ≤ next.length ∧ Inv old next k a.1 a.2.1) (fun a => next.length - a.2.2.toNat) (fun q => Inv old next next.length q.1 q.2.1) (by
    rintro ⟨r, m, i⟩ ⟨k, e, hk, hI⟩
    dsimp only at e hI
    subst e
    by_cases he : k = next.length
    · subst he
      exact .inr ⟨_, one_end fu old next r m, hI⟩
    · left
      have hc := List.getElem?_eq_getElem (show k < next.length by omega)
      refine ⟨_, one_step fu old next k _ hc h2 r hI.len m (fun v hv => ?_), ⟨k + 1, rfl, by omega, inv_one hI hc⟩, ?_⟩
      · obtain ⟨j, o, rfl, ho, _⟩ := hI.good _ _ hv
        exact ⟨o, by rw [idx_nat, ho]⟩
      · dsimp only; omega) next.length (([] : List Int), m0, 0) (by dsimp only; omega) ⟨0, rfl, by omega, by
    refine ⟨rfl, f0.nd, fun x v hv => ?_, fun t x hx => by simp at hx, fun t t' j h1 => by simp at h1, fun t j h1 => by simp at h1⟩
    obtain ⟨j, o, a1, _, a3, a4⟩ := f0.good x v hv
    exact ⟨j, o, a1, a3, a4⟩⟩
  obtain ⟨r, m, i⟩ := q
  refine ⟨r, m, ?_, e2⟩
  unfold P26
  dsimp only
  rw [e0]
  simp only [Option.bind_some]
  rw [e1]
  rfl
end Go.Proofs.Ytamllgdaepjcfaa
