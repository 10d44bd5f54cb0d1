/- tapestrylaw08.MatchOnce: no old child is matched twice, and only by its like: on plain data. -/
import Derived.Test.YtamllgdaepjcfaaMOL3
namespace Go.Proofs.Ytamllgdaepjcfaa
open Go Go.X
set_option linter.unusedVariables false
set_option linter.unusedSimpArgs false
set_option maxRecDepth 100000
theorem lt_of_get {α : Type} {l : List α} {k : Nat} {x : α} (h : l[k]? = some x) : k < l.length := by
  rcases Nat.lt_or_ge k l.length with h1 | h1
  · exact h1
  · rw [List.getElem?_eq_none h1] at h; cases h
theorem once_neg (fu : Nat) (old next : List Child) (r : List Int) (k : Nat) (seen : List Bool) (hr : r[k]? = some (-1)) (hl : r.length ≤ 1048576) :
    P5_s0 fu old next r (seen, (k : Int)) = some (.inl (seen, ((k + 1 : Nat) : Int))) := by
  have hk := lt_of_get hr
  unfold P5_s0
  dsimp only
  rw [lt_true hk, w64_succ (by omega)]
  simp only [idx_nat, hr, Option.bind_some, cond_true]
  rfl
theorem once_pos (fu : Nat) (old next : List Child) (r : List Int) (k j : Nat) (seen : List Bool) (o c : Child) (hr : r[k]? = some (j : Int)) (hl : r.length ≤ 1048576) (ho : old[j]? = some o) (hc : next[k]? = some c) (hs : seen[j]? = some false) (hk : o.Key = c.Key) (ha : al o c = true) :
    P5_s0 fu old next r (seen, (k : Int)) = some (.inl (seen.set j true, ((k + 1 : Nat) : Int))) := by
  have hk2 := lt_of_get hr
  have hj := lt_of_get ho
  have h1 : decide ((j : Int) < 0) = false := decide_eq_false (by omega)
  have h2 : decide (ln old ≤ (j : Int)) = false := decide_eq_false (by simp [ln]; omega)
  unfold P5_s0
  dsimp only
  rw [lt_true hk2, w64_succ (by omega)]
  simp only [idx_nat, hr, Option.bind_some, cond_true, h1, h2, cond_false, Bool.not_false, hs, ho, hc]
  obtain ⟨ck, cd, cn, ⟨c1, c2, c3, ⟨c4, c5⟩, ⟨c6, c7⟩, c8, c9, c10⟩⟩ := c
  obtain ⟨ok, od, on, ⟨o1, o2, o3, ⟨o4, o5⟩, ⟨o6, o7⟩, o8, o9, o10⟩⟩ := o
  dsimp only at hk ⊢
  subst hk
  simp only [seq_self, Bool.not_true, Bool.not_false, cond_true, P17_al, ha, Option.bind_some, cond_false, Int.toNat_natCast]
theorem once_ok (fu : Nat) (old next : List Child) (r : List Int) (m : List (ByteArray × Int)) (h : Inv old next next.length r m) (hl : next.length ≤ 1048576) :
    ∃ s i, wl (P5_s0 fu old next r) (List.replicate (Int.toNat (ln old)) false, 0) = some (.inl (s, i)) := by
  obtain ⟨q, h1, s, i, h2⟩ := wl_rule (f := P5_s0 fu old next r) (fun a => ∃ k : Nat, a.2 = (k : Int) ∧ k ≤ r.length ∧ a.1.length = old.length ∧ ∀ j : Nat, a.1[j]? = some true → ∃ t : Nat, t < k ∧ r[t]? = some (j : Int)) (fun a => r.length - a.2.toNat) (fun q => ∃ s i, q = .inl (s, i)) (by
    rintro ⟨seen, i⟩ ⟨k, e, hk, hs, hI⟩
    dsimp only at e hs hI
    subst e
    by_cases he : k = r.length
    · subst he
      refine .inr ⟨.inl (seen, (r.length : Int)), ?_, _, _, rfl⟩
      unfold P5_s0
      dsimp only
      rw [lt_false]
      rfl
    · left
      have hlen := h.len
      have hx := List.getElem?_eq_getElem (show k < r.length by omega)
      generalize r[k] = x at hx
      rcases h.ans k x hx with e | ⟨j, o, c, e, ho, hc, hkey, ha⟩
      · subst e
        refine ⟨_, once_neg fu old next r k seen hx (by omega), ⟨k + 1, rfl, by omega, hs, fun j hj => ?_⟩, by dsimp only; omega⟩
        obtain ⟨t, h1, h2⟩ := hI j hj
        exact ⟨t, by omega, h2⟩
      · subst e
        have hj := lt_of_get ho
        have hsj : seen[j]? = some false := by
          rw [List.getElem?_eq_getElem (by omega)]
          cases hb : seen[j] with
          | false => rfl
          | true =>
            obtain ⟨t, h1, h2⟩ := hI j (by rw [List.getElem?_eq_getElem (by omega), hb])
            have := h.once t k j h2 hx
            omega
        refine ⟨_, once_pos fu old next r k j seen o c hx (by omega) ho hc hsj hkey ha, ⟨k + 1, rfl, by omega, by simp [hs], fun j' hj' => ?_⟩, by dsimp only; omega⟩
        dsimp only at hj'
        by_cases hjj : j' = j
        · subst hjj
          exact ⟨k, by omega, hx⟩
        · rw [List.getElem?_set_ne (fun e => hjj e.symm)] at hj'
          obtain ⟨t, h1, h2⟩ := hI j' hj'
          exact ⟨t, by omega, h2⟩) r.length (List.replicate (Int.toNat (ln old)) false, 0) (by dsimp only; omega) ⟨0, rfl, by omega, by simp [ln], fun j hj => by
    dsimp only at hj
    rw [List.getElem?_replicate] at hj
    split at hj <;> cases hj⟩
  subst h2
  exact ⟨s, i, h1⟩
theorem P5_true (a b : Sl Child) (ha : ∀ c ∈ a.l, OKC c) (hb : ∀ c ∈ b.l, OKC c) : ∃ fu, P5 fu a b = some true := by
  obtain ⟨a, x⟩ := a
  obtain ⟨b, y⟩ := b
  dsimp only at ha hb
  refine ⟨4 * (SizeOf.sizeOf a + SizeOf.sizeOf b), ?_⟩
  generalize hfu : 4 * (SizeOf.sizeOf a + SizeOf.sizeOf b) = fu
  obtain ⟨r, h1, h2⟩ := P25_def fu a b x y ha hb (by omega) (by omega)
  unfold P5
  dsimp only
  rw [alive_true]
  simp only [Option.bind_some, Bool.not_true, Bool.not_false, cond_true, h1]
  cases r with
  | true => rfl
  | false =>
    obtain ⟨l1, l2⟩ := h2 rfl
    obtain ⟨r, m, e1, hI⟩ := match_ok fu a b x y (by omega) (by omega)
    obtain ⟨s, i, e2⟩ := once_ok fu a b r m hI (by omega)
    have d1 : decide ((0 : Int) ≤ ln a) = true := decide_eq_true (ln_ge a)
    have d2 : decide (ln a ≤ ln a) = true := decide_eq_true (Int.le_refl _)
    have d3 : room 1 (ln a) = true := room_ok (by simp [ln]; omega)
    have d4 : (ln r == ln b) = true := by simp [ln, hI.len]
    simp only [cond_false, e1, Option.bind_some, d1, d2, d3, d4, cond_true, Bool.not_true, e2]
theorem ok_children {s : Sl Child} (h : WT tab 38 [.sl (s.l.map fun y => e_Child y) (s.x.map (List.map fun y => e_Child y))]) : ∀ c ∈ s.l, OKC c := by
  obtain ⟨rows, hid, e1, _, h3, _⟩ := h.slice_inv ty_38
  simp only [List.cons.injEq, D.sl.injEq, and_true] at e1
  obtain ⟨rfl, _⟩ := e1
  simp only [List.mem_map, forall_exists_index, and_imp, forall_apply_eq_imp_iff₂] at h3
  exact h3
theorem law5 (ls : List (List D)) (h : WTs tab [38, 38] ls) : call S 5 (argsPV tab [38, 38] ls) [] = some (.d (.bool true), []) := by
  obtain ⟨l1, _, rfl, h1, l2, _, rfl, h2, rfl⟩ := h
  obtain ⟨a, rfl⟩ := wt_38 h1
  obtain ⟨b, rfl⟩ := wt_38 h2
  obtain ⟨fu, hp⟩ := P5_true a b (ok_children h1) (ok_children h2)
  exact call_of (ok5 rfl rfl hp rfl [])
end Go.Proofs.Ytamllgdaepjcfaa
