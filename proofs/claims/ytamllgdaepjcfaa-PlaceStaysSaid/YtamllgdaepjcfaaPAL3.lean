/- tapestrylaw09.PlaceStays: if nothing changes its order nothing is inserted, what is not placed is in no insertion: on plain data. -/
import Derived.Test.YtamllgdaepjcfaaPAL2
namespace Go.Proofs.Ytamllgdaepjcfaa
open Go Go.X
set_option linter.unusedVariables false
set_option linter.unusedSimpArgs false
set_option maxRecDepth 100000
theorem posOf_snoc (l : List Int) (a n : Int) (h : a ∉ l) : posOf (l ++ [a]) n = if a = n then (l.length : Int) else posOf l n := by
  simp only [posOf, ixOf_snoc]
  by_cases e : a = n
  · subst e
    rw [ixOf_none.2 h]
    simp
  · cases hx : ixOf l n <;> simp [e, hx]
theorem at_ok (fu : Nat) (old other : List Int) (h : old.Nodup) (hl : old.length ≤ 200) (i : Nat) (hi : i < other.length) : wl (P11_s1 fu old other (i : Int)) (-1, 0) = some (posOf old other[i], (old.length : Int)) := by
  obtain ⟨s, h1, h2⟩ := wl_rest (f := P11_s1 fu old other (i : Int)) old (fun (s : Int) k => (s, (k : Int))) (fun k s => s = posOf (old.take k) other[i]) (fun s => (s, (old.length : Int))) (fun k hk s hI => by
    unfold P11_s1
    dsimp only
    rw [lt_true hk, idx_lt old k hk, idx_lt other i hi, w64_succ (by omega)]
    have hn : old[k] ∉ old.take k := fun hm => by
      obtain ⟨j, hj, e⟩ := List.mem_iff_getElem.1 hm
      simp only [List.length_take] at hj
      rw [List.getElem_take] at e
      exact (List.pairwise_iff_getElem.1 h) j k (by omega) hk (by omega) e
    have hs := posOf_snoc (old.take k) old[k] other[i] hn
    rw [← take_snoc' old k hk] at hs
    have hlen : (old.take k).length = k := by simp; omega
    rw [hlen] at hs
    rw [hs]
    generalize old[k] = a
    generalize other[i] = b at hI ⊢
    by_cases e : a = b
    · exact ⟨(k : Int), by simp [e], by simp [e]⟩
    · have e2 : (a == b) = false := by simp [e]
      exact ⟨s, by simp [e2], by simp [e, hI]⟩) (fun s hI => by
    unfold P11_s1
    dsimp only
    rw [lt_false]
    rfl) (-1) rfl
  rw [List.take_length] at h2
  subst h2
  exact h1
theorem from2_ok (fu : Nat) (old other : List Int) (h : old.Nodup) (hl : old.length ≤ 200) (hl2 : other.length ≤ 200) : wl (P11_s0 fu old other) (([] : List Int), 0) = some (other.map (posOf old), (other.length : Int)) := by
  obtain ⟨s, h1, h2⟩ := wl_rest (f := P11_s0 fu old other) other (fun (s : List Int) k => (s, (k : Int))) (fun k s => s = (other.take k).map (posOf old)) (fun s => (s, (other.length : Int))) (fun k hk s hI => by
    have ha := at_ok fu old other h hl k hk
    unfold P11_s0
    dsimp only
    rw [lt_true hk, ha, w64_succ (by omega)]
    have hs : s.length = k := by rw [hI]; simp; omega
    have hroom : ∀ c : Int, room 8 (ln (s ++ [c])) = true := fun c => by
      rw [ln_eq]
      exact room_small (m := 200) (by simp; omega) (by omega) (by omega) (by omega)
    exact ⟨s ++ [posOf old other[k]], by simp [hroom], by rw [take_snoc' other k hk, List.map_append, ← hI]; rfl⟩) (fun s hI => by
    unfold P11_s0
    dsimp only
    rw [lt_false]
    rfl) [] (by simp)
  rw [List.take_length] at h2
  subst h2
  exact h1
/-- Each step is one of those that are placed, in order. -/
theorem nodes_ok (fu : Nat) (other : List Int) (bs : List Bool) (hb : bs.length = other.length) (hl : other.length ≤ 200) :
    wl (P11_s2 fu other (stepsZ (other.zip bs)) bs) (0, 0) = some (.inl (((stepsZ (other.zip bs)).length : Int), (other.length : Int))) := by
  have hz : (other.zip bs).length = other.length := by simp [hb]
  generalize hst : stepsZ (other.zip bs) = steps
  have hsl : steps.length ≤ other.length := by have := stepsZ_len (other.zip bs); rw [hst] at this; omega
  obtain ⟨s, h1, h2, h3⟩ := wl_rest (f := P11_s2 fu other steps bs) (other.zip bs) (fun (s : Nat) k => ((s : Int), (k : Int))) (fun k s => steps.drop s = stepsZ ((other.zip bs).drop k) ∧ s ≤ steps.length) (fun s => .inl ((s : Int), (other.length : Int))) (fun k hk s hI => by
    obtain ⟨g1, g2⟩ := hI
    have k1 : k < other.length := by omega
    have k2 : k < bs.length := by omega
    rw [List.drop_eq_getElem_cons hk, List.getElem_zip] at g1
    simp only [stepsZ] at g1
    unfold P11_s2
    dsimp only
    rw [lt_true k1, idx_lt other k k1, idx_lt bs k k2]
    revert g1
    generalize other[k] = n
    generalize (behindL ((other.zip bs).drop (k + 1))) = q
    cases bs[k] with
    | false =>
      intro g1
      refine ⟨s, ?_, by simpa using g1, g2⟩
      rw [w64_succ (by omega)]
      rfl
    | true =>
      intro g1
      simp only [if_true] at g1
      have hs : s < steps.length := by
        refine Classical.byContradiction fun hc => ?_
        rw [List.drop_eq_nil_of_le (by omega)] at g1
        cases g1
      rw [List.drop_eq_getElem_cons hs] at g1
      have e1 := (List.cons.inj g1).1
      have e2 := (List.cons.inj g1).2
      refine ⟨s + 1, ?_, e2, by omega⟩
      have d1 : decide (ln steps ≤ (s : Int)) = false := decide_eq_false (by simp [ln]; omega)
      rw [d1, idx_lt steps s hs, e1, w64_succ (by omega), w64_succ (by omega)]
      simp) (fun s hI => by
    unfold P11_s2
    dsimp only
    rw [hz, lt_false]
    rfl) 0 ⟨by rw [hst.symm]; simp, by omega⟩
  have h1 : wl (P11_s2 fu other steps bs) (0, 0) = some (.inl ((s : Int), (other.length : Int))) := h1
  rw [h1]
  simp only [List.drop_length, stepsZ] at h2
  have : steps.length ≤ s := by simpa using h2
  have : s = steps.length := by omega
  subst this
  rfl
theorem P11_true (fu : Nat) (a b : List Int) (x y : Option (List Int)) (ha : a.length ≤ 9223372036854775807) (hb : b.length ≤ 9223372036854775807) (ha2 : ∀ n ∈ a, 0 ≤ n ∧ n ≤ 255) (hb2 : ∀ n ∈ b, 0 ≤ n ∧ n ≤ 255) : P11 fu ⟨a, x⟩ ⟨b, y⟩ = some true := by
  unfold P11
  dsimp only
  obtain ⟨old, e1, r1⟩ := row_spec fu a x ha ha2
  obtain ⟨other, e2, r2⟩ := row_spec fu b y hb hb2
  have l1 := r1.len; have l2 := r2.len
  rw [e1, Option.bind_some]
  dsimp only
  rw [e2, Option.bind_some]
  dsimp only
  rw [alive_ok, Option.bind_some]
  simp only [Bool.not_true, Bool.not_false, cond_true]
  rw [steps_ok fu old old none none (by omega) (by omega), steps_none r1.nd (List.Sublist.refl old), Option.bind_some]
  simp only [ln, List.length_nil]
  have hf : (old.filter (fun n => decide (n ∈ other))).length ≤ old.length := List.length_filter_le _ _
  rw [without_ok fu old other none none (by omega) (by omega), Option.bind_some]
  dsimp only
  rw [steps_ok fu old _ none none (by omega) (by omega), steps_none r1.nd List.filter_sublist, Option.bind_some]
  simp only [List.length_nil]
  rw [steps_ok fu old other none none (by omega) (by omega), Option.bind_some, from2_ok fu old other r1.nd l1 l2, Option.bind_some]
  dsimp only
  have hlm : (other.map (posOf old)).length = other.length := by simp
  rw [moves_ok fu _ none (by omega), Option.bind_some]
  dsimp only
  have hst : stepsOf old other = stepsZ (other.zip (mvs (other.map (posOf old))).2) := by
    unfold stepsOf movesOf
    rw [rowL_id r1.nd, rowL_id r2.nd]
  rw [hst, nodes_ok fu other _ (by rw [mvs_len, hlm]) l2]
  simp [mvs_len]
theorem law11 (ls : List (List D)) (h : WTs tab [60, 60] ls) : call S 11 (argsPV tab [60, 60] ls) [] = some (.d (.bool true), []) := by
  obtain ⟨l1, _, rfl, h1, l2, _, rfl, h2, rfl⟩ := h
  obtain ⟨rows1, hid1, e1, e2, e3, _⟩ := h1.slice_inv ty_60
  obtain ⟨rows2, hid2, f1, f2, f3, _⟩ := h2.slice_inv ty_60
  obtain ⟨⟨a, x⟩, rfl⟩ := wt_60 h1
  obtain ⟨⟨b, y⟩, rfl⟩ := wt_60 h2
  simp only [List.cons.injEq, D.sl.injEq, and_true] at e1 f1
  obtain ⟨rfl, ex⟩ := e1
  obtain ⟨rfl, fx⟩ := f1
  rw [maxLen_eq] at e2 f2
  have ha := bytes_of (x := x) e3
  have hb := bytes_of (x := y) f3
  exact call_of (ok11 (fu := 0) rfl rfl (P11_true 0 a b x y (by simp at e2; omega) (by simp at f2; omega) ha hb) rfl [])
end Go.Proofs.Ytamllgdaepjcfaa
