/- tapestrylaw09: rows of unlike numbers, what stands in them; Steps of such rows. -/
import Derived.Test.YtamllgdaepjcfaaPBL1
namespace Go.Proofs.Ytamllgdaepjcfaa
open Go Go.X
set_option linter.unusedVariables false
set_option linter.unusedSimpArgs false
set_option maxRecDepth 100000
theorem has_ok (fu : Nat) (l : List Int) (x : Option (List Int)) (n : Int) (hl : l.length ≤ 9223372036854775807) : P44 fu ⟨l, x⟩ n = some (decide (n ∈ l)) := by
  unfold P44
  dsimp only
  have h := wl_findFrom (f := P44_s0 fu l n) l (fun a => a == n) (fun k => (false, (k : Int))) (fun k a => .inr (true, (k : Int))) (.inl (false, (l.length : Int))) (fun k hk => by
    unfold P44_s0
    dsimp only
    rw [lt_true hk, idx_lt l k hk, w64_succ (by omega)]
    generalize l[k] = a
    cases hh : (a == n) <;> simp [hh]) (by
    unfold P44_s0
    dsimp only
    rw [lt_false]
    rfl) 0 (by omega)
  rw [List.drop_zero] at h
  rcases h with ⟨j, a, h1, h2⟩ | ⟨h1, h2⟩
  · have h2 : wl (P44_s0 fu l n) (false, 0) = some (.inr (true, (j : Int))) := h2
    rw [h2]
    have hm := List.mem_of_find?_eq_some h1
    have ha := List.find?_some h1
    have : a = n := by simpa using ha
    subst this
    simp [hm]
  · have h2 : wl (P44_s0 fu l n) (false, 0) = some (.inl (false, (l.length : Int))) := h2
    rw [h2]
    have : n ∉ l := fun hm => by
      have := List.find?_eq_none.1 h1 n hm
      simp at this
    simp [this]
structure Row (r : List Int) : Prop where
  nd : r.Nodup
  pos : ∀ n ∈ r, 0 < n
  len : r.length ≤ 200
theorem row_spec (fu : Nat) (l : List Int) (x : Option (List Int)) (hl : l.length ≤ 9223372036854775807) (hb : ∀ n ∈ l, 0 ≤ n ∧ n ≤ 255) : ∃ r, P40 fu ⟨l, x⟩ = some ⟨r, none⟩ ∧ Row r := by
  obtain ⟨⟨r, i⟩, h1, h2⟩ := wl_rule (f := P40_s0 fu l) (fun s : List Int × Int => ∃ k : Nat, s.2 = (k : Int) ∧ k ≤ l.length ∧ Row s.1) (fun s => l.length - s.2.toNat) (fun q => Row q.1) (by
    rintro ⟨s, i⟩ ⟨k, rfl, hk, hr⟩
    dsimp only at hr
    by_cases hlt : k < l.length
    · have hx := hb l[k] (List.getElem_mem hlt)
      unfold P40_s0
      dsimp only
      rw [lt_true hlt, idx_lt l k hlt]
      revert hx
      generalize l[k] = a
      intro hx
      by_cases h200 : ln s < 200
      · have e1 : w64 (w64 a + 1) = a + 1 := by rw [w64_id (n := a) (by omega) (by omega), w64_id (by omega) (by omega)]
        rw [Option.bind_some, e1, w64_succ (by omega), has_ok fu s none (a + 1) (by have := hr.len; omega)]
        simp only [h200, decide_true, cond_true, Option.bind_some]
        have hs : s.length < 200 := by simp [ln] at h200; omega
        have hroom : room 8 (ln (s ++ [a + 1])) = true := by
          rw [ln_eq]
          exact room_small (m := 200) (by simp; omega) (by omega) (by omega) (by omega)
        left
        by_cases hm : a + 1 ∈ s
        · exact ⟨(s, ((k + 1 : Nat) : Int)), by simp [hm], ⟨k + 1, rfl, by omega, hr⟩, by dsimp only; omega⟩
        · refine ⟨(s ++ [a + 1], ((k + 1 : Nat) : Int)), by simp [hm, hroom], ⟨k + 1, rfl, by omega, ?_, ?_, ?_⟩, by dsimp only; omega⟩
          · rw [List.nodup_append]
            refine ⟨hr.nd, by simp, fun b hb c hc => ?_⟩
            simp only [List.mem_singleton] at hc
            subst hc
            exact fun e => hm (e ▸ hb)
          · intro n hn
            simp only [List.mem_append, List.mem_singleton] at hn
            rcases hn with hn | rfl
            · exact hr.pos n hn
            · omega
          · simp; omega
      · right
        refine ⟨(s, (k : Int)), by simp [h200], hr⟩
    · right
      have : k = l.length := by omega
      subst this
      refine ⟨(s, (l.length : Int)), ?_, hr⟩
      unfold P40_s0
      dsimp only
      rw [lt_false]
      rfl) l.length ([], 0) (by simp) ⟨0, rfl, by omega, by simp, by simp, by simp⟩
  refine ⟨r, ?_, h2⟩
  unfold P40
  dsimp only
  rw [h1]
  rfl
theorem without_ok (fu : Nat) (l m : List Int) (x y : Option (List Int)) (hl : l.length ≤ 1048576) (hm : m.length ≤ 1048576) : P41 fu ⟨l, x⟩ ⟨m, y⟩ = some ⟨l.filter (fun n => decide (n ∈ m)), none⟩ := by
  unfold P41
  dsimp only
  obtain ⟨s, h1, h2, h3⟩ := wl_rest (f := P41_s0 fu l m y) l (fun (s : List Int) k => (s, (k : Int))) (fun k s => s ++ (l.drop k).filter (fun n => decide (n ∈ m)) = l.filter (fun n => decide (n ∈ m)) ∧ s.length ≤ k) (fun s => (s, (l.length : Int))) (fun k hk s hI => by
    obtain ⟨g1, g2⟩ := hI
    rw [List.drop_eq_getElem_cons hk, List.filter_cons] at g1
    unfold P41_s0
    dsimp only
    rw [lt_true hk, idx_lt l k hk, w64_succ (by omega)]
    revert g1
    generalize l[k] = a
    intro g1
    have hroom : room 8 (ln (s ++ [a])) = true := by
      rw [ln_eq]
      exact room_small (m := l.length) (by simp; omega) (by omega) (by omega) (by omega)
    rw [Option.bind_some, has_ok fu m y a (by omega)]
    by_cases ha : a ∈ m
    · refine ⟨s ++ [a], by simp [ha, hroom], ?_, by simp; omega⟩
      simpa [ha] using g1
    · refine ⟨s, by simp [ha], ?_, by omega⟩
      simpa [ha] using g1) (fun s hI => by
    unfold P41_s0
    dsimp only
    rw [lt_false]
    rfl) [] ⟨by simp, by simp⟩
  rw [show (([] : List Int), (0 : Int)) = (([] : List Int), ((0 : Nat) : Int)) from rfl, h1]
  simp only [List.drop_length, List.filter_nil, List.append_nil] at h2
  rw [h2]
  rfl
theorem rowL_id {l : List Int} (h : l.Nodup) : rowL l = l := by
  have : ∀ (l a : List Int), (a ++ l).Nodup → l.foldl addN a = a ++ l := by
    intro l
    induction l with
    | nil => intro a _; simp
    | cons n l ih =>
      intro a h
      have hn : n ∉ a := fun hm => (List.nodup_append.1 h).2.2 n hm n (by simp) rfl
      have e : addN a n = a ++ [n] := by simp [addN, hn]
      simp only [List.foldl_cons, e]
      rw [ih (a ++ [n]) (by simpa using h)]
      simp
  simpa [rowL] using this l [] (by simpa using h)
theorem ixOf_get {l : List Int} (h : l.Nodup) (i : Nat) (hi : i < l.length) : ixOf l l[i] = some i := by
  simp only [ixOf, List.findIdx?_eq_some_iff_getElem]
  refine ⟨hi, by simp, fun j hj => ?_⟩
  have := (List.pairwise_iff_getElem.1 h) j i (by omega) hi hj
  simpa using this
theorem posOf_get {l : List Int} (h : l.Nodup) (i : Nat) (hi : i < l.length) : posOf l l[i] = (i : Int) := by simp [posOf, ixOf_get h i hi]
theorem posOf_self {l : List Int} (h : l.Nodup) : l.map (posOf l) = (List.range l.length).map (fun (i : Nat) => (i : Int)) := by
  apply List.ext_getElem
  · simp
  · intro i h1 h2
    simp only [List.getElem_map, List.getElem_range]
    exact posOf_get h i (by simpa using h1)
theorem stay_all : ∀ (l : List Int) (q : Int × List Bool), (∀ n ∈ l, q.1 ≤ n) → l.Pairwise (· ≤ ·) → (l.foldl mv q).2 = q.2 ++ List.replicate l.length false
  | [], q, _, _ => by simp
  | n :: l, q, h1, h2 => by
    rw [List.pairwise_cons] at h2
    have hn := h1 n (by simp)
    have e : mv q n = (n, q.2 ++ [false]) := by
      simp only [mv]
      rw [if_neg (by omega), decide_eq_false (by omega)]
    simp only [List.foldl_cons, e]
    rw [stay_all l _ (fun m hm => h2.1 m hm) h2.2]
    simp [List.replicate_succ]
theorem stepsZ_none : ∀ (l : List Int), stepsZ (l.zip (List.replicate l.length false)) = []
  | [] => rfl
  | n :: l => by simp [List.replicate_succ, stepsZ, stepsZ_none l]
theorem sub_sorted {old next : List Int} (h : old.Nodup) (hs : next.Sublist old) : (next.map (posOf old)).Pairwise (· ≤ ·) ∧ ∀ n ∈ next.map (posOf old), 0 ≤ n := by
  have h1 := hs.map (posOf old)
  rw [posOf_self h] at h1
  refine ⟨?_, fun n hn => ?_⟩
  · refine List.Pairwise.sublist h1 ?_
    rw [List.pairwise_map]
    refine List.Pairwise.imp ?_ List.pairwise_lt_range
    intro a b hab
    omega
  · have := h1.subset hn
    simp only [List.mem_map] at this
    obtain ⟨i, _, rfl⟩ := this
    omega
/-- What keeps its order is not placed. -/
theorem steps_none {old next : List Int} (h : old.Nodup) (hs : next.Sublist old) : stepsOf old next = [] := by
  have hn : next.Nodup := h.sublist hs
  obtain ⟨h1, h2⟩ := sub_sorted h hs
  unfold stepsOf movesOf
  rw [rowL_id h, rowL_id hn]
  unfold mvs
  rw [stay_all _ _ h2 h1]
  have := stepsZ_none next
  simpa using this
theorem bytes_of {l : List Int} {x : Option (List Int)} (h : ∀ r ∈ List.map (fun n => [D.int .u8 n]) l, WT tab 5 r) : ∀ n ∈ l, 0 ≤ n ∧ n ≤ 255 := by
  intro n hn
  have h1 := h _ (List.mem_map.2 ⟨n, hn, rfl⟩)
  cases h1 with
  | int h2 h3 =>
    simp only [Lit.wf, Bool.and_eq_true, decide_eq_true_eq] at h3
    have e1 : IntKind.u8.min = 0 := rfl
    have e2 : IntKind.u8.max = 255 := rfl
    omega
  | agg h2 h3 h4 => cases h2
end Go.Proofs.Ytamllgdaepjcfaa
