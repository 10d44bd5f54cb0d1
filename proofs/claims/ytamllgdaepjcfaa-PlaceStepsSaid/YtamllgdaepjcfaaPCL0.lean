/- place: what Moves, row and Steps compute, on plain data. -/
import Derived.Test.YtamllgdaepjcfaaPCD
import Derived.Test.YtamllgdaepjcfaaXQ
namespace Go.Proofs.Ytamllgdaepjcfaa
open Go Go.X
set_option linter.unusedVariables false
set_option linter.unusedSimpArgs false
set_option maxRecDepth 100000
/-- What Moves has behind the first elements: the last one that stayed, and the answers. -/
def mv (q : Int × List Bool) (n : Int) : Int × List Bool := (if n < q.1 then q.1 else n, q.2 ++ [decide (n < q.1)])
def mvs (l : List Int) : Int × List Bool := l.foldl mv (0, [])
theorem mvs_snoc (l : List Int) (n : Int) : mvs (l ++ [n]) = mv (mvs l) n := by simp [mvs]
theorem mvs_len (l : List Int) : (mvs l).2.length = l.length := by
  have : ∀ (l : List Int) (q : Int × List Bool), (l.foldl mv q).2.length = q.2.length + l.length := by
    intro l
    induction l with
    | nil => intro q; simp
    | cons n l ih => intro q; simp [ih, mv]; omega
  simpa [mvs] using this l (0, [])
theorem moves_ok (fu : Nat) (l : List Int) (x : Option (List Int)) (hl : l.length ≤ 1048576) : P21 fu ⟨l, x⟩ = some ⟨(mvs l).2, none⟩ := by
  unfold P21
  dsimp only
  have h := wl_each (f := P21_s0 fu l) l mv (fun s k => (s.2, s.1, (k : Int))) (fun k s => s.2.length = k) (0, []) rfl (fun k hk s hI => by
    obtain ⟨a, bs⟩ := s
    have hb : bs.length = k := hI
    refine ⟨?_, by simp [mv, hb]⟩
    unfold P21_s0
    dsimp only
    rw [lt_true hk, idx_lt l k hk]
    generalize l[k] = n
    have hlen : ∀ c : Bool, ln (bs ++ [c]) = ((k + 1 : Nat) : Int) := fun c => by simp [ln, hb]
    have hr : room 1 ((k + 1 : Nat) : Int) = true := room_small (m := l.length) hk (by omega) (by omega) (by omega)
    rw [Option.bind_some, cond_true, hlen, hr, w64_succ (by omega)]
    by_cases hd : n < a
    · simp only [hd, decide_true, Bool.not_true, cond_false, cond_true, mv, if_true]
    · simp only [hd, decide_false, Bool.not_false, cond_false, cond_true, mv, if_false]) (b := ((mvs l).2, (mvs l).1, (l.length : Int))) (fun s _ hs => by
    unfold P21_s0
    dsimp only
    rw [lt_false, hs]
    rfl)
  rw [show (([] : List Bool), (0 : Int), (0 : Int)) = (([] : List Bool), (0 : Int), ((0 : Nat) : Int)) from rfl]
  have h : wl (P21_s0 fu l) (([] : List Bool), (0 : Int), ((0 : Nat) : Int)) = _ := h
  rw [h]
  rfl
/-- Numbers, each once. -/
def addN (out : List Int) (n : Int) : List Int := if n ∈ out then out else out ++ [n]
def rowL (l : List Int) : List Int := l.foldl addN []
theorem rowL_snoc (l : List Int) (n : Int) : rowL (l ++ [n]) = addN (rowL l) n := by simp [rowL]
def ixOf (l : List Int) (n : Int) : Option Nat := l.findIdx? (· == n)
def AtOK (m : List (Int × Int)) (out : List Int) : Prop := ∀ n, mget m n = (ixOf out n).map fun (i : Nat) => (i : Int)
theorem ixOf_none {l : List Int} {n : Int} : ixOf l n = none ↔ n ∉ l := by
  simp only [ixOf, List.findIdx?_eq_none_iff, beq_eq_false_iff_ne, ne_eq]
  exact ⟨fun h hm => h n hm rfl, fun h x hx e => h (e ▸ hx)⟩
theorem ixOf_snoc (l : List Int) (a n : Int) : ixOf (l ++ [a]) n = (ixOf l n).or (if a = n then some l.length else none) := by
  simp only [ixOf, List.findIdx?_append]
  congr 1
  by_cases h : a = n <;> simp [List.findIdx?_cons, h]
theorem row_ok (fu : Nat) (l : List Int) (x : Option (List Int)) (hl : l.length ≤ 1048576) : ∃ m, P61 fu ⟨l, x⟩ = some (⟨rowL l, none⟩, m) ∧ AtOK m (rowL l) := by
  obtain ⟨⟨out, m⟩, h1, h2, h3, h4⟩ := wl_rest (f := P61_s0 fu l) l (fun (s : List Int × List (Int × Int)) k => (s.1, s.2, (k : Int))) (fun k s => s.1 = rowL (l.take k) ∧ AtOK s.2 s.1 ∧ s.1.length ≤ k) (fun s => (s.1, s.2, (l.length : Int))) (fun k hk s hI => by
    obtain ⟨out, m⟩ := s
    obtain ⟨g1, g2, g3⟩ := hI
    dsimp only at g1 g2 g3
    have hn : rowL (l.take (k + 1)) = addN out l[k] := by rw [take_snoc' l k hk, rowL_snoc, ← g1]
    unfold P61_s0
    dsimp only
    rw [lt_true hk, idx_lt l k hk]
    revert hn
    generalize l[k] = n
    intro hn
    rw [Option.bind_some, cond_true, w64_succ (by omega), g2 n]
    cases hx : ixOf out n with
    | some i =>
      have hm : n ∈ out := by
        refine Classical.byContradiction fun hc => ?_
        rw [ixOf_none.2 hc] at hx; cases hx
      refine ⟨(out, m), by simp, ?_, g2, Nat.le_succ_of_le g3⟩
      show out = rowL (l.take (k + 1))
      rw [hn, addN, if_pos hm]
    | none =>
      have hm : n ∉ out := ixOf_none.1 hx
      refine ⟨(out ++ [n], mset m n (ln out)), ?_, ?_, ?_, by simp; omega⟩
      · have hr : room 8 (ln (out ++ [n])) = true := by
          rw [ln_eq]
          exact room_small (m := l.length) (by simp; omega) (by omega) (by omega) (by omega)
        simp only [Option.map_none, hr, cond_true]
      · show out ++ [n] = rowL (l.take (k + 1))
        rw [hn, addN, if_neg hm]
      · intro x
        show mget (mset m n (ln out)) x = (ixOf (out ++ [n]) x).map fun (i : Nat) => (i : Int)
        rw [mget_mset', ixOf_snoc, g2 x]
        by_cases hxn : x = n
        · subst hxn; rw [hx]; simp [ln]
        · have : ¬ n = x := fun e => hxn e.symm
          simp [hxn, this]) (fun s hI => by
    unfold P61_s0
    dsimp only
    rw [lt_false]
    rfl) ([], []) ⟨by simp [rowL], fun n => rfl, by simp⟩
  dsimp only at h1 h2 h3 h4
  rw [List.take_length] at h2
  subst h2
  refine ⟨m, ?_, h3⟩
  unfold P61
  dsimp only
  rw [show (([] : List Int), ([] : List (Int × Int)), (0 : Int)) = (([] : List Int), ([] : List (Int × Int)), ((0 : Nat) : Int)) from rfl, h1]
  rfl
/-- The place of a number; -1: it does not stand there. -/
def posOf (l : List Int) (n : Int) : Int := match ixOf l n with | some i => (i : Int) | none => -1
theorem from_ok (fu : Nat) (m : List (Int × Int)) (old next : List Int) (hm : AtOK m old) (hl : next.length ≤ 1048576) : wl (P38_s0 fu m next) (([] : List Int), 0) = some (next.map (posOf old), (next.length : Int)) := by
  have h := wl_each (f := P38_s0 fu m next) next (fun s n => s ++ [posOf old n]) (fun s k => (s, (k : Int))) (fun k s => s.length = k) [] rfl (fun k hk s hI => by
    have hs : s.length = k := hI
    refine ⟨?_, by simp [hs]⟩
    unfold P38_s0
    dsimp only
    rw [lt_true hk, idx_lt next k hk]
    generalize next[k] = n
    have hr : ∀ c : Int, room 8 (ln (s ++ [c])) = true := fun c => by
      rw [ln_eq]
      exact room_small (m := next.length) (by simp; omega) (by omega) (by omega) (by omega)
    rw [Option.bind_some, cond_true, hm n, w64_succ (by omega)]
    cases hx : ixOf old n with
    | none => simp only [Option.map_none, hr, cond_true, posOf, hx]
    | some i => simp only [Option.map_some, hr, cond_true, posOf, hx]) (b := (next.map (posOf old), (next.length : Int))) (fun s _ hs => by
    unfold P38_s0
    dsimp only
    rw [lt_false, hs]
    have : ∀ (l : List Int) (a : List Int), l.foldl (fun s n => s ++ [posOf old n]) a = a ++ l.map (posOf old) := by
      intro l
      induction l with
      | nil => intro a; simp
      | cons n l ih => intro a; simp [ih]
    rw [this]
    rfl)
  exact h
/-- The next one that stays. -/
def behindL (z : List (Int × Bool)) : Int := match z.find? (fun p => !p.2) with | some p => p.1 | none => 0
theorem behind_ok (fu : Nat) (next : List Int) (bs : List Bool) (x : Option (List Int)) (y : Option (List Bool)) (hl : bs.length = next.length) (hn : next.length ≤ 1048576) (i : Nat) (hi : i < next.length) :
    P62x1 fu (i : Int) ⟨next, x⟩ ⟨bs, y⟩ = some (behindL ((next.zip bs).drop (i + 1))) := by
  unfold P62x1
  dsimp only
  have hz : (next.zip bs).length = next.length := by simp [hl]
  have h := wl_findFrom (f := P62x1_s0 fu next bs) (next.zip bs) (fun p => !p.2) (fun k => (0, (k : Int))) (fun k p => .inr (p.1, (k : Int))) (.inl (0, ((next.zip bs).length : Int))) (fun k hk => by
    have h1 : k < next.length := by omega
    have h2 : k < bs.length := by omega
    unfold P62x1_s0
    dsimp only
    rw [lt_true h1, idx_lt next k h1, idx_lt bs k h2, List.getElem_zip]
    dsimp only
    generalize next[k] = n
    rw [w64_succ (by omega)]
    cases bs[k] <;> rfl) (by
    unfold P62x1_s0
    dsimp only
    rw [hz, lt_false]
    rfl) (i + 1) (by omega)
  rw [w64_succ (by omega)]
  rcases h with ⟨j, a, h1, h2⟩ | ⟨h1, h2⟩
  · rw [h2]
    simp only [behindL, h1, Option.bind_some]
  · rw [h2]
    simp only [behindL, h1, Option.bind_some]
def stepsZ : List (Int × Bool) → List PlaceStep
  | [] => []
  | (n, b) :: r => if b then PlaceStep.mk n (behindL r) :: stepsZ r else stepsZ r
theorem stepsZ_len : ∀ z, (stepsZ z).length ≤ z.length
  | [] => by simp [stepsZ]
  | (n, b) :: r => by
    have := stepsZ_len r
    simp only [stepsZ]
    split <;> simp <;> omega
theorem stepsLoop_ok (fu : Nat) (next : List Int) (bs : List Bool) (x : Option (List Int)) (y : Option (List Bool)) (hl : bs.length = next.length) (hn : next.length ≤ 1048576) :
    wl (P38_s1 fu next x bs y) (([] : List PlaceStep), 0) = some (stepsZ (next.zip bs), (next.length : Int)) := by
  have hz : (next.zip bs).length = next.length := by simp [hl]
  obtain ⟨s, h1, h2, h3⟩ := wl_rest (f := P38_s1 fu next x bs y) (next.zip bs) (fun (s : List PlaceStep) k => (s, (k : Int))) (fun k s => s ++ stepsZ ((next.zip bs).drop k) = stepsZ (next.zip bs) ∧ s.length ≤ k) (fun s => (s, (next.length : Int))) (fun k hk s hI => by
    obtain ⟨g1, g2⟩ := hI
    have k1 : k < next.length := by omega
    have k2 : k < bs.length := by omega
    rw [List.drop_eq_getElem_cons hk, List.getElem_zip] at g1
    have hb := behind_ok fu next bs x y hl hn k k1
    unfold P38_s1
    dsimp only
    rw [lt_true k1, idx_lt next k k1, idx_lt bs k k2, hb, w64_succ (by omega)]
    simp only [stepsZ] at g1
    revert g1
    generalize next[k] = n
    generalize behindL ((next.zip bs).drop (k + 1)) = q
    have hr : room 16 (ln (s ++ [PlaceStep.mk n q])) = true := by
      rw [ln_eq]
      exact room_small (m := next.length) (by simp; omega) (by omega) (by omega) (by omega)
    cases bs[k] with
    | true =>
      intro g1
      refine ⟨s ++ [PlaceStep.mk n q], ?_, ?_, by simp; omega⟩
      · simp only [Option.bind_some, cond_true, hr]
      · simpa using g1
    | false =>
      intro g1
      refine ⟨s, ?_, by simpa using g1, by omega⟩
      simp only [Option.bind_some, cond_true, cond_false]) (fun s hI => by
    unfold P38_s1
    dsimp only
    rw [hz, lt_false]
    rfl) [] ⟨by simp, by simp⟩
  rw [show (([] : List PlaceStep), (0 : Int)) = (([] : List PlaceStep), ((0 : Nat) : Int)) from rfl, h1]
  simp only [List.drop_length, stepsZ, List.append_nil] at h2
  rw [h2]
/-- Steps, of rows that are rows already, or not. -/
def movesOf (old next : List Int) : List Bool := (mvs (next.map (posOf old))).2
def stepsOf (old next : List Int) : List PlaceStep := stepsZ ((rowL next).zip (movesOf (rowL old) (rowL next)))
theorem movesOf_len (old next : List Int) : (movesOf old next).length = next.length := by simp [movesOf, mvs_len]
theorem rowL_len (l : List Int) : (rowL l).length ≤ l.length := by
  have : ∀ (l a : List Int), (l.foldl addN a).length ≤ a.length + l.length := by
    intro l
    induction l with
    | nil => intro a; simp
    | cons n l ih =>
      intro a
      have := ih (addN a n)
      have h2 : (addN a n).length ≤ a.length + 1 := by unfold addN; split <;> simp
      simp only [List.foldl_cons, List.length_cons]
      omega
  simpa [rowL] using this l []
theorem stepsOf_len (old next : List Int) : (stepsOf old next).length ≤ next.length := by
  have h1 := stepsZ_len ((rowL next).zip (movesOf (rowL old) (rowL next)))
  have h2 := rowL_len next
  simp only [List.length_zip] at h1
  unfold stepsOf
  omega
end Go.Proofs.Ytamllgdaepjcfaa
