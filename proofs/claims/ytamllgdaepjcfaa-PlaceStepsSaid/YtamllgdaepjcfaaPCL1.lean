/- tapestrylaw09.PlaceSteps: the insertions that make one row another one are told as the reference says: on plain data. -/
import Derived.Test.YtamllgdaepjcfaaPCL0
import Derived.Test.YtamllgdaepjcfaaPCO
import Derived.Test.YtamllgdaepjcfaaPCV
namespace Go.Proofs.Ytamllgdaepjcfaa
open Go Go.X
set_option linter.unusedVariables false
set_option linter.unusedSimpArgs false
set_option maxRecDepth 100000
theorem call_of {f : Nat} {args : List PV} {st : St} {r : PV × St} (h : Sat ((real (call S)).cf f args st) (fun q => q = r)) : call S f args st = some r := by
  obtain ⟨_, h1, rfl⟩ := h; exact h1
theorem maxLen_eq : maxLen = 9223372036854775807 := by decide
theorem roomy {b : Int} {α : Type} {l : List α} (hl : l.length ≤ 1048577) (hb : 0 ≤ b) (hb2 : b ≤ 1000) {n : Nat} (hn : n ≤ l.length) : room b (n : Int) = true := by
  refine room_ok ?_
  have h1 : (n : Int) ≤ 1048577 := by omega
  have h2 : (n : Int) * b ≤ 1048577 * 1000 := Int.mul_le_mul h1 hb2 hb (by omega)
  omega
def gr (l : List Int) : Int := l.foldl max (-1)
theorem gr_snoc (l : List Int) (n : Int) : gr (l ++ [n]) = max (gr l) n := by simp [gr]
theorem mvs_gr (l : List Int) : (mvs l).1 = max 0 (gr l) := by
  have : ∀ (l : List Int) (q : Int × List Bool) (g : Int), q.1 = max 0 g → (l.foldl mv q).1 = max 0 (l.foldl max g) := by
    intro l
    induction l with
    | nil => intro q g h; exact h
    | cons n l ih =>
      intro q g h
      simp only [List.foldl_cons]
      refine ih _ _ ?_
      simp only [mv, h]
      split <;> omega
  exact this l (0, []) (-1) (by decide)
theorem placed_eq (l : List Int) (n : Int) : decide (n < (mvs l).1) = (decide (n < gr l) || decide (n < 0)) := by
  rw [mvs_gr]
  by_cases h1 : n < gr l <;> by_cases h2 : n < 0 <;> simp [h1, h2] <;> omega
theorem ref_step (fu : Nat) (l : List Int) (k : Nat) (hk : k < l.length) (hl : l.length ≤ 1048576) (a : Int) (bs : List Bool) (hb : bs.length = k) : P22_s0 fu l (bs, a, (k : Int)) = some (.inl (bs ++ [(decide (l[k] < a) || decide (l[k] < 0))], max a l[k], ((k + 1 : Nat) : Int))) := by
  unfold P22_s0
  dsimp only
  rw [lt_true hk, idx_lt l k hk]
  generalize l[k] = n
  have hlen : ∀ c : Bool, ln (bs ++ [c]) = ((k + 1 : Nat) : Int) := fun c => by simp [ln, hb]
  have hr : room 1 ((k + 1 : Nat) : Int) = true := roomy (b := 1) (l := l) (by omega) (by omega) (by omega) hk
  simp only [Option.bind_some, cond_true, hlen, hr]
  rw [w64_succ (by omega)]
  by_cases hd : n < a
  · have h1 : ¬ a ≤ n := by omega
    have h2 : max a n = a := by omega
    simp only [hd, h1, h2, decide_true, decide_false, Bool.not_true, cond_false, Bool.true_or]
  · have h1 : a ≤ n := by omega
    have h2 : max a n = n := by omega
    simp only [hd, h1, h2, decide_true, decide_false, Bool.not_false, cond_true, Bool.false_or]
theorem refMoves_ok (fu : Nat) (l : List Int) (x : Option (List Int)) (hl : l.length ≤ 1048576) : P22 fu ⟨l, x⟩ = some ⟨(mvs l).2, none⟩ := by
  unfold P22
  dsimp only
  have h := wl_fold (f := P22_s0 fu l) (fun (s : Int × List Bool) (k : Nat) => (s.2, s.1, (k : Int))) l.length (fun k => (gr (l.take k), (mvs (l.take k)).2)) (b := ((mvs l).2, gr l, (l.length : Int))) (fun k hk => by
    have e : (mvs (l.take (k + 1))).2 = (mvs (l.take k)).2 ++ [(decide (l[k] < gr (l.take k)) || decide (l[k] < 0))] := by rw [take_snoc' l k hk, mvs_snoc, ← placed_eq]; rfl
    have e2 : gr (l.take (k + 1)) = max (gr (l.take k)) l[k] := by rw [take_snoc' l k hk, gr_snoc]
    have hb : (mvs (l.take k)).2.length = k := by rw [mvs_len, List.length_take]; omega
    rw [e, e2]
    exact ref_step fu l k hk hl _ _ hb) (by
    unfold P22_s0
    dsimp only
    rw [lt_false, List.take_length]
    rfl)
  have h0 : mvs (l.take 0) = (0, []) := by simp [mvs]
  have h1 : gr (l.take 0) = -1 := by simp [gr]
  rw [h0, h1] at h
  rw [show (([] : List Bool), (-1 : Int), (0 : Int)) = (([] : List Bool), (-1 : Int), ((0 : Nat) : Int)) from rfl, h]
  rfl
theorem twin_step (fu : Nat) (l : List Int) (k : Nat) (hk : k < l.length) (hl : l.length ≤ 1048576) (s : List Int) (hs : s.length = k) : P20_s0 fu l (s, (k : Int)) = some (.inl (s ++ [l[k]], ((k + 1 : Nat) : Int))) := by
  unfold P20_s0
  dsimp only
  rw [lt_true hk, idx_lt l k hk]
  generalize l[k] = n
  have hlen : ln (s ++ [n]) = ((k + 1 : Nat) : Int) := by simp [ln, hs]
  have hr : room 8 ((k + 1 : Nat) : Int) = true := roomy (b := 8) (l := l) (by omega) (by omega) (by omega) hk
  have hc : w64 (ln l + 1) = ((l.length + 1 : Nat) : Int) := w64_succ (by omega)
  have h1 : decide (((k + 1 : Nat) : Int) ≤ ((l.length + 1 : Nat) : Int)) = true := decide_eq_true (by omega)
  rw [Option.bind_some, hlen, hr, hc, h1, w64_succ (by omega)]
  rfl
/-- A twin is the list itself, with one number more behind it. -/
theorem twinInts_ok (fu : Nat) (l : List Int) (x : Option (List Int)) (hl : l.length ≤ 1048576) : P20 fu ⟨l, x⟩ = some ⟨l, some [7777]⟩ := by
  unfold P20
  dsimp only
  have hc : w64 (ln l + 1) = ((l.length + 1 : Nat) : Int) := w64_succ (by omega)
  have h := wl_fold (f := P20_s0 fu l) (fun (s : List Int) (k : Nat) => (s, (k : Int))) l.length (fun k => l.take k) (b := (l, (l.length : Int))) (fun k hk => by
    rw [take_snoc' l k hk]
    exact twin_step fu l k hk hl _ (by rw [List.length_take]; omega)) (by
    unfold P20_s0
    dsimp only
    rw [lt_false, List.take_length]
    rfl)
  have hrm : room 8 ((l.length + 1 : Nat) : Int) = true := room_ok (by omega)
  have hl7 : ln (l ++ [7777]) = ((l.length + 1 : Nat) : Int) := by simp [ln]
  have h0 : ((List.replicate (Int.toNat 0) (0 : Int)), (0 : Int)) = (l.take 0, ((0 : Nat) : Int)) := by simp
  have e0 : decide ((0 : Int) ≤ 0) = true := rfl
  have e1 : decide ((0 : Int) ≤ ((l.length + 1 : Nat) : Int)) = true := decide_eq_true (by omega)
  have e2 : decide (((l.length + 1 : Nat) : Int) ≤ ((l.length + 1 : Nat) : Int)) = true := decide_eq_true (by omega)
  have e3 : ((((l.length + 1 : Nat) : Int)) == ((l.length + 1 : Nat) : Int)) = true := by simp
  have e4 : decide ((0 : Int) ≤ ln l) = true := decide_eq_true (ln_ge l)
  have e5 : decide (ln l ≤ ((l.length + 1 : Nat) : Int)) = true := decide_eq_true (by rw [ln_eq]; omega)
  rw [hc, h0, h]
  simp only [e0, e1, hrm, cond_true, Option.bind_some, hl7, e2, e3, e4, e5, List.append_nil]
  have c1 : cut (l ++ [7777]) 0 (ln l) = l := by simp [cut, ln]
  have c2 : cut (l ++ [7777]) (ln l) ((l.length + 1 : Nat) : Int) = [7777] := by simp [cut, ln, List.take_of_length_le]
  rw [c1, c2]
  rfl
theorem left_step (fu : Nat) (l : List Int) (k : Nat) (hk : k < l.length) (hl : l.length ≤ 1048576) : P23_s0 fu l l (k : Int) = some (.inl ((k + 1 : Nat) : Int)) := by
  unfold P23_s0
  dsimp only
  rw [lt_true hk, idx_lt l k hk, w64_succ (by omega)]
  simp only [Option.bind_some, cond_true, beq_self_eq_true, Bool.not_true, cond_false]
theorem leftInts_ok (fu : Nat) (l : List Int) (x : Option (List Int)) (hl : l.length ≤ 1048576) : P23 fu ⟨l, some [7777]⟩ ⟨l, x⟩ = some true := by
  unfold P23
  dsimp only
  have h := wl_fold (f := P23_s0 fu l l) (fun (s : Unit) (k : Nat) => (k : Int)) l.length (fun k => ()) (b := .inl (l.length : Int)) (fun k hk => left_step fu l k hk hl) (by
    unfold P23_s0
    dsimp only
    rw [lt_false]
    rfl)
  have e1 : (ln l == ln l) = true := by simp
  have e2 : decide (ln (l ++ [7777]) ≤ ln l) = false := by simp [ln]; omega
  have hc : w64 (ln l + 1) = ((l.length + 1 : Nat) : Int) := w64_succ (by omega)
  have e0 : decide ((0 : Int) ≤ 0) = true := rfl
  have e3 : decide ((0 : Int) ≤ ((l.length + 1 : Nat) : Int)) = true := decide_eq_true (by omega)
  have e4 : decide (((l.length + 1 : Nat) : Int) ≤ ln (l ++ [7777])) = true := decide_eq_true (by simp [ln])
  have e5 : idx (cut (l ++ [7777]) 0 ((l.length + 1 : Nat) : Int)) (ln l) = some 7777 := by
    have : cut (l ++ [7777]) 0 ((l.length + 1 : Nat) : Int) = l ++ [7777] := by simp [cut, List.take_of_length_le]
    rw [this, ln, idx_nat]
    simp
  have h : wl (P23_s0 fu l l) 0 = some (.inl (l.length : Int)) := h
  rw [h]
  simp only [e1, e2, hc, Bool.not_true, Bool.not_false, cond_true, cond_false, Option.bind_some]
  rw [show decide ((0 : Nat) ≤ 0) = true from rfl, e3, e4, e5]
  rfl
theorem steps_ok (fu : Nat) (old next : List Int) (x y : Option (List Int)) (h1 : old.length ≤ 1048576) (h2 : next.length ≤ 1048576) : P38 fu ⟨old, x⟩ ⟨next, y⟩ = some (stepsOf old next) := by
  unfold P38
  dsimp only
  obtain ⟨m1, e1, g1⟩ := row_ok fu old x h1
  obtain ⟨m2, e2, g2⟩ := row_ok fu next y h2
  have l1 := rowL_len next
  rw [e1, Option.bind_some]
  dsimp only
  rw [e2, Option.bind_some]
  dsimp only
  rw [from_ok fu m1 (rowL old) (rowL next) g1 (by omega), Option.bind_some]
  dsimp only
  rw [moves_ok fu _ none (by simp; omega), Option.bind_some]
  dsimp only
  rw [stepsLoop_ok fu (rowL next) _ none none (by simp [mvs_len]) (by omega), Option.bind_some]
  rfl
theorem place_ok (fu : Nat) (l : List Int) (x : Option (List Int)) (n : Int) (hl : l.length ≤ 1048576) : P64 fu ⟨l, x⟩ n = some (posOf l n) := by
  unfold P64
  dsimp only
  have h := wl_search (f := P64_s0 fu l n) l (fun a => a == n) (fun k => (0, (k : Int))) (fun k => .inr ((k : Int), (k : Int))) (.inl (0, (l.length : Int))) (fun k hk => by
    unfold P64_s0
    dsimp only
    rw [lt_true hk, idx_lt l k hk, w64_succ (by omega)]
    generalize l[k] = a
    cases hh : (a == n) <;> simp [hh]) (by
    unfold P64_s0
    dsimp only
    rw [lt_false]
    rfl)
  have h : wl (P64_s0 fu l n) (0, 0) = _ := h
  rw [h]
  unfold posOf ixOf
  cases l.findIdx? (fun a => a == n) <;> rfl
theorem pos_neg {l : List Int} {n : Int} : posOf l n < 0 ↔ n ∉ l := by
  rw [← ixOf_none]
  unfold posOf
  cases h : ixOf l n with
  | none => simp
  | some i => simp
theorem refRow_ok (fu : Nat) (l : List Int) (x : Option (List Int)) (hl : l.length ≤ 1048576) : P63 fu ⟨l, x⟩ = some ⟨rowL l, none⟩ := by
  unfold P63
  dsimp only
  obtain ⟨s, h1, h2, h3⟩ := wl_rest (f := P63_s0 fu l) l (fun (s : List Int) k => (s, (k : Int))) (fun k s => s = rowL (l.take k) ∧ s.length ≤ k) (fun s => (s, (l.length : Int))) (fun k hk s hI => by
    obtain ⟨g1, g2⟩ := hI
    have hn : rowL (l.take (k + 1)) = addN s l[k] := by rw [take_snoc' l k hk, rowL_snoc, ← g1]
    unfold P63_s0
    dsimp only
    rw [lt_true hk, idx_lt l k hk]
    revert hn
    generalize l[k] = n
    intro hn
    rw [Option.bind_some, place_ok fu s none n (by omega), w64_succ (by omega)]
    have hroom : room 8 (ln (s ++ [n])) = true := by
      rw [ln_eq]
      exact room_small (m := l.length) (by simp; omega) (by omega) (by omega) (by omega)
    by_cases hm : n ∈ s
    · have hp : ¬ posOf s n < 0 := fun h => pos_neg.1 h hm
      refine ⟨s, by simp [hp], ?_, by omega⟩
      rw [hn, addN, if_pos hm]
    · have hp : posOf s n < 0 := pos_neg.2 hm
      refine ⟨s ++ [n], by simp [hp, hroom], ?_, by simp; omega⟩
      rw [hn, addN, if_neg hm]) (fun s hI => by
    unfold P63_s0
    dsimp only
    rw [lt_false]
    rfl) [] ⟨by simp [rowL], by simp⟩
  have h1 : wl (P63_s0 fu l) (([] : List Int), 0) = some (s, (l.length : Int)) := h1
  rw [h1]
  rw [List.take_length] at h2
  subst h2
  rfl
theorem refFrom_ok (fu : Nat) (old next : List Int) (x : Option (List Int)) (hl : old.length ≤ 1048576) (hl2 : next.length ≤ 1048576) : wl (P39_s0 fu old x next) (([] : List Int), 0) = some (next.map (posOf (rowL old)), (next.length : Int)) := by
  obtain ⟨s, h1, h2⟩ := wl_rest (f := P39_s0 fu old x next) next (fun (s : List Int) k => (s, (k : Int))) (fun k s => s = (next.take k).map (posOf (rowL old))) (fun s => (s, (next.length : Int))) (fun k hk s hI => by
    have hr := rowL_len old
    unfold P39_s0
    dsimp only
    rw [lt_true hk, refRow_ok fu old x hl, idx_lt next k hk, w64_succ (by omega)]
    simp only [Option.bind_some]
    rw [place_ok fu (rowL old) none _ (by omega)]
    have hs : s.length = k := by rw [hI]; simp; omega
    have hroom : ∀ c : Int, room 8 (ln (s ++ [c])) = true := fun c => by
      rw [ln_eq]
      exact room_small (m := next.length) (by simp; omega) (by omega) (by omega) (by omega)
    exact ⟨s ++ [posOf (rowL old) next[k]], by simp [hroom], by rw [take_snoc' next k hk, List.map_append, ← hI]; rfl⟩) (fun s hI => by
    unfold P39_s0
    dsimp only
    rw [lt_false]
    rfl) [] (by simp)
  rw [List.take_length] at h2
  subst h2
  exact h1
theorem refBehind_ok (fu : Nat) (next : List Int) (bs : List Bool) (hb : bs.length = next.length) (hl : next.length ≤ 1048576) (i : Nat) (hi : i < next.length) :
    wl (P39_s2 fu next bs (i : Int)) (0, w64 (ln next - 1)) = some (behindL ((next.zip bs).drop (i + 1)), (i : Int)) := by
  have hz : (next.zip bs).length = next.length := by simp [hb]
  have e0 : w64 (ln next - 1) = (next.length : Int) - 1 := by rw [ln_eq, w64_id (by omega) (by omega)]
  rw [e0]
  obtain ⟨q, h1, h2⟩ := wl_rule (f := P39_s2 fu next bs (i : Int)) (fun s : Int × Int => ∃ m : Nat, s.2 = (m : Int) - 1 ∧ i + 1 ≤ m ∧ m ≤ next.length ∧ s.1 = behindL ((next.zip bs).drop m)) (fun s => (s.2 + 1).toNat) (fun q => q = (behindL ((next.zip bs).drop (i + 1)), (i : Int))) (by
    rintro ⟨b, k⟩ ⟨m, hk, hm1, hm2, hb2⟩
    dsimp only at hk hb2
    subst hk hb2
    by_cases hmi : m = i + 1
    · subst hmi
      right
      refine ⟨_, ?_, rfl⟩
      unfold P39_s2
      dsimp only
      have : decide ((i : Int) < ((i + 1 : Nat) : Int) - 1) = false := decide_eq_false (by omega)
      rw [this, cond_false]
      have : ((i + 1 : Nat) : Int) - 1 = (i : Int) := by omega
      rw [this]
    · left
      obtain ⟨k, rfl⟩ : ∃ k, m = k + 1 := ⟨m - 1, by omega⟩
      have k1 : k < next.length := by omega
      have k2 : k < bs.length := by omega
      have k3 : k < (next.zip bs).length := by omega
      have hk0 : ((k + 1 : Nat) : Int) - 1 = (k : Int) := by omega
      have hk1 : w64 ((k : Int) - 1) = (k : Int) - 1 := w64_id (by omega) (by omega)
      have hd : decide ((i : Int) < (k : Int)) = true := decide_eq_true (by omega)
      have hbk : behindL ((next.zip bs).drop k) = if bs[k] then behindL ((next.zip bs).drop (k + 1)) else next[k] := by
        rw [List.drop_eq_getElem_cons k3, List.getElem_zip]
        unfold behindL
        rw [List.find?_cons]
        cases bs[k] <;> rfl
      refine ⟨(behindL ((next.zip bs).drop k), (k : Int) - 1), ?_, ⟨k, rfl, by omega, by omega, rfl⟩, by dsimp only; omega⟩
      unfold P39_s2
      dsimp only
      rw [hk0, hd, idx_lt bs k k2, idx_lt next k k1, hbk, hk1]
      cases bs[k] <;> rfl) (next.length) (0, (next.length : Int) - 1) (by dsimp only; omega) ⟨next.length, rfl, by omega, by omega, by
      rw [← hz, List.drop_length]; rfl⟩
  rw [h1, h2]
def refZ (s : PlaceStep) : Ref09Step := ⟨s.Node, s.Before⟩
theorem refLoop_ok (fu : Nat) (next : List Int) (bs : List Bool) (hl : bs.length = next.length) (hn : next.length ≤ 1048576) :
    wl (P39_s1 fu next bs) (([] : List Ref09Step), 0) = some ((stepsZ (next.zip bs)).map refZ, (next.length : Int)) := by
  have hz : (next.zip bs).length = next.length := by simp [hl]
  obtain ⟨s, h1, h2, h3⟩ := wl_rest (f := P39_s1 fu next bs) (next.zip bs) (fun (s : List Ref09Step) k => (s, (k : Int))) (fun k s => s ++ (stepsZ ((next.zip bs).drop k)).map refZ = (stepsZ (next.zip bs)).map refZ ∧ s.length ≤ k) (fun s => (s, (next.length : Int))) (fun k hk s hI => by
    obtain ⟨g1, g2⟩ := hI
    have k1 : k < next.length := by omega
    have k2 : k < bs.length := by omega
    rw [List.drop_eq_getElem_cons hk, List.getElem_zip] at g1
    have hb := refBehind_ok fu next bs hl hn k k1
    unfold P39_s1
    dsimp only
    rw [lt_true k1, idx_lt next k k1, idx_lt bs k k2, hb, w64_succ (by omega)]
    simp only [stepsZ] at g1
    revert g1
    generalize next[k] = n
    generalize behindL ((next.zip bs).drop (k + 1)) = q
    have hr : room 16 (ln (s ++ [Ref09Step.mk n q])) = true := by
      rw [ln_eq]
      exact room_small (m := next.length) (by simp; omega) (by omega) (by omega) (by omega)
    cases bs[k] with
    | true =>
      intro g1
      refine ⟨s ++ [Ref09Step.mk n q], ?_, ?_, by simp; omega⟩
      · simp only [Option.bind_some, cond_true, hr, Bool.not_true, cond_false]
      · simpa [refZ] using g1
    | false =>
      intro g1
      refine ⟨s, ?_, by simpa using g1, by omega⟩
      simp only [Option.bind_some, cond_true, cond_false, Bool.not_false]) (fun s hI => by
    unfold P39_s1
    dsimp only
    rw [hz, lt_false]
    rfl) [] ⟨by simp, by simp⟩
  have h1 : wl (P39_s1 fu next bs) (([] : List Ref09Step), 0) = some (s, (next.length : Int)) := h1
  rw [h1]
  simp only [List.drop_length, stepsZ, List.append_nil, List.map_nil] at h2
  rw [h2]
theorem refSteps_ok (fu : Nat) (old next : List Int) (x y : Option (List Int)) (h1 : old.length ≤ 1048576) (h2 : next.length ≤ 1048576) : P39 fu ⟨old, x⟩ ⟨next, y⟩ = some ⟨(stepsOf old next).map refZ, none⟩ := by
  unfold P39
  dsimp only
  have l1 := rowL_len next
  rw [refRow_ok fu next y h2, Option.bind_some]
  dsimp only
  rw [refFrom_ok fu old (rowL next) x h1 (by omega), Option.bind_some]
  dsimp only
  rw [refMoves_ok fu _ none (by simp; omega), Option.bind_some]
  dsimp only
  rw [refLoop_ok fu (rowL next) _ (by simp [mvs_len]) (by omega), Option.bind_some]
  rfl
theorem loop9_ok (fu : Nat) (steps : List PlaceStep) (hl : steps.length ≤ 1048576) : ∃ q, wl (P9_s0 fu steps (steps.map refZ)) (steps, 0) = some (.inl q) := by
  obtain ⟨s, h1, h2, h3⟩ := wl_rest (f := P9_s0 fu steps (steps.map refZ)) steps (fun (s : List PlaceStep) k => (s, (k : Int))) (fun k s => s.length = steps.length ∧ ∀ j, k ≤ j → s[j]? = steps[j]?) (fun s => .inl (s, (steps.length : Int))) (fun k hk s hI => by
    obtain ⟨g1, g2⟩ := hI
    have k1 : k < s.length := by omega
    have k2 : k < (steps.map refZ).length := by simp; omega
    have e := g2 k (Nat.le_refl _)
    rw [List.getElem?_eq_getElem k1, List.getElem?_eq_getElem hk] at e
    have e := Option.some.inj e
    have e3 : (steps.map refZ)[k] = refZ steps[k] := by simp
    unfold P9_s0
    dsimp only
    rw [lt_true k1, idx_lt s k k1, idx_lt steps k hk, idx_lt _ k k2, e, e3, w64_succ (by omega)]
    generalize steps[k] = q
    obtain ⟨n, b⟩ := q
    refine ⟨List.set s k (PlaceStep.mk (-9) (-9)), ?_, by simp [g1], fun j hj => ?_⟩
    · simp [refZ]
    · rw [List.getElem?_set_ne (by omega)]
      exact g2 j (by omega)) (fun s hI => by
    unfold P9_s0
    dsimp only
    have : decide ((steps.length : Int) < ln s) = false := decide_eq_false (by simp [ln, hI.1])
    rw [this]
    rfl) steps ⟨rfl, fun _ _ => rfl⟩
  exact ⟨_, h1⟩
theorem P9_true (fu : Nat) (a b : List Int) (x y : Option (List Int)) : P9 fu ⟨a, x⟩ ⟨b, y⟩ = some true := by
  unfold P9
  dsimp only
  by_cases ha : 500 < ln a
  · simp [ha]
  · by_cases hb : 500 < ln b
    · simp [ha, hb]
    · have hl1 : a.length ≤ 1048576 := by simp [ln] at ha; omega
      have hl2 : b.length ≤ 1048576 := by simp [ln] at hb; omega
      have hsl := stepsOf_len a b
      simp only [ha, hb, decide_false, Bool.not_false, cond_true, cond_false]
      rw [twinInts_ok fu a x hl1, Option.bind_some]
      dsimp only
      rw [twinInts_ok fu b y hl2, Option.bind_some]
      dsimp only
      rw [steps_ok fu a b _ _ hl1 hl2, Option.bind_some, Option.bind_some, refSteps_ok fu a b x y hl1 hl2, Option.bind_some]
      dsimp only
      rw [leftInts_ok fu a x hl1, leftInts_ok fu b y hl2]
      obtain ⟨q, hq⟩ := loop9_ok fu (stepsOf a b) (by omega)
      have e : (ln (stepsOf a b) == ln ((stepsOf a b).map refZ)) = true := by simp [ln]
      simp only [e, Bool.not_true, Bool.not_false, cond_true, cond_false, Option.bind_some, hq]
theorem law9 (ls : List (List D)) (h : WTs tab [31, 31] ls) : call S 9 (argsPV tab [31, 31] ls) [] = some (.d (.bool true), []) := by
  obtain ⟨l1, _, rfl, h1, l2, _, rfl, h2, rfl⟩ := h
  obtain ⟨⟨a, x⟩, rfl⟩ := wt_31 h1
  obtain ⟨⟨b, y⟩, rfl⟩ := wt_31 h2
  exact call_of (ok9 (fu := 0) rfl rfl (P9_true 0 a b x y) rfl [])
end Go.Proofs.Ytamllgdaepjcfaa
