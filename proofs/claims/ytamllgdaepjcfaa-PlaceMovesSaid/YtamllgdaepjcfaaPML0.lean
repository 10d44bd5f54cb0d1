/- tapestrylaw09.PlaceMoves: which new children are placed is told as the reference says: on plain data. -/
import Derived.Test.YtamllgdaepjcfaaPMO
import Derived.Test.YtamllgdaepjcfaaPMV
namespace Go.Proofs.Ytamllgdaepjcfaa
open Go Go.X
set_option linter.unusedVariables false
set_option linter.unusedSimpArgs false
set_option maxRecDepth 100000
theorem call_of {f : Nat} {args : List PV} {st : St} {r : PV × St} (h : Sat ((real (call S)).cf f args st) (fun q => q = r)) : call S f args st = some r := by
  obtain ⟨_, h1, rfl⟩ := h; exact h1
theorem maxLen_eq : maxLen = 9223372036854775807 := by decide
/-- Is a number beyond what is looked at? -/
theorem beyond_one (fu : Nat) (n : Int) (h0 : 0 ≤ n) (h1 : n < 9223372036854775808) : P19 fu ⟨[n], some []⟩ = some (decide (1048576 < n)) := by
  unfold P19
  dsimp only
  have hw : w64 (0 + n) = n := by rw [w64_id (by omega) (by omega)]; omega
  have h2 : P19_s0 fu [n] (false, 0, 0) = (bif decide (1048576 < n) then some (.inr (.inr (true, n, 0))) else some (.inl (false, n, 1))) := by
    unfold P19_s0
    dsimp only
    have : idx [n] 0 = some n := rfl
    rw [this]
    simp only [Option.bind_some, hw]
    rfl
  cases hd : decide (1048576 < n) with
  | true =>
    rw [hd] at h2
    rw [wl_inr h2]; rfl
  | false =>
    rw [hd] at h2
    rw [wl_inl h2]
    have h3 : P19_s0 fu [n] (false, n, 1) = some (.inr (.inl (false, n, 1))) := rfl
    rw [wl_inr h3]; rfl
/-- What Moves has behind the first elements: the last one that stayed, and the answers. -/
def mv (q : Int × List Bool) (n : Int) : Int × List Bool := (if n < q.1 then q.1 else n, q.2 ++ [decide (n < q.1)])
def mvs (l : List Int) : Int × List Bool := l.foldl mv (0, [])
theorem mvs_snoc (l : List Int) (n : Int) : mvs (l ++ [n]) = mv (mvs l) n := by simp [mvs]
theorem mvs_len (l : List Int) : (mvs l).2.length = l.length := by
  have : ∀ (l : List Int) (q : Int × List Bool), (l.foldl mv q).2.length = q.2.length + l.length := by
    intro l
    induction l with
    | nil => intro q; simp
    | cons n l ih => intro q; simp [ih, mv]; omega
  simpa [mvs] using this l (0, [])
def gr (l : List Int) : Int := l.foldl max (-1)
theorem gr_snoc (l : List Int) (n : Int) : gr (l ++ [n]) = max (gr l) n := by simp [gr]
theorem mvs_gr (l : List Int) : (mvs l).1 = max 0 (gr l) := by
  have : ∀ (l : List Int) (q : Int × List Bool) (g : Int), q.1 = max 0 g → (l.foldl mv q).1 = max 0 (l.foldl max g) := by
    intro l
    induction l with
    | nil => intro q g h; exact h
    | cons n l ih =>
      intro q g h
      simp only [List.foldl_cons]
      refine ih _ _ ?_
      simp only [mv, h]
      split <;> omega
  exact this l (0, []) (-1) (by decide)
theorem placed_eq (l : List Int) (n : Int) : decide (n < (mvs l).1) = (decide (n < gr l) || decide (n < 0)) := by
  rw [mvs_gr]
  by_cases h1 : n < gr l <;> by_cases h2 : n < 0 <;> simp [h1, h2] <;> omega
theorem take_snoc {α : Type} (l : List α) (k : Nat) (h : k < l.length) : l.take (k + 1) = l.take k ++ [l[k]] := by
  rw [List.take_add_one, List.getElem?_eq_getElem h]; rfl
theorem roomy {b : Int} {α : Type} {l : List α} (hl : l.length ≤ 1048577) (hb : 0 ≤ b) (hb2 : b ≤ 1000) {n : Nat} (hn : n ≤ l.length) : room b (n : Int) = true := by
  refine room_ok ?_
  have h1 : (n : Int) ≤ 1048577 := by omega
  have h2 : (n : Int) * b ≤ 1048577 * 1000 := Int.mul_le_mul h1 hb2 hb (by omega)
  omega
theorem moves_step (fu : Nat) (l : List Int) (k : Nat) (hk : k < l.length) (hl : l.length ≤ 1048576) (a : Int) (bs : List Bool) (hb : bs.length = k) : P21_s0 fu l (bs, a, (k : Int)) = some (.inl ((mv (a, bs) l[k]).2, (mv (a, bs) l[k]).1, ((k + 1 : Nat) : Int))) := by
  unfold P21_s0
  dsimp only
  rw [lt_true hk, idx_lt l k hk]
  generalize l[k] = n
  have hlen : ∀ c : Bool, ln (bs ++ [c]) = ((k + 1 : Nat) : Int) := fun c => by simp [ln, hb]
  have hr : room 1 ((k + 1 : Nat) : Int) = true := roomy (b := 1) (l := l) (by omega) (by omega) (by omega) hk
  rw [Option.bind_some, cond_true, hlen, hr, w64_succ (by omega)]
  by_cases hd : n < a
  · simp only [hd, decide_true, Bool.not_true, cond_false, cond_true, mv, if_true]
  · simp only [hd, decide_false, Bool.not_false, cond_false, cond_true, mv, if_false]
theorem moves_ok (fu : Nat) (l : List Int) (x : Option (List Int)) (hl : l.length ≤ 1048576) : P21 fu ⟨l, x⟩ = some (mvs l).2 := by
  unfold P21
  dsimp only
  have h := wl_fold (f := P21_s0 fu l) (fun (s : Int × List Bool) (k : Nat) => (s.2, s.1, (k : Int))) l.length (fun k => mvs (l.take k)) (b := ((mvs l).2, (mvs l).1, (l.length : Int))) (fun k hk => by
    have e : mvs (l.take (k + 1)) = mv (mvs (l.take k)) l[k] := by rw [take_snoc l k hk, mvs_snoc]
    have hb : (mvs (l.take k)).2.length = k := by rw [mvs_len, List.length_take]; omega
    rw [e]
    exact moves_step fu l k hk hl _ _ hb) (by
    unfold P21_s0
    dsimp only
    rw [lt_false, List.take_length]
    rfl)
  have h0 : mvs (l.take 0) = (0, []) := by simp [mvs]
  rw [h0] at h
  rw [show (([] : List Bool), (0 : Int), (0 : Int)) = (([] : List Bool), (0 : Int), ((0 : Nat) : Int)) from rfl, h]
  rfl
theorem ref_step (fu : Nat) (l : List Int) (k : Nat) (hk : k < l.length) (hl : l.length ≤ 1048576) (a : Int) (bs : List Bool) (hb : bs.length = k) : P22_s0 fu l (bs, a, (k : Int)) = some (.inl (bs ++ [(decide (l[k] < a) || decide (l[k] < 0))], max a l[k], ((k + 1 : Nat) : Int))) := by
  unfold P22_s0
  dsimp only
  rw [lt_true hk, idx_lt l k hk]
  generalize l[k] = n
  have hlen : ∀ c : Bool, ln (bs ++ [c]) = ((k + 1 : Nat) : Int) := fun c => by simp [ln, hb]
  have hr : room 1 ((k + 1 : Nat) : Int) = true := roomy (b := 1) (l := l) (by omega) (by omega) (by omega) hk
  simp only [Option.bind_some, cond_true, hlen, hr]
  rw [w64_succ (by omega)]
  by_cases hd : n < a
  · have h1 : ¬ a ≤ n := by omega
    have h2 : max a n = a := by omega
    simp only [hd, h1, h2, decide_true, decide_false, Bool.not_true, cond_false, Bool.true_or]
  · have h1 : a ≤ n := by omega
    have h2 : max a n = n := by omega
    simp only [hd, h1, h2, decide_true, decide_false, Bool.not_false, cond_true, Bool.false_or]
theorem refMoves_ok (fu : Nat) (l : List Int) (x : Option (List Int)) (hl : l.length ≤ 1048576) : P22 fu ⟨l, x⟩ = some ⟨(mvs l).2, none⟩ := by
  unfold P22
  dsimp only
  have h := wl_fold (f := P22_s0 fu l) (fun (s : Int × List Bool) (k : Nat) => (s.2, s.1, (k : Int))) l.length (fun k => (gr (l.take k), (mvs (l.take k)).2)) (b := ((mvs l).2, gr l, (l.length : Int))) (fun k hk => by
    have e : (mvs (l.take (k + 1))).2 = (mvs (l.take k)).2 ++ [(decide (l[k] < gr (l.take k)) || decide (l[k] < 0))] := by rw [take_snoc l k hk, mvs_snoc, ← placed_eq]; rfl
    have e2 : gr (l.take (k + 1)) = max (gr (l.take k)) l[k] := by rw [take_snoc l k hk, gr_snoc]
    have hb : (mvs (l.take k)).2.length = k := by rw [mvs_len, List.length_take]; omega
    rw [e, e2]
    exact ref_step fu l k hk hl _ _ hb) (by
    unfold P22_s0
    dsimp only
    rw [lt_false, List.take_length]
    rfl)
  have h0 : mvs (l.take 0) = (0, []) := by simp [mvs]
  have h1 : gr (l.take 0) = -1 := by simp [gr]
  rw [h0, h1] at h
  rw [show (([] : List Bool), (-1 : Int), (0 : Int)) = (([] : List Bool), (-1 : Int), ((0 : Nat) : Int)) from rfl, h]
  rfl
theorem twin_step (fu : Nat) (l : List Int) (k : Nat) (hk : k < l.length) (hl : l.length ≤ 1048576) (s : List Int) (hs : s.length = k) : P20_s0 fu l (s, (k : Int)) = some (.inl (s ++ [l[k]], ((k + 1 : Nat) : Int))) := by
  unfold P20_s0
  dsimp only
  rw [lt_true hk, idx_lt l k hk]
  generalize l[k] = n
  have hlen : ln (s ++ [n]) = ((k + 1 : Nat) : Int) := by simp [ln, hs]
  have hr : room 8 ((k + 1 : Nat) : Int) = true := roomy (b := 8) (l := l) (by omega) (by omega) (by omega) hk
  have hc : w64 (ln l + 1) = ((l.length + 1 : Nat) : Int) := w64_succ (by omega)
  have h1 : decide (((k + 1 : Nat) : Int) ≤ ((l.length + 1 : Nat) : Int)) = true := decide_eq_true (by omega)
  rw [Option.bind_some, hlen, hr, hc, h1, w64_succ (by omega)]
  rfl
/-- A twin is the list itself, with one number more behind it. -/
theorem twinInts_ok (fu : Nat) (l : List Int) (x : Option (List Int)) (hl : l.length ≤ 1048576) : P20 fu ⟨l, x⟩ = some ⟨l, some [7777]⟩ := by
  unfold P20
  dsimp only
  have hc : w64 (ln l + 1) = ((l.length + 1 : Nat) : Int) := w64_succ (by omega)
  have h := wl_fold (f := P20_s0 fu l) (fun (s : List Int) (k : Nat) => (s, (k : Int))) l.length (fun k => l.take k) (b := (l, (l.length : Int))) (fun k hk => by
    rw [take_snoc l k hk]
    exact twin_step fu l k hk hl _ (by rw [List.length_take]; omega)) (by
    unfold P20_s0
    dsimp only
    rw [lt_false, List.take_length]
    rfl)
  have hrm : room 8 ((l.length + 1 : Nat) : Int) = true := room_ok (by omega)
  have hl7 : ln (l ++ [7777]) = ((l.length + 1 : Nat) : Int) := by simp [ln]
  have h0 : ((List.replicate (Int.toNat 0) (0 : Int)), (0 : Int)) = (l.take 0, ((0 : Nat) : Int)) := by simp
  have e0 : decide ((0 : Int) ≤ 0) = true := rfl
  have e1 : decide ((0 : Int) ≤ ((l.length + 1 : Nat) : Int)) = true := decide_eq_true (by omega)
  have e2 : decide (((l.length + 1 : Nat) : Int) ≤ ((l.length + 1 : Nat) : Int)) = true := decide_eq_true (by omega)
  have e3 : ((((l.length + 1 : Nat) : Int)) == ((l.length + 1 : Nat) : Int)) = true := by simp
  have e4 : decide ((0 : Int) ≤ ln l) = true := decide_eq_true (ln_ge l)
  have e5 : decide (ln l ≤ ((l.length + 1 : Nat) : Int)) = true := decide_eq_true (by rw [ln_eq]; omega)
  rw [hc, h0, h]
  simp only [e0, e1, hrm, cond_true, Option.bind_some, hl7, e2, e3, e4, e5, List.append_nil]
  have c1 : cut (l ++ [7777]) 0 (ln l) = l := by simp [cut, ln]
  have c2 : cut (l ++ [7777]) (ln l) ((l.length + 1 : Nat) : Int) = [7777] := by simp [cut, ln, List.take_of_length_le]
  rw [c1, c2]
  rfl
theorem left_step (fu : Nat) (l : List Int) (k : Nat) (hk : k < l.length) (hl : l.length ≤ 1048576) : P23_s0 fu l l (k : Int) = some (.inl ((k + 1 : Nat) : Int)) := by
  unfold P23_s0
  dsimp only
  rw [lt_true hk, idx_lt l k hk, w64_succ (by omega)]
  simp only [Option.bind_some, cond_true, beq_self_eq_true, Bool.not_true, cond_false]
theorem leftInts_ok (fu : Nat) (l : List Int) (x : Option (List Int)) (hl : l.length ≤ 1048576) : P23 fu ⟨l, some [7777]⟩ ⟨l, x⟩ = some true := by
  unfold P23
  dsimp only
  have h := wl_fold (f := P23_s0 fu l l) (fun (s : Unit) (k : Nat) => (k : Int)) l.length (fun k => ()) (b := .inl (l.length : Int)) (fun k hk => left_step fu l k hk hl) (by
    unfold P23_s0
    dsimp only
    rw [lt_false]
    rfl)
  have e1 : (ln l == ln l) = true := by simp
  have e2 : decide (ln (l ++ [7777]) ≤ ln l) = false := by simp [ln]; omega
  have hc : w64 (ln l + 1) = ((l.length + 1 : Nat) : Int) := w64_succ (by omega)
  have e0 : decide ((0 : Int) ≤ 0) = true := rfl
  have e3 : decide ((0 : Int) ≤ ((l.length + 1 : Nat) : Int)) = true := decide_eq_true (by omega)
  have e4 : decide (((l.length + 1 : Nat) : Int) ≤ ln (l ++ [7777])) = true := decide_eq_true (by simp [ln])
  have e5 : idx (cut (l ++ [7777]) 0 ((l.length + 1 : Nat) : Int)) (ln l) = some 7777 := by
    have : cut (l ++ [7777]) 0 ((l.length + 1 : Nat) : Int) = l ++ [7777] := by simp [cut, List.take_of_length_le]
    rw [this, ln, idx_nat]
    simp
  have h : wl (P23_s0 fu l l) 0 = some (.inl (l.length : Int)) := h
  rw [h]
  simp only [e1, e2, hc, Bool.not_true, Bool.not_false, cond_true, cond_false, Option.bind_some]
  rw [show decide ((0 : Nat) ≤ 0) = true from rfl, e3, e4, e5]
  rfl
theorem P4_true (l : List Int) (h : Option (List Int)) (hl : l.length ≤ 9223372036854775807) : P4 0 ⟨l, h⟩ = some true := by
  unfold P4
  dsimp only
  rw [beyond_one 0 (ln l) (ln_ge l) (by simp [ln]; omega)]
  simp only [Option.bind_some]
  by_cases hb : 1048576 < ln l
  · simp [hb]
  · have hl2 : l.length ≤ 1048576 := by simp [ln] at hb; omega
    simp only [hb, decide_false, cond_false]
    rw [twinInts_ok 0 l h hl2]
    simp only [Option.bind_some, moves_ok 0 l (some [7777]) hl2, refMoves_ok 0 l h hl2, leftInts_ok 0 l h hl2]
    have e1 : (ln (mvs l).2 == ln (mvs l).2) = true := by simp
    simp only [e1, Bool.not_true, Bool.not_false, cond_true, cond_false]
    have hm := mvs_len l
    generalize (mvs l).2 = bs at hm
    have h := wl_fold (f := P4_s0 0 bs bs) (fun (s : List Bool) (k : Nat) => (s, (k : Int))) bs.length (fun k => (bs.take k).map (!·) ++ bs.drop k) (b := .inl (bs.map (!·), (bs.length : Int))) (fun k hk => by
      unfold P4_s0
      dsimp only
      have hlen : ((bs.take k).map (!·) ++ bs.drop k).length = bs.length := by simp; omega
      have hk2 : k < ((bs.take k).map (!·) ++ bs.drop k).length := by omega
      have hget : ((bs.take k).map (!·) ++ bs.drop k)[k] = bs[k] := by
        rw [List.getElem_append_right (by simp; omega)]
        simp
        congr 1
        omega
      have hset : ((bs.take k).map (!·) ++ bs.drop k).set k (!bs[k]) = (bs.take (k + 1)).map (!·) ++ bs.drop (k + 1) := by
        rw [take_snoc bs k hk, List.map_append, List.append_assoc, List.set_append_right _ _ (by simp; omega)]
        congr 1
        have : k - (List.map (fun x => !x) (List.take k bs)).length = 0 := by simp; omega
        rw [this, List.drop_eq_getElem_cons hk]
        rfl
      rw [lt_true hk2, idx_lt _ k hk2, idx_lt bs k hk, hget]
      simp only [cond_true, Option.bind_some, beq_self_eq_true, Bool.not_true, Bool.not_false, cond_false, w64_succ (by omega : k < 9223372036854775807), Int.toNat_natCast, hset]) (by
      unfold P4_s0
      dsimp only
      have : decide ((bs.length : Int) < ln ((bs.take bs.length).map (!·) ++ bs.drop bs.length)) = false := by simp [ln]
      rw [this]
      simp)
    have h0 : (bs.take 0).map (!·) ++ bs.drop 0 = bs := by simp
    rw [h0] at h
    rw [show (0 : Int) = ((0 : Nat) : Int) from rfl, h]
    rfl
theorem law4 (ls : List (List D)) (h : WTs tab [31] ls) : call S 4 (argsPV tab [31] ls) [] = some (.d (.bool true), []) := by
  obtain ⟨l1, _, rfl, h1, rfl⟩ := h
  obtain ⟨rows, hid, e1, e2, _, _⟩ := h1.slice_inv ty_31
  obtain ⟨⟨l, x⟩, rfl⟩ := wt_31 h1
  simp only [List.cons.injEq, D.sl.injEq, and_true] at e1
  obtain ⟨rfl, _⟩ := e1
  refine call_of (ok4 rfl rfl (P4_true l x ?_) ?_ [])
  · rw [maxLen_eq] at e2; simp at e2; omega
  · rfl
end Go.Proofs.Ytamllgdaepjcfaa
