/- tapestrylaw09.PlaceKeeps: what stays stands in its old order, what is placed is new or stood ahead of one that comes ahead: on plain data. -/
import Derived.Test.YtamllgdaepjcfaaPKL1
namespace Go.Proofs.Ytamllgdaepjcfaa
open Go Go.X
set_option linter.unusedVariables false
set_option linter.unusedSimpArgs false
set_option maxRecDepth 100000
theorem mvs_get (l : List Int) (k : Nat) (hk : k < l.length) (h : k < (mvs l).2.length) : (mvs l).2[k] = decide (l[k] < (mvs (l.take k)).1) := by
  have : ∀ (r a : List Int) (q : Int × List Bool), q.2.length = a.length → ∀ (k : Nat) (hk : k < q.2.length) (h : k < (r.foldl mv q).2.length), (r.foldl mv q).2[k] = q.2[k] := by
    intro r
    induction r with
    | nil => intro a q _ k hk h; rfl
    | cons n r ih =>
      intro a q hq k hk h
      simp only [List.foldl_cons]
      rw [ih (a ++ [n]) (mv q n) (by simp [mv, hq]) k (by simp [mv]; omega)]
      simp only [mv]
      rw [List.getElem_append_left]
  have e : mvs l = (l.drop (k + 1)).foldl mv (mv (mvs (l.take k)) l[k]) := by
    conv => lhs; rw [← List.take_append_drop (k + 1) l]
    simp only [mvs, List.foldl_append]
    congr 1
    rw [take_snoc' l k hk, List.foldl_append]
    rfl
  have hl : (mvs (l.take k)).2.length = k := by rw [mvs_len, List.length_take]; omega
  have h2 : k < ((l.drop (k + 1)).foldl mv (mv (mvs (l.take k)) l[k])).2.length := by rw [← e]; exact h
  have h3 := this (l.drop (k + 1)) (l.take (k + 1)) (mv (mvs (l.take k)) l[k]) (by simp [mv, hl]; omega) k (by simp [mv, hl]) h2
  have h4 : (mvs l).2[k] = ((l.drop (k + 1)).foldl mv (mv (mvs (l.take k)) l[k])).2[k] := by congr 2
  rw [h4, h3]
  simp [mv, hl]
/-- The last one that stayed is 0 or one of those ahead; none ahead is greater than it and stays. -/
theorem mvs_last (l : List Int) : 0 ≤ (mvs l).1 ∧ ((mvs l).1 = 0 ∨ (mvs l).1 ∈ l) := by
  have : ∀ (l : List Int) (q : Int × List Bool) (p : List Int), 0 ≤ q.1 → (q.1 = 0 ∨ q.1 ∈ p) → 0 ≤ (l.foldl mv q).1 ∧ ((l.foldl mv q).1 = 0 ∨ (l.foldl mv q).1 ∈ p ++ l) := by
    intro l
    induction l with
    | nil => intro q p h1 h2; simpa using ⟨h1, h2⟩
    | cons n l ih =>
      intro q p h1 h2
      simp only [List.foldl_cons]
      have := ih (mv q n) (p ++ [n]) (by simp only [mv]; split <;> omega) (by
        simp only [mv]
        split
        · rcases h2 with h2 | h2
          · exact .inl h2
          · exact .inr (by simp [h2])
        · exact .inr (by simp))
      simpa using this
  simpa [mvs] using this l (0, []) [] (by decide) (.inl rfl)
/-- Is there one ahead that is greater? -/
theorem found_ok (fu : Nat) (l : List Int) (i : Nat) (hi : i < l.length) (hl : l.length ≤ 1000) (f0 : Bool) :
    wl (P12_s1 fu l (i : Int)) (f0, 0) = some (f0 || (l.take i).any (fun x => decide (l[i] < x)), (i : Int)) := by
  have hn : (l.take i).length = i := by simp; omega
  have h := wl_each (f := P12_s1 fu l (i : Int)) (l.take i) (fun s x => s || decide (l[i] < x)) (fun s k => (s, (k : Int))) (fun k s => True) f0 trivial (fun k hk s _ => by
    refine ⟨?_, trivial⟩
    have k1 : k < i := by omega
    have k2 : k < l.length := by omega
    unfold P12_s1
    dsimp only
    have hd : decide ((k : Int) < (i : Int)) = true := decide_eq_true (by omega)
    rw [hd, idx_lt l k k2, idx_lt l i hi, w64_succ (by omega), List.getElem_take]
    cases s <;> simp) (b := (f0 || (l.take i).any (fun x => decide (l[i] < x)), (i : Int))) (fun s _ hs => by
    unfold P12_s1
    dsimp only
    have hd : decide (((l.take i).length : Int) < (i : Int)) = false := decide_eq_false (by omega)
    rw [hd, hs, hn]
    have : ∀ (q : List Int) (a : Bool), q.foldl (fun s x => s || decide (l[i] < x)) a = (a || q.any fun x => decide (l[i] < x)) := by
      intro q
      induction q with
      | nil => intro a; simp
      | cons n q ih => intro a; simp [ih, Bool.or_assoc]
    rw [this]
    rfl)
  exact h
theorem P12_true (fu : Nat) (l : List Int) (x : Option (List Int)) : P12 fu ⟨l, x⟩ = some true := by
  unfold P12
  dsimp only
  rw [alive_ok, Option.bind_some]
  by_cases hb : 1000 < ln l
  · simp [hb]
  · have hl : l.length ≤ 1000 := by simp [ln] at hb; omega
    simp only [hb, Bool.not_true, Bool.not_false, cond_true, decide_false, cond_false]
    rw [moves_ok fu l x (by omega), Option.bind_some]
    dsimp only
    have hm := mvs_len l
    obtain ⟨s, h1, h2⟩ := wl_rest (f := P12_s0 fu l (mvs l).2) l (fun (s : Int) k => (s, (k : Int))) (fun k s => (s = -1 ∧ (mvs (l.take k)).1 = 0) ∨ s = (mvs (l.take k)).1) (fun s => .inl (s, (l.length : Int))) (fun k hk s hI => by
      have hk2 : k < (mvs l).2.length := by omega
      have hd : decide ((k : Int) < ln (mvs l).2) = true := lt_true hk2
      have hge := (mvs_last (l.take k)).1
      have hlast := (mvs_last (l.take k)).2
      have hnext : (mvs (l.take (k + 1))).1 = if l[k] < (mvs (l.take k)).1 then (mvs (l.take k)).1 else l[k] := by rw [take_snoc' l k hk, mvs_snoc]; rfl
      unfold P12_s0
      dsimp only
      rw [hd, idx_lt _ k hk2, mvs_get l k hk hk2, idx_lt l k hk]
      simp only [Option.bind_some, cond_true]
      rw [w64_succ (by omega)]
      by_cases hp : l[k] < (mvs (l.take k)).1
      · have hf := found_ok fu l k hk hl (decide (l[k] < 0))
        have hany : (decide (l[k] < 0) || (l.take k).any (fun x => decide (l[k] < x))) = true := by
          rcases hlast with h0 | h0
          · have : l[k] < 0 := by omega
            simp [this]
          · have : (l.take k).any (fun x => decide (l[k] < x)) = true := List.any_eq_true.2 ⟨_, h0, by simpa using hp⟩
            simp [this]
        rw [hany] at hf
        refine ⟨s, ?_, ?_⟩
        · simp only [hp, decide_true, Bool.not_true, cond_false, hf, Option.bind_some]
        · rw [hnext, if_pos hp]; exact hI
      · refine ⟨l[k], ?_, .inr (by rw [hnext, if_neg hp])⟩
        have h3 : ¬ l[k] < s := by rcases hI with ⟨e, _⟩ | e <;> omega
        have h4 : ¬ l[k] < 0 := by omega
        simp only [hp, h3, h4, decide_false, Bool.not_false, cond_true, cond_false]) (fun s hI => by
      unfold P12_s0
      dsimp only
      have hd : decide ((l.length : Int) < ln (mvs l).2) = false := decide_eq_false (by simp [ln, hm])
      rw [hd]
      rfl) (-1) (.inl ⟨rfl, by simp [mvs]⟩)
    rw [show ((-1 : Int), (0 : Int)) = ((-1 : Int), ((0 : Nat) : Int)) from rfl, h1]
    simp [ln, hm]
theorem law12 (ls : List (List D)) (h : WTs tab [31] ls) : call S 12 (argsPV tab [31] ls) [] = some (.d (.bool true), []) := by
  obtain ⟨l1, _, rfl, h1, rfl⟩ := h
  obtain ⟨⟨l, x⟩, rfl⟩ := wt_31 h1
  exact call_of (ok12 (fu := 0) rfl rfl (P12_true 0 l x) rfl [])
end Go.Proofs.Ytamllgdaepjcfaa
