/- tapestrylaw17.TaleBeginnings: on plain data. -/
import Derived.Test.YtamllgdaepjcfaaTBL1
import Derived.Test.YtamllgdaepjcfaaTBO2
import Derived.Test.YtamllgdaepjcfaaTBV
namespace Go.Proofs.Ytamllgdaepjcfaa
open Go Go.X
set_option linter.unusedVariables false
set_option linter.unusedSimpArgs false
set_option maxRecDepth 100000
theorem call_of {f : Nat} {args : List PV} {st : St} {r : PV × St} (h : Sat ((real (call S)).cf f args st) (fun q => q = r)) : call S f args st = some r := by
  obtain ⟨_, h1, rfl⟩ := h; exact h1
theorem cut_take (l : List Note) (k : Nat) : cut l 0 (k : Int) = l.take k := by simp [cut]
theorem cut_take2 (l h : List Note) (k : Nat) (hk : k ≤ l.length) : cut (l ++ h) 0 (k : Int) = l.take k := by
  simp [cut, List.take_append_of_le_length hk]
/-- What a beginning comes to, against the whole. -/
theorem chk_take (l : List Note) (k : Nat) (hk : k ≤ l.length) : chk (l.take k) = if (k : Int) ≤ (chk l).1 then ((k : Int), 0) else ((chk l).1, 1) := by
  unfold chk
  rw [bad_take l [] k]
  cases h : bad [] l with
  | none =>
    have : (k : Int) ≤ ln l := by simp [ln]; omega
    dsimp only
    rw [if_pos this, ln_eq]
    simp
    omega
  | some j =>
    by_cases hjk : j < k
    · have : ¬ ((k : Int) ≤ (j : Int)) := by omega
      simp [hjk, this]
    · have : (k : Int) ≤ (j : Int) := by omega
      simp [hjk, this, ln]
      omega
theorem s0_step (fu : Nat) (l : List Note) (hl : l.length ≤ 300) (k : Nat) (hk : k ≤ l.length) : P13_s0 fu l (chk l).1 (k : Int) = some (.inl ((k + 1 : Nat) : Int)) := by
  unfold P13_s0
  dsimp only
  have d1 : decide ((k : Int) ≤ ln l) = true := decide_eq_true (by simp [ln]; omega)
  have d2 : decide ((0 : Int) ≤ (k : Int)) = true := decide_eq_true (by omega)
  rw [d1, d2, cut_take, check_ok fu (l.take k) _ (by simp; omega), chk_take l k hk, w64_succ (by omega)]
  by_cases h : (k : Int) ≤ (chk l).1
  · have h2 : ¬ (chk l).1 < (k : Int) := by omega
    simp [h, h2]
  · have h2 : (chk l).1 < (k : Int) := by omega
    simp [h, h2]
theorem s1_step (fu : Nat) (l hd : List Note) (hl : l.length ≤ 300) (k : Nat) (hk : k ≤ l.length) : P13_s1 fu l hd (chk l).1 (k : Int) = some (.inl ((k + 1 : Nat) : Int)) := by
  unfold P13_s1
  dsimp only
  have d1 : decide ((k : Int) ≤ ln l) = true := decide_eq_true (by simp [ln]; omega)
  have d2 : decide ((0 : Int) ≤ (k : Int)) = true := decide_eq_true (by omega)
  have d3 : decide ((k : Int) ≤ ln (l ++ hd)) = true := decide_eq_true (by simp [ln]; omega)
  rw [d1, d2, d3, cut_take2 l hd k hk, check_ok fu (l.take k) _ (by simp; omega), chk_take l k hk, w64_succ (by omega)]
  by_cases h : (k : Int) ≤ (chk l).1
  · have h2 : ¬ (chk l).1 < (k : Int) := by omega
    simp [h, h2]
  · have h2 : (chk l).1 < (k : Int) := by omega
    simp [h, h2]
theorem upto {β : Type} {f : Int → Option (Int ⊕ β)} (n : Nat) (h : ∀ k, k ≤ n → f (k : Int) = some (.inl ((k + 1 : Nat) : Int))) {b : β} (hend : f ((n + 1 : Nat) : Int) = some (.inr b)) : wl f 0 = some b := by
  have := wl_fold (f := f) (fun (s : Unit) (k : Nat) => (k : Int)) (n + 1) (fun _ => ()) (b := b) (fun k hk => h k (by omega)) hend
  exact this
theorem P13_true (fu : Nat) (l : List Note) (x : Option (List Note)) : P13 fu ⟨l, x⟩ = some true := by
  have hc := chk_fst l
  have hb : (bif !(decide ((chk l).1 < 0)) then (bif !(decide ((ln l) < (chk l).1)) then (bif !(!(((chk l).2 == 0) == ((chk l).1 == (ln l)))) then (bif !((chk l).2 == 0) then some (!((chk l).2 == 1)) else some false) else some true) else some true) else some true) = some false := by
    obtain ⟨h1, h2, h3, h4⟩ := hc
    have e1 : ¬ (chk l).1 < 0 := by omega
    have e3 : ¬ ln l < 0 := by have := ln_ge l; omega
    have e2 : ¬ ln l < (chk l).1 := by omega
    by_cases h0 : (chk l).2 = 0
    · simp [e1, e2, e3, h0, h4.1 h0]
    · have h5 : (chk l).2 = 1 := by omega
      have h6 : ¬ (chk l).1 = ln l := fun e => h0 (h4.2 e)
      have h7 : ((chk l).1 == ln l) = false := by simp [h6]
      simp [e1, e2, h5, h7]
  unfold P13
  cases x with
  | none =>
    dsimp only
    rw [alive_ok]
    simp only [Option.bind_some, Bool.not_true, Bool.not_false, cond_true]
    by_cases hl : 300 < ln l
    · simp [hl]
    · have hl2 : l.length ≤ 300 := by simp [ln] at hl; omega
      simp only [hl, decide_false, cond_false]
      rw [check_ok fu l none (by omega), Option.bind_some]
      rw [hb, Option.bind_some]
      rw [upto (f := P13_s0 fu l (chk l).1) l.length (fun k hk => s0_step fu l hl2 k hk) (b := .inl ((l.length + 1 : Nat) : Int)) (by
        unfold P13_s0
        dsimp only
        have : decide (((l.length + 1 : Nat) : Int) ≤ ln l) = false := decide_eq_false (by simp [ln]; omega)
        rw [this]
        rfl)]
      rfl
  | some hd =>
    dsimp only
    rw [alive_ok]
    simp only [Option.bind_some, Bool.not_true, Bool.not_false, cond_true]
    by_cases hl : 300 < ln l
    · simp [hl]
    · have hl2 : l.length ≤ 300 := by simp [ln] at hl; omega
      simp only [hl, decide_false, cond_false]
      rw [check_ok fu l (some hd) (by omega), Option.bind_some]
      rw [hb, Option.bind_some]
      rw [upto (f := P13_s1 fu l hd (chk l).1) l.length (fun k hk => s1_step fu l hd hl2 k hk) (b := .inl ((l.length + 1 : Nat) : Int)) (by
        unfold P13_s1
        dsimp only
        have : decide (((l.length + 1 : Nat) : Int) ≤ ln l) = false := decide_eq_false (by simp [ln]; omega)
        rw [this]
        rfl)]
      rfl
theorem law13 (ls : List (List D)) (h : WTs tab [45] ls) : call S 13 (argsPV tab [45] ls) [] = some (.d (.bool true), []) := by
  obtain ⟨l1, _, rfl, h1, rfl⟩ := h
  obtain ⟨⟨l, x⟩, rfl⟩ := wt_45 h1
  exact call_of (ok13 (fu := 0) rfl rfl (P13_true 0 l x) rfl [])
end Go.Proofs.Ytamllgdaepjcfaa
