/- tapestrylaw17.TaleLives: what is so of each instance in a trace that can be: on plain data. -/
import Derived.Test.YtamllgdaepjcfaaTVL3
import Derived.Test.YtamllgdaepjcfaaTVL2
import Derived.Test.YtamllgdaepjcfaaTVO2
import Derived.Test.YtamllgdaepjcfaaTVV
namespace Go.Proofs.Ytamllgdaepjcfaa
open Go Go.X
set_option linter.unusedVariables false
set_option linter.unusedSimpArgs false
set_option maxRecDepth 100000
theorem call_of {f : Nat} {args : List PV} {st : St} {r : PV × St} (h : Sat ((real (call S)).cf f args st) (fun q => q = r)) : call S f args st = some r := by
  obtain ⟨_, h1, rfl⟩ := h; exact h1
theorem ofI_len (l : List Note) (id : Int) : (ofI l id).length ≤ l.length := List.length_filter_le _ _
theorem left_stops {h : List Note} {y : Note} (I : Inv h) (h4 : 0 < cntK h 4) (hc : can h y = true) : ¬ (1 ≤ y.Kind ∧ y.Kind ≤ 6) := by
  have hle := I.le
  rw [decide_eq_true h4] at hle
  unfold can at hc
  revert hc hle
  generalize stS h = s
  obtain ⟨⟨sev, smo, sle⟩, rs⟩ := s
  intro hc hle
  dsimp only at hle
  subst hle
  rintro ⟨k1, k2⟩
  unfold G at hc
  dsimp only at hc
  by_cases h1 : y.Kind = 1
  · simp [h1] at hc
  rw [if_neg h1] at hc
  by_cases h2 : y.Kind = 2
  · simp [h2] at hc
  rw [if_neg h2] at hc
  by_cases h4 : y.Kind = 4
  · simp [h4] at hc
  rw [if_neg h4] at hc
  by_cases h5 : y.Kind = 5
  · rw [if_pos h5] at hc
    split at hc
    · cases hc
    · simp at hc
  rw [if_neg h5] at hc
  by_cases h3 : y.Kind = 3
  · simp [h3] at hc
  rw [if_neg h3] at hc
  by_cases h6 : y.Kind = 6
  · simp [h6] at hc
  omega
theorem after_left {h : List Note} (hv : valid h) (k : Nat) (hk : k < h.length) (h4 : h[k].Kind = 4) : ∀ y ∈ h.drop (k + 1), ¬ (1 ≤ y.Kind ∧ y.Kind ≤ 6) := by
  intro y hy
  obtain ⟨b1, b2, hb⟩ := List.append_of_mem hy
  have e : h = (h.take k ++ h[k] :: b1) ++ y :: b2 := by
    conv => lhs; rw [← List.take_append_drop k h, List.drop_eq_getElem_cons hk, hb]
    simp
  have hc := hv _ _ _ e
  have hv2 : valid (h.take k ++ h[k] :: b1) := by
    rw [e] at hv
    exact hv.take
  refine left_stops hv2.inv ?_ hc
  have : h[k] ∈ (h.take k ++ h[k] :: b1).filter (fun y => y.Kind == 4) := by
    rw [List.mem_filter]
    exact ⟨by simp, by simp [h4]⟩
  exact List.length_pos_of_mem this
theorem inner_ok (fu : Nat) {h : List Note} (hv : valid h) (hl : h.length ≤ 300) (k : Nat) (hk : k < h.length) (h4 : h[k].Kind = 4) : ∃ o, wl (P15_s2 fu h) ((k + 1 : Nat) : Int) = some (.inl o) := by
  have hs := wl_searchFrom (f := P15_s2 fu h) h (fun y => decide (1 ≤ y.Kind) && decide (y.Kind ≤ 6)) (fun k => (k : Int)) (fun k => .inr (k : Int)) (.inl (h.length : Int)) (fun j hj => by
    unfold P15_s2
    dsimp only
    rw [lt_true hj, idx_lt h j hj, w64_succ (by omega)]
    generalize h[j] = y
    obtain ⟨a, b, c, d, e⟩ := y
    simp only [Option.bind_some, cond_true]
    cases decide (1 ≤ a) <;> simp
    cases decide (a ≤ 6) <;> rfl) (by
    unfold P15_s2
    dsimp only
    rw [lt_false]
    rfl) (k + 1) (by omega)
  have hnone : (h.drop (k + 1)).findIdx? (fun y => decide (1 ≤ y.Kind) && decide (y.Kind ≤ 6)) = none := by
    rw [List.findIdx?_eq_none_iff]
    intro y hy
    have := after_left hv k hk h4 y hy
    by_cases q1 : 1 ≤ y.Kind
    · have : ¬ y.Kind ≤ 6 := fun q2 => this ⟨q1, q2⟩
      simp [this]
    · simp [q1]
  rw [hnone] at hs
  exact ⟨_, hs⟩
theorem s1_ok (fu : Nat) {h : List Note} (hv : valid h) (hl : h.length ≤ 300) : ∃ o, wl (P15_s1 fu h) 0 = some (.inl o) := by
  have := wl_fold (f := P15_s1 fu h) (fun (s : Unit) (k : Nat) => (k : Int)) h.length (fun _ => ()) (b := .inl (h.length : Int)) (fun k hk => by
    have hin := inner_ok fu hv hl k hk
    unfold P15_s1
    dsimp only
    rw [lt_true hk, idx_lt h k hk, w64_succ (by omega)]
    revert hin
    generalize h[k] = y
    obtain ⟨a, b, c, d, e⟩ := y
    dsimp only
    intro hin
    simp only [Option.bind_some, cond_true]
    by_cases h4 : a = 4
    · obtain ⟨o, ho⟩ := hin h4
      have : (a == 4) = true := by simp [h4]
      simp only [this, Bool.not_true, cond_false, ho, Option.bind_some]
    · have : (a == 4) = false := by simp [h4]
      simp only [this, Bool.not_false, cond_true]) (by
    unfold P15_s1
    dsimp only
    rw [lt_false]
    rfl)
  exact ⟨_, this⟩
theorem step15 (fu : Nat) (l : List Note) (x : Option (List Note)) (hl : l.length ≤ 300) (hc : (chk l).2 = 0) (k : Nat) (hk : k < l.length) : P15_s0 fu l x (chk l).2 (k : Int) = some (.inl ((k + 1 : Nat) : Int)) := by
  have hbad : bad [] l = none := by
    unfold chk at hc
    cases hb : bad [] l with
    | none => rfl
    | some j => rw [hb] at hc; cases hc
  have hval := (bad_iff l).1 hbad
  unfold P15_s0
  dsimp only
  rw [lt_true hk, idx_lt l k hk, w64_succ (by omega), hc]
  generalize l[k] = y
  obtain ⟨a, b, c, d, e⟩ := y
  simp only [Option.bind_some, cond_true, beq_self_eq_true]
  rw [of_ok fu l x b (by omega)]
  simp only [Option.bind_some]
  have hh := hval b
  have hlen := ofI_len l b
  generalize ofI l b = h at hh hlen
  have I := hh.inv
  obtain ⟨o, ho⟩ := s1_ok fu hh (by omega)
  have d1 := count_ok fu h none 4 (by omega)
  have d2 := count_ok fu h none 2 (by omega)
  have d3 := count_ok fu h none 1 (by omega)
  have d5 := count_ok fu h none 5 (by omega)
  have d6 := count_ok fu h none 6 (by omega)
  rw [d1, d2, d3, d5, d6, ho]
  obtain ⟨ev, mo, le, c2, c4, c42, c21, run, lz, nd, on⟩ := I
  have l5 := cntK_le h 5
  simp only [Option.bind_some]
  have b1 : decide ((1 : Int) < (cntK h 2 : Int)) = false := decide_eq_false (by omega)
  have b2 : decide ((1 : Int) < (cntK h 4 : Int)) = false := decide_eq_false (by omega)
  have b3 : decide ((cntK h 2 : Int) < (cntK h 4 : Int)) = false := decide_eq_false (by omega)
  have b4 : w64 ((cntK h 5 : Int) - (cntK h 6 : Int)) = ((stS h).2.length : Int) := by rw [w64_id (by omega) (by omega)]; omega
  have b5 : decide (((stS h).2.length : Int) < 0) = false := decide_eq_false (by omega)
  rw [b1, b2, b3, b4, b5]
  simp only [Bool.not_false, cond_true]
  have b6 : (bif decide ((0 : Int) < (cntK h 2 : Int)) then some ((cntK h 1 : Int) == 0) else some false) = some false := by
    by_cases q : 0 < cntK h 2
    · have := c21 q
      have e1 : ((cntK h 1 : Int) == 0) = false := by simp; omega
      rw [e1]; cases decide ((0 : Int) < (cntK h 2 : Int)) <;> rfl
    · have : decide ((0 : Int) < (cntK h 2 : Int)) = false := decide_eq_false (by omega)
      rw [this]; rfl
  have b7 : (bif (cntK h 4 : Int) == 1 then some (!(((stS h).2.length : Int) == 0)) else some false) = some false := by
    by_cases q : 0 < cntK h 4
    · have := lz q
      have e1 : (((stS h).2.length : Int) == 0) = true := by simp; exact List.eq_nil_of_length_eq_zero this
      rw [e1]; cases ((cntK h 4 : Int) == 1) <;> rfl
    · have : ((cntK h 4 : Int) == 1) = false := by simp; omega
      rw [this]; rfl
  rw [b6, b7]
  rfl
theorem P15_true (fu : Nat) (l : List Note) (x : Option (List Note)) : P15 fu ⟨l, x⟩ = some true := by
  unfold P15
  dsimp only
  rw [alive_ok]
  simp only [Option.bind_some, Bool.not_true, Bool.not_false, cond_true]
  by_cases hl : 300 < ln l
  · simp [hl]
  · have hl2 : l.length ≤ 300 := by simp [ln] at hl; omega
    simp only [hl, decide_false, cond_false]
    rw [check_ok fu l x (by omega), Option.bind_some]
    have : ∃ o, wl (P15_s0 fu l x (chk l).2) 0 = some (.inl o) := by
      by_cases hc : (chk l).2 = 0
      · have := wl_fold (f := P15_s0 fu l x (chk l).2) (fun (s : Unit) (k : Nat) => (k : Int)) l.length (fun _ => ()) (b := .inl (l.length : Int)) (fun k hk => step15 fu l x hl2 hc k hk) (by
          unfold P15_s0
          dsimp only
          rw [lt_false]
          rfl)
        exact ⟨_, this⟩
      · refine ⟨0, wl_inr ?_⟩
        unfold P15_s0
        have e1 : ((chk l).2 == 0) = false := by simp [hc]
        dsimp only
        rw [e1]
        cases decide ((0 : Int) < ln l) <;> rfl
    obtain ⟨o, ho⟩ := this
    rw [ho]
    rfl
theorem law15 (ls : List (List D)) (h : WTs tab [45] ls) : call S 15 (argsPV tab [45] ls) [] = some (.d (.bool true), []) := by
  obtain ⟨l1, _, rfl, h1, rfl⟩ := h
  obtain ⟨⟨l, x⟩, rfl⟩ := wt_45 h1
  exact call_of (ok15 (fu := 0) rfl rfl (P15_true 0 l x) rfl [])
end Go.Proofs.Ytamllgdaepjcfaa
