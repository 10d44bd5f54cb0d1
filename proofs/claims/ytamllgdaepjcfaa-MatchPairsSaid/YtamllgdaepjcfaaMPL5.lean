/- tapestrylaw08.MatchPairs: who matches is told both ways alike, and the other way round: on plain data. -/
import Derived.Test.YtamllgdaepjcfaaMPL4
namespace Go.Proofs.Ytamllgdaepjcfaa
open Go Go.X
set_option linter.unusedVariables false
set_option linter.unusedSimpArgs false
set_option maxRecDepth 100000
theorem unl_inner (fu : Nat) (l : List Child) (k : Nat) (a : Child) (ha : l[k]? = some a) (hl : l.length ≤ 1048576) :
    ∃ q, wl (P27_s1 fu l (k : Int)) 0 = some q ∧ ((∃ i, q = .inl i) → ∀ (t : Nat) (b : Child), t < k → l[t]? = some b → a.Key ≠ b.Key) := by
  have hk := lt_of_get ha
  obtain ⟨q, h1, h2⟩ := wl_rule (f := P27_s1 fu l (k : Int)) (fun i => ∃ t : Nat, i = (t : Int) ∧ t ≤ k ∧ ∀ (t' : Nat) (b : Child), t' < t → l[t']? = some b → a.Key ≠ b.Key) (fun i => k - i.toNat) (fun q => (∃ i, q = .inl i) → ∀ (t : Nat) (b : Child), t < k → l[t]? = some b → a.Key ≠ b.Key) (by
    rintro i ⟨t, rfl, ht, hI⟩
    unfold P27_s1
    dsimp only
    by_cases hd : t < k
    · have d1 : decide ((t : Int) < (k : Int)) = true := decide_eq_true (by omega)
      have hb := List.getElem?_eq_getElem (show t < l.length by omega)
      generalize l[t] = b at hb
      rw [d1, idx_nat, idx_nat, ha, hb, w64_succ (by omega)]
      simp only [cond_true, Option.bind_some]
      obtain ⟨ak, ad, an, ⟨a1, a2, a3, ⟨a4, a5⟩, ⟨a6, a7⟩, a8, a9, a10⟩⟩ := a
      obtain ⟨bk, bd, bn, ⟨b1, b2, b3, ⟨b4, b5⟩, ⟨b6, b7⟩, b8, b9, b10⟩⟩ := b
      dsimp only at hI ⊢
      cases hs : seq ak bk with
      | true => exact .inr ⟨_, rfl, fun ⟨i, e⟩ => nomatch e⟩
      | false =>
        left
        refine ⟨_, rfl, ⟨t + 1, rfl, hd, fun t' b ht' hb' => ?_⟩, by omega⟩
        by_cases e : t' = t
        · subst e
          rw [hb] at hb'
          cases hb'
          intro e
          dsimp only at e
          rw [e, seq_self] at hs
          cases hs
        · exact hI t' b (by omega) hb'
    · have : t = k := by omega
      subst this
      right
      have d1 : decide ((t : Int) < (t : Int)) = false := decide_eq_false (by omega)
      rw [d1]
      exact ⟨_, rfl, fun _ => hI⟩) k 0 (by omega) ⟨0, rfl, by omega, fun t' b h => by omega⟩
  exact ⟨q, h1, h2⟩
theorem P27_ok (fu : Nat) (l : List Child) (x : Option (List Child)) (hl : l.length ≤ 1048576) : ∃ r, P27 fu ⟨l, x⟩ = some r ∧ (r = true → Unl l) := by
  obtain ⟨q, h1, h2⟩ := wl_rule (f := P27_s0 fu l) (fun i => ∃ k : Nat, i = (k : Int) ∧ k ≤ l.length ∧ ∀ (t t' : Nat) (a b : Child), t' < t → t < k → l[t]? = some a → l[t']? = some b → a.Key ≠ b.Key) (fun i => l.length - i.toNat) (fun q => (∃ i, q = .inl i) → Unl l) (by
    rintro i ⟨k, rfl, hk, hI⟩
    unfold P27_s0
    dsimp only
    by_cases hd : k < l.length
    · have ha := List.getElem?_eq_getElem hd
      obtain ⟨q, e1, e2⟩ := unl_inner fu l k _ ha hl
      rw [lt_true hd, cond_true, e1, Option.bind_some, w64_succ (by omega)]
      cases q with
      | inr i => exact .inr ⟨_, rfl, fun ⟨i, e⟩ => nomatch e⟩
      | inl i =>
        left
        refine ⟨_, rfl, ⟨k + 1, rfl, hd, fun t t' a b h1 h2 h3 h4 => ?_⟩, by omega⟩
        by_cases e : t = k
        · subst e
          rw [ha] at h3
          cases h3
          exact e2 ⟨i, rfl⟩ t' b h1 h4
        · exact hI t t' a b h1 (by omega) h3 h4
    · have : k = l.length := by omega
      subst this
      right
      rw [lt_false]
      refine ⟨_, rfl, fun _ => fun i j a b h1 h2 h3 => ?_⟩
      rcases Nat.lt_trichotomy i j with h | h | h
      · exact absurd h3.symm (hI j i b a h (lt_of_get h2) h2 h1)
      · exact h
      · exact absurd h3 (hI i j a b h (lt_of_get h1) h1 h2)) l.length 0 (by omega) ⟨0, rfl, by omega, fun t t' a b h1 h2 => by omega⟩
  unfold P27
  dsimp only
  rw [h1, Option.bind_some]
  cases q with
  | inl i => exact ⟨true, rfl, fun _ => h2 ⟨i, rfl⟩⟩
  | inr i => exact ⟨false, rfl, fun e => nomatch e⟩
theorem rev_ok (fu : Nat) (l : List Child) (hl : l.length ≤ 500) : wl (P6_s0 fu l) (([] : List Child), w64 (ln l - 1)) = some (l.reverse, -1) := by
  rw [w64_id (by simp [ln]; omega) (by simp [ln]; omega)]
  have h := wl_fold (f := P6_s0 fu l) (fun (s : List Child) (k : Nat) => (s, (l.length : Int) - 1 - (k : Int))) l.length (fun k => l.reverse.take k) (b := (l.reverse, -1)) (fun k hk => by
    have hj : l.length - 1 - k < l.length := by omega
    have hc := List.getElem?_eq_getElem hj
    have hkr : k < l.reverse.length := by simp; omega
    have e1 : l.reverse.take (k + 1) = l.reverse.take k ++ [l[l.length - 1 - k]] := by
      rw [List.take_add_one, List.getElem?_eq_getElem hkr, List.getElem_reverse]; rfl
    rw [e1]
    generalize l[l.length - 1 - k] = c at hc
    have hlen : ln (l.reverse.take k ++ [c]) = ((k + 1 : Nat) : Int) := by simp [ln]; omega
    generalize l.reverse.take k = s at hlen
    have e2 : (l.length : Int) - 1 - (k : Int) = ((l.length - 1 - k : Nat) : Int) := by omega
    have d1 : decide ((0 : Int) ≤ ((l.length - 1 - k : Nat) : Int)) = true := decide_eq_true (by omega)
    have d2 : room 152 ((k + 1 : Nat) : Int) = true := room_ok (by omega)
    have d3 : w64 (((l.length - 1 - k : Nat) : Int) - 1) = (l.length : Int) - 1 - ((k + 1 : Nat) : Int) := by rw [w64_id (by omega) (by omega)]; omega
    rw [e2]
    unfold P6_s0
    dsimp only
    rw [d1, idx_nat, hc, cond_true, Option.bind_some]
    obtain ⟨ck, cd, cn, ⟨c1, c2, c3, ⟨c4, c5⟩, ⟨c6, c7⟩, c8, c9, c10⟩⟩ := c
    dsimp only
    rw [hlen, d2, cond_true, d3]) (by
    have : (l.length : Int) - 1 - (l.length : Int) = -1 := by omega
    rw [this, List.take_of_length_le (by simp)]
    rfl)
  rw [show ln l - 1 = (l.length : Int) - 1 - ((0 : Nat) : Int) by simp [ln]]
  exact h
theorem walk_ok (fu : Nat) (old : List Child) (r b m : List Int) (hl : r.length ≤ 500) (ho : old.length ≤ 500) (hm : m.length = r.length)
    (h1 : ∀ (t : Nat) v, r[t]? = some v → v = -1 ∨ ∃ j : Nat, v = (j : Int)) (h2 : ∀ t j : Nat, r[t]? = some (j : Int) → j < old.length ∧ b[j]? = some (t : Int) ∧ m[t]? = some ((old.length - 1 - j : Nat) : Int))
    (h3 : ∀ t : Nat, r[t]? = some (-1) → m[t]? = some (-1)) : ∃ i, wl (P6_s1 fu old r b m) (0, 0) = some (.inl (((hits r r.length).length : Int), i)) := by
  have h := wl_fold (f := P6_s1 fu old r b m) (fun (s : Int) (k : Nat) => (s, (k : Int))) r.length (fun k => ((hits r k).length : Int)) (b := .inl (((hits r r.length).length : Int), (r.length : Int))) (fun k hk => by
    have hx := List.getElem?_eq_getElem hk
    generalize r[k] = x at hx
    have hle := hits_le r k
    have d0 : w64 ((k : Int) + 1) = ((k + 1 : Nat) : Int) := w64_succ (by omega)
    unfold P6_s1
    dsimp only
    rw [lt_true hk, d0]
    rcases h1 k x hx with e | ⟨j, e⟩
    · subst e
      have hh : hits r (k + 1) = hits r k := by
        have : hit r k = false := by simp [hit, hx]
        simp [hits, this]
      rw [hh]
      simp only [idx_nat, hx, h3 k hx, Option.bind_some, cond_true]
      rfl
    · subst e
      obtain ⟨a1, a2, a3⟩ := h2 k j hx
      have hh : hits r (k + 1) = k :: hits r k := by
        have : hit r k = true := by simp [hit, hx]
        simp [hits, this]
      rw [hh]
      have d1 : decide ((j : Int) < 0) = false := decide_eq_false (by omega)
      have d2 : decide (((old.length - 1 - j : Nat) : Int) < 0) = false := decide_eq_false (by omega)
      have d3 : decide ((0 : Int) ≤ (j : Int)) = true := decide_eq_true (by omega)
      have d4 : w64 (w64 (ln old - 1) - (j : Int)) = ((old.length - 1 - j : Nat) : Int) := by
        rw [w64_id (n := ln old - 1) (by simp [ln]; omega) (by simp [ln]; omega), ln_eq, w64_id (by omega) (by omega)]
        omega
      have d5 : w64 (((hits r k).length : Int) + 1) = (((k :: hits r k).length : Nat) : Int) := by
        rw [w64_succ (by omega)]; rfl
      simp only [idx_nat, hx, a2, a3, Option.bind_some, cond_true, d1, d2, d3, d4, d5, beq_self_eq_true, Bool.not_true, Bool.not_false, cond_false]) (by
    unfold P6_s1
    dsimp only
    rw [lt_false]
    rfl)
  exact ⟨_, h⟩
theorem count_ok (fu : Nat) (b : List Int) (hl : b.length ≤ 500) (n : Int) (hn : n = ((hits b b.length).length : Int)) : ∃ i, wl (P6_s2 fu b) (n, 0) = some (0, i) := by
  have hle := hits_le b b.length
  have h := wl_fold (f := P6_s2 fu b) (fun (s : Int) (k : Nat) => (s, (k : Int))) b.length (fun k => n - ((hits b k).length : Int)) (b := (0, (b.length : Int))) (fun k hk => by
    have hx := List.getElem?_eq_getElem hk
    generalize b[k] = x at hx
    have hle2 := hits_le b k
    have d0 : w64 ((k : Int) + 1) = ((k + 1 : Nat) : Int) := w64_succ (by omega)
    unfold P6_s2
    dsimp only
    rw [lt_true hk, d0]
    simp only [idx_nat, hx, Option.bind_some, cond_true]
    have hh : hit b k = decide (0 ≤ x) := by simp [hit, hx]
    cases hd : decide (0 ≤ x) with
    | true =>
      rw [hd] at hh
      have e : hits b (k + 1) = k :: hits b k := by simp [hits, hh]
      have e2 : w64 (n - ((hits b k).length : Int) - 1) = n - ((hits b (k + 1)).length : Int) := by
        rw [e, w64_id (by omega) (by omega)]
        simp only [List.length_cons]
        omega
      rw [e2]
      rfl
    | false =>
      rw [hd] at hh
      have e : hits b (k + 1) = hits b k := by simp [hits, hh]
      rw [e]
      rfl) (by
    unfold P6_s2
    dsimp only
    rw [lt_false, hn]
    simp)
  have e0 : n - ((hits b 0).length : Int) = n := by simp [hits]
  rw [e0] at h
  exact ⟨_, h⟩
theorem P6_true (a b : Sl Child) (ha : ∀ c ∈ a.l, OKC c) (hb : ∀ c ∈ b.l, OKC c) : ∃ fu, P6 fu a b = some true := by
  obtain ⟨a, x⟩ := a
  obtain ⟨b, y⟩ := b
  dsimp only at ha hb
  refine ⟨4 * (SizeOf.sizeOf a + SizeOf.sizeOf b), ?_⟩
  generalize hfu : 4 * (SizeOf.sizeOf a + SizeOf.sizeOf b) = fu
  obtain ⟨r, h1, h2⟩ := P25_def fu a b x y ha hb (by omega) (by omega)
  unfold P6
  dsimp only
  rw [alive_true]
  simp only [Option.bind_some, Bool.not_true, Bool.not_false, cond_true, h1]
  cases r with
  | true => rfl
  | false =>
    obtain ⟨l1, l2⟩ := h2 rfl
    obtain ⟨r1, e1, u1⟩ := P27_ok fu a x (by omega)
    obtain ⟨r2, e2, u2⟩ := P27_ok fu b y (by omega)
    simp only [Bool.not_false, cond_true, e1, Option.bind_some]
    cases r1 with
    | false => rfl
    | true =>
      simp only [Bool.not_true, Bool.not_false, cond_true, e2, Option.bind_some]
      cases r2 with
      | false => rfl
      | true =>
        have u1 := u1 rfl
        have u2 := u2 rfl
        obtain ⟨r, p1, q1, s1, t1⟩ := match_exact fu a b x y (by omega) (by omega) u1 u2
        obtain ⟨k, p2, q2, s2, t2⟩ := match_exact fu b a y x (by omega) (by omega) u2 u1
        obtain ⟨m, p3, q3, s3, t3⟩ := match_exact fu a.reverse b none y (by simp; omega) (by omega) (unl_rev u1) u2
        have e3 := rev_ok fu a l1
        have hrk : ∀ t j : Nat, r[t]? = some (j : Int) → k[j]? = some (t : Int) := fun t j h => (t2 j t).2 (pair_comm.1 ((t1 t j).1 h))
        have hkr : ∀ t j : Nat, k[t]? = some (j : Int) → r[j]? = some (t : Int) := fun t j h => (t1 j t).2 (pair_comm.1 ((t2 t j).1 h))
        have n1 := hits_back s1 hrk
        have n2 := hits_back s2 hkr
        obtain ⟨i1, e4⟩ := walk_ok fu a r k m (by omega) l1 (by omega) s1 (fun t j h => by
          have hp := (t1 t j).1 h
          have hj : j < a.length := by
            obtain ⟨o, c, h, _⟩ := hp
            exact lt_of_get h
          refine ⟨hj, hrk t j h, (t3 t _).2 (pair_rev.2 ⟨by omega, ?_⟩)⟩
          have : a.length - 1 - (a.length - 1 - j) = j := by omega
          rw [this]
          exact hp) (fun t h => by
          have ht := lt_of_get h
          have hx := List.getElem?_eq_getElem (show t < m.length by omega)
          generalize m[t] = v at hx
          rcases s3 t v hx with e | ⟨j, e⟩
          · rw [hx, e]
          · subst e
            have := (t1 t _).2 (pair_rev.1 ((t3 t j).1 hx)).2
            rw [h] at this
            cases this)
        obtain ⟨i2, e5⟩ := count_ok fu k (by omega) ((hits r r.length).length : Int) (by omega)
        have d1 : (ln k == ln a) = true := by simp [ln, q2]
        have d2 : (ln m == ln r) = true := by simp [ln, q3, q1]
        simp only [Bool.not_true, Bool.not_false, cond_true, cond_false, p1, p2, p3, e3, d1, d2, e4, e5, Option.bind_some]
        rfl
theorem law6 (ls : List (List D)) (h : WTs tab [38, 38] ls) : call S 6 (argsPV tab [38, 38] ls) [] = some (.d (.bool true), []) := by
  obtain ⟨l1, _, rfl, h1, l2, _, rfl, h2, rfl⟩ := h
  obtain ⟨a, rfl⟩ := wt_38 h1
  obtain ⟨b, rfl⟩ := wt_38 h2
  obtain ⟨fu, hp⟩ := P6_true a b (ok_children h1) (ok_children h2)
  exact call_of (ok6 rfl rfl hp rfl [])
end Go.Proofs.Ytamllgdaepjcfaa
