/- tapestrylaw09.PlaceMakes: the told insertions, done one behind the other, make exactly the new row of the old one: on plain data. -/
import Derived.Test.YtamllgdaepjcfaaPBL2
namespace Go.Proofs.Ytamllgdaepjcfaa
open Go Go.X
set_option linter.unusedVariables false
set_option linter.unusedSimpArgs false
set_option maxRecDepth 100000
/-- One insertion. -/
def insF (n b x : Int) : List Int := (if x = b then [n] else []) ++ (if x = n then [] else [x])
def stepL (l : List Int) (n b : Int) : List Int := l.flatMap (insF n b) ++ (if b = 0 then [n] else [])
theorem insF_len (n b x : Int) : (insF n b x).length ≤ 2 := by unfold insF; split <;> split <;> simp
theorem step_ok (fu : Nat) (l : List Int) (x : Option (List Int)) (n b : Int) (hl : l.length ≤ 1000) : P43 fu ⟨l, x⟩ ⟨n, b⟩ = some (⟨stepL l n b, none⟩, (b == 0) || l.any (· == b)) := by
  unfold P43
  dsimp only
  obtain ⟨s, h1, h2, h3, h4⟩ := wl_rest (f := P43_s0 fu l n b) l (fun (s : List Int × Bool) k => (s.1, s.2, (k : Int))) (fun k s => s.1 ++ (l.drop k).flatMap (insF n b) = l.flatMap (insF n b) ∧ s.2 = (l.take k).any (· == b) ∧ s.1.length ≤ 2 * k) (fun s => (s.1, s.2, (l.length : Int))) (fun k hk s hI => by
    obtain ⟨out, ok⟩ := s
    obtain ⟨g1, g2, g3⟩ := hI
    dsimp only at g1 g2 g3
    rw [List.drop_eq_getElem_cons hk, List.flatMap_cons] at g1
    have hany : (l.take (k + 1)).any (· == b) = (ok || (l[k] == b)) := by rw [take_snoc' l k hk, List.any_append, ← g2, List.any_cons, List.any_nil, Bool.or_false]
    unfold P43_s0
    dsimp only
    rw [lt_true hk, idx_lt l k hk]
    revert g1 hany
    generalize l[k] = a
    intro g1 hany
    have hroom : ∀ q : List Int, q.length ≤ 2 * k + 2 → room 8 (ln q) = true := fun q hq => by
      rw [ln_eq]
      exact room_small (m := 2 * k + 2) (by omega) (by omega) (by omega) (by omega)
    have r1 := hroom (out ++ [n]) (by simp; omega)
    have r2 := hroom ((out ++ [n]) ++ [a]) (by simp; omega)
    have r3 := hroom (out ++ [a]) (by simp; omega)
    refine ⟨(out ++ insF n b a, ok || (a == b)), ?_, ?_, ?_, ?_⟩
    · rw [cond_true, w64_succ (by omega)]
      simp only [Option.bind_some]
      by_cases e1 : a = b
      · have e1' : (a == b) = true := by simp [e1]
        by_cases e2 : a = n
        · have e2' : (a == n) = true := by simp [e2]
          rw [e1', e2']
          simp only [cond_true, r1, Option.bind_some, Bool.not_true, cond_false, insF, if_pos e1, if_pos e2, List.append_nil, Bool.or_true]
        · have e2' : (a == n) = false := by simp [e2]
          rw [e1', e2']
          simp only [cond_true, r1, r2, Option.bind_some, Bool.not_false, insF, if_pos e1, if_neg e2, Bool.or_true]
          simp only [List.append_assoc]
      · have e1' : (a == b) = false := by simp [e1]
        by_cases e2 : a = n
        · have e2' : (a == n) = true := by simp [e2]
          rw [e1', e2']
          simp only [cond_true, Option.bind_some, Bool.not_true, cond_false, insF, if_neg e1, if_pos e2, List.append_nil, Bool.or_false]
        · have e2' : (a == n) = false := by simp [e2]
          rw [e1', e2']
          simp only [cond_true, cond_false, r3, Option.bind_some, Bool.not_false, insF, if_neg e1, if_neg e2, Bool.or_false, List.nil_append]
    · simpa using g1
    · exact hany.symm
    · have := insF_len n b a
      simp only [List.length_append]
      omega) (fun s hI => by
    unfold P43_s0
    dsimp only
    rw [lt_false]
    rfl) ([], false) ⟨by simp, by simp, by simp⟩
  obtain ⟨out, ok⟩ := s
  dsimp only at h1 h2 h3 h4
  rw [show (([] : List Int), false, (0 : Int)) = (([] : List Int), false, ((0 : Nat) : Int)) from rfl, h1, Option.bind_some]
  dsimp only
  simp only [List.drop_length, List.flatMap_nil, List.append_nil] at h2
  rw [List.take_length] at h3
  subst h2 h3
  have hlen : (l.flatMap (insF n b)).length ≤ 2000 := by omega
  generalize hq : l.flatMap (insF n b) = q at hlen
  have hroom : room 8 (ln (q ++ [n])) = true := by
    rw [ln_eq]
    exact room_small (m := 2001) (by simp; omega) (by omega) (by omega) (by omega)
  unfold stepL
  rw [hq]
  by_cases h0 : b = 0
  · subst h0
    simp [hroom]
  · have : (b == 0) = false := by simp [h0]
    simp [this, h0]
/-- The insertions, one behind the other. -/
inductive Run (next : List Int) : List PlaceStep → List Int → Prop
  | nil : Run next [] next
  | cons {n b : Int} {r : List PlaceStep} {l : List Int} : ((b == 0) || l.any (· == b)) = true → n ∈ next → (stepL l n b).length ≤ l.length + 1 → Run next r (stepL l n b) → Run next (PlaceStep.mk n b :: r) l
def unm (z : List (Int × Bool)) : List Int := (z.filter fun p => !p.2).map Prod.fst
theorem behind_unm : ∀ (z : List (Int × Bool)), behindL z = (match unm z with | b :: _ => b | [] => 0)
  | [] => rfl
  | (n, true) :: z => by
    have := behind_unm z
    simpa [behindL, unm] using this
  | (n, false) :: z => rfl
theorem unm_sub (z : List (Int × Bool)) : (unm z).Sublist (z.map Prod.fst) := List.Sublist.map _ List.filter_sublist
theorem filter_ins (n b : Int) (Q : Int → Bool) (hb : Q b = true) (hn : Q n = false) (l : List Int) :
    (l.flatMap (insF n b)).filter (fun x => Q x || decide (x = n)) = (l.filter Q).flatMap (fun x => if x = b then [n, x] else [x]) := by
  induction l with
  | nil => rfl
  | cons a l ih =>
    have hbn : b ≠ n := fun e => by rw [e, hn] at hb; cases hb
    simp only [List.flatMap_cons, List.filter_append, ih, List.filter_cons]
    by_cases e1 : a = b
    · subst e1
      simp [insF, hb, hbn]
    · by_cases e2 : a = n
      · subst e2
        simp [insF, hn, e1]
      · cases hq : Q a <;> simp [insF, hq, e1, e2]
theorem filter_ins0 (n : Int) (Q : Int → Bool) (hn : Q n = false) (l : List Int) (h0 : ∀ x ∈ l, x ≠ 0) :
    (l.flatMap (insF n 0)).filter (fun x => Q x || decide (x = n)) = l.filter Q := by
  induction l with
  | nil => rfl
  | cons a l ih =>
    have ha := h0 a (by simp)
    simp only [List.flatMap_cons, List.filter_append, ih (fun x hx => h0 x (by simp [hx])), List.filter_cons]
    by_cases e2 : a = n
    · subst e2
      simp [insF, hn, ha]
    · cases hq : Q a <;> simp [insF, hq, ha, e2]
theorem len_ins (n b : Int) (l : List Int) : (l.flatMap (insF n b)).length ≤ l.length + l.count b := by
  induction l with
  | nil => simp
  | cons a l ih =>
    simp only [List.flatMap_cons, List.length_append, List.length_cons, List.count_cons]
    by_cases e1 : a = b
    · have := insF_len n b a
      have h2 : (a == b) = true := by simp [e1]
      rw [h2, if_pos rfl]
      omega
    · have : (insF n b a).length ≤ 1 := by unfold insF; rw [if_neg e1]; split <;> simp
      have h2 : (a == b) = false := by simp [e1]
      rw [h2, if_neg (by simp)]
      omega
theorem mem_step {n b x : Int} {l : List Int} (h : x ∈ stepL l n b) : x = n ∨ x ∈ l := by
  unfold stepL at h
  rw [List.mem_append, List.mem_flatMap] at h
  rcases h with ⟨a, ha, h⟩ | h
  · unfold insF at h
    rw [List.mem_append] at h
    rcases h with h | h
    · split at h
      · simp at h; exact .inl h
      · simp at h
    · split at h
      · simp at h
      · simp at h; exact .inr (h ▸ ha)
  · split at h
    · simp at h; exact .inl h
    · simp at h
theorem flat_id (n b : Int) : ∀ (p : List Int), b ∉ p → p.flatMap (fun x => if x = b then [n, x] else [x]) = p
  | [], _ => rfl
  | a :: p, h => by
    simp only [List.mem_cons, not_or] at h
    have : ¬ a = b := fun e => h.1 e.symm
    simp only [List.flatMap_cons, if_neg this, flat_id n b p h.2]
    rfl
theorem run_ok (next : List Int) (hpos : ∀ x ∈ next, 0 < x) : ∀ (z : List (Int × Bool)) (p l : List Int), (p ++ z.map Prod.fst) = next → next.Nodup →
    (∀ x ∈ l, x ∈ next) → l.filter (fun x => decide (x ∈ p) || decide (x ∈ unm z)) = p ++ unm z → Run next (stepsZ z) l
  | [], p, l, hp, hnd, hi, hii => by
    simp only [List.map_nil, List.append_nil] at hp
    subst hp
    have : l = p := by
      rw [List.filter_eq_self.2 (fun x hx => by simp [hi x hx])] at hii
      simpa [unm] using hii
    subst this
    exact Run.nil
  | (n, false) :: z, p, l, hp, hnd, hi, hii => by
    have h := run_ok next hpos z (p ++ [n]) l (by simpa using hp) hnd hi (by
      have e : unm ((n, false) :: z) = n :: unm z := rfl
      rw [e] at hii
      rw [List.append_assoc]
      show _ = p ++ n :: unm z
      rw [← hii]
      apply List.filter_congr
      intro x hx
      simp [Bool.or_assoc])
    simpa [stepsZ] using h
  | (n, true) :: z, p, l, hp, hnd, hi, hii => by
    have e : unm ((n, true) :: z) = unm z := rfl
    rw [e] at hii
    have hnn : n ∈ next := by rw [← hp]; simp
    have hnd2 : (p ++ n :: z.map Prod.fst).Nodup := by rw [← hp] at hnd; exact hnd
    have hd := List.nodup_append.1 hnd2
    have hd2 := List.nodup_cons.1 hd.2.1
    have hnp : n ∉ p := fun h => hd.2.2 n h n (by simp) rfl
    have hnu : n ∉ unm z := fun h => hd2.1 ((unm_sub z).subset h)
    have hQ : (fun x => decide (x ∈ p) || decide (x ∈ unm z)) n = false := by simp [hnp, hnu]
    have hs : stepsZ ((n, true) :: z) = PlaceStep.mk n (behindL z) :: stepsZ z := by simp [stepsZ]
    rw [hs, behind_unm]
    have hcongr : ∀ q : List Int, q.filter (fun x => decide (x ∈ p ++ [n]) || decide (x ∈ unm z)) = q.filter (fun x => (fun x => decide (x ∈ p) || decide (x ∈ unm z)) x || decide (x = n)) := by
      intro q
      apply List.filter_congr
      intro x hx
      by_cases h1 : x ∈ p <;> by_cases h2 : x = n <;> simp [h1, h2]
    cases hu : unm z with
    | nil =>
      dsimp only
      have hl0 : ∀ x ∈ l, x ≠ 0 := fun x hx => by have := hpos x (hi x hx); omega
      refine Run.cons (by simp) hnn ?_ ?_
      · unfold stepL
        have h1 := len_ins n 0 l
        have h2 : l.count 0 = 0 := List.count_eq_zero.2 fun h => hl0 0 h rfl
        rw [if_pos rfl, List.length_append, List.length_singleton]
        omega
      · refine run_ok next hpos z (p ++ [n]) _ (by simpa using hp) hnd (fun x hx => ?_) ?_
        · rcases mem_step hx with rfl | hx
          · exact hnn
          · exact hi x hx
        · rw [hcongr]
          unfold stepL
          rw [List.filter_append, filter_ins0 n _ hQ l hl0, hii, hu]
          simp
    | cons b u =>
      dsimp only
      have hbu : b ∈ unm z := by rw [hu]; simp
      have hbz : b ∈ z.map Prod.fst := (unm_sub z).subset hbu
      have hbp : b ∉ p := fun h => hd.2.2 b h b (by simp [hbz]) rfl
      have hb0 : b ≠ 0 := by have := hpos b (by rw [← hp]; simp [hbz]); omega
      have hund : (unm z).Nodup := hd2.2.sublist (unm_sub z)
      rw [hu] at hund
      have hbu2 := (List.nodup_cons.1 hund).1
      have hbl : b ∈ l := by
        have : b ∈ l.filter (fun x => decide (x ∈ p) || decide (x ∈ unm z)) := by rw [hii]; simp [hbu]
        exact (List.mem_filter.1 this).1
      have hcount : l.count b = 1 := by
        have h1 : (l.filter (fun x => decide (x ∈ p) || decide (x ∈ unm z))).count b = l.count b := List.count_filter (by simp [hbu])
        rw [← h1, hii, hu, List.count_append, List.count_eq_zero.2 hbp, List.count_cons_self, List.count_eq_zero.2 hbu2]
      have hQb : (fun x => decide (x ∈ p) || decide (x ∈ unm z)) b = true := by simp [hbu]
      refine Run.cons (by simp [hbl]) hnn ?_ ?_
      · unfold stepL
        have h1 := len_ins n b l
        rw [if_neg hb0, List.append_nil]
        omega
      · refine run_ok next hpos z (p ++ [n]) _ (by simpa using hp) hnd (fun x hx => ?_) ?_
        · rcases mem_step hx with rfl | hx
          · exact hnn
          · exact hi x hx
        · rw [hcongr]
          unfold stepL
          rw [if_neg hb0, List.append_nil, filter_ins n b _ hQb hQ l, hii, hu]
          rw [List.flatMap_append, flat_id n b p hbp, List.flatMap_cons, if_pos rfl, flat_id n b u hbu2]
          simp
/-- The answers of Moves, one by one. -/
def movesFrom : Int → List Int → List Bool
  | _, [] => []
  | a, n :: r => decide (n < a) :: movesFrom (if n < a then a else n) r
theorem mvs_from : ∀ (l : List Int) (a : Int) (bs : List Bool), (l.foldl mv (a, bs)).2 = bs ++ movesFrom a l
  | [], a, bs => by simp [movesFrom]
  | n :: l, a, bs => by
    simp only [List.foldl_cons, mv, movesFrom]
    rw [mvs_from l]
    simp
theorem posOf_some {old : List Int} {x : Int} {p : Nat} (h : posOf old x = (p : Int)) : ∃ hp : p < old.length, old[p] = x := by
  simp only [posOf] at h
  cases hx : ixOf old x with
  | none => rw [hx] at h; simp at h
  | some i =>
    rw [hx] at h
    have : i = p := by simp at h; omega
    subst this
    simp only [ixOf, List.findIdx?_eq_some_iff_getElem] at hx
    obtain ⟨h1, h2, _⟩ := hx
    exact ⟨h1, by simpa using h2⟩
theorem unm_old {old : List Int} : ∀ (l : List Int) (a : Int) (d : Nat), l.Nodup → 0 ≤ a → (∀ x ∈ l, a ≤ posOf old x → (d : Int) ≤ posOf old x) → (unm (l.zip (movesFrom a (l.map (posOf old))))).Sublist (old.drop d)
  | [], a, d, _, _, _ => by simp [unm]
  | n :: l, a, d, hnd, ha, hd => by
    have hnd2 := List.nodup_cons.1 hnd
    simp only [List.map_cons, movesFrom, List.zip_cons_cons]
    by_cases hlt : posOf old n < a
    · rw [if_pos hlt, decide_eq_true hlt]
      exact unm_old l a d hnd2.2 ha (fun x hx => hd x (by simp [hx]))
    · rw [if_neg hlt, decide_eq_false hlt]
      have hdn := hd n (by simp) (by omega)
      obtain ⟨p, hp⟩ : ∃ p : Nat, posOf old n = (p : Int) := ⟨(posOf old n).toNat, by omega⟩
      obtain ⟨hpl, hpn⟩ := posOf_some hp
      have ih := unm_old l (p : Int) (p + 1) hnd2.2 (by omega) (fun x hx hle => by
        have hle : (p : Int) ≤ posOf old x := hle
        show ((p + 1 : Nat) : Int) ≤ posOf old x
        by_cases heq : posOf old x = (p : Int)
        · obtain ⟨_, h2⟩ := posOf_some heq
          have : x = n := by rw [← h2, hpn]
          exact absurd (this ▸ hx) hnd2.1
        · omega)
      rw [hp]
      show (n :: unm (l.zip (movesFrom (p : Int) (l.map (posOf old))))).Sublist _
      have h3 : (n :: unm (l.zip (movesFrom (p : Int) (l.map (posOf old))))).Sublist (n :: old.drop (p + 1)) := ih.cons_cons n
      have h4 : old.drop p = n :: old.drop (p + 1) := by rw [List.drop_eq_getElem_cons hpl, hpn]
      rw [← h4] at h3
      exact h3.trans (List.drop_sublist_drop_left old (by omega))
theorem filter_sub {old : List Int} : ∀ {u : List Int}, u.Sublist old → old.Nodup → old.filter (fun x => decide (x ∈ u)) = u := by
  intro u h
  induction h with
  | slnil => intro _; rfl
  | @cons l1 l2 a h ih =>
    intro hnd
    have h2 := List.nodup_cons.1 hnd
    have : a ∉ l1 := fun hm => h2.1 (h.subset hm)
    rw [List.filter_cons]
    simp only [this, decide_false]
    exact ih h2.2
  | @cons_cons l1 l2 a h ih =>
    intro hnd
    have h2 := List.nodup_cons.1 hnd
    rw [List.filter_cons]
    simp only [List.mem_cons, true_or, decide_true, if_true]
    congr 1
    rw [← ih h2.2]
    apply List.filter_congr
    intro x hx
    have hxa : x ≠ a := fun e => h2.1 (e ▸ hx)
    have : (x ∈ List.filter (fun x => decide (x ∈ l1)) l2) ↔ x ∈ l1 := by rw [ih h2.2]
    simp [hxa, this]
theorem makes (old next : List Int) (h1 : old.Nodup) (h2 : next.Nodup) (hpos : ∀ x ∈ next, 0 < x) : Run next (stepsOf old next) (old.filter (fun n => decide (n ∈ next))) := by
  unfold stepsOf movesOf
  rw [rowL_id h1, rowL_id h2]
  have hm : (mvs (next.map (posOf old))).2 = movesFrom 0 (next.map (posOf old)) := by
    unfold mvs
    rw [mvs_from]
    rfl
  have hlen : (mvs (next.map (posOf old))).2.length = next.length := by rw [mvs_len]; simp
  rw [hm] at hlen ⊢
  generalize hz : next.zip (movesFrom 0 (next.map (posOf old))) = z
  have hfst : z.map Prod.fst = next := by rw [← hz]; exact List.map_fst_zip (by omega)
  have hu : (unm z).Sublist old := by
    have := unm_old (old := old) next 0 0 h2 (by omega) (fun x _ h => h)
    rw [hz] at this
    simpa using this
  refine run_ok next hpos z [] _ (by simpa using hfst) h2 (fun x hx => by simpa using (List.mem_filter.1 hx).2) ?_
  rw [List.filter_filter]
  simp only [List.nil_append]
  have h3 := filter_sub hu h1
  refine Eq.trans ?_ h3
  apply List.filter_congr
  intro x hx
  by_cases hxu : x ∈ unm z
  · have : x ∈ next := by rw [← hfst]; exact (unm_sub z).subset hxu
    simp [hxu, this]
  · simp [hxu]
theorem same_self (fu : Nat) (l : List Int) (x y : Option (List Int)) (hl : l.length ≤ 1048576) : P45 fu ⟨l, x⟩ ⟨l, y⟩ = some true := by
  unfold P45
  dsimp only
  have h := wl_each (f := P45_s0 fu l l) l (fun (_ : Unit) _ => ()) (fun _ k => (k : Int)) (fun _ _ => True) () trivial (fun k hk s _ => by
    refine ⟨?_, trivial⟩
    unfold P45_s0
    dsimp only
    rw [lt_true hk, idx_lt l k hk, w64_succ (by omega)]
    simp) (b := .inl (l.length : Int)) (fun s _ _ => by
    unfold P45_s0
    dsimp only
    rw [lt_false]
    rfl)
  have h : wl (P45_s0 fu l l) 0 = some (.inl (l.length : Int)) := h
  rw [h]
  simp
theorem loop_ok (fu : Nat) (next : List Int) (x : Option (List Int)) (steps : List PlaceStep) (hn : next.length ≤ 200) (hs : steps.length ≤ 200) (l0 : List Int) (y : Option (List Int)) (h0 : l0.length ≤ 200) (hr : Run next steps l0) :
    ∃ z i, wl (P10_s0 fu next x steps) (l0, y, 0) = some (.inl (next, z, i)) := by
  obtain ⟨s, h1, h2, _⟩ := wl_rest (f := P10_s0 fu next x steps) steps (fun (s : List Int × Option (List Int)) k => (s.1, s.2, (k : Int))) (fun k s => Run next (steps.drop k) s.1 ∧ s.1.length ≤ 200 + k) (fun s => .inl (s.1, s.2, (steps.length : Int))) (fun k hk s hI => by
    obtain ⟨l, y⟩ := s
    obtain ⟨g1, g2⟩ := hI
    dsimp only at g1 g2
    rw [List.drop_eq_getElem_cons hk] at g1
    unfold P10_s0
    dsimp only
    rw [lt_true hk, idx_lt steps k hk]
    revert g1
    generalize steps[k] = st
    intro g1
    cases g1 with
    | @cons n b _ _ c1 c2 c3 c4 =>
      refine ⟨(stepL l n b, none), ?_, c4, by dsimp only; omega⟩
      simp only [cond_true, Option.bind_some]
      rw [step_ok fu l y n b (by omega), c1, has_ok fu next x n (by omega), w64_succ (by omega)]
      simp [c2]) (fun s hI => by
    unfold P10_s0
    dsimp only
    rw [lt_false]
    rfl) (l0, y) ⟨by simpa using hr, by simpa using h0⟩
  obtain ⟨l, z⟩ := s
  rw [List.drop_length] at h2
  cases h2
  exact ⟨z, _, h1⟩
theorem P10_true (fu : Nat) (a b : List Int) (x y : Option (List Int)) (ha : a.length ≤ 9223372036854775807) (hb : b.length ≤ 9223372036854775807) (ha2 : ∀ n ∈ a, 0 ≤ n ∧ n ≤ 255) (hb2 : ∀ n ∈ b, 0 ≤ n ∧ n ≤ 255) : P10 fu ⟨a, x⟩ ⟨b, y⟩ = some true := by
  unfold P10
  dsimp only
  obtain ⟨old, e1, r1⟩ := row_spec fu a x ha ha2
  obtain ⟨next, e2, r2⟩ := row_spec fu b y hb hb2
  have l1 := r1.len; have l2 := r2.len
  rw [e1, Option.bind_some]
  dsimp only
  rw [e2, Option.bind_some]
  dsimp only
  rw [without_ok fu old next none none (by omega) (by omega), Option.bind_some]
  dsimp only
  rw [steps_ok fu old next none none (by omega) (by omega), Option.bind_some]
  dsimp only
  rw [alive_ok, Option.bind_some]
  have hsl := stepsOf_len old next
  have hd : decide (ln next < ln (stepsOf old next)) = false := decide_eq_false (by simp [ln]; omega)
  have hf : (old.filter (fun n => decide (n ∈ next))).length ≤ old.length := List.length_filter_le _ _
  obtain ⟨z, i, hw⟩ := loop_ok fu next none (stepsOf old next) l2 (by omega) (old.filter (fun n => decide (n ∈ next))) none (by omega) (makes old next r1.nd r2.nd r2.pos)
  rw [hd, hw]
  simp only [Bool.not_true, Bool.not_false, cond_true, cond_false, Option.bind_some]
  rw [same_self fu next z none (by omega)]
  rfl
theorem law10 (ls : List (List D)) (h : WTs tab [60, 60] ls) : call S 10 (argsPV tab [60, 60] ls) [] = some (.d (.bool true), []) := by
  obtain ⟨l1, _, rfl, h1, l2, _, rfl, h2, rfl⟩ := h
  obtain ⟨rows1, hid1, e1, e2, e3, _⟩ := h1.slice_inv ty_60
  obtain ⟨rows2, hid2, f1, f2, f3, _⟩ := h2.slice_inv ty_60
  obtain ⟨⟨a, x⟩, rfl⟩ := wt_60 h1
  obtain ⟨⟨b, y⟩, rfl⟩ := wt_60 h2
  simp only [List.cons.injEq, D.sl.injEq, and_true] at e1 f1
  obtain ⟨rfl, ex⟩ := e1
  obtain ⟨rfl, fx⟩ := f1
  rw [maxLen_eq] at e2 f2
  have ha := bytes_of (x := x) e3
  have hb := bytes_of (x := y) f3
  exact call_of (ok10 (fu := 0) rfl rfl (P10_true 0 a b x y (by simp at e2; omega) (by simp at f2; omega) ha hb) rfl [])
end Go.Proofs.Ytamllgdaepjcfaa
