/- tale: what is so of notes of an instance that can stand, all of them. -/
import Derived.Test.YtamllgdaepjcfaaTCL1
namespace Go.Proofs.Ytamllgdaepjcfaa
open Go Go.X
set_option linter.unusedVariables false
set_option linter.unusedSimpArgs false
set_option maxRecDepth 100000
set_option linter.unusedSectionVars false
section
variable {K V : Type} [BEq K] [LawfulBEq K] [DecidableEq K]
theorem mset_new : ∀ (m : List (K × V)) (k : K) (v : V), mget m k = none → mset m k v = m ++ [(k, v)]
  | [], k, v, _ => rfl
  | (a, b) :: m, k, v, h => by
    simp only [mget] at h
    cases hk : (k == a) with
    | true => rw [hk] at h; simp at h
    | false =>
      rw [hk] at h
      simp only [Bool.false_eq_true, if_false] at h
      simp only [mset, hk, Bool.false_eq_true, if_false, mset_new m k v h, List.cons_append]
theorem mget_mem : ∀ (m : List (K × V)) (k : K) (v : V), mget m k = some v → (k, v) ∈ m
  | (a, b) :: m, k, v, h => by
    simp only [mget] at h
    cases hk : (k == a) with
    | true =>
      rw [hk] at h
      simp only [if_true, Option.some.injEq] at h
      have : k = a := by simpa using hk
      subst this h
      simp
    | false =>
      rw [hk] at h
      simp only [Bool.false_eq_true, if_false] at h
      exact List.mem_cons_of_mem _ (mget_mem m k v h)
theorem mget_none : ∀ (m : List (K × V)) (k : K), mget m k = none → k ∉ m.map Prod.fst
  | [], k, _ => by simp
  | (a, b) :: m, k, h => by
    simp only [mget] at h
    cases hk : (k == a) with
    | true => rw [hk] at h; simp at h
    | false =>
      rw [hk] at h
      simp only [Bool.false_eq_true, if_false] at h
      have h1 := mget_none m k h
      have h2 : k ≠ a := by simpa using hk
      simp only [List.map_cons, List.mem_cons, not_or]
      exact ⟨h2, h1⟩
theorem mrem_sub : ∀ (m : List (K × V)) (k : K), (mrem m k).Sublist m
  | [], k => by simp [mrem]
  | (a, b) :: m, k => by
    simp only [mrem]
    split
    · exact List.sublist_cons_self _ _
    · exact (mrem_sub m k).cons_cons _
theorem mrem_len : ∀ (m : List (K × V)) (k : K) (v : V), mget m k = some v → (mrem m k).length + 1 = m.length
  | (a, b) :: m, k, v, h => by
    simp only [mget] at h
    simp only [mrem]
    cases hk : (k == a) with
    | true => simp
    | false =>
      rw [hk] at h
      simp only [Bool.false_eq_true, if_false] at h
      have := mrem_len m k v h
      simp only [Bool.false_eq_true, if_false, List.length_cons]
      omega
theorem mget_mrem' : ∀ (m : List (K × V)) (k x : K), (m.map Prod.fst).Nodup → mget (mrem m k) x = if x = k then none else mget m x
  | [], k, x, _ => by simp [mrem, mget]
  | (a, b) :: m, k, x, h => by
    simp only [List.map_cons, List.nodup_cons] at h
    have ih := mget_mrem' m k x h.2
    simp only [mrem]
    cases hk : (k == a) with
    | true =>
      have hka : k = a := by simpa using hk
      subst hka
      simp only [if_true, mget]
      by_cases hx : x = k
      · subst hx
        simp only [if_true]
        cases hg : mget m x with
        | none => rfl
        | some v => exact absurd (List.mem_map.2 ⟨_, mget_mem m x v hg, rfl⟩) h.1
      · have : (x == k) = false := by simp [hx]
        simp [hx, this]
    | false =>
      have hka : k ≠ a := by simpa using hk
      simp only [Bool.false_eq_true, if_false, mget, ih]
      by_cases hx : x = k
      · subst hx
        have : (x == a) = false := hk
        simp [this]
      · simp [hx]
end
/-- Does a run run? -/
def onR (h : List Note) (r : Talerun) : Bool := h.foldl (fun on x => if x.Name = r.name ∧ x.Late = r.late ∧ (x.Kind = 5 ∨ x.Kind = 6) then decide (x.Kind = 5) else on) false
theorem onR_snoc (h : List Note) (x : Note) (r : Talerun) : onR (h ++ [x]) r = if x.Name = r.name ∧ x.Late = r.late ∧ (x.Kind = 5 ∨ x.Kind = 6) then decide (x.Kind = 5) else onR h r := by
  simp [onR]
theorem onR_mem : ∀ (h : List Note) (r : Talerun), onR h r = true → ∃ x ∈ h, x.Kind = 5 ∧ x.Name = r.name ∧ x.Late = r.late := by
  have : ∀ (h : List Note) (r : Talerun) (b : Bool), h.foldl (fun on x => if x.Name = r.name ∧ x.Late = r.late ∧ (x.Kind = 5 ∨ x.Kind = 6) then decide (x.Kind = 5) else on) b = true → b = true ∨ ∃ x ∈ h, x.Kind = 5 ∧ x.Name = r.name ∧ x.Late = r.late := by
    intro h
    induction h with
    | nil => intro r b hb; exact .inl hb
    | cons y h ih =>
      intro r b hb
      simp only [List.foldl_cons] at hb
      rcases ih r _ hb with h1 | ⟨x, hx, h2⟩
      · split at h1
        · rename_i hc
          exact .inr ⟨y, by simp, by simpa using h1, hc.1, hc.2.1⟩
        · exact .inl h1
      · exact .inr ⟨x, by simp [hx], h2⟩
  intro h r hr
  rcases this h r false hr with h1 | h1
  · cases h1
  · exact h1
structure Inv (h : List Note) : Prop where
  ev : (stS h).1.1 = decide (0 < cntK h 1)
  mo : (stS h).1.2.1 = decide (0 < cntK h 2)
  le : (stS h).1.2.2 = decide (0 < cntK h 4)
  c2 : cntK h 2 ≤ 1
  c4 : cntK h 4 ≤ 1
  c42 : 0 < cntK h 4 → 0 < cntK h 2
  c21 : 0 < cntK h 2 → 0 < cntK h 1
  run : cntK h 5 = cntK h 6 + (stS h).2.length
  lz : 0 < cntK h 4 → (stS h).2.length = 0
  nd : ((stS h).2.map Prod.fst).Nodup
  on : ∀ r, mget (stS h).2 r = if onR h r = true then some true else none
theorem inv_nil : Inv [] := ⟨rfl, rfl, rfl, by decide, by decide, by decide, by decide, rfl, by decide, by simp [stS, dflt], fun r => rfl⟩
theorem run_eta (x : Note) (r : Talerun) : (x.Name = r.name ∧ x.Late = r.late) ↔ r = ⟨x.Name, x.Late⟩ := by
  obtain ⟨n, l⟩ := r
  simp only [Talerun.mk.injEq]
  exact ⟨fun h => ⟨h.1.symm, h.2.symm⟩, fun h => ⟨h.1.symm, h.2.symm⟩⟩
theorem inv_snoc {h : List Note} (I : Inv h) {x : Note} (hc : can h x = true) : Inv (h ++ [x]) := by
  obtain ⟨ev, mo, le, c2, c4, c42, c21, run, lz, nd, on⟩ := I
  unfold can at hc
  have hst := stS_snoc h x
  have hcnt := cntK_snoc h x
  have hon := onR_snoc h x
  revert hst hc
  generalize stS h = s at *
  obtain ⟨⟨sev, smo, sle⟩, rs⟩ := s
  dsimp only at ev mo le run lz nd on
  unfold G
  dsimp only
  have k1 := hcnt 1; have k2 := hcnt 2; have k4 := hcnt 4; have k5 := hcnt 5; have k6 := hcnt 6
  clear hcnt
  have keepOn : ¬ x.Kind = 5 → ¬ x.Kind = 6 → ∀ r, onR (h ++ [x]) r = onR h r := by
    intro n5 n6 r
    rw [hon, if_neg]
    rintro ⟨_, _, h | h⟩
    · exact n5 h
    · exact n6 h
  by_cases h1 : x.Kind = 1
  · rw [if_pos h1]
    intro hc hst
    have ho := keepOn (by omega) (by omega)
    simp [h1] at k1 k2 k4 k5 k6 hc
    refine ⟨by rw [hst, k1]; simp, by rw [hst, k2]; exact mo, by rw [hst, k4]; exact le, by omega, by omega, by omega, by omega, by rw [hst]; dsimp only; omega, by rw [hst, k4]; exact lz, by rw [hst]; exact nd, fun r => by rw [hst, ho]; exact on r⟩
  rw [if_neg h1]
  by_cases h2 : x.Kind = 2
  · rw [if_pos h2]
    intro hc hst
    have ho := keepOn (by omega) (by omega)
    simp [h2] at k1 k2 k4 k5 k6 hc
    obtain ⟨⟨q1, q2⟩, q3⟩ := hc
    rw [q1] at ev; rw [q2] at mo
    have e1 : 0 < cntK h 1 := by simpa using ev.symm
    have e2 : ¬ 0 < cntK h 2 := by simpa using mo.symm
    refine ⟨by rw [hst, k1]; dsimp only; rw [q1]; exact ev, by rw [hst, k2]; simp, by rw [hst, k4]; exact le, by omega, by omega, by omega, by omega, by rw [hst]; dsimp only; omega, by rw [hst, k4]; exact lz, by rw [hst]; exact nd, fun r => by rw [hst, ho]; exact on r⟩
  rw [if_neg h2]
  by_cases h4 : x.Kind = 4
  · rw [if_pos h4]
    have ho := keepOn (by omega) (by omega)
    split
    · intro hc; cases hc
    · rename_i hn
      intro hc hst
      simp [h4] at k1 k2 k4 k5 k6
      dsimp only at hc
      have q2 : sle = false := by
        cases sle with
        | false => rfl
        | true => exact absurd (.inr rfl) hn
      have q3 : rs.length = 0 := by
        have : ¬ 0 < rs.length := fun h => hn (.inl h)
        omega
      rw [hc] at mo; rw [q2] at le
      have e2 : 0 < cntK h 2 := by simpa using mo.symm
      have e4 : ¬ 0 < cntK h 4 := by simpa using le.symm
      refine ⟨by rw [hst, k1]; exact ev, by rw [hst, k2]; dsimp only; rw [hc]; exact mo, by rw [hst, k4]; simp, by omega, by omega, by omega, by omega, by rw [hst]; dsimp only; omega, by rw [hst]; exact fun _ => q3, by rw [hst]; exact nd, fun r => by rw [hst, ho]; exact on r⟩
  rw [if_neg h4]
  by_cases h5 : x.Kind = 5
  · rw [if_pos h5]
    split
    · intro hc; cases hc
    · rename_i hn
      intro hc hst
      simp [h5] at k1 k2 k4 k5 k6 hc
      obtain ⟨q1, q2⟩ := hc
      rw [q2] at le
      have e4 : ¬ 0 < cntK h 4 := by simpa using le.symm
      have hnone : mget rs ⟨x.Name, x.Late⟩ = none := by
        have := on ⟨x.Name, x.Late⟩
        cases hb : onR h ⟨x.Name, x.Late⟩ with
        | false => rw [hb] at this; simpa using this
        | true => rw [hb] at this; simp at this; rw [this] at hn; simp at hn
      have hm := mset_new rs ⟨x.Name, x.Late⟩ true hnone
      have hnin := mget_none rs _ hnone
      refine ⟨by rw [hst, k1]; exact ev, by rw [hst, k2]; exact mo, by rw [hst, k4]; dsimp only; rw [q2]; exact le, by omega, by omega, by omega, by omega, ?_, by omega, ?_, fun r => ?_⟩
      · rw [hst]; dsimp only; rw [hm]; simp; omega
      · rw [hst]; dsimp only; rw [hm, List.map_append, List.nodup_append]
        refine ⟨nd, by simp, fun a ha b hb => ?_⟩
        simp only [List.map_cons, List.map_nil, List.mem_singleton] at hb
        subst hb
        exact fun e => hnin (e ▸ ha)
      · rw [hst, hon]; dsimp only; rw [mget_mset', on r]
        by_cases hr : r = ⟨x.Name, x.Late⟩
        · have hcd : x.Name = r.name ∧ x.Late = r.late ∧ (x.Kind = 5 ∨ x.Kind = 6) := ⟨((run_eta x r).2 hr).1, ((run_eta x r).2 hr).2, .inl h5⟩
          rw [if_pos hr, if_pos hcd, h5]; simp
        · have hcd : ¬ (x.Name = r.name ∧ x.Late = r.late ∧ (x.Kind = 5 ∨ x.Kind = 6)) := fun hc => hr ((run_eta x r).1 ⟨hc.1, hc.2.1⟩)
          rw [if_neg hr, if_neg hcd]
  rw [if_neg h5]
  by_cases h3 : x.Kind = 3
  · rw [if_pos h3]
    intro hc hst
    have ho := keepOn (by omega) (by omega)
    simp [h3] at k1 k2 k4 k5 k6
    refine ⟨by rw [hst, k1]; exact ev, by rw [hst, k2]; exact mo, by rw [hst, k4]; exact le, by omega, by omega, by omega, by omega, by rw [hst]; dsimp only; omega, by rw [hst, k4]; exact lz, by rw [hst]; exact nd, fun r => by rw [hst, ho]; exact on r⟩
  rw [if_neg h3]
  by_cases h6 : x.Kind = 6
  · rw [if_pos h6]
    intro hc hst
    simp [h6] at k1 k2 k4 k5 k6 hc
    obtain ⟨⟨q0, q1⟩, q2⟩ := hc
    rw [q2] at le
    have e4 : ¬ 0 < cntK h 4 := by simpa using le.symm
    have hsome : mget rs ⟨x.Name, x.Late⟩ = some true := by
      cases hg : mget rs ⟨x.Name, x.Late⟩ with
      | none => rw [hg] at q0; cases q0
      | some b => rw [hg] at q0; cases b with
        | true => rfl
        | false => cases q0
    have hl := mrem_len rs _ _ hsome
    refine ⟨by rw [hst, k1]; exact ev, by rw [hst, k2]; exact mo, by rw [hst, k4]; dsimp only; rw [q2]; exact le, by omega, by omega, by omega, by omega, by rw [hst]; dsimp only; omega, by omega, ?_, fun r => ?_⟩
    · rw [hst]; exact nd.sublist ((mrem_sub rs _).map _)
    · rw [hst, hon]; dsimp only; rw [mget_mrem' rs _ r nd, on r]
      by_cases hr : r = ⟨x.Name, x.Late⟩
      · have hcd : x.Name = r.name ∧ x.Late = r.late ∧ (x.Kind = 5 ∨ x.Kind = 6) := ⟨((run_eta x r).2 hr).1, ((run_eta x r).2 hr).2, .inr h6⟩
        rw [if_pos hr, if_pos hcd, h6]; simp
      · have hcd : ¬ (x.Name = r.name ∧ x.Late = r.late ∧ (x.Kind = 5 ∨ x.Kind = 6)) := fun hc => hr ((run_eta x r).1 ⟨hc.1, hc.2.1⟩)
        rw [if_neg hr, if_neg hcd]
  rw [if_neg h6]
  intro hc hst
  have ho := keepOn h5 h6
  rw [if_neg h1] at k1; rw [if_neg h2] at k2; rw [if_neg h4] at k4; rw [if_neg h5] at k5; rw [if_neg h6] at k6
  exact ⟨by rw [hst, k1]; exact ev, by rw [hst, k2]; exact mo, by rw [hst, k4]; exact le, by omega, by omega, by omega, by omega, by rw [hst]; dsimp only; omega, by rw [hst, k4]; exact lz, by rw [hst]; exact nd, fun r => by rw [hst, ho]; exact on r⟩
theorem valid_snoc {h : List Note} {x : Note} (hv : valid (h ++ [x])) : valid h ∧ can h x = true :=
  ⟨fun a y b e => hv a y (b ++ [x]) (by rw [e]; simp), hv h x [] rfl⟩
theorem inv_of : ∀ (n : Nat) (h : List Note), h.length = n → valid h → Inv h
  | 0, h, hn, _ => by
    have : h = [] := List.eq_nil_of_length_eq_zero hn
    subst this
    exact inv_nil
  | n + 1, h, hn, hv => by
    rcases List.eq_nil_or_concat h with rfl | ⟨h', x, rfl⟩
    · simp at hn
    · simp only [List.concat_eq_append] at hv hn ⊢
      obtain ⟨v1, v2⟩ := valid_snoc hv
      exact inv_snoc (inv_of n h' (by simpa using hn) v1) v2
theorem valid.inv {h : List Note} (hv : valid h) : Inv h := inv_of _ h rfl hv
theorem valid.take {a b : List Note} (hv : valid (a ++ b)) : valid a := fun p y q e => hv p y (q ++ b) (by rw [e]; simp)
end Go.Proofs.Ytamllgdaepjcfaa
