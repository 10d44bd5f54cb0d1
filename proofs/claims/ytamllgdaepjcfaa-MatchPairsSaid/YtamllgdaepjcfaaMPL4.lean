/- match.Match on children of unlike keys: its answers are the pairs, no more and no less. -/
import Derived.Test.YtamllgdaepjcfaaMPL3
namespace Go.Proofs.Ytamllgdaepjcfaa
open Go Go.X
set_option linter.unusedVariables false
set_option linter.unusedSimpArgs false
set_option maxRecDepth 100000
/-- No two children have one key. -/
def Unl (l : List Child) : Prop := ∀ (i j : Nat) (a b : Child), l[i]? = some a → l[j]? = some b → a.Key = b.Key → i = j
/-- Old child j and new child t are a pair. -/
def Pair (old next : List Child) (j t : Nat) : Prop := ∃ o c : Child, old[j]? = some o ∧ next[t]? = some c ∧ o.Key = c.Key ∧ al o c = true
theorem seq_comm (a b : ByteArray) : seq a b = seq b a := by
  cases h : seq b a with
  | true => rw [seq_iff] at h; rw [h, seq_self]
  | false =>
    cases h2 : seq a b with
    | false => rfl
    | true => rw [seq_iff] at h2; rw [h2, seq_self] at h; cases h
theorem al_comm (a b : Child) : al a b = al b a := by
  unfold al
  rw [seq_comm a.Name b.Name, Bool.beq_comm (a := a.Kind)]
theorem pair_comm {old next : List Child} {j t : Nat} : Pair old next j t ↔ Pair next old t j := by
  constructor
  · rintro ⟨o, c, h1, h2, h3, h4⟩; exact ⟨c, o, h2, h1, h3.symm, by rw [al_comm]; exact h4⟩
  · rintro ⟨o, c, h1, h2, h3, h4⟩; exact ⟨c, o, h2, h1, h3.symm, by rw [al_comm]; exact h4⟩
structure Full (old next : List Child) (k : Nat) (r : List Int) (m : List (ByteArray × Int)) : Prop where
  full : ∀ x, (∀ (t : Nat) (c : Child), t < k → next[t]? = some c → c.Key ≠ x) → mget m x = none → ∀ (j : Nat) (o : Child), old[j]? = some o → o.Key ≠ x
  comp : ∀ t j : Nat, t < k → Pair old next j t → r[t]? = some (j : Int)
theorem full_one {old next : List Child} {k : Nat} {r : List Int} {m : List (ByteArray × Int)} {c : Child} (u1 : Unl old) (u2 : Unl next) (h : Inv old next k r m) (f : Full old next k r m) (hc : next[k]? = some c) :
    Full old next (k + 1) (r ++ [(one old m c).1]) (one old m c).2 := by
  have hm2 : ∀ x, x ≠ c.Key → mget (one old m c).2 x = mget m x := fun x hx => by
    unfold one
    cases hm : mget m c.Key with
    | none => rfl
    | some v =>
      dsimp only
      cases idx old v with
      | none => rfl
      | some o =>
        dsimp only
        split
        · show mget (mrem m c.Key) x = _
          rw [mget_mrem _ _ h.nd, if_neg hx]
        · rfl
  refine ⟨fun x hx hm => ?_, fun t j ht hp => ?_⟩
  · have hne : x ≠ c.Key := fun e => hx k c (by omega) hc e.symm
    rw [hm2 x hne] at hm
    exact f.full x (fun t c ht hc => hx t c (by omega) hc) hm
  · by_cases htk : t < k
    · have := f.comp t j htk hp
      rw [List.getElem?_append_left (by rw [h.len]; exact htk)]
      exact this
    · have : t = k := by omega
      subst this
      have hat : (r ++ [(one old m c).1])[t]? = some (one old m c).1 := by
        rw [List.getElem?_append_right (by rw [h.len]; omega), h.len]
        simp
      rw [hat]
      obtain ⟨o, c', h1, h2, h3, h4⟩ := hp
      rw [hc] at h2
      cases h2
      unfold one
      cases hm : mget m c.Key with
      | none =>
        exact absurd h3 (f.full c.Key (fun t' c' ht' hc' e => by
          have := u2 t' t c' c hc' hc e
          omega) hm j o h1)
      | some v =>
        obtain ⟨j2, o2, rfl, ho2, hk2⟩ := h.good _ _ hm
        have e : j2 = j := u1 j2 j o2 o ho2 h1 (hk2.trans h3.symm)
        subst e
        rw [h1] at ho2
        cases ho2
        dsimp only
        rw [idx_nat, h1]
        dsimp only
        rw [h4]
        rfl
theorem match_exact (fu : Nat) (old next : List Child) (x y : Option (List Child)) (h1 : old.length ≤ 1048576) (h2 : next.length ≤ 1048576) (u1 : Unl old) (u2 : Unl next) :
    ∃ r, P26 fu ⟨old, x⟩ ⟨next, y⟩ = some ⟨r, none⟩ ∧ r.length = next.length ∧ (∀ (t : Nat) v, r[t]? = some v → v = -1 ∨ ∃ j : Nat, v = (j : Int)) ∧ ∀ t j : Nat, r[t]? = some (j : Int) ↔ Pair old next j t := by
  obtain ⟨m0, e0, f0⟩ := firsts fu old (by omega)
  obtain ⟨q, e1, e2, e3⟩ := wl_rule (f := P26_s1 fu old next) (fun a => ∃ k : Nat, a.2.2 = (k : Int) ∧ k ≤ next.length ∧ Inv old next k a.1 a.2.1 ∧ Full old next k a.1 a.2.1) (fun a => next.length - a.2.2.toNat) (fun q => Inv old next next.length q.1 q.2.1 ∧ Full old next next.length q.1 q.2.1) (by
    rintro ⟨r, m, i⟩ ⟨k, e, hk, hI, hF⟩
    dsimp only at e hI hF
    subst e
    by_cases he : k = next.length
    · subst he
      exact .inr ⟨_, one_end fu old next r m, hI, hF⟩
    · left
      have hc := List.getElem?_eq_getElem (show k < next.length by omega)
      refine ⟨_, one_step fu old next k _ hc h2 r hI.len m (fun v hv => ?_), ⟨k + 1, rfl, by omega, inv_one hI hc, full_one u1 u2 hI hF hc⟩, ?_⟩
      · obtain ⟨j, o, rfl, ho, _⟩ := hI.good _ _ hv
        exact ⟨o, by rw [idx_nat, ho]⟩
      · dsimp only; omega) next.length (([] : List Int), m0, 0) (by dsimp only; omega) ⟨0, rfl, by omega, by
    refine ⟨rfl, f0.nd, fun x v hv => ?_, fun t x hx => by simp at hx, fun t t' j h1 => by simp at h1, fun t j h1 => by simp at h1⟩
    obtain ⟨j, o, a1, _, a3, a4⟩ := f0.good x v hv
    exact ⟨j, o, a1, a3, a4⟩, ⟨fun x _ hm j o ho => f0.full x hm j o ho (by omega), fun t j ht => by omega⟩⟩
  obtain ⟨r, m, i⟩ := q
  dsimp only at e2 e3
  refine ⟨r, ?_, e2.len, fun t v hv => ?_, fun t j => ⟨fun hv => ?_, fun hp => ?_⟩⟩
  · unfold P26
    dsimp only
    rw [e0]
    simp only [Option.bind_some]
    rw [e1]
    rfl
  · rcases e2.ans t v hv with e | ⟨j, o, c, e, _⟩
    · exact .inl e
    · exact .inr ⟨j, e⟩
  · rcases e2.ans t _ hv with e | ⟨j2, o, c, e, a1, a2, a3, a4⟩
    · omega
    · have : j2 = j := by omega
      subst this
      exact ⟨o, c, a1, a2, a3, a4⟩
  · have ht : t < next.length := by
      obtain ⟨o, c, _, h, _⟩ := hp
      exact lt_of_get h
    exact e3.comp t j ht hp
theorem unl_rev {l : List Child} (h : Unl l) : Unl l.reverse := by
  intro i j a b h1 h2 hk
  have l1 := lt_of_get h1
  have l2 := lt_of_get h2
  rw [List.length_reverse] at l1 l2
  rw [List.getElem?_reverse l1] at h1
  rw [List.getElem?_reverse l2] at h2
  have := h _ _ a b h1 h2 hk
  omega
theorem pair_rev {l next : List Child} {j t : Nat} : Pair l.reverse next j t ↔ j < l.length ∧ Pair l next (l.length - 1 - j) t := by
  constructor
  · rintro ⟨o, c, h1, h2, h3, h4⟩
    have l1 := lt_of_get h1
    rw [List.length_reverse] at l1
    rw [List.getElem?_reverse l1] at h1
    exact ⟨l1, o, c, h1, h2, h3, h4⟩
  · rintro ⟨l1, o, c, h1, h2, h3, h4⟩
    exact ⟨o, c, by rw [List.getElem?_reverse l1]; exact h1, h2, h3, h4⟩
theorem pigeon {α : Type} [DecidableEq α] : ∀ (l m : List α), l.Nodup → (∀ x ∈ l, x ∈ m) → l.length ≤ m.length
  | [], _, _, _ => Nat.zero_le _
  | a :: l, m, h, hs => by
    rw [List.nodup_cons] at h
    have h1 := pigeon l (m.erase a) h.2 (fun x hx => (List.mem_erase_of_ne (fun e => h.1 (by cases e; exact hx))).2 (hs x (List.mem_cons_of_mem _ hx)))
    have h2 := List.length_erase_of_mem (hs a List.mem_cons_self)
    have h3 : 0 < m.length := List.length_pos_of_mem (hs a List.mem_cons_self)
    simp only [List.length_cons]
    omega
/-- The places below k whose answer is a place. -/
def hit (r : List Int) (t : Nat) : Bool := decide (0 ≤ (r[t]?).getD (-1))
def hits (r : List Int) : Nat → List Nat
  | 0 => []
  | k + 1 => if hit r k then k :: hits r k else hits r k
theorem mem_hits {r : List Int} {k t : Nat} : t ∈ hits r k ↔ t < k ∧ hit r t = true := by
  induction k with
  | zero => simp [hits]
  | succ k ih =>
    simp only [hits]
    by_cases hk : hit r k = true
    · rw [if_pos hk, List.mem_cons, ih]
      constructor
      · rintro (e | ⟨e1, e2⟩)
        · subst e; exact ⟨by omega, hk⟩
        · exact ⟨by omega, e2⟩
      · rintro ⟨e1, e2⟩
        by_cases e : t = k
        · exact .inl e
        · exact .inr ⟨by omega, e2⟩
    · rw [if_neg hk, ih]
      constructor
      · rintro ⟨e1, e2⟩; exact ⟨by omega, e2⟩
      · rintro ⟨e1, e2⟩
        refine ⟨?_, e2⟩
        by_cases e : t = k
        · subst e; exact absurd e2 hk
        · omega
theorem nodup_hits (r : List Int) (k : Nat) : (hits r k).Nodup := by
  induction k with
  | zero => simp [hits]
  | succ k ih =>
    simp only [hits]
    split
    · rw [List.nodup_cons]
      exact ⟨fun h => by have := (mem_hits.1 h).1; omega, ih⟩
    · exact ih
theorem hits_le (r : List Int) (k : Nat) : (hits r k).length ≤ k := by
  induction k with
  | zero => simp [hits]
  | succ k ih =>
    simp only [hits]
    split
    · simp only [List.length_cons]; omega
    · omega
/-- Two rows of answers, each the other's way back: they name as many places. -/
theorem hits_back {r b : List Int} (h1 : ∀ (t : Nat) v, r[t]? = some v → v = -1 ∨ ∃ j : Nat, v = (j : Int)) (hb : ∀ t j : Nat, r[t]? = some (j : Int) → b[j]? = some (t : Int)) : (hits r r.length).length ≤ (hits b b.length).length := by
  have hr : ∀ t, t ∈ hits r r.length → ∃ j : Nat, r[t]? = some (j : Int) := fun t ht => by
    obtain ⟨hl, hh⟩ := mem_hits.1 ht
    have hg := List.getElem?_eq_getElem hl
    simp only [hit, hg, Option.getD_some, decide_eq_true_eq] at hh
    rcases h1 t _ hg with e | ⟨j, e⟩
    · omega
    · exact ⟨j, by rw [hg, e]⟩
  have h2 := pigeon ((hits r r.length).map fun t => ((r[t]?).getD 0).toNat) (hits b b.length) (by
    rw [List.Nodup, List.pairwise_map]
    refine List.Pairwise.imp_of_mem ?_ (nodup_hits r r.length)
    intro t t' ht ht' hne he
    obtain ⟨j, e1⟩ := hr t ht
    obtain ⟨j', e2⟩ := hr t' ht'
    rw [e1, e2] at he
    simp only [Option.getD_some, Int.toNat_natCast] at he
    subst he
    have a1 := hb t j e1
    have a2 := hb t' j e2
    rw [a1] at a2
    cases a2
    exact hne rfl) (by
    intro j hj
    obtain ⟨t, ht, rfl⟩ := List.mem_map.1 hj
    obtain ⟨j, e1⟩ := hr t ht
    have a1 := hb t j e1
    rw [e1]
    simp only [Option.getD_some, Int.toNat_natCast]
    refine mem_hits.2 ⟨lt_of_get a1, ?_⟩
    simp [hit, a1])
  rwa [List.length_map] at h2
end Go.Proofs.Ytamllgdaepjcfaa
