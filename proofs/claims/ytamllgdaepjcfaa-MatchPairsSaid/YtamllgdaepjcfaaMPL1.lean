/- The plain law of match.Match: maps of places. -/
import Derived.Test.YtamllgdaepjcfaaMPO
import Derived.Test.YtamllgdaepjcfaaMPV
import Derived.Test.YtamllgdaepjcfaaMPL0
namespace Go.Proofs.Ytamllgdaepjcfaa
open Go Go.X
set_option linter.unusedVariables false
set_option linter.unusedSimpArgs false
set_option maxRecDepth 100000
theorem ba_eq (a b : ByteArray) : (a == b) = true ↔ a = b := by
  constructor
  · intro h
    have : a.data = b.data := by
      have h1 : (a.data == b.data) = true := h
      exact eq_of_beq h1
    exact ByteArray.ext this
  · rintro rfl
    show (a.data == a.data) = true
    exact beq_self_eq_true _
theorem ba_ne {a b : ByteArray} (h : a ≠ b) : (a == b) = false := by
  cases h1 : a == b with
  | false => rfl
  | true => exact absurd ((ba_eq a b).1 h1) h
theorem ba_self (a : ByteArray) : (a == a) = true := (ba_eq a a).2 rfl
theorem mget_mset (m : List (ByteArray × Int)) (k x : ByteArray) (v : Int) : mget (mset m k v) x = if x = k then some v else mget m x := by
  induction m with
  | nil =>
    simp only [mset, mget]
    by_cases h : x = k
    · subst h; simp [ba_self]
    · simp [ba_ne h, h]
  | cons p m ih =>
    obtain ⟨q, w⟩ := p
    simp only [mset]
    by_cases hk : k = q
    · subst hk
      simp only [ba_self, if_true, mget]
      by_cases h : x = k
      · subst h; simp [ba_self]
      · simp [ba_ne h, h]
    · simp only [ba_ne hk, Bool.false_eq_true, if_false, mget, ih]
      by_cases h : x = q
      · subst h; simp [ba_self]; intro e; exact absurd e.symm hk
      · simp [ba_ne h]
/-- No key stands twice. -/
def Nd (m : List (ByteArray × Int)) : Prop := (m.map Prod.fst).Nodup
theorem nd_mem_mset (m : List (ByteArray × Int)) (k x : ByteArray) (v : Int) (h : x ∈ (mset m k v).map Prod.fst) : x = k ∨ x ∈ m.map Prod.fst := by
  induction m with
  | nil => simp [mset] at h; exact .inl h
  | cons p m ih =>
    obtain ⟨q, w⟩ := p
    simp only [mset] at h
    by_cases hk : k = q
    · subst hk
      simp only [ba_self, if_true] at h
      exact .inr h
    · simp only [ba_ne hk, Bool.false_eq_true, if_false, List.map_cons, List.mem_cons] at h
      rcases h with h | h
      · exact .inr (by simp [h])
      · rcases ih h with h | h
        · exact .inl h
        · exact .inr (List.mem_cons_of_mem _ h)
theorem nd_mset {m : List (ByteArray × Int)} {k : ByteArray} {v : Int} (h : Nd m) : Nd (mset m k v) := by
  induction m with
  | nil => simp [mset, Nd]
  | cons p m ih =>
    obtain ⟨q, w⟩ := p
    simp only [Nd, List.map_cons, List.nodup_cons] at h
    simp only [mset]
    by_cases hk : k = q
    · subst hk
      simp only [ba_self, if_true, Nd, List.map_cons, List.nodup_cons]
      exact h
    · simp only [ba_ne hk, Bool.false_eq_true, if_false, Nd, List.map_cons, List.nodup_cons]
      refine ⟨fun hm => ?_, ih h.2⟩
      rcases nd_mem_mset m k q v hm with e | e
      · exact hk e.symm
      · exact h.1 e
theorem mget_mem {m : List (ByteArray × Int)} {k : ByteArray} {v : Int} (h : mget m k = some v) : k ∈ m.map Prod.fst := by
  induction m with
  | nil => cases h
  | cons p m ih =>
    obtain ⟨q, w⟩ := p
    simp only [mget] at h
    by_cases hk : k = q
    · simp [hk]
    · simp only [ba_ne hk, Bool.false_eq_true, if_false] at h
      exact List.mem_cons_of_mem _ (ih h)
theorem mget_mrem {m : List (ByteArray × Int)} (k x : ByteArray) (h : Nd m) : mget (mrem m k) x = if x = k then none else mget m x := by
  induction m with
  | nil => simp [mrem, mget]
  | cons p m ih =>
    obtain ⟨q, w⟩ := p
    simp only [Nd, List.map_cons, List.nodup_cons] at h
    simp only [mrem]
    by_cases hk : k = q
    · subst hk
      simp only [ba_self, if_true, mget]
      by_cases hx : x = k
      · subst hx
        rw [if_pos rfl]
        cases hg : mget m x with
        | none => rfl
        | some v => exact absurd (mget_mem hg) h.1
      · simp [ba_ne hx, hx]
    · simp only [ba_ne hk, Bool.false_eq_true, if_false, mget, ih h.2]
      by_cases hx : x = q
      · subst hx
        simp only [ba_self, if_true]
        rw [if_neg (fun e => hk e.symm)]
      · simp [ba_ne hx]
theorem mem_mrem (m : List (ByteArray × Int)) (k x : ByteArray) (h : x ∈ (mrem m k).map Prod.fst) : x ∈ m.map Prod.fst := by
  induction m with
  | nil => simp [mrem] at h
  | cons p m ih =>
    obtain ⟨q, w⟩ := p
    simp only [mrem] at h
    by_cases hk : k = q
    · subst hk
      simp only [ba_self, if_true] at h
      exact List.mem_cons_of_mem _ h
    · simp only [ba_ne hk, Bool.false_eq_true, if_false, List.map_cons, List.mem_cons] at h
      rcases h with h | h
      · simp [h]
      · exact List.mem_cons_of_mem _ (ih h)
theorem nd_mrem {m : List (ByteArray × Int)} {k : ByteArray} (h : Nd m) : Nd (mrem m k) := by
  induction m with
  | nil => exact h
  | cons p m ih =>
    obtain ⟨q, w⟩ := p
    simp only [Nd, List.map_cons, List.nodup_cons] at h
    simp only [mrem]
    by_cases hk : k = q
    · subst hk
      simp only [ba_self, if_true]
      exact h.2
    · simp only [ba_ne hk, Bool.false_eq_true, if_false, Nd, List.map_cons, List.nodup_cons]
      exact ⟨fun hm => h.1 (mem_mrem m k q hm), ih h.2⟩
end Go.Proofs.Ytamllgdaepjcfaa
