/- slices.DeleteFunc on plain data, for all types of elements. -/
import Derived.Test.YtipkggkbldgmjaaWGL0
namespace Go.X
open Go
set_option linter.unusedVariables false
set_option linter.unusedSimpArgs false
def stDel {A : Type} (p : A → Option Bool) : (List A × Int × Int) → Option ((List A × Int × Int) ⊕ (List A × Int × Int))
  | (l, i, j) =>
    bif decide (j < ln l) then
      (idx l j).bind fun x => (p x).bind fun b =>
        (bif !b then (idx l i).bind fun _ => some (List.set l (Int.toNat i) x, w64 (i + 1)) else some (l, i)).bind fun (q : List A × Int) => match q with | (l', i') => some (.inl (l', i', w64 (j + 1)))
    else some (.inr (l, i, j))
theorem del_loop {A : Type} {p : A → Option Bool} {l : List A} (q : A → Bool) (hn : l.length ≤ 8796093022208) (hp : ∀ x ∈ l, p x = some (q x)) :
    ∀ (d k i : Nat) (o : List A), k + d = l.length → i < k → i ≤ o.length → o.length = l.length → o.take i = (l.take k).filter (fun x => !q x) → o.drop k = l.drop k →
      ∃ o', wl (stDel p) (o, (i : Int), (k : Int)) = some (o', ((l.filter (fun x => !q x)).length : Int), (l.length : Int)) ∧ o'.length = l.length ∧ o'.take (l.filter (fun x => !q x)).length = l.filter (fun x => !q x) := by
  intro d
  induction d with
  | zero =>
    intro k i o hk hi hi2 ho h1 h2
    obtain rfl : k = l.length := by omega
    have hf : o.take i = l.filter (fun x => !q x) := by rw [h1, List.take_length]
    have hlen : i = (l.filter (fun x => !q x)).length := by rw [← hf, List.length_take]; omega
    refine ⟨o, ?_, ho, by rw [← hlen]; exact hf⟩
    rw [← hlen]
    refine wl_inr ?_
    have : decide (((l.length : Nat) : Int) < ln o) = false := by simp [ln, ho]
    simp only [stDel, this, cond_false]
  | succ d ih =>
    intro k i o hk hi hi2 ho h1 h2
    have hkl : k < l.length := by omega
    have hko : k < o.length := by omega
    have hio : i < o.length := by omega
    have hx : o[k] = l[k] := by
      have := congrArg (fun t => t[0]?) h2
      simpa [List.getElem?_drop, List.getElem?_eq_getElem hko, List.getElem?_eq_getElem hkl] using this
    have hlt : decide ((k : Int) < ln o) = true := by simp [ln]; omega
    have hpx := hp l[k] (List.getElem_mem hkl)
    have ht : l.take (k + 1) = l.take k ++ [l[k]] := take_snoc' l k hkl
    cases hq : q l[k] with
    | true =>
      rw [hq] at hpx
      have hst : stDel p (o, (i : Int), (k : Int)) = some (.inl (o, (i : Int), ((k + 1 : Nat) : Int))) := by
        simp only [stDel, hlt, cond_true, idx_lt o k hko, hx, Option.bind_some, hpx, Bool.not_true, cond_false, w64_succ (show k < 9223372036854775807 by omega)]
      rw [wl_inl hst]
      refine ih (k + 1) i o (by omega) (by omega) hi2 ho ?_ ?_
      · rw [h1, ht, List.filter_append]; simp [hq]
      · rw [← List.drop_drop, h2, List.drop_drop]
    | false =>
      rw [hq] at hpx
      have hst : stDel p (o, (i : Int), (k : Int)) = some (.inl (o.set i l[k], ((i + 1 : Nat) : Int), ((k + 1 : Nat) : Int))) := by
        simp only [stDel, hlt, cond_true, idx_lt o k hko, idx_lt o i hio, hx, Option.bind_some, hpx, Bool.not_false, Int.toNat_natCast, w64_succ (show k < 9223372036854775807 by omega), w64_succ (show i < 9223372036854775807 by omega)]
      rw [wl_inl hst]
      refine ih (k + 1) (i + 1) (o.set i l[k]) (by omega) (by omega) (by simp; omega) (by simpa using ho) ?_ ?_
      · rw [ht, List.filter_append, ← h1]
        simp only [List.filter_cons, hq, Bool.not_false, if_true, List.filter_nil]
        rw [List.take_add_one, List.getElem?_set_self hio]
        rw [List.take_set_of_le (Nat.le_refl i)]
        rfl
      · rw [List.drop_set_of_lt (by omega), ← List.drop_drop, h2, List.drop_drop]
/-- What is done with the place that a search has told. -/
noncomputable def delP {A : Type} (z : A) (st : (List A × Int × Int) → Option ((List A × Int × Int) ⊕ (List A × Int × Int))) (a : List A) (r : Int) : Option (List A) :=
  bif r == (-1) then some a else
    (wl st (a, r, w64 (r + 1))).bind fun q =>
      match q with
      | (o, i, j) =>
        bif decide (0 ≤ i) then bif decide (i ≤ ln o) then bif decide (0 ≤ i) then bif decide (i ≤ ln o) then
          some (cut ((cut o 0 i) ++ (List.replicate (Int.toNat (ln o - i)) z)) 0 i) else none else none else none else none
theorem del_ok {A : Type} {z : A} {p : A → Option Bool} {l : List A} (q : A → Bool) (hn : l.length ≤ 8796093022208) (hp : ∀ x ∈ l, p x = some (q x)) :
    delP z (stDel p) l (placeOf (l.findIdx? q)) = some (l.filter fun x => !q x) := by
  unfold delP
  cases hf : l.findIdx? q with
  | none =>
    have h := List.findIdx?_eq_none_iff.1 hf
    have : (placeOf none == -1) = true := rfl
    rw [this, cond_true]
    congr 1
    exact (List.filter_eq_self.2 (fun x hx => by simp [h x hx])).symm
  | some r =>
    obtain ⟨hr, h1, h2⟩ := List.findIdx?_eq_some_iff_getElem.1 hf
    have e : (placeOf (some r) == -1) = false := by simp [placeOf]
    have hall : (l.take r).filter (fun x => !q x) = l.take r := List.filter_eq_self.2 (fun x hx => by
      obtain ⟨i, hi, rfl⟩ := List.mem_iff_getElem.1 hx
      simp only [List.length_take] at hi
      have := h2 i (by omega)
      simp only [List.getElem_take]
      simpa using this)
    obtain ⟨o, w1, w2, w3⟩ := del_loop (p := p) q hn hp (l.length - (r + 1)) (r + 1) r l (by omega) (by omega) (by omega) rfl (by
      rw [take_snoc' l r hr, List.filter_append, hall]; simp [h1]) rfl
    rw [e, cond_false]
    show Option.bind (wl (stDel p) (l, (r : Int), w64 ((r : Int) + 1))) _ = _
    rw [w64_succ (show r < 9223372036854775807 by omega), w1]
    simp only [Option.bind_some]
    have hle : (l.filter fun x => !q x).length ≤ l.length := List.length_filter_le _ _
    have e1 : decide (0 ≤ ((l.filter fun x => !q x).length : Int)) = true := by simp
    have e2 : decide (((l.filter fun x => !q x).length : Int) ≤ ln o) = true := by simp [ln, w2]; exact hle
    simp only [e1, e2, cond_true]
    congr 1
    simp only [cut, Int.toNat_natCast, w3]
    simp
end Go.X
