/- tapestrylaw13.CellsRun, on plain data. -/
import Derived.Test.YtipkggkbldgmjaaKRL2
namespace Go.Proofs.Ytipkggkbldgmjaa
open Go Go.X
set_option linter.unusedVariables false
set_option linter.unusedSimpArgs false
set_option maxRecDepth 100000
def outR : Int ⊕ Int → (Bool × Int) ⊕ (Bool × Int)
  | .inl i => .inl (false, i)
  | .inr i => .inr (true, i)
theorem refRuns_ok (fu : Nat) (a b : List Value) {q : Int ⊕ Int} (h : wl (stAll a b (P33 fu)) 0 = some q) :
    wl (P15_s0 fu a b) (false, 0) = some (outR q) := by
  have := wl_sim (f := stAll a b (P33 fu)) (f' := P15_s0 fu a b) (fun i => (false, i)) outR (fun i q hq => by
    unfold P15_s0
    unfold stAll at hq
    dsimp only
    cases hd : decide (i < ln a) with
    | false =>
      rw [hd] at hq
      cases hq
      rfl
    | true =>
      rw [hd] at hq
      simp only [cond_true] at hq ⊢
      obtain ⟨x, hx, hq⟩ := Option.bind_eq_some_iff.1 hq
      obtain ⟨y, hy, hq⟩ := Option.bind_eq_some_iff.1 hq
      obtain ⟨r, hr, hq⟩ := Option.bind_eq_some_iff.1 hq
      rw [hx, hy]
      obtain ⟨_, _, _, ⟨_, _⟩, ⟨_, _⟩, _, _, _⟩ := x
      obtain ⟨_, _, _, ⟨_, _⟩, ⟨_, _⟩, _, _, _⟩ := y
      simp only [Option.bind_some]
      rw [hr]
      cases r <;> cases hq <;> rfl) 0 q h
  exact this
theorem le_sum {l : List Value} : ∀ v ∈ l, SizeOf.sizeOf v ≤ SizeOf.sizeOf l := fun v hv => Nat.le_of_lt (List.sizeOf_lt_of_mem hv)
theorem cellsRun_true (a b : Sl Value) (ha : WT tab 24 [es_Value a]) (hb : WT tab 24 [es_Value b]) : ∃ fu, P5 fu a b = some true := by
  obtain ⟨a, ax⟩ := a
  obtain ⟨b, bx⟩ := b
  have parts : ∀ {l : List Value} {x : Option (List Value)}, WT tab 24 [es_Value ⟨l, x⟩] → l.length * 112 ≤ reachBytes ∧ ∀ v ∈ l, OKV v := by
    intro l x h
    obtain ⟨r, q, e, h1, h2, _⟩ := h.slice_room ty_24
    simp only [es_Value, List.cons.injEq, D.sl.injEq] at e
    obtain ⟨⟨rfl, _⟩, _⟩ := e
    rw [el_Value_map] at h1 h2
    simp only [List.length_map, List.mem_map, forall_exists_index, and_imp, forall_apply_eq_imp_iff₂, Nat.add_mul] at h1 h2
    exact ⟨by omega, h2⟩
  obtain ⟨a1, a2⟩ := parts ha
  obtain ⟨b1, b2⟩ := parts hb
  let N := SizeOf.sizeOf a + SizeOf.sizeOf b
  have hNa : ∀ v ∈ a, SizeOf.sizeOf v ≤ N := fun v hv => by have := le_sum v hv; show _ ≤ SizeOf.sizeOf a + SizeOf.sizeOf b; omega
  have hNb : ∀ v ∈ b, SizeOf.sizeOf v ≤ N := fun v hv => by have := le_sum v hv; show _ ≤ SizeOf.sizeOf a + SizeOf.sizeOf b; omega
  obtain ⟨ta, t1, t2, t3⟩ := twin_Vs (n := 4 * N) (x := ax) hNa (Nat.le_refl _) a1 a2
  obtain ⟨tb, u1, u2, u3⟩ := twin_Vs (n := 4 * N) (x := bx) hNb (Nat.le_refl _) b1 b2
  have hla := len_room (by omega) a1
  refine ⟨4 * N + 1, ?_⟩
  have hl1 := left_Vs (n := 4 * N) (x := ax) t2 t3 (Nat.le_refl _) a1 a2
  have hl2 := left_Vs (n := 4 * N) (x := bx) u2 u3 (Nat.le_refl _) b1 b2
  have hruns : ∃ r, P14 (4 * N + 1) ⟨ta, some [spareV]⟩ ⟨tb, some [spareV]⟩ = some r ∧ P15 (4 * N + 1) ⟨a, ax⟩ ⟨b, bx⟩ = some r := by
    unfold P14 P15 P36
    dsimp only
    rw [eqV_st]
    by_cases hl : a.length = b.length
    · have e1 : (!(ln a == ln b)) = false := by simp [ln, hl]
      have e2 : (!(ln ta == ln tb)) = false := by simp [ln, t2, u2, hl]
      simp only [e1, e2, cond_false]
      obtain ⟨r, w1, w2⟩ := both2 (a := ta) (b := tb) (a' := a) (b' := b) (p := P32 (4 * N + 1)) (p' := P33 (4 * N + 1)) (n := a.length) t2 (by omega) rfl hl.symm (by omega) (fun i x y x' y' hx hy hx' hy' =>
        same_ali N (4 * N + 1) (4 * N + 1) x' y' x y (Tw.ali _ _ _ (t3 i _ _ hx hx')) (Tw.ali _ _ _ (u3 i _ _ hy hy')) (by omega) (by omega) (a2 _ (List.mem_of_getElem? hx')))
      refine ⟨!r, ?_, ?_⟩
      · rw [w1.use (t := some true) (f := some false) (fun _ => rfl) (fun _ => rfl)]; cases r <;> rfl
      · cases hq : wl (stAll a b (P33 (4 * N + 1))) 0 with
        | none =>
          have := w2.use (g := fun _ => some ()) (t := some ()) (f := some ()) (fun _ => rfl) (fun _ => rfl)
          rw [hq] at this
          cases r <;> cases this
        | some q =>
          rw [refRuns_ok _ a b hq]
          have := w2.use (g := fun q => some (match q with | .inl _ => true | .inr _ => false)) (t := some true) (f := some false) (fun _ => rfl) (fun _ => rfl)
          rw [hq] at this
          cases q <;> cases r <;> first | rfl | cases this
    · have e1 : (!(ln a == ln b)) = true := by simp [ln]; omega
      have e2 : (!(ln ta == ln tb)) = true := by simp [ln]; omega
      simp only [e1, e2, cond_true]
      exact ⟨true, rfl, rfl⟩
  obtain ⟨r, r1, r2⟩ := hruns
  unfold P5
  dsimp only
  simp only [t1, u1, r1, r2, hl1, hl2, Option.bind_some, beq_self_eq_true, cond_true, P17]
theorem law5 (ls : List (List D)) (h : WTs tab [24, 24] ls) : call S 5 (argsPV tab [24, 24] ls) [] = some (.d (.bool true), []) := by
  obtain ⟨l1, _, rfl, h1, l2, _, rfl, h2, rfl⟩ := h
  obtain ⟨a, rfl⟩ := wt_24 h1
  obtain ⟨b, rfl⟩ := wt_24 h2
  obtain ⟨fu, hp⟩ := cellsRun_true a b h1 h2
  refine call_of (ok5 rfl rfl hp ?_ [])
  obtain ⟨_, _⟩ := a
  obtain ⟨_, _⟩ := b
  rfl
end Go.Proofs.Ytipkggkbldgmjaa
