/- Operations that only look. -/
import Derived.Test.YtdmpjlpkmokllaaDoorXStep
namespace Go.X
open Go
set_option linter.unusedSectionVars false
set_option linter.unusedSimpArgs false
set_option linter.unusedVariables false
variable [Sites]

theorem downs_len (n : Nat) : ∀ l, (down.downs n l).length = l.length
  | [] => rfl
  | x :: r => by simp [down.downs, downs_len n r]
theorem ds_len : ∀ l, (ds l).length = l.length
  | [] => rfl
  | x :: r => by simp [ds, ds_len r]

section frames
variable {bl : List (List Ent)} {cl : Nat → Nat} {w : World}
theorem ent_upE : ∀ (bl : List (List Ent)) (n l i : Nat), ent (upE bl n) l i = ent bl (l + n) i
  | bl, 0, l, i => by simp [upE]
  | fr :: r, n + 1, l, i => by simp [upE, ent_upE r n l i, ← Nat.add_assoc, ent]
  | [], n + 1, l, i => by simp [upE, ent]
mutual
theorem down_rel (n : Nat) : ∀ (x : PV) (v : Value), VRel (upE bl n) cl w x v → VRel bl cl w (down n x) v
  | .d x, v, h => by simpa only [down, VRel] using h
  | .agg cs, v, h => by
    simp only [down, VRel] at h ⊢
    obtain ⟨vs, h1, h2⟩ := h
    exact ⟨vs, h1, downs_cells n cs vs h2⟩
  | .ptr l i o, v, h => by simpa only [down, VRel, ent_upE] using h
  | .eptr cs, v, h => by simpa only [down, VRel] using h
  | .row l i k, v, h => by simpa only [down, VRel, ent_upE] using h
  | .rptr l i k x o, v, h => by simpa only [down, VRel, ent_upE] using h
  | .fn f cs, v, h => by
    simp only [down, VRel] at h ⊢
    obtain ⟨vs, h1, h2⟩ := h
    exact ⟨vs, h1, downs_cells n cs vs h2⟩
  | .map l i, v, h => by simpa only [down, VRel, ent_upE] using h
  | .tail l i k o, v, h => by simpa only [down, VRel, ent_upE] using h
  | .yld l i, v, h => by simpa only [down, VRel, ent_upE] using h
  | .tup l, v, h => by
    simp only [down, VRel] at h ⊢
    obtain ⟨vs, h1, h2⟩ := h
    exact ⟨vs, h1, downs_list n l vs h2⟩
  | .skip, v, h => by simpa only [down, VRel] using h
  | .ub, v, h => by simpa only [down, VRel] using h
  | .unk, v, h => by simp only [down, VRel]
theorem downs_cells (n : Nat) : ∀ (l : List PV) (vs : List Value), VCells (upE bl n) cl w l vs → VCells bl cl w (down.downs n l) vs
  | [], vs, h => by simpa only [down.downs, VCells] using h
  | x :: r, vs, h => by
    simp only [down.downs, VCells] at h ⊢
    obtain ⟨v, s, h1, h2, h3, h4⟩ := h
    exact ⟨v, s, h1, down_rel n x v h2, h3, downs_cells n r s h4⟩
theorem downs_list (n : Nat) : ∀ (l : List PV) (vs : List Value), VList (upE bl n) cl w l vs → VList bl cl w (down.downs n l) vs
  | [], vs, h => by simpa only [down.downs, VList] using h
  | x :: r, vs, h => by
    simp only [down.downs, VList] at h ⊢
    obtain ⟨v, s, h1, h2, h3⟩ := h
    exact ⟨v, s, h1, down_rel n x v h2, downs_list n r s h3⟩
end
theorem sub_rel {l n : Nat} {f : Nat → PV} {v : Value} (h : n ≤ l → VRel (upE bl n) cl w (f (l - n)) v) : VRel (upE bl n) cl w (sub l n f) v := by
  unfold sub
  cases hb : Nat.ble n l with
  | true => simp only [cond_true]; exact h (Nat.le_of_ble_eq_true hb)
  | false => simp only [cond_false, VRel]
mutual
theorem up_rel (n : Nat) : ∀ (x : PV) (v : Value), VRel bl cl w x v → VRel (upE bl n) cl w (up n x) v
  | .d x, v, h => by simpa only [up, VRel] using h
  | .agg cs, v, h => by
    simp only [up, VRel] at h ⊢
    obtain ⟨vs, h1, h2⟩ := h
    exact ⟨vs, h1, ups_cells n cs vs h2⟩
  | .ptr l i o, v, h => by
    simp only [up]; refine sub_rel fun hl => ?_
    simp only [VRel, ent_upE, Nat.sub_add_cancel hl] at h ⊢; exact h
  | .eptr cs, v, h => by simpa only [up, VRel] using h
  | .row l i k, v, h => by
    simp only [up]; refine sub_rel fun hl => ?_
    simp only [VRel, ent_upE, Nat.sub_add_cancel hl] at h ⊢; exact h
  | .rptr l i k x o, v, h => by
    simp only [up]; refine sub_rel fun hl => ?_
    simp only [VRel, ent_upE, Nat.sub_add_cancel hl] at h ⊢; exact h
  | .tail l i k o, v, h => by
    simp only [up]; refine sub_rel fun hl => ?_
    simp only [VRel, ent_upE, Nat.sub_add_cancel hl] at h ⊢; exact h
  | .fn f cs, v, h => by
    simp only [up, VRel] at h ⊢
    obtain ⟨vs, h1, h2⟩ := h
    exact ⟨vs, h1, ups_cells n cs vs h2⟩
  | .map l i, v, h => by
    simp only [up]; refine sub_rel fun hl => ?_
    simp only [VRel, ent_upE, Nat.sub_add_cancel hl] at h ⊢; exact h
  | .yld l i, v, h => by
    simp only [up]; refine sub_rel fun hl => ?_
    simp only [VRel, ent_upE, Nat.sub_add_cancel hl] at h ⊢; exact h
  | .tup l, v, h => by
    simp only [up, VRel] at h ⊢
    obtain ⟨vs, h1, h2⟩ := h
    exact ⟨vs, h1, ups_list n l vs h2⟩
  | .skip, v, h => by simp only [up, VRel]
  | .ub, v, h => by simpa only [up, VRel] using h
  | .unk, v, h => by simp only [up, VRel]
theorem ups_cells (n : Nat) : ∀ (l : List PV) (vs : List Value), VCells bl cl w l vs → VCells (upE bl n) cl w (up.ups n l) vs
  | [], vs, h => by simpa only [up.ups, VCells] using h
  | x :: r, vs, h => by
    simp only [up.ups, VCells] at h ⊢
    obtain ⟨v, s, h1, h2, h3, h4⟩ := h
    exact ⟨v, s, h1, up_rel n x v h2, h3, ups_cells n r s h4⟩
theorem ups_list (n : Nat) : ∀ (l : List PV) (vs : List Value), VList bl cl w l vs → VList (upE bl n) cl w (up.ups n l) vs
  | [], vs, h => by simpa only [up.ups, VList] using h
  | x :: r, vs, h => by
    simp only [up.ups, VList] at h ⊢
    obtain ⟨v, s, h1, h2, h3⟩ := h
    exact ⟨v, s, h1, up_rel n x v h2, ups_list n r s h3⟩
end

theorem VCells.len : ∀ {l : List PV} {vs : List Value}, VCells bl cl w l vs → vs.length = l.length
  | [], vs, h => by simp only [VCells] at h; subst h; rfl
  | x :: r, vs, h => by
    simp only [VCells] at h
    obtain ⟨v, s, rfl, _, _, h4⟩ := h
    simp [h4.len]
theorem VCells.drop : ∀ {l : List PV} {vs : List Value} (n : Nat), VCells bl cl w l vs → VCells bl cl w (l.drop n) (vs.drop n)
  | l, vs, 0, h => by simpa using h
  | [], vs, n + 1, h => by simp only [VCells] at h; subst h; simp [VCells]
  | x :: r, vs, n + 1, h => by
    simp only [VCells] at h
    obtain ⟨v, s, rfl, _, _, h4⟩ := h
    simpa using h4.drop n
theorem VCells.take : ∀ {l : List PV} {vs : List Value} (n : Nat), VCells bl cl w l vs → VCells bl cl w (l.take n) (vs.take n)
  | l, vs, 0, h => by simp [VCells]
  | [], vs, n + 1, h => by simp only [VCells] at h; subst h; simp [VCells]
  | x :: r, vs, n + 1, h => by
    simp only [VCells] at h
    obtain ⟨v, s, rfl, h2, h3, h4⟩ := h
    simp only [List.take_succ_cons, VCells]
    exact ⟨v, _, rfl, h2, h3, h4.take n⟩
theorem VCells.append : ∀ {l k : List PV} {vs us : List Value}, VCells bl cl w l vs → VCells bl cl w k us → VCells bl cl w (l ++ k) (vs ++ us)
  | [], k, vs, us, h, hk => by simp only [VCells] at h; subst h; simpa using hk
  | x :: r, k, vs, us, h, hk => by
    simp only [VCells] at h
    obtain ⟨v, s, rfl, h2, h3, h4⟩ := h
    simp only [List.cons_append, VCells]
    exact ⟨v, _, rfl, h2, h3, h4.append hk⟩
theorem VCells.one : ∀ {l : List PV} {vs : List Value}, VCells bl cl w l vs → ∀ v ∈ vs, v.oneCell' = true
  | [], vs, h => by simp only [VCells] at h; subst h; simp
  | x :: r, vs, h => by
    simp only [VCells] at h
    obtain ⟨v, s, rfl, _, h3, h4⟩ := h
    intro u hu
    rcases List.mem_cons.1 hu with rfl | hu
    · exact h3
    · exact h4.one u hu
theorem VList.cells : ∀ {l : List D} {vs : List Value}, DList cl w l vs → VCells bl cl w (ds l) vs
  | [], vs, h => by simp only [DList] at h; subst h; rfl
  | x :: r, vs, h => by
    simp only [DList] at h
    obtain ⟨v, s, rfl, h2, h3⟩ := h
    simp only [ds, VCells]
    exact ⟨v, s, rfl, by simpa only [VRel] using h2, h2.one, VList.cells h3⟩
/-- Cells that lie claimed, as values. -/
theorem DCells.vals {b : Nat} : ∀ {l : List D} {o : Nat}, DCells cl w b o l → ∃ vs : List Value, VCells bl cl w (ds l) vs ∧ ∀ j v, vs[j]? = some v → w.cell? ⟨b, o + j, none⟩ = some v
  | [], o, h => ⟨[], rfl, by simp⟩
  | d :: r, o, h => by
    simp only [DCells] at h
    obtain ⟨⟨v, h1, h2⟩, h3⟩ := h
    obtain ⟨vs, h4, h5⟩ := h3.vals
    refine ⟨v :: vs, ?_, ?_⟩
    · simp only [ds, VCells]; exact ⟨v, vs, rfl, by simpa only [VRel] using h2, h2.one, h4⟩
    · intro j u hu
      cases j with
      | zero => simp at hu; subst hu; exact h1
      | succ j => have := h5 j u (by simpa using hu); rw [← this]; congr 2; omega
theorem DCells.drop {b : Nat} : ∀ {l : List D} {o : Nat} (n : Nat), n ≤ l.length → DCells cl w b o l → DCells cl w b (o + n) (l.drop n)
  | l, o, 0, _, h => by simpa using h
  | [], o, n + 1, hn, h => by simp at hn
  | d :: r, o, n + 1, hn, h => by
    simp only [DCells] at h
    have := h.2.drop n (by simpa using hn)
    simpa [Nat.add_assoc, Nat.add_comm 1 n] using this
theorem DRows.nth {b sz : Nat} : ∀ {l : List (List D)} {o i : Nat} {r : List D}, DRows cl w b o sz l → l[i]? = some r → r.length = sz ∧ DCells cl w b (o + i * sz) r
  | [], _, _, _, _, h => by simp at h
  | x :: rs, o, 0, r, h, hi => by
    simp only [DRows] at h; simp at hi; subst hi
    exact ⟨h.1, by simpa using h.2.1⟩
  | x :: rs, o, i + 1, r, h, hi => by
    simp only [DRows] at h
    obtain ⟨h1, h2⟩ := h.2.2.nth (i := i) (by simpa using hi)
    exact ⟨h1, by rw [Nat.add_mul, Nat.one_mul, ← Nat.add_assoc, Nat.add_right_comm]; exact h2⟩
end frames
theorem add_none (b o n : Nat) : (⟨b, o, none⟩ : Addr).add n = ⟨b, o + n, none⟩ := by unfold Addr.add; split <;> simp_all

/-- Cells of a place, as the machine loads them. -/
theorem cells_block {w : World} {b : Nat} {vs : List Value} {t : TypeId} {fr : Nat × Nat} (h : w.heap[b]? = some (.cells vs.toArray t fr)) (off : Nat) : ∀ j v, (vs.drop off)[j]? = some v → w.cell? ⟨b, off + j, none⟩ = some v := by
  intro j v hv
  simp only [World.cell?, h]
  simpa using hv
section
variable {P : Program} {Γ : Tab} {w : World} {bl : List (List Ent)} {cl : Nat → Nat}
theorem run_load_pack (hΓ : TabOK P Γ) {t b o : Nat} {cs : List PV} {vs : List Value} {x : PV} (hp : pack Γ t cs = some x) (hv : VCells bl cl w cs vs) (hc : ∀ j v, vs[j]? = some v → w.cell? ⟨b, o + j, none⟩ = some v) :
    ∃ v, (Instr.loadAt t (.pointer (some ⟨b, o, none⟩))).run P w = .ok v w ∧ VRel bl cl w x v := by
  have ht := hΓ.ty t
  unfold TyOK at ht
  unfold pack at hp
  have scalar : ∀ (d : TypeDesc), P.underlying t = some d → notAgg d = true → (∃ v r, cs = x :: r ∧ vs[0]? = some v ∧ VRel bl cl w x v) → ∃ v, (Instr.loadAt t (.pointer (some ⟨b, o, none⟩))).run P w = .ok v w ∧ VRel bl cl w x v := by
    rintro d hd hn ⟨v, r, rfl, h0, h1⟩
    refine ⟨v, ?_, h1⟩
    have hcell := hc 0 v h0
    simp only [Nat.add_zero] at hcell
    cases d <;> first | (simp [notAgg] at hn; done) | simp [Instr.loadAt, Instr.sureAddr, loadVar, isAgg, run_underlying hd, hcell]
  have hd : ∀ {y : PV}, headO cs = some y → ∃ v r, cs = y :: r ∧ vs[0]? = some v ∧ VRel bl cl w y v := by
    intro y hy
    cases cs with
    | nil => simp [headO] at hy
    | cons z r =>
      simp [headO] at hy; subst hy
      simp only [VCells] at hv
      obtain ⟨v, s, rfl, h2, _, _⟩ := hv
      exact ⟨v, r, rfl, by simp, h2⟩
  cases hty : Γ.ty t with
  | int k => simp only [hty] at ht hp; exact scalar _ ht rfl (hd hp)
  | bool => simp only [hty] at ht hp; exact scalar _ ht rfl (hd hp)
  | str => simp only [hty] at ht hp; exact scalar _ ht rfl (hd hp)
  | ptr e => simp only [hty] at ht hp; exact scalar _ ht rfl (hd hp)
  | sc => simp only [hty] at ht hp; obtain ⟨d, h1, h2⟩ := ht; exact scalar d h1 h2 (hd hp)
  | map k e => simp only [hty] at ht hp; exact scalar _ ht rfl (hd hp)
  | slice e sz by_ => simp only [hty] at ht hp; exact scalar _ ht.1 rfl (hd hp)
  | array n e => simp [hty] at hp
  | bad => simp [hty] at hp
  | agg n fs =>
    simp only [hty] at ht hp
    obtain ⟨fields, h1, ⟨i, hi, hn⟩, _⟩ := ht
    cases hb : Nat.ble n cs.length with
    | false => simp [hb] at hp
    | true =>
      simp only [hb, cond_true, Option.some.injEq] at hp
      subst hp
      have hle := Nat.le_of_ble_eq_true hb
      have hvt := hv.take n
      refine ⟨.agg (vs.take n).toArray, ?_, ?_⟩
      · have hlen : (vs.take n).length = n := by rw [List.length_take, hv.len]; omega
        have hload := run_loadCells_list (P := P) (w := w) ⟨b, o, none⟩ (vs.take n) (fun j v hj => by
          rw [add_none]
          refine hc j v ?_
          rw [List.getElem?_take] at hj
          split at hj
          · exact hj
          · cases hj)
        rw [hlen] at hload
        simp [Instr.loadAt, Instr.sureAddr, loadVar, isAgg, run_underlying h1, sizeOf, typeInfo, hi, hn, hload]
      · simp only [VRel]; exact ⟨_, rfl, hvt⟩
end
end Go.X
