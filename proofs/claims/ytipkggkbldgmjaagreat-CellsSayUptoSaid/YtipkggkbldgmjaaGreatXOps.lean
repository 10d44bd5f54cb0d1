/- Operations that only look. -/
import Derived.Test.YtipkggkbldgmjaaGreatXStep
namespace Go.X
open Go
set_option linter.unusedSectionVars false
set_option linter.unusedSimpArgs false
set_option linter.unusedVariables false
variable [eY]
theorem UF : ∀ l, (ds l).length = l.length
 | [] => rfl
 | x :: r => by simp [ds, UF r]
section frames
variable {bl : List (List eD)} {cl : Nat → Nat} {w : World}
theorem kG : ∀ (bl : List (List eD)) (n l i : Nat), ent (mR bl n) l i = ent bl (l + n) i
 | bl, 0, l, i => by simp [mR]
 | fr :: r, n + 1, l, i => by simp [mR, kG r n l i, ← Nat.add_assoc, ent]
 | [], n + 1, l, i => by simp [mR, ent]
mutual
theorem wh (n : Nat) : ∀ (x : PV) (v : Value), ay (mR bl n) cl w x v → ay bl cl w (down n x) v
 | .d x, v, h => by simpa only [down, ay] using h
 | .agg cs, v, h => by
  simp only [down, ay] at h ⊢
  obtain ⟨vs, h1, h2⟩ := h
  exact ⟨vs, h1, nM n cs vs h2⟩
 | .ptr l i o, v, h => by simpa only [down, ay, kG] using h
 | .bf cs, v, h => by simpa only [down, ay] using h
 | .row l i k, v, h => by simpa only [down, ay, kG] using h
 | .mG l i k x o, v, h => by simpa only [down, ay, kG] using h
 | .fn f cs, v, h => by
  simp only [down, ay] at h ⊢
  obtain ⟨vs, h1, h2⟩ := h
  exact ⟨vs, h1, nM n cs vs h2⟩
 | .map l i, v, h => by simpa only [down, ay, kG] using h
 | .tail l i k o, v, h => by simpa only [down, ay, kG] using h
 | .Bf l i, v, h => by simpa only [down, ay, kG] using h
 | .yV l, v, h => by
  simp only [down, ay] at h ⊢
  obtain ⟨vs, h1, h2⟩ := h
  exact ⟨vs, h1, tC n l vs h2⟩
 | .skip, v, h => by simpa only [down, ay] using h
 | .ub, v, h => by simpa only [down, ay] using h
 | .unk, v, h => by simp only [down, ay]
theorem nM (n : Nat) : ∀ (l : List PV) (vs : List Value), aZ (mR bl n) cl w l vs → aZ bl cl w (down.iM n l) vs
 | [], vs, h => by simpa only [down.iM, aZ] using h
 | x :: r, vs, h => by
  simp only [down.iM, aZ] at h ⊢
  obtain ⟨v, s, h1, h2, h3, h4⟩ := h
  exact ⟨v, s, h1, wh n x v h2, h3, nM n r s h4⟩
theorem tC (n : Nat) : ∀ (l : List PV) (vs : List Value), bL (mR bl n) cl w l vs → bL bl cl w (down.iM n l) vs
 | [], vs, h => by simpa only [down.iM, bL] using h
 | x :: r, vs, h => by
  simp only [down.iM, bL] at h ⊢
  obtain ⟨v, s, h1, h2, h3⟩ := h
  exact ⟨v, s, h1, wh n x v h2, tC n r s h3⟩
end
theorem yK {l n : Nat} {f : Nat → PV} {v : Value} (h : n ≤ l → ay (mR bl n) cl w (f (l - n)) v) : ay (mR bl n) cl w (sub l n f) v := by
 unfold sub
 cases hb : Nat.ble n l with
 | true => simp only [cond_true]; exact h (Nat.le_of_ble_eq_true hb)
 | false => simp only [cond_false, ay]
mutual
theorem DX (n : Nat) : ∀ (x : PV) (v : Value), ay bl cl w x v → ay (mR bl n) cl w (up n x) v
 | .d x, v, h => by simpa only [up, ay] using h
 | .agg cs, v, h => by
  simp only [up, ay] at h ⊢
  obtain ⟨vs, h1, h2⟩ := h
  exact ⟨vs, h1, DY n cs vs h2⟩
 | .ptr l i o, v, h => by
  simp only [up]; refine yK fun hl => ?_
  simp only [ay, kG, Nat.sub_add_cancel hl] at h ⊢; exact h
 | .bf cs, v, h => by simpa only [up, ay] using h
 | .row l i k, v, h => by
  simp only [up]; refine yK fun hl => ?_
  simp only [ay, kG, Nat.sub_add_cancel hl] at h ⊢; exact h
 | .mG l i k x o, v, h => by
  simp only [up]; refine yK fun hl => ?_
  simp only [ay, kG, Nat.sub_add_cancel hl] at h ⊢; exact h
 | .tail l i k o, v, h => by
  simp only [up]; refine yK fun hl => ?_
  simp only [ay, kG, Nat.sub_add_cancel hl] at h ⊢; exact h
 | .fn f cs, v, h => by
  simp only [up, ay] at h ⊢
  obtain ⟨vs, h1, h2⟩ := h
  exact ⟨vs, h1, DY n cs vs h2⟩
 | .map l i, v, h => by
  simp only [up]; refine yK fun hl => ?_
  simp only [ay, kG, Nat.sub_add_cancel hl] at h ⊢; exact h
 | .Bf l i, v, h => by
  simp only [up]; refine yK fun hl => ?_
  simp only [ay, kG, Nat.sub_add_cancel hl] at h ⊢; exact h
 | .yV l, v, h => by
  simp only [up, ay] at h ⊢
  obtain ⟨vs, h1, h2⟩ := h
  exact ⟨vs, h1, rT n l vs h2⟩
 | .skip, v, h => by simp only [up, ay]
 | .ub, v, h => by simpa only [up, ay] using h
 | .unk, v, h => by simp only [up, ay]
theorem DY (n : Nat) : ∀ (l : List PV) (vs : List Value), aZ bl cl w l vs → aZ (mR bl n) cl w (up.ups n l) vs
 | [], vs, h => by simpa only [up.ups, aZ] using h
 | x :: r, vs, h => by
  simp only [up.ups, aZ] at h ⊢
  obtain ⟨v, s, h1, h2, h3, h4⟩ := h
  exact ⟨v, s, h1, DX n x v h2, h3, DY n r s h4⟩
theorem rT (n : Nat) : ∀ (l : List PV) (vs : List Value), bL bl cl w l vs → bL (mR bl n) cl w (up.ups n l) vs
 | [], vs, h => by simpa only [up.ups, bL] using h
 | x :: r, vs, h => by
  simp only [up.ups, bL] at h ⊢
  obtain ⟨v, s, h1, h2, h3⟩ := h
  exact ⟨v, s, h1, DX n x v h2, rT n r s h3⟩
end
theorem aZ.len : ∀ {l : List PV} {vs : List Value}, aZ bl cl w l vs → vs.length = l.length
 | [], vs, h => by simp only [aZ] at h; subst h; rfl
 | x :: r, vs, h => by
  simp only [aZ] at h
  obtain ⟨v, s, rfl, _, _, h4⟩ := h
  simp [h4.len]
theorem aZ.drop : ∀ {l : List PV} {vs : List Value} (n : Nat), aZ bl cl w l vs → aZ bl cl w (l.drop n) (vs.drop n)
 | l, vs, 0, h => by simpa using h
 | [], vs, n + 1, h => by simp only [aZ] at h; subst h; simp [aZ]
 | x :: r, vs, n + 1, h => by
  simp only [aZ] at h
  obtain ⟨v, s, rfl, _, _, h4⟩ := h
  simpa using h4.drop n
theorem aZ.take : ∀ {l : List PV} {vs : List Value} (n : Nat), aZ bl cl w l vs → aZ bl cl w (l.take n) (vs.take n)
 | l, vs, 0, h => by simp [aZ]
 | [], vs, n + 1, h => by simp only [aZ] at h; subst h; simp [aZ]
 | x :: r, vs, n + 1, h => by
  simp only [aZ] at h
  obtain ⟨v, s, rfl, h2, h3, h4⟩ := h
  simp only [List.take_succ_cons, aZ]
  exact ⟨v, _, rfl, h2, h3, h4.take n⟩
theorem aZ.append : ∀ {l k : List PV} {vs us : List Value}, aZ bl cl w l vs → aZ bl cl w k us → aZ bl cl w (l ++ k) (vs ++ us)
 | [], k, vs, us, h, hk => by simp only [aZ] at h; subst h; simpa using hk
 | x :: r, k, vs, us, h, hk => by
  simp only [aZ] at h
  obtain ⟨v, s, rfl, h2, h3, h4⟩ := h
  simp only [List.cons_append, aZ]
  exact ⟨v, _, rfl, h2, h3, h4.append hk⟩
theorem aZ.one : ∀ {l : List PV} {vs : List Value}, aZ bl cl w l vs → ∀ v ∈ vs, v.oneCell' = true
 | [], vs, h => by simp only [aZ] at h; subst h; simp
 | x :: r, vs, h => by
  simp only [aZ] at h
  obtain ⟨v, s, rfl, _, h3, h4⟩ := h
  intro u hu
  rcases List.mem_cons.1 hu with rfl | hu
  ·exact h3
  ·exact h4.one u hu
theorem bL.cells : ∀ {l : List D} {vs : List Value}, dW cl w l vs → aZ bl cl w (ds l) vs
 | [], vs, h => by simp only [dW] at h; subst h; rfl
 | x :: r, vs, h => by
  simp only [dW] at h
  obtain ⟨v, s, rfl, h2, h3⟩ := h
  simp only [ds, aZ]
  exact ⟨v, s, rfl, by simpa only [ay] using h2, h2.one, bL.cells h3⟩
theorem bQ.vals {b : Nat} : ∀ {l : List D} {o : Nat}, bQ cl w b o l → ∃ vs : List Value, aZ bl cl w (ds l) vs ∧ ∀ j v, vs[j]? = some v → w.cell? ⟨b, o + j, none⟩ = some v
 | [], o, h => ⟨[], rfl, by simp⟩
 | d :: r, o, h => by
  simp only [bQ] at h
  obtain ⟨⟨v, h1, h2⟩, h3⟩ := h
  obtain ⟨vs, h4, h5⟩ := h3.vals
  refine ⟨v :: vs, ?_, ?_⟩
  ·simp only [ds, aZ]; exact ⟨v, vs, rfl, by simpa only [ay] using h2, h2.one, h4⟩
  ·intro j u hu
   cases j with
   | zero => simp at hu; subst hu; exact h1
   | succ j => have := h5 j u (by simpa using hu); rw [← this]; congr 2; omega
theorem bQ.drop {b : Nat} : ∀ {l : List D} {o : Nat} (n : Nat), n ≤ l.length → bQ cl w b o l → bQ cl w b (o + n) (l.drop n)
 | l, o, 0, _, h => by simpa using h
 | [], o, n + 1, hn, h => by simp at hn
 | d :: r, o, n + 1, hn, h => by
  simp only [bQ] at h
  have := h.2.drop n (by simpa using hn)
  simpa [Nat.add_assoc, Nat.add_comm 1 n] using this
theorem bW.nth {b sz : Nat} : ∀ {l : List (List D)} {o i : Nat} {r : List D}, bW cl w b o sz l → l[i]? = some r → r.length = sz ∧ bQ cl w b (o + i * sz) r
 | [], _, _, _, _, h => by simp at h
 | x :: rs, o, 0, r, h, hi => by
  simp only [bW] at h; simp at hi; subst hi
  exact ⟨h.1, by simpa using h.2.1⟩
 | x :: rs, o, i + 1, r, h, hi => by
  simp only [bW] at h
  obtain ⟨h1, h2⟩ := h.2.2.nth (i := i) (by simpa using hi)
  exact ⟨h1, by rw [Nat.add_mul, Nat.one_mul, ← Nat.add_assoc, Nat.add_right_comm]; exact h2⟩
end frames
theorem iE (b o n : Nat) : (⟨b, o, none⟩ : Addr).add n = ⟨b, o + n, none⟩ := by unfold Addr.add; split <;> simp_all
theorem Fj {w : World} {b : Nat} {vs : List Value} {t : TypeId} {fr : Nat × Nat} (h : w.heap[b]? = some (.cells vs.toArray t fr)) (off : Nat) : ∀ j v, (vs.drop off)[j]? = some v → w.cell? ⟨b, off + j, none⟩ = some v := by
 intro j v hv
 simp only [World.cell?, h]
 simpa using hv
section
variable {P : Program} {Γ : Tab} {w : World} {bl : List (List eD)} {cl : Nat → Nat}
theorem yZ (hΓ : eO P Γ) {t b o : Nat} {cs : List PV} {vs : List Value} {x : PV} (hp : pack Γ t cs = some x) (hv : aZ bl cl w cs vs) (hc : ∀ j v, vs[j]? = some v → w.cell? ⟨b, o + j, none⟩ = some v) :
  ∃ v, (Instr.loadAt t (.pointer (some ⟨b, o, none⟩))).run P w = .ok v w ∧ ay bl cl w x v := by
 have ht := hΓ.ty t
 unfold lH at ht
 unfold pack at hp
 have scalar : ∀ (d : TypeDesc), P.underlying t = some d → tu d = true → (∃ v r, cs = x :: r ∧ vs[0]? = some v ∧ ay bl cl w x v) → ∃ v, (Instr.loadAt t (.pointer (some ⟨b, o, none⟩))).run P w = .ok v w ∧ ay bl cl w x v := by
  rintro d hd hn ⟨v, r, rfl, h0, h1⟩
  refine ⟨v, ?_, h1⟩
  have hcell := hc 0 v h0
  simp only [Nat.add_zero] at hcell
  cases d <;> first | (simp [tu] at hn; done) | simp [Instr.loadAt, Instr.sureAddr, loadVar, isAgg, run_underlying hd, hcell]
 have hd : ∀ {y : PV}, Bn cs = some y → ∃ v r, cs = y :: r ∧ vs[0]? = some v ∧ ay bl cl w y v := by
  intro y hy
  cases cs with
  | nil => simp [Bn] at hy
  | cons z r =>
   simp [Bn] at hy; subst hy
   simp only [aZ] at hv
   obtain ⟨v, s, rfl, h2, _, _⟩ := hv
   exact ⟨v, r, rfl, by simp, h2⟩
 cases hty : Γ.ty t with
 | int k => simp only [hty] at ht hp; exact scalar _ ht rfl (hd hp)
 | bool => simp only [hty] at ht hp; exact scalar _ ht rfl (hd hp)
 | str => simp only [hty] at ht hp; exact scalar _ ht rfl (hd hp)
 | ptr e => simp only [hty] at ht hp; exact scalar _ ht rfl (hd hp)
 | sc => simp only [hty] at ht hp; obtain ⟨d, h1, h2⟩ := ht; exact scalar d h1 h2 (hd hp)
 | map k e => simp only [hty] at ht hp; exact scalar _ ht rfl (hd hp)
 | slice e sz pz => simp only [hty] at ht hp; exact scalar _ ht.1 rfl (hd hp)
 | array n e => simp [hty] at hp
 | bad => simp [hty] at hp
 | agg n fs =>
  simp only [hty] at ht hp
  obtain ⟨fields, h1, ⟨i, hi, hn⟩, _⟩ := ht
  cases hb : Nat.ble n cs.length with
  | false => simp [hb] at hp
  | true =>
   simp only [hb, cond_true, Option.some.injEq] at hp
   subst hp
   have hle := Nat.le_of_ble_eq_true hb
   have hvt := hv.take n
   refine ⟨.agg (vs.take n).toArray, ?_, ?_⟩
   ·have hlen : (vs.take n).length = n := by rw [List.length_take, hv.len]; omega
    have hload := run_loadCells_list (P := P) (w := w) ⟨b, o, none⟩ (vs.take n) (fun j v hj => by
     rw [iE]
     refine hc j v ?_
     rw [List.getElem?_take] at hj
     split at hj
     ·exact hj
     ·cases hj)
    rw [hlen] at hload
    simp [Instr.loadAt, Instr.sureAddr, loadVar, isAgg, run_underlying h1, sizeOf, typeInfo, hi, hn, hload]
   ·simp only [ay]; exact ⟨_, rfl, hvt⟩
end
end Go.X
