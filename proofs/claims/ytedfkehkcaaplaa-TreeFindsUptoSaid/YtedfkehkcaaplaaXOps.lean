/- T -/
import Derived.Test.YtedfkehkcaaplaaXStep
namespace Go.X
open Go
set_option linter.unusedVariables false
variable [bY]
theorem Nh : ∀ l, (ds l).length = l.length
 | [] => rfl
 | x :: r => by simp [ds, Nh r]
section frames
variable {bl : List (List bZ)} {cl : Nat → Nat} {w : World}
theorem jM : ∀ (bl : List (List bZ)) (n l i : Nat), ent (mG bl n) l i = ent bl (l + n) i
 | bl, 0, l, i => by simp [mG]
 | fr :: r, n + 1, l, i => by simp [mG, jM r n l i, ← Nat.add_assoc, ent]
 | [], n + 1, l, i => by simp [mG, ent]
mutual
theorem uf (n : Nat) : ∀ (x : PV) (v : Value), aj (mG bl n) cl w x v → aj bl cl w (down n x) v
 | .d x, v, h => by simpa only [down, aj] using h
 | .agg cs, v, h => by
  simp only [down, aj] at h ⊢
  obtain ⟨vs, h1, h2⟩ := h
  exact ⟨vs, h1, ny n cs vs h2⟩
 | .ptr l i o, v, h => by simpa only [down, aj, jM] using h
 | .aS cs, v, h => by simpa only [down, aj] using h
 | .row l i k, v, h => by simpa only [down, aj, jM] using h
 | .kL l i k x o, v, h => by simpa only [down, aj, jM] using h
 | .fn f cs, v, h => by
  simp only [down, aj] at h ⊢
  obtain ⟨vs, h1, h2⟩ := h
  exact ⟨vs, h1, ny n cs vs h2⟩
 | .map l i, v, h => by simpa only [down, aj, jM] using h
 | .tail l i k o, v, h => by simpa only [down, aj, jM] using h
 | .jv l i, v, h => by simpa only [down, aj, jM] using h
 | .pG l, v, h => by
  simp only [down, aj] at h ⊢
  obtain ⟨vs, h1, h2⟩ := h
  exact ⟨vs, h1, rV n l vs h2⟩
 | .skip, v, h => by simpa only [down, aj] using h
 | .ub, v, h => by simpa only [down, aj] using h
 | .unk, v, h => by simp only [down, aj]
theorem ny (n : Nat) : ∀ (l : List PV) (vs : List Value), aF (mG bl n) cl w l vs → aF bl cl w (down.fA n l) vs
 | [], vs, h => by simpa only [down.fA, aF] using h
 | x :: r, vs, h => by
  simp only [down.fA, aF] at h ⊢
  obtain ⟨v, s, h1, h2, h3, h4⟩ := h
  exact ⟨v, s, h1, uf n x v h2, h3, ny n r s h4⟩
theorem rV (n : Nat) : ∀ (l : List PV) (vs : List Value), aK (mG bl n) cl w l vs → aK bl cl w (down.fA n l) vs
 | [], vs, h => by simpa only [down.fA, aK] using h
 | x :: r, vs, h => by
  simp only [down.fA, aK] at h ⊢
  obtain ⟨v, s, h1, h2, h3⟩ := h
  exact ⟨v, s, h1, uf n x v h2, rV n r s h3⟩
end
theorem vL {l n : Nat} {f : Nat → PV} {v : Value} (h : n ≤ l → aj (mG bl n) cl w (f (l - n)) v) : aj (mG bl n) cl w (sub l n f) v := by
 unfold sub
 cases hb : Nat.ble n l with
 | true => simp only [cond_true]; exact h (Nat.le_of_ble_eq_true hb)
 | false => simp only [cond_false, aj]
mutual
theorem zq (n : Nat) : ∀ (x : PV) (v : Value), aj bl cl w x v → aj (mG bl n) cl w (up n x) v
 | .d x, v, h => by simpa only [up, aj] using h
 | .agg cs, v, h => by
  simp only [up, aj] at h ⊢
  obtain ⟨vs, h1, h2⟩ := h
  exact ⟨vs, h1, zu n cs vs h2⟩
 | .ptr l i o, v, h => by
  simp only [up]; refine vL fun hl => ?_
  simp only [aj, jM, Nat.sub_add_cancel hl] at h ⊢; exact h
 | .aS cs, v, h => by simpa only [up, aj] using h
 | .row l i k, v, h => by
  simp only [up]; refine vL fun hl => ?_
  simp only [aj, jM, Nat.sub_add_cancel hl] at h ⊢; exact h
 | .kL l i k x o, v, h => by
  simp only [up]; refine vL fun hl => ?_
  simp only [aj, jM, Nat.sub_add_cancel hl] at h ⊢; exact h
 | .tail l i k o, v, h => by
  simp only [up]; refine vL fun hl => ?_
  simp only [aj, jM, Nat.sub_add_cancel hl] at h ⊢; exact h
 | .fn f cs, v, h => by
  simp only [up, aj] at h ⊢
  obtain ⟨vs, h1, h2⟩ := h
  exact ⟨vs, h1, zu n cs vs h2⟩
 | .map l i, v, h => by
  simp only [up]; refine vL fun hl => ?_
  simp only [aj, jM, Nat.sub_add_cancel hl] at h ⊢; exact h
 | .jv l i, v, h => by
  simp only [up]; refine vL fun hl => ?_
  simp only [aj, jM, Nat.sub_add_cancel hl] at h ⊢; exact h
 | .pG l, v, h => by
  simp only [up, aj] at h ⊢
  obtain ⟨vs, h1, h2⟩ := h
  exact ⟨vs, h1, qK n l vs h2⟩
 | .skip, v, h => by simp only [up, aj]
 | .ub, v, h => by simpa only [up, aj] using h
 | .unk, v, h => by simp only [up, aj]
theorem zu (n : Nat) : ∀ (l : List PV) (vs : List Value), aF bl cl w l vs → aF (mG bl n) cl w (up.ups n l) vs
 | [], vs, h => by simpa only [up.ups, aF] using h
 | x :: r, vs, h => by
  simp only [up.ups, aF] at h ⊢
  obtain ⟨v, s, h1, h2, h3, h4⟩ := h
  exact ⟨v, s, h1, zq n x v h2, h3, zu n r s h4⟩
theorem qK (n : Nat) : ∀ (l : List PV) (vs : List Value), aK bl cl w l vs → aK (mG bl n) cl w (up.ups n l) vs
 | [], vs, h => by simpa only [up.ups, aK] using h
 | x :: r, vs, h => by
  simp only [up.ups, aK] at h ⊢
  obtain ⟨v, s, h1, h2, h3⟩ := h
  exact ⟨v, s, h1, zq n x v h2, qK n r s h3⟩
end
theorem aF.len : ∀ {l : List PV} {vs : List Value}, aF bl cl w l vs → vs.length = l.length
 | [], vs, h => by simp only [aF] at h; subst h; rfl
 | x :: r, vs, h => by
  simp only [aF] at h
  obtain ⟨v, s, rfl, _, _, h4⟩ := h
  simp [h4.len]
theorem aF.drop : ∀ {l : List PV} {vs : List Value} (n : Nat), aF bl cl w l vs → aF bl cl w (l.drop n) (vs.drop n)
 | l, vs, 0, h => by simpa using h
 | [], vs, n + 1, h => by simp only [aF] at h; subst h; simp [aF]
 | x :: r, vs, n + 1, h => by
  simp only [aF] at h
  obtain ⟨v, s, rfl, _, _, h4⟩ := h
  simpa using h4.drop n
theorem aF.take : ∀ {l : List PV} {vs : List Value} (n : Nat), aF bl cl w l vs → aF bl cl w (l.take n) (vs.take n)
 | l, vs, 0, h => by simp [aF]
 | [], vs, n + 1, h => by simp only [aF] at h; subst h; simp [aF]
 | x :: r, vs, n + 1, h => by
  simp only [aF] at h
  obtain ⟨v, s, rfl, h2, h3, h4⟩ := h
  simp only [List.take_succ_cons, aF]
  exact ⟨v, _, rfl, h2, h3, h4.take n⟩
theorem aF.append : ∀ {l k : List PV} {vs us : List Value}, aF bl cl w l vs → aF bl cl w k us → aF bl cl w (l ++ k) (vs ++ us)
 | [], k, vs, us, h, hk => by simp only [aF] at h; subst h; simpa using hk
 | x :: r, k, vs, us, h, hk => by
  simp only [aF] at h
  obtain ⟨v, s, rfl, h2, h3, h4⟩ := h
  simp only [List.cons_append, aF]
  exact ⟨v, _, rfl, h2, h3, h4.append hk⟩
theorem aF.one : ∀ {l : List PV} {vs : List Value}, aF bl cl w l vs → ∀ v ∈ vs, v.oneCell' = true
 | [], vs, h => by simp only [aF] at h; subst h; simp
 | x :: r, vs, h => by
  simp only [aF] at h
  obtain ⟨v, s, rfl, _, h3, h4⟩ := h
  intro u hu
  rcases List.mem_cons.1 hu with rfl | hu
  ·exact h3
  ·exact h4.one u hu
theorem aK.cells : ∀ {l : List D} {vs : List Value}, bR cl w l vs → aF bl cl w (ds l) vs
 | [], vs, h => by simp only [bR] at h; subst h; rfl
 | x :: r, vs, h => by
  simp only [bR] at h
  obtain ⟨v, s, rfl, h2, h3⟩ := h
  simp only [ds, aF]
  exact ⟨v, s, rfl, by simpa only [aj] using h2, h2.one, aK.cells h3⟩
theorem aV.vals {b : Nat} : ∀ {l : List D} {o : Nat}, aV cl w b o l → ∃ vs : List Value, aF bl cl w (ds l) vs ∧ ∀ j v, vs[j]? = some v → w.cell? ⟨b, o + j, none⟩ = some v
 | [], o, h => ⟨[], rfl, by simp⟩
 | d :: r, o, h => by
  simp only [aV] at h
  obtain ⟨⟨v, h1, h2⟩, h3⟩ := h
  obtain ⟨vs, h4, h5⟩ := h3.vals
  refine ⟨v :: vs, ?_, ?_⟩
  ·simp only [ds, aF]; exact ⟨v, vs, rfl, by simpa only [aj] using h2, h2.one, h4⟩
  ·intro j u hu
   cases j with
   | zero => simp at hu; subst hu; exact h1
   | succ j => have := h5 j u (by simpa using hu); rw [← this]; congr 2; omega
theorem aV.drop {b : Nat} : ∀ {l : List D} {o : Nat} (n : Nat), n ≤ l.length → aV cl w b o l → aV cl w b (o + n) (l.drop n)
 | l, o, 0, _, h => by simpa using h
 | [], o, n + 1, hn, h => by simp at hn
 | d :: r, o, n + 1, hn, h => by
  simp only [aV] at h
  have := h.2.drop n (by simpa using hn)
  simpa [Nat.add_assoc, Nat.add_comm 1 n] using this
theorem aY.nth {b sz : Nat} : ∀ {l : List (List D)} {o i : Nat} {r : List D}, aY cl w b o sz l → l[i]? = some r → r.length = sz ∧ aV cl w b (o + i * sz) r
 | [], _, _, _, _, h => by simp at h
 | x :: rs, o, 0, r, h, hi => by
  simp only [aY] at h; simp at hi; subst hi
  exact ⟨h.1, by simpa using h.2.1⟩
 | x :: rs, o, i + 1, r, h, hi => by
  simp only [aY] at h
  obtain ⟨h1, h2⟩ := h.2.2.nth (i := i) (by simpa using hi)
  exact ⟨h1, by rw [Nat.add_mul, Nat.one_mul, ← Nat.add_assoc, Nat.add_right_comm]; exact h2⟩
end frames
theorem gI (b o n : Nat) : (⟨b, o, none⟩ : Addr).add n = ⟨b, o + n, none⟩ := by unfold Addr.add; split <;> simp_all
theorem Ap {w : World} {b : Nat} {vs : List Value} {t : TypeId} {fr : Nat × Nat} (h : w.heap[b]? = some (.cells vs.toArray t fr)) (off : Nat) : ∀ j v, (vs.drop off)[j]? = some v → w.cell? ⟨b, off + j, none⟩ = some v := by
 intro j v hv
 simp only [World.cell?, h]
 simpa using hv
section
variable {P : Program} {Γ : Tab} {w : World} {bl : List (List bZ)} {cl : Nat → Nat}
theorem wm (hΓ : cZ P Γ) {t b o : Nat} {cs : List PV} {vs : List Value} {x : PV} (hp : pack Γ t cs = some x) (hv : aF bl cl w cs vs) (hc : ∀ j v, vs[j]? = some v → w.cell? ⟨b, o + j, none⟩ = some v) :
  ∃ v, (Instr.loadAt t (.pointer (some ⟨b, o, none⟩))).run P w = .ok v w ∧ aj bl cl w x v := by
 have ht := hΓ.ty t
 unfold kD at ht
 unfold pack at hp
 have scalar : ∀ (d : TypeDesc), P.underlying t = some d → rU d = true → (∃ v r, cs = x :: r ∧ vs[0]? = some v ∧ aj bl cl w x v) → ∃ v, (Instr.loadAt t (.pointer (some ⟨b, o, none⟩))).run P w = .ok v w ∧ aj bl cl w x v := by
  rintro d hd hn ⟨v, r, rfl, h0, h1⟩
  refine ⟨v, ?_, h1⟩
  have hcell := hc 0 v h0
  simp only [Nat.add_zero] at hcell
  cases d <;> first | (simp [rU] at hn; done) | simp [Instr.loadAt, Instr.sureAddr, loadVar, isAgg, run_underlying hd, hcell]
 have hd : ∀ {y : PV}, xH cs = some y → ∃ v r, cs = y :: r ∧ vs[0]? = some v ∧ aj bl cl w y v := by
  intro y hy
  cases cs with
  | nil => simp [xH] at hy
  | cons z r =>
   simp [xH] at hy; subst hy
   simp only [aF] at hv
   obtain ⟨v, s, rfl, h2, _, _⟩ := hv
   exact ⟨v, r, rfl, by simp, h2⟩
 cases hty : Γ.ty t with
 | int k => simp only [hty] at ht hp; exact scalar _ ht rfl (hd hp)
 | bool => simp only [hty] at ht hp; exact scalar _ ht rfl (hd hp)
 | str => simp only [hty] at ht hp; exact scalar _ ht rfl (hd hp)
 | ptr e => simp only [hty] at ht hp; exact scalar _ ht rfl (hd hp)
 | sc => simp only [hty] at ht hp; obtain ⟨d, h1, h2⟩ := ht; exact scalar d h1 h2 (hd hp)
 | map k e => simp only [hty] at ht hp; exact scalar _ ht rfl (hd hp)
 | slice e sz vX => simp only [hty] at ht hp; exact scalar _ ht.1 rfl (hd hp)
 | array n e => simp [hty] at hp
 | bad => simp [hty] at hp
 | agg n fs =>
  simp only [hty] at ht hp
  obtain ⟨fields, h1, ⟨i, hi, hn⟩, _⟩ := ht
  cases hb : Nat.ble n cs.length with
  | false => simp [hb] at hp
  | true =>
   simp only [hb, cond_true, Option.some.injEq] at hp
   subst hp
   have hle := Nat.le_of_ble_eq_true hb
   have hvt := hv.take n
   refine ⟨.agg (vs.take n).toArray, ?_, ?_⟩
   ·have hlen : (vs.take n).length = n := by rw [List.length_take, hv.len]; omega
    have hload := run_loadCells_list (P := P) (w := w) ⟨b, o, none⟩ (vs.take n) (fun j v hj => by
     rw [gI]
     refine hc j v ?_
     rw [List.getElem?_take] at hj
     split at hj
     ·exact hj
     ·cases hj)
    rw [hlen] at hload
    simp [Instr.loadAt, Instr.sureAddr, loadVar, isAgg, run_underlying h1, sizeOf, typeInfo, hi, hn, hload]
   ·simp only [aj]; exact ⟨_, rfl, hvt⟩
end
end Go.X
