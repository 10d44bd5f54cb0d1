/- Operations that only look. -/
import Derived.Test.YtedfkehkcaaplaaXStep
namespace Go.X
open Go
set_option linter.unusedSectionVars false
set_option linter.unusedSimpArgs false
set_option linter.unusedVariables false
variable [fq]
theorem aaw : ∀ l, (ds l).length = l.length
 | [] => rfl
 | x :: r => by simp [ds, aaw r]
section frames
variable {bl : List (List eT)} {cl : Nat → Nat} {w : World}
theorem oq : ∀ (bl : List (List eT)) (n l i : Nat), ent (rW bl n) l i = ent bl (l + n) i
 | bl, 0, l, i => by simp [rW]
 | fr :: r, n + 1, l, i => by simp [rW, oq r n l i, ← Nat.add_assoc, ent]
 | [], n + 1, l, i => by simp [rW, ent]
mutual
theorem Dc (n : Nat) : ∀ (x : PV) (v : Value), ak (rW bl n) cl w x v → ak bl cl w (down n x) v
 | .d x, v, h => by simpa only [down, ak] using h
 | .agg cs, v, h => by
  simp only [down, ak] at h ⊢
  obtain ⟨vs, h1, h2⟩ := h
  exact ⟨vs, h1, sV n cs vs h2⟩
 | .ptr l i o, v, h => by simpa only [down, ak, oq] using h
 | .dA cs, v, h => by simpa only [down, ak] using h
 | .row l i k, v, h => by simpa only [down, ak, oq] using h
 | .o9 l i k x o, v, h => by simpa only [down, ak, oq] using h
 | .fn f cs, v, h => by
  simp only [down, ak] at h ⊢
  obtain ⟨vs, h1, h2⟩ := h
  exact ⟨vs, h1, sV n cs vs h2⟩
 | .map l i, v, h => by simpa only [down, ak, oq] using h
 | .tail l i k o, v, h => by simpa only [down, ak, oq] using h
 | .vP l i, v, h => by simpa only [down, ak, oq] using h
 | .zh l, v, h => by
  simp only [down, ak] at h ⊢
  obtain ⟨vs, h1, h2⟩ := h
  exact ⟨vs, h1, Ac n l vs h2⟩
 | .skip, v, h => by simpa only [down, ak] using h
 | .ub, v, h => by simpa only [down, ak] using h
 | .unk, v, h => by simp only [down, ak]
theorem sV (n : Nat) : ∀ (l : List PV) (vs : List Value), aI (rW bl n) cl w l vs → aI bl cl w (down.gZ n l) vs
 | [], vs, h => by simpa only [down.gZ, aI] using h
 | x :: r, vs, h => by
  simp only [down.gZ, aI] at h ⊢
  obtain ⟨v, s, h1, h2, h3, h4⟩ := h
  exact ⟨v, s, h1, Dc n x v h2, h3, sV n r s h4⟩
theorem Ac (n : Nat) : ∀ (l : List PV) (vs : List Value), bg (rW bl n) cl w l vs → bg bl cl w (down.gZ n l) vs
 | [], vs, h => by simpa only [down.gZ, bg] using h
 | x :: r, vs, h => by
  simp only [down.gZ, bg] at h ⊢
  obtain ⟨v, s, h1, h2, h3⟩ := h
  exact ⟨v, s, h1, Dc n x v h2, Ac n r s h3⟩
end
theorem E8 {l n : Nat} {f : Nat → PV} {v : Value} (h : n ≤ l → ak (rW bl n) cl w (f (l - n)) v) : ak (rW bl n) cl w (sub l n f) v := by
 unfold sub
 cases hb : Nat.ble n l with
 | true => simp only [cond_true]; exact h (Nat.le_of_ble_eq_true hb)
 | false => simp only [cond_false, ak]
mutual
theorem KL (n : Nat) : ∀ (x : PV) (v : Value), ak bl cl w x v → ak (rW bl n) cl w (up n x) v
 | .d x, v, h => by simpa only [up, ak] using h
 | .agg cs, v, h => by
  simp only [up, ak] at h ⊢
  obtain ⟨vs, h1, h2⟩ := h
  exact ⟨vs, h1, KM n cs vs h2⟩
 | .ptr l i o, v, h => by
  simp only [up]; refine E8 fun hl => ?_
  simp only [ak, oq, Nat.sub_add_cancel hl] at h ⊢; exact h
 | .dA cs, v, h => by simpa only [up, ak] using h
 | .row l i k, v, h => by
  simp only [up]; refine E8 fun hl => ?_
  simp only [ak, oq, Nat.sub_add_cancel hl] at h ⊢; exact h
 | .o9 l i k x o, v, h => by
  simp only [up]; refine E8 fun hl => ?_
  simp only [ak, oq, Nat.sub_add_cancel hl] at h ⊢; exact h
 | .tail l i k o, v, h => by
  simp only [up]; refine E8 fun hl => ?_
  simp only [ak, oq, Nat.sub_add_cancel hl] at h ⊢; exact h
 | .fn f cs, v, h => by
  simp only [up, ak] at h ⊢
  obtain ⟨vs, h1, h2⟩ := h
  exact ⟨vs, h1, KM n cs vs h2⟩
 | .map l i, v, h => by
  simp only [up]; refine E8 fun hl => ?_
  simp only [ak, oq, Nat.sub_add_cancel hl] at h ⊢; exact h
 | .vP l i, v, h => by
  simp only [up]; refine E8 fun hl => ?_
  simp only [ak, oq, Nat.sub_add_cancel hl] at h ⊢; exact h
 | .zh l, v, h => by
  simp only [up, ak] at h ⊢
  obtain ⟨vs, h1, h2⟩ := h
  exact ⟨vs, h1, zl n l vs h2⟩
 | .skip, v, h => by simp only [up, ak]
 | .ub, v, h => by simpa only [up, ak] using h
 | .unk, v, h => by simp only [up, ak]
theorem KM (n : Nat) : ∀ (l : List PV) (vs : List Value), aI bl cl w l vs → aI (rW bl n) cl w (up.ups n l) vs
 | [], vs, h => by simpa only [up.ups, aI] using h
 | x :: r, vs, h => by
  simp only [up.ups, aI] at h ⊢
  obtain ⟨v, s, h1, h2, h3, h4⟩ := h
  exact ⟨v, s, h1, KL n x v h2, h3, KM n r s h4⟩
theorem zl (n : Nat) : ∀ (l : List PV) (vs : List Value), bg bl cl w l vs → bg (rW bl n) cl w (up.ups n l) vs
 | [], vs, h => by simpa only [up.ups, bg] using h
 | x :: r, vs, h => by
  simp only [up.ups, bg] at h ⊢
  obtain ⟨v, s, h1, h2, h3⟩ := h
  exact ⟨v, s, h1, KL n x v h2, zl n r s h3⟩
end
theorem aI.len : ∀ {l : List PV} {vs : List Value}, aI bl cl w l vs → vs.length = l.length
 | [], vs, h => by simp only [aI] at h; subst h; rfl
 | x :: r, vs, h => by
  simp only [aI] at h
  obtain ⟨v, s, rfl, _, _, h4⟩ := h
  simp [h4.len]
theorem aI.drop : ∀ {l : List PV} {vs : List Value} (n : Nat), aI bl cl w l vs → aI bl cl w (l.drop n) (vs.drop n)
 | l, vs, 0, h => by simpa using h
 | [], vs, n + 1, h => by simp only [aI] at h; subst h; simp [aI]
 | x :: r, vs, n + 1, h => by
  simp only [aI] at h
  obtain ⟨v, s, rfl, _, _, h4⟩ := h
  simpa using h4.drop n
theorem aI.take : ∀ {l : List PV} {vs : List Value} (n : Nat), aI bl cl w l vs → aI bl cl w (l.take n) (vs.take n)
 | l, vs, 0, h => by simp [aI]
 | [], vs, n + 1, h => by simp only [aI] at h; subst h; simp [aI]
 | x :: r, vs, n + 1, h => by
  simp only [aI] at h
  obtain ⟨v, s, rfl, h2, h3, h4⟩ := h
  simp only [List.take_succ_cons, aI]
  exact ⟨v, _, rfl, h2, h3, h4.take n⟩
theorem aI.append : ∀ {l k : List PV} {vs us : List Value}, aI bl cl w l vs → aI bl cl w k us → aI bl cl w (l ++ k) (vs ++ us)
 | [], k, vs, us, h, hk => by simp only [aI] at h; subst h; simpa using hk
 | x :: r, k, vs, us, h, hk => by
  simp only [aI] at h
  obtain ⟨v, s, rfl, h2, h3, h4⟩ := h
  simp only [List.cons_append, aI]
  exact ⟨v, _, rfl, h2, h3, h4.append hk⟩
theorem aI.one : ∀ {l : List PV} {vs : List Value}, aI bl cl w l vs → ∀ v ∈ vs, v.oneCell' = true
 | [], vs, h => by simp only [aI] at h; subst h; simp
 | x :: r, vs, h => by
  simp only [aI] at h
  obtain ⟨v, s, rfl, _, h3, h4⟩ := h
  intro u hu
  rcases List.mem_cons.1 hu with rfl | hu
  ·exact h3
  ·exact h4.one u hu
theorem bg.cells : ∀ {l : List D} {vs : List Value}, dZ cl w l vs → aI bl cl w (ds l) vs
 | [], vs, h => by simp only [dZ] at h; subst h; rfl
 | x :: r, vs, h => by
  simp only [dZ] at h
  obtain ⟨v, s, rfl, h2, h3⟩ := h
  simp only [ds, aI]
  exact ⟨v, s, rfl, by simpa only [ak] using h2, h2.one, bg.cells h3⟩
theorem bM.vals {b : Nat} : ∀ {l : List D} {o : Nat}, bM cl w b o l → ∃ vs : List Value, aI bl cl w (ds l) vs ∧ ∀ j v, vs[j]? = some v → w.cell? ⟨b, o + j, none⟩ = some v
 | [], o, h => ⟨[], rfl, by simp⟩
 | d :: r, o, h => by
  simp only [bM] at h
  obtain ⟨⟨v, h1, h2⟩, h3⟩ := h
  obtain ⟨vs, h4, h5⟩ := h3.vals
  refine ⟨v :: vs, ?_, ?_⟩
  ·simp only [ds, aI]; exact ⟨v, vs, rfl, by simpa only [ak] using h2, h2.one, h4⟩
  ·intro j u hu
   cases j with
   | zero => simp at hu; subst hu; exact h1
   | succ j => have := h5 j u (by simpa using hu); rw [← this]; congr 2; omega
theorem bM.drop {b : Nat} : ∀ {l : List D} {o : Nat} (n : Nat), n ≤ l.length → bM cl w b o l → bM cl w b (o + n) (l.drop n)
 | l, o, 0, _, h => by simpa using h
 | [], o, n + 1, hn, h => by simp at hn
 | d :: r, o, n + 1, hn, h => by
  simp only [bM] at h
  have := h.2.drop n (by simpa using hn)
  simpa [Nat.add_assoc, Nat.add_comm 1 n] using this
theorem bS.nth {b sz : Nat} : ∀ {l : List (List D)} {o i : Nat} {r : List D}, bS cl w b o sz l → l[i]? = some r → r.length = sz ∧ bM cl w b (o + i * sz) r
 | [], _, _, _, _, h => by simp at h
 | x :: rs, o, 0, r, h, hi => by
  simp only [bS] at h; simp at hi; subst hi
  exact ⟨h.1, by simpa using h.2.1⟩
 | x :: rs, o, i + 1, r, h, hi => by
  simp only [bS] at h
  obtain ⟨h1, h2⟩ := h.2.2.nth (i := i) (by simpa using hi)
  exact ⟨h1, by rw [Nat.add_mul, Nat.one_mul, ← Nat.add_assoc, Nat.add_right_comm]; exact h2⟩
end frames
theorem jQ (b o n : Nat) : (⟨b, o, none⟩ : Addr).add n = ⟨b, o + n, none⟩ := by unfold Addr.add; split <;> simp_all
theorem LG {w : World} {b : Nat} {vs : List Value} {t : TypeId} {fr : Nat × Nat} (h : w.heap[b]? = some (.cells vs.toArray t fr)) (off : Nat) : ∀ j v, (vs.drop off)[j]? = some v → w.cell? ⟨b, off + j, none⟩ = some v := by
 intro j v hv
 simp only [World.cell?, h]
 simpa using hv
section
variable {P : Program} {Γ : Tab} {w : World} {bl : List (List eT)} {cl : Nat → Nat}
theorem FB (hΓ : fA P Γ) {t b o : Nat} {cs : List PV} {vs : List Value} {x : PV} (hp : pack Γ t cs = some x) (hv : aI bl cl w cs vs) (hc : ∀ j v, vs[j]? = some v → w.cell? ⟨b, o + j, none⟩ = some v) :
  ∃ v, (Instr.loadAt t (.pointer (some ⟨b, o, none⟩))).run P w = .ok v w ∧ ak bl cl w x v := by
 have ht := hΓ.ty t
 unfold oW at ht
 unfold pack at hp
 have scalar : ∀ (d : TypeDesc), P.underlying t = some d → Ab d = true → (∃ v r, cs = x :: r ∧ vs[0]? = some v ∧ ak bl cl w x v) → ∃ v, (Instr.loadAt t (.pointer (some ⟨b, o, none⟩))).run P w = .ok v w ∧ ak bl cl w x v := by
  rintro d hd hn ⟨v, r, rfl, h0, h1⟩
  refine ⟨v, ?_, h1⟩
  have hcell := hc 0 v h0
  simp only [Nat.add_zero] at hcell
  cases d <;> first | (simp [Ab] at hn; done) | simp [Instr.loadAt, Instr.sureAddr, loadVar, isAgg, run_underlying hd, hcell]
 have hd : ∀ {y : PV}, Ib cs = some y → ∃ v r, cs = y :: r ∧ vs[0]? = some v ∧ ak bl cl w y v := by
  intro y hy
  cases cs with
  | nil => simp [Ib] at hy
  | cons z r =>
   simp [Ib] at hy; subst hy
   simp only [aI] at hv
   obtain ⟨v, s, rfl, h2, _, _⟩ := hv
   exact ⟨v, r, rfl, by simp, h2⟩
 cases hty : Γ.ty t with
 | int k => simp only [hty] at ht hp; exact scalar _ ht rfl (hd hp)
 | bool => simp only [hty] at ht hp; exact scalar _ ht rfl (hd hp)
 | str => simp only [hty] at ht hp; exact scalar _ ht rfl (hd hp)
 | ptr e => simp only [hty] at ht hp; exact scalar _ ht rfl (hd hp)
 | sc => simp only [hty] at ht hp; obtain ⟨d, h1, h2⟩ := ht; exact scalar d h1 h2 (hd hp)
 | map k e => simp only [hty] at ht hp; exact scalar _ ht rfl (hd hp)
 | slice e sz E9 => simp only [hty] at ht hp; exact scalar _ ht.1 rfl (hd hp)
 | array n e => simp [hty] at hp
 | bad => simp [hty] at hp
 | agg n fs =>
  simp only [hty] at ht hp
  obtain ⟨fields, h1, ⟨i, hi, hn⟩, _⟩ := ht
  cases hb : Nat.ble n cs.length with
  | false => simp [hb] at hp
  | true =>
   simp only [hb, cond_true, Option.some.injEq] at hp
   subst hp
   have hle := Nat.le_of_ble_eq_true hb
   have hvt := hv.take n
   refine ⟨.agg (vs.take n).toArray, ?_, ?_⟩
   ·have hlen : (vs.take n).length = n := by rw [List.length_take, hv.len]; omega
    have hload := run_loadCells_list (P := P) (w := w) ⟨b, o, none⟩ (vs.take n) (fun j v hj => by
     rw [jQ]
     refine hc j v ?_
     rw [List.getElem?_take] at hj
     split at hj
     ·exact hj
     ·cases hj)
    rw [hlen] at hload
    simp [Instr.loadAt, Instr.sureAddr, loadVar, isAgg, run_underlying h1, sizeOf, typeInfo, hi, hn, hload]
   ·simp only [ak]; exact ⟨_, rfl, hvt⟩
end
end Go.X
