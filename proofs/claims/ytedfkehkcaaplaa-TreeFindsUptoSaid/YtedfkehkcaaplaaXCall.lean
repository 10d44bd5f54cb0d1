/- T -/
import Derived.Test.YtedfkehkcaaplaaXExec
import Derived.Test.YtedfkehkcaaplaaXOp9
namespace Go.X
open Go
set_option linter.unusedVariables false
variable [bY]
def TM (fn : Func) : Bool := (match fn.body with | some c => jD fn.ntmps c | none => false) && fn.name != "runtime.NumGoroutine"
def CZ (q : Site) : Bool := jD q.n q.BS && jD q.n q.body && nD q.BS && nD q.body && q.ps.all fun t => Nat.blt t q.n
structure pW (P : Program) (S : Sys) : Prop where
 tab : cZ P S.tab
 mixed : P.follows .mixedOrders = true
 fn : ∀ f fn, S.fn f = some fn → P.funcs[f]? = some fn ∧ TM fn = true
 sites : ∀ f fn co, S.fn f = some fn → fn.body = some co → iU (S.tab.ann f) fn.ntmps co
 site : ∀ g q, bY.site g = some q → S.fn g = none ∧ S.foreign g = none ∧ CZ q = true
 foreign : ∀ f g, S.foreign f = some g → pV P f ∧ ∀ (args : List PV) (st : St) (r : PV) (st' : St), g args st = some (r, st') →
  ∀ (m : Mt) (w : World) (vs : List Value), aK m.blk m.cl w args vs → aO m st w →
   Calls P f vs.toArray w fun e w' => ∃ v m', e = .returned v ∧ aj m'.blk m'.cl w' r v ∧ Ext m w m' w' ∧ aO m' st' w'
section
variable {P : Program} {Γ : Tab} {c : CF} {m : Mt} {w : World} {st : St} {ρ : Env} {a : Act}
theorem KV (he : aM m w ρ a) (hw : aO m st w) {t : Nat} {cs : List PV} (hcs : vG (real c) st (gW ρ t) = some cs) :
  ∃ b off vs, a.tmps.getD t undef = .pointer (some ⟨b, off, none⟩) ∧ aF m.blk m.cl w cs vs ∧ ∀ j v, vs[j]? = some v → w.cell? ⟨b, off + j, none⟩ = some v := by
 have hp := he t
 unfold vG at hcs
 split at hcs
 ·rename_i l i off hx
  rw [hx] at hp; simp only [aj] at hp
  obtain ⟨e, h1, h0, h2⟩ := hp
  split at hcs
  ·rename_i ty cells hl
   cases hcs
   obtain ⟨e', h3, h4⟩ := hw.st.je hl
   rw [h1] at h3; cases h3
   simp only [aL] at h4
   obtain ⟨_, _, vs, h5, h6⟩ := h4
   exact ⟨e.b, off, vs.drop off, h2, ny l _ _ (h6.drop off), Ap h5 off⟩
  ·cases hcs
 ·rename_i l i k ix off hx
  rw [hx] at hp; simp only [aj] at hp
  obtain ⟨e, bb, h1, h0, h2, h22⟩ := hp
  split at hcs
  ·rename_i ty sz rows mt cap hl
   obtain ⟨e', h3, h4⟩ := hw.st.je hl
   rw [h1] at h3; cases h3
   simp only [aL] at h4
   obtain ⟨h41, h42, h43, h44, h45, h4⟩ := h4
   cases hlen : (real c).ieq ((real c).len rows) k with
   | false => simp [hlen] at hcs
   | true =>
    simp only [hlen, cond_true] at hcs
    have hk : k = e.len := by rw [h43]; have : (rows.length : Int) = k := by simpa [real] using hlen
                              exact this.symm
    split at hcs
    ·rename_i rr Hy
     cases hcs
     obtain ⟨hi0, hi1⟩ := uh Hy
     obtain ⟨h46, h47, h48⟩ := h4 (lg (by have := (List.getElem?_eq_some_iff.1 hi1).1; omega))
     obtain ⟨g1, g2⟩ := h47.nth hi1
     obtain ⟨vs, g3, g4⟩ := g2.vals
     have hbl : aF m.blk m.cl w (ds rr) vs := g3.keep (Keeps.refl _ _) (bG.refl _)
     refine ⟨e.b, ix.toNat * e.sz + off, vs.drop off, by rw [h2, h22 hk], ?_, ?_⟩
     ·have hds : ds (rr.drop off) = (ds rr).drop off := Hw off rr
      rw [hds]
      exact hbl.drop off
     ·intro j v hv
      have := g4 (off + j) v (by simpa using hv)
      rw [← this, h42]; congr 2; omega
    ·cases hcs
  ·cases hcs
 ·rename_i cs' hx
  cases hcs
  rw [hx] at hp; simp only [aj] at hp
  obtain ⟨b, o', h1, h2, h3⟩ := hp
  obtain ⟨vs, h4, h5⟩ := h3.vals
  exact ⟨b, o', vs, h1, h4.keep (Keeps.refl _ _) (bG.refl _), h5⟩
 ·cases hcs
def Da (tmps : Array Value) : ResultVar → Sem Value
 | .tmp t => pure (tmps.getD t undef)
 | .cell a t => do loadVar t (← asAddr (tmps.getD a undef))
theorem NY (fn : Func) (tmps : Array Value) : results fn tmps = (do let vs ← fn.results.mapM (Da tmps); pure (if h : vs.size = 1 then vs[0] else .tuple vs)) := by
 unfold results
 refine congrArg (· >>= _) (congrArg (fun f => fn.results.mapM f) ?_)
 funext x
 cases x <;> rfl
theorem AA (hΓ : cZ P Γ) (he : aM m w ρ a) (hw : aO m st w) : ∀ {l : List ResultVar} {vs : List PV}, kW (real c) Γ ρ st l = some vs →
  ∃ us, (l.mapM (Da a.tmps)).run P w = .ok us w ∧ aK m.blk m.cl w vs us ∧ us.length = l.length
 | [], vs, h => by
  simp only [kW, Option.some.injEq] at h
  subst h
  exact ⟨[], by simp, rfl, rfl⟩
 | x :: r, vs, h => by
  simp only [kW] at h
  split at h
  ·rename_i v vs' h1 h2
   cases h
   obtain ⟨us, k1, k2, k3⟩ := AA hΓ he hw h2
   have hone : ∃ u, (Da a.tmps x).run P w = .ok u w ∧ aj m.blk m.cl w v u := by
    cases x with
    | tmp t =>
     simp only [tO, Option.some.injEq] at h1
     subst h1
     exact ⟨_, by simp [Da], he t⟩
    | cell t ty =>
     simp only [tO] at h1
     split at h1
     ·rename_i cs hcs
      obtain ⟨b, off, us', g1, g2, g3⟩ := KV he hw hcs
      obtain ⟨u, g4, g5⟩ := wm (P := P) hΓ h1 g2 g3
      refine ⟨u, ?_, g5⟩
      have : (Instr.loadAt ty (.pointer (some ⟨b, off, none⟩))).run P w = (loadVar ty ⟨b, off, none⟩).run P w := by simp [Instr.loadAt, Instr.sureAddr]
      rw [this] at g4
      simp only [Da, g1]
      simp [asAddr, g4]
     ·cases h1
   obtain ⟨u, g1, g2⟩ := hone
   refine ⟨u :: us, ?_, ⟨u, us, rfl, g2, k2⟩, by simp [k3]⟩
   simp [List.mapM_cons, g1, k1]
  ·cases h
theorem IE {bl : List (List bZ)} {cl : Nat → Nat} {vs : List PV} {us : List Value} (h : aK bl cl w vs us) : aj bl cl w (one vs) (if hs : us.toArray.size = 1 then us.toArray[0] else .tuple us.toArray) := by
 match vs, us, h with
 | [], us, h => simp only [aK] at h; subst h; simp only [one]; simp [aj, aK]
 | [x], us, h =>
  simp only [aK] at h
  obtain ⟨u, s, rfl, h1, rfl⟩ := h
  simpa [one] using h1
 | x :: y :: r, us, h =>
  have hl := h.len
  simp only [one]
  have : ¬ us.toArray.size = 1 := by simp [hl]
  rw [dif_neg this]
  simp only [aj]
  exact ⟨us, rfl, h⟩
theorem Ga {bl : List (List bZ)} {cl : Nat → Nat} : ∀ {l : List PV} {vs : List Value} {i : Nat} (t : Nat), aK bl cl w l vs → aj bl cl w (gW (enter i l) t) (if i ≤ t ∧ t < i + vs.length then vs.getD (t - i) undef else undef)
 | [], vs, i, t, h => by simp only [enter, gW, aj]
 | x :: r, vs, i, t, h => by
  simp only [aK] at h
  obtain ⟨v, s, rfl, h1, h2⟩ := h
  simp only [enter, gW]
  by_cases hit : i = t
  ·subst hit; simpa [eY] using h1
  ·have := Ga (i := i + 1) t h2
   simp only [qI hit, cond_false]
   by_cases hc : i + 1 ≤ t ∧ t < i + 1 + s.length
   ·rw [if_pos hc] at this
    rw [if_pos ⟨by omega, by simp only [List.length_cons]; omega⟩]
    have e : t - i = (t - (i + 1)) + 1 := by omega
    rw [e]
    simpa using this
   ·rw [if_neg hc] at this
    rw [if_neg (by simp only [List.length_cons]; omega)]
    exact this
theorem wz : ∀ {l : List PV} {i t : Nat}, (t < i ∨ i + l.length ≤ t) → gW (enter i l) t = .unk
 | [], i, t, _ => rfl
 | x :: r, i, t, h => by
  simp only [enter, gW]
  simp only [List.length_cons] at h
  rw [qI (by omega)]
  exact wz (by omega)
end
theorem wS {R : Type} {c : CF} {m : Mt} {w : World} {st : St} {r : R} : ∀ {l : List PV} {K : List PV → Option R}, sV (real c) st l K = some r →
  ∃ l', K l' = some r ∧ (aO m st w → ∀ {us : List Value}, aK m.blk m.cl w l us → aK m.blk m.cl w l' us)
 | [], K, h => ⟨[], h, fun _ _ hv => hv⟩
 | x :: l, K, h => by
  have other : sV (real c) st l (fun vs => K (x :: vs)) = some r → ∃ l', K l' = some r ∧ (aO m st w → ∀ {us : List Value}, aK m.blk m.cl w (x :: l) us → aK m.blk m.cl w l' us) := by
   intro h
   obtain ⟨l', h1, h2⟩ := wS h
   refine ⟨_, h1, fun hw us hv => ?_⟩
   simp only [aK] at hv ⊢
   obtain ⟨v, s, rfl, h3, h4⟩ := hv
   exact ⟨v, s, rfl, h3, h2 hw h4⟩
  unfold sV at h
  split at h
  ·rename_i h0; cases h0
  ·rename_i i k r' heq
   cases heq
   split at h
   rotate_left
   ·cases h
   rename_i ty sz rows mt cap uE
   cases mt with
   | true => exact other h
   | false =>
    simp only [cond_false] at h
    cases hlen : (real c).ieq ((real c).len rows) k with
    | false => simp [hlen] at h
    | true =>
     simp only [hlen, cond_true] at h
     obtain ⟨l', h1, h2⟩ := wS h
     refine ⟨_, h1, fun hw us hv => ?_⟩
     simp only [aK] at hv ⊢
     obtain ⟨v, s, rfl, h3, h4⟩ := hv
     refine ⟨v, s, rfl, ?_, h2 hw h4⟩
     have hfz : freeze (real c) st (.row 0 i k) = (.d (.sl rows none), st) := by
      simp only [freeze, uE, hlen, cond_true, cond_false]
     exact Hz hw h3 uE hlen
  ·rename_i heq
   cases heq
   exact other h
theorem NZ {es es1 : List bZ} {bl : List (List bZ)} {cl : Nat → Nat} {w : World} {e : bZ} {i n1 : Nat} (he : es[i]? = some e) (hn : n1 = es1.length) {v u : PV} {x : Value} (h : Ch i n1 v = some u) (hv : aj (es :: es1 :: bl) cl w v x) : aj ((es1 ++ [e]) :: bl) cl w u x := by
 have hent : ent ((es1 ++ [e]) :: bl) 0 n1 = some e := by simp only [ent]; rw [hn]; simp
 cases v with
 | d y => cases h; simpa only [aj] using hv
 | row l j k =>
  cases l with
  | succ l => cases h
  | zero =>
   simp only [Ch] at h
   cases hb : Nat.beq j i with
   | false => simp [hb] at h
   | true =>
    simp only [hb, cond_true, Option.some.injEq] at h
    have : j = i := Nat.eq_of_beq_eq_true hb
    subst this h
    simp only [aj] at hv ⊢
    obtain ⟨e', q1, q2, q3, q4⟩ := hv
    simp only [ent] at q1
    rw [he] at q1; cases q1
    exact ⟨e, hent, q2, q3, q4⟩
 | map l j =>
  cases l with
  | succ l => cases h
  | zero =>
   simp only [Ch] at h
   cases hb : Nat.beq j i with
   | false => simp [hb] at h
   | true =>
    simp only [hb, cond_true, Option.some.injEq] at h
    have : j = i := Nat.eq_of_beq_eq_true hb
    subst this h
    simp only [aj] at hv ⊢
    obtain ⟨e', q1, q2, q3⟩ := hv
    simp only [ent] at q1
    rw [he] at q1; cases q1
    exact ⟨e, hent, q2, q3⟩
 | ptr l j o =>
  cases l with
  | succ l => cases h
  | zero =>
   simp only [Ch] at h
   cases hb : Nat.beq j i with
   | false => simp [hb] at h
   | true =>
    simp only [hb, cond_true, Option.some.injEq] at h
    have : j = i := Nat.eq_of_beq_eq_true hb
    subst this h
    simp only [aj] at hv ⊢
    obtain ⟨e', q1, q2, q3⟩ := hv
    simp only [ent] at q1
    rw [he] at q1; cases q1
    exact ⟨e, hent, q2, q3⟩
 | _ => cases h
theorem AB {es es1 : List bZ} {bl : List (List bZ)} {cl : Nat → Nat} {w : World} {e : bZ} {i n1 : Nat} (he : es[i]? = some e) (hn : n1 = es1.length) : ∀ {vs us : List PV} {xs : List Value}, rP i n1 vs = some us → aK (es :: es1 :: bl) cl w vs xs → aK ((es1 ++ [e]) :: bl) cl w us xs
 | [], us, xs, h, hv => by cases h; exact hv
 | v :: vs, us, xs, h, hv => by
  simp only [rP] at h
  split at h
  ·rename_i u us' h1 h2
   cases h
   simp only [aK] at hv ⊢
   obtain ⟨x, s, rfl, h3, h4⟩ := hv
   exact ⟨x, s, rfl, NZ he hn h1 h3, AB he hn h2 h4⟩
  ·cases h
theorem yG {bl lK : List (List bZ)} {cl : Nat → Nat} {w : World} : ∀ {vs us : List PV} {xs : List Value}, Cg vs = none → rP 0 0 vs = some us → aK bl cl w vs xs → aK lK cl w us xs
 | [], us, xs, _, h, hv => by cases h; exact hv
 | v :: vs, us, xs, hp, h, hv => by
  simp only [rP] at h
  split at h
  ·rename_i u us' h1 h2
   cases h
   simp only [aK] at hv ⊢
   obtain ⟨x, s, rfl, h3, h4⟩ := hv
   cases v with
   | d y => cases h1; exact ⟨x, s, rfl, by simpa only [aj] using h3, yG (by simpa [Cg] using hp) h2 h4⟩
   | row l j k => cases l with
    | zero => simp [Cg] at hp
    | succ l => cases h1
   | map l j => cases l with
    | zero => simp [Cg] at hp
    | succ l => cases h1
   | ptr l j k => cases l with
    | zero => simp [Cg] at hp
    | succ l => cases h1
   | _ => cases h1
  ·cases h
theorem zJ {bl lK : List (List bZ)} {cl : Nat → Nat} {w : World} : ∀ {cs : List PV} {xs : List Value}, tK cs = true → aF bl cl w cs xs → aF lK cl w cs xs
 | [], xs, _, h => h
 | v :: cs, xs, hf, h => by
  cases v with
  | d y =>
   simp only [tK] at hf
   simp only [aF, aj] at h ⊢
   obtain ⟨x, s, rfl, h1, h2, h3⟩ := h
   exact ⟨x, s, rfl, h1, h2, zJ hf h3⟩
  | _ => simp [tK] at hf
theorem Gb {bl lK : List (List bZ)} {cl : Nat → Nat} {w : World} {v : PV} {x : Value} (hf : sU v = true) (h : aj bl cl w v x) : aj lK cl w v x := by
 cases v with
 | d y => simpa only [aj] using h
 | agg cs =>
  simp only [aj] at h ⊢
  obtain ⟨vs, h1, h2⟩ := h
  exact ⟨vs, h1, zJ hf h2⟩
 | _ => simp [sU] at hf
theorem Gc {kk : KK} {bl lK : List (List bZ)} {cl : Nat → Nat} {w : World} : ∀ {l : List (PV × PV)} {es : List MapEntry}, ng l = true → eF kk bl cl w l es → eF kk lK cl w l es
 | [], es, _, h => h
 | x :: l, es, hf, h => by
  obtain ⟨k, v⟩ := x
  simp only [ng, Bool.and_eq_true] at hf
  simp only [eF] at h ⊢
  obtain ⟨e, s, h1, h2, h3, h4, h5, h6⟩ := h
  exact ⟨e, s, h1, h2, Gb hf.1.1 h3, Gb hf.1.2 h4, h5, Gc hf.2 h6⟩
theorem Oa {bl lK : List (List bZ)} {cl : Nat → Nat} {w : World} {o : Obj} {e : bZ} (hl : tQ o = true) (h : aL bl cl w o e) : aL lK cl w o e := by
 cases o with
 | row ty sz rows mt cap => simpa only [aL] using h
 | void => simp [tQ] at hl
 | loop site ρ p => simp [tQ] at hl
 | map kk fl es =>
  simp only [tQ] at hl
  simp only [aL] at h ⊢
  obtain ⟨h1, h2, h3, ents, clock, h4, h5⟩ := h
  exact ⟨h1, h2, h3, ents, clock, h4, Gc (h3 hl) h5⟩
 | box ty cs =>
  simp only [tQ] at hl
  simp only [aL] at h ⊢
  obtain ⟨h1, h2, vs, h3, h4⟩ := h
  exact ⟨h1, h2, vs, h3, zJ hl h4⟩
theorem zK {c : CF} {w : World} {Ro : Type} {ro : Ro} (tk : List Nat) : ∀ (p : Nat) (l : List PV) {m : Mt} {st : St} {vs : List Value} {K : List PV → St → Option Ro}, aO m st w → aK m.blk m.cl w l vs → mI (real c) tk p l st K = some ro →
  ∃ m1 l1 st1, Ext m w m1 w ∧ aO m1 st1 w ∧ aK m1.blk m1.cl w l1 vs ∧ K l1 st1 = some ro
 | p, [], m, st, vs, K, hw, hv, h => ⟨m, [], st, Ext.refl _ _, hw, hv, h⟩
 | p, x :: l, m, st, vs, K, hw, hv, h => by
  simp only [aK] at hv
  obtain ⟨v, s, rfl, h1, h2⟩ := hv
  unfold mI at h
  cases hm : mem p tk with
  | false =>
   simp only [hm, cond_false] at h
   obtain ⟨m1, l1, st1, x1, w1, v1, hK⟩ := zK tk (p + 1) l hw h2 h
   exact ⟨m1, _, st1, x1, w1, (by simp only [aK]; exact ⟨v, s, rfl, h1.ext x1, v1⟩), hK⟩
  | true =>
   simp only [hm, cond_true] at h
   split at h
   ·rename_i i k fr st'
    have h' : ∃ ty sz rows cap, look st' 0 i = some (.row ty sz rows true cap) ∧ (rows.length : Int) = k ∧ mI (real c) tk (p + 1) l ((fr ++ [.row ty sz rows true none]) :: bJ st' 0 i .void) (fun vs st => K (.row 0 fr.length k :: vs) st) = some ro := by
     simp only [real] at h
     split at h
     ·rename_i ty sz rows mt cap hl
      cases mt with
      | false => simp at h
      | true =>
       simp only [cond_true] at h
       cases hb : ((rows.length : Int) == k) with
       | false => simp [hb] at h
       | true => simp only [hb, cond_true] at h; exact ⟨ty, sz, rows, cap, hl, by simpa using hb, h⟩
     ·cases h
    obtain ⟨ty, sz, rows, cap, hl, hk, h⟩ := h'
    have hl1 : look (fr :: st') 1 i = some (.row ty sz rows true cap) := by simpa [look] using hl
    obtain ⟨en, k1, k2⟩ := hw.st.je hl1
    simp only [aj] at h1
    obtain ⟨en', p1, p2, p3, p5⟩ := h1
    rw [k1] at p1; cases p1
    simp only [aL] at k2
    obtain ⟨g1, g2, g3, g4, g5, g⟩ := k2
    have Cw : k = en.len := by rw [g3]; exact hk.symm
    have go : ∀ e2 : bZ, (e2.gone = true ∨ (en.gone = false ∧ e2.b = en.b)) → (∀ bl, aL bl m.cl w (.row ty sz rows true none) e2) → (∀ (bl : List (List bZ)) , ent bl 0 fr.length = some e2 → aj bl m.cl w (.row 0 fr.length k) v) →
      ∃ m1 l1 st1, Ext m w m1 w ∧ aO m1 st1 w ∧ aK m1.blk m1.cl w l1 (v :: s) ∧ K l1 st1 = some ro := by
     intro e2 hb ho hv2
     obtain ⟨m2, hm2, x2, w2, e2'⟩ := hw.Nn k1 (by omega) (k := 0) (by simp) hb ho
     have hst : iQ (bJ (fr :: st') 1 i .void) 0 (.row ty sz rows true none) = (fr ++ [.row ty sz rows true none]) :: bJ st' 0 i .void := rfl
     rw [hst] at w2
     obtain ⟨m1, l1, st1, x1, w1, v1, hK⟩ := zK tk (p + 1) l w2 (h2.ext x2) h
     refine ⟨m1, _, st1, x2.trans x1, w1, ?_, hK⟩
     simp only [aK]
     have hcl : m2.cl = m.cl := by rw [hm2]
     have := hv2 m2.blk e2'
     rw [← hcl] at this
     exact ⟨v, s, rfl, this.ext x1, v1⟩
    rcases p5 with ⟨h0, hgo, base, rfl⟩ | ⟨b, cap0, rfl, hlive⟩
    ·have hr : rows = [] := List.eq_nil_of_length_eq_zero (by omega)
     subst hr
     have hz : k = 0 := h0
     subst hz
     refine go ⟨0, 0, sz, 0⟩ (.inl (jK rfl g1)) (fun bl => ?_) (fun bl he => ?_)
     ·simp only [aL]
      refine ⟨g1, trivial, rfl, Nat.le_refl _, fun c hc => (by cases hc), fun hg => ?_⟩
      rw [jK rfl g1] at hg; cases hg
     ·simp only [aj]
      exact ⟨_, he, Int.le_refl _, Int.le_refl _, .inl ⟨trivial, fun _ => jK rfl g1, base, rfl⟩⟩
    ·obtain ⟨rfl, rfl, hlv⟩ := hlive Cw
     obtain ⟨⟨cs, g6, g7⟩, g8, g9⟩ := g hlv
     refine go en (.inr ⟨hlv, rfl⟩) (fun bl => ?_) (fun bl he => ?_)
     ·simp only [aL]
      exact ⟨g1, g2, g3, g4, fun c hc => (by cases hc), fun _ => ⟨⟨cs, g6, g7⟩, g8, g9⟩⟩
     ·simp only [aj]
      exact ⟨_, he, p2, p3, .inr ⟨_, _, rfl, fun _ => ⟨rfl, rfl, hlv⟩⟩⟩
   ·cases h
theorem jT.putObj {n0 r : Nat} {m : Mt} {w : World} {o : Go.Obj} : ∀ {ds : List Deferred}, (∀ d ∈ ds, d.target ≠ .collected r) → jT n0 m w ds → jT n0 m (w.putObj r o) ds
 | [], _, _ => trivial
 | d :: ds, hd, h => by
  obtain ⟨⟨r', h1, h2, h3, h4, h5⟩, h6⟩ := h
  have hne : r' ≠ r := fun h => hd d (by simp) (h ▸ h1)
  exact ⟨⟨r', h1, h2, (World.putObj_heap_other hne).trans h3, h4, h5⟩, jT.putObj (fun d' hd' => hd d' (by simp [hd'])) h6⟩
theorem yH {P : Program} {fn : Func} {n0 : Nat} {m m0 : Mt} {w0 : World} {st : St} {ρ : Env} {a : Act} {R : Ending → World → Prop} (hn0 : n0 = w0.heap.size) :
  ∀ (ds : List Deferred) {w : World}, jT n0 m w ds → aO m st w → Ext m0 w0 m w → aM m w ρ a →
   (∀ w', aO m st w' → Ext m0 w0 m w' → aM m w' ρ a → LeavesIn (Fw none) 0 P fn a.tmps R [] .returning w') → LeavesInM (Fw none) 0 P fn a.tmps R ds .returning w
 | [], w, _, hw, hx, he, k => k w hw hx he
 | d :: ds, w, hd, hw, hx, he, k => by
  obtain ⟨⟨r, h1, h2, h3, h4, h5⟩, h6⟩ := hd
  have hcl : m.cl r = 0 := by
   have := hw.le r
   simp only [csize, h3] at this
   omega
  have hsame : ∀ b, b ≠ r → (w.putObj r (.deferred none)).heap[b]? = w.heap[b]? := fun b hb => World.putObj_heap_other hb
  obtain ⟨hk, hw'⟩ := hw.beside (w' := w.putObj r (.deferred none)) h4 hcl (fun c t fr h => by rw [h3] at h; cases h) hsame
  refine ⟨by simp, .inl ⟨r, w.putObj r (.deferred none), h1, run_takeDeferred h3, yH hn0 ds (jT.putObj h5 h6) hw' ⟨hx.keeps.trans hk, hx.ents, hx.os, hx.tape, hx.output, ?_, fun b hb hnb => ?_, hx.new, hx.cls⟩ (fun t => (he t).keep hk (.refl _)) k⟩⟩
  ·rw [World.putObj_size]; exact hx.size
  ·exact (hsame b (by omega)).trans (hx.kept b hb hnb)
theorem KW {m : Mt} {st : St} {w : World} (hw : aO m st w) : aO ⟨[] :: m.blk, m.cl⟩ ([] :: st) w := by
 refine ⟨?_, ?_, hw.le, hw.glob.sub (fun b hb => by simpa [aA, eX] using hb)⟩
 ·simp only [dH]; exact ⟨[], m.blk, rfl, rfl, hw.st⟩
 ·show (blks ([] :: m.blk)).Nodup
  rw [aA]; simpa [eX] using hw.nodup
theorem Pz {m m1 : Mt} {w w' : World} {fr : List Obj} {st1 : St} (hx : Ext ⟨[] :: m.blk, m.cl⟩ w m1 w') (hw1 : aO m1 (fr :: st1) w') : Ext m w ⟨m1.blk.tail, m1.cl⟩ w' ∧ aO ⟨m1.blk.tail, m1.cl⟩ st1 w' := by
 have hst := hw1.st
 simp only [dH] at hst
 obtain ⟨es, bl, hbl, h8, h9⟩ := hst
 have hn := hw1.nodup
 rw [hbl, aA] at hn
 have htl : m1.blk.tail = bl := by rw [hbl]; rfl
 rw [htl]
 refine ⟨⟨hx.keeps, ⟨?_, ?_⟩, hx.os, hx.tape, hx.output, hx.size, ?_, ?_, fun b hb hnb => hx.cls b hb (by simpa [aA, eX] using hnb)⟩, h9, (List.nodup_append.1 hn).2.1, hw1.le, hw1.glob.sub (fun b hb => by rw [hbl, aA]; exact List.mem_append.2 (.inr hb))⟩
 ·have := hx.ents.1
  rw [hbl] at this
  simp only [List.length_cons] at this
  show bl.length = m.blk.length
  omega
 ·intro l i e he
  obtain ⟨e', q1, q2⟩ := hx.ents.2 (l + 1) i e (by simpa [ent] using he)
  rw [hbl] at q1
  exact ⟨e', by simpa [ent] using q1, q2⟩
 ·intro b hb hnb
  exact hx.kept b hb (by simpa [aA, eX] using hnb)
 ·intro b hb
  have := hx.new b (by rw [hbl, aA]; exact List.mem_append.2 (.inr hb))
  simpa [aA, eX] using this
theorem Gd {m : Mt} {st : St} {w : World} {l i site : Nat} {ρ : Env} {p p' : Option Ex} {e : bZ} (hw : aO m st w) (hl : look st l i = some (.loop site ρ p)) (he : ent m.blk l i = some e) :
  ∃ rec : Loop, w.heap[e.b]? = some (.loop rec) ∧ Fv site rec ∧ Ho p rec ∧ ∀ rec' : Loop, rec'.params = rec.params → rec'.assign = rec.assign → rec'.body = rec.body → rec'.tmps = rec.tmps → Ho p' rec' →
   ∃ m', Ext m w m' (w.putObj e.b (.loop rec')) ∧ aO m' (bJ st l i (.loop site ρ p')) (w.putObj e.b (.loop rec')) := by
 obtain ⟨e', g1, g2⟩ := hw.st.je hl
 rw [he] at g1; cases g1
 simp only [aL] at g2
 obtain ⟨k1, k2, rec, k3, k4, k5, k6⟩ := g2
 refine ⟨rec, k3, k4, k5, fun rec' r1 r2 r3 r4 hs => ?_⟩
 have hb := (Array.getElem?_eq_some_iff.1 k3).1
 obtain ⟨m2, rfl, x2, w2⟩ := hw.put (l := l) (i := i) (w' := w.putObj e.b (.loop rec')) he (ku k1) (fun b hb => World.putObj_heap_other hb) (fun a _ => Rv k3 _ a) World.putObj_size rfl rfl rfl
  (o := .loop site ρ p') (e' := e) rfl (jA.refl e) (n := m.cl e.b) (Nat.le_refl _) (by rw [k2]; exact Nat.zero_le _) (fun j hj => by rw [k2] at hj; omega) (fun hk hle => by
   simp only [aL]
   refine ⟨k1, by simp [k2], rec', World.putObj_heap_same hb, ?_, hs, fun t => ?_⟩
   ·obtain ⟨q, q1, q2, q3, q4, q5⟩ := k4
    exact ⟨q, q1, r1.trans q2, r2.trans q3, r3.trans q4, by rw [r4]; exact q5⟩
   ·rw [r4]
    exact (k6 t).keep hk (bG.mG l hle))
 exact ⟨_, x2, w2⟩
theorem Gf (n : Nat) : ∀ (ρ : Env) (t : Nat), gW (nY n ρ) t = down n (gW ρ t)
 | [], t => rfl
 | (k, v) :: r, t => by
  simp only [nY, gW]
  cases Nat.beq k t with
  | true => rfl
  | false => exact Gf n r t
theorem Db {bl : List (List bZ)} {cl : Nat → Nat} {w : World} : ∀ (ts : List Nat) (vs : List PV) (us : List Value) (ρ ρ1 : Env) (tmps : Array Value), jX ts vs ρ = some ρ1 → aK (mG bl 1) cl w vs us → (∀ t, aj bl cl w (gW ρ t) (tmps.getD t undef)) →
  (∀ t ∈ ts, t < tmps.size) → (∀ t, aj bl cl w (gW ρ1 t) (((ts.zip us).foldl (fun tmps (t, a) => tmps.setIfInBounds t a) tmps).getD t undef)) ∧ ((ts.zip us).foldl (fun tmps (t, a) => tmps.setIfInBounds t a) tmps).size = tmps.size
 | [], [], us, ρ, ρ1, tmps, h, hv, he, ht => by
  simp only [jX, Option.some.injEq] at h
  subst h
  simp only [List.zip_nil_left, List.foldl_nil]
  exact ⟨he, trivial⟩
 | t :: ts, v :: vs, us, ρ, ρ1, tmps, h, hv, he, ht => by
  simp only [aK] at hv
  obtain ⟨u, s, rfl, h1, h2⟩ := hv
  simp only [jX] at h
  have ht0 := ht t (by simp)
  have := Db ts vs s _ ρ1 (tmps.setIfInBounds t u) h h2 (fun t' => by
   rw [rT]
   by_cases hc : t = t'
   ·subst hc
    rw [if_pos rfl]
    have : (tmps.setIfInBounds t u).getD t undef = u := by simp [ht0]
    rw [this]
    exact uf 1 _ _ h1
   ·rw [if_neg hc]
    have : (tmps.setIfInBounds t u).getD t' undef = tmps.getD t' undef := by simp [Array.getElem?_setIfInBounds_ne hc]
    rw [this]
    exact he t') (fun t' h' => by simpa using ht t' (by simp [h']))
  simp only [List.zip_cons_cons, List.foldl_cons]
  refine ⟨this.1, this.2.trans (by simp)⟩
 | [], _ :: _, us, ρ, ρ1, tmps, h, hv, he, ht => by simp [jX] at h
 | _ :: _, [], us, ρ, ρ1, tmps, h, hv, he, ht => by simp [jX] at h
theorem Dc : ∀ (ts : List Nat) (vs : List PV) (ρ ρ1 : Env), jX ts vs ρ = some ρ1 → vs.length = ts.length
 | [], [], _, _, _ => rfl
 | t :: ts, v :: vs, ρ, ρ1, h => by simp only [jX] at h; simp [Dc ts vs _ _ h]
 | [], _ :: _, _, _, h => by simp [jX] at h
 | _ :: _, [], _, _, h => by simp [jX] at h
theorem TN (ts : List Nat) (us : List Value) (tmps : Array Value) : (ts.toArray.zip us.toArray).foldl (fun tmps (t, a) => tmps.setIfInBounds t a) tmps = (ts.zip us).foldl (fun tmps (t, a) => tmps.setIfInBounds t a) tmps := by
 have : (ts.toArray.zip us.toArray) = (ts.zip us).toArray := by simp
 rw [this]
 simp
section
variable {P : Program} {S : Sys} {c : CF} (hs : pW P S) (hok : qO P S.tab c) (hcf : IC P c) {m : Mt} {w : World} {st : St}
include hs hok hcf
theorem Df {m : Mt} {st : St} {f : Nat} {fn : Func} (hfn : S.fn f = some fn) {args : List PV} {r : PV} {st' : St} (h : body (real c) S.tab (S.tab.ann f) fn args st = some (r, st')) {vs : List Value} (hv : aK m.blk m.cl w args vs) (hw : aO m st w) :
  Calls P f vs.toArray w fun e w' => ∃ v m', e = .returned v ∧ aj m'.blk m'.cl w' r v ∧ Ext m w m' w' ∧ aO m' st' w' := by
 obtain ⟨h1, h2⟩ := hs.fn f fn hfn
 unfold body at h
 unfold TM at h2
 split at h
 ·rename_i co hco
  rw [hco] at h2
  simp only [Bool.and_eq_true] at h2
  replace h2 := h2.1
  have hsi := hs.sites f fn co hfn hco
  refine (callsIn_wide (n := 0)).1 (callsIn_of_wp_marks (F := Fw none) h1 hco trivial ?_)
  let m0 : Mt := ⟨[] :: m.blk, m.cl⟩
  have hw0 : aO m0 ([] :: st) w := by
   refine ⟨?_, ?_, hw.le, hw.glob.sub (fun b hb => by simpa [m0, aA, eX] using hb)⟩
   ·simp only [dH]; exact ⟨[], m.blk, rfl, rfl, hw.st⟩
   ·show (blks ([] :: m.blk)).Nodup
    rw [aA]; simpa [eX] using hw.nodup
  have abK : aK m0.blk m0.cl w (down.fA 1 args) vs := rV 1 args vs (by simpa [m0, mG] using hv)
  obtain ⟨m0', args', st0, xt, agN, hargs, hz⟩ := zK _ _ _ hw0 abK h
  clear h
  have h := hz
  clear hz
  have he0 : aM m0' w (enter 0 args') { tmps := vs.toArray ++ Array.replicate (fn.ntmps - vs.toArray.size) undef, defers := [] } := by
   intro t
   rcases Nat.lt_or_ge t vs.length with ht | ht
   ·have := Ga (i := 0) t hargs
    rw [if_pos ⟨Nat.zero_le _, by omega⟩] at this
    have e : (vs.toArray ++ Array.replicate (fn.ntmps - vs.toArray.size) undef).getD t undef = vs.getD (t - 0) undef := by
     simp [Array.getElem?_append, ht]
    dsimp only
    rw [e]
    exact this
   ·rw [wz (.inr (by have := hargs.len; omega))]
    simp only [aj]
  refine wpIn_mono (wR hs.tab hok hcf hs.mixed (n0 := w.heap.size) co h2 hsi (fun h => absurd rfl h) he0 agN (by simp; omega) trivial (Nat.le_refl _) h) ?_
  rintro x a' w' ⟨e, ρ', st1, m1, rfl, k1, k2, k3, k4, k5, k6⟩
  replace k3 := xt.trans k3
  have Bh : leave (real c) S.tab (S.tab.ann f).give fn.results.toList ρ' st1 = some (r, st') → LeavesInM (Fw none) 0 P fn a'.tmps (fun e w' => ∃ v m', e = .returned v ∧ aj m'.blk m'.cl w' r v ∧ Ext m w m' w' ∧ aO m' st' w') a'.defers .returning w' := by
   intro hl
   refine yH rfl a'.defers k6 k4 k3 k2 ?_
   clear k2 k3 k4 k6 k1
   intro w' k4 k3 k2
   show ∃ v, (results fn a'.tmps).run P w' = .ok v w' ∧ ∃ v' m', (Ending.returned v) = .returned v' ∧ aj m'.blk m'.cl w' r v' ∧ Ext m w m' w' ∧ aO m' st' w'
   unfold leave at hl
   split at hl
   ·rename_i vs' hvs
    obtain ⟨us, g1, g2, g3⟩ := AA (P := P) hs.tab k2 k4 hvs
    have hrun : (results fn a'.tmps).run P w' = .ok (if hs : us.toArray.size = 1 then us.toArray[0] else .tuple us.toArray) w' := by
      rw [NY]
      rw [Array.mapM_eq_mapM_toList]
      simp [g1]
    split at hl
    ·
     obtain ⟨vs2, hl, hfz⟩ := wS hl
     replace g2 := hfz k4 g2
     clear hfz
     have hst := k4.st
     split at hl
     rotate_left
     ·cases hl
     rename_i fr st2 _
     cases st2 with
     | nil =>
      exfalso
      split at hl
      ·split at hl
       ·rename_i o _
        cases hlo : tQ o <;> simp [hlo, real, fQ] at hl
       ·cases hl
      ·simp [fQ] at hl
     | cons fr1 rest =>
     have hr0 : ∀ (o : Obj) (f : Nat → St → Option (PV × St)), (real c).vF (fr1 :: rest) 0 o f = f fr1.length ((fr1 ++ [o]) :: rest) := fun o f => by simp [real, fQ, dD, iQ]
     simp only [hr0, fQ, cond_true] at hl
     simp only [dH] at hst
     obtain ⟨es, _, hbl, h8, es1, bl, rfl, h9, h10⟩ := hst
     have hn := k4.nodup
     rw [hbl, aA, aA] at hn
     rw [hbl] at g2
     split at hl
     ·rename_i i hpick
      split at hl
      rotate_left
      ·cases hl
      rename_i o hfr
      obtain ⟨e, he, agO⟩ := h8.at_ hfr
      cases hlo : tQ o with
      | false => simp [hlo] at hl
      | true =>
      simp only [hlo, cond_true] at hl
      split at hl
      rotate_left
      ·cases hl
      rename_i us' abL
      simp only [Option.some.injEq, Prod.mk.injEq] at hl
      obtain ⟨rfl, rfl⟩ := hl
      have hle : bG (es1 :: bl) ((es1 ++ [e]) :: bl) := by simpa [fC] using bG.fC (es1 :: bl) 0 e
      have hkr : Keeps m1.cl w' m1.cl w' := Keeps.refl _ _
      have hrow : aL ((es1 ++ [e]) :: bl) m1.cl w' o e := Oa hlo agO
      have hres := AB (e := e) he (by rw [h9.length]) abL g2
      have aaM : ∀ b ∈ blks ((es1 ++ [e]) :: bl), b ∈ blks m1.blk := fun b hb => by
       rw [hbl, aA, aA]
       rw [aA, kZ] at hb
       simp only [List.mem_append] at hb ⊢
       rcases hb with (hb | hb) | hb
       ·exact .inr (.inl hb)
       ·obtain ⟨y, hy, hyg, rfl⟩ := cB.1 hb
        simp only [List.mem_singleton] at hy
        subst hy
        exact .inl (cB.2 ⟨_, List.mem_of_getElem? he, hyg, rfl⟩)
       ·exact .inr (.inr hb)
      refine ⟨_, hrun, _, ⟨(es1 ++ [e]) :: bl, m1.cl⟩, rfl, ?_, ?_, ?_⟩
      ·exact IE hres
      ·refine ⟨k3.keeps, ⟨?_, ?_⟩, k3.os, k3.tape, k3.output, k3.size, ?_, ?_, fun b hb hnb => k3.cls b hb (by simpa [m0, aA, eX] using hnb)⟩
       ·have := k3.ents.1
        rw [hbl] at this
        simp only [m0, List.length_cons] at this ⊢
        omega
       ·intro l i e1 he1
        obtain ⟨e', q1, q2⟩ := k3.ents.2 (l + 1) i e1 (by simpa [m0, ent] using he1)
        rw [hbl] at q1
        simp only [ent] at q1
        obtain ⟨e2, q3, q4⟩ := hle.2 l i e' q1
        exact ⟨e2, q3, q2.trans q4⟩
       ·intro b hb hnb
        exact k3.kept b hb (by simpa [m0, aA, eX] using hnb)
       ·intro b hb
        have := k3.new b (aaM b hb)
        simpa [m0, aA, eX] using this
      ·refine ⟨?_, ?_, k4.le, k4.glob.sub aaM⟩
       ·simp only [dH]
        exact ⟨es1 ++ [e], bl, rfl, h9.Hq hkr hle hrow (fun x _ _ => ⟨rfl, rfl⟩), h10.keep hkr (fun b _ => ⟨rfl, rfl⟩)⟩
       ·have hn1 := List.nodup_append.1 hn
        have hn2 := List.nodup_append.1 hn1.2.1
        show (blks ((es1 ++ [e]) :: bl)).Nodup
        rw [aA, kZ]
        have heb : ∀ c, c ∈ eX [e] → c ∈ eX es := fun c hc => by
         obtain ⟨y, hy, hyg, rfl⟩ := cB.1 hc
         simp only [List.mem_singleton] at hy
         subst hy
         exact cB.2 ⟨_, List.mem_of_getElem? he, hyg, rfl⟩
        refine List.nodup_append.2 ⟨List.nodup_append.2 ⟨hn2.1, by rw [fE]; cases e.gone <;> simp [eX], fun a ha c hc hac => ?_⟩, hn2.2.1, fun a ha c hc hac => ?_⟩
        ·exact hn1.2.2 c (heb c hc) a (List.mem_append.2 (.inl ha)) hac.symm
        ·rcases List.mem_append.1 ha with ha | ha
         ·exact hn2.2.2 a ha c hc hac
         ·exact hn1.2.2 a (heb a ha) c (List.mem_append.2 (.inr hc)) hac
     ·rename_i hpick
      split at hl
      rotate_left
      ·cases hl
      rename_i us' abL
      simp only [Option.some.injEq, Prod.mk.injEq] at hl
      obtain ⟨rfl, rfl⟩ := hl
      have hres := yG hpick abL (lK := es1 :: bl) g2
      refine ⟨_, hrun, _, ⟨es1 :: bl, m1.cl⟩, rfl, IE hres, ?_, ⟨by simp only [dH]; exact ⟨es1, bl, rfl, h9, h10⟩, by
       rw [aA]; exact (List.nodup_append.1 hn).2.1, k4.le, k4.glob.sub (fun b hb => by rw [hbl, aA]; exact List.mem_append.2 (.inr hb))⟩⟩
      refine ⟨k3.keeps, ⟨?_, ?_⟩, k3.os, k3.tape, k3.output, k3.size, ?_, ?_, fun b hb hnb => k3.cls b hb (by simpa [m0, aA, eX] using hnb)⟩
      ·have := k3.ents.1
       rw [hbl] at this
       simp only [m0, List.length_cons] at this ⊢
       omega
      ·intro l i e1 he1
       obtain ⟨e', q1, q2⟩ := k3.ents.2 (l + 1) i e1 (by simpa [m0, ent] using he1)
       rw [hbl] at q1
       simp only [ent] at q1
       exact ⟨e', q1, q2⟩
      ·intro b hb hnb
       exact k3.kept b hb (by simpa [m0, aA, eX] using hnb)
      ·intro b hb
       have := k3.new b (by rw [hbl, aA]; exact List.mem_append.2 (.inr hb))
       simpa [m0, aA, eX] using this
    obtain ⟨vs2, Fu, hfr, hz⟩ := Co hl
    clear hl
    have hl := hz
    clear hz
    split at hl
    ·rename_i fr st2
     simp only [Option.some.injEq, Prod.mk.injEq] at hl
     obtain ⟨rfl, rfl⟩ := hl
     obtain ⟨m2, x2, w2, v2, n2⟩ := xO k4 g2 hfr
     refine ⟨_, hrun, _, ⟨m2.blk.tail, m2.cl⟩, rfl, ?_, ?_, ?_⟩
     ·have h3 := IE (qK 1 vs2 us v2)
      have : mG m2.blk 1 = m2.blk.tail := by cases m2.blk <;> simp [mG]
      rw [this] at h3
      exact h3
     ·have hx := k3.trans x2
      have hst := w2.st
      simp only [dH] at hst
      obtain ⟨es, bl, hbl, _, _⟩ := hst
      refine ⟨hx.keeps, ⟨?_, ?_⟩, hx.os, hx.tape, hx.output, hx.size, ?_, ?_, fun b hb hnb => hx.cls b hb (by simpa [m0, aA, eX] using hnb)⟩
      ·have := hx.ents.1
       simp only [m0, List.length_cons] at this
       simp only [List.length_tail]; omega
      ·intro l i e he
       obtain ⟨e', q1, q2⟩ := hx.ents.2 (l + 1) i e (by simpa [m0, ent] using he)
       refine ⟨e', ?_, q2⟩
       rw [hbl] at q1 ⊢
       simpa [ent] using q1
      ·intro b hb hnb
       exact hx.kept b hb (by simpa [m0, aA, eX] using hnb)
      ·intro b hb
       rw [hbl] at hb
       have := hx.new b (by rw [hbl, aA]; exact List.mem_append.2 (.inr hb))
       simpa [m0, aA, eX] using this
     ·have hst := w2.st
      simp only [dH] at hst
      obtain ⟨es, bl, hbl, h8, h9⟩ := hst
      have hn := w2.nodup
      rw [hbl, aA] at hn
      refine ⟨by rw [hbl]; exact h9, by rw [hbl]; exact (List.nodup_append.1 hn).2.1, w2.le, w2.glob.sub (fun b hb => by rw [hbl] at hb ⊢; rw [aA]; exact List.mem_append.2 (.inr hb))⟩
    ·cases hl
   ·cases hl
  cases e with
  | exit i => cases k1
  | normal => exact Bh k1
  | ret => exact Bh k1
 ·cases h
theorem KX {q : Site} (hq : CZ q = true) {l i : Nat} {args : List PV} {r : PV} {st' : St} (h : round (real c) S.tab (S.tab.ann q.own) q (.jv l i :: args) st = some (r, st')) : args.length = q.ps.length ∧
  ∀ (m : Mt) (w : World) (g : Nat) (hg : bY.site g = some q) (vs : List Value) (e : bZ) (rec : Loop) (ro : Option Nat), aK m.blk m.cl w args vs → aO m st w → ent m.blk l i = some e → w.heap[e.b]? = some (.loop rec) → Fv g rec →
  RoundIn (Fw ro) 0 P e.b rec.fn ((rec.params.zip vs.toArray).foldl (fun tmps (t, a) => tmps.setIfInBounds t a) rec.tmps) rec.assign rec.body w fun e w' => ∃ v m', e = .returned v ∧ aj m'.blk m'.cl w' r v ∧ Ext m w m' w' ∧ aO m' st' w' := by
 unfold round at h
 dsimp only at h
 split at h
 rotate_left
 ·cases h
 rename_i site ρ uE
 split at h
 rotate_left
 ·cases h
 rename_i ρ1 hbind
 refine ⟨Dc _ _ _ _ hbind, fun m w g hg vs e rec ro hv hw he hrec ad1 => ?_⟩
 simp only [CZ, Bool.and_eq_true, List.all_eq_true] at hq
 obtain ⟨⟨⟨⟨c1, c2⟩, n1⟩, n2⟩, hps⟩ := hq
 obtain ⟨q', q1, q2, q3, q4, q5⟩ := id ad1
 rw [hg] at q1; cases q1
 rw [q2, q3, q4, TN]
 obtain ⟨e', g1, g2⟩ := hw.st.je uE
 rw [he] at g1; cases g1
 simp only [aL] at g2
 obtain ⟨k1, k2, rec', k3, k4, k5, k6⟩ := g2
 rw [hrec] at k3; cases k3
 have hw0 := KW hw
 obtain ⟨b1, b2⟩ := Db (bl := [] :: m.blk) q.ps args vs _ ρ1 rec.tmps hbind (by simpa [mG] using hv) (fun t => by
  rw [Gf]
  exact uf (l + 1) _ _ (by simpa [mG] using k6 t)) (fun t ht => by
  have := Nat.le_of_ble_eq_true (hps t ht)
  omega)
 refine roundIn_of_wpIn trivial ?_
 rw [adQ]
 refine wpIn_mono (wR hs.tab hok hcf hs.mixed (n := q.n) (n0 := 0) q.BS c1 (wP n1) (fun _ => n1) (m := ⟨[] :: m.blk, m.cl⟩) (a := { tmps := (q.ps.zip vs).foldl (fun tmps (t, a) => tmps.setIfInBounds t a) rec.tmps, defers := [] }) b1 hw0 (by rw [b2]; exact q5) trivial (Nat.zero_le _) h) ?_
 rintro x a1 w1 ⟨ex, ρ2, st2, m1, rfl, h1, h2, x1, hw1, h5, h6⟩
 dsimp only at h1
 split at h1
 rotate_left
 ·cases h1
 rename_i fr Fu
 split at h1
 rotate_left
 ·cases h1
 rename_i pK ρ' abM
 cases hsq : Nat.beq site pK with
 | false => rw [hsq] at h1; cases h1
 | true =>
 rw [hsq, cond_true] at h1
 obtain ⟨e1, he1, hle1⟩ := x1.ents.2 (l + 1) i e (by simpa [ent] using he)
 obtain rfl : e1 = e := hle1.2.2 (.inr k1)
 obtain ⟨agP, r1, r2, r3, r4⟩ := Gd (p' := some .normal) hw1 (l := l + 1) (by simpa [look] using abM) he1
 simp only [Ex.to, Exit.then]
 refine ⟨_, run_beginRound r1 r3.1, ?_⟩
 obtain ⟨m2, x2, hw2⟩ := r4 { agP with state := .busy } rfl rfl rfl rfl rfl
 refine wpIn_mono (wR hs.tab hok hcf hs.mixed (n := q.n) (n0 := 0) q.body c2 (wP n2) (fun _ => n2) (h2.ext x2) (by simpa [bJ] using hw2) h5 (h6.ext x2) (Nat.zero_le _) h1) ?_
 rintro x a3 w3 ⟨ex, ρ3, st4, m3, rfl, h1, h2', x3, hw3, h5', h6'⟩
 dsimp only at h1
 split at h1
 rotate_left
 ·cases h1
 rename_i fr4 Ng
 split at h1
 rotate_left
 ·cases h1
 rename_i jY ρ'' abN
 cases ad2 : Nat.beq site jY with
 | false => rw [ad2] at h1; cases h1
 | true =>
 rw [ad2, cond_true] at h1
 have FZ := (x1.trans x2).trans x3
 obtain ⟨e3, he3, hle3⟩ := FZ.ents.2 (l + 1) i e1 (by simpa [ent] using he)
 obtain rfl : e3 = e1 := hle3.2.2 (.inr k1)
 have Bh : ∀ (p' : Option Ex) (jump : Option Code) (b : Bool), b = jump.isNone → (∀ KU : Loop, Ho p' { KU with state := if jump.isNone then .ready else .done, pending := jump }) → (some (PV.d (.bool b), bJ Ng l i (.loop jY ρ'' p')) = some (r, st')) →
   ∃ v w', (Instr.endRound e3.b jump).run P w3 = .ok v w' ∧ ∃ v' m', (Ending.returned v) = .returned v' ∧ aj m'.blk m'.cl w' r v' ∧ Ext m w m' w' ∧ aO m' st' w' := by
  intro p' jump b hb hst heq
  simp only [Option.some.injEq, Prod.mk.injEq] at heq
  obtain ⟨rfl, rfl⟩ := heq
  obtain ⟨KU, r1, r2, r3, r4⟩ := Gd (p' := p') hw3 (l := l + 1) (by simpa [look] using abN) he3
  obtain ⟨m4, x4, hw4⟩ := r4 { KU with state := if jump.isNone then .ready else .done, pending := jump } rfl rfl rfl rfl (hst KU)
  obtain ⟨p1, p2⟩ := Pz (FZ.trans x4) (by simpa [bJ] using hw4)
  exact ⟨_, _, run_endRound jump r1, _, _, rfl, by simp only [aj, aZ]; rw [hb], p1, p2⟩
 cases ex with
 | normal => exact Bh none none true rfl (fun _ => ⟨rfl, rfl⟩) h1
 | ret => exact Bh (some .ret) (some .ret) false rfl (fun _ => ⟨rfl, rfl⟩) h1
 | exit id => exact Bh (some (.exit id)) (some (.exit id)) false rfl (fun _ => ⟨rfl, rfl⟩) h1
theorem Ob {f : Nat} (hf : iF f = false) {args : List PV} {r : PV} {st' : St} (h : step S c f args st = some (r, st')) {vs : List Value} (hv : aK m.blk m.cl w args vs) (hw : aO m st w) :
  Calls P f vs.toArray w fun e w' => ∃ v m', e = .returned v ∧ aj m'.blk m'.cl w' r v ∧ Ext m w m' w' ∧ aO m' st' w' := by
 unfold step at h
 split at h
 ·rename_i g hg
  exact (hs.foreign f g hg).2 args st r st' h m w vs hv hw
 ·split at h
  ·rename_i fn hfn
   split at h
   ·exact Df hs hok hcf hfn h hv hw
   ·split at h
    ·rename_i r1 fr st1 hb
     cases h
     have hargs : aK ([] :: m.blk) m.cl w (down.fA 1 args) vs := rV 1 args vs (by simpa [mG] using hv)
     refine Calls.mono (Df hs hok hcf hfn hb hargs (KW hw)) ?_
     rintro e w' ⟨v, m1, rfl, hr, hx, hw1⟩
     obtain ⟨p1, p2⟩ := Pz hx hw1
     refine ⟨v, ⟨m1.blk.tail, m1.cl⟩, rfl, ?_, p1, p2⟩
     have := zq 1 _ _ hr
     have e1 : mG m1.blk 1 = m1.blk.tail := by cases m1.blk <;> simp [mG]
     rwa [e1] at this
    ·cases h
  ·split at h
   ·rename_i q hq
    simp [iF, hq] at hf
   ·cases h
end
theorem Oc {P : Program} {S : Sys} {c : CF} (hs : pW P S) {f : Nat} (hf : iF f = false) {args : List PV} {st : St} {q : PV × St} (h : step S c f args st = some q) : pV P f := by
 unfold step at h
 split at h
 ·rename_i g hg; exact (hs.foreign f g hg).1
 ·split at h
  ·rename_i fn hfn
   obtain ⟨h1, h2⟩ := hs.fn f fn hfn
   unfold TM at h2
   simp only [Bool.and_eq_true, bne_iff_ne, ne_eq] at h2
   refine ⟨fn, h1, h2.2, ?_⟩
   cases hb : fn.body with
   | none => rw [hb] at h2; simp at h2
   | some c => rfl
  ·split at h
   ·rename_i q hq
    simp [iF, hq] at hf
   ·cases h
theorem KY {P : Program} {S : Sys} (hs : pW P S) (hops : ∀ c, IC P c → FT P c → qO P S.tab c) : IC P (call S) ∧ FT P (call S) := by
 have key : ∀ (f : Nat) (args : List PV) (st : St) (q : PV × St), call S f args st = some q → (iF f = false → pV P f ∧ ∀ (m : Mt) (w : World) (vs : List Value), aK m.blk m.cl w args vs → aO m st w →
   Calls P f vs.toArray w fun e w' => ∃ v m', e = .returned v ∧ aj m'.blk m'.cl w' q.1 v ∧ Ext m w m' w' ∧ aO m' q.2 w') ∧
   (∀ (si : Site) (l i : Nat) (args' : List PV), bY.site f = some si → args = .jv l i :: args' → args'.length = si.ps.length ∧ ∀ (m : Mt) (w : World) (vs : List Value) (e : bZ) (rec : Loop) (ro : Option Nat), aK m.blk m.cl w args' vs → aO m st w → ent m.blk l i = some e → w.heap[e.b]? = some (.loop rec) → Fv f rec →
    RoundIn (Fw ro) 0 P e.b rec.fn ((rec.params.zip vs.toArray).foldl (fun tmps (t, a) => tmps.setIfInBounds t a) rec.tmps) rec.assign rec.body w fun e w' => ∃ v m', e = .returned v ∧ aj m'.blk m'.cl w' q.1 v ∧ Ext m w m' w' ∧ aO m' q.2 w') := by
  intro f args st q h
  refine call.partial_correctness S (fun f args st q => (iF f = false → pV P f ∧ ∀ (m : Mt) (w : World) (vs : List Value), aK m.blk m.cl w args vs → aO m st w →
   Calls P f vs.toArray w fun e w' => ∃ v m', e = .returned v ∧ aj m'.blk m'.cl w' q.1 v ∧ Ext m w m' w' ∧ aO m' q.2 w') ∧
   (∀ (si : Site) (l i : Nat) (args' : List PV), bY.site f = some si → args = .jv l i :: args' → args'.length = si.ps.length ∧ ∀ (m : Mt) (w : World) (vs : List Value) (e : bZ) (rec : Loop) (ro : Option Nat), aK m.blk m.cl w args' vs → aO m st w → ent m.blk l i = some e → w.heap[e.b]? = some (.loop rec) → Fv f rec →
    RoundIn (Fw ro) 0 P e.b rec.fn ((rec.params.zip vs.toArray).foldl (fun tmps (t, a) => tmps.setIfInBounds t a) rec.tmps) rec.assign rec.body w fun e w' => ∃ v m', e = .returned v ∧ aj m'.blk m'.cl w' q.1 v ∧ Ext m w m' w' ∧ aO m' q.2 w')) ?_ f args st q h
  intro c ih f args st q hq
  have hcf : IC P c := fun f args st r st' hf h => (ih f args st (r, st') h).1 hf
  have hrd : FT P c := fun g si l i args st r st' hg h => (ih g (.jv l i :: args) st (r, st') h).2 si l i args hg rfl
  have hok : qO P S.tab c := hops c hcf hrd
  refine ⟨fun hf => ⟨Oc hs hf hq, fun m w vs hv hw => Ob hs hok hcf hf (r := q.1) (st' := q.2) hq hv hw⟩, ?_⟩
  rintro si l i args' hg rfl
  obtain ⟨s1, s2, s3⟩ := hs.site f si hg
  have hq' : round (real c) S.tab (S.tab.ann si.own) si (.jv l i :: args') st = some (q.1, q.2) := by
   have := hq
   unfold step at this
   rw [s2, s1] at this
   simp only [hg] at this
   exact this
  obtain ⟨r1, r2⟩ := KX hs hok hcf s3 hq'
  exact ⟨r1, fun m w vs e rec ro h1 h2 h3 h4 h5 => r2 m w f hg vs e rec ro h1 h2 h3 h4 h5⟩
 exact ⟨fun f args st r st' hf h => (key f args st (r, st') h).1 hf, fun g si l i args st r st' hg h => (key g (.jv l i :: args) st (r, st') h).2 si l i args hg rfl⟩
theorem Od {P : Program} {S : Sys} (hs : pW P S) (hops : ∀ c, IC P c → FT P c → qO P S.tab c) : IC P (call S) := (KY hs hops).1
end Go.X
