/- T -/
import Derived.Test.YtedfkehkcaaplaaXOp3
import Derived.Laws.StructEq
namespace Go.X
open Go
set_option linter.unusedVariables false
variable [bY]
variable {P : Program} {Γ : Tab} {w : World} {bl : List (List bZ)} {cl : Nat → Nat} {cf : Nat → List PV → St → Option (PV × St)}
theorem Xy (hΓ : cZ P Γ) {d t off : Nat} {u v : D} {p q : Value} {xs ys : List Value} {b : Bool} (hx : xs[off]? = some p) (hy : ys[off]? = some q) (hu : aZ cl w u p) (hv : aZ cl w v q) (h : eqD (real cf) (Γ.ty t) u v = some b) :
  (part t xs.toArray off).run P w = .ok p w ∧ (part t ys.toArray off).run P w = .ok q w ∧ (Op.equalIn (d + 1) t p q).run P w = .ok b w := by
 have ht := hΓ.ty t
 unfold kD at ht
 unfold eqD at h
 split at h
 ·rename_i kt k x k' y hty
  rw [hty] at ht
  simp only at ht
  simp only [aZ] at hu hv
  subst hu; subst hv
  cases hk : rH k k' with
  | false => simp [hk] at h
  | true =>
   obtain rfl := jr hk
   simp only [hk, cond_true, Option.some.injEq] at h
   subst h
   exact ⟨by simp [part, isAgg, run_underlying ht, hx], by simp [part, isAgg, run_underlying ht, hy], run_equalIn_int w d t _ _ _ _ ht⟩
 ·rename_i x y hty
  rw [hty] at ht
  simp only at ht
  simp only [aZ] at hu hv
  subst hu; subst hv
  cases h
  exact ⟨by simp [part, isAgg, run_underlying ht, hx], by simp [part, isAgg, run_underlying ht, hy], run_equalIn_bool' w d t _ _ ht⟩
 ·rename_i x y hty
  rw [hty] at ht
  simp only at ht
  simp only [aZ] at hu hv
  subst hu; subst hv
  cases h
  exact ⟨by simp [part, isAgg, run_underlying ht, hx], by simp [part, isAgg, run_underlying ht, hy], run_equalIn_string w d t _ _ ht⟩
 ·cases h
theorem Cm (hΓ : cZ P Γ) (d : Nat) (xs ys : List Value) : ∀ (fs : List Field) (gs : List (Nat × Nat × Nat)) (us vs : List PV) (k : Nat) (b : Bool), fs.length = gs.length →
  (∀ (j : Nat) f, fs[j]? = some f → f.offset = k + j ∧ f.name ≠ "_") → (∀ (j : Nat) f g, fs[j]? = some f → gs[j]? = some g → f.type = g.2.2) →
  aF bl cl w us (xs.drop k) → aF bl cl w vs (ys.drop k) → xJ (real cf) Γ gs us vs = some b → (Op.eqFields (d + 1) xs.toArray ys.toArray fs).run P w = .ok b w
 | [], [], us, vs, k, b, _, _, _, hu, hv, h => by
  unfold xJ at h
  split at h
  ·cases h; simp [Op.eqFields]
  ·rename_i e; cases e
  ·cases h
 | f :: fs, g :: gs, us, vs, k, b, hl, hf, ht, hu, hv, h => by
  unfold xJ at h
  split at h
  ·exact absurd ‹g :: gs = []› (by simp)
  ·rename_i g' gs' u us v vs e
   cases e
   split at h
   ·cases h
   ·rename_i b1 h1
    split at h
    ·cases h
    ·rename_i c h2
     cases h
     simp only [aF] at hu hv
     obtain ⟨p, s, e1, r1, _, c1⟩ := hu
     obtain ⟨q, s', e2, r2, _, c2⟩ := hv
     obtain ⟨o1, n1⟩ := hf 0 f rfl
     have t1 := ht 0 f g rfl rfl
     have x1 : xs[f.offset]? = some p := by
      have : (xs.drop k)[0]? = some p := by rw [e1]; rfl
      rw [o1]; simpa using this
     have y1 : ys[f.offset]? = some q := by
      have : (ys.drop k)[0]? = some q := by rw [e2]; rfl
      rw [o1]; simpa using this
     rw [← t1] at h1
     obtain ⟨a1, a2, a3⟩ := Xy (d := d) hΓ x1 y1 (by simpa only [aj] using r1) (by simpa only [aj] using r2) h1
     have ih := Cm hΓ d xs ys fs gs us vs (k + 1) c (by simpa using hl) (fun j f' hj => by
      have := hf (j + 1) f' (by simpa using hj)
      exact ⟨by omega, this.2⟩) (fun j f' g' hj hg => ht (j + 1) f' g' (by simpa using hj) (by simpa using hg))
      (by rw [← List.drop_drop, e1]; exact c1) (by rw [← List.drop_drop, e2]; exact c2) h2
     simp only [Op.eqFields, n1, ne_eq, not_false_eq_true, if_true, Sem.run_bind, a1, a2, a3, Result.andThen_ok]
     cases b1 with
     | true => simpa using ih
     | false => simp
  ·cases h
 | [], _ :: _, _, _, _, _, hl, _, _, _, _, _ => by simp at hl
 | _ :: _, [], _, _, _, _, hl, _, _, _, _, _ => by simp at hl
theorem QY (hΓ : cZ P Γ) {t : TypeId} (he : SI P t) {n : Nat} {gs : List (Nat × Nat × Nat)} (hty : Γ.ty t = .agg n gs) {us vs : List PV} {xs ys : List Value} {b : Bool}
  (h1 : aF bl cl w us xs) (h2 : aF bl cl w vs ys) (h : xJ (real cf) Γ gs us vs = some b) : (Op.equal t (.agg xs.toArray) (.agg ys.toArray)).run P w = .ok b w := by
 have ht := hΓ.ty t
 unfold kD at ht
 rw [hty] at ht
 simp only at ht
 obtain ⟨fields, e1, _, e2, e3⟩ := ht
 have ef : P.fieldsOf t = fields := by unfold Program.fieldsOf; rw [e1]
 have hr := Cm hΓ 9998 xs ys fields.toList gs us vs 0 b (by simpa using e2) (fun j f hj => by
  have := he.abA j f (by rw [ef]; exact hj)
  exact ⟨by omega, this.2⟩) (fun j f g hj hg => (e3 j f g (by simpa using hj) hg).2.1) (by simpa using h1) (by simpa using h2) h
 have hg := run_equalIn_struct w 9999 t xs.toArray ys.toArray he.ty he.held
 rw [ef, hr] at hg
 exact hg
theorem SQ (hΓ : cZ P Γ) {t : TypeId} (he : SI P t) {n : Nat} {gs : List (Nat × Nat × Nat)} (hty : Γ.ty t = .agg n gs) {x y : Operand} {op : BinOp} {us vs : List PV} {p q : Value} {b : Bool} (ho : op = .eql ∨ op = .neq)
  (hp : aj bl cl w (.agg us) p) (hq : aj bl cl w (.agg vs) q) (h : xJ (real cf) Γ gs us vs = some b) :
  ((do eqGuard op t x y p q; binOp op t p q) : Sem Value).run P w = .ok (.bool (match op with | .eql => b | _ => !b)) w := by
 simp only [aj] at hp hq
 obtain ⟨xs, rfl, h1⟩ := hp
 obtain ⟨ys, rfl, h2⟩ := hq
 have ht := hΓ.ty t
 unfold kD at ht
 rw [hty] at ht
 simp only at ht
 obtain ⟨fields, e1, _, e2, e3⟩ := ht
 have ef : P.fieldsOf t = fields := by unfold Program.fieldsOf; rw [e1]
 have hr := Cm hΓ 9998 xs ys fields.toList gs us vs 0 b (by simpa using e2) (fun j f hj => by
  have := he.abA j f (by rw [ef]; exact hj)
  exact ⟨by omega, this.2⟩) (fun j f g hj hg => (e3 j f g (by simpa using hj) hg).2.1) (by simpa using h1) (by simpa using h2) h
 have hg := run_equalIn_struct w 9999 t xs.toArray ys.toArray he.ty he.held
 rw [ef, hr] at hg
 rcases ho with rfl | rfl
 ·simp only [Sem.run_bind, run_eqGuard_agg w .eql t x y _ _ he.guard, Result.andThen_ok, run_eql_struct, hg]
 ·simp only [Sem.run_bind, run_eqGuard_agg w .neq t x y _ _ he.guard, Result.andThen_ok, run_neq_struct, hg]
section
variable {R : Type} {o : Oper} {a : Act} {m : Mt} {K : PV → St → Option R} {r : R} {st : St} {ρ : Env}
theorem Xz (hΓ : cZ P Γ) (he : aM m w ρ a) (hw : aO m st w) {op : BinOp} {t ty : TypeId} {x y : Operand} (hop : o.op = .binOp op t x y ty) (hs : Γ.eqs t = true)
  (h : EP (real cf) Γ t op st (ev ρ x) (ev ρ y) K = some r) : Goes P o a w m K r := by
 have hp := bV he x
 have hq := bV he y
 have hx : execOp a.eval o = (do let v ← ((do eqGuard op t x y (a.eval x) (a.eval y); binOp op t (a.eval x) (a.eval y)) : Sem Value); pure (.value v)) := by
  simp [execOp, hop]
 unfold EP at h
 split at h
 ·rename_i n gs us vs hty e1 e2
  rw [e1] at hp; rw [e2] at hq
  split at h
  ·rename_i b hb
   split at h
   ·have := SQ hΓ (hΓ.eq t hs) hty (x := x) (y := y) (op := .eql) (.inl rfl) hp hq hb
    exact Goes.value (by rw [hx]; simp only [Sem.run_bind, this]; rfl) h hw (by simp only [aj, aZ])
   ·have := SQ hΓ (hΓ.eq t hs) hty (x := x) (y := y) (op := .neq) (.inr rfl) hp hq hb
    exact Goes.value (by rw [hx]; simp only [Sem.run_bind, this]; rfl) h hw (by simp only [aj, aZ])
   ·cases h
  ·cases h
 ·cases h
end
end Go.X
