/- T -/
import Derived.Test.YtedfkehkcaaplaaXReg
namespace Go.X
open Go
set_option linter.unusedVariables false
variable [bY]
section
variable {c : CF}
theorem TF {Γ : Tab} {an : iG} {ρ : Env} {st : St} {dst : Option Nat} {op : Op} (hq : quiet op = true) {v : PV} {st' : St} (h : evalOp (real c) Γ an ρ st dst op fin = some (v, st')) : st' = st := by
 have jO : ∀ {b : Bool} {x : Option (PV × St)} {y : PV × St}, (bif b then x else none) = some y → x = some y := by
  intro b x y h; cases b <;> simp at h ⊢; exact h
 have bin : ∀ {t : Ty} {op : BinOp} {x y : PV}, Ak (real c) t op st x y fin = some (v, st') → st' = st := by
  intro t op x y h
  unfold Ak at h
  split at h
  ·cases h; rfl
  ·split at h
   ·split at h <;> cases h <;> rfl
   ·split at h
    ·cases jO h; rfl
    ·have h := jO h
     rename_i b _ _
     revert h
     cases (real c).ieq _ _ <;> intro h <;> cases h; rfl
    ·have h := jO h
     revert h
     cases (real c).ieq _ _ <;> intro h <;> cases h; rfl
    ·cases h
 cases op
 case binOp op t x y ty =>
  simp only [evalOp] at h
  cases he : Γ.eqs t with
  | false =>
   rw [he] at h
   cases hn : zm y with
   | false => rw [hn] at h; exact bin h
   | true =>
    rw [hn] at h
    simp only [cond_true, cond_false] at h
    unfold Cb at h
    split at h
    ·rename_i rows _ _
     revert h
     cases (real c).ieq _ _ <;> intro h <;> cases h <;> rfl
    ·rename_i rows _ _
     revert h
     cases (real c).ieq _ _ <;> intro h <;> cases h <;> rfl
    ·cases h
  | true =>
   rw [he] at h
   simp only [cond_true] at h
   unfold EP at h
   split at h
   ·split at h
    ·split at h <;> cases h <;> rfl
    ·cases h
   ·cases h
 case slice => simp [quiet] at hq
 case lookup =>
  simp only [evalOp] at h
  split at h
  ·split at h
   ·unfold og at h
    simp only [mP] at h
    have h := jO h
    split at h
    ·cases h; rfl
    ·split at h
     ·have h := jO h
      split at h <;> cases h <;> rfl
     ·cases h
    ·cases h
   ·cases h
  ·cases h
 case assign x =>
  simp only [evalOp] at h
  split at h
  ·split at h
   ·simp [quiet] at hq
   ·cases h; rfl
  ·cases h; rfl
 case load t x =>
  simp only [evalOp] at h
  rw [Fz] at h
  split at h
  ·split at h
   ·cases h; rfl
   ·cases h
  ·cases h
 case indexAddr t x y =>
  simp only [evalOp] at h
  split at h
  ·split at h
   ·have h := jO h
    obtain ⟨_, _, h⟩ := Option.bind_eq_some_iff.1 h
    cases h; rfl
   ·split at h
    ·have h := jO (jO h)
     obtain ⟨_, _, h⟩ := Option.bind_eq_some_iff.1 h
     cases h; rfl
    ·cases h
   ·cases h
  ·cases h
 case call cl =>
  simp only [quiet] at hq
  split at hq <;> first | (cases hq; done) | skip
  all_goals (rename_i hc; simp only [evalOp, hc, ji, jk, oo] at h)
  ·split at h
   all_goals (try contradiction)
   split at h <;> first | (cases h; rfl) | (split at h <;> first | (cases h; rfl) | cases h) | cases h
  ·split at h
   all_goals (try contradiction)
   split at h <;> first | (cases h; rfl) | cases h
  ·split at h
   all_goals (try contradiction)
   revert h; cases (real c).jc _ _ <;> intro h <;> cases h <;> rfl
  ·split at h
   all_goals (try contradiction)
   revert h; cases (real c).jc _ _ <;> intro h <;> cases h <;> rfl
 all_goals (first | (simp [quiet] at hq; done) | skip)
 all_goals simp only [evalOp] at h
 all_goals (repeat' first | (cases h; rfl) | (cases h; done) | split at h | (have h := jO h))
 all_goals (revert h; cases ‹Bool› <;> intro h <;> cases h <;> rfl)
end
theorem qP {ρ ρ' : Env} : ∀ {l : List Operand}, (∀ x ∈ l, ev ρ x = ev ρ' x) → evs ρ l = evs ρ' l
 | [], _ => rfl
 | x :: r, h => by simp only [evs, h x (by simp), qP (l := r) fun y hy => h y (by simp [hy])]
theorem map_congr {ρ ρ' : Env} {x : Option Operand} (h : ∀ y ∈ x.toArray, ev ρ y = ev ρ' y) : x.map (ev ρ) = x.map (ev ρ') := by
 cases x with
 | none => rfl
 | some x => simp only [Option.map_some, h x (by simp)]
theorem Av {Ω : Om} {Γ : Tab} {an : iG} {ρ ρ' : Env} {st : St} {dst : Option Nat} {op : Op} (hs : still op = true) (h : ∀ x ∈ op.operands, ev ρ x = ev ρ' x) :
  evalOp Ω Γ an ρ st dst op fin = evalOp Ω Γ an ρ' st dst op fin := by
 cases op
 case call c =>
  simp only [still] at hs
  have hargs : ∀ x ∈ c.args.toList, ev ρ x = ev ρ' x := fun x hx => h x (by simp only [Op.operands, Call.operands, Array.mem_append]; exact .inr (by simpa using hx))
  have e1 := qP hargs
  split at hs <;> first | (cases hs; done) | skip
  ·rename_i f hc
   have e2 := h f (by simp [Op.operands, Call.operands, hc])
   simp only [evalOp, hc, e1, e2]
  all_goals
   rename_i hc
   simp only [evalOp, hc, e1]
   generalize evs ρ' c.args.toList = L
   generalize c.argTypes.toList = T
   split <;> first | contradiction | (simp only []; done) | rfl | skip
 case assign x =>
  have e1 := h x (by simp [Op.operands])
  simp only [evalOp, e1]
 case slice =>
  simp only [Op.operands, Array.mem_append] at h
  simp only [evalOp]
  rw [h _ (.inl (.inl (.inl (by simp)))), map_congr fun y hy => h y (.inl (.inl (.inr hy))), map_congr fun y hy => h y (.inl (.inr hy)), map_congr fun y hy => h y (.inr hy)]
 case build t parts =>
  have e1 := qP (l := parts.toList.map (·.2)) fun x hx => h x (by simp [Op.operands] at hx ⊢; exact hx)
  simp only [evalOp, e1]
 case buildSlice t n parts =>
  have e1 := qP (l := parts.toList.map (·.2)) fun x hx => h x (by simp [Op.operands] at hx ⊢; exact hx)
  simp only [evalOp, e1]
 case makeFunc f first caps =>
  have e1 := qP (l := caps.toList) fun x hx => h x (by simp only [Op.operands, Array.mem_append]; exact .inr (by simpa using hx))
  cases f <;> simp only [evalOp, e1]
 all_goals (first | (simp [still, quiet] at hs; done) | skip)
 all_goals
  simp only [evalOp]
  simp [Op.operands] at h
  simp [h]
theorem KQ {op : Op} (h : quiet op = true) : still op = true := by
 cases op <;> first | rfl | exact h | (simp [quiet] at h; done) | skip
 rename_i c
 simp only [quiet] at h
 simp only [still]
 split at h <;> first | (rename_i hc; simp only [hc]; done) | cases h
def Iq (Γ : Tab) (an : iG) (c : CF) (l : List Oper) (k : Nat) (o : Oper) (v : PV) (E E' : Nat → PV) (s s' : St) : Prop :=
 (∀ t, E' t = if o.dst = some t then v else E t) ∧ ((quiet o.op = false ∧ tu l k = true) ∨ s' = s) ∧
 (((o.guard = none ∨ ∃ j want, o.guard = some (j, want) ∧ E (dX l j) = .d (.bool want)) ∧ ∃ ρ, (∀ t, gW ρ t = E t) ∧ evalOp (real c) Γ an ρ s o.dst o.op fin = some (v, s')) ∨
  (v = .skip ∧ s' = s ∧ ∃ j want, o.guard = some (j, want) ∧ (E (dX l j) = .d (.bool !want) ∨ E (dX l j) = .skip)))
def zF (Γ : Tab) (an : iG) (c : CF) (l : List Oper) (k : Nat) (o : Oper) (v : PV) (E E' : Nat → PV) (s s' : St) : Prop :=
 (∀ t, E' t = if o.dst = some t then v else E t) ∧ ((quiet o.op = false ∧ ER l k = true) ∨ s' = s) ∧
 (((o.guard = none ∨ ∃ j want, o.guard = some (j, want) ∧ E (dX l j) = .d (.bool want)) ∧ ∃ ρ, (∀ t, gW ρ t = E t) ∧ evalOp (real c) Γ an ρ s o.dst o.op fin = some (v, s')) ∨
  (v = .skip ∧ s' = s ∧ ∃ j want, o.guard = some (j, want) ∧ (E (dX l j) = .d (.bool !want) ∨ E (dX l j) = .skip)))
theorem zF.at_ {Γ : Tab} {an : iG} {c : CF} {l : List Oper} {k : Nat} {o : Oper} {v : PV} {E E' : Nat → PV} {s s' : St} (h : zF Γ an c l k o v E E' s s') (hf : Ce l = none) : Iq Γ an c l k o v E E' s s' := by
 refine ⟨h.1, ?_, h.2.2⟩
 rcases h.2.1 with ⟨h1, h2⟩ | h1
 ·exact .inl ⟨h1, by simpa [ER, hf] using h2⟩
 ·exact .inr h1
theorem yx {ρ : Env} {s : Nat} {x : PV} (h : gW ρ s = x) (t : Nat) : gW (est ρ s x) t = gW ρ t := by
 rw [rT]; split
 ·rename_i e; rw [← e, h]
 ·rfl
theorem yA (ρ : Env) (d : Option Nat) (v : PV) (t : Nat) : gW (oh ρ d v) t = if d = some t then v else gW ρ t := by
 cases d with
 | none => simp [oh]
 | some d => simp [oh, rT]
def Ir {R : Type} (Γ : Tab) (an : iG) (c : CF) (all : List Oper) (K : Env → St → Option R) (r : R) (l : List Oper) (k : Nat) (ρ : Env) (st : St) : Prop :=
 ∃ (val : Nat → PV) (E : Nat → Nat → PV) (S : Nat → St), (∀ t, E k t = gW ρ t) ∧ S k = st ∧ (∀ i o, l[i]? = some o → zF Γ an c all (k + i) o (val (k + i)) (E (k + i)) (E (k + i + 1)) (S (k + i)) (S (k + i + 1))) ∧
   ∃ ρ', (∀ t, gW ρ' t = E (k + l.length) t) ∧ K ρ' (S (k + l.length)) = some r
theorem yB (an : iG) (d : Option Nat) : Hg an true d = [] := by cases d <;> rfl
theorem nT {R : Type} {Γ : Tab} {an : iG} {c : CF} {all : List Oper} {K : Env → St → Option R} {r : R} : ∀ (l : List Oper) (k : Nat) (ρ : Env) (st : St), dG (real c) Γ an (nQ an true all k l) ρ st K = some r → Ir Γ an c all K r l k ρ st
 | [], k, ρ, st, h => by
  simp only [nQ, dG, yB, wG] at h
  exact ⟨fun _ => .unk, fun _ => gW ρ, fun _ => st, fun _ => rfl, rfl, fun i o h => by simp at h, ρ, fun _ => rfl, h⟩
 | o :: l, k, ρ, st, h => by
  have go : ∀ (v : PV) (ρ1 : Env) (st1 : St), (∀ t, gW ρ1 t = if o.dst = some t then v else gW ρ t) → zF Γ an c all k o v (gW ρ) (gW ρ1) st st1 → dG (real c) Γ an (nQ an true all (k + 1) l) ρ1 st1 K = some r →
    Ir Γ an c all K r (o :: l) k ρ st := by
   intro v ρ1 st1 h1 h2 h3
   obtain ⟨val, E, S, g1, g2, g3, ρ', g4, g5⟩ := nT l (k + 1) ρ1 st1 h3
   refine ⟨fun i => if i = k then v else val i, fun i => if i = k then gW ρ else E i, fun i => if i = k then st else S i, fun t => by simp, by simp, fun i o' hi => ?_, ρ', fun t => ?_, ?_⟩
   ·cases i with
    | zero =>
     simp at hi; subst hi
     have e1 : E (k + 1) = gW ρ1 := funext g1
     simpa [e1, g2] using h2
    | succ i =>
     have := g3 i o' (by simpa using hi)
     have n1 : ¬ (k + (i + 1) = k) := by omega
     have n2 : ¬ (k + (i + 1) + 1 = k) := by omega
     simp only [n1, n2, if_false]
     rwa [show k + (i + 1) = k + 1 + i by omega]
   ·have n1 : ¬ (k + (o :: l).length = k) := by simp
    simp only [n1, if_false]
    rw [g4 t]; congr 1; simp; omega
   ·have n1 : ¬ (k + (o :: l).length = k) := by simp
    simp only [n1, if_false]
    rw [← g5]; congr 2; simp; omega
  have ran : ∀ (ρ0 : Env) (g : o.guard = none ∨ ∃ j want, o.guard = some (j, want) ∧ gW ρ (dX all j) = .d (.bool want)), (∀ t, gW ρ0 t = gW ρ t) →
    evalOp (real c) Γ an ρ0 st o.dst o.op (mH (real c) (bif true then (bif quiet o.op then false else !(ER all k)) else false) st fun v st => dG (real c) Γ an (nQ an true all (k + 1) l) (oh ρ0 o.dst v) st K) = some r → Ir Γ an c all K r (o :: l) k ρ st := fun ρ0 g h0 h => by
   rw [oC] at h
   obtain ⟨⟨v, st1⟩, hev, hK⟩ := Option.bind_eq_some_iff.1 h
   dsimp only at hK
   have hst : (quiet o.op = false ∧ ER all k = true) ∨ st1 = st := by
    cases hq : quiet o.op with
    | true => exact .inr (TF hq hev)
    | false =>
     cases hb : (!(ER all k)) with
     | false =>
      left
      refine ⟨rfl, ?_⟩
      simpa using hb
     | true =>
      right
      simp only [mH, hq, hb, cond_true, cond_false] at hK
      cases hsame : (real c).same st st1 with
      | false => simp [hsame] at hK
      | true =>
       have : st = st1 := by simpa [real] using hsame
       exact this.symm
   have hK' : dG (real c) Γ an (nQ an true all (k + 1) l) (oh ρ0 o.dst v) st1 K = some r := by
    unfold mH at hK
    revert hK
    cases (bif true then (bif quiet o.op then false else !(ER all k)) else false) with
    | false => intro hK; exact hK
    | true =>
     intro hK
     simp only [cond_true] at hK
     cases hsame : (real c).same st st1 with
     | false => simp [hsame] at hK
     | true =>
      have : st = st1 := by simpa [real] using hsame
      subst this
      simpa [hsame] using hK
   exact go v (oh ρ0 o.dst v) st1 (fun t => by rw [yA, h0]) ⟨fun t => by rw [yA, h0], hst, .inl ⟨g, ρ0, h0, hev⟩⟩ hK'
  have skipped : ∀ (ρ0 : Env), (∀ t, gW ρ0 t = gW ρ t) → (∃ j want, o.guard = some (j, want) ∧ (gW ρ (dX all j) = .d (.bool !want) ∨ gW ρ (dX all j) = .skip)) →
    dG (real c) Γ an (nQ an true all (k + 1) l) (oh ρ0 o.dst .skip) st K = some r → Ir Γ an c all K r (o :: l) k ρ st := fun ρ0 h0 g h =>
   go .skip (oh ρ0 o.dst .skip) st (fun t => by rw [yA, h0]) ⟨fun t => by rw [yA, h0], .inr rfl, .inr ⟨rfl, rfl, g⟩⟩ h
  simp only [nQ, dG, yB, wG] at h
  split at h
  ·rename_i hg
   have hgn : o.guard = none := by
    cases h : o.guard with
    | none => rfl
    | some q => obtain ⟨j, want⟩ := q; simp [h] at hg
   exact ran ρ (.inl hgn) (fun _ => rfl) h
  ·rename_i s want hg
   have hgs : ∃ j, o.guard = some (j, want) ∧ dX all j = s := by
    cases h : o.guard with
    | none => simp [h] at hg
    | some q => obtain ⟨j, want'⟩ := q; simp [h] at hg; exact ⟨j, by rw [hg.2], hg.1⟩
   obtain ⟨j, hgj, hgs⟩ := hgs
   subst hgs
   split at h
   ·rename_i b hb
    cases b <;> cases want <;> simp only [cond_true, cond_false, Bool.not_true, Bool.not_false] at h
    ·exact ran _ (.inr ⟨j, _, hgj, hb⟩) (yx hb) h
    ·exact skipped _ (yx hb) ⟨j, _, hgj, .inl hb⟩ h
    ·exact skipped _ (yx hb) ⟨j, _, hgj, .inl hb⟩ h
    ·exact ran _ (.inr ⟨j, _, hgj, hb⟩) (yx hb) h
   ·rename_i hb
    exact skipped ρ (fun _ => rfl) ⟨j, _, hgj, .inr hb⟩ h
   ·cases h
end Go.X
