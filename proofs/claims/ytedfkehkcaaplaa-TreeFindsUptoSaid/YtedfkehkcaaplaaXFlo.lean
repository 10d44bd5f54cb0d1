/- T -/
import Derived.Test.YtedfkehkcaaplaaXAny
import Derived.Test.YtedfkehkcaaplaaXOp5
namespace Go.X
open Go
set_option linter.unusedVariables false
variable [bY]
theorem uH {n : Nat} : ∀ {l : List Nat}, mem n l = true ↔ n ∈ l
 | [] => by simp [mem]
 | x :: l => by
  by_cases h : n = x
  ·subst h; simp [mem, eY]
  ·simp only [mem, qI h, cond_false, List.mem_cons, h, false_or]
   exact uH
theorem zH {ops : Array Oper} {p : Nat → Prop} (hp : ∀ j i, p j → Waits ops j i → p i) : ∀ (k : Nat) (l : List Nat), (∀ j ∈ l, p j) → ∀ j ∈ Nb ops.toList k l, p j
 | 0, l, h, j, hj => h j hj
 | k + 1, l, h, j, hj => by
  simp only [Nb] at hj
  refine zH hp k _ (fun i hi => ?_) j hj
  cases hb : (l.any fun j => waits ops.toList j k) with
  | false => rw [hb] at hi; exact h i hi
  | true =>
   rw [hb] at hi
   obtain ⟨q, hq, hw⟩ := List.any_eq_true.1 hb
   rcases List.mem_cons.1 hi with rfl | hi
   ·exact hp q i (h q hq) (wQ hw)
   ·exact h i hi
theorem FX : ∀ {l : List Oper} {k a d : Nat}, Xt k l = some (a, d) → ∃ i o t, a = k + i ∧ l[i]? = some o ∧ o.op = .alloc t ∧ o.guard = none ∧ o.dst = some d
 | [], k, a, d, h => by cases h
 | o :: r, k, a, d, h => by
  simp only [Xt] at h
  split at h
  ·rename_i t d' h1 h2 h3
   cases h
   exact ⟨0, o, t, rfl, rfl, h1, h2, h3⟩
  ·obtain ⟨i, o', t, h1, h2, h3⟩ := FX h
   exact ⟨i + 1, o', t, by omega, by simpa using h2, h3⟩
theorem zI {d : Nat} : ∀ {l : List Oper} {k w : Nat}, SF d k l = some w → ∃ i o t x, w = k + i ∧ l[i]? = some o ∧ o.op = .store t (.tmp d) x ∧ Fq d x = false ∧ o.guard = none ∧ o.dst = none
 | [], k, w, h => by cases h
 | o :: r, k, w, h => by
  simp only [SF] at h
  split at h
  ·rename_i t t' x h1 h2 h3
   cases hb : Nat.beq t' d && !(Fq d x) with
   | true =>
    rw [hb] at h
    simp only [cond_true] at h
    cases h
    simp only [Bool.and_eq_true] at hb
    obtain rfl := Nat.eq_of_beq_eq_true hb.1
    exact ⟨0, o, t, x, rfl, rfl, h1, by simpa using hb.2, h2, h3⟩
   | false =>
    rw [hb] at h
    simp only [cond_false] at h
    obtain ⟨i, o', t, x, h1, h2, h3⟩ := zI h
    exact ⟨i + 1, o', t, x, by omega, by simpa using h2, h3⟩
  ·obtain ⟨i, o', t, x, h1, h2, h3⟩ := zI h
   exact ⟨i + 1, o', t, x, by omega, by simpa using h2, h3⟩
theorem Ay {ops : List Oper} {a w d : Nat} {l : List Nat} : ∀ {r : List Oper} {k : Nat}, Cc ops a w d l k r = true → ∀ i o, r[i]? = some o → k + i = a ∨ k + i = w ∨ (still o.op = true ∧ looks ops o d = false ∧ (wH o.op = true ∨ (k + i < a ∧ k + i ∈ l)))
 | [], k, h, i, o, hi => by simp at hi
 | q :: r, k, h, i, o, hi => by
  simp only [Cc, Bool.and_eq_true, Bool.or_eq_true] at h
  cases i with
  | zero =>
   simp at hi; subst hi
   rcases h.1 with (h1 | h1) | ⟨⟨h1, h2⟩, h3⟩
   ·exact .inl (Nat.eq_of_beq_eq_true h1)
   ·exact .inr (.inl (Nat.eq_of_beq_eq_true h1))
   ·refine .inr (.inr ⟨h1, by simpa using h2, ?_⟩)
    rcases h3 with h3 | ⟨h3, h4⟩
    ·exact .inl h3
    ·exact .inr ⟨sF h3, uH.1 h4⟩
  | succ i =>
   have := Ay h.2 i o (by simpa using hi)
   rwa [show k + (i + 1) = k + 1 + i by omega]
structure aaK (ops : Array Oper) (iA iW d : Nat) : Prop where
 a : ∃ o t, ops[iA]? = some o ∧ o.op = .alloc t ∧ o.guard = none ∧ o.dst = some d
 w : ∃ o t x, ops[iW]? = some o ∧ o.op = .store t (.tmp d) x ∧ Fq d x = false ∧ o.guard = none ∧ o.dst = none
 lt : iA < iW
 anc : ∀ p : Nat → Prop, (∀ j i, p j → Waits ops j i → p i) → p iW → p iA
 rest : ∀ i o, ops[i]? = some o → i = iA ∨ i = iW ∨ (still o.op = true ∧ d ∉ o.looksAt ops ∧ (wH o.op = true ∨ (i < iA ∧ ∀ p : Nat → Prop, (∀ j i, p j → Waits ops j i → p i) → p iW → p i)))
theorem NV {ops : Array Oper} {o : Oper} {d : Nat} {n : Nat} (hok : lT n ops.toList o = true) (h : looks ops.toList o d = false) : d ∉ o.looksAt ops := by
 simp only [looks, Bool.or_eq_false_iff] at h
 intro hc
 simp only [Oper.looksAt, List.mem_append, List.mem_filterMap] at hc
 rcases hc with ⟨x, hx, hx2⟩ | hc
 ·have h1 := List.any_eq_false.1 h.1 x hx
  cases x with
  | tmp t => simp at hx2; subst hx2; simp [Fq, eY] at h1
  | _ => cases hx2
 ·cases hg : o.guard with
  | none => rw [hg] at hc; cases hc
  | some q =>
   obtain ⟨j, want⟩ := q
   rw [hg] at hc
   have h2 := h.2
   rw [hg] at h2
   obtain ⟨q, e, hq, BA⟩ := nS hok j want hg
   have hq' : ops[j]? = some q := by simpa using hq
   simp only [hq', Option.bind_some, BA, Option.toList_some, List.mem_singleton] at hc
   subst hc
   simp [dX, hq, BA, eY] at h2
theorem Rq {ops : Array Oper} {n iA iW d : Nat} (hl : ∀ o ∈ ops.toList, lT n ops.toList o = true) (h : Ce ops.toList = some (iA, iW, d)) : aaK ops iA iW d := by
 unfold Ce at h
 cases hst : lH ops.toList 0 ops.toList with
 | true => simp [hst] at h
 | false =>
  rw [hst, cond_false] at h
  split at h
  ·cases h
  rename_i a d' hA
  split at h
  ·cases h
  rename_i w hW
  cases hb : (Nat.blt a w && mem a (Nb ops.toList w [w]) && Cc ops.toList a w d' (Nb ops.toList w [w]) 0 ops.toList) with
  | false => simp [hb] at h
  | true =>
   rw [hb, cond_true] at h
   cases h
   simp only [Bool.and_eq_true] at hb
   obtain ⟨⟨h1, h2⟩, h3⟩ := hb
   obtain ⟨i, o, t, e, q1, q2, q3, q4⟩ := FX hA
   obtain ⟨i', o', t', x, e', p1, p2, p3, p4, p5⟩ := zI hW
   have e : iA = i := by omega
   have e' : iW = i' := by omega
   subst e; subst e'
   refine ⟨⟨o, t, by simpa using q1, q2, q3, q4⟩, ⟨o', t', x, by simpa using p1, p2, p3, p4, p5⟩, sF h1, fun p hp hw => zH hp iW [iW] (fun j hj => by rw [List.mem_singleton.1 hj]; exact hw) iA (uH.1 h2), fun k q hq => ?_⟩
   have := Ay h3 k q (by simpa using hq)
   rw [Nat.zero_add] at this
   rcases this with h | h | ⟨r1, r2, r3⟩
   ·exact .inl h
   ·exact .inr (.inl h)
   ·refine .inr (.inr ⟨r1, NV (hl q (List.mem_of_getElem? (by simpa using hq : ops.toList[k]? = some q))) r2, ?_⟩)
    rcases r3 with r3 | ⟨r3, r4⟩
    ·exact .inl r3
    ·exact .inr ⟨r3, fun p hp hw => zH hp iW [iW] (fun j hj => by rw [List.mem_singleton.1 hj]; exact hw) k r4⟩
theorem Px {c : CF} {Γ : Tab} {an : iG} {ρ : Env} {st st' : St} {dst : Option Nat} {op : Op} {v : PV} (hf : wH op = true) (h : evalOp (real c) Γ an ρ st dst op fin = some (v, st')) (s : St) : evalOp (real c) Γ an ρ s dst op fin = some (v, s) := by
 cases op <;> first | (simp [wH] at hf; done) | skip
 case move x =>
  simp only [evalOp] at h ⊢
  revert h
  repeat' split
  all_goals (intro h; first | (cases h; rfl) | (cases h; done))
 case assign x =>
  simp only [evalOp] at h ⊢
  revert h hf
  repeat' split
  all_goals (intro hf h; first | (simp [wH] at hf; done) | (cases h; rfl) | (cases h; done))
 case extract =>
  simp only [evalOp] at h ⊢
  revert h
  repeat' split
  all_goals (intro h; first | (cases h; rfl) | (cases h; done))
theorem aO.adopt {m0 m : Mt} {st : St} {w0 w : World} (hx : Ext m0 w0 m w) (hw : aO m st w) {l : Nat} (hl : l < st.length) {o : Obj} {e : bZ} (h1 : w0.heap.size ≤ e.b) (h2 : e.b < w.heap.size) (h3 : e.b ∉ blks m.blk)
  (h4 : ∀ q ∈ bY.glob, q.1 ≠ e.b) (hg : e.gone = false) (ho : bG m.blk (fC m.blk l e) → aL (mG (fC m.blk l e) l) m.cl w o e) :
  Ext m0 w0 ⟨fC m.blk l e, m.cl⟩ w ∧ aO ⟨fC m.blk l e, m.cl⟩ (iQ st l o) w ∧ ent (fC m.blk l e) l (dD st l) = some e := by
 have hnew : ∀ b ∈ blks (fC m.blk l e), b ∈ blks m.blk ∨ b = e.b := fun b hb' => by
  rcases mQ _ _ _ _ hb' with ⟨_, h⟩ | h
  ·exact .inr h
  ·exact .inl h
 refine ⟨⟨hx.keeps, hx.ents.trans (bG.fC _ _ _), hx.os, hx.tape, hx.output, hx.size, hx.kept, fun b hb => ?_, hx.cls⟩, ⟨?_, ?_, hw.le, ?_⟩, lM hw.st hl⟩
 ·rcases hnew b hb with h | h
  ·exact hx.new b h
  ·right; omega
 ·exact hw.st.Hq (Keeps.refl _ _) (ho (bG.fC _ _ _)) hl fun b hb' => ⟨rfl, rfl⟩
 ·exact ou _ _ _ hw.nodup (.inr h3)
 ·intro q hq
  obtain ⟨h5, h6⟩ := hw.glob q hq
  refine ⟨h5, fun hb => ?_⟩
  rcases hnew _ hb with h | h
  ·exact h6 h
  ·exact h4 q hq h
theorem KT (l : List Nat) (ρ : Env) (t : Nat) : gW (aB l ρ) t = if t ∈ l then gW ρ t else .unk := by
 induction ρ with
 | nil => simp [aB, gW]
 | cons p r ih =>
  obtain ⟨k, v⟩ := p
  simp only [aB]
  by_cases hkt : k = t
  ·subst hkt
   by_cases hm : k ∈ l
   ·rw [uH.2 hm]; simp [gW, eY, hm]
   ·have : mem k l = false := by
     cases h : mem k l with
     | false => rfl
     | true => exact absurd (uH.1 h) hm
    rw [this, cond_false, ih]
    simp [hm]
  ·cases mem k l with
   | true => simp only [cond_true, gW, qI hkt, cond_false, ih]
   | false => simp only [cond_false, gW, qI hkt, ih]
theorem Az {m : Mt} {w : World} {a : Act} {l : List Nat} {ρ : Env} (h : ∀ t ∈ l, aj m.blk m.cl w (gW ρ t) (a.tmps.getD t undef)) : aM m w (aB l ρ) a := fun t => by
 rw [KT]
 split
 ·rename_i ht; exact h t ht
 ·simp only [aj]
theorem IB {ops : Array Oper} {o : Oper} {ρ : Env} : ∀ x ∈ o.op.operands, ev (aB (o.looksAt ops) ρ) x = ev ρ x := fun x hx => by
 cases x with
 | tmp t =>
  simp only [ev]
  have ht : t ∈ o.looksAt ops := by
   simp only [Oper.looksAt, List.mem_append, List.mem_filterMap]
   exact .inl ⟨.tmp t, by simpa using hx, rfl⟩
  rw [KT, if_pos ht]
 | _ => rfl
section
variable {R : Type} {P : Program} {Γ : Tab} {c : CF} {an : iG} {n : Nat} {ops : Array Oper} {Q : Exit → Act → World → Prop} {K : Env → St → Option R} {r : R}
variable {val : Nat → PV} {E : Nat → Nat → PV} {S : Nat → St} {m0 : Mt} {w0 : World} {a0 : Act} {iA iW d : Nat}
def TI (P : Program) (tA : TypeId) (w0 : World) (d : Nat) (m : Mt) (w : World) (a : Act) : Prop :=
 ∃ b i z, a.tmps.getD d undef = .pointer (some ⟨b, 0, none⟩) ∧ w0.heap.size ≤ b ∧ b < w.heap.size ∧ b ∉ blks m.blk ∧ P.info? tA = some i ∧ i.zero = some z ∧ w.heap[b]? = some (.cells z.cells tA (0, 0)) ∧ m.cl b = 0
theorem TI.ext {tA : TypeId} {m m' : Mt} {w w' : World} {a a' : Act} (h : TI P tA w0 d m w a) (hx : Ext m w m' w') (ht : a'.tmps.getD d undef = a.tmps.getD d undef) : TI P tA w0 d m' w' a' := by
 obtain ⟨b, i, z, h1, h2, h3, h4, h5, h6, h7, h8⟩ := h
 exact ⟨b, i, z, ht.trans h1, h2, Nat.lt_of_lt_of_le h3 hx.size, fun hc => (hx.new b hc).elim h4 fun h => by omega, h5, h6, (hx.kept b h3 h4).trans h7, (hx.cls b h3 h4).trans h8⟩
structure XM (P : Program) (ops : Array Oper) (iA iW d : Nat) (tA : TypeId) (n : Nat) (val : Nat → PV) (E : Nat → Nat → PV) (S : Nat → St) (m0 : Mt) (w0 : World) (a0 : Act) (listed : Array Bool) (a : Act) (w : World) (m : Mt) : Prop where
 size : listed.size = ops.size
 closed : ∀ j i, on listed j → Waits ops j i → on listed i
 ext : Ext m0 w0 m w
 vals : ∀ i o d', ops[i]? = some o → o.dst = some d' → on listed i → i ≠ iA → aj m.blk m.cl w (val i) (a.tmps.getD d' undef)
 old : ∀ t, (∀ i o, ops[i]? = some o → on listed i → o.dst ≠ some t) → aj m.blk m.cl w (E 0 t) (a.tmps.getD t undef)
 tmps : n ≤ a.tmps.size
 defers : a.defers = a0.defers
 ph : (¬ on listed iW ∧ aO m (S 0) w ∧ (on listed iA → TI P tA w0 d m w a)) ∨ (on listed iW ∧ aO m (S ops.size) w ∧ aj m.blk m.cl w (val iA) (a.tmps.getD d undef))
structure FOK (ops : Array Oper) : Prop where
 edge : ∀ j i, Waits ops j i → i < j
 ap : ∀ (i j : Nat) (oi oj : Oper), i < j → ops[i]? = some oi → ops[j]? = some oj → ¬ Waits ops j i → oi.apart ops oj = true
 dist : ∀ (i j : Nat) (oi oj : Oper) (d : Nat), i ≠ j → ops[i]? = some oi → ops[j]? = some oj → oi.dst = some d → oj.dst ≠ some d
variable (hd : FOK ops) (hF : aaK ops iA iW d) (steps : ∀ i o, ops[i]? = some o → zF Γ an c ops.toList i o (val i) (E i) (E (i + 1)) (S i) (S (i + 1))) (hmay : ∀ k, ER ops.toList k = true → k = iA ∨ k = iW)
include hd hF steps
theorem yF {t : Nat} : ∀ j, j ≤ ops.size → (∀ i o, i < j → ops[i]? = some o → o.dst ≠ some t) → E j t = E 0 t
 | 0, _, _ => rfl
 | j + 1, hj, h => by
  have hlt : j < ops.size := by omega
  have ho : ops[j]? = some ops[j] := Array.getElem?_eq_getElem hlt
  have h1 := (steps j _ ho).1 t
  rw [if_neg (h j _ (by omega) ho)] at h1
  rw [h1]
  exact yF j (by omega) fun i o hi => h i o (by omega)
theorem BD {t i : Nat} {o : Oper} (ho : ops[i]? = some o) (ht : o.dst = some t) : ∀ j, i < j → j ≤ ops.size → E j t = val i
 | 0, h, _ => by omega
 | j + 1, h, hj => by
  have hlt : j < ops.size := by omega
  have hoj : ops[j]? = some ops[j] := Array.getElem?_eq_getElem hlt
  have h1 := (steps j _ hoj).1 t
  by_cases hij : i = j
  ·subst hij
   rw [ho] at hoj; cases hoj
   rw [h1, if_pos ht]
  ·rw [if_neg (hd.dist i j _ _ t hij ho hoj ht)] at h1
   rw [h1]
   exact BD ho ht j (by omega) (by omega)
include hmay
theorem Py {k : Nat} (hk : k < ops.size) (h1 : k ≠ iA) (h2 : k ≠ iW) : S (k + 1) = S k := by
 rcases (steps k _ (Array.getElem?_eq_getElem hk)).2.1 with ⟨_, h⟩ | h
 ·exact ((hmay k h).elim h1 h2).elim
 ·exact h
theorem uI {s : Nat} : ∀ j, s ≤ j → j ≤ ops.size → (∀ b, s ≤ b → b < j → b ≠ iA ∧ b ≠ iW) → S j = S s
 | 0, h, _, _ => by have : s = 0 := by omega
                    rw [this]
 | j + 1, h, hj, hb => by
  by_cases hs : s = j + 1
  ·rw [hs]
  ·obtain ⟨h1, h2⟩ := hb j (by omega) (by omega)
   rw [Py hd hF steps hmay (by omega) h1 h2]
   exact uI j (by omega) (by omega) fun b h1 h2 => hb b h1 (by omega)
variable (hΓ : cZ P Γ) (hok : qO P Γ c) (hl : ∀ o ∈ ops.toList, lT n ops.toList o = true) {tA : TypeId} (htA : ∃ o, ops[iA]? = some o ∧ o.op = .alloc tA)
 (hg0 : ∀ q ∈ bY.glob, q.1 < w0.heap.size)
variable {ro : Option Nat}
include hΓ hok hl htA hg0
theorem Rs {listed : Array Bool} {a : Act} {w : World} {m : Mt} (inv : XM P ops iA iW d tA n val E S m0 w0 a0 listed a w m) {j : Nat} (hj : j ∈ Region.ready .any ops listed) {next : Act → World → Prop}
  (hn : ∀ a' w' m', XM P ops iA iW d tA n val E S m0 w0 a0 (listed.setIfInBounds j true) a' w' m' → next a' w') : wpOpIn (Fw ro) 0 P ops Q j next a w := by
 obtain ⟨hjun, ⟨o, ho⟩, Xj⟩ := qR hj inv.size
 have hjlt : j < ops.size := (Array.getElem?_eq_some_iff.1 ho).1
 have hstep := steps j o ho
 have CV := hl o (by simpa using List.mem_of_getElem? (by simpa using ho : ops.toList[j]? = some o))
 have hdst := sD CV
 have hon : ∀ i, on (listed.setIfInBounds j true) i ↔ i = j ∨ on listed i := by
  intro i
  rw [iK, iK]
  by_cases h : j = i
  ·subst h
   have : j < listed.size := by rw [inv.size]; exact hjlt
   simp [this]
  ·simp [Array.getElem?_setIfInBounds_ne h, Ne.symm h]
 obtain ⟨oA, Rt, Xk, Ru, hgA, hdA⟩ := hF.a
 obtain ⟨oW, tW, xW, hoW, abJ, hxW, hgW, hdW⟩ := hF.w
 have agJ : Rt = tA := by
  obtain ⟨o', h1, h2⟩ := htA
  rw [Xk] at h1; cases h1
  rw [Ru] at h2; cases h2; rfl
 subst agJ
 have ahP : iA < ops.size := (Array.getElem?_eq_some_iff.1 Xk).1
 have adW : iW < ops.size := (Array.getElem?_eq_some_iff.1 hoW).1
 have closed' : ∀ k i, on (listed.setIfInBounds j true) k → Waits ops k i → on (listed.setIfInBounds j true) i := fun k i hk hki => by
  rcases (hon k).1 hk with rfl | hk
  ·exact (hon i).2 (.inr (Xj i hki))
  ·exact (hon i).2 (.inr (inv.closed k i hk hki))
 have looks : ∀ t, t ≠ d → t ∈ o.looksAt ops → aj m.blk m.cl w (E j t) (a.tmps.getD t undef) := by
  intro t htd ht
  by_cases hex : ∃ (i : Nat) (oi : Oper), ops[i]? = some oi ∧ oi.dst = some t
  ·obtain ⟨i, oi, hoi, hti⟩ := hex
   have hiA : i ≠ iA := fun h => by rw [h, Xk] at hoi; cases hoi; rw [hdA] at hti; exact htd (Option.some.inj hti).symm
   have hilt : i < ops.size := (Array.getElem?_eq_some_iff.1 hoi).1
   have unwritten : ¬ on listed i → aj m.blk m.cl w (E 0 t) (a.tmps.getD t undef) := fun hun => inv.old t fun i' o' ho' Iy hc => by
    by_cases hii : i' = i
    ·subst hii; exact hun Iy
    ·exact hd.dist i' i o' oi t hii ho' hoi hc hti
   rcases Nat.lt_trichotomy i j with hij | hij | hij
   ·by_cases hw : Waits ops j i
    ·rw [BD hd hF steps hoi hti j hij (by omega)]
     exact inv.vals i oi t hoi hti (Xj i hw) hiA
    ·exact absurd ht ((Oper.apart_spec (hd.ap i j oi o hij hoi ho hw)).1 t hti)
   ·subst hij
    rw [ho] at hoi; cases hoi
    rw [yF hd hF steps i (by omega) fun k ok hk hok hc => hd.dist k i ok o t (by omega) hok ho hc hti]
    exact unwritten hjun
   ·by_cases hw : Waits ops i j
    ·have hun : ¬ on listed i := fun hc => hjun (inv.closed i j hc hw)
     rw [yF hd hF steps j (by omega) fun k ok hk hok hc => hd.dist k i ok oi t (by omega) hok hoi hc hti]
     exact unwritten hun
    ·exact absurd ht ((Oper.apart_spec (hd.ap j i o oi hij ho hoi hw)).2.2 t hti)
  ·rw [yF hd hF steps j (by omega) fun k ok hk hok hc => hex ⟨k, ok, hok, hc⟩]
   exact inv.old t fun i' o' ho' _ hc => hex ⟨i', o', ho', hc⟩
 have CY : ∀ (v : Value) (e : Nat), o.dst ≠ some e → (a.put o.dst v).tmps.getD e undef = a.tmps.getD e undef := fun v e he => by
  cases hdo : o.dst with
  | none => simp [Act.put]
  | some e' =>
   have : e' ≠ e := fun h => he (by rw [hdo, h])
   simp [Act.put, Array.getElem?_setIfInBounds_ne this]
 have put_eq : ∀ (v : Value) (e : Nat), o.dst = some e → (a.put o.dst v).tmps.getD e undef = v := fun v e he => by
  have : e < a.tmps.size := Nat.lt_of_lt_of_le (hdst e he) inv.tmps
  simp [Act.put, he, this]
 have vals' : ∀ (v : Value) (m' : Mt) (w' : World), Ext m0 w0 m' w' → Keeps m.cl w m'.cl w' → bG m.blk m'.blk → (j ≠ iA → aj m'.blk m'.cl w' (val j) v) →
   (∀ i oi d', ops[i]? = some oi → oi.dst = some d' → on (listed.setIfInBounds j true) i → i ≠ iA → aj m'.blk m'.cl w' (val i) ((a.put o.dst v).tmps.getD d' undef)) ∧
   (∀ t, (∀ i oi, ops[i]? = some oi → on (listed.setIfInBounds j true) i → oi.dst ≠ some t) → aj m'.blk m'.cl w' (E 0 t) ((a.put o.dst v).tmps.getD t undef)) := by
  intro v m' w' _ hk he hv
  refine ⟨fun i oi d' hoi hdi hi hiA => ?_, fun t ht => ?_⟩
  ·rcases (hon i).1 hi with rfl | hi2
   ·rw [ho] at hoi; cases hoi
    rw [put_eq v d' hdi]
    exact hv hiA
   ·have hne : i ≠ j := fun h => by rw [h] at hi2; exact hjun hi2
    rw [CY v d' (hd.dist i j oi o d' hne hoi ho hdi)]
    exact (inv.vals i oi d' hoi hdi hi2 hiA).keep hk he
  ·rw [CY v t (ht j o ho ((hon j).2 (.inl rfl)))]
   exact (inv.old t fun i oi hoi hi => ht i oi hoi ((hon i).2 (.inr hi))).keep hk he
 have hsz : (listed.setIfInBounds j true).size = ops.size := by simp [inv.size]
 unfold wpOpIn
 simp only [ho]
 by_cases NS : j = iA
 ·
  have NS := NS.symm
  subst NS
  rw [Xk] at ho; cases ho
  have hnW : ¬ on listed iW := fun h => hjun (hF.anc (on listed) (fun j i => inv.closed j i) h)
  have hw : aO m (S 0) w := by
   rcases inv.ph with ⟨_, hw, _⟩ | ⟨h, _⟩
   ·exact hw
   ·exact absurd h hnW
  rw [if_pos (by simp [Region.wanted, hgA])]
  obtain ⟨ρ, hρ, hev⟩ : ∃ ρ, (∀ t, gW ρ t = E iA t) ∧ evalOp (real c) Γ an ρ (S iA) o.dst o.op fin = some (val iA, S (iA + 1)) := by
   rcases hstep.2.2 with ⟨_, h⟩ | ⟨_, _, jg, want, hg, _⟩
   ·exact h
   ·rw [hgA] at hg; cases hg
  rw [Ru] at hev
  simp only [evalOp] at hev
  split at hev
  ·cases hev
  rename_i hne
  obtain ⟨inf, z, z1, z2, z3, z4, z5, _⟩ := hΓ.zero Rt hne
  have hrun : (execOp a.eval o).run P w = .ok (.value (.pointer (some ⟨w.heap.size, 0, none⟩))) (w.alloc (.cells z.cells Rt (0, 0))) := by
   simp [execOp, Ru, Instr.alloc, newVar, newRow, zeroValue, typeInfo, z1, z2]
  have hnew : (w.alloc (.cells z.cells Rt (0, 0))).heap = w.heap.push (.cells z.cells Rt (0, 0)) := rfl
  obtain ⟨x1, w1⟩ := hw.push (w' := w.alloc (.cells z.cells Rt (0, 0))) hnew rfl rfl rfl (by intro _ _ _ h; cases h <;> rfl)
  have agK := qJ (ro := ro) (by intro d hd; cases hd) hrun
  refine ⟨fun _ _ => trivial, ?_⟩
  rw [show (Fw ro).round = ro from rfl, agK]
  obtain ⟨v1, v2⟩ := vals' (.pointer (some ⟨w.heap.size, 0, none⟩)) m (w.alloc (.cells z.cells Rt (0, 0))) (inv.ext.trans x1) x1.keeps x1.ents (fun h => absurd rfl h)
  refine hn _ _ m ⟨hsz, closed', inv.ext.trans x1, v1, v2, by rw [oJ]; exact inv.tmps, by rw [put_defers]; exact inv.defers, .inl ⟨fun h => ((hon iW).1 h).elim (fun h => by have := hF.lt; omega) hnW, w1, fun _ => ?_⟩⟩
  refine ⟨w.heap.size, inf, z, put_eq _ _ hdA, inv.ext.size, by rw [hnew]; simp, fun hb => by have := hw.lt _ hb; omega, z1, z2, by rw [hnew]; simp, hw.kI (Nat.le_refl _)⟩
 ·by_cases hjW : j = iW
  ·
   have hjW := hjW.symm
   subst hjW
   rw [hoW] at ho; cases ho
   obtain ⟨hw, hp⟩ : aO m (S 0) w ∧ (on listed iA → TI P Rt w0 d m w a) := by
    rcases inv.ph with ⟨_, hw, hp⟩ | ⟨h, _⟩
    ·exact ⟨hw, hp⟩
    ·exact absurd h hjun
   have agL : on listed iA := by
    rcases hF.anc (fun i => i = iW ∨ on listed i) (fun j i hj hw => by
     rcases hj with rfl | hj
     ·exact .inr (Xj i hw)
     ·exact .inr (inv.closed j i hj hw)) (.inl rfl) with h | h
    ·have := hF.lt; omega
    ·exact h
   have aaL := hp agL
   have hSA : S iA = S 0 := uI hd hF steps hmay iA (Nat.zero_le _) (by omega) fun b _ hb => ⟨by omega, by have := hF.lt; omega⟩
   have hSW : S iW = S (iA + 1) := uI hd hF steps hmay iW hF.lt (by omega) fun b hb1 hb2 => ⟨by omega, by omega⟩
   have hSE : S ops.size = S (iW + 1) := uI hd hF steps hmay ops.size (by omega) (Nat.le_refl _) fun b hb1 hb2 => ⟨by have := hF.lt; omega, by omega⟩
   obtain ⟨ρA, hρA, TJ⟩ : ∃ ρ, (∀ t, gW ρ t = E iA t) ∧ evalOp (real c) Γ an ρ (S iA) oA.dst oA.op fin = some (val iA, S (iA + 1)) := by
    rcases (steps iA oA Xk).2.2 with ⟨_, h⟩ | ⟨_, _, jg, want, hg, _⟩
    ·exact h
    ·rw [hgA] at hg; cases hg
   obtain ⟨ρ, hρ, hev⟩ : ∃ ρ, (∀ t, gW ρ t = E iW t) ∧ evalOp (real c) Γ an ρ (S iW) o.dst o.op fin = some (val iW, S (iW + 1)) := by
    rcases hstep.2.2 with ⟨_, h⟩ | ⟨_, _, jg, want, hg, _⟩
    ·exact h
    ·rw [hgW] at hg; cases hg
   have ad : ∃ m2, Ext m0 w0 m2 w ∧ Keeps m.cl w m2.cl w ∧ bG m.blk m2.blk ∧ aO m2 (S (iA + 1)) w ∧ aj m2.blk m2.cl w (val iA) (a.tmps.getD d undef) := by
    rw [Ru, hdA, hSA] at TJ
    simp only [evalOp] at TJ
    split at TJ
    ·cases TJ
    rename_i hne
    obtain ⟨inf, z, z1, z2, z3, z4, z5, _⟩ := hΓ.zero Rt hne
    split at TJ
    ·cases hl' : fQ (S 0) (nZ ρA (an.lv d)) with
     | false => simp [hl'] at TJ
     | true =>
      simp only [hl', cond_true, fin, Option.some.injEq, Prod.mk.injEq] at TJ
      obtain ⟨e1, e2⟩ := TJ
      obtain ⟨b, i', z', p1, p2, p3, p4, p5, p6, p7, p8⟩ := aaL
      rw [z1] at p5; cases p5
      rw [z2] at p6; cases p6
      obtain ⟨q1, q2, q3⟩ := aO.adopt inv.ext hw (iT hl') (o := .box Rt (ds (Γ.zero Rt))) (e := ⟨b, 0, 0, 0⟩) p2 p3 p4 (fun q hq h => by have := hg0 q hq; simp only at h; omega) (ku rfl) (fun _ => by
       simp only [aL]
       exact ⟨trivial, p8, z.cells.toList, by simpa using p7, aK.cells (z5 _ _)⟩)
      refine ⟨_, q1, Keeps.refl _ _, bG.fC _ _ _, by rw [← e2]; exact q2, ?_⟩
      rw [← e1]
      simp only [aj]
      exact ⟨_, q3, rfl, p1⟩
    ·cases hl' : fQ (S 0) 0 with
     | false => simp [hl'] at TJ
     | true =>
      simp only [hl', cond_true] at TJ
      obtain ⟨m1, st1, cs, x1, w1, n1, v1, hK⟩ := jN hΓ (Γ.zero Rt) 0 hw (iT hl') (z5 m.cl w) TJ
      simp only [fin, Option.some.injEq, Prod.mk.injEq] at hK
      obtain ⟨e1, e2⟩ := hK
      obtain ⟨b, i', z', p1, p2, p3, p4, p5, p6, p7, p8⟩ := aaL.ext x1 rfl
      rw [z1] at p5; cases p5
      rw [z2] at p6; cases p6
      obtain ⟨q1, q2, q3⟩ := aO.adopt (inv.ext.trans x1) w1 n1 (o := .box Rt cs) (e := ⟨b, 0, 0, 0⟩) p2 p3 p4 (fun q hq h => by have := hg0 q hq; simp only at h; omega) (ku rfl) (fun he => by
       simp only [aL]
       refine ⟨trivial, p8, z.cells.toList, by simpa using p7, ?_⟩
       have := v1.keep (Keeps.refl _ _) he
       simpa [mG] using this)
      refine ⟨_, q1, x1.keeps, x1.ents.trans (bG.fC _ _ _), by rw [← e2]; exact q2, ?_⟩
      rw [← e1]
      simp only [aj]
      exact ⟨_, q3, rfl, p1⟩
   obtain ⟨m2, x2, k2, l2, w2, v2⟩ := ad
   have he : aM m2 w (aB (o.looksAt ops) ρ) a := Az fun t ht => by
    rw [hρ t]
    by_cases htd : t = d
    ·subst htd
     rw [BD hd hF steps Xk hdA iW hF.lt (by omega)]
     exact v2
    ·exact (looks t htd ht).keep k2 l2
   have TH : evalOp (real c) Γ an (aB (o.looksAt ops) ρ) (S (iA + 1)) o.dst o.op fin = some (val iW, S (iW + 1)) := by
    rw [← hev, hSW]
    have c1 := IB (ops := ops) (o := o) (ρ := ρ) (.tmp d) (by rw [abJ]; simp [Op.operands])
    have c2 := IB (ops := ops) (o := o) (ρ := ρ) xW (by rw [abJ]; simp [Op.operands])
    rw [abJ]
    simp only [evalOp, c1, c2]
   rw [if_pos (by simp [Region.wanted, hgW])]
   refine hok he w2 TH next Q (fun pv st' m' w' v hK hx hw' hv => ?_) ro
   simp only [fin, Option.some.injEq, Prod.mk.injEq] at hK
   obtain ⟨rfl, rfl⟩ := hK
   obtain ⟨u1, u2⟩ := vals' v m' w' (x2.trans hx) (k2.trans hx.keeps) (l2.trans hx.ents) (fun _ => hv)
   refine hn _ _ m' ⟨hsz, closed', x2.trans hx, u1, u2, by rw [oJ]; exact inv.tmps, by rw [put_defers]; exact inv.defers, .inr ⟨(hon iW).2 (.inl rfl), by rw [hSE]; exact hw', ?_⟩⟩
   rw [CY v d (by rw [hdW]; simp)]
   exact v2.ext hx
  ·
   obtain ⟨hst, hdl, hfr⟩ : still o.op = true ∧ d ∉ o.looksAt ops ∧ (wH o.op = true ∨ (j < iA ∧ ∀ p : Nat → Prop, (∀ j i, p j → Waits ops j i → p i) → p iW → p j)) := by
    rcases hF.rest j o ho with h | h | h
    ·exact absurd h NS
    ·exact absurd h hjW
    ·exact h
   have hod : o.dst ≠ some d := hd.dist iA j oA o d (fun h => NS h.symm) Xk ho hdA
   have onW : on (listed.setIfInBounds j true) iW ↔ on listed iW := by rw [hon]; exact ⟨fun h => h.resolve_left (fun h => hjW h.symm), .inr⟩
   have onA : on (listed.setIfInBounds j true) iA ↔ on listed iA := by rw [hon]; exact ⟨fun h => h.resolve_left (fun h => NS h.symm), .inr⟩
   have looks' : ∀ t, t ∈ o.looksAt ops → aj m.blk m.cl w (E j t) (a.tmps.getD t undef) := fun t ht => looks t (fun h => hdl (h ▸ ht)) ht
   have after : ∀ (v : Value) (m' : Mt) (w' : World), Ext m w m' w' → aj m'.blk m'.cl w' (val j) v → (∀ s, aO m s w → (s = S 0 ∧ ¬ on listed iW) ∨ (s = S ops.size ∧ on listed iW) → aO m' s w') → next (a.put o.dst v) w' := by
    intro v m' w' hx hv hw'
    obtain ⟨u1, u2⟩ := vals' v m' w' (inv.ext.trans hx) hx.keeps hx.ents (fun _ => hv)
    refine hn _ _ m' ⟨hsz, closed', inv.ext.trans hx, u1, u2, by rw [oJ]; exact inv.tmps, by rw [put_defers]; exact inv.defers, ?_⟩
    rcases inv.ph with ⟨h1, h2, h3⟩ | ⟨h1, h2, h3⟩
    ·exact .inl ⟨fun h => h1 (onW.1 h), hw' _ h2 (.inl ⟨rfl, h1⟩), fun h => (h3 (onA.1 h)).ext hx (CY v d hod)⟩
    ·refine .inr ⟨onW.2 h1, hw' _ h2 (.inr ⟨rfl, h1⟩), ?_⟩
     rw [CY v d hod]
     exact h3.ext hx
   have qU : ∀ jg want, o.guard = some (jg, want) → ∃ q d', ops[jg]? = some q ∧ q.dst = some d' ∧ dX ops.toList jg = d' ∧ aj m.blk m.cl w (E j d') (a.tmps.getD d' undef) := by
    intro jg want hg
    obtain ⟨q, d', hq, BA⟩ := nS CV jg want hg
    have hq' : ops[jg]? = some q := by simpa using hq
    refine ⟨q, d', hq', BA, by simp [dX, hq, BA], looks' d' ?_⟩
    simp [Oper.looksAt, hg, hq', BA]
   have hSj : S (j + 1) = S j := Py hd hF steps hmay hjlt NS hjW
   rcases hstep.2.2 with ⟨hg, ρ, hρ, hev⟩ | ⟨hval, hSS, jg, want, hg, hgv⟩
   ·have sG : Region.wanted o (yielded ops a.tmps) = true := by
     rcases hg with hg | ⟨jg, want, hg, hgv⟩
     ·simp [Region.wanted, hg]
     ·obtain ⟨q, d', hq, BA, hgs, hrel⟩ := qU jg want hg
      rw [hgs] at hgv
      rw [hgv] at hrel
      simp only [aj, aZ] at hrel
      rw [nE hg hq BA hrel]
      simp
    rw [if_pos sG]
    rw [hSj] at hev
    have he : aM m w (aB (o.looksAt ops) ρ) a := Az fun t ht => by rw [hρ t]; exact looks' t ht
    have go : ∀ s, aO m s w → ((s = S 0 ∧ ¬ on listed iW) ∨ (s = S ops.size ∧ on listed iW)) → evalOp (real c) Γ an ρ s o.dst o.op fin = some (val j, s) → Oper.wpIn (Fw ro) 0 P o a w next Q := by
     intro s hw hs hev
     have TH : evalOp (real c) Γ an (aB (o.looksAt ops) ρ) s o.dst o.op fin = some (val j, s) := by
      rw [← hev]
      exact Av hst fun x hx => IB x hx
     refine hok he hw TH next Q (fun pv st' m' w' v hK hx hw' hv => ?_) ro
     simp only [fin, Option.some.injEq, Prod.mk.injEq] at hK
     obtain ⟨rfl, rfl⟩ := hK
     refine after v m' w' hx hv fun s' _ hs' => ?_
     rcases hs with ⟨rfl, h1⟩ | ⟨rfl, h1⟩
     ·rcases hs' with ⟨rfl, _⟩ | ⟨_, h2⟩
      ·exact hw'
      ·exact absurd h2 h1
     ·rcases hs' with ⟨_, h2⟩ | ⟨rfl, _⟩
      ·exact absurd h1 h2
      ·exact hw'
    rcases inv.ph with ⟨h1, h2, _⟩ | ⟨h1, h2, _⟩
    ·refine go (S 0) h2 (.inl ⟨rfl, h1⟩) ?_
     rcases hfr with hf | ⟨hf, _⟩
     ·exact Px hf hev (S 0)
     ·have hS : S j = S 0 := uI hd hF steps hmay j (Nat.zero_le _) (by omega) fun b _ hb => ⟨by omega, by have := hF.lt; omega⟩
      rw [hS] at hev
      exact hev
    ·refine go (S ops.size) h2 (.inr ⟨rfl, h1⟩) ?_
     rcases hfr with hf | ⟨_, hf⟩
     ·exact Px hf hev (S ops.size)
     ·exact absurd (hf (on listed) (fun j i => inv.closed j i) h1) hjun
   ·obtain ⟨q, d', hq, BA, hgs, hrel⟩ := qU jg want hg
    rw [hgs] at hgv
    have sG : Region.wanted o (yielded ops a.tmps) = false := by
     rcases hgv with hgv | hgv
     ·rw [hgv] at hrel
      simp only [aj, aZ] at hrel
      rw [nE hg hq BA hrel]
      cases want <;> rfl
     ·rw [hgv] at hrel
      simp only [aj] at hrel
      exact uF hg hq BA hrel
    rw [sG]
    simp only [Bool.false_eq_true, if_false]
    have hvr : aj m.blk m.cl w (val j) undef := by rw [hval]; simp only [aj]
    exact ⟨fun _ _ => trivial, after undef m w (Ext.refl m w) hvr fun s hs _ => hs⟩
end
theorem NW {R : Type} {P : Program} {Γ : Tab} {c : CF} (hΓ : cZ P Γ) (hok : qO P Γ c) {an : iG} {n : Nat} {ops : Array Oper} {Q : Exit → Act → World → Prop} {K : Env → St → Option R} {r : R} (hm : P.follows .mixedOrders = true) (hdr : sw ops = true) {q : Nat × Nat × Nat} (hfl : Ce ops.toList = some q) {ρ : Env} {st : St} {a : Act} {w : World} {m : Mt} {id : Nat}
  (hl : ∀ o ∈ ops.toList, lT n ops.toList o = true) (he : aM m w ρ a) (hw : aO m st w) (hn : n ≤ a.tmps.size) (hr : dG (real c) Γ an (nQ an true ops.toList 0 ops.toList) ρ st K = some r)
  (hQ : ∀ ρ' st' a' w' m', K ρ' st' = some r → aM m' w' ρ' a' → Ext m w m' w' → aO m' st' w' → n ≤ a'.tmps.size → a'.defers = a.defers → Q .normal a' w') : ∀ (ro : Option Nat), (Code.region id ops true).wpIn (Fw ro) 0 P Q a w := by
 intro ro
 obtain ⟨iA, iW, d⟩ := q
 obtain ⟨val, E, S, g1, g2, g3, ρ', g4, g5⟩ := nT ops.toList 0 ρ st hr
 refine wpIn_region_any hm ?_
 have steps : ∀ i o, ops[i]? = some o → zF Γ an c ops.toList i o (val i) (E i) (E (i + 1)) (S i) (S (i + 1)) := by
  intro i o ho
  have := g3 i o (by simpa using ho)
  simpa using this
 have hF := Rq hl hfl
 have hx : Ext m w m { w with drawn := w.drawn + 1 } := Ext.same rfl rfl rfl rfl
 simp only [sw, Bool.and_eq_true, Bool.or_eq_true] at hdr
 have hd0 : DOK ops 0 := NR 0 hdr.1.1 hdr.1.2 fun i o h _ => by omega
 have hd : FOK ops := ⟨hd0.edge, hd0.ap, hd0.dist⟩
 have hmay : ∀ k, ER ops.toList k = true → k = iA ∨ k = iW := fun k hk => by
  simp only [ER, hfl, Bool.or_eq_true] at hk
  exact hk.imp Nat.eq_of_beq_eq_true Nat.eq_of_beq_eq_true
 obtain ⟨oA, tA, Xk, Ru, hgA, hdA⟩ := hF.a
 have hg0 : ∀ q ∈ bY.glob, q.1 < w.heap.size := hw.glob.lt
 have sound : ∀ (fuel : Nat) (listed : Array Bool) (a' : Act) (w' : World) (m' : Mt), XM P ops iA iW d tA n val E S m w a listed a' w' m' → listed.toList.count false ≤ fuel → wpAnyIn (Fw ro) 0 P .any ops Q fuel listed a' w' := by
  have done : ∀ (listed : Array Bool) (a' : Act) (w' : World) (m' : Mt), XM P ops iA iW d tA n val E S m w a listed a' w' m' → (∀ i, i < ops.size → on listed i) → Q .normal a' w' := by
   intro listed a' w' m' inv all
   have adW : iW < ops.size := by obtain ⟨o, _, _, h, _⟩ := hF.w; exact (Array.getElem?_eq_some_iff.1 h).1
   rcases inv.ph with ⟨h1, _⟩ | ⟨h1, h2, h3⟩
   ·exact absurd (all iW adW) h1
   ·refine hQ ρ' (S ops.size) a' w' m' (by simpa using g5) (fun t => ?_) inv.ext h2 inv.tmps inv.defers
    have e4 : gW ρ' t = E ops.size t := by simpa using g4 t
    rw [e4]
    by_cases hex : ∃ (i : Nat) (oi : Oper), ops[i]? = some oi ∧ oi.dst = some t
    ·obtain ⟨i, oi, hoi, hti⟩ := hex
     have hilt := (Array.getElem?_eq_some_iff.1 hoi).1
     rw [BD hd hF steps hoi hti ops.size hilt (Nat.le_refl _)]
     by_cases hiA : i = iA
     ·subst hiA
      rw [Xk] at hoi; cases hoi
      rw [hdA] at hti; cases hti
      exact h3
     ·exact inv.vals i oi t hoi hti (all i hilt) hiA
    ·rw [yF hd hF steps ops.size (Nat.le_refl _) fun k ok hk hok hc => hex ⟨k, ok, hok, hc⟩]
     exact inv.old t fun i' o' ho' Iy hc => hex ⟨i', o', ho', hc⟩
  intro fuel
  induction fuel with
  | zero =>
   intro listed a' w' m' inv hc
   have hre := CX inv.size (by omega)
   refine ⟨hre, done listed a' w' m' inv fun i hi => ?_⟩
   rcases Classical.em (on listed i) with h | h
   ·exact h
   ·exfalso
    rw [iK] at h
    have hlt : i < listed.size := by rw [inv.size]; exact hi
    have : listed.toList[i]? = some false := by simp [hlt] at h ⊢; exact h
    have h2 := List.count_pos_iff.2 (List.mem_of_getElem? this)
    omega
  | succ fuel ih =>
   intro listed a' w' m' inv hc
   refine ⟨fun hr => done listed a' w' m' inv fun i => ?_, fun j hj => ?_⟩
   ·induction i using Nat.strongRecOn with
    | _ i ihi =>
     intro hi
     rcases Classical.em (on listed i) with h | h
     ·exact h
     ·exfalso
      have hlt : i < listed.size := by rw [inv.size]; exact hi
      have : i ∈ Region.ready .any ops listed := by
       refine mem_ready.2 ⟨?_, ops[i]'(by omega), Array.getElem?_eq_getElem _, fun e he hb => ?_⟩
       ·rw [iK] at h
        simp [hlt] at h ⊢
        exact h
       ·have hw : Waits ops i e.on := ⟨_, Array.getElem?_eq_getElem (by omega), e, he, hb, rfl⟩
        have hlt := hd.edge i e.on hw
        exact ihi e.on hlt (by omega)
      rw [hr] at this
      cases this
   ·refine Rs hd hF steps hmay hΓ hok hl ⟨oA, Xk, Ru⟩ hg0 inv hj fun a'' w'' m'' abI => ih _ a'' w'' m'' abI ?_
    obtain ⟨h1, ⟨o, ho⟩, _⟩ := qR hj inv.size
    have hjlt : j < ops.size := (Array.getElem?_eq_some_iff.1 ho).1
    have hlt : j < listed.size := by rw [inv.size]; exact hjlt
    rw [iK] at h1
    have : listed.toList[j]? = some false := by
     simp [hlt] at h1 ⊢; exact h1
    have h2 := count_set this
    have h3 : (listed.setIfInBounds j true).toList = listed.toList.set j true := by simp
    rw [h3]
    omega
 refine sound ops.size _ a _ m ?_ ?_
 ·have hno : ∀ i, ¬ on (Array.replicate ops.size false) i := by
   intro i h
   rw [iK] at h
   have := (Array.getElem?_eq_some_iff.1 h).2
   simp at this
  refine ⟨by simp, fun j i h => absurd h (hno j), hx, fun i o d _ _ h => absurd h (hno i), fun t _ => ?_, hn, rfl, .inl ⟨hno iW, by rw [g2]; exact hw.same rfl, fun h => absurd h (hno iA)⟩⟩
  rw [g1 t]
  exact (he t).ext hx
 ·have : ∀ k, (List.replicate k false).count false = k := by intro k; simp
  simp
end Go.X
