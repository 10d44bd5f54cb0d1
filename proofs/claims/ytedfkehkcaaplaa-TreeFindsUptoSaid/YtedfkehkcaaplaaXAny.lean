/- T -/
import Derived.Test.YtedfkehkcaaplaaXDrawn
namespace Go.X
open Go
set_option linter.unusedVariables false
variable [bY]
def Waits (ops : Array Oper) (j i : Nat) : Prop := ∃ o, ops[j]? = some o ∧ ∃ e ∈ o.after, Region.binds .any e = true ∧ e.on = i
theorem wQ {ops : Array Oper} {j i : Nat} (h : waits ops.toList j i = true) : Waits ops j i := by
 unfold waits at h
 split at h
 ·rename_i o ho
  obtain ⟨e, he, hb⟩ := List.any_eq_true.1 h
  simp only [Bool.and_eq_true] at hb
  exact ⟨o, by simpa using ho, e, by simpa using he, hb.1, Nat.eq_of_beq_eq_true hb.2⟩
 ·cases h
theorem sF {a b : Nat} (h : Nat.blt a b = true) : a < b := Nat.le_of_ble_eq_true h
theorem qQ {ops : Array Oper} {k : Nat} (h : tu ops.toList k = true) :
  (∀ i, i < k → ∃ j, i < j ∧ j ≤ k ∧ Waits ops j i) ∧ (∀ j, j < ops.size → k < j → ∃ i, k ≤ i ∧ i < j ∧ Waits ops j i) := by
 simp only [tu, Bool.and_eq_true, List.all_eq_true, List.any_eq_true, List.mem_range, Bool.or_eq_true] at h
 refine ⟨fun i hi => ?_, fun j hj hk => ?_⟩
 ·obtain ⟨j, h1, h2, h3⟩ := h.1 i hi
  exact ⟨j, sF h2, by omega, wQ h3⟩
 ·rcases h.2 j (by simpa using hj) with h1 | ⟨i, h1, h2, h3⟩
  ·have := Nat.le_of_ble_eq_true h1; omega
  ·exact ⟨i, Nat.le_of_ble_eq_true h2, h1, wQ h3⟩
theorem KR {ops : Array Oper} : ∀ (fuel k : Nat) (listed : Array Bool), listed.size = ops.size → (∀ i, i < ops.size → listed.getD i true = decide (i < k)) → Region.lexFrom .any ops fuel k listed = true →
  ∀ k', k ≤ k' → k' < k + fuel → ∀ o, ops[k']? = some o → (∀ e ∈ o.after, Region.binds .any e = true → e.on < k') ∧ (∀ j oj, k' < j → ops[j]? = some oj → ¬ Waits ops j k' → o.apart ops oj = true)
 | 0, k, listed, _, _, _, k', h1, h2, _, _ => by omega
 | fuel + 1, k, listed, hs, hl, h, k', h1, h2, o, ho => by
  simp only [Region.lexFrom, Bool.and_eq_true] at h
  obtain ⟨⟨hr, hf⟩, hrest⟩ := h
  by_cases hk : k' = k
  ·subst hk
   have hr' : k' ∈ Region.ready .any ops listed := by simpa using hr
   obtain ⟨_, o', ho', hall⟩ := mem_ready.1 hr'
   rw [ho] at ho'; cases ho'
   refine ⟨fun e he hb => ?_, fun j oj hj hoj hn => ?_⟩
   ·have := hall e he hb
    rcases Nat.lt_or_ge e.on listed.size with hlt | hge
    ·have h3 := hl e.on (by omega)
     simp [hlt] at this h3
     rw [this] at h3
     simpa using h3
    ·simp [Array.getElem?_eq_none hge] at this
   ·have hjlt := (Array.getElem?_eq_some_iff.1 hoj).1
    refine Region.free_spec ho hf j oj hoj (by omega) ?_ fun e he hb heq => hn ⟨oj, hoj, e, he, hb, heq⟩
    rw [hl j hjlt]; simp; omega
  ·refine KR fuel (k + 1) _ (by simp [hs]) (fun i hi => ?_) hrest k' (by omega) (by omega) o ho
   by_cases hik : i = k
   ·subst hik
    have : i < listed.size := by omega
    simp [this]
   ·rw [getD_set_ne true (Ne.symm hik), hl i hi]
    simp; omega
theorem qm : ∀ {l : List Oper}, distinct l = true → ∀ (i j : Nat) (oi oj : Oper) (d : Nat), i < j → l[i]? = some oi → l[j]? = some oj → oi.dst = some d → oj.dst ≠ some d
 | [], _, i, j, oi, oj, d, _, h, _, _ => by simp at h
 | o :: l, h, i, j, oi, oj, d, hij, hi, hj, hd => by
  simp only [distinct, Bool.and_eq_true] at h
  cases j with
  | zero => omega
  | succ j =>
   have hj' : l[j]? = some oj := by simpa using hj
   cases i with
   | zero =>
    simp at hi; subst hi
    have h1 := h.1
    rw [hd] at h1
    simp only [List.all_eq_true] at h1
    have h2 := h1 oj (List.mem_of_getElem? hj')
    intro hc
    rw [hc] at h2
    simp [eY] at h2
   | succ i => exact qm h.2 i j oi oj d (by omega) (by simpa using hi) hj' hd
theorem qo {ops : List Oper} : ∀ (l : List Oper) (k : Nat), lH ops k l = true → ∀ i o, l[i]? = some o → still o.op = true ∨ tu ops (k + i) = true
 | [], k, _, i, o, h => by simp at h
 | o :: l, k, h, i, o', hi => by
  simp only [lH, Bool.and_eq_true, Bool.or_eq_true] at h
  cases i with
  | zero => simp at hi; subst hi; exact h.1
  | succ i =>
   have := qo l (k + 1) h.2 i o' (by simpa using hi)
   rwa [show k + (i + 1) = k + 1 + i by omega]
theorem count_set : ∀ {l : List Bool} {i : Nat}, l[i]? = some false → (l.set i true).count false + 1 = l.count false
 | [], i, h => by simp at h
 | b :: l, 0, h => by simp at h; subst h; simp
 | b :: l, i + 1, h => by
  simp at h
  have := count_set h
  simp only [List.set_cons_succ, List.count_cons]
  omega
def wu (ops : Array Oper) (b : Nat) : Prop := ∃ o, ops[b]? = some o ∧ quiet o.op = false ∧ tu ops.toList b = true
def on (listed : Array Bool) (i : Nat) : Prop := listed.getD i false = true
structure Inv (ops : Array Oper) (nA n : Nat) (val : Nat → PV) (E : Nat → Nat → PV) (S : Nat → St) (m0 : Mt) (w0 : World) (a0 : Act) (listed : Array Bool) (a : Act) (w : World) (s : Nat) (m : Mt) : Prop where
 size : listed.size = ops.size
 closed : ∀ j i, on listed j → Waits ops j i → on listed i
 le : s ≤ nA
 head : ∀ i, on listed i → i < nA
 first : ∀ i, i < s → on listed i
 bars : ∀ b i, s ≤ b → b ≤ i → on listed i → ¬ wu ops b
 NQ : aO m (S s) w
 ext : Ext m0 w0 m w
 vals : ∀ i o d, ops[i]? = some o → o.dst = some d → on listed i → aj m.blk m.cl w (val i) (a.tmps.getD d undef)
 old : ∀ t, (∀ i o, ops[i]? = some o → on listed i → o.dst ≠ some t) → aj m.blk m.cl w (E 0 t) (a.tmps.getD t undef)
 tmps : n ≤ a.tmps.size
 defers : a.defers = a0.defers
structure DOK (ops : Array Oper) (nA : Nat) : Prop where
 edge : ∀ j i, Waits ops j i → i < j
 ap : ∀ (i j : Nat) (oi oj : Oper), i < j → ops[i]? = some oi → ops[j]? = some oj → ¬ Waits ops j i → oi.apart ops oj = true
 dist : ∀ (i j : Nat) (oi oj : Oper) (d : Nat), i ≠ j → ops[i]? = some oi → ops[j]? = some oj → oi.dst = some d → oj.dst ≠ some d
 stl : ∀ (i : Nat) (o : Oper), i < nA → ops[i]? = some o → still o.op = true ∨ tu ops.toList i = true
theorem NR {ops : Array Oper} (nA : Nat) (hlex : Region.lexB .any ops = true) (hdi : distinct ops.toList = true) (hst : ∀ (i : Nat) (o : Oper), i < nA → ops[i]? = some o → still o.op = true ∨ tu ops.toList i = true) : DOK ops nA := by
 simp only [Region.lexB, Bool.and_eq_true] at hlex
 have hlex := KR ops.size 0 _ (by simp) (fun i hi => by simp [hi]) hlex.2
 refine ⟨fun j i hw => ?_, fun i j oi oj hij hi hj hn => ?_, fun i j oi oj d hne hi hj hd => ?_, hst⟩
 ·obtain ⟨o, ho, e, he, hb, rfl⟩ := hw
  exact (hlex j (Nat.zero_le _) (by simpa using (Array.getElem?_eq_some_iff.1 ho).1) o ho).1 e he hb
 ·exact (hlex i (Nat.zero_le _) (by simpa using (Array.getElem?_eq_some_iff.1 hi).1) oi hi).2 j oj hij hj hn
 ·rcases Nat.lt_or_gt_of_ne hne with hlt | hgt
  ·exact qm hdi i j oi oj d hlt (by simpa using hi) (by simpa using hj) hd
  ·intro hc
   exact qm hdi j i oj oi d hgt (by simpa using hj) (by simpa using hi) hc hd
theorem iK {listed : Array Bool} {i : Nat} : on listed i ↔ listed[i]? = some true := by
 unfold on
 rcases Nat.lt_or_ge i listed.size with h | h
 ·simp [h]
 ·simp [Array.getElem?_eq_none h]
theorem qR {ops : Array Oper} {listed : Array Bool} {j : Nat} (h : j ∈ Region.ready .any ops listed) (hs : listed.size = ops.size) : ¬ on listed j ∧ (∃ o, ops[j]? = some o) ∧ ∀ i, Waits ops j i → on listed i := by
 obtain ⟨h1, o, ho, hall⟩ := mem_ready.1 h
 refine ⟨fun hc => ?_, ⟨o, ho⟩, fun i hw => ?_⟩
 ·rw [iK] at hc
  have hlt := (Array.getElem?_eq_some_iff.1 hc).1
  have hv := (Array.getElem?_eq_some_iff.1 hc).2
  simp [hlt, hv] at h1
 ·obtain ⟨o', ho', e, he, hb, rfl⟩ := hw
  rw [ho] at ho'; cases ho'
  exact hall e he hb
section
variable {R : Type} {P : Program} {Γ : Tab} {c : CF} {an : iG} {n : Nat} {ops : Array Oper} {Q : Exit → Act → World → Prop} {K : Env → St → Option R} {r : R}
variable {val : Nat → PV} {E : Nat → Nat → PV} {S : Nat → St} {m0 : Mt} {w0 : World} {a0 : Act}
variable {nA : Nat} (Iu : nA ≤ ops.size) (hd : DOK ops nA) (steps : ∀ i o, i < nA → ops[i]? = some o → Iq Γ an c ops.toList i o (val i) (E i) (E (i + 1)) (S i) (S (i + 1)))
include Iu hd steps
theorem zG {t : Nat} : ∀ j, j ≤ nA → (∀ i o, i < j → ops[i]? = some o → o.dst ≠ some t) → E j t = E 0 t
 | 0, _, _ => rfl
 | j + 1, hj, h => by
  have hlt : j < ops.size := by omega
  have ho : ops[j]? = some ops[j] := Array.getElem?_eq_getElem hlt
  have h1 := (steps j _ (by omega) ho).1 t
  rw [if_neg (h j _ (by omega) ho)] at h1
  rw [h1]
  exact zG j (by omega) fun i o hi => h i o (by omega)
theorem Iw {t i : Nat} {o : Oper} (ho : ops[i]? = some o) (ht : o.dst = some t) : ∀ j, i < j → j ≤ nA → E j t = val i
 | 0, h, _ => by omega
 | j + 1, h, hj => by
  have hlt : j < ops.size := by omega
  have hoj : ops[j]? = some ops[j] := Array.getElem?_eq_getElem hlt
  have h1 := (steps j _ (by omega) hoj).1 t
  by_cases hij : i = j
  ·subst hij
   rw [ho] at hoj; cases hoj
   rw [h1, if_pos ht]
  ·rw [if_neg (hd.dist i j _ _ t hij ho hoj ht)] at h1
   rw [h1]
   exact Iw ho ht j (by omega) (by omega)
theorem yC {s : Nat} : ∀ j, s ≤ j → j ≤ nA → (∀ b, s ≤ b → b < j → ¬ wu ops b) → S j = S s
 | 0, h, _, _ => by have : s = 0 := by omega
                    rw [this]
 | j + 1, h, hj, hb => by
  by_cases hs : s = j + 1
  ·rw [hs]
  ·have hlt : j < ops.size := by omega
   have hoj : ops[j]? = some ops[j] := Array.getElem?_eq_getElem hlt
   rcases (steps j _ (by omega) hoj).2.1 with ⟨h1, h2⟩ | h1
   ·exact absurd ⟨_, hoj, h1, h2⟩ (hb j (by omega) (by omega))
   ·rw [h1]; exact yC j (by omega) (by omega) fun b h1 h2 => hb b h1 (by omega)
variable (hok : qO P Γ c) (hl : ∀ o ∈ ops.toList, lT n ops.toList o = true) (hQ : ∀ ρ' st' a' w' m', K ρ' st' = some r → aM m' w' ρ' a' → Ext m0 w0 m' w' → aO m' st' w' → n ≤ a'.tmps.size → a'.defers = a0.defers → Q .normal a' w')
variable {ro : Option Nat}
include hok hl hQ
theorem TG {listed : Array Bool} {a : Act} {w : World} {s : Nat} {m : Mt} (inv : Inv ops nA n val E S m0 w0 a0 listed a w s m) {j : Nat} (NS : j < nA) (hj : j ∈ Region.ready .any ops listed) {next : Act → World → Prop}
  (hn : ∀ a' w' s' m', Inv ops nA n val E S m0 w0 a0 (listed.setIfInBounds j true) a' w' s' m' → next a' w') : wpOpIn (Fw ro) 0 P ops Q j next a w := by
 obtain ⟨hjun, ⟨o, ho⟩, Xj⟩ := qR hj inv.size
 have hjlt : j < ops.size := (Array.getElem?_eq_some_iff.1 ho).1
 have hstep := steps j o NS ho
 have CV := hl o (by simpa using List.mem_of_getElem? (by simpa using ho : ops.toList[j]? = some o))
 have hdst := sD CV
 have hon : ∀ i, on (listed.setIfInBounds j true) i ↔ i = j ∨ on listed i := by
  intro i
  rw [iK, iK]
  by_cases h : j = i
  ·subst h
   have : j < listed.size := by rw [inv.size]; exact hjlt
   simp [this]
  ·simp [Array.getElem?_setIfInBounds_ne h, Ne.symm h]
 have down : ∀ b, tu ops.toList b = true → ∀ i, i < ops.size → b < i → on listed i → on listed b := by
  intro b hb i
  induction i using Nat.strongRecOn with
  | _ i ih =>
   intro hi hbi hon
   obtain ⟨k, h1, h2, h3⟩ := (qQ hb).2 i hi hbi
   have hk := inv.closed i k hon h3
   by_cases hkb : k = b
   ·rw [← hkb]; exact hk
   ·exact ih k h2 (by omega) (by omega) hk
 have up : tu ops.toList j = true → ∀ d i, j - i = d → i < j → on listed i := by
  intro hb d
  induction d using Nat.strongRecOn with
  | _ d ih =>
   intro i hdi hi
   obtain ⟨k, h1, h2, h3⟩ := (qQ hb).1 i hi
   by_cases hkj : k = j
   ·subst hkj; exact Xj i h3
   ·exact inv.closed k i (ih (j - k) (by omega) k rfl (by omega)) h3
 have hsj : s ≤ j := by
  rcases Nat.lt_or_ge j s with h | h
  ·exact absurd (inv.first j h) hjun
  ·exact h
 have aaI : ∀ b, s ≤ b → b < j → ¬ wu ops b := by
  intro b h1 h2 hb
  obtain ⟨ob, hob, hq, hbb⟩ := hb
  obtain ⟨k, k1, k2, k3⟩ := (qQ hbb).2 j hjlt h2
  have hk := Xj k k3
  have agI : on listed b := by
   by_cases hkb : k = b
   ·rw [← hkb]; exact hk
   ·exact down b hbb k (by omega) (by omega) hk
  exact inv.bars b b h1 (Nat.le_refl _) agI ⟨ob, hob, hq, hbb⟩
 have hS : S j = S s := yC Iu hd steps j hsj (by omega) aaI
 have looks : ∀ t, t ∈ o.looksAt ops → aj m.blk m.cl w (E j t) (a.tmps.getD t undef) := by
  intro t ht
  by_cases hex : ∃ (i : Nat) (oi : Oper), ops[i]? = some oi ∧ oi.dst = some t
  ·obtain ⟨i, oi, hoi, hti⟩ := hex
   have hilt : i < ops.size := (Array.getElem?_eq_some_iff.1 hoi).1
   have unwritten : ¬ on listed i → aj m.blk m.cl w (E 0 t) (a.tmps.getD t undef) := fun hun => inv.old t fun i' o' ho' Iy hc => by
    by_cases hii : i' = i
    ·subst hii; exact hun Iy
    ·exact hd.dist i' i o' oi t hii ho' hoi hc hti
   rcases Nat.lt_trichotomy i j with hij | hij | hij
   ·by_cases hw : Waits ops j i
    ·rw [Iw Iu hd steps hoi hti j hij (by omega)]
     exact inv.vals i oi t hoi hti (Xj i hw)
    ·have := (Oper.apart_spec (hd.ap i j oi o hij hoi ho hw)).1 t hti
     exact absurd ht this
   ·subst hij
    rw [ho] at hoi; cases hoi
    rw [zG Iu hd steps i (by omega) fun k ok hk hok hc => hd.dist k i ok o t (by omega) hok ho hc hti]
    exact unwritten hjun
   ·by_cases hw : Waits ops i j
    ·have hun : ¬ on listed i := fun hc => hjun (inv.closed i j hc hw)
     rw [zG Iu hd steps j (by omega) fun k ok hk hok hc => hd.dist k i ok oi t (by omega) hok hoi hc hti]
     exact unwritten hun
    ·have := (Oper.apart_spec (hd.ap j i o oi hij ho hoi hw)).2.2 t hti
     exact absurd ht this
  ·rw [zG Iu hd steps j (by omega) fun k ok hk hok hc => hex ⟨k, ok, hok, hc⟩]
   exact inv.old t fun i' o' ho' _ hc => hex ⟨i', o', ho', hc⟩
 have qU : ∀ jg want, o.guard = some (jg, want) → ∃ q d, ops[jg]? = some q ∧ q.dst = some d ∧ dX ops.toList jg = d ∧ aj m.blk m.cl w (E j d) (a.tmps.getD d undef) := by
  intro jg want hg
  obtain ⟨q, d, hq, BA⟩ := nS CV jg want hg
  have hq' : ops[jg]? = some q := by simpa using hq
  refine ⟨q, d, hq', BA, by simp [dX, hq, BA], looks d ?_⟩
  simp [Oper.looksAt, hg, hq', BA]
 have after : ∀ (v : Value) (m' : Mt) (w' : World) (s' : Nat), Ext m w m' w' → aj m'.blk m'.cl w' (val j) v → aO m' (S s') w' → s' ≤ nA → (∀ i, i < s' → on (listed.setIfInBounds j true) i) →
   (∀ b i, s' ≤ b → b ≤ i → on (listed.setIfInBounds j true) i → ¬ wu ops b) → next (a.put o.dst v) w' := by
  intro v m' w' s' hx hv hw' hs1 hs2 hs3
  refine hn _ _ s' m' ⟨by simp [inv.size], fun k i hk hki => ?_, hs1, fun i hi => ((hon i).1 hi).elim (fun h => h ▸ NS) (inv.head i), hs2, hs3, hw', inv.ext.trans hx, fun i oi d hoi hdi hi => ?_, fun t ht => ?_, by rw [oJ]; exact inv.tmps, by rw [put_defers]; exact inv.defers⟩
  ·rcases (hon k).1 hk with rfl | hk
   ·exact (hon i).2 (.inr (Xj i hki))
   ·exact (hon i).2 (.inr (inv.closed k i hk hki))
  ·rcases (hon i).1 hi with rfl | hi2
   ·rw [ho] at hoi; cases hoi
    have : d < a.tmps.size := Nat.lt_of_lt_of_le (hdst d hdi) inv.tmps
    simp [Act.put, hdi, this]
    exact hv
   ·have hne : i ≠ j := fun h => by rw [h] at hi2; exact hjun hi2
    have h1 := (inv.vals i oi d hoi hdi hi2).ext hx
    have h2 := hd.dist i j oi o d hne hoi ho hdi
    cases hdo : o.dst with
    | none => simpa [Act.put] using h1
    | some e =>
     have : e ≠ d := fun h => h2 (by rw [hdo, h])
     simp [Act.put, Array.getElem?_setIfInBounds_ne this]
     simpa using h1
  ·have h1 := (inv.old t fun i oi hoi hi => ht i oi hoi ((hon i).2 (.inr hi))).ext hx
   have h2 := ht j o ho ((hon j).2 (.inl rfl))
   cases hdo : o.dst with
   | none => simpa [Act.put] using h1
   | some e =>
    have : e ≠ t := fun h => h2 (by rw [hdo, h])
    simp [Act.put, Array.getElem?_setIfInBounds_ne this]
    simpa using h1
 have aaJ : S (j + 1) = S j → ¬ wu ops j → (∀ i, i < s → on (listed.setIfInBounds j true) i) ∧ ∀ b i, s ≤ b → b ≤ i → on (listed.setIfInBounds j true) i → ¬ wu ops b := by
  intro _ hnb
  refine ⟨fun i hi => (hon i).2 (.inr (inv.first i hi)), fun b i h1 h2 h3 hb => ?_⟩
  rcases (hon i).1 h3 with rfl | h3
  ·by_cases hbi : b = i
   ·subst hbi; exact hnb hb
   ·exact aaI b h1 (by omega) hb
  ·exact inv.bars b i h1 h2 h3 hb
 have adV : wu ops j → (∀ i, i < j + 1 → on (listed.setIfInBounds j true) i) ∧ ∀ b i, j + 1 ≤ b → b ≤ i → on (listed.setIfInBounds j true) i → ¬ wu ops b := by
  rintro ⟨ob, hob, _, hbb⟩
  refine ⟨fun i hi => ?_, fun b i h1 h2 h3 => ?_⟩
  ·by_cases hij : i = j
   ·exact (hon i).2 (.inl hij)
   ·exact (hon i).2 (.inr (up hbb (j - i) i rfl (by omega)))
  ·exfalso
   rcases (hon i).1 h3 with rfl | h3
   ·omega
   ·have hilt : i < ops.size := by
     rw [iK] at h3
     have := (Array.getElem?_eq_some_iff.1 h3).1
     rw [inv.size] at this; exact this
    exact hjun (down j hbb i hilt (by omega) h3)
 unfold wpOpIn
 simp only [ho]
 rcases hstep.2.2 with ⟨hg, ρ, hρ, hev⟩ | ⟨hval, hSS, jg, want, hg, hgv⟩
 ·
  have sG : Region.wanted o (yielded ops a.tmps) = true := by
   rcases hg with hg | ⟨jg, want, hg, hgv⟩
   ·simp [Region.wanted, hg]
   ·obtain ⟨q, d, hq, BA, hgs, hrel⟩ := qU jg want hg
    rw [hgs] at hgv
    rw [hgv] at hrel
    simp only [aj, aZ] at hrel
    rw [nE hg hq BA hrel]
    simp
  rw [if_pos sG]
  by_cases hb : wu ops j
  ·obtain ⟨b1, b2⟩ := adV hb
   obtain ⟨ob, hob, _, hbb⟩ := hb
   have he : aM m w ρ a := by
    intro t
    rw [hρ t]
    by_cases hex : ∃ (i : Nat) (oi : Oper), i < j ∧ ops[i]? = some oi ∧ oi.dst = some t
    ·obtain ⟨i, oi, hij, hoi, hti⟩ := hex
     rw [Iw Iu hd steps hoi hti j hij (by omega)]
     exact inv.vals i oi t hoi hti (up hbb (j - i) i rfl hij)
    ·rw [zG Iu hd steps j (by omega) fun k ok hk hok hc => hex ⟨k, ok, hk, hok, hc⟩]
     refine inv.old t fun i' o' ho' Iy hc => ?_
     by_cases hij : i' < j
     ·exact hex ⟨i', o', hij, ho', hc⟩
     ·by_cases hij2 : i' = j
      ·subst hij2; exact hjun Iy
      ·exact hjun (down j hbb i' ((Array.getElem?_eq_some_iff.1 ho').1) (by omega) Iy)
   have hw : aO m (S j) w := by rw [hS]; exact inv.NQ
   refine hok he hw hev next Q (fun pv st' m' w' v hK hx hw' hv => ?_) ro
   simp only [fin, Option.some.injEq, Prod.mk.injEq] at hK
   obtain ⟨rfl, rfl⟩ := hK
   exact after v m' w' (j + 1) hx hv hw' (by omega) b1 b2
  ·have hst : still o.op = true := by
    rcases hd.stl j o NS ho with h | h
    ·exact h
    ·cases hq : quiet o.op with
     | true => exact KQ hq
     | false => exact absurd ⟨o, ho, hq, h⟩ hb
   have hSS : S (j + 1) = S j := by
    rcases hstep.2.1 with ⟨h1, h2⟩ | h1
    ·exact absurd ⟨o, ho, h1, h2⟩ hb
    ·exact h1
   obtain ⟨b1, b2⟩ := aaJ hSS hb
   have TH : evalOp (real c) Γ an (aB (o.looksAt ops) ρ) (S j) o.dst o.op fin = some (val j, S (j + 1)) := by
    rw [← hev]
    refine Av hst fun x hx => ?_
    cases x with
    | tmp t =>
     simp only [ev]
     have ht : t ∈ o.looksAt ops := by
      simp only [Oper.looksAt, List.mem_append, List.mem_filterMap]
      exact .inl ⟨.tmp t, by simpa using hx, rfl⟩
     have hm : ∀ (l : List Nat) (t : Nat), t ∈ l → mem t l = true := by
      intro l
      induction l with
      | nil => intro t h; cases h
      | cons x l ih =>
       intro t h
       simp only [mem]
       by_cases hx : t = x
       ·subst hx; simp [eY]
       ·rw [qI hx]; exact ih t ((List.mem_cons.1 h).resolve_left hx)
     have hk : ∀ (ρ : Env), gW (aB (o.looksAt ops) ρ) t = gW ρ t := by
      intro ρ
      induction ρ with
      | nil => rfl
      | cons p r ih =>
       obtain ⟨k, v⟩ := p
       simp only [aB]
       by_cases hkt : k = t
       ·subst hkt
        rw [hm _ _ ht]
        simp [gW, eY]
       ·cases mem k (o.looksAt ops) with
        | true => simp only [cond_true, gW, qI hkt, cond_false, ih]
        | false => simp only [cond_false, gW, qI hkt, ih]
     exact hk ρ
    | _ => rfl
   have he : aM m w (aB (o.looksAt ops) ρ) a := by
    intro t
    rcases jL (o.looksAt ops) ρ t with h | h
    ·by_cases ht : t ∈ o.looksAt ops
     ·rw [h, hρ t]; exact looks t ht
     ·have hm : ∀ (l : List Nat), t ∉ l → mem t l = false := by
       intro l
       induction l with
       | nil => intro _; rfl
       | cons x l ih =>
        intro h
        simp only [List.mem_cons, not_or] at h
        simp only [mem, qI h.1, cond_false]
        exact ih h.2
      have hk : ∀ (ρ : Env), gW (aB (o.looksAt ops) ρ) t = .unk := by
       intro ρ
       induction ρ with
       | nil => rfl
       | cons p r ih =>
        obtain ⟨k, v⟩ := p
        simp only [aB]
        by_cases hkt : k = t
        ·subst hkt
         rw [hm _ ht]
         exact ih
        ·cases mem k (o.looksAt ops) with
         | true => simp only [cond_true, gW, qI hkt, cond_false, ih]
         | false => simp only [cond_false, ih]
      rw [hk ρ]
      simp only [aj]
    ·rw [h]; simp only [aj]
   have hw : aO m (S j) w := by rw [hS]; exact inv.NQ
   refine hok he hw TH next Q (fun pv st' m' w' v hK hx hw' hv => ?_) ro
   simp only [fin, Option.some.injEq, Prod.mk.injEq] at hK
   obtain ⟨rfl, rfl⟩ := hK
   exact after v m' w' s hx hv (by rw [← hS, ← hSS]; exact hw') inv.le b1 b2
 ·
  obtain ⟨q, d, hq, BA, hgs, hrel⟩ := qU jg want hg
  rw [hgs] at hgv
  have sG : Region.wanted o (yielded ops a.tmps) = false := by
   rcases hgv with hgv | hgv
   ·rw [hgv] at hrel
    simp only [aj, aZ] at hrel
    rw [nE hg hq BA hrel]
    cases want <;> rfl
   ·rw [hgv] at hrel
    simp only [aj] at hrel
    exact uF hg hq BA hrel
  rw [sG]
  simp only [Bool.false_eq_true, if_false]
  have hvr : aj m.blk m.cl w (val j) undef := by rw [hval]; simp only [aj]
  by_cases hb : wu ops j
  ·obtain ⟨b1, b2⟩ := adV hb
   exact ⟨fun _ _ => trivial, after undef m w (j + 1) (Ext.refl m w) hvr (by rw [hSS, hS]; exact inv.NQ) (by omega) b1 b2⟩
  ·obtain ⟨b1, b2⟩ := aaJ hSS hb
   exact ⟨fun _ _ => trivial, after undef m w s (Ext.refl m w) hvr inv.NQ inv.le b1 b2⟩
theorem FV {listed : Array Bool} {a : Act} {w : World} {s : Nat} {m : Mt} (inv : Inv ops nA n val E S m0 w0 a0 listed a w s m) (all : ∀ i, i < nA → on listed i) {ρ' : Env} (h1 : ∀ t, gW ρ' t = E nA t) : aM m w ρ' a ∧ aO m (S nA) w := by
 have hS : S nA = S s := by
  refine yC Iu hd steps nA inv.le (Nat.le_refl _) fun b h1 h2 hb => ?_
  exact inv.bars b b h1 (Nat.le_refl _) (all b h2) hb
 refine ⟨fun t => ?_, by rw [hS]; exact inv.NQ⟩
 rw [h1 t]
 by_cases hex : ∃ (i : Nat) (oi : Oper), i < nA ∧ ops[i]? = some oi ∧ oi.dst = some t
 ·obtain ⟨i, oi, hi, hoi, hti⟩ := hex
  rw [Iw Iu hd steps hoi hti nA hi (Nat.le_refl _)]
  exact inv.vals i oi t hoi hti (all i hi)
 ·rw [zG Iu hd steps nA (Nat.le_refl _) fun k ok hk hok hc => hex ⟨k, ok, hk, hok, hc⟩]
  exact inv.old t fun i' o' ho' Iy hc => hex ⟨i', o', inv.head i' Iy, ho', hc⟩
theorem FW (hbar : nA = ops.size ∨ nA = 0 ∨ ∃ b, nA = b + 1 ∧ tu ops.toList b = true) (hT : ∀ (fuel : Nat) (listed : Array Bool) (a : Act) (w : World) (m : Mt), listed.size = ops.size → (∀ i, on listed i ↔ i < nA) → (∀ ρ', (∀ t, gW ρ' t = E nA t) → aM m w ρ' a) → aO m (S nA) w → Ext m0 w0 m w → n ≤ a.tmps.size → a.defers = a0.defers →
   listed.toList.count false ≤ fuel → wpAnyIn (Fw ro) 0 P .any ops Q fuel listed a w) : ∀ (fuel : Nat) (listed : Array Bool) (a : Act) (w : World) (s : Nat) (m : Mt), Inv ops nA n val E S m0 w0 a0 listed a w s m → listed.toList.count false ≤ fuel → wpAnyIn (Fw ro) 0 P .any ops Q fuel listed a w := by
 intro fuel
 induction fuel with
 | zero =>
  intro listed a w s m inv hc
  refine hT 0 listed a w m inv.size (fun i => ⟨inv.head i, fun hi => ?_⟩) ?_ ?_ inv.ext inv.tmps inv.defers hc
  ·rcases Classical.em (on listed i) with h | h
   ·exact h
   ·exfalso
    rw [iK] at h
    have hlt : i < listed.size := by rw [inv.size]; omega
    have : listed.toList[i]? = some false := by simp [hlt] at h ⊢; exact h
    have h2 := List.count_pos_iff.2 (List.mem_of_getElem? this)
    omega
  all_goals
   have all : ∀ i, i < nA → on listed i := fun i hi => by
    rcases Classical.em (on listed i) with h | h
    ·exact h
    ·exfalso
     rw [iK] at h
     have hlt : i < listed.size := by rw [inv.size]; omega
     have : listed.toList[i]? = some false := by simp [hlt] at h ⊢; exact h
     have h2 := List.count_pos_iff.2 (List.mem_of_getElem? this)
     omega
  ·exact fun ρ' h1 => (FV Iu hd steps hok hl hQ inv all h1).1
  ·have hS : S nA = S s := by
    refine yC Iu hd steps nA inv.le (Nat.le_refl _) fun b h1 h2 hb => ?_
    exact inv.bars b b h1 (Nat.le_refl _) (all b h2) hb
   rw [hS]; exact inv.NQ
 | succ fuel ih =>
  intro listed a w s m inv hc
  rcases Classical.em (∀ i, i < nA → on listed i) with all | hno
  ·refine hT (fuel + 1) listed a w m inv.size (fun i => ⟨inv.head i, all i⟩) (fun ρ' h1 => (FV Iu hd steps hok hl hQ inv all h1).1) ?_ inv.ext inv.tmps inv.defers hc
   have hS : S nA = S s := by
    refine yC Iu hd steps nA inv.le (Nat.le_refl _) fun b h1 h2 hb => ?_
    exact inv.bars b b h1 (Nat.le_refl _) (all b h2) hb
   rw [hS]; exact inv.NQ
  ·refine ⟨fun hr => ?_, fun j hj => ?_⟩
   ·exfalso
    refine hno fun i => ?_
    induction i using Nat.strongRecOn with
    | _ i ihi =>
     intro hi
     rcases Classical.em (on listed i) with h | h
     ·exact h
     ·exfalso
      have hlt : i < listed.size := by rw [inv.size]; omega
      have : i ∈ Region.ready .any ops listed := by
       refine mem_ready.2 ⟨?_, ops[i]'(by omega), Array.getElem?_eq_getElem _, fun e he hb => ?_⟩
       ·rw [iK] at h
        simp [hlt] at h ⊢
        exact h
       ·have hw : Waits ops i e.on := ⟨_, Array.getElem?_eq_getElem (by omega), e, he, hb, rfl⟩
        have hlt := hd.edge i e.on hw
        exact ihi e.on hlt (by omega)
      rw [hr] at this
      cases this
   ·obtain ⟨h1, ⟨o, ho⟩, Xj⟩ := qR hj inv.size
    have hjlt : j < ops.size := (Array.getElem?_eq_some_iff.1 ho).1
    have NS : j < nA := by
     rcases hbar with hb | hb | ⟨b, hb, hbb⟩
     ·omega
     ·exact absurd (fun i hi => by omega) hno
     ·rcases Nat.lt_or_ge j nA with h | h
      ·exact h
      ·exfalso
       obtain ⟨i, i1, i2, i3⟩ := (qQ hbb).2 j hjlt (by omega)
       have hi := Xj i i3
       have hib : i = b := by have := inv.head i hi; omega
       subst hib
       refine hno ?_
       have up : ∀ d k, i - k = d → k < i → on listed k := by
        intro d
        induction d using Nat.strongRecOn with
        | _ d ihd =>
         intro k hdk hk
         obtain ⟨z, z1, z2, z3⟩ := (qQ hbb).1 k hk
         by_cases hz : z = i
         ·subst hz; exact inv.closed z k hi z3
         ·exact inv.closed z k (ihd (i - z) (by omega) z rfl (by omega)) z3
       intro k hk
       by_cases hki : k = i
       ·subst hki; exact hi
       ·exact up (i - k) k rfl (by omega)
    refine TG Iu hd steps hok hl hQ inv NS hj fun a' w' s' m' abI => ih _ a' w' s' m' abI ?_
    have hlt : j < listed.size := by rw [inv.size]; exact hjlt
    rw [iK] at h1
    have : listed.toList[j]? = some false := by
     simp [hlt] at h1 ⊢; exact h1
    have h2 := count_set this
    have h3 : (listed.setIfInBounds j true).toList = listed.toList.set j true := by simp
    rw [h3]
    omega
end
theorem CW {ops : Array Oper} {listed : Array Bool} (hs : listed.size = ops.size) (all : ∀ i, i < ops.size → on listed i) : Region.ready .any ops listed = [] := by
 cases h : Region.ready .any ops listed with
 | nil => rfl
 | cons j l =>
  exfalso
  have hj : j ∈ Region.ready .any ops listed := by rw [h]; simp
  obtain ⟨h1, ⟨o, ho⟩, _⟩ := qR hj hs
  exact h1 (all j (Array.getElem?_eq_some_iff.1 ho).1)
theorem CX {ops : Array Oper} {listed : Array Bool} (hs : listed.size = ops.size) (hc : listed.toList.count false = 0) : Region.ready .any ops listed = [] := by
 refine CW hs fun i hi => ?_
 rcases Classical.em (on listed i) with h | h
 ·exact h
 ·exfalso
  rw [iK] at h
  have hlt : i < listed.size := by rw [hs]; exact hi
  have : listed.toList[i]? = some false := by simp [hlt] at h ⊢; exact h
  have h2 := List.count_pos_iff.2 (List.mem_of_getElem? this)
  omega
theorem yD {R : Type} {c : CF} {Γ : Tab} {an : iG} {ρ : Env} {st : St} {K : Env → St → Option R} {r : R} : ∀ {l : List XT} {t : XT}, t ∈ l → jS (real c) Γ an (Bu l) ρ st K = some r → jS (real c) Γ an t ρ st K = some r
 | [t'], t, h, hr => by
  obtain rfl := List.mem_singleton.1 h
  exact hr
 | t' :: u :: l, t, h, hr => by
  simp only [Bu, jS] at hr
  obtain ⟨h1, h2⟩ := gB hr
  rcases List.mem_cons.1 h with rfl | h
  ·exact h1
  ·exact yD h h2
theorem NT {R : Type} {P : Program} {Γ : Tab} {c : CF} (hok : qO P Γ c) {an : iG} {n nA : Nat} {ops : Array Oper} {Q : Exit → Act → World → Prop} {K : Env → St → Option R} {r : R} {m0 : Mt} {w0 : World} {a0 : Act} {ro : Option Nat}
  (hl : ∀ o ∈ ops.toList, lT n ops.toList o = true) (hg : ∀ (i : Nat) (o : Oper), nA ≤ i → ops[i]? = some o → o.guard = none)
  (hQ : ∀ ρ' st' a' w' m', K ρ' st' = some r → aM m' w' ρ' a' → Ext m0 w0 m' w' → aO m' st' w' → n ≤ a'.tmps.size → a'.defers = a0.defers → Q .normal a' w') :
  ∀ (fuel g : Nat) (listed : Array Bool) (a : Act) (w : World) (ρ : Env) (st : St) (m : Mt), listed.size = ops.size → (∀ i, i < nA → on listed i) → aM m w ρ a → Ext m0 w0 m w → aO m st w → n ≤ a.tmps.size → a.defers = a0.defers →
   listed.toList.count false ≤ fuel → listed.toList.count false ≤ g → jS (real c) Γ an (lJ ops g listed) ρ st K = some r → wpAnyIn (Fw ro) 0 P .any ops Q fuel listed a w := by
 have done : ∀ (g : Nat) (listed : Array Bool) (a : Act) (w : World) (ρ : Env) (st : St) (m : Mt), aM m w ρ a → Ext m0 w0 m w → aO m st w → n ≤ a.tmps.size → a.defers = a0.defers → Region.ready .any ops listed = [] → jS (real c) Γ an (lJ ops g listed) ρ st K = some r → Q .normal a w := by
  intro g listed a w ρ st m he hx hw hn hd hr h
  have : lJ ops g listed = .done := by
   cases g with
   | zero => rfl
   | succ g => unfold lJ; rw [hr]; rfl
  rw [this] at h
  exact hQ ρ st a w m h he hx hw hn hd
 intro fuel
 induction fuel with
 | zero =>
  intro g listed a w ρ st m hs hh he hx hw hn hd hc _ h
  have hr := CX hs (by omega)
  exact ⟨hr, done g listed a w ρ st m he hx hw hn hd hr h⟩
 | succ fuel ih =>
  intro g listed a w ρ st m hs hh he hx hw hn hd hc hc2 h
  refine ⟨fun hr => done g listed a w ρ st m he hx hw hn hd hr h, fun j hj => ?_⟩
  obtain ⟨h1, ⟨o, ho⟩, _⟩ := qR hj hs
  have hjlt : j < ops.size := (Array.getElem?_eq_some_iff.1 ho).1
  have hlt : j < listed.size := by rw [hs]; exact hjlt
  have NS : nA ≤ j := by
   rcases Nat.lt_or_ge j nA with h | h
   ·exact absurd (hh j h) h1
   ·exact h
  rw [iK] at h1
  have hf : listed.toList[j]? = some false := by
   simp [hlt] at h1 ⊢; exact h1
  have h2 := count_set hf
  have h3 : (listed.setIfInBounds j true).toList = listed.toList.set j true := by simp
  obtain ⟨g', rfl⟩ : ∃ g', g = g' + 1 := ⟨g - 1, by omega⟩
  have hgn := hg j o NS ho
  have hst : jS (real c) Γ an (.step ⟨o.dst, o.op, none, false, []⟩ (lJ ops g' (listed.setIfInBounds j true))) ρ st K = some r := by
   refine yD ?_ h
   refine List.mem_map.2 ⟨j, hj, ?_⟩
   rw [ho]
  simp only [jS, dG] at hst
  have CV := hl o (by simpa using List.mem_of_getElem? (by simpa using ho : ops.toList[j]? = some o))
  have hdst := sD CV
  unfold wpOpIn
  simp only [ho]
  rw [if_pos (by simp [Region.wanted, hgn])]
  refine hok he hw hst _ Q (fun pv st' m' w' v hK hx' hw' hv => ?_) ro
  simp only [mH, cond_false, wG] at hK
  refine ih g' _ _ w' _ st' m' (by simp [hs]) (fun i hi => ?_) ((he.ext hx').oh hv (fun d h => Nat.lt_of_lt_of_le (hdst d h) hn)) (hx.trans hx') hw' (by rw [oJ]; exact hn) (by rw [put_defers]; exact hd) (by rw [h3]; omega) (by rw [h3]; omega) hK
  have hij : j ≠ i := by omega
  have := hh i hi
  rw [iK] at this ⊢
  rw [Array.getElem?_setIfInBounds_ne hij]
  exact this
theorem Iz {R : Type} {P : Program} {Γ : Tab} {c : CF} (hok : qO P Γ c) {an : iG} {n : Nat} {ops : Array Oper} {Q : Exit → Act → World → Prop} {K : Env → St → Option R} {r : R} (hm : P.follows .mixedOrders = true) (hdr : sw ops = true) (hlt : late ops.toList = false) (hfl : Ce ops.toList = none) {ρ : Env} {st : St} {a : Act} {w : World} {m : Mt} {id : Nat}
  (hl : ∀ o ∈ ops.toList, lT n ops.toList o = true) (he : aM m w ρ a) (hw : aO m st w) (hn : n ≤ a.tmps.size) (hr : dG (real c) Γ an (nQ an true ops.toList 0 ops.toList) ρ st K = some r)
  (hQ : ∀ ρ' st' a' w' m', K ρ' st' = some r → aM m' w' ρ' a' → Ext m w m' w' → aO m' st' w' → n ≤ a'.tmps.size → a'.defers = a.defers → Q .normal a' w') : ∀ (ro : Option Nat), (Code.region id ops true).wpIn (Fw ro) 0 P Q a w := by
 intro ro
 obtain ⟨val, E, S, g1, g2, g3, ρ', g4, g5⟩ := nT ops.toList 0 ρ st hr
 refine wpIn_region_any hm ?_
 have steps : ∀ i o, i < ops.size → ops[i]? = some o → Iq Γ an c ops.toList i o (val i) (E i) (E (i + 1)) (S i) (S (i + 1)) := by
  intro i o _ ho
  have := (g3 i o (by simpa using ho)).at_ hfl
  simpa using this
 have hx : Ext m w m { w with drawn := w.drawn + 1 } := Ext.same rfl rfl rfl rfl
 simp only [sw, Bool.and_eq_true, Bool.or_eq_true] at hdr
 have hst : lH ops.toList 0 ops.toList = true := by
  simp only [late, hfl, Bool.and_true, Bool.not_eq_false'] at hlt
  exact hlt
 have hd : DOK ops ops.size := NR ops.size hdr.1.1 hdr.1.2 fun i o _ ho => by
  have := qo ops.toList 0 hst i o (by simpa using ho)
  simpa using this
 refine FW (m0 := m) (w0 := w) (a0 := a) (n := n) (Nat.le_refl _) hd steps hok hl hQ (.inl rfl) (fun fuel listed a' w' m' hs hon hE hW hX hN hD hc => ?_) ops.size _ a _ 0 m ?_ ?_
 ·have hre := CW hs fun i hi => (hon i).2 hi
  have hq := hQ ρ' (S ops.size) a' w' m' (by simpa using g5) (hE ρ' (by simpa using g4)) hX hW hN hD
  cases fuel with
  | zero => exact ⟨hre, hq⟩
  | succ fuel => exact ⟨fun _ => hq, fun j hj => by rw [hre] at hj; cases hj⟩
 ·have hno : ∀ i, ¬ on (Array.replicate ops.size false) i := by
   intro i h
   rw [iK] at h
   have := (Array.getElem?_eq_some_iff.1 h).2
   simp at this
  refine ⟨by simp, fun j i h => absurd h (hno j), Nat.zero_le _, fun i h => absurd h (hno i), fun i h => by omega, fun b i _ _ h => absurd h (hno i), by rw [g2]; exact hw.same rfl, hx, fun i o d _ _ h => absurd h (hno i), fun t _ => ?_, hn, rfl⟩
  rw [g1 t]
  exact (he t).ext hx
 ·have : ∀ k, (List.replicate k false).count false = k := by intro k; simp
  simp
theorem yE {ops : List Oper} : ∀ {k : Nat}, vH ops k ≤ k ∧ (vH ops k = 0 ∨ ∃ b, vH ops k = b + 1 ∧ tu ops b = true)
 | 0 => ⟨Nat.le_refl _, .inl rfl⟩
 | k + 1 => by
  unfold vH
  cases hb : tu ops k with
  | true => exact ⟨Nat.le_refl _, .inr ⟨k, rfl, hb⟩⟩
  | false =>
   obtain ⟨h1, h2⟩ := yE (ops := ops) (k := k)
   exact ⟨Nat.le_succ_of_le h1, h2⟩
theorem Aw {ops : List Oper} : ∀ {l : List Oper} {k : Nat}, qG ops k l ≤ k + l.length
 | [], k => by simp [qG]
 | o :: r, k => by
  unfold qG
  cases still o.op || tu ops k with
  | true => have := Aw (ops := ops) (l := r) (k := k + 1); simp only [cond_true, List.length_cons]; omega
  | false => simp only [cond_false]; omega
theorem NU {n k i : Nat} (h : i < k) : (wI n k)[i]? = some (Nat.blt i n) := by
 unfold wI
 simp [h]
theorem KS {R : Type} {P : Program} {Γ : Tab} {c : CF} (hok : qO P Γ c) {an : iG} {n : Nat} {ops : Array Oper} {Q : Exit → Act → World → Prop} {K : Env → St → Option R} {r : R} (hm : P.follows .mixedOrders = true) (hdr : sw ops = true) (hlt : late ops.toList = true) {ρ : Env} {st : St} {a : Act} {w : World} {m : Mt} {id : Nat}
  (hl : ∀ o ∈ ops.toList, lT n ops.toList o = true) (he : aM m w ρ a) (hw : aO m st w) (hn : n ≤ a.tmps.size)
  (hr : dG (real c) Γ an (nQ an true ops.toList 0 (ops.toList.take (tN ops.toList))) ρ st (fun ρ st => jS (real c) Γ an (lJ ops ops.size (wI (tN ops.toList) ops.size)) ρ st K) = some r)
  (hQ : ∀ ρ' st' a' w' m', K ρ' st' = some r → aM m' w' ρ' a' → Ext m w m' w' → aO m' st' w' → n ≤ a'.tmps.size → a'.defers = a.defers → Q .normal a' w') : ∀ (ro : Option Nat), (Code.region id ops true).wpIn (Fw ro) 0 P Q a w := by
 intro ro
 have hfl : Ce ops.toList = none := by
  simp only [late, Bool.and_eq_true] at hlt
  cases h : Ce ops.toList with
  | none => rfl
  | some q => rw [h] at hlt; exact absurd hlt.2 (by simp)
 obtain ⟨val, E, S, g1, g2, g3, ρ', g4, g5⟩ := nT (ops.toList.take (tN ops.toList)) 0 ρ st hr
 refine wpIn_region_any hm ?_
 simp only [sw, Bool.and_eq_true, Bool.or_eq_true] at hdr
 have hlo : NP ops.toList = true := by
  rcases hdr.2 with (h | h) | h
  ·simp [late, h] at hlt
  ·exact h
  ·rw [hfl] at h; cases h
 simp only [NP, Bool.and_eq_true] at hlo
 obtain ⟨q2, q3⟩ := hlo
 obtain ⟨hle, hb⟩ := yE (ops := ops.toList) (k := qG ops.toList 0 ops.toList)
 have hle : tN ops.toList ≤ ops.size := by
  have := Aw (ops := ops.toList) (l := ops.toList) (k := 0)
  simp only [Array.length_toList, Nat.zero_add] at this
  exact Nat.le_trans hle this
 generalize Iu : tN ops.toList = nA at *
 have hlen : (ops.toList.take nA).length = nA := by simp; omega
 have steps : ∀ i o, i < nA → ops[i]? = some o → Iq Γ an c ops.toList i o (val i) (E i) (E (i + 1)) (S i) (S (i + 1)) := by
  intro i o hi ho
  have := (g3 i o (by rw [List.getElem?_take]; simp [hi]; simpa using ho)).at_ hfl
  simpa using this
 have hx : Ext m w m { w with drawn := w.drawn + 1 } := Ext.same rfl rfl rfl rfl
 have hd : DOK ops nA := NR nA hdr.1.1 hdr.1.2 fun i o hi ho => by
  have := qo (ops.toList.take nA) 0 q2 i o (by rw [List.getElem?_take]; simp [hi]; simpa using ho)
  simpa using this
 have hg : ∀ (i : Nat) (o : Oper), nA ≤ i → ops[i]? = some o → o.guard = none := fun i o hi ho => by
  have h1 : o ∈ ops.toList.drop nA := by
   refine List.mem_of_getElem? (i := i - nA) ?_
   rw [List.getElem?_drop, show nA + (i - nA) = i by omega]
   simpa using ho
  have h2 := List.all_eq_true.1 q3 o h1
  cases hgo : o.guard with
  | none => rfl
  | some _ => rw [hgo] at h2; cases h2
 rw [hlen] at g4 g5
 simp only [Nat.zero_add] at g4 g5
 have hb' : nA = 0 ∨ ∃ b, nA = b + 1 ∧ tu ops.toList b = true := by
  rcases hb with hb | ⟨b, h1, h2⟩
  ·exact .inl (by rw [← Iu]; exact hb)
  ·exact .inr ⟨b, by rw [← Iu]; exact h1, h2⟩
 refine FW (m0 := m) (w0 := w) (a0 := a) (n := n) hle hd steps hok hl hQ (.inr hb') (fun fuel listed a' w' m' hs hon hE hW hX hN hD hc => ?_) ops.size _ a _ 0 m ?_ ?_
 ·have hlist : listed = wI nA ops.size := by
   refine Array.ext_getElem? fun i => ?_
   rcases Nat.lt_or_ge i ops.size with hi | hi
   ·rw [NU hi]
    have h1 := hon i
    rw [iK] at h1
    have hlt : i < listed.size := by rw [hs]; exact hi
    rw [Array.getElem?_eq_getElem hlt] at h1 ⊢
    simp only [Option.some.injEq] at h1 ⊢
    rw [Bool.eq_iff_iff, h1]
    exact ⟨fun h => Nat.ble_eq_true_of_le h, sF⟩
   ·rw [Array.getElem?_eq_none (by omega), Array.getElem?_eq_none (by simp [wI]; omega)]
  have hcnt : listed.toList.count false ≤ ops.size := by
   have := List.count_le_length (a := false) (l := listed.toList)
   simp only [Array.length_toList] at this
   omega
  rw [← hlist] at g5
  exact NT (R := R) hok hl hg hQ fuel ops.size listed a' w' ρ' (S nA) m' hs (fun i hi => (hon i).2 hi) (hE ρ' g4) hX hW hN hD hc hcnt g5
 ·have hno : ∀ i, ¬ on (Array.replicate ops.size false) i := by
   intro i h
   rw [iK] at h
   have := (Array.getElem?_eq_some_iff.1 h).2
   simp at this
  refine ⟨by simp, fun j i h => absurd h (hno j), Nat.zero_le _, fun i h => absurd h (hno i), fun i h => by omega, fun b i _ _ h => absurd h (hno i), by rw [g2]; exact hw.same rfl, hx, fun i o d _ _ h => absurd h (hno i), fun t _ => ?_, hn, rfl⟩
  rw [g1 t]
  exact (he t).ext hx
 ·have : ∀ k, (List.replicate k false).count false = k := by intro k; simp
  simp
end Go.X
