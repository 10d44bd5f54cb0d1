/- A region whose order is drawn: every order comes to what the text order comes to. -/
import Derived.Test.YtipkggkbldgmjaaGreatXDrawn
namespace Go.X
open Go
set_option linter.unusedSectionVars false
set_option linter.unusedSimpArgs false
set_option linter.unusedVariables false
variable [eY]
def Waits (ops : Array Oper) (j i : Nat) : Prop := ∃ o, ops[j]? = some o ∧ ∃ e ∈ o.after, Region.binds .any e = true ∧ e.on = i
theorem Ik {ops : Array Oper} {j i : Nat} (h : waits ops.toList j i = true) : Waits ops j i := by
 unfold waits at h
 split at h
 ·rename_i o ho
  obtain ⟨e, he, hb⟩ := List.any_eq_true.1 h
  simp only [Bool.and_eq_true] at hb
  exact ⟨o, by simpa using ho, e, by simpa using he, hb.1, Nat.eq_of_beq_eq_true hb.2⟩
 ·cases h
theorem Ea {a b : Nat} (h : Nat.blt a b = true) : a < b := Nat.le_of_ble_eq_true h
theorem Eb {ops : Array Oper} {k : Nat} (h : zA ops.toList k = true) :
  (∀ i, i < k → ∃ j, i < j ∧ j ≤ k ∧ Waits ops j i) ∧ (∀ j, j < ops.size → k < j → ∃ i, k ≤ i ∧ i < j ∧ Waits ops j i) := by
 simp only [zA, Bool.and_eq_true, List.all_eq_true, List.any_eq_true, List.mem_range, Bool.or_eq_true] at h
 refine ⟨fun i hi => ?_, fun j hj hk => ?_⟩
 ·obtain ⟨j, h1, h2, h3⟩ := h.1 i hi
  exact ⟨j, Ea h2, by omega, Ik h3⟩
 ·rcases h.2 j (by simpa using hj) with h1 | ⟨i, h1, h2, h3⟩
  ·have := Nat.le_of_ble_eq_true h1; omega
  ·exact ⟨i, Nat.le_of_ble_eq_true h2, h1, Ik h3⟩
theorem Si {ops : Array Oper} : ∀ (fuel k : Nat) (listed : Array Bool), listed.size = ops.size → (∀ i, i < ops.size → listed.getD i true = decide (i < k)) → Region.lexFrom .any ops fuel k listed = true →
  ∀ k', k ≤ k' → k' < k + fuel → ∀ o, ops[k']? = some o → (∀ e ∈ o.after, Region.binds .any e = true → e.on < k') ∧ (∀ j oj, k' < j → ops[j]? = some oj → ¬ Waits ops j k' → o.apart ops oj = true)
 | 0, k, listed, _, _, _, k', h1, h2, _, _ => by omega
 | fuel + 1, k, listed, hs, hl, h, k', h1, h2, o, ho => by
  simp only [Region.lexFrom, Bool.and_eq_true] at h
  obtain ⟨⟨hr, hf⟩, hrest⟩ := h
  by_cases hk : k' = k
  ·subst hk
   have hr' : k' ∈ Region.ready .any ops listed := by simpa using hr
   obtain ⟨_, o', ho', hall⟩ := mem_ready.1 hr'
   rw [ho] at ho'; cases ho'
   refine ⟨fun e he hb => ?_, fun j oj hj hoj hn => ?_⟩
   ·have := hall e he hb
    rcases Nat.lt_or_ge e.on listed.size with hlt | hge
    ·have h3 := hl e.on (by omega)
     simp [hlt] at this h3
     rw [this] at h3
     simpa using h3
    ·simp [Array.getElem?_eq_none hge] at this
   ·have hjlt := (Array.getElem?_eq_some_iff.1 hoj).1
    refine Region.free_spec ho hf j oj hoj (by omega) ?_ fun e he hb heq => hn ⟨oj, hoj, e, he, hb, heq⟩
    rw [hl j hjlt]; simp; omega
  ·refine Si fuel (k + 1) _ (by simp [hs]) (fun i hi => ?_) hrest k' (by omega) (by omega) o ho
   by_cases hik : i = k
   ·subst hik
    have : i < listed.size := by omega
    simp [this]
   ·rw [getD_set_ne true (Ne.symm hik), hl i hi]
    simp; omega
theorem qY : ∀ {l : List Oper}, distinct l = true → ∀ (i j : Nat) (oi oj : Oper) (d : Nat), i < j → l[i]? = some oi → l[j]? = some oj → oi.dst = some d → oj.dst ≠ some d
 | [], _, i, j, oi, oj, d, _, h, _, _ => by simp at h
 | o :: l, h, i, j, oi, oj, d, hij, hi, hj, hd => by
  simp only [distinct, Bool.and_eq_true] at h
  cases j with
  | zero => omega
  | succ j =>
   have hj' : l[j]? = some oj := by simpa using hj
   cases i with
   | zero =>
    simp at hi; subst hi
    have h1 := h.1
    rw [hd] at h1
    simp only [List.all_eq_true] at h1
    have h2 := h1 oj (List.mem_of_getElem? hj')
    intro hc
    rw [hc] at h2
    simp [iP] at h2
   | succ i => exact qY h.2 i j oi oj d (by omega) (by simpa using hi) hj' hd
theorem y8 {ops : List Oper} : ∀ (l : List Oper) (k : Nat), BP ops k l = true → ∀ i o, l[i]? = some o → still o.op = true ∨ zA ops (k + i) = true
 | [], k, _, i, o, h => by simp at h
 | o :: l, k, h, i, o', hi => by
  simp only [BP, Bool.and_eq_true, Bool.or_eq_true] at h
  cases i with
  | zero => simp at hi; subst hi; exact h.1
  | succ i =>
   have := y8 l (k + 1) h.2 i o' (by simpa using hi)
   rwa [show k + (i + 1) = k + 1 + i by omega]
theorem count_set : ∀ {l : List Bool} {i : Nat}, l[i]? = some false → (l.set i true).count false + 1 = l.count false
 | [], i, h => by simp at h
 | b :: l, 0, h => by simp at h; subst h; simp
 | b :: l, i + 1, h => by
  simp at h
  have := count_set h
  simp only [List.set_cons_succ, List.count_cons]
  omega
def y9 (ops : Array Oper) (b : Nat) : Prop := ∃ o, ops[b]? = some o ∧ quiet o.op = false ∧ zA ops.toList b = true
def on (listed : Array Bool) (i : Nat) : Prop := listed.getD i false = true
structure Inv (ops : Array Oper) (n : Nat) (val : Nat → PV) (E : Nat → Nat → PV) (S : Nat → St) (m0 : Mt) (w0 : World) (a0 : Act) (listed : Array Bool) (a : Act) (w : World) (s : Nat) (m : Mt) : Prop where
 size : listed.size = ops.size
 closed : ∀ j i, on listed j → Waits ops j i → on listed i
 le : s ≤ ops.size
 first : ∀ i, i < s → on listed i
 bars : ∀ b i, s ≤ b → b ≤ i → on listed i → ¬ y9 ops b
 aa8 : bS m (S s) w
 ext : Ext m0 w0 m w
 vals : ∀ i o d, ops[i]? = some o → o.dst = some d → on listed i → ay m.blk m.cl w (val i) (a.tmps.getD d undef)
 old : ∀ t, (∀ i o, ops[i]? = some o → on listed i → o.dst ≠ some t) → ay m.blk m.cl w (E 0 t) (a.tmps.getD t undef)
 tmps : n ≤ a.tmps.size
 defers : a.defers = a0.defers
structure DOK (ops : Array Oper) : Prop where
 edge : ∀ j i, Waits ops j i → i < j
 ap : ∀ (i j : Nat) (oi oj : Oper), i < j → ops[i]? = some oi → ops[j]? = some oj → ¬ Waits ops j i → oi.apart ops oj = true
 dist : ∀ (i j : Nat) (oi oj : Oper) (d : Nat), i ≠ j → ops[i]? = some oi → ops[j]? = some oj → oi.dst = some d → oj.dst ≠ some d
 stl : ∀ (i : Nat) (o : Oper), ops[i]? = some o → still o.op = true ∨ zA ops.toList i = true
theorem akq {ops : Array Oper} (h : Gh ops = true) : DOK ops := by
 simp only [Gh, Bool.and_eq_true, Region.lexB] at h
 obtain ⟨⟨⟨_, h1⟩, h2⟩, h3⟩ := h
 have hlex := Si ops.size 0 _ (by simp) (fun i hi => by simp [hi]) h1
 refine ⟨fun j i hw => ?_, fun i j oi oj hij hi hj hn => ?_, fun i j oi oj d hne hi hj hd => ?_, fun i o ho => ?_⟩
 ·obtain ⟨o, ho, e, he, hb, rfl⟩ := hw
  exact (hlex j (Nat.zero_le _) (by simpa using (Array.getElem?_eq_some_iff.1 ho).1) o ho).1 e he hb
 ·exact (hlex i (Nat.zero_le _) (by simpa using (Array.getElem?_eq_some_iff.1 hi).1) oi hi).2 j oj hij hj hn
 ·rcases Nat.lt_or_gt_of_ne hne with hlt | hgt
  ·exact qY h2 i j oi oj d hlt (by simpa using hi) (by simpa using hj) hd
  ·intro hc
   exact qY h2 j i oj oi d hgt (by simpa using hj) (by simpa using hi) hc hd
 ·have := y8 ops.toList 0 h3 i o (by simpa using ho)
  simpa using this
theorem wK {listed : Array Bool} {i : Nat} : on listed i ↔ listed[i]? = some true := by
 unfold on
 rcases Nat.lt_or_ge i listed.size with h | h
 ·simp [h]
 ·simp [Array.getElem?_eq_none h]
theorem Il {ops : Array Oper} {listed : Array Bool} {j : Nat} (h : j ∈ Region.ready .any ops listed) (hs : listed.size = ops.size) : ¬ on listed j ∧ (∃ o, ops[j]? = some o) ∧ ∀ i, Waits ops j i → on listed i := by
 obtain ⟨h1, o, ho, hall⟩ := mem_ready.1 h
 refine ⟨fun hc => ?_, ⟨o, ho⟩, fun i hw => ?_⟩
 ·rw [wK] at hc
  have hlt := (Array.getElem?_eq_some_iff.1 hc).1
  have hv := (Array.getElem?_eq_some_iff.1 hc).2
  simp [hlt, hv] at h1
 ·obtain ⟨o', ho', e, he, hb, rfl⟩ := hw
  rw [ho] at ho'; cases ho'
  exact hall e he hb
section
variable {R : Type} {P : Program} {Γ : Tab} {c : CF} {an : kW} {n : Nat} {ops : Array Oper} {Q : Exit → Act → World → Prop} {K : Env → St → Option R} {r : R}
variable {val : Nat → PV} {E : Nat → Nat → PV} {S : Nat → St} {m0 : Mt} {w0 : World} {a0 : Act}
variable (hd : DOK ops) (steps : ∀ i o, ops[i]? = some o → Oo Γ an c ops.toList i o (val i) (E i) (E (i + 1)) (S i) (S (i + 1)))
include hd steps
theorem Ec {t : Nat} : ∀ j, j ≤ ops.size → (∀ i o, i < j → ops[i]? = some o → o.dst ≠ some t) → E j t = E 0 t
 | 0, _, _ => rfl
 | j + 1, hj, h => by
  have hlt : j < ops.size := by omega
  have ho : ops[j]? = some ops[j] := Array.getElem?_eq_getElem hlt
  have h1 := (steps j _ ho).1 t
  rw [if_neg (h j _ (by omega) ho)] at h1
  rw [h1]
  exact Ec j (by omega) fun i o hi => h i o (by omega)
theorem Ot {t i : Nat} {o : Oper} (ho : ops[i]? = some o) (ht : o.dst = some t) : ∀ j, i < j → j ≤ ops.size → E j t = val i
 | 0, h, _ => by omega
 | j + 1, h, hj => by
  have hlt : j < ops.size := by omega
  have hoj : ops[j]? = some ops[j] := Array.getElem?_eq_getElem hlt
  have h1 := (steps j _ hoj).1 t
  by_cases hij : i = j
  ·subst hij
   rw [ho] at hoj; cases hoj
   rw [h1, if_pos ht]
  ·rw [if_neg (hd.dist i j _ _ t hij ho hoj ht)] at h1
   rw [h1]
   exact Ot ho ht j (by omega) (by omega)
theorem Ou {s : Nat} : ∀ j, s ≤ j → j ≤ ops.size → (∀ b, s ≤ b → b < j → ¬ y9 ops b) → S j = S s
 | 0, h, _, _ => by have : s = 0 := by omega
                    rw [this]
 | j + 1, h, hj, hb => by
  by_cases hs : s = j + 1
  ·rw [hs]
  ·have hlt : j < ops.size := by omega
   have hoj : ops[j]? = some ops[j] := Array.getElem?_eq_getElem hlt
   rcases (steps j _ hoj).2.1 with ⟨h1, h2⟩ | h1
   ·exact absurd ⟨_, hoj, h1, h2⟩ (hb j (by omega) (by omega))
   ·rw [h1]; exact Ou j (by omega) (by omega) fun b h1 h2 => hb b h1 (by omega)
variable (hok : BO P Γ c) (hl : ∀ o ∈ ops.toList, wH n ops.toList o = true) (hfin : ∃ ρ', (∀ t, jw ρ' t = E ops.size t) ∧ K ρ' (S ops.size) = some r)
 (hQ : ∀ ρ' st' a' w' m', K ρ' st' = some r → bR m' w' ρ' a' → Ext m0 w0 m' w' → bS m' st' w' → n ≤ a'.tmps.size → a'.defers = a0.defers → Q .normal a' w')
variable {ro : Option Nat}
include hok hl hfin hQ
theorem aa9 {listed : Array Bool} {a : Act} {w : World} {s : Nat} {m : Mt} (inv : Inv ops n val E S m0 w0 a0 listed a w s m) {j : Nat} (hj : j ∈ Region.ready .any ops listed) {next : Act → World → Prop}
  (hn : ∀ a' w' s' m', Inv ops n val E S m0 w0 a0 (listed.setIfInBounds j true) a' w' s' m' → next a' w') : wpOpIn (Fw ro) 0 P ops Q j next a w := by
 obtain ⟨hjun, ⟨o, ho⟩, hjw⟩ := Il hj inv.size
 have hjlt : j < ops.size := (Array.getElem?_eq_some_iff.1 ho).1
 have hstep := steps j o ho
 have ajg := hl o (by simpa using List.mem_of_getElem? (by simpa using ho : ops.toList[j]? = some o))
 have hdst := Ij ajg
 have hon : ∀ i, on (listed.setIfInBounds j true) i ↔ i = j ∨ on listed i := by
  intro i
  rw [wK, wK]
  by_cases h : j = i
  ·subst h
   have : j < listed.size := by rw [inv.size]; exact hjlt
   simp [this]
  ·simp [Array.getElem?_setIfInBounds_ne h, Ne.symm h]
 have down : ∀ b, zA ops.toList b = true → ∀ i, i < ops.size → b < i → on listed i → on listed b := by
  intro b hb i
  induction i using Nat.strongRecOn with
  | _ i ih =>
   intro hi hbi hon
   obtain ⟨k, h1, h2, h3⟩ := (Eb hb).2 i hi hbi
   have hk := inv.closed i k hon h3
   by_cases hkb : k = b
   ·rw [← hkb]; exact hk
   ·exact ih k h2 (by omega) (by omega) hk
 have up : zA ops.toList j = true → ∀ d i, j - i = d → i < j → on listed i := by
  intro hb d
  induction d using Nat.strongRecOn with
  | _ d ih =>
   intro i hdi hi
   obtain ⟨k, h1, h2, h3⟩ := (Eb hb).1 i hi
   by_cases hkj : k = j
   ·subst hkj; exact hjw i h3
   ·exact inv.closed k i (ih (j - k) (by omega) k rfl (by omega)) h3
 have hsj : s ≤ j := by
  rcases Nat.lt_or_ge j s with h | h
  ·exact absurd (inv.first j h) hjun
  ·exact h
 have ajh : ∀ b, s ≤ b → b < j → ¬ y9 ops b := by
  intro b h1 h2 hb
  obtain ⟨ob, hob, hq, hbb⟩ := hb
  obtain ⟨k, k1, k2, k3⟩ := (Eb hbb).2 j hjlt h2
  have hk := hjw k k3
  have arW : on listed b := by
   by_cases hkb : k = b
   ·rw [← hkb]; exact hk
   ·exact down b hbb k (by omega) (by omega) hk
  exact inv.bars b b h1 (Nat.le_refl _) arW ⟨ob, hob, hq, hbb⟩
 have hS : S j = S s := Ou hd steps j hsj (by omega) ajh
 have looks : ∀ t, t ∈ o.looksAt ops → ay m.blk m.cl w (E j t) (a.tmps.getD t undef) := by
  intro t ht
  by_cases hex : ∃ (i : Nat) (oi : Oper), ops[i]? = some oi ∧ oi.dst = some t
  ·obtain ⟨i, oi, hoi, hti⟩ := hex
   have hilt : i < ops.size := (Array.getElem?_eq_some_iff.1 hoi).1
   have unwritten : ¬ on listed i → ay m.blk m.cl w (E 0 t) (a.tmps.getD t undef) := fun hun => inv.old t fun i' o' ho' agr hc => by
    by_cases hii : i' = i
    ·subst hii; exact hun agr
    ·exact hd.dist i' i o' oi t hii ho' hoi hc hti
   rcases Nat.lt_trichotomy i j with hij | hij | hij
   ·by_cases hw : Waits ops j i
    ·rw [Ot hd steps hoi hti j hij (by omega)]
     exact inv.vals i oi t hoi hti (hjw i hw)
    ·have := (Oper.apart_spec (hd.ap i j oi o hij hoi ho hw)).1 t hti
     exact absurd ht this
   ·subst hij
    rw [ho] at hoi; cases hoi
    rw [Ec hd steps i (by omega) fun k ok hk hok hc => hd.dist k i ok o t (by omega) hok ho hc hti]
    exact unwritten hjun
   ·by_cases hw : Waits ops i j
    ·have hun : ¬ on listed i := fun hc => hjun (inv.closed i j hc hw)
     rw [Ec hd steps j (by omega) fun k ok hk hok hc => hd.dist k i ok oi t (by omega) hok hoi hc hti]
     exact unwritten hun
    ·have := (Oper.apart_spec (hd.ap j i o oi hij ho hoi hw)).2.2 t hti
     exact absurd ht this
  ·rw [Ec hd steps j (by omega) fun k ok hk hok hc => hex ⟨k, ok, hok, hc⟩]
   exact inv.old t fun i' o' ho' _ hc => hex ⟨i', o', ho', hc⟩
 have LQ : ∀ jg want, o.guard = some (jg, want) → ∃ q d, ops[jg]? = some q ∧ q.dst = some d ∧ jc ops.toList jg = d ∧ ay m.blk m.cl w (E j d) (a.tmps.getD d undef) := by
  intro jg want hg
  obtain ⟨q, d, hq, hqd⟩ := BQ ajg jg want hg
  have hq' : ops[jg]? = some q := by simpa using hq
  refine ⟨q, d, hq', hqd, by simp [jc, hq, hqd], looks d ?_⟩
  simp [Oper.looksAt, hg, hq', hqd]
 have after : ∀ (v : Value) (m' : Mt) (w' : World) (s' : Nat), Ext m w m' w' → ay m'.blk m'.cl w' (val j) v → bS m' (S s') w' → s' ≤ ops.size → (∀ i, i < s' → on (listed.setIfInBounds j true) i) →
   (∀ b i, s' ≤ b → b ≤ i → on (listed.setIfInBounds j true) i → ¬ y9 ops b) → next (a.put o.dst v) w' := by
  intro v m' w' s' hx hv hw' hs1 hs2 hs3
  refine hn _ _ s' m' ⟨by simp [inv.size], fun k i hk hki => ?_, hs1, hs2, hs3, hw', inv.ext.trans hx, fun i oi d hoi hdi hi => ?_, fun t ht => ?_, by rw [Ii]; exact inv.tmps, by rw [put_defers]; exact inv.defers⟩
  ·rcases (hon k).1 hk with rfl | hk
   ·exact (hon i).2 (.inr (hjw i hki))
   ·exact (hon i).2 (.inr (inv.closed k i hk hki))
  ·rcases (hon i).1 hi with rfl | hi2
   ·rw [ho] at hoi; cases hoi
    have : d < a.tmps.size := Nat.lt_of_lt_of_le (hdst d hdi) inv.tmps
    simp [Act.put, hdi, this]
    exact hv
   ·have hne : i ≠ j := fun h => by rw [h] at hi2; exact hjun hi2
    have h1 := (inv.vals i oi d hoi hdi hi2).ext hx
    have h2 := hd.dist i j oi o d hne hoi ho hdi
    cases hdo : o.dst with
    | none => simpa [Act.put] using h1
    | some e =>
     have : e ≠ d := fun h => h2 (by rw [hdo, h])
     simp [Act.put, Array.getElem?_setIfInBounds_ne this]
     simpa using h1
  ·have h1 := (inv.old t fun i oi hoi hi => ht i oi hoi ((hon i).2 (.inr hi))).ext hx
   have h2 := ht j o ho ((hon j).2 (.inl rfl))
   cases hdo : o.dst with
   | none => simpa [Act.put] using h1
   | some e =>
    have : e ≠ t := fun h => h2 (by rw [hdo, h])
    simp [Act.put, Array.getElem?_setIfInBounds_ne this]
    simpa using h1
 have aji : S (j + 1) = S j → ¬ y9 ops j → (∀ i, i < s → on (listed.setIfInBounds j true) i) ∧ ∀ b i, s ≤ b → b ≤ i → on (listed.setIfInBounds j true) i → ¬ y9 ops b := by
  intro _ hnb
  refine ⟨fun i hi => (hon i).2 (.inr (inv.first i hi)), fun b i h1 h2 h3 hb => ?_⟩
  rcases (hon i).1 h3 with rfl | h3
  ·by_cases hbi : b = i
   ·subst hbi; exact hnb hb
   ·exact ajh b h1 (by omega) hb
  ·exact inv.bars b i h1 h2 h3 hb
 have apt : y9 ops j → (∀ i, i < j + 1 → on (listed.setIfInBounds j true) i) ∧ ∀ b i, j + 1 ≤ b → b ≤ i → on (listed.setIfInBounds j true) i → ¬ y9 ops b := by
  rintro ⟨ob, hob, _, hbb⟩
  refine ⟨fun i hi => ?_, fun b i h1 h2 h3 => ?_⟩
  ·by_cases hij : i = j
   ·exact (hon i).2 (.inl hij)
   ·exact (hon i).2 (.inr (up hbb (j - i) i rfl (by omega)))
  ·exfalso
   rcases (hon i).1 h3 with rfl | h3
   ·omega
   ·have hilt : i < ops.size := by
     rw [wK] at h3
     have := (Array.getElem?_eq_some_iff.1 h3).1
     rw [inv.size] at this; exact this
    exact hjun (down j hbb i hilt (by omega) h3)
 unfold wpOpIn
 simp only [ho]
 rcases hstep.2.2 with ⟨hg, ρ, hρ, hev⟩ | ⟨hval, hSS, jg, want, hg, hgv⟩
 ·
  have Ov : Region.wanted o (yielded ops a.tmps) = true := by
   rcases hg with hg | ⟨jg, want, hg, hgv⟩
   ·simp [Region.wanted, hg]
   ·obtain ⟨q, d, hq, hqd, hgs, hrel⟩ := LQ jg want hg
    rw [hgs] at hgv
    rw [hgv] at hrel
    simp only [ay, bY] at hrel
    rw [wI hg hq hqd hrel]
    simp
  rw [if_pos Ov]
  by_cases hb : y9 ops j
  ·obtain ⟨b1, b2⟩ := apt hb
   obtain ⟨ob, hob, _, hbb⟩ := hb
   have he : bR m w ρ a := by
    intro t
    rw [hρ t]
    by_cases hex : ∃ (i : Nat) (oi : Oper), i < j ∧ ops[i]? = some oi ∧ oi.dst = some t
    ·obtain ⟨i, oi, hij, hoi, hti⟩ := hex
     rw [Ot hd steps hoi hti j hij (by omega)]
     exact inv.vals i oi t hoi hti (up hbb (j - i) i rfl hij)
    ·rw [Ec hd steps j (by omega) fun k ok hk hok hc => hex ⟨k, ok, hk, hok, hc⟩]
     refine inv.old t fun i' o' ho' agr hc => ?_
     by_cases hij : i' < j
     ·exact hex ⟨i', o', hij, ho', hc⟩
     ·by_cases hij2 : i' = j
      ·subst hij2; exact hjun agr
      ·exact hjun (down j hbb i' ((Array.getElem?_eq_some_iff.1 ho').1) (by omega) agr)
   have hw : bS m (S j) w := by rw [hS]; exact inv.aa8
   refine hok he hw hev next Q (fun pv st' m' w' v hK hx hw' hv => ?_) ro
   simp only [fin, Option.some.injEq, Prod.mk.injEq] at hK
   obtain ⟨rfl, rfl⟩ := hK
   exact after v m' w' (j + 1) hx hv hw' (by omega) b1 b2
  ·have hst : still o.op = true := by
    rcases hd.stl j o ho with h | h
    ·exact h
    ·cases hq : quiet o.op with
     | true => exact Sg hq
     | false => exact absurd ⟨o, ho, hq, h⟩ hb
   have hSS : S (j + 1) = S j := by
    rcases hstep.2.1 with ⟨h1, h2⟩ | h1
    ·exact absurd ⟨o, ho, h1, h2⟩ hb
    ·exact h1
   obtain ⟨b1, b2⟩ := aji hSS hb
   have arX : evalOp (real c) Γ an (bn (o.looksAt ops) ρ) (S j) o.dst o.op fin = some (val j, S (j + 1)) := by
    rw [← hev]
    refine Sd hst fun x hx => ?_
    cases x with
    | tmp t =>
     simp only [ev]
     have ht : t ∈ o.looksAt ops := by
      simp only [Oper.looksAt, List.mem_append, List.mem_filterMap]
      exact .inl ⟨.tmp t, by simpa using hx, rfl⟩
     have hm : ∀ (l : List Nat) (t : Nat), t ∈ l → mem t l = true := by
      intro l
      induction l with
      | nil => intro t h; cases h
      | cons x l ih =>
       intro t h
       simp only [mem]
       by_cases hx : t = x
       ·subst hx; simp [iP]
       ·rw [vY hx]; exact ih t ((List.mem_cons.1 h).resolve_left hx)
     have hk : ∀ (ρ : Env), jw (bn (o.looksAt ops) ρ) t = jw ρ t := by
      intro ρ
      induction ρ with
      | nil => rfl
      | cons p r ih =>
       obtain ⟨k, v⟩ := p
       simp only [bn]
       by_cases hkt : k = t
       ·subst hkt
        rw [hm _ _ ht]
        simp [jw, iP]
       ·cases mem k (o.looksAt ops) with
        | true => simp only [cond_true, jw, vY hkt, cond_false, ih]
        | false => simp only [cond_false, jw, vY hkt, ih]
     exact hk ρ
    | _ => rfl
   have he : bR m w (bn (o.looksAt ops) ρ) a := by
    intro t
    rcases kF (o.looksAt ops) ρ t with h | h
    ·by_cases ht : t ∈ o.looksAt ops
     ·rw [h, hρ t]; exact looks t ht
     ·have hm : ∀ (l : List Nat), t ∉ l → mem t l = false := by
       intro l
       induction l with
       | nil => intro _; rfl
       | cons x l ih =>
        intro h
        simp only [List.mem_cons, not_or] at h
        simp only [mem, vY h.1, cond_false]
        exact ih h.2
      have hk : ∀ (ρ : Env), jw (bn (o.looksAt ops) ρ) t = .unk := by
       intro ρ
       induction ρ with
       | nil => rfl
       | cons p r ih =>
        obtain ⟨k, v⟩ := p
        simp only [bn]
        by_cases hkt : k = t
        ·subst hkt
         rw [hm _ ht]
         exact ih
        ·cases mem k (o.looksAt ops) with
         | true => simp only [cond_true, jw, vY hkt, cond_false, ih]
         | false => simp only [cond_false, ih]
      rw [hk ρ]
      simp only [ay]
    ·rw [h]; simp only [ay]
   have hw : bS m (S j) w := by rw [hS]; exact inv.aa8
   refine hok he hw arX next Q (fun pv st' m' w' v hK hx hw' hv => ?_) ro
   simp only [fin, Option.some.injEq, Prod.mk.injEq] at hK
   obtain ⟨rfl, rfl⟩ := hK
   exact after v m' w' s hx hv (by rw [← hS, ← hSS]; exact hw') inv.le b1 b2
 ·
  obtain ⟨q, d, hq, hqd, hgs, hrel⟩ := LQ jg want hg
  rw [hgs] at hgv
  have Ov : Region.wanted o (yielded ops a.tmps) = false := by
   rcases hgv with hgv | hgv
   ·rw [hgv] at hrel
    simp only [ay, bY] at hrel
    rw [wI hg hq hqd hrel]
    cases want <;> rfl
   ·rw [hgv] at hrel
    simp only [ay] at hrel
    exact Fv hg hq hqd hrel
  rw [Ov]
  simp only [Bool.false_eq_true, if_false]
  have hvr : ay m.blk m.cl w (val j) undef := by rw [hval]; simp only [ay]
  by_cases hb : y9 ops j
  ·obtain ⟨b1, b2⟩ := apt hb
   exact ⟨fun _ _ => trivial, after undef m w (j + 1) (Ext.refl m w) hvr (by rw [hSS, hS]; exact inv.aa8) (by omega) b1 b2⟩
  ·obtain ⟨b1, b2⟩ := aji hSS hb
   exact ⟨fun _ _ => trivial, after undef m w s (Ext.refl m w) hvr inv.aa8 inv.le b1 b2⟩
theorem Sj {listed : Array Bool} {a : Act} {w : World} {s : Nat} {m : Mt} (inv : Inv ops n val E S m0 w0 a0 listed a w s m) (hr : Region.ready .any ops listed = []) : Q .normal a w := by
 have all : ∀ i, i < ops.size → on listed i := by
  intro i
  induction i using Nat.strongRecOn with
  | _ i ih =>
   intro hi
   rcases Classical.em (on listed i) with h | h
   ·exact h
   ·exfalso
    have : i ∈ Region.ready .any ops listed := by
     refine mem_ready.2 ⟨?_, ops[i], Array.getElem?_eq_getElem hi, fun e he hb => ?_⟩
     ·rw [wK] at h
      have hlt : i < listed.size := by rw [inv.size]; exact hi
      simp [hlt] at h ⊢
      exact h
     ·have hw : Waits ops i e.on := ⟨_, Array.getElem?_eq_getElem hi, e, he, hb, rfl⟩
      have hlt := hd.edge i e.on hw
      exact ih e.on hlt (by omega)
    rw [hr] at this
    cases this
 obtain ⟨ρ', h1, h2⟩ := hfin
 have hS : S ops.size = S s := by
  refine Ou hd steps ops.size inv.le (Nat.le_refl _) fun b h1 h2 hb => ?_
  exact inv.bars b b h1 (Nat.le_refl _) (all b h2) hb
 refine hQ ρ' (S ops.size) a w m h2 (fun t => ?_) inv.ext (by rw [hS]; exact inv.aa8) inv.tmps inv.defers
 rw [h1 t]
 by_cases hex : ∃ (i : Nat) (oi : Oper), ops[i]? = some oi ∧ oi.dst = some t
 ·obtain ⟨i, oi, hoi, hti⟩ := hex
  have hilt := (Array.getElem?_eq_some_iff.1 hoi).1
  rw [Ot hd steps hoi hti ops.size hilt (Nat.le_refl _)]
  exact inv.vals i oi t hoi hti (all i hilt)
 ·rw [Ec hd steps ops.size (Nat.le_refl _) fun k ok hk hok hc => hex ⟨k, ok, hok, hc⟩]
  exact inv.old t fun i' o' ho' _ hc => hex ⟨i', o', ho', hc⟩
theorem LU : ∀ (fuel : Nat) (listed : Array Bool) (a : Act) (w : World) (s : Nat) (m : Mt), Inv ops n val E S m0 w0 a0 listed a w s m → listed.toList.count false ≤ fuel → wpAnyIn (Fw ro) 0 P .any ops Q fuel listed a w
 | 0, listed, a, w, s, m, inv, hc => by
  have hr : Region.ready .any ops listed = [] := by
   cases h : Region.ready .any ops listed with
   | nil => rfl
   | cons j l =>
    exfalso
    have hj : j ∈ Region.ready .any ops listed := by rw [h]; simp
    obtain ⟨h1, ⟨o, ho⟩, _⟩ := Il hj inv.size
    have hlt : j < listed.size := by rw [inv.size]; exact (Array.getElem?_eq_some_iff.1 ho).1
    rw [wK] at h1
    have : listed.toList[j]? = some false := by
     simp [hlt] at h1 ⊢; exact h1
    have h2 := List.count_pos_iff.2 (List.mem_of_getElem? this)
    omega
  exact ⟨hr, Sj hd steps hok hl hfin hQ inv hr⟩
 | fuel + 1, listed, a, w, s, m, inv, hc => by
  refine ⟨fun hr => Sj hd steps hok hl hfin hQ inv hr, fun j hj => ?_⟩
  refine aa9 hd steps hok hl hfin hQ inv hj fun a' w' s' m' arY => LU fuel _ a' w' s' m' arY ?_
  obtain ⟨h1, ⟨o, ho⟩, _⟩ := Il hj inv.size
  have hlt : j < listed.size := by rw [inv.size]; exact (Array.getElem?_eq_some_iff.1 ho).1
  rw [wK] at h1
  have : listed.toList[j]? = some false := by
   simp [hlt] at h1 ⊢; exact h1
  have h2 := count_set this
  have h3 : (listed.setIfInBounds j true).toList = listed.toList.set j true := by simp
  rw [h3]
  omega
end
theorem Ow {R : Type} {P : Program} {Γ : Tab} {c : CF} (hok : BO P Γ c) {an : kW} {n : Nat} {ops : Array Oper} {Q : Exit → Act → World → Prop} {K : Env → St → Option R} {r : R} (hm : P.follows .mixedOrders = true) (hdr : Gh ops = true) {ρ : Env} {st : St} {a : Act} {w : World} {m : Mt} {id : Nat}
  (hl : ∀ o ∈ ops.toList, wH n ops.toList o = true) (he : bR m w ρ a) (hw : bS m st w) (hn : n ≤ a.tmps.size) (hr : fT (real c) Γ an (rQ an true ops.toList 0 ops.toList) ρ st K = some r)
  (hQ : ∀ ρ' st' a' w' m', K ρ' st' = some r → bR m' w' ρ' a' → Ext m w m' w' → bS m' st' w' → n ≤ a'.tmps.size → a'.defers = a.defers → Q .normal a' w') : ∀ (ro : Option Nat), (Code.region id ops true).wpIn (Fw ro) 0 P Q a w := by
 intro ro
 obtain ⟨val, E, S, g1, g2, g3, ρ', g4, g5⟩ := BX ops.toList 0 ρ st hr
 refine wpIn_region_any hm ?_
 have steps : ∀ i o, ops[i]? = some o → Oo Γ an c ops.toList i o (val i) (E i) (E (i + 1)) (S i) (S (i + 1)) := by
  intro i o ho
  have := g3 i o (by simpa using ho)
  simpa using this
 have hx : Ext m w m { w with drawn := w.drawn + 1 } := Ext.same rfl rfl rfl rfl
 refine LU (m0 := m) (w0 := w) (a0 := a) (akq hdr) steps hok hl ⟨ρ', by simpa using g4, by simpa using g5⟩ hQ ops.size _ a _ 0 m ?_ ?_
 ·have hno : ∀ i, ¬ on (Array.replicate ops.size false) i := by
   intro i h
   rw [wK] at h
   have := (Array.getElem?_eq_some_iff.1 h).2
   simp at this
  refine ⟨by simp, fun j i h => absurd h (hno j), Nat.zero_le _, fun i h => by omega, fun b i _ _ h => absurd h (hno i), by rw [g2]; exact hw.same rfl, hx, fun i o d _ _ h => absurd h (hno i), fun t _ => ?_, hn, rfl⟩
  rw [g1 t]
  exact (he t).ext hx
 ·have : ∀ k, (List.replicate k false).count false = k := by intro k; simp
  simp
end Go.X
