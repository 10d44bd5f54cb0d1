/- A table, held against the program by evaluation. -/
import Derived.Test.YtedfkehkcaaplaaXLaw
namespace Go.X
open Go
set_option linter.unusedSectionVars false
set_option linter.unusedSimpArgs false
set_option linter.unusedVariables false
variable [fq]
def agW (P : Program) (f : Field) (q : Nat × Nat × Nat) : Bool :=
 Nat.beq f.offset q.1 && Nat.beq f.type q.2.2 && !(Nat.beq q.2.1 0) && match P.info? f.type with | some i => Nat.beq i.size q.2.1 | none => false
def fieldsB (P : Program) : List Field → List (Nat × Nat × Nat) → Bool
 | [], [] => true
 | f :: fs, q :: qs => agW P f q && fieldsB P fs qs
 | _, _ => false
def tyB (P : Program) (t : Nat) : Ty → Bool
 | .int k => match P.underlying t with | some (.int k') => zS k k' | _ => false
 | .bool => match P.underlying t with | some .bool => true | _ => false
 | .str => match P.underlying t with | some .string => true | _ => false
 | .ptr e => match P.underlying t with | some (.pointer e') => Nat.beq e e' | _ => false
 | .sc => match P.underlying t with | some d => Ab d | _ => false
 | .map k e => match P.underlying t with | some (.map k' e') => Nat.beq k k' && Nat.beq e e' | _ => false
 | .slice e sz bytes => match P.underlying t with
  | some (.slice e') => Nat.beq e e' && Nat.blt 0 sz && Nat.blt 0 bytes && match P.info? e with | some i => Nat.beq i.size sz && Nat.beq i.bytes bytes | none => false
  | _ => false
 | .agg n fs => match P.underlying t with
  | some (.struct fields) => fieldsB P fields.toList fs && match P.info? t with | some i => Nat.beq i.size n | none => false
  | _ => false
 | .array n e => match P.underlying t, P.underlying e, P.info? e with
  | some (.array n' e'), some d, some i => Nat.beq n n' && Nat.beq e e' && Ab d && Nat.beq i.size 1
  | _, _, _ => false
 | .bad => true
theorem beq_eq {a b : Nat} (h : Nat.beq a b = true) : a = b := Nat.eq_of_beq_eq_true h
theorem Ja {P : Program} : ∀ {fs : List Field} {qs : List (Nat × Nat × Nat)}, fieldsB P fs qs = true → fs.length = qs.length ∧
  ∀ (j : Nat) f q, fs[j]? = some f → qs[j]? = some q → f.offset = q.1 ∧ f.type = q.2.2 ∧ q.2.1 ≠ 0 ∧ ∃ i, P.info? f.type = some i ∧ i.size = q.2.1
 | [], [], _ => ⟨rfl, fun j f q h => by simp at h⟩
 | [], _ :: _, h => by simp [fieldsB] at h
 | _ :: _, [], h => by simp [fieldsB] at h
 | f :: fs, q :: qs, h => by
  simp only [fieldsB, Bool.and_eq_true] at h
  obtain ⟨h1, h2⟩ := Ja h.2
  refine ⟨by simp [h1], fun j f' q' hf hq => ?_⟩
  cases j with
  | zero =>
   simp at hf hq
   subst hf; subst hq
   have h3 := h.1
   simp only [agW, Bool.and_eq_true, Bool.not_eq_true'] at h3
   obtain ⟨⟨⟨e1, e2⟩, e3⟩, e4⟩ := h3
   refine ⟨beq_eq e1, beq_eq e2, fun hz => ?_, ?_⟩
   ·rw [hz] at e3; cases e3
   ·split at e4
    ·rename_i i hi; exact ⟨i, hi, beq_eq e4⟩
    ·cases e4
  | succ j => exact h2 j f' q' (by simpa using hf) (by simpa using hq)
theorem agX {P : Program} {Γ : Tab} {t : Nat} (h : tyB P t (Γ.ty t) = true) : oW P Γ t := by
 unfold oW
 generalize Γ.ty t = ty at h ⊢
 cases ty with
 | int k => simp only [tyB] at h ⊢; split at h <;> first | (rename_i e; rw [e, nJ h]; done) | cases h
 | bool => simp only [tyB] at h ⊢; split at h <;> first | (rename_i e; exact e) | cases h
 | str => simp only [tyB] at h ⊢; split at h <;> first | (rename_i e; exact e) | cases h
 | ptr e => simp only [tyB] at h ⊢; split at h <;> first | (rename_i e; rw [e, beq_eq h]; done) | cases h
 | sc => simp only [tyB] at h ⊢; split at h <;> first | (rename_i d e; exact ⟨d, e, h⟩) | cases h
 | map k e =>
  simp only [tyB] at h ⊢
  split at h
  ·rename_i e; simp only [Bool.and_eq_true] at h; rw [e, beq_eq h.1, beq_eq h.2]
  ·cases h
 | slice e sz bytes =>
  simp only [tyB] at h ⊢
  split at h
  ·rename_i e' he
   simp only [Bool.and_eq_true] at h
   obtain ⟨⟨⟨h1, h2⟩, h3⟩, h4⟩ := h
   split at h4
   ·rename_i i hi
    simp only [Bool.and_eq_true] at h4
    exact ⟨by rw [he, beq_eq h1], F6 h2, i, hi, beq_eq h4.1, beq_eq h4.2, F6 h3⟩
   ·cases h4
  ·cases h
 | agg n fs =>
  simp only [tyB] at h ⊢
  split at h
  ·rename_i fields he
   simp only [Bool.and_eq_true] at h
   obtain ⟨h1, h2⟩ := h
   split at h2
   ·rename_i i hi
    obtain ⟨g1, g2⟩ := Ja h1
    exact ⟨fields, he, ⟨i, hi, beq_eq h2⟩, by simpa using g1, fun j f q hf hq => g2 j f q (by simpa using hf) hq⟩
   ·cases h2
  ·cases h
 | array n e =>
  simp only [tyB] at h ⊢
  split at h
  ·rename_i n' e' d i h1 h2 h3
   simp only [Bool.and_eq_true] at h
   obtain ⟨⟨⟨g1, g2⟩, g3⟩, g4⟩ := h
   exact ⟨by rw [h1, beq_eq g1, beq_eq g2], ⟨d, h2, g3⟩, i, h3, beq_eq g4⟩
  ·cases h
 | bad => trivial
def dB : D → Value → Bool
 | .int k n, .int k' n' => zS k k' && n == n'
 | .bool b, .bool b' => b == b'
 | .str s, .string s' => s.size == 0 && s'.size == 0
 | .sj, .pointer none => true
 | .Cz, .map none => true
 | .eu, .nilFunc => true
 | .sl [] (some []), .slice none 0 0 => true
 | _, _ => false
def dsB : List D → List Value → Bool
 | [], [] => true
 | d :: r, v :: s => dB d v && dsB r s
 | _, _ => false
theorem Tv {s : ByteArray} (h : s.size = 0) : s = ByteArray.empty := by
 apply ByteArray.ext
 apply Array.ext'
 have : s.data.toList.length = 0 := by
  have : s.data.size = 0 := h
  simpa using this
 simp [List.eq_nil_of_length_eq_zero this]
theorem ami {d : D} {v : Value} (h : dB d v = true) (cl : Nat → Nat) (w : World) : bT cl w d v := by
 unfold dB at h
 split at h
 ·simp only [Bool.and_eq_true, beq_iff_eq] at h
  obtain ⟨h1, rfl⟩ := h
  simp only [bT]; rw [nJ h1]
 ·simp only [beq_iff_eq] at h; subst h; simp only [bT]
 ·simp only [Bool.and_eq_true, beq_iff_eq] at h
  simp only [bT]; rw [Tv h.1, Tv h.2]
 ·simp only [bT]
 ·simp only [bT]
 ·simp only [bT]
 ·simp only [bT]; exact .inl ⟨⟨none, rfl⟩, trivial, by simp⟩
 ·cases h
theorem X9 : ∀ {l : List D} {vs : List Value}, dsB l vs = true → ∀ (cl : Nat → Nat) (w : World), dZ cl w l vs
 | [], [], _, _, _ => rfl
 | [], _ :: _, h, _, _ => by simp [dsB] at h
 | _ :: _, [], h, _, _ => by simp [dsB] at h
 | d :: r, v :: s, h, cl, w => by
  simp only [dsB, Bool.and_eq_true] at h
  exact ⟨v, s, rfl, ami h.1 cl w, X9 h.2 cl w⟩
def UR : Value → Bool
 | .agg _ => true
 | _ => false
def ac4 (P : Program) (t : Nat) (ty : Ty) (z : List D) : Bool :=
 match z with
 | [] => match ty with
  | .agg 0 _ => match P.info? t with
   | some i => match i.zero with | some (.agg cs) => cs.size == 0 | _ => false
   | none => false
  | _ => true
 | _ => match P.info? t with
  | some i => match i.zero with
   | some v => Nat.beq i.size z.length && Nat.beq v.cells.toList.length z.length && dsB z v.cells.toList && (match ty with | .agg n _ => UR v && Nat.beq z.length n | _ => !UR v)
   | none => false
  | none => false
theorem Ow {P : Program} {Γ : Tab} {t : Nat} (h : ac4 P t (Γ.ty t) (Γ.zero t) = true) : agd P Γ t ∧ ∀ fs, Γ.ty t = .agg 0 fs → ∃ i, P.info? t = some i ∧ i.zero = some (.agg #[]) := by
 unfold ac4 at h
 split at h
 ·rename_i hz
  refine ⟨fun hne => absurd hz hne, fun fs hty => ?_⟩
  rw [hty] at h
  have h' : (match P.info? t with
   | some i => match i.zero with | some (.agg cs) => cs.size == 0 | _ => false
   | none => false) = true := h
  split at h'
  ·rename_i i hi
   split at h'
   ·rename_i cs hcs
    simp only [beq_iff_eq] at h'
    exact ⟨i, hi, by rw [hcs, Array.eq_empty_of_size_eq_zero h']⟩
   ·cases h'
  ·cases h'
 ·rename_i hz
  split at h
  ·rename_i i hi
   split at h
   ·rename_i v hv
    simp only [Bool.and_eq_true] at h
    obtain ⟨⟨⟨h1, h2⟩, h3⟩, h4⟩ := h
    have e1 := beq_eq h1
    have e2 := beq_eq h2
    have key : (match Γ.ty t with | .agg n _ => v = .agg v.cells ∧ (Γ.zero t).length = n | _ => v.cells = #[v]) := by
     split at h4
     ·rename_i n fs hty
      simp only [Bool.and_eq_true] at h4
      refine ⟨?_, beq_eq h4.2⟩
      cases v <;> simp [UR] at h4 <;> rfl
     ·rename_i hty
      have : v.cells = #[v] := by cases v <;> simp [UR] at h4 <;> rfl
      exact this
    refine ⟨fun _ => ⟨i, v, hi, hv, e1, by rw [e2, e1], fun cl w => X9 h3 cl w, key⟩, fun fs hty => ?_⟩
    rw [hty] at h4
    simp only [Bool.and_eq_true] at h4
    have := beq_eq h4.2
    exact absurd (List.eq_nil_of_length_eq_zero this) hz
   ·cases h
  ·cases h
def ac5 : Nat → List Field → Bool
 | _, [] => true
 | k, f :: r => (Nat.beq f.offset k && !(f.name == "_")) && ac5 (k + 1) r
theorem Ox : ∀ (l : List Field) (k : Nat), ac5 k l = true → ∀ (j : Nat) f, l[j]? = some f → f.offset = k + j ∧ f.name ≠ "_"
 | [], _, _, j, f, h => by simp at h
 | g :: r, k, hb, j, f, h => by
  simp only [ac5, Bool.and_eq_true, Bool.not_eq_true', beq_eq_false_iff_ne] at hb
  cases j with
  | zero =>
   simp only [List.getElem?_cons_zero, Option.some.injEq] at h
   subst h
   exact ⟨beq_eq hb.1.1, hb.1.2⟩
  | succ j =>
   have := Ox r (k + 1) hb.2 j f (by simpa using h)
   exact ⟨by omega, this.2⟩
def eqB (P : Program) (t : Nat) (b : Bool) : Bool := !b || (match P.underlying t with
 | some (.struct fs) => (!(P.stoodInHeld t) && !(P.eqGuardType P.depth t)) && ac5 0 fs.toList
 | _ => false)
theorem agY {P : Program} {t : Nat} {b : Bool} (h : eqB P t b = true) (hb : b = true) : agf P t := by
 subst hb
 unfold eqB at h
 simp only [Bool.not_true, Bool.false_or] at h
 split at h
 ·rename_i fs hu
  simp only [Bool.and_eq_true, Bool.not_eq_true'] at h
  have ef : P.fieldsOf t = fs := by unfold Program.fieldsOf; rw [hu]
  exact ⟨by rw [ef]; exact hu, h.1.1, h.1.2, fun j f hj => by
   rw [ef] at hj
   have := Ox fs.toList 0 h.2 j f hj
   exact ⟨by omega, this.2⟩⟩
 ·cases h
def ay5 (P : Program) (Γ : Tab) (n : Nat) : Bool := (List.range n).all fun t => (tyB P t (Γ.ty t) && ac4 P t (Γ.ty t) (Γ.zero t)) && eqB P t (Γ.eqs t)
theorem arR {P : Program} {Γ : Tab} {n : Nat} (h : ay5 P Γ n = true) (hty : ∀ t, n ≤ t → Γ.ty t = .bad) (hz : ∀ t, n ≤ t → Γ.zero t = []) (he : ∀ t, n ≤ t → Γ.eqs t = false) : fA P Γ := by
 have key : ∀ t, (tyB P t (Γ.ty t) = true ∧ ac4 P t (Γ.ty t) (Γ.zero t) = true) ∧ eqB P t (Γ.eqs t) = true := by
  intro t
  rcases Nat.lt_or_ge t n with ht | ht
  ·have := List.all_eq_true.1 h t (List.mem_range.2 ht)
   simpa only [Bool.and_eq_true] using this
  ·rw [hty t ht, hz t ht, he t ht]; exact ⟨⟨rfl, rfl⟩, rfl⟩
 exact ⟨fun t => agX (key t).1.1, fun t => (Ow (key t).1.2).1, fun t => agY (key t).2, fun t fs hty => (Ow (key t).1.2).2 fs hty⟩
def Jb : List (Nat × Func) → Nat → Option Func
 | [], _ => none
 | (k, f) :: r, t => bif Nat.beq k t then some f else Jb r t
theorem KX {P : Program} : ∀ {l : List (Nat × Func)}, (∀ p ∈ l, P.funcs[p.1]? = some p.2 ∧ agR p.2 = true) → ∀ f fn, Jb l f = some fn → P.funcs[f]? = some fn ∧ agR fn = true
 | [], _, f, fn, h => by simp [Jb] at h
 | (k, g) :: r, hl, f, fn, h => by
  simp only [Jb] at h
  cases hb : Nat.beq k f with
  | true =>
   rw [hb] at h
   simp only [cond_true, Option.some.injEq] at h
   subst h
   have := hl (k, g) (by simp)
   rw [← beq_eq hb]; exact this
  | false =>
   rw [hb] at h
   exact KX (fun p hp => hl p (by simp [hp])) f fn h
def Jc : Code → List (Operand × Array Tmp × Code × Code)
 | .seq a b => Jc a ++ Jc b
 | .cond _ a b => Jc a ++ Jc b
 | .block _ a => Jc a
 | .loop a => Jc a
 | .rangeFunc g ps a b => [(g, ps, a, b)]
 | _ => []
def MK (own : Nat) (fn : Func) (j : Nat) : Option Site := match fn.body with
 | some co => match (Jc co)[j]? with
  | some x => some { own, n := fn.ntmps, ps := x.2.1.toList, RX := x.2.2.1, body := x.2.2.2 }
  | none => none
 | none => none
def uP (F : List (Nat × Func)) : List (Nat × Nat × Nat) → Nat → Option Site
 | [], _ => none
 | (k, own, j) :: r, g => bif Nat.beq k g then (match Jb F own with | some fn => MK own fn j | none => none) else uP F r g
def hits : List (Nat × Nat × Nat) → Nat → Nat → Nat → Bool
 | [], _, _, _ => false
 | (k, own, i) :: r, g, f, j => bif Nat.beq k g then Nat.beq own f && Nat.beq i j else hits r g f j
def ac6 (L : List (Nat × Nat × Nat)) (f : Nat) (an : mH) : Nat → List (Operand × Array Tmp × Code × Code) → Bool
 | _, [] => true
 | j, x :: r => (match x.1 with | .tmp t => hits L (an.site t) f j | _ => false) && ac6 L f an (j + 1) r
def arS (L : List (Nat × Nat × Nat)) (f : Nat) (an : mH) (fn : Func) : Bool := match fn.body with
 | some co => ac6 L f an 0 (Jc co)
 | none => true
theorem Tw {F : List (Nat × Func)} {f j : Nat} {fn : Func} (hf : Jb F f = some fn) : ∀ {L : List (Nat × Nat × Nat)} {g : Nat}, hits L g f j = true → uP F L g = MK f fn j
 | [], g, h => by simp [hits] at h
 | (k, own, i) :: r, g, h => by
  simp only [hits, uP] at h ⊢
  cases hb : Nat.beq k g with
  | true =>
   rw [hb] at h
   simp only [cond_true, Bool.and_eq_true] at h ⊢
   rw [beq_eq h.1, beq_eq h.2, hf]
  | false =>
   rw [hb] at h
   exact Tw hf h
theorem Oy {L : List (Nat × Nat × Nat)} {f : Nat} {an : mH} : ∀ {l : List (Operand × Array Tmp × Code × Code)} {j : Nat}, ac6 L f an j l = true → ∀ i x, l[i]? = some x → ∃ t, x.1 = .tmp t ∧ hits L (an.site t) f (j + i) = true
 | [], _, _, i, x, h => by simp at h
 | y :: r, j, hr, i, x, h => by
  simp only [ac6, Bool.and_eq_true] at hr
  cases i with
  | zero =>
   simp only [List.getElem?_cons_zero, Option.some.injEq] at h
   subst h
   have h1 := hr.1
   split at h1
   ·rename_i t ht; exact ⟨t, ht, h1⟩
   ·cases h1
  | succ i =>
   obtain ⟨t, h1, h2⟩ := Oy hr.2 i x (by simpa using h)
   exact ⟨t, h1, by rw [show j + (i + 1) = j + 1 + i by omega]; exact h2⟩
theorem afH {an : mH} {n : Nat} : ∀ {co : Code}, (∀ x ∈ Jc co, ∃ t q, x.1 = .tmp t ∧ fq.site (an.site t) = some q ∧ q.n ≤ n ∧ q.ps = x.2.1.toList ∧ q.RX = x.2.2.1 ∧ q.body = x.2.2.2) → mK an n co := by
 intro co
 induction co with
 | seq a b iha ihb => intro h; exact ⟨iha fun x hx => h x (by simp [Jc, hx]), ihb fun x hx => h x (by simp [Jc, hx])⟩
 | cond c a b iha ihb => intro h; exact ⟨iha fun x hx => h x (by simp [Jc, hx]), ihb fun x hx => h x (by simp [Jc, hx])⟩
 | block id a iha => intro h; exact iha h
 | loop a iha => intro h; exact iha h
 | rangeFunc g ps a b => intro h; exact h (g, ps, a, b) (by simp [Jc])
 | _ => intro _; simp only [mK]
theorem agZ {F : List (Nat × Func)} {L : List (Nat × Nat × Nat)} (hI : ∀ g, fq.site g = uP F L g) {f : Nat} {fn : Func} {co : Code} {an : mH} (hf : Jb F f = some fn) (hb : fn.body = some co) (h : arS L f an fn = true) : mK an fn.ntmps co := by
 unfold arS at h
 rw [hb] at h
 refine afH fun x hx => ?_
 obtain ⟨j, hj⟩ := List.mem_iff_getElem?.1 hx
 obtain ⟨t, h1, h2⟩ := Oy h j x hj
 rw [Nat.zero_add] at h2
 refine ⟨t, _, h1, (hI _).trans ((Tw hf h2).trans (by unfold MK; rw [hb]; simp only [hj]; rfl)), Nat.le_refl _, rfl, rfl, rfl⟩
def ag0 (fn : Func) : Bool := match fn.body with
 | some co => sZ co
 | none => true
theorem Am {F : List (Nat × Func)} {L : List (Nat × Nat × Nat)} {Γ : Tab} (hI : ∀ g, fq.site g = uP F L g) : ∀ {l : List (Nat × Func)}, (∀ p ∈ l, ag0 p.2 = true ∨ (Jb F p.1 = some p.2 ∧ arS L p.1 (Γ.ann p.1) p.2 = true)) →
  ∀ f fn co, Jb l f = some fn → fn.body = some co → mK (Γ.ann f) fn.ntmps co
 | [], _, f, fn, co, h, _ => by simp [Jb] at h
 | (k, g) :: r, hl, f, fn, co, h, hb => by
  simp only [Jb] at h
  cases hk : Nat.beq k f with
  | true =>
   rw [hk] at h
   simp only [cond_true, Option.some.injEq] at h
   subst h
   rw [← beq_eq hk]
   rcases hl (k, g) (by simp) with h1 | ⟨h1, h2⟩
   ·unfold ag0 at h1
    simp only [hb] at h1
    exact F4 h1
   ·exact agZ hI h1 hb h2
  | false =>
   rw [hk] at h
   exact Am hI (fun p hp => hl p (by simp [hp])) f fn co h hb
def ag1 (F : List (Nat × Func)) (p : Nat × Nat × Nat) : Bool := match Jb F p.2.1 with
 | some fn => match MK p.2.1 fn p.2.2 with
  | some q => Oj q
  | none => true
 | none => true
theorem Fb {S : Sys} {F : List (Nat × Func)} : ∀ {L : List (Nat × Nat × Nat)}, (∀ p ∈ L, S.fn p.1 = none ∧ S.foreign p.1 = none ∧ ag1 F p = true) → ∀ g q, uP F L g = some q → S.fn g = none ∧ S.foreign g = none ∧ Oj q = true
 | [], _, g, q, h => by simp [uP] at h
 | (k, own, j) :: r, hl, g, q, h => by
  simp only [uP] at h
  cases hk : Nat.beq k g with
  | true =>
   rw [hk] at h
   simp only [cond_true] at h
   obtain ⟨h1, h2, h3⟩ := hl (k, own, j) (by simp)
   rw [← beq_eq hk]
   refine ⟨h1, h2, ?_⟩
   unfold ag1 at h3
   split at h
   ·rename_i fn hfn
    simp only [hfn] at h3
    rw [h] at h3
    exact h3
   ·cases h
  | false =>
   rw [hk] at h
   exact Fb (fun p hp => hl p (by simp [hp])) g q h
end Go.X
