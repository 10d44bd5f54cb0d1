/- T -/
import Derived.Test.YtedfkehkcaaplaaXLaw
namespace Go.X
open Go
set_option linter.unusedVariables false
variable [bY]
def TS (P : Program) (f : Field) (q : Nat × Nat × Nat) : Bool :=
 Nat.beq f.offset q.1 && Nat.beq f.type q.2.2 && !(Nat.beq q.2.1 0) && match P.info? f.type with | some i => Nat.beq i.size q.2.1 | none => false
def fieldsB (P : Program) : List Field → List (Nat × Nat × Nat) → Bool
 | [], [] => true
 | f :: fs, q :: qs => TS P f q && fieldsB P fs qs
 | _, _ => false
def Si (P : Program) (t : Nat) : Ty → Bool
 | .int k => match P.underlying t with | some (.int k') => rH k k' | _ => false
 | .bool => match P.underlying t with | some .bool => true | _ => false
 | .str => match P.underlying t with | some .string => true | _ => false
 | .ptr e => match P.underlying t with | some (.pointer e') => Nat.beq e e' | _ => false
 | .sc => match P.underlying t with | some d => rU d | _ => false
 | .map k e => match P.underlying t with | some (.map k' e') => Nat.beq k k' && Nat.beq e e' | _ => false
 | .slice e sz bytes => match P.underlying t with
  | some (.slice e') => Nat.beq e e' && Nat.blt 0 sz && Nat.blt 0 bytes && match P.info? e with | some i => Nat.beq i.size sz && Nat.beq i.bytes bytes | none => false
  | _ => false
 | .agg n fs => match P.underlying t with
  | some (.struct fields) => fieldsB P fields.toList fs && match P.info? t with | some i => Nat.beq i.size n | none => false
  | _ => false
 | .array n e => match P.underlying t, P.underlying e, P.info? e with
  | some (.array n' e'), some d, some i => Nat.beq n n' && Nat.beq e e' && rU d && Nat.beq i.size 1
  | _, _, _ => false
 | .bad => true
theorem beq_eq {a b : Nat} (h : Nat.beq a b = true) : a = b := Nat.eq_of_beq_eq_true h
theorem yM {P : Program} : ∀ {fs : List Field} {qs : List (Nat × Nat × Nat)}, fieldsB P fs qs = true → fs.length = qs.length ∧
  ∀ (j : Nat) f q, fs[j]? = some f → qs[j]? = some q → f.offset = q.1 ∧ f.type = q.2.2 ∧ q.2.1 ≠ 0 ∧ ∃ i, P.info? f.type = some i ∧ i.size = q.2.1
 | [], [], _ => ⟨rfl, fun j f q h => by simp at h⟩
 | [], _ :: _, h => by simp [fieldsB] at h
 | _ :: _, [], h => by simp [fieldsB] at h
 | f :: fs, q :: qs, h => by
  simp only [fieldsB, Bool.and_eq_true] at h
  obtain ⟨h1, h2⟩ := yM h.2
  refine ⟨by simp [h1], fun j f' q' hf hq => ?_⟩
  cases j with
  | zero =>
   simp at hf hq
   subst hf; subst hq
   have h3 := h.1
   simp only [TS, Bool.and_eq_true, Bool.not_eq_true'] at h3
   obtain ⟨⟨⟨e1, e2⟩, e3⟩, e4⟩ := h3
   refine ⟨beq_eq e1, beq_eq e2, fun hz => ?_, ?_⟩
   ·rw [hz] at e3; cases e3
   ·split at e4
    ·rename_i i hi; exact ⟨i, hi, beq_eq e4⟩
    ·cases e4
  | succ j => exact h2 j f' q' (by simpa using hf) (by simpa using hq)
theorem TT {P : Program} {Γ : Tab} {t : Nat} (h : Si P t (Γ.ty t) = true) : kD P Γ t := by
 unfold kD
 generalize Γ.ty t = ty at h ⊢
 cases ty with
 | int k => simp only [Si] at h ⊢; split at h <;> first | (rename_i e; rw [e, jr h]; done) | cases h
 | bool => simp only [Si] at h ⊢; split at h <;> first | (rename_i e; exact e) | cases h
 | str => simp only [Si] at h ⊢; split at h <;> first | (rename_i e; exact e) | cases h
 | ptr e => simp only [Si] at h ⊢; split at h <;> first | (rename_i e; rw [e, beq_eq h]; done) | cases h
 | sc => simp only [Si] at h ⊢; split at h <;> first | (rename_i d e; exact ⟨d, e, h⟩) | cases h
 | map k e =>
  simp only [Si] at h ⊢
  split at h
  ·rename_i e; simp only [Bool.and_eq_true] at h; rw [e, beq_eq h.1, beq_eq h.2]
  ·cases h
 | slice e sz bytes =>
  simp only [Si] at h ⊢
  split at h
  ·rename_i e' he
   simp only [Bool.and_eq_true] at h
   obtain ⟨⟨⟨h1, h2⟩, h3⟩, h4⟩ := h
   split at h4
   ·rename_i i hi
    simp only [Bool.and_eq_true] at h4
    exact ⟨by rw [he, beq_eq h1], sF h2, i, hi, beq_eq h4.1, beq_eq h4.2, sF h3⟩
   ·cases h4
  ·cases h
 | agg n fs =>
  simp only [Si] at h ⊢
  split at h
  ·rename_i fields he
   simp only [Bool.and_eq_true] at h
   obtain ⟨h1, h2⟩ := h
   split at h2
   ·rename_i i hi
    obtain ⟨g1, g2⟩ := yM h1
    exact ⟨fields, he, ⟨i, hi, beq_eq h2⟩, by simpa using g1, fun j f q hf hq => g2 j f q (by simpa using hf) hq⟩
   ·cases h2
  ·cases h
 | array n e =>
  simp only [Si] at h ⊢
  split at h
  ·rename_i n' e' d i h1 h2 h3
   simp only [Bool.and_eq_true] at h
   obtain ⟨⟨⟨g1, g2⟩, g3⟩, g4⟩ := h
   exact ⟨by rw [h1, beq_eq g1, beq_eq g2], ⟨d, h2, g3⟩, i, h3, beq_eq g4⟩
  ·cases h
 | bad => trivial
def dB : D → Value → Bool
 | .int k n, .int k' n' => rH k k' && n == n'
 | .bool b, .bool b' => b == b'
 | .str s, .string s' => s.size == 0 && s'.size == 0
 | .mO, .pointer none => true
 | .tq, .map none => true
 | .bT, .nilFunc => true
 | .sl [] (some []), .slice none 0 0 => true
 | _, _ => false
def dsB : List D → List Value → Bool
 | [], [] => true
 | d :: r, v :: s => dB d v && dsB r s
 | _, _ => false
theorem Gi {s : ByteArray} (h : s.size = 0) : s = ByteArray.empty := by
 apply ByteArray.ext
 apply Array.ext'
 have : s.data.toList.length = 0 := by
  have : s.data.size = 0 := h
  simpa using this
 simp [List.eq_nil_of_length_eq_zero this]
theorem XW {d : D} {v : Value} (h : dB d v = true) (cl : Nat → Nat) (w : World) : aZ cl w d v := by
 unfold dB at h
 split at h
 ·simp only [Bool.and_eq_true, beq_iff_eq] at h
  obtain ⟨h1, rfl⟩ := h
  simp only [aZ]; rw [jr h1]
 ·simp only [beq_iff_eq] at h; subst h; simp only [aZ]
 ·simp only [Bool.and_eq_true, beq_iff_eq] at h
  simp only [aZ]; rw [Gi h.1, Gi h.2]
 ·simp only [aZ]
 ·simp only [aZ]
 ·simp only [aZ]
 ·simp only [aZ]; exact .inl ⟨⟨none, rfl⟩, trivial, by simp⟩
 ·cases h
theorem La : ∀ {l : List D} {vs : List Value}, dsB l vs = true → ∀ (cl : Nat → Nat) (w : World), bR cl w l vs
 | [], [], _, _, _ => rfl
 | [], _ :: _, h, _, _ => by simp [dsB] at h
 | _ :: _, [], h, _, _ => by simp [dsB] at h
 | d :: r, v :: s, h, cl, w => by
  simp only [dsB, Bool.and_eq_true] at h
  exact ⟨v, s, rfl, XW h.1 cl w, La h.2 cl w⟩
def IG : Value → Bool
 | .agg _ => true
 | _ => false
def PE (P : Program) (t : Nat) (ty : Ty) (z : List D) : Bool :=
 match z with
 | [] => match ty with
  | .agg 0 _ => match P.info? t with
   | some i => match i.zero with | some (.agg cs) => cs.size == 0 | _ => false
   | none => false
  | _ => true
 | _ => match P.info? t with
  | some i => match i.zero with
   | some v => Nat.beq i.size z.length && Nat.beq v.cells.toList.length z.length && dsB z v.cells.toList && (match ty with | .agg n _ => IG v && Nat.beq z.length n | _ => !IG v)
   | none => false
  | none => false
theorem Dj {P : Program} {Γ : Tab} {t : Nat} (h : PE P t (Γ.ty t) (Γ.zero t) = true) : SH P Γ t ∧ ∀ fs, Γ.ty t = .agg 0 fs → ∃ i, P.info? t = some i ∧ i.zero = some (.agg #[]) := by
 unfold PE at h
 split at h
 ·rename_i hz
  refine ⟨fun hne => absurd hz hne, fun fs hty => ?_⟩
  rw [hty] at h
  have h' : (match P.info? t with
   | some i => match i.zero with | some (.agg cs) => cs.size == 0 | _ => false
   | none => false) = true := h
  split at h'
  ·rename_i i hi
   split at h'
   ·rename_i cs hcs
    simp only [beq_iff_eq] at h'
    exact ⟨i, hi, by rw [hcs, Array.eq_empty_of_size_eq_zero h']⟩
   ·cases h'
  ·cases h'
 ·rename_i hz
  split at h
  ·rename_i i hi
   split at h
   ·rename_i v hv
    simp only [Bool.and_eq_true] at h
    obtain ⟨⟨⟨h1, h2⟩, h3⟩, h4⟩ := h
    have e1 := beq_eq h1
    have e2 := beq_eq h2
    have key : (match Γ.ty t with | .agg n _ => v = .agg v.cells ∧ (Γ.zero t).length = n | _ => v.cells = #[v]) := by
     split at h4
     ·rename_i n fs hty
      simp only [Bool.and_eq_true] at h4
      refine ⟨?_, beq_eq h4.2⟩
      cases v <;> simp [IG] at h4 <;> rfl
     ·rename_i hty
      have : v.cells = #[v] := by cases v <;> simp [IG] at h4 <;> rfl
      exact this
    refine ⟨fun _ => ⟨i, v, hi, hv, e1, by rw [e2, e1], fun cl w => La h3 cl w, key⟩, fun fs hty => ?_⟩
    rw [hty] at h4
    simp only [Bool.and_eq_true] at h4
    have := beq_eq h4.2
    exact absurd (List.eq_nil_of_length_eq_zero this) hz
   ·cases h
  ·cases h
def PG : Nat → List Field → Bool
 | _, [] => true
 | k, f :: r => (Nat.beq f.offset k && !(f.name == "_")) && PG (k + 1) r
theorem Dk : ∀ (l : List Field) (k : Nat), PG k l = true → ∀ (j : Nat) f, l[j]? = some f → f.offset = k + j ∧ f.name ≠ "_"
 | [], _, _, j, f, h => by simp at h
 | g :: r, k, hb, j, f, h => by
  simp only [PG, Bool.and_eq_true, Bool.not_eq_true', beq_eq_false_iff_ne] at hb
  cases j with
  | zero =>
   simp only [List.getElem?_cons_zero, Option.some.injEq] at h
   subst h
   exact ⟨beq_eq hb.1.1, hb.1.2⟩
  | succ j =>
   have := Dk r (k + 1) hb.2 j f (by simpa using h)
   exact ⟨by omega, this.2⟩
def eqB (P : Program) (t : Nat) (b : Bool) : Bool := !b || (match P.underlying t with
 | some (.struct fs) => (!(P.stoodInHeld t) && !(P.eqGuardType P.depth t)) && PG 0 fs.toList
 | _ => false)
theorem TU {P : Program} {t : Nat} {b : Bool} (h : eqB P t b = true) (hb : b = true) : SI P t := by
 subst hb
 unfold eqB at h
 simp only [Bool.not_true, Bool.false_or] at h
 split at h
 ·rename_i fs hu
  simp only [Bool.and_eq_true, Bool.not_eq_true'] at h
  have ef : P.fieldsOf t = fs := by unfold Program.fieldsOf; rw [hu]
  exact ⟨by rw [ef]; exact hu, h.1.1, h.1.2, fun j f hj => by
   rw [ef] at hj
   have := Dk fs.toList 0 h.2 j f hj
   exact ⟨by omega, this.2⟩⟩
 ·cases h
def agR (P : Program) (Γ : Tab) (n : Nat) : Bool := (List.range n).all fun t => (Si P t (Γ.ty t) && PE P t (Γ.ty t) (Γ.zero t)) && eqB P t (Γ.eqs t)
theorem abQ {P : Program} {Γ : Tab} {n : Nat} (h : agR P Γ n = true) (hty : ∀ t, n ≤ t → Γ.ty t = .bad) (hz : ∀ t, n ≤ t → Γ.zero t = []) (he : ∀ t, n ≤ t → Γ.eqs t = false) : cZ P Γ := by
 have key : ∀ t, (Si P t (Γ.ty t) = true ∧ PE P t (Γ.ty t) (Γ.zero t) = true) ∧ eqB P t (Γ.eqs t) = true := by
  intro t
  rcases Nat.lt_or_ge t n with ht | ht
  ·have := List.all_eq_true.1 h t (List.mem_range.2 ht)
   simpa only [Bool.and_eq_true] using this
  ·rw [hty t ht, hz t ht, he t ht]; exact ⟨⟨rfl, rfl⟩, rfl⟩
 exact ⟨fun t => TT (key t).1.1, fun t => (Dj (key t).1.2).1, fun t => TU (key t).2, fun t fs hty => (Dj (key t).1.2).2 fs hty⟩
def yN : List (Nat × Func) → Nat → Option Func
 | [], _ => none
 | (k, f) :: r, t => bif Nat.beq k t then some f else yN r t
theorem zL {P : Program} : ∀ {l : List (Nat × Func)}, (∀ p ∈ l, P.funcs[p.1]? = some p.2 ∧ TM p.2 = true) → ∀ f fn, yN l f = some fn → P.funcs[f]? = some fn ∧ TM fn = true
 | [], _, f, fn, h => by simp [yN] at h
 | (k, g) :: r, hl, f, fn, h => by
  simp only [yN] at h
  cases hb : Nat.beq k f with
  | true =>
   rw [hb] at h
   simp only [cond_true, Option.some.injEq] at h
   subst h
   have := hl (k, g) (by simp)
   rw [← beq_eq hb]; exact this
  | false =>
   rw [hb] at h
   exact zL (fun p hp => hl p (by simp [hp])) f fn h
def yO : Code → List (Operand × Array Tmp × Code × Code)
 | .seq a b => yO a ++ yO b
 | .cond _ a b => yO a ++ yO b
 | .block _ a => yO a
 | .loop a => yO a
 | .rangeFunc g ps a b => [(g, ps, a, b)]
 | _ => []
def BF (own : Nat) (fn : Func) (j : Nat) : Option Site := match fn.body with
 | some co => match (yO co)[j]? with
  | some x => some { own, n := fn.ntmps, ps := x.2.1.toList, BS := x.2.2.1, body := x.2.2.2 }
  | none => none
 | none => none
def nU (F : List (Nat × Func)) : List (Nat × Nat × Nat) → Nat → Option Site
 | [], _ => none
 | (k, own, j) :: r, g => bif Nat.beq k g then (match yN F own with | some fn => BF own fn j | none => none) else nU F r g
def hits : List (Nat × Nat × Nat) → Nat → Nat → Nat → Bool
 | [], _, _, _ => false
 | (k, own, i) :: r, g, f, j => bif Nat.beq k g then Nat.beq own f && Nat.beq i j else hits r g f j
def PI (L : List (Nat × Nat × Nat)) (f : Nat) (an : iG) : Nat → List (Operand × Array Tmp × Code × Code) → Bool
 | _, [] => true
 | j, x :: r => (match x.1 with | .tmp t => hits L (an.site t) f j | _ => false) && PI L f an (j + 1) r
def abR (L : List (Nat × Nat × Nat)) (f : Nat) (an : iG) (fn : Func) : Bool := match fn.body with
 | some co => PI L f an 0 (yO co)
 | none => true
theorem Gj {F : List (Nat × Func)} {f j : Nat} {fn : Func} (hf : yN F f = some fn) : ∀ {L : List (Nat × Nat × Nat)} {g : Nat}, hits L g f j = true → nU F L g = BF f fn j
 | [], g, h => by simp [hits] at h
 | (k, own, i) :: r, g, h => by
  simp only [hits, nU] at h ⊢
  cases hb : Nat.beq k g with
  | true =>
   rw [hb] at h
   simp only [cond_true, Bool.and_eq_true] at h ⊢
   rw [beq_eq h.1, beq_eq h.2, hf]
  | false =>
   rw [hb] at h
   exact Gj hf h
theorem Dl {L : List (Nat × Nat × Nat)} {f : Nat} {an : iG} : ∀ {l : List (Operand × Array Tmp × Code × Code)} {j : Nat}, PI L f an j l = true → ∀ i x, l[i]? = some x → ∃ t, x.1 = .tmp t ∧ hits L (an.site t) f (j + i) = true
 | [], _, _, i, x, h => by simp at h
 | y :: r, j, hr, i, x, h => by
  simp only [PI, Bool.and_eq_true] at hr
  cases i with
  | zero =>
   simp only [List.getElem?_cons_zero, Option.some.injEq] at h
   subst h
   have h1 := hr.1
   split at h1
   ·rename_i t ht; exact ⟨t, ht, h1⟩
   ·cases h1
  | succ i =>
   obtain ⟨t, h1, h2⟩ := Dl hr.2 i x (by simpa using h)
   exact ⟨t, h1, by rw [show j + (i + 1) = j + 1 + i by omega]; exact h2⟩
theorem Ry {an : iG} {n : Nat} : ∀ {co : Code}, (∀ x ∈ yO co, ∃ t q, x.1 = .tmp t ∧ bY.site (an.site t) = some q ∧ q.n ≤ n ∧ q.ps = x.2.1.toList ∧ q.BS = x.2.2.1 ∧ q.body = x.2.2.2) → iU an n co := by
 intro co
 induction co with
 | seq a b iha ihb => intro h; exact ⟨iha fun x hx => h x (by simp [yO, hx]), ihb fun x hx => h x (by simp [yO, hx])⟩
 | cond c a b iha ihb => intro h; exact ⟨iha fun x hx => h x (by simp [yO, hx]), ihb fun x hx => h x (by simp [yO, hx])⟩
 | block id a iha => intro h; exact iha h
 | loop a iha => intro h; exact iha h
 | rangeFunc g ps a b => intro h; exact h (g, ps, a, b) (by simp [yO])
 | _ => intro _; simp only [iU]
theorem TV {F : List (Nat × Func)} {L : List (Nat × Nat × Nat)} (hI : ∀ g, bY.site g = nU F L g) {f : Nat} {fn : Func} {co : Code} {an : iG} (hf : yN F f = some fn) (hb : fn.body = some co) (h : abR L f an fn = true) : iU an fn.ntmps co := by
 unfold abR at h
 rw [hb] at h
 refine Ry fun x hx => ?_
 obtain ⟨j, hj⟩ := List.mem_iff_getElem?.1 hx
 obtain ⟨t, h1, h2⟩ := Dl h j x hj
 rw [Nat.zero_add] at h2
 refine ⟨t, _, h1, (hI _).trans ((Gj hf h2).trans (by unfold BF; rw [hb]; simp only [hj]; rfl)), Nat.le_refl _, rfl, rfl, rfl⟩
def TW (fn : Func) : Bool := match fn.body with
 | some co => nD co
 | none => true
theorem sI {F : List (Nat × Func)} {L : List (Nat × Nat × Nat)} {Γ : Tab} (hI : ∀ g, bY.site g = nU F L g) : ∀ {l : List (Nat × Func)}, (∀ p ∈ l, TW p.2 = true ∨ (yN F p.1 = some p.2 ∧ abR L p.1 (Γ.ann p.1) p.2 = true)) →
  ∀ f fn co, yN l f = some fn → fn.body = some co → iU (Γ.ann f) fn.ntmps co
 | [], _, f, fn, co, h, _ => by simp [yN] at h
 | (k, g) :: r, hl, f, fn, co, h, hb => by
  simp only [yN] at h
  cases hk : Nat.beq k f with
  | true =>
   rw [hk] at h
   simp only [cond_true, Option.some.injEq] at h
   subst h
   rw [← beq_eq hk]
   rcases hl (k, g) (by simp) with h1 | ⟨h1, h2⟩
   ·unfold TW at h1
    simp only [hb] at h1
    exact wP h1
   ·exact TV hI h1 hb h2
  | false =>
   rw [hk] at h
   exact sI hI (fun p hp => hl p (by simp [hp])) f fn co h hb
def TY (F : List (Nat × Func)) (p : Nat × Nat × Nat) : Bool := match yN F p.2.1 with
 | some fn => match BF p.2.1 fn p.2.2 with
  | some q => CZ q
  | none => true
 | none => true
theorem vN {S : Sys} {F : List (Nat × Func)} : ∀ {L : List (Nat × Nat × Nat)}, (∀ p ∈ L, S.fn p.1 = none ∧ S.foreign p.1 = none ∧ TY F p = true) → ∀ g q, nU F L g = some q → S.fn g = none ∧ S.foreign g = none ∧ CZ q = true
 | [], _, g, q, h => by simp [nU] at h
 | (k, own, j) :: r, hl, g, q, h => by
  simp only [nU] at h
  cases hk : Nat.beq k g with
  | true =>
   rw [hk] at h
   simp only [cond_true] at h
   obtain ⟨h1, h2, h3⟩ := hl (k, own, j) (by simp)
   rw [← beq_eq hk]
   refine ⟨h1, h2, ?_⟩
   unfold TY at h3
   split at h
   ·rename_i fn hfn
    simp only [hfn] at h3
    rw [h] at h3
    exact h3
   ·cases h
  | false =>
   rw [hk] at h
   exact vN (fun p hp => hl p (by simp [hp])) g q h
end Go.X
