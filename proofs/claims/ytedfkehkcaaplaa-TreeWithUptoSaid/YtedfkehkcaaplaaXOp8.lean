/- Maps. -/
import Derived.Test.YtedfkehkcaaplaaXOp7
import Derived.Test.YtedfkehkcaaplaaXEq
import Derived.MapKept
namespace Go.X
open Go Go.MapKept
set_option linter.unusedSectionVars false
set_option linter.unusedSimpArgs false
set_option linter.unusedVariables false
variable [fq]
def FZ : KK → TypeDesc
 | .str => .string
 | .int k => .int k
 | .agg _ => .bool
theorem Iu : ∀ {a b : List KC}, pR a b = true → a = b
 | [], [], _ => rfl
 | .int j :: a, .int k :: b, h => by
  simp only [pR] at h
  cases hi : zS j k with
  | false => simp [hi] at h
  | true => simp only [hi, cond_true] at h; rw [nJ hi, Iu h]
 | .bool :: a, .bool :: b, h => by simp only [pR] at h; rw [Iu h]
 | .str :: a, .str :: b, h => by simp only [pR] at h; rw [Iu h]
 | [], .int _ :: _, h => by simp [pR] at h
 | [], .bool :: _, h => by simp [pR] at h
 | [], .str :: _, h => by simp [pR] at h
 | .int _ :: _, [], h => by simp [pR] at h
 | .int _ :: _, .bool :: _, h => by simp [pR] at h
 | .int _ :: _, .str :: _, h => by simp [pR] at h
 | .bool :: _, [], h => by simp [pR] at h
 | .bool :: _, .int _ :: _, h => by simp [pR] at h
 | .bool :: _, .str :: _, h => by simp [pR] at h
 | .str :: _, [], h => by simp [pR] at h
 | .str :: _, .int _ :: _, h => by simp [pR] at h
 | .str :: _, .bool :: _, h => by simp [pR] at h
theorem UC {a b : KK} (h : Mi a b = true) : a = b := by
 cases a <;> cases b <;> simp [Mi] at h ⊢
 ·exact nJ h
 ·exact Iu h
inductive acZ : KC → PV → Value → Prop
 | int (k : IntKind) (n : Int) : acZ (.int k) (.d (.int k n)) (.int k n)
 | bool (b : Bool) : acZ .bool (.d (.bool b)) (.bool b)
 | str (s : ByteArray) : acZ .str (.d (.str s)) (.string s)
inductive uw : List KC → List PV → List Value → Prop
 | nil : uw [] [] []
 | cons {c : KC} {x : PV} {v : Value} {cs : List KC} {xs : List PV} {vs : List Value} : acZ c x v → uw cs xs vs → uw (c :: cs) (x :: xs) (v :: vs)
inductive K1 : KC → PV → Prop
 | int (k : IntKind) (n : Int) : K1 (.int k) (.d (.int k n))
 | bool (b : Bool) : K1 .bool (.d (.bool b))
 | str (s : ByteArray) : K1 .str (.d (.str s))
theorem R7 {c : KC} {x : PV} {cs : List KC} {xs : List PV} (h : fJ (c :: cs) (x :: xs) = true) : K1 c x ∧ fJ cs xs = true := by
 cases c with
 | int k => cases x with
  | d d => cases d with
   | int j n =>
    simp only [fJ] at h
    cases hi : zS k j with
    | false => simp [hi] at h
    | true =>
     simp only [hi, cond_true] at h
     obtain rfl := nJ hi
     exact ⟨.int _ _, h⟩
   | _ => simp [fJ] at h
  | _ => simp [fJ] at h
 | bool => cases x with
  | d d => cases d with
   | bool b => simp only [fJ] at h; exact ⟨.bool _, h⟩
   | _ => simp [fJ] at h
  | _ => simp [fJ] at h
 | str => cases x with
  | d d => cases d with
   | str b => simp only [fJ] at h; exact ⟨.str _, h⟩
   | _ => simp [fJ] at h
  | _ => simp [fJ] at h
theorem kL {c : KC} {cs : List KC} {l : List PV} (h : fJ (c :: cs) l = true) : ∃ x xs, l = x :: xs ∧ K1 c x ∧ fJ cs xs = true := by
 cases l with
 | nil => cases c <;> simp [fJ] at h
 | cons x xs => exact ⟨x, xs, rfl, R7 h⟩
theorem lg {bl : List (List eT)} {cl : Nat → Nat} {w : World} : ∀ {cs : List KC} {xs : List PV} {vs : List Value}, fJ cs xs = true → aI bl cl w xs vs → uw cs xs vs := by
 intro cs
 induction cs with
 | nil =>
  intro xs vs h hv
  cases xs with
  | nil => simp only [aI] at hv; subst hv; exact .nil
  | cons x xs => simp [fJ] at h
 | cons c cs ih =>
  intro xs vs h hv
  obtain ⟨x, xs, rfl, k1, h'⟩ := kL h
  clear h
  have h := h'
  simp only [aI] at hv
  obtain ⟨v, s, rfl, h1, _, h2⟩ := hv
  cases k1 <;> simp only [ak, bT] at h1 <;> subst h1
  ·exact .cons (.int _ _) (ih h h2)
  ·exact .cons (.bool _) (ih h h2)
  ·exact .cons (.str _) (ih h h2)
theorem uw.rel {cs : List KC} {xs : List PV} {vs : List Value} (h : uw cs xs vs) (bl : List (List eT)) (cl : Nat → Nat) (w : World) : aI bl cl w xs vs := by
 induction h with
 | nil => simp only [aI]
 | cons h1 _ ih =>
  simp only [aI]
  refine ⟨_, _, rfl, ?_, ?_, ih⟩
  ·cases h1 <;> simp only [ak, bT]
  ·cases h1 <;> rfl
theorem uw.same {cs : List KC} {xs ys : List PV} {vs us : List Value} (h : uw cs xs vs) (k : uw cs ys us) (he : yM xs ys = true) : vs = us := by
 induction h generalizing ys us with
 | nil => cases k; rfl
 | cons h1 h2 ih =>
  cases k with
  | cons k1 k2 =>
   cases h1 <;> cases k1 <;> simp only [yM, Bool.and_eq_true] at he
   ·rw [ih k2 he.2]; simp only [beq_iff_eq] at he; rw [he.1]
   ·rw [ih k2 he.2]; simp only [beq_iff_eq] at he; rw [he.1]
   ·rw [ih k2 he.2, (bytes_beq _ _).1 he.1]
theorem afx {kk : KK} {x y : PV} {v u : Value} {bl qm : List (List eT)} {cl cl' : Nat → Nat} {w w' : World} (hx : jC kk x = true) (hy : jC kk y = true) (hv : ak bl cl w x v) (hu : ak qm cl' w' y u) (h : CX x y = true) : v = u := by
 unfold jC at hx
 split at hx
 ·rename_i k j n
  unfold jC at hy
  split at hy <;> first | (cases hy; done) | skip
  all_goals rename_i e
  all_goals first | (cases e; done) | skip
  all_goals first | cases e | skip
  obtain rfl := nJ hx
  obtain rfl := nJ hy
  simp only [ak, bT] at hv hu
  simp only [CX, beq_iff_eq] at h
  subst hv hu h; rfl
 ·unfold jC at hy
  split at hy <;> first | (cases hy; done) | skip
  all_goals rename_i e
  all_goals first | (cases e; done) | skip
  simp only [ak, bT] at hv hu
  simp only [CX] at h
  subst hv hu
  rw [(bytes_beq _ _).1 h]
 ·rename_i cs xs
  unfold jC at hy
  split at hy <;> first | (cases hy; done) | skip
  all_goals rename_i e
  all_goals first | (cases e; done) | skip
  cases e
  simp only [ak] at hv hu
  obtain ⟨vs, rfl, h1⟩ := hv
  obtain ⟨us, rfl, h2⟩ := hu
  rw [(lg hx h1).same (lg hy h2) h]
 ·cases hx
theorem aaN {bl : List (List eT)} {cl : Nat → Nat} {w : World} {kk : KK} {x : PV} {v : Value} (h : jC kk x = true) (hv : ak bl cl w x v) (qm : List (List eT)) (cl' : Nat → Nat) (w' : World) : ak qm cl' w' x v := by
 unfold jC at h
 split at h
 ·simpa only [ak, bT] using hv
 ·simpa only [ak, bT] using hv
 ·simp only [ak] at hv ⊢
  obtain ⟨vs, h1, h2⟩ := hv
  exact ⟨vs, h1, (lg h h2).rel _ _ _⟩
 ·cases h
section
variable {P : Program} {Γ : Tab} {cf : CF}
theorem afy (k : IntKind) : zS k k = true := by cases k <;> rfl
theorem Iw : ∀ {gs : List (Nat × Nat × Nat)} {cs : List KC} {xs ys : List PV}, LB Γ gs = some cs → fJ cs xs = true → fJ cs ys = true → Ie (real cf) Γ gs xs ys = some (yM xs ys)
 | [], cs, xs, ys, h, hx, hy => by
  cases h
  cases xs with
  | cons _ _ => simp [fJ] at hx
  | nil => cases ys with
   | cons _ _ => simp [fJ] at hy
   | nil => rfl
 | q :: gs, cs, xs, ys, h, hx, hy => by
  simp only [LB] at h
  have bb : ∀ a b : ByteArray, (a.toList == b.toList) = (a == b) := fun a b => by
   have e1 : (a.toList == b.toList) = true ↔ (a == b) = true := by
    rw [bytes_beq, beq_iff_eq]
    constructor
    ·intro h
     have : a.data.toList = b.data.toList := by rw [← ByteArray.toList_eq, ← ByteArray.toList_eq, h]
     exact ByteArray.ext (Array.ext' this)
    ·rintro rfl; rfl
   cases h1 : (a.toList == b.toList) <;> cases h2 : (a == b) <;> simp_all
  split at h
  ·rename_i k cs' hty hcs
   cases h
   obtain ⟨x, xs, rfl, k1, hx2⟩ := kL hx
   obtain ⟨y, ys, rfl, k2, hy2⟩ := kL hy
   cases k1; cases k2
   simp only [Ie, eqD, hty, afy, cond_true, Iw hcs hx2 hy2, yM]
   rfl
  ·rename_i cs' hty hcs
   cases h
   obtain ⟨x, xs, rfl, k1, hx2⟩ := kL hx
   obtain ⟨y, ys, rfl, k2, hy2⟩ := kL hy
   cases k1; cases k2
   simp only [Ie, eqD, hty, Iw hcs hx2 hy2, yM]
  ·rename_i cs' hty hcs
   cases h
   obtain ⟨x, xs, rfl, k1, hx2⟩ := kL hx
   obtain ⟨y, ys, rfl, k2, hy2⟩ := kL hy
   cases k1; cases k2
   simp only [Ie, eqD, hty, Iw hcs hx2 hy2, yM]
   show some ((_ == _) && _) = _
   rw [bb]
  ·cases h
theorem Iy (hΓ : fA P Γ) {w : World} {em : Bool} (d : Nat) (xs : List Value) : ∀ (fs : List Field) (gs : List (Nat × Nat × Nat)) (cs : List KC) (us : List PV) (k : Nat), fs.length = gs.length →
  (∀ (j : Nat) f, fs[j]? = some f → f.offset = k + j ∧ f.name ≠ "_") → (∀ (j : Nat) f g, fs[j]? = some f → gs[j]? = some g → f.type = g.2.2) → LB Γ gs = some cs → uw cs us (xs.drop k) →
  ∀ f ∈ fs, f.name ≠ "_" ∧ ∃ p, (part f.type xs.toArray f.offset).run P w = .ok p w ∧ (Instr.checkKey em (d + 1) f.type p).run P w = .ok () w
 | [], gs, cs, us, k, _, _, _, _, _ => by simp
 | f :: fs, [], cs, us, k, hl, _, _, _, _ => by simp at hl
 | f :: fs, q :: gs, cs, us, k, hl, hf, ht, hc, hu => by
  obtain ⟨o1, n1⟩ := hf 0 f rfl
  have t1 := ht 0 f q rfl rfl
  simp only [LB] at hc
  have hty := hΓ.ty q.2.2
  unfold oW at hty
  have step : ∀ (cs' : List KC) (p : Value) (s : List Value) (us' : List PV), xs.drop k = p :: s → uw cs' us' s → LB Γ gs = some cs' →
    (part f.type xs.toArray f.offset).run P w = .ok p w → (Instr.checkKey em (d + 1) f.type p).run P w = .ok () w →
    ∀ f' ∈ f :: fs, f'.name ≠ "_" ∧ ∃ p, (part f'.type xs.toArray f'.offset).run P w = .ok p w ∧ (Instr.checkKey em (d + 1) f'.type p).run P w = .ok () w := by
   intro cs' p s us' hd hcs hk h1 h2
   have ih := Iy hΓ (w := w) (em := em) d xs fs gs cs' us' (k + 1) (by simpa using hl) (fun j f' hj => by
      have := hf (j + 1) f' (by simpa using hj)
      exact ⟨by omega, this.2⟩) (fun j f' g' hj hg => ht (j + 1) f' g' (by simpa using hj) (by simpa using hg)) hk (by rw [← List.drop_drop, hd]; exact hcs)
   intro f' hf'
   rcases List.mem_cons.1 hf' with rfl | hf'
   ·exact ⟨n1, p, h1, h2⟩
   ·exact ih f' hf'
  have hx : ∀ p s, xs.drop k = p :: s → xs[f.offset]? = some p := fun p s e => by
   have : (xs.drop k)[0]? = some p := by rw [e]; rfl
   rw [o1]; simpa using this
  split at hc
  ·rename_i kd cs' hq hcs
   cases hc
   rw [hq] at hty; simp only at hty
   rw [← t1] at hty
   generalize hdr : xs.drop k = dr at hu
   cases hu with
   | cons hu1 hu2 =>
    cases hu1
    exact step _ _ _ _ hdr hu2 hcs (by simp [part, isAgg, run_underlying hty, hx _ _ hdr]) (by unfold Instr.checkKey; simp [run_underlying hty])
  ·rename_i cs' hq hcs
   cases hc
   rw [hq] at hty; simp only at hty
   rw [← t1] at hty
   generalize hdr : xs.drop k = dr at hu
   cases hu with
   | cons hu1 hu2 =>
    cases hu1
    exact step _ _ _ _ hdr hu2 hcs (by simp [part, isAgg, run_underlying hty, hx _ _ hdr]) (by unfold Instr.checkKey; simp [run_underlying hty])
  ·rename_i cs' hq hcs
   cases hc
   rw [hq] at hty; simp only at hty
   rw [← t1] at hty
   generalize hdr : xs.drop k = dr at hu
   cases hu with
   | cons hu1 hu2 =>
    cases hu1
    exact step _ _ _ _ hdr hu2 hcs (by simp [part, isAgg, run_underlying hty, hx _ _ hdr]) (by unfold Instr.checkKey; simp [run_underlying hty])
  ·cases hc
theorem NY {A : Type} {w : World} {body : A → PUnit → Sem (ForInStep PUnit)} : ∀ {l : List A}, (∀ x ∈ l, (body x PUnit.unit).run P w = .ok (.yield PUnit.unit) w) → (forIn l PUnit.unit body : Sem PUnit).run P w = .ok () w
 | [], _ => by simp
 | x :: l, h => by
  simp only [List.forIn_cons, Sem.run_bind, h x (by simp), Result.andThen_ok]
  exact NY fun y hy => h y (by simp [hy])
theorem NZ (hΓ : fA P Γ) {kt : Nat} {kk : KK} (h : zW Γ kt = some kk) : (P.underlying kt = some (FZ kk) ∧ ∀ cs, kk ≠ .agg cs) ∨ ∃ n fs cs, kk = .agg cs ∧ Γ.ty kt = .agg n fs ∧ LB Γ fs = some cs ∧ agf P kt := by
 have ht := hΓ.ty kt
 unfold oW at ht
 unfold zW at h
 split at h
 ·rename_i hty; cases h; simp only [hty] at ht; exact .inl ⟨ht, fun cs h => by cases h⟩
 ·rename_i k hty; cases h; simp only [hty] at ht; exact .inl ⟨ht, fun cs h => by cases h⟩
 ·rename_i n fs hty
  cases he : Γ.eqs kt with
  | false => simp [he] at h
  | true =>
   simp only [he, cond_true] at h
   split at h
   ·rename_i cs hcs
    cases h
    exact .inr ⟨n, fs, cs, rfl, hty, hcs, hΓ.eq kt he⟩
   ·cases h
 ·cases h
theorem agx {kk : KK} {x : PV} {v : Value} {bl : List (List eT)} {cl : Nat → Nat} {w : World} (hk : ∀ cs, kk ≠ .agg cs) (h : jC kk x = true) (hv : ak bl cl w x v) : IsKey (FZ kk) v := by
 unfold jC at h
 split at h
 ·rename_i k j n
  simp only [ak, bT] at hv
  subst hv
  exact (nJ h).symm
 ·simp only [ak, bT] at hv
  subst hv
  trivial
 ·exact absurd rfl (hk _)
 ·cases h
theorem Dm {bl : List (List eT)} {cl : Nat → Nat} {w w0 : World} {em : Bool} (hΓ : fA P Γ) {kt : Nat} {kk : KK} (h : zW Γ kt = some kk) {x : PV} {v : Value} (hx : jC kk x = true) (hv : ak bl cl w0 x v) : (Instr.checkKey em 10000 kt v).run P w = .ok () w := by
 rcases NZ hΓ h with ⟨h1, h2⟩ | ⟨n, fs, cs, rfl, hty, hcs, heq⟩
 ·exact run_checkKey h1 (agx h2 hx hv) em 9999
 ·unfold jC at hx
  split at hx
  ·rename_i e; cases e
  ·rename_i e; cases e
  ·rename_i cs' xs e
   cases e
   simp only [ak] at hv
   obtain ⟨vs, rfl, h1⟩ := hv
   have ht := hΓ.ty kt
   unfold oW at ht
   rw [hty] at ht
   simp only at ht
   obtain ⟨fields, e1, _, e2, e3⟩ := ht
   have ef : P.fieldsOf kt = fields := by unfold Program.fieldsOf; rw [e1]
   have hr := Iy hΓ (w := w) (em := em) 9998 vs fields.toList fs cs xs 0 (by simpa using e2) (fun j f hj => by
    have := heq.arD j f (by rw [ef]; exact hj)
    exact ⟨by omega, this.2⟩) (fun j f g hj hg => (e3 j f g (by simpa using hj) hg).2.1) hcs (by simpa using lg hx h1)
   unfold Instr.checkKey
   simp only [Sem.run_bind, run_underlying e1, Result.andThen_ok]
   rw [← Array.forIn_toList]
   rw [NY (P := P) (w := w) fun f hf => by
    obtain ⟨q1, p, q2, q3⟩ := hr f hf
    simp [q1, q2, q3]]
   simp
  ·cases hx
def Mq (P : Program) (kk : KK) (kt : TypeId) (w : World) (k : Value) (l : List MapEntry) (i : Nat) (res : Option (Nat × Value)) : Prop :=
 match kk with
 | .agg _ => (Instr.findAsking kt k l i).run P w = .ok res w
 | kk => Instr.findNow (FZ kk) k l i = some res
def Same (P : Program) (kk : KK) (kt : TypeId) (w : World) (k k' : Value) (b : Bool) : Prop :=
 match kk with
 | .agg _ => (Op.equal kt k k').run P w = .ok b w
 | kk => Instr.sameNow (FZ kk) k k' = some b
theorem XP {kk : KK} {kt : TypeId} {w : World} {k : Value} {i : Nat} : Mq P kk kt w k [] i none := by
 cases kk <;> simp [Mq, Instr.findAsking, Instr.findNow]
theorem agy {kk : KK} {kt : TypeId} {w : World} {k : Value} {i : Nat} {e : MapEntry} {l : List MapEntry} (h : Same P kk kt w k e.key true) : Mq P kk kt w k (e :: l) i (some (i, e.val)) := by
 cases kk <;> simp only [Same] at h <;> simp [Mq, Instr.findAsking, Instr.findNow, h]
theorem SQ {kk : KK} {kt : TypeId} {w : World} {k : Value} {i : Nat} {e : MapEntry} {l : List MapEntry} {res : Option (Nat × Value)} (h : Same P kk kt w k e.key false) (h2 : Mq P kk kt w k l (i + 1) res) : Mq P kk kt w k (e :: l) i res := by
 cases kk <;> simp only [Same] at h <;> simp only [Mq] at h2 <;> simp [Mq, Instr.findAsking, Instr.findNow, h, h2]
theorem wC (hΓ : fA P Γ) {kt : Nat} {kk : KK} (h : zW Γ kt = some kk) {w : World} {k : Value} {l : List MapEntry} {res : Option (Nat × Value)} (hs : Mq P kk kt w k l 0 res) : (Instr.findKey kt k l).run P w = .ok res w := by
 rcases NZ hΓ h with ⟨h1, h2⟩ | ⟨n, fs, cs, rfl, hty, hcs, heq⟩
 ·have hs' : Instr.findNow (FZ kk) k l 0 = some res := by
   cases kk with
   | agg cs => exact absurd rfl (h2 cs)
   | _ => exact hs
  exact run_findKey h1 hs'
 ·simp only [Mq] at hs
  cases l with
  | nil =>
   simp only [Instr.findAsking, Sem.run_pure, Result.ok.injEq, and_true] at hs
   simp [Instr.findKey, run_underlying heq.ty, Instr.findNow, hs]
  | cons e l =>
   simp [Instr.findKey, run_underlying heq.ty, Instr.findNow, Instr.sameNow]
   exact hs
theorem agz (cf : CF) (hΓ : fA P Γ) {kt : Nat} {kk : KK} (h : zW Γ kt = some kk) {x y : PV} {v u : Value} {bl qm : List (List eT)} {cl cl' : Nat → Nat} {w1 w2 w : World} (hx : jC kk x = true) (hy : jC kk y = true) (hv : ak bl cl w1 x v) (hu : ak qm cl' w2 y u) : Same P kk kt w v u (CX x y) := by
 rcases NZ hΓ h with ⟨h1, h2⟩ | ⟨n, fs, cs, rfl, hty, hcs, heq⟩
 ·cases kk with
  | agg cs => exact absurd rfl (h2 cs)
  | str =>
   unfold jC at hx hy
   split at hx <;> first | (cases hx; done) | skip
   all_goals rename_i e1
   all_goals first | (cases e1; done) | skip
   split at hy <;> first | (cases hy; done) | skip
   all_goals rename_i e2
   all_goals first | (cases e2; done) | skip
   simp_all [ak, bT, Instr.sameNow, FZ, CX, Same]
  | int k =>
   unfold jC at hx hy
   split at hx <;> first | (cases hx; done) | skip
   all_goals rename_i e1
   all_goals first | (cases e1; done) | skip
   cases e1
   split at hy <;> first | (cases hy; done) | skip
   all_goals rename_i e2
   all_goals first | (cases e2; done) | skip
   cases e2
   obtain rfl := nJ hx
   obtain rfl := nJ hy
   simp only [ak, bT] at hv hu
   subst hv; subst hu
   simp [Instr.sameNow, FZ, CX, Same]
 ·unfold jC at hx hy
  split at hx <;> first | (cases hx; done) | skip
  all_goals rename_i e1
  all_goals first | (cases e1; done) | skip
  cases e1
  split at hy <;> first | (cases hy; done) | skip
  all_goals rename_i e2
  all_goals first | (cases e2; done) | skip
  cases e2
  simp only [ak] at hv hu
  obtain ⟨vs, rfl, g1⟩ := hv
  obtain ⟨us, rfl, g2⟩ := hu
  exact afq (cf := cf) (bl := bl) (cl := cl) hΓ heq hty ((lg hx g1).rel _ _ _) ((lg hy g2).rel _ _ _) (Iw hcs hx hy)
theorem agA {kk : KK} {x : PV} {v : Value} {bl : List (List eT)} {cl : Nat → Nat} {w : World} (hx : jC kk x = true) (hv : ak bl cl w x v) : Instr.sameBits 10000 v v = true := by
 unfold jC at hx
 split at hx
 ·simp only [ak, bT] at hv
  subst hv
  simp [Instr.sameBits]
 ·simp only [ak, bT] at hv
  subst hv
  simp [Instr.sameBits, bytes_beq]
 ·simp only [ak] at hv
  obtain ⟨vs, rfl, h1⟩ := hv
  have h2 := lg hx h1
  have : ∀ {cs : List KC} {xs : List PV} {vs : List Value}, uw cs xs vs → ((vs.zip vs).all fun (x, y) => Instr.sameBits 9999 x y) = true := by
   intro cs xs vs h
   induction h with
   | nil => rfl
   | cons h1 _ ih =>
    simp only [List.zip_cons_cons, List.all_cons, ih, Bool.and_true]
    cases h1 <;> simp [Instr.sameBits, bytes_beq]
  simp only [Instr.sameBits, beq_self_eq_true, Bool.true_and]
  exact this h2
 ·cases hx
end
section
variable {P : Program} {Γ : Tab} {kk : KK} {bl qm : List (List eT)} {cl cl' : Nat → Nat} {w w' w0 : World} {kt : Nat}
theorem Iz {x : PV} {k : Value} (hΓ : fA P Γ) (hkk : zW Γ kt = some kk) (hx : jC kk x = true) (hk : ak qm cl' w' x k) : ∀ {es : List (PV × PV)} {l : List MapEntry} (i : Nat), gT kk bl cl w es l →
  (∃ j e v, Mq P kk kt w0 k l i (some (i + j, e.val)) ∧ l[j]? = some e ∧ e.key = k ∧ Ct es x = some v ∧ ak bl cl w v e.val ∧ Sw v = true ∧ gT kk bl cl w (Mj es x) (l.eraseIdx j) ∧
   ∀ y u, ak bl cl w y u → ak bl cl w x k → Sw y = true → gT kk bl cl w (CY es x y) (l.set j { e with key := k, val := u })) ∨
  (Mq P kk kt w0 k l i none ∧ Ct es x = none ∧ Mj es x = es ∧ ∀ y u b, ak bl cl w y u → ak bl cl w x k → Sw y = true → gT kk bl cl w (CY es x y) (l ++ [⟨k, u, b⟩]))
 | [], l, i, h => by
  simp only [gT] at h
  subst h
  refine .inr ⟨XP, rfl, rfl, fun y u b hy hxk ho => ?_⟩
  simp only [CY, List.nil_append, gT]
  exact ⟨_, [], rfl, hx, hxk, hy, ho, rfl⟩
 | q :: es, l, i, h => by
  simp only [gT] at h
  obtain ⟨e, s, rfl, h1, h2, h3, h4, h5⟩ := h
  have hs := agz (P := P) (w := w0) (fun _ _ _ => none) hΓ hkk hx h1 hk h2
  cases hb : CX x q.1 with
  | true =>
   rw [hb] at hs
   have hke := afx hx h1 hk h2 hb
   refine .inl ⟨0, e, q.2, agy hs, rfl, hke.symm, by simp [Ct, hb], h3, h4, by simpa [Mj, hb] using h5, fun y u hy hxk ho => ?_⟩
   simp only [CY, hb, if_true, List.set_cons_zero, gT]
   exact ⟨_, s, rfl, hx, hxk, hy, ho, h5⟩
  | false =>
   rw [hb] at hs
   rcases Iz hΓ hkk hx hk (i + 1) h5 with ⟨j, e', v, g1, g2, g3, g4, g5, g6, g7, g8⟩ | ⟨g1, g2, g3, g4⟩
   ·refine .inl ⟨j + 1, e', v, by have := SQ hs g1; rw [show i + 1 + j = i + (j + 1) by omega] at this; exact this, by simpa using g2, g3, by simp [Ct, hb, g4], g5, g6, ?_, fun y u hy hxk ho => ?_⟩
    ·simp only [Mj, hb, Bool.false_eq_true, if_false, List.eraseIdx_cons_succ, gT]
     exact ⟨e, _, rfl, h1, h2, h3, h4, g7⟩
    ·simp only [CY, hb, Bool.false_eq_true, if_false, List.set_cons_succ, gT]
     exact ⟨e, _, rfl, h1, h2, h3, h4, g8 y u hy hxk ho⟩
   ·refine .inr ⟨SQ hs g1, by simp [Ct, hb, g2], by simp [Mj, hb, g3], fun y u b hy hxk ho => ?_⟩
    simp only [CY, hb, Bool.false_eq_true, if_false, List.cons_append, gT]
    exact ⟨e, _, rfl, h1, h2, h3, h4, g4 y u b hy hxk ho⟩
theorem gT.len : ∀ {es : List (PV × PV)} {l : List MapEntry}, gT kk bl cl w es l → l.length = es.length
 | [], l, h => by simp only [gT] at h; subst h; rfl
 | q :: es, l, h => by
  simp only [gT] at h
  obtain ⟨e, s, rfl, _, _, _, _, h5⟩ := h
  simp [h5.len]
end
section
variable {R : Type} {P : Program} {Γ : Tab} {cf : CF} {an : mH} {o : Oper} {a : Act} {w : World} {m : Mt} {K : PV → St → Option R} {r : R} {st : St} {ρ : Env}
theorem SS (hΓ : fA P Γ) {t : Nat} {z : PV} (h : pack Γ t (ds (Γ.zero t)) = some z) (bl : List (List eT)) (cl : Nat → Nat) : ∃ i v, P.info? t = some i ∧ i.zero = some v ∧ ak bl cl w z v := by
 have hne : Γ.zero t ≠ [] ∨ ∃ n fs, Γ.ty t = .agg n fs := by
  by_cases h0 : Γ.zero t = []
  ·right
   unfold pack at h
   rw [h0] at h
   split at h
   ·rename_i n fs hty; exact ⟨n, fs, hty⟩
   ·cases h
   ·cases h
   ·simp [ds, Ib] at h
  ·exact .inl h0
 by_cases h0 : Γ.zero t = []
 ·
  rcases hne with h1 | ⟨n, fs, hty⟩
  ·exact absurd h0 h1
  ·obtain ⟨i, q1, q2⟩ := hΓ.unit t fs (by
    unfold pack at h
    simp only [hty, h0, ds, List.length_nil] at h
    cases hb : Nat.ble n 0 with
    | false => simp [hb] at h
    | true => rw [hty, Nat.le_zero.1 (Nat.le_of_ble_eq_true hb)])
   refine ⟨i, _, q1, q2, ?_⟩
   unfold pack at h
   simp only [hty, h0, ds, List.length_nil, List.take_nil] at h
   cases hb : Nat.ble n 0 with
   | false => simp [hb] at h
   | true =>
    simp only [hb, cond_true, Option.some.injEq] at h
    subst h
    simp only [ak, aI]
    exact ⟨[], rfl, rfl⟩
 obtain ⟨i, v, q1, q2, q3, q4, q5, q6⟩ := hΓ.zero t h0
 refine ⟨i, v, q1, q2, ?_⟩
 have hl := q5 cl w
 unfold pack at h
 split at h
 ·rename_i n fs hty
  simp only [hty] at q6
  cases hb : Nat.ble n (ds (Γ.zero t)).length with
  | false => simp [hb] at h
  | true =>
   simp only [hb, cond_true, Option.some.injEq] at h
   subst h
   simp only [ak]
   refine ⟨v.cells.toList, by rw [Array.toArray_toList]; exact q6.1, ?_⟩
   have : (ds (Γ.zero t)).take n = ds (Γ.zero t) := List.take_of_length_le (by rw [aaw]; omega)
   rw [this]
   exact bg.cells hl
 ·cases h
 ·cases h
 ·rename_i hna _ _
  have q6' : v.cells = #[v] := by
   split at q6
   ·rename_i n fs hty; exact absurd hty (hna n fs)
   ·exact q6
  rw [q6'] at hl
  cases hz : Γ.zero t with
  | nil => exact absurd hz h0
  | cons d rest =>
   rw [hz] at hl h
   simp only [ds, Ib, Option.some.injEq] at h
   subst h
   simp only [dZ] at hl
   obtain ⟨u, s, h1, h2, _⟩ := hl
   simp only [List.cons.injEq] at h1
   obtain ⟨rfl, _⟩ := h1
   simpa only [ak] using h2
theorem Dn {t k e : Nat} (hΓ : fA P Γ) (h : Γ.ty t = .map k e) : P.underlying t = some (.map k e) := by
 have ht := hΓ.ty t
 unfold oW at ht
 simpa only [h] using ht
theorem XQ (hΓ : fA P Γ) (he : bG m w ρ a) (hw : bI m st w) {t : TypeId} {x y : Operand} {ok : Bool} (hop : o.op = .lookup t x y ok)
  (h : evalOp (real cf) Γ an ρ st o.dst o.op K = some r) : Goes P o a w m K r := by
 rw [hop] at h
 simp only [evalOp] at h
 have hp := eG he x
 have hq := eG he y
 split at h
 ·rename_i kt et hty
  split at h
  ·rename_i kk hkk
   have hm := Dn hΓ hty
   unfold vV at h
   dsimp only at h
   cases hok : jC kk (ev ρ y) with
   | false => simp [hok] at h
   | true =>
   simp only [hok, cond_true] at h
   have hkey := fun (em : Bool) => Dm (em := em) (w := w) hΓ hkk hok hq
   have aaO : ∀ (z : PV) (v : Value) (b : Bool), ak m.blk m.cl w z v → ak m.blk m.cl w (bif ok then .zh [z, .d (.bool b)] else z) (if ok then .tuple #[v, .bool b] else v) := by
    intro z v b hz
    cases ok
    ·exact hz
    ·simp only [cond_true, if_true, ak]
     exact ⟨[v, .bool b], rfl, by simp only [bg, ak, bT]; exact ⟨v, _, rfl, hz, _, _, rfl, rfl, rfl⟩⟩
   split at h
   ·rename_i z hmm hz
    rw [hmm] at hp; simp only [ak, bT] at hp
    obtain ⟨i, v, z1, z2, z3⟩ := SS (w := w) hΓ hz m.blk m.cl
    have hrun : (execOp a.eval o).run P w = .ok (.value (if ok then .tuple #[v, .bool false] else v)) w := by
     simp [execOp, hop, hp, Instr.lookup, run_underlying hm, hkey, wC hΓ hkk (l := []) (k := a.eval y) (w := w) XP, zeroValue, typeInfo, z1, z2]
    exact Goes.value hrun h hw (aaO z v false z3)
   ·rename_i l i z hmm hz
    rw [hmm] at hp; simp only [ak] at hp
    obtain ⟨e, p1, p0, p2⟩ := hp
    obtain ⟨iz, v, z1, z2, z3⟩ := SS (w := w) hΓ hz m.blk m.cl
    split at h
    ·rename_i MF fl es hl
     obtain ⟨e', k3, k4⟩ := hw.st.mW hl
     rw [p1] at k3; cases k3
     simp only [bC] at k4
     obtain ⟨g1, g2, gf, ents, clock, g3, g4⟩ := k4
     cases hkq : Mi kk MF with
     | false => simp [hkq] at h
     | true =>
     simp only [hkq, cond_true, su] at h
     obtain rfl := UC hkq
     rcases Iz (w0 := w) hΓ hkk hok hq 0 g4 with ⟨j, en, v', f1, f2, f3, f4, f5, f6, f7, f8⟩ | ⟨f1, f2, f3, f4⟩
     ·have e1 : (real cf).find es (ev ρ y) = some v' := f4
      rw [e1] at h
      dsimp only at h
      have hrun : (execOp a.eval o).run P w = .ok (.value (if ok then .tuple #[en.val, .bool true] else en.val)) w := by
       simp [execOp, hop, p2, Instr.lookup, run_underlying hm, Go.MapKept.run_getObj_map g3, hkey, wC hΓ hkk f1]
      exact Goes.value hrun h hw (aaO _ _ true (Dc l _ _ f5))
     ·have e1 : (real cf).find es (ev ρ y) = none := f2
      rw [e1] at h
      dsimp only at h
      have hrun : (execOp a.eval o).run P w = .ok (.value (if ok then .tuple #[v, .bool false] else v)) w := by
       simp [execOp, hop, p2, Instr.lookup, run_underlying hm, Go.MapKept.run_getObj_map g3, hkey, wC hΓ hkk f1, zeroValue, typeInfo, z1, z2]
      exact Goes.value hrun h hw (aaO z v false z3)
    ·cases h
   ·cases h
  ·cases h
 ·cases h
theorem aaP : ∀ {cs : List KC} {l : List PV}, fJ cs l = true → CP l = true := by
 intro cs
 induction cs with
 | nil => intro l h; cases l with
  | nil => rfl
  | cons x l => simp [fJ] at h
 | cons c cs ih =>
  intro l h
  obtain ⟨x, xs, rfl, k1, h2⟩ := kL h
  cases k1 <;> (show CP xs = true; exact ih h2)
theorem agB {kk : KK} {k : PV} (h : jC kk k = true) : Cq k = true := by
 cases k with
 | d x => rfl
 | agg l => cases kk with
  | agg cs => exact aaP h
  | _ => simp [jC] at h
 | _ => cases kk <;> simp [jC] at h
theorem SV {k v : PV} (hk : Cq k = true) : ∀ {es : List (PV × PV)}, sN es = true → Cq v = true → sN (CY es k v) = true
 | [], _, hv => by simp [CY, sN, hk, hv]
 | (a, b) :: r, h, hv => by
  simp only [sN, Bool.and_eq_true] at h
  simp only [CY]
  split
  ·simp [sN, hk, hv, h.2]
  ·simp only [sN, Bool.and_eq_true]
   exact ⟨h.1, SV hk h.2 hv⟩
theorem SX {k : PV} : ∀ {es : List (PV × PV)}, sN es = true → sN (Mj es k) = true
 | [], _ => rfl
 | (a, b) :: r, h => by
  simp only [sN, Bool.and_eq_true] at h
  simp only [Mj]
  split
  ·exact h.2
  ·simp only [sN, Bool.and_eq_true]
   exact ⟨h.1, SX h.2⟩
theorem UD (hw : bI m st w) {x : PV} {v : Value} (hv : ak m.blk m.cl w x v) {cs : List PV} {st1 : St} (hf : freezes (real cf) st (unpack x) = (cs, st1)) :
  ∃ m1, Ext m w m1 w ∧ bI m1 st1 w ∧ st1.length = st.length ∧ ∀ n, eF (up.ups n cs) = true → ak (rW m1.blk n) m1.cl w (uq x (up.ups n cs)) v ∧ Sw (uq x (up.ups n cs)) = true := by
 rcases Ae hv (.inr (.inr (.inr trivial))) with ⟨l, rfl, h2⟩ | ⟨hne, h2⟩
 ·obtain ⟨m1, x1, w1, v1, n1⟩ := j4 hw h2 hf
  refine ⟨m1, x1, w1, n1, fun n hok => ?_⟩
  simp only [uq, ak, Sw]
  simp only [ak] at hv
  obtain ⟨vs, rfl, _⟩ := hv
  refine ⟨⟨vs, rfl, ?_⟩, hok⟩
  have := ny hok (zl n _ _ v1)
  simpa [Value.cells] using this
 ·rw [h2] at hf
  obtain ⟨m1, x1, w1, v1, n1⟩ := j4 hw (l := [x]) (vs := [v]) ⟨v, [], rfl, hv, rfl⟩ hf
  refine ⟨m1, x1, w1, n1, fun n hok => ?_⟩
  have hl := v1.len
  match cs, hl, v1 with
  | [y], _, v1 =>
   simp only [bg] at v1
   obtain ⟨u, s, h3, h4, h5⟩ := v1
   simp only [List.cons.injEq] at h3
   obtain ⟨rfl, rfl⟩ := h3
   rw [Uy] at hok ⊢
   have hy : lY (up n y) = true := by
    cases hc : lY (up n y) with
    | true => rfl
    | false => simp [eF, hc] at hok
   have h6 := KL n y v h4
   have hr : uq x [up n y] = up n y := by
    cases x with
    | agg l => exact absurd rfl (hne l)
    | _ => rfl
   rw [hr]
   refine ⟨h6, ?_⟩
   cases hu : up n y <;> rw [hu] at hy <;> first | rfl | (simp [lY] at hy)
theorem N7 (hΓ : fA P Γ) (he : bG m w ρ a) (hw : bI m st w) {t : TypeId} {x y z : Operand} (hop : o.op = .mapUpdate t x y z)
  (h : evalOp (real cf) Γ an ρ st o.dst o.op K = some r) : Goes P o a w m K r := by
 rw [hop] at h
 simp only [evalOp] at h
 have hp := eG he x
 have hq := eG he y
 have hz := eG he z
 split at h
 ·rename_i kt et hty
  split at h
  ·rename_i kk l i hkk hx
   have hm := Dn hΓ hty
   obtain ⟨vs, st1, hf, hz⟩ := j5 h
   clear h
   have h := hz
   clear hz
   try dsimp only at h
   obtain ⟨m1, x1, w1, n1, hval⟩ := UD hw hz hf
   have hp1 := hp.ext x1
   rw [hx] at hp1; simp only [ak] at hp1
   obtain ⟨e, p1, p0, p2⟩ := hp1
   split at h
   ·rename_i MF fl es hl
    obtain ⟨e', k3, k4⟩ := w1.st.mW hl
    rw [p1] at k3; cases k3
    simp only [bC] at k4
    obtain ⟨g1, g2, gf, ents, clock, g3, g4⟩ := k4
    cases hkq : Mi kk MF with
    | false => simp [hkq] at h
    | true =>
    cases hok : jC kk (ev ρ y) with
    | false => simp [hkq, hok] at h
    | true =>
    cases hco : eF (up.ups l vs) with
    | false => simp [hkq, hok, hco] at h
    | true =>
    cases hfv : (bif fl then Cq (uq (ev ρ z) (up.ups l vs)) else true) with
    | false => simp [hkq, hok, hco, hfv] at h
    | true =>
    simp only [hkq, hok, hco, hfv, cond_true, KI] at h
    have agC : fl = true → sN (CY es (ev ρ y) (uq (ev ρ z) (up.ups l vs))) = true := fun hfl => by
     subst hfl
     exact SV (agB hok) (gf rfl) (by simpa using hfv)
    obtain rfl := UC hkq
    have hkey := fun (em : Bool) => Dm (em := em) (w := w) hΓ hkk hok hq
    obtain ⟨hv1, hv2⟩ := hval l hco
    have finish : ∀ (zn : Array MapEntry) (clock' : Nat), (execOp a.eval o).run P w = .ok .skip { w with heap := w.heap.setIfInBounds e.b (.map zn clock') } →
      gT kk (rW m1.blk l) m1.cl w (CY es (ev ρ y) (uq (ev ρ z) (up.ups l vs))) zn.toList → Goes P o a w m K r := by
     intro zn clock' hrun hrel
     have hset := heap_set (o' := .map zn clock') g3
     obtain ⟨m2, rfl, x2, w2⟩ := w1.put (l := l) (i := i) (w' := { w with heap := w.heap.setIfInBounds e.b (.map zn clock') }) p1 (sU g1)
      (fun b hb => hset.2 b hb) (fun a ha => by simp only [World.frozen?, ha, hset.1, g3]) (by simp) rfl rfl rfl (o := .map kk fl (CY es (ev ρ y) (uq (ev ρ z) (up.ups l vs)))) (e' := e) rfl (nM.refl e) (n := 0) (by rw [g2]; exact Nat.le_refl _) (Nat.zero_le _) (fun j hj => by rw [g2] at hj; omega)
      (fun hk he => by
       simp only [bC, if_true]
       exact ⟨g1, trivial, agC, zn, clock', hset.1, hrel.keep hk (dO.rW l he)⟩)
     exact Goes.skip' hrun h (x1.trans x2) w2
    have hqu := aaN hok hq (rW m1.blk l) m1.cl w
    rcases Iz (w0 := w) hΓ hkk hok hq 0 g4 with ⟨j, en, v', f1, f2, f3, f4, f5, f6, f7, f8⟩ | ⟨f1, f2, f3, f4⟩
    ·refine finish (ents.modify j fun e => { e with key := a.eval y, val := a.eval z }) clock ?_ ?_
     ·have hsame : Instr.sameBits 10000 (a.eval y) (a.eval y) = true := agA hok hq
      have f2' : ents[j]? = some en := by simpa using f2
      simp [execOp, hop, p2, Instr.mapUpdate, run_underlying hm, Go.MapKept.run_getObj_map g3, hkey, wC hΓ hkk f1, f2', f3, Instr.keyThatStays, hsame, Go.MapKept.run_setObj_map _ g3]
     ·have f2' : ents.toList[j]? = some en := f2
      have hj := (List.getElem?_eq_some_iff.1 f2').1
      have e1 : (ents.modify j fun e => { e with key := a.eval y, val := a.eval z }).toList = ents.toList.set j { en with key := a.eval y, val := a.eval z } := by
       apply List.ext_getElem?
       intro n
       by_cases hn : j = n
       ·subst hn
        rw [List.getElem?_set_self hj]
        have ayT : ents[j]? = some en := by simpa using f2
        simp [Array.getElem?_modify, ayT]
       ·rw [List.getElem?_set_ne hn]
        simp [Array.getElem?_modify, hn]
      rw [e1]
      exact f8 _ _ hv1 hqu hv2
    ·refine finish (ents.push ⟨a.eval y, a.eval z, clock⟩) (clock + 1) ?_ ?_
     ·simp [execOp, hop, p2, Instr.mapUpdate, run_underlying hm, Go.MapKept.run_getObj_map g3, hkey, wC hΓ hkk f1, Go.MapKept.run_setObj_map _ g3]
     ·rw [Array.toList_push]
      exact f4 _ _ _ hv1 hqu hv2
   ·cases h
  ·cases h
 ·cases h
end
end Go.X
