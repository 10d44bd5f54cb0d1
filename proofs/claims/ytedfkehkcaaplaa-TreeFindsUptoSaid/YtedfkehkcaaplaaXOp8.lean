/- T -/
import Derived.Test.YtedfkehkcaaplaaXOp7
import Derived.Test.YtedfkehkcaaplaaXEq
import Derived.MapKept
namespace Go.X
open Go Go.MapKept
set_option linter.unusedVariables false
variable [bY]
def wN : KK → TypeDesc
 | .str => .string
 | .int k => .int k
 | .agg _ => .bool
theorem xY : ∀ {a b : List KC}, kV a b = true → a = b
 | [], [], _ => rfl
 | .int j :: a, .int k :: b, h => by
  simp only [kV] at h
  cases hi : rH j k with
  | false => simp [hi] at h
  | true => simp only [hi, cond_true] at h; rw [jr hi, xY h]
 | .bool :: a, .bool :: b, h => by simp only [kV] at h; rw [xY h]
 | .str :: a, .str :: b, h => by simp only [kV] at h; rw [xY h]
 | [], .int _ :: _, h => by simp [kV] at h
 | [], .bool :: _, h => by simp [kV] at h
 | [], .str :: _, h => by simp [kV] at h
 | .int _ :: _, [], h => by simp [kV] at h
 | .int _ :: _, .bool :: _, h => by simp [kV] at h
 | .int _ :: _, .str :: _, h => by simp [kV] at h
 | .bool :: _, [], h => by simp [kV] at h
 | .bool :: _, .int _ :: _, h => by simp [kV] at h
 | .bool :: _, .str :: _, h => by simp [kV] at h
 | .str :: _, [], h => by simp [kV] at h
 | .str :: _, .int _ :: _, h => by simp [kV] at h
 | .str :: _, .bool :: _, h => by simp [kV] at h
theorem Ij {a b : KK} (h : Ba a b = true) : a = b := by
 cases a <;> cases b <;> simp [Ba] at h ⊢
 ·exact jr h
 ·exact xY h
inductive Pv : KC → PV → Value → Prop
 | int (k : IntKind) (n : Int) : Pv (.int k) (.d (.int k n)) (.int k n)
 | bool (b : Bool) : Pv .bool (.d (.bool b)) (.bool b)
 | str (s : ByteArray) : Pv .str (.d (.str s)) (.string s)
inductive nL : List KC → List PV → List Value → Prop
 | nil : nL [] [] []
 | cons {c : KC} {x : PV} {v : Value} {cs : List KC} {xs : List PV} {vs : List Value} : Pv c x v → nL cs xs vs → nL (c :: cs) (x :: xs) (v :: vs)
inductive K1 : KC → PV → Prop
 | int (k : IntKind) (n : Int) : K1 (.int k) (.d (.int k n))
 | bool (b : Bool) : K1 .bool (.d (.bool b))
 | str (s : ByteArray) : K1 .str (.d (.str s))
theorem EX {c : KC} {x : PV} {cs : List KC} {xs : List PV} (h : dK (c :: cs) (x :: xs) = true) : K1 c x ∧ dK cs xs = true := by
 cases c with
 | int k => cases x with
  | d d => cases d with
   | int j n =>
    simp only [dK] at h
    cases hi : rH k j with
    | false => simp [hi] at h
    | true =>
     simp only [hi, cond_true] at h
     obtain rfl := jr hi
     exact ⟨.int _ _, h⟩
   | _ => simp [dK] at h
  | _ => simp [dK] at h
 | bool => cases x with
  | d d => cases d with
   | bool b => simp only [dK] at h; exact ⟨.bool _, h⟩
   | _ => simp [dK] at h
  | _ => simp [dK] at h
 | str => cases x with
  | d d => cases d with
   | str b => simp only [dK] at h; exact ⟨.str _, h⟩
   | _ => simp [dK] at h
  | _ => simp [dK] at h
theorem ig {c : KC} {cs : List KC} {l : List PV} (h : dK (c :: cs) l = true) : ∃ x xs, l = x :: xs ∧ K1 c x ∧ dK cs xs = true := by
 cases l with
 | nil => cases c <;> simp [dK] at h
 | cons x xs => exact ⟨x, xs, rfl, EX h⟩
theorem iC {bl : List (List bZ)} {cl : Nat → Nat} {w : World} : ∀ {cs : List KC} {xs : List PV} {vs : List Value}, dK cs xs = true → aF bl cl w xs vs → nL cs xs vs := by
 intro cs
 induction cs with
 | nil =>
  intro xs vs h hv
  cases xs with
  | nil => simp only [aF] at hv; subst hv; exact .nil
  | cons x xs => simp [dK] at h
 | cons c cs ih =>
  intro xs vs h hv
  obtain ⟨x, xs, rfl, k1, h'⟩ := ig h
  clear h
  have h := h'
  simp only [aF] at hv
  obtain ⟨v, s, rfl, h1, _, h2⟩ := hv
  cases k1 <;> simp only [aj, aZ] at h1 <;> subst h1
  ·exact .cons (.int _ _) (ih h h2)
  ·exact .cons (.bool _) (ih h h2)
  ·exact .cons (.str _) (ih h h2)
theorem nL.rel {cs : List KC} {xs : List PV} {vs : List Value} (h : nL cs xs vs) (bl : List (List bZ)) (cl : Nat → Nat) (w : World) : aF bl cl w xs vs := by
 induction h with
 | nil => simp only [aF]
 | cons h1 _ ih =>
  simp only [aF]
  refine ⟨_, _, rfl, ?_, ?_, ih⟩
  ·cases h1 <;> simp only [aj, aZ]
  ·cases h1 <;> rfl
theorem nL.same {cs : List KC} {xs ys : List PV} {vs us : List Value} (h : nL cs xs vs) (k : nL cs ys us) (he : qh xs ys = true) : vs = us := by
 induction h generalizing ys us with
 | nil => cases k; rfl
 | cons h1 h2 ih =>
  cases k with
  | cons k1 k2 =>
   cases h1 <;> cases k1 <;> simp only [qh, Bool.and_eq_true] at he
   ·rw [ih k2 he.2]; simp only [beq_iff_eq] at he; rw [he.1]
   ·rw [ih k2 he.2]; simp only [beq_iff_eq] at he; rw [he.1]
   ·rw [ih k2 he.2, (bytes_beq _ _).1 he.1]
theorem Rj {kk : KK} {x y : PV} {v u : Value} {bl lK : List (List bZ)} {cl cl' : Nat → Nat} {w w' : World} (hx : fU kk x = true) (hy : fU kk y = true) (hv : aj bl cl w x v) (hu : aj lK cl' w' y u) (h : tT x y = true) : v = u := by
 unfold fU at hx
 split at hx
 ·rename_i k j n
  unfold fU at hy
  split at hy <;> first | (cases hy; done) | skip
  all_goals rename_i e
  all_goals first | (cases e; done) | skip
  all_goals first | cases e | skip
  obtain rfl := jr hx
  obtain rfl := jr hy
  simp only [aj, aZ] at hv hu
  simp only [tT, beq_iff_eq] at h
  subst hv hu h; rfl
 ·unfold fU at hy
  split at hy <;> first | (cases hy; done) | skip
  all_goals rename_i e
  all_goals first | (cases e; done) | skip
  simp only [aj, aZ] at hv hu
  simp only [tT] at h
  subst hv hu
  rw [(bytes_beq _ _).1 h]
 ·rename_i cs xs
  unfold fU at hy
  split at hy <;> first | (cases hy; done) | skip
  all_goals rename_i e
  all_goals first | (cases e; done) | skip
  cases e
  simp only [aj] at hv hu
  obtain ⟨vs, rfl, h1⟩ := hv
  obtain ⟨us, rfl, h2⟩ := hu
  rw [(iC hx h1).same (iC hy h2) h]
 ·cases hx
theorem NC {bl : List (List bZ)} {cl : Nat → Nat} {w : World} {kk : KK} {x : PV} {v : Value} (h : fU kk x = true) (hv : aj bl cl w x v) (lK : List (List bZ)) (cl' : Nat → Nat) (w' : World) : aj lK cl' w' x v := by
 unfold fU at h
 split at h
 ·simpa only [aj, aZ] using hv
 ·simpa only [aj, aZ] using hv
 ·simp only [aj] at hv ⊢
  obtain ⟨vs, h1, h2⟩ := hv
  exact ⟨vs, h1, (iC h h2).rel _ _ _⟩
 ·cases h
section
variable {P : Program} {Γ : Tab} {cf : CF}
theorem Rk (k : IntKind) : rH k k = true := by cases k <;> rfl
theorem xZ : ∀ {gs : List (Nat × Nat × Nat)} {cs : List KC} {xs ys : List PV}, Al Γ gs = some cs → dK cs xs = true → dK cs ys = true → xJ (real cf) Γ gs xs ys = some (qh xs ys)
 | [], cs, xs, ys, h, hx, hy => by
  cases h
  cases xs with
  | cons _ _ => simp [dK] at hx
  | nil => cases ys with
   | cons _ _ => simp [dK] at hy
   | nil => rfl
 | q :: gs, cs, xs, ys, h, hx, hy => by
  simp only [Al] at h
  have bb : ∀ a b : ByteArray, (a.toList == b.toList) = (a == b) := fun a b => by
   have e1 : (a.toList == b.toList) = true ↔ (a == b) = true := by
    rw [bytes_beq, beq_iff_eq]
    constructor
    ·intro h
     have : a.data.toList = b.data.toList := by rw [← ByteArray.toList_eq, ← ByteArray.toList_eq, h]
     exact ByteArray.ext (Array.ext' this)
    ·rintro rfl; rfl
   cases h1 : (a.toList == b.toList) <;> cases h2 : (a == b) <;> simp_all
  split at h
  ·rename_i k cs' hty hcs
   cases h
   obtain ⟨x, xs, rfl, k1, hx2⟩ := ig hx
   obtain ⟨y, ys, rfl, k2, hy2⟩ := ig hy
   cases k1; cases k2
   simp only [xJ, eqD, hty, Rk, cond_true, xZ hcs hx2 hy2, qh]
   rfl
  ·rename_i cs' hty hcs
   cases h
   obtain ⟨x, xs, rfl, k1, hx2⟩ := ig hx
   obtain ⟨y, ys, rfl, k2, hy2⟩ := ig hy
   cases k1; cases k2
   simp only [xJ, eqD, hty, xZ hcs hx2 hy2, qh]
  ·rename_i cs' hty hcs
   cases h
   obtain ⟨x, xs, rfl, k1, hx2⟩ := ig hx
   obtain ⟨y, ys, rfl, k2, hy2⟩ := ig hy
   cases k1; cases k2
   simp only [xJ, eqD, hty, xZ hcs hx2 hy2, qh]
   show some ((_ == _) && _) = _
   rw [bb]
  ·cases h
theorem yc (hΓ : cZ P Γ) {w : World} {em : Bool} (d : Nat) (xs : List Value) : ∀ (fs : List Field) (gs : List (Nat × Nat × Nat)) (cs : List KC) (us : List PV) (k : Nat), fs.length = gs.length →
  (∀ (j : Nat) f, fs[j]? = some f → f.offset = k + j ∧ f.name ≠ "_") → (∀ (j : Nat) f g, fs[j]? = some f → gs[j]? = some g → f.type = g.2.2) → Al Γ gs = some cs → nL cs us (xs.drop k) →
  ∀ f ∈ fs, f.name ≠ "_" ∧ ∃ p, (part f.type xs.toArray f.offset).run P w = .ok p w ∧ (Instr.checkKey em (d + 1) f.type p).run P w = .ok () w
 | [], gs, cs, us, k, _, _, _, _, _ => by simp
 | f :: fs, [], cs, us, k, hl, _, _, _, _ => by simp at hl
 | f :: fs, q :: gs, cs, us, k, hl, hf, ht, hc, hu => by
  obtain ⟨o1, n1⟩ := hf 0 f rfl
  have t1 := ht 0 f q rfl rfl
  simp only [Al] at hc
  have hty := hΓ.ty q.2.2
  unfold kD at hty
  have step : ∀ (cs' : List KC) (p : Value) (s : List Value) (us' : List PV), xs.drop k = p :: s → nL cs' us' s → Al Γ gs = some cs' →
    (part f.type xs.toArray f.offset).run P w = .ok p w → (Instr.checkKey em (d + 1) f.type p).run P w = .ok () w →
    ∀ f' ∈ f :: fs, f'.name ≠ "_" ∧ ∃ p, (part f'.type xs.toArray f'.offset).run P w = .ok p w ∧ (Instr.checkKey em (d + 1) f'.type p).run P w = .ok () w := by
   intro cs' p s us' hd hcs hk h1 h2
   have ih := yc hΓ (w := w) (em := em) d xs fs gs cs' us' (k + 1) (by simpa using hl) (fun j f' hj => by
      have := hf (j + 1) f' (by simpa using hj)
      exact ⟨by omega, this.2⟩) (fun j f' g' hj hg => ht (j + 1) f' g' (by simpa using hj) (by simpa using hg)) hk (by rw [← List.drop_drop, hd]; exact hcs)
   intro f' hf'
   rcases List.mem_cons.1 hf' with rfl | hf'
   ·exact ⟨n1, p, h1, h2⟩
   ·exact ih f' hf'
  have hx : ∀ p s, xs.drop k = p :: s → xs[f.offset]? = some p := fun p s e => by
   have : (xs.drop k)[0]? = some p := by rw [e]; rfl
   rw [o1]; simpa using this
  split at hc
  ·rename_i kd cs' hq hcs
   cases hc
   rw [hq] at hty; simp only at hty
   rw [← t1] at hty
   generalize hdr : xs.drop k = dr at hu
   cases hu with
   | cons hu1 hu2 =>
    cases hu1
    exact step _ _ _ _ hdr hu2 hcs (by simp [part, isAgg, run_underlying hty, hx _ _ hdr]) (by unfold Instr.checkKey; simp [run_underlying hty])
  ·rename_i cs' hq hcs
   cases hc
   rw [hq] at hty; simp only at hty
   rw [← t1] at hty
   generalize hdr : xs.drop k = dr at hu
   cases hu with
   | cons hu1 hu2 =>
    cases hu1
    exact step _ _ _ _ hdr hu2 hcs (by simp [part, isAgg, run_underlying hty, hx _ _ hdr]) (by unfold Instr.checkKey; simp [run_underlying hty])
  ·rename_i cs' hq hcs
   cases hc
   rw [hq] at hty; simp only at hty
   rw [← t1] at hty
   generalize hdr : xs.drop k = dr at hu
   cases hu with
   | cons hu1 hu2 =>
    cases hu1
    exact step _ _ _ _ hdr hu2 hcs (by simp [part, isAgg, run_underlying hty, hx _ _ hdr]) (by unfold Instr.checkKey; simp [run_underlying hty])
  ·cases hc
theorem Cz {A : Type} {w : World} {body : A → PUnit → Sem (ForInStep PUnit)} : ∀ {l : List A}, (∀ x ∈ l, (body x PUnit.unit).run P w = .ok (.yield PUnit.unit) w) → (forIn l PUnit.unit body : Sem PUnit).run P w = .ok () w
 | [], _ => by simp
 | x :: l, h => by
  simp only [List.forIn_cons, Sem.run_bind, h x (by simp), Result.andThen_ok]
  exact Cz fun y hy => h y (by simp [hy])
theorem CB (hΓ : cZ P Γ) {kt : Nat} {kk : KK} (h : rO Γ kt = some kk) : (P.underlying kt = some (wN kk) ∧ ∀ cs, kk ≠ .agg cs) ∨ ∃ n fs cs, kk = .agg cs ∧ Γ.ty kt = .agg n fs ∧ Al Γ fs = some cs ∧ SI P kt := by
 have ht := hΓ.ty kt
 unfold kD at ht
 unfold rO at h
 split at h
 ·rename_i hty; cases h; simp only [hty] at ht; exact .inl ⟨ht, fun cs h => by cases h⟩
 ·rename_i k hty; cases h; simp only [hty] at ht; exact .inl ⟨ht, fun cs h => by cases h⟩
 ·rename_i n fs hty
  cases he : Γ.eqs kt with
  | false => simp [he] at h
  | true =>
   simp only [he, cond_true] at h
   split at h
   ·rename_i cs hcs
    cases h
    exact .inr ⟨n, fs, cs, rfl, hty, hcs, hΓ.eq kt he⟩
   ·cases h
 ·cases h
theorem Ti {kk : KK} {x : PV} {v : Value} {bl : List (List bZ)} {cl : Nat → Nat} {w : World} (hk : ∀ cs, kk ≠ .agg cs) (h : fU kk x = true) (hv : aj bl cl w x v) : IsKey (wN kk) v := by
 unfold fU at h
 split at h
 ·rename_i k j n
  simp only [aj, aZ] at hv
  subst hv
  exact (jr h).symm
 ·simp only [aj, aZ] at hv
  subst hv
  trivial
 ·exact absurd rfl (hk _)
 ·cases h
theorem uw {bl : List (List bZ)} {cl : Nat → Nat} {w w0 : World} {em : Bool} (hΓ : cZ P Γ) {kt : Nat} {kk : KK} (h : rO Γ kt = some kk) {x : PV} {v : Value} (hx : fU kk x = true) (hv : aj bl cl w0 x v) : (Instr.checkKey em 10000 kt v).run P w = .ok () w := by
 rcases CB hΓ h with ⟨h1, h2⟩ | ⟨n, fs, cs, rfl, hty, hcs, heq⟩
 ·exact run_checkKey h1 (Ti h2 hx hv) em 9999
 ·unfold fU at hx
  split at hx
  ·rename_i e; cases e
  ·rename_i e; cases e
  ·rename_i cs' xs e
   cases e
   simp only [aj] at hv
   obtain ⟨vs, rfl, h1⟩ := hv
   have ht := hΓ.ty kt
   unfold kD at ht
   rw [hty] at ht
   simp only at ht
   obtain ⟨fields, e1, _, e2, e3⟩ := ht
   have ef : P.fieldsOf kt = fields := by unfold Program.fieldsOf; rw [e1]
   have hr := yc hΓ (w := w) (em := em) 9998 vs fields.toList fs cs xs 0 (by simpa using e2) (fun j f hj => by
    have := heq.abA j f (by rw [ef]; exact hj)
    exact ⟨by omega, this.2⟩) (fun j f g hj hg => (e3 j f g (by simpa using hj) hg).2.1) hcs (by simpa using iC hx h1)
   unfold Instr.checkKey
   simp only [Sem.run_bind, run_underlying e1, Result.andThen_ok]
   rw [← Array.forIn_toList]
   rw [Cz (P := P) (w := w) fun f hf => by
    obtain ⟨q1, p, q2, q3⟩ := hr f hf
    simp [q1, q2, q3]]
   simp
  ·cases hx
def Bf (P : Program) (kk : KK) (kt : TypeId) (w : World) (k : Value) (l : List MapEntry) (i : Nat) (res : Option (Nat × Value)) : Prop :=
 match kk with
 | .agg _ => (Instr.findAsking kt k l i).run P w = .ok res w
 | kk => Instr.findNow (wN kk) k l i = some res
def Same (P : Program) (kk : KK) (kt : TypeId) (w : World) (k k' : Value) (b : Bool) : Prop :=
 match kk with
 | .agg _ => (Op.equal kt k k').run P w = .ok b w
 | kk => Instr.sameNow (wN kk) k k' = some b
theorem KL {kk : KK} {kt : TypeId} {w : World} {k : Value} {i : Nat} : Bf P kk kt w k [] i none := by
 cases kk <;> simp [Bf, Instr.findAsking, Instr.findNow]
theorem Tj {kk : KK} {kt : TypeId} {w : World} {k : Value} {i : Nat} {e : MapEntry} {l : List MapEntry} (h : Same P kk kt w k e.key true) : Bf P kk kt w k (e :: l) i (some (i, e.val)) := by
 cases kk <;> simp only [Same] at h <;> simp [Bf, Instr.findAsking, Instr.findNow, h]
theorem FL {kk : KK} {kt : TypeId} {w : World} {k : Value} {i : Nat} {e : MapEntry} {l : List MapEntry} {res : Option (Nat × Value)} (h : Same P kk kt w k e.key false) (h2 : Bf P kk kt w k l (i + 1) res) : Bf P kk kt w k (e :: l) i res := by
 cases kk <;> simp only [Same] at h <;> simp only [Bf] at h2 <;> simp [Bf, Instr.findAsking, Instr.findNow, h, h2]
theorem oH (hΓ : cZ P Γ) {kt : Nat} {kk : KK} (h : rO Γ kt = some kk) {w : World} {k : Value} {l : List MapEntry} {res : Option (Nat × Value)} (hs : Bf P kk kt w k l 0 res) : (Instr.findKey kt k l).run P w = .ok res w := by
 rcases CB hΓ h with ⟨h1, h2⟩ | ⟨n, fs, cs, rfl, hty, hcs, heq⟩
 ·have hs' : Instr.findNow (wN kk) k l 0 = some res := by
   cases kk with
   | agg cs => exact absurd rfl (h2 cs)
   | _ => exact hs
  exact run_findKey h1 hs'
 ·simp only [Bf] at hs
  cases l with
  | nil =>
   simp only [Instr.findAsking, Sem.run_pure, Result.ok.injEq, and_true] at hs
   simp [Instr.findKey, run_underlying heq.ty, Instr.findNow, hs]
  | cons e l =>
   simp [Instr.findKey, run_underlying heq.ty, Instr.findNow, Instr.sameNow]
   exact hs
theorem Tk (cf : CF) (hΓ : cZ P Γ) {kt : Nat} {kk : KK} (h : rO Γ kt = some kk) {x y : PV} {v u : Value} {bl lK : List (List bZ)} {cl cl' : Nat → Nat} {w1 w2 w : World} (hx : fU kk x = true) (hy : fU kk y = true) (hv : aj bl cl w1 x v) (hu : aj lK cl' w2 y u) : Same P kk kt w v u (tT x y) := by
 rcases CB hΓ h with ⟨h1, h2⟩ | ⟨n, fs, cs, rfl, hty, hcs, heq⟩
 ·cases kk with
  | agg cs => exact absurd rfl (h2 cs)
  | str =>
   unfold fU at hx hy
   split at hx <;> first | (cases hx; done) | skip
   all_goals rename_i e1
   all_goals first | (cases e1; done) | skip
   split at hy <;> first | (cases hy; done) | skip
   all_goals rename_i e2
   all_goals first | (cases e2; done) | skip
   simp_all [aj, aZ, Instr.sameNow, wN, tT, Same]
  | int k =>
   unfold fU at hx hy
   split at hx <;> first | (cases hx; done) | skip
   all_goals rename_i e1
   all_goals first | (cases e1; done) | skip
   cases e1
   split at hy <;> first | (cases hy; done) | skip
   all_goals rename_i e2
   all_goals first | (cases e2; done) | skip
   cases e2
   obtain rfl := jr hx
   obtain rfl := jr hy
   simp only [aj, aZ] at hv hu
   subst hv; subst hu
   simp [Instr.sameNow, wN, tT, Same]
 ·unfold fU at hx hy
  split at hx <;> first | (cases hx; done) | skip
  all_goals rename_i e1
  all_goals first | (cases e1; done) | skip
  cases e1
  split at hy <;> first | (cases hy; done) | skip
  all_goals rename_i e2
  all_goals first | (cases e2; done) | skip
  cases e2
  simp only [aj] at hv hu
  obtain ⟨vs, rfl, g1⟩ := hv
  obtain ⟨us, rfl, g2⟩ := hu
  exact QY (cf := cf) (bl := bl) (cl := cl) hΓ heq hty ((iC hx g1).rel _ _ _) ((iC hy g2).rel _ _ _) (xZ hcs hx hy)
theorem Tm {kk : KK} {x : PV} {v : Value} {bl : List (List bZ)} {cl : Nat → Nat} {w : World} (hx : fU kk x = true) (hv : aj bl cl w x v) : Instr.sameBits 10000 v v = true := by
 unfold fU at hx
 split at hx
 ·simp only [aj, aZ] at hv
  subst hv
  simp [Instr.sameBits]
 ·simp only [aj, aZ] at hv
  subst hv
  simp [Instr.sameBits, bytes_beq]
 ·simp only [aj] at hv
  obtain ⟨vs, rfl, h1⟩ := hv
  have h2 := iC hx h1
  have : ∀ {cs : List KC} {xs : List PV} {vs : List Value}, nL cs xs vs → ((vs.zip vs).all fun (x, y) => Instr.sameBits 9999 x y) = true := by
   intro cs xs vs h
   induction h with
   | nil => rfl
   | cons h1 _ ih =>
    simp only [List.zip_cons_cons, List.all_cons, ih, Bool.and_true]
    cases h1 <;> simp [Instr.sameBits, bytes_beq]
  simp only [Instr.sameBits, beq_self_eq_true, Bool.true_and]
  exact this h2
 ·cases hx
end
section
variable {P : Program} {Γ : Tab} {kk : KK} {bl lK : List (List bZ)} {cl cl' : Nat → Nat} {w w' w0 : World} {kt : Nat}
theorem yg {x : PV} {k : Value} (hΓ : cZ P Γ) (hkk : rO Γ kt = some kk) (hx : fU kk x = true) (hk : aj lK cl' w' x k) : ∀ {es : List (PV × PV)} {l : List MapEntry} (i : Nat), eF kk bl cl w es l →
  (∃ j e v, Bf P kk kt w0 k l i (some (i + j, e.val)) ∧ l[j]? = some e ∧ e.key = k ∧ sW es x = some v ∧ aj bl cl w v e.val ∧ Fp v = true ∧ eF kk bl cl w (Bb es x) (l.eraseIdx j) ∧
   ∀ y u, aj bl cl w y u → aj bl cl w x k → Fp y = true → eF kk bl cl w (tV es x y) (l.set j { e with key := k, val := u })) ∨
  (Bf P kk kt w0 k l i none ∧ sW es x = none ∧ Bb es x = es ∧ ∀ y u b, aj bl cl w y u → aj bl cl w x k → Fp y = true → eF kk bl cl w (tV es x y) (l ++ [⟨k, u, b⟩]))
 | [], l, i, h => by
  simp only [eF] at h
  subst h
  refine .inr ⟨KL, rfl, rfl, fun y u b hy hxk ho => ?_⟩
  simp only [tV, List.nil_append, eF]
  exact ⟨_, [], rfl, hx, hxk, hy, ho, rfl⟩
 | q :: es, l, i, h => by
  simp only [eF] at h
  obtain ⟨e, s, rfl, h1, h2, h3, h4, h5⟩ := h
  have hs := Tk (P := P) (w := w0) (fun _ _ _ => none) hΓ hkk hx h1 hk h2
  cases hb : tT x q.1 with
  | true =>
   rw [hb] at hs
   have hke := Rj hx h1 hk h2 hb
   refine .inl ⟨0, e, q.2, Tj hs, rfl, hke.symm, by simp [sW, hb], h3, h4, by simpa [Bb, hb] using h5, fun y u hy hxk ho => ?_⟩
   simp only [tV, hb, if_true, List.set_cons_zero, eF]
   exact ⟨_, s, rfl, hx, hxk, hy, ho, h5⟩
  | false =>
   rw [hb] at hs
   rcases yg hΓ hkk hx hk (i + 1) h5 with ⟨j, e', v, g1, g2, g3, g4, g5, g6, g7, g8⟩ | ⟨g1, g2, g3, g4⟩
   ·refine .inl ⟨j + 1, e', v, by have := FL hs g1; rw [show i + 1 + j = i + (j + 1) by omega] at this; exact this, by simpa using g2, g3, by simp [sW, hb, g4], g5, g6, ?_, fun y u hy hxk ho => ?_⟩
    ·simp only [Bb, hb, Bool.false_eq_true, if_false, List.eraseIdx_cons_succ, eF]
     exact ⟨e, _, rfl, h1, h2, h3, h4, g7⟩
    ·simp only [tV, hb, Bool.false_eq_true, if_false, List.set_cons_succ, eF]
     exact ⟨e, _, rfl, h1, h2, h3, h4, g8 y u hy hxk ho⟩
   ·refine .inr ⟨FL hs g1, by simp [sW, hb, g2], by simp [Bb, hb, g3], fun y u b hy hxk ho => ?_⟩
    simp only [tV, hb, Bool.false_eq_true, if_false, List.cons_append, eF]
    exact ⟨e, _, rfl, h1, h2, h3, h4, g4 y u b hy hxk ho⟩
theorem eF.len : ∀ {es : List (PV × PV)} {l : List MapEntry}, eF kk bl cl w es l → l.length = es.length
 | [], l, h => by simp only [eF] at h; subst h; rfl
 | q :: es, l, h => by
  simp only [eF] at h
  obtain ⟨e, s, rfl, _, _, _, _, h5⟩ := h
  simp [h5.len]
end
section
variable {R : Type} {P : Program} {Γ : Tab} {cf : CF} {an : iG} {o : Oper} {a : Act} {w : World} {m : Mt} {K : PV → St → Option R} {r : R} {st : St} {ρ : Env}
theorem FM (hΓ : cZ P Γ) {t : Nat} {z : PV} (h : pack Γ t (ds (Γ.zero t)) = some z) (bl : List (List bZ)) (cl : Nat → Nat) : ∃ i v, P.info? t = some i ∧ i.zero = some v ∧ aj bl cl w z v := by
 have hne : Γ.zero t ≠ [] ∨ ∃ n fs, Γ.ty t = .agg n fs := by
  by_cases h0 : Γ.zero t = []
  ·right
   unfold pack at h
   rw [h0] at h
   split at h
   ·rename_i n fs hty; exact ⟨n, fs, hty⟩
   ·cases h
   ·cases h
   ·simp [ds, xH] at h
  ·exact .inl h0
 by_cases h0 : Γ.zero t = []
 ·
  rcases hne with h1 | ⟨n, fs, hty⟩
  ·exact absurd h0 h1
  ·obtain ⟨i, q1, q2⟩ := hΓ.unit t fs (by
    unfold pack at h
    simp only [hty, h0, ds, List.length_nil] at h
    cases hb : Nat.ble n 0 with
    | false => simp [hb] at h
    | true => rw [hty, Nat.le_zero.1 (Nat.le_of_ble_eq_true hb)])
   refine ⟨i, _, q1, q2, ?_⟩
   unfold pack at h
   simp only [hty, h0, ds, List.length_nil, List.take_nil] at h
   cases hb : Nat.ble n 0 with
   | false => simp [hb] at h
   | true =>
    simp only [hb, cond_true, Option.some.injEq] at h
    subst h
    simp only [aj, aF]
    exact ⟨[], rfl, rfl⟩
 obtain ⟨i, v, q1, q2, q3, q4, q5, q6⟩ := hΓ.zero t h0
 refine ⟨i, v, q1, q2, ?_⟩
 have hl := q5 cl w
 unfold pack at h
 split at h
 ·rename_i n fs hty
  simp only [hty] at q6
  cases hb : Nat.ble n (ds (Γ.zero t)).length with
  | false => simp [hb] at h
  | true =>
   simp only [hb, cond_true, Option.some.injEq] at h
   subst h
   simp only [aj]
   refine ⟨v.cells.toList, by rw [Array.toArray_toList]; exact q6.1, ?_⟩
   have : (ds (Γ.zero t)).take n = ds (Γ.zero t) := List.take_of_length_le (by rw [Nh]; omega)
   rw [this]
   exact aK.cells hl
 ·cases h
 ·cases h
 ·rename_i hna _ _
  have q6' : v.cells = #[v] := by
   split at q6
   ·rename_i n fs hty; exact absurd hty (hna n fs)
   ·exact q6
  rw [q6'] at hl
  cases hz : Γ.zero t with
  | nil => exact absurd hz h0
  | cons d rest =>
   rw [hz] at hl h
   simp only [ds, xH, Option.some.injEq] at h
   subst h
   simp only [bR] at hl
   obtain ⟨u, s, h1, h2, _⟩ := hl
   simp only [List.cons.injEq] at h1
   obtain ⟨rfl, _⟩ := h1
   simpa only [aj] using h2
theorem uy {t k e : Nat} (hΓ : cZ P Γ) (h : Γ.ty t = .map k e) : P.underlying t = some (.map k e) := by
 have ht := hΓ.ty t
 unfold kD at ht
 simpa only [h] using ht
theorem KM (hΓ : cZ P Γ) (he : aM m w ρ a) (hw : aO m st w) {t : TypeId} {x y : Operand} {ok : Bool} (hop : o.op = .lookup t x y ok)
  (h : evalOp (real cf) Γ an ρ st o.dst o.op K = some r) : Goes P o a w m K r := by
 rw [hop] at h
 simp only [evalOp] at h
 have hp := bV he x
 have hq := bV he y
 split at h
 ·rename_i kt et hty
  split at h
  ·rename_i kk hkk
   have hm := uy hΓ hty
   unfold og at h
   dsimp only at h
   cases hok : fU kk (ev ρ y) with
   | false => simp [hok] at h
   | true =>
   simp only [hok, cond_true] at h
   have hkey := fun (em : Bool) => uw (em := em) (w := w) hΓ hkk hok hq
   have ND : ∀ (z : PV) (v : Value) (b : Bool), aj m.blk m.cl w z v → aj m.blk m.cl w (bif ok then .pG [z, .d (.bool b)] else z) (if ok then .tuple #[v, .bool b] else v) := by
    intro z v b hz
    cases ok
    ·exact hz
    ·simp only [cond_true, if_true, aj]
     exact ⟨[v, .bool b], rfl, by simp only [aK, aj, aZ]; exact ⟨v, _, rfl, hz, _, _, rfl, rfl, rfl⟩⟩
   split at h
   ·rename_i z hmm hz
    rw [hmm] at hp; simp only [aj, aZ] at hp
    obtain ⟨i, v, z1, z2, z3⟩ := FM (w := w) hΓ hz m.blk m.cl
    have hrun : (execOp a.eval o).run P w = .ok (.value (if ok then .tuple #[v, .bool false] else v)) w := by
     simp [execOp, hop, hp, Instr.lookup, run_underlying hm, hkey, oH hΓ hkk (l := []) (k := a.eval y) (w := w) KL, zeroValue, typeInfo, z1, z2]
    exact Goes.value hrun h hw (ND z v false z3)
   ·rename_i l i z hmm hz
    rw [hmm] at hp; simp only [aj] at hp
    obtain ⟨e, p1, p0, p2⟩ := hp
    obtain ⟨iz, v, z1, z2, z3⟩ := FM (w := w) hΓ hz m.blk m.cl
    split at h
    ·rename_i Bt fl es hl
     obtain ⟨e', k3, k4⟩ := hw.st.je hl
     rw [p1] at k3; cases k3
     simp only [aL] at k4
     obtain ⟨g1, g2, gf, ents, clock, g3, g4⟩ := k4
     cases hkq : Ba kk Bt with
     | false => simp [hkq] at h
     | true =>
     simp only [hkq, cond_true, mP] at h
     obtain rfl := Ij hkq
     rcases yg (w0 := w) hΓ hkk hok hq 0 g4 with ⟨j, en, v', f1, f2, f3, f4, f5, f6, f7, f8⟩ | ⟨f1, f2, f3, f4⟩
     ·have e1 : (real cf).find es (ev ρ y) = some v' := f4
      rw [e1] at h
      dsimp only at h
      have hrun : (execOp a.eval o).run P w = .ok (.value (if ok then .tuple #[en.val, .bool true] else en.val)) w := by
       simp [execOp, hop, p2, Instr.lookup, run_underlying hm, Go.MapKept.run_getObj_map g3, hkey, oH hΓ hkk f1]
      exact Goes.value hrun h hw (ND _ _ true (uf l _ _ f5))
     ·have e1 : (real cf).find es (ev ρ y) = none := f2
      rw [e1] at h
      dsimp only at h
      have hrun : (execOp a.eval o).run P w = .ok (.value (if ok then .tuple #[v, .bool false] else v)) w := by
       simp [execOp, hop, p2, Instr.lookup, run_underlying hm, Go.MapKept.run_getObj_map g3, hkey, oH hΓ hkk f1, zeroValue, typeInfo, z1, z2]
      exact Goes.value hrun h hw (ND z v false z3)
    ·cases h
   ·cases h
  ·cases h
 ·cases h
theorem NG : ∀ {cs : List KC} {l : List PV}, dK cs l = true → tK l = true := by
 intro cs
 induction cs with
 | nil => intro l h; cases l with
  | nil => rfl
  | cons x l => simp [dK] at h
 | cons c cs ih =>
  intro l h
  obtain ⟨x, xs, rfl, k1, h2⟩ := ig h
  cases k1 <;> (show tK xs = true; exact ih h2)
theorem Tn {kk : KK} {k : PV} (h : fU kk k = true) : sU k = true := by
 cases k with
 | d x => rfl
 | agg l => cases kk with
  | agg cs => exact NG h
  | _ => simp [fU] at h
 | _ => cases kk <;> simp [fU] at h
theorem FN {k v : PV} (hk : sU k = true) : ∀ {es : List (PV × PV)}, ng es = true → sU v = true → ng (tV es k v) = true
 | [], _, hv => by simp [tV, ng, hk, hv]
 | (a, b) :: r, h, hv => by
  simp only [ng, Bool.and_eq_true] at h
  simp only [tV]
  split
  ·simp [ng, hk, hv, h.2]
  ·simp only [ng, Bool.and_eq_true]
   exact ⟨h.1, FN hk h.2 hv⟩
theorem FP {k : PV} : ∀ {es : List (PV × PV)}, ng es = true → ng (Bb es k) = true
 | [], _ => rfl
 | (a, b) :: r, h => by
  simp only [ng, Bool.and_eq_true] at h
  simp only [Bb]
  split
  ·exact h.2
  ·simp only [ng, Bool.and_eq_true]
   exact ⟨h.1, FP h.2⟩
theorem Ik (hw : aO m st w) {x : PV} {v : Value} (hv : aj m.blk m.cl w x v) {cs : List PV} {st1 : St} (hf : freezes (real cf) st (unpack x) = (cs, st1)) :
  ∃ m1, Ext m w m1 w ∧ aO m1 st1 w ∧ st1.length = st.length ∧ ∀ n, bU (up.ups n cs) = true → aj (mG m1.blk n) m1.cl w (nK x (up.ups n cs)) v ∧ Fp (nK x (up.ups n cs)) = true := by
 rcases rX hv (.inr (.inr (.inr trivial))) with ⟨l, rfl, h2⟩ | ⟨hne, h2⟩
 ·obtain ⟨m1, x1, w1, v1, n1⟩ := gQ hw h2 hf
  refine ⟨m1, x1, w1, n1, fun n hok => ?_⟩
  simp only [nK, aj, Fp]
  simp only [aj] at hv
  obtain ⟨vs, rfl, _⟩ := hv
  refine ⟨⟨vs, rfl, ?_⟩, hok⟩
  have := jl hok (qK n _ _ v1)
  simpa [Value.cells] using this
 ·rw [h2] at hf
  obtain ⟨m1, x1, w1, v1, n1⟩ := gQ hw (l := [x]) (vs := [v]) ⟨v, [], rfl, hv, rfl⟩ hf
  refine ⟨m1, x1, w1, n1, fun n hok => ?_⟩
  have hl := v1.len
  match cs, hl, v1 with
  | [y], _, v1 =>
   simp only [aK] at v1
   obtain ⟨u, s, h3, h4, h5⟩ := v1
   simp only [List.cons.injEq] at h3
   obtain ⟨rfl, rfl⟩ := h3
   rw [Ig] at hok ⊢
   have hy : iI (up n y) = true := by
    cases hc : iI (up n y) with
    | true => rfl
    | false => simp [bU, hc] at hok
   have h6 := zq n y v h4
   have hr : nK x [up n y] = up n y := by
    cases x with
    | agg l => exact absurd rfl (hne l)
    | _ => rfl
   rw [hr]
   refine ⟨h6, ?_⟩
   cases hu : up n y <;> rw [hu] at hy <;> first | rfl | (simp [iI] at hy)
theorem CG (hΓ : cZ P Γ) (he : aM m w ρ a) (hw : aO m st w) {t : TypeId} {x y z : Operand} (hop : o.op = .mapUpdate t x y z)
  (h : evalOp (real cf) Γ an ρ st o.dst o.op K = some r) : Goes P o a w m K r := by
 rw [hop] at h
 simp only [evalOp] at h
 have hp := bV he x
 have hq := bV he y
 have hz := bV he z
 split at h
 ·rename_i kt et hty
  split at h
  ·rename_i kk l i hkk hx
   have hm := uy hΓ hty
   obtain ⟨vs, st1, hf, hz⟩ := gT h
   clear h
   have h := hz
   clear hz
   try dsimp only at h
   obtain ⟨m1, x1, w1, n1, hval⟩ := Ik hw hz hf
   have hp1 := hp.ext x1
   rw [hx] at hp1; simp only [aj] at hp1
   obtain ⟨e, p1, p0, p2⟩ := hp1
   split at h
   ·rename_i Bt fl es hl
    obtain ⟨e', k3, k4⟩ := w1.st.je hl
    rw [p1] at k3; cases k3
    simp only [aL] at k4
    obtain ⟨g1, g2, gf, ents, clock, g3, g4⟩ := k4
    cases hkq : Ba kk Bt with
    | false => simp [hkq] at h
    | true =>
    cases hok : fU kk (ev ρ y) with
    | false => simp [hkq, hok] at h
    | true =>
    cases hco : bU (up.ups l vs) with
    | false => simp [hkq, hok, hco] at h
    | true =>
    cases XH : (bif fl then sU (nK (ev ρ z) (up.ups l vs)) else true) with
    | false => simp [hkq, hok, hco, XH] at h
    | true =>
    simp only [hkq, hok, hco, XH, cond_true, zn] at h
    have Tp : fl = true → ng (tV es (ev ρ y) (nK (ev ρ z) (up.ups l vs))) = true := fun hfl => by
     subst hfl
     exact FN (Tn hok) (gf rfl) (by simpa using XH)
    obtain rfl := Ij hkq
    have hkey := fun (em : Bool) => uw (em := em) (w := w) hΓ hkk hok hq
    obtain ⟨hv1, hv2⟩ := hval l hco
    have finish : ∀ (qM : Array MapEntry) (clock' : Nat), (execOp a.eval o).run P w = .ok .skip { w with heap := w.heap.setIfInBounds e.b (.map qM clock') } →
      eF kk (mG m1.blk l) m1.cl w (tV es (ev ρ y) (nK (ev ρ z) (up.ups l vs))) qM.toList → Goes P o a w m K r := by
     intro qM clock' hrun hrel
     have hset := heap_set (o' := .map qM clock') g3
     obtain ⟨m2, rfl, x2, w2⟩ := w1.put (l := l) (i := i) (w' := { w with heap := w.heap.setIfInBounds e.b (.map qM clock') }) p1 (ku g1)
      (fun b hb => hset.2 b hb) (fun a ha => by simp only [World.frozen?, ha, hset.1, g3]) (by simp) rfl rfl rfl (o := .map kk fl (tV es (ev ρ y) (nK (ev ρ z) (up.ups l vs)))) (e' := e) rfl (jA.refl e) (n := 0) (by rw [g2]; exact Nat.le_refl _) (Nat.zero_le _) (fun j hj => by rw [g2] at hj; omega)
      (fun hk he => by
       simp only [aL, if_true]
       exact ⟨g1, trivial, Tp, qM, clock', hset.1, hrel.keep hk (bG.mG l he)⟩)
     exact Goes.skip' hrun h (x1.trans x2) w2
    have hqu := NC hok hq (mG m1.blk l) m1.cl w
    rcases yg (w0 := w) hΓ hkk hok hq 0 g4 with ⟨j, en, v', f1, f2, f3, f4, f5, f6, f7, f8⟩ | ⟨f1, f2, f3, f4⟩
    ·refine finish (ents.modify j fun e => { e with key := a.eval y, val := a.eval z }) clock ?_ ?_
     ·have hsame : Instr.sameBits 10000 (a.eval y) (a.eval y) = true := Tm hok hq
      have f2' : ents[j]? = some en := by simpa using f2
      simp [execOp, hop, p2, Instr.mapUpdate, run_underlying hm, Go.MapKept.run_getObj_map g3, hkey, oH hΓ hkk f1, f2', f3, Instr.keyThatStays, hsame, Go.MapKept.run_setObj_map _ g3]
     ·have f2' : ents.toList[j]? = some en := f2
      have hj := (List.getElem?_eq_some_iff.1 f2').1
      have e1 : (ents.modify j fun e => { e with key := a.eval y, val := a.eval z }).toList = ents.toList.set j { en with key := a.eval y, val := a.eval z } := by
       apply List.ext_getElem?
       intro n
       by_cases hn : j = n
       ·subst hn
        rw [List.getElem?_set_self hj]
        have agE : ents[j]? = some en := by simpa using f2
        simp [Array.getElem?_modify, agE]
       ·rw [List.getElem?_set_ne hn]
        simp [Array.getElem?_modify, hn]
      rw [e1]
      exact f8 _ _ hv1 hqu hv2
    ·refine finish (ents.push ⟨a.eval y, a.eval z, clock⟩) (clock + 1) ?_ ?_
     ·simp [execOp, hop, p2, Instr.mapUpdate, run_underlying hm, Go.MapKept.run_getObj_map g3, hkey, oH hΓ hkk f1, Go.MapKept.run_setObj_map _ g3]
     ·rw [Array.toList_push]
      exact f4 _ _ _ hv1 hqu hv2
   ·cases h
  ·cases h
 ·cases h
end
end Go.X
