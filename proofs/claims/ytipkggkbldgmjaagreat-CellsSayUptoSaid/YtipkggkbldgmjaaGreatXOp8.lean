/- Maps. -/
import Derived.Test.YtipkggkbldgmjaaGreatXOp7
import Derived.Test.YtipkggkbldgmjaaGreatXEq
import Derived.MapKept
namespace Go.X
open Go Go.MapKept
set_option linter.unusedSectionVars false
set_option linter.unusedSimpArgs false
set_option linter.unusedVariables false
variable [eY]
def zH : KK → TypeDesc
 | .str => .string
 | .int k => .int k
 | .agg _ => .bool
theorem BF : ∀ {a b : List KC}, mg a b = true → a = b
 | [], [], _ => rfl
 | .int j :: a, .int k :: b, h => by
  simp only [mg] at h
  cases hi : sN j k with
  | false => simp [hi] at h
  | true => simp only [hi, cond_true] at h; rw [jR hi, BF h]
 | .bool :: a, .bool :: b, h => by simp only [mg] at h; rw [BF h]
 | .str :: a, .str :: b, h => by simp only [mg] at h; rw [BF h]
 | [], .int _ :: _, h => by simp [mg] at h
 | [], .bool :: _, h => by simp [mg] at h
 | [], .str :: _, h => by simp [mg] at h
 | .int _ :: _, [], h => by simp [mg] at h
 | .int _ :: _, .bool :: _, h => by simp [mg] at h
 | .int _ :: _, .str :: _, h => by simp [mg] at h
 | .bool :: _, [], h => by simp [mg] at h
 | .bool :: _, .int _ :: _, h => by simp [mg] at h
 | .bool :: _, .str :: _, h => by simp [mg] at h
 | .str :: _, [], h => by simp [mg] at h
 | .str :: _, .int _ :: _, h => by simp [mg] at h
 | .str :: _, .bool :: _, h => by simp [mg] at h
theorem Oe {a b : KK} (h : FY a b = true) : a = b := by
 cases a <;> cases b <;> simp [FY] at h ⊢
 ·exact jR h
 ·exact BF h
inductive Xg : KC → PV → Value → Prop
 | int (k : IntKind) (n : Int) : Xg (.int k) (.d (.int k n)) (.int k n)
 | bool (b : Bool) : Xg .bool (.d (.bool b)) (.bool b)
 | str (s : ByteArray) : Xg .str (.d (.str s)) (.string s)
inductive nR : List KC → List PV → List Value → Prop
 | nil : nR [] [] []
 | cons {c : KC} {x : PV} {v : Value} {cs : List KC} {xs : List PV} {vs : List Value} : Xg c x v → nR cs xs vs → nR (c :: cs) (x :: xs) (v :: vs)
inductive K1 : KC → PV → Prop
 | int (k : IntKind) (n : Int) : K1 (.int k) (.d (.int k n))
 | bool (b : Bool) : K1 .bool (.d (.bool b))
 | str (s : ByteArray) : K1 .str (.d (.str s))
theorem KY {c : KC} {x : PV} {cs : List KC} {xs : List PV} (h : fC (c :: cs) (x :: xs) = true) : K1 c x ∧ fC cs xs = true := by
 cases c with
 | int k => cases x with
  | d d => cases d with
   | int j n =>
    simp only [fC] at h
    cases hi : sN k j with
    | false => simp [hi] at h
    | true =>
     simp only [hi, cond_true] at h
     obtain rfl := jR hi
     exact ⟨.int _ _, h⟩
   | _ => simp [fC] at h
  | _ => simp [fC] at h
 | bool => cases x with
  | d d => cases d with
   | bool b => simp only [fC] at h; exact ⟨.bool _, h⟩
   | _ => simp [fC] at h
  | _ => simp [fC] at h
 | str => cases x with
  | d d => cases d with
   | str b => simp only [fC] at h; exact ⟨.str _, h⟩
   | _ => simp [fC] at h
  | _ => simp [fC] at h
theorem jf {c : KC} {cs : List KC} {l : List PV} (h : fC (c :: cs) l = true) : ∃ x xs, l = x :: xs ∧ K1 c x ∧ fC cs xs = true := by
 cases l with
 | nil => cases c <;> simp [fC] at h
 | cons x xs => exact ⟨x, xs, rfl, KY h⟩
theorem ji {bl : List (List eD)} {cl : Nat → Nat} {w : World} : ∀ {cs : List KC} {xs : List PV} {vs : List Value}, fC cs xs = true → aZ bl cl w xs vs → nR cs xs vs := by
 intro cs
 induction cs with
 | nil =>
  intro xs vs h hv
  cases xs with
  | nil => simp only [aZ] at hv; subst hv; exact .nil
  | cons x xs => simp [fC] at h
 | cons c cs ih =>
  intro xs vs h hv
  obtain ⟨x, xs, rfl, k1, h'⟩ := jf h
  clear h
  have h := h'
  simp only [aZ] at hv
  obtain ⟨v, s, rfl, h1, _, h2⟩ := hv
  cases k1 <;> simp only [ay, bY] at h1 <;> subst h1
  ·exact .cons (.int _ _) (ih h h2)
  ·exact .cons (.bool _) (ih h h2)
  ·exact .cons (.str _) (ih h h2)
theorem nR.rel {cs : List KC} {xs : List PV} {vs : List Value} (h : nR cs xs vs) (bl : List (List eD)) (cl : Nat → Nat) (w : World) : aZ bl cl w xs vs := by
 induction h with
 | nil => simp only [aZ]
 | cons h1 _ ih =>
  simp only [aZ]
  refine ⟨_, _, rfl, ?_, ?_, ih⟩
  ·cases h1 <;> simp only [ay, bY]
  ·cases h1 <;> rfl
theorem nR.same {cs : List KC} {xs ys : List PV} {vs us : List Value} (h : nR cs xs vs) (k : nR cs ys us) (he : qW xs ys = true) : vs = us := by
 induction h generalizing ys us with
 | nil => cases k; rfl
 | cons h1 h2 ih =>
  cases k with
  | cons k1 k2 =>
   cases h1 <;> cases k1 <;> simp only [qW, Bool.and_eq_true] at he
   ·rw [ih k2 he.2]; simp only [beq_iff_eq] at he; rw [he.1]
   ·rw [ih k2 he.2]; simp only [beq_iff_eq] at he; rw [he.1]
   ·rw [ih k2 he.2, (bytes_beq _ _).1 he.1]
theorem ZM {kk : KK} {x y : PV} {v u : Value} {bl ni : List (List eD)} {cl cl' : Nat → Nat} {w w' : World} (hx : iw kk x = true) (hy : iw kk y = true) (hv : ay bl cl w x v) (hu : ay ni cl' w' y u) (h : vU x y = true) : v = u := by
 unfold iw at hx
 split at hx
 ·rename_i k j n
  unfold iw at hy
  split at hy <;> first | (cases hy; done) | skip
  all_goals rename_i e
  all_goals first | (cases e; done) | skip
  all_goals first | cases e | skip
  obtain rfl := jR hx
  obtain rfl := jR hy
  simp only [ay, bY] at hv hu
  simp only [vU, beq_iff_eq] at h
  subst hv hu h; rfl
 ·unfold iw at hy
  split at hy <;> first | (cases hy; done) | skip
  all_goals rename_i e
  all_goals first | (cases e; done) | skip
  simp only [ay, bY] at hv hu
  simp only [vU] at h
  subst hv hu
  rw [(bytes_beq _ _).1 h]
 ·rename_i cs xs
  unfold iw at hy
  split at hy <;> first | (cases hy; done) | skip
  all_goals rename_i e
  all_goals first | (cases e; done) | skip
  cases e
  simp only [ay] at hv hu
  obtain ⟨vs, rfl, h1⟩ := hv
  obtain ⟨us, rfl, h2⟩ := hu
  rw [(ji hx h1).same (ji hy h2) h]
 ·cases hx
theorem U0 {bl : List (List eD)} {cl : Nat → Nat} {w : World} {kk : KK} {x : PV} {v : Value} (h : iw kk x = true) (hv : ay bl cl w x v) (ni : List (List eD)) (cl' : Nat → Nat) (w' : World) : ay ni cl' w' x v := by
 unfold iw at h
 split at h
 ·simpa only [ay, bY] using hv
 ·simpa only [ay, bY] using hv
 ·simp only [ay] at hv ⊢
  obtain ⟨vs, h1, h2⟩ := hv
  exact ⟨vs, h1, (ji h h2).rel _ _ _⟩
 ·cases h
section
variable {P : Program} {Γ : Tab} {cf : CF}
theorem ZN (k : IntKind) : sN k k = true := by cases k <;> rfl
theorem BG : ∀ {gs : List (Nat × Nat × Nat)} {cs : List KC} {xs ys : List PV}, Fb Γ gs = some cs → fC cs xs = true → fC cs ys = true → Bp (real cf) Γ gs xs ys = some (qW xs ys)
 | [], cs, xs, ys, h, hx, hy => by
  cases h
  cases xs with
  | cons _ _ => simp [fC] at hx
  | nil => cases ys with
   | cons _ _ => simp [fC] at hy
   | nil => rfl
 | q :: gs, cs, xs, ys, h, hx, hy => by
  simp only [Fb] at h
  have bb : ∀ a b : ByteArray, (a.toList == b.toList) = (a == b) := fun a b => by
   have e1 : (a.toList == b.toList) = true ↔ (a == b) = true := by
    rw [bytes_beq, beq_iff_eq]
    constructor
    ·intro h
     have : a.data.toList = b.data.toList := by rw [← ByteArray.toList_eq, ← ByteArray.toList_eq, h]
     exact ByteArray.ext (Array.ext' this)
    ·rintro rfl; rfl
   cases h1 : (a.toList == b.toList) <;> cases h2 : (a == b) <;> simp_all
  split at h
  ·rename_i k cs' hty hcs
   cases h
   obtain ⟨x, xs, rfl, k1, hx2⟩ := jf hx
   obtain ⟨y, ys, rfl, k2, hy2⟩ := jf hy
   cases k1; cases k2
   simp only [Bp, eqD, hty, ZN, cond_true, BG hcs hx2 hy2, qW]
   rfl
  ·rename_i cs' hty hcs
   cases h
   obtain ⟨x, xs, rfl, k1, hx2⟩ := jf hx
   obtain ⟨y, ys, rfl, k2, hy2⟩ := jf hy
   cases k1; cases k2
   simp only [Bp, eqD, hty, BG hcs hx2 hy2, qW]
  ·rename_i cs' hty hcs
   cases h
   obtain ⟨x, xs, rfl, k1, hx2⟩ := jf hx
   obtain ⟨y, ys, rfl, k2, hy2⟩ := jf hy
   cases k1; cases k2
   simp only [Bp, eqD, hty, BG hcs hx2 hy2, qW]
   show some ((_ == _) && _) = _
   rw [bb]
  ·cases h
theorem BH (hΓ : eO P Γ) {w : World} {em : Bool} (d : Nat) (xs : List Value) : ∀ (fs : List Field) (gs : List (Nat × Nat × Nat)) (cs : List KC) (us : List PV) (k : Nat), fs.length = gs.length →
  (∀ (j : Nat) f, fs[j]? = some f → f.offset = k + j ∧ f.name ≠ "_") → (∀ (j : Nat) f g, fs[j]? = some f → gs[j]? = some g → f.type = g.2.2) → Fb Γ gs = some cs → nR cs us (xs.drop k) →
  ∀ f ∈ fs, f.name ≠ "_" ∧ ∃ p, (part f.type xs.toArray f.offset).run P w = .ok p w ∧ (Instr.checkKey em (d + 1) f.type p).run P w = .ok () w
 | [], gs, cs, us, k, _, _, _, _, _ => by simp
 | f :: fs, [], cs, us, k, hl, _, _, _, _ => by simp at hl
 | f :: fs, q :: gs, cs, us, k, hl, hf, ht, hc, hu => by
  obtain ⟨o1, n1⟩ := hf 0 f rfl
  have t1 := ht 0 f q rfl rfl
  simp only [Fb] at hc
  have hty := hΓ.ty q.2.2
  unfold lH at hty
  have step : ∀ (cs' : List KC) (p : Value) (s : List Value) (us' : List PV), xs.drop k = p :: s → nR cs' us' s → Fb Γ gs = some cs' →
    (part f.type xs.toArray f.offset).run P w = .ok p w → (Instr.checkKey em (d + 1) f.type p).run P w = .ok () w →
    ∀ f' ∈ f :: fs, f'.name ≠ "_" ∧ ∃ p, (part f'.type xs.toArray f'.offset).run P w = .ok p w ∧ (Instr.checkKey em (d + 1) f'.type p).run P w = .ok () w := by
   intro cs' p s us' hd hcs hk h1 h2
   have ih := BH hΓ (w := w) (em := em) d xs fs gs cs' us' (k + 1) (by simpa using hl) (fun j f' hj => by
      have := hf (j + 1) f' (by simpa using hj)
      exact ⟨by omega, this.2⟩) (fun j f' g' hj hg => ht (j + 1) f' g' (by simpa using hj) (by simpa using hg)) hk (by rw [← List.drop_drop, hd]; exact hcs)
   intro f' hf'
   rcases List.mem_cons.1 hf' with rfl | hf'
   ·exact ⟨n1, p, h1, h2⟩
   ·exact ih f' hf'
  have hx : ∀ p s, xs.drop k = p :: s → xs[f.offset]? = some p := fun p s e => by
   have : (xs.drop k)[0]? = some p := by rw [e]; rfl
   rw [o1]; simpa using this
  split at hc
  ·rename_i kd cs' hq hcs
   cases hc
   rw [hq] at hty; simp only at hty
   rw [← t1] at hty
   generalize hdr : xs.drop k = dr at hu
   cases hu with
   | cons hu1 hu2 =>
    cases hu1
    exact step _ _ _ _ hdr hu2 hcs (by simp [part, isAgg, run_underlying hty, hx _ _ hdr]) (by unfold Instr.checkKey; simp [run_underlying hty])
  ·rename_i cs' hq hcs
   cases hc
   rw [hq] at hty; simp only at hty
   rw [← t1] at hty
   generalize hdr : xs.drop k = dr at hu
   cases hu with
   | cons hu1 hu2 =>
    cases hu1
    exact step _ _ _ _ hdr hu2 hcs (by simp [part, isAgg, run_underlying hty, hx _ _ hdr]) (by unfold Instr.checkKey; simp [run_underlying hty])
  ·rename_i cs' hq hcs
   cases hc
   rw [hq] at hty; simp only at hty
   rw [← t1] at hty
   generalize hdr : xs.drop k = dr at hu
   cases hu with
   | cons hu1 hu2 =>
    cases hu1
    exact step _ _ _ _ hdr hu2 hcs (by simp [part, isAgg, run_underlying hty, hx _ _ hdr]) (by unfold Instr.checkKey; simp [run_underlying hty])
  ·cases hc
theorem H6 {A : Type} {w : World} {body : A → PUnit → Sem (ForInStep PUnit)} : ∀ {l : List A}, (∀ x ∈ l, (body x PUnit.unit).run P w = .ok (.yield PUnit.unit) w) → (forIn l PUnit.unit body : Sem PUnit).run P w = .ok () w
 | [], _ => by simp
 | x :: l, h => by
  simp only [List.forIn_cons, Sem.run_bind, h x (by simp), Result.andThen_ok]
  exact H6 fun y hy => h y (by simp [hy])
theorem H7 (hΓ : eO P Γ) {kt : Nat} {kk : KK} (h : sQ Γ kt = some kk) : (P.underlying kt = some (zH kk) ∧ ∀ cs, kk ≠ .agg cs) ∨ ∃ n fs cs, kk = .agg cs ∧ Γ.ty kt = .agg n fs ∧ Fb Γ fs = some cs ∧ aaC P kt := by
 have ht := hΓ.ty kt
 unfold lH at ht
 unfold sQ at h
 split at h
 ·rename_i hty; cases h; simp only [hty] at ht; exact .inl ⟨ht, fun cs h => by cases h⟩
 ·rename_i k hty; cases h; simp only [hty] at ht; exact .inl ⟨ht, fun cs h => by cases h⟩
 ·rename_i n fs hty
  cases he : Γ.eqs kt with
  | false => simp [he] at h
  | true =>
   simp only [he, cond_true] at h
   split at h
   ·rename_i cs hcs
    cases h
    exact .inr ⟨n, fs, cs, rfl, hty, hcs, hΓ.eq kt he⟩
   ·cases h
 ·cases h
theorem aaS {kk : KK} {x : PV} {v : Value} {bl : List (List eD)} {cl : Nat → Nat} {w : World} (hk : ∀ cs, kk ≠ .agg cs) (h : iw kk x = true) (hv : ay bl cl w x v) : IsKey (zH kk) v := by
 unfold iw at h
 split at h
 ·rename_i k j n
  simp only [ay, bY] at hv
  subst hv
  exact (jR h).symm
 ·simp only [ay, bY] at hv
  subst hv
  trivial
 ·exact absurd rfl (hk _)
 ·cases h
theorem wC {bl : List (List eD)} {cl : Nat → Nat} {w w0 : World} {em : Bool} (hΓ : eO P Γ) {kt : Nat} {kk : KK} (h : sQ Γ kt = some kk) {x : PV} {v : Value} (hx : iw kk x = true) (hv : ay bl cl w0 x v) : (Instr.checkKey em 10000 kt v).run P w = .ok () w := by
 rcases H7 hΓ h with ⟨h1, h2⟩ | ⟨n, fs, cs, rfl, hty, hcs, heq⟩
 ·exact run_checkKey h1 (aaS h2 hx hv) em 9999
 ·unfold iw at hx
  split at hx
  ·rename_i e; cases e
  ·rename_i e; cases e
  ·rename_i cs' xs e
   cases e
   simp only [ay] at hv
   obtain ⟨vs, rfl, h1⟩ := hv
   have ht := hΓ.ty kt
   unfold lH at ht
   rw [hty] at ht
   simp only at ht
   obtain ⟨fields, e1, _, e2, e3⟩ := ht
   have ef : P.fieldsOf kt = fields := by unfold Program.fieldsOf; rw [e1]
   have hr := BH hΓ (w := w) (em := em) 9998 vs fields.toList fs cs xs 0 (by simpa using e2) (fun j f hj => by
    have := heq.aki j f (by rw [ef]; exact hj)
    exact ⟨by omega, this.2⟩) (fun j f g hj hg => (e3 j f g (by simpa using hj) hg).2.1) hcs (by simpa using ji hx h1)
   unfold Instr.checkKey
   simp only [Sem.run_bind, run_underlying e1, Result.andThen_ok]
   rw [← Array.forIn_toList]
   rw [H6 (P := P) (w := w) fun f hf => by
    obtain ⟨q1, p, q2, q3⟩ := hr f hf
    simp [q1, q2, q3]]
   simp
  ·cases hx
def F5 (P : Program) (kk : KK) (kt : TypeId) (w : World) (k : Value) (l : List MapEntry) (i : Nat) (res : Option (Nat × Value)) : Prop :=
 match kk with
 | .agg _ => (Instr.findAsking kt k l i).run P w = .ok res w
 | kk => Instr.findNow (zH kk) k l i = some res
def Same (P : Program) (kk : KK) (kt : TypeId) (w : World) (k k' : Value) (b : Bool) : Prop :=
 match kk with
 | .agg _ => (Op.equal kt k k').run P w = .ok b w
 | kk => Instr.sameNow (zH kk) k k' = some b
theorem R7 {kk : KK} {kt : TypeId} {w : World} {k : Value} {i : Nat} : F5 P kk kt w k [] i none := by
 cases kk <;> simp [F5, Instr.findAsking, Instr.findNow]
theorem aaT {kk : KK} {kt : TypeId} {w : World} {k : Value} {i : Nat} {e : MapEntry} {l : List MapEntry} (h : Same P kk kt w k e.key true) : F5 P kk kt w k (e :: l) i (some (i, e.val)) := by
 cases kk <;> simp only [Same] at h <;> simp [F5, Instr.findAsking, Instr.findNow, h]
theorem LD {kk : KK} {kt : TypeId} {w : World} {k : Value} {i : Nat} {e : MapEntry} {l : List MapEntry} {res : Option (Nat × Value)} (h : Same P kk kt w k e.key false) (h2 : F5 P kk kt w k l (i + 1) res) : F5 P kk kt w k (e :: l) i res := by
 cases kk <;> simp only [Same] at h <;> simp only [F5] at h2 <;> simp [F5, Instr.findAsking, Instr.findNow, h, h2]
theorem pF (hΓ : eO P Γ) {kt : Nat} {kk : KK} (h : sQ Γ kt = some kk) {w : World} {k : Value} {l : List MapEntry} {res : Option (Nat × Value)} (hs : F5 P kk kt w k l 0 res) : (Instr.findKey kt k l).run P w = .ok res w := by
 rcases H7 hΓ h with ⟨h1, h2⟩ | ⟨n, fs, cs, rfl, hty, hcs, heq⟩
 ·have hs' : Instr.findNow (zH kk) k l 0 = some res := by
   cases kk with
   | agg cs => exact absurd rfl (h2 cs)
   | _ => exact hs
  exact run_findKey h1 hs'
 ·simp only [F5] at hs
  cases l with
  | nil =>
   simp only [Instr.findAsking, Sem.run_pure, Result.ok.injEq, and_true] at hs
   simp [Instr.findKey, run_underlying heq.ty, Instr.findNow, hs]
  | cons e l =>
   simp [Instr.findKey, run_underlying heq.ty, Instr.findNow, Instr.sameNow]
   exact hs
theorem aaU (cf : CF) (hΓ : eO P Γ) {kt : Nat} {kk : KK} (h : sQ Γ kt = some kk) {x y : PV} {v u : Value} {bl ni : List (List eD)} {cl cl' : Nat → Nat} {w1 w2 w : World} (hx : iw kk x = true) (hy : iw kk y = true) (hv : ay bl cl w1 x v) (hu : ay ni cl' w2 y u) : Same P kk kt w v u (vU x y) := by
 rcases H7 hΓ h with ⟨h1, h2⟩ | ⟨n, fs, cs, rfl, hty, hcs, heq⟩
 ·cases kk with
  | agg cs => exact absurd rfl (h2 cs)
  | str =>
   unfold iw at hx hy
   split at hx <;> first | (cases hx; done) | skip
   all_goals rename_i e1
   all_goals first | (cases e1; done) | skip
   split at hy <;> first | (cases hy; done) | skip
   all_goals rename_i e2
   all_goals first | (cases e2; done) | skip
   simp_all [ay, bY, Instr.sameNow, zH, vU, Same]
  | int k =>
   unfold iw at hx hy
   split at hx <;> first | (cases hx; done) | skip
   all_goals rename_i e1
   all_goals first | (cases e1; done) | skip
   cases e1
   split at hy <;> first | (cases hy; done) | skip
   all_goals rename_i e2
   all_goals first | (cases e2; done) | skip
   cases e2
   obtain rfl := jR hx
   obtain rfl := jR hy
   simp only [ay, bY] at hv hu
   subst hv; subst hu
   simp [Instr.sameNow, zH, vU, Same]
 ·unfold iw at hx hy
  split at hx <;> first | (cases hx; done) | skip
  all_goals rename_i e1
  all_goals first | (cases e1; done) | skip
  cases e1
  split at hy <;> first | (cases hy; done) | skip
  all_goals rename_i e2
  all_goals first | (cases e2; done) | skip
  cases e2
  simp only [ay] at hv hu
  obtain ⟨vs, rfl, g1⟩ := hv
  obtain ⟨us, rfl, g2⟩ := hu
  exact ZE (cf := cf) (bl := bl) (cl := cl) hΓ heq hty ((ji hx g1).rel _ _ _) ((ji hy g2).rel _ _ _) (BG hcs hx hy)
theorem aaV {kk : KK} {x : PV} {v : Value} {bl : List (List eD)} {cl : Nat → Nat} {w : World} (hx : iw kk x = true) (hv : ay bl cl w x v) : Instr.sameBits 10000 v v = true := by
 unfold iw at hx
 split at hx
 ·simp only [ay, bY] at hv
  subst hv
  simp [Instr.sameBits]
 ·simp only [ay, bY] at hv
  subst hv
  simp [Instr.sameBits, bytes_beq]
 ·simp only [ay] at hv
  obtain ⟨vs, rfl, h1⟩ := hv
  have h2 := ji hx h1
  have : ∀ {cs : List KC} {xs : List PV} {vs : List Value}, nR cs xs vs → ((vs.zip vs).all fun (x, y) => Instr.sameBits 9999 x y) = true := by
   intro cs xs vs h
   induction h with
   | nil => rfl
   | cons h1 _ ih =>
    simp only [List.zip_cons_cons, List.all_cons, ih, Bool.and_true]
    cases h1 <;> simp [Instr.sameBits, bytes_beq]
  simp only [Instr.sameBits, beq_self_eq_true, Bool.true_and]
  exact this h2
 ·cases hx
end
section
variable {P : Program} {Γ : Tab} {kk : KK} {bl ni : List (List eD)} {cl cl' : Nat → Nat} {w w' w0 : World} {kt : Nat}
theorem BI {x : PV} {k : Value} (hΓ : eO P Γ) (hkk : sQ Γ kt = some kk) (hx : iw kk x = true) (hk : ay ni cl' w' x k) : ∀ {es : List (PV × PV)} {l : List MapEntry} (i : Nat), gu kk bl cl w es l →
  (∃ j e v, F5 P kk kt w0 k l i (some (i + j, e.val)) ∧ l[j]? = some e ∧ e.key = k ∧ Fe es x = some v ∧ ay bl cl w v e.val ∧ Ld v = true ∧ gu kk bl cl w (FZ es x) (l.eraseIdx j) ∧
   ∀ y u, ay bl cl w y u → ay bl cl w x k → Ld y = true → gu kk bl cl w (zB es x y) (l.set j { e with key := k, val := u })) ∨
  (F5 P kk kt w0 k l i none ∧ Fe es x = none ∧ FZ es x = es ∧ ∀ y u b, ay bl cl w y u → ay bl cl w x k → Ld y = true → gu kk bl cl w (zB es x y) (l ++ [⟨k, u, b⟩]))
 | [], l, i, h => by
  simp only [gu] at h
  subst h
  refine .inr ⟨R7, rfl, rfl, fun y u b hy hxk ho => ?_⟩
  simp only [zB, List.nil_append, gu]
  exact ⟨_, [], rfl, hx, hxk, hy, ho, rfl⟩
 | q :: es, l, i, h => by
  simp only [gu] at h
  obtain ⟨e, s, rfl, h1, h2, h3, h4, h5⟩ := h
  have hs := aaU (P := P) (w := w0) (fun _ _ _ => none) hΓ hkk hx h1 hk h2
  cases hb : vU x q.1 with
  | true =>
   rw [hb] at hs
   have hke := ZM hx h1 hk h2 hb
   refine .inl ⟨0, e, q.2, aaT hs, rfl, hke.symm, by simp [Fe, hb], h3, h4, by simpa [FZ, hb] using h5, fun y u hy hxk ho => ?_⟩
   simp only [zB, hb, if_true, List.set_cons_zero, gu]
   exact ⟨_, s, rfl, hx, hxk, hy, ho, h5⟩
  | false =>
   rw [hb] at hs
   rcases BI hΓ hkk hx hk (i + 1) h5 with ⟨j, e', v, g1, g2, g3, g4, g5, g6, g7, g8⟩ | ⟨g1, g2, g3, g4⟩
   ·refine .inl ⟨j + 1, e', v, by have := LD hs g1; rw [show i + 1 + j = i + (j + 1) by omega] at this; exact this, by simpa using g2, g3, by simp [Fe, hb, g4], g5, g6, ?_, fun y u hy hxk ho => ?_⟩
    ·simp only [FZ, hb, Bool.false_eq_true, if_false, List.eraseIdx_cons_succ, gu]
     exact ⟨e, _, rfl, h1, h2, h3, h4, g7⟩
    ·simp only [zB, hb, Bool.false_eq_true, if_false, List.set_cons_succ, gu]
     exact ⟨e, _, rfl, h1, h2, h3, h4, g8 y u hy hxk ho⟩
   ·refine .inr ⟨LD hs g1, by simp [Fe, hb, g2], by simp [FZ, hb, g3], fun y u b hy hxk ho => ?_⟩
    simp only [zB, hb, Bool.false_eq_true, if_false, List.cons_append, gu]
    exact ⟨e, _, rfl, h1, h2, h3, h4, g4 y u b hy hxk ho⟩
theorem gu.len : ∀ {es : List (PV × PV)} {l : List MapEntry}, gu kk bl cl w es l → l.length = es.length
 | [], l, h => by simp only [gu] at h; subst h; rfl
 | q :: es, l, h => by
  simp only [gu] at h
  obtain ⟨e, s, rfl, _, _, _, _, h5⟩ := h
  simp [h5.len]
end
section
variable {R : Type} {P : Program} {Γ : Tab} {cf : CF} {an : kW} {o : Oper} {a : Act} {w : World} {m : Mt} {K : PV → St → Option R} {r : R} {st : St} {ρ : Env}
theorem LG (hΓ : eO P Γ) {t : Nat} {z : PV} (h : pack Γ t (ds (Γ.zero t)) = some z) (bl : List (List eD)) (cl : Nat → Nat) : ∃ i v, P.info? t = some i ∧ i.zero = some v ∧ ay bl cl w z v := by
 have hne : Γ.zero t ≠ [] ∨ ∃ n fs, Γ.ty t = .agg n fs := by
  by_cases h0 : Γ.zero t = []
  ·right
   unfold pack at h
   rw [h0] at h
   split at h
   ·rename_i n fs hty; exact ⟨n, fs, hty⟩
   ·cases h
   ·cases h
   ·simp [ds, Bn] at h
  ·exact .inl h0
 by_cases h0 : Γ.zero t = []
 ·
  rcases hne with h1 | ⟨n, fs, hty⟩
  ·exact absurd h0 h1
  ·obtain ⟨i, q1, q2⟩ := hΓ.unit t fs (by
    unfold pack at h
    simp only [hty, h0, ds, List.length_nil] at h
    cases hb : Nat.ble n 0 with
    | false => simp [hb] at h
    | true => rw [hty, Nat.le_zero.1 (Nat.le_of_ble_eq_true hb)])
   refine ⟨i, _, q1, q2, ?_⟩
   unfold pack at h
   simp only [hty, h0, ds, List.length_nil, List.take_nil] at h
   cases hb : Nat.ble n 0 with
   | false => simp [hb] at h
   | true =>
    simp only [hb, cond_true, Option.some.injEq] at h
    subst h
    simp only [ay, aZ]
    exact ⟨[], rfl, rfl⟩
 obtain ⟨i, v, q1, q2, q3, q4, q5, q6⟩ := hΓ.zero t h0
 refine ⟨i, v, q1, q2, ?_⟩
 have hl := q5 cl w
 unfold pack at h
 split at h
 ·rename_i n fs hty
  simp only [hty] at q6
  cases hb : Nat.ble n (ds (Γ.zero t)).length with
  | false => simp [hb] at h
  | true =>
   simp only [hb, cond_true, Option.some.injEq] at h
   subst h
   simp only [ay]
   refine ⟨v.cells.toList, by rw [Array.toArray_toList]; exact q6.1, ?_⟩
   have : (ds (Γ.zero t)).take n = ds (Γ.zero t) := List.take_of_length_le (by rw [UF]; omega)
   rw [this]
   exact bL.cells hl
 ·cases h
 ·cases h
 ·rename_i hna _ _
  have q6' : v.cells = #[v] := by
   split at q6
   ·rename_i n fs hty; exact absurd hty (hna n fs)
   ·exact q6
  rw [q6'] at hl
  cases hz : Γ.zero t with
  | nil => exact absurd hz h0
  | cons d rest =>
   rw [hz] at hl h
   simp only [ds, Bn, Option.some.injEq] at h
   subst h
   simp only [dW] at hl
   obtain ⟨u, s, h1, h2, _⟩ := hl
   simp only [List.cons.injEq] at h1
   obtain ⟨rfl, _⟩ := h1
   simpa only [ay] using h2
theorem wD {t k e : Nat} (hΓ : eO P Γ) (h : Γ.ty t = .map k e) : P.underlying t = some (.map k e) := by
 have ht := hΓ.ty t
 unfold lH at ht
 simpa only [h] using ht
theorem R8 (hΓ : eO P Γ) (he : bR m w ρ a) (hw : bS m st w) {t : TypeId} {x y : Operand} {ok : Bool} (hop : o.op = .lookup t x y ok)
  (h : evalOp (real cf) Γ an ρ st o.dst o.op K = some r) : Goes P o a w m K r := by
 rw [hop] at h
 simp only [evalOp] at h
 have hp := dY he x
 have hq := dY he y
 split at h
 ·rename_i kt et hty
  split at h
  ·rename_i kk hkk
   have hm := wD hΓ hty
   unfold o8 at h
   dsimp only at h
   cases hok : iw kk (ev ρ y) with
   | false => simp [hok] at h
   | true =>
   simp only [hok, cond_true] at h
   have hkey := fun (em : Bool) => wC (em := em) (w := w) hΓ hkk hok hq
   have U3 : ∀ (z : PV) (v : Value) (b : Bool), ay m.blk m.cl w z v → ay m.blk m.cl w (bif ok then .yV [z, .d (.bool b)] else z) (if ok then .tuple #[v, .bool b] else v) := by
    intro z v b hz
    cases ok
    ·exact hz
    ·simp only [cond_true, if_true, ay]
     exact ⟨[v, .bool b], rfl, by simp only [bL, ay, bY]; exact ⟨v, _, rfl, hz, _, _, rfl, rfl, rfl⟩⟩
   split at h
   ·rename_i z hmm hz
    rw [hmm] at hp; simp only [ay, bY] at hp
    obtain ⟨i, v, z1, z2, z3⟩ := LG (w := w) hΓ hz m.blk m.cl
    have hrun : (execOp a.eval o).run P w = .ok (.value (if ok then .tuple #[v, .bool false] else v)) w := by
     simp [execOp, hop, hp, Instr.lookup, run_underlying hm, hkey, pF hΓ hkk (l := []) (k := a.eval y) (w := w) R7, zeroValue, typeInfo, z1, z2]
    exact Goes.value hrun h hw (U3 z v false z3)
   ·rename_i l i z hmm hz
    rw [hmm] at hp; simp only [ay] at hp
    obtain ⟨e, p1, p0, p2⟩ := hp
    obtain ⟨iz, v, z1, z2, z3⟩ := LG (w := w) hΓ hz m.blk m.cl
    split at h
    ·rename_i Gc fl es hl
     obtain ⟨e', k3, k4⟩ := hw.st.jH hl
     rw [p1] at k3; cases k3
     simp only [bF] at k4
     obtain ⟨g1, g2, gf, ents, clock, g3, g4⟩ := k4
     cases hkq : FY kk Gc with
     | false => simp [hkq] at h
     | true =>
     simp only [hkq, cond_true, sU] at h
     obtain rfl := Oe hkq
     rcases BI (w0 := w) hΓ hkk hok hq 0 g4 with ⟨j, en, v', f1, f2, f3, f4, f5, f6, f7, f8⟩ | ⟨f1, f2, f3, f4⟩
     ·have e1 : (real cf).find es (ev ρ y) = some v' := f4
      rw [e1] at h
      dsimp only at h
      have hrun : (execOp a.eval o).run P w = .ok (.value (if ok then .tuple #[en.val, .bool true] else en.val)) w := by
       simp [execOp, hop, p2, Instr.lookup, run_underlying hm, Go.MapKept.run_getObj_map g3, hkey, pF hΓ hkk f1]
      exact Goes.value hrun h hw (U3 _ _ true (wh l _ _ f5))
     ·have e1 : (real cf).find es (ev ρ y) = none := f2
      rw [e1] at h
      dsimp only at h
      have hrun : (execOp a.eval o).run P w = .ok (.value (if ok then .tuple #[v, .bool false] else v)) w := by
       simp [execOp, hop, p2, Instr.lookup, run_underlying hm, Go.MapKept.run_getObj_map g3, hkey, pF hΓ hkk f1, zeroValue, typeInfo, z1, z2]
      exact Goes.value hrun h hw (U3 z v false z3)
    ·cases h
   ·cases h
  ·cases h
 ·cases h
theorem U4 : ∀ {cs : List KC} {l : List PV}, fC cs l = true → vO l = true := by
 intro cs
 induction cs with
 | nil => intro l h; cases l with
  | nil => rfl
  | cons x l => simp [fC] at h
 | cons c cs ih =>
  intro l h
  obtain ⟨x, xs, rfl, k1, h2⟩ := jf h
  cases k1 <;> (show vO xs = true; exact ih h2)
theorem aaW {kk : KK} {k : PV} (h : iw kk k = true) : vD k = true := by
 cases k with
 | d x => rfl
 | agg l => cases kk with
  | agg cs => exact U4 h
  | _ => simp [iw] at h
 | _ => cases kk <;> simp [iw] at h
theorem LH {k v : PV} (hk : vD k = true) : ∀ {es : List (PV × PV)}, nH es = true → vD v = true → nH (zB es k v) = true
 | [], _, hv => by simp [zB, nH, hk, hv]
 | (a, b) :: r, h, hv => by
  simp only [nH, Bool.and_eq_true] at h
  simp only [zB]
  split
  ·simp [nH, hk, hv, h.2]
  ·simp only [nH, Bool.and_eq_true]
   exact ⟨h.1, LH hk h.2 hv⟩
theorem LJ {k : PV} : ∀ {es : List (PV × PV)}, nH es = true → nH (FZ es k) = true
 | [], _ => rfl
 | (a, b) :: r, h => by
  simp only [nH, Bool.and_eq_true] at h
  simp only [FZ]
  split
  ·exact h.2
  ·simp only [nH, Bool.and_eq_true]
   exact ⟨h.1, LJ h.2⟩
theorem Og (hw : bS m st w) {x : PV} {v : Value} (hv : ay m.blk m.cl w x v) {cs : List PV} {st1 : St} (hf : freezes (real cf) st (unpack x) = (cs, st1)) :
  ∃ m1, Ext m w m1 w ∧ bS m1 st1 w ∧ st1.length = st.length ∧ ∀ n, eB (up.ups n cs) = true → ay (mR m1.blk n) m1.cl w (nQ x (up.ups n cs)) v ∧ Ld (nQ x (up.ups n cs)) = true := by
 rcases tH hv (.inr (.inr (.inr trivial))) with ⟨l, rfl, h2⟩ | ⟨hne, h2⟩
 ·obtain ⟨m1, x1, w1, v1, n1⟩ := iN hw h2 hf
  refine ⟨m1, x1, w1, n1, fun n hok => ?_⟩
  simp only [nQ, ay, Ld]
  simp only [ay] at hv
  obtain ⟨vs, rfl, _⟩ := hv
  refine ⟨⟨vs, rfl, ?_⟩, hok⟩
  have := jM hok (rT n _ _ v1)
  simpa [Value.cells] using this
 ·rw [h2] at hf
  obtain ⟨m1, x1, w1, v1, n1⟩ := iN hw (l := [x]) (vs := [v]) ⟨v, [], rfl, hv, rfl⟩ hf
  refine ⟨m1, x1, w1, n1, fun n hok => ?_⟩
  have hl := v1.len
  match cs, hl, v1 with
  | [y], _, v1 =>
   simp only [bL] at v1
   obtain ⟨u, s, h3, h4, h5⟩ := v1
   simp only [List.cons.injEq] at h3
   obtain ⟨rfl, rfl⟩ := h3
   rw [Ob] at hok ⊢
   have hy : jm (up n y) = true := by
    cases hc : jm (up n y) with
    | true => rfl
    | false => simp [eB, hc] at hok
   have h6 := DX n y v h4
   have hr : nQ x [up n y] = up n y := by
    cases x with
    | agg l => exact absurd rfl (hne l)
    | _ => rfl
   rw [hr]
   refine ⟨h6, ?_⟩
   cases hu : up n y <;> rw [hu] at hy <;> first | rfl | (simp [jm] at hy)
theorem H8 (hΓ : eO P Γ) (he : bR m w ρ a) (hw : bS m st w) {t : TypeId} {x y z : Operand} (hop : o.op = .mapUpdate t x y z)
  (h : evalOp (real cf) Γ an ρ st o.dst o.op K = some r) : Goes P o a w m K r := by
 rw [hop] at h
 simp only [evalOp] at h
 have hp := dY he x
 have hq := dY he y
 have hz := dY he z
 split at h
 ·rename_i kt et hty
  split at h
  ·rename_i kk l i hkk hx
   have hm := wD hΓ hty
   obtain ⟨vs, st1, hf, hz⟩ := iO h
   clear h
   have h := hz
   clear hz
   try dsimp only at h
   obtain ⟨m1, x1, w1, n1, hval⟩ := Og hw hz hf
   have hp1 := hp.ext x1
   rw [hx] at hp1; simp only [ay] at hp1
   obtain ⟨e, p1, p0, p2⟩ := hp1
   split at h
   ·rename_i Gc fl es hl
    obtain ⟨e', k3, k4⟩ := w1.st.jH hl
    rw [p1] at k3; cases k3
    simp only [bF] at k4
    obtain ⟨g1, g2, gf, ents, clock, g3, g4⟩ := k4
    cases hkq : FY kk Gc with
    | false => simp [hkq] at h
    | true =>
    cases hok : iw kk (ev ρ y) with
    | false => simp [hkq, hok] at h
    | true =>
    cases hco : eB (up.ups l vs) with
    | false => simp [hkq, hok, hco] at h
    | true =>
    cases hfv : (bif fl then vD (nQ (ev ρ z) (up.ups l vs)) else true) with
    | false => simp [hkq, hok, hco, hfv] at h
    | true =>
    simp only [hkq, hok, hco, hfv, cond_true, Lf] at h
    have aaX : fl = true → nH (zB es (ev ρ y) (nQ (ev ρ z) (up.ups l vs))) = true := fun hfl => by
     subst hfl
     exact LH (aaW hok) (gf rfl) (by simpa using hfv)
    obtain rfl := Oe hkq
    have hkey := fun (em : Bool) => wC (em := em) (w := w) hΓ hkk hok hq
    obtain ⟨hv1, hv2⟩ := hval l hco
    have finish : ∀ (rV : Array MapEntry) (clock' : Nat), (execOp a.eval o).run P w = .ok .skip { w with heap := w.heap.setIfInBounds e.b (.map rV clock') } →
      gu kk (mR m1.blk l) m1.cl w (zB es (ev ρ y) (nQ (ev ρ z) (up.ups l vs))) rV.toList → Goes P o a w m K r := by
     intro rV clock' hrun hrel
     have hset := heap_set (o' := .map rV clock') g3
     obtain ⟨m2, rfl, x2, w2⟩ := w1.put (l := l) (i := i) (w' := { w with heap := w.heap.setIfInBounds e.b (.map rV clock') }) p1 (nL g1)
      (fun b hb => hset.2 b hb) (fun a ha => by simp only [World.frozen?, ha, hset.1, g3]) (by simp) rfl rfl rfl (o := .map kk fl (zB es (ev ρ y) (nQ (ev ρ z) (up.ups l vs)))) (e' := e) rfl (jW.refl e) (n := 0) (by rw [g2]; exact Nat.le_refl _) (Nat.zero_le _) (fun j hj => by rw [g2] at hj; omega)
      (fun hk he => by
       simp only [bF, if_true]
       exact ⟨g1, trivial, aaX, rV, clock', hset.1, hrel.keep hk (dR.mR l he)⟩)
     exact Goes.skip' hrun h (x1.trans x2) w2
    have hqu := U0 hok hq (mR m1.blk l) m1.cl w
    rcases BI (w0 := w) hΓ hkk hok hq 0 g4 with ⟨j, en, v', f1, f2, f3, f4, f5, f6, f7, f8⟩ | ⟨f1, f2, f3, f4⟩
    ·refine finish (ents.modify j fun e => { e with key := a.eval y, val := a.eval z }) clock ?_ ?_
     ·have hsame : Instr.sameBits 10000 (a.eval y) (a.eval y) = true := aaV hok hq
      have f2' : ents[j]? = some en := by simpa using f2
      simp [execOp, hop, p2, Instr.mapUpdate, run_underlying hm, Go.MapKept.run_getObj_map g3, hkey, pF hΓ hkk f1, f2', f3, Instr.keyThatStays, hsame, Go.MapKept.run_setObj_map _ g3]
     ·have f2' : ents.toList[j]? = some en := f2
      have hj := (List.getElem?_eq_some_iff.1 f2').1
      have e1 : (ents.modify j fun e => { e with key := a.eval y, val := a.eval z }).toList = ents.toList.set j { en with key := a.eval y, val := a.eval z } := by
       apply List.ext_getElem?
       intro n
       by_cases hn : j = n
       ·subst hn
        rw [List.getElem?_set_self hj]
        have arS : ents[j]? = some en := by simpa using f2
        simp [Array.getElem?_modify, arS]
       ·rw [List.getElem?_set_ne hn]
        simp [Array.getElem?_modify, hn]
      rw [e1]
      exact f8 _ _ hv1 hqu hv2
    ·refine finish (ents.push ⟨a.eval y, a.eval z, clock⟩) (clock + 1) ?_ ?_
     ·simp [execOp, hop, p2, Instr.mapUpdate, run_underlying hm, Go.MapKept.run_getObj_map g3, hkey, pF hΓ hkk f1, Go.MapKept.run_setObj_map _ g3]
     ·rw [Array.toList_push]
      exact f4 _ _ _ hv1 hqu hv2
   ·cases h
  ·cases h
 ·cases h
end
end Go.X
