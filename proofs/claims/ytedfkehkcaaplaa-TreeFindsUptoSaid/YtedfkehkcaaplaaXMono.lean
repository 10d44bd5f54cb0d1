/- T -/
import Derived.Test.YtedfkehkcaaplaaXCps
namespace Go.X
open Go
variable [bY]
abbrev CF := Nat → List PV → St → Option (PV × St)
def Le {R : Type} (x y : Option R) : Prop := ∀ r, x = some r → y = some r
theorem Le.refl {R : Type} (x : Option R) : Le x x := fun _ h => h
theorem Le.bind {R S : Type} {x y : Option R} {f g : R → Option S} (h : Le x y) (k : ∀ r, Le (f r) (g r)) : Le (x.bind f) (y.bind g) := by
 intro r hr
 cases x with
 | none => simp at hr
 | some v => rw [h v rfl]; exact k v r (by simpa using hr)
def EU (c d : CF) : Prop := ∀ f a s, Le (c f a s) (d f a s)
theorem XA (c d : CF) (Γ : Tab) : ∀ (gs : List (Nat × Nat × Nat)) (us vs : List PV), xJ (real c) Γ gs us vs = xJ (real d) Γ gs us vs := by
 intro gs
 induction gs with
 | nil => intro us vs; cases us <;> cases vs <;> rfl
 | cons g gs ih =>
  intro us vs
  cases us with
  | nil => rfl
  | cons u us => cases vs with
   | nil => cases u <;> rfl
   | cons v vs =>
    cases u <;> cases v <;> first | rfl | (simp only [xJ, ih us vs]; rfl)
theorem XB {R : Type} (c d : CF) (Γ : Tab) (t : Nat) (op : BinOp) (st : St) (x y : PV) (K : fT R) : EP (real c) Γ t op st x y K = EP (real d) Γ t op st x y K := by
 unfold EP
 split
 ·rw [XA c d]
 ·rfl
theorem jC (c d : CF) {R : Type} : ∀ (l : List PV) (st : St) (K : List PV → St → Option R), bW (real c) st l K = bW (real d) st l K := by
 intro l
 induction l with
 | nil => intro st K; rfl
 | cons x l ih =>
  intro st K
  cases x with
  | row lv i n =>
   simp only [bW, ih]
   rfl
  | _ => simp only [bW, ih]
theorem HY (c d : CF) {R : Type} : ∀ (l : List PV) (st : St) (K : List PV → St → Option R), gq (real c) st l K = gq (real d) st l K := by
 intro l
 induction l with
 | nil => intro st K; rfl
 | cons x l ih =>
  intro st K
  cases x with
  | row lv i n =>
   cases lv with
   | zero => simp only [gq, ih]; rfl
   | succ lv => simp only [gq, ih]
  | _ => simp only [gq, ih]
theorem KA {c : CF} {R : Type} : ∀ (l : List PV) (st : St) {K K' : List PV → St → Option R}, (∀ vs st, Le (K vs st) (K' vs st)) → Le (bW (real c) st l K) (bW (real c) st l K') := by
 intro l
 induction l with
 | nil => intro st K K' h; simp only [bW]; exact h _ _
 | cons x l ih =>
  intro st K K' h
  cases x with
  | row lv i n =>
   simp only [bW]
   split
   ·cases (real c).ieq _ _ with
    | false => exact Le.refl _
    | true => exact ih _ fun _ _ => h _ _
   ·exact Le.refl _
  | _ => simp only [bW]; exact ih _ fun _ _ => h _ _
theorem HZ (c d : CF) {R : Type} (tk : List Nat) : ∀ (p : Nat) (l : List PV) (st : St) (K : List PV → St → Option R), eU (real c) tk p l st K = eU (real d) tk p l st K := by
 intro p l
 induction l generalizing p with
 | nil => intro st K; rfl
 | cons x l ih =>
  intro st K
  simp only [eU, ih, jC c d]
theorem Ia {c : CF} {R : Type} (tk : List Nat) : ∀ (p : Nat) (l : List PV) (st : St) {K K' : List PV → St → Option R}, (∀ vs st, Le (K vs st) (K' vs st)) → Le (eU (real c) tk p l st K) (eU (real c) tk p l st K') := by
 intro p l
 induction l generalizing p with
 | nil => intro st K K' h; simp only [eU]; exact h _ _
 | cons x l ih =>
  intro st K K' h
  simp only [eU]
  cases mem p tk with
  | true => exact ih _ _ fun _ _ => h _ _
  | false => exact KA _ _ fun _ _ => ih _ _ fun _ _ => h _ _
theorem Cq (c d : CF) {R : Type} (b : Bool) (r : PV × St) (K : PV → St → Option R) : lG (real c) b r K = lG (real d) b r K := by
 unfold lG
 rw [jC c d]
theorem KD (c d : CF) {R : Type} (tk : List Nat) : ∀ (p : Nat) (l : List PV) (st : St) (K : List PV → St → Option R), mI (real c) tk p l st K = mI (real d) tk p l st K := by
 intro p l
 induction l generalizing p with
 | nil => intro st K; rfl
 | cons x l ih =>
  intro st K
  unfold mI
  cases mem p tk with
  | false => exact ih _ _ _
  | true =>
   simp only [cond_true]
   split
   ·simp only [ih]; rfl
   ·rfl
theorem KE {c : CF} {R : Type} (tk : List Nat) : ∀ (p : Nat) (l : List PV) (st : St) {K K' : List PV → St → Option R}, (∀ vs st, Le (K vs st) (K' vs st)) → Le (mI (real c) tk p l st K) (mI (real c) tk p l st K') := by
 intro p l
 induction l generalizing p with
 | nil => intro st K K' h; exact h _ _
 | cons x l ih =>
  intro st K K' h
  unfold mI
  cases mem p tk with
  | false => exact ih _ _ fun _ _ => h _ _
  | true =>
   simp only [cond_true]
   split
   ·simp only [real]
    split
    ·rename_i mt _ _
     cases mt with
     | false => exact Le.refl _
     | true =>
      simp only [cond_true]
      generalize ((_ : Int) == _) = bq
      cases bq with
      | false => exact Le.refl _
      | true => exact ih _ _ fun _ _ => h _ _
    ·exact Le.refl _
   ·exact Le.refl _
theorem xQ (c d : CF) (Γ : Tab) (ρ : Env) (st : St) : ∀ (l : List ResultVar), kW (real c) Γ ρ st l = kW (real d) Γ ρ st l
 | [] => rfl
 | x :: r => by
  have h : tO (real c) Γ ρ st x = tO (real d) Γ ρ st x := rfl
  simp only [kW, h, xQ c d Γ ρ st r]
theorem SX (c d : CF) {R : Type} : ∀ (l : List PV) (st : St) (K : List PV → Option R), sV (real c) st l K = sV (real d) st l K := by
 intro l
 induction l with
 | nil => intro st K; rfl
 | cons x l ih =>
  intro st K
  cases x with
  | row lv i n =>
   cases lv with
   | zero => simp only [sV, ih]; rfl
   | succ lv => simp only [sV, ih]
  | _ => simp only [sV, ih]
theorem KF (c d : CF) (Γ : Tab) (give : Bool) (ρ : Env) (st : St) (l : List ResultVar) : leave (real c) Γ give l ρ st = leave (real d) Γ give l ρ st := by
 simp only [leave, xQ c d, HY c d, SX c d]
 rfl
theorem gB {R : Type} {x y : Option R} {r : R} (h : agree x y = some r) : x = some r ∧ y = some r := by
 unfold agree at h
 split at h
 ·rename_i hxy
  exact ⟨h, hxy ▸ h⟩
 ·cases h
theorem oD {R : Type} {x y : Option R} {r : R} (h1 : x = some r) (h2 : y = some r) : agree x y = some r := by
 subst h1; subst h2; simp [agree]
theorem SY {R : Type} {x y x' y' : Option R} (h1 : Le x x') (h2 : Le y y') : Le (agree x y) (agree x' y') := fun r hr => by
 obtain ⟨a, b⟩ := gB hr
 exact oD (h1 r a) (h2 r b)
theorem pO (c d : CF) {R : Type} (Γ : Tab) (t : Nat) : ∀ (l : List D) (j : Nat) (st : St) (K : List PV → St → Option R), gZ (real c) Γ t j l st K = gZ (real d) Γ t j l st K
 | [], _, _, _ => rfl
 | x :: l, j, st, K => by
  unfold gZ
  split
  ·simp only [kY, pO c d Γ t l]
  ·simp only [pO c d Γ t l]
section
variable {c d : CF} (h : EU c d)
include h
theorem S9 (f : Nat) (a : List PV) (st : St) : Le ((real c).cf f a st) ((real d).cf f a st) := by
 show Le (bif iF f then none else c f a st) (bif iF f then none else d f a st)
 cases iF f
 ·exact h f a st
 ·exact Le.refl _
theorem Nr (Γ : Tab) (an : iG) (ρ : Env) (st : St) (dst : Option Nat) (op : Op) : Le (evalOp (real c) Γ an ρ st dst op fin) (evalOp (real d) Γ an ρ st dst op fin) := by
 cases op
 case call cl =>
  simp only [evalOp, jC c d]
  split
  ·simp only [Cq c d]; exact Le.refl _
  ·rw [HZ c d]
   refine Ia _ _ _ _ fun vs st => ?_
   split
   ·exact Le.bind (S9 h _ _ _) fun r => by rw [Cq c d]; exact Le.refl _
   ·exact Le.bind (S9 h _ _ _) fun r => by rw [Cq c d]; exact Le.refl _
   ·split
    ·exact Le.bind (h _ _ _ : Le (c _ _ _) (d _ _ _)) fun r => Le.refl _
    ·exact Le.refl _
   ·exact Le.refl _
  ·exact Le.refl _
 all_goals first | exact Le.refl _ | (simp only [evalOp, XB c d]; exact Le.refl _) | (simp only [evalOp, pO c d]; exact Le.refl _) | (simp only [evalOp, jC c d]; exact Le.refl _) | (simp only [evalOp, jC c d, pO c d]; exact Le.refl _) | (simp only [evalOp]; split <;> first | exact Le.refl _ | (simp only [jC c d]; exact Le.refl _)) | (rename_i g _ _; cases g <;> simp only [evalOp, jC c d] <;> exact Le.refl _)
theorem FI {R : Type} (Γ : Tab) (an : iG) (ρ : Env) (st : St) (dst : Option Nat) (op : Op) {K K' : fT R} (hK : ∀ v s, Le (K v s) (K' v s)) : Le (evalOp (real c) Γ an ρ st dst op K) (evalOp (real d) Γ an ρ st dst op K') := by
 rw [oC (c := c), oC (c := d)]
 exact Le.bind (Nr h Γ an ρ st dst op) fun r => hK _ _
theorem KG {R : Type} (EN : Bool) (st : St) {K K' : fT R} (hK : ∀ v s, Le (K v s) (K' v s)) (v : PV) (s : St) : Le (mH (real c) EN st K v s) (mH (real d) EN st K' v s) := by
 unfold mH
 cases EN
 ·exact hK v s
 ·simp only [cond_true]
  show Le (bif (real c).same st s then _ else _) (bif (real c).same st s then _ else _)
  have e : (real c).same st s = (real d).same st s := rfl
  rw [e]
  cases (real d).same st s
  ·exact Le.refl _
  ·exact hK v st
theorem iJ {R : Type} (Γ : Tab) (an : iG) {K K' : Env → St → Option R} (hK : ∀ v s, Le (K v s) (K' v s)) : ∀ (l : List XO) (ρ : Env) (st : St), Le (dG (real c) Γ an l ρ st K) (dG (real d) Γ an l ρ st K')
 | [], ρ, st => by simp only [dG]; exact hK _ _
 | ⟨dst, op, g, EN, dead⟩ :: rest, ρ, st => by
  simp only [dG]
  cases g with
  | none => exact FI h _ _ _ _ _ _ (KG h _ _ fun v s => iJ Γ an hK rest _ _)
  | some q =>
   obtain ⟨j, want⟩ := q
   dsimp only
   split
   ·rename_i b _
    cases (bif want then b else !b)
    ·exact iJ Γ an hK rest _ _
    ·exact FI h _ _ _ _ _ _ (KG h _ _ fun v s => iJ Γ an hK rest _ _)
   ·exact iJ Γ an hK rest _ _
   ·exact Le.refl _
end
theorem XD (n : Nat) (dom : List Nat) {f g : Env → St → Option (Ex × Env × St)} (h : ∀ ρ s, Le (f ρ s) (g ρ s)) (ρ : Env) (st : St) : Le (iter n dom f ρ st) (iter n dom g ρ st) := by
 intro r
 refine iter.partial_correctness n dom f (fun ρ st r => iter n dom g ρ st = some r) ?_ ρ st r
 intro it ih ρ st r hr
 rw [iter]
 cases hf : f ρ st with
 | none => simp [hf] at hr
 | some q =>
  rw [h _ _ _ hf]
  simp only [hf, Option.bind_eq_bind, Option.bind_some] at hr ⊢
  split at hr
  ·exact ih _ _ _ hr
  ·exact hr
section
variable {c d : CF} (h : EU c d)
include h
theorem Po {R : Type} {site : Nat} {env ρ : Env} {st : St} {f : Nat} {caps : List PV} {K K' : Ex → Env → St → Option R} (hK : ∀ e v s, Le (K e v s) (K' e v s)) : Le (Nc (real c) site env ρ st f caps K) (Nc (real d) site env ρ st f caps K') := by
 unfold Nc
 cases fQ st 0 with
 | false => exact Le.refl _
 | true =>
  refine Le.bind (S9 h _ _ _) fun r => ?_
  split
  ·show Le (bif Nat.ble (dD (trim fF _ _ _) 0) _ then _ else _) (bif Nat.ble (dD (trim fF _ _ _) 0) _ then _ else _)
   generalize Nat.ble _ _ = bq
   cases bq with
   | false => exact Le.refl _
   | true =>
    dsimp only [cond_true]
    split
    ·exact hK _ _ _
    ·exact Le.refl _
    ·exact hK _ _ _
  ·exact Le.refl _
theorem Pp {R : Type} {an : iG} {ρ : Env} {st : St} {g : Operand} {K K' : Ex → Env → St → Option R} (hK : ∀ e v s, Le (K e v s) (K' e v s)) : Le (Nf (real c) an ρ st g K) (Nf (real d) an ρ st g K') := by
 unfold Nf
 split
 ·split
  ·exact Po h hK
  ·exact Po h hK
  ·exact Le.refl _
 ·exact Le.refl _
theorem XE {R : Type} {x y x' y' : Option R} (h1 : Le x x') (h2 : Le y y') : Le ((real c).both x y) ((real d).both x' y') := by
 intro r hr
 obtain ⟨g1, g2⟩ := gB hr
 exact oD (h1 r g1) (h2 r g2)
theorem xR {R : Type} (Γ : Tab) (an : iG) : ∀ (t : XT) (ρ : Env) (st : St) {K K' : Env → St → Option R}, (∀ v s, Le (K v s) (K' v s)) → Le (jS (real c) Γ an t ρ st K) (jS (real d) Γ an t ρ st K')
 | .done, ρ, st, K, K', hK => hK _ _
 | .step o t, ρ, st, K, K', hK => by
  simp only [jS]
  exact iJ h _ _ (fun v s => xR Γ an t v s hK) _ _ _
 | .both a b, ρ, st, K, K', hK => by
  simp only [jS]
  exact XE h (xR Γ an a ρ st hK) (xR Γ an b ρ st hK)
theorem Ib (Γ : Tab) (an : iG) : ∀ (co : Code) (ρ : Env) (st : St) {R : Type} {K K' : Ex → Env → St → Option R}, (∀ e v s, Le (K e v s) (K' e v s)) → Le (exec (real c) Γ an co ρ st K) (exec (real d) Γ an co ρ st K') := by
 intro co
 induction co with
 | skip | exit | ret => intro ρ st R K K' hK; simp only [exec]; exact hK _ _ _
 | label | goto | refuse | scope => intro ρ st R K K' hK; simp only [exec]; exact Le.refl _
 | rangeFunc g ps x b => intro ρ st R K K' hK; simp only [exec]; exact Pp h hK
 | region id ops dr =>
  intro ρ st R K K' hK
  simp only [exec]
  cases dr && late ops.toList with
  | false => exact iJ h _ _ (fun v s => hK _ _ _) _ _ _
  | true => exact iJ h _ _ (fun v s => xR h _ _ _ _ _ fun v s => hK _ _ _) _ _ _
 | seq a b iha ihb =>
  intro ρ st R K K' hK
  simp only [exec]
  refine iha _ _ fun e v s => ?_
  cases e
  ·exact ihb _ _ hK
  ·exact hK _ _ _
  ·exact hK _ _ _
 | cond x a b iha ihb =>
  intro ρ st R K K' hK
  simp only [exec]
  split
  ·split
   ·rename_i b _
    rw [kr, kr]
    cases b
    ·exact ihb _ _ fun _ _ _ => hK _ _ _
    ·exact iha _ _ fun _ _ _ => hK _ _ _
   ·exact SY (iha _ _ fun _ _ _ => hK _ _ _) (ihb _ _ fun _ _ _ => hK _ _ _)
   ·exact Le.refl _
  ·exact Le.refl _
 | block id a iha =>
  intro ρ st R K K' hK
  simp only [exec]
  refine iha _ _ fun e v s => ?_
  cases e with
  | exit i =>
   dsimp only
   cases Nat.beq i id
   ·exact hK _ _ _
   ·exact hK _ _ _
  | normal => exact hK _ _ _
  | ret => exact hK _ _ _
 | loop a iha =>
  intro ρ st R K K' hK
  simp only [exec]
  refine Le.bind ?_ fun r => hK _ _ _
  exact XD _ _ (fun ρ s => iha ρ s fun e v s => Le.refl _) _ _
theorem Ta (Γ : Tab) (an : iG) (q : Site) (args : List PV) (st : St) : Le (round (real c) Γ an q args st) (round (real d) Γ an q args st) := by
 unfold round
 split
 ·split
  ·split
   ·refine Ib h _ _ _ _ _ fun e v s => ?_
    split
    ·split
     ·rename_i a1 _ _ _ _ a2 _ _
      generalize Nat.beq _ _ = bq
      cases bq with
      | false => exact Le.refl _
      | true => exact Ib h _ _ _ _ _ fun e v s => Le.refl _
     ·exact Le.refl _
    ·exact Le.refl _
   ·exact Le.refl _
  ·exact Le.refl _
 ·exact Le.refl _
theorem Pq (Γ : Tab) (an : iG) (fn : Func) (args : List PV) (st : St) : Le (body (real c) Γ an fn args st) (body (real d) Γ an fn args st) := by
 unfold body
 split
 ·rw [KD c d]
  refine KE _ _ _ _ fun vs st => ?_
  refine Ib h _ _ _ _ _ fun e v s => ?_
  cases e <;> dsimp only <;> (try rw [KF c d]) <;> exact Le.refl _
 ·exact Le.refl _
end
structure Sys where
 fn : Nat → Option Func
 tab : Tab
 foreign : Nat → Option (List PV → St → Option (PV × St))
noncomputable def step (S : Sys) (c : CF) : CF := fun f args st =>
 match S.foreign f with
 | some g => g args st
 | none => match S.fn f with
  | some fn => match (S.tab.ann f).arena with
   | false => body (real c) S.tab (S.tab.ann f) fn args st
   | true => match body (real c) S.tab (S.tab.ann f) fn (down.fA 1 args) ([] :: st) with
    | some (r, _ :: st') => some (up 1 r, st')
    | _ => none
  | none => match bY.site f with
   | some q => round (real c) S.tab (S.tab.ann q.own) q args st
   | none => none
theorem XG (S : Sys) {c d : CF} (h : EU c d) : EU (step S c) (step S d) := by
 intro f a s
 unfold step
 split
 ·exact Le.refl _
 ·split
  ·split
   ·exact Pq h _ _ _ _ _
   ·intro r hr
    split at hr
    ·rename_i hb
     rw [Pq h _ _ _ _ _ _ hb]
     exact hr
    ·cases hr
  ·split
   ·exact Ta h _ _ _ _ _
   ·exact Le.refl _
noncomputable def call (S : Sys) (f : Nat) (args : List PV) (st : St) : Option (PV × St) := step S (call S) f args st
 partial_fixpoint monotonicity by
  intro c d hcd f a s
  have hle : EU c d := fun f a s => by
   have h := hcd f a s
   unfold Le
   generalize c f a s = x at h ⊢
   generalize d f a s = y at h ⊢
   intro r hr
   subst hr
   cases h
   rfl
  have h := XG S hle f a s
  dsimp only
  unfold Le at h
  generalize step S c f a s = x at h ⊢
  generalize step S d f a s = y at h ⊢
  cases x with
  | none => constructor
  | some r =>
   rw [h r rfl]
   constructor
end Go.X
