/- The interpreter is monotone in the calls; the calls themselves. -/
import Derived.Test.YtipkggkbldgmjaaGreatXCps
namespace Go.X
open Go
set_option linter.unusedSectionVars false
set_option linter.unusedSimpArgs false
variable [eY]
abbrev CF := Nat → List PV → St → Option (PV × St)
def Le {R : Type} (x y : Option R) : Prop := ∀ r, x = some r → y = some r
theorem Le.refl {R : Type} (x : Option R) : Le x x := fun _ h => h
theorem Le.bind {R S : Type} {x y : Option R} {f g : R → Option S} (h : Le x y) (k : ∀ r, Le (f r) (g r)) : Le (x.bind f) (y.bind g) := by
 intro r hr
 cases x with
 | none => simp at hr
 | some v => rw [h v rfl]; exact k v r (by simpa using hr)
def NU (c d : CF) : Prop := ∀ f a s, Le (c f a s) (d f a s)
theorem agi (c d : CF) (Γ : Tab) : ∀ (gs : List (Nat × Nat × Nat)) (us vs : List PV), Bp (real c) Γ gs us vs = Bp (real d) Γ gs us vs := by
 intro gs
 induction gs with
 | nil => intro us vs; cases us <;> cases vs <;> rfl
 | cons g gs ih =>
  intro us vs
  cases us with
  | nil => rfl
  | cons u us => cases vs with
   | nil => cases u <;> rfl
   | cons v vs =>
    cases u <;> cases v <;> first | rfl | (simp only [Bp, ih us vs]; rfl)
theorem agj {R : Type} (c d : CF) (Γ : Tab) (t : Nat) (op : BinOp) (st : St) (x y : PV) (K : iD R) : KU (real c) Γ t op st x y K = KU (real d) Γ t op st x y K := by
 unfold KU
 split
 ·rw [agi c d]
 ·rfl
theorem jY (c d : CF) {R : Type} : ∀ (l : List PV) (st : St) (K : List PV → St → Option R), eu (real c) st l K = eu (real d) st l K := by
 intro l
 induction l with
 | nil => intro st K; rfl
 | cons x l ih =>
  intro st K
  cases x with
  | row lv i n =>
   simp only [eu, ih]
   rfl
  | _ => simp only [eu, ih]
theorem NV (c d : CF) {R : Type} : ∀ (l : List PV) (st : St) (K : List PV → St → Option R), iB (real c) st l K = iB (real d) st l K := by
 intro l
 induction l with
 | nil => intro st K; rfl
 | cons x l ih =>
  intro st K
  cases x with
  | row lv i n =>
   cases lv with
   | zero => simp only [iB, ih]; rfl
   | succ lv => simp only [iB, ih]
  | _ => simp only [iB, ih]
theorem RV {c : CF} {R : Type} : ∀ (l : List PV) (st : St) {K K' : List PV → St → Option R}, (∀ vs st, Le (K vs st) (K' vs st)) → Le (eu (real c) st l K) (eu (real c) st l K') := by
 intro l
 induction l with
 | nil => intro st K K' h; simp only [eu]; exact h _ _
 | cons x l ih =>
  intro st K K' h
  cases x with
  | row lv i n =>
   simp only [eu]
   split
   ·cases (real c).ieq _ _ with
    | false => exact Le.refl _
    | true => exact ih _ fun _ _ => h _ _
   ·exact Le.refl _
  | _ => simp only [eu]; exact ih _ fun _ _ => h _ _
theorem NW (c d : CF) {R : Type} (tk : List Nat) : ∀ (p : Nat) (l : List PV) (st : St) (K : List PV → St → Option R), gD (real c) tk p l st K = gD (real d) tk p l st K := by
 intro p l
 induction l generalizing p with
 | nil => intro st K; rfl
 | cons x l ih =>
  intro st K
  simp only [gD, ih, jY c d]
theorem NY {c : CF} {R : Type} (tk : List Nat) : ∀ (p : Nat) (l : List PV) (st : St) {K K' : List PV → St → Option R}, (∀ vs st, Le (K vs st) (K' vs st)) → Le (gD (real c) tk p l st K) (gD (real c) tk p l st K') := by
 intro p l
 induction l generalizing p with
 | nil => intro st K K' h; simp only [gD]; exact h _ _
 | cons x l ih =>
  intro st K K' h
  simp only [gD]
  cases mem p tk with
  | true => exact ih _ _ fun _ _ => h _ _
  | false => exact RV _ _ fun _ _ => ih _ _ fun _ _ => h _ _
theorem RX (c d : CF) {R : Type} (b : Bool) (r : PV × St) (K : PV → St → Option R) : vP (real c) b r K = vP (real d) b r K := by
 unfold vP
 rw [jY c d]
theorem RY (c d : CF) {R : Type} (tk : List Nat) : ∀ (p : Nat) (l : List PV) (st : St) (K : List PV → St → Option R), nJ (real c) tk p l st K = nJ (real d) tk p l st K := by
 intro p l
 induction l generalizing p with
 | nil => intro st K; rfl
 | cons x l ih =>
  intro st K
  unfold nJ
  cases mem p tk with
  | false => exact ih _ _ _
  | true =>
   simp only [cond_true]
   split
   ·simp only [ih]; rfl
   ·rfl
theorem RZ {c : CF} {R : Type} (tk : List Nat) : ∀ (p : Nat) (l : List PV) (st : St) {K K' : List PV → St → Option R}, (∀ vs st, Le (K vs st) (K' vs st)) → Le (nJ (real c) tk p l st K) (nJ (real c) tk p l st K') := by
 intro p l
 induction l generalizing p with
 | nil => intro st K K' h; exact h _ _
 | cons x l ih =>
  intro st K K' h
  unfold nJ
  cases mem p tk with
  | false => exact ih _ _ fun _ _ => h _ _
  | true =>
   simp only [cond_true]
   split
   ·simp only [real]
    split
    ·rename_i mt _ _
     cases mt with
     | false => exact Le.refl _
     | true =>
      simp only [cond_true]
      generalize ((_ : Int) == _) = bq
      cases bq with
      | false => exact Le.refl _
      | true => exact ih _ _ fun _ _ => h _ _
    ·exact Le.refl _
   ·exact Le.refl _
theorem Bw (c d : CF) (Γ : Tab) (ρ : Env) (st : St) : ∀ (l : List ResultVar), mh (real c) Γ ρ st l = mh (real d) Γ ρ st l
 | [] => rfl
 | x :: r => by
  have h : vR (real c) Γ ρ st x = vR (real d) Γ ρ st x := rfl
  simp only [mh, h, Bw c d Γ ρ st r]
theorem aaJ (c d : CF) {R : Type} : ∀ (l : List PV) (st : St) (K : List PV → Option R), vF (real c) st l K = vF (real d) st l K := by
 intro l
 induction l with
 | nil => intro st K; rfl
 | cons x l ih =>
  intro st K
  cases x with
  | row lv i n =>
   cases lv with
   | zero => simp only [vF, ih]; rfl
   | succ lv => simp only [vF, ih]
  | _ => simp only [vF, ih]
theorem R3 (c d : CF) (Γ : Tab) (give : Bool) (ρ : Env) (st : St) (l : List ResultVar) : leave (real c) Γ give l ρ st = leave (real d) Γ give l ρ st := by
 simp only [leave, Bw c d, NV c d, aaJ c d]
 rfl
theorem tK {R : Type} {x y : Option R} {r : R} (h : agree x y = some r) : x = some r ∧ y = some r := by
 unfold agree at h
 split at h
 ·rename_i hxy
  exact ⟨h, hxy ▸ h⟩
 ·cases h
theorem Bz {R : Type} {x y : Option R} {r : R} (h1 : x = some r) (h2 : y = some r) : agree x y = some r := by
 subst h1; subst h2; simp [agree]
theorem aaK {R : Type} {x y x' y' : Option R} (h1 : Le x x') (h2 : Le y y') : Le (agree x y) (agree x' y') := fun r hr => by
 obtain ⟨a, b⟩ := tK hr
 exact Bz (h1 r a) (h2 r b)
theorem qE (c d : CF) {R : Type} (Γ : Tab) (t : Nat) : ∀ (l : List D) (j : Nat) (st : St) (K : List PV → St → Option R), jd (real c) Γ t j l st K = jd (real d) Γ t j l st K
 | [], _, _, _ => rfl
 | x :: l, j, st, K => by
  unfold jd
  split
  ·simp only [mo, qE c d Γ t l]
  ·simp only [qE c d Γ t l]
section
variable {c d : CF} (h : NU c d)
include h
theorem aaL (f : Nat) (a : List PV) (st : St) : Le ((real c).cf f a st) ((real d).cf f a st) := by
 show Le (bif jl f then none else c f a st) (bif jl f then none else d f a st)
 cases jl f
 ·exact h f a st
 ·exact Le.refl _
theorem UN (Γ : Tab) (an : kW) (ρ : Env) (st : St) (dst : Option Nat) (op : Op) : Le (evalOp (real c) Γ an ρ st dst op fin) (evalOp (real d) Γ an ρ st dst op fin) := by
 cases op
 case call cl =>
  simp only [evalOp, jY c d]
  split
  ·exact Le.refl _
  ·rw [NW c d]
   refine NY _ _ _ _ fun vs st => ?_
   split
   ·exact Le.bind (aaL h _ _ _) fun r => by rw [RX c d]; exact Le.refl _
   ·exact Le.bind (aaL h _ _ _) fun r => by rw [RX c d]; exact Le.refl _
   ·split
    ·exact Le.bind (h _ _ _ : Le (c _ _ _) (d _ _ _)) fun r => Le.refl _
    ·exact Le.refl _
   ·exact Le.refl _
  ·exact Le.refl _
 all_goals first | exact Le.refl _ | (simp only [evalOp, agj c d]; exact Le.refl _) | (simp only [evalOp, qE c d]; exact Le.refl _) | (simp only [evalOp, jY c d]; exact Le.refl _) | (simp only [evalOp, jY c d, qE c d]; exact Le.refl _) | (simp only [evalOp]; split <;> first | exact Le.refl _ | (simp only [jY c d]; exact Le.refl _)) | (rename_i g _ _; cases g <;> simp only [evalOp, jY c d] <;> exact Le.refl _)
theorem Lu {R : Type} (Γ : Tab) (an : kW) (ρ : Env) (st : St) (dst : Option Nat) (op : Op) {K K' : iD R} (hK : ∀ v s, Le (K v s) (K' v s)) : Le (evalOp (real c) Γ an ρ st dst op K) (evalOp (real d) Γ an ρ st dst op K') := by
 rw [zD (c := c), zD (c := d)]
 exact Le.bind (UN h Γ an ρ st dst op) fun r => hK _ _
theorem R4 {R : Type} (UC : Bool) (st : St) {K K' : iD R} (hK : ∀ v s, Le (K v s) (K' v s)) (v : PV) (s : St) : Le (vE (real c) UC st K v s) (vE (real d) UC st K' v s) := by
 unfold vE
 cases UC
 ·exact hK v s
 ·simp only [cond_true]
  show Le (bif (real c).same st s then _ else _) (bif (real c).same st s then _ else _)
  have e : (real c).same st s = (real d).same st s := rfl
  rw [e]
  cases (real d).same st s
  ·exact Le.refl _
  ·exact hK v st
theorem nk {R : Type} (Γ : Tab) (an : kW) {K K' : Env → St → Option R} (hK : ∀ v s, Le (K v s) (K' v s)) : ∀ (l : List XO) (ρ : Env) (st : St), Le (fT (real c) Γ an l ρ st K) (fT (real d) Γ an l ρ st K')
 | [], ρ, st => by simp only [fT]; exact hK _ _
 | ⟨dst, op, g, UC, dead⟩ :: rest, ρ, st => by
  simp only [fT]
  cases g with
  | none => exact Lu h _ _ _ _ _ _ (R4 h _ _ fun v s => nk Γ an hK rest _ _)
  | some q =>
   obtain ⟨j, want⟩ := q
   dsimp only
   split
   ·rename_i b _
    cases (bif want then b else !b)
    ·exact nk Γ an hK rest _ _
    ·exact Lu h _ _ _ _ _ _ (R4 h _ _ fun v s => nk Γ an hK rest _ _)
   ·exact nk Γ an hK rest _ _
   ·exact Le.refl _
end
theorem agk (n : Nat) (dom : List Nat) {f g : Env → St → Option (Ex × Env × St)} (h : ∀ ρ s, Le (f ρ s) (g ρ s)) (ρ : Env) (st : St) : Le (iter n dom f ρ st) (iter n dom g ρ st) := by
 intro r
 refine iter.partial_correctness n dom f (fun ρ st r => iter n dom g ρ st = some r) ?_ ρ st r
 intro it ih ρ st r hr
 rw [iter]
 cases hf : f ρ st with
 | none => simp [hf] at hr
 | some q =>
  rw [h _ _ _ hf]
  simp only [hf, Option.bind_eq_bind, Option.bind_some] at hr ⊢
  split at hr
  ·exact ih _ _ _ hr
  ·exact hr
section
variable {c d : CF} (h : NU c d)
include h
theorem Xc {R : Type} {site : Nat} {env ρ : Env} {st : St} {f : Nat} {caps : List PV} {K K' : Ex → Env → St → Option R} (hK : ∀ e v s, Le (K e v s) (K' e v s)) : Le (UD (real c) site env ρ st f caps K) (UD (real d) site env ρ st f caps K') := by
 unfold UD
 cases iZ st 0 with
 | false => exact Le.refl _
 | true =>
  refine Le.bind (aaL h _ _ _) fun r => ?_
  split
  ·show Le (bif Nat.ble (fE (trim gQ _ _ _) 0) _ then _ else _) (bif Nat.ble (fE (trim gQ _ _ _) 0) _ then _ else _)
   generalize Nat.ble _ _ = bq
   cases bq with
   | false => exact Le.refl _
   | true =>
    dsimp only [cond_true]
    split
    ·exact hK _ _ _
    ·exact Le.refl _
    ·exact hK _ _ _
  ·exact Le.refl _
theorem Xd {R : Type} {an : kW} {ρ : Env} {st : St} {g : Operand} {K K' : Ex → Env → St → Option R} (hK : ∀ e v s, Le (K e v s) (K' e v s)) : Le (UE (real c) an ρ st g K) (UE (real d) an ρ st g K') := by
 unfold UE
 split
 ·split
  ·exact Xc h hK
  ·exact Xc h hK
  ·exact Le.refl _
 ·exact Le.refl _
theorem NZ (Γ : Tab) (an : kW) : ∀ (co : Code) (ρ : Env) (st : St) {R : Type} {K K' : Ex → Env → St → Option R}, (∀ e v s, Le (K e v s) (K' e v s)) → Le (exec (real c) Γ an co ρ st K) (exec (real d) Γ an co ρ st K') := by
 intro co
 induction co with
 | skip | exit | ret => intro ρ st R K K' hK; simp only [exec]; exact hK _ _ _
 | label | goto | refuse | scope => intro ρ st R K K' hK; simp only [exec]; exact Le.refl _
 | rangeFunc g ps x b => intro ρ st R K K' hK; simp only [exec]; exact Xd h hK
 | region id ops dr => intro ρ st R K K' hK; simp only [exec]; exact nk h _ _ (fun v s => hK _ _ _) _ _ _
 | seq a b iha ihb =>
  intro ρ st R K K' hK
  simp only [exec]
  refine iha _ _ fun e v s => ?_
  cases e
  ·exact ihb _ _ hK
  ·exact hK _ _ _
  ·exact hK _ _ _
 | cond x a b iha ihb =>
  intro ρ st R K K' hK
  simp only [exec]
  split
  ·split
   ·rename_i b _
    rw [nK, nK]
    cases b
    ·exact ihb _ _ fun _ _ _ => hK _ _ _
    ·exact iha _ _ fun _ _ _ => hK _ _ _
   ·exact aaK (iha _ _ fun _ _ _ => hK _ _ _) (ihb _ _ fun _ _ _ => hK _ _ _)
   ·exact Le.refl _
  ·exact Le.refl _
 | block id a iha =>
  intro ρ st R K K' hK
  simp only [exec]
  refine iha _ _ fun e v s => ?_
  cases e with
  | exit i =>
   dsimp only
   cases Nat.beq i id
   ·exact hK _ _ _
   ·exact hK _ _ _
  | normal => exact hK _ _ _
  | ret => exact hK _ _ _
 | loop a iha =>
  intro ρ st R K K' hK
  simp only [exec]
  refine Le.bind ?_ fun r => hK _ _ _
  exact agk _ _ (fun ρ s => iha ρ s fun e v s => Le.refl _) _ _
theorem aaM (Γ : Tab) (an : kW) (q : Site) (args : List PV) (st : St) : Le (round (real c) Γ an q args st) (round (real d) Γ an q args st) := by
 unfold round
 split
 ·split
  ·split
   ·refine NZ h _ _ _ _ _ fun e v s => ?_
    split
    ·split
     ·rename_i a1 _ _ _ _ a2 _ _
      generalize Nat.beq _ _ = bq
      cases bq with
      | false => exact Le.refl _
      | true => exact NZ h _ _ _ _ _ fun e v s => Le.refl _
     ·exact Le.refl _
    ·exact Le.refl _
   ·exact Le.refl _
  ·exact Le.refl _
 ·exact Le.refl _
theorem Xe (Γ : Tab) (an : kW) (fn : Func) (args : List PV) (st : St) : Le (body (real c) Γ an fn args st) (body (real d) Γ an fn args st) := by
 unfold body
 split
 ·rw [RY c d]
  refine RZ _ _ _ _ fun vs st => ?_
  refine NZ h _ _ _ _ _ fun e v s => ?_
  cases e <;> dsimp only <;> (try rw [R3 c d]) <;> exact Le.refl _
 ·exact Le.refl _
end
structure Sys where
 fn : Nat → Option Func
 tab : Tab
 foreign : Nat → Option (List PV → St → Option (PV × St))
noncomputable def step (S : Sys) (c : CF) : CF := fun f args st =>
 match S.foreign f with
 | some g => g args st
 | none => match S.fn f with
  | some fn => match (S.tab.ann f).arena with
   | false => body (real c) S.tab (S.tab.ann f) fn args st
   | true => match body (real c) S.tab (S.tab.ann f) fn (down.iM 1 args) ([] :: st) with
    | some (r, _ :: st') => some (up 1 r, st')
    | _ => none
  | none => match eY.site f with
   | some q => round (real c) S.tab (S.tab.ann q.own) q args st
   | none => none
theorem agl (S : Sys) {c d : CF} (h : NU c d) : NU (step S c) (step S d) := by
 intro f a s
 unfold step
 split
 ·exact Le.refl _
 ·split
  ·split
   ·exact Xe h _ _ _ _ _
   ·intro r hr
    split at hr
    ·rename_i hb
     rw [Xe h _ _ _ _ _ _ hb]
     exact hr
    ·cases hr
  ·split
   ·exact aaM h _ _ _ _ _
   ·exact Le.refl _
noncomputable def call (S : Sys) (f : Nat) (args : List PV) (st : St) : Option (PV × St) := step S (call S) f args st
 partial_fixpoint monotonicity by
  intro c d hcd f a s
  have hle : NU c d := fun f a s => by
   have h := hcd f a s
   unfold Le
   generalize c f a s = x at h ⊢
   generalize d f a s = y at h ⊢
   intro r hr
   subst hr
   cases h
   rfl
  have h := agl S hle f a s
  dsimp only
  unfold Le at h
  generalize step S c f a s = x at h ⊢
  generalize step S d f a s = y at h ⊢
  cases x with
  | none => constructor
  | some r =>
   rw [h r rfl]
   constructor
end Go.X
