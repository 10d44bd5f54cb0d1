/- The interpreter is monotone in the calls; the calls themselves. -/
import Derived.Test.YtdmpjlpkmokllaaDoorXCps
namespace Go.X
open Go
set_option linter.unusedSectionVars false
set_option linter.unusedSimpArgs false
variable [Sites]

abbrev CF := Nat → List PV → St → Option (PV × St)
def Le {R : Type} (x y : Option R) : Prop := ∀ r, x = some r → y = some r
theorem Le.refl {R : Type} (x : Option R) : Le x x := fun _ h => h
theorem Le.bind {R S : Type} {x y : Option R} {f g : R → Option S} (h : Le x y) (k : ∀ r, Le (f r) (g r)) : Le (x.bind f) (y.bind g) := by
  intro r hr
  cases x with
  | none => simp at hr
  | some v => rw [h v rfl]; exact k v r (by simpa using hr)
def CFle (c d : CF) : Prop := ∀ f a s, Le (c f a s) (d f a s)

theorem freezes_cf (c d : CF) : ∀ (l : List PV) (st : St), freezes (real c) st l = freezes (real d) st l
  | [], _ => rfl
  | x :: r, st => by
    have h : freeze (real c) st x = freeze (real d) st x := rfl
    simp only [freezes, h, freezes_cf c d r]
theorem eqCs_cf (c d : CF) (Γ : Tab) : ∀ (gs : List (Nat × Nat × Nat)) (us vs : List PV), eqCs (real c) Γ gs us vs = eqCs (real d) Γ gs us vs := by
  intro gs
  induction gs with
  | nil => intro us vs; cases us <;> cases vs <;> rfl
  | cons g gs ih =>
    intro us vs
    cases us with
    | nil => rfl
    | cons u us => cases vs with
      | nil => cases u <;> rfl
      | cons v vs =>
        cases u <;> cases v <;> first | rfl | (simp only [eqCs, ih us vs]; rfl)
theorem evEq_cf {R : Type} (c d : CF) (Γ : Tab) (t : Nat) (op : BinOp) (st : St) (x y : PV) (K : CallK R) : evEq (real c) Γ t op st x y K = evEq (real d) Γ t op st x y K := by
  unfold evEq
  split
  · rw [eqCs_cf c d]
  · rfl
theorem freezesK_cf (c d : CF) {R : Type} : ∀ (l : List PV) (st : St) (K : List PV → St → Option R), freezesK (real c) st l K = freezesK (real d) st l K := by
  intro l
  induction l with
  | nil => intro st K; rfl
  | cons x l ih =>
    intro st K
    cases x with
    | row lv i n =>
      simp only [freezesK, ih]
      rfl
    | _ => simp only [freezesK, ih]
theorem freezes0K_cf (c d : CF) {R : Type} : ∀ (l : List PV) (st : St) (K : List PV → St → Option R), freezes0K (real c) st l K = freezes0K (real d) st l K := by
  intro l
  induction l with
  | nil => intro st K; rfl
  | cons x l ih =>
    intro st K
    cases x with
    | row lv i n =>
      cases lv with
      | zero => simp only [freezes0K, ih]; rfl
      | succ lv => simp only [freezes0K, ih]
    | _ => simp only [freezes0K, ih]
theorem freezesK_le {c : CF} {R : Type} : ∀ (l : List PV) (st : St) {K K' : List PV → St → Option R}, (∀ vs st, Le (K vs st) (K' vs st)) → Le (freezesK (real c) st l K) (freezesK (real c) st l K') := by
  intro l
  induction l with
  | nil => intro st K K' h; simp only [freezesK]; exact h _ _
  | cons x l ih =>
    intro st K K' h
    cases x with
    | row lv i n =>
      simp only [freezesK]
      split
      · cases (real c).ieq _ _ with
        | false => exact Le.refl _
        | true => exact ih _ fun _ _ => h _ _
      · exact Le.refl _
    | _ => simp only [freezesK]; exact ih _ fun _ _ => h _ _
theorem freezesTK_cf (c d : CF) {R : Type} (tk : List Nat) : ∀ (p : Nat) (l : List PV) (st : St) (K : List PV → St → Option R), freezesTK (real c) tk p l st K = freezesTK (real d) tk p l st K := by
  intro p l
  induction l generalizing p with
  | nil => intro st K; rfl
  | cons x l ih =>
    intro st K
    simp only [freezesTK, ih, freezesK_cf c d]
theorem freezesTK_le {c : CF} {R : Type} (tk : List Nat) : ∀ (p : Nat) (l : List PV) (st : St) {K K' : List PV → St → Option R}, (∀ vs st, Le (K vs st) (K' vs st)) → Le (freezesTK (real c) tk p l st K) (freezesTK (real c) tk p l st K') := by
  intro p l
  induction l generalizing p with
  | nil => intro st K K' h; simp only [freezesTK]; exact h _ _
  | cons x l ih =>
    intro st K K' h
    simp only [freezesTK]
    cases mem p tk with
    | true => exact ih _ _ fun _ _ => h _ _
    | false => exact freezesK_le _ _ fun _ _ => ih _ _ fun _ _ => h _ _
theorem coldK_cf (c d : CF) {R : Type} (b : Bool) (r : PV × St) (K : PV → St → Option R) : coldK (real c) b r K = coldK (real d) b r K := by
  unfold coldK
  rw [freezesK_cf c d]
theorem takeK_cf (c d : CF) {R : Type} (tk : List Nat) : ∀ (p : Nat) (l : List PV) (st : St) (K : List PV → St → Option R), takeK (real c) tk p l st K = takeK (real d) tk p l st K := by
  intro p l
  induction l generalizing p with
  | nil => intro st K; rfl
  | cons x l ih =>
    intro st K
    unfold takeK
    cases mem p tk with
    | false => exact ih _ _ _
    | true =>
      simp only [cond_true]
      split
      · simp only [ih]; rfl
      · rfl
theorem takeK_le {c : CF} {R : Type} (tk : List Nat) : ∀ (p : Nat) (l : List PV) (st : St) {K K' : List PV → St → Option R}, (∀ vs st, Le (K vs st) (K' vs st)) → Le (takeK (real c) tk p l st K) (takeK (real c) tk p l st K') := by
  intro p l
  induction l generalizing p with
  | nil => intro st K K' h; exact h _ _
  | cons x l ih =>
    intro st K K' h
    unfold takeK
    cases mem p tk with
    | false => exact ih _ _ fun _ _ => h _ _
    | true =>
      simp only [cond_true]
      split
      · simp only [real]
        split
        · rename_i mt _ _
          cases mt with
          | false => exact Le.refl _
          | true =>
            simp only [cond_true]
            generalize ((_ : Int) == _) = bq
            cases bq with
            | false => exact Le.refl _
            | true => exact ih _ _ fun _ _ => h _ _
        · exact Le.refl _
      · exact Le.refl _
theorem freezes0_cf (c d : CF) : ∀ (l : List PV) (st : St), freezes0 (real c) st l = freezes0 (real d) st l
  | [], _ => rfl
  | x :: r, st => by
    have h : freeze0 (real c) st x = freeze0 (real d) st x := rfl
    simp only [freezes0, h, freezes0_cf c d r]
theorem resultsOf_cf (c d : CF) (Γ : Tab) (ρ : Env) (st : St) : ∀ (l : List ResultVar), resultsOf (real c) Γ ρ st l = resultsOf (real d) Γ ρ st l
  | [] => rfl
  | x :: r => by
    have h : resultOf (real c) Γ ρ st x = resultOf (real d) Γ ρ st x := rfl
    simp only [resultsOf, h, resultsOf_cf c d Γ ρ st r]
theorem frzGK_cf (c d : CF) {R : Type} : ∀ (l : List PV) (st : St) (K : List PV → Option R), frzGK (real c) st l K = frzGK (real d) st l K := by
  intro l
  induction l with
  | nil => intro st K; rfl
  | cons x l ih =>
    intro st K
    cases x with
    | row lv i n =>
      cases lv with
      | zero => simp only [frzGK, ih]; rfl
      | succ lv => simp only [frzGK, ih]
    | _ => simp only [frzGK, ih]
theorem leave_cf (c d : CF) (Γ : Tab) (give : Bool) (ρ : Env) (st : St) (l : List ResultVar) : leave (real c) Γ give l ρ st = leave (real d) Γ give l ρ st := by
  simp only [leave, resultsOf_cf c d, freezes0K_cf c d, frzGK_cf c d]
  rfl
theorem agree_some {R : Type} {x y : Option R} {r : R} (h : agree x y = some r) : x = some r ∧ y = some r := by
  unfold agree at h
  split at h
  · rename_i hxy
    exact ⟨h, hxy ▸ h⟩
  · cases h
theorem agree_mk {R : Type} {x y : Option R} {r : R} (h1 : x = some r) (h2 : y = some r) : agree x y = some r := by
  subst h1; subst h2; simp [agree]
theorem agree_le {R : Type} {x y x' y' : Option R} (h1 : Le x x') (h2 : Le y y') : Le (agree x y) (agree x' y') := fun r hr => by
  obtain ⟨a, b⟩ := agree_some hr
  exact agree_mk (h1 r a) (h2 r b)
theorem ownCells_cf (c d : CF) {R : Type} (Γ : Tab) (t : Nat) : ∀ (l : List D) (j : Nat) (st : St) (K : List PV → St → Option R), ownCells (real c) Γ t j l st K = ownCells (real d) Γ t j l st K
  | [], _, _, _ => rfl
  | x :: l, j, st, K => by
    unfold ownCells
    split
    · simp only [real_nilK, ownCells_cf c d Γ t l]
    · simp only [ownCells_cf c d Γ t l]
section
variable {c d : CF} (h : CFle c d)
include h
theorem cf_le (f : Nat) (a : List PV) (st : St) : Le ((real c).cf f a st) ((real d).cf f a st) := by
  show Le (bif siteB f then none else c f a st) (bif siteB f then none else d f a st)
  cases siteB f
  · exact h f a st
  · exact Le.refl _
theorem evalOp_le' (Γ : Tab) (an : Ann) (ρ : Env) (st : St) (dst : Option Nat) (op : Op) : Le (evalOp (real c) Γ an ρ st dst op fin) (evalOp (real d) Γ an ρ st dst op fin) := by
  cases op
  case call cl =>
    simp only [evalOp, freezesK_cf c d]
    split
    · exact Le.refl _
    · rw [freezesTK_cf c d]
      refine freezesTK_le _ _ _ _ fun vs st => ?_
      split
      · exact Le.bind (cf_le h _ _ _) fun r => by rw [coldK_cf c d]; exact Le.refl _
      · exact Le.bind (cf_le h _ _ _) fun r => by rw [coldK_cf c d]; exact Le.refl _
      · split
        · exact Le.bind (h _ _ _ : Le (c _ _ _) (d _ _ _)) fun r => Le.refl _
        · exact Le.refl _
      · exact Le.refl _
    · exact Le.refl _
  all_goals first | exact Le.refl _ | (simp only [evalOp, evEq_cf c d]; exact Le.refl _) | (simp only [evalOp, ownCells_cf c d]; exact Le.refl _) | (simp only [evalOp, freezesK_cf c d]; exact Le.refl _) | (simp only [evalOp, freezesK_cf c d, ownCells_cf c d]; exact Le.refl _) | (simp only [evalOp]; split <;> first | exact Le.refl _ | (simp only [freezesK_cf c d]; exact Le.refl _)) | (rename_i g _ _; cases g <;> simp only [evalOp, freezesK_cf c d] <;> exact Le.refl _)
theorem evalOp_le {R : Type} (Γ : Tab) (an : Ann) (ρ : Env) (st : St) (dst : Option Nat) (op : Op) {K K' : CallK R} (hK : ∀ v s, Le (K v s) (K' v s)) : Le (evalOp (real c) Γ an ρ st dst op K) (evalOp (real d) Γ an ρ st dst op K') := by
  rw [evalOp_cps (c := c), evalOp_cps (c := d)]
  exact Le.bind (evalOp_le' h Γ an ρ st dst op) fun r => hK _ _
theorem sealK_le {R : Type} (chk : Bool) (st : St) {K K' : CallK R} (hK : ∀ v s, Le (K v s) (K' v s)) (v : PV) (s : St) : Le (sealK (real c) chk st K v s) (sealK (real d) chk st K' v s) := by
  unfold sealK
  cases chk
  · exact hK v s
  · simp only [cond_true]
    show Le (bif (real c).same st s then _ else _) (bif (real c).same st s then _ else _)
    have e : (real c).same st s = (real d).same st s := rfl
    rw [e]
    cases (real d).same st s
    · exact Le.refl _
    · exact hK v st
theorem runOps_le {R : Type} (Γ : Tab) (an : Ann) {K K' : Env → St → Option R} (hK : ∀ v s, Le (K v s) (K' v s)) : ∀ (l : List XO) (ρ : Env) (st : St), Le (runOps (real c) Γ an l ρ st K) (runOps (real d) Γ an l ρ st K')
  | [], ρ, st => by simp only [runOps]; exact hK _ _
  | ⟨dst, op, g, chk, dead⟩ :: rest, ρ, st => by
    simp only [runOps]
    cases g with
    | none => exact evalOp_le h _ _ _ _ _ _ (sealK_le h _ _ fun v s => runOps_le Γ an hK rest _ _)
    | some q =>
      obtain ⟨j, want⟩ := q
      dsimp only
      split
      · rename_i b _
        cases (bif want then b else !b)
        · exact runOps_le Γ an hK rest _ _
        · exact evalOp_le h _ _ _ _ _ _ (sealK_le h _ _ fun v s => runOps_le Γ an hK rest _ _)
      · exact runOps_le Γ an hK rest _ _
      · exact Le.refl _
end
theorem iter_le (n : Nat) (dom : List Nat) {f g : Env → St → Option (Ex × Env × St)} (h : ∀ ρ s, Le (f ρ s) (g ρ s)) (ρ : Env) (st : St) : Le (iter n dom f ρ st) (iter n dom g ρ st) := by
  intro r
  refine iter.partial_correctness n dom f (fun ρ st r => iter n dom g ρ st = some r) ?_ ρ st r
  intro it ih ρ st r hr
  rw [iter]
  cases hf : f ρ st with
  | none => simp [hf] at hr
  | some q =>
    rw [h _ _ _ hf]
    simp only [hf, Option.bind_eq_bind, Option.bind_some] at hr ⊢
    split at hr
    · exact ih _ _ _ hr
    · exact hr
section
variable {c d : CF} (h : CFle c d)
include h
theorem rngF_le {R : Type} {site : Nat} {env ρ : Env} {st : St} {f : Nat} {caps : List PV} {K K' : Ex → Env → St → Option R} (hK : ∀ e v s, Le (K e v s) (K' e v s)) : Le (rngF (real c) site env ρ st f caps K) (rngF (real d) site env ρ st f caps K') := by
  unfold rngF
  cases hasL st 0 with
  | false => exact Le.refl _
  | true =>
    refine Le.bind (cf_le h _ _ _) fun r => ?_
    split
    · show Le (bif Nat.ble (numO (trim plains _ _ _) 0) _ then _ else _) (bif Nat.ble (numO (trim plains _ _ _) 0) _ then _ else _)
      generalize Nat.ble _ _ = bq
      cases bq with
      | false => exact Le.refl _
      | true =>
        dsimp only [cond_true]
        split
        · exact hK _ _ _
        · exact Le.refl _
        · exact hK _ _ _
    · exact Le.refl _
theorem rngK_le {R : Type} {an : Ann} {ρ : Env} {st : St} {g : Operand} {K K' : Ex → Env → St → Option R} (hK : ∀ e v s, Le (K e v s) (K' e v s)) : Le (rngK (real c) an ρ st g K) (rngK (real d) an ρ st g K') := by
  unfold rngK
  split
  · split
    · exact rngF_le h hK
    · exact rngF_le h hK
    · exact Le.refl _
  · exact Le.refl _
theorem exec_le (Γ : Tab) (an : Ann) : ∀ (co : Code) (ρ : Env) (st : St) {R : Type} {K K' : Ex → Env → St → Option R}, (∀ e v s, Le (K e v s) (K' e v s)) → Le (exec (real c) Γ an co ρ st K) (exec (real d) Γ an co ρ st K') := by
  intro co
  induction co with
  | skip | exit | ret => intro ρ st R K K' hK; simp only [exec]; exact hK _ _ _
  | label | goto | refuse | scope => intro ρ st R K K' hK; simp only [exec]; exact Le.refl _
  | rangeFunc g ps x b => intro ρ st R K K' hK; simp only [exec]; exact rngK_le h hK
  | region id ops dr => intro ρ st R K K' hK; simp only [exec]; exact runOps_le h _ _ (fun v s => hK _ _ _) _ _ _
  | seq a b iha ihb =>
    intro ρ st R K K' hK
    simp only [exec]
    refine iha _ _ fun e v s => ?_
    cases e
    · exact ihb _ _ hK
    · exact hK _ _ _
    · exact hK _ _ _
  | cond x a b iha ihb =>
    intro ρ st R K K' hK
    simp only [exec]
    split
    · split
      · rename_i b _
        rw [real_grp, real_grp]
        cases b
        · exact ihb _ _ fun _ _ _ => hK _ _ _
        · exact iha _ _ fun _ _ _ => hK _ _ _
      · exact agree_le (iha _ _ fun _ _ _ => hK _ _ _) (ihb _ _ fun _ _ _ => hK _ _ _)
      · exact Le.refl _
    · exact Le.refl _
  | block id a iha =>
    intro ρ st R K K' hK
    simp only [exec]
    refine iha _ _ fun e v s => ?_
    cases e with
    | exit i =>
      dsimp only
      cases Nat.beq i id
      · exact hK _ _ _
      · exact hK _ _ _
    | normal => exact hK _ _ _
    | ret => exact hK _ _ _
  | loop a iha =>
    intro ρ st R K K' hK
    simp only [exec]
    refine Le.bind ?_ fun r => hK _ _ _
    exact iter_le _ _ (fun ρ s => iha ρ s fun e v s => Le.refl _) _ _
theorem round_le (Γ : Tab) (an : Ann) (q : Site) (args : List PV) (st : St) : Le (round (real c) Γ an q args st) (round (real d) Γ an q args st) := by
  unfold round
  split
  · split
    · split
      · refine exec_le h _ _ _ _ _ fun e v s => ?_
        split
        · split
          · rename_i a1 _ _ _ _ a2 _ _
            generalize Nat.beq _ _ = bq
            cases bq with
            | false => exact Le.refl _
            | true => exact exec_le h _ _ _ _ _ fun e v s => Le.refl _
          · exact Le.refl _
        · exact Le.refl _
      · exact Le.refl _
    · exact Le.refl _
  · exact Le.refl _
theorem body_le (Γ : Tab) (an : Ann) (fn : Func) (args : List PV) (st : St) : Le (body (real c) Γ an fn args st) (body (real d) Γ an fn args st) := by
  unfold body
  split
  · rw [takeK_cf c d]
    refine takeK_le _ _ _ _ fun vs st => ?_
    refine exec_le h _ _ _ _ _ fun e v s => ?_
    cases e <;> dsimp only <;> (try rw [leave_cf c d]) <;> exact Le.refl _
  · exact Le.refl _
end

/-- What is said of one program: its functions, its table, and what is known of functions from elsewhere. -/
structure Sys where
  fn : Nat → Option Func
  tab : Tab
  foreign : Nat → Option (List PV → St → Option (PV × St))

noncomputable def step (S : Sys) (c : CF) : CF := fun f args st =>
  match S.foreign f with
  | some g => g args st
  | none => match S.fn f with
    | some fn => match (S.tab.ann f).arena with
      | false => body (real c) S.tab (S.tab.ann f) fn args st
      | true => match body (real c) S.tab (S.tab.ann f) fn (down.downs 1 args) ([] :: st) with
        | some (r, _ :: st') => some (up 1 r, st')
        | _ => none
    | none => match Sites.site f with
      | some q => round (real c) S.tab (S.tab.ann q.own) q args st
      | none => none
theorem step_le (S : Sys) {c d : CF} (h : CFle c d) : CFle (step S c) (step S d) := by
  intro f a s
  unfold step
  split
  · exact Le.refl _
  · split
    · split
      · exact body_le h _ _ _ _ _
      · intro r hr
        split at hr
        · rename_i hb
          rw [body_le h _ _ _ _ _ _ hb]
          exact hr
        · cases hr
    · split
      · exact round_le h _ _ _ _ _
      · exact Le.refl _
noncomputable def call (S : Sys) (f : Nat) (args : List PV) (st : St) : Option (PV × St) := step S (call S) f args st
  partial_fixpoint monotonicity by
    intro c d hcd f a s
    have hle : CFle c d := fun f a s => by
      have h := hcd f a s
      unfold Le
      generalize c f a s = x at h ⊢
      generalize d f a s = y at h ⊢
      intro r hr
      subst hr
      cases h
      rfl
    have h := step_le S hle f a s
    dsimp only
    unfold Le at h
    generalize step S c f a s = x at h ⊢
    generalize step S d f a s = y at h ⊢
    cases x with
    | none => constructor
    | some r =>
      rw [h r rfl]
      constructor
end Go.X
