/- The code, as little of it as is needed. -/
import Derived.Test.YtamllgdaepjcfaaXMono
namespace Go.X
open Go
set_option linter.unusedSectionVars false
set_option linter.unusedSimpArgs false

inductive XC where
  | skip
  | region (ops : List XO)
  | seq (a b : XC)
  | cond (t : Nat) (a b : XC)
  | block (id : Nat) (a : XC)
  | loop (a : XC)
  | exit (id : Nat)
  | ret
  | bad
def strip (an : Ann) : Code → XC
  | .skip => .skip
  | .region _ ops drawn => .region (xOps an drawn ops.toList 0 ops.toList)
  | .seq a b => .seq (strip an a) (strip an b)
  | .cond (.tmp t) a b => .cond t (strip an a) (strip an b)
  | .block id a => .block id (strip an a)
  | .loop a => .loop (strip an a)
  | .exit id => .exit id
  | .ret => .ret
  | _ => .bad
section
variable (Ω : Om)
/-- So many operations at a time. -/
def runT {R : Type} (Γ : Tab) (an : Ann) : Nat → List XO → Env → St → (Env → St → Option R) → Option R
  | _, [], ρ, st, K => K ρ st
  | 0, o :: rest, ρ, st, K => Ω.tick fun _ => runOps Ω Γ an [o] ρ st fun ρ st => runT Γ an 11 rest ρ st K
  | k + 1, o :: rest, ρ, st, K => runOps Ω Γ an [o] ρ st fun ρ st => runT Γ an k rest ρ st K
def execX (Γ : Tab) (an : Ann) : XC → Env → St → {R : Type} → (Ex → Env → St → Option R) → Option R
  | .skip, ρ, st, _, K => K .normal ρ st
  | .region ops, ρ, st, _, K => runT Ω Γ an 12 ops ρ st fun ρ st => K .normal (keepOnly an.keep ρ) st
  | .seq a b, ρ, st, _, K => execX Γ an a ρ st fun e ρ st => match e with
    | .normal => execX Γ an b ρ st K
    | e => K e ρ st
  | .cond t a b, ρ, st, _, K => match egt ρ t with
    | .d (.bool x) => Ω.grp (fun k => br x (fun _ => execX Γ an a (del ρ t) st (fun e ρ' st' => k (e, keepOnly (keys ρ) ρ', trim Ω.plain (numO st 0) (keepOnly (keys ρ) ρ') st')))
        (fun _ => execX Γ an b (del ρ t) st (fun e ρ' st' => k (e, keepOnly (keys ρ) ρ', trim Ω.plain (numO st 0) (keepOnly (keys ρ) ρ') st')))) (fun r => K r.1 r.2.1 r.2.2)
    | _ => none
  | .block id a, ρ, st, _, K => execX Γ an a ρ st fun e ρ st => match e with
    | .exit i => bif Nat.beq i id then K .normal ρ st else K (.exit i) ρ st
    | e => K e ρ st
  | .loop a, ρ, st, _, K => (Ω.iter (numO st 0) (keys ρ) (fun ρ st => execX Γ an a ρ st fun e ρ st => some (e, ρ, st)) ρ st).bind fun r => K r.1 r.2.1 r.2.2
  | .exit id, ρ, st, _, K => K (.exit id) ρ st
  | .ret, ρ, st, _, K => K .ret ρ st
  | .bad, _, _, _, _ => none
end
theorem runT_eq {c : CF} {R : Type} (Γ : Tab) (an : Ann) : ∀ (l : List XO) (k : Nat) (ρ : Env) (st : St) (K : Env → St → Option R), runT (real c) Γ an k l ρ st K = runOps (real c) Γ an l ρ st K
  | [], k, ρ, st, K => by cases k <;> rfl
  | o :: l, k, ρ, st, K => by
    rw [runOps_cons]
    cases k with
    | zero =>
      show runOps (real c) Γ an [o] ρ st (fun ρ st => runT (real c) Γ an 11 l ρ st K) = _
      simp only [runT_eq Γ an l]
    | succ k => simp only [runT, runT_eq Γ an l]
theorem exec_strip {c : CF} (Γ : Tab) (an : Ann) : ∀ (co : Code) (ρ : Env) (st : St) {R : Type} (K : Ex → Env → St → Option R), exec (real c) Γ an co ρ st K = execX (real c) Γ an (strip an co) ρ st K := by
  intro co
  induction co with
  | skip | exit | ret => intro ρ st R K; rfl
  | label | goto | refuse | scope | rangeFunc => intro ρ st R K; rfl
  | region id ops dr => intro ρ st R K; simp only [exec, strip, execX, runT_eq]
  | seq a b iha ihb =>
    intro ρ st R K
    simp only [exec, strip, execX, iha]
    congr 1
    funext e ρ st
    cases e <;> simp only [ihb]
  | cond x a b iha ihb =>
    intro ρ st R K
    cases x with
    | tmp t =>
      simp only [exec, strip, execX]
      cases egt ρ t with
      | d x => cases x <;> simp only [iha, ihb]
      | _ => rfl
    | _ => rfl
  | block id a iha =>
    intro ρ st R K
    simp only [exec, strip, execX, iha]
    first
    | rfl
    | (congr 1; done)
    | (congr 1; funext e ρ st; cases e <;> rfl)
  | loop a iha => intro ρ st R K; simp only [exec, strip, execX, iha]
/-- A function's body, of its code that is given. -/
theorem body_strip {c : CF} {Γ : Tab} {an : Ann} {fn : Func} {x : XC} {rs : List ResultVar} (h : fn.body.map (strip an) = some x) (h3 : fn.results.toList = rs) (args : List PV) (st : St) :
    body (real c) Γ an fn args st = execX (real c) Γ an x (enter 0 (down.downs 1 args)) ([] :: st) fun e ρ st => match e with
      | .exit _ => none
      | _ => leave (real c) Γ an.give rs ρ st := by
  cases h1 : fn.body with
  | none => rw [h1] at h; cases h
  | some co =>
    rw [h1] at h
    cases h
    subst h3
    unfold body
    rw [h1]
    exact exec_strip Γ an co _ _ _
end Go.X
