/- An evaluation goes on with what it came to, and with nothing else; it is monotone in the calls. -/
import Derived.Test.YtamllgdaepjcfaaXPi
namespace Go.X
open Go
set_option linter.unusedSectionVars false
set_option linter.unusedSimpArgs false

section
variable {c : Nat → List PV → St → Option (PV × St)} {R : Type}
abbrev fin : CallK (PV × St) := fun v st => some (v, st)
theorem bif_bind {α β : Type} (b : Bool) (x y : Option α) (f : α → Option β) : (bif b then x else y).bind f = bif b then x.bind f else y.bind f := by cases b <;> rfl
theorem newRow_cps (mt : Bool) (lv e sz bytes : Nat) (st : St) (rows : List (List D)) (K : CallK R) :
    newRow_ (real c) mt lv e sz bytes st rows K = (newRow_ (real c) mt lv e sz bytes st rows fin).bind fun q => K q.1 q.2 := by
  unfold newRow_
  simp only [real_lenK]
  simp only [bif_bind, Option.bind_some, Option.bind_none]
theorem evAppend_cps (Γ : Tab) (mt : Bool) (lv e sz bytes : Nat) (st : St) (s x : PV) (K : CallK R) :
    evAppend (real c) Γ mt lv e sz bytes st s x K = (evAppend (real c) Γ mt lv e sz bytes st s x fin).bind fun q => K q.1 q.2 := by
  unfold evAppend
  simp only [real_catK]
  split
  · rw [bif_bind]
    congr 1
    rw [bif_bind]
    congr 1
    split
    · rw [br_bind]
      congr 1
      funext _
      rw [bif_bind]
      congr 1
      split
      · exact newRow_cps _ _ _ _ _ _ _ _
      · rfl
    · split
      · rw [bif_bind]
        congr 1
        rw [br_bind]
        congr 1
        funext _
        rw [bif_bind]
        congr 1
        rw [bif_bind]
        congr 1
        rw [bif_bind]
        congr 1
        split
        · rfl
        · simp only [bif_bind, Option.bind_some, Option.bind_none]
      · rfl
    · rfl
  · rfl
theorem evSliceD_cps (st : St) (rows : List (List D)) (ext : Option (List (List D))) (lo hi mx : Option PV) (K : CallK R) :
    evSliceD (real c) st rows ext lo hi mx K = (evSliceD (real c) st rows ext lo hi mx fin).bind fun q => K q.1 q.2 := by
  unfold evSliceD
  simp only [real_lenK, real_catK, real_cutK]
  split
  · simp only [bif_bind, Option.bind_some, Option.bind_none]
  · simp only [bif_bind, Option.bind_some, Option.bind_none]
  · split <;> simp only [bif_bind, Option.bind_some, Option.bind_none]
  · rfl
theorem evSlice_cps (t : Ty) (st : St) (x : PV) (lo hi mx : Option PV) (K : CallK R) :
    evSlice (real c) t st x lo hi mx K = (evSlice (real c) t st x lo hi mx fin).bind fun q => K q.1 q.2 := by
  unfold evSlice
  split
  · split <;> simp only [bif_bind, Option.bind_some, Option.bind_none]
  · rw [bif_bind]
    congr 1
    exact evSliceD_cps _ _ _ _ _ _ _
  · split
    · rw [bif_bind]
      congr 1
      rw [bif_bind]
      congr 1
      split
      · rw [br_bind]
        congr 1 <;> funext _ <;> exact evSliceD_cps _ _ _ _ _ _ _
      · exact evSliceD_cps _ _ _ _ _ _ _
    · rfl
  · rfl
theorem evEq_cps (Γ : Tab) (t : Nat) (op : BinOp) (st : St) (x y : PV) (K : CallK R) :
    evEq (real c) Γ t op st x y K = (evEq (real c) Γ t op st x y fin).bind fun q => K q.1 q.2 := by
  unfold evEq
  split
  · split
    · split <;> rfl
    · rfl
  · rfl
theorem evBin_cps (t : Ty) (op : BinOp) (st : St) (x y : PV) (K : CallK R) :
    evBin (real c) t op st x y K = (evBin (real c) t op st x y fin).bind fun q => K q.1 q.2 := by
  unfold evBin
  split
  · rfl
  · split
    · split <;> rfl
    · split <;> simp only [bif_bind, Option.bind_some, Option.bind_none]
theorem evLookup_cps (Γ : Tab) (kk : KK) (e : Nat) (ok : Bool) (st : St) (m k : PV) (K : CallK R) :
    evLookup (real c) Γ kk e ok st m k K = (evLookup (real c) Γ kk e ok st m k fin).bind fun q => K q.1 q.2 := by
  unfold evLookup
  simp only [real_findK]
  rw [bif_bind]
  congr 1
  split
  · rfl
  · split
    · rw [bif_bind]
      congr 1
      split <;> rfl
    · rfl
  · rfl
theorem cellsK_cps {st : St} {v : PV} {k : List PV → Option R} {k0 : List PV → Option (PV × St)} {q : PV × St → Option R} (h : ∀ cs, k cs = (k0 cs).bind q) : cellsK (real c) st v k = (cellsK (real c) st v k0).bind q := by
  unfold cellsK
  split
  · split
    · exact h _
    · rfl
  · split
    · rw [bif_bind]
      simp only [Option.bind_assoc, Option.bind_none, h]
    · rfl
  · exact h _
  · rfl
theorem freezesK_cps {q : PV × St → Option R} : ∀ {l : List PV} {st : St} {k : List PV → St → Option R} {k0 : List PV → St → Option (PV × St)}, (∀ vs st, k vs st = (k0 vs st).bind q) → freezesK (real c) st l k = (freezesK (real c) st l k0).bind q := by
  intro l
  induction l with
  | nil => intro st k k0 h; simp only [freezesK]; exact h _ _
  | cons x l ih =>
    intro st k k0 h
    cases x with
    | row lv i n =>
      simp only [freezesK]
      split
      · rw [bif_bind]
        congr 1
        exact ih fun vs st => h _ _
      · rfl
    | _ => simp only [freezesK]; exact ih fun vs st => h _ _
theorem evalOp_cps (Γ : Tab) (an : Ann) (ρ : Env) (st : St) (dst : Option Nat) (op : Op) (K : CallK R) :
    evalOp (real c) Γ an ρ st dst op K = (evalOp (real c) Γ an ρ st dst op fin).bind fun q => K q.1 q.2 := by
  cases op
  case binOp =>
    simp only [evalOp]
    rw [bif_bind, evEq_cps, evBin_cps]
  case slice => simp only [evalOp]; exact evSlice_cps _ _ _ _ _ _ K
  case lookup =>
    simp only [evalOp]
    split
    · split
      · exact evLookup_cps _ _ _ _ _ _ _ K
      · rfl
    · rfl
  case load t a =>
    simp only [evalOp]
    refine cellsK_cps fun cs => ?_
    split <;> rfl
  case store t x y =>
    simp only [evalOp, real_setK]
    rw [bif_bind]
    congr 1
    rw [bif_bind]
    congr 1
    split
    · split
      · simp only [bif_bind, Option.bind_some, Option.bind_none]
      · rfl
    · refine freezesK_cps fun vs st => ?_
      split
      · simp only [bif_bind, br_bind, Option.bind_some, Option.bind_none, Option.bind_assoc]
        congr 2
        funext r
        split <;> simp only [bif_bind, Option.bind_some, Option.bind_none]
      · rfl
    · rfl
  case makeFunc g _ _ =>
    cases g
    case func f =>
      simp only [evalOp]
      split
      · refine freezesK_cps fun vs st => ?_
        split
        · rfl
        · simp only [bif_bind, Option.bind_some, Option.bind_none]
      · rfl
    all_goals rfl
  case call c =>
    simp only [evalOp, real_lenK, real_catK, real_delK, real_mlenK]
    split
    · split
      case h_3 =>
        split
        · exact evAppend_cps _ _ _ _ _ _ _ _ _ K
        · rfl
      all_goals (repeat' first | rfl | (simp only [bif_bind, br_bind, Option.bind_some, Option.bind_none, Option.bind_assoc]; done) | split)
    · refine freezesK_cps fun vs st => ?_
      split <;> simp [Option.bind_assoc]
    · rfl
  all_goals simp only [evalOp, real_lenK, real_catK, real_setK, real_cutK, real_fillK, real_findK, real_putK, real_delK, real_mlenK, real_nilK, real_emptyK]
  all_goals (repeat' first | rfl | (refine freezesK_cps fun vs st => ?_) | (rw [bif_bind]; congr 1; refine freezesK_cps fun vs st => ?_) | (simp only [bif_bind, br_bind, Option.bind_some, Option.bind_none, Option.bind_assoc]; done) | split)
  all_goals (simp only [bif_bind, br_bind, Option.bind_none]; repeat' first | rfl | split)
end
end Go.X
