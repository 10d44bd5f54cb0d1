/- An evaluation goes on with what it came to, and with nothing else; it is monotone in the calls. -/
import Derived.Test.YtamllgdaepjcfaaXPi
namespace Go.X
open Go
set_option linter.unusedSectionVars false
set_option linter.unusedSimpArgs false

section
variable {Ω : Om} {R : Type}
abbrev fin : CallK (PV × St) := fun v st => some (v, st)
theorem bif_bind {α β : Type} (b : Bool) (x y : Option α) (f : α → Option β) : (bif b then x else y).bind f = bif b then x.bind f else y.bind f := by cases b <;> rfl
theorem newRow_cps (mt : Bool) (lv e sz bytes : Nat) (st : St) (rows : List (List D)) (K : CallK R) :
    newRow_ Ω mt lv e sz bytes st rows K = (newRow_ Ω mt lv e sz bytes st rows fin).bind fun q => K q.1 q.2 := by
  unfold newRow_
  simp only [bif_bind, Option.bind_some, Option.bind_none]
theorem evAppend_cps (Γ : Tab) (mt : Bool) (lv e sz bytes : Nat) (st : St) (s x : PV) (K : CallK R) :
    evAppend Ω Γ mt lv e sz bytes st s x K = (evAppend Ω Γ mt lv e sz bytes st s x fin).bind fun q => K q.1 q.2 := by
  unfold evAppend
  split
  · split
    · rw [bif_bind]
      congr 1
      rw [bif_bind]
      congr 1
      split
      · rw [bif_bind, ← newRow_cps]
        congr 1
        split
        · exact newRow_cps _ _ _ _ _ _ _ _
        · rfl
      · rfl
    · split
      · simp only [bif_bind, Option.bind_some, Option.bind_none]
      · rfl
    · rfl
  · rfl
theorem evSliceD_cps (st : St) (sz : Nat) (rows : List (List D)) (ext : Option (List (List D))) (lo hi mx : Option PV) (K : CallK R) :
    evSliceD Ω st sz rows ext lo hi mx K = (evSliceD Ω st sz rows ext lo hi mx fin).bind fun q => K q.1 q.2 := by
  unfold evSliceD
  split
  · simp only [bif_bind, Option.bind_some, Option.bind_none]
  · simp only [bif_bind, Option.bind_some, Option.bind_none]
  · split <;> simp only [bif_bind, Option.bind_some, Option.bind_none]
  · rfl
theorem evSlice_cps (t : Ty) (st : St) (x : PV) (lo hi mx : Option PV) (K : CallK R) :
    evSlice Ω t st x lo hi mx K = (evSlice Ω t st x lo hi mx fin).bind fun q => K q.1 q.2 := by
  unfold evSlice
  split
  · split <;> simp only [bif_bind, Option.bind_some, Option.bind_none]
  · rw [bif_bind]
    congr 1
    · exact evSliceD_cps _ _ _ _ _ _ _ _
    · split
      · exact evSliceD_cps _ _ _ _ _ _ _ _
      · rfl
  · split
    · rw [bif_bind]
      congr 1
      rw [bif_bind]
      congr 1
      exact evSliceD_cps _ _ _ _ _ _ _ _
    · rfl
  · rfl
theorem evBin_cps (t : Ty) (op : BinOp) (st : St) (x y : PV) (K : CallK R) :
    evBin Ω t op st x y K = (evBin Ω t op st x y fin).bind fun q => K q.1 q.2 := by
  unfold evBin
  split
  · rfl
  · split
    · split <;> rfl
    · split <;> simp only [bif_bind, Option.bind_some, Option.bind_none]
theorem evLookup_cps (Γ : Tab) (kk : Option IntKind) (e : Nat) (ok : Bool) (st : St) (m k : PV) (K : CallK R) :
    evLookup Ω Γ kk e ok st m k K = (evLookup Ω Γ kk e ok st m k fin).bind fun q => K q.1 q.2 := by
  unfold evLookup
  dsimp only
  rw [bif_bind]
  congr 1
  split
  · rfl
  · split
    · rw [bif_bind]
      congr 1
      split <;> rfl
    · rfl
  · rfl
theorem evalOp_cps (Γ : Tab) (an : Ann) (ρ : Env) (st : St) (dst : Option Nat) (op : Op) (K : CallK R) :
    evalOp Ω Γ an ρ st dst op K = (evalOp Ω Γ an ρ st dst op fin).bind fun q => K q.1 q.2 := by
  cases op
  case binOp => simp only [evalOp]; exact evBin_cps _ _ _ _ _ K
  case slice => simp only [evalOp]; exact evSlice_cps _ _ _ _ _ _ K
  case lookup =>
    simp only [evalOp]
    split
    · split
      · exact evLookup_cps _ _ _ _ _ _ _ K
      · rfl
    · rfl
  case makeFunc g _ _ =>
    cases g
    case func f =>
      simp only [evalOp]
      split
      · split
        · rfl
        · simp only [bif_bind, Option.bind_some, Option.bind_none]
      · rfl
    all_goals rfl
  case call c =>
    simp only [evalOp]
    split
    · split
      case h_3 =>
        split
        · exact evAppend_cps _ _ _ _ _ _ _ _ _ K
        · rfl
      all_goals (repeat' first | rfl | (simp only [bif_bind, Option.bind_some, Option.bind_none]; done) | split)
    · split <;> simp [Option.bind_assoc]
    · rfl
  all_goals simp only [evalOp]
  all_goals (repeat' first | rfl | (simp only [bif_bind, Option.bind_some, Option.bind_none]; done) | split)
  all_goals (simp only [bif_bind, Option.bind_none]; repeat' first | rfl | split)
end
end Go.X
