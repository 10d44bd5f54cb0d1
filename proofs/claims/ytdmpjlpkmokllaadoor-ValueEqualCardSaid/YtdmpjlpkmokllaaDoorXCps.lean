/- An evaluation goes on with what it came to, and with nothing else; it is monotone in the calls. -/
import Derived.Test.YtdmpjlpkmokllaaDoorXPi
namespace Go.X
open Go
set_option linter.unusedSectionVars false
set_option linter.unusedSimpArgs false
variable [Sites]

section
variable {c : Nat → List PV → St → Option (PV × St)} {R : Type}
abbrev fin : CallK (PV × St) := fun v st => some (v, st)
theorem bif_bind {α β : Type} (b : Bool) (x y : Option α) (f : α → Option β) : (bif b then x else y).bind f = bif b then x.bind f else y.bind f := by cases b <;> rfl
theorem newRow_cps (mt : Bool) (lv e sz bytes : Nat) (st : St) (rows : List (List D)) (K : CallK R) :
    newRow_ (real c) mt lv e sz bytes st rows K = (newRow_ (real c) mt lv e sz bytes st rows fin).bind fun q => K q.1 q.2 := by
  unfold newRow_
  simp only [real_lenK]
  simp only [bif_bind, Option.bind_some, Option.bind_none]
theorem evAppend_cps (Γ : Tab) (mt : Bool) (lv e sz bytes : Nat) (st : St) (s x : PV) (K : CallK R) :
    evAppend (real c) Γ mt lv e sz bytes st s x K = (evAppend (real c) Γ mt lv e sz bytes st s x fin).bind fun q => K q.1 q.2 := by
  unfold evAppend
  simp only [real_catK]
  split
  · rw [bif_bind]
    congr 1
    rw [bif_bind]
    congr 1
    split
    · rw [br_bind]
      congr 1
      funext _
      rw [bif_bind]
      congr 1
      split
      · exact newRow_cps _ _ _ _ _ _ _ _
      · rfl
    · split
      · rw [bif_bind]
        congr 1
        rw [br_bind]
        congr 1
        funext _
        rw [bif_bind]
        congr 1
        rw [bif_bind]
        congr 1
        rw [bif_bind]
        congr 1
        split
        · rfl
        · simp only [bif_bind, Option.bind_some, Option.bind_none]
      · rfl
    · rfl
  · rfl
theorem evAppendO_cps (Γ : Tab) (own : Option Nat) (mt : Bool) (lv e sz bytes : Nat) (st : St) (s x : PV) (K : CallK R) :
    evAppendO (real c) Γ own mt lv e sz bytes st s x K = (evAppendO (real c) Γ own mt lv e sz bytes st s x fin).bind fun q => K q.1 q.2 := by
  unfold evAppendO
  split
  · rw [bif_bind]
    simp only [real_nilK, Option.bind_none]
    congr 1
    exact evAppend_cps _ _ _ _ _ _ _ _ _ K
  · exact evAppend_cps _ _ _ _ _ _ _ _ _ K
theorem ownCells_cps {Γ : Tab} {t : Nat} {q : PV × St → Option R} : ∀ (l : List D) (j : Nat) {st : St} {k : List PV → St → Option R} {k0 : List PV → St → Option (PV × St)}, (∀ cs st, k cs st = (k0 cs st).bind q) →
    ownCells (real c) Γ t j l st k = (ownCells (real c) Γ t j l st k0).bind q
  | [], j, st, k, k0, h => h _ _
  | d :: l, j, st, k, k0, h => by
    unfold ownCells
    split
    · simp only [real_nilK]
      exact ownCells_cps l (j + 1) fun cs st => h _ _
    · exact ownCells_cps l (j + 1) fun cs st => h _ _
theorem evSliceD_cps (st : St) (rows : List (List D)) (ext : Option (List (List D))) (lo hi mx : Option PV) (zz : Bool) (K : CallK R) :
    evSliceD (real c) st rows ext lo hi mx zz K = (evSliceD (real c) st rows ext lo hi mx zz fin).bind fun q => K q.1 q.2 := by
  unfold evSliceD
  simp only [real_lenK, real_catK, real_cutK]
  split
  · simp only [bif_bind, Option.bind_some, Option.bind_none]
  · simp only [bif_bind, Option.bind_some, Option.bind_none]
  · split <;> simp only [bif_bind, Option.bind_some, Option.bind_none]
  · rfl
theorem evRe_cps (st : St) (i ty sz : Nat) (rows : List (List D)) (k : Int) (lo hi mx : Option PV) (K : CallK R) :
    evRe (real c) st i ty sz rows k lo hi mx K = (evRe (real c) st i ty sz rows k lo hi mx fin).bind fun q => K q.1 q.2 := by
  unfold evRe
  simp only [real_cutK]
  split
  · simp only [bif_bind, Option.bind_some, Option.bind_none]
  · simp only [bif_bind, Option.bind_some, Option.bind_none]
  · simp only [bif_bind, Option.bind_some, Option.bind_none]
  · rfl
theorem evSlice_cps (t : Ty) (st : St) (x : PV) (lo hi mx : Option PV) (zz re : Bool) (K : CallK R) :
    evSlice (real c) t st x lo hi mx zz re K = (evSlice (real c) t st x lo hi mx zz re fin).bind fun q => K q.1 q.2 := by
  unfold evSlice
  split
  · split <;> simp only [bif_bind, Option.bind_some, Option.bind_none]
  · rw [bif_bind]
    congr 1
    exact evSliceD_cps _ _ _ _ _ _ _ _
  · split
    · rw [bif_bind]
      congr 1
      rw [bif_bind]
      congr 1
      rw [bif_bind]
      congr 1
      rw [bif_bind]
      congr 1
      exact evRe_cps _ _ _ _ _ _ _ _ _ _
    · rw [bif_bind]
      congr 1
      rw [bif_bind]
      congr 1
      split
      · rw [br_bind]
        congr 1 <;> funext _ <;> exact evSliceD_cps _ _ _ _ _ _ _ _
      · exact evSliceD_cps _ _ _ _ _ _ _ _
    · rfl
  · rfl
theorem evEq_cps (Γ : Tab) (t : Nat) (op : BinOp) (st : St) (x y : PV) (K : CallK R) :
    evEq (real c) Γ t op st x y K = (evEq (real c) Γ t op st x y fin).bind fun q => K q.1 q.2 := by
  unfold evEq
  split
  · split
    · split <;> rfl
    · rfl
  · rfl
theorem evBin_cps (t : Ty) (op : BinOp) (st : St) (x y : PV) (K : CallK R) :
    evBin (real c) t op st x y K = (evBin (real c) t op st x y fin).bind fun q => K q.1 q.2 := by
  unfold evBin
  split
  · rfl
  · split
    · split <;> rfl
    · split <;> simp only [bif_bind, Option.bind_some, Option.bind_none]
theorem evNil_cps (t : Ty) (op : BinOp) (st : St) (x : PV) (K : CallK R) :
    evNil (real c) t op st x K = (evNil (real c) t op st x fin).bind fun q => K q.1 q.2 := by
  unfold evNil
  split
  · rw [br_bind]; rfl
  · rw [br_bind]; rfl
  · rfl
theorem evLookup_cps (Γ : Tab) (kk : KK) (e : Nat) (ok : Bool) (st : St) (m k : PV) (K : CallK R) :
    evLookup (real c) Γ kk e ok st m k K = (evLookup (real c) Γ kk e ok st m k fin).bind fun q => K q.1 q.2 := by
  unfold evLookup
  simp only [real_findK]
  rw [bif_bind]
  congr 1
  split
  · rfl
  · split
    · rw [bif_bind]
      congr 1
      split <;> rfl
    · rfl
  · rfl
theorem cellsK_cps {st : St} {v : PV} {k : List PV → Option R} {k0 : List PV → Option (PV × St)} {q : PV × St → Option R} (h : ∀ cs, k cs = (k0 cs).bind q) : cellsK (real c) st v k = (cellsK (real c) st v k0).bind q := by
  unfold cellsK
  split
  · split
    · exact h _
    · rfl
  · split
    · rw [bif_bind]
      simp only [Option.bind_assoc, Option.bind_none, h]
    · rfl
  · exact h _
  · rfl
theorem freezesK_cps {q : PV × St → Option R} : ∀ {l : List PV} {st : St} {k : List PV → St → Option R} {k0 : List PV → St → Option (PV × St)}, (∀ vs st, k vs st = (k0 vs st).bind q) → freezesK (real c) st l k = (freezesK (real c) st l k0).bind q := by
  intro l
  induction l with
  | nil => intro st k k0 h; simp only [freezesK]; exact h _ _
  | cons x l ih =>
    intro st k k0 h
    cases x with
    | row lv i n =>
      simp only [freezesK]
      split
      · rw [bif_bind]
        congr 1
        exact ih fun vs st => h _ _
      · rfl
    | _ => simp only [freezesK]; exact ih fun vs st => h _ _
theorem freezesTK_cps {q : PV × St → Option R} {tk : List Nat} : ∀ {l : List PV} {p : Nat} {st : St} {k : List PV → St → Option R} {k0 : List PV → St → Option (PV × St)}, (∀ vs st, k vs st = (k0 vs st).bind q) → freezesTK (real c) tk p l st k = (freezesTK (real c) tk p l st k0).bind q := by
  intro l
  induction l with
  | nil => intro p st k k0 h; simp only [freezesTK]; exact h _ _
  | cons x l ih =>
    intro p st k k0 h
    simp only [freezesTK]
    rw [bif_bind]
    congr 1
    · exact ih fun vs st => h _ _
    · exact freezesK_cps fun u st => ih fun vs st => h _ _
theorem coldK_cps (b : Bool) (r : PV × St) (K : CallK R) : coldK (real c) b r K = (coldK (real c) b r fin).bind fun q => K q.1 q.2 := by
  unfold coldK
  rw [bif_bind]
  congr 1
  exact freezesK_cps fun vs st => rfl
theorem wipeK_cps (b : Bool) (n : Nat) (K : CallK R) (v : PV) (st : St) : wipeK (real c) b n K v st = (wipeK (real c) b n fin v st).bind fun q => K q.1 q.2 := by
  unfold wipeK
  rw [bif_bind]
  congr 1
  split <;> rfl
theorem coldW_cps (b w : Bool) (n : Nat) (r : PV × St) (K : CallK R) : coldK (real c) b r (wipeK (real c) w n K) = (coldK (real c) b r (wipeK (real c) w n fin)).bind fun q => K q.1 q.2 := by
  unfold coldK
  rw [bif_bind]
  congr 1
  · exact freezesK_cps fun vs st => wipeK_cps _ _ _ _ _
  · exact wipeK_cps _ _ _ _ _
theorem evalOp_cps (Γ : Tab) (an : Ann) (ρ : Env) (st : St) (dst : Option Nat) (op : Op) (K : CallK R) :
    evalOp (real c) Γ an ρ st dst op K = (evalOp (real c) Γ an ρ st dst op fin).bind fun q => K q.1 q.2 := by
  cases op
  case binOp =>
    simp only [evalOp]
    rw [bif_bind, bif_bind, evEq_cps, evBin_cps, evNil_cps]
  case slice => simp only [evalOp]; exact evSlice_cps _ _ _ _ _ _ _ _ K
  case lookup =>
    simp only [evalOp]
    split
    · split
      · exact evLookup_cps _ _ _ _ _ _ _ K
      · rfl
    · rfl
  case load t a =>
    simp only [evalOp]
    refine cellsK_cps fun cs => ?_
    split <;> rfl
  case alloc t =>
    simp only [evalOp]
    split
    · rfl
    · split
      · rw [bif_bind]; rfl
      · rw [bif_bind]
        congr 1
        exact ownCells_cps _ _ fun cs st => rfl
  case store t x y =>
    simp only [evalOp, real_setK]
    rw [bif_bind]
    congr 1
    rw [bif_bind]
    congr 1
    split
    · split
      · simp only [bif_bind, Option.bind_some, Option.bind_none]
      · rfl
    · refine freezesK_cps fun vs st => ?_
      split
      · simp only [bif_bind, br_bind, Option.bind_some, Option.bind_none, Option.bind_assoc]
        congr 2
        funext r
        split <;> simp only [bif_bind, Option.bind_some, Option.bind_none]
      · rfl
    · rfl
  case makeFunc g _ _ =>
    cases g
    case func f =>
      simp only [evalOp]
      split
      · refine freezesK_cps fun vs st => ?_
        split
        · rfl
        · simp only [bif_bind, Option.bind_some, Option.bind_none]
      · rfl
    all_goals rfl
  case call c =>
    simp only [evalOp, real_lenK, real_catK, real_delK, real_mlenK, real_cutK, real_fillK]
    split
    · split
      case h_3 =>
        split
        · exact evAppendO_cps _ _ _ _ _ _ _ _ _ _ K
        · split
          · exact evAppendO_cps _ _ _ _ _ _ _ _ _ _ K
          · rfl
        · rfl
      all_goals (repeat' first | rfl | (simp only [bif_bind, br_bind, Option.bind_some, Option.bind_none, Option.bind_assoc]; done) | split)
    · refine freezesTK_cps fun vs st => ?_
      split
      · rw [Option.bind_assoc]; congr 1; funext r; exact coldW_cps _ _ _ _ _
      · rw [Option.bind_assoc]; congr 1; funext r; exact coldW_cps _ _ _ _ _
      · split
        · rw [Option.bind_assoc]; rfl
        · rfl
      · rfl
    · rfl
  case box t x =>
    simp only [evalOp]
    refine freezesK_cps fun vs st => ?_
    rw [bif_bind]
    congr 1
    · split <;> rfl
    · split
      · split
        · rw [bif_bind]
          congr 1
          exact ownCells_cps _ _ fun cs st => rfl
        · rfl
      · simp only [bif_bind, Option.bind_some, Option.bind_none]
  all_goals simp only [evalOp, real_lenK, real_catK, real_setK, real_cutK, real_fillK, real_findK, real_putK, real_delK, real_mlenK, real_nilK, real_emptyK]
  all_goals (repeat' first | rfl | (refine freezesK_cps fun vs st => ?_) | (rw [bif_bind]; congr 1; refine freezesK_cps fun vs st => ?_) | (simp only [bif_bind, br_bind, Option.bind_some, Option.bind_none, Option.bind_assoc]; done) | split)
  all_goals (simp only [bif_bind, br_bind, Option.bind_none]; repeat' first | rfl | split)
end
end Go.X
