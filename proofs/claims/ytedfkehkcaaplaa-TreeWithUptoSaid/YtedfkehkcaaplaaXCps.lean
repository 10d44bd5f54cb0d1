/- An evaluation goes on with what it came to, and with nothing else; it is monotone in the calls. -/
import Derived.Test.YtedfkehkcaaplaaXPi
namespace Go.X
open Go
set_option linter.unusedSectionVars false
set_option linter.unusedSimpArgs false
variable [fq]
section
variable {c : Nat → List PV → St → Option (PV × St)} {R : Type}
abbrev fin : jB (PV × St) := fun v st => some (v, st)
theorem bV {α β : Type} (b : Bool) (x y : Option α) (f : α → Option β) : (bif b then x else y).bind f = bif b then x.bind f else y.bind f := by cases b <;> rfl
theorem aaC (mt : Bool) (lv e sz bytes : Nat) (st : St) (rows : List (List D)) (K : jB R) :
  zU (real c) mt lv e sz bytes st rows K = (zU (real c) mt lv e sz bytes st rows fin).bind fun q => K q.1 q.2 := by
 unfold zU
 simp only [ni]
 simp only [bV, Option.bind_some, Option.bind_none]
theorem Ik (Γ : Tab) (mt : Bool) (lv e sz bytes : Nat) (st : St) (s x : PV) (K : jB R) :
  nL (real c) Γ mt lv e sz bytes st s x K = (nL (real c) Γ mt lv e sz bytes st s x fin).bind fun q => K q.1 q.2 := by
 unfold nL
 simp only [nu]
 split
 ·rw [bV]
  congr 1
  rw [bV]
  congr 1
  split
  ·rw [uM]
   congr 1
   funext _
   rw [bV]
   congr 1
   split
   ·exact aaC _ _ _ _ _ _ _ _
   ·rfl
  ·split
   ·rw [bV]
    congr 1
    rw [uM]
    congr 1
    funext _
    rw [bV]
    congr 1
    rw [bV]
    congr 1
    rw [bV]
    congr 1
    split
    ·rfl
    ·simp only [bV, Option.bind_some, Option.bind_none]
   ·rfl
  ·rfl
 ·rfl
theorem yN (Γ : Tab) (own : Option Nat) (mt : Bool) (lv e sz bytes : Nat) (st : St) (s x : PV) (K : jB R) :
  ng (real c) Γ own mt lv e sz bytes st s x K = (ng (real c) Γ own mt lv e sz bytes st s x fin).bind fun q => K q.1 q.2 := by
 unfold ng
 split
 ·rw [bV]
  simp only [pW, Option.bind_none]
  congr 1
  exact Ik _ _ _ _ _ _ _ _ _ K
 ·exact Ik _ _ _ _ _ _ _ _ _ K
theorem qp {Γ : Tab} {t : Nat} {q : PV × St → Option R} : ∀ (l : List D) (j : Nat) {st : St} {k : List PV → St → Option R} {k0 : List PV → St → Option (PV × St)}, (∀ cs st, k cs st = (k0 cs st).bind q) →
  kK (real c) Γ t j l st k = (kK (real c) Γ t j l st k0).bind q
 | [], j, st, k, k0, h => h _ _
 | d :: l, j, st, k, k0, h => by
  unfold kK
  split
  ·simp only [pW]
   exact qp l (j + 1) fun cs st => h _ _
  ·exact qp l (j + 1) fun cs st => h _ _
theorem Af (st : St) (rows : List (List D)) (ext : Option (List (List D))) (lo hi mx : Option PV) (zz : Bool) (K : jB R) :
  mV (real c) st rows ext lo hi mx zz K = (mV (real c) st rows ext lo hi mx zz fin).bind fun q => K q.1 q.2 := by
 unfold mV
 simp only [ni, nu, pV]
 split
 ·simp only [bV, Option.bind_some, Option.bind_none]
 ·simp only [bV, Option.bind_some, Option.bind_none]
 ·split <;> simp only [bV, Option.bind_some, Option.bind_none]
 ·rfl
theorem agl (st : St) (i ty sz : Nat) (rows : List (List D)) (k : Int) (lo hi mx : Option PV) (K : jB R) :
  afn (real c) st i ty sz rows k lo hi mx K = (afn (real c) st i ty sz rows k lo hi mx fin).bind fun q => K q.1 q.2 := by
 unfold afn
 simp only [pV]
 split
 ·simp only [bV, Option.bind_some, Option.bind_none]
 ·simp only [bV, Option.bind_some, Option.bind_none]
 ·simp only [bV, Option.bind_some, Option.bind_none]
 ·rfl
theorem XD (t : Ty) (st : St) (x : PV) (lo hi mx : Option PV) (zz re : Bool) (K : jB R) :
  xZ (real c) t st x lo hi mx zz re K = (xZ (real c) t st x lo hi mx zz re fin).bind fun q => K q.1 q.2 := by
 unfold xZ
 split
 ·split <;> simp only [bV, Option.bind_some, Option.bind_none]
 ·rw [bV]
  congr 1
  exact Af _ _ _ _ _ _ _ _
 ·split
  ·rw [bV]
   congr 1
   rw [bV]
   congr 1
   rw [bV]
   congr 1
   rw [bV]
   congr 1
   exact agl _ _ _ _ _ _ _ _ _ _
  ·rw [bV]
   congr 1
   rw [bV]
   congr 1
   split
   ·rw [uM]
    congr 1 <;> funext _ <;> exact Af _ _ _ _ _ _ _ _
   ·exact Af _ _ _ _ _ _ _ _
  ·rfl
 ·rfl
theorem agm (Γ : Tab) (t : Nat) (op : BinOp) (st : St) (x y : PV) (K : jB R) :
  RZ (real c) Γ t op st x y K = (RZ (real c) Γ t op st x y fin).bind fun q => K q.1 q.2 := by
 unfold RZ
 split
 ·split
  ·split <;> rfl
  ·rfl
 ·rfl
theorem afr (t : Ty) (op : BinOp) (st : St) (x y : PV) (K : jB R) :
  LA (real c) t op st x y K = (LA (real c) t op st x y fin).bind fun q => K q.1 q.2 := by
 unfold LA
 split
 ·rfl
 ·split
  ·split <;> rfl
  ·split <;> simp only [bV, Option.bind_some, Option.bind_none]
theorem afs (t : Ty) (op : BinOp) (st : St) (x : PV) (K : jB R) :
  NC (real c) t op st x K = (NC (real c) t op st x fin).bind fun q => K q.1 q.2 := by
 unfold NC
 split
 ·rw [uM]; rfl
 ·rw [uM]; rfl
 ·rfl
theorem Ur (Γ : Tab) (kk : KK) (e : Nat) (ok : Bool) (st : St) (m k : PV) (K : jB R) :
  vV (real c) Γ kk e ok st m k K = (vV (real c) Γ kk e ok st m k fin).bind fun q => K q.1 q.2 := by
 unfold vV
 simp only [su]
 rw [bV]
 congr 1
 split
 ·rfl
 ·split
  ·rw [bV]
   congr 1
   split <;> rfl
  ·rfl
 ·rfl
theorem aaD {st : St} {v : PV} {k : List PV → Option R} {k0 : List PV → Option (PV × St)} {q : PV × St → Option R} (h : ∀ cs, k cs = (k0 cs).bind q) : zT (real c) st v k = (zT (real c) st v k0).bind q := by
 unfold zT
 split
 ·split
  ·exact h _
  ·rfl
 ·split
  ·rw [bV]
   simp only [Option.bind_assoc, Option.bind_none, h]
  ·rfl
 ·exact h _
 ·rfl
theorem jX {q : PV × St → Option R} : ∀ {l : List PV} {st : St} {k : List PV → St → Option R} {k0 : List PV → St → Option (PV × St)}, (∀ vs st, k vs st = (k0 vs st).bind q) → eH (real c) st l k = (eH (real c) st l k0).bind q := by
 intro l
 induction l with
 | nil => intro st k k0 h; simp only [eH]; exact h _ _
 | cons x l ih =>
  intro st k k0 h
  cases x with
  | row lv i n =>
   simp only [eH]
   split
   ·rw [bV]
    congr 1
    exact ih fun vs st => h _ _
   ·rfl
  | _ => simp only [eH]; exact ih fun vs st => h _ _
theorem R4 {q : PV × St → Option R} {tk : List Nat} : ∀ {l : List PV} {p : Nat} {st : St} {k : List PV → St → Option R} {k0 : List PV → St → Option (PV × St)}, (∀ vs st, k vs st = (k0 vs st).bind q) → ig (real c) tk p l st k = (ig (real c) tk p l st k0).bind q := by
 intro l
 induction l with
 | nil => intro p st k k0 h; simp only [ig]; exact h _ _
 | cons x l ih =>
  intro p st k k0 h
  simp only [ig]
  rw [bV]
  congr 1
  ·exact ih fun vs st => h _ _
  ·exact jX fun u st => ih fun vs st => h _ _
theorem aft (b : Bool) (r : PV × St) (K : jB R) : qj (real c) b r K = (qj (real c) b r fin).bind fun q => K q.1 q.2 := by
 unfold qj
 rw [bV]
 congr 1
 exact jX fun vs st => rfl
theorem SH (b : Bool) (n : Nat) (K : jB R) (v : PV) (st : St) : Ia (real c) b n K v st = (Ia (real c) b n fin v st).bind fun q => K q.1 q.2 := by
 unfold Ia
 rw [bV]
 congr 1
 split <;> rfl
theorem SI (b w : Bool) (n : Nat) (r : PV × St) (K : jB R) : qj (real c) b r (Ia (real c) w n K) = (qj (real c) b r (Ia (real c) w n fin)).bind fun q => K q.1 q.2 := by
 unfold qj
 rw [bV]
 congr 1
 ·exact jX fun vs st => SH _ _ _ _ _
 ·exact SH _ _ _ _ _
theorem wu (Γ : Tab) (an : mH) (ρ : Env) (st : St) (dst : Option Nat) (op : Op) (K : jB R) :
  evalOp (real c) Γ an ρ st dst op K = (evalOp (real c) Γ an ρ st dst op fin).bind fun q => K q.1 q.2 := by
 cases op
 case binOp =>
  simp only [evalOp]
  rw [bV, bV, agm, afr, afs]
 case slice => simp only [evalOp]; exact XD _ _ _ _ _ _ _ _ K
 case lookup =>
  simp only [evalOp]
  split
  ·split
   ·exact Ur _ _ _ _ _ _ _ K
   ·rfl
  ·rfl
 case load t a =>
  simp only [evalOp]
  refine aaD fun cs => ?_
  split <;> rfl
 case alloc t =>
  simp only [evalOp]
  split
  ·rfl
  ·split
   ·rw [bV]; rfl
   ·rw [bV]
    congr 1
    exact qp _ _ fun cs st => rfl
 case store t x y =>
  simp only [evalOp, EZ]
  rw [bV]
  congr 1
  rw [bV]
  congr 1
  split
  ·split
   ·simp only [bV, Option.bind_some, Option.bind_none]
   ·rfl
  ·refine jX fun vs st => ?_
   split
   ·simp only [bV, uM, Option.bind_some, Option.bind_none, Option.bind_assoc]
    congr 2
    funext r
    split <;> simp only [bV, Option.bind_some, Option.bind_none]
   ·rfl
  ·rfl
 case makeFunc g _ _ =>
  cases g
  case func f =>
   simp only [evalOp]
   split
   ·refine jX fun vs st => ?_
    split
    ·rfl
    ·simp only [bV, Option.bind_some, Option.bind_none]
   ·rfl
  all_goals rfl
 case call c =>
  simp only [evalOp, ni, nu, KJ, wh, pV, zY]
  split
  ·split
   case h_3 =>
    split
    ·refine (yN _ _ _ _ _ _ _ _ _ _ _).trans ?_
     refine Eq.trans ?_ (congrArg (fun z => Option.bind z fun (q : PV × St) => K q.1 q.2) (yN _ _ _ _ _ _ _ _ _ _ _).symm)
     rw [Option.bind_assoc]
     congr 1
     funext q
     exact aft _ _ K
    ·split
     ·exact yN _ _ _ _ _ _ _ _ _ _ K
     ·rfl
    ·rfl
   all_goals (repeat' first | rfl | (simp only [bV, uM, Option.bind_some, Option.bind_none, Option.bind_assoc]; done) | split)
  ·refine R4 fun vs st => ?_
   split
   ·rw [Option.bind_assoc]; congr 1; funext r; exact SI _ _ _ _ _
   ·rw [Option.bind_assoc]; congr 1; funext r; exact SI _ _ _ _ _
   ·split
    ·rw [Option.bind_assoc]; rfl
    ·rfl
   ·rfl
  ·rfl
 case build t parts =>
  simp only [evalOp]
  split
  ·refine jX fun vs st => ?_
   split
   ·split
    ·split
     ·rw [bV]
      congr 1
      exact qp _ _ fun cs st => rfl
     ·rfl
    ·rfl
   ·rfl
  ·rfl
 case box t x =>
  simp only [evalOp]
  refine jX fun vs st => ?_
  rw [bV]
  congr 1
  ·split <;> rfl
  ·split
   ·split
    ·rw [bV]
     congr 1
     exact qp _ _ fun cs st => rfl
    ·rfl
   ·simp only [bV, Option.bind_some, Option.bind_none]
 all_goals simp only [evalOp, ni, nu, EZ, pV, zY, su, KI, KJ, wh, pW, Xv]
 all_goals (repeat' first | rfl | (refine jX fun vs st => ?_) | (rw [bV]; congr 1; refine jX fun vs st => ?_) | (simp only [bV, uM, Option.bind_some, Option.bind_none, Option.bind_assoc]; done) | split)
 all_goals (simp only [bV, uM, Option.bind_none]; repeat' first | rfl | split)
end
end Go.X
