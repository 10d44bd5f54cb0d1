/- T -/
import Derived.Test.YtedfkehkcaaplaaXPi
namespace Go.X
open Go
variable [bY]
section
variable {c : Nat → List PV → St → Option (PV × St)} {R : Type}
abbrev fin : fT (PV × St) := fun v st => some (v, st)
theorem bf {α β : Type} (b : Bool) (x y : Option α) (f : α → Option β) : (bif b then x else y).bind f = bif b then x.bind f else y.bind f := by cases b <;> rfl
theorem Np (mt : Bool) (lv e sz bytes : Nat) (st : St) (rows : List (List D)) (K : fT R) :
  rM (real c) mt lv e sz bytes st rows K = (rM (real c) mt lv e sz bytes st rows fin).bind fun q => K q.1 q.2 := by
 unfold rM
 simp only [ji]
 simp only [bf, Option.bind_some, Option.bind_none]
theorem xP (Γ : Tab) (mt : Bool) (lv e sz bytes : Nat) (st : St) (s x : PV) (K : fT R) :
  jy (real c) Γ mt lv e sz bytes st s x K = (jy (real c) Γ mt lv e sz bytes st s x fin).bind fun q => K q.1 q.2 := by
 unfold jy
 simp only [jk]
 split
 ·rw [bf]
  congr 1
  rw [bf]
  congr 1
  split
  ·rw [nP]
   congr 1
   funext _
   rw [bf]
   congr 1
   split
   ·exact Np _ _ _ _ _ _ _ _
   ·rfl
  ·split
   ·rw [bf]
    congr 1
    rw [nP]
    congr 1
    funext _
    rw [bf]
    congr 1
    rw [bf]
    congr 1
    rw [bf]
    congr 1
    split
    ·rfl
    ·simp only [bf, Option.bind_some, Option.bind_none]
   ·rfl
  ·rfl
 ·rfl
theorem qj (Γ : Tab) (own : Option Nat) (mt : Bool) (lv e sz bytes : Nat) (st : St) (s x : PV) (K : fT R) :
  jh (real c) Γ own mt lv e sz bytes st s x K = (jh (real c) Γ own mt lv e sz bytes st s x fin).bind fun q => K q.1 q.2 := by
 unfold jh
 split
 ·rw [bf]
  simp only [kY, Option.bind_none]
  congr 1
  exact xP _ _ _ _ _ _ _ _ _ K
 ·exact xP _ _ _ _ _ _ _ _ _ K
theorem lQ {Γ : Tab} {t : Nat} {q : PV × St → Option R} : ∀ (l : List D) (j : Nat) {st : St} {k : List PV → St → Option R} {k0 : List PV → St → Option (PV × St)}, (∀ cs st, k cs st = (k0 cs st).bind q) →
  gZ (real c) Γ t j l st k = (gZ (real c) Γ t j l st k0).bind q
 | [], j, st, k, k0, h => h _ _
 | d :: l, j, st, k, k0, h => by
  unfold gZ
  split
  ·simp only [kY]
   exact lQ l (j + 1) fun cs st => h _ _
  ·exact lQ l (j + 1) fun cs st => h _ _
theorem rY (st : St) (rows : List (List D)) (ext : Option (List (List D))) (lo hi mx : Option PV) (zz : Bool) (K : fT R) :
  jd (real c) st rows ext lo hi mx zz K = (jd (real c) st rows ext lo hi mx zz fin).bind fun q => K q.1 q.2 := by
 unfold jd
 simp only [ji, jk, kX]
 split
 ·simp only [bf, Option.bind_some, Option.bind_none]
 ·simp only [bf, Option.bind_some, Option.bind_none]
 ·split <;> simp only [bf, Option.bind_some, Option.bind_none]
 ·rfl
theorem SS (st : St) (i ty sz : Nat) (rows : List (List D)) (k : Int) (lo hi mx : Option PV) (K : fT R) :
  QV (real c) st i ty sz rows k lo hi mx K = (QV (real c) st i ty sz rows k lo hi mx fin).bind fun q => K q.1 q.2 := by
 unfold QV
 simp only [kX]
 split
 ·simp only [bf, Option.bind_some, Option.bind_none]
 ·simp only [bf, Option.bind_some, Option.bind_none]
 ·simp only [bf, Option.bind_some, Option.bind_none]
 ·rfl
theorem Kz (t : Ty) (st : St) (x : PV) (lo hi mx : Option PV) (zz re : Bool) (K : fT R) :
  pJ (real c) t st x lo hi mx zz re K = (pJ (real c) t st x lo hi mx zz re fin).bind fun q => K q.1 q.2 := by
 unfold pJ
 split
 ·split <;> simp only [bf, Option.bind_some, Option.bind_none]
 ·rw [bf]
  congr 1
  exact rY _ _ _ _ _ _ _ _
 ·split
  ·rw [bf]
   congr 1
   rw [bf]
   congr 1
   rw [bf]
   congr 1
   rw [bf]
   congr 1
   exact SS _ _ _ _ _ _ _ _ _ _
  ·rw [bf]
   congr 1
   rw [bf]
   congr 1
   split
   ·rw [nP]
    congr 1 <;> funext _ <;> exact rY _ _ _ _ _ _ _ _
   ·exact rY _ _ _ _ _ _ _ _
  ·rfl
 ·rfl
theorem SV (Γ : Tab) (t : Nat) (op : BinOp) (st : St) (x y : PV) (K : fT R) :
  EP (real c) Γ t op st x y K = (EP (real c) Γ t op st x y fin).bind fun q => K q.1 q.2 := by
 unfold EP
 split
 ·split
  ·split <;> rfl
  ·rfl
 ·rfl
theorem QZ (t : Ty) (op : BinOp) (st : St) (x y : PV) (K : fT R) :
  Ak (real c) t op st x y K = (Ak (real c) t op st x y fin).bind fun q => K q.1 q.2 := by
 unfold Ak
 split
 ·rfl
 ·split
  ·split <;> rfl
  ·split <;> simp only [bf, Option.bind_some, Option.bind_none]
theorem Ra (t : Ty) (op : BinOp) (st : St) (x : PV) (K : fT R) :
  Cb (real c) t op st x K = (Cb (real c) t op st x fin).bind fun q => K q.1 q.2 := by
 unfold Cb
 split
 ·rw [nP]; rfl
 ·rw [nP]; rfl
 ·rfl
theorem HV (Γ : Tab) (kk : KK) (e : Nat) (ok : Bool) (st : St) (m k : PV) (K : fT R) :
  og (real c) Γ kk e ok st m k K = (og (real c) Γ kk e ok st m k fin).bind fun q => K q.1 q.2 := by
 unfold og
 simp only [mP]
 rw [bf]
 congr 1
 split
 ·rfl
 ·split
  ·rw [bf]
   congr 1
   split <;> rfl
  ·rfl
 ·rfl
theorem Nq {st : St} {v : PV} {k : List PV → Option R} {k0 : List PV → Option (PV × St)} {q : PV × St → Option R} (h : ∀ cs, k cs = (k0 cs).bind q) : rJ (real c) st v k = (rJ (real c) st v k0).bind q := by
 unfold rJ
 split
 ·split
  ·exact h _
  ·rfl
 ·split
  ·rw [bf]
   simp only [Option.bind_assoc, Option.bind_none, h]
  ·rfl
 ·exact h _
 ·rfl
theorem gK {q : PV × St → Option R} : ∀ {l : List PV} {st : St} {k : List PV → St → Option R} {k0 : List PV → St → Option (PV × St)}, (∀ vs st, k vs st = (k0 vs st).bind q) → bW (real c) st l k = (bW (real c) st l k0).bind q := by
 intro l
 induction l with
 | nil => intro st k k0 h; simp only [bW]; exact h _ _
 | cons x l ih =>
  intro st k k0 h
  cases x with
  | row lv i n =>
   simp only [bW]
   split
   ·rw [bf]
    congr 1
    exact ih fun vs st => h _ _
   ·rfl
  | _ => simp only [bW]; exact ih fun vs st => h _ _
theorem ET {q : PV × St → Option R} {tk : List Nat} : ∀ {l : List PV} {p : Nat} {st : St} {k : List PV → St → Option R} {k0 : List PV → St → Option (PV × St)}, (∀ vs st, k vs st = (k0 vs st).bind q) → eU (real c) tk p l st k = (eU (real c) tk p l st k0).bind q := by
 intro l
 induction l with
 | nil => intro p st k k0 h; simp only [eU]; exact h _ _
 | cons x l ih =>
  intro p st k k0 h
  simp only [eU]
  rw [bf]
  congr 1
  ·exact ih fun vs st => h _ _
  ·exact gK fun u st => ih fun vs st => h _ _
theorem Rb (b : Bool) (r : PV × St) (K : fT R) : lG (real c) b r K = (lG (real c) b r fin).bind fun q => K q.1 q.2 := by
 unfold lG
 rw [bf]
 congr 1
 exact gK fun vs st => rfl
theorem FE (b : Bool) (n : Nat) (K : fT R) (v : PV) (st : St) : xG (real c) b n K v st = (xG (real c) b n fin v st).bind fun q => K q.1 q.2 := by
 unfold xG
 rw [bf]
 congr 1
 split <;> rfl
theorem FH (b w : Bool) (n : Nat) (r : PV × St) (K : fT R) : lG (real c) b r (xG (real c) w n K) = (lG (real c) b r (xG (real c) w n fin)).bind fun q => K q.1 q.2 := by
 unfold lG
 rw [bf]
 congr 1
 ·exact gK fun vs st => FE _ _ _ _ _
 ·exact FE _ _ _ _ _
theorem oC (Γ : Tab) (an : iG) (ρ : Env) (st : St) (dst : Option Nat) (op : Op) (K : fT R) :
  evalOp (real c) Γ an ρ st dst op K = (evalOp (real c) Γ an ρ st dst op fin).bind fun q => K q.1 q.2 := by
 cases op
 case binOp =>
  simp only [evalOp]
  rw [bf, bf, SV, QZ, Ra]
 case slice => simp only [evalOp]; exact Kz _ _ _ _ _ _ _ _ K
 case lookup =>
  simp only [evalOp]
  split
  ·split
   ·exact HV _ _ _ _ _ _ _ K
   ·rfl
  ·rfl
 case load t a =>
  simp only [evalOp]
  refine Nq fun cs => ?_
  split <;> rfl
 case alloc t =>
  simp only [evalOp]
  split
  ·rfl
  ·split
   ·rw [bf]; rfl
   ·rw [bf]
    congr 1
    exact lQ _ _ fun cs st => rfl
 case store t x y =>
  simp only [evalOp, vJ]
  rw [bf]
  congr 1
  rw [bf]
  congr 1
  split
  ·split
   ·simp only [bf, Option.bind_some, Option.bind_none]
   ·rfl
  ·refine gK fun vs st => ?_
   split
   ·simp only [bf, nP, Option.bind_some, Option.bind_none, Option.bind_assoc]
    congr 2
    funext r
    split <;> simp only [bf, Option.bind_some, Option.bind_none]
   ·rfl
  ·rfl
 case makeFunc g _ _ =>
  cases g
  case func f =>
   simp only [evalOp]
   split
   ·refine gK fun vs st => ?_
    split
    ·rfl
    ·simp only [bf, Option.bind_some, Option.bind_none]
   ·rfl
  all_goals rfl
 case call c =>
  simp only [evalOp, ji, jk, zo, oo, kX, rQ]
  split
  ·split
   case h_3 =>
    split
    ·refine (qj _ _ _ _ _ _ _ _ _ _ _).trans ?_
     refine Eq.trans ?_ (congrArg (fun z => Option.bind z fun (q : PV × St) => K q.1 q.2) (qj _ _ _ _ _ _ _ _ _ _ _).symm)
     rw [Option.bind_assoc]
     congr 1
     funext q
     exact Rb _ _ K
    ·split
     ·exact qj _ _ _ _ _ _ _ _ _ _ K
     ·rfl
    ·rfl
   all_goals (repeat' first | rfl | (simp only [bf, nP, Option.bind_some, Option.bind_none, Option.bind_assoc]; done) | split)
  ·refine ET fun vs st => ?_
   split
   ·rw [Option.bind_assoc]; congr 1; funext r; exact FH _ _ _ _ _
   ·rw [Option.bind_assoc]; congr 1; funext r; exact FH _ _ _ _ _
   ·split
    ·rw [Option.bind_assoc]; rfl
    ·rfl
   ·rfl
  ·rfl
 case build t parts =>
  simp only [evalOp]
  split
  ·refine gK fun vs st => ?_
   split
   ·split
    ·split
     ·rw [bf]
      congr 1
      exact lQ _ _ fun cs st => rfl
     ·rfl
    ·rfl
   ·rfl
  ·rfl
 case box t x =>
  simp only [evalOp]
  refine gK fun vs st => ?_
  rw [bf]
  congr 1
  ·split <;> rfl
  ·split
   ·split
    ·rw [bf]
     congr 1
     exact lQ _ _ fun cs st => rfl
    ·rfl
   ·simp only [bf, Option.bind_some, Option.bind_none]
 all_goals simp only [evalOp, ji, jk, vJ, kX, rQ, mP, zn, zo, oo, kY, Kr]
 all_goals (repeat' first | rfl | (refine gK fun vs st => ?_) | (rw [bf]; congr 1; refine gK fun vs st => ?_) | (simp only [bf, nP, Option.bind_some, Option.bind_none, Option.bind_assoc]; done) | split)
 all_goals (simp only [bf, nP, Option.bind_none]; repeat' first | rfl | split)
end
end Go.X
