/- An evaluation goes on with what it came to, and with nothing else; it is monotone in the calls. -/
import Derived.Test.YtipkggkbldgmjaaGreatXPi
namespace Go.X
open Go
set_option linter.unusedSectionVars false
set_option linter.unusedSimpArgs false
variable [eY]
section
variable {c : Nat → List PV → St → Option (PV × St)} {R : Type}
abbrev fin : iD (PV × St) := fun v st => some (v, st)
theorem bZ {α β : Type} (b : Bool) (x y : Option α) (f : α → Option β) : (bif b then x else y).bind f = bif b then x.bind f else y.bind f := by cases b <;> rfl
theorem UL (mt : Bool) (lv e sz bytes : Nat) (st : St) (rows : List (List D)) (K : iD R) :
  sP (real c) mt lv e sz bytes st rows K = (sP (real c) mt lv e sz bytes st rows fin).bind fun q => K q.1 q.2 := by
 unfold sP
 simp only [jK]
 simp only [bZ, Option.bind_some, Option.bind_none]
theorem Bv (Γ : Tab) (mt : Bool) (lv e sz bytes : Nat) (st : St) (s x : PV) (K : iD R) :
  jV (real c) Γ mt lv e sz bytes st s x K = (jV (real c) Γ mt lv e sz bytes st s x fin).bind fun q => K q.1 q.2 := by
 unfold jV
 simp only [jL]
 split
 ·rw [bZ]
  congr 1
  rw [bZ]
  congr 1
  split
  ·rw [oD]
   congr 1
   funext _
   rw [bZ]
   congr 1
   split
   ·exact UL _ _ _ _ _ _ _ _
   ·rfl
  ·split
   ·rw [bZ]
    congr 1
    rw [oD]
    congr 1
    funext _
    rw [bZ]
    congr 1
    rw [bZ]
    congr 1
    rw [bZ]
    congr 1
    split
    ·rfl
    ·simp only [bZ, Option.bind_some, Option.bind_none]
   ·rfl
  ·rfl
 ·rfl
theorem y7 (Γ : Tab) (own : Option Nat) (mt : Bool) (lv e sz bytes : Nat) (st : St) (s x : PV) (K : iD R) :
  jJ (real c) Γ own mt lv e sz bytes st s x K = (jJ (real c) Γ own mt lv e sz bytes st s x fin).bind fun q => K q.1 q.2 := by
 unfold jJ
 split
 ·rw [bZ]
  simp only [mo, Option.bind_none]
  congr 1
  exact Bv _ _ _ _ _ _ _ _ _ K
 ·exact Bv _ _ _ _ _ _ _ _ _ K
theorem mK {Γ : Tab} {t : Nat} {q : PV × St → Option R} : ∀ (l : List D) (j : Nat) {st : St} {k : List PV → St → Option R} {k0 : List PV → St → Option (PV × St)}, (∀ cs st, k cs st = (k0 cs st).bind q) →
  jd (real c) Γ t j l st k = (jd (real c) Γ t j l st k0).bind q
 | [], j, st, k, k0, h => h _ _
 | d :: l, j, st, k, k0, h => by
  unfold jd
  split
  ·simp only [mo]
   exact mK l (j + 1) fun cs st => h _ _
  ·exact mK l (j + 1) fun cs st => h _ _
theorem tJ (st : St) (rows : List (List D)) (ext : Option (List (List D))) (lo hi mx : Option PV) (zz : Bool) (K : iD R) :
  jG (real c) st rows ext lo hi mx zz K = (jG (real c) st rows ext lo hi mx zz fin).bind fun q => K q.1 q.2 := by
 unfold jG
 simp only [jK, jL, kD]
 split
 ·simp only [bZ, Option.bind_some, Option.bind_none]
 ·simp only [bZ, Option.bind_some, Option.bind_none]
 ·split <;> simp only [bZ, Option.bind_some, Option.bind_none]
 ·rfl
theorem aaH (st : St) (i ty sz : Nat) (rows : List (List D)) (k : Int) (lo hi mx : Option PV) (K : iD R) :
  ZA (real c) st i ty sz rows k lo hi mx K = (ZA (real c) st i ty sz rows k lo hi mx fin).bind fun q => K q.1 q.2 := by
 unfold ZA
 simp only [kD]
 split
 ·simp only [bZ, Option.bind_some, Option.bind_none]
 ·simp only [bZ, Option.bind_some, Option.bind_none]
 ·simp only [bZ, Option.bind_some, Option.bind_none]
 ·rfl
theorem RU (t : Ty) (st : St) (x : PV) (lo hi mx : Option PV) (zz re : Bool) (K : iD R) :
  qD (real c) t st x lo hi mx zz re K = (qD (real c) t st x lo hi mx zz re fin).bind fun q => K q.1 q.2 := by
 unfold qD
 split
 ·split <;> simp only [bZ, Option.bind_some, Option.bind_none]
 ·rw [bZ]
  congr 1
  exact tJ _ _ _ _ _ _ _ _
 ·split
  ·rw [bZ]
   congr 1
   rw [bZ]
   congr 1
   rw [bZ]
   congr 1
   rw [bZ]
   congr 1
   exact aaH _ _ _ _ _ _ _ _ _ _
  ·rw [bZ]
   congr 1
   rw [bZ]
   congr 1
   split
   ·rw [oD]
    congr 1 <;> funext _ <;> exact tJ _ _ _ _ _ _ _ _
   ·exact tJ _ _ _ _ _ _ _ _
  ·rfl
 ·rfl
theorem aaI (Γ : Tab) (t : Nat) (op : BinOp) (st : St) (x y : PV) (K : iD R) :
  KU (real c) Γ t op st x y K = (KU (real c) Γ t op st x y fin).bind fun q => K q.1 q.2 := by
 unfold KU
 split
 ·split
  ·split <;> rfl
  ·rfl
 ·rfl
theorem ZG (t : Ty) (op : BinOp) (st : St) (x y : PV) (K : iD R) :
  Fa (real c) t op st x y K = (Fa (real c) t op st x y fin).bind fun q => K q.1 q.2 := by
 unfold Fa
 split
 ·rfl
 ·split
  ·split <;> rfl
  ·split <;> simp only [bZ, Option.bind_some, Option.bind_none]
theorem ZH (t : Ty) (op : BinOp) (st : St) (x : PV) (K : iD R) :
  G9 (real c) t op st x K = (G9 (real c) t op st x fin).bind fun q => K q.1 q.2 := by
 unfold G9
 split
 ·rw [oD]; rfl
 ·rw [oD]; rfl
 ·rfl
theorem NT (Γ : Tab) (kk : KK) (e : Nat) (ok : Bool) (st : St) (m k : PV) (K : iD R) :
  o8 (real c) Γ kk e ok st m k K = (o8 (real c) Γ kk e ok st m k fin).bind fun q => K q.1 q.2 := by
 unfold o8
 simp only [sU]
 rw [bZ]
 congr 1
 split
 ·rfl
 ·split
  ·rw [bZ]
   congr 1
   split <;> rfl
  ·rfl
 ·rfl
theorem UM {st : St} {v : PV} {k : List PV → Option R} {k0 : List PV → Option (PV × St)} {q : PV × St → Option R} (h : ∀ cs, k cs = (k0 cs).bind q) : sO (real c) st v k = (sO (real c) st v k0).bind q := by
 unfold sO
 split
 ·split
  ·exact h _
  ·rfl
 ·split
  ·rw [bZ]
   simp only [Option.bind_assoc, Option.bind_none, h]
  ·rfl
 ·exact h _
 ·rfl
theorem je {q : PV × St → Option R} : ∀ {l : List PV} {st : St} {k : List PV → St → Option R} {k0 : List PV → St → Option (PV × St)}, (∀ vs st, k vs st = (k0 vs st).bind q) → eu (real c) st l k = (eu (real c) st l k0).bind q := by
 intro l
 induction l with
 | nil => intro st k k0 h; simp only [eu]; exact h _ _
 | cons x l ih =>
  intro st k k0 h
  cases x with
  | row lv i n =>
   simp only [eu]
   split
   ·rw [bZ]
    congr 1
    exact ih fun vs st => h _ _
   ·rfl
  | _ => simp only [eu]; exact ih fun vs st => h _ _
theorem KW {q : PV × St → Option R} {tk : List Nat} : ∀ {l : List PV} {p : Nat} {st : St} {k : List PV → St → Option R} {k0 : List PV → St → Option (PV × St)}, (∀ vs st, k vs st = (k0 vs st).bind q) → gD (real c) tk p l st k = (gD (real c) tk p l st k0).bind q := by
 intro l
 induction l with
 | nil => intro p st k k0 h; simp only [gD]; exact h _ _
 | cons x l ih =>
  intro p st k k0 h
  simp only [gD]
  rw [bZ]
  congr 1
  ·exact ih fun vs st => h _ _
  ·exact je fun u st => ih fun vs st => h _ _
theorem Lr (b : Bool) (n : Nat) (K : iD R) (v : PV) (st : St) : Bl (real c) b n K v st = (Bl (real c) b n fin v st).bind fun q => K q.1 q.2 := by
 unfold Bl
 rw [bZ]
 congr 1
 split <;> rfl
theorem Ls (b w : Bool) (n : Nat) (r : PV × St) (K : iD R) : vP (real c) b r (Bl (real c) w n K) = (vP (real c) b r (Bl (real c) w n fin)).bind fun q => K q.1 q.2 := by
 unfold vP
 rw [bZ]
 congr 1
 ·exact je fun vs st => Lr _ _ _ _ _
 ·exact Lr _ _ _ _ _
theorem zD (Γ : Tab) (an : kW) (ρ : Env) (st : St) (dst : Option Nat) (op : Op) (K : iD R) :
  evalOp (real c) Γ an ρ st dst op K = (evalOp (real c) Γ an ρ st dst op fin).bind fun q => K q.1 q.2 := by
 cases op
 case binOp =>
  simp only [evalOp]
  rw [bZ, bZ, aaI, ZG, ZH]
 case slice => simp only [evalOp]; exact RU _ _ _ _ _ _ _ _ K
 case lookup =>
  simp only [evalOp]
  split
  ·split
   ·exact NT _ _ _ _ _ _ _ K
   ·rfl
  ·rfl
 case load t a =>
  simp only [evalOp]
  refine UM fun cs => ?_
  split <;> rfl
 case alloc t =>
  simp only [evalOp]
  split
  ·rfl
  ·split
   ·rw [bZ]; rfl
   ·rw [bZ]
    congr 1
    exact mK _ _ fun cs st => rfl
 case store t x y =>
  simp only [evalOp, yI]
  rw [bZ]
  congr 1
  rw [bZ]
  congr 1
  split
  ·split
   ·simp only [bZ, Option.bind_some, Option.bind_none]
   ·rfl
  ·refine je fun vs st => ?_
   split
   ·simp only [bZ, oD, Option.bind_some, Option.bind_none, Option.bind_assoc]
    congr 2
    funext r
    split <;> simp only [bZ, Option.bind_some, Option.bind_none]
   ·rfl
  ·rfl
 case makeFunc g _ _ =>
  cases g
  case func f =>
   simp only [evalOp]
   split
   ·refine je fun vs st => ?_
    split
    ·rfl
    ·simp only [bZ, Option.bind_some, Option.bind_none]
   ·rfl
  all_goals rfl
 case call c =>
  simp only [evalOp, jK, jL, DW, sV, kD, o9]
  split
  ·split
   case h_3 =>
    split
    ·exact y7 _ _ _ _ _ _ _ _ _ _ K
    ·split
     ·exact y7 _ _ _ _ _ _ _ _ _ _ K
     ·rfl
    ·rfl
   all_goals (repeat' first | rfl | (simp only [bZ, oD, Option.bind_some, Option.bind_none, Option.bind_assoc]; done) | split)
  ·refine KW fun vs st => ?_
   split
   ·rw [Option.bind_assoc]; congr 1; funext r; exact Ls _ _ _ _ _
   ·rw [Option.bind_assoc]; congr 1; funext r; exact Ls _ _ _ _ _
   ·split
    ·rw [Option.bind_assoc]; rfl
    ·rfl
   ·rfl
  ·rfl
 case build t parts =>
  simp only [evalOp]
  split
  ·refine je fun vs st => ?_
   split
   ·split
    ·split
     ·rw [bZ]
      congr 1
      exact mK _ _ fun cs st => rfl
     ·rfl
    ·rfl
   ·rfl
  ·rfl
 case box t x =>
  simp only [evalOp]
  refine je fun vs st => ?_
  rw [bZ]
  congr 1
  ·split <;> rfl
  ·split
   ·split
    ·rw [bZ]
     congr 1
     exact mK _ _ fun cs st => rfl
    ·rfl
   ·simp only [bZ, Option.bind_some, Option.bind_none]
 all_goals simp only [evalOp, jK, jL, yI, kD, o9, sU, Lf, DW, sV, mo, RL]
 all_goals (repeat' first | rfl | (refine je fun vs st => ?_) | (rw [bZ]; congr 1; refine je fun vs st => ?_) | (simp only [bZ, oD, Option.bind_some, Option.bind_none, Option.bind_assoc]; done) | split)
 all_goals (simp only [bZ, oD, Option.bind_none]; repeat' first | rfl | split)
end
end Go.X
