/- The interpreter: what a loaded function computes, on pure values. -/
import GoSem.Step
import Derived.Calls
import Derived.Orders
namespace Go.X
open Go
set_option linter.unusedSectionVars false
inductive D where
 | int (k : IntKind) (n : Int)
 | bool (b : Bool)
 | str (s : ByteArray)
 | sl (rows : List (List D)) (ext : Option (List (List D)))
 | fn (f : Nat) (caps : List D)
 | sj
 | Cz
 | eu
 deriving Inhabited
inductive PV where
 | d (x : D)
 | agg (cells : List PV)
 | ptr (lvl i off : Nat)
 | dA (cells : List D)
 | row (lvl i : Nat) (len : Int)
 | o9 (lvl i : Nat) (len idx : Int) (off : Nat)
 | fn (f : Nat) (caps : List PV)
 | map (lvl i : Nat)
 | tail (lvl i : Nat) (len lo : Int)
 | vP (lvl i : Nat)
 | zh (l : List PV)
 | skip
 | ub
 | unk
 deriving Inhabited
inductive KC where
 | int (k : IntKind) | bool | str
inductive KK where
 | str | int (k : IntKind) | agg (cs : List KC)
inductive Ex where
 | normal | exit (id : Nat) | ret
 deriving Inhabited, DecidableEq
inductive Obj where
 | box (ty : Nat) (cells : List PV)
 | row (ty sz : Nat) (rows : List (List D)) (mt : Bool) (cap : Option Int)
 | map (kk : KK) (fl : Bool) (es : List (PV × PV))
 | void
 | loop (site : Nat) (env : List (Nat × PV)) (pend : Option Ex)
mutual
def bD : D → D → Bool
 | .int k n, .int k' n' => decide (k = k') && decide (n = n')
 | .bool a, .bool b => decide (a = b)
 | .str a, .str b => decide (a = b)
 | .sl r x, .sl r' x' => afk r r' && bDo x x'
 | .fn f c, .fn f' c' => decide (f = f') && bDs c c'
 | .sj, .sj => true
 | .Cz, .Cz => true
 | .eu, .eu => true
 | _, _ => false
def bDs : List D → List D → Bool
 | [], [] => true
 | a :: r, b :: s => bD a b && bDs r s
 | _, _ => false
def afk : List (List D) → List (List D) → Bool
 | [], [] => true
 | a :: r, b :: s => bDs a b && afk r s
 | _, _ => false
def bDo : Option (List (List D)) → Option (List (List D)) → Bool
 | none, none => true
 | some a, some b => afk a b
 | _, _ => false
end
mutual
theorem aaq : ∀ (x y : D), bD x y = true ↔ x = y
 | .int k n, y => by cases y <;> simp [bD]
 | .bool a, y => by cases y <;> simp [bD]
 | .str a, y => by cases y <;> simp [bD]
 | .sl r e, y => by cases y <;> simp [bD, Nv r, alY e]
 | .fn f c, y => by cases y <;> simp [bD, MB c]
 | .sj, y => by cases y <;> simp [bD]
 | .Cz, y => by cases y <;> simp [bD]
 | .eu, y => by cases y <;> simp [bD]
theorem MB : ∀ (x y : List D), bDs x y = true ↔ x = y
 | [], y => by cases y <;> simp [bDs]
 | a :: r, y => by cases y <;> simp [bDs, aaq a, MB r]
theorem Nv : ∀ (x y : List (List D)), afk x y = true ↔ x = y
 | [], y => by cases y <;> simp [afk]
 | a :: r, y => by cases y <;> simp [afk, MB a, Nv r]
theorem alY : ∀ (x y : Option (List (List D))), bDo x y = true ↔ x = y
 | none, y => by cases y <;> simp [bDo]
 | some a, y => by cases y <;> simp [bDo, Nv a]
end
instance : DecidableEq D := fun a b => decidable_of_iff _ (aaq a b)
mutual
def bP : PV → PV → Bool
 | .d a, .d b => bD a b
 | .agg a, .agg b => bPs a b
 | .ptr a b c, .ptr a' b' c' => decide (a = a') && (decide (b = b') && decide (c = c'))
 | .dA a, .dA b => bDs a b
 | .row a b c, .row a' b' c' => decide (a = a') && (decide (b = b') && decide (c = c'))
 | .o9 a b c d e, .o9 a' b' c' d' e' => decide (a = a') && (decide (b = b') && (decide (c = c') && (decide (d = d') && decide (e = e'))))
 | .fn f c, .fn f' c' => decide (f = f') && bPs c c'
 | .map a b, .map a' b' => decide (a = a') && decide (b = b')
 | .tail a b c d, .tail a' b' c' d' => decide (a = a') && (decide (b = b') && (decide (c = c') && decide (d = d')))
 | .vP a b, .vP a' b' => decide (a = a') && decide (b = b')
 | .zh a, .zh b => bPs a b
 | .skip, .skip => true
 | .ub, .ub => true
 | .unk, .unk => true
 | _, _ => false
def bPs : List PV → List PV → Bool
 | [], [] => true
 | a :: r, b :: s => bP a b && bPs r s
 | _, _ => false
end
mutual
theorem af5 : ∀ (x y : PV), bP x y = true ↔ x = y
 | .d a, y => by cases y <;> simp [bP, aaq]
 | .agg a, y => by cases y <;> simp [bP, MC a]
 | .ptr a b c, y => by cases y <;> simp [bP]
 | .dA a, y => by cases y <;> simp [bP, MB]
 | .row a b c, y => by cases y <;> simp [bP]
 | .o9 a b c d e, y => by cases y <;> simp [bP]
 | .fn f c, y => by cases y <;> simp [bP, MC c]
 | .map a b, y => by cases y <;> simp [bP]
 | .tail a b c d, y => by cases y <;> simp [bP]
 | .vP a b, y => by cases y <;> simp [bP]
 | .zh a, y => by cases y <;> simp [bP, MC a]
 | .skip, y => by cases y <;> simp [bP]
 | .ub, y => by cases y <;> simp [bP]
 | .unk, y => by cases y <;> simp [bP]
theorem MC : ∀ (x y : List PV), bPs x y = true ↔ x = y
 | [], y => by cases y <;> simp [bPs]
 | a :: r, y => by cases y <;> simp [bPs, af5 a, MC r]
end
instance : DecidableEq PV := fun a b => decidable_of_iff _ (af5 a b)
deriving instance DecidableEq for KC
deriving instance DecidableEq for KK
deriving instance DecidableEq for Obj
inductive Ty where
 | int (k : IntKind) | bool | str
 | agg (n : Nat) (fs : List (Nat × Nat × Nat))
 | slice (e sz bytes : Nat)
 | map (k e : Nat)
 | array (n e : Nat)
 | ptr (e : Nat)
 | sc
 | bad
 deriving Inhabited
def CP : List PV → Bool
 | [] => true
 | .d _ :: r => CP r
 | _ :: _ => false
def Cq : PV → Bool
 | .d _ => true
 | .agg cs => CP cs
 | _ => false
def sN : List (PV × PV) → Bool
 | [] => true
 | (k, v) :: r => Cq k && Cq v && sN r
inductive Lv where
 | lit (n : Nat) | of (slot : Nat)
def pk {A : Type} (d : A) : List (Nat × A) → Nat → A
 | [], _ => d
 | (k, v) :: r, s => bif Nat.beq s k then v else pk d r s
structure mH where
 keep : List Nat
 lv : Nat → Lv := fun _ => .lit 0
 mt : Nat → Bool := fun _ => false
 dead : Nat → List Nat := fun _ => []
 own : Nat → Option Nat := fun _ => none
 rf : Nat → Bool := fun _ => false
 give : Bool := false
 arena : Bool := false
 take : List Nat := []
 hold : Nat → List Nat := fun _ => []
 cold : Nat → Bool := fun _ => false
 af6 : Nat → Bool := fun _ => false
 site : Nat → Nat := fun _ => 0
 cap : Nat → List Nat := fun _ => []
 again : Nat → Bool := fun _ => false
 split : Bool := false
structure Site where
 own : Nat
 n : Nat
 ps : List Nat
 RX : Code
 body : Code
class fq where
 site : Nat → Option Site
 glob : List (Nat × Array Value)
structure Tab where
 ty : Nat → Ty
 zero : Nat → List D
 ann : Nat → mH
 eqs : Nat → Bool := fun _ => false
abbrev Env := List (Nat × PV)
abbrev St := List (List Obj)
structure Om where
 cf : Nat → List PV → St → Option (PV × St)
 rd : Nat → List PV → St → Option (PV × St)
 iter : Nat → List Nat → (Env → St → Option (Ex × Env × St)) → Env → St → Option (Ex × Env × St)
 tick : {R : Type} → (Unit → Option R) → Option R
 grp : {R A : Type} → ((A → Option R) → Option R) → (A → Option R) → Option R
 fits : Nat → List (List D) → Option (List (List D)) → Bool
 plain : Nat → List (PV × PV) → Bool
 aar : {R : Type} → List (List D) → (Int → Option R) → Option R
 Nw : {R : Type} → List (List D) → List (List D) → (List (List D) → Int → Option R) → Option R
 af7 : {R : Type} → List (List D) → Int → List D → (List (List D) → Option R) → Option R
 af8 : List (List D) → Int → List D → List (List D)
 cat : List (List D) → List (List D) → List (List D)
 cut : List (List D) → Int → Int → List (List D)
 fill : List D → Int → List (List D)
 find : List (PV × PV) → PV → Option PV
 put : List (PV × PV) → PV → PV → List (PV × PV)
 del : List (PV × PV) → PV → List (PV × PV)
 arA : List (PV × PV) → Int
 Ny : {R : Type} → List (List D) → Int → Int → (List (List D) → Option R) → Option R
 Xt : {R : Type} → List D → Int → (List (List D) → Int → Option R) → Option R
 Sr : {R : Type} → List (PV × PV) → PV → Option R → (PV → Option R) → Option R
 af9 : {R : Type} → List (PV × PV) → PV → PV → (List (PV × PV) → Option R) → Option R
 aga : {R : Type} → List (PV × PV) → PV → (List (PV × PV) → Option R) → Option R
 afl : {R : Type} → (List (List D) → Option R) → Option R
 Nz : {R : Type} → (List (PV × PV) → Option R) → Option R
 Sv : {R : Type} → List (PV × PV) → (Int → Option R) → Option R
 wrap : IntKind → Int → Int
 add : Int → Int → Int
 sub : Int → Int → Int
 mul : Int → Int → Int
 neg : Int → Int
 ieq : Int → Int → Bool
 ilt : Int → Int → Bool
 mR : Int → Int → Bool
 tdiv : Int → Int → Int
 tmod : Int → Int → Int
 seq : ByteArray → ByteArray → Bool
 slt : ByteArray → ByteArray → Bool
 KF : ByteArray → Int
 avT : ByteArray → ByteArray → ByteArray
 avU : ByteArray → Int → Int → ByteArray
 byte : ByteArray → Int → Int
 len : List (List D) → Int
 nth : List (List D) → Int → Option (List D)
 ofStr : ByteArray → List (List D)
 toStr : List (List D) → Option ByteArray
 same : St → St → Bool
 arB : {R : Type} → St → Nat → Nat → Nat → (List PV → Option R) → Option R
 ME : {R : Type} → St → Nat → Nat → Nat → List PV → (St → Option R) → Option R
 ET : {R : Type} → St → Nat → Nat → (KK → Bool → List (PV × PV) → Option R) → Option R
 o7 : {R : Type} → St → Nat → Nat → Obj → (St → Option R) → Option R
 EU : {R : Type} → St → Nat → Obj → (Nat → St → Option R) → Option R
 both : {R : Type} → Option R → Option R → Option R
 sO : {R : Type} → St → Nat → Nat → (Nat → List (Nat × PV) → Option Ex → Option R) → Option R
 xY : {R : Type} → St → Nat → Nat → (Nat → Nat → List (List D) → Bool → Option Int → Option R) → Option R
def mI : Env → Nat → PV
 | [], _ => .unk
 | (k, v) :: r, t => bif Nat.beq k t then v else mI r t
def est : Env → Nat → PV → Env
 | [], t, x => [(t, x)]
 | (k, v) :: r, t, x => bif Nat.beq k t then (t, x) :: r else bif Nat.blt t k then (t, x) :: (k, v) :: r else (k, v) :: est r t x
def del : Env → Nat → Env
 | [], _ => []
 | (k, v) :: r, t => bif Nat.beq k t then del r t else (k, v) :: del r t
def FU : List Nat → Env → Env
 | [], ρ => ρ
 | x :: r, ρ => FU r (del ρ x)
def mem : Nat → List Nat → Bool
 | _, [] => false
 | k, x :: r => bif Nat.beq k x then true else mem k r
def Lx (an : mH) (ρ : Env) (t : Nat) (b : Bool) : Env := bif an.again t then est ρ t (.d (.bool b)) else del ρ t
def aM (l : List Nat) : Env → Env
 | [] => []
 | (k, v) :: r => bif mem k l then (k, v) :: aM l r else aM l r
def keys : Env → List Nat
 | [] => []
 | (k, _) :: r => k :: keys r
def lit : Value → PV
 | .int k n => .d (.int k n)
 | .bool b => .d (.bool b)
 | .string s => .d (.str s)
 | .slice none 0 0 => .d (.sl [] (some []))
 | .pointer none => .d .sj
 | .nilFunc => .d .eu
 | .map none => .d .Cz
 | .agg cs => match lits cs.toList with | some l => .agg l | none => .unk
 | _ => .unk
where
 arC : Value → Option D
  | .int k n => some (.int k n)
  | .bool b => some (.bool b)
  | .string s => some (.str s)
  | .slice none 0 0 => some (.sl [] (some []))
  | .pointer none => some .sj
  | .nilFunc => some .eu
  | .map none => some .Cz
  | _ => none
 lits : List Value → Option (List PV)
  | [] => some []
  | v :: r => match arC v, lits r with | some d, some l => some (.d d :: l) | _, _ => none
def ev (ρ : Env) : Operand → PV
 | .tmp t => mI ρ t
 | .const v => lit v
 | .func f => .d (.fn f [])
 | .global _ => .unk
def evs (ρ : Env) : List Operand → List PV
 | [] => []
 | x :: r => ev ρ x :: evs ρ r
def ds : List D → List PV
 | [] => []
 | x :: r => .d x :: ds r
def Mh : List PV → Option (List D)
 | [] => some []
 | .d x :: r => match Mh r with | some l => some (x :: l) | none => none
 | _ :: _ => none
def unpack : PV → List PV
 | .agg cs => cs
 | v => [v]
def lX [fq] (g : Nat) : Bool := match fq.site g with | none => false | some _ => true
section ops
variable [fq] (Ω : Om)
def zS : IntKind → IntKind → Bool
 | .i8, .i8 => true | .i16, .i16 => true | .i32, .i32 => true | .i64, .i64 => true
 | .u8, .u8 => true | .u16, .u16 => true | .u32, .u32 => true | .u64, .u64 => true
 | _, _ => false
def arith (k : IntKind) (op : BinOp) (x y : Int) : Option D :=
 match op with
 | .add => some (.int k (Ω.wrap k (Ω.add x y)))
 | .sub => some (.int k (Ω.wrap k (Ω.sub x y)))
 | .mul => some (.int k (Ω.wrap k (Ω.mul x y)))
 | .eql => some (.bool (Ω.ieq x y))
 | .neq => some (.bool (!Ω.ieq x y))
 | .lss => some (.bool (Ω.ilt x y))
 | .leq => some (.bool (Ω.mR x y))
 | .gtr => some (.bool (Ω.ilt y x))
 | .geq => some (.bool (Ω.mR y x))
 | _ => none
def agb (op : BinOp) (x y : ByteArray) : Option D :=
 match op with
 | .eql => some (.bool (Ω.seq x y))
 | .neq => some (.bool (!Ω.seq x y))
 | .lss => some (.bool (Ω.slt x y))
 | .leq => some (.bool (Ω.slt x y || Ω.seq x y))
 | .gtr => some (.bool (!(Ω.slt x y || Ω.seq x y)))
 | .geq => some (.bool (!Ω.slt x y))
 | _ => none
def bin (t : Ty) (op : BinOp) : PV → PV → Option D
 | .d (.int k x), .d (.int k' y) => bif zS k k' then arith Ω k op x y else none
 | .d (.bool x), .d (.bool y) => match t, op with | .bool, .eql => some (.bool (x == y)) | .bool, .neq => some (.bool (!(x == y))) | _, _ => none
 | .d (.str x), .d (.str y) => agb Ω op x y
 | _, _ => none
def Uf (t : Ty) : PV → PV → Option Bool
 | .ptr .., .d .sj => match t with | .ptr _ => some false | _ => none
 | .d .sj, .d .sj => match t with | .ptr _ => some true | _ => none
 | .map .., .d .Cz => match t with | .map _ _ => some false | _ => none
 | .d .Cz, .d .Cz => match t with | .map _ _ => some true | _ => none
 | _, _ => none
def down (n : Nat) : PV → PV
 | .d x => .d x
 | .agg cs => .agg (gZ cs)
 | .ptr l i o => .ptr (l + n) i o
 | .dA cs => .dA cs
 | .row l i k => .row (l + n) i k
 | .o9 l i k x o => .o9 (l + n) i k x o
 | .fn f cs => .fn f (gZ cs)
 | .map l i => .map (l + n) i
 | .tail l i k o => .tail (l + n) i k o
 | .vP l i => .vP (l + n) i
 | .zh cs => .zh (gZ cs)
 | .skip => .skip
 | .ub => .ub
 | .unk => .unk
where gZ : List PV → List PV
 | [] => []
 | v :: r => down n v :: gZ r
def sub (l n : Nat) (f : Nat → PV) : PV := bif Nat.ble n l then f (l - n) else .unk
def up (n : Nat) : PV → PV
 | .d x => .d x
 | .agg cs => .agg (ups cs)
 | .ptr l i o => sub l n fun l => .ptr l i o
 | .dA cs => .dA cs
 | .row l i k => sub l n fun l => .row l i k
 | .o9 l i k x o => sub l n fun l => .o9 l i k x o
 | .fn f cs => .fn f (ups cs)
 | .map l i => sub l n fun l => .map l i
 | .tail l i k o => sub l n fun l => .tail l i k o
 | .vP l i => sub l n fun l => .vP l i
 | .zh cs => .zh (ups cs)
 | .skip => .unk
 | .ub => .ub
 | .unk => .unk
where ups : List PV → List PV
 | [] => []
 | v :: r => up n v :: ups r
def CQ (n : Nat) : Env → Env
 | [] => []
 | (k, v) :: r => (k, down n v) :: CQ n r
def look : St → Nat → Nat → Option Obj
 | fr :: _, 0, i => fr[i]?
 | _ :: r, l + 1, i => look r l i
 | [], _, _ => none
def dU : St → Nat → Nat → Obj → St
 | fr :: r, 0, i, o => fr.set i o :: r
 | fr :: r, l + 1, i, o => fr :: dU r l i o
 | [], _, _, _ => []
def mU : St → Nat → Obj → St
 | fr :: r, 0, o => (fr ++ [o]) :: r
 | fr :: r, l + 1, o => fr :: mU r l o
 | [], _, _ => []
def fE : St → Nat → Nat
 | fr :: _, 0 => fr.length
 | _ :: r, l + 1 => fE r l
 | [], _ => 0
def jL : St → Nat → Bool
 | _ :: _, 0 => true
 | _ :: r, l + 1 => jL r l
 | [], _ => false
def xX (ρ : Env) : Lv → Nat
 | .lit n => n
 | .of s => match mI ρ s with | .ptr l _ _ => l | .row l _ _ => l | .map l _ => l | _ => 0
def freeze (st : St) : PV → PV × St
 | .row l i k => match look st l i with
  | some (.row ty sz rows mt cap) => bif Ω.ieq (Ω.len rows) k then (.d (.sl rows none), bif mt then dU st l i (.row ty sz rows false cap) else st) else (.unk, st)
  | _ => (.unk, st)
 | v => (v, st)
def freezes (st : St) : List PV → List PV × St
 | [] => ([], st)
 | v :: r => let q := freeze Ω st v; let s := freezes q.2 r; (q.1 :: s.1, s.2)
def eH {R : Type} (st : St) (vs : List PV) (K : List PV → St → Option R) : Option R :=
 match vs with
 | [] => K [] st
 | .row l i k :: r => match look st l i with
  | some (.row ty sz rows mt cap) => bif Ω.ieq (Ω.len rows) k then eH (bif mt then dU st l i (.row ty sz rows false cap) else st) r (fun vs st => K (.d (.sl rows none) :: vs) st) else none
  | _ => none
 | v :: r => eH st r (fun vs st => K (v :: vs) st)
def ig {R : Type} (tk : List Nat) : Nat → List PV → St → (List PV → St → Option R) → Option R
 | _, [], st, K => K [] st
 | p, v :: r, st, K => bif mem p tk then ig tk (p + 1) r st fun vs st => K (v :: vs) st
  else eH Ω st [v] fun u st => ig tk (p + 1) r st fun vs st => K (u ++ vs) st
def hdP : List PV → PV
 | [v] => v
 | _ => .unk
def below (n : Nat) : PV → Bool
 | .d _ => true
 | .agg cs => belows cs
 | .ptr l i _ => bif Nat.beq l 0 then Nat.blt i n else true
 | .dA _ => true
 | .row l i _ => bif Nat.beq l 0 then Nat.blt i n else true
 | .o9 l i _ _ _ => bif Nat.beq l 0 then Nat.blt i n else true
 | .fn _ cs => belows cs
 | .map l i => bif Nat.beq l 0 then Nat.blt i n else true
 | .tail l i _ _ => bif Nat.beq l 0 then Nat.blt i n else true
 | .vP l i => bif Nat.beq l 0 then Nat.blt i n else true
 | .zh cs => belows cs
 | .skip => true
 | .ub => true
 | .unk => true
where belows : List PV → Bool
 | [] => true
 | v :: r => bif below n v then belows r else false
def KG (n : Nat) : Env → Bool
 | [] => true
 | (_, v) :: r => bif below n v then KG n r else false
def aas (_pl : Nat → List (PV × PV) → Bool) (n : Nat) : Obj → Bool
 | .box _ cs => below.belows n cs
 | .row _ _ _ _ _ => true
 | .map _ fl _ => fl
 | .void => true
 | .loop _ ρ _ => KG n ρ
def NA (pl : Nat → List (PV × PV) → Bool) (n : Nat) : List Obj → Bool
 | [] => true
 | o :: r => bif aas pl n o then NA pl n r else false
def trim (pl : Nat → List (PV × PV) → Bool) (n : Nat) (ρ : Env) : St → St
 | [] => []
 | fr :: r => bif Nat.ble fr.length n then fr :: r else bif KG n ρ then bif NA pl n (fr.take n) then fr.take n :: r else fr :: r else fr :: r
def qj {R : Type} (b : Bool) (r : PV × St) (K : PV → St → Option R) : Option R :=
 bif b then eH Ω r.2 [r.1] fun vs st => K (hdP vs) st else K r.1 r.2
def Ia {R : Type} (b : Bool) (n : Nat) (K : PV → St → Option R) (v : PV) (st : St) : Option R :=
 bif b then (match v with | .d x => K (.d x) (trim Ω.plain n [] st) | _ => none) else K v st
def EW (st : St) : PV → Option (List PV)
 | .ptr l i off => match look st l i with
  | some (.box _ cs) => some (down.gZ l (cs.drop off))
  | _ => none
 | .o9 l i k x off => match look st l i with
  | some (.row _ _ rows _ _) => bif Ω.ieq (Ω.len rows) k then (match Ω.nth rows x with | some r => some (ds (r.drop off)) | none => none) else none
  | _ => none
 | .dA cs => some (ds cs)
 | _ => none
def zT {R : Type} (st : St) (v : PV) (K : List PV → Option R) : Option R :=
 match v with
 | .ptr l i off => match look st l i with
  | some (.box _ cs) => K (down.gZ l (cs.drop off))
  | _ => none
 | .o9 l i k x off => match look st l i with
  | some (.row _ _ rows _ _) => bif Ω.ieq (Ω.len rows) k then (Ω.nth rows x).bind fun r => K (ds (r.drop off)) else none
  | _ => none
 | .dA cs => K (ds cs)
 | _ => none
def Ib : List PV → Option PV
 | v :: _ => some v
 | [] => none
def pack (Γ : Tab) (t : Nat) (cs : List PV) : Option PV :=
 match Γ.ty t with
 | .agg n _ => bif Nat.ble n cs.length then some (.agg (cs.take n)) else none
 | .array _ _ => none
 | .bad => none
 | _ => Ib cs
def lY : PV → Bool
 | .agg _ => false
 | .zh _ => false
 | .skip => false
 | .ub => false
 | .unk => false
 | _ => true
def eF : List PV → Bool
 | [] => true
 | v :: r => bif lY v then eF r else false
def Fz (place : Nat → Option (Nat × Nat)) (cells : List PV) : List (Nat × PV) → Option (List PV)
 | [] => some cells
 | (i, v) :: r => match place i with
  | some (off, sz) => bif Nat.beq (unpack v).length sz then bif Nat.ble (off + sz) cells.length then bif eF (unpack v)
   then Fz place (cells.take off ++ unpack v ++ cells.drop (off + sz)) r else none else none else none
  | none => none
def acT (fs : List (Nat × Nat × Nat)) (i : Nat) : Option (Nat × Nat) := match fs[i]? with | some q => some (q.1, q.2.1) | none => none
def afm (z : List PV) : Nat → List PV
 | 0 => []
 | n + 1 => z ++ afm z n
def chunk (sz : Nat) : Nat → List D → List (List D)
 | 0, _ => []
 | n + 1, l => l.take sz :: chunk sz n (l.drop sz)
def br {R : Type} (b : Bool) (x y : Unit → Option R) : Option R := (bif b then x else y) ()
theorem Ic {R : Type} (x y : Unit → Option R) : br true x y = x () := rfl
theorem CS {R : Type} (x y : Unit → Option R) : br false x y = y () := rfl
theorem uM {R S : Type} (b : Bool) (x y : Unit → Option R) (f : R → Option S) : (br b x y).bind f = br b (fun _ => (x ()).bind f) (fun _ => (y ()).bind f) := by cases b <;> rfl
abbrev jB (R : Type) := PV → St → Option R
variable {R : Type}
def rowsOf (st : St) : PV → Option (Int × List (List D))
 | .d (.sl rows _) => some (Ω.len rows, rows)
 | .row l i k => match look st l i with
  | some (.row _ _ rows _ _) => some (k, rows)
  | _ => none
 | _ => none
def o8 (s : ByteArray) : List (List D) := s.data.toList.map fun b => [.int .u8 b.toNat]
def limit : Int := 140737488355328
def zU (mt : Bool) (lv : Nat) (e sz bytes : Nat) (st : St) (rows : List (List D)) (K : jB R) : Option R :=
 Ω.aar rows fun n => bif Ω.mR (Ω.mul n bytes) limit then bif jL st lv then K (.row lv (fE st lv) n) (mU st lv (.row e sz rows mt none)) else none else none
def capOf (cap : Option Int) (n : Int) : Option Int := match cap with | some c => bif Ω.mR n c then cap else none | none => none
def nL (Γ : Tab) (mt : Bool) (lv : Nat) (e sz bytes : Nat) (st : St) (s x : PV) (K : jB R) : Option R :=
 match Γ.zero e, rowsOf Ω st x with
 | _ :: _, some (kx, xs) => bif Ω.ieq (Ω.len xs) kx then bif Ω.fits sz xs none then (match s with
  | .d (.sl rows ext) => br (Ω.ieq (Ω.len xs) 0) (fun _ => K s st) (fun _ => bif Ω.fits sz rows ext then (match ext with
   | some [] => Ω.Nw rows xs fun rows' _ => zU Ω mt lv e sz bytes st rows' K
   | _ => none) else none)
  | .row l i k => match look st l i with
   | some (.row e' szr rows mt' cap) => bif Ω.ieq (Ω.len rows) k then br (Ω.ieq (Ω.len xs) 0) (fun _ => K s st) (fun _ => bif Nat.beq e e' then bif Nat.beq sz szr
     then Ω.Nw rows xs fun rows' n => bif Ω.mR (Ω.mul n bytes) limit
      then (match cap with
       | none => K (.row l i n) (dU st l i (.row e' szr rows' mt' none))
       | some c => bif Ω.mR n c then K (.row l i n) (dU st l i (.row e' szr rows' mt' (some c))) else none) else none
     else none else none) else none
   | _ => none
  | _ => none) else none else none
 | _, _ => none
def ng (Γ : Tab) (own : Option Nat) (mt : Bool) (lv : Nat) (e sz bytes : Nat) (st : St) (s x : PV) (K : jB R) : Option R :=
 match own, s with
 | some _, .d (.sl [] (some [])) => bif jL st 0 then Ω.afl fun rows => nL Ω Γ mt 0 e sz bytes (mU st 0 (.row e sz rows mt none)) (.row 0 (fE st 0) 0) x K else none
 | _, _ => nL Ω Γ mt lv e sz bytes st s x K
def Ug (d : Int) : Option PV → Option Int
 | none => some d
 | some (.d (.int _ n)) => some n
 | _ => none
def mV (st : St) (rows : List (List D)) (ext : Option (List (List D))) (lo hi mx : Option PV) (zz : Bool) (K : jB R) : Option R :=
 Ω.aar rows fun n =>
 match Ug 0 lo, Ug n hi, mx, ext with
 | some l, some h, none, none => bif Ω.mR 0 l then bif Ω.mR l h then bif Ω.mR h n then Ω.Ny rows l h fun q => K (.d (.sl q none)) st else none else none else none
 | some l, some h, none, some hid => Ω.Nw rows hid fun all tot => bif Ω.mR 0 l then bif Ω.mR l h then bif Ω.mR h tot
   then Ω.Ny all l h fun q => Ω.Ny all h tot fun q' => K (.d (.sl q (some q'))) st else none else none else none
 | some l, some h, some (.d (.int _ m)), _ => match hi with
  | none => none
  | some _ => bif Ω.mR 0 l then bif Ω.mR l h then bif Ω.mR h m then bif Ω.mR m n
   then (bif zz then K (.d (.sl [] (some []))) st else Ω.Ny rows l h fun q => Ω.Ny rows h m fun q' => K (.d (.sl q (some q'))) st) else none else none else none else none
 | _, _, _, _ => none
def Xu : Option Operand → Bool
 | some (.const (.int _ (.ofNat 0))) => true
 | _ => false
def afn (st : St) (i ty sz : Nat) (rows : List (List D)) (k : Int) (lo hi mx : Option PV) (K : jB R) : Option R :=
 match lo, hi, mx with
 | none, some (.d (.int _ h)), none => bif Ω.mR 0 h then bif Ω.mR h k then Ω.Ny rows 0 h fun q => K (.row 0 (fE st 0) h) (mU (dU st 0 i .void) 0 (.row ty sz q true none)) else none else none
 | some (.d (.int _ o)), none, none => bif Ω.mR 0 o then bif Ω.mR o k then K (.tail 0 i k o) st else none else none
 | none, some (.d (.int _ h)), some (.d (.int _ m)) => bif Ω.mR 0 h then bif Ω.mR h m then bif Ω.mR m k then Ω.Ny rows 0 h fun q => K (.row 0 (fE st 0) h) (mU (dU st 0 i .void) 0 (.row ty sz q true none)) else none else none else none
 | _, _, _ => none
def xZ (t : Ty) (st : St) (x : PV) (lo hi mx : Option PV) (zz re : Bool) (K : jB R) : Option R :=
 match t, x with
 | .str, .d (.str s) => match Ug 0 lo, Ug (Ω.KF s) hi, mx with
  | some l, some h, none => bif Ω.mR 0 l then bif Ω.mR l h then bif Ω.mR h (Ω.KF s) then K (.d (.str (Ω.avU s l h))) st else none else none else none
  | _, _, _ => none
 | .slice _ sz _, .d (.sl rows ext) => bif Ω.fits sz rows ext then mV Ω st rows ext lo hi mx zz K else none
 | .slice _ sz' _, .row l i k => match look st l i with
  | some (.row ty sz rows true _) => bif re then bif Nat.beq l 0 then bif Nat.beq sz sz' then bif Ω.ieq (Ω.len rows) k then afn Ω st i ty sz rows k lo hi mx K else none else none else none else none
  | some (.row _ sz rows false cap) => bif Nat.beq sz sz' then bif Ω.ieq (Ω.len rows) k then (match cap with
   | some c => br (Ω.ieq c k) (fun _ => mV Ω st rows (some []) lo hi mx zz K) (fun _ => mV Ω st rows none lo hi mx zz K)
   | none => mV Ω st rows none lo hi mx zz K) else none else none
  | _ => none
 | _, _ => none
def eqD : Ty → D → D → Option Bool
 | .int _, .int k x, .int k' y => bif zS k k' then some (Ω.ieq x y) else none
 | .bool, .bool x, .bool y => some (x == y)
 | .str, .str x, .str y => some (Ω.seq x y)
 | _, _, _ => none
def Ie (Γ : Tab) : List (Nat × Nat × Nat) → List PV → List PV → Option Bool
 | [], [], [] => some true
 | g :: gs, .d u :: us, .d v :: vs => match eqD Ω (Γ.ty g.2.2) u v with
  | none => none
  | some b => match Ie Γ gs us vs with
   | none => none
   | some c => some (b && c)
 | _, _, _ => none
def RZ (Γ : Tab) (t : Nat) (op : BinOp) (st : St) (x y : PV) (K : jB R) : Option R :=
 match Γ.ty t, x, y with
 | .agg _ gs, .agg us, .agg vs => match Ie Ω Γ gs us vs with
  | some b => match op with
   | .eql => K (.d (.bool b)) st
   | .neq => K (.d (.bool !b)) st
   | _ => none
  | none => none
 | _, _, _ => none
def KH : Operand → Bool
 | .const (.slice none 0 0) => true
 | _ => false
def NC (t : Ty) (op : BinOp) (st : St) (x : PV) (K : jB R) : Option R :=
 match t, x, op with
 | .slice _ _ _, .d (.sl rows _), .eql => br (Ω.ieq (Ω.len rows) 0) (fun _ => K .ub st) (fun _ => K (.d (.bool false)) st)
 | .slice _ _ _, .d (.sl rows _), .neq => br (Ω.ieq (Ω.len rows) 0) (fun _ => K .ub st) (fun _ => K (.d (.bool true)) st)
 | _, _, _ => none
def aat : Int := 9223372036854775807
def LA (t : Ty) (op : BinOp) (st : St) (x y : PV) (K : jB R) : Option R :=
 match bin Ω t op x y with
 | some v => K (.d v) st
 | none => match Uf t x y with
  | some b => match op with
   | .eql => K (.d (.bool b)) st
   | .neq => K (.d (.bool !b)) st
   | _ => none
  | none => match op, x, y with
   | .add, .d (.str a), .d (.str b) => bif Ω.mR (Ω.add (Ω.KF a) (Ω.KF b)) aat then K (.d (.str (Ω.avT a b))) st else none
   | .quo, .d (.int k a), .d (.int k' b) => bif zS k k' then bif Ω.ieq b 0 then none else K (.d (.int k (Ω.wrap k (Ω.tdiv a b)))) st else none
   | .rem, .d (.int k a), .d (.int k' b) => bif zS k k' then bif Ω.ieq b 0 then none else K (.d (.int k (Ω.tmod a b))) st else none
   | _, _, _ => none
def LB (Γ : Tab) : List (Nat × Nat × Nat) → Option (List KC)
 | [] => some []
 | q :: r => match Γ.ty q.2.2, LB Γ r with
  | .int k, some cs => some (.int k :: cs)
  | .bool, some cs => some (.bool :: cs)
  | .str, some cs => some (.str :: cs)
  | _, _ => none
def zW (Γ : Tab) (t : Nat) : Option KK :=
 match Γ.ty t with
 | .str => some .str
 | .int k => some (.int k)
 | .agg _ fs => bif Γ.eqs t then (match LB Γ fs with | some cs => some (.agg cs) | none => none) else none
 | _ => none
def pR : List KC → List KC → Bool
 | [], [] => true
 | .int j :: a, .int k :: b => bif zS j k then pR a b else false
 | .bool :: a, .bool :: b => pR a b
 | .str :: a, .str :: b => pR a b
 | _, _ => false
def Mi : KK → KK → Bool
 | .str, .str => true
 | .int j, .int k => zS j k
 | .agg a, .agg b => pR a b
 | _, _ => false
def fJ : List KC → List PV → Bool
 | [], [] => true
 | .int k :: cs, .d (.int j _) :: vs => bif zS k j then fJ cs vs else false
 | .bool :: cs, .d (.bool _) :: vs => fJ cs vs
 | .str :: cs, .d (.str _) :: vs => fJ cs vs
 | _, _ => false
def jC : KK → PV → Bool
 | .int k, .d (.int j _) => zS k j
 | .str, .d (.str _) => true
 | .agg cs, .agg vs => fJ cs vs
 | _, _ => false
def vV (Γ : Tab) (kk : KK) (e : Nat) (ok : Bool) (st : St) (m k : PV) (K : jB R) : Option R :=
 let give (v : PV) (b : Bool) : PV := bif ok then .zh [v, .d (.bool b)] else v
 bif jC kk k then
 match m, pack Γ e (ds (Γ.zero e)) with
 | .d .Cz, some z => K (give z false) st
 | .map l i, some z => match look st l i with
  | some (.map MF _ es) => bif Mi kk MF then Ω.Sr es k (K (give z false) st) (fun v => K (give (down l v) true) st) else none
  | _ => none
 | _, _ => none
 else none
def uq : PV → List PV → PV
 | .agg _, vs => .agg vs
 | _, vs => match vs with | [v] => v | _ => .unk
def Sw : PV → Bool
 | .agg cs => eF cs
 | v => lY v
def aoS (Γ : Tab) (t j : Nat) : Option (Nat × Nat) :=
 match Γ.ty t with
 | .slice e sz _ => bif Nat.beq j 0 then some (e, sz) else none
 | .agg _ fs => match fs.find? (fun q => Nat.beq q.1 j) with
  | some q => match Γ.ty q.2.2 with
   | .slice e sz _ => some (e, sz)
   | _ => none
  | none => none
 | _ => none
def kK (Γ : Tab) (t : Nat) : Nat → List D → St → (List PV → St → Option R) → Option R
 | _, [], st, K => K [] st
 | j, d :: r, st, K => match d, aoS Γ t j with
  | .sl [] (some []), some q => Ω.afl fun rows => kK Γ t (j + 1) r (mU st 0 (.row q.1 q.2 rows true none)) fun cs st' => K (.row 0 (fE st 0) 0 :: cs) st'
  | d, _ => kK Γ t (j + 1) r st fun cs st' => K (.d d :: cs) st'
def evalOp (Γ : Tab) (an : mH) (ρ : Env) (st : St) (dst : Option Nat) (op : Op) (K : jB R) : Option R :=
 let d := match dst with | some d => d | none => 0
 match op with
 | .move x => K (ev ρ x) st
 | .assign x => match an.own d with
  | some t => match x, Γ.ty t with
   | .const (.slice none 0 0), .slice e sz _ => bif jL st 0 then Ω.afl fun rows => K (.row 0 (fE st 0) 0) (mU st 0 (.row e sz rows (an.mt d) none)) else none
   | _, _ => K (ev ρ x) st
  | none => K (ev ρ x) st
 | .pick c a b => match ev ρ c with | .d (.bool t) => br t (fun _ => K (ev ρ a) st) (fun _ => K (ev ρ b) st) | _ => none
 | .box t x => eH Ω st (unpack (ev ρ x)) fun cs st => bif an.cold d then (match Mh cs with | some l => K (.dA l) st | none => none) else
   match an.own d, xX ρ (an.lv d) with
   | some t2, 0 => (match Mh cs with | some l => bif jL st 0 then kK Ω Γ t2 0 l st fun cs st => K (.ptr 0 (fE st 0) 0) (mU st 0 (.box t cs)) else none | none => none)
   | _, lv => bif jL st lv then bif eF (up.ups lv cs) then K (.ptr lv (fE st lv) 0) (mU st lv (.box t (up.ups lv cs))) else none else none
 | .alloc t => match Γ.zero t with
  | [] => none
  | z => match an.own d with
   | none => bif jL st (xX ρ (an.lv d)) then K (.ptr (xX ρ (an.lv d)) (fE st (xX ρ (an.lv d))) 0) (mU st (xX ρ (an.lv d)) (.box t (ds z))) else none
   | some _ => bif jL st 0 then kK Ω Γ t 0 z st fun cs st => K (.ptr 0 (fE st 0) 0) (mU st 0 (.box t cs)) else none
 | .load t a => zT Ω st (ev ρ a) fun cs => match pack Γ t cs with
  | some v => K v st
  | none => none
 | .store t a x => bif Nat.beq (Γ.zero t).length (unpack (ev ρ x)).length then bif Nat.ble 1 (Γ.zero t).length then match ev ρ a with
  | .ptr l i off => match look st l i with
   | some (.box t cs) => bif eF (up.ups l (unpack (ev ρ x))) then bif Nat.ble (off + (unpack (ev ρ x)).length) cs.length
    then K .skip (dU st l i (.box t (cs.take off ++ up.ups l (unpack (ev ρ x)) ++ cs.drop (off + (unpack (ev ρ x)).length)))) else none else none
   | _ => none
  | .o9 l i k ix off => eH Ω st (unpack (ev ρ x)) fun vs st =>
    match look st l i with
    | some (.row ty sz rows true cap) => bif Ω.ieq (Ω.len rows) k then (Ω.nth rows ix).bind fun r => (match Mh vs with
     | some vs => bif Nat.ble (off + vs.length) r.length then Ω.af7 rows ix (r.take off ++ vs ++ r.drop (off + vs.length)) fun rows' => K .skip (dU st l i (.row ty sz rows' true cap)) else none
     | none => none) else none
    | _ => none
  | _ => none
  else none else none
 | .fieldAddr t x f => match Γ.ty t with
  | .agg _ fs => match fs[f]? with
   | some q => match ev ρ x with
    | .ptr l i off => K (.ptr l i (off + q.1)) st
    | .o9 l i k ix off => K (.o9 l i k ix (off + q.1)) st
    | .dA cs => bif Nat.ble q.1 cs.length then K (.dA (cs.drop q.1)) st else none
    | _ => none
   | none => none
  | _ => none
 | .field t x f => match Γ.ty t, ev ρ x with
  | .agg _ fs, .agg cs => match fs[f]? with
   | some q => match pack Γ q.2.2 (cs.drop q.1) with | some v => K v st | none => none
   | none => none
  | _, _ => none
 | .indexAddr t x ix => match Γ.ty t with
  | .slice _ sz _ => match ev ρ x, ev ρ ix with
   | .d (.sl rows _), .d (.int _ i) => bif Ω.fits sz rows none then (Ω.nth rows i).bind fun r => K (.dA r) st else none
   | .row l j k, .d (.int _ i) => match look st l j with
    | some (.row _ sz' rows _ _) => bif Nat.beq sz sz' then bif Ω.ieq (Ω.len rows) k then (Ω.nth rows i).bind fun _ => K (.o9 l j k i 0) st else none else none
    | _ => none
   | _, _ => none
  | _ => none
 | .index t x ix => match Γ.ty t, ev ρ x, ev ρ ix with
  | .str, .d (.str s), .d (.int _ i) => bif Ω.mR 0 i then bif Ω.ilt i (Ω.KF s) then K (.d (.int .u8 (Ω.byte s i))) st else none else none
  | .array n _, .agg cs, .d (.int _ i) => bif Ω.mR 0 i then bif Nat.blt i.toNat n then (match cs[i.toNat]? with | some (.d x) => K (.d x) st | _ => none) else none else none
  | _, _, _ => none
 | .binOp op t x y _ => bif Γ.eqs t then RZ Ω Γ t op st (ev ρ x) (ev ρ y) K else bif KH y then NC Ω (Γ.ty t) op st (ev ρ x) K else LA Ω (Γ.ty t) op st (ev ρ x) (ev ρ y) K
 | .unOp op _ x => match op, ev ρ x with
  | .not, .d (.bool b) => K (.d (.bool !b)) st
  | .neg, .d (.int k n) => K (.d (.int k (Ω.wrap k (Ω.sub 0 n)))) st
  | _, _ => none
 | .convert src dst x => match Γ.ty src, Γ.ty dst, ev ρ x with
  | .int _, .int k, .d (.int _ n) => K (.d (.int k (Ω.wrap k n))) st
  | .str, .str, .d (.str s) => K (.d (.str s)) st
  | .int _, .str, .d (.int _ n) => K (.d (.str (Utf8.encode n))) st
  | .slice e _ _, .str, .d (.sl rows _) => match Γ.ty e with
   | .int .u8 => match Ω.toStr rows with | some s => K (.d (.str s)) st | none => none
   | _ => none
  | _, _, _ => none
 | .build t parts => match Γ.ty t, Γ.zero t with
  | .agg _ fs, z0 :: z1 => eH Ω st (evs ρ (parts.toList.map (·.2))) fun vs st =>
    match Fz (acT fs) (ds (z0 :: z1)) (List.zip (parts.toList.map (·.1)) vs) with
    | some cs => (match an.own d with
     | some t2 => (match Mh cs with | some l => bif jL st 0 then kK Ω Γ t2 0 l st fun cs st => K (.agg cs) st else none | none => none)
     | none => K (.agg cs) st)
    | none => none
  | _, _ => none
 | .buildSlice t n parts => match Γ.ty t with
  | .slice e sz _ => match Γ.zero e with
   | [] => none
   | z => bif Nat.ble (n * sz) 16777216 then (eH Ω st (evs ρ (parts.toList.map (·.2))) fun vs st =>
     match Fz (fun i => some (i * sz, sz)) (afm (ds z) n) (List.zip (parts.toList.map (·.1)) vs) with
     | some cs => match Mh cs with
      | some cs => (match an.own d with
       | some _ => bif Nat.ble 1 n then bif jL st 0 then K (.row 0 (fE st 0) (n : Int)) (mU st 0 (.row e sz (chunk sz n cs) true none)) else none else none
       | none => K (.d (.sl (chunk sz n cs) (some []))) st)
      | none => none
     | none => none) else none
  | _ => none
 | .makeSlice t l c => match Γ.ty t, ev ρ l, ev ρ c with
  | .slice e sz bytes, .d (.int _ l), .d (.int _ c) => match Γ.zero e with
   | [] => none
   | z => bif Ω.mR 0 l then bif Ω.mR l c then bif Ω.mR (Ω.mul c bytes) limit then bif jL st (xX ρ (an.lv d))
    then Ω.Xt z l fun rows n => K (.row (xX ρ (an.lv d)) (fE st (xX ρ (an.lv d))) n) (mU st (xX ρ (an.lv d)) (.row e sz rows (an.mt d) (some c))) else none else none else none else none
  | _, _, _ => none
 | .slice t x lo hi mx => xZ Ω (Γ.ty t) st (ev ρ x) (lo.map (ev ρ)) (hi.map (ev ρ)) (mx.map (ev ρ)) (Xu hi && Xu mx) (match an.own d with | some _ => true | none => false) K
 | .makeFunc (.func f) first captured => match first.toList with
  | [] => eH Ω st (evs ρ captured.toList) fun vs st =>
    match Mh vs with
    | some l => K (.d (.fn f l)) st
    | none => bif eF vs then K (.fn f vs) st else none
  | _ => none
 | .makeMap t r => match r, Γ.ty t with
  | none, .map kt _ => match zW Γ kt with
   | some kk => bif jL st (xX ρ (an.lv d)) then Ω.Nz fun es => K (.map (xX ρ (an.lv d)) (fE st (xX ρ (an.lv d)))) (mU st (xX ρ (an.lv d)) (.map kk (!(an.rf d)) es)) else none
   | none => none
  | _, _ => none
 | .lookup t m k ok => match Γ.ty t with
  | .map kt e => match zW Γ kt with
   | some kk => vV Ω Γ kk e ok st (ev ρ m) (ev ρ k) K
   | none => none
  | _ => none
 | .mapUpdate t m k x => match Γ.ty t with
  | .map kt _ => match zW Γ kt, ev ρ m with
   | some kk, .map l i => eH Ω st (unpack (ev ρ x)) fun vs st =>
     match look st l i with
     | some (.map MF fl es) => bif Mi kk MF then bif jC kk (ev ρ k) then bif eF (up.ups l vs)
      then bif (bif fl then Cq (uq (ev ρ x) (up.ups l vs)) else true) then Ω.af9 es (ev ρ k) (uq (ev ρ x) (up.ups l vs)) fun es' => K .skip (dU st l i (.map MF fl es')) else none else none else none else none
     | _ => none
   | _, _ => none
  | _ => none
 | .extract t i => match ev ρ t with
  | .zh l => match l[i]? with | some v => K v st | none => none
  | _ => none
 | .nilCheck x => match ev ρ x with
  | .ptr l i o => K (.ptr l i o) st
  | .fn f cs => K (.fn f cs) st
  | .d (.fn f cs) => K (.d (.fn f cs)) st
  | .dA cs => K (.dA cs) st
  | .o9 l i k x o => K (.o9 l i k x o) st
  | _ => none
 | .call c => match c.callee with
  | .builtin b => match b, evs ρ c.args.toList, c.argTypes.toList with
   | .len, [v], [t] => match Γ.ty t, v with
    | .str, .d (.str s) => K (.d (.int .i64 (Ω.KF s))) st
    | .slice _ _ _, .d (.sl rows _) => Ω.aar rows fun n => K (.d (.int .i64 n)) st
    | .slice _ _ _, .row _ _ n => K (.d (.int .i64 n)) st
    | .map _ _, .d .Cz => K (.d (.int .i64 0)) st
    | .map _ _, .map l i => match look st l i with
     | some (.map _ _ es) => Ω.Sv es fun n => K (.d (.int .i64 n)) st
     | _ => none
    | _, _ => none
   | .cap, [v], [t] => match Γ.ty t, v with
    | .slice _ _ _, .d (.sl rows (some hid)) => Ω.Nw rows hid fun _ n => K (.d (.int .i64 n)) st
    | _, _ => none
   | .append, [s, x], [t, t'] => match Γ.ty t, Γ.ty t' with
    | .slice e sz bytes, .slice _ _ _ => ng Ω Γ (an.own d) (an.mt d) (xX ρ (an.lv d)) e sz bytes st s x fun v st => qj Ω (an.cold d) (v, st) K
    | .slice e sz bytes, .str => match x with
     | .d (.str b) => ng Ω Γ (an.own d) (an.mt d) (xX ρ (an.lv d)) e sz bytes st s (.d (.sl (o8 b) (some []))) K
     | _ => none
    | _, _ => none
   | .delete, [m, k], [t, _] => match Γ.ty t with
    | .map kt _ => match zW Γ kt, m with
     | some kk, .map l i => match look st l i with
      | some (.map MF fl es) => bif Mi kk MF then bif jC kk k then Ω.aga es k fun es' => K (.zh []) (dU st l i (.map MF fl es')) else none else none
      | _ => none
     | _, _ => none
    | _ => none
   | .clear, [.tail l i k lo], [t] => match Γ.ty t with
    | .slice e sz' _ => match look st l i with
     | some (.row ty sz rows true cap) => bif Nat.beq sz sz' then bif Nat.beq (Γ.zero e).length sz then bif Ω.ieq (Ω.len rows) k then
       Ω.Ny rows 0 lo fun a => Ω.Xt (Γ.zero e) (Ω.sub k lo) fun z _ => Ω.Nw a z fun rows' _ => K (.zh []) (dU st l i (.row ty sz rows' true cap)) else none else none else none
     | _ => none
    | _ => none
   | .min, [.d (.int k x), .d (.int _ y)], _ => br (Ω.mR x y) (fun _ => K (.d (.int k x)) st) (fun _ => K (.d (.int k y)) st)
   | .max, [.d (.int k x), .d (.int _ y)], _ => br (Ω.mR x y) (fun _ => K (.d (.int k y)) st) (fun _ => K (.d (.int k x)) st)
   | _, _, _ => none
  | .value f => ig Ω (an.hold d) 0 (evs ρ c.args.toList) st fun args st =>
    match ev ρ f with
    | .d (.fn g caps) => (Ω.cf g (args ++ ds caps) st).bind fun r => qj Ω (an.cold d) r (Ia Ω (an.af6 d) (fE st 0) K)
    | .fn g caps => (Ω.cf g (args ++ caps) st).bind fun r => qj Ω (an.cold d) r (Ia Ω (an.af6 d) (fE st 0) K)
    | .vP l i => match look st l i with
     | some (.loop site _ none) => (Ω.rd site (.vP l i :: args) st).bind fun r => K r.1 r.2
     | _ => none
    | _ => none
  | _ => none
 | _ => none
def vW (ρ : Env) : Option Nat → PV → Env
 | some d, v => est ρ d v
 | none, _ => ρ
structure XO where
 dst : Option Nat
 op : Op
 g : Option (Nat × Bool)
 RY : Bool
 dead : List Nat
def quiet : Op → Bool
 | .move _ => true | .assign (.const (.slice none 0 0)) => false | .assign _ => true | .pick _ _ _ => true | .load _ _ => true | .fieldAddr _ _ _ => true | .field _ _ _ => true
 | .indexAddr _ _ _ => true | .index _ _ _ => true | .binOp _ _ _ _ _ => true | .unOp _ _ _ => true | .convert _ _ _ => true
 | .lookup _ _ _ _ => true | .extract _ _ => true | .nilCheck _ => true
 | .call c => match c.callee with
  | .builtin .len => true | .builtin .cap => true | .builtin .min => true | .builtin .max => true
  | _ => false
 | _ => false
def still : Op → Bool
 | .slice _ _ _ _ _ => true | .build _ _ => true | .buildSlice _ _ _ => true | .makeFunc _ _ _ => true
 | .call c => match c.callee with
  | .value _ => true
  | .builtin .len => true | .builtin .cap => true | .builtin .min => true | .builtin .max => true
  | _ => false
 | o => quiet o
def waits (ops : List Oper) (j i : Nat) : Bool :=
 match ops[j]? with
 | some o => o.after.toList.any fun e => Region.binds .any e && Nat.beq e.on i
 | none => false
def vX (ops : List Oper) (k : Nat) : Bool :=
 ((List.range k).all fun i => (List.range (k + 1)).any fun j => Nat.blt i j && waits ops j i) &&
 ((List.range ops.length).all fun j => Nat.ble j k || (List.range j).any fun i => Nat.ble k i && waits ops j i)
def kJ (ops : List Oper) (j : Nat) : Nat :=
 match ops[j]? with
 | some o => match o.dst with | some d => d | none => 0
 | none => 0
def Uh (an : mH) (drawn : Bool) : Option Nat → List Nat
 | some d => bif drawn then [] else an.dead d
 | none => []
def vY (an : mH) (drawn : Bool) (all : List Oper) : Nat → List Oper → List XO
 | _, [] => []
 | k, o :: r => ⟨o.dst, o.op, (match o.guard with | some (j, want) => some (kJ all j, want) | none => none),
   (bif drawn then (bif quiet o.op then false else !(vX all k)) else false), Uh an drawn o.dst⟩ :: vY an drawn all (k + 1) r
def sP (ops : List Oper) : Nat → List Oper → Bool
 | _, [] => true
 | k, o :: r => (still o.op || vX ops k) && sP ops (k + 1) r
def EX (ops : List Oper) : Nat → Nat
 | 0 => 0
 | k + 1 => bif vX ops k then k + 1 else EX ops k
def zi (ops : List Oper) : Nat → List Oper → Nat
 | k, [] => k
 | k, o :: r => bif still o.op || vX ops k then zi ops (k + 1) r else k
def CU (ops : List Oper) : Nat := EX ops (zi ops 0 ops)
def late (ops : List Oper) : Bool := !(sP ops 0 ops)
def FV (n k : Nat) : Array Bool := ((List.range k).map fun i => Nat.blt i n).toArray
inductive XT where
 | done | step (o : XO) (t : XT) | both (a b : XT)
def MG : List XT → XT
 | [] => .done
 | [t] => t
 | t :: u :: r => .both t (MG (u :: r))
def ql (ops : Array Oper) : Nat → Array Bool → XT
 | 0, _ => .done
 | g + 1, listed => MG ((Region.ready .any ops listed).map fun j => match ops[j]? with
  | some o => .step ⟨o.dst, o.op, none, false, []⟩ (ql ops g (listed.setIfInBounds j true))
  | none => .done)
def rV (RY : Bool) (st : St) (K : jB R) : jB R := fun v st' => bif RY then bif Ω.same st st' then K v st else none else K v st'
def fH (Γ : Tab) (an : mH) : List XO → Env → St → (Env → St → Option R) → Option R
 | [], ρ, st, K => K ρ st
 | ⟨dst, op, g, RY, dead⟩ :: rest, ρ, st, K =>
  match g with
  | none => evalOp Ω Γ an ρ st dst op (rV Ω RY st fun v st => fH Γ an rest (FU dead (vW ρ dst v)) st K)
  | some (j, want) => match mI ρ j with
   | .d (.bool b) => br (bif want then b else !b)
     (fun _ => evalOp Ω Γ an (est ρ j (.d (.bool want))) st dst op (rV Ω RY st fun v st => fH Γ an rest (FU dead (vW (est ρ j (.d (.bool want))) dst v)) st K))
     (fun _ => fH Γ an rest (FU dead (vW (est ρ j (.d (.bool !want))) dst .skip)) st K)
   | .skip => fH Γ an rest (FU dead (vW ρ dst .skip)) st K
   | _ => none
def oD (Γ : Tab) (an : mH) : XT → Env → St → (Env → St → Option R) → Option R
 | .done, ρ, st, K => K ρ st
 | .step o t, ρ, st, K => fH Ω Γ an [o] ρ st fun ρ st => oD Γ an t ρ st K
 | .both a b, ρ, st, K => Ω.both (oD Γ an a ρ st K) (oD Γ an b ρ st K)
def aau {R : Type} (site : Nat) (env ρ : Env) (st : St) (f : Nat) (caps : List PV) (K : Ex → Env → St → Option R) : Option R :=
 bif jL st 0 then (Ω.cf f (.vP 0 (fE st 0) :: caps) (mU st 0 (.loop site env none))).bind fun r => match look r.2 0 (fE st 0) with
  | some (.loop _ _ p) => bif Nat.ble (fE (trim Ω.plain (fE st 0) ρ r.2) 0) (fE st 0) then (match p with
   | none => K .normal ρ (trim Ω.plain (fE st 0) ρ r.2)
   | some .normal => none
   | some e => K e ρ (trim Ω.plain (fE st 0) ρ r.2)) else none
  | _ => none
 else none
def aav {R : Type} (an : mH) (ρ : Env) (st : St) (g : Operand) (K : Ex → Env → St → Option R) : Option R :=
 match g with
 | .tmp t => match mI ρ t with
  | .d (.fn f caps) => aau Ω (an.site t) (aM (an.cap t) ρ) ρ st f (ds caps) K
  | .fn f caps => aau Ω (an.site t) (aM (an.cap t) ρ) ρ st f caps K
  | _ => none
 | _ => none
def exec (Γ : Tab) (an : mH) : Code → Env → St → {R : Type} → (Ex → Env → St → Option R) → Option R
 | .skip, ρ, st, _, K => K .normal ρ st
 | .region _ ops drawn, ρ, st, _, K => bif drawn && late ops.toList then fH Ω Γ an (vY an true ops.toList 0 (ops.toList.take (CU ops.toList))) ρ st fun ρ st =>
   oD Ω Γ an (ql ops ops.size (FV (CU ops.toList) ops.size)) ρ st fun ρ st => K .normal (aM an.keep ρ) st
  else fH Ω Γ an (vY an drawn ops.toList 0 ops.toList) ρ st fun ρ st => K .normal (aM an.keep ρ) st
 | .seq a b, ρ, st, _, K => exec Γ an a ρ st fun e ρ st => match e with
  | .normal => exec Γ an b ρ st K
  | e => K e ρ st
 | .cond c a b, ρ, st, _, K => match c with
  | .tmp t => match mI ρ t with
   | .d (.bool x) => Ω.grp (fun k => br x (fun _ => exec Γ an a (Lx an ρ t true) st (fun e ρ' st' => k (e, aM (keys ρ) ρ', trim Ω.plain (fE st 0) (aM (keys ρ) ρ') st')))
     (fun _ => exec Γ an b (Lx an ρ t false) st (fun e ρ' st' => k (e, aM (keys ρ) ρ', trim Ω.plain (fE st 0) (aM (keys ρ) ρ') st')))) (fun r => K r.1 r.2.1 r.2.2)
   | .ub => Ω.both (exec Γ an a (del ρ t) st (fun e ρ' st' => K e (aM (keys ρ) ρ') (trim Ω.plain (fE st 0) (aM (keys ρ) ρ') st')))
     (exec Γ an b (del ρ t) st (fun e ρ' st' => K e (aM (keys ρ) ρ') (trim Ω.plain (fE st 0) (aM (keys ρ) ρ') st')))
   | _ => none
  | _ => none
 | .block id a, ρ, st, _, K => exec Γ an a ρ st fun e ρ st => match e with
  | .exit i => bif Nat.beq i id then K .normal ρ st else K (.exit i) ρ st
  | e => K e ρ st
 | .loop a, ρ, st, _, K => (Ω.iter (fE st 0) (keys ρ) (fun ρ st => exec Γ an a ρ st fun e ρ st => some (e, ρ, st)) ρ st).bind fun r => K r.1 r.2.1 r.2.2
 | .exit id, ρ, st, _, K => K (.exit id) ρ st
 | .ret, ρ, st, _, K => K .ret ρ st
 | .rangeFunc g _ _ _, ρ, st, _, K => aav Ω an ρ st g K
 | _, _, _, _, _ => none
def enter : Nat → List PV → Env
 | _, [] => []
 | i, v :: r => (i, v) :: enter (i + 1) r
def CV (Γ : Tab) (ρ : Env) (st : St) : ResultVar → Option PV
 | .tmp t => some (mI ρ t)
 | .cell t ty => match EW Ω st (mI ρ t) with
  | some cs => pack Γ ty cs
  | none => none
def pU (Γ : Tab) (ρ : Env) (st : St) : List ResultVar → Option (List PV)
 | [] => some []
 | r :: rs => match CV Ω Γ ρ st r, pU Γ ρ st rs with
  | some v, some vs => some (v :: vs)
  | _, _ => none
def one : List PV → PV
 | [v] => v
 | vs => .zh vs
def EY (st : St) : PV → PV × St
 | .row 0 i k => freeze Ω st (.row 0 i k)
 | v => (v, st)
def sQ (st : St) : List PV → List PV × St
 | [] => ([], st)
 | v :: r => let q := EY Ω st v; let s := sQ q.2 r; (q.1 :: s.1, s.2)
def jJ {R : Type} (st : St) (vs : List PV) (K : List PV → St → Option R) : Option R :=
 match vs with
 | [] => K [] st
 | .row 0 i k :: r => match look st 0 i with
  | some (.row ty sz rows mt cap) => bif Ω.ieq (Ω.len rows) k then jJ (bif mt then dU st 0 i (.row ty sz rows false cap) else st) r (fun vs st => K (.d (.sl rows none) :: vs) st) else none
  | _ => none
 | v :: r => jJ st r (fun vs st => K (v :: vs) st)
def Cr {R : Type} (st : St) (vs : List PV) (K : List PV → Option R) : Option R :=
 match vs with
 | [] => K []
 | .row 0 i k :: r => match look st 0 i with
  | some (.row _ _ rows mt _) => bif mt then Cr st r (fun vs => K (.row 0 i k :: vs)) else bif Ω.ieq (Ω.len rows) k then Cr st r (fun vs => K (.d (.sl rows none) :: vs)) else none
  | _ => none
 | v :: r => Cr st r (fun vs => K (v :: vs))
def ND : List PV → Option Nat
 | [] => none
 | .row 0 i _ :: _ => some i
 | .map 0 i :: _ => some i
 | .ptr 0 i _ :: _ => some i
 | _ :: r => ND r
def NG (i n1 : Nat) : PV → Option PV
 | .d x => some (.d x)
 | .row 0 j k => bif Nat.beq j i then some (.row 0 n1 k) else none
 | .map 0 j => bif Nat.beq j i then some (.map 0 n1) else none
 | .ptr 0 j o => bif Nat.beq j i then some (.ptr 0 n1 o) else none
 | _ => none
def zX (i n1 : Nat) : List PV → Option (List PV)
 | [] => some []
 | v :: r => match NG i n1 v, zX i n1 r with | some u, some us => some (u :: us) | _, _ => none
def CW : Obj → Bool
 | .row _ _ _ _ _ => true
 | .map _ fl _ => fl
 | .box _ cs => CP cs
 | .void => false
 | .loop _ _ _ => false
def leave (Γ : Tab) (give : Bool) (rs : List ResultVar) (ρ : Env) (st : St) : Option (PV × St) :=
 match pU Ω Γ ρ st rs with
 | some vs => match give with
  | true => Cr Ω st vs fun vs => match st with
   | fr :: st' => match ND vs with
    | some i => match fr[i]? with
     | some o => bif CW o then Ω.EU st' 0 o fun n Ui => match zX i n vs with | some us => some (one us, Ui) | none => none else none
     | none => none
    | none => bif jL st' 0 then match zX 0 0 vs with | some us => some (one us, st') | none => none else none
   | _ => none
  | false => jJ Ω st vs fun vs st => match st with
   | _ :: st => some (one (up.ups 1 vs), st)
   | _ => none
 | none => none
def sS {R : Type} (tk : List Nat) : Nat → List PV → St → (List PV → St → Option R) → Option R
 | _, [], st, K => K [] st
 | p, v :: r, st, K => bif mem p tk then (match v, st with
   | .row 1 i k, fr :: st' => Ω.xY st' 0 i fun ty sz rows mt _ => bif mt then bif Ω.ieq (Ω.len rows) k
     then Ω.o7 st' 0 i .void fun Ui => sS tk (p + 1) r ((fr ++ [.row ty sz rows true none]) :: Ui) fun vs st => K (.row 0 fr.length k :: vs) st else none else none
   | _, _ => none) else sS tk (p + 1) r st fun vs st => K (v :: vs) st
def oN : List Nat → List PV → Env → Option Env
 | [], [], ρ => some ρ
 | t :: ts, v :: vs, ρ => oN ts vs (est ρ t (down 1 v))
 | _, _, _ => none
def round (Γ : Tab) (an : mH) (q : Site) (args : List PV) (st : St) : Option (PV × St) :=
 match args with
 | .vP l i :: args => match look st l i with
  | some (.loop site ρ none) => match oN q.ps args (CQ (l + 1) ρ) with
   | some ρ1 => exec Ω Γ an q.RX ρ1 ([] :: st) fun e ρ2 st2 => match e, st2 with
    | .normal, fr :: Sy => match look Sy l i with
     | some (.loop yc ρ' none) => bif Nat.beq site yc then exec Ω Γ an q.body ρ2 (fr :: dU Sy l i (.loop yc ρ' (some .normal))) fun e _ st4 => match st4 with
      | _ :: st5 => match look st5 l i with
       | some (.loop oO ρ'' (some .normal)) => bif Nat.beq site oO then (match e with
        | .normal => some (.d (.bool true), dU st5 l i (.loop oO ρ'' none))
        | e => some (.d (.bool false), dU st5 l i (.loop oO ρ'' (some e)))) else none
       | _ => none
      | [] => none else none
     | _ => none
    | _, _ => none
   | none => none
  | _ => none
 | _ => none
def body (Γ : Tab) (an : mH) (fn : Func) (args : List PV) (st : St) : Option (PV × St) :=
 match fn.body with
 | some c => sS Ω an.take 0 (down.gZ 1 args) ([] :: st) fun args st => exec Ω Γ an c (enter 0 args) st fun e ρ st => match e with
  | .exit _ => none
  | _ => leave Ω Γ an.give fn.results.toList ρ st
 | none => none
end ops
def vZ : List (List D) → Option (List UInt8)
 | [] => some []
 | [.int .u8 n] :: r => match vZ r with | some l => some (n.toNat.toUInt8 :: l) | none => none
 | _ :: _ => none
def yM : List PV → List PV → Bool
 | [], [] => true
 | .d (.int _ x) :: r, .d (.int _ y) :: s => x == y && yM r s
 | .d (.bool x) :: r, .d (.bool y) :: s => x == y && yM r s
 | .d (.str x) :: r, .d (.str y) :: s => x == y && yM r s
 | _, _ => false
def CX : PV → PV → Bool
 | .d (.int _ x), .d (.int _ y) => x == y
 | .d (.str x), .d (.str y) => x == y
 | .agg x, .agg y => yM x y
 | _, _ => false
def Ct : List (PV × PV) → PV → Option PV
 | [], _ => none
 | (k, v) :: r, x => if CX x k then some v else Ct r x
def CY : List (PV × PV) → PV → PV → List (PV × PV)
 | [], x, y => [(x, y)]
 | (k, v) :: r, x, y => if CX x k then (x, y) :: r else (k, v) :: CY r x y
def Mj : List (PV × PV) → PV → List (PV × PV)
 | [], _ => []
 | (k, v) :: r, x => if CX x k then r else (k, v) :: Mj r x
def iX (n : Nat) : List (PV × PV) → Bool
 | [] => true
 | (k, v) :: r => below n k && below n v && iX n r
def iter (n : Nat) (dom : List Nat) (f : Env → St → Option (Ex × Env × St)) (ρ : Env) (st : St) : Option (Ex × Env × St) := do
 match ← f ρ st with
  | (.normal, ρ, st) => iter n dom f (aM dom ρ) (trim iX n (aM dom ρ) st)
  | (e, ρ, st) => some (e, aM dom ρ, trim iX n (aM dom ρ) st)
 partial_fixpoint
open Classical in
noncomputable def agree {R : Type} (x y : Option R) : Option R := if x = y then x else none
open Classical in
noncomputable def real [fq] (cf : Nat → List PV → St → Option (PV × St)) : Om where
 cf f args st := bif lX f then none else cf f args st
 rd := cf
 iter := iter
 tick f := f ()
 grp f k := f k
 fits sz rows ext := (rows.all fun r => Nat.beq r.length sz) && (match ext with | none => true | some h => h.all fun r => Nat.beq r.length sz)
 plain := iX
 aar l f := f l.length
 Nw x y f := f (x ++ y) (x ++ y).length
 af7 l i r f := f (l.set i.toNat r)
 Ny l a b f := f ((l.take b.toNat).drop a.toNat)
 Xt z n f := f (List.replicate n.toNat z) (List.replicate n.toNat z).length
 Sr l k z f := match Ct l k with | some v => f v | none => z
 af9 l k v f := f (CY l k v)
 aga l k f := f (Mj l k)
 afl f := f []
 Nz f := f []
 Sv l f := f l.length
 wrap := IntKind.wrap
 add := (· + ·)
 sub := (· - ·)
 mul := (· * ·)
 neg := (- ·)
 ieq x y := x == y
 ilt x y := decide (x < y)
 mR x y := decide (x ≤ y)
 tdiv := Int.tdiv
 tmod := Int.tmod
 seq x y := x.toList == y.toList
 slt x y := Op.bytesLess x.toList y.toList
 KF s := s.size
 avT x y := x ++ y
 avU s l h := s.extract l.toNat h.toNat
 byte s i := ((s[i.toNat]?).map (·.toNat)).getD 0
 len l := l.length
 nth l i := if 0 ≤ i then l[i.toNat]? else none
 af8 l i r := l.set i.toNat r
 cat x y := x ++ y
 cut l a b := (l.take b.toNat).drop a.toNat
 fill z n := List.replicate n.toNat z
 ofStr s := s.data.toList.map fun b => [.int .u8 b.toNat]
 toStr l := (vZ l).map fun l => ⟨l.toArray⟩
 find := Ct
 put := CY
 del := Mj
 arA l := l.length
 same x y := decide (x = y)
 arB st l i off f := match look st l i with
  | some (.box _ cs) => f (down.gZ (l + 1) (cs.drop off))
  | _ => none
 ME st l i off vs f := match look st l i with
  | some (.box t cs) => bif eF (up.ups (l + 1) vs) then bif Nat.ble (off + vs.length) cs.length
    then f (dU st l i (.box t (cs.take off ++ up.ups (l + 1) vs ++ cs.drop (off + vs.length)))) else none else none
  | _ => none
 ET st l i f := match look st l i with
  | some (.map kk fl es) => f kk fl es
  | _ => none
 o7 st l i o f := f (dU st l i o)
 EU st l o f := bif jL st l then f (fE st l) (mU st l o) else none
 both x y := agree x y
 sO st l i f := match look st l i with
  | some (.loop site ρ p) => f site ρ p
  | _ => none
 xY st l i f := match look st l i with
  | some (.row ty sz rows mt cap) => f ty sz rows mt cap
  | _ => none
theorem CZ [fq] {Ω : Om} {R : Type} (Γ : Tab) (an : mH) (x : XO) (l : List XO) (ρ : Env) (st : St) (K : Env → St → Option R) :
  fH Ω Γ an (x :: l) ρ st K = fH Ω Γ an [x] ρ st fun ρ st => fH Ω Γ an l ρ st K := by
 obtain ⟨dst, op, g, RY, dead⟩ := x
 simp only [fH]
section
variable [fq] {c : Nat → List PV → St → Option (PV × St)} {R A : Type}
theorem ni (l : List (List D)) (f : Int → Option R) : (real c).aar l f = f ((real c).len l) := rfl
theorem nu (x y : List (List D)) (f : List (List D) → Int → Option R) : (real c).Nw x y f = f ((real c).cat x y) ((real c).len ((real c).cat x y)) := rfl
theorem EZ (l : List (List D)) (i : Int) (r : List D) (f : List (List D) → Option R) : (real c).af7 l i r f = f ((real c).af8 l i r) := rfl
theorem pV (l : List (List D)) (i j : Int) (f : List (List D) → Option R) : (real c).Ny l i j f = f ((real c).cut l i j) := rfl
theorem zY (z : List D) (n : Int) (f : List (List D) → Int → Option R) : (real c).Xt z n f = f ((real c).fill z n) ((real c).len ((real c).fill z n)) := rfl
theorem su (l : List (PV × PV)) (k : PV) (z : Option R) (f : PV → Option R) : (real c).Sr l k z f = (match (real c).find l k with | some v => f v | none => z) := rfl
theorem KI (l : List (PV × PV)) (k v : PV) (f : List (PV × PV) → Option R) : (real c).af9 l k v f = f ((real c).put l k v) := rfl
theorem KJ (l : List (PV × PV)) (k : PV) (f : List (PV × PV) → Option R) : (real c).aga l k f = f ((real c).del l k) := rfl
theorem wh (l : List (PV × PV)) (f : Int → Option R) : (real c).Sv l f = f ((real c).arA l) := rfl
theorem pW (f : List (List D) → Option R) : (real c).afl f = f [] := rfl
theorem Xv (f : List (PV × PV) → Option R) : (real c).Nz f = f [] := rfl
theorem oU (f : (A → Option R) → Option R) (k : A → Option R) : (real c).grp f k = f k := rfl
end
end Go.X
