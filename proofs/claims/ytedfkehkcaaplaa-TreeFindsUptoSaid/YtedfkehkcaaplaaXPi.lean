/- T -/
import GoSem.Step
import Derived.Calls
import Derived.Orders
namespace Go.X
open Go
inductive D where
 | int (k : IntKind) (n : Int)
 | bool (b : Bool)
 | str (s : ByteArray)
 | sl (rows : List (List D)) (ext : Option (List (List D)))
 | fn (f : Nat) (caps : List D)
 | mO
 | tq
 | bT
 deriving Inhabited
inductive PV where
 | d (x : D)
 | agg (cells : List PV)
 | ptr (lvl i off : Nat)
 | aS (cells : List D)
 | row (lvl i : Nat) (len : Int)
 | kL (lvl i : Nat) (len idx : Int) (off : Nat)
 | fn (f : Nat) (caps : List PV)
 | map (lvl i : Nat)
 | tail (lvl i : Nat) (len lo : Int)
 | jv (lvl i : Nat)
 | pG (l : List PV)
 | skip
 | ub
 | unk
 deriving Inhabited
inductive KC where
 | int (k : IntKind) | bool | str
inductive KK where
 | str | int (k : IntKind) | agg (cs : List KC)
inductive Ex where
 | normal | exit (id : Nat) | ret
 deriving Inhabited, DecidableEq
inductive Obj where
 | box (ty : Nat) (cells : List PV)
 | row (ty sz : Nat) (rows : List (List D)) (mt : Bool) (cap : Option Int)
 | map (kk : KK) (fl : Bool) (es : List (PV × PV))
 | void
 | loop (site : Nat) (env : List (Nat × PV)) (pend : Option Ex)
mutual
def bD : D → D → Bool
 | .int k n, .int k' n' => decide (k = k') && decide (n = n')
 | .bool a, .bool b => decide (a = b)
 | .str a, .str b => decide (a = b)
 | .sl r x, .sl r' x' => QS r r' && bDo x x'
 | .fn f c, .fn f' c' => decide (f = f') && bDs c c'
 | .mO, .mO => true
 | .tq, .tq => true
 | .bT, .bT => true
 | _, _ => false
def bDs : List D → List D → Bool
 | [], [] => true
 | a :: r, b :: s => bD a b && bDs r s
 | _, _ => false
def QS : List (List D) → List (List D) → Bool
 | [], [] => true
 | a :: r, b :: s => bDs a b && QS r s
 | _, _ => false
def bDo : Option (List (List D)) → Option (List (List D)) → Bool
 | none, none => true
 | some a, some b => QS a b
 | _, _ => false
end
mutual
theorem MV : ∀ (x y : D), bD x y = true ↔ x = y
 | .int k n, y => by cases y <;> simp [bD]
 | .bool a, y => by cases y <;> simp [bD]
 | .str a, y => by cases y <;> simp [bD]
 | .sl r e, y => by cases y <;> simp [bD, BR r, Xr e]
 | .fn f c, y => by cases y <;> simp [bD, Bp c]
 | .mO, y => by cases y <;> simp [bD]
 | .tq, y => by cases y <;> simp [bD]
 | .bT, y => by cases y <;> simp [bD]
theorem Bp : ∀ (x y : List D), bDs x y = true ↔ x = y
 | [], y => by cases y <;> simp [bDs]
 | a :: r, y => by cases y <;> simp [bDs, MV a, Bp r]
theorem BR : ∀ (x y : List (List D)), QS x y = true ↔ x = y
 | [], y => by cases y <;> simp [QS]
 | a :: r, y => by cases y <;> simp [QS, Bp a, BR r]
theorem Xr : ∀ (x y : Option (List (List D))), bDo x y = true ↔ x = y
 | none, y => by cases y <;> simp [bDo]
 | some a, y => by cases y <;> simp [bDo, BR a]
end
instance : DecidableEq D := fun a b => decidable_of_iff _ (MV a b)
mutual
def bP : PV → PV → Bool
 | .d a, .d b => bD a b
 | .agg a, .agg b => bPs a b
 | .ptr a b c, .ptr a' b' c' => decide (a = a') && (decide (b = b') && decide (c = c'))
 | .aS a, .aS b => bDs a b
 | .row a b c, .row a' b' c' => decide (a = a') && (decide (b = b') && decide (c = c'))
 | .kL a b c d e, .kL a' b' c' d' e' => decide (a = a') && (decide (b = b') && (decide (c = c') && (decide (d = d') && decide (e = e'))))
 | .fn f c, .fn f' c' => decide (f = f') && bPs c c'
 | .map a b, .map a' b' => decide (a = a') && decide (b = b')
 | .tail a b c d, .tail a' b' c' d' => decide (a = a') && (decide (b = b') && (decide (c = c') && decide (d = d')))
 | .jv a b, .jv a' b' => decide (a = a') && decide (b = b')
 | .pG a, .pG b => bPs a b
 | .skip, .skip => true
 | .ub, .ub => true
 | .unk, .unk => true
 | _, _ => false
def bPs : List PV → List PV → Bool
 | [], [] => true
 | a :: r, b :: s => bP a b && bPs r s
 | _, _ => false
end
mutual
theorem Sw : ∀ (x y : PV), bP x y = true ↔ x = y
 | .d a, y => by cases y <;> simp [bP, MV]
 | .agg a, y => by cases y <;> simp [bP, Bq a]
 | .ptr a b c, y => by cases y <;> simp [bP]
 | .aS a, y => by cases y <;> simp [bP, Bp]
 | .row a b c, y => by cases y <;> simp [bP]
 | .kL a b c d e, y => by cases y <;> simp [bP]
 | .fn f c, y => by cases y <;> simp [bP, Bq c]
 | .map a b, y => by cases y <;> simp [bP]
 | .tail a b c d, y => by cases y <;> simp [bP]
 | .jv a b, y => by cases y <;> simp [bP]
 | .pG a, y => by cases y <;> simp [bP, Bq a]
 | .skip, y => by cases y <;> simp [bP]
 | .ub, y => by cases y <;> simp [bP]
 | .unk, y => by cases y <;> simp [bP]
theorem Bq : ∀ (x y : List PV), bPs x y = true ↔ x = y
 | [], y => by cases y <;> simp [bPs]
 | a :: r, y => by cases y <;> simp [bPs, Sw a, Bq r]
end
instance : DecidableEq PV := fun a b => decidable_of_iff _ (Sw a b)
deriving instance DecidableEq for KC
deriving instance DecidableEq for KK
deriving instance DecidableEq for Obj
inductive Ty where
 | int (k : IntKind) | bool | str
 | agg (n : Nat) (fs : List (Nat × Nat × Nat))
 | slice (e sz bytes : Nat)
 | map (k e : Nat)
 | array (n e : Nat)
 | ptr (e : Nat)
 | sc
 | bad
 deriving Inhabited
def tK : List PV → Bool
 | [] => true
 | .d _ :: r => tK r
 | _ :: _ => false
def sU : PV → Bool
 | .d _ => true
 | .agg cs => tK cs
 | _ => false
def ng : List (PV × PV) → Bool
 | [] => true
 | (k, v) :: r => sU k && sU v && ng r
inductive Lv where
 | lit (n : Nat) | of (slot : Nat)
def pk {A : Type} (d : A) : List (Nat × A) → Nat → A
 | [], _ => d
 | (k, v) :: r, s => bif Nat.beq s k then v else pk d r s
structure iG where
 keep : List Nat
 lv : Nat → Lv := fun _ => .lit 0
 mt : Nat → Bool := fun _ => false
 dead : Nat → List Nat := fun _ => []
 own : Nat → Option Nat := fun _ => none
 rf : Nat → Bool := fun _ => false
 give : Bool := false
 arena : Bool := false
 take : List Nat := []
 hold : Nat → List Nat := fun _ => []
 cold : Nat → Bool := fun _ => false
 Sy : Nat → Bool := fun _ => false
 site : Nat → Nat := fun _ => 0
 cap : Nat → List Nat := fun _ => []
 again : Nat → Bool := fun _ => false
 split : Bool := false
structure Site where
 own : Nat
 n : Nat
 ps : List Nat
 BS : Code
 body : Code
class bY where
 site : Nat → Option Site
 glob : List (Nat × Array Value)
structure Tab where
 ty : Nat → Ty
 zero : Nat → List D
 ann : Nat → iG
 eqs : Nat → Bool := fun _ => false
abbrev Env := List (Nat × PV)
abbrev St := List (List Obj)
structure Om where
 cf : Nat → List PV → St → Option (PV × St)
 rd : Nat → List PV → St → Option (PV × St)
 iter : Nat → List Nat → (Env → St → Option (Ex × Env × St)) → Env → St → Option (Ex × Env × St)
 tick : {R : Type} → (Unit → Option R) → Option R
 Xi : {R A : Type} → ((A → Option R) → Option R) → (A → Option R) → Option R
 fits : Nat → List (List D) → Option (List (List D)) → Bool
 plain : Nat → List (PV × PV) → Bool
 MW : {R : Type} → List (List D) → (Int → Option R) → Option R
 BU : {R : Type} → List (List D) → List (List D) → (List (List D) → Int → Option R) → Option R
 Sz : {R : Type} → List (List D) → Int → List D → (List (List D) → Option R) → Option R
 SA : List (List D) → Int → List D → List (List D)
 cat : List (List D) → List (List D) → List (List D)
 cut : List (List D) → Int → Int → List (List D)
 fill : List D → Int → List (List D)
 find : List (PV × PV) → PV → Option PV
 put : List (PV × PV) → PV → PV → List (PV × PV)
 del : List (PV × PV) → PV → List (PV × PV)
 abx : List (PV × PV) → Int
 BX : {R : Type} → List (List D) → Int → Int → (List (List D) → Option R) → Option R
 Ko : {R : Type} → List D → Int → (List (List D) → Int → Option R) → Option R
 Fh : {R : Type} → List (PV × PV) → PV → Option R → (PV → Option R) → Option R
 SB : {R : Type} → List (PV × PV) → PV → PV → (List (PV × PV) → Option R) → Option R
 SC : {R : Type} → List (PV × PV) → PV → (List (PV × PV) → Option R) → Option R
 QT : {R : Type} → (List (List D) → Option R) → Option R
 BZ : {R : Type} → (List (PV × PV) → Option R) → Option R
 Fj : {R : Type} → List (PV × PV) → (Int → Option R) → Option R
 wrap : IntKind → Int → Int
 add : Int → Int → Int
 sub : Int → Int → Int
 mul : Int → Int → Int
 neg : Int → Int
 ieq : Int → Int → Bool
 ilt : Int → Int → Bool
 jc : Int → Int → Bool
 tdiv : Int → Int → Int
 tmod : Int → Int → Int
 seq : ByteArray → ByteArray → Bool
 slt : ByteArray → ByteArray → Bool
 zk : ByteArray → Int
 adO : ByteArray → ByteArray → ByteArray
 adP : ByteArray → Int → Int → ByteArray
 byte : ByteArray → Int → Int
 len : List (List D) → Int
 nth : List (List D) → Int → Option (List D)
 ofStr : ByteArray → List (List D)
 toStr : List (List D) → Option ByteArray
 same : St → St → Bool
 aby : {R : Type} → St → Nat → Nat → Nat → (List PV → Option R) → Option R
 Br : {R : Type} → St → Nat → Nat → Nat → List PV → (St → Option R) → Option R
 vE : {R : Type} → St → Nat → Nat → (KK → Bool → List (PV × PV) → Option R) → Option R
 kG : {R : Type} → St → Nat → Nat → Obj → (St → Option R) → Option R
 vF : {R : Type} → St → Nat → Obj → (Nat → St → Option R) → Option R
 both : {R : Type} → Option R → Option R → Option R
 ni : {R : Type} → St → Nat → Nat → (Nat → List (Nat × PV) → Option Ex → Option R) → Option R
 pI : {R : Type} → St → Nat → Nat → (Nat → Nat → List (List D) → Bool → Option Int → Option R) → Option R
def gW : Env → Nat → PV
 | [], _ => .unk
 | (k, v) :: r, t => bif Nat.beq k t then v else gW r t
def est : Env → Nat → PV → Env
 | [], t, x => [(t, x)]
 | (k, v) :: r, t, x => bif Nat.beq k t then (t, x) :: r else bif Nat.blt t k then (t, x) :: (k, v) :: r else (k, v) :: est r t x
def del : Env → Nat → Env
 | [], _ => []
 | (k, v) :: r, t => bif Nat.beq k t then del r t else (k, v) :: del r t
def wG : List Nat → Env → Env
 | [], ρ => ρ
 | x :: r, ρ => wG r (del ρ x)
def mem : Nat → List Nat → Bool
 | _, [] => false
 | k, x :: r => bif Nat.beq k x then true else mem k r
def Aj (an : iG) (ρ : Env) (t : Nat) (b : Bool) : Env := bif an.again t then est ρ t (.d (.bool b)) else del ρ t
def aB (l : List Nat) : Env → Env
 | [] => []
 | (k, v) :: r => bif mem k l then (k, v) :: aB l r else aB l r
def keys : Env → List Nat
 | [] => []
 | (k, _) :: r => k :: keys r
def lit : Value → PV
 | .int k n => .d (.int k n)
 | .bool b => .d (.bool b)
 | .string s => .d (.str s)
 | .slice none 0 0 => .d (.sl [] (some []))
 | .pointer none => .d .mO
 | .nilFunc => .d .bT
 | .map none => .d .tq
 | .agg cs => match lits cs.toList with | some l => .agg l | none => .unk
 | _ => .unk
where
 abz : Value → Option D
  | .int k n => some (.int k n)
  | .bool b => some (.bool b)
  | .string s => some (.str s)
  | .slice none 0 0 => some (.sl [] (some []))
  | .pointer none => some .mO
  | .nilFunc => some .bT
  | .map none => some .tq
  | _ => none
 lits : List Value → Option (List PV)
  | [] => some []
  | v :: r => match abz v, lits r with | some d, some l => some (.d d :: l) | _, _ => none
def ev (ρ : Env) : Operand → PV
 | .tmp t => gW ρ t
 | .const v => lit v
 | .func f => .d (.fn f [])
 | .global _ => .unk
def evs (ρ : Env) : List Operand → List PV
 | [] => []
 | x :: r => ev ρ x :: evs ρ r
def ds : List D → List PV
 | [] => []
 | x :: r => .d x :: ds r
def AZ : List PV → Option (List D)
 | [] => some []
 | .d x :: r => match AZ r with | some l => some (x :: l) | none => none
 | _ :: _ => none
def unpack : PV → List PV
 | .agg cs => cs
 | v => [v]
def iF [bY] (g : Nat) : Bool := match bY.site g with | none => false | some _ => true
section ops
variable [bY] (Ω : Om)
def rH : IntKind → IntKind → Bool
 | .i8, .i8 => true | .i16, .i16 => true | .i32, .i32 => true | .i64, .i64 => true
 | .u8, .u8 => true | .u16, .u16 => true | .u32, .u32 => true | .u64, .u64 => true
 | _, _ => false
def arith (k : IntKind) (op : BinOp) (x y : Int) : Option D :=
 match op with
 | .add => some (.int k (Ω.wrap k (Ω.add x y)))
 | .sub => some (.int k (Ω.wrap k (Ω.sub x y)))
 | .mul => some (.int k (Ω.wrap k (Ω.mul x y)))
 | .eql => some (.bool (Ω.ieq x y))
 | .neq => some (.bool (!Ω.ieq x y))
 | .lss => some (.bool (Ω.ilt x y))
 | .leq => some (.bool (Ω.jc x y))
 | .gtr => some (.bool (Ω.ilt y x))
 | .geq => some (.bool (Ω.jc y x))
 | _ => none
def SE (op : BinOp) (x y : ByteArray) : Option D :=
 match op with
 | .eql => some (.bool (Ω.seq x y))
 | .neq => some (.bool (!Ω.seq x y))
 | .lss => some (.bool (Ω.slt x y))
 | .leq => some (.bool (Ω.slt x y || Ω.seq x y))
 | .gtr => some (.bool (!(Ω.slt x y || Ω.seq x y)))
 | .geq => some (.bool (!Ω.slt x y))
 | _ => none
def bin (t : Ty) (op : BinOp) : PV → PV → Option D
 | .d (.int k x), .d (.int k' y) => bif rH k k' then arith Ω k op x y else none
 | .d (.bool x), .d (.bool y) => match t, op with | .bool, .eql => some (.bool (x == y)) | .bool, .neq => some (.bool (!(x == y))) | _, _ => none
 | .d (.str x), .d (.str y) => SE Ω op x y
 | _, _ => none
def He (t : Ty) : PV → PV → Option Bool
 | .ptr .., .d .mO => match t with | .ptr _ => some false | _ => none
 | .d .mO, .d .mO => match t with | .ptr _ => some true | _ => none
 | .map .., .d .tq => match t with | .map _ _ => some false | _ => none
 | .d .tq, .d .tq => match t with | .map _ _ => some true | _ => none
 | _, _ => none
def down (n : Nat) : PV → PV
 | .d x => .d x
 | .agg cs => .agg (fA cs)
 | .ptr l i o => .ptr (l + n) i o
 | .aS cs => .aS cs
 | .row l i k => .row (l + n) i k
 | .kL l i k x o => .kL (l + n) i k x o
 | .fn f cs => .fn f (fA cs)
 | .map l i => .map (l + n) i
 | .tail l i k o => .tail (l + n) i k o
 | .jv l i => .jv (l + n) i
 | .pG cs => .pG (fA cs)
 | .skip => .skip
 | .ub => .ub
 | .unk => .unk
where fA : List PV → List PV
 | [] => []
 | v :: r => down n v :: fA r
def sub (l n : Nat) (f : Nat → PV) : PV := bif Nat.ble n l then f (l - n) else .unk
def up (n : Nat) : PV → PV
 | .d x => .d x
 | .agg cs => .agg (ups cs)
 | .ptr l i o => sub l n fun l => .ptr l i o
 | .aS cs => .aS cs
 | .row l i k => sub l n fun l => .row l i k
 | .kL l i k x o => sub l n fun l => .kL l i k x o
 | .fn f cs => .fn f (ups cs)
 | .map l i => sub l n fun l => .map l i
 | .tail l i k o => sub l n fun l => .tail l i k o
 | .jv l i => sub l n fun l => .jv l i
 | .pG cs => .pG (ups cs)
 | .skip => .unk
 | .ub => .ub
 | .unk => .unk
where ups : List PV → List PV
 | [] => []
 | v :: r => up n v :: ups r
def nY (n : Nat) : Env → Env
 | [] => []
 | (k, v) :: r => (k, down n v) :: nY n r
def look : St → Nat → Nat → Option Obj
 | fr :: _, 0, i => fr[i]?
 | _ :: r, l + 1, i => look r l i
 | [], _, _ => none
def bJ : St → Nat → Nat → Obj → St
 | fr :: r, 0, i, o => fr.set i o :: r
 | fr :: r, l + 1, i, o => fr :: bJ r l i o
 | [], _, _, _ => []
def iQ : St → Nat → Obj → St
 | fr :: r, 0, o => (fr ++ [o]) :: r
 | fr :: r, l + 1, o => fr :: iQ r l o
 | [], _, _ => []
def dD : St → Nat → Nat
 | fr :: _, 0 => fr.length
 | _ :: r, l + 1 => dD r l
 | [], _ => 0
def fQ : St → Nat → Bool
 | _ :: _, 0 => true
 | _ :: r, l + 1 => fQ r l
 | [], _ => false
def nZ (ρ : Env) : Lv → Nat
 | .lit n => n
 | .of s => match gW ρ s with | .ptr l _ _ => l | .row l _ _ => l | .map l _ => l | _ => 0
def freeze (st : St) : PV → PV × St
 | .row l i k => match look st l i with
  | some (.row ty sz rows mt cap) => bif Ω.ieq (Ω.len rows) k then (.d (.sl rows none), bif mt then bJ st l i (.row ty sz rows false cap) else st) else (.unk, st)
  | _ => (.unk, st)
 | v => (v, st)
def freezes (st : St) : List PV → List PV × St
 | [] => ([], st)
 | v :: r => let q := freeze Ω st v; let s := freezes q.2 r; (q.1 :: s.1, s.2)
def bW {R : Type} (st : St) (vs : List PV) (K : List PV → St → Option R) : Option R :=
 match vs with
 | [] => K [] st
 | .row l i k :: r => match look st l i with
  | some (.row ty sz rows mt cap) => bif Ω.ieq (Ω.len rows) k then bW (bif mt then bJ st l i (.row ty sz rows false cap) else st) r (fun vs st => K (.d (.sl rows none) :: vs) st) else none
  | _ => none
 | v :: r => bW st r (fun vs st => K (v :: vs) st)
def eU {R : Type} (tk : List Nat) : Nat → List PV → St → (List PV → St → Option R) → Option R
 | _, [], st, K => K [] st
 | p, v :: r, st, K => bif mem p tk then eU tk (p + 1) r st fun vs st => K (v :: vs) st
  else bW Ω st [v] fun u st => eU tk (p + 1) r st fun vs st => K (u ++ vs) st
def hdP : List PV → PV
 | [v] => v
 | _ => .unk
def below (n : Nat) : PV → Bool
 | .d _ => true
 | .agg cs => belows cs
 | .ptr l i _ => bif Nat.beq l 0 then Nat.blt i n else true
 | .aS _ => true
 | .row l i _ => bif Nat.beq l 0 then Nat.blt i n else true
 | .kL l i _ _ _ => bif Nat.beq l 0 then Nat.blt i n else true
 | .fn _ cs => belows cs
 | .map l i => bif Nat.beq l 0 then Nat.blt i n else true
 | .tail l i _ _ => bif Nat.beq l 0 then Nat.blt i n else true
 | .jv l i => bif Nat.beq l 0 then Nat.blt i n else true
 | .pG cs => belows cs
 | .skip => true
 | .ub => true
 | .unk => true
where belows : List PV → Bool
 | [] => true
 | v :: r => bif below n v then belows r else false
def zl (n : Nat) : Env → Bool
 | [] => true
 | (_, v) :: r => bif below n v then zl n r else false
def MX (_pl : Nat → List (PV × PV) → Bool) (n : Nat) : Obj → Bool
 | .box _ cs => below.belows n cs
 | .row _ _ _ _ _ => true
 | .map _ fl _ => fl
 | .void => true
 | .loop _ ρ _ => zl n ρ
def Ca (pl : Nat → List (PV × PV) → Bool) (n : Nat) : List Obj → Bool
 | [] => true
 | o :: r => bif MX pl n o then Ca pl n r else false
def trim (pl : Nat → List (PV × PV) → Bool) (n : Nat) (ρ : Env) : St → St
 | [] => []
 | fr :: r => bif Nat.ble fr.length n then fr :: r else bif zl n ρ then bif Ca pl n (fr.take n) then fr.take n :: r else fr :: r else fr :: r
def lG {R : Type} (b : Bool) (r : PV × St) (K : PV → St → Option R) : Option R :=
 bif b then bW Ω r.2 [r.1] fun vs st => K (hdP vs) st else K r.1 r.2
def xG {R : Type} (b : Bool) (n : Nat) (K : PV → St → Option R) (v : PV) (st : St) : Option R :=
 bif b then (match v with | .d x => K (.d x) (trim Ω.plain n [] st) | _ => none) else K v st
def vG (st : St) : PV → Option (List PV)
 | .ptr l i off => match look st l i with
  | some (.box _ cs) => some (down.fA l (cs.drop off))
  | _ => none
 | .kL l i k x off => match look st l i with
  | some (.row _ _ rows _ _) => bif Ω.ieq (Ω.len rows) k then (match Ω.nth rows x with | some r => some (ds (r.drop off)) | none => none) else none
  | _ => none
 | .aS cs => some (ds cs)
 | _ => none
def rJ {R : Type} (st : St) (v : PV) (K : List PV → Option R) : Option R :=
 match v with
 | .ptr l i off => match look st l i with
  | some (.box _ cs) => K (down.fA l (cs.drop off))
  | _ => none
 | .kL l i k x off => match look st l i with
  | some (.row _ _ rows _ _) => bif Ω.ieq (Ω.len rows) k then (Ω.nth rows x).bind fun r => K (ds (r.drop off)) else none
  | _ => none
 | .aS cs => K (ds cs)
 | _ => none
def xH : List PV → Option PV
 | v :: _ => some v
 | [] => none
def pack (Γ : Tab) (t : Nat) (cs : List PV) : Option PV :=
 match Γ.ty t with
 | .agg n _ => bif Nat.ble n cs.length then some (.agg (cs.take n)) else none
 | .array _ _ => none
 | .bad => none
 | _ => xH cs
def iI : PV → Bool
 | .agg _ => false
 | .pG _ => false
 | .skip => false
 | .ub => false
 | .unk => false
 | _ => true
def bU : List PV → Bool
 | [] => true
 | v :: r => bif iI v then bU r else false
def wh (place : Nat → Option (Nat × Nat)) (cells : List PV) : List (Nat × PV) → Option (List PV)
 | [] => some cells
 | (i, v) :: r => match place i with
  | some (off, sz) => bif Nat.beq (unpack v).length sz then bif Nat.ble (off + sz) cells.length then bif bU (unpack v)
   then wh place (cells.take off ++ unpack v ++ cells.drop (off + sz)) r else none else none else none
  | none => none
def Pm (fs : List (Nat × Nat × Nat)) (i : Nat) : Option (Nat × Nat) := match fs[i]? with | some q => some (q.1, q.2.1) | none => none
def QU (z : List PV) : Nat → List PV
 | 0 => []
 | n + 1 => z ++ QU z n
def chunk (sz : Nat) : Nat → List D → List (List D)
 | 0, _ => []
 | n + 1, l => l.take sz :: chunk sz n (l.drop sz)
def br {R : Type} (b : Bool) (x y : Unit → Option R) : Option R := (bif b then x else y) ()
theorem xI {R : Type} (x y : Unit → Option R) : br true x y = x () := rfl
theorem tL {R : Type} (x y : Unit → Option R) : br false x y = y () := rfl
theorem nP {R S : Type} (b : Bool) (x y : Unit → Option R) (f : R → Option S) : (br b x y).bind f = br b (fun _ => (x ()).bind f) (fun _ => (y ()).bind f) := by cases b <;> rfl
abbrev fT (R : Type) := PV → St → Option R
variable {R : Type}
def rowsOf (st : St) : PV → Option (Int × List (List D))
 | .d (.sl rows _) => some (Ω.len rows, rows)
 | .row l i k => match look st l i with
  | some (.row _ _ rows _ _) => some (k, rows)
  | _ => none
 | _ => none
def kH (s : ByteArray) : List (List D) := s.data.toList.map fun b => [.int .u8 b.toNat]
def limit : Int := 140737488355328
def rM (mt : Bool) (lv : Nat) (e sz bytes : Nat) (st : St) (rows : List (List D)) (K : fT R) : Option R :=
 Ω.MW rows fun n => bif Ω.jc (Ω.mul n bytes) limit then bif fQ st lv then K (.row lv (dD st lv) n) (iQ st lv (.row e sz rows mt none)) else none else none
def capOf (cap : Option Int) (n : Int) : Option Int := match cap with | some c => bif Ω.jc n c then cap else none | none => none
def jy (Γ : Tab) (mt : Bool) (lv : Nat) (e sz bytes : Nat) (st : St) (s x : PV) (K : fT R) : Option R :=
 match Γ.zero e, rowsOf Ω st x with
 | _ :: _, some (kx, xs) => bif Ω.ieq (Ω.len xs) kx then bif Ω.fits sz xs none then (match s with
  | .d (.sl rows ext) => br (Ω.ieq (Ω.len xs) 0) (fun _ => K s st) (fun _ => bif Ω.fits sz rows ext then (match ext with
   | some [] => Ω.BU rows xs fun rows' _ => rM Ω mt lv e sz bytes st rows' K
   | _ => none) else none)
  | .row l i k => match look st l i with
   | some (.row e' szr rows MZ cap) => bif Ω.ieq (Ω.len rows) k then br (Ω.ieq (Ω.len xs) 0) (fun _ => K s st) (fun _ => bif Nat.beq e e' then bif Nat.beq sz szr
     then Ω.BU rows xs fun rows' n => bif Ω.jc (Ω.mul n bytes) limit
      then (match cap with
       | none => K (.row l i n) (bJ st l i (.row e' szr rows' MZ none))
       | some c => bif Ω.jc n c then K (.row l i n) (bJ st l i (.row e' szr rows' MZ (some c))) else none) else none
     else none else none) else none
   | _ => none
  | _ => none) else none else none
 | _, _ => none
def jh (Γ : Tab) (own : Option Nat) (mt : Bool) (lv : Nat) (e sz bytes : Nat) (st : St) (s x : PV) (K : fT R) : Option R :=
 match own, s with
 | some _, .d (.sl [] (some [])) => bif fQ st 0 then Ω.QT fun rows => jy Ω Γ mt 0 e sz bytes (iQ st 0 (.row e sz rows mt none)) (.row 0 (dD st 0) 0) x K else none
 | _, _ => jy Ω Γ mt lv e sz bytes st s x K
def Hf (d : Int) : Option PV → Option Int
 | none => some d
 | some (.d (.int _ n)) => some n
 | _ => none
def jd (st : St) (rows : List (List D)) (ext : Option (List (List D))) (lo hi mx : Option PV) (zz : Bool) (K : fT R) : Option R :=
 Ω.MW rows fun n =>
 match Hf 0 lo, Hf n hi, mx, ext with
 | some l, some h, none, none => bif Ω.jc 0 l then bif Ω.jc l h then bif Ω.jc h n then Ω.BX rows l h fun q => K (.d (.sl q none)) st else none else none else none
 | some l, some h, none, some hid => Ω.BU rows hid fun all tot => bif Ω.jc 0 l then bif Ω.jc l h then bif Ω.jc h tot
   then Ω.BX all l h fun q => Ω.BX all h tot fun q' => K (.d (.sl q (some q'))) st else none else none else none
 | some l, some h, some (.d (.int _ m)), _ => match hi with
  | none => none
  | some _ => bif Ω.jc 0 l then bif Ω.jc l h then bif Ω.jc h m then bif Ω.jc m n
   then (bif zz then K (.d (.sl [] (some []))) st else Ω.BX rows l h fun q => Ω.BX rows h m fun q' => K (.d (.sl q (some q'))) st) else none else none else none else none
 | _, _, _, _ => none
def Kq : Option Operand → Bool
 | some (.const (.int _ (.ofNat 0))) => true
 | _ => false
def QV (st : St) (i ty sz : Nat) (rows : List (List D)) (k : Int) (lo hi mx : Option PV) (K : fT R) : Option R :=
 match lo, hi, mx with
 | none, some (.d (.int _ h)), none => bif Ω.jc 0 h then bif Ω.jc h k then Ω.BX rows 0 h fun q => K (.row 0 (dD st 0) h) (iQ (bJ st 0 i .void) 0 (.row ty sz q true none)) else none else none
 | some (.d (.int _ o)), none, none => bif Ω.jc 0 o then bif Ω.jc o k then K (.tail 0 i k o) st else none else none
 | none, some (.d (.int _ h)), some (.d (.int _ m)) => bif Ω.jc 0 h then bif Ω.jc h m then bif Ω.jc m k then Ω.BX rows 0 h fun q => K (.row 0 (dD st 0) h) (iQ (bJ st 0 i .void) 0 (.row ty sz q true none)) else none else none else none
 | _, _, _ => none
def pJ (t : Ty) (st : St) (x : PV) (lo hi mx : Option PV) (zz re : Bool) (K : fT R) : Option R :=
 match t, x with
 | .str, .d (.str s) => match Hf 0 lo, Hf (Ω.zk s) hi, mx with
  | some l, some h, none => bif Ω.jc 0 l then bif Ω.jc l h then bif Ω.jc h (Ω.zk s) then K (.d (.str (Ω.adP s l h))) st else none else none else none
  | _, _, _ => none
 | .slice _ sz _, .d (.sl rows ext) => bif Ω.fits sz rows ext then jd Ω st rows ext lo hi mx zz K else none
 | .slice _ sz' _, .row l i k => match look st l i with
  | some (.row ty sz rows true _) => bif re then bif Nat.beq l 0 then bif Nat.beq sz sz' then bif Ω.ieq (Ω.len rows) k then QV Ω st i ty sz rows k lo hi mx K else none else none else none else none
  | some (.row _ sz rows false cap) => bif Nat.beq sz sz' then bif Ω.ieq (Ω.len rows) k then (match cap with
   | some c => br (Ω.ieq c k) (fun _ => jd Ω st rows (some []) lo hi mx zz K) (fun _ => jd Ω st rows none lo hi mx zz K)
   | none => jd Ω st rows none lo hi mx zz K) else none else none
  | _ => none
 | _, _ => none
def eqD : Ty → D → D → Option Bool
 | .int _, .int k x, .int k' y => bif rH k k' then some (Ω.ieq x y) else none
 | .bool, .bool x, .bool y => some (x == y)
 | .str, .str x, .str y => some (Ω.seq x y)
 | _, _, _ => none
def xJ (Γ : Tab) : List (Nat × Nat × Nat) → List PV → List PV → Option Bool
 | [], [], [] => some true
 | g :: gs, .d u :: us, .d v :: vs => match eqD Ω (Γ.ty g.2.2) u v with
  | none => none
  | some b => match xJ Γ gs us vs with
   | none => none
   | some c => some (b && c)
 | _, _, _ => none
def EP (Γ : Tab) (t : Nat) (op : BinOp) (st : St) (x y : PV) (K : fT R) : Option R :=
 match Γ.ty t, x, y with
 | .agg _ gs, .agg us, .agg vs => match xJ Ω Γ gs us vs with
  | some b => match op with
   | .eql => K (.d (.bool b)) st
   | .neq => K (.d (.bool !b)) st
   | _ => none
  | none => none
 | _, _, _ => none
def zm : Operand → Bool
 | .const (.slice none 0 0) => true
 | _ => false
def Cb (t : Ty) (op : BinOp) (st : St) (x : PV) (K : fT R) : Option R :=
 match t, x, op with
 | .slice _ _ _, .d (.sl rows _), .eql => br (Ω.ieq (Ω.len rows) 0) (fun _ => K .ub st) (fun _ => K (.d (.bool false)) st)
 | .slice _ _ _, .d (.sl rows _), .neq => br (Ω.ieq (Ω.len rows) 0) (fun _ => K .ub st) (fun _ => K (.d (.bool true)) st)
 | _, _, _ => none
def Na : Int := 9223372036854775807
def Ak (t : Ty) (op : BinOp) (st : St) (x y : PV) (K : fT R) : Option R :=
 match bin Ω t op x y with
 | some v => K (.d v) st
 | none => match He t x y with
  | some b => match op with
   | .eql => K (.d (.bool b)) st
   | .neq => K (.d (.bool !b)) st
   | _ => none
  | none => match op, x, y with
   | .add, .d (.str a), .d (.str b) => bif Ω.jc (Ω.add (Ω.zk a) (Ω.zk b)) Na then K (.d (.str (Ω.adO a b))) st else none
   | .quo, .d (.int k a), .d (.int k' b) => bif rH k k' then bif Ω.ieq b 0 then none else K (.d (.int k (Ω.wrap k (Ω.tdiv a b)))) st else none
   | .rem, .d (.int k a), .d (.int k' b) => bif rH k k' then bif Ω.ieq b 0 then none else K (.d (.int k (Ω.tmod a b))) st else none
   | _, _, _ => none
def Al (Γ : Tab) : List (Nat × Nat × Nat) → Option (List KC)
 | [] => some []
 | q :: r => match Γ.ty q.2.2, Al Γ r with
  | .int k, some cs => some (.int k :: cs)
  | .bool, some cs => some (.bool :: cs)
  | .str, some cs => some (.str :: cs)
  | _, _ => none
def rO (Γ : Tab) (t : Nat) : Option KK :=
 match Γ.ty t with
 | .str => some .str
 | .int k => some (.int k)
 | .agg _ fs => bif Γ.eqs t then (match Al Γ fs with | some cs => some (.agg cs) | none => none) else none
 | _ => none
def kV : List KC → List KC → Bool
 | [], [] => true
 | .int j :: a, .int k :: b => bif rH j k then kV a b else false
 | .bool :: a, .bool :: b => kV a b
 | .str :: a, .str :: b => kV a b
 | _, _ => false
def Ba : KK → KK → Bool
 | .str, .str => true
 | .int j, .int k => rH j k
 | .agg a, .agg b => kV a b
 | _, _ => false
def dK : List KC → List PV → Bool
 | [], [] => true
 | .int k :: cs, .d (.int j _) :: vs => bif rH k j then dK cs vs else false
 | .bool :: cs, .d (.bool _) :: vs => dK cs vs
 | .str :: cs, .d (.str _) :: vs => dK cs vs
 | _, _ => false
def fU : KK → PV → Bool
 | .int k, .d (.int j _) => rH k j
 | .str, .d (.str _) => true
 | .agg cs, .agg vs => dK cs vs
 | _, _ => false
def og (Γ : Tab) (kk : KK) (e : Nat) (ok : Bool) (st : St) (m k : PV) (K : fT R) : Option R :=
 let give (v : PV) (b : Bool) : PV := bif ok then .pG [v, .d (.bool b)] else v
 bif fU kk k then
 match m, pack Γ e (ds (Γ.zero e)) with
 | .d .tq, some z => K (give z false) st
 | .map l i, some z => match look st l i with
  | some (.map Bt _ es) => bif Ba kk Bt then Ω.Fh es k (K (give z false) st) (fun v => K (give (down l v) true) st) else none
  | _ => none
 | _, _ => none
 else none
def nK : PV → List PV → PV
 | .agg _, vs => .agg vs
 | _, vs => match vs with | [v] => v | _ => .unk
def Fp : PV → Bool
 | .agg cs => bU cs
 | v => iI v
def aaG (Γ : Tab) (t j : Nat) : Option (Nat × Nat) :=
 match Γ.ty t with
 | .slice e sz _ => bif Nat.beq j 0 then some (e, sz) else none
 | .agg _ fs => match fs.find? (fun q => Nat.beq q.1 j) with
  | some q => match Γ.ty q.2.2 with
   | .slice e sz _ => some (e, sz)
   | _ => none
  | none => none
 | _ => none
def gZ (Γ : Tab) (t : Nat) : Nat → List D → St → (List PV → St → Option R) → Option R
 | _, [], st, K => K [] st
 | j, d :: r, st, K => match d, aaG Γ t j with
  | .sl [] (some []), some q => Ω.QT fun rows => gZ Γ t (j + 1) r (iQ st 0 (.row q.1 q.2 rows true none)) fun cs st' => K (.row 0 (dD st 0) 0 :: cs) st'
  | d, _ => gZ Γ t (j + 1) r st fun cs st' => K (.d d :: cs) st'
def evalOp (Γ : Tab) (an : iG) (ρ : Env) (st : St) (dst : Option Nat) (op : Op) (K : fT R) : Option R :=
 let d := match dst with | some d => d | none => 0
 match op with
 | .move x => K (ev ρ x) st
 | .assign x => match an.own d with
  | some t => match x, Γ.ty t with
   | .const (.slice none 0 0), .slice e sz _ => bif fQ st 0 then Ω.QT fun rows => K (.row 0 (dD st 0) 0) (iQ st 0 (.row e sz rows (an.mt d) none)) else none
   | _, _ => K (ev ρ x) st
  | none => K (ev ρ x) st
 | .pick c a b => match ev ρ c with | .d (.bool t) => br t (fun _ => K (ev ρ a) st) (fun _ => K (ev ρ b) st) | _ => none
 | .box t x => bW Ω st (unpack (ev ρ x)) fun cs st => bif an.cold d then (match AZ cs with | some l => K (.aS l) st | none => none) else
   match an.own d, nZ ρ (an.lv d) with
   | some t2, 0 => (match AZ cs with | some l => bif fQ st 0 then gZ Ω Γ t2 0 l st fun cs st => K (.ptr 0 (dD st 0) 0) (iQ st 0 (.box t cs)) else none | none => none)
   | _, lv => bif fQ st lv then bif bU (up.ups lv cs) then K (.ptr lv (dD st lv) 0) (iQ st lv (.box t (up.ups lv cs))) else none else none
 | .alloc t => match Γ.zero t with
  | [] => none
  | z => match an.own d with
   | none => bif fQ st (nZ ρ (an.lv d)) then K (.ptr (nZ ρ (an.lv d)) (dD st (nZ ρ (an.lv d))) 0) (iQ st (nZ ρ (an.lv d)) (.box t (ds z))) else none
   | some _ => bif fQ st 0 then gZ Ω Γ t 0 z st fun cs st => K (.ptr 0 (dD st 0) 0) (iQ st 0 (.box t cs)) else none
 | .load t a => rJ Ω st (ev ρ a) fun cs => match pack Γ t cs with
  | some v => K v st
  | none => none
 | .store t a x => bif Nat.beq (Γ.zero t).length (unpack (ev ρ x)).length then bif Nat.ble 1 (Γ.zero t).length then match ev ρ a with
  | .ptr l i off => match look st l i with
   | some (.box t cs) => bif bU (up.ups l (unpack (ev ρ x))) then bif Nat.ble (off + (unpack (ev ρ x)).length) cs.length
    then K .skip (bJ st l i (.box t (cs.take off ++ up.ups l (unpack (ev ρ x)) ++ cs.drop (off + (unpack (ev ρ x)).length)))) else none else none
   | _ => none
  | .kL l i k ix off => bW Ω st (unpack (ev ρ x)) fun vs st =>
    match look st l i with
    | some (.row ty sz rows true cap) => bif Ω.ieq (Ω.len rows) k then (Ω.nth rows ix).bind fun r => (match AZ vs with
     | some vs => bif Nat.ble (off + vs.length) r.length then Ω.Sz rows ix (r.take off ++ vs ++ r.drop (off + vs.length)) fun rows' => K .skip (bJ st l i (.row ty sz rows' true cap)) else none
     | none => none) else none
    | _ => none
  | _ => none
  else none else none
 | .fieldAddr t x f => match Γ.ty t with
  | .agg _ fs => match fs[f]? with
   | some q => match ev ρ x with
    | .ptr l i off => K (.ptr l i (off + q.1)) st
    | .kL l i k ix off => K (.kL l i k ix (off + q.1)) st
    | .aS cs => bif Nat.ble q.1 cs.length then K (.aS (cs.drop q.1)) st else none
    | _ => none
   | none => none
  | _ => none
 | .field t x f => match Γ.ty t, ev ρ x with
  | .agg _ fs, .agg cs => match fs[f]? with
   | some q => match pack Γ q.2.2 (cs.drop q.1) with | some v => K v st | none => none
   | none => none
  | _, _ => none
 | .indexAddr t x ix => match Γ.ty t with
  | .slice _ sz _ => match ev ρ x, ev ρ ix with
   | .d (.sl rows _), .d (.int _ i) => bif Ω.fits sz rows none then (Ω.nth rows i).bind fun r => K (.aS r) st else none
   | .row l j k, .d (.int _ i) => match look st l j with
    | some (.row _ sz' rows _ _) => bif Nat.beq sz sz' then bif Ω.ieq (Ω.len rows) k then (Ω.nth rows i).bind fun _ => K (.kL l j k i 0) st else none else none
    | _ => none
   | _, _ => none
  | _ => none
 | .index t x ix => match Γ.ty t, ev ρ x, ev ρ ix with
  | .str, .d (.str s), .d (.int _ i) => bif Ω.jc 0 i then bif Ω.ilt i (Ω.zk s) then K (.d (.int .u8 (Ω.byte s i))) st else none else none
  | .array n _, .agg cs, .d (.int _ i) => bif Ω.jc 0 i then bif Nat.blt i.toNat n then (match cs[i.toNat]? with | some (.d x) => K (.d x) st | _ => none) else none else none
  | _, _, _ => none
 | .binOp op t x y _ => bif Γ.eqs t then EP Ω Γ t op st (ev ρ x) (ev ρ y) K else bif zm y then Cb Ω (Γ.ty t) op st (ev ρ x) K else Ak Ω (Γ.ty t) op st (ev ρ x) (ev ρ y) K
 | .unOp op _ x => match op, ev ρ x with
  | .not, .d (.bool b) => K (.d (.bool !b)) st
  | .neg, .d (.int k n) => K (.d (.int k (Ω.wrap k (Ω.sub 0 n)))) st
  | _, _ => none
 | .convert src dst x => match Γ.ty src, Γ.ty dst, ev ρ x with
  | .int _, .int k, .d (.int _ n) => K (.d (.int k (Ω.wrap k n))) st
  | .str, .str, .d (.str s) => K (.d (.str s)) st
  | .int _, .str, .d (.int _ n) => K (.d (.str (Utf8.encode n))) st
  | .slice e _ _, .str, .d (.sl rows _) => match Γ.ty e with
   | .int .u8 => match Ω.toStr rows with | some s => K (.d (.str s)) st | none => none
   | _ => none
  | _, _, _ => none
 | .build t parts => match Γ.ty t, Γ.zero t with
  | .agg _ fs, z0 :: z1 => bW Ω st (evs ρ (parts.toList.map (·.2))) fun vs st =>
    match wh (Pm fs) (ds (z0 :: z1)) (List.zip (parts.toList.map (·.1)) vs) with
    | some cs => (match an.own d with
     | some t2 => (match AZ cs with | some l => bif fQ st 0 then gZ Ω Γ t2 0 l st fun cs st => K (.agg cs) st else none | none => none)
     | none => K (.agg cs) st)
    | none => none
  | _, _ => none
 | .buildSlice t n parts => match Γ.ty t with
  | .slice e sz _ => match Γ.zero e with
   | [] => none
   | z => bif Nat.ble (n * sz) 16777216 then (bW Ω st (evs ρ (parts.toList.map (·.2))) fun vs st =>
     match wh (fun i => some (i * sz, sz)) (QU (ds z) n) (List.zip (parts.toList.map (·.1)) vs) with
     | some cs => match AZ cs with
      | some cs => (match an.own d with
       | some _ => bif Nat.ble 1 n then bif fQ st 0 then K (.row 0 (dD st 0) (n : Int)) (iQ st 0 (.row e sz (chunk sz n cs) true none)) else none else none
       | none => K (.d (.sl (chunk sz n cs) (some []))) st)
      | none => none
     | none => none) else none
  | _ => none
 | .makeSlice t l c => match Γ.ty t, ev ρ l, ev ρ c with
  | .slice e sz bytes, .d (.int _ l), .d (.int _ c) => match Γ.zero e with
   | [] => none
   | z => bif Ω.jc 0 l then bif Ω.jc l c then bif Ω.jc (Ω.mul c bytes) limit then bif fQ st (nZ ρ (an.lv d))
    then Ω.Ko z l fun rows n => K (.row (nZ ρ (an.lv d)) (dD st (nZ ρ (an.lv d))) n) (iQ st (nZ ρ (an.lv d)) (.row e sz rows (an.mt d) (some c))) else none else none else none else none
  | _, _, _ => none
 | .slice t x lo hi mx => pJ Ω (Γ.ty t) st (ev ρ x) (lo.map (ev ρ)) (hi.map (ev ρ)) (mx.map (ev ρ)) (Kq hi && Kq mx) (match an.own d with | some _ => true | none => false) K
 | .makeFunc (.func f) first captured => match first.toList with
  | [] => bW Ω st (evs ρ captured.toList) fun vs st =>
    match AZ vs with
    | some l => K (.d (.fn f l)) st
    | none => bif bU vs then K (.fn f vs) st else none
  | _ => none
 | .makeMap t r => match r, Γ.ty t with
  | none, .map kt _ => match rO Γ kt with
   | some kk => bif fQ st (nZ ρ (an.lv d)) then Ω.BZ fun es => K (.map (nZ ρ (an.lv d)) (dD st (nZ ρ (an.lv d)))) (iQ st (nZ ρ (an.lv d)) (.map kk (!(an.rf d)) es)) else none
   | none => none
  | _, _ => none
 | .lookup t m k ok => match Γ.ty t with
  | .map kt e => match rO Γ kt with
   | some kk => og Ω Γ kk e ok st (ev ρ m) (ev ρ k) K
   | none => none
  | _ => none
 | .mapUpdate t m k x => match Γ.ty t with
  | .map kt _ => match rO Γ kt, ev ρ m with
   | some kk, .map l i => bW Ω st (unpack (ev ρ x)) fun vs st =>
     match look st l i with
     | some (.map Bt fl es) => bif Ba kk Bt then bif fU kk (ev ρ k) then bif bU (up.ups l vs)
      then bif (bif fl then sU (nK (ev ρ x) (up.ups l vs)) else true) then Ω.SB es (ev ρ k) (nK (ev ρ x) (up.ups l vs)) fun es' => K .skip (bJ st l i (.map Bt fl es')) else none else none else none else none
     | _ => none
   | _, _ => none
  | _ => none
 | .extract t i => match ev ρ t with
  | .pG l => match l[i]? with | some v => K v st | none => none
  | _ => none
 | .nilCheck x => match ev ρ x with
  | .ptr l i o => K (.ptr l i o) st
  | .fn f cs => K (.fn f cs) st
  | .d (.fn f cs) => K (.d (.fn f cs)) st
  | .aS cs => K (.aS cs) st
  | .kL l i k x o => K (.kL l i k x o) st
  | _ => none
 | .call c => match c.callee with
  | .builtin b => match b, evs ρ c.args.toList, c.argTypes.toList with
   | .len, [v], [t] => match Γ.ty t, v with
    | .str, .d (.str s) => K (.d (.int .i64 (Ω.zk s))) st
    | .slice _ _ _, .d (.sl rows _) => Ω.MW rows fun n => K (.d (.int .i64 n)) st
    | .slice _ _ _, .row _ _ n => K (.d (.int .i64 n)) st
    | .map _ _, .d .tq => K (.d (.int .i64 0)) st
    | .map _ _, .map l i => match look st l i with
     | some (.map _ _ es) => Ω.Fj es fun n => K (.d (.int .i64 n)) st
     | _ => none
    | _, _ => none
   | .cap, [v], [t] => match Γ.ty t, v with
    | .slice _ _ _, .d (.sl rows (some hid)) => Ω.BU rows hid fun _ n => K (.d (.int .i64 n)) st
    | _, _ => none
   | .append, [s, x], [t, t'] => match Γ.ty t, Γ.ty t' with
    | .slice e sz bytes, .slice _ _ _ => jh Ω Γ (an.own d) (an.mt d) (nZ ρ (an.lv d)) e sz bytes st s x fun v st => lG Ω (an.cold d) (v, st) K
    | .slice e sz bytes, .str => match x with
     | .d (.str b) => jh Ω Γ (an.own d) (an.mt d) (nZ ρ (an.lv d)) e sz bytes st s (.d (.sl (kH b) (some []))) K
     | _ => none
    | _, _ => none
   | .delete, [m, k], [t, _] => match Γ.ty t with
    | .map kt _ => match rO Γ kt, m with
     | some kk, .map l i => match look st l i with
      | some (.map Bt fl es) => bif Ba kk Bt then bif fU kk k then Ω.SC es k fun es' => K (.pG []) (bJ st l i (.map Bt fl es')) else none else none
      | _ => none
     | _, _ => none
    | _ => none
   | .clear, [.tail l i k lo], [t] => match Γ.ty t with
    | .slice e sz' _ => match look st l i with
     | some (.row ty sz rows true cap) => bif Nat.beq sz sz' then bif Nat.beq (Γ.zero e).length sz then bif Ω.ieq (Ω.len rows) k then
       Ω.BX rows 0 lo fun a => Ω.Ko (Γ.zero e) (Ω.sub k lo) fun z _ => Ω.BU a z fun rows' _ => K (.pG []) (bJ st l i (.row ty sz rows' true cap)) else none else none else none
     | _ => none
    | _ => none
   | .min, [.d (.int k x), .d (.int _ y)], _ => br (Ω.jc x y) (fun _ => K (.d (.int k x)) st) (fun _ => K (.d (.int k y)) st)
   | .max, [.d (.int k x), .d (.int _ y)], _ => br (Ω.jc x y) (fun _ => K (.d (.int k y)) st) (fun _ => K (.d (.int k x)) st)
   | _, _, _ => none
  | .value f => eU Ω (an.hold d) 0 (evs ρ c.args.toList) st fun args st =>
    match ev ρ f with
    | .d (.fn g caps) => (Ω.cf g (args ++ ds caps) st).bind fun r => lG Ω (an.cold d) r (xG Ω (an.Sy d) (dD st 0) K)
    | .fn g caps => (Ω.cf g (args ++ caps) st).bind fun r => lG Ω (an.cold d) r (xG Ω (an.Sy d) (dD st 0) K)
    | .jv l i => match look st l i with
     | some (.loop site _ none) => (Ω.rd site (.jv l i :: args) st).bind fun r => K r.1 r.2
     | _ => none
    | _ => none
  | _ => none
 | _ => none
def oh (ρ : Env) : Option Nat → PV → Env
 | some d, v => est ρ d v
 | none, _ => ρ
structure XO where
 dst : Option Nat
 op : Op
 g : Option (Nat × Bool)
 EN : Bool
 dead : List Nat
def quiet : Op → Bool
 | .move _ => true | .assign (.const (.slice none 0 0)) => false | .assign _ => true | .pick _ _ _ => true | .load _ _ => true | .fieldAddr _ _ _ => true | .field _ _ _ => true
 | .indexAddr _ _ _ => true | .index _ _ _ => true | .binOp _ _ _ _ _ => true | .unOp _ _ _ => true | .convert _ _ _ => true
 | .lookup _ _ _ _ => true | .extract _ _ => true | .nilCheck _ => true
 | .call c => match c.callee with
  | .builtin .len => true | .builtin .cap => true | .builtin .min => true | .builtin .max => true
  | _ => false
 | _ => false
def still : Op → Bool
 | .slice _ _ _ _ _ => true | .build _ _ => true | .buildSlice _ _ _ => true | .makeFunc _ _ _ => true
 | .call c => match c.callee with
  | .value _ => true
  | .builtin .len => true | .builtin .cap => true | .builtin .min => true | .builtin .max => true
  | _ => false
 | o => quiet o
def waits (ops : List Oper) (j i : Nat) : Bool :=
 match ops[j]? with
 | some o => o.after.toList.any fun e => Region.binds .any e && Nat.beq e.on i
 | none => false
def tu (ops : List Oper) (k : Nat) : Bool :=
 ((List.range k).all fun i => (List.range (k + 1)).any fun j => Nat.blt i j && waits ops j i) &&
 ((List.range ops.length).all fun j => Nat.ble j k || (List.range j).any fun i => Nat.ble k i && waits ops j i)
def dX (ops : List Oper) (j : Nat) : Nat :=
 match ops[j]? with
 | some o => match o.dst with | some d => d | none => 0
 | none => 0
def Hg (an : iG) (drawn : Bool) : Option Nat → List Nat
 | some d => bif drawn then [] else an.dead d
 | none => []
def lH (ops : List Oper) : Nat → List Oper → Bool
 | _, [] => true
 | k, o :: r => (still o.op || tu ops k) && lH ops (k + 1) r
def wH : Op → Bool
 | .move _ => true | .assign (.const (.slice none 0 0)) => false | .assign _ => true | .extract _ _ => true
 | _ => false
def Fq (t : Nat) : Operand → Bool
 | .tmp u => Nat.beq u t
 | _ => false
def looks (ops : List Oper) (o : Oper) (t : Nat) : Bool :=
 o.op.operands.toList.any (Fq t) || (match o.guard with | some (j, _) => Nat.beq (dX ops j) t | none => false)
def Nb (ops : List Oper) : Nat → List Nat → List Nat
 | 0, l => l
 | k + 1, l => Nb ops k (bif l.any fun j => waits ops j k then k :: l else l)
def Xt : Nat → List Oper → Option (Nat × Nat)
 | _, [] => none
 | k, o :: r => match o.op, o.guard, o.dst with
  | .alloc _, none, some d => some (k, d)
  | _, _, _ => Xt (k + 1) r
def SF (d : Nat) : Nat → List Oper → Option Nat
 | _, [] => none
 | k, o :: r => match o.op, o.guard, o.dst with
  | .store _ (.tmp t) x, none, none => bif Nat.beq t d && !(Fq d x) then some k else SF d (k + 1) r
  | _, _, _ => SF d (k + 1) r
def Cc (ops : List Oper) (a w d : Nat) (l : List Nat) : Nat → List Oper → Bool
 | _, [] => true
 | k, o :: r => (Nat.beq k a || Nat.beq k w || (still o.op && !(looks ops o d) && (wH o.op || (Nat.blt k a && mem k l)))) && Cc ops a w d l (k + 1) r
def Ce (ops : List Oper) : Option (Nat × Nat × Nat) :=
 bif lH ops 0 ops then none else match Xt 0 ops with
 | none => none
 | some (a, d) => match SF d 0 ops with
  | none => none
  | some w => bif Nat.blt a w && mem a (Nb ops w [w]) && Cc ops a w d (Nb ops w [w]) 0 ops then some (a, w, d) else none
def ER (ops : List Oper) (k : Nat) : Bool :=
 match Ce ops with
 | some (a, w, _) => Nat.beq k a || Nat.beq k w
 | none => tu ops k
def nQ (an : iG) (drawn : Bool) (all : List Oper) : Nat → List Oper → List XO
 | _, [] => []
 | k, o :: r => ⟨o.dst, o.op, (match o.guard with | some (j, want) => some (dX all j, want) | none => none),
   (bif drawn then (bif quiet o.op then false else !(ER all k)) else false), Hg an drawn o.dst⟩ :: nQ an drawn all (k + 1) r
def vH (ops : List Oper) : Nat → Nat
 | 0 => 0
 | k + 1 => bif tu ops k then k + 1 else vH ops k
def qG (ops : List Oper) : Nat → List Oper → Nat
 | k, [] => k
 | k, o :: r => bif still o.op || tu ops k then qG ops (k + 1) r else k
def tN (ops : List Oper) : Nat := vH ops (qG ops 0 ops)
def late (ops : List Oper) : Bool := !(lH ops 0 ops) && (match Ce ops with | none => true | some _ => false)
def wI (n k : Nat) : Array Bool := ((List.range k).map fun i => Nat.blt i n).toArray
inductive XT where
 | done | step (o : XO) (t : XT) | both (a b : XT)
def Bu : List XT → XT
 | [] => .done
 | [t] => t
 | t :: u :: r => .both t (Bu (u :: r))
def lJ (ops : Array Oper) : Nat → Array Bool → XT
 | 0, _ => .done
 | g + 1, listed => Bu ((Region.ready .any ops listed).map fun j => match ops[j]? with
  | some o => .step ⟨o.dst, o.op, none, false, []⟩ (lJ ops g (listed.setIfInBounds j true))
  | none => .done)
def mH (EN : Bool) (st : St) (K : fT R) : fT R := fun v st' => bif EN then bif Ω.same st st' then K v st else none else K v st'
def dG (Γ : Tab) (an : iG) : List XO → Env → St → (Env → St → Option R) → Option R
 | [], ρ, st, K => K ρ st
 | ⟨dst, op, g, EN, dead⟩ :: rest, ρ, st, K =>
  match g with
  | none => evalOp Ω Γ an ρ st dst op (mH Ω EN st fun v st => dG Γ an rest (wG dead (oh ρ dst v)) st K)
  | some (j, want) => match gW ρ j with
   | .d (.bool b) => br (bif want then b else !b)
     (fun _ => evalOp Ω Γ an (est ρ j (.d (.bool want))) st dst op (mH Ω EN st fun v st => dG Γ an rest (wG dead (oh (est ρ j (.d (.bool want))) dst v)) st K))
     (fun _ => dG Γ an rest (wG dead (oh (est ρ j (.d (.bool !want))) dst .skip)) st K)
   | .skip => dG Γ an rest (wG dead (oh ρ dst .skip)) st K
   | _ => none
def jS (Γ : Tab) (an : iG) : XT → Env → St → (Env → St → Option R) → Option R
 | .done, ρ, st, K => K ρ st
 | .step o t, ρ, st, K => dG Ω Γ an [o] ρ st fun ρ st => jS Γ an t ρ st K
 | .both a b, ρ, st, K => Ω.both (jS Γ an a ρ st K) (jS Γ an b ρ st K)
def Nc {R : Type} (site : Nat) (env ρ : Env) (st : St) (f : Nat) (caps : List PV) (K : Ex → Env → St → Option R) : Option R :=
 bif fQ st 0 then (Ω.cf f (.jv 0 (dD st 0) :: caps) (iQ st 0 (.loop site env none))).bind fun r => match look r.2 0 (dD st 0) with
  | some (.loop _ _ p) => bif Nat.ble (dD (trim Ω.plain (dD st 0) ρ r.2) 0) (dD st 0) then (match p with
   | none => K .normal ρ (trim Ω.plain (dD st 0) ρ r.2)
   | some .normal => none
   | some e => K e ρ (trim Ω.plain (dD st 0) ρ r.2)) else none
  | _ => none
 else none
def Nf {R : Type} (an : iG) (ρ : Env) (st : St) (g : Operand) (K : Ex → Env → St → Option R) : Option R :=
 match g with
 | .tmp t => match gW ρ t with
  | .d (.fn f caps) => Nc Ω (an.site t) (aB (an.cap t) ρ) ρ st f (ds caps) K
  | .fn f caps => Nc Ω (an.site t) (aB (an.cap t) ρ) ρ st f caps K
  | _ => none
 | _ => none
def exec (Γ : Tab) (an : iG) : Code → Env → St → {R : Type} → (Ex → Env → St → Option R) → Option R
 | .skip, ρ, st, _, K => K .normal ρ st
 | .region _ ops drawn, ρ, st, _, K => bif drawn && late ops.toList then dG Ω Γ an (nQ an true ops.toList 0 (ops.toList.take (tN ops.toList))) ρ st fun ρ st =>
   jS Ω Γ an (lJ ops ops.size (wI (tN ops.toList) ops.size)) ρ st fun ρ st => K .normal (aB an.keep ρ) st
  else dG Ω Γ an (nQ an drawn ops.toList 0 ops.toList) ρ st fun ρ st => K .normal (aB an.keep ρ) st
 | .seq a b, ρ, st, _, K => exec Γ an a ρ st fun e ρ st => match e with
  | .normal => exec Γ an b ρ st K
  | e => K e ρ st
 | .cond c a b, ρ, st, _, K => match c with
  | .tmp t => match gW ρ t with
   | .d (.bool x) => Ω.Xi (fun k => br x (fun _ => exec Γ an a (Aj an ρ t true) st (fun e ρ' st' => k (e, aB (keys ρ) ρ', trim Ω.plain (dD st 0) (aB (keys ρ) ρ') st')))
     (fun _ => exec Γ an b (Aj an ρ t false) st (fun e ρ' st' => k (e, aB (keys ρ) ρ', trim Ω.plain (dD st 0) (aB (keys ρ) ρ') st')))) (fun r => K r.1 r.2.1 r.2.2)
   | .ub => Ω.both (exec Γ an a (del ρ t) st (fun e ρ' st' => K e (aB (keys ρ) ρ') (trim Ω.plain (dD st 0) (aB (keys ρ) ρ') st')))
     (exec Γ an b (del ρ t) st (fun e ρ' st' => K e (aB (keys ρ) ρ') (trim Ω.plain (dD st 0) (aB (keys ρ) ρ') st')))
   | _ => none
  | _ => none
 | .block id a, ρ, st, _, K => exec Γ an a ρ st fun e ρ st => match e with
  | .exit i => bif Nat.beq i id then K .normal ρ st else K (.exit i) ρ st
  | e => K e ρ st
 | .loop a, ρ, st, _, K => (Ω.iter (dD st 0) (keys ρ) (fun ρ st => exec Γ an a ρ st fun e ρ st => some (e, ρ, st)) ρ st).bind fun r => K r.1 r.2.1 r.2.2
 | .exit id, ρ, st, _, K => K (.exit id) ρ st
 | .ret, ρ, st, _, K => K .ret ρ st
 | .rangeFunc g _ _ _, ρ, st, _, K => Nf Ω an ρ st g K
 | _, _, _, _, _ => none
def enter : Nat → List PV → Env
 | _, [] => []
 | i, v :: r => (i, v) :: enter (i + 1) r
def tO (Γ : Tab) (ρ : Env) (st : St) : ResultVar → Option PV
 | .tmp t => some (gW ρ t)
 | .cell t ty => match vG Ω st (gW ρ t) with
  | some cs => pack Γ ty cs
  | none => none
def kW (Γ : Tab) (ρ : Env) (st : St) : List ResultVar → Option (List PV)
 | [] => some []
 | r :: rs => match tO Ω Γ ρ st r, kW Γ ρ st rs with
  | some v, some vs => some (v :: vs)
  | _, _ => none
def one : List PV → PV
 | [v] => v
 | vs => .pG vs
def vI (st : St) : PV → PV × St
 | .row 0 i k => freeze Ω st (.row 0 i k)
 | v => (v, st)
def nu (st : St) : List PV → List PV × St
 | [] => ([], st)
 | v :: r => let q := vI Ω st v; let s := nu q.2 r; (q.1 :: s.1, s.2)
def gq {R : Type} (st : St) (vs : List PV) (K : List PV → St → Option R) : Option R :=
 match vs with
 | [] => K [] st
 | .row 0 i k :: r => match look st 0 i with
  | some (.row ty sz rows mt cap) => bif Ω.ieq (Ω.len rows) k then gq (bif mt then bJ st 0 i (.row ty sz rows false cap) else st) r (fun vs st => K (.d (.sl rows none) :: vs) st) else none
  | _ => none
 | v :: r => gq st r (fun vs st => K (v :: vs) st)
def sV {R : Type} (st : St) (vs : List PV) (K : List PV → Option R) : Option R :=
 match vs with
 | [] => K []
 | .row 0 i k :: r => match look st 0 i with
  | some (.row _ _ rows mt _) => bif mt then sV st r (fun vs => K (.row 0 i k :: vs)) else bif Ω.ieq (Ω.len rows) k then sV st r (fun vs => K (.d (.sl rows none) :: vs)) else none
  | _ => none
 | v :: r => sV st r (fun vs => K (v :: vs))
def Cg : List PV → Option Nat
 | [] => none
 | .row 0 i _ :: _ => some i
 | .map 0 i :: _ => some i
 | .ptr 0 i _ :: _ => some i
 | _ :: r => Cg r
def Ch (i n1 : Nat) : PV → Option PV
 | .d x => some (.d x)
 | .row 0 j k => bif Nat.beq j i then some (.row 0 n1 k) else none
 | .map 0 j => bif Nat.beq j i then some (.map 0 n1) else none
 | .ptr 0 j o => bif Nat.beq j i then some (.ptr 0 n1 o) else none
 | _ => none
def rP (i n1 : Nat) : List PV → Option (List PV)
 | [] => some []
 | v :: r => match Ch i n1 v, rP i n1 r with | some u, some us => some (u :: us) | _, _ => none
def tQ : Obj → Bool
 | .row _ _ _ _ _ => true
 | .map _ fl _ => fl
 | .box _ cs => tK cs
 | .void => false
 | .loop _ _ _ => false
def leave (Γ : Tab) (give : Bool) (rs : List ResultVar) (ρ : Env) (st : St) : Option (PV × St) :=
 match kW Ω Γ ρ st rs with
 | some vs => match give with
  | true => sV Ω st vs fun vs => match st with
   | fr :: st' => match Cg vs with
    | some i => match fr[i]? with
     | some o => bif tQ o then Ω.vF st' 0 o fun n Hl => match rP i n vs with | some us => some (one us, Hl) | none => none else none
     | none => none
    | none => bif fQ st' 0 then match rP 0 0 vs with | some us => some (one us, st') | none => none else none
   | _ => none
  | false => gq Ω st vs fun vs st => match st with
   | _ :: st => some (one (up.ups 1 vs), st)
   | _ => none
 | none => none
def mI {R : Type} (tk : List Nat) : Nat → List PV → St → (List PV → St → Option R) → Option R
 | _, [], st, K => K [] st
 | p, v :: r, st, K => bif mem p tk then (match v, st with
   | .row 1 i k, fr :: st' => Ω.pI st' 0 i fun ty sz rows mt _ => bif mt then bif Ω.ieq (Ω.len rows) k
     then Ω.kG st' 0 i .void fun Hl => mI tk (p + 1) r ((fr ++ [.row ty sz rows true none]) :: Hl) fun vs st => K (.row 0 fr.length k :: vs) st else none else none
   | _, _ => none) else mI tk (p + 1) r st fun vs st => K (v :: vs) st
def jX : List Nat → List PV → Env → Option Env
 | [], [], ρ => some ρ
 | t :: ts, v :: vs, ρ => jX ts vs (est ρ t (down 1 v))
 | _, _, _ => none
def round (Γ : Tab) (an : iG) (q : Site) (args : List PV) (st : St) : Option (PV × St) :=
 match args with
 | .jv l i :: args => match look st l i with
  | some (.loop site ρ none) => match jX q.ps args (nY (l + 1) ρ) with
   | some ρ1 => exec Ω Γ an q.BS ρ1 ([] :: st) fun e ρ2 st2 => match e, st2 with
    | .normal, fr :: Fu => match look Fu l i with
     | some (.loop pK ρ' none) => bif Nat.beq site pK then exec Ω Γ an q.body ρ2 (fr :: bJ Fu l i (.loop pK ρ' (some .normal))) fun e _ st4 => match st4 with
      | _ :: Ng => match look Ng l i with
       | some (.loop jY ρ'' (some .normal)) => bif Nat.beq site jY then (match e with
        | .normal => some (.d (.bool true), bJ Ng l i (.loop jY ρ'' none))
        | e => some (.d (.bool false), bJ Ng l i (.loop jY ρ'' (some e)))) else none
       | _ => none
      | [] => none else none
     | _ => none
    | _, _ => none
   | none => none
  | _ => none
 | _ => none
def body (Γ : Tab) (an : iG) (fn : Func) (args : List PV) (st : St) : Option (PV × St) :=
 match fn.body with
 | some c => mI Ω an.take 0 (down.fA 1 args) ([] :: st) fun args st => exec Ω Γ an c (enter 0 args) st fun e ρ st => match e with
  | .exit _ => none
  | _ => leave Ω Γ an.give fn.results.toList ρ st
 | none => none
end ops
def om : List (List D) → Option (List UInt8)
 | [] => some []
 | [.int .u8 n] :: r => match om r with | some l => some (n.toNat.toUInt8 :: l) | none => none
 | _ :: _ => none
def qh : List PV → List PV → Bool
 | [], [] => true
 | .d (.int _ x) :: r, .d (.int _ y) :: s => x == y && qh r s
 | .d (.bool x) :: r, .d (.bool y) :: s => x == y && qh r s
 | .d (.str x) :: r, .d (.str y) :: s => x == y && qh r s
 | _, _ => false
def tT : PV → PV → Bool
 | .d (.int _ x), .d (.int _ y) => x == y
 | .d (.str x), .d (.str y) => x == y
 | .agg x, .agg y => qh x y
 | _, _ => false
def sW : List (PV × PV) → PV → Option PV
 | [], _ => none
 | (k, v) :: r, x => if tT x k then some v else sW r x
def tV : List (PV × PV) → PV → PV → List (PV × PV)
 | [], x, y => [(x, y)]
 | (k, v) :: r, x, y => if tT x k then (x, y) :: r else (k, v) :: tV r x y
def Bb : List (PV × PV) → PV → List (PV × PV)
 | [], _ => []
 | (k, v) :: r, x => if tT x k then r else (k, v) :: Bb r x
def fF (n : Nat) : List (PV × PV) → Bool
 | [] => true
 | (k, v) :: r => below n k && below n v && fF n r
def iter (n : Nat) (dom : List Nat) (f : Env → St → Option (Ex × Env × St)) (ρ : Env) (st : St) : Option (Ex × Env × St) := do
 match ← f ρ st with
  | (.normal, ρ, st) => iter n dom f (aB dom ρ) (trim fF n (aB dom ρ) st)
  | (e, ρ, st) => some (e, aB dom ρ, trim fF n (aB dom ρ) st)
 partial_fixpoint
open Classical in
noncomputable def agree {R : Type} (x y : Option R) : Option R := if x = y then x else none
open Classical in
noncomputable def real [bY] (cf : Nat → List PV → St → Option (PV × St)) : Om where
 cf f args st := bif iF f then none else cf f args st
 rd := cf
 iter := iter
 tick f := f ()
 Xi f k := f k
 fits sz rows ext := (rows.all fun r => Nat.beq r.length sz) && (match ext with | none => true | some h => h.all fun r => Nat.beq r.length sz)
 plain := fF
 MW l f := f l.length
 BU x y f := f (x ++ y) (x ++ y).length
 Sz l i r f := f (l.set i.toNat r)
 BX l a b f := f ((l.take b.toNat).drop a.toNat)
 Ko z n f := f (List.replicate n.toNat z) (List.replicate n.toNat z).length
 Fh l k z f := match sW l k with | some v => f v | none => z
 SB l k v f := f (tV l k v)
 SC l k f := f (Bb l k)
 QT f := f []
 BZ f := f []
 Fj l f := f l.length
 wrap := IntKind.wrap
 add := (· + ·)
 sub := (· - ·)
 mul := (· * ·)
 neg := (- ·)
 ieq x y := x == y
 ilt x y := decide (x < y)
 jc x y := decide (x ≤ y)
 tdiv := Int.tdiv
 tmod := Int.tmod
 seq x y := x.toList == y.toList
 slt x y := Op.bytesLess x.toList y.toList
 zk s := s.size
 adO x y := x ++ y
 adP s l h := s.extract l.toNat h.toNat
 byte s i := ((s[i.toNat]?).map (·.toNat)).getD 0
 len l := l.length
 nth l i := if 0 ≤ i then l[i.toNat]? else none
 SA l i r := l.set i.toNat r
 cat x y := x ++ y
 cut l a b := (l.take b.toNat).drop a.toNat
 fill z n := List.replicate n.toNat z
 ofStr s := s.data.toList.map fun b => [.int .u8 b.toNat]
 toStr l := (om l).map fun l => ⟨l.toArray⟩
 find := sW
 put := tV
 del := Bb
 abx l := l.length
 same x y := decide (x = y)
 aby st l i off f := match look st l i with
  | some (.box _ cs) => f (down.fA (l + 1) (cs.drop off))
  | _ => none
 Br st l i off vs f := match look st l i with
  | some (.box t cs) => bif bU (up.ups (l + 1) vs) then bif Nat.ble (off + vs.length) cs.length
    then f (bJ st l i (.box t (cs.take off ++ up.ups (l + 1) vs ++ cs.drop (off + vs.length)))) else none else none
  | _ => none
 vE st l i f := match look st l i with
  | some (.map kk fl es) => f kk fl es
  | _ => none
 kG st l i o f := f (bJ st l i o)
 vF st l o f := bif fQ st l then f (dD st l) (iQ st l o) else none
 both x y := agree x y
 ni st l i f := match look st l i with
  | some (.loop site ρ p) => f site ρ p
  | _ => none
 pI st l i f := match look st l i with
  | some (.row ty sz rows mt cap) => f ty sz rows mt cap
  | _ => none
theorem tX [bY] {Ω : Om} {R : Type} (Γ : Tab) (an : iG) (x : XO) (l : List XO) (ρ : Env) (st : St) (K : Env → St → Option R) :
  dG Ω Γ an (x :: l) ρ st K = dG Ω Γ an [x] ρ st fun ρ st => dG Ω Γ an l ρ st K := by
 obtain ⟨dst, op, g, EN, dead⟩ := x
 simp only [dG]
section
variable [bY] {c : Nat → List PV → St → Option (PV × St)} {R A : Type}
theorem ji (l : List (List D)) (f : Int → Option R) : (real c).MW l f = f ((real c).len l) := rfl
theorem jk (x y : List (List D)) (f : List (List D) → Int → Option R) : (real c).BU x y f = f ((real c).cat x y) ((real c).len ((real c).cat x y)) := rfl
theorem vJ (l : List (List D)) (i : Int) (r : List D) (f : List (List D) → Option R) : (real c).Sz l i r f = f ((real c).SA l i r) := rfl
theorem kX (l : List (List D)) (i j : Int) (f : List (List D) → Option R) : (real c).BX l i j f = f ((real c).cut l i j) := rfl
theorem rQ (z : List D) (n : Int) (f : List (List D) → Int → Option R) : (real c).Ko z n f = f ((real c).fill z n) ((real c).len ((real c).fill z n)) := rfl
theorem mP (l : List (PV × PV)) (k : PV) (z : Option R) (f : PV → Option R) : (real c).Fh l k z f = (match (real c).find l k with | some v => f v | none => z) := rfl
theorem zn (l : List (PV × PV)) (k v : PV) (f : List (PV × PV) → Option R) : (real c).SB l k v f = f ((real c).put l k v) := rfl
theorem zo (l : List (PV × PV)) (k : PV) (f : List (PV × PV) → Option R) : (real c).SC l k f = f ((real c).del l k) := rfl
theorem oo (l : List (PV × PV)) (f : Int → Option R) : (real c).Fj l f = f ((real c).abx l) := rfl
theorem kY (f : List (List D) → Option R) : (real c).QT f = f [] := rfl
theorem Kr (f : List (PV × PV) → Option R) : (real c).BZ f = f [] := rfl
theorem kr (f : (A → Option R) → Option R) (k : A → Option R) : (real c).Xi f k = f k := rfl
end
end Go.X
