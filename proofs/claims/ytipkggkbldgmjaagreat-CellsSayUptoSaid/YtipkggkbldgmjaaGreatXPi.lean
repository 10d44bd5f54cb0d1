/- The interpreter: what a loaded function computes, on pure values. -/
import GoSem.Step
import Derived.Calls
namespace Go.X
open Go
set_option linter.unusedSectionVars false
inductive D where
 | int (k : IntKind) (n : Int)
 | bool (b : Bool)
 | str (s : ByteArray)
 | sl (rows : List (List D)) (ext : Option (List (List D)))
 | fn (f : Nat) (caps : List D)
 | mZ
 | yT
 | fP
 deriving Inhabited
inductive PV where
 | d (x : D)
 | agg (cells : List PV)
 | ptr (lvl i off : Nat)
 | bf (cells : List D)
 | row (lvl i : Nat) (len : Int)
 | mG (lvl i : Nat) (len idx : Int) (off : Nat)
 | fn (f : Nat) (caps : List PV)
 | map (lvl i : Nat)
 | tail (lvl i : Nat) (len lo : Int)
 | Bf (lvl i : Nat)
 | yV (l : List PV)
 | skip
 | ub
 | unk
 deriving Inhabited
inductive KC where
 | int (k : IntKind) | bool | str
inductive KK where
 | str | int (k : IntKind) | agg (cs : List KC)
inductive Ex where
 | normal | exit (id : Nat) | ret
 deriving Inhabited, DecidableEq
inductive Obj where
 | box (ty : Nat) (cells : List PV)
 | row (ty sz : Nat) (rows : List (List D)) (mt : Bool) (cap : Option Int)
 | map (kk : KK) (fl : Bool) (es : List (PV × PV))
 | void
 | loop (site : Nat) (env : List (Nat × PV)) (pend : Option Ex)
mutual
def bD : D → D → Bool
 | .int k n, .int k' n' => decide (k = k') && decide (n = n')
 | .bool a, .bool b => decide (a = b)
 | .str a, .str b => decide (a = b)
 | .sl r x, .sl r' x' => Zx r r' && bDo x x'
 | .fn f c, .fn f' c' => decide (f = f') && bDs c c'
 | .mZ, .mZ => true
 | .yT, .yT => true
 | .fP, .fP => true
 | _, _ => false
def bDs : List D → List D → Bool
 | [], [] => true
 | a :: r, b :: s => bD a b && bDs r s
 | _, _ => false
def Zx : List (List D) → List (List D) → Bool
 | [], [] => true
 | a :: r, b :: s => bDs a b && Zx r s
 | _, _ => false
def bDo : Option (List (List D)) → Option (List (List D)) → Bool
 | none, none => true
 | some a, some b => Zx a b
 | _, _ => false
end
mutual
theorem Uw : ∀ (x y : D), bD x y = true ↔ x = y
 | .int k n, y => by cases y <;> simp [bD]
 | .bool a, y => by cases y <;> simp [bD]
 | .str a, y => by cases y <;> simp [bD]
 | .sl r e, y => by cases y <;> simp [bD, G5 r, af8 e]
 | .fn f c, y => by cases y <;> simp [bD, Ga c]
 | .mZ, y => by cases y <;> simp [bD]
 | .yT, y => by cases y <;> simp [bD]
 | .fP, y => by cases y <;> simp [bD]
theorem Ga : ∀ (x y : List D), bDs x y = true ↔ x = y
 | [], y => by cases y <;> simp [bDs]
 | a :: r, y => by cases y <;> simp [bDs, Uw a, Ga r]
theorem G5 : ∀ (x y : List (List D)), Zx x y = true ↔ x = y
 | [], y => by cases y <;> simp [Zx]
 | a :: r, y => by cases y <;> simp [Zx, Ga a, G5 r]
theorem af8 : ∀ (x y : Option (List (List D))), bDo x y = true ↔ x = y
 | none, y => by cases y <;> simp [bDo]
 | some a, y => by cases y <;> simp [bDo, G5 a]
end
instance : DecidableEq D := fun a b => decidable_of_iff _ (Uw a b)
mutual
def bP : PV → PV → Bool
 | .d a, .d b => bD a b
 | .agg a, .agg b => bPs a b
 | .ptr a b c, .ptr a' b' c' => decide (a = a') && (decide (b = b') && decide (c = c'))
 | .bf a, .bf b => bDs a b
 | .row a b c, .row a' b' c' => decide (a = a') && (decide (b = b') && decide (c = c'))
 | .mG a b c d e, .mG a' b' c' d' e' => decide (a = a') && (decide (b = b') && (decide (c = c') && (decide (d = d') && decide (e = e'))))
 | .fn f c, .fn f' c' => decide (f = f') && bPs c c'
 | .map a b, .map a' b' => decide (a = a') && decide (b = b')
 | .tail a b c d, .tail a' b' c' d' => decide (a = a') && (decide (b = b') && (decide (c = c') && decide (d = d')))
 | .Bf a b, .Bf a' b' => decide (a = a') && decide (b = b')
 | .yV a, .yV b => bPs a b
 | .skip, .skip => true
 | .ub, .ub => true
 | .unk, .unk => true
 | _, _ => false
def bPs : List PV → List PV → Bool
 | [], [] => true
 | a :: r, b :: s => bP a b && bPs r s
 | _, _ => false
end
mutual
theorem aav : ∀ (x y : PV), bP x y = true ↔ x = y
 | .d a, y => by cases y <;> simp [bP, Uw]
 | .agg a, y => by cases y <;> simp [bP, Gb a]
 | .ptr a b c, y => by cases y <;> simp [bP]
 | .bf a, y => by cases y <;> simp [bP, Ga]
 | .row a b c, y => by cases y <;> simp [bP]
 | .mG a b c d e, y => by cases y <;> simp [bP]
 | .fn f c, y => by cases y <;> simp [bP, Gb c]
 | .map a b, y => by cases y <;> simp [bP]
 | .tail a b c d, y => by cases y <;> simp [bP]
 | .Bf a b, y => by cases y <;> simp [bP]
 | .yV a, y => by cases y <;> simp [bP, Gb a]
 | .skip, y => by cases y <;> simp [bP]
 | .ub, y => by cases y <;> simp [bP]
 | .unk, y => by cases y <;> simp [bP]
theorem Gb : ∀ (x y : List PV), bPs x y = true ↔ x = y
 | [], y => by cases y <;> simp [bPs]
 | a :: r, y => by cases y <;> simp [bPs, aav a, Gb r]
end
instance : DecidableEq PV := fun a b => decidable_of_iff _ (aav a b)
deriving instance DecidableEq for KC
deriving instance DecidableEq for KK
deriving instance DecidableEq for Obj
inductive Ty where
 | int (k : IntKind) | bool | str
 | agg (n : Nat) (fs : List (Nat × Nat × Nat))
 | slice (e sz bytes : Nat)
 | map (k e : Nat)
 | array (n e : Nat)
 | ptr (e : Nat)
 | sc
 | bad
 deriving Inhabited
def vO : List PV → Bool
 | [] => true
 | .d _ :: r => vO r
 | _ :: _ => false
def vD : PV → Bool
 | .d _ => true
 | .agg cs => vO cs
 | _ => false
def nH : List (PV × PV) → Bool
 | [] => true
 | (k, v) :: r => vD k && vD v && nH r
inductive Lv where
 | lit (n : Nat) | of (slot : Nat)
def pk {A : Type} (d : A) : List (Nat × A) → Nat → A
 | [], _ => d
 | (k, v) :: r, s => bif Nat.beq s k then v else pk d r s
structure kW where
 keep : List Nat
 lv : Nat → Lv := fun _ => .lit 0
 mt : Nat → Bool := fun _ => false
 dead : Nat → List Nat := fun _ => []
 own : Nat → Option Nat := fun _ => none
 rf : Nat → Bool := fun _ => false
 give : Bool := false
 arena : Bool := false
 take : List Nat := []
 hold : Nat → List Nat := fun _ => []
 cold : Nat → Bool := fun _ => false
 af9 : Nat → Bool := fun _ => false
 site : Nat → Nat := fun _ => 0
 cap : Nat → List Nat := fun _ => []
 again : Nat → Bool := fun _ => false
 split : Bool := false
structure Site where
 own : Nat
 n : Nat
 ps : List Nat
 RD : Code
 body : Code
class eY where
 site : Nat → Option Site
 glob : List (Nat × Array Value)
structure Tab where
 ty : Nat → Ty
 zero : Nat → List D
 ann : Nat → kW
 eqs : Nat → Bool := fun _ => false
abbrev Env := List (Nat × PV)
abbrev St := List (List Obj)
structure Om where
 cf : Nat → List PV → St → Option (PV × St)
 rd : Nat → List PV → St → Option (PV × St)
 iter : Nat → List Nat → (Env → St → Option (Ex × Env × St)) → Env → St → Option (Ex × Env × St)
 tick : {R : Type} → (Unit → Option R) → Option R
 grp : {R A : Type} → ((A → Option R) → Option R) → (A → Option R) → Option R
 fits : Nat → List (List D) → Option (List (List D)) → Bool
 plain : Nat → List (PV × PV) → Bool
 Ux : {R : Type} → List (List D) → (Int → Option R) → Option R
 G6 : {R : Type} → List (List D) → List (List D) → (List (List D) → Int → Option R) → Option R
 aaw : {R : Type} → List (List D) → Int → List D → (List (List D) → Option R) → Option R
 aax : List (List D) → Int → List D → List (List D)
 cat : List (List D) → List (List D) → List (List D)
 cut : List (List D) → Int → Int → List (List D)
 fill : List D → Int → List (List D)
 find : List (PV × PV) → PV → Option PV
 put : List (PV × PV) → PV → PV → List (PV × PV)
 del : List (PV × PV) → PV → List (PV × PV)
 apk : List (PV × PV) → Int
 FW : {R : Type} → List (List D) → Int → Int → (List (List D) → Option R) → Option R
 Lb : {R : Type} → List D → Int → (List (List D) → Int → Option R) → Option R
 WZ : {R : Type} → List (PV × PV) → PV → Option R → (PV → Option R) → Option R
 aga : {R : Type} → List (PV × PV) → PV → PV → (List (PV × PV) → Option R) → Option R
 aay : {R : Type} → List (PV × PV) → PV → (List (PV × PV) → Option R) → Option R
 Zy : {R : Type} → (List (List D) → Option R) → Option R
 NA : {R : Type} → (List (PV × PV) → Option R) → Option R
 RH : {R : Type} → List (PV × PV) → (Int → Option R) → Option R
 wrap : IntKind → Int → Int
 add : Int → Int → Int
 sub : Int → Int → Int
 mul : Int → Int → Int
 neg : Int → Int
 ieq : Int → Int → Bool
 ilt : Int → Int → Bool
 jF : Int → Int → Bool
 tdiv : Int → Int → Int
 tmod : Int → Int → Int
 seq : ByteArray → ByteArray → Bool
 slt : ByteArray → ByteArray → Bool
 DT : ByteArray → Int
 apl : ByteArray → ByteArray → ByteArray
 apm : ByteArray → Int → Int → ByteArray
 byte : ByteArray → Int → Int
 len : List (List D) → Int
 nth : List (List D) → Int → Option (List D)
 ofStr : ByteArray → List (List D)
 toStr : List (List D) → Option ByteArray
 same : St → St → Bool
 akg : {R : Type} → St → Nat → Nat → Nat → (List PV → Option R) → Option R
 NC : {R : Type} → St → Nat → Nat → Nat → List PV → (St → Option R) → Option R
 Bh : {R : Type} → St → Nat → Nat → (KK → Bool → List (PV × PV) → Option R) → Option R
 sK : {R : Type} → St → Nat → Nat → Obj → (St → Option R) → Option R
 yF : {R : Type} → St → Nat → Obj → (Nat → St → Option R) → Option R
 both : {R : Type} → Option R → Option R → Option R
 G7 : {R : Type} → St → Nat → Nat → (Nat → List (Nat × PV) → Option Ex → Option R) → Option R
 sM : {R : Type} → St → Nat → Nat → (Nat → Nat → List (List D) → Bool → Option Int → Option R) → Option R
def jw : Env → Nat → PV
 | [], _ => .unk
 | (k, v) :: r, t => bif Nat.beq k t then v else jw r t
def est : Env → Nat → PV → Env
 | [], t, x => [(t, x)]
 | (k, v) :: r, t, x => bif Nat.beq k t then (t, x) :: r else bif Nat.blt t k then (t, x) :: (k, v) :: r else (k, v) :: est r t x
def del : Env → Nat → Env
 | [], _ => []
 | (k, v) :: r, t => bif Nat.beq k t then del r t else (k, v) :: del r t
def Bj : List Nat → Env → Env
 | [], ρ => ρ
 | x :: r, ρ => Bj r (del ρ x)
def mem : Nat → List Nat → Bool
 | _, [] => false
 | k, x :: r => bif Nat.beq k x then true else mem k r
def E9 (an : kW) (ρ : Env) (t : Nat) (b : Bool) : Env := bif an.again t then est ρ t (.d (.bool b)) else del ρ t
def bn (l : List Nat) : Env → Env
 | [] => []
 | (k, v) :: r => bif mem k l then (k, v) :: bn l r else bn l r
def keys : Env → List Nat
 | [] => []
 | (k, _) :: r => k :: keys r
def lit : Value → PV
 | .int k n => .d (.int k n)
 | .bool b => .d (.bool b)
 | .string s => .d (.str s)
 | .slice none 0 0 => .d (.sl [] (some []))
 | .pointer none => .d .mZ
 | .nilFunc => .d .fP
 | .map none => .d .yT
 | .agg cs => match lits cs.toList with | some l => .agg l | none => .unk
 | _ => .unk
where
 akh : Value → Option D
  | .int k n => some (.int k n)
  | .bool b => some (.bool b)
  | .string s => some (.str s)
  | .slice none 0 0 => some (.sl [] (some []))
  | .pointer none => some .mZ
  | .nilFunc => some .fP
  | .map none => some .yT
  | _ => none
 lits : List Value → Option (List PV)
  | [] => some []
  | v :: r => match akh v, lits r with | some d, some l => some (.d d :: l) | _, _ => none
def ev (ρ : Env) : Operand → PV
 | .tmp t => jw ρ t
 | .const v => lit v
 | .func f => .d (.fn f [])
 | .global _ => .unk
def evs (ρ : Env) : List Operand → List PV
 | [] => []
 | x :: r => ev ρ x :: evs ρ r
def ds : List D → List PV
 | [] => []
 | x :: r => .d x :: ds r
def FX : List PV → Option (List D)
 | [] => some []
 | .d x :: r => match FX r with | some l => some (x :: l) | none => none
 | _ :: _ => none
def unpack : PV → List PV
 | .agg cs => cs
 | v => [v]
def jl [eY] (g : Nat) : Bool := match eY.site g with | none => false | some _ => true
section ops
variable [eY] (Ω : Om)
def sN : IntKind → IntKind → Bool
 | .i8, .i8 => true | .i16, .i16 => true | .i32, .i32 => true | .i64, .i64 => true
 | .u8, .u8 => true | .u16, .u16 => true | .u32, .u32 => true | .u64, .u64 => true
 | _, _ => false
def arith (k : IntKind) (op : BinOp) (x y : Int) : Option D :=
 match op with
 | .add => some (.int k (Ω.wrap k (Ω.add x y)))
 | .sub => some (.int k (Ω.wrap k (Ω.sub x y)))
 | .mul => some (.int k (Ω.wrap k (Ω.mul x y)))
 | .eql => some (.bool (Ω.ieq x y))
 | .neq => some (.bool (!Ω.ieq x y))
 | .lss => some (.bool (Ω.ilt x y))
 | .leq => some (.bool (Ω.jF x y))
 | .gtr => some (.bool (Ω.ilt y x))
 | .geq => some (.bool (Ω.jF y x))
 | _ => none
def aaz (op : BinOp) (x y : ByteArray) : Option D :=
 match op with
 | .eql => some (.bool (Ω.seq x y))
 | .neq => some (.bool (!Ω.seq x y))
 | .lss => some (.bool (Ω.slt x y))
 | .leq => some (.bool (Ω.slt x y || Ω.seq x y))
 | .gtr => some (.bool (!(Ω.slt x y || Ω.seq x y)))
 | .geq => some (.bool (!Ω.slt x y))
 | _ => none
def bin (t : Ty) (op : BinOp) : PV → PV → Option D
 | .d (.int k x), .d (.int k' y) => bif sN k k' then arith Ω k op x y else none
 | .d (.bool x), .d (.bool y) => match t, op with | .bool, .eql => some (.bool (x == y)) | .bool, .neq => some (.bool (!(x == y))) | _, _ => none
 | .d (.str x), .d (.str y) => aaz Ω op x y
 | _, _ => none
def ND (t : Ty) : PV → PV → Option Bool
 | .ptr .., .d .mZ => match t with | .ptr _ => some false | _ => none
 | .d .mZ, .d .mZ => match t with | .ptr _ => some true | _ => none
 | .map .., .d .yT => match t with | .map _ _ => some false | _ => none
 | .d .yT, .d .yT => match t with | .map _ _ => some true | _ => none
 | _, _ => none
def down (n : Nat) : PV → PV
 | .d x => .d x
 | .agg cs => .agg (iM cs)
 | .ptr l i o => .ptr (l + n) i o
 | .bf cs => .bf cs
 | .row l i k => .row (l + n) i k
 | .mG l i k x o => .mG (l + n) i k x o
 | .fn f cs => .fn f (iM cs)
 | .map l i => .map (l + n) i
 | .tail l i k o => .tail (l + n) i k o
 | .Bf l i => .Bf (l + n) i
 | .yV cs => .yV (iM cs)
 | .skip => .skip
 | .ub => .ub
 | .unk => .unk
where iM : List PV → List PV
 | [] => []
 | v :: r => down n v :: iM r
def sub (l n : Nat) (f : Nat → PV) : PV := bif Nat.ble n l then f (l - n) else .unk
def up (n : Nat) : PV → PV
 | .d x => .d x
 | .agg cs => .agg (ups cs)
 | .ptr l i o => sub l n fun l => .ptr l i o
 | .bf cs => .bf cs
 | .row l i k => sub l n fun l => .row l i k
 | .mG l i k x o => sub l n fun l => .mG l i k x o
 | .fn f cs => .fn f (ups cs)
 | .map l i => sub l n fun l => .map l i
 | .tail l i k o => sub l n fun l => .tail l i k o
 | .Bf l i => sub l n fun l => .Bf l i
 | .yV cs => .yV (ups cs)
 | .skip => .unk
 | .ub => .ub
 | .unk => .unk
where ups : List PV → List PV
 | [] => []
 | v :: r => up n v :: ups r
def Lc (n : Nat) : Env → Env
 | [] => []
 | (k, v) :: r => (k, down n v) :: Lc n r
def look : St → Nat → Nat → Option Obj
 | fr :: _, 0, i => fr[i]?
 | _ :: r, l + 1, i => look r l i
 | [], _, _ => none
def fM : St → Nat → Nat → Obj → St
 | fr :: r, 0, i, o => fr.set i o :: r
 | fr :: r, l + 1, i, o => fr :: fM r l i o
 | [], _, _, _ => []
def kX : St → Nat → Obj → St
 | fr :: r, 0, o => (fr ++ [o]) :: r
 | fr :: r, l + 1, o => fr :: kX r l o
 | [], _, _ => []
def fE : St → Nat → Nat
 | fr :: _, 0 => fr.length
 | _ :: r, l + 1 => fE r l
 | [], _ => 0
def iZ : St → Nat → Bool
 | _ :: _, 0 => true
 | _ :: r, l + 1 => iZ r l
 | [], _ => false
def qz (ρ : Env) : Lv → Nat
 | .lit n => n
 | .of s => match jw ρ s with | .ptr l _ _ => l | .row l _ _ => l | .map l _ => l | _ => 0
def freeze (st : St) : PV → PV × St
 | .row l i k => match look st l i with
  | some (.row ty sz rows mt cap) => bif Ω.ieq (Ω.len rows) k then (.d (.sl rows none), bif mt then fM st l i (.row ty sz rows false cap) else st) else (.unk, st)
  | _ => (.unk, st)
 | v => (v, st)
def freezes (st : St) : List PV → List PV × St
 | [] => ([], st)
 | v :: r => let q := freeze Ω st v; let s := freezes q.2 r; (q.1 :: s.1, s.2)
def eu {R : Type} (st : St) (vs : List PV) (K : List PV → St → Option R) : Option R :=
 match vs with
 | [] => K [] st
 | .row l i k :: r => match look st l i with
  | some (.row ty sz rows mt cap) => bif Ω.ieq (Ω.len rows) k then eu (bif mt then fM st l i (.row ty sz rows false cap) else st) r (fun vs st => K (.d (.sl rows none) :: vs) st) else none
  | _ => none
 | v :: r => eu st r (fun vs st => K (v :: vs) st)
def gD {R : Type} (tk : List Nat) : Nat → List PV → St → (List PV → St → Option R) → Option R
 | _, [], st, K => K [] st
 | p, v :: r, st, K => bif mem p tk then gD tk (p + 1) r st fun vs st => K (v :: vs) st
  else eu Ω st [v] fun u st => gD tk (p + 1) r st fun vs st => K (u ++ vs) st
def hdP : List PV → PV
 | [v] => v
 | _ => .unk
def below (n : Nat) : PV → Bool
 | .d _ => true
 | .agg cs => belows cs
 | .ptr l i _ => bif Nat.beq l 0 then Nat.blt i n else true
 | .bf _ => true
 | .row l i _ => bif Nat.beq l 0 then Nat.blt i n else true
 | .mG l i _ _ _ => bif Nat.beq l 0 then Nat.blt i n else true
 | .fn _ cs => belows cs
 | .map l i => bif Nat.beq l 0 then Nat.blt i n else true
 | .tail l i _ _ => bif Nat.beq l 0 then Nat.blt i n else true
 | .Bf l i => bif Nat.beq l 0 then Nat.blt i n else true
 | .yV cs => belows cs
 | .skip => true
 | .ub => true
 | .unk => true
where belows : List PV → Bool
 | [] => true
 | v :: r => bif below n v then belows r else false
def DU (n : Nat) : Env → Bool
 | [] => true
 | (_, v) :: r => bif below n v then DU n r else false
def Uy (_pl : Nat → List (PV × PV) → Bool) (n : Nat) : Obj → Bool
 | .box _ cs => below.belows n cs
 | .row _ _ _ _ _ => true
 | .map _ fl _ => fl
 | .void => true
 | .loop _ ρ _ => DU n ρ
def G8 (pl : Nat → List (PV × PV) → Bool) (n : Nat) : List Obj → Bool
 | [] => true
 | o :: r => bif Uy pl n o then G8 pl n r else false
def trim (pl : Nat → List (PV × PV) → Bool) (n : Nat) (ρ : Env) : St → St
 | [] => []
 | fr :: r => bif Nat.ble fr.length n then fr :: r else bif DU n ρ then bif G8 pl n (fr.take n) then fr.take n :: r else fr :: r else fr :: r
def vP {R : Type} (b : Bool) (r : PV × St) (K : PV → St → Option R) : Option R :=
 bif b then eu Ω r.2 [r.1] fun vs st => K (hdP vs) st else K r.1 r.2
def Bl {R : Type} (b : Bool) (n : Nat) (K : PV → St → Option R) (v : PV) (st : St) : Option R :=
 bif b then (match v with | .d x => K (.d x) (trim Ω.plain n [] st) | _ => none) else K v st
def yG (st : St) : PV → Option (List PV)
 | .ptr l i off => match look st l i with
  | some (.box _ cs) => some (down.iM l (cs.drop off))
  | _ => none
 | .mG l i k x off => match look st l i with
  | some (.row _ _ rows _ _) => bif Ω.ieq (Ω.len rows) k then (match Ω.nth rows x with | some r => some (ds (r.drop off)) | none => none) else none
  | _ => none
 | .bf cs => some (ds cs)
 | _ => none
def sO {R : Type} (st : St) (v : PV) (K : List PV → Option R) : Option R :=
 match v with
 | .ptr l i off => match look st l i with
  | some (.box _ cs) => K (down.iM l (cs.drop off))
  | _ => none
 | .mG l i k x off => match look st l i with
  | some (.row _ _ rows _ _) => bif Ω.ieq (Ω.len rows) k then (Ω.nth rows x).bind fun r => K (ds (r.drop off)) else none
  | _ => none
 | .bf cs => K (ds cs)
 | _ => none
def Bn : List PV → Option PV
 | v :: _ => some v
 | [] => none
def pack (Γ : Tab) (t : Nat) (cs : List PV) : Option PV :=
 match Γ.ty t with
 | .agg n _ => bif Nat.ble n cs.length then some (.agg (cs.take n)) else none
 | .array _ _ => none
 | .bad => none
 | _ => Bn cs
def jm : PV → Bool
 | .agg _ => false
 | .yV _ => false
 | .skip => false
 | .ub => false
 | .unk => false
 | _ => true
def eB : List PV → Bool
 | [] => true
 | v :: r => bif jm v then eB r else false
def yX (place : Nat → Option (Nat × Nat)) (cells : List PV) : List (Nat × PV) → Option (List PV)
 | [] => some cells
 | (i, v) :: r => match place i with
  | some (off, sz) => bif Nat.beq (unpack v).length sz then bif Nat.ble (off + sz) cells.length then bif eB (unpack v)
   then yX place (cells.take off ++ unpack v ++ cells.drop (off + sz)) r else none else none else none
  | none => none
def W9 (fs : List (Nat × Nat × Nat)) (i : Nat) : Option (Nat × Nat) := match fs[i]? with | some q => some (q.1, q.2.1) | none => none
def Zz (z : List PV) : Nat → List PV
 | 0 => []
 | n + 1 => z ++ Zz z n
def chunk (sz : Nat) : Nat → List D → List (List D)
 | 0, _ => []
 | n + 1, l => l.take sz :: chunk sz n (l.drop sz)
def br {R : Type} (b : Bool) (x y : Unit → Option R) : Option R := (bif b then x else y) ()
theorem Bo {R : Type} (x y : Unit → Option R) : br true x y = x () := rfl
theorem vQ {R : Type} (x y : Unit → Option R) : br false x y = y () := rfl
theorem oD {R S : Type} (b : Bool) (x y : Unit → Option R) (f : R → Option S) : (br b x y).bind f = br b (fun _ => (x ()).bind f) (fun _ => (y ()).bind f) := by cases b <;> rfl
abbrev iD (R : Type) := PV → St → Option R
variable {R : Type}
def rowsOf (st : St) : PV → Option (Int × List (List D))
 | .d (.sl rows _) => some (Ω.len rows, rows)
 | .row l i k => match look st l i with
  | some (.row _ _ rows _ _) => some (k, rows)
  | _ => none
 | _ => none
def lg (s : ByteArray) : List (List D) := s.data.toList.map fun b => [.int .u8 b.toNat]
def limit : Int := 140737488355328
def sP (mt : Bool) (lv : Nat) (e sz bytes : Nat) (st : St) (rows : List (List D)) (K : iD R) : Option R :=
 Ω.Ux rows fun n => bif Ω.jF (Ω.mul n bytes) limit then bif iZ st lv then K (.row lv (fE st lv) n) (kX st lv (.row e sz rows mt none)) else none else none
def capOf (cap : Option Int) (n : Int) : Option Int := match cap with | some c => bif Ω.jF n c then cap else none | none => none
def jV (Γ : Tab) (mt : Bool) (lv : Nat) (e sz bytes : Nat) (st : St) (s x : PV) (K : iD R) : Option R :=
 match Γ.zero e, rowsOf Ω st x with
 | _ :: _, some (kx, xs) => bif Ω.ieq (Ω.len xs) kx then bif Ω.fits sz xs none then (match s with
  | .d (.sl rows ext) => br (Ω.ieq (Ω.len xs) 0) (fun _ => K s st) (fun _ => bif Ω.fits sz rows ext then (match ext with
   | some [] => Ω.G6 rows xs fun rows' _ => sP Ω mt lv e sz bytes st rows' K
   | _ => none) else none)
  | .row l i k => match look st l i with
   | some (.row e' szr rows Uz cap) => bif Ω.ieq (Ω.len rows) k then br (Ω.ieq (Ω.len xs) 0) (fun _ => K s st) (fun _ => bif Nat.beq e e' then bif Nat.beq sz szr
     then Ω.G6 rows xs fun rows' n => bif Ω.jF (Ω.mul n bytes) limit
      then (match cap with
       | none => K (.row l i n) (fM st l i (.row e' szr rows' Uz none))
       | some c => bif Ω.jF n c then K (.row l i n) (fM st l i (.row e' szr rows' Uz (some c))) else none) else none
     else none else none) else none
   | _ => none
  | _ => none) else none else none
 | _, _ => none
def jJ (Γ : Tab) (own : Option Nat) (mt : Bool) (lv : Nat) (e sz bytes : Nat) (st : St) (s x : PV) (K : iD R) : Option R :=
 match own, s with
 | some _, .d (.sl [] (some [])) => bif iZ st 0 then Ω.Zy fun rows => jV Ω Γ mt 0 e sz bytes (kX st 0 (.row e sz rows mt none)) (.row 0 (fE st 0) 0) x K else none
 | _, _ => jV Ω Γ mt lv e sz bytes st s x K
def NG (d : Int) : Option PV → Option Int
 | none => some d
 | some (.d (.int _ n)) => some n
 | _ => none
def jG (st : St) (rows : List (List D)) (ext : Option (List (List D))) (lo hi mx : Option PV) (zz : Bool) (K : iD R) : Option R :=
 Ω.Ux rows fun n =>
 match NG 0 lo, NG n hi, mx, ext with
 | some l, some h, none, none => bif Ω.jF 0 l then bif Ω.jF l h then bif Ω.jF h n then Ω.FW rows l h fun q => K (.d (.sl q none)) st else none else none else none
 | some l, some h, none, some hid => Ω.G6 rows hid fun all tot => bif Ω.jF 0 l then bif Ω.jF l h then bif Ω.jF h tot
   then Ω.FW all l h fun q => Ω.FW all h tot fun q' => K (.d (.sl q (some q'))) st else none else none else none
 | some l, some h, some (.d (.int _ m)), _ => match hi with
  | none => none
  | some _ => bif Ω.jF 0 l then bif Ω.jF l h then bif Ω.jF h m then bif Ω.jF m n
   then (bif zz then K (.d (.sl [] (some []))) st else Ω.FW rows l h fun q => Ω.FW rows h m fun q' => K (.d (.sl q (some q'))) st) else none else none else none else none
 | _, _, _, _ => none
def RI : Option Operand → Bool
 | some (.const (.int _ (.ofNat 0))) => true
 | _ => false
def ZA (st : St) (i ty sz : Nat) (rows : List (List D)) (k : Int) (lo hi mx : Option PV) (K : iD R) : Option R :=
 match lo, hi, mx with
 | none, some (.d (.int _ h)), none => bif Ω.jF 0 h then bif Ω.jF h k then Ω.FW rows 0 h fun q => K (.row 0 (fE st 0) h) (kX (fM st 0 i .void) 0 (.row ty sz q true none)) else none else none
 | some (.d (.int _ o)), none, none => bif Ω.jF 0 o then bif Ω.jF o k then K (.tail 0 i k o) st else none else none
 | none, some (.d (.int _ h)), some (.d (.int _ m)) => bif Ω.jF 0 h then bif Ω.jF h m then bif Ω.jF m k then Ω.FW rows 0 h fun q => K (.row 0 (fE st 0) h) (kX (fM st 0 i .void) 0 (.row ty sz q true none)) else none else none else none
 | _, _, _ => none
def qD (t : Ty) (st : St) (x : PV) (lo hi mx : Option PV) (zz re : Bool) (K : iD R) : Option R :=
 match t, x with
 | .str, .d (.str s) => match NG 0 lo, NG (Ω.DT s) hi, mx with
  | some l, some h, none => bif Ω.jF 0 l then bif Ω.jF l h then bif Ω.jF h (Ω.DT s) then K (.d (.str (Ω.apm s l h))) st else none else none else none
  | _, _, _ => none
 | .slice _ sz _, .d (.sl rows ext) => bif Ω.fits sz rows ext then jG Ω st rows ext lo hi mx zz K else none
 | .slice _ sz' _, .row l i k => match look st l i with
  | some (.row ty sz rows true _) => bif re then bif Nat.beq l 0 then bif Nat.beq sz sz' then bif Ω.ieq (Ω.len rows) k then ZA Ω st i ty sz rows k lo hi mx K else none else none else none else none
  | some (.row _ sz rows false cap) => bif Nat.beq sz sz' then bif Ω.ieq (Ω.len rows) k then (match cap with
   | some c => br (Ω.ieq c k) (fun _ => jG Ω st rows (some []) lo hi mx zz K) (fun _ => jG Ω st rows none lo hi mx zz K)
   | none => jG Ω st rows none lo hi mx zz K) else none else none
  | _ => none
 | _, _ => none
def eqD : Ty → D → D → Option Bool
 | .int _, .int k x, .int k' y => bif sN k k' then some (Ω.ieq x y) else none
 | .bool, .bool x, .bool y => some (x == y)
 | .str, .str x, .str y => some (Ω.seq x y)
 | _, _, _ => none
def Bp (Γ : Tab) : List (Nat × Nat × Nat) → List PV → List PV → Option Bool
 | [], [], [] => some true
 | g :: gs, .d u :: us, .d v :: vs => match eqD Ω (Γ.ty g.2.2) u v with
  | none => none
  | some b => match Bp Γ gs us vs with
   | none => none
   | some c => some (b && c)
 | _, _, _ => none
def KU (Γ : Tab) (t : Nat) (op : BinOp) (st : St) (x y : PV) (K : iD R) : Option R :=
 match Γ.ty t, x, y with
 | .agg _ gs, .agg us, .agg vs => match Bp Ω Γ gs us vs with
  | some b => match op with
   | .eql => K (.d (.bool b)) st
   | .neq => K (.d (.bool !b)) st
   | _ => none
  | none => none
 | _, _, _ => none
def DV : Operand → Bool
 | .const (.slice none 0 0) => true
 | _ => false
def G9 (t : Ty) (op : BinOp) (st : St) (x : PV) (K : iD R) : Option R :=
 match t, x, op with
 | .slice _ _ _, .d (.sl rows _), .eql => br (Ω.ieq (Ω.len rows) 0) (fun _ => K .ub st) (fun _ => K (.d (.bool false)) st)
 | .slice _ _ _, .d (.sl rows _), .neq => br (Ω.ieq (Ω.len rows) 0) (fun _ => K .ub st) (fun _ => K (.d (.bool true)) st)
 | _, _, _ => none
def UA : Int := 9223372036854775807
def Fa (t : Ty) (op : BinOp) (st : St) (x y : PV) (K : iD R) : Option R :=
 match bin Ω t op x y with
 | some v => K (.d v) st
 | none => match ND t x y with
  | some b => match op with
   | .eql => K (.d (.bool b)) st
   | .neq => K (.d (.bool !b)) st
   | _ => none
  | none => match op, x, y with
   | .add, .d (.str a), .d (.str b) => bif Ω.jF (Ω.add (Ω.DT a) (Ω.DT b)) UA then K (.d (.str (Ω.apl a b))) st else none
   | .quo, .d (.int k a), .d (.int k' b) => bif sN k k' then bif Ω.ieq b 0 then none else K (.d (.int k (Ω.wrap k (Ω.tdiv a b)))) st else none
   | .rem, .d (.int k a), .d (.int k' b) => bif sN k k' then bif Ω.ieq b 0 then none else K (.d (.int k (Ω.tmod a b))) st else none
   | _, _, _ => none
def Fb (Γ : Tab) : List (Nat × Nat × Nat) → Option (List KC)
 | [] => some []
 | q :: r => match Γ.ty q.2.2, Fb Γ r with
  | .int k, some cs => some (.int k :: cs)
  | .bool, some cs => some (.bool :: cs)
  | .str, some cs => some (.str :: cs)
  | _, _ => none
def sQ (Γ : Tab) (t : Nat) : Option KK :=
 match Γ.ty t with
 | .str => some .str
 | .int k => some (.int k)
 | .agg _ fs => bif Γ.eqs t then (match Fb Γ fs with | some cs => some (.agg cs) | none => none) else none
 | _ => none
def mg : List KC → List KC → Bool
 | [], [] => true
 | .int j :: a, .int k :: b => bif sN j k then mg a b else false
 | .bool :: a, .bool :: b => mg a b
 | .str :: a, .str :: b => mg a b
 | _, _ => false
def FY : KK → KK → Bool
 | .str, .str => true
 | .int j, .int k => sN j k
 | .agg a, .agg b => mg a b
 | _, _ => false
def fC : List KC → List PV → Bool
 | [], [] => true
 | .int k :: cs, .d (.int j _) :: vs => bif sN k j then fC cs vs else false
 | .bool :: cs, .d (.bool _) :: vs => fC cs vs
 | .str :: cs, .d (.str _) :: vs => fC cs vs
 | _, _ => false
def iw : KK → PV → Bool
 | .int k, .d (.int j _) => sN k j
 | .str, .d (.str _) => true
 | .agg cs, .agg vs => fC cs vs
 | _, _ => false
def o8 (Γ : Tab) (kk : KK) (e : Nat) (ok : Bool) (st : St) (m k : PV) (K : iD R) : Option R :=
 let give (v : PV) (b : Bool) : PV := bif ok then .yV [v, .d (.bool b)] else v
 bif iw kk k then
 match m, pack Γ e (ds (Γ.zero e)) with
 | .d .yT, some z => K (give z false) st
 | .map l i, some z => match look st l i with
  | some (.map Gc _ es) => bif FY kk Gc then Ω.WZ es k (K (give z false) st) (fun v => K (give (down l v) true) st) else none
  | _ => none
 | _, _ => none
 else none
def nQ : PV → List PV → PV
 | .agg _, vs => .agg vs
 | _, vs => match vs with | [v] => v | _ => .unk
def Ld : PV → Bool
 | .agg cs => eB cs
 | v => jm v
def aje (Γ : Tab) (t j : Nat) : Option (Nat × Nat) :=
 match Γ.ty t with
 | .slice e sz _ => bif Nat.beq j 0 then some (e, sz) else none
 | .agg _ fs => match fs.find? (fun q => Nat.beq q.1 j) with
  | some q => match Γ.ty q.2.2 with
   | .slice e sz _ => some (e, sz)
   | _ => none
  | none => none
 | _ => none
def jd (Γ : Tab) (t : Nat) : Nat → List D → St → (List PV → St → Option R) → Option R
 | _, [], st, K => K [] st
 | j, d :: r, st, K => match d, aje Γ t j with
  | .sl [] (some []), some q => Ω.Zy fun rows => jd Γ t (j + 1) r (kX st 0 (.row q.1 q.2 rows true none)) fun cs st' => K (.row 0 (fE st 0) 0 :: cs) st'
  | d, _ => jd Γ t (j + 1) r st fun cs st' => K (.d d :: cs) st'
def evalOp (Γ : Tab) (an : kW) (ρ : Env) (st : St) (dst : Option Nat) (op : Op) (K : iD R) : Option R :=
 let d := match dst with | some d => d | none => 0
 match op with
 | .move x => K (ev ρ x) st
 | .assign x => match an.own d with
  | some t => match x, Γ.ty t with
   | .const (.slice none 0 0), .slice e sz _ => bif iZ st 0 then Ω.Zy fun rows => K (.row 0 (fE st 0) 0) (kX st 0 (.row e sz rows (an.mt d) none)) else none
   | _, _ => K (ev ρ x) st
  | none => K (ev ρ x) st
 | .pick c a b => match ev ρ c with | .d (.bool t) => br t (fun _ => K (ev ρ a) st) (fun _ => K (ev ρ b) st) | _ => none
 | .box t x => eu Ω st (unpack (ev ρ x)) fun cs st => bif an.cold d then (match FX cs with | some l => K (.bf l) st | none => none) else
   match an.own d, qz ρ (an.lv d) with
   | some t2, 0 => (match FX cs with | some l => bif iZ st 0 then jd Ω Γ t2 0 l st fun cs st => K (.ptr 0 (fE st 0) 0) (kX st 0 (.box t cs)) else none | none => none)
   | _, lv => bif iZ st lv then bif eB (up.ups lv cs) then K (.ptr lv (fE st lv) 0) (kX st lv (.box t (up.ups lv cs))) else none else none
 | .alloc t => match Γ.zero t with
  | [] => none
  | z => match an.own d with
   | none => bif iZ st (qz ρ (an.lv d)) then K (.ptr (qz ρ (an.lv d)) (fE st (qz ρ (an.lv d))) 0) (kX st (qz ρ (an.lv d)) (.box t (ds z))) else none
   | some _ => bif iZ st 0 then jd Ω Γ t 0 z st fun cs st => K (.ptr 0 (fE st 0) 0) (kX st 0 (.box t cs)) else none
 | .load t a => sO Ω st (ev ρ a) fun cs => match pack Γ t cs with
  | some v => K v st
  | none => none
 | .store t a x => bif Nat.beq (Γ.zero t).length (unpack (ev ρ x)).length then bif Nat.ble 1 (Γ.zero t).length then match ev ρ a with
  | .ptr l i off => match look st l i with
   | some (.box t cs) => bif eB (up.ups l (unpack (ev ρ x))) then bif Nat.ble (off + (unpack (ev ρ x)).length) cs.length
    then K .skip (fM st l i (.box t (cs.take off ++ up.ups l (unpack (ev ρ x)) ++ cs.drop (off + (unpack (ev ρ x)).length)))) else none else none
   | _ => none
  | .mG l i k ix off => eu Ω st (unpack (ev ρ x)) fun vs st =>
    match look st l i with
    | some (.row ty sz rows true cap) => bif Ω.ieq (Ω.len rows) k then (Ω.nth rows ix).bind fun r => (match FX vs with
     | some vs => bif Nat.ble (off + vs.length) r.length then Ω.aaw rows ix (r.take off ++ vs ++ r.drop (off + vs.length)) fun rows' => K .skip (fM st l i (.row ty sz rows' true cap)) else none
     | none => none) else none
    | _ => none
  | _ => none
  else none else none
 | .fieldAddr t x f => match Γ.ty t with
  | .agg _ fs => match fs[f]? with
   | some q => match ev ρ x with
    | .ptr l i off => K (.ptr l i (off + q.1)) st
    | .mG l i k ix off => K (.mG l i k ix (off + q.1)) st
    | .bf cs => bif Nat.ble q.1 cs.length then K (.bf (cs.drop q.1)) st else none
    | _ => none
   | none => none
  | _ => none
 | .field t x f => match Γ.ty t, ev ρ x with
  | .agg _ fs, .agg cs => match fs[f]? with
   | some q => match pack Γ q.2.2 (cs.drop q.1) with | some v => K v st | none => none
   | none => none
  | _, _ => none
 | .indexAddr t x ix => match Γ.ty t with
  | .slice _ sz _ => match ev ρ x, ev ρ ix with
   | .d (.sl rows _), .d (.int _ i) => bif Ω.fits sz rows none then (Ω.nth rows i).bind fun r => K (.bf r) st else none
   | .row l j k, .d (.int _ i) => match look st l j with
    | some (.row _ sz' rows _ _) => bif Nat.beq sz sz' then bif Ω.ieq (Ω.len rows) k then (Ω.nth rows i).bind fun _ => K (.mG l j k i 0) st else none else none
    | _ => none
   | _, _ => none
  | _ => none
 | .index t x ix => match Γ.ty t, ev ρ x, ev ρ ix with
  | .str, .d (.str s), .d (.int _ i) => bif Ω.jF 0 i then bif Ω.ilt i (Ω.DT s) then K (.d (.int .u8 (Ω.byte s i))) st else none else none
  | .array n _, .agg cs, .d (.int _ i) => bif Ω.jF 0 i then bif Nat.blt i.toNat n then (match cs[i.toNat]? with | some (.d x) => K (.d x) st | _ => none) else none else none
  | _, _, _ => none
 | .binOp op t x y _ => bif Γ.eqs t then KU Ω Γ t op st (ev ρ x) (ev ρ y) K else bif DV y then G9 Ω (Γ.ty t) op st (ev ρ x) K else Fa Ω (Γ.ty t) op st (ev ρ x) (ev ρ y) K
 | .unOp op _ x => match op, ev ρ x with
  | .not, .d (.bool b) => K (.d (.bool !b)) st
  | .neg, .d (.int k n) => K (.d (.int k (Ω.wrap k (Ω.sub 0 n)))) st
  | _, _ => none
 | .convert src dst x => match Γ.ty src, Γ.ty dst, ev ρ x with
  | .int _, .int k, .d (.int _ n) => K (.d (.int k (Ω.wrap k n))) st
  | .str, .str, .d (.str s) => K (.d (.str s)) st
  | .int _, .str, .d (.int _ n) => K (.d (.str (Utf8.encode n))) st
  | _, _, _ => none
 | .build t parts => match Γ.ty t, Γ.zero t with
  | .agg _ fs, z0 :: z1 => eu Ω st (evs ρ (parts.toList.map (·.2))) fun vs st =>
    match yX (W9 fs) (ds (z0 :: z1)) (List.zip (parts.toList.map (·.1)) vs) with
    | some cs => (match an.own d with
     | some t2 => (match FX cs with | some l => bif iZ st 0 then jd Ω Γ t2 0 l st fun cs st => K (.agg cs) st else none | none => none)
     | none => K (.agg cs) st)
    | none => none
  | _, _ => none
 | .buildSlice t n parts => match Γ.ty t with
  | .slice e sz _ => match Γ.zero e with
   | [] => none
   | z => bif Nat.ble (n * sz) 16777216 then (eu Ω st (evs ρ (parts.toList.map (·.2))) fun vs st =>
     match yX (fun i => some (i * sz, sz)) (Zz (ds z) n) (List.zip (parts.toList.map (·.1)) vs) with
     | some cs => match FX cs with
      | some cs => (match an.own d with
       | some _ => bif Nat.ble 1 n then bif iZ st 0 then K (.row 0 (fE st 0) (n : Int)) (kX st 0 (.row e sz (chunk sz n cs) true none)) else none else none
       | none => K (.d (.sl (chunk sz n cs) (some []))) st)
      | none => none
     | none => none) else none
  | _ => none
 | .makeSlice t l c => match Γ.ty t, ev ρ l, ev ρ c with
  | .slice e sz bytes, .d (.int _ l), .d (.int _ c) => match Γ.zero e with
   | [] => none
   | z => bif Ω.jF 0 l then bif Ω.jF l c then bif Ω.jF (Ω.mul c bytes) limit then bif iZ st (qz ρ (an.lv d))
    then Ω.Lb z l fun rows n => K (.row (qz ρ (an.lv d)) (fE st (qz ρ (an.lv d))) n) (kX st (qz ρ (an.lv d)) (.row e sz rows (an.mt d) (some c))) else none else none else none else none
  | _, _, _ => none
 | .slice t x lo hi mx => qD Ω (Γ.ty t) st (ev ρ x) (lo.map (ev ρ)) (hi.map (ev ρ)) (mx.map (ev ρ)) (RI hi && RI mx) (match an.own d with | some _ => true | none => false) K
 | .makeFunc (.func f) first captured => match first.toList with
  | [] => eu Ω st (evs ρ captured.toList) fun vs st =>
    match FX vs with
    | some l => K (.d (.fn f l)) st
    | none => bif eB vs then K (.fn f vs) st else none
  | _ => none
 | .makeMap t r => match r, Γ.ty t with
  | none, .map kt _ => match sQ Γ kt with
   | some kk => bif iZ st (qz ρ (an.lv d)) then Ω.NA fun es => K (.map (qz ρ (an.lv d)) (fE st (qz ρ (an.lv d)))) (kX st (qz ρ (an.lv d)) (.map kk (!(an.rf d)) es)) else none
   | none => none
  | _, _ => none
 | .lookup t m k ok => match Γ.ty t with
  | .map kt e => match sQ Γ kt with
   | some kk => o8 Ω Γ kk e ok st (ev ρ m) (ev ρ k) K
   | none => none
  | _ => none
 | .mapUpdate t m k x => match Γ.ty t with
  | .map kt _ => match sQ Γ kt, ev ρ m with
   | some kk, .map l i => eu Ω st (unpack (ev ρ x)) fun vs st =>
     match look st l i with
     | some (.map Gc fl es) => bif FY kk Gc then bif iw kk (ev ρ k) then bif eB (up.ups l vs)
      then bif (bif fl then vD (nQ (ev ρ x) (up.ups l vs)) else true) then Ω.aga es (ev ρ k) (nQ (ev ρ x) (up.ups l vs)) fun es' => K .skip (fM st l i (.map Gc fl es')) else none else none else none else none
     | _ => none
   | _, _ => none
  | _ => none
 | .extract t i => match ev ρ t with
  | .yV l => match l[i]? with | some v => K v st | none => none
  | _ => none
 | .nilCheck x => match ev ρ x with
  | .ptr l i o => K (.ptr l i o) st
  | .fn f cs => K (.fn f cs) st
  | .d (.fn f cs) => K (.d (.fn f cs)) st
  | .bf cs => K (.bf cs) st
  | .mG l i k x o => K (.mG l i k x o) st
  | _ => none
 | .call c => match c.callee with
  | .builtin b => match b, evs ρ c.args.toList, c.argTypes.toList with
   | .len, [v], [t] => match Γ.ty t, v with
    | .str, .d (.str s) => K (.d (.int .i64 (Ω.DT s))) st
    | .slice _ _ _, .d (.sl rows _) => Ω.Ux rows fun n => K (.d (.int .i64 n)) st
    | .slice _ _ _, .row _ _ n => K (.d (.int .i64 n)) st
    | .map _ _, .d .yT => K (.d (.int .i64 0)) st
    | .map _ _, .map l i => match look st l i with
     | some (.map _ _ es) => Ω.RH es fun n => K (.d (.int .i64 n)) st
     | _ => none
    | _, _ => none
   | .cap, [v], [t] => match Γ.ty t, v with
    | .slice _ _ _, .d (.sl rows (some hid)) => Ω.G6 rows hid fun _ n => K (.d (.int .i64 n)) st
    | _, _ => none
   | .append, [s, x], [t, t'] => match Γ.ty t, Γ.ty t' with
    | .slice e sz bytes, .slice _ _ _ => jJ Ω Γ (an.own d) (an.mt d) (qz ρ (an.lv d)) e sz bytes st s x K
    | .slice e sz bytes, .str => match x with
     | .d (.str b) => jJ Ω Γ (an.own d) (an.mt d) (qz ρ (an.lv d)) e sz bytes st s (.d (.sl (lg b) (some []))) K
     | _ => none
    | _, _ => none
   | .delete, [m, k], [t, _] => match Γ.ty t with
    | .map kt _ => match sQ Γ kt, m with
     | some kk, .map l i => match look st l i with
      | some (.map Gc fl es) => bif FY kk Gc then bif iw kk k then Ω.aay es k fun es' => K (.yV []) (fM st l i (.map Gc fl es')) else none else none
      | _ => none
     | _, _ => none
    | _ => none
   | .clear, [.tail l i k lo], [t] => match Γ.ty t with
    | .slice e sz' _ => match look st l i with
     | some (.row ty sz rows true cap) => bif Nat.beq sz sz' then bif Nat.beq (Γ.zero e).length sz then bif Ω.ieq (Ω.len rows) k then
       Ω.FW rows 0 lo fun a => Ω.Lb (Γ.zero e) (Ω.sub k lo) fun z _ => Ω.G6 a z fun rows' _ => K (.yV []) (fM st l i (.row ty sz rows' true cap)) else none else none else none
     | _ => none
    | _ => none
   | .min, [.d (.int k x), .d (.int _ y)], _ => br (Ω.jF x y) (fun _ => K (.d (.int k x)) st) (fun _ => K (.d (.int k y)) st)
   | .max, [.d (.int k x), .d (.int _ y)], _ => br (Ω.jF x y) (fun _ => K (.d (.int k y)) st) (fun _ => K (.d (.int k x)) st)
   | _, _, _ => none
  | .value f => gD Ω (an.hold d) 0 (evs ρ c.args.toList) st fun args st =>
    match ev ρ f with
    | .d (.fn g caps) => (Ω.cf g (args ++ ds caps) st).bind fun r => vP Ω (an.cold d) r (Bl Ω (an.af9 d) (fE st 0) K)
    | .fn g caps => (Ω.cf g (args ++ caps) st).bind fun r => vP Ω (an.cold d) r (Bl Ω (an.af9 d) (fE st 0) K)
    | .Bf l i => match look st l i with
     | some (.loop site _ none) => (Ω.rd site (.Bf l i :: args) st).bind fun r => K r.1 r.2
     | _ => none
    | _ => none
  | _ => none
 | _ => none
def qA (ρ : Env) : Option Nat → PV → Env
 | some d, v => est ρ d v
 | none, _ => ρ
structure XO where
 dst : Option Nat
 op : Op
 g : Option (Nat × Bool)
 UC : Bool
 dead : List Nat
def quiet : Op → Bool
 | .move _ => true | .assign (.const (.slice none 0 0)) => false | .assign _ => true | .pick _ _ _ => true | .load _ _ => true | .fieldAddr _ _ _ => true | .field _ _ _ => true
 | .indexAddr _ _ _ => true | .index _ _ _ => true | .binOp _ _ _ _ _ => true | .unOp _ _ _ => true | .convert _ _ _ => true
 | .lookup _ _ _ _ => true | .extract _ _ => true | .nilCheck _ => true
 | .call c => match c.callee with
  | .builtin .len => true | .builtin .cap => true | .builtin .min => true | .builtin .max => true
  | _ => false
 | _ => false
def still : Op → Bool
 | .slice _ _ _ _ _ => true | .build _ _ => true | .buildSlice _ _ _ => true | .makeFunc _ _ _ => true
 | .call c => match c.callee with
  | .value _ => true
  | .builtin .len => true | .builtin .cap => true | .builtin .min => true | .builtin .max => true
  | _ => false
 | o => quiet o
def waits (ops : List Oper) (j i : Nat) : Bool :=
 match ops[j]? with
 | some o => o.after.toList.any fun e => Region.binds .any e && Nat.beq e.on i
 | none => false
def zA (ops : List Oper) (k : Nat) : Bool :=
 ((List.range k).all fun i => (List.range (k + 1)).any fun j => Nat.blt i j && waits ops j i) &&
 ((List.range ops.length).all fun j => Nat.ble j k || (List.range j).any fun i => Nat.ble k i && waits ops j i)
def jc (ops : List Oper) (j : Nat) : Nat :=
 match ops[j]? with
 | some o => match o.dst with | some d => d | none => 0
 | none => 0
def NH (an : kW) (drawn : Bool) : Option Nat → List Nat
 | some d => bif drawn then [] else an.dead d
 | none => []
def rQ (an : kW) (drawn : Bool) (all : List Oper) : Nat → List Oper → List XO
 | _, [] => []
 | k, o :: r => ⟨o.dst, o.op, (match o.guard with | some (j, want) => some (jc all j, want) | none => none),
   (bif drawn then (bif quiet o.op then false else !(zA all k)) else false), NH an drawn o.dst⟩ :: rQ an drawn all (k + 1) r
def vE (UC : Bool) (st : St) (K : iD R) : iD R := fun v st' => bif UC then bif Ω.same st st' then K v st else none else K v st'
def fT (Γ : Tab) (an : kW) : List XO → Env → St → (Env → St → Option R) → Option R
 | [], ρ, st, K => K ρ st
 | ⟨dst, op, g, UC, dead⟩ :: rest, ρ, st, K =>
  match g with
  | none => evalOp Ω Γ an ρ st dst op (vE Ω UC st fun v st => fT Γ an rest (Bj dead (qA ρ dst v)) st K)
  | some (j, want) => match jw ρ j with
   | .d (.bool b) => br (bif want then b else !b)
     (fun _ => evalOp Ω Γ an (est ρ j (.d (.bool want))) st dst op (vE Ω UC st fun v st => fT Γ an rest (Bj dead (qA (est ρ j (.d (.bool want))) dst v)) st K))
     (fun _ => fT Γ an rest (Bj dead (qA (est ρ j (.d (.bool !want))) dst .skip)) st K)
   | .skip => fT Γ an rest (Bj dead (qA ρ dst .skip)) st K
   | _ => none
def UD {R : Type} (site : Nat) (env ρ : Env) (st : St) (f : Nat) (caps : List PV) (K : Ex → Env → St → Option R) : Option R :=
 bif iZ st 0 then (Ω.cf f (.Bf 0 (fE st 0) :: caps) (kX st 0 (.loop site env none))).bind fun r => match look r.2 0 (fE st 0) with
  | some (.loop _ _ p) => bif Nat.ble (fE (trim Ω.plain (fE st 0) ρ r.2) 0) (fE st 0) then (match p with
   | none => K .normal ρ (trim Ω.plain (fE st 0) ρ r.2)
   | some .normal => none
   | some e => K e ρ (trim Ω.plain (fE st 0) ρ r.2)) else none
  | _ => none
 else none
def UE {R : Type} (an : kW) (ρ : Env) (st : St) (g : Operand) (K : Ex → Env → St → Option R) : Option R :=
 match g with
 | .tmp t => match jw ρ t with
  | .d (.fn f caps) => UD Ω (an.site t) (bn (an.cap t) ρ) ρ st f (ds caps) K
  | .fn f caps => UD Ω (an.site t) (bn (an.cap t) ρ) ρ st f caps K
  | _ => none
 | _ => none
def exec (Γ : Tab) (an : kW) : Code → Env → St → {R : Type} → (Ex → Env → St → Option R) → Option R
 | .skip, ρ, st, _, K => K .normal ρ st
 | .region _ ops drawn, ρ, st, _, K => fT Ω Γ an (rQ an drawn ops.toList 0 ops.toList) ρ st fun ρ st => K .normal (bn an.keep ρ) st
 | .seq a b, ρ, st, _, K => exec Γ an a ρ st fun e ρ st => match e with
  | .normal => exec Γ an b ρ st K
  | e => K e ρ st
 | .cond c a b, ρ, st, _, K => match c with
  | .tmp t => match jw ρ t with
   | .d (.bool x) => Ω.grp (fun k => br x (fun _ => exec Γ an a (E9 an ρ t true) st (fun e ρ' st' => k (e, bn (keys ρ) ρ', trim Ω.plain (fE st 0) (bn (keys ρ) ρ') st')))
     (fun _ => exec Γ an b (E9 an ρ t false) st (fun e ρ' st' => k (e, bn (keys ρ) ρ', trim Ω.plain (fE st 0) (bn (keys ρ) ρ') st')))) (fun r => K r.1 r.2.1 r.2.2)
   | .ub => Ω.both (exec Γ an a (del ρ t) st (fun e ρ' st' => K e (bn (keys ρ) ρ') (trim Ω.plain (fE st 0) (bn (keys ρ) ρ') st')))
     (exec Γ an b (del ρ t) st (fun e ρ' st' => K e (bn (keys ρ) ρ') (trim Ω.plain (fE st 0) (bn (keys ρ) ρ') st')))
   | _ => none
  | _ => none
 | .block id a, ρ, st, _, K => exec Γ an a ρ st fun e ρ st => match e with
  | .exit i => bif Nat.beq i id then K .normal ρ st else K (.exit i) ρ st
  | e => K e ρ st
 | .loop a, ρ, st, _, K => (Ω.iter (fE st 0) (keys ρ) (fun ρ st => exec Γ an a ρ st fun e ρ st => some (e, ρ, st)) ρ st).bind fun r => K r.1 r.2.1 r.2.2
 | .exit id, ρ, st, _, K => K (.exit id) ρ st
 | .ret, ρ, st, _, K => K .ret ρ st
 | .rangeFunc g _ _ _, ρ, st, _, K => UE Ω an ρ st g K
 | _, _, _, _, _ => none
def enter : Nat → List PV → Env
 | _, [] => []
 | i, v :: r => (i, v) :: enter (i + 1) r
def vR (Γ : Tab) (ρ : Env) (st : St) : ResultVar → Option PV
 | .tmp t => some (jw ρ t)
 | .cell t ty => match yG Ω st (jw ρ t) with
  | some cs => pack Γ ty cs
  | none => none
def mh (Γ : Tab) (ρ : Env) (st : St) : List ResultVar → Option (List PV)
 | [] => some []
 | r :: rs => match vR Ω Γ ρ st r, mh Γ ρ st rs with
  | some v, some vs => some (v :: vs)
  | _, _ => none
def one : List PV → PV
 | [v] => v
 | vs => .yV vs
def yH (st : St) : PV → PV × St
 | .row 0 i k => freeze Ω st (.row 0 i k)
 | v => (v, st)
def nI (st : St) : List PV → List PV × St
 | [] => ([], st)
 | v :: r => let q := yH Ω st v; let s := nI q.2 r; (q.1 :: s.1, s.2)
def iB {R : Type} (st : St) (vs : List PV) (K : List PV → St → Option R) : Option R :=
 match vs with
 | [] => K [] st
 | .row 0 i k :: r => match look st 0 i with
  | some (.row ty sz rows mt cap) => bif Ω.ieq (Ω.len rows) k then iB (bif mt then fM st 0 i (.row ty sz rows false cap) else st) r (fun vs st => K (.d (.sl rows none) :: vs) st) else none
  | _ => none
 | v :: r => iB st r (fun vs st => K (v :: vs) st)
def vF {R : Type} (st : St) (vs : List PV) (K : List PV → Option R) : Option R :=
 match vs with
 | [] => K []
 | .row 0 i k :: r => match look st 0 i with
  | some (.row _ _ rows mt _) => bif mt then vF st r (fun vs => K (.row 0 i k :: vs)) else bif Ω.ieq (Ω.len rows) k then vF st r (fun vs => K (.d (.sl rows none) :: vs)) else none
  | _ => none
 | v :: r => vF st r (fun vs => K (v :: vs))
def He : List PV → Option Nat
 | [] => none
 | .row 0 i _ :: _ => some i
 | .map 0 i :: _ => some i
 | .ptr 0 i _ :: _ => some i
 | _ :: r => He r
def Hf (i n1 : Nat) : PV → Option PV
 | .d x => some (.d x)
 | .row 0 j k => bif Nat.beq j i then some (.row 0 n1 k) else none
 | .map 0 j => bif Nat.beq j i then some (.map 0 n1) else none
 | .ptr 0 j o => bif Nat.beq j i then some (.ptr 0 n1 o) else none
 | _ => none
def sS (i n1 : Nat) : List PV → Option (List PV)
 | [] => some []
 | v :: r => match Hf i n1 v, sS i n1 r with | some u, some us => some (u :: us) | _, _ => none
def vT : Obj → Bool
 | .row _ _ _ _ _ => true
 | .map _ fl _ => fl
 | .box _ cs => vO cs
 | .void => false
 | .loop _ _ _ => false
def leave (Γ : Tab) (give : Bool) (rs : List ResultVar) (ρ : Env) (st : St) : Option (PV × St) :=
 match mh Ω Γ ρ st rs with
 | some vs => match give with
  | true => vF Ω st vs fun vs => match st with
   | fr :: st' => match He vs with
    | some i => match fr[i]? with
     | some o => bif vT o then Ω.yF st' 0 o fun n NI => match sS i n vs with | some us => some (one us, NI) | none => none else none
     | none => none
    | none => bif iZ st' 0 then match sS 0 0 vs with | some us => some (one us, st') | none => none else none
   | _ => none
  | false => iB Ω st vs fun vs st => match st with
   | _ :: st => some (one (up.ups 1 vs), st)
   | _ => none
 | none => none
def nJ {R : Type} (tk : List Nat) : Nat → List PV → St → (List PV → St → Option R) → Option R
 | _, [], st, K => K [] st
 | p, v :: r, st, K => bif mem p tk then (match v, st with
   | .row 1 i k, fr :: st' => Ω.sM st' 0 i fun ty sz rows mt _ => bif mt then bif Ω.ieq (Ω.len rows) k
     then Ω.sK st' 0 i .void fun NI => nJ tk (p + 1) r ((fr ++ [.row ty sz rows true none]) :: NI) fun vs st => K (.row 0 fr.length k :: vs) st else none else none
   | _, _ => none) else nJ tk (p + 1) r st fun vs st => K (v :: vs) st
def ng : List Nat → List PV → Env → Option Env
 | [], [], ρ => some ρ
 | t :: ts, v :: vs, ρ => ng ts vs (est ρ t (down 1 v))
 | _, _, _ => none
def round (Γ : Tab) (an : kW) (q : Site) (args : List PV) (st : St) : Option (PV × St) :=
 match args with
 | .Bf l i :: args => match look st l i with
  | some (.loop site ρ none) => match ng q.ps args (Lc (l + 1) ρ) with
   | some ρ1 => exec Ω Γ an q.RD ρ1 ([] :: st) fun e ρ2 st2 => match e, st2 with
    | .normal, fr :: Xa => match look Xa l i with
     | some (.loop yY ρ' none) => bif Nat.beq site yY then exec Ω Γ an q.body ρ2 (fr :: fM Xa l i (.loop yY ρ' (some .normal))) fun e _ st4 => match st4 with
      | _ :: st5 => match look st5 l i with
       | some (.loop qV ρ'' (some .normal)) => bif Nat.beq site qV then (match e with
        | .normal => some (.d (.bool true), fM st5 l i (.loop qV ρ'' none))
        | e => some (.d (.bool false), fM st5 l i (.loop qV ρ'' (some e)))) else none
       | _ => none
      | [] => none else none
     | _ => none
    | _, _ => none
   | none => none
  | _ => none
 | _ => none
def body (Γ : Tab) (an : kW) (fn : Func) (args : List PV) (st : St) : Option (PV × St) :=
 match fn.body with
 | some c => nJ Ω an.take 0 (down.iM 1 args) ([] :: st) fun args st => exec Ω Γ an c (enter 0 args) st fun e ρ st => match e with
  | .exit _ => none
  | _ => leave Ω Γ an.give fn.results.toList ρ st
 | none => none
end ops
def RJ : List (List D) → Option (List UInt8)
 | [] => some []
 | [.int .u8 n] :: r => match RJ r with | some l => some (n.toNat.toUInt8 :: l) | none => none
 | _ :: _ => none
def qW : List PV → List PV → Bool
 | [], [] => true
 | .d (.int _ x) :: r, .d (.int _ y) :: s => x == y && qW r s
 | .d (.bool x) :: r, .d (.bool y) :: s => x == y && qW r s
 | .d (.str x) :: r, .d (.str y) :: s => x == y && qW r s
 | _, _ => false
def vU : PV → PV → Bool
 | .d (.int _ x), .d (.int _ y) => x == y
 | .d (.str x), .d (.str y) => x == y
 | .agg x, .agg y => qW x y
 | _, _ => false
def Fe : List (PV × PV) → PV → Option PV
 | [], _ => none
 | (k, v) :: r, x => if vU x k then some v else Fe r x
def zB : List (PV × PV) → PV → PV → List (PV × PV)
 | [], x, y => [(x, y)]
 | (k, v) :: r, x, y => if vU x k then (x, y) :: r else (k, v) :: zB r x y
def FZ : List (PV × PV) → PV → List (PV × PV)
 | [], _ => []
 | (k, v) :: r, x => if vU x k then r else (k, v) :: FZ r x
def gQ (n : Nat) : List (PV × PV) → Bool
 | [] => true
 | (k, v) :: r => below n k && below n v && gQ n r
def iter (n : Nat) (dom : List Nat) (f : Env → St → Option (Ex × Env × St)) (ρ : Env) (st : St) : Option (Ex × Env × St) := do
 match ← f ρ st with
  | (.normal, ρ, st) => iter n dom f (bn dom ρ) (trim gQ n (bn dom ρ) st)
  | (e, ρ, st) => some (e, bn dom ρ, trim gQ n (bn dom ρ) st)
 partial_fixpoint
open Classical in
noncomputable def agree {R : Type} (x y : Option R) : Option R := if x = y then x else none
open Classical in
noncomputable def real [eY] (cf : Nat → List PV → St → Option (PV × St)) : Om where
 cf f args st := bif jl f then none else cf f args st
 rd := cf
 iter := iter
 tick f := f ()
 grp f k := f k
 fits sz rows ext := (rows.all fun r => Nat.beq r.length sz) && (match ext with | none => true | some h => h.all fun r => Nat.beq r.length sz)
 plain := gQ
 Ux l f := f l.length
 G6 x y f := f (x ++ y) (x ++ y).length
 aaw l i r f := f (l.set i.toNat r)
 FW l a b f := f ((l.take b.toNat).drop a.toNat)
 Lb z n f := f (List.replicate n.toNat z) (List.replicate n.toNat z).length
 WZ l k z f := match Fe l k with | some v => f v | none => z
 aga l k v f := f (zB l k v)
 aay l k f := f (FZ l k)
 Zy f := f []
 NA f := f []
 RH l f := f l.length
 wrap := IntKind.wrap
 add := (· + ·)
 sub := (· - ·)
 mul := (· * ·)
 neg := (- ·)
 ieq x y := x == y
 ilt x y := decide (x < y)
 jF x y := decide (x ≤ y)
 tdiv := Int.tdiv
 tmod := Int.tmod
 seq x y := x.toList == y.toList
 slt x y := Op.bytesLess x.toList y.toList
 DT s := s.size
 apl x y := x ++ y
 apm s l h := s.extract l.toNat h.toNat
 byte s i := ((s[i.toNat]?).map (·.toNat)).getD 0
 len l := l.length
 nth l i := if 0 ≤ i then l[i.toNat]? else none
 aax l i r := l.set i.toNat r
 cat x y := x ++ y
 cut l a b := (l.take b.toNat).drop a.toNat
 fill z n := List.replicate n.toNat z
 ofStr s := s.data.toList.map fun b => [.int .u8 b.toNat]
 toStr l := (RJ l).map fun l => ⟨l.toArray⟩
 find := Fe
 put := zB
 del := FZ
 apk l := l.length
 same x y := decide (x = y)
 akg st l i off f := match look st l i with
  | some (.box _ cs) => f (down.iM (l + 1) (cs.drop off))
  | _ => none
 NC st l i off vs f := match look st l i with
  | some (.box t cs) => bif eB (up.ups (l + 1) vs) then bif Nat.ble (off + vs.length) cs.length
    then f (fM st l i (.box t (cs.take off ++ up.ups (l + 1) vs ++ cs.drop (off + vs.length)))) else none else none
  | _ => none
 Bh st l i f := match look st l i with
  | some (.map kk fl es) => f kk fl es
  | _ => none
 sK st l i o f := f (fM st l i o)
 yF st l o f := bif iZ st l then f (fE st l) (kX st l o) else none
 both x y := agree x y
 G7 st l i f := match look st l i with
  | some (.loop site ρ p) => f site ρ p
  | _ => none
 sM st l i f := match look st l i with
  | some (.row ty sz rows mt cap) => f ty sz rows mt cap
  | _ => none
theorem vV [eY] {Ω : Om} {R : Type} (Γ : Tab) (an : kW) (x : XO) (l : List XO) (ρ : Env) (st : St) (K : Env → St → Option R) :
  fT Ω Γ an (x :: l) ρ st K = fT Ω Γ an [x] ρ st fun ρ st => fT Ω Γ an l ρ st K := by
 obtain ⟨dst, op, g, UC, dead⟩ := x
 simp only [fT]
section
variable [eY] {c : Nat → List PV → St → Option (PV × St)} {R A : Type}
theorem jK (l : List (List D)) (f : Int → Option R) : (real c).Ux l f = f ((real c).len l) := rfl
theorem jL (x y : List (List D)) (f : List (List D) → Int → Option R) : (real c).G6 x y f = f ((real c).cat x y) ((real c).len ((real c).cat x y)) := rfl
theorem yI (l : List (List D)) (i : Int) (r : List D) (f : List (List D) → Option R) : (real c).aaw l i r f = f ((real c).aax l i r) := rfl
theorem kD (l : List (List D)) (i j : Int) (f : List (List D) → Option R) : (real c).FW l i j f = f ((real c).cut l i j) := rfl
theorem o9 (z : List D) (n : Int) (f : List (List D) → Int → Option R) : (real c).Lb z n f = f ((real c).fill z n) ((real c).len ((real c).fill z n)) := rfl
theorem sU (l : List (PV × PV)) (k : PV) (z : Option R) (f : PV → Option R) : (real c).WZ l k z f = (match (real c).find l k with | some v => f v | none => z) := rfl
theorem Lf (l : List (PV × PV)) (k v : PV) (f : List (PV × PV) → Option R) : (real c).aga l k v f = f ((real c).put l k v) := rfl
theorem DW (l : List (PV × PV)) (k : PV) (f : List (PV × PV) → Option R) : (real c).aay l k f = f ((real c).del l k) := rfl
theorem sV (l : List (PV × PV)) (f : Int → Option R) : (real c).RH l f = f ((real c).apk l) := rfl
theorem mo (f : List (List D) → Option R) : (real c).Zy f = f [] := rfl
theorem RL (f : List (PV × PV) → Option R) : (real c).NA f = f [] := rfl
theorem nK (f : (A → Option R) → Option R) (k : A → Option R) : (real c).grp f k = f k := rfl
end
end Go.X
