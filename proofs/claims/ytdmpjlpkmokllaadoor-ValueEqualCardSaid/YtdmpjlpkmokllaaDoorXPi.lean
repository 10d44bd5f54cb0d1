/- The interpreter: what a loaded function computes, on pure values. -/
import GoSem.Step
import Derived.Calls
namespace Go.X
open Go
set_option linter.unusedSectionVars false

/-- Data without references to memory that can change. A slice is the list of its elements, each the list of its cells; 'ext': what lies behind it up to its capacity, if that is known. -/
inductive D where
  | int (k : IntKind) (n : Int)
  | bool (b : Bool)
  | str (s : ByteArray)
  | sl (rows : List (List D)) (ext : Option (List (List D)))
  | fn (f : Nat) (caps : List D)
  | nilp
  | nilm
  | nilf
  deriving Inhabited

/-- What a slot holds. A pointer is relative: so many frames up, which object, which cell. -/
inductive PV where
  | d (x : D)
  | agg (cells : List PV)
  | ptr (lvl i off : Nat)
  | eptr (cells : List D)
  | row (lvl i : Nat) (len : Int)
  | rptr (lvl i : Nat) (len idx : Int) (off : Nat)
  | fn (f : Nat) (caps : List PV)
  | map (lvl i : Nat)
  | tail (lvl i : Nat) (len lo : Int)   -- a written row, from that place on
  | yld (lvl i : Nat)   -- the yield of a loop over a function
  | tup (l : List PV)
  | skip
  | ub      -- some bool
  | unk
  deriving Inhabited

/-- What kind of keys a map has: strings, the integers of one kind, structs of ints, bools and strings. -/
inductive KC where
  | int (k : IntKind) | bool | str
inductive KK where
  | str | int (k : IntKind) | agg (cs : List KC)
inductive Ex where
  | normal | exit (id : Nat) | ret
  deriving Inhabited, DecidableEq
inductive Obj where
  | box (ty : Nat) (cells : List PV)
  | row (ty sz : Nat) (rows : List (List D)) (mt : Bool) (cap : Option Int)
  | map (kk : KK) (fl : Bool) (es : List (PV × PV))   -- fl: it holds data alone
  | void   -- a row that is another object now
  | loop (site : Nat) (env : List (Nat × PV)) (pend : Option Ex)   -- a loop over a function: its code, what its rounds see; 'none': the next round may begin; 'some normal': a round runs; else: how it was left

/-! Whether two are the same, told so that the kernel can work it out. -/
mutual
def bD : D → D → Bool
  | .int k n, .int k' n' => decide (k = k') && decide (n = n')
  | .bool a, .bool b => decide (a = b)
  | .str a, .str b => decide (a = b)
  | .sl r x, .sl r' x' => bDss r r' && bDo x x'
  | .fn f c, .fn f' c' => decide (f = f') && bDs c c'
  | .nilp, .nilp => true
  | .nilm, .nilm => true
  | .nilf, .nilf => true
  | _, _ => false
def bDs : List D → List D → Bool
  | [], [] => true
  | a :: r, b :: s => bD a b && bDs r s
  | _, _ => false
def bDss : List (List D) → List (List D) → Bool
  | [], [] => true
  | a :: r, b :: s => bDs a b && bDss r s
  | _, _ => false
def bDo : Option (List (List D)) → Option (List (List D)) → Bool
  | none, none => true
  | some a, some b => bDss a b
  | _, _ => false
end
mutual
theorem bD_iff : ∀ (x y : D), bD x y = true ↔ x = y
  | .int k n, y => by cases y <;> simp [bD]
  | .bool a, y => by cases y <;> simp [bD]
  | .str a, y => by cases y <;> simp [bD]
  | .sl r e, y => by cases y <;> simp [bD, bDss_iff r, bDo_iff e]
  | .fn f c, y => by cases y <;> simp [bD, bDs_iff c]
  | .nilp, y => by cases y <;> simp [bD]
  | .nilm, y => by cases y <;> simp [bD]
  | .nilf, y => by cases y <;> simp [bD]
theorem bDs_iff : ∀ (x y : List D), bDs x y = true ↔ x = y
  | [], y => by cases y <;> simp [bDs]
  | a :: r, y => by cases y <;> simp [bDs, bD_iff a, bDs_iff r]
theorem bDss_iff : ∀ (x y : List (List D)), bDss x y = true ↔ x = y
  | [], y => by cases y <;> simp [bDss]
  | a :: r, y => by cases y <;> simp [bDss, bDs_iff a, bDss_iff r]
theorem bDo_iff : ∀ (x y : Option (List (List D))), bDo x y = true ↔ x = y
  | none, y => by cases y <;> simp [bDo]
  | some a, y => by cases y <;> simp [bDo, bDss_iff a]
end
instance : DecidableEq D := fun a b => decidable_of_iff _ (bD_iff a b)
mutual
def bP : PV → PV → Bool
  | .d a, .d b => bD a b
  | .agg a, .agg b => bPs a b
  | .ptr a b c, .ptr a' b' c' => decide (a = a') && (decide (b = b') && decide (c = c'))
  | .eptr a, .eptr b => bDs a b
  | .row a b c, .row a' b' c' => decide (a = a') && (decide (b = b') && decide (c = c'))
  | .rptr a b c d e, .rptr a' b' c' d' e' => decide (a = a') && (decide (b = b') && (decide (c = c') && (decide (d = d') && decide (e = e'))))
  | .fn f c, .fn f' c' => decide (f = f') && bPs c c'
  | .map a b, .map a' b' => decide (a = a') && decide (b = b')
  | .tail a b c d, .tail a' b' c' d' => decide (a = a') && (decide (b = b') && (decide (c = c') && decide (d = d')))
  | .yld a b, .yld a' b' => decide (a = a') && decide (b = b')
  | .tup a, .tup b => bPs a b
  | .skip, .skip => true
  | .ub, .ub => true
  | .unk, .unk => true
  | _, _ => false
def bPs : List PV → List PV → Bool
  | [], [] => true
  | a :: r, b :: s => bP a b && bPs r s
  | _, _ => false
end
mutual
theorem bP_iff : ∀ (x y : PV), bP x y = true ↔ x = y
  | .d a, y => by cases y <;> simp [bP, bD_iff]
  | .agg a, y => by cases y <;> simp [bP, bPs_iff a]
  | .ptr a b c, y => by cases y <;> simp [bP]
  | .eptr a, y => by cases y <;> simp [bP, bDs_iff]
  | .row a b c, y => by cases y <;> simp [bP]
  | .rptr a b c d e, y => by cases y <;> simp [bP]
  | .fn f c, y => by cases y <;> simp [bP, bPs_iff c]
  | .map a b, y => by cases y <;> simp [bP]
  | .tail a b c d, y => by cases y <;> simp [bP]
  | .yld a b, y => by cases y <;> simp [bP]
  | .tup a, y => by cases y <;> simp [bP, bPs_iff a]
  | .skip, y => by cases y <;> simp [bP]
  | .ub, y => by cases y <;> simp [bP]
  | .unk, y => by cases y <;> simp [bP]
theorem bPs_iff : ∀ (x y : List PV), bPs x y = true ↔ x = y
  | [], y => by cases y <;> simp [bPs]
  | a :: r, y => by cases y <;> simp [bPs, bP_iff a, bPs_iff r]
end
instance : DecidableEq PV := fun a b => decidable_of_iff _ (bP_iff a b)
deriving instance DecidableEq for KC
deriving instance DecidableEq for KK
deriving instance DecidableEq for Obj
inductive Ty where
  | int (k : IntKind) | bool | str
  | agg (n : Nat) (fs : List (Nat × Nat × Nat))   -- of each field: offset, size, type
  | slice (e sz bytes : Nat)
  | map (k e : Nat)
  | array (n e : Nat)
  | ptr (e : Nat)
  | sc             -- one cell of another kind: a function
  | bad
  deriving Inhabited

/-- Data alone. -/
def flatC : List PV → Bool
  | [] => true
  | .d _ :: r => flatC r
  | _ :: _ => false
def flatV : PV → Bool
  | .d _ => true
  | .agg cs => flatC cs
  | _ => false
def flats : List (PV × PV) → Bool
  | [] => true
  | (k, v) :: r => flatV k && flatV v && flats r

/-- Where a new object is laid. -/
inductive Lv where
  | lit (n : Nat) | of (slot : Nat)
/-- What is said of a function beside its code: which slots live on behind a region; where slot's object is laid; whether it may be written. -/
structure Ann where
  keep : List Nat
  lv : Nat → Lv := fun _ => .lit 0
  mt : Nat → Bool := fun _ => false
  dead : Nat → List Nat := fun _ => []   -- behind the operation of this slot nothing asks for these any more
  own : Nat → Option Nat := fun _ => none   -- this slot's nil is a row of its own that grows (the slice's type)
  rf : Nat → Bool := fun _ => false    -- this slot's new map may hold more than data
  give : Bool := false   -- one result, a row or a map, goes on in the caller's frame
  arena : Bool := false  -- behind its frame lies one more, for objects that it makes
  take : List Nat := []  -- these parameters are rows that it takes over
  hold : Nat → List Nat := fun _ => []   -- of this call, the arguments that are rows to be taken over
  cold : Nat → Bool := fun _ => false    -- this call's result, a row, is data; this box is never written
  wipe : Nat → Bool := fun _ => false    -- behind this call what it has left in the frame is forgotten
  site : Nat → Nat := fun _ => 0         -- of a loop over the function in that slot: where its code is kept
  cap : Nat → List Nat := fun _ => []    -- likewise: what its rounds see
  again : Nat → Bool := fun _ => false   -- this slot's bool is asked for behind the road that it chose
/-- The code of a loop over a function: whose it is, its parameters, what is done with them, a round's body. -/
structure Site where
  own : Nat
  n : Nat      -- its owner's temporaries
  ps : List Nat
  asg : Code
  body : Code
class Sites where
  site : Nat → Option Site
  glob : List (Nat × Array Value)   -- variables that are laid once and never written: their blocks, what they hold
structure Tab where
  ty : Nat → Ty
  zero : Nat → List D
  ann : Nat → Ann
  eqs : Nat → Bool := fun _ => false   -- structs that are held against each other cell by cell

abbrev Env := List (Nat × PV)
abbrev St := List (List Obj)

/-- The words that an evaluation leaves closed. -/
structure Om where
  cf : Nat → List PV → St → Option (PV × St)
  rd : Nat → List PV → St → Option (PV × St)   -- rounds
  iter : Nat → List Nat → (Env → St → Option (Ex × Env × St)) → Env → St → Option (Ex × Env × St)
  tick : {R : Type} → (Unit → Option R) → Option R
  grp : {R A : Type} → ((A → Option R) → Option R) → (A → Option R) → Option R
  fits : Nat → List (List D) → Option (List (List D)) → Bool
  plain : Nat → List (PV × PV) → Bool
  lenK : {R : Type} → List (List D) → (Int → Option R) → Option R
  catK : {R : Type} → List (List D) → List (List D) → (List (List D) → Int → Option R) → Option R
  setK : {R : Type} → List (List D) → Int → List D → (List (List D) → Option R) → Option R
  setN : List (List D) → Int → List D → List (List D)
  cat : List (List D) → List (List D) → List (List D)
  cut : List (List D) → Int → Int → List (List D)
  fill : List D → Int → List (List D)
  find : List (PV × PV) → PV → Option PV
  put : List (PV × PV) → PV → PV → List (PV × PV)
  del : List (PV × PV) → PV → List (PV × PV)
  mlen : List (PV × PV) → Int
  cutK : {R : Type} → List (List D) → Int → Int → (List (List D) → Option R) → Option R
  fillK : {R : Type} → List D → Int → (List (List D) → Int → Option R) → Option R
  findK : {R : Type} → List (PV × PV) → PV → Option R → (PV → Option R) → Option R
  putK : {R : Type} → List (PV × PV) → PV → PV → (List (PV × PV) → Option R) → Option R
  delK : {R : Type} → List (PV × PV) → PV → (List (PV × PV) → Option R) → Option R
  nilK : {R : Type} → (List (List D) → Option R) → Option R
  emptyK : {R : Type} → (List (PV × PV) → Option R) → Option R
  mlenK : {R : Type} → List (PV × PV) → (Int → Option R) → Option R
  wrap : IntKind → Int → Int
  add : Int → Int → Int
  sub : Int → Int → Int
  mul : Int → Int → Int
  neg : Int → Int
  ieq : Int → Int → Bool
  ilt : Int → Int → Bool
  ile : Int → Int → Bool
  tdiv : Int → Int → Int
  tmod : Int → Int → Int
  seq : ByteArray → ByteArray → Bool
  slt : ByteArray → ByteArray → Bool
  slen : ByteArray → Int
  sapp : ByteArray → ByteArray → ByteArray
  scut : ByteArray → Int → Int → ByteArray
  byte : ByteArray → Int → Int
  len : List (List D) → Int
  nth : List (List D) → Int → Option (List D)
  ofStr : ByteArray → List (List D)
  toStr : List (List D) → Option ByteArray
  same : St → St → Bool
  farK : {R : Type} → St → Nat → Nat → Nat → (List PV → Option R) → Option R
  putFarK : {R : Type} → St → Nat → Nat → Nat → List PV → (St → Option R) → Option R
  mapFarK : {R : Type} → St → Nat → Nat → (KK → Bool → List (PV × PV) → Option R) → Option R
  setFarK : {R : Type} → St → Nat → Nat → Obj → (St → Option R) → Option R
  addFarK : {R : Type} → St → Nat → Obj → (Nat → St → Option R) → Option R
  both : {R : Type} → Option R → Option R → Option R
  loopFarK : {R : Type} → St → Nat → Nat → (Nat → List (Nat × PV) → Option Ex → Option R) → Option R
  rowFarK : {R : Type} → St → Nat → Nat → (Nat → Nat → List (List D) → Bool → Option Int → Option R) → Option R

def egt : Env → Nat → PV
  | [], _ => .unk
  | (k, v) :: r, t => bif Nat.beq k t then v else egt r t
def est : Env → Nat → PV → Env
  | [], t, x => [(t, x)]
  | (k, v) :: r, t, x => bif Nat.beq k t then (t, x) :: r else bif Nat.blt t k then (t, x) :: (k, v) :: r else (k, v) :: est r t x
def del : Env → Nat → Env
  | [], _ => []
  | (k, v) :: r, t => bif Nat.beq k t then del r t else (k, v) :: del r t
def delL : List Nat → Env → Env
  | [], ρ => ρ
  | x :: r, ρ => delL r (del ρ x)
def mem : Nat → List Nat → Bool
  | _, [] => false
  | k, x :: r => bif Nat.beq k x then true else mem k r
/-- What is known on the road that a bool chose. -/
def condE (an : Ann) (ρ : Env) (t : Nat) (b : Bool) : Env := bif an.again t then est ρ t (.d (.bool b)) else del ρ t
def keepOnly (l : List Nat) : Env → Env
  | [] => []
  | (k, v) :: r => bif mem k l then (k, v) :: keepOnly l r else keepOnly l r
def keys : Env → List Nat
  | [] => []
  | (k, _) :: r => k :: keys r

def lit : Value → PV
  | .int k n => .d (.int k n)
  | .bool b => .d (.bool b)
  | .string s => .d (.str s)
  | .slice none 0 0 => .d (.sl [] (some []))
  | .pointer none => .d .nilp
  | .nilFunc => .d .nilf
  | .map none => .d .nilm
  | .agg cs => match lits cs.toList with | some l => .agg l | none => .unk
  | _ => .unk
where
  lit1 : Value → Option D
    | .int k n => some (.int k n)
    | .bool b => some (.bool b)
    | .string s => some (.str s)
    | .slice none 0 0 => some (.sl [] (some []))
    | .pointer none => some .nilp
    | .nilFunc => some .nilf
    | .map none => some .nilm
    | _ => none
  lits : List Value → Option (List PV)
    | [] => some []
    | v :: r => match lit1 v, lits r with | some d, some l => some (.d d :: l) | _, _ => none
def ev (ρ : Env) : Operand → PV
  | .tmp t => egt ρ t
  | .const v => lit v
  | .func f => .d (.fn f [])
  | .global _ => .unk
def evs (ρ : Env) : List Operand → List PV
  | [] => []
  | x :: r => ev ρ x :: evs ρ r

def ds : List D → List PV
  | [] => []
  | x :: r => .d x :: ds r
def allD : List PV → Option (List D)
  | [] => some []
  | .d x :: r => match allD r with | some l => some (x :: l) | none => none
  | _ :: _ => none
def unpack : PV → List PV
  | .agg cs => cs
  | v => [v]

/-- Is a number that of a loop's rounds? -/
def siteB [Sites] (g : Nat) : Bool := match Sites.site g with | none => false | some _ => true
section ops
variable [Sites] (Ω : Om)

def ikEq : IntKind → IntKind → Bool
  | .i8, .i8 => true | .i16, .i16 => true | .i32, .i32 => true | .i64, .i64 => true
  | .u8, .u8 => true | .u16, .u16 => true | .u32, .u32 => true | .u64, .u64 => true
  | _, _ => false
def arith (k : IntKind) (op : BinOp) (x y : Int) : Option D :=
  match op with
  | .add => some (.int k (Ω.wrap k (Ω.add x y)))
  | .sub => some (.int k (Ω.wrap k (Ω.sub x y)))
  | .mul => some (.int k (Ω.wrap k (Ω.mul x y)))
  | .eql => some (.bool (Ω.ieq x y))
  | .neq => some (.bool (!Ω.ieq x y))
  | .lss => some (.bool (Ω.ilt x y))
  | .leq => some (.bool (Ω.ile x y))
  | .gtr => some (.bool (Ω.ilt y x))
  | .geq => some (.bool (Ω.ile y x))
  | _ => none
def arithS (op : BinOp) (x y : ByteArray) : Option D :=
  match op with
  | .eql => some (.bool (Ω.seq x y))
  | .neq => some (.bool (!Ω.seq x y))
  | .lss => some (.bool (Ω.slt x y))
  | .leq => some (.bool (Ω.slt x y || Ω.seq x y))
  | .gtr => some (.bool (!(Ω.slt x y || Ω.seq x y)))
  | .geq => some (.bool (!Ω.slt x y))
  | _ => none
def bin (t : Ty) (op : BinOp) : PV → PV → Option D
  | .d (.int k x), .d (.int k' y) => bif ikEq k k' then arith Ω k op x y else none
  | .d (.bool x), .d (.bool y) => match t, op with | .bool, .eql => some (.bool (x == y)) | .bool, .neq => some (.bool (!(x == y))) | _, _ => none
  | .d (.str x), .d (.str y) => arithS Ω op x y
  | _, _ => none
/-- A pointer, or a map, against nil. -/
def nilTest (t : Ty) : PV → PV → Option Bool
  | .ptr .., .d .nilp => match t with | .ptr _ => some false | _ => none
  | .d .nilp, .d .nilp => match t with | .ptr _ => some true | _ => none
  | .map .., .d .nilm => match t with | .map _ _ => some false | _ => none
  | .d .nilm, .d .nilm => match t with | .map _ _ => some true | _ => none
  | _, _ => none

/-- A value as it is seen from so many frames further in; and back. -/
def down (n : Nat) : PV → PV
  | .d x => .d x
  | .agg cs => .agg (downs cs)
  | .ptr l i o => .ptr (l + n) i o
  | .eptr cs => .eptr cs
  | .row l i k => .row (l + n) i k
  | .rptr l i k x o => .rptr (l + n) i k x o
  | .fn f cs => .fn f (downs cs)
  | .map l i => .map (l + n) i
  | .tail l i k o => .tail (l + n) i k o
  | .yld l i => .yld (l + n) i
  | .tup cs => .tup (downs cs)
  | .skip => .skip
  | .ub => .ub
  | .unk => .unk
where downs : List PV → List PV
  | [] => []
  | v :: r => down n v :: downs r
def sub (l n : Nat) (f : Nat → PV) : PV := bif Nat.ble n l then f (l - n) else .unk
def up (n : Nat) : PV → PV
  | .d x => .d x
  | .agg cs => .agg (ups cs)
  | .ptr l i o => sub l n fun l => .ptr l i o
  | .eptr cs => .eptr cs
  | .row l i k => sub l n fun l => .row l i k
  | .rptr l i k x o => sub l n fun l => .rptr l i k x o
  | .fn f cs => .fn f (ups cs)
  | .map l i => sub l n fun l => .map l i
  | .tail l i k o => sub l n fun l => .tail l i k o
  | .yld l i => sub l n fun l => .yld l i
  | .tup cs => .tup (ups cs)
  | .skip => .unk
  | .ub => .ub
  | .unk => .unk
where ups : List PV → List PV
  | [] => []
  | v :: r => up n v :: ups r

def downE (n : Nat) : Env → Env
  | [] => []
  | (k, v) :: r => (k, down n v) :: downE n r

def look : St → Nat → Nat → Option Obj
  | fr :: _, 0, i => fr[i]?
  | _ :: r, l + 1, i => look r l i
  | [], _, _ => none
def setO : St → Nat → Nat → Obj → St
  | fr :: r, 0, i, o => fr.set i o :: r
  | fr :: r, l + 1, i, o => fr :: setO r l i o
  | [], _, _, _ => []
def addO : St → Nat → Obj → St
  | fr :: r, 0, o => (fr ++ [o]) :: r
  | fr :: r, l + 1, o => fr :: addO r l o
  | [], _, _ => []
def numO : St → Nat → Nat
  | fr :: _, 0 => fr.length
  | _ :: r, l + 1 => numO r l
  | [], _ => 0
def hasL : St → Nat → Bool
  | _ :: _, 0 => true
  | _ :: r, l + 1 => hasL r l
  | [], _ => false
def lvOf (ρ : Env) : Lv → Nat
  | .lit n => n
  | .of s => match egt ρ s with | .ptr l _ _ => l | .row l _ _ => l | .map l _ => l | _ => 0

/-- What lies behind a row that is full. -/
def extOf (cap : Option Int) (rows x : List (List D)) : Option (List (List D)) :=
  match cap with
  | some c => bif Ω.ieq c (Ω.len rows) then some x else none
  | none => none
/-- A row that is handed on, or kept anywhere: as data (it may not be written any more). -/
def freeze (st : St) : PV → PV × St
  | .row l i k => match look st l i with
    | some (.row ty sz rows mt cap) => bif Ω.ieq (Ω.len rows) k then (.d (.sl rows none), bif mt then setO st l i (.row ty sz rows false cap) else st) else (.unk, st)
    | _ => (.unk, st)
  | v => (v, st)
def freezes (st : St) : List PV → List PV × St
  | [] => ([], st)
  | v :: r => let q := freeze Ω st v; let s := freezes q.2 r; (q.1 :: s.1, s.2)

/-- Rows are handed on as data. -/
def freezesK {R : Type} (st : St) (vs : List PV) (K : List PV → St → Option R) : Option R :=
  match vs with
  | [] => K [] st
  | .row l i k :: r => match look st l i with
    | some (.row ty sz rows mt cap) => bif Ω.ieq (Ω.len rows) k then freezesK (bif mt then setO st l i (.row ty sz rows false cap) else st) r (fun vs st => K (.d (.sl rows none) :: vs) st) else none
    | _ => none
  | v :: r => freezesK st r (fun vs st => K (v :: vs) st)

/-- Likewise, but for those that a function takes over. -/
def freezesTK {R : Type} (tk : List Nat) : Nat → List PV → St → (List PV → St → Option R) → Option R
  | _, [], st, K => K [] st
  | p, v :: r, st, K => bif mem p tk then freezesTK tk (p + 1) r st fun vs st => K (v :: vs) st
    else freezesK Ω st [v] fun u st => freezesTK tk (p + 1) r st fun vs st => K (u ++ vs) st
def hdP : List PV → PV
  | [v] => v
  | _ => .unk
/-- Does a value point at an object of the topmost frame, from the n-th on? -/
def below (n : Nat) : PV → Bool
  | .d _ => true
  | .agg cs => belows cs
  | .ptr l i _ => bif Nat.beq l 0 then Nat.blt i n else true
  | .eptr _ => true
  | .row l i _ => bif Nat.beq l 0 then Nat.blt i n else true
  | .rptr l i _ _ _ => bif Nat.beq l 0 then Nat.blt i n else true
  | .fn _ cs => belows cs
  | .map l i => bif Nat.beq l 0 then Nat.blt i n else true
  | .tail l i _ _ => bif Nat.beq l 0 then Nat.blt i n else true
  | .yld l i => bif Nat.beq l 0 then Nat.blt i n else true
  | .tup cs => belows cs
  | .skip => true
  | .ub => true
  | .unk => true
where belows : List PV → Bool
  | [] => true
  | v :: r => bif below n v then belows r else false
def belowE (n : Nat) : Env → Bool
  | [] => true
  | (_, v) :: r => bif below n v then belowE n r else false
def belowO (_pl : Nat → List (PV × PV) → Bool) (n : Nat) : Obj → Bool
  | .box _ cs => below.belows n cs
  | .row _ _ _ _ _ => true
  | .map _ fl _ => fl
  | .void => true
  | .loop _ ρ _ => belowE n ρ
def belowF (pl : Nat → List (PV × PV) → Bool) (n : Nat) : List Obj → Bool
  | [] => true
  | o :: r => bif belowO pl n o then belowF pl n r else false
/-- Objects of the topmost frame that nothing points at any more are forgotten, from the n-th on. -/
def trim (pl : Nat → List (PV × PV) → Bool) (n : Nat) (ρ : Env) : St → St
  | [] => []
  | fr :: r => bif Nat.ble fr.length n then fr :: r else bif belowE n ρ then bif belowF pl n (fr.take n) then fr.take n :: r else fr :: r else fr :: r

def coldK {R : Type} (b : Bool) (r : PV × St) (K : PV → St → Option R) : Option R :=
  bif b then freezesK Ω r.2 [r.1] fun vs st => K (hdP vs) st else K r.1 r.2
/-- What a call has left in the frame, and nothing points at, is forgotten. -/
def wipeK {R : Type} (b : Bool) (n : Nat) (K : PV → St → Option R) (v : PV) (st : St) : Option R :=
  bif b then (match v with | .d x => K (.d x) (trim Ω.plain n [] st) | _ => none) else K v st
def cellsAt (st : St) : PV → Option (List PV)
  | .ptr l i off => match look st l i with
    | some (.box _ cs) => some (down.downs l (cs.drop off))
    | _ => none
  | .rptr l i k x off => match look st l i with
    | some (.row _ _ rows _ _) => bif Ω.ieq (Ω.len rows) k then (match Ω.nth rows x with | some r => some (ds (r.drop off)) | none => none) else none
    | _ => none
  | .eptr cs => some (ds cs)
  | _ => none
def cellsK {R : Type} (st : St) (v : PV) (K : List PV → Option R) : Option R :=
  match v with
  | .ptr l i off => match look st l i with
    | some (.box _ cs) => K (down.downs l (cs.drop off))
    | _ => none
  | .rptr l i k x off => match look st l i with
    | some (.row _ _ rows _ _) => bif Ω.ieq (Ω.len rows) k then (Ω.nth rows x).bind fun r => K (ds (r.drop off)) else none
    | _ => none
  | .eptr cs => K (ds cs)
  | _ => none
def headO : List PV → Option PV
  | v :: _ => some v
  | [] => none
def pack (Γ : Tab) (t : Nat) (cs : List PV) : Option PV :=
  match Γ.ty t with
  | .agg n _ => bif Nat.ble n cs.length then some (.agg (cs.take n)) else none
  | .array _ _ => none
  | .bad => none
  | _ => headO cs

/-- Cells that may be stored. -/
def cellOk : PV → Bool
  | .agg _ => false
  | .tup _ => false
  | .skip => false
  | .ub => false
  | .unk => false
  | _ => true
def cellsOk : List PV → Bool
  | [] => true
  | v :: r => bif cellOk v then cellsOk r else false
/-- Parts laid into cells. -/
def fillC (place : Nat → Option (Nat × Nat)) (cells : List PV) : List (Nat × PV) → Option (List PV)
  | [] => some cells
  | (i, v) :: r => match place i with
    | some (off, sz) => bif Nat.beq (unpack v).length sz then bif Nat.ble (off + sz) cells.length then bif cellsOk (unpack v)
      then fillC place (cells.take off ++ unpack v ++ cells.drop (off + sz)) r else none else none else none
    | none => none
def fieldPl (fs : List (Nat × Nat × Nat)) (i : Nat) : Option (Nat × Nat) := match fs[i]? with | some q => some (q.1, q.2.1) | none => none
def repl (z : List PV) : Nat → List PV
  | 0 => []
  | n + 1 => z ++ repl z n
def chunk (sz : Nat) : Nat → List D → List (List D)
  | 0, _ => []
  | n + 1, l => l.take sz :: chunk sz n (l.drop sz)

/-- One of two roads, of which the other is not looked at. -/
def br {R : Type} (b : Bool) (x y : Unit → Option R) : Option R := (bif b then x else y) ()
theorem br_true {R : Type} (x y : Unit → Option R) : br true x y = x () := rfl
theorem br_false {R : Type} (x y : Unit → Option R) : br false x y = y () := rfl
theorem br_bind {R S : Type} (b : Bool) (x y : Unit → Option R) (f : R → Option S) : (br b x y).bind f = br b (fun _ => (x ()).bind f) (fun _ => (y ()).bind f) := by cases b <;> rfl
abbrev CallK (R : Type) := PV → St → Option R
variable {R : Type}

/-- The elements of a slice that is only read. -/
def rowsOf (st : St) : PV → Option (Int × List (List D))
  | .d (.sl rows _) => some (Ω.len rows, rows)
  | .row l i k => match look st l i with
    | some (.row _ _ rows _ _) => some (k, rows)
    | _ => none
  | _ => none

/-- A string's bytes, as rows. -/
def strRows (s : ByteArray) : List (List D) := s.data.toList.map fun b => [.int .u8 b.toNat]
def limit : Int := 140737488355328

/-- A new row of what was and what is added. -/
def newRow_ (mt : Bool) (lv : Nat) (e sz bytes : Nat) (st : St) (rows : List (List D)) (K : CallK R) : Option R :=
  Ω.lenK rows fun n => bif Ω.ile (Ω.mul n bytes) limit then bif hasL st lv then K (.row lv (numO st lv) n) (addO st lv (.row e sz rows mt none)) else none else none
def capOf (cap : Option Int) (n : Int) : Option Int := match cap with | some c => bif Ω.ile n c then cap else none | none => none
def evAppend (Γ : Tab) (mt : Bool) (lv : Nat) (e sz bytes : Nat) (st : St) (s x : PV) (K : CallK R) : Option R :=
  match Γ.zero e, rowsOf Ω st x with
  | _ :: _, some (kx, xs) => bif Ω.ieq (Ω.len xs) kx then bif Ω.fits sz xs none then (match s with
    | .d (.sl rows ext) => br (Ω.ieq (Ω.len xs) 0) (fun _ => K s st) (fun _ => bif Ω.fits sz rows ext then (match ext with
      | some [] => Ω.catK rows xs fun rows' _ => newRow_ Ω mt lv e sz bytes st rows' K
      | _ => none) else none)
    | .row l i k => match look st l i with
      | some (.row e' szr rows mt' cap) => bif Ω.ieq (Ω.len rows) k then br (Ω.ieq (Ω.len xs) 0) (fun _ => K s st) (fun _ => bif Nat.beq e e' then bif Nat.beq sz szr
          then Ω.catK rows xs fun rows' n => bif Ω.ile (Ω.mul n bytes) limit
            then (match cap with
              | none => K (.row l i n) (setO st l i (.row e' szr rows' mt' none))
              | some c => bif Ω.ile n c then K (.row l i n) (setO st l i (.row e' szr rows' mt' (some c))) else none) else none
          else none else none) else none
      | _ => none
    | _ => none) else none else none
  | _, _ => none

/-- An empty slice without room becomes a row of its own first, if it is said so. -/
def evAppendO (Γ : Tab) (own : Option Nat) (mt : Bool) (lv : Nat) (e sz bytes : Nat) (st : St) (s x : PV) (K : CallK R) : Option R :=
  match own, s with
  | some _, .d (.sl [] (some [])) => bif hasL st 0 then Ω.nilK fun rows => evAppend Ω Γ mt 0 e sz bytes (addO st 0 (.row e sz rows mt none)) (.row 0 (numO st 0) 0) x K else none
  | _, _ => evAppend Ω Γ mt lv e sz bytes st s x K
def sInt (d : Int) : Option PV → Option Int
  | none => some d
  | some (.d (.int _ n)) => some n
  | _ => none
def evSliceD (st : St) (rows : List (List D)) (ext : Option (List (List D))) (lo hi mx : Option PV) (zz : Bool) (K : CallK R) : Option R :=
  Ω.lenK rows fun n =>
  match sInt 0 lo, sInt n hi, mx, ext with
  | some l, some h, none, none => bif Ω.ile 0 l then bif Ω.ile l h then bif Ω.ile h n then Ω.cutK rows l h fun q => K (.d (.sl q none)) st else none else none else none
  | some l, some h, none, some hid => Ω.catK rows hid fun all tot => bif Ω.ile 0 l then bif Ω.ile l h then bif Ω.ile h tot
      then Ω.cutK all l h fun q => Ω.cutK all h tot fun q' => K (.d (.sl q (some q'))) st else none else none else none
  | some l, some h, some (.d (.int _ m)), _ => match hi with
    | none => none
    | some _ => bif Ω.ile 0 l then bif Ω.ile l h then bif Ω.ile h m then bif Ω.ile m n
      then (bif zz then K (.d (.sl [] (some []))) st else Ω.cutK rows l h fun q => Ω.cutK rows h m fun q' => K (.d (.sl q (some q'))) st) else none else none else none else none
  | _, _, _, _ => none
/-- A bound that is 0 by the text. -/
def isC0 : Option Operand → Bool
  | some (.const (.int _ (.ofNat 0))) => true
  | _ => false
/-- A row that goes on as its own beginning. -/
def evRe (st : St) (i ty sz : Nat) (rows : List (List D)) (k : Int) (lo hi mx : Option PV) (K : CallK R) : Option R :=
  match lo, hi, mx with
  | none, some (.d (.int _ h)), none => bif Ω.ile 0 h then bif Ω.ile h k then Ω.cutK rows 0 h fun q => K (.row 0 (numO st 0) h) (addO (setO st 0 i .void) 0 (.row ty sz q true none)) else none else none
  | some (.d (.int _ o)), none, none => bif Ω.ile 0 o then bif Ω.ile o k then K (.tail 0 i k o) st else none else none
  | none, some (.d (.int _ h)), some (.d (.int _ m)) => bif Ω.ile 0 h then bif Ω.ile h m then bif Ω.ile m k then Ω.cutK rows 0 h fun q => K (.row 0 (numO st 0) h) (addO (setO st 0 i .void) 0 (.row ty sz q true none)) else none else none else none
  | _, _, _ => none
def evSlice (t : Ty) (st : St) (x : PV) (lo hi mx : Option PV) (zz re : Bool) (K : CallK R) : Option R :=
  match t, x with
  | .str, .d (.str s) => match sInt 0 lo, sInt (Ω.slen s) hi, mx with
    | some l, some h, none => bif Ω.ile 0 l then bif Ω.ile l h then bif Ω.ile h (Ω.slen s) then K (.d (.str (Ω.scut s l h))) st else none else none else none
    | _, _, _ => none
  | .slice _ sz _, .d (.sl rows ext) => bif Ω.fits sz rows ext then evSliceD Ω st rows ext lo hi mx zz K else none
  | .slice _ sz' _, .row l i k => match look st l i with
    | some (.row ty sz rows true _) => bif re then bif Nat.beq l 0 then bif Nat.beq sz sz' then bif Ω.ieq (Ω.len rows) k then evRe Ω st i ty sz rows k lo hi mx K else none else none else none else none
    | some (.row _ sz rows false cap) => bif Nat.beq sz sz' then bif Ω.ieq (Ω.len rows) k then (match cap with
      | some c => br (Ω.ieq c k) (fun _ => evSliceD Ω st rows (some []) lo hi mx zz K) (fun _ => evSliceD Ω st rows none lo hi mx zz K)
      | none => evSliceD Ω st rows none lo hi mx zz K) else none else none
    | _ => none
  | _, _ => none

def eqD : Ty → D → D → Option Bool
  | .int _, .int k x, .int k' y => bif ikEq k k' then some (Ω.ieq x y) else none
  | .bool, .bool x, .bool y => some (x == y)
  | .str, .str x, .str y => some (Ω.seq x y)
  | _, _, _ => none
def eqCs (Γ : Tab) : List (Nat × Nat × Nat) → List PV → List PV → Option Bool
  | [], [], [] => some true
  | g :: gs, .d u :: us, .d v :: vs => match eqD Ω (Γ.ty g.2.2) u v with
    | none => none
    | some b => match eqCs Γ gs us vs with
      | none => none
      | some c => some (b && c)
  | _, _, _ => none
def evEq (Γ : Tab) (t : Nat) (op : BinOp) (st : St) (x y : PV) (K : CallK R) : Option R :=
  match Γ.ty t, x, y with
  | .agg _ gs, .agg us, .agg vs => match eqCs Ω Γ gs us vs with
    | some b => match op with
      | .eql => K (.d (.bool b)) st
      | .neq => K (.d (.bool !b)) st
      | _ => none
    | none => none
  | _, _, _ => none
/-- nil by the text: a slice's. -/
def isNilC : Operand → Bool
  | .const (.slice none 0 0) => true
  | _ => false
/-- A slice against nil: an empty one may be it. -/
def evNil (t : Ty) (op : BinOp) (st : St) (x : PV) (K : CallK R) : Option R :=
  match t, x, op with
  | .slice _ _ _, .d (.sl rows _), .eql => br (Ω.ieq (Ω.len rows) 0) (fun _ => K .ub st) (fun _ => K (.d (.bool false)) st)
  | .slice _ _ _, .d (.sl rows _), .neq => br (Ω.ieq (Ω.len rows) 0) (fun _ => K .ub st) (fun _ => K (.d (.bool true)) st)
  | _, _, _ => none
def maxStr : Int := 9223372036854775807
def evBin (t : Ty) (op : BinOp) (st : St) (x y : PV) (K : CallK R) : Option R :=
  match bin Ω t op x y with
  | some v => K (.d v) st
  | none => match nilTest t x y with
    | some b => match op with
      | .eql => K (.d (.bool b)) st
      | .neq => K (.d (.bool !b)) st
      | _ => none
    | none => match op, x, y with
      | .add, .d (.str a), .d (.str b) => bif Ω.ile (Ω.add (Ω.slen a) (Ω.slen b)) maxStr then K (.d (.str (Ω.sapp a b))) st else none
      | .quo, .d (.int k a), .d (.int k' b) => bif ikEq k k' then bif Ω.ieq b 0 then none else K (.d (.int k (Ω.wrap k (Ω.tdiv a b)))) st else none
      | .rem, .d (.int k a), .d (.int k' b) => bif ikEq k k' then bif Ω.ieq b 0 then none else K (.d (.int k (Ω.tmod a b))) st else none
      | _, _, _ => none

/-- What kind of keys a map has. -/
def kcsOf (Γ : Tab) : List (Nat × Nat × Nat) → Option (List KC)
  | [] => some []
  | q :: r => match Γ.ty q.2.2, kcsOf Γ r with
    | .int k, some cs => some (.int k :: cs)
    | .bool, some cs => some (.bool :: cs)
    | .str, some cs => some (.str :: cs)
    | _, _ => none
def kkOf (Γ : Tab) (t : Nat) : Option KK :=
  match Γ.ty t with
  | .str => some .str
  | .int k => some (.int k)
  | .agg _ fs => bif Γ.eqs t then (match kcsOf Γ fs with | some cs => some (.agg cs) | none => none) else none
  | _ => none
def kcsEq : List KC → List KC → Bool
  | [], [] => true
  | .int j :: a, .int k :: b => bif ikEq j k then kcsEq a b else false
  | .bool :: a, .bool :: b => kcsEq a b
  | .str :: a, .str :: b => kcsEq a b
  | _, _ => false
def kkEq : KK → KK → Bool
  | .str, .str => true
  | .int j, .int k => ikEq j k
  | .agg a, .agg b => kcsEq a b
  | _, _ => false
def cellsKey : List KC → List PV → Bool
  | [], [] => true
  | .int k :: cs, .d (.int j _) :: vs => bif ikEq k j then cellsKey cs vs else false
  | .bool :: cs, .d (.bool _) :: vs => cellsKey cs vs
  | .str :: cs, .d (.str _) :: vs => cellsKey cs vs
  | _, _ => false
def keyOk : KK → PV → Bool
  | .int k, .d (.int j _) => ikEq k j
  | .str, .d (.str _) => true
  | .agg cs, .agg vs => cellsKey cs vs
  | _, _ => false
def evLookup (Γ : Tab) (kk : KK) (e : Nat) (ok : Bool) (st : St) (m k : PV) (K : CallK R) : Option R :=
  let give (v : PV) (b : Bool) : PV := bif ok then .tup [v, .d (.bool b)] else v
  bif keyOk kk k then
  match m, pack Γ e (ds (Γ.zero e)) with
  | .d .nilm, some z => K (give z false) st
  | .map l i, some z => match look st l i with
    | some (.map kk' _ es) => bif kkEq kk kk' then Ω.findK es k (K (give z false) st) (fun v => K (give (down l v) true) st) else none
    | _ => none
  | _, _ => none
  else none
/-- The cells made a value again. -/
def repack : PV → List PV → PV
  | .agg _, vs => .agg vs
  | _, vs => match vs with | [v] => v | _ => .unk
/-- A value that may be laid into a map. -/
def valOk : PV → Bool
  | .agg cs => cellsOk cs
  | v => cellOk v

/-- Of a type's cells, which is a slice: the type and the size of its elements. -/
def ownTy (Γ : Tab) (t j : Nat) : Option (Nat × Nat) :=
  match Γ.ty t with
  | .slice e sz _ => bif Nat.beq j 0 then some (e, sz) else none
  | .agg _ fs => match fs.find? (fun q => Nat.beq q.1 j) with
    | some q => match Γ.ty q.2.2 with
      | .slice e sz _ => some (e, sz)
      | _ => none
    | none => none
  | _ => none
/-- Cells whose nil slices are rows of their own that grow. -/
def ownCells (Γ : Tab) (t : Nat) : Nat → List D → St → (List PV → St → Option R) → Option R
  | _, [], st, K => K [] st
  | j, d :: r, st, K => match d, ownTy Γ t j with
    | .sl [] (some []), some q => Ω.nilK fun rows => ownCells Γ t (j + 1) r (addO st 0 (.row q.1 q.2 rows true none)) fun cs st' => K (.row 0 (numO st 0) 0 :: cs) st'
    | d, _ => ownCells Γ t (j + 1) r st fun cs st' => K (.d d :: cs) st'

def evalOp (Γ : Tab) (an : Ann) (ρ : Env) (st : St) (dst : Option Nat) (op : Op) (K : CallK R) : Option R :=
  let d := match dst with | some d => d | none => 0
  match op with
  | .move x => K (ev ρ x) st
  | .assign x => match an.own d with
    | some t => match x, Γ.ty t with
      | .const (.slice none 0 0), .slice e sz _ => bif hasL st 0 then Ω.nilK fun rows => K (.row 0 (numO st 0) 0) (addO st 0 (.row e sz rows (an.mt d) none)) else none
      | _, _ => K (ev ρ x) st
    | none => K (ev ρ x) st
  | .pick c a b => match ev ρ c with | .d (.bool t) => br t (fun _ => K (ev ρ a) st) (fun _ => K (ev ρ b) st) | _ => none
  | .box t x => freezesK Ω st (unpack (ev ρ x)) fun cs st => bif an.cold d then (match allD cs with | some l => K (.eptr l) st | none => none) else
      match an.own d, lvOf ρ (an.lv d) with
      | some t2, 0 => (match allD cs with | some l => bif hasL st 0 then ownCells Ω Γ t2 0 l st fun cs st => K (.ptr 0 (numO st 0) 0) (addO st 0 (.box t cs)) else none | none => none)
      | _, lv => bif hasL st lv then bif cellsOk (up.ups lv cs) then K (.ptr lv (numO st lv) 0) (addO st lv (.box t (up.ups lv cs))) else none else none
  | .alloc t => match Γ.zero t with
    | [] => none
    | z => match an.own d with
      | none => bif hasL st (lvOf ρ (an.lv d)) then K (.ptr (lvOf ρ (an.lv d)) (numO st (lvOf ρ (an.lv d))) 0) (addO st (lvOf ρ (an.lv d)) (.box t (ds z))) else none
      | some _ => bif hasL st 0 then ownCells Ω Γ t 0 z st fun cs st => K (.ptr 0 (numO st 0) 0) (addO st 0 (.box t cs)) else none
  | .load t a => cellsK Ω st (ev ρ a) fun cs => match pack Γ t cs with
    | some v => K v st
    | none => none
  | .store t a x => bif Nat.beq (Γ.zero t).length (unpack (ev ρ x)).length then bif Nat.ble 1 (Γ.zero t).length then match ev ρ a with
    | .ptr l i off => match look st l i with
      | some (.box t cs) => bif cellsOk (up.ups l (unpack (ev ρ x))) then bif Nat.ble (off + (unpack (ev ρ x)).length) cs.length
        then K .skip (setO st l i (.box t (cs.take off ++ up.ups l (unpack (ev ρ x)) ++ cs.drop (off + (unpack (ev ρ x)).length)))) else none else none
      | _ => none
    | .rptr l i k ix off => freezesK Ω st (unpack (ev ρ x)) fun vs st =>
        match look st l i with
        | some (.row ty sz rows true cap) => bif Ω.ieq (Ω.len rows) k then (Ω.nth rows ix).bind fun r => (match allD vs with
          | some vs => bif Nat.ble (off + vs.length) r.length then Ω.setK rows ix (r.take off ++ vs ++ r.drop (off + vs.length)) fun rows' => K .skip (setO st l i (.row ty sz rows' true cap)) else none
          | none => none) else none
        | _ => none
    | _ => none
    else none else none
  | .fieldAddr t x f => match Γ.ty t with
    | .agg _ fs => match fs[f]? with
      | some q => match ev ρ x with
        | .ptr l i off => K (.ptr l i (off + q.1)) st
        | .rptr l i k ix off => K (.rptr l i k ix (off + q.1)) st
        | .eptr cs => bif Nat.ble q.1 cs.length then K (.eptr (cs.drop q.1)) st else none
        | _ => none
      | none => none
    | _ => none
  | .field t x f => match Γ.ty t, ev ρ x with
    | .agg _ fs, .agg cs => match fs[f]? with
      | some q => match pack Γ q.2.2 (cs.drop q.1) with | some v => K v st | none => none
      | none => none
    | _, _ => none
  | .indexAddr t x ix => match Γ.ty t with
    | .slice _ sz _ => match ev ρ x, ev ρ ix with
      | .d (.sl rows _), .d (.int _ i) => bif Ω.fits sz rows none then (Ω.nth rows i).bind fun r => K (.eptr r) st else none
      | .row l j k, .d (.int _ i) => match look st l j with
        | some (.row _ sz' rows _ _) => bif Nat.beq sz sz' then bif Ω.ieq (Ω.len rows) k then (Ω.nth rows i).bind fun _ => K (.rptr l j k i 0) st else none else none
        | _ => none
      | _, _ => none
    | _ => none
  | .index t x ix => match Γ.ty t, ev ρ x, ev ρ ix with
    | .str, .d (.str s), .d (.int _ i) => bif Ω.ile 0 i then bif Ω.ilt i (Ω.slen s) then K (.d (.int .u8 (Ω.byte s i))) st else none else none
    | .array n _, .agg cs, .d (.int _ i) => bif Ω.ile 0 i then bif Nat.blt i.toNat n then (match cs[i.toNat]? with | some (.d x) => K (.d x) st | _ => none) else none else none
    | _, _, _ => none
  | .binOp op t x y _ => bif Γ.eqs t then evEq Ω Γ t op st (ev ρ x) (ev ρ y) K else bif isNilC y then evNil Ω (Γ.ty t) op st (ev ρ x) K else evBin Ω (Γ.ty t) op st (ev ρ x) (ev ρ y) K
  | .unOp op _ x => match op, ev ρ x with
    | .not, .d (.bool b) => K (.d (.bool !b)) st
    | .neg, .d (.int k n) => K (.d (.int k (Ω.wrap k (Ω.sub 0 n)))) st
    | _, _ => none
  | .convert src dst x => match Γ.ty src, Γ.ty dst, ev ρ x with
    | .int _, .int k, .d (.int _ n) => K (.d (.int k (Ω.wrap k n))) st
    | .str, .str, .d (.str s) => K (.d (.str s)) st
    | .int _, .str, .d (.int _ n) => K (.d (.str (Utf8.encode n))) st
    | _, _, _ => none
  | .build t parts => match Γ.ty t, Γ.zero t with
    | .agg _ fs, z0 :: z1 => freezesK Ω st (evs ρ (parts.toList.map (·.2))) fun vs st =>
        match fillC (fieldPl fs) (ds (z0 :: z1)) (List.zip (parts.toList.map (·.1)) vs) with
        | some cs => K (.agg cs) st
        | none => none
    | _, _ => none
  | .buildSlice t n parts => match Γ.ty t with
    | .slice e sz _ => match Γ.zero e with
      | [] => none
      | z => bif Nat.ble (n * sz) 16777216 then (freezesK Ω st (evs ρ (parts.toList.map (·.2))) fun vs st =>
          match fillC (fun i => some (i * sz, sz)) (repl (ds z) n) (List.zip (parts.toList.map (·.1)) vs) with
          | some cs => match allD cs with
            | some cs => K (.d (.sl (chunk sz n cs) (some []))) st
            | none => none
          | none => none) else none
    | _ => none
  | .makeSlice t l c => match Γ.ty t, ev ρ l, ev ρ c with
    | .slice e sz bytes, .d (.int _ l), .d (.int _ c) => match Γ.zero e with
      | [] => none
      | z => bif Ω.ile 0 l then bif Ω.ile l c then bif Ω.ile (Ω.mul c bytes) limit then bif hasL st (lvOf ρ (an.lv d))
        then Ω.fillK z l fun rows n => K (.row (lvOf ρ (an.lv d)) (numO st (lvOf ρ (an.lv d))) n) (addO st (lvOf ρ (an.lv d)) (.row e sz rows (an.mt d) (some c))) else none else none else none else none
    | _, _, _ => none
  | .slice t x lo hi mx => evSlice Ω (Γ.ty t) st (ev ρ x) (lo.map (ev ρ)) (hi.map (ev ρ)) (mx.map (ev ρ)) (isC0 hi && isC0 mx) (match an.own d with | some _ => true | none => false) K
  | .makeFunc (.func f) first captured => match first.toList with
    | [] => freezesK Ω st (evs ρ captured.toList) fun vs st =>
        match allD vs with
        | some l => K (.d (.fn f l)) st
        | none => bif cellsOk vs then K (.fn f vs) st else none
    | _ => none
  | .makeMap t r => match r, Γ.ty t with
    | none, .map kt _ => match kkOf Γ kt with
      | some kk => bif hasL st (lvOf ρ (an.lv d)) then Ω.emptyK fun es => K (.map (lvOf ρ (an.lv d)) (numO st (lvOf ρ (an.lv d)))) (addO st (lvOf ρ (an.lv d)) (.map kk (!(an.rf d)) es)) else none
      | none => none
    | _, _ => none
  | .lookup t m k ok => match Γ.ty t with
    | .map kt e => match kkOf Γ kt with
      | some kk => evLookup Ω Γ kk e ok st (ev ρ m) (ev ρ k) K
      | none => none
    | _ => none
  | .mapUpdate t m k x => match Γ.ty t with
    | .map kt _ => match kkOf Γ kt, ev ρ m with
      | some kk, .map l i => freezesK Ω st (unpack (ev ρ x)) fun vs st =>
          match look st l i with
          | some (.map kk' fl es) => bif kkEq kk kk' then bif keyOk kk (ev ρ k) then bif cellsOk (up.ups l vs)
            then bif (bif fl then flatV (repack (ev ρ x) (up.ups l vs)) else true) then Ω.putK es (ev ρ k) (repack (ev ρ x) (up.ups l vs)) fun es' => K .skip (setO st l i (.map kk' fl es')) else none else none else none else none
          | _ => none
      | _, _ => none
    | _ => none
  | .extract t i => match ev ρ t with
    | .tup l => match l[i]? with | some v => K v st | none => none
    | _ => none
  | .nilCheck x => match ev ρ x with
    | .ptr l i o => K (.ptr l i o) st
    | .fn f cs => K (.fn f cs) st
    | .d (.fn f cs) => K (.d (.fn f cs)) st
    | .eptr cs => K (.eptr cs) st
    | .rptr l i k x o => K (.rptr l i k x o) st
    | _ => none
  | .call c => match c.callee with
    | .builtin b => match b, evs ρ c.args.toList, c.argTypes.toList with
      | .len, [v], [t] => match Γ.ty t, v with
        | .str, .d (.str s) => K (.d (.int .i64 (Ω.slen s))) st
        | .slice _ _ _, .d (.sl rows _) => Ω.lenK rows fun n => K (.d (.int .i64 n)) st
        | .slice _ _ _, .row _ _ n => K (.d (.int .i64 n)) st
        | .map _ _, .d .nilm => K (.d (.int .i64 0)) st
        | .map _ _, .map l i => match look st l i with
          | some (.map _ _ es) => Ω.mlenK es fun n => K (.d (.int .i64 n)) st
          | _ => none
        | _, _ => none
      | .cap, [v], [t] => match Γ.ty t, v with
        | .slice _ _ _, .d (.sl rows (some hid)) => Ω.catK rows hid fun _ n => K (.d (.int .i64 n)) st
        | _, _ => none
      | .append, [s, x], [t, t'] => match Γ.ty t, Γ.ty t' with
        | .slice e sz bytes, .slice _ _ _ => evAppendO Ω Γ (an.own d) (an.mt d) (lvOf ρ (an.lv d)) e sz bytes st s x K
        | .slice e sz bytes, .str => match x with
          | .d (.str b) => evAppendO Ω Γ (an.own d) (an.mt d) (lvOf ρ (an.lv d)) e sz bytes st s (.d (.sl (strRows b) (some []))) K
          | _ => none
        | _, _ => none
      | .delete, [m, k], [t, _] => match Γ.ty t with
        | .map kt _ => match kkOf Γ kt, m with
          | some kk, .map l i => match look st l i with
            | some (.map kk' fl es) => bif kkEq kk kk' then bif keyOk kk k then Ω.delK es k fun es' => K (.tup []) (setO st l i (.map kk' fl es')) else none else none
            | _ => none
          | _, _ => none
        | _ => none
      | .clear, [.tail l i k lo], [t] => match Γ.ty t with
        | .slice e sz' _ => match look st l i with
          | some (.row ty sz rows true cap) => bif Nat.beq sz sz' then bif Nat.beq (Γ.zero e).length sz then bif Ω.ieq (Ω.len rows) k then
              Ω.cutK rows 0 lo fun a => Ω.fillK (Γ.zero e) (Ω.sub k lo) fun z _ => Ω.catK a z fun rows' _ => K (.tup []) (setO st l i (.row ty sz rows' true cap)) else none else none else none
          | _ => none
        | _ => none
      | .min, [.d (.int k x), .d (.int _ y)], _ => br (Ω.ile x y) (fun _ => K (.d (.int k x)) st) (fun _ => K (.d (.int k y)) st)
      | .max, [.d (.int k x), .d (.int _ y)], _ => br (Ω.ile x y) (fun _ => K (.d (.int k y)) st) (fun _ => K (.d (.int k x)) st)
      | _, _, _ => none
    | .value f => freezesTK Ω (an.hold d) 0 (evs ρ c.args.toList) st fun args st =>
        match ev ρ f with
        | .d (.fn g caps) => (Ω.cf g (args ++ ds caps) st).bind fun r => coldK Ω (an.cold d) r (wipeK Ω (an.wipe d) (numO st 0) K)
        | .fn g caps => (Ω.cf g (args ++ caps) st).bind fun r => coldK Ω (an.cold d) r (wipeK Ω (an.wipe d) (numO st 0) K)
        | .yld l i => match look st l i with
          | some (.loop site _ none) => (Ω.rd site (.yld l i :: args) st).bind fun r => K r.1 r.2
          | _ => none
        | _ => none
    | _ => none
  | _ => none

def putD (ρ : Env) : Option Nat → PV → Env
  | some d, v => est ρ d v
  | none, _ => ρ
/-- An operation as it is run: where its value goes, what it is, on which slot's bool it waits. -/
structure XO where
  dst : Option Nat
  op : Op
  g : Option (Nat × Bool)
  chk : Bool
  dead : List Nat
/-- Operations that never touch the store. -/
def quiet : Op → Bool
  | .move _ => true | .assign (.const (.slice none 0 0)) => false | .assign _ => true | .pick _ _ _ => true | .load _ _ => true | .fieldAddr _ _ _ => true | .field _ _ _ => true
  | .indexAddr _ _ _ => true | .index _ _ _ => true | .binOp _ _ _ _ _ => true | .unOp _ _ _ => true | .convert _ _ _ => true
  | .lookup _ _ _ _ => true | .extract _ _ => true | .nilCheck _ => true
  | .call c => match c.callee with
    | .builtin .len => true | .builtin .cap => true | .builtin .min => true | .builtin .max => true
    | _ => false
  | _ => false
/-- Operations that may run in another order, where they leave the store as it is. -/
def still : Op → Bool
  | .slice _ _ _ _ _ => true | .build _ _ => true | .buildSlice _ _ _ => true | .makeFunc _ _ _ => true
  | .call c => match c.callee with
    | .value _ => true
    | .builtin .len => true | .builtin .cap => true | .builtin .min => true | .builtin .max => true
    | _ => false
  | o => quiet o
def waits (ops : List Oper) (j i : Nat) : Bool :=
  match ops[j]? with
  | some o => o.after.toList.any fun e => Region.binds .any e && Nat.beq e.on i
  | none => false
/-- All that stands earlier has run, and nothing that stands later. -/
def barB (ops : List Oper) (k : Nat) : Bool :=
  ((List.range k).all fun i => (List.range (k + 1)).any fun j => Nat.blt i j && waits ops j i) &&
  ((List.range ops.length).all fun j => Nat.ble j k || (List.range j).any fun i => Nat.ble k i && waits ops j i)
def guardSlot (ops : List Oper) (j : Nat) : Nat :=
  match ops[j]? with
  | some o => match o.dst with | some d => d | none => 0
  | none => 0
def deadOf (an : Ann) (drawn : Bool) : Option Nat → List Nat
  | some d => bif drawn then [] else an.dead d
  | none => []
def xOps (an : Ann) (drawn : Bool) (all : List Oper) : Nat → List Oper → List XO
  | _, [] => []
  | k, o :: r => ⟨o.dst, o.op, (match o.guard with | some (j, want) => some (guardSlot all j, want) | none => none),
      (bif drawn then (bif quiet o.op then false else !(barB all k)) else false), deadOf an drawn o.dst⟩ :: xOps an drawn all (k + 1) r
def sealK (chk : Bool) (st : St) (K : CallK R) : CallK R := fun v st' => bif chk then bif Ω.same st st' then K v st else none else K v st'
def runOps (Γ : Tab) (an : Ann) : List XO → Env → St → (Env → St → Option R) → Option R
  | [], ρ, st, K => K ρ st
  | ⟨dst, op, g, chk, dead⟩ :: rest, ρ, st, K =>
    match g with
    | none => evalOp Ω Γ an ρ st dst op (sealK Ω chk st fun v st => runOps Γ an rest (delL dead (putD ρ dst v)) st K)
    | some (j, want) => match egt ρ j with
      | .d (.bool b) => br (bif want then b else !b)
          (fun _ => evalOp Ω Γ an (est ρ j (.d (.bool want))) st dst op (sealK Ω chk st fun v st => runOps Γ an rest (delL dead (putD (est ρ j (.d (.bool want))) dst v)) st K))
          (fun _ => runOps Γ an rest (delL dead (putD (est ρ j (.d (.bool !want))) dst .skip)) st K)
      | .skip => runOps Γ an rest (delL dead (putD ρ dst .skip)) st K
      | _ => none

/-- The function that is ranged over is called, with a yield. -/
def rngF {R : Type} (site : Nat) (env ρ : Env) (st : St) (f : Nat) (caps : List PV) (K : Ex → Env → St → Option R) : Option R :=
  bif hasL st 0 then (Ω.cf f (.yld 0 (numO st 0) :: caps) (addO st 0 (.loop site env none))).bind fun r => match look r.2 0 (numO st 0) with
    | some (.loop _ _ p) => bif Nat.ble (numO (trim Ω.plain (numO st 0) ρ r.2) 0) (numO st 0) then (match p with
      | none => K .normal ρ (trim Ω.plain (numO st 0) ρ r.2)
      | some .normal => none
      | some e => K e ρ (trim Ω.plain (numO st 0) ρ r.2)) else none
    | _ => none
  else none
def rngK {R : Type} (an : Ann) (ρ : Env) (st : St) (g : Operand) (K : Ex → Env → St → Option R) : Option R :=
  match g with
  | .tmp t => match egt ρ t with
    | .d (.fn f caps) => rngF Ω (an.site t) (keepOnly (an.cap t) ρ) ρ st f (ds caps) K
    | .fn f caps => rngF Ω (an.site t) (keepOnly (an.cap t) ρ) ρ st f caps K
    | _ => none
  | _ => none
def exec (Γ : Tab) (an : Ann) : Code → Env → St → {R : Type} → (Ex → Env → St → Option R) → Option R
  | .skip, ρ, st, _, K => K .normal ρ st
  | .region _ ops drawn, ρ, st, _, K => runOps Ω Γ an (xOps an drawn ops.toList 0 ops.toList) ρ st fun ρ st => K .normal (keepOnly an.keep ρ) st
  | .seq a b, ρ, st, _, K => exec Γ an a ρ st fun e ρ st => match e with
    | .normal => exec Γ an b ρ st K
    | e => K e ρ st
  | .cond c a b, ρ, st, _, K => match c with
    | .tmp t => match egt ρ t with
      | .d (.bool x) => Ω.grp (fun k => br x (fun _ => exec Γ an a (condE an ρ t true) st (fun e ρ' st' => k (e, keepOnly (keys ρ) ρ', trim Ω.plain (numO st 0) (keepOnly (keys ρ) ρ') st')))
          (fun _ => exec Γ an b (condE an ρ t false) st (fun e ρ' st' => k (e, keepOnly (keys ρ) ρ', trim Ω.plain (numO st 0) (keepOnly (keys ρ) ρ') st')))) (fun r => K r.1 r.2.1 r.2.2)
      | .ub => Ω.both (exec Γ an a (del ρ t) st (fun e ρ' st' => K e (keepOnly (keys ρ) ρ') (trim Ω.plain (numO st 0) (keepOnly (keys ρ) ρ') st')))
          (exec Γ an b (del ρ t) st (fun e ρ' st' => K e (keepOnly (keys ρ) ρ') (trim Ω.plain (numO st 0) (keepOnly (keys ρ) ρ') st')))
      | _ => none
    | _ => none
  | .block id a, ρ, st, _, K => exec Γ an a ρ st fun e ρ st => match e with
    | .exit i => bif Nat.beq i id then K .normal ρ st else K (.exit i) ρ st
    | e => K e ρ st
  | .loop a, ρ, st, _, K => (Ω.iter (numO st 0) (keys ρ) (fun ρ st => exec Γ an a ρ st fun e ρ st => some (e, ρ, st)) ρ st).bind fun r => K r.1 r.2.1 r.2.2
  | .exit id, ρ, st, _, K => K (.exit id) ρ st
  | .ret, ρ, st, _, K => K .ret ρ st
  | .rangeFunc g _ _ _, ρ, st, _, K => rngK Ω an ρ st g K
  | _, _, _, _, _ => none

def enter : Nat → List PV → Env
  | _, [] => []
  | i, v :: r => (i, v) :: enter (i + 1) r
def resultOf (Γ : Tab) (ρ : Env) (st : St) : ResultVar → Option PV
  | .tmp t => some (egt ρ t)
  | .cell t ty => match cellsAt Ω st (egt ρ t) with
    | some cs => pack Γ ty cs
    | none => none
def resultsOf (Γ : Tab) (ρ : Env) (st : St) : List ResultVar → Option (List PV)
  | [] => some []
  | r :: rs => match resultOf Ω Γ ρ st r, resultsOf Γ ρ st rs with
    | some v, some vs => some (v :: vs)
    | _, _ => none
def one : List PV → PV
  | [v] => v
  | vs => .tup vs
/-- Of a row in the frame that is left: data; another one stays a row. -/
def freeze0 (st : St) : PV → PV × St
  | .row 0 i k => freeze Ω st (.row 0 i k)
  | v => (v, st)
def freezes0 (st : St) : List PV → List PV × St
  | [] => ([], st)
  | v :: r => let q := freeze0 Ω st v; let s := freezes0 q.2 r; (q.1 :: s.1, s.2)
def freezes0K {R : Type} (st : St) (vs : List PV) (K : List PV → St → Option R) : Option R :=
  match vs with
  | [] => K [] st
  | .row 0 i k :: r => match look st 0 i with
    | some (.row ty sz rows mt cap) => bif Ω.ieq (Ω.len rows) k then freezes0K (bif mt then setO st 0 i (.row ty sz rows false cap) else st) r (fun vs st => K (.d (.sl rows none) :: vs) st) else none
    | _ => none
  | v :: r => freezes0K st r (fun vs st => K (v :: vs) st)
/-- Rows of the frame that are not written any more are data. -/
def frzGK {R : Type} (st : St) (vs : List PV) (K : List PV → Option R) : Option R :=
  match vs with
  | [] => K []
  | .row 0 i k :: r => match look st 0 i with
    | some (.row _ _ rows mt _) => bif mt then frzGK st r (fun vs => K (.row 0 i k :: vs)) else bif Ω.ieq (Ω.len rows) k then frzGK st r (fun vs => K (.d (.sl rows none) :: vs)) else none
    | _ => none
  | v :: r => frzGK st r (fun vs => K (v :: vs))
/-- Which object of the frame is handed on. -/
def pickO : List PV → Option Nat
  | [] => none
  | .row 0 i _ :: _ => some i
  | .map 0 i :: _ => some i
  | .ptr 0 i _ :: _ => some i
  | _ :: r => pickO r
def hoistV (i n1 : Nat) : PV → Option PV
  | .d x => some (.d x)
  | .row 0 j k => bif Nat.beq j i then some (.row 0 n1 k) else none
  | .map 0 j => bif Nat.beq j i then some (.map 0 n1) else none
  | .ptr 0 j o => bif Nat.beq j i then some (.ptr 0 n1 o) else none
  | _ => none
def hoistVs (i n1 : Nat) : List PV → Option (List PV)
  | [] => some []
  | v :: r => match hoistV i n1 v, hoistVs i n1 r with | some u, some us => some (u :: us) | _, _ => none
/-- It points at nothing but data. -/
def looseO : Obj → Bool
  | .row _ _ _ _ _ => true
  | .map _ fl _ => fl
  | .box _ cs => flatC cs
  | .void => false
  | .loop _ _ _ => false
/-- The frame is gone; rows of its own that are handed back are data; or one object goes on in the caller's frame. -/
def leave (Γ : Tab) (give : Bool) (rs : List ResultVar) (ρ : Env) (st : St) : Option (PV × St) :=
  match resultsOf Ω Γ ρ st rs with
  | some vs => match give with
    | true => frzGK Ω st vs fun vs => match st with
      | fr :: st' => match pickO vs with
        | some i => match fr[i]? with
          | some o => bif looseO o then Ω.addFarK st' 0 o fun n st'' => match hoistVs i n vs with | some us => some (one us, st'') | none => none else none
          | none => none
        | none => bif hasL st' 0 then match hoistVs 0 0 vs with | some us => some (one us, st') | none => none else none
      | _ => none
    | false => freezes0K Ω st vs fun vs st => match st with
      | _ :: st => some (one (up.ups 1 vs), st)
      | _ => none
  | none => none
/-- Rows that are taken over are objects of this frame. -/
def takeK {R : Type} (tk : List Nat) : Nat → List PV → St → (List PV → St → Option R) → Option R
  | _, [], st, K => K [] st
  | p, v :: r, st, K => bif mem p tk then (match v, st with
      | .row 1 i k, fr :: st' => Ω.rowFarK st' 0 i fun ty sz rows mt _ => bif mt then bif Ω.ieq (Ω.len rows) k
          then Ω.setFarK st' 0 i .void fun st'' => takeK tk (p + 1) r ((fr ++ [.row ty sz rows true none]) :: st'') fun vs st => K (.row 0 fr.length k :: vs) st else none else none
      | _, _ => none) else takeK tk (p + 1) r st fun vs st => K (v :: vs) st
/-- A round's parameters. -/
def bindPs : List Nat → List PV → Env → Option Env
  | [], [], ρ => some ρ
  | t :: ts, v :: vs, ρ => bindPs ts vs (est ρ t (down 1 v))
  | _, _, _ => none
/-- One round: in a frame of its own; it tells whether there are more. -/
def round (Γ : Tab) (an : Ann) (q : Site) (args : List PV) (st : St) : Option (PV × St) :=
  match args with
  | .yld l i :: args => match look st l i with
    | some (.loop site ρ none) => match bindPs q.ps args (downE (l + 1) ρ) with
      | some ρ1 => exec Ω Γ an q.asg ρ1 ([] :: st) fun e ρ2 st2 => match e, st2 with
        | .normal, fr :: st3 => match look st3 l i with
          | some (.loop site' ρ' none) => bif Nat.beq site site' then exec Ω Γ an q.body ρ2 (fr :: setO st3 l i (.loop site' ρ' (some .normal))) fun e _ st4 => match st4 with
            | _ :: st5 => match look st5 l i with
              | some (.loop site'' ρ'' (some .normal)) => bif Nat.beq site site'' then (match e with
                | .normal => some (.d (.bool true), setO st5 l i (.loop site'' ρ'' none))
                | e => some (.d (.bool false), setO st5 l i (.loop site'' ρ'' (some e)))) else none
              | _ => none
            | [] => none else none
          | _ => none
        | _, _ => none
      | none => none
    | _ => none
  | _ => none
def body (Γ : Tab) (an : Ann) (fn : Func) (args : List PV) (st : St) : Option (PV × St) :=
  match fn.body with
  | some c => takeK Ω an.take 0 (down.downs 1 args) ([] :: st) fun args st => exec Ω Γ an c (enter 0 args) st fun e ρ st => match e with
    | .exit _ => none
    | _ => leave Ω Γ an.give fn.results.toList ρ st
  | none => none
end ops

def rowBytes : List (List D) → Option (List UInt8)
  | [] => some []
  | [.int .u8 n] :: r => match rowBytes r with | some l => some (n.toNat.toUInt8 :: l) | none => none
  | _ :: _ => none
def keyEqs : List PV → List PV → Bool
  | [], [] => true
  | .d (.int _ x) :: r, .d (.int _ y) :: s => x == y && keyEqs r s
  | .d (.bool x) :: r, .d (.bool y) :: s => x == y && keyEqs r s
  | .d (.str x) :: r, .d (.str y) :: s => x == y && keyEqs r s
  | _, _ => false
def keyEq : PV → PV → Bool
  | .d (.int _ x), .d (.int _ y) => x == y
  | .d (.str x), .d (.str y) => x == y
  | .agg x, .agg y => keyEqs x y
  | _, _ => false
def mfind : List (PV × PV) → PV → Option PV
  | [], _ => none
  | (k, v) :: r, x => if keyEq x k then some v else mfind r x
def mput : List (PV × PV) → PV → PV → List (PV × PV)
  | [], x, y => [(x, y)]
  | (k, v) :: r, x, y => if keyEq x k then (x, y) :: r else (k, v) :: mput r x y
def mdel : List (PV × PV) → PV → List (PV × PV)
  | [], _ => []
  | (k, v) :: r, x => if keyEq x k then r else (k, v) :: mdel r x
def plains (n : Nat) : List (PV × PV) → Bool
  | [] => true
  | (k, v) :: r => below n k && below n v && plains n r
def iter (n : Nat) (dom : List Nat) (f : Env → St → Option (Ex × Env × St)) (ρ : Env) (st : St) : Option (Ex × Env × St) := do
  match ← f ρ st with
    | (.normal, ρ, st) => iter n dom f (keepOnly dom ρ) (trim plains n (keepOnly dom ρ) st)
    | (e, ρ, st) => some (e, keepOnly dom ρ, trim plains n (keepOnly dom ρ) st)
  partial_fixpoint
open Classical in
/-- Two roads, of which nobody knows which is taken: they come to the same. -/
noncomputable def agree {R : Type} (x y : Option R) : Option R := if x = y then x else none
open Classical in
/-- The words, as they are. -/
noncomputable def real [Sites] (cf : Nat → List PV → St → Option (PV × St)) : Om where
  cf f args st := bif siteB f then none else cf f args st
  rd := cf
  iter := iter
  tick f := f ()
  grp f k := f k
  fits sz rows ext := (rows.all fun r => Nat.beq r.length sz) && (match ext with | none => true | some h => h.all fun r => Nat.beq r.length sz)
  plain := plains
  lenK l f := f l.length
  catK x y f := f (x ++ y) (x ++ y).length
  setK l i r f := f (l.set i.toNat r)
  cutK l a b f := f ((l.take b.toNat).drop a.toNat)
  fillK z n f := f (List.replicate n.toNat z) (List.replicate n.toNat z).length
  findK l k z f := match mfind l k with | some v => f v | none => z
  putK l k v f := f (mput l k v)
  delK l k f := f (mdel l k)
  nilK f := f []
  emptyK f := f []
  mlenK l f := f l.length
  wrap := IntKind.wrap
  add := (· + ·)
  sub := (· - ·)
  mul := (· * ·)
  neg := (- ·)
  ieq x y := x == y
  ilt x y := decide (x < y)
  ile x y := decide (x ≤ y)
  tdiv := Int.tdiv
  tmod := Int.tmod
  seq x y := x.toList == y.toList
  slt x y := Op.bytesLess x.toList y.toList
  slen s := s.size
  sapp x y := x ++ y
  scut s l h := s.extract l.toNat h.toNat
  byte s i := ((s[i.toNat]?).map (·.toNat)).getD 0
  len l := l.length
  nth l i := if 0 ≤ i then l[i.toNat]? else none
  setN l i r := l.set i.toNat r
  cat x y := x ++ y
  cut l a b := (l.take b.toNat).drop a.toNat
  fill z n := List.replicate n.toNat z
  ofStr s := s.data.toList.map fun b => [.int .u8 b.toNat]
  toStr l := (rowBytes l).map fun l => ⟨l.toArray⟩
  find := mfind
  put := mput
  del := mdel
  mlen l := l.length
  same x y := decide (x = y)
  farK st l i off f := match look st l i with
    | some (.box _ cs) => f (down.downs (l + 1) (cs.drop off))
    | _ => none
  putFarK st l i off vs f := match look st l i with
    | some (.box t cs) => bif cellsOk (up.ups (l + 1) vs) then bif Nat.ble (off + vs.length) cs.length
        then f (setO st l i (.box t (cs.take off ++ up.ups (l + 1) vs ++ cs.drop (off + vs.length)))) else none else none
    | _ => none
  mapFarK st l i f := match look st l i with
    | some (.map kk fl es) => f kk fl es
    | _ => none
  setFarK st l i o f := f (setO st l i o)
  addFarK st l o f := bif hasL st l then f (numO st l) (addO st l o) else none
  both x y := agree x y
  loopFarK st l i f := match look st l i with
    | some (.loop site ρ p) => f site ρ p
    | _ => none
  rowFarK st l i f := match look st l i with
    | some (.row ty sz rows mt cap) => f ty sz rows mt cap
    | _ => none
theorem runOps_cons [Sites] {Ω : Om} {R : Type} (Γ : Tab) (an : Ann) (x : XO) (l : List XO) (ρ : Env) (st : St) (K : Env → St → Option R) :
    runOps Ω Γ an (x :: l) ρ st K = runOps Ω Γ an [x] ρ st fun ρ st => runOps Ω Γ an l ρ st K := by
  obtain ⟨dst, op, g, chk, dead⟩ := x
  simp only [runOps]
section
variable [Sites] {c : Nat → List PV → St → Option (PV × St)} {R A : Type}
theorem real_lenK (l : List (List D)) (f : Int → Option R) : (real c).lenK l f = f ((real c).len l) := rfl
theorem real_catK (x y : List (List D)) (f : List (List D) → Int → Option R) : (real c).catK x y f = f ((real c).cat x y) ((real c).len ((real c).cat x y)) := rfl
theorem real_setK (l : List (List D)) (i : Int) (r : List D) (f : List (List D) → Option R) : (real c).setK l i r f = f ((real c).setN l i r) := rfl
theorem real_cutK (l : List (List D)) (i j : Int) (f : List (List D) → Option R) : (real c).cutK l i j f = f ((real c).cut l i j) := rfl
theorem real_fillK (z : List D) (n : Int) (f : List (List D) → Int → Option R) : (real c).fillK z n f = f ((real c).fill z n) ((real c).len ((real c).fill z n)) := rfl
theorem real_findK (l : List (PV × PV)) (k : PV) (z : Option R) (f : PV → Option R) : (real c).findK l k z f = (match (real c).find l k with | some v => f v | none => z) := rfl
theorem real_putK (l : List (PV × PV)) (k v : PV) (f : List (PV × PV) → Option R) : (real c).putK l k v f = f ((real c).put l k v) := rfl
theorem real_delK (l : List (PV × PV)) (k : PV) (f : List (PV × PV) → Option R) : (real c).delK l k f = f ((real c).del l k) := rfl
theorem real_mlenK (l : List (PV × PV)) (f : Int → Option R) : (real c).mlenK l f = f ((real c).mlen l) := rfl
theorem real_nilK (f : List (List D) → Option R) : (real c).nilK f = f [] := rfl
theorem real_emptyK (f : List (PV × PV) → Option R) : (real c).emptyK f = f [] := rfl
theorem real_grp (f : (A → Option R) → Option R) (k : A → Option R) : (real c).grp f k = f k := rfl
end
end Go.X
