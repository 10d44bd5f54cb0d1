/- The code, as little of it as is needed. -/
import Derived.Test.YtipkggkbldgmjaaGreatXMono
namespace Go.X
open Go
set_option linter.unusedSectionVars false
set_option linter.unusedSimpArgs false
variable [eY]
inductive XC where
 | skip
 | region (ops : List XO)
 | bV (ops : List XO)
 | eZ (ops : List (List XO))
 | seq (a b : XC)
 | cond (t : Nat) (a b : XC)
 | block (id : Nat) (a : XC)
 | loop (a : XC)
 | exit (id : Nat)
 | ret
 | rng (t : Nat)
 | bad
def xt (n : Nat) : Operand := .tmp n
def xo (d : Nat) (op : Op) (dead : List Nat) : XO := ⟨some d, op, none, false, dead⟩
def xk (d : Nat) (op : Op) (dead : List Nat) : XO := ⟨some d, op, none, true, dead⟩
def xg (d : Nat) (op : Op) (g : Nat) (b : Bool) (dead : List Nat) : XO := ⟨some d, op, some (g, b), false, dead⟩
def xn (op : Op) : XO := ⟨none, op, none, false, []⟩
def xc (f : Nat) (a ts : List Nat) : Op := .call { callee := .value (.func f), args := (a.map Operand.tmp).toArray, argTypes := ts.toArray }
def xb (b : Builtin) (a ts : List Nat) : Op := .call { callee := .builtin b, args := (a.map Operand.tmp).toArray, argTypes := ts.toArray }
def xF : Operand := .const (.bool false)
def xT : Operand := .const (.bool true)
def xi (k : IntKind) (n : Int) : Operand := .const (.int k n)
def oM (d n : Nat) (l : List Nat) : XO := xo d (.move (xt n)) l
def oA (d n : Nat) (l : List Nat) : XO := xo d (.assign (xt n)) l
def oL (d t n : Nat) (l : List Nat) : XO := xo d (.load t (xt n)) l
def oF (d t n k : Nat) (l : List Nat) : XO := xo d (.fieldAddr t (xt n) k) l
def oI (d t n k : Nat) (l : List Nat) : XO := xo d (.indexAddr t (xt n) (xt k)) l
def oB (d t n : Nat) (l : List Nat) : XO := xo d (.box t (xt n)) l
def gM (d n : Nat) (g : Nat) (b : Bool) (l : List Nat) : XO := xg d (.move (xt n)) g b l
def gL (d t n : Nat) (g : Nat) (b : Bool) (l : List Nat) : XO := xg d (.load t (xt n)) g b l
def gF (d t n k : Nat) (g : Nat) (b : Bool) (l : List Nat) : XO := xg d (.fieldAddr t (xt n) k) g b l
def forks : Op → Bool
 | .pick _ _ _ => true | .lookup _ _ _ _ => true
 | .binOp _ _ _ y _ => DV y
 | .call c => match c.callee with
  | .builtin .min => true | .builtin .max => true | .builtin .append => true
  | _ => false
 | _ => false
def akl : List XO → Bool
 | [] => false
 | o :: r => match o.g with
  | some _ => true
  | none => bif forks o.op then true else akl r
def ajf : XO → Bool
 | ⟨_, .pick _ _ _, none, _, _⟩ => true
 | _ => false
def aaN : List XO → List (List XO)
 | [] => []
 | o :: r => match ajf o, aaN r with
  | true, cs => [o] :: cs
  | false, [] => [[o]]
  | false, c :: cs => (o :: c) :: cs
theorem LA : ∀ l : List XO, (aaN l).flatten = l
 | [] => rfl
 | o :: r => by
  have ih := LA r
  unfold aaN
  cases ajf o with
  | true => simp only [List.flatten_cons, ih]; rfl
  | false =>
   cases h : aaN r with
   | nil => rw [h] at ih; simp only [List.flatten_nil] at ih; subst ih; rfl
   | cons c cs => rw [h] at ih; simp only [List.flatten_cons] at ih ⊢; rw [← ih]; rfl
def strip (an : kW) : Code → XC
 | .skip => .skip
 | .region _ ops drawn => bif akl (rQ an drawn ops.toList 0 ops.toList) then (bif an.split then .eZ (aaN (rQ an drawn ops.toList 0 ops.toList)) else .bV (rQ an drawn ops.toList 0 ops.toList)) else .region (rQ an drawn ops.toList 0 ops.toList)
 | .seq a b => .seq (strip an a) (strip an b)
 | .cond (.tmp t) a b => .cond t (strip an a) (strip an b)
 | .block id a => .block id (strip an a)
 | .loop a => .loop (strip an a)
 | .exit id => .exit id
 | .ret => .ret
 | .rangeFunc (.tmp t) _ _ _ => .rng t
 | _ => .bad
section
variable (Ω : Om)
def Gf {R : Type} (Γ : Tab) (an : kW) (ρ : Env) (st : St) (dst : Option Nat) (op : Op) (K : iD R) : Option R :=
 match op with
 | .load t a => match ev ρ a, st with
  | .ptr (l + 1) i off, _ :: st' => Ω.akg st' l i off fun cs => match pack Γ t cs with
   | some v => K v st
   | none => none
  | .mG (l + 1) i k x off, _ :: st' => Ω.sM st' l i fun _ _ rows _ _ => bif Ω.ieq (Ω.len rows) k then (Ω.nth rows x).bind fun r => match pack Γ t (ds (r.drop off)) with
   | some v => K v st
   | none => none else none
  | _, _ => evalOp Ω Γ an ρ st dst (.load t a) K
 | .indexAddr t x ix => match ev ρ x, ev ρ ix, st with
  | .row (l + 1) j k, .d (.int _ i), _ :: st' => match Γ.ty t with
   | .slice _ sz _ => Ω.sM st' l j fun _ sz' rows _ _ => bif Nat.beq sz sz' then bif Ω.ieq (Ω.len rows) k then (Ω.nth rows i).bind fun _ => K (.mG (l + 1) j k i 0) st else none else none
   | _ => none
  | _, _, _ => evalOp Ω Γ an ρ st dst (.indexAddr t x ix) K
 | .store t a x => match ev ρ a, st with
  | .ptr (l + 1) i off, fr :: st' => bif Nat.beq (Γ.zero t).length (unpack (ev ρ x)).length then bif Nat.ble 1 (Γ.zero t).length then
    Ω.NC st' l i off (unpack (ev ρ x)) fun st' => K .skip (fr :: st') else none else none
  | .mG (l + 1) i k ix off, _ :: _ => bif Nat.beq (Γ.zero t).length (unpack (ev ρ x)).length then bif Nat.ble 1 (Γ.zero t).length then
    eu Ω st (unpack (ev ρ x)) fun vs st => match st with
    | fr :: st' => Ω.sM st' l i fun ty sz rows mt cap => match mt with
     | true => bif Ω.ieq (Ω.len rows) k then (Ω.nth rows ix).bind fun r => (match FX vs with
      | some vs => bif Nat.ble (off + vs.length) r.length then Ω.aaw rows ix (r.take off ++ vs ++ r.drop (off + vs.length)) fun rows' => Ω.sK st' l i (.row ty sz rows' true cap) fun st' => K .skip (fr :: st') else none
      | none => none) else none
     | false => none
    | [] => none else none else none
  | _, _ => evalOp Ω Γ an ρ st dst (.store t a x) K
 | .lookup t m k ok => match ev ρ m, st with
  | .map (l + 1) i, _ :: st' => match Γ.ty t with
   | .map kt e => match sQ Γ kt with
    | some kk => bif iw kk (ev ρ k) then match pack Γ e (ds (Γ.zero e)) with
     | some z => Ω.Bh st' l i fun Gc _ es => bif FY kk Gc then Ω.WZ es (ev ρ k) (K (bif ok then .yV [z, .d (.bool false)] else z) st) (fun v => K (bif ok then .yV [down (l + 1) v, .d (.bool true)] else down (l + 1) v) st) else none
     | none => none else none
    | none => none
   | _ => none
  | _, _ => evalOp Ω Γ an ρ st dst (.lookup t m k ok) K
 | .box t x => match an.cold (match dst with | some d => d | none => 0), qz ρ (an.lv (match dst with | some d => d | none => 0)), st with
  | false, l + 1, _ :: _ => eu Ω st (unpack (ev ρ x)) fun cs st => match st with
   | fr :: st' => bif eB (up.ups (l + 1) cs) then Ω.yF st' l (.box t (up.ups (l + 1) cs)) fun i st' => K (.ptr (l + 1) i 0) (fr :: st') else none
   | [] => none
  | _, _, _ => evalOp Ω Γ an ρ st dst (.box t x) K
 | .makeMap t r => match qz ρ (an.lv (match dst with | some d => d | none => 0)), st with
  | l + 1, fr :: st' => match r, Γ.ty t with
   | none, .map kt _ => match sQ Γ kt with
    | some kk => Ω.NA fun es => Ω.yF st' l (.map kk (!(an.rf (match dst with | some d => d | none => 0))) es) fun i st' => K (.map (l + 1) i) (fr :: st')
    | none => none
   | _, _ => none
  | _, _ => evalOp Ω Γ an ρ st dst (.makeMap t r) K
 | .mapUpdate t m k x => match ev ρ m, st with
  | .map (l + 1) i, _ :: _ => match Γ.ty t with
   | .map kt _ => match sQ Γ kt with
    | some kk => eu Ω st (unpack (ev ρ x)) fun vs st => match st with
     | fr :: st' => Ω.Bh st' l i fun Gc fl es => bif FY kk Gc then bif iw kk (ev ρ k) then bif eB (up.ups (l + 1) vs)
       then bif (bif fl then vD (nQ (ev ρ x) (up.ups (l + 1) vs)) else true) then Ω.aga es (ev ρ k) (nQ (ev ρ x) (up.ups (l + 1) vs)) fun es' => Ω.sK st' l i (.map Gc fl es') fun st' => K .skip (fr :: st') else none else none else none else none
     | [] => none
    | none => none
   | _ => none
  | _, _ => evalOp Ω Γ an ρ st dst (.mapUpdate t m k x) K
 | .call c => match c.callee, evs ρ c.args.toList, st with
  | .builtin .delete, [.map (l + 1) i, k], fr :: st' => match c.argTypes.toList with
   | [t, _] => match Γ.ty t with
    | .map kt _ => match sQ Γ kt with
     | some kk => Ω.Bh st' l i fun Gc fl es => bif FY kk Gc then bif iw kk k then Ω.aay es k fun es' => Ω.sK st' l i (.map Gc fl es') fun st' => K (.yV []) (fr :: st') else none else none
     | none => none
    | _ => none
   | _ => none
  | .builtin .append, [.row (l + 1) i k, x], fr :: st' => match c.argTypes.toList with
   | [t, t'] => match Γ.ty t, Γ.ty t' with
    | .slice e sz bytes, .slice _ _ _ => match Γ.zero e, rowsOf Ω st x with
     | _ :: _, some (kx, xs) => bif Ω.ieq (Ω.len xs) kx then bif Ω.fits sz xs none then
       Ω.sM st' l i fun e' szr rows Uz cap => bif Ω.ieq (Ω.len rows) k then br (Ω.ieq (Ω.len xs) 0) (fun _ => K (.row (l + 1) i k) st) (fun _ => bif Nat.beq e e' then bif Nat.beq sz szr
        then Ω.G6 rows xs fun rows' n => bif Ω.jF (Ω.mul n bytes) limit
         then (match cap with
          | none => Ω.sK st' l i (.row e' szr rows' Uz none) fun st' => K (.row (l + 1) i n) (fr :: st')
          | some c => bif Ω.jF n c then Ω.sK st' l i (.row e' szr rows' Uz (some c)) fun st' => K (.row (l + 1) i n) (fr :: st') else none) else none
        else none else none) else none else none else none
     | _, _ => none
    | .slice _ _ _, .str => evalOp Ω Γ an ρ st dst (.call c) K
    | _, _ => none
   | _ => none
  | .builtin .len, [.map (l + 1) i], _ :: st' => match c.argTypes.toList with
   | [t] => match Γ.ty t with
    | .map _ _ => Ω.Bh st' l i fun _ _ es => Ω.RH es fun n => K (.d (.int .i64 n)) st
    | _ => none
   | _ => none
  | .value f, _, _ => match ev ρ f with
   | .Bf (l + 1) i => gD Ω (an.hold (match dst with | some d => d | none => 0)) 0 (evs ρ c.args.toList) st fun args st => match st with
    | fr :: st' => Ω.G7 st' l i fun site _ p => match p with
     | some _ => none
     | none => (Ω.rd site (.Bf (l + 1) i :: args) (fr :: st')).bind fun r => K r.1 r.2
    | [] => none
   | _ => evalOp Ω Γ an ρ st dst (.call c) K
  | _, _, _ => evalOp Ω Γ an ρ st dst (.call c) K
 | o => evalOp Ω Γ an ρ st dst o K
def Hu {R : Type} (Γ : Tab) (an : kW) (o : XO) (ρ : Env) (st : St) (K : Env → St → Option R) : Option R :=
 match o with
 | ⟨dst, op, g, UC, dead⟩ => match g with
  | none => Gf Ω Γ an ρ st dst op (vE Ω UC st fun v st => K (Bj dead (qA ρ dst v)) st)
  | some (j, want) => match jw ρ j with
   | .d (.bool b) => br (bif want then b else !b)
     (fun _ => Gf Ω Γ an (est ρ j (.d (.bool want))) st dst op (vE Ω UC st fun v st => K (Bj dead (qA (est ρ j (.d (.bool want))) dst v)) st))
     (fun _ => K (Bj dead (qA (est ρ j (.d (.bool !want))) dst .skip)) st)
   | .skip => K (Bj dead (qA ρ dst .skip)) st
   | _ => none
def runT {R : Type} (Γ : Tab) (an : kW) : Nat → List XO → Env → St → (Env → St → Option R) → Option R
 | _, [], ρ, st, K => K ρ st
 | 0, o :: rest, ρ, st, K => Ω.tick fun _ => Hu Ω Γ an o ρ st fun ρ st => runT Γ an 11 rest ρ st K
 | k + 1, o :: rest, ρ, st, K => Hu Ω Γ an o ρ st fun ρ st => runT Γ an k rest ρ st K
def aaO {R : Type} (Γ : Tab) (an : kW) : List (List XO) → Env → St → (Env → St → Option R) → Option R
 | [], ρ, st, K => K (bn an.keep ρ) st
 | [ops], ρ, st, K => Ω.grp (fun k => runT Ω Γ an 12 ops ρ st fun ρ st => k (bn an.keep ρ, st)) fun r => K r.1 r.2
 | ops :: cs, ρ, st, K => Ω.grp (fun k => runT Ω Γ an 12 ops ρ st fun ρ st => k (ρ, st)) fun r => aaO Γ an cs r.1 r.2 K
def jr (Γ : Tab) (an : kW) : XC → Env → St → {R : Type} → (Ex → Env → St → Option R) → Option R
 | .skip, ρ, st, _, K => K .normal ρ st
 | .region ops, ρ, st, _, K => runT Ω Γ an 12 ops ρ st fun ρ st => K .normal (bn an.keep ρ) st
 | .bV ops, ρ, st, _, K => Ω.grp (fun k => runT Ω Γ an 12 ops ρ st fun ρ st => k (bn an.keep ρ, st)) fun r => K .normal r.1 r.2
 | .eZ cs, ρ, st, _, K => aaO Ω Γ an cs ρ st fun ρ st => K .normal ρ st
 | .seq a b, ρ, st, _, K => jr Γ an a ρ st fun e ρ st => match e with
  | .normal => jr Γ an b ρ st K
  | e => K e ρ st
 | .cond t a b, ρ, st, _, K => match jw ρ t with
  | .d (.bool x) => Ω.grp (fun k => br x (fun _ => jr Γ an a (E9 an ρ t true) st (fun e ρ' st' => k (e, bn (keys ρ) ρ', trim Ω.plain (fE st 0) (bn (keys ρ) ρ') st')))
    (fun _ => jr Γ an b (E9 an ρ t false) st (fun e ρ' st' => k (e, bn (keys ρ) ρ', trim Ω.plain (fE st 0) (bn (keys ρ) ρ') st')))) (fun r => K r.1 r.2.1 r.2.2)
  | .ub => Ω.both (jr Γ an a (del ρ t) st (fun e ρ' st' => K e (bn (keys ρ) ρ') (trim Ω.plain (fE st 0) (bn (keys ρ) ρ') st')))
    (jr Γ an b (del ρ t) st (fun e ρ' st' => K e (bn (keys ρ) ρ') (trim Ω.plain (fE st 0) (bn (keys ρ) ρ') st')))
  | _ => none
 | .block id a, ρ, st, _, K => jr Γ an a ρ st fun e ρ st => match e with
  | .exit i => bif Nat.beq i id then K .normal ρ st else K (.exit i) ρ st
  | e => K e ρ st
 | .loop a, ρ, st, _, K => (Ω.iter (fE st 0) (keys ρ) (fun ρ st => jr Γ an a ρ st fun e ρ st => some (e, ρ, st)) ρ st).bind fun r => K r.1 r.2.1 r.2.2
 | .exit id, ρ, st, _, K => K (.exit id) ρ st
 | .ret, ρ, st, _, K => K .ret ρ st
 | .rng t, ρ, st, _, K => UE Ω an ρ st (.tmp t) K
 | .bad, _, _, _, _ => none
end
theorem ZI {c : CF} {R : Type} {st : St} {l i : Nat} {g g' : Nat → Env → Option R} (h : ∀ s ρ, g s ρ = g' s ρ) : (match look st l i with | some (.loop s ρ none) => g s ρ | _ => none) = ((real c).G7 st l i fun s ρ p => match p with | some _ => none | none => g' s ρ) := by
 obtain rfl : g = g' := by funext s ρ; exact h s ρ
 simp only [real]
 cases look st l i with
 | none => rfl
 | some o =>
  cases o with
  | loop s ρ p => cases p <;> rfl
  | _ => rfl
theorem N9 {c : CF} {R : Type} {st : St} {l i : Nat} {f f' : Nat → Nat → List (List D) → Bool → Option Int → Option R} (h : ∀ a b r m p, f a b r m p = f' a b r m p) :
  ((real c).sM st l i f) = (match look st l i with | some (.row a b r m p) => f' a b r m p | _ => none) := by
 obtain rfl : f = f' := by funext a b r m p; exact h a b r m p
 rfl
theorem UO {c : CF} {R : Type} (Γ : Tab) (an : kW) (ρ : Env) (st : St) (dst : Option Nat) (op : Op) (K : iD R) : Gf (real c) Γ an ρ st dst op K = evalOp (real c) Γ an ρ st dst op K := by
 unfold Gf
 split
 ·split
  ·rename_i l i off fr st' h
   simp only [evalOp, h, sO, look, real]
   cases look st' l i with
   | none => rfl
   | some o => cases o <;> rfl
  ·rename_i l i k x off fr st' h
   simp only [evalOp, h, sO, look]
   refine (N9 fun _ _ _ _ _ => rfl).trans ?_
   cases look st' l i with
   | none => rfl
   | some o => cases o <;> rfl
  ·rfl
 ·split
  ·rename_i l j k kd i fr st' h1 h2
   simp only [evalOp, h1, h2]
   cases Γ.ty _ with
   | slice e sz b =>
    dsimp only
    refine (N9 fun _ _ _ _ _ => rfl).trans ?_
    show _ = (match look st' l j with | some (.row _ sz' rows _ _) => _ | _ => none)
    cases look st' l j with
    | none => rfl
    | some o => cases o <;> rfl
   | _ => rfl
  ·rfl
 ·split
  ·rename_i h
   simp only [evalOp, h, look, real, fM]
  ·rename_i l i k ix off fr st' h
   simp only [evalOp, h]
   congr 2
   congr 1
   funext vs st2
   cases st2 with
   | nil => rfl
   | cons fr st2 =>
    dsimp only
    refine (N9 fun _ _ _ _ _ => rfl).trans ?_
    show _ = (match look st2 l i with | some (.row ty sz rows true cap) => _ | _ => none)
    cases look st2 l i with
    | none => rfl
    | some o =>
     cases o with
     | row ty sz rows mt cap => cases mt <;> rfl
     | _ => rfl
  ·rfl
 ·rename_i t m k ok
  split
  ·rename_i l i fr st' h
   simp only [evalOp, h, look, real]
   cases Γ.ty t with
   | map kt e =>
    dsimp only
    cases sQ Γ kt with
    | none => rfl
    | some kk =>
     dsimp only
     unfold o8
     cases iw kk (ev ρ k) with
     | false => rfl
     | true =>
      simp only [cond_true, look]
      cases pack Γ e (ds (Γ.zero e)) with
      | none => rfl
      | some z =>
       dsimp only
       have hlk : look (fr :: st') l.succ i = look st' l i := rfl
       rw [hlk]
   | _ => rfl
  ·rfl
 ·rename_i t x
  cases dst <;>
  ·split
   ·rename_i l fr st' hc h
    simp only [evalOp]
    dsimp only at h hc
    rw [h]
    simp only [hc, cond_false]
    congr 1
    funext cs st2
    cases st2 with
    | nil => generalize an.own _ = ow; cases ow <;> simp [iZ]
    | cons fr st2 =>
     simp only [real]
     generalize an.own _ = ow
     cases ow <;> cases h3 : eB (up.ups (l + 1) cs) <;> cases h2 : iZ st2 l <;> simp [iZ, h2, h3, fE, kX]
   ·rfl
 ·rename_i t r
  cases dst <;>
  ·split
   ·rename_i l fr st' h
    simp only [evalOp]
    dsimp only at h
    rw [h]
    cases r with
    | some r => rfl
    | none =>
     cases Γ.ty t with
     | map kt e =>
      dsimp only
      cases sQ Γ kt with
      | none => rfl
      | some kk =>
       simp only [real]
       cases h2 : iZ st' l <;> simp [iZ, h2, fE, kX]
     | _ => rfl
   ·rfl
 ·rename_i t m k x
  split
  ·rename_i l i fr st' h
   simp only [evalOp, h]
   cases Γ.ty t with
   | map kt e =>
    dsimp only
    cases sQ Γ kt with
    | none => rfl
    | some kk =>
     dsimp only
     congr 1
     funext vs st2
     cases st2 with
     | nil => rfl
     | cons fr st2 =>
      have hlk : look (fr :: st2) (l + 1) i = look st2 l i := rfl
      simp only [hlk, real]
      cases look st2 l i with
      | none => rfl
      | some o => cases o <;> rfl
   | _ => rfl
  ·rfl
 ·rename_i cc
  split
  ·rename_i l i k fr st' h1 h2
   simp only [evalOp, h1, h2]
   have hlk : look (fr :: st') (l + 1) i = look st' l i := rfl
   generalize cc.argTypes.toList = at_
   cases at_ with
   | nil => rfl
   | cons t at_ =>
    cases at_ with
    | nil => rfl
    | cons t2 at_ =>
     cases at_ with
     | cons t3 at_ => rfl
     | nil =>
      dsimp only
      cases Γ.ty t with
      | map kt e =>
       dsimp only
       cases sQ Γ kt with
       | none => rfl
       | some kk =>
        simp only [hlk, real]
        cases look st' l i with
        | none => rfl
        | some o => cases o <;> rfl
      | _ => rfl
  ·rename_i l i k x fr st' h1 h2
   simp only [evalOp, h1, h2]
   generalize cc.argTypes.toList = at_
   cases at_ with
   | nil => rfl
   | cons t at_ =>
    cases at_ with
    | nil => rfl
    | cons t2 at_ =>
     cases at_ with
     | cons t3 at_ => rfl
     | nil =>
      dsimp only
      cases Γ.ty t with
      | slice e sz bytes =>
       cases Γ.ty t2 with
       | slice e2 sz2 b2 =>
        have ho : ∀ (own : Option Nat) (mt : Bool) (lv : Nat), jJ (real c) Γ own mt lv e sz bytes (fr :: st') (.row (l + 1) i k) x K = jV (real c) Γ mt lv e sz bytes (fr :: st') (.row (l + 1) i k) x K := by
         intro own mt lv; cases own <;> rfl
        dsimp only
        rw [ho]
        unfold jV
        cases Γ.zero e with
        | nil => rfl
        | cons z0 z1 =>
         cases rowsOf (real c) (fr :: st') x with
         | none => rfl
         | some q =>
          obtain ⟨kx, xs⟩ := q
          dsimp only
          congr 2
       | _ => rfl
      | _ => rfl
  ·rename_i l i fr st' h1 h2
   simp only [evalOp, h1, h2]
   have hlk : look (fr :: st') (l + 1) i = look st' l i := rfl
   generalize cc.argTypes.toList = at_
   cases at_ with
   | nil => rfl
   | cons t at_ =>
    cases at_ with
    | cons t2 at_ => rfl
    | nil =>
     dsimp only
     cases Γ.ty t with
     | map kt e => simp only [hlk, real]
     | _ => rfl
  ·rename_i f h1
   split
   ·rename_i l i h2
    simp only [evalOp, h1, h2]
    cases dst <;>
    ·congr 1
     funext args st2
     cases st2 with
     | nil => rfl
     | cons fr st' => exact (ZI fun _ _ => rfl).symm
   ·rfl
  ·rfl
 ·rfl
theorem LB {c : CF} {R : Type} (Γ : Tab) (an : kW) (o : XO) (ρ : Env) (st : St) (K : Env → St → Option R) : Hu (real c) Γ an o ρ st K = fT (real c) Γ an [o] ρ st K := by
 obtain ⟨dst, op, g, UC, dead⟩ := o
 simp only [Hu, fT, UO]
 cases g with
 | none => rfl
 | some q => rfl
theorem runT_eq {c : CF} {R : Type} (Γ : Tab) (an : kW) : ∀ (l : List XO) (k : Nat) (ρ : Env) (st : St) (K : Env → St → Option R), runT (real c) Γ an k l ρ st K = fT (real c) Γ an l ρ st K
 | [], k, ρ, st, K => by cases k <;> rfl
 | o :: l, k, ρ, st, K => by
  rw [vV]
  cases k with
  | zero =>
   show Hu (real c) Γ an o ρ st (fun ρ st => runT (real c) Γ an 11 l ρ st K) = _
   simp only [runT_eq Γ an l, LB]
  | succ k => simp only [runT, runT_eq Γ an l, LB]
theorem Hw {c : CF} {R : Type} (Γ : Tab) (an : kW) : ∀ (l m : List XO) (ρ : Env) (st : St) (K : Env → St → Option R), fT (real c) Γ an (l ++ m) ρ st K = fT (real c) Γ an l ρ st fun ρ st => fT (real c) Γ an m ρ st K
 | [], m, ρ, st, K => rfl
 | o :: l, m, ρ, st, K => by
  rw [List.cons_append, vV, vV (x := o) (l := l)]
  exact congrArg (fT (real c) Γ an [o] ρ st) (funext fun ρ => funext fun st => Hw Γ an l m ρ st K)
theorem Oa {c : CF} {R : Type} (Γ : Tab) (an : kW) : ∀ (cs : List (List XO)) (ρ : Env) (st : St) (K : Env → St → Option R), aaO (real c) Γ an cs ρ st K = fT (real c) Γ an cs.flatten ρ st fun ρ st => K (bn an.keep ρ) st
 | [], ρ, st, K => rfl
 | [ops], ρ, st, K => by
  simp only [aaO, nK, runT_eq, List.flatten_cons, List.flatten_nil, List.append_nil]
 | ops :: o2 :: cs, ρ, st, K => by
  rw [List.flatten_cons, Hw]
  simp only [aaO, nK, runT_eq]
  congr 1
  funext ρ st
  exact Oa Γ an (o2 :: cs) ρ st K
theorem zF {c : CF} (Γ : Tab) (an : kW) : ∀ (co : Code) (ρ : Env) (st : St) {R : Type} (K : Ex → Env → St → Option R), exec (real c) Γ an co ρ st K = jr (real c) Γ an (strip an co) ρ st K := by
 intro co
 induction co with
 | skip | exit | ret => intro ρ st R K; rfl
 | label | goto | refuse | scope => intro ρ st R K; rfl
 | rangeFunc g ps x b =>
  intro ρ st R K
  cases g <;> rfl
 | region id ops dr =>
  intro ρ st R K
  simp only [exec, strip]
  cases akl (rQ an dr ops.toList 0 ops.toList) <;> cases an.split <;> simp only [cond_true, cond_false, jr, runT_eq, nK, Oa, LA]
 | seq a b iha ihb =>
  intro ρ st R K
  simp only [exec, strip, jr, iha]
  congr 1
  funext e ρ st
  cases e <;> simp only [ihb]
 | cond x a b iha ihb =>
  intro ρ st R K
  cases x with
  | tmp t =>
   simp only [exec, strip, jr]
   cases jw ρ t with
   | d x => cases x <;> simp only [iha, ihb]
   | ub => simp only [iha, ihb]
   | _ => rfl
  | _ => rfl
 | block id a iha =>
  intro ρ st R K
  simp only [exec, strip, jr, iha]
  first
  | rfl
  | (congr 1; done)
  | (congr 1; funext e ρ st; cases e <;> rfl)
 | loop a iha => intro ρ st R K; simp only [exec, strip, jr, iha]
theorem Hy {c : CF} {Γ : Tab} {an : kW} {fn : Func} {x : XC} {rs : List ResultVar} (h : fn.body.map (strip an) = some x) (h3 : fn.results.toList = rs) (args : List PV) (st : St) :
  body (real c) Γ an fn args st = nJ (real c) an.take 0 (down.iM 1 args) ([] :: st) fun args st => jr (real c) Γ an x (enter 0 args) st fun e ρ st => match e with
   | .exit _ => none
   | _ => leave (real c) Γ an.give rs ρ st := by
 cases h1 : fn.body with
 | none => rw [h1] at h; cases h
 | some co =>
  rw [h1] at h
  cases h
  subst h3
  unfold body
  rw [h1]
  show nJ _ _ _ _ _ _ = nJ _ _ _ _ _ _
  congr 1
  funext args st
  exact zF Γ an co _ _ _
end Go.X
