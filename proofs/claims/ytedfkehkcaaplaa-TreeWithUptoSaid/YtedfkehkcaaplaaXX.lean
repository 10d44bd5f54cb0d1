/- The code, as little of it as is needed. -/
import Derived.Test.YtedfkehkcaaplaaXMono
namespace Go.X
open Go
set_option linter.unusedSectionVars false
set_option linter.unusedSimpArgs false
variable [fq]
inductive XC where
 | skip
 | region (ops : List XO)
 | dF (ops : List XO)
 | Io (ops : List (List XO))
 | Ag (ops : List XO) (t : XT)
 | seq (a b : XC)
 | cond (t : Nat) (a b : XC)
 | block (id : Nat) (a : XC)
 | loop (a : XC)
 | exit (id : Nat)
 | ret
 | rng (t : Nat)
 | bad
def xt (n : Nat) : Operand := .tmp n
def xo (d : Nat) (op : Op) (dead : List Nat) : XO := ⟨some d, op, none, false, dead⟩
def xk (d : Nat) (op : Op) (dead : List Nat) : XO := ⟨some d, op, none, true, dead⟩
def xg (d : Nat) (op : Op) (g : Nat) (b : Bool) (dead : List Nat) : XO := ⟨some d, op, some (g, b), false, dead⟩
def xn (op : Op) : XO := ⟨none, op, none, false, []⟩
def xc (f : Nat) (a ts : List Nat) : Op := .call { callee := .value (.func f), args := (a.map Operand.tmp).toArray, argTypes := ts.toArray }
def xb (b : Builtin) (a ts : List Nat) : Op := .call { callee := .builtin b, args := (a.map Operand.tmp).toArray, argTypes := ts.toArray }
def xF : Operand := .const (.bool false)
def xT : Operand := .const (.bool true)
def xi (k : IntKind) (n : Int) : Operand := .const (.int k n)
def oM (d n : Nat) (l : List Nat) : XO := xo d (.move (xt n)) l
def oA (d n : Nat) (l : List Nat) : XO := xo d (.assign (xt n)) l
def oL (d t n : Nat) (l : List Nat) : XO := xo d (.load t (xt n)) l
def oF (d t n k : Nat) (l : List Nat) : XO := xo d (.fieldAddr t (xt n) k) l
def oI (d t n k : Nat) (l : List Nat) : XO := xo d (.indexAddr t (xt n) (xt k)) l
def oB (d t n : Nat) (l : List Nat) : XO := xo d (.box t (xt n)) l
def gM (d n : Nat) (g : Nat) (b : Bool) (l : List Nat) : XO := xg d (.move (xt n)) g b l
def gL (d t n : Nat) (g : Nat) (b : Bool) (l : List Nat) : XO := xg d (.load t (xt n)) g b l
def gF (d t n k : Nat) (g : Nat) (b : Bool) (l : List Nat) : XO := xg d (.fieldAddr t (xt n) k) g b l
def xgk (d : Nat) (op : Op) (g : Nat) (b : Bool) : XO := ⟨some d, op, some (g, b), true, []⟩
def forks : Op → Bool
 | .pick _ _ _ => true | .lookup _ _ _ _ => true
 | .binOp _ _ _ y _ => KH y
 | .call c => match c.callee with
  | .builtin .min => true | .builtin .max => true | .builtin .append => true
  | _ => false
 | _ => false
def arG : List XO → Bool
 | [] => false
 | o :: r => match o.g with
  | some _ => true
  | none => bif forks o.op then true else arG r
def aoT : XO → Bool
 | ⟨_, .pick _ _ _, none, _, _⟩ => true
 | _ => false
def ags : List XO → List (List XO)
 | [] => []
 | o :: r => match aoT o, ags r with
  | true, cs => [o] :: cs
  | false, [] => [[o]]
  | false, c :: cs => (o :: c) :: cs
theorem SL : ∀ l : List XO, (ags l).flatten = l
 | [] => rfl
 | o :: r => by
  have ih := SL r
  unfold ags
  cases aoT o with
  | true => simp only [List.flatten_cons, ih]; rfl
  | false =>
   cases h : ags r with
   | nil => rw [h] at ih; simp only [List.flatten_nil] at ih; subst ih; rfl
   | cons c cs => rw [h] at ih; simp only [List.flatten_cons] at ih ⊢; rw [← ih]; rfl
def strip (an : mH) : Code → XC
 | .skip => .skip
 | .region _ ops drawn => bif drawn && late ops.toList then .Ag (vY an true ops.toList 0 (ops.toList.take (CU ops.toList))) (ql ops ops.size (FV (CU ops.toList) ops.size)) else bif arG (vY an drawn ops.toList 0 ops.toList) then (bif an.split then .Io (ags (vY an drawn ops.toList 0 ops.toList)) else .dF (vY an drawn ops.toList 0 ops.toList)) else .region (vY an drawn ops.toList 0 ops.toList)
 | .seq a b => .seq (strip an a) (strip an b)
 | .cond (.tmp t) a b => .cond t (strip an a) (strip an b)
 | .block id a => .block id (strip an a)
 | .loop a => .loop (strip an a)
 | .exit id => .exit id
 | .ret => .ret
 | .rangeFunc (.tmp t) _ _ _ => .rng t
 | _ => .bad
section
variable (Ω : Om)
def MI {R : Type} (Γ : Tab) (an : mH) (ρ : Env) (st : St) (dst : Option Nat) (op : Op) (K : jB R) : Option R :=
 match op with
 | .load t a => match ev ρ a, st with
  | .ptr (l + 1) i off, _ :: st' => Ω.arB st' l i off fun cs => match pack Γ t cs with
   | some v => K v st
   | none => none
  | .o9 (l + 1) i k x off, _ :: st' => Ω.xY st' l i fun _ _ rows _ _ => bif Ω.ieq (Ω.len rows) k then (Ω.nth rows x).bind fun r => match pack Γ t (ds (r.drop off)) with
   | some v => K v st
   | none => none else none
  | _, _ => evalOp Ω Γ an ρ st dst (.load t a) K
 | .indexAddr t x ix => match ev ρ x, ev ρ ix, st with
  | .row (l + 1) j k, .d (.int _ i), _ :: st' => match Γ.ty t with
   | .slice _ sz _ => Ω.xY st' l j fun _ sz' rows _ _ => bif Nat.beq sz sz' then bif Ω.ieq (Ω.len rows) k then (Ω.nth rows i).bind fun _ => K (.o9 (l + 1) j k i 0) st else none else none
   | _ => none
  | _, _, _ => evalOp Ω Γ an ρ st dst (.indexAddr t x ix) K
 | .store t a x => match ev ρ a, st with
  | .ptr (l + 1) i off, fr :: st' => bif Nat.beq (Γ.zero t).length (unpack (ev ρ x)).length then bif Nat.ble 1 (Γ.zero t).length then
    Ω.ME st' l i off (unpack (ev ρ x)) fun st' => K .skip (fr :: st') else none else none
  | .o9 (l + 1) i k ix off, _ :: _ => bif Nat.beq (Γ.zero t).length (unpack (ev ρ x)).length then bif Nat.ble 1 (Γ.zero t).length then
    eH Ω st (unpack (ev ρ x)) fun vs st => match st with
    | fr :: st' => Ω.xY st' l i fun ty sz rows mt cap => match mt with
     | true => bif Ω.ieq (Ω.len rows) k then (Ω.nth rows ix).bind fun r => (match Mh vs with
      | some vs => bif Nat.ble (off + vs.length) r.length then Ω.af7 rows ix (r.take off ++ vs ++ r.drop (off + vs.length)) fun rows' => Ω.o7 st' l i (.row ty sz rows' true cap) fun st' => K .skip (fr :: st') else none
      | none => none) else none
     | false => none
    | [] => none else none else none
  | _, _ => evalOp Ω Γ an ρ st dst (.store t a x) K
 | .lookup t m k ok => match ev ρ m, st with
  | .map (l + 1) i, _ :: st' => match Γ.ty t with
   | .map kt e => match zW Γ kt with
    | some kk => bif jC kk (ev ρ k) then match pack Γ e (ds (Γ.zero e)) with
     | some z => Ω.ET st' l i fun MF _ es => bif Mi kk MF then Ω.Sr es (ev ρ k) (K (bif ok then .zh [z, .d (.bool false)] else z) st) (fun v => K (bif ok then .zh [down (l + 1) v, .d (.bool true)] else down (l + 1) v) st) else none
     | none => none else none
    | none => none
   | _ => none
  | _, _ => evalOp Ω Γ an ρ st dst (.lookup t m k ok) K
 | .box t x => match an.cold (match dst with | some d => d | none => 0), xX ρ (an.lv (match dst with | some d => d | none => 0)), st with
  | false, l + 1, _ :: _ => eH Ω st (unpack (ev ρ x)) fun cs st => match st with
   | fr :: st' => bif eF (up.ups (l + 1) cs) then Ω.EU st' l (.box t (up.ups (l + 1) cs)) fun i st' => K (.ptr (l + 1) i 0) (fr :: st') else none
   | [] => none
  | _, _, _ => evalOp Ω Γ an ρ st dst (.box t x) K
 | .makeMap t r => match xX ρ (an.lv (match dst with | some d => d | none => 0)), st with
  | l + 1, fr :: st' => match r, Γ.ty t with
   | none, .map kt _ => match zW Γ kt with
    | some kk => Ω.Nz fun es => Ω.EU st' l (.map kk (!(an.rf (match dst with | some d => d | none => 0))) es) fun i st' => K (.map (l + 1) i) (fr :: st')
    | none => none
   | _, _ => none
  | _, _ => evalOp Ω Γ an ρ st dst (.makeMap t r) K
 | .mapUpdate t m k x => match ev ρ m, st with
  | .map (l + 1) i, _ :: _ => match Γ.ty t with
   | .map kt _ => match zW Γ kt with
    | some kk => eH Ω st (unpack (ev ρ x)) fun vs st => match st with
     | fr :: st' => Ω.ET st' l i fun MF fl es => bif Mi kk MF then bif jC kk (ev ρ k) then bif eF (up.ups (l + 1) vs)
       then bif (bif fl then Cq (uq (ev ρ x) (up.ups (l + 1) vs)) else true) then Ω.af9 es (ev ρ k) (uq (ev ρ x) (up.ups (l + 1) vs)) fun es' => Ω.o7 st' l i (.map MF fl es') fun st' => K .skip (fr :: st') else none else none else none else none
     | [] => none
    | none => none
   | _ => none
  | _, _ => evalOp Ω Γ an ρ st dst (.mapUpdate t m k x) K
 | .call c => match c.callee, evs ρ c.args.toList, st with
  | .builtin .delete, [.map (l + 1) i, k], fr :: st' => match c.argTypes.toList with
   | [t, _] => match Γ.ty t with
    | .map kt _ => match zW Γ kt with
     | some kk => Ω.ET st' l i fun MF fl es => bif Mi kk MF then bif jC kk k then Ω.aga es k fun es' => Ω.o7 st' l i (.map MF fl es') fun st' => K (.zh []) (fr :: st') else none else none
     | none => none
    | _ => none
   | _ => none
  | .builtin .append, [.row (l + 1) i k, x], fr :: st' => match c.argTypes.toList with
   | [t, t'] => match Γ.ty t, Γ.ty t' with
    | .slice e sz bytes, .slice _ _ _ => match Γ.zero e, rowsOf Ω st x with
     | _ :: _, some (kx, xs) => bif Ω.ieq (Ω.len xs) kx then bif Ω.fits sz xs none then
       Ω.xY st' l i fun e' szr rows mt' cap => bif Ω.ieq (Ω.len rows) k then br (Ω.ieq (Ω.len xs) 0) (fun _ => qj Ω (an.cold (match dst with | some d => d | none => 0)) (.row (l + 1) i k, st) K) (fun _ => bif Nat.beq e e' then bif Nat.beq sz szr
        then Ω.Nw rows xs fun rows' n => bif Ω.mR (Ω.mul n bytes) limit
         then (match cap with
          | none => Ω.o7 st' l i (.row e' szr rows' mt' none) fun st' => qj Ω (an.cold (match dst with | some d => d | none => 0)) (.row (l + 1) i n, fr :: st') K
          | some c => bif Ω.mR n c then Ω.o7 st' l i (.row e' szr rows' mt' (some c)) fun st' => qj Ω (an.cold (match dst with | some d => d | none => 0)) (.row (l + 1) i n, fr :: st') K else none) else none
        else none else none) else none else none else none
     | _, _ => none
    | .slice _ _ _, .str => evalOp Ω Γ an ρ st dst (.call c) K
    | _, _ => none
   | _ => none
  | .builtin .len, [.map (l + 1) i], _ :: st' => match c.argTypes.toList with
   | [t] => match Γ.ty t with
    | .map _ _ => Ω.ET st' l i fun _ _ es => Ω.Sv es fun n => K (.d (.int .i64 n)) st
    | _ => none
   | _ => none
  | .value f, _, _ => match ev ρ f with
   | .vP (l + 1) i => ig Ω (an.hold (match dst with | some d => d | none => 0)) 0 (evs ρ c.args.toList) st fun args st => match st with
    | fr :: st' => Ω.sO st' l i fun site _ p => match p with
     | some _ => none
     | none => (Ω.rd site (.vP (l + 1) i :: args) (fr :: st')).bind fun r => K r.1 r.2
    | [] => none
   | _ => evalOp Ω Γ an ρ st dst (.call c) K
  | _, _, _ => evalOp Ω Γ an ρ st dst (.call c) K
 | o => evalOp Ω Γ an ρ st dst o K
def FX {R : Type} (Γ : Tab) (an : mH) (o : XO) (ρ : Env) (st : St) (K : Env → St → Option R) : Option R :=
 match o with
 | ⟨dst, op, g, RY, dead⟩ => match g with
  | none => MI Ω Γ an ρ st dst op (rV Ω RY st fun v st => K (FU dead (vW ρ dst v)) st)
  | some (j, want) => match mI ρ j with
   | .d (.bool b) => br (bif want then b else !b)
     (fun _ => MI Ω Γ an (est ρ j (.d (.bool want))) st dst op (rV Ω RY st fun v st => K (FU dead (vW (est ρ j (.d (.bool want))) dst v)) st))
     (fun _ => K (FU dead (vW (est ρ j (.d (.bool !want))) dst .skip)) st)
   | .skip => K (FU dead (vW ρ dst .skip)) st
   | _ => none
def runT {R : Type} (Γ : Tab) (an : mH) : Nat → List XO → Env → St → (Env → St → Option R) → Option R
 | _, [], ρ, st, K => K ρ st
 | 0, o :: rest, ρ, st, K => Ω.tick fun _ => FX Ω Γ an o ρ st fun ρ st => runT Γ an 11 rest ρ st K
 | k + 1, o :: rest, ρ, st, K => FX Ω Γ an o ρ st fun ρ st => runT Γ an k rest ρ st K
def runTX {R : Type} (Γ : Tab) (an : mH) : XT → Env → St → (Env → St → Option R) → Option R
 | .done, ρ, st, K => K ρ st
 | .step o t, ρ, st, K => FX Ω Γ an o ρ st fun ρ st => runTX Γ an t ρ st K
 | .both a b, ρ, st, K => Ω.both (runTX Γ an a ρ st K) (runTX Γ an b ρ st K)
def agt {R : Type} (Γ : Tab) (an : mH) : List (List XO) → Env → St → (Env → St → Option R) → Option R
 | [], ρ, st, K => K (aM an.keep ρ) st
 | [ops], ρ, st, K => Ω.grp (fun k => runT Ω Γ an 12 ops ρ st fun ρ st => k (aM an.keep ρ, st)) fun r => K r.1 r.2
 | ops :: cs, ρ, st, K => Ω.grp (fun k => runT Ω Γ an 12 ops ρ st fun ρ st => k (ρ, st)) fun r => agt Γ an cs r.1 r.2 K
def jR (Γ : Tab) (an : mH) : XC → Env → St → {R : Type} → (Ex → Env → St → Option R) → Option R
 | .skip, ρ, st, _, K => K .normal ρ st
 | .region ops, ρ, st, _, K => runT Ω Γ an 12 ops ρ st fun ρ st => K .normal (aM an.keep ρ) st
 | .dF ops, ρ, st, _, K => Ω.grp (fun k => runT Ω Γ an 12 ops ρ st fun ρ st => k (aM an.keep ρ, st)) fun r => K .normal r.1 r.2
 | .Ag ops t, ρ, st, _, K => Ω.grp (fun k => runT Ω Γ an 12 ops ρ st fun ρ st => runTX Ω Γ an t ρ st fun ρ st => k (aM an.keep ρ, st)) fun r => K .normal r.1 r.2
 | .Io cs, ρ, st, _, K => agt Ω Γ an cs ρ st fun ρ st => K .normal ρ st
 | .seq a b, ρ, st, _, K => jR Γ an a ρ st fun e ρ st => match e with
  | .normal => jR Γ an b ρ st K
  | e => K e ρ st
 | .cond t a b, ρ, st, _, K => match mI ρ t with
  | .d (.bool x) => Ω.grp (fun k => br x (fun _ => jR Γ an a (Lx an ρ t true) st (fun e ρ' st' => k (e, aM (keys ρ) ρ', trim Ω.plain (fE st 0) (aM (keys ρ) ρ') st')))
    (fun _ => jR Γ an b (Lx an ρ t false) st (fun e ρ' st' => k (e, aM (keys ρ) ρ', trim Ω.plain (fE st 0) (aM (keys ρ) ρ') st')))) (fun r => K r.1 r.2.1 r.2.2)
  | .ub => Ω.both (jR Γ an a (del ρ t) st (fun e ρ' st' => K e (aM (keys ρ) ρ') (trim Ω.plain (fE st 0) (aM (keys ρ) ρ') st')))
    (jR Γ an b (del ρ t) st (fun e ρ' st' => K e (aM (keys ρ) ρ') (trim Ω.plain (fE st 0) (aM (keys ρ) ρ') st')))
  | _ => none
 | .block id a, ρ, st, _, K => jR Γ an a ρ st fun e ρ st => match e with
  | .exit i => bif Nat.beq i id then K .normal ρ st else K (.exit i) ρ st
  | e => K e ρ st
 | .loop a, ρ, st, _, K => (Ω.iter (fE st 0) (keys ρ) (fun ρ st => jR Γ an a ρ st fun e ρ st => some (e, ρ, st)) ρ st).bind fun r => K r.1 r.2.1 r.2.2
 | .exit id, ρ, st, _, K => K (.exit id) ρ st
 | .ret, ρ, st, _, K => K .ret ρ st
 | .rng t, ρ, st, _, K => aav Ω an ρ st (.tmp t) K
 | .bad, _, _, _, _ => none
end
theorem KQ {c : CF} {R : Type} {st : St} {l i : Nat} {g g' : Nat → Env → Option R} (h : ∀ s ρ, g s ρ = g' s ρ) : (match look st l i with | some (.loop s ρ none) => g s ρ | _ => none) = ((real c).sO st l i fun s ρ p => match p with | some _ => none | none => g' s ρ) := by
 obtain rfl : g = g' := by funext s ρ; exact h s ρ
 simp only [real]
 cases look st l i with
 | none => rfl
 | some o =>
  cases o with
  | loop s ρ p => cases p <;> rfl
  | _ => rfl
theorem afu {c : CF} {R : Type} {st : St} {l i : Nat} {g g' : Nat → Env → Option R} (h : ∀ s ρ, g s ρ = g' s ρ) : (match look st l i with | some (.loop s ρ (some .normal)) => g s ρ | _ => none) = ((real c).sO st l i fun s ρ p => match p with | some .normal => g' s ρ | _ => none) := by
 obtain rfl : g = g' := by funext s ρ; exact h s ρ
 simp only [real]
 cases look st l i with
 | none => rfl
 | some o =>
  cases o with
  | loop s ρ p =>
   cases p with
   | none => rfl
   | some e => cases e <;> rfl
  | _ => rfl
theorem Uw {c : CF} {R : Type} {st : St} {l i : Nat} {f f' : Nat → Nat → List (List D) → Bool → Option Int → Option R} (h : ∀ a b r m p, f a b r m p = f' a b r m p) :
  ((real c).xY st l i f) = (match look st l i with | some (.row a b r m p) => f' a b r m p | _ => none) := by
 obtain rfl : f = f' := by funext a b r m p; exact h a b r m p
 rfl
theorem aaF {c : CF} {R : Type} (Γ : Tab) (an : mH) (ρ : Env) (st : St) (dst : Option Nat) (op : Op) (K : jB R) : MI (real c) Γ an ρ st dst op K = evalOp (real c) Γ an ρ st dst op K := by
 unfold MI
 split
 ·split
  ·rename_i l i off fr st' h
   simp only [evalOp, h, zT, look, real]
   cases look st' l i with
   | none => rfl
   | some o => cases o <;> rfl
  ·rename_i l i k x off fr st' h
   simp only [evalOp, h, zT, look]
   refine (Uw fun _ _ _ _ _ => rfl).trans ?_
   cases look st' l i with
   | none => rfl
   | some o => cases o <;> rfl
  ·rfl
 ·split
  ·rename_i l j k kd i fr st' h1 h2
   simp only [evalOp, h1, h2]
   cases Γ.ty _ with
   | slice e sz b =>
    dsimp only
    refine (Uw fun _ _ _ _ _ => rfl).trans ?_
    show _ = (match look st' l j with | some (.row _ sz' rows _ _) => _ | _ => none)
    cases look st' l j with
    | none => rfl
    | some o => cases o <;> rfl
   | _ => rfl
  ·rfl
 ·split
  ·rename_i h
   simp only [evalOp, h, look, real, dU]
  ·rename_i l i k ix off fr st' h
   simp only [evalOp, h]
   congr 2
   congr 1
   funext vs st2
   cases st2 with
   | nil => rfl
   | cons fr st2 =>
    dsimp only
    refine (Uw fun _ _ _ _ _ => rfl).trans ?_
    show _ = (match look st2 l i with | some (.row ty sz rows true cap) => _ | _ => none)
    cases look st2 l i with
    | none => rfl
    | some o =>
     cases o with
     | row ty sz rows mt cap => cases mt <;> rfl
     | _ => rfl
  ·rfl
 ·rename_i t m k ok
  split
  ·rename_i l i fr st' h
   simp only [evalOp, h, look, real]
   cases Γ.ty t with
   | map kt e =>
    dsimp only
    cases zW Γ kt with
    | none => rfl
    | some kk =>
     dsimp only
     unfold vV
     cases jC kk (ev ρ k) with
     | false => rfl
     | true =>
      simp only [cond_true, look]
      cases pack Γ e (ds (Γ.zero e)) with
      | none => rfl
      | some z =>
       dsimp only
       have hlk : look (fr :: st') l.succ i = look st' l i := rfl
       rw [hlk]
   | _ => rfl
  ·rfl
 ·rename_i t x
  cases dst <;>
  ·split
   ·rename_i l fr st' hc h
    simp only [evalOp]
    dsimp only at h hc
    rw [h]
    simp only [hc, cond_false]
    congr 1
    funext cs st2
    cases st2 with
    | nil => generalize an.own _ = ow; cases ow <;> simp [jL]
    | cons fr st2 =>
     simp only [real]
     generalize an.own _ = ow
     cases ow <;> cases h3 : eF (up.ups (l + 1) cs) <;> cases h2 : jL st2 l <;> simp [jL, h2, h3, fE, mU]
   ·rfl
 ·rename_i t r
  cases dst <;>
  ·split
   ·rename_i l fr st' h
    simp only [evalOp]
    dsimp only at h
    rw [h]
    cases r with
    | some r => rfl
    | none =>
     cases Γ.ty t with
     | map kt e =>
      dsimp only
      cases zW Γ kt with
      | none => rfl
      | some kk =>
       simp only [real]
       cases h2 : jL st' l <;> simp [jL, h2, fE, mU]
     | _ => rfl
   ·rfl
 ·rename_i t m k x
  split
  ·rename_i l i fr st' h
   simp only [evalOp, h]
   cases Γ.ty t with
   | map kt e =>
    dsimp only
    cases zW Γ kt with
    | none => rfl
    | some kk =>
     dsimp only
     congr 1
     funext vs st2
     cases st2 with
     | nil => rfl
     | cons fr st2 =>
      have hlk : look (fr :: st2) (l + 1) i = look st2 l i := rfl
      simp only [hlk, real]
      cases look st2 l i with
      | none => rfl
      | some o => cases o <;> rfl
   | _ => rfl
  ·rfl
 ·rename_i cc
  split
  ·rename_i l i k fr st' h1 h2
   simp only [evalOp, h1, h2]
   have hlk : look (fr :: st') (l + 1) i = look st' l i := rfl
   generalize cc.argTypes.toList = at_
   cases at_ with
   | nil => rfl
   | cons t at_ =>
    cases at_ with
    | nil => rfl
    | cons t2 at_ =>
     cases at_ with
     | cons t3 at_ => rfl
     | nil =>
      dsimp only
      cases Γ.ty t with
      | map kt e =>
       dsimp only
       cases zW Γ kt with
       | none => rfl
       | some kk =>
        simp only [hlk, real]
        cases look st' l i with
        | none => rfl
        | some o => cases o <;> rfl
      | _ => rfl
  ·rename_i l i k x fr st' h1 h2
   simp only [evalOp, h1, h2]
   generalize cc.argTypes.toList = at_
   cases at_ with
   | nil => rfl
   | cons t at_ =>
    cases at_ with
    | nil => rfl
    | cons t2 at_ =>
     cases at_ with
     | cons t3 at_ => rfl
     | nil =>
      dsimp only
      cases Γ.ty t with
      | slice e sz bytes =>
       cases Γ.ty t2 with
       | slice e2 sz2 b2 =>
        have ho : ∀ (own : Option Nat) (mt : Bool) (lv : Nat) (K : jB R), ng (real c) Γ own mt lv e sz bytes (fr :: st') (.row (l + 1) i k) x K = nL (real c) Γ mt lv e sz bytes (fr :: st') (.row (l + 1) i k) x K := by
         intro own mt lv K; cases own <;> rfl
        dsimp only
        rw [ho]
        unfold nL
        cases Γ.zero e with
        | nil => rfl
        | cons z0 z1 =>
         cases rowsOf (real c) (fr :: st') x with
         | none => rfl
         | some q =>
          obtain ⟨kx, xs⟩ := q
          dsimp only
          congr 2
       | _ => rfl
      | _ => rfl
  ·rename_i l i fr st' h1 h2
   simp only [evalOp, h1, h2]
   have hlk : look (fr :: st') (l + 1) i = look st' l i := rfl
   generalize cc.argTypes.toList = at_
   cases at_ with
   | nil => rfl
   | cons t at_ =>
    cases at_ with
    | cons t2 at_ => rfl
    | nil =>
     dsimp only
     cases Γ.ty t with
     | map kt e => simp only [hlk, real]
     | _ => rfl
  ·rename_i f h1
   split
   ·rename_i l i h2
    simp only [evalOp, h1, h2]
    cases dst <;>
    ·congr 1
     funext args st2
     cases st2 with
     | nil => rfl
     | cons fr st' => exact (KQ fun _ _ => rfl).symm
   ·rfl
  ·rfl
 ·rfl
theorem Fa {c : CF} {R : Type} (Γ : Tab) (an : mH) (o : XO) (ρ : Env) (st : St) (K : Env → St → Option R) : FX (real c) Γ an o ρ st K = fH (real c) Γ an [o] ρ st K := by
 obtain ⟨dst, op, g, RY, dead⟩ := o
 simp only [FX, fH, aaF]
 cases g with
 | none => rfl
 | some q => rfl
theorem runT_eq {c : CF} {R : Type} (Γ : Tab) (an : mH) : ∀ (l : List XO) (k : Nat) (ρ : Env) (st : St) (K : Env → St → Option R), runT (real c) Γ an k l ρ st K = fH (real c) Γ an l ρ st K
 | [], k, ρ, st, K => by cases k <;> rfl
 | o :: l, k, ρ, st, K => by
  rw [CZ]
  cases k with
  | zero =>
   show FX (real c) Γ an o ρ st (fun ρ st => runT (real c) Γ an 11 l ρ st K) = _
   simp only [runT_eq Γ an l, Fa]
  | succ k => simp only [runT, runT_eq Γ an l, Fa]
theorem Di {c : CF} {R : Type} (Γ : Tab) (an : mH) : ∀ (t : XT) (ρ : Env) (st : St) (K : Env → St → Option R), runTX (real c) Γ an t ρ st K = oD (real c) Γ an t ρ st K
 | .done, ρ, st, K => rfl
 | .step o t, ρ, st, K => by simp only [runTX, oD, Fa, Di Γ an t]
 | .both a b, ρ, st, K => by simp only [runTX, oD, Di Γ an a, Di Γ an b]
theorem NR {c : CF} {R : Type} (Γ : Tab) (an : mH) : ∀ (l m : List XO) (ρ : Env) (st : St) (K : Env → St → Option R), fH (real c) Γ an (l ++ m) ρ st K = fH (real c) Γ an l ρ st fun ρ st => fH (real c) Γ an m ρ st K
 | [], m, ρ, st, K => rfl
 | o :: l, m, ρ, st, K => by
  rw [List.cons_append, CZ, CZ (x := o) (l := l)]
  exact congrArg (fH (real c) Γ an [o] ρ st) (funext fun ρ => funext fun st => NR Γ an l m ρ st K)
theorem Ux {c : CF} {R : Type} (Γ : Tab) (an : mH) : ∀ (cs : List (List XO)) (ρ : Env) (st : St) (K : Env → St → Option R), agt (real c) Γ an cs ρ st K = fH (real c) Γ an cs.flatten ρ st fun ρ st => K (aM an.keep ρ) st
 | [], ρ, st, K => rfl
 | [ops], ρ, st, K => by
  simp only [agt, oU, runT_eq, List.flatten_cons, List.flatten_nil, List.append_nil]
 | ops :: o2 :: cs, ρ, st, K => by
  rw [List.flatten_cons, NR]
  simp only [agt, oU, runT_eq]
  congr 1
  funext ρ st
  exact Ux Γ an (o2 :: cs) ρ st K
theorem wB {c : CF} (Γ : Tab) (an : mH) : ∀ (co : Code) (ρ : Env) (st : St) {R : Type} (K : Ex → Env → St → Option R), exec (real c) Γ an co ρ st K = jR (real c) Γ an (strip an co) ρ st K := by
 intro co
 induction co with
 | skip | exit | ret => intro ρ st R K; rfl
 | label | goto | refuse | scope => intro ρ st R K; rfl
 | rangeFunc g ps x b =>
  intro ρ st R K
  cases g <;> rfl
 | region id ops dr =>
  intro ρ st R K
  simp only [exec, strip]
  cases dr && late ops.toList
  case true => simp only [cond_true, jR, runT_eq, oU, Di]
  cases arG (vY an dr ops.toList 0 ops.toList) <;> cases an.split <;> simp only [cond_true, cond_false, jR, runT_eq, oU, Ux, SL]
 | seq a b iha ihb =>
  intro ρ st R K
  simp only [exec, strip, jR, iha]
  congr 1
  funext e ρ st
  cases e <;> simp only [ihb]
 | cond x a b iha ihb =>
  intro ρ st R K
  cases x with
  | tmp t =>
   simp only [exec, strip, jR]
   cases mI ρ t with
   | d x => cases x <;> simp only [iha, ihb]
   | ub => simp only [iha, ihb]
   | _ => rfl
  | _ => rfl
 | block id a iha =>
  intro ρ st R K
  simp only [exec, strip, jR, iha]
  first
  | rfl
  | (congr 1; done)
  | (congr 1; funext e ρ st; cases e <;> rfl)
 | loop a iha => intro ρ st R K; simp only [exec, strip, jR, iha]
theorem NS {c : CF} {Γ : Tab} {an : mH} {fn : Func} {x : XC} {rs : List ResultVar} (h : fn.body.map (strip an) = some x) (h3 : fn.results.toList = rs) (args : List PV) (st : St) :
  body (real c) Γ an fn args st = sS (real c) an.take 0 (down.gZ 1 args) ([] :: st) fun args st => jR (real c) Γ an x (enter 0 args) st fun e ρ st => match e with
   | .exit _ => none
   | _ => leave (real c) Γ an.give rs ρ st := by
 cases h1 : fn.body with
 | none => rw [h1] at h; cases h
 | some co =>
  rw [h1] at h
  cases h
  subst h3
  unfold body
  rw [h1]
  show sS _ _ _ _ _ _ = sS _ _ _ _ _ _
  congr 1
  funext args st
  exact wB Γ an co _ _ _
def aaG (Ω : Om) (Γ : Tab) (an : mH) (xb : XC) (l i site : Nat) (e : Ex) (ρ2 : Env) (st2 : St) : Option (PV × St) :=
 match e, st2 with
 | .normal, fr :: Sy => Ω.sO Sy l i fun yc ρ' p => match p with
  | some _ => none
  | none => bif Nat.beq site yc then Ω.o7 Sy l i (.loop yc ρ' (some .normal)) fun Sy => jR Ω Γ an xb ρ2 (fr :: Sy) fun e _ st4 => match st4 with
   | _ :: st5 => Ω.sO st5 l i fun oO ρ'' p => match p with
    | some .normal => bif Nat.beq site oO then (match e with
     | .normal => Ω.o7 st5 l i (.loop oO ρ'' none) fun st6 => some (.d (.bool true), st6)
     | .exit id => Ω.o7 st5 l i (.loop oO ρ'' (some (.exit id))) fun st6 => some (.d (.bool false), st6)
     | .ret => Ω.o7 st5 l i (.loop oO ρ'' (some .ret)) fun st6 => some (.d (.bool false), st6)) else none
    | _ => none
   | [] => none else none
 | _, _ => none
def NT (Ω : Om) (Γ : Tab) (an : mH) (ps : List Nat) (xa xb : XC) (args : List PV) (st : St) : Option (PV × St) :=
 match args with
 | .vP l i :: args => Ω.sO st l i fun site ρ p => match p with
  | some _ => none
  | none => match oN ps args (CQ (l + 1) ρ) with
   | some ρ1 => jR Ω Γ an xa ρ1 ([] :: st) (aaG Ω Γ an xb l i site)
   | none => none
 | _ => none
theorem XK {c : CF} {Γ : Tab} {an : mH} {q : Site} {ps : List Nat} {xa xb : XC} (hp : q.ps = ps) (ha : strip an q.RX = xa) (hb : strip an q.body = xb) (args : List PV) (st : St) :
  round (real c) Γ an q args st = NT (real c) Γ an ps xa xb args st := by
 subst hp ha hb
 cases args with
 | nil => rfl
 | cons a args =>
  cases a with
  | vP l i =>
   unfold round NT
   dsimp only
   refine KQ fun site ρ => ?_
   cases oN q.ps args (CQ (l + 1) ρ) with
   | none => rfl
   | some ρ1 =>
    dsimp only
    rw [wB]
    congr 1
    funext e ρ2 st2
    unfold aaG
    cases e with
    | exit | ret => rfl
    | normal =>
     cases st2 with
     | nil => rfl
     | cons fr Sy =>
      dsimp only
      refine KQ fun yc ρ' => ?_
      congr 1
      rw [wB]
      show jR _ _ _ _ _ _ _ = jR _ _ _ _ _ _ _
      congr 1
      funext e ρ4 st4
      cases st4 with
      | nil => rfl
      | cons fr4 st5 =>
       dsimp only
       refine afu fun oO ρ'' => ?_
       cases e <;> rfl
  | _ => rfl
end Go.X
