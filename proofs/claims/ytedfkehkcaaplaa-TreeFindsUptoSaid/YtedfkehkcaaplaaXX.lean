/- T -/
import Derived.Test.YtedfkehkcaaplaaXMono
namespace Go.X
open Go
variable [bY]
inductive XC where
 | skip
 | region (ops : List XO)
 | iR (ops : List XO)
 | xS (ops : List (List XO))
 | xU (ops : List XO) (t : XT)
 | seq (a b : XC)
 | cond (t : Nat) (a b : XC)
 | block (id : Nat) (a : XC)
 | loop (a : XC)
 | exit (id : Nat)
 | ret
 | rng (t : Nat)
 | bad
def xt (n : Nat) : Operand := .tmp n
def xo (d : Nat) (op : Op) (dead : List Nat) : XO := ⟨some d, op, none, false, dead⟩
def xk (d : Nat) (op : Op) (dead : List Nat) : XO := ⟨some d, op, none, true, dead⟩
def xg (d : Nat) (op : Op) (g : Nat) (b : Bool) (dead : List Nat) : XO := ⟨some d, op, some (g, b), false, dead⟩
def xn (op : Op) : XO := ⟨none, op, none, false, []⟩
def xc (f : Nat) (a ts : List Nat) : Op := .call { callee := .value (.func f), args := (a.map Operand.tmp).toArray, argTypes := ts.toArray }
def xb (b : Builtin) (a ts : List Nat) : Op := .call { callee := .builtin b, args := (a.map Operand.tmp).toArray, argTypes := ts.toArray }
def xF : Operand := .const (.bool false)
def xT : Operand := .const (.bool true)
def xi (k : IntKind) (n : Int) : Operand := .const (.int k n)
def oM (d n : Nat) (l : List Nat) : XO := xo d (.move (xt n)) l
def oA (d n : Nat) (l : List Nat) : XO := xo d (.assign (xt n)) l
def oL (d t n : Nat) (l : List Nat) : XO := xo d (.load t (xt n)) l
def oF (d t n k : Nat) (l : List Nat) : XO := xo d (.fieldAddr t (xt n) k) l
def oI (d t n k : Nat) (l : List Nat) : XO := xo d (.indexAddr t (xt n) (xt k)) l
def oB (d t n : Nat) (l : List Nat) : XO := xo d (.box t (xt n)) l
def gM (d n : Nat) (g : Nat) (b : Bool) (l : List Nat) : XO := xg d (.move (xt n)) g b l
def gL (d t n : Nat) (g : Nat) (b : Bool) (l : List Nat) : XO := xg d (.load t (xt n)) g b l
def gF (d t n k : Nat) (g : Nat) (b : Bool) (l : List Nat) : XO := xg d (.fieldAddr t (xt n) k) g b l
def forks : Op → Bool
 | .pick _ _ _ => true | .lookup _ _ _ _ => true
 | .binOp _ _ _ y _ => zm y
 | .call c => match c.callee with
  | .builtin .min => true | .builtin .max => true | .builtin .append => true
  | _ => false
 | _ => false
def abD : List XO → Bool
 | [] => false
 | o :: r => match o.g with
  | some _ => true
  | none => bif forks o.op then true else abD r
def aaH : XO → Bool
 | ⟨_, .pick _ _ _, none, _, _⟩ => true
 | _ => false
def Tc : List XO → List (List XO)
 | [] => []
 | o :: r => match aaH o, Tc r with
  | true, cs => [o] :: cs
  | false, [] => [[o]]
  | false, c :: cs => (o :: c) :: cs
theorem FJ : ∀ l : List XO, (Tc l).flatten = l
 | [] => rfl
 | o :: r => by
  have ih := FJ r
  unfold Tc
  cases aaH o with
  | true => simp only [List.flatten_cons, ih]; rfl
  | false =>
   cases h : Tc r with
   | nil => rw [h] at ih; simp only [List.flatten_nil] at ih; subst ih; rfl
   | cons c cs => rw [h] at ih; simp only [List.flatten_cons] at ih ⊢; rw [← ih]; rfl
def strip (an : iG) : Code → XC
 | .skip => .skip
 | .region _ ops drawn => bif drawn && late ops.toList then .xU (nQ an true ops.toList 0 (ops.toList.take (tN ops.toList))) (lJ ops ops.size (wI (tN ops.toList) ops.size)) else bif abD (nQ an drawn ops.toList 0 ops.toList) then (bif an.split then .xS (Tc (nQ an drawn ops.toList 0 ops.toList)) else .iR (nQ an drawn ops.toList 0 ops.toList)) else .region (nQ an drawn ops.toList 0 ops.toList)
 | .seq a b => .seq (strip an a) (strip an b)
 | .cond (.tmp t) a b => .cond t (strip an a) (strip an b)
 | .block id a => .block id (strip an a)
 | .loop a => .loop (strip an a)
 | .exit id => .exit id
 | .ret => .ret
 | .rangeFunc (.tmp t) _ _ _ => .rng t
 | _ => .bad
section
variable (Ω : Om)
def Bw {R : Type} (Γ : Tab) (an : iG) (ρ : Env) (st : St) (dst : Option Nat) (op : Op) (K : fT R) : Option R :=
 match op with
 | .load t a => match ev ρ a, st with
  | .ptr (l + 1) i off, _ :: st' => Ω.aby st' l i off fun cs => match pack Γ t cs with
   | some v => K v st
   | none => none
  | .kL (l + 1) i k x off, _ :: st' => Ω.pI st' l i fun _ _ rows _ _ => bif Ω.ieq (Ω.len rows) k then (Ω.nth rows x).bind fun r => match pack Γ t (ds (r.drop off)) with
   | some v => K v st
   | none => none else none
  | _, _ => evalOp Ω Γ an ρ st dst (.load t a) K
 | .indexAddr t x ix => match ev ρ x, ev ρ ix, st with
  | .row (l + 1) j k, .d (.int _ i), _ :: st' => match Γ.ty t with
   | .slice _ sz _ => Ω.pI st' l j fun _ sz' rows _ _ => bif Nat.beq sz sz' then bif Ω.ieq (Ω.len rows) k then (Ω.nth rows i).bind fun _ => K (.kL (l + 1) j k i 0) st else none else none
   | _ => none
  | _, _, _ => evalOp Ω Γ an ρ st dst (.indexAddr t x ix) K
 | .store t a x => match ev ρ a, st with
  | .ptr (l + 1) i off, fr :: st' => bif Nat.beq (Γ.zero t).length (unpack (ev ρ x)).length then bif Nat.ble 1 (Γ.zero t).length then
    Ω.Br st' l i off (unpack (ev ρ x)) fun st' => K .skip (fr :: st') else none else none
  | .kL (l + 1) i k ix off, _ :: _ => bif Nat.beq (Γ.zero t).length (unpack (ev ρ x)).length then bif Nat.ble 1 (Γ.zero t).length then
    bW Ω st (unpack (ev ρ x)) fun vs st => match st with
    | fr :: st' => Ω.pI st' l i fun ty sz rows mt cap => match mt with
     | true => bif Ω.ieq (Ω.len rows) k then (Ω.nth rows ix).bind fun r => (match AZ vs with
      | some vs => bif Nat.ble (off + vs.length) r.length then Ω.Sz rows ix (r.take off ++ vs ++ r.drop (off + vs.length)) fun rows' => Ω.kG st' l i (.row ty sz rows' true cap) fun st' => K .skip (fr :: st') else none
      | none => none) else none
     | false => none
    | [] => none else none else none
  | _, _ => evalOp Ω Γ an ρ st dst (.store t a x) K
 | .lookup t m k ok => match ev ρ m, st with
  | .map (l + 1) i, _ :: st' => match Γ.ty t with
   | .map kt e => match rO Γ kt with
    | some kk => bif fU kk (ev ρ k) then match pack Γ e (ds (Γ.zero e)) with
     | some z => Ω.vE st' l i fun Bt _ es => bif Ba kk Bt then Ω.Fh es (ev ρ k) (K (bif ok then .pG [z, .d (.bool false)] else z) st) (fun v => K (bif ok then .pG [down (l + 1) v, .d (.bool true)] else down (l + 1) v) st) else none
     | none => none else none
    | none => none
   | _ => none
  | _, _ => evalOp Ω Γ an ρ st dst (.lookup t m k ok) K
 | .box t x => match an.cold (match dst with | some d => d | none => 0), nZ ρ (an.lv (match dst with | some d => d | none => 0)), st with
  | false, l + 1, _ :: _ => bW Ω st (unpack (ev ρ x)) fun cs st => match st with
   | fr :: st' => bif bU (up.ups (l + 1) cs) then Ω.vF st' l (.box t (up.ups (l + 1) cs)) fun i st' => K (.ptr (l + 1) i 0) (fr :: st') else none
   | [] => none
  | _, _, _ => evalOp Ω Γ an ρ st dst (.box t x) K
 | .makeMap t r => match nZ ρ (an.lv (match dst with | some d => d | none => 0)), st with
  | l + 1, fr :: st' => match r, Γ.ty t with
   | none, .map kt _ => match rO Γ kt with
    | some kk => Ω.BZ fun es => Ω.vF st' l (.map kk (!(an.rf (match dst with | some d => d | none => 0))) es) fun i st' => K (.map (l + 1) i) (fr :: st')
    | none => none
   | _, _ => none
  | _, _ => evalOp Ω Γ an ρ st dst (.makeMap t r) K
 | .mapUpdate t m k x => match ev ρ m, st with
  | .map (l + 1) i, _ :: _ => match Γ.ty t with
   | .map kt _ => match rO Γ kt with
    | some kk => bW Ω st (unpack (ev ρ x)) fun vs st => match st with
     | fr :: st' => Ω.vE st' l i fun Bt fl es => bif Ba kk Bt then bif fU kk (ev ρ k) then bif bU (up.ups (l + 1) vs)
       then bif (bif fl then sU (nK (ev ρ x) (up.ups (l + 1) vs)) else true) then Ω.SB es (ev ρ k) (nK (ev ρ x) (up.ups (l + 1) vs)) fun es' => Ω.kG st' l i (.map Bt fl es') fun st' => K .skip (fr :: st') else none else none else none else none
     | [] => none
    | none => none
   | _ => none
  | _, _ => evalOp Ω Γ an ρ st dst (.mapUpdate t m k x) K
 | .call c => match c.callee, evs ρ c.args.toList, st with
  | .builtin .delete, [.map (l + 1) i, k], fr :: st' => match c.argTypes.toList with
   | [t, _] => match Γ.ty t with
    | .map kt _ => match rO Γ kt with
     | some kk => Ω.vE st' l i fun Bt fl es => bif Ba kk Bt then bif fU kk k then Ω.SC es k fun es' => Ω.kG st' l i (.map Bt fl es') fun st' => K (.pG []) (fr :: st') else none else none
     | none => none
    | _ => none
   | _ => none
  | .builtin .append, [.row (l + 1) i k, x], fr :: st' => match c.argTypes.toList with
   | [t, t'] => match Γ.ty t, Γ.ty t' with
    | .slice e sz bytes, .slice _ _ _ => match Γ.zero e, rowsOf Ω st x with
     | _ :: _, some (kx, xs) => bif Ω.ieq (Ω.len xs) kx then bif Ω.fits sz xs none then
       Ω.pI st' l i fun e' szr rows MZ cap => bif Ω.ieq (Ω.len rows) k then br (Ω.ieq (Ω.len xs) 0) (fun _ => lG Ω (an.cold (match dst with | some d => d | none => 0)) (.row (l + 1) i k, st) K) (fun _ => bif Nat.beq e e' then bif Nat.beq sz szr
        then Ω.BU rows xs fun rows' n => bif Ω.jc (Ω.mul n bytes) limit
         then (match cap with
          | none => Ω.kG st' l i (.row e' szr rows' MZ none) fun st' => lG Ω (an.cold (match dst with | some d => d | none => 0)) (.row (l + 1) i n, fr :: st') K
          | some c => bif Ω.jc n c then Ω.kG st' l i (.row e' szr rows' MZ (some c)) fun st' => lG Ω (an.cold (match dst with | some d => d | none => 0)) (.row (l + 1) i n, fr :: st') K else none) else none
        else none else none) else none else none else none
     | _, _ => none
    | .slice _ _ _, .str => evalOp Ω Γ an ρ st dst (.call c) K
    | _, _ => none
   | _ => none
  | .builtin .len, [.map (l + 1) i], _ :: st' => match c.argTypes.toList with
   | [t] => match Γ.ty t with
    | .map _ _ => Ω.vE st' l i fun _ _ es => Ω.Fj es fun n => K (.d (.int .i64 n)) st
    | _ => none
   | _ => none
  | .value f, _, _ => match ev ρ f with
   | .jv (l + 1) i => eU Ω (an.hold (match dst with | some d => d | none => 0)) 0 (evs ρ c.args.toList) st fun args st => match st with
    | fr :: st' => Ω.ni st' l i fun site _ p => match p with
     | some _ => none
     | none => (Ω.rd site (.jv (l + 1) i :: args) (fr :: st')).bind fun r => K r.1 r.2
    | [] => none
   | _ => evalOp Ω Γ an ρ st dst (.call c) K
  | _, _, _ => evalOp Ω Γ an ρ st dst (.call c) K
 | o => evalOp Ω Γ an ρ st dst o K
def wL {R : Type} (Γ : Tab) (an : iG) (o : XO) (ρ : Env) (st : St) (K : Env → St → Option R) : Option R :=
 match o with
 | ⟨dst, op, g, EN, dead⟩ => match g with
  | none => Bw Ω Γ an ρ st dst op (mH Ω EN st fun v st => K (wG dead (oh ρ dst v)) st)
  | some (j, want) => match gW ρ j with
   | .d (.bool b) => br (bif want then b else !b)
     (fun _ => Bw Ω Γ an (est ρ j (.d (.bool want))) st dst op (mH Ω EN st fun v st => K (wG dead (oh (est ρ j (.d (.bool want))) dst v)) st))
     (fun _ => K (wG dead (oh (est ρ j (.d (.bool !want))) dst .skip)) st)
   | .skip => K (wG dead (oh ρ dst .skip)) st
   | _ => none
def runT {R : Type} (Γ : Tab) (an : iG) : Nat → List XO → Env → St → (Env → St → Option R) → Option R
 | _, [], ρ, st, K => K ρ st
 | 0, o :: rest, ρ, st, K => Ω.tick fun _ => wL Ω Γ an o ρ st fun ρ st => runT Γ an 11 rest ρ st K
 | k + 1, o :: rest, ρ, st, K => wL Ω Γ an o ρ st fun ρ st => runT Γ an k rest ρ st K
def runTX {R : Type} (Γ : Tab) (an : iG) : XT → Env → St → (Env → St → Option R) → Option R
 | .done, ρ, st, K => K ρ st
 | .step o t, ρ, st, K => wL Ω Γ an o ρ st fun ρ st => runTX Γ an t ρ st K
 | .both a b, ρ, st, K => Ω.both (runTX Γ an a ρ st K) (runTX Γ an b ρ st K)
def Td {R : Type} (Γ : Tab) (an : iG) : List (List XO) → Env → St → (Env → St → Option R) → Option R
 | [], ρ, st, K => K (aB an.keep ρ) st
 | [ops], ρ, st, K => Ω.Xi (fun k => runT Ω Γ an 12 ops ρ st fun ρ st => k (aB an.keep ρ, st)) fun r => K r.1 r.2
 | ops :: cs, ρ, st, K => Ω.Xi (fun k => runT Ω Γ an 12 ops ρ st fun ρ st => k (ρ, st)) fun r => Td Γ an cs r.1 r.2 K
def gu (Γ : Tab) (an : iG) : XC → Env → St → {R : Type} → (Ex → Env → St → Option R) → Option R
 | .skip, ρ, st, _, K => K .normal ρ st
 | .region ops, ρ, st, _, K => runT Ω Γ an 12 ops ρ st fun ρ st => K .normal (aB an.keep ρ) st
 | .iR ops, ρ, st, _, K => Ω.Xi (fun k => runT Ω Γ an 12 ops ρ st fun ρ st => k (aB an.keep ρ, st)) fun r => K .normal r.1 r.2
 | .xU ops t, ρ, st, _, K => Ω.Xi (fun k => runT Ω Γ an 12 ops ρ st fun ρ st => runTX Ω Γ an t ρ st fun ρ st => k (aB an.keep ρ, st)) fun r => K .normal r.1 r.2
 | .xS cs, ρ, st, _, K => Td Ω Γ an cs ρ st fun ρ st => K .normal ρ st
 | .seq a b, ρ, st, _, K => gu Γ an a ρ st fun e ρ st => match e with
  | .normal => gu Γ an b ρ st K
  | e => K e ρ st
 | .cond t a b, ρ, st, _, K => match gW ρ t with
  | .d (.bool x) => Ω.Xi (fun k => br x (fun _ => gu Γ an a (Aj an ρ t true) st (fun e ρ' st' => k (e, aB (keys ρ) ρ', trim Ω.plain (dD st 0) (aB (keys ρ) ρ') st')))
    (fun _ => gu Γ an b (Aj an ρ t false) st (fun e ρ' st' => k (e, aB (keys ρ) ρ', trim Ω.plain (dD st 0) (aB (keys ρ) ρ') st')))) (fun r => K r.1 r.2.1 r.2.2)
  | .ub => Ω.both (gu Γ an a (del ρ t) st (fun e ρ' st' => K e (aB (keys ρ) ρ') (trim Ω.plain (dD st 0) (aB (keys ρ) ρ') st')))
    (gu Γ an b (del ρ t) st (fun e ρ' st' => K e (aB (keys ρ) ρ') (trim Ω.plain (dD st 0) (aB (keys ρ) ρ') st')))
  | _ => none
 | .block id a, ρ, st, _, K => gu Γ an a ρ st fun e ρ st => match e with
  | .exit i => bif Nat.beq i id then K .normal ρ st else K (.exit i) ρ st
  | e => K e ρ st
 | .loop a, ρ, st, _, K => (Ω.iter (dD st 0) (keys ρ) (fun ρ st => gu Γ an a ρ st fun e ρ st => some (e, ρ, st)) ρ st).bind fun r => K r.1 r.2.1 r.2.2
 | .exit id, ρ, st, _, K => K (.exit id) ρ st
 | .ret, ρ, st, _, K => K .ret ρ st
 | .rng t, ρ, st, _, K => Nf Ω an ρ st (.tmp t) K
 | .bad, _, _, _, _ => none
end
theorem zA {c : CF} {R : Type} {st : St} {l i : Nat} {g g' : Nat → Env → Option R} (h : ∀ s ρ, g s ρ = g' s ρ) : (match look st l i with | some (.loop s ρ none) => g s ρ | _ => none) = ((real c).ni st l i fun s ρ p => match p with | some _ => none | none => g' s ρ) := by
 obtain rfl : g = g' := by funext s ρ; exact h s ρ
 simp only [real]
 cases look st l i with
 | none => rfl
 | some o =>
  cases o with
  | loop s ρ p => cases p <;> rfl
  | _ => rfl
theorem Rf {c : CF} {R : Type} {st : St} {l i : Nat} {g g' : Nat → Env → Option R} (h : ∀ s ρ, g s ρ = g' s ρ) : (match look st l i with | some (.loop s ρ (some .normal)) => g s ρ | _ => none) = ((real c).ni st l i fun s ρ p => match p with | some .normal => g' s ρ | _ => none) := by
 obtain rfl : g = g' := by funext s ρ; exact h s ρ
 simp only [real]
 cases look st l i with
 | none => rfl
 | some o =>
  cases o with
  | loop s ρ p =>
   cases p with
   | none => rfl
   | some e => cases e <;> rfl
  | _ => rfl
theorem Ic {c : CF} {R : Type} {st : St} {l i : Nat} {f f' : Nat → Nat → List (List D) → Bool → Option Int → Option R} (h : ∀ a b r m p, f a b r m p = f' a b r m p) :
  ((real c).pI st l i f) = (match look st l i with | some (.row a b r m p) => f' a b r m p | _ => none) := by
 obtain rfl : f = f' := by funext a b r m p; exact h a b r m p
 rfl
theorem Ns {c : CF} {R : Type} (Γ : Tab) (an : iG) (ρ : Env) (st : St) (dst : Option Nat) (op : Op) (K : fT R) : Bw (real c) Γ an ρ st dst op K = evalOp (real c) Γ an ρ st dst op K := by
 unfold Bw
 split
 ·split
  ·rename_i l i off fr st' h
   simp only [evalOp, h, rJ, look, real]
   cases look st' l i with
   | none => rfl
   | some o => cases o <;> rfl
  ·rename_i l i k x off fr st' h
   simp only [evalOp, h, rJ, look]
   refine (Ic fun _ _ _ _ _ => rfl).trans ?_
   cases look st' l i with
   | none => rfl
   | some o => cases o <;> rfl
  ·rfl
 ·split
  ·rename_i l j k kd i fr st' h1 h2
   simp only [evalOp, h1, h2]
   cases Γ.ty _ with
   | slice e sz b =>
    dsimp only
    refine (Ic fun _ _ _ _ _ => rfl).trans ?_
    show _ = (match look st' l j with | some (.row _ sz' rows _ _) => _ | _ => none)
    cases look st' l j with
    | none => rfl
    | some o => cases o <;> rfl
   | _ => rfl
  ·rfl
 ·split
  ·rename_i h
   simp only [evalOp, h, look, real, bJ]
  ·rename_i l i k ix off fr st' h
   simp only [evalOp, h]
   congr 2
   congr 1
   funext vs st2
   cases st2 with
   | nil => rfl
   | cons fr st2 =>
    dsimp only
    refine (Ic fun _ _ _ _ _ => rfl).trans ?_
    show _ = (match look st2 l i with | some (.row ty sz rows true cap) => _ | _ => none)
    cases look st2 l i with
    | none => rfl
    | some o =>
     cases o with
     | row ty sz rows mt cap => cases mt <;> rfl
     | _ => rfl
  ·rfl
 ·rename_i t m k ok
  split
  ·rename_i l i fr st' h
   simp only [evalOp, h, look, real]
   cases Γ.ty t with
   | map kt e =>
    dsimp only
    cases rO Γ kt with
    | none => rfl
    | some kk =>
     dsimp only
     unfold og
     cases fU kk (ev ρ k) with
     | false => rfl
     | true =>
      simp only [cond_true, look]
      cases pack Γ e (ds (Γ.zero e)) with
      | none => rfl
      | some z =>
       dsimp only
       have hlk : look (fr :: st') l.succ i = look st' l i := rfl
       rw [hlk]
   | _ => rfl
  ·rfl
 ·rename_i t x
  cases dst <;>
  ·split
   ·rename_i l fr st' hc h
    simp only [evalOp]
    dsimp only at h hc
    rw [h]
    simp only [hc, cond_false]
    congr 1
    funext cs st2
    cases st2 with
    | nil => generalize an.own _ = ow; cases ow <;> simp [fQ]
    | cons fr st2 =>
     simp only [real]
     generalize an.own _ = ow
     cases ow <;> cases h3 : bU (up.ups (l + 1) cs) <;> cases h2 : fQ st2 l <;> simp [fQ, h2, h3, dD, iQ]
   ·rfl
 ·rename_i t r
  cases dst <;>
  ·split
   ·rename_i l fr st' h
    simp only [evalOp]
    dsimp only at h
    rw [h]
    cases r with
    | some r => rfl
    | none =>
     cases Γ.ty t with
     | map kt e =>
      dsimp only
      cases rO Γ kt with
      | none => rfl
      | some kk =>
       simp only [real]
       cases h2 : fQ st' l <;> simp [fQ, h2, dD, iQ]
     | _ => rfl
   ·rfl
 ·rename_i t m k x
  split
  ·rename_i l i fr st' h
   simp only [evalOp, h]
   cases Γ.ty t with
   | map kt e =>
    dsimp only
    cases rO Γ kt with
    | none => rfl
    | some kk =>
     dsimp only
     congr 1
     funext vs st2
     cases st2 with
     | nil => rfl
     | cons fr st2 =>
      have hlk : look (fr :: st2) (l + 1) i = look st2 l i := rfl
      simp only [hlk, real]
      cases look st2 l i with
      | none => rfl
      | some o => cases o <;> rfl
   | _ => rfl
  ·rfl
 ·rename_i cc
  split
  ·rename_i l i k fr st' h1 h2
   simp only [evalOp, h1, h2]
   have hlk : look (fr :: st') (l + 1) i = look st' l i := rfl
   generalize cc.argTypes.toList = at_
   cases at_ with
   | nil => rfl
   | cons t at_ =>
    cases at_ with
    | nil => rfl
    | cons t2 at_ =>
     cases at_ with
     | cons t3 at_ => rfl
     | nil =>
      dsimp only
      cases Γ.ty t with
      | map kt e =>
       dsimp only
       cases rO Γ kt with
       | none => rfl
       | some kk =>
        simp only [hlk, real]
        cases look st' l i with
        | none => rfl
        | some o => cases o <;> rfl
      | _ => rfl
  ·rename_i l i k x fr st' h1 h2
   simp only [evalOp, h1, h2]
   generalize cc.argTypes.toList = at_
   cases at_ with
   | nil => rfl
   | cons t at_ =>
    cases at_ with
    | nil => rfl
    | cons t2 at_ =>
     cases at_ with
     | cons t3 at_ => rfl
     | nil =>
      dsimp only
      cases Γ.ty t with
      | slice e sz bytes =>
       cases Γ.ty t2 with
       | slice e2 sz2 b2 =>
        have ho : ∀ (own : Option Nat) (mt : Bool) (lv : Nat) (K : fT R), jh (real c) Γ own mt lv e sz bytes (fr :: st') (.row (l + 1) i k) x K = jy (real c) Γ mt lv e sz bytes (fr :: st') (.row (l + 1) i k) x K := by
         intro own mt lv K; cases own <;> rfl
        dsimp only
        rw [ho]
        unfold jy
        cases Γ.zero e with
        | nil => rfl
        | cons z0 z1 =>
         cases rowsOf (real c) (fr :: st') x with
         | none => rfl
         | some q =>
          obtain ⟨kx, xs⟩ := q
          dsimp only
          congr 2
       | _ => rfl
      | _ => rfl
  ·rename_i l i fr st' h1 h2
   simp only [evalOp, h1, h2]
   have hlk : look (fr :: st') (l + 1) i = look st' l i := rfl
   generalize cc.argTypes.toList = at_
   cases at_ with
   | nil => rfl
   | cons t at_ =>
    cases at_ with
    | cons t2 at_ => rfl
    | nil =>
     dsimp only
     cases Γ.ty t with
     | map kt e => simp only [hlk, real]
     | _ => rfl
  ·rename_i f h1
   split
   ·rename_i l i h2
    simp only [evalOp, h1, h2]
    cases dst <;>
    ·congr 1
     funext args st2
     cases st2 with
     | nil => rfl
     | cons fr st' => exact (zA fun _ _ => rfl).symm
   ·rfl
  ·rfl
 ·rfl
theorem vM {c : CF} {R : Type} (Γ : Tab) (an : iG) (o : XO) (ρ : Env) (st : St) (K : Env → St → Option R) : wL (real c) Γ an o ρ st K = dG (real c) Γ an [o] ρ st K := by
 obtain ⟨dst, op, g, EN, dead⟩ := o
 simp only [wL, dG, Ns]
 cases g with
 | none => rfl
 | some q => rfl
theorem runT_eq {c : CF} {R : Type} (Γ : Tab) (an : iG) : ∀ (l : List XO) (k : Nat) (ρ : Env) (st : St) (K : Env → St → Option R), runT (real c) Γ an k l ρ st K = dG (real c) Γ an l ρ st K
 | [], k, ρ, st, K => by cases k <;> rfl
 | o :: l, k, ρ, st, K => by
  rw [tX]
  cases k with
  | zero =>
   show wL (real c) Γ an o ρ st (fun ρ st => runT (real c) Γ an 11 l ρ st K) = _
   simp only [runT_eq Γ an l, vM]
  | succ k => simp only [runT, runT_eq Γ an l, vM]
theorem uj {c : CF} {R : Type} (Γ : Tab) (an : iG) : ∀ (t : XT) (ρ : Env) (st : St) (K : Env → St → Option R), runTX (real c) Γ an t ρ st K = jS (real c) Γ an t ρ st K
 | .done, ρ, st, K => rfl
 | .step o t, ρ, st, K => by simp only [runTX, jS, vM, uj Γ an t]
 | .both a b, ρ, st, K => by simp only [runTX, jS, uj Γ an a, uj Γ an b]
theorem Cr {c : CF} {R : Type} (Γ : Tab) (an : iG) : ∀ (l m : List XO) (ρ : Env) (st : St) (K : Env → St → Option R), dG (real c) Γ an (l ++ m) ρ st K = dG (real c) Γ an l ρ st fun ρ st => dG (real c) Γ an m ρ st K
 | [], m, ρ, st, K => rfl
 | o :: l, m, ρ, st, K => by
  rw [List.cons_append, tX, tX (x := o) (l := l)]
  exact congrArg (dG (real c) Γ an [o] ρ st) (funext fun ρ => funext fun st => Cr Γ an l m ρ st K)
theorem Ie {c : CF} {R : Type} (Γ : Tab) (an : iG) : ∀ (cs : List (List XO)) (ρ : Env) (st : St) (K : Env → St → Option R), Td (real c) Γ an cs ρ st K = dG (real c) Γ an cs.flatten ρ st fun ρ st => K (aB an.keep ρ) st
 | [], ρ, st, K => rfl
 | [ops], ρ, st, K => by
  simp only [Td, kr, runT_eq, List.flatten_cons, List.flatten_nil, List.append_nil]
 | ops :: o2 :: cs, ρ, st, K => by
  rw [List.flatten_cons, Cr]
  simp only [Td, kr, runT_eq]
  congr 1
  funext ρ st
  exact Ie Γ an (o2 :: cs) ρ st K
theorem oG {c : CF} (Γ : Tab) (an : iG) : ∀ (co : Code) (ρ : Env) (st : St) {R : Type} (K : Ex → Env → St → Option R), exec (real c) Γ an co ρ st K = gu (real c) Γ an (strip an co) ρ st K := by
 intro co
 induction co with
 | skip | exit | ret => intro ρ st R K; rfl
 | label | goto | refuse | scope => intro ρ st R K; rfl
 | rangeFunc g ps x b =>
  intro ρ st R K
  cases g <;> rfl
 | region id ops dr =>
  intro ρ st R K
  simp only [exec, strip]
  cases dr && late ops.toList
  case true => simp only [cond_true, gu, runT_eq, kr, uj]
  cases abD (nQ an dr ops.toList 0 ops.toList) <;> cases an.split <;> simp only [cond_true, cond_false, gu, runT_eq, kr, Ie, FJ]
 | seq a b iha ihb =>
  intro ρ st R K
  simp only [exec, strip, gu, iha]
  congr 1
  funext e ρ st
  cases e <;> simp only [ihb]
 | cond x a b iha ihb =>
  intro ρ st R K
  cases x with
  | tmp t =>
   simp only [exec, strip, gu]
   cases gW ρ t with
   | d x => cases x <;> simp only [iha, ihb]
   | ub => simp only [iha, ihb]
   | _ => rfl
  | _ => rfl
 | block id a iha =>
  intro ρ st R K
  simp only [exec, strip, gu, iha]
  first
  | rfl
  | (congr 1; done)
  | (congr 1; funext e ρ st; cases e <;> rfl)
 | loop a iha => intro ρ st R K; simp only [exec, strip, gu, iha]
theorem Ct {c : CF} {Γ : Tab} {an : iG} {fn : Func} {x : XC} {rs : List ResultVar} (h : fn.body.map (strip an) = some x) (h3 : fn.results.toList = rs) (args : List PV) (st : St) :
  body (real c) Γ an fn args st = mI (real c) an.take 0 (down.fA 1 args) ([] :: st) fun args st => gu (real c) Γ an x (enter 0 args) st fun e ρ st => match e with
   | .exit _ => none
   | _ => leave (real c) Γ an.give rs ρ st := by
 cases h1 : fn.body with
 | none => rw [h1] at h; cases h
 | some co =>
  rw [h1] at h
  cases h
  subst h3
  unfold body
  rw [h1]
  show mI _ _ _ _ _ _ = mI _ _ _ _ _ _
  congr 1
  funext args st
  exact oG Γ an co _ _ _
def Nt (Ω : Om) (Γ : Tab) (an : iG) (xb : XC) (l i site : Nat) (e : Ex) (ρ2 : Env) (st2 : St) : Option (PV × St) :=
 match e, st2 with
 | .normal, fr :: Fu => Ω.ni Fu l i fun pK ρ' p => match p with
  | some _ => none
  | none => bif Nat.beq site pK then Ω.kG Fu l i (.loop pK ρ' (some .normal)) fun Fu => gu Ω Γ an xb ρ2 (fr :: Fu) fun e _ st4 => match st4 with
   | _ :: Ng => Ω.ni Ng l i fun jY ρ'' p => match p with
    | some .normal => bif Nat.beq site jY then (match e with
     | .normal => Ω.kG Ng l i (.loop jY ρ'' none) fun st6 => some (.d (.bool true), st6)
     | .exit id => Ω.kG Ng l i (.loop jY ρ'' (some (.exit id))) fun st6 => some (.d (.bool false), st6)
     | .ret => Ω.kG Ng l i (.loop jY ρ'' (some .ret)) fun st6 => some (.d (.bool false), st6)) else none
    | _ => none
   | [] => none else none
 | _, _ => none
def Cu (Ω : Om) (Γ : Tab) (an : iG) (ps : List Nat) (xa xb : XC) (args : List PV) (st : St) : Option (PV × St) :=
 match args with
 | .jv l i :: args => Ω.ni st l i fun site ρ p => match p with
  | some _ => none
  | none => match jX ps args (nY (l + 1) ρ) with
   | some ρ1 => gu Ω Γ an xa ρ1 ([] :: st) (Nt Ω Γ an xb l i site)
   | none => none
 | _ => none
theorem KH {c : CF} {Γ : Tab} {an : iG} {q : Site} {ps : List Nat} {xa xb : XC} (hp : q.ps = ps) (ha : strip an q.BS = xa) (hb : strip an q.body = xb) (args : List PV) (st : St) :
  round (real c) Γ an q args st = Cu (real c) Γ an ps xa xb args st := by
 subst hp ha hb
 cases args with
 | nil => rfl
 | cons a args =>
  cases a with
  | jv l i =>
   unfold round Cu
   dsimp only
   refine zA fun site ρ => ?_
   cases jX q.ps args (nY (l + 1) ρ) with
   | none => rfl
   | some ρ1 =>
    dsimp only
    rw [oG]
    congr 1
    funext e ρ2 st2
    unfold Nt
    cases e with
    | exit | ret => rfl
    | normal =>
     cases st2 with
     | nil => rfl
     | cons fr Fu =>
      dsimp only
      refine zA fun pK ρ' => ?_
      congr 1
      rw [oG]
      show gu _ _ _ _ _ _ _ = gu _ _ _ _ _ _ _
      congr 1
      funext e ρ4 st4
      cases st4 with
      | nil => rfl
      | cons fr4 Ng =>
       dsimp only
       refine Rf fun jY ρ'' => ?_
       cases e <;> rfl
  | _ => rfl
end Go.X
