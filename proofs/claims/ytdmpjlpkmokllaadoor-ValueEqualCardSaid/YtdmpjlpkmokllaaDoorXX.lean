/- The code, as little of it as is needed. -/
import Derived.Test.YtdmpjlpkmokllaaDoorXMono
namespace Go.X
open Go
set_option linter.unusedSectionVars false
set_option linter.unusedSimpArgs false
variable [Sites]

inductive XC where
  | skip
  | region (ops : List XO)
  | regionG (ops : List XO)   -- with more roads than one
  | seq (a b : XC)
  | cond (t : Nat) (a b : XC)
  | block (id : Nat) (a : XC)
  | loop (a : XC)
  | exit (id : Nat)
  | ret
  | rng (t : Nat)
  | bad
/-! Short words for printed codes. -/
def xt (n : Nat) : Operand := .tmp n
def xo (d : Nat) (op : Op) (dead : List Nat) : XO := ⟨some d, op, none, false, dead⟩
def xk (d : Nat) (op : Op) (dead : List Nat) : XO := ⟨some d, op, none, true, dead⟩
def xg (d : Nat) (op : Op) (g : Nat) (b : Bool) (dead : List Nat) : XO := ⟨some d, op, some (g, b), false, dead⟩
def xn (op : Op) : XO := ⟨none, op, none, false, []⟩
def xc (f : Nat) (a ts : List Nat) : Op := .call { callee := .value (.func f), args := (a.map Operand.tmp).toArray, argTypes := ts.toArray }
def xb (b : Builtin) (a ts : List Nat) : Op := .call { callee := .builtin b, args := (a.map Operand.tmp).toArray, argTypes := ts.toArray }
/-- Operations with more roads than one. -/
def forks : Op → Bool
  | .pick _ _ _ => true | .lookup _ _ _ _ => true
  | .binOp _ _ _ y _ => isNilC y
  | .call c => match c.callee with
    | .builtin .min => true | .builtin .max => true | .builtin .append => true
    | _ => false
  | _ => false
def hasG : List XO → Bool
  | [] => false
  | o :: r => match o.g with
    | some _ => true
    | none => bif forks o.op then true else hasG r
def strip (an : Ann) : Code → XC
  | .skip => .skip
  | .region _ ops drawn => bif hasG (xOps an drawn ops.toList 0 ops.toList) then .regionG (xOps an drawn ops.toList 0 ops.toList) else .region (xOps an drawn ops.toList 0 ops.toList)
  | .seq a b => .seq (strip an a) (strip an b)
  | .cond (.tmp t) a b => .cond t (strip an a) (strip an b)
  | .block id a => .block id (strip an a)
  | .loop a => .loop (strip an a)
  | .exit id => .exit id
  | .ret => .ret
  | .rangeFunc (.tmp t) _ _ _ => .rng t
  | _ => .bad
section
variable (Ω : Om)
/-- An operation; objects of frames further out are words. -/
def evalOpX {R : Type} (Γ : Tab) (an : Ann) (ρ : Env) (st : St) (dst : Option Nat) (op : Op) (K : CallK R) : Option R :=
  match op with
  | .load t a => match ev ρ a, st with
    | .ptr (l + 1) i off, _ :: st' => Ω.farK st' l i off fun cs => match pack Γ t cs with
      | some v => K v st
      | none => none
    | .rptr (l + 1) i k x off, _ :: st' => Ω.rowFarK st' l i fun _ _ rows _ _ => bif Ω.ieq (Ω.len rows) k then (Ω.nth rows x).bind fun r => match pack Γ t (ds (r.drop off)) with
      | some v => K v st
      | none => none else none
    | _, _ => evalOp Ω Γ an ρ st dst (.load t a) K
  | .indexAddr t x ix => match ev ρ x, ev ρ ix, st with
    | .row (l + 1) j k, .d (.int _ i), _ :: st' => match Γ.ty t with
      | .slice _ sz _ => Ω.rowFarK st' l j fun _ sz' rows _ _ => bif Nat.beq sz sz' then bif Ω.ieq (Ω.len rows) k then (Ω.nth rows i).bind fun _ => K (.rptr (l + 1) j k i 0) st else none else none
      | _ => none
    | _, _, _ => evalOp Ω Γ an ρ st dst (.indexAddr t x ix) K
  | .store t a x => match ev ρ a, st with
    | .ptr (l + 1) i off, fr :: st' => bif Nat.beq (Γ.zero t).length (unpack (ev ρ x)).length then bif Nat.ble 1 (Γ.zero t).length then
        Ω.putFarK st' l i off (unpack (ev ρ x)) fun st' => K .skip (fr :: st') else none else none
    | .rptr (l + 1) i k ix off, _ :: _ => bif Nat.beq (Γ.zero t).length (unpack (ev ρ x)).length then bif Nat.ble 1 (Γ.zero t).length then
        freezesK Ω st (unpack (ev ρ x)) fun vs st => match st with
        | fr :: st' => Ω.rowFarK st' l i fun ty sz rows mt cap => match mt with
          | true => bif Ω.ieq (Ω.len rows) k then (Ω.nth rows ix).bind fun r => (match allD vs with
            | some vs => bif Nat.ble (off + vs.length) r.length then Ω.setK rows ix (r.take off ++ vs ++ r.drop (off + vs.length)) fun rows' => Ω.setFarK st' l i (.row ty sz rows' true cap) fun st' => K .skip (fr :: st') else none
            | none => none) else none
          | false => none
        | [] => none else none else none
    | _, _ => evalOp Ω Γ an ρ st dst (.store t a x) K
  | .lookup t m k ok => match ev ρ m, st with
    | .map (l + 1) i, _ :: st' => match Γ.ty t with
      | .map kt e => match kkOf Γ kt with
        | some kk => bif keyOk kk (ev ρ k) then match pack Γ e (ds (Γ.zero e)) with
          | some z => Ω.mapFarK st' l i fun kk' _ es => bif kkEq kk kk' then Ω.findK es (ev ρ k) (K (bif ok then .tup [z, .d (.bool false)] else z) st) (fun v => K (bif ok then .tup [down (l + 1) v, .d (.bool true)] else down (l + 1) v) st) else none
          | none => none else none
        | none => none
      | _ => none
    | _, _ => evalOp Ω Γ an ρ st dst (.lookup t m k ok) K
  | .box t x => match an.cold (match dst with | some d => d | none => 0), lvOf ρ (an.lv (match dst with | some d => d | none => 0)), st with
    | false, l + 1, _ :: _ => freezesK Ω st (unpack (ev ρ x)) fun cs st => match st with
      | fr :: st' => bif cellsOk (up.ups (l + 1) cs) then Ω.addFarK st' l (.box t (up.ups (l + 1) cs)) fun i st' => K (.ptr (l + 1) i 0) (fr :: st') else none
      | [] => none
    | _, _, _ => evalOp Ω Γ an ρ st dst (.box t x) K
  | .makeMap t r => match lvOf ρ (an.lv (match dst with | some d => d | none => 0)), st with
    | l + 1, fr :: st' => match r, Γ.ty t with
      | none, .map kt _ => match kkOf Γ kt with
        | some kk => Ω.emptyK fun es => Ω.addFarK st' l (.map kk (!(an.rf (match dst with | some d => d | none => 0))) es) fun i st' => K (.map (l + 1) i) (fr :: st')
        | none => none
      | _, _ => none
    | _, _ => evalOp Ω Γ an ρ st dst (.makeMap t r) K
  | .mapUpdate t m k x => match ev ρ m, st with
    | .map (l + 1) i, _ :: _ => match Γ.ty t with
      | .map kt _ => match kkOf Γ kt with
        | some kk => freezesK Ω st (unpack (ev ρ x)) fun vs st => match st with
          | fr :: st' => Ω.mapFarK st' l i fun kk' fl es => bif kkEq kk kk' then bif keyOk kk (ev ρ k) then bif cellsOk (up.ups (l + 1) vs)
              then bif (bif fl then flatV (repack (ev ρ x) (up.ups (l + 1) vs)) else true) then Ω.putK es (ev ρ k) (repack (ev ρ x) (up.ups (l + 1) vs)) fun es' => Ω.setFarK st' l i (.map kk' fl es') fun st' => K .skip (fr :: st') else none else none else none else none
          | [] => none
        | none => none
      | _ => none
    | _, _ => evalOp Ω Γ an ρ st dst (.mapUpdate t m k x) K
  | .call c => match c.callee, evs ρ c.args.toList, st with
    | .builtin .delete, [.map (l + 1) i, k], fr :: st' => match c.argTypes.toList with
      | [t, _] => match Γ.ty t with
        | .map kt _ => match kkOf Γ kt with
          | some kk => Ω.mapFarK st' l i fun kk' fl es => bif kkEq kk kk' then bif keyOk kk k then Ω.delK es k fun es' => Ω.setFarK st' l i (.map kk' fl es') fun st' => K (.tup []) (fr :: st') else none else none
          | none => none
        | _ => none
      | _ => none
    | .builtin .append, [.row (l + 1) i k, x], fr :: st' => match c.argTypes.toList with
      | [t, t'] => match Γ.ty t, Γ.ty t' with
        | .slice e sz bytes, .slice _ _ _ => match Γ.zero e, rowsOf Ω st x with
          | _ :: _, some (kx, xs) => bif Ω.ieq (Ω.len xs) kx then bif Ω.fits sz xs none then
              Ω.rowFarK st' l i fun e' szr rows mt' cap => bif Ω.ieq (Ω.len rows) k then br (Ω.ieq (Ω.len xs) 0) (fun _ => K (.row (l + 1) i k) st) (fun _ => bif Nat.beq e e' then bif Nat.beq sz szr
                then Ω.catK rows xs fun rows' n => bif Ω.ile (Ω.mul n bytes) limit
                  then (match cap with
                    | none => Ω.setFarK st' l i (.row e' szr rows' mt' none) fun st' => K (.row (l + 1) i n) (fr :: st')
                    | some c => bif Ω.ile n c then Ω.setFarK st' l i (.row e' szr rows' mt' (some c)) fun st' => K (.row (l + 1) i n) (fr :: st') else none) else none
                else none else none) else none else none else none
          | _, _ => none
        | .slice _ _ _, .str => evalOp Ω Γ an ρ st dst (.call c) K
        | _, _ => none
      | _ => none
    | .builtin .len, [.map (l + 1) i], _ :: st' => match c.argTypes.toList with
      | [t] => match Γ.ty t with
        | .map _ _ => Ω.mapFarK st' l i fun _ _ es => Ω.mlenK es fun n => K (.d (.int .i64 n)) st
        | _ => none
      | _ => none
    | .value f, _, _ => match ev ρ f with
      | .yld (l + 1) i => freezesTK Ω (an.hold (match dst with | some d => d | none => 0)) 0 (evs ρ c.args.toList) st fun args st => match st with
        | fr :: st' => Ω.loopFarK st' l i fun site _ p => match p with
          | some _ => none
          | none => (Ω.rd site (.yld (l + 1) i :: args) (fr :: st')).bind fun r => K r.1 r.2
        | [] => none
      | _ => evalOp Ω Γ an ρ st dst (.call c) K
    | _, _, _ => evalOp Ω Γ an ρ st dst (.call c) K
  | o => evalOp Ω Γ an ρ st dst o K
/-- One operation as it is run. -/
def runOpX {R : Type} (Γ : Tab) (an : Ann) (o : XO) (ρ : Env) (st : St) (K : Env → St → Option R) : Option R :=
  match o with
  | ⟨dst, op, g, chk, dead⟩ => match g with
    | none => evalOpX Ω Γ an ρ st dst op (sealK Ω chk st fun v st => K (delL dead (putD ρ dst v)) st)
    | some (j, want) => match egt ρ j with
      | .d (.bool b) => br (bif want then b else !b)
          (fun _ => evalOpX Ω Γ an (est ρ j (.d (.bool want))) st dst op (sealK Ω chk st fun v st => K (delL dead (putD (est ρ j (.d (.bool want))) dst v)) st))
          (fun _ => K (delL dead (putD (est ρ j (.d (.bool !want))) dst .skip)) st)
      | .skip => K (delL dead (putD ρ dst .skip)) st
      | _ => none
/-- So many operations at a time. -/
def runT {R : Type} (Γ : Tab) (an : Ann) : Nat → List XO → Env → St → (Env → St → Option R) → Option R
  | _, [], ρ, st, K => K ρ st
  | 0, o :: rest, ρ, st, K => Ω.tick fun _ => runOpX Ω Γ an o ρ st fun ρ st => runT Γ an 11 rest ρ st K
  | k + 1, o :: rest, ρ, st, K => runOpX Ω Γ an o ρ st fun ρ st => runT Γ an k rest ρ st K
def execX (Γ : Tab) (an : Ann) : XC → Env → St → {R : Type} → (Ex → Env → St → Option R) → Option R
  | .skip, ρ, st, _, K => K .normal ρ st
  | .region ops, ρ, st, _, K => runT Ω Γ an 12 ops ρ st fun ρ st => K .normal (keepOnly an.keep ρ) st
  | .regionG ops, ρ, st, _, K => Ω.grp (fun k => runT Ω Γ an 12 ops ρ st fun ρ st => k (keepOnly an.keep ρ, st)) fun r => K .normal r.1 r.2
  | .seq a b, ρ, st, _, K => execX Γ an a ρ st fun e ρ st => match e with
    | .normal => execX Γ an b ρ st K
    | e => K e ρ st
  | .cond t a b, ρ, st, _, K => match egt ρ t with
    | .d (.bool x) => Ω.grp (fun k => br x (fun _ => execX Γ an a (condE an ρ t true) st (fun e ρ' st' => k (e, keepOnly (keys ρ) ρ', trim Ω.plain (numO st 0) (keepOnly (keys ρ) ρ') st')))
        (fun _ => execX Γ an b (condE an ρ t false) st (fun e ρ' st' => k (e, keepOnly (keys ρ) ρ', trim Ω.plain (numO st 0) (keepOnly (keys ρ) ρ') st')))) (fun r => K r.1 r.2.1 r.2.2)
    | .ub => Ω.both (execX Γ an a (del ρ t) st (fun e ρ' st' => K e (keepOnly (keys ρ) ρ') (trim Ω.plain (numO st 0) (keepOnly (keys ρ) ρ') st')))
        (execX Γ an b (del ρ t) st (fun e ρ' st' => K e (keepOnly (keys ρ) ρ') (trim Ω.plain (numO st 0) (keepOnly (keys ρ) ρ') st')))
    | _ => none
  | .block id a, ρ, st, _, K => execX Γ an a ρ st fun e ρ st => match e with
    | .exit i => bif Nat.beq i id then K .normal ρ st else K (.exit i) ρ st
    | e => K e ρ st
  | .loop a, ρ, st, _, K => (Ω.iter (numO st 0) (keys ρ) (fun ρ st => execX Γ an a ρ st fun e ρ st => some (e, ρ, st)) ρ st).bind fun r => K r.1 r.2.1 r.2.2
  | .exit id, ρ, st, _, K => K (.exit id) ρ st
  | .ret, ρ, st, _, K => K .ret ρ st
  | .rng t, ρ, st, _, K => rngK Ω an ρ st (.tmp t) K
  | .bad, _, _, _, _ => none
end
theorem loop_none {c : CF} {R : Type} {st : St} {l i : Nat} {g g' : Nat → Env → Option R} (h : ∀ s ρ, g s ρ = g' s ρ) : (match look st l i with | some (.loop s ρ none) => g s ρ | _ => none) = ((real c).loopFarK st l i fun s ρ p => match p with | some _ => none | none => g' s ρ) := by
  obtain rfl : g = g' := by funext s ρ; exact h s ρ
  simp only [real]
  cases look st l i with
  | none => rfl
  | some o =>
    cases o with
    | loop s ρ p => cases p <;> rfl
    | _ => rfl
theorem loop_busy {c : CF} {R : Type} {st : St} {l i : Nat} {g g' : Nat → Env → Option R} (h : ∀ s ρ, g s ρ = g' s ρ) : (match look st l i with | some (.loop s ρ (some .normal)) => g s ρ | _ => none) = ((real c).loopFarK st l i fun s ρ p => match p with | some .normal => g' s ρ | _ => none) := by
  obtain rfl : g = g' := by funext s ρ; exact h s ρ
  simp only [real]
  cases look st l i with
  | none => rfl
  | some o =>
    cases o with
    | loop s ρ p =>
      cases p with
      | none => rfl
      | some e => cases e <;> rfl
    | _ => rfl
theorem row_far {c : CF} {R : Type} {st : St} {l i : Nat} {f f' : Nat → Nat → List (List D) → Bool → Option Int → Option R} (h : ∀ a b r m p, f a b r m p = f' a b r m p) :
    ((real c).rowFarK st l i f) = (match look st l i with | some (.row a b r m p) => f' a b r m p | _ => none) := by
  obtain rfl : f = f' := by funext a b r m p; exact h a b r m p
  rfl
theorem evalOpX_eq {c : CF} {R : Type} (Γ : Tab) (an : Ann) (ρ : Env) (st : St) (dst : Option Nat) (op : Op) (K : CallK R) : evalOpX (real c) Γ an ρ st dst op K = evalOp (real c) Γ an ρ st dst op K := by
  unfold evalOpX
  split
  · split
    · rename_i l i off fr st' h
      simp only [evalOp, h, cellsK, look, real]
      cases look st' l i with
      | none => rfl
      | some o => cases o <;> rfl
    · rename_i l i k x off fr st' h
      simp only [evalOp, h, cellsK, look]
      refine (row_far fun _ _ _ _ _ => rfl).trans ?_
      cases look st' l i with
      | none => rfl
      | some o => cases o <;> rfl
    · rfl
  · split
    · rename_i l j k kd i fr st' h1 h2
      simp only [evalOp, h1, h2]
      cases Γ.ty _ with
      | slice e sz b =>
        dsimp only
        refine (row_far fun _ _ _ _ _ => rfl).trans ?_
        show _ = (match look st' l j with | some (.row _ sz' rows _ _) => _ | _ => none)
        cases look st' l j with
        | none => rfl
        | some o => cases o <;> rfl
      | _ => rfl
    · rfl
  · split
    · rename_i h
      simp only [evalOp, h, look, real, setO]
    · rename_i l i k ix off fr st' h
      simp only [evalOp, h]
      congr 2
      congr 1
      funext vs st2
      cases st2 with
      | nil => rfl
      | cons fr st2 =>
        dsimp only
        refine (row_far fun _ _ _ _ _ => rfl).trans ?_
        show _ = (match look st2 l i with | some (.row ty sz rows true cap) => _ | _ => none)
        cases look st2 l i with
        | none => rfl
        | some o =>
          cases o with
          | row ty sz rows mt cap => cases mt <;> rfl
          | _ => rfl
    · rfl
  · rename_i t m k ok
    split
    · rename_i l i fr st' h
      simp only [evalOp, h, look, real]
      cases Γ.ty t with
      | map kt e =>
        dsimp only
        cases kkOf Γ kt with
        | none => rfl
        | some kk =>
          dsimp only
          unfold evLookup
          cases keyOk kk (ev ρ k) with
          | false => rfl
          | true =>
            simp only [cond_true, look]
            cases pack Γ e (ds (Γ.zero e)) with
            | none => rfl
            | some z =>
              dsimp only
              have hlk : look (fr :: st') l.succ i = look st' l i := rfl
              rw [hlk]
      | _ => rfl
    · rfl
  · rename_i t x
    cases dst <;>
    · split
      · rename_i l fr st' hc h
        simp only [evalOp]
        dsimp only at h hc
        rw [h]
        simp only [hc, cond_false]
        congr 1
        funext cs st2
        cases st2 with
        | nil => generalize an.own _ = ow; cases ow <;> simp [hasL]
        | cons fr st2 =>
          simp only [real]
          generalize an.own _ = ow
          cases ow <;> cases h3 : cellsOk (up.ups (l + 1) cs) <;> cases h2 : hasL st2 l <;> simp [hasL, h2, h3, numO, addO]
      · rfl
  · rename_i t r
    cases dst <;>
    · split
      · rename_i l fr st' h
        simp only [evalOp]
        dsimp only at h
        rw [h]
        cases r with
        | some r => rfl
        | none =>
          cases Γ.ty t with
          | map kt e =>
            dsimp only
            cases kkOf Γ kt with
            | none => rfl
            | some kk =>
              simp only [real]
              cases h2 : hasL st' l <;> simp [hasL, h2, numO, addO]
          | _ => rfl
      · rfl
  · rename_i t m k x
    split
    · rename_i l i fr st' h
      simp only [evalOp, h]
      cases Γ.ty t with
      | map kt e =>
        dsimp only
        cases kkOf Γ kt with
        | none => rfl
        | some kk =>
          dsimp only
          congr 1
          funext vs st2
          cases st2 with
          | nil => rfl
          | cons fr st2 =>
            have hlk : look (fr :: st2) (l + 1) i = look st2 l i := rfl
            simp only [hlk, real]
            cases look st2 l i with
            | none => rfl
            | some o => cases o <;> rfl
      | _ => rfl
    · rfl
  · rename_i cc
    split
    · rename_i l i k fr st' h1 h2
      simp only [evalOp, h1, h2]
      have hlk : look (fr :: st') (l + 1) i = look st' l i := rfl
      generalize cc.argTypes.toList = at_
      cases at_ with
      | nil => rfl
      | cons t at_ =>
        cases at_ with
        | nil => rfl
        | cons t2 at_ =>
          cases at_ with
          | cons t3 at_ => rfl
          | nil =>
            dsimp only
            cases Γ.ty t with
            | map kt e =>
              dsimp only
              cases kkOf Γ kt with
              | none => rfl
              | some kk =>
                simp only [hlk, real]
                cases look st' l i with
                | none => rfl
                | some o => cases o <;> rfl
            | _ => rfl
    · rename_i l i k x fr st' h1 h2
      simp only [evalOp, h1, h2]
      generalize cc.argTypes.toList = at_
      cases at_ with
      | nil => rfl
      | cons t at_ =>
        cases at_ with
        | nil => rfl
        | cons t2 at_ =>
          cases at_ with
          | cons t3 at_ => rfl
          | nil =>
            dsimp only
            cases Γ.ty t with
            | slice e sz bytes =>
              cases Γ.ty t2 with
              | slice e2 sz2 b2 =>
                have ho : ∀ (own : Option Nat) (mt : Bool) (lv : Nat), evAppendO (real c) Γ own mt lv e sz bytes (fr :: st') (.row (l + 1) i k) x K = evAppend (real c) Γ mt lv e sz bytes (fr :: st') (.row (l + 1) i k) x K := by
                  intro own mt lv; cases own <;> rfl
                dsimp only
                rw [ho]
                unfold evAppend
                cases Γ.zero e with
                | nil => rfl
                | cons z0 z1 =>
                  cases rowsOf (real c) (fr :: st') x with
                  | none => rfl
                  | some q =>
                    obtain ⟨kx, xs⟩ := q
                    dsimp only
                    congr 2
              | _ => rfl
            | _ => rfl
    · rename_i l i fr st' h1 h2
      simp only [evalOp, h1, h2]
      have hlk : look (fr :: st') (l + 1) i = look st' l i := rfl
      generalize cc.argTypes.toList = at_
      cases at_ with
      | nil => rfl
      | cons t at_ =>
        cases at_ with
        | cons t2 at_ => rfl
        | nil =>
          dsimp only
          cases Γ.ty t with
          | map kt e => simp only [hlk, real]
          | _ => rfl
    · rename_i f h1
      split
      · rename_i l i h2
        simp only [evalOp, h1, h2]
        cases dst <;>
        · congr 1
          funext args st2
          cases st2 with
          | nil => rfl
          | cons fr st' => exact (loop_none fun _ _ => rfl).symm
      · rfl
    · rfl
  · rfl
theorem runOpX_eq {c : CF} {R : Type} (Γ : Tab) (an : Ann) (o : XO) (ρ : Env) (st : St) (K : Env → St → Option R) : runOpX (real c) Γ an o ρ st K = runOps (real c) Γ an [o] ρ st K := by
  obtain ⟨dst, op, g, chk, dead⟩ := o
  simp only [runOpX, runOps, evalOpX_eq]
  cases g with
  | none => rfl
  | some q => rfl
theorem runT_eq {c : CF} {R : Type} (Γ : Tab) (an : Ann) : ∀ (l : List XO) (k : Nat) (ρ : Env) (st : St) (K : Env → St → Option R), runT (real c) Γ an k l ρ st K = runOps (real c) Γ an l ρ st K
  | [], k, ρ, st, K => by cases k <;> rfl
  | o :: l, k, ρ, st, K => by
    rw [runOps_cons]
    cases k with
    | zero =>
      show runOpX (real c) Γ an o ρ st (fun ρ st => runT (real c) Γ an 11 l ρ st K) = _
      simp only [runT_eq Γ an l, runOpX_eq]
    | succ k => simp only [runT, runT_eq Γ an l, runOpX_eq]
theorem exec_strip {c : CF} (Γ : Tab) (an : Ann) : ∀ (co : Code) (ρ : Env) (st : St) {R : Type} (K : Ex → Env → St → Option R), exec (real c) Γ an co ρ st K = execX (real c) Γ an (strip an co) ρ st K := by
  intro co
  induction co with
  | skip | exit | ret => intro ρ st R K; rfl
  | label | goto | refuse | scope => intro ρ st R K; rfl
  | rangeFunc g ps x b =>
    intro ρ st R K
    cases g <;> rfl
  | region id ops dr =>
    intro ρ st R K
    simp only [exec, strip]
    cases hasG (xOps an dr ops.toList 0 ops.toList) <;> simp only [cond_true, cond_false, execX, runT_eq, real_grp]
  | seq a b iha ihb =>
    intro ρ st R K
    simp only [exec, strip, execX, iha]
    congr 1
    funext e ρ st
    cases e <;> simp only [ihb]
  | cond x a b iha ihb =>
    intro ρ st R K
    cases x with
    | tmp t =>
      simp only [exec, strip, execX]
      cases egt ρ t with
      | d x => cases x <;> simp only [iha, ihb]
      | ub => simp only [iha, ihb]
      | _ => rfl
    | _ => rfl
  | block id a iha =>
    intro ρ st R K
    simp only [exec, strip, execX, iha]
    first
    | rfl
    | (congr 1; done)
    | (congr 1; funext e ρ st; cases e <;> rfl)
  | loop a iha => intro ρ st R K; simp only [exec, strip, execX, iha]
/-- A function's body, of its code that is given. -/
theorem body_strip {c : CF} {Γ : Tab} {an : Ann} {fn : Func} {x : XC} {rs : List ResultVar} (h : fn.body.map (strip an) = some x) (h3 : fn.results.toList = rs) (args : List PV) (st : St) :
    body (real c) Γ an fn args st = takeK (real c) an.take 0 (down.downs 1 args) ([] :: st) fun args st => execX (real c) Γ an x (enter 0 args) st fun e ρ st => match e with
      | .exit _ => none
      | _ => leave (real c) Γ an.give rs ρ st := by
  cases h1 : fn.body with
  | none => rw [h1] at h; cases h
  | some co =>
    rw [h1] at h
    cases h
    subst h3
    unfold body
    rw [h1]
    show takeK _ _ _ _ _ _ = takeK _ _ _ _ _ _
    congr 1
    funext args st
    exact exec_strip Γ an co _ _ _
/-- A round, behind the assignment to its variables. -/
def roundC (Ω : Om) (Γ : Tab) (an : Ann) (xb : XC) (l i site : Nat) (e : Ex) (ρ2 : Env) (st2 : St) : Option (PV × St) :=
  match e, st2 with
  | .normal, fr :: st3 => Ω.loopFarK st3 l i fun site' ρ' p => match p with
    | some _ => none
    | none => bif Nat.beq site site' then Ω.setFarK st3 l i (.loop site' ρ' (some .normal)) fun st3 => execX Ω Γ an xb ρ2 (fr :: st3) fun e _ st4 => match st4 with
      | _ :: st5 => Ω.loopFarK st5 l i fun site'' ρ'' p => match p with
        | some .normal => bif Nat.beq site site'' then (match e with
          | .normal => Ω.setFarK st5 l i (.loop site'' ρ'' none) fun st6 => some (.d (.bool true), st6)
          | .exit id => Ω.setFarK st5 l i (.loop site'' ρ'' (some (.exit id))) fun st6 => some (.d (.bool false), st6)
          | .ret => Ω.setFarK st5 l i (.loop site'' ρ'' (some .ret)) fun st6 => some (.d (.bool false), st6)) else none
        | _ => none
      | [] => none else none
  | _, _ => none
/-- A round, of its code that is given; the loop's record is a word. -/
def roundX (Ω : Om) (Γ : Tab) (an : Ann) (ps : List Nat) (xa xb : XC) (args : List PV) (st : St) : Option (PV × St) :=
  match args with
  | .yld l i :: args => Ω.loopFarK st l i fun site ρ p => match p with
    | some _ => none
    | none => match bindPs ps args (downE (l + 1) ρ) with
      | some ρ1 => execX Ω Γ an xa ρ1 ([] :: st) (roundC Ω Γ an xb l i site)
      | none => none
  | _ => none
theorem round_strip {c : CF} {Γ : Tab} {an : Ann} {q : Site} {ps : List Nat} {xa xb : XC} (hp : q.ps = ps) (ha : strip an q.asg = xa) (hb : strip an q.body = xb) (args : List PV) (st : St) :
    round (real c) Γ an q args st = roundX (real c) Γ an ps xa xb args st := by
  subst hp ha hb
  cases args with
  | nil => rfl
  | cons a args =>
    cases a with
    | yld l i =>
      unfold round roundX
      dsimp only
      refine loop_none fun site ρ => ?_
      cases bindPs q.ps args (downE (l + 1) ρ) with
      | none => rfl
      | some ρ1 =>
        dsimp only
        rw [exec_strip]
        congr 1
        funext e ρ2 st2
        unfold roundC
        cases e with
        | exit | ret => rfl
        | normal =>
          cases st2 with
          | nil => rfl
          | cons fr st3 =>
            dsimp only
            refine loop_none fun site' ρ' => ?_
            congr 1
            rw [exec_strip]
            show execX _ _ _ _ _ _ _ = execX _ _ _ _ _ _ _
            congr 1
            funext e ρ4 st4
            cases st4 with
            | nil => rfl
            | cons fr4 st5 =>
              dsimp only
              refine loop_busy fun site'' ρ'' => ?_
              cases e <;> rfl
    | _ => rfl
end Go.X
