/- A closed call, worked out: the interpreter with fuel, as the kernel can evaluate it. -/
import Derived.Test.YtedfkehkcaaplaaXInv
import Derived.Test.YtedfkehkcaaplaaXX
import Derived.Test.YtedfkehkcaaplaaXGoes
namespace Go.X
open Go
set_option linter.unusedSectionVars false
set_option linter.unusedSimpArgs false
set_option linter.unusedVariables false
variable [fq]
def adf {R : Type} [DecidableEq R] (x y : Option R) : Option R := if x = y then x else none
theorem OC {R : Type} [DecidableEq R] {x y : Option R} {r : R} (h : adf x y = some r) : x = some r ∧ y = some r := by
 unfold adf at h
 split at h
 ·rename_i hxy; exact ⟨h, hxy ▸ h⟩
 ·cases h
def Yc : Nat → Nat → List Nat → (Env → St → Option (Ex × Env × St)) → Env → St → Option (Ex × Env × St)
 | 0, _, _, _, _, _ => none
 | m + 1, n, dom, f, ρ, st => match f ρ st with
  | none => none
  | some (.normal, ρ, st) => Yc m n dom f (aM dom ρ) (trim iX n (aM dom ρ) st)
  | some (e, ρ, st) => some (e, aM dom ρ, trim iX n (aM dom ρ) st)
theorem Yd {n : Nat} {dom : List Nat} {f g : Env → St → Option (Ex × Env × St)} (h : ∀ ρ s, Le (f ρ s) (g ρ s)) : ∀ (m : Nat) (ρ : Env) (st : St), Le (Yc m n dom f ρ st) (iter n dom g ρ st)
 | 0, _, _ => fun r hr => by simp [Yc] at hr
 | m + 1, ρ, st => fun r hr => by
  rw [iter]
  unfold Yc at hr
  split at hr
  ·cases hr
  ·rename_i hf
   rw [h _ _ _ hf]
   simp only [Option.bind_eq_bind, Option.bind_some]
   exact Yd h m _ _ r hr
  ·rename_i e ρ' st' hne hf
   rw [h _ _ _ hf]
   simp only [Option.bind_eq_bind, Option.bind_some]
   cases e with
   | normal => exact (hne rfl).elim
   | exit i => exact hr
   | ret => exact hr
noncomputable def LW {R : Type} [DecidableEq R] (c : CF) (Γ : Tab) (an : mH) : XT → Env → St → (Env → St → Option R) → Option R
 | .done, ρ, st, K => K ρ st
 | .step o t, ρ, st, K => FX (real c) Γ an o ρ st fun ρ st => LW c Γ an t ρ st K
 | .both a b, ρ, st, K => adf (LW c Γ an a ρ st K) (LW c Γ an b ρ st K)
theorem LX {c : CF} {R : Type} {RY : Bool} {st : St} {F : PV → St → Option R} {G : PV → St → Option (Env × St)} {K : Env → St → Option R} (h : ∀ v s, F v s = (G v s).bind fun q => K q.1 q.2) (Γ : Tab) (an : mH) (ρ : Env) (dst : Option Nat) (op : Op) :
  evalOp (real c) Γ an ρ st dst op (rV (real c) RY st F) = (evalOp (real c) Γ an ρ st dst op (rV (real c) RY st G)).bind fun q => K q.1 q.2 := by
 rw [wu (K := rV (real c) RY st F), wu (K := rV (real c) RY st G), Option.bind_assoc]
 congr 1
 funext q
 unfold rV
 cases RY with
 | false => exact h _ _
 | true =>
  simp only [cond_true]
  cases (real c).same st q.2 with
  | true => exact h _ _
  | false => rfl
theorem qb {c : CF} {R : Type} (Γ : Tab) (an : mH) : ∀ (l : List XO) (ρ : Env) (st : St) (K : Env → St → Option R), fH (real c) Γ an l ρ st K = (fH (real c) Γ an l ρ st fun ρ st => some (ρ, st)).bind fun q => K q.1 q.2
 | [], ρ, st, K => rfl
 | ⟨dst, op, g, RY, dead⟩ :: rest, ρ, st, K => by
  unfold fH
  cases g with
  | none => exact LX (fun v s => qb Γ an rest _ _ K) Γ an ρ dst op
  | some q =>
   obtain ⟨j, want⟩ := q
   dsimp only
   split
   ·rename_i b hb
    generalize (bif want then b else !b) = t
    cases t with
    | true => exact LX (fun v s => qb Γ an rest _ _ K) Γ an _ dst op
    | false => exact qb Γ an rest _ _ K
   ·exact qb Γ an rest _ _ K
   ·rfl
theorem Fe {c d : CF} (h : R5 c d) {R : Type} (Γ : Tab) (an : mH) {ρ1 : Env} {st1 : St} {K : Ex → Env → St → Option R} {r : R} (hK : K .normal ρ1 st1 = some r) : ∀ (t : XT) (ρ : Env) (st : St),
  LW c Γ an t ρ st (fun ρ st => some (aM an.keep ρ, st)) = some (ρ1, st1) → oD (real d) Γ an t ρ st (fun ρ st => K .normal (aM an.keep ρ) st) = some r
 | .done, ρ, st, hr => by
  simp only [LW, Option.some.injEq, Prod.mk.injEq] at hr
  simp only [oD, hr.1, hr.2, hK]
 | .step o t, ρ, st, hr => by
  simp only [LW, Fa] at hr
  simp only [oD]
  rw [qb] at hr ⊢
  obtain ⟨q, h1, h2⟩ := Option.bind_eq_some_iff.1 hr
  rw [l8 h _ _ (fun v s => Le.refl _) _ _ _ q h1]
  exact Fe h Γ an hK t _ _ h2
 | .both a b, ρ, st, hr => by
  simp only [LW] at hr
  obtain ⟨h1, h2⟩ := OC hr
  exact wz (Fe h Γ an hK a ρ st h1) (Fe h Γ an hK b ρ st h2)
noncomputable def oJ (c : CF) (m : Nat) (Γ : Tab) (an : mH) : XC → Env → St → {R : Type} → [DecidableEq R] → (Ex → Env → St → Option R) → Option R
 | .skip, ρ, st, _, _, K => K .normal ρ st
 | .region ops, ρ, st, _, _, K => runT (real c) Γ an 12 ops ρ st fun ρ st => K .normal (aM an.keep ρ) st
 | .dF ops, ρ, st, _, _, K => runT (real c) Γ an 12 ops ρ st fun ρ st => K .normal (aM an.keep ρ) st
 | .Io cs, ρ, st, _, _, K => runT (real c) Γ an 12 cs.flatten ρ st fun ρ st => K .normal (aM an.keep ρ) st
 | .Ag ops t, ρ, st, _, _, K => match runT (real c) Γ an 12 ops ρ st fun ρ st => LW c Γ an t ρ st fun ρ st => some (aM an.keep ρ, st) with
  | some (ρ, st) => K .normal ρ st
  | none => none
 | .seq a b, ρ, st, _, _, K => oJ c m Γ an a ρ st fun e ρ st => match e with
  | .normal => oJ c m Γ an b ρ st K
  | e => K e ρ st
 | .cond t a b, ρ, st, _, _, K => match mI ρ t with
  | .d (.bool x) => br x (fun _ => oJ c m Γ an a (Lx an ρ t true) st (fun e ρ' st' => K e (aM (keys ρ) ρ') (trim iX (fE st 0) (aM (keys ρ) ρ') st')))
    (fun _ => oJ c m Γ an b (Lx an ρ t false) st (fun e ρ' st' => K e (aM (keys ρ) ρ') (trim iX (fE st 0) (aM (keys ρ) ρ') st')))
  | .ub => adf (oJ c m Γ an a (del ρ t) st (fun e ρ' st' => K e (aM (keys ρ) ρ') (trim iX (fE st 0) (aM (keys ρ) ρ') st')))
    (oJ c m Γ an b (del ρ t) st (fun e ρ' st' => K e (aM (keys ρ) ρ') (trim iX (fE st 0) (aM (keys ρ) ρ') st')))
  | _ => none
 | .block id a, ρ, st, _, _, K => oJ c m Γ an a ρ st fun e ρ st => match e with
  | .exit i => bif Nat.beq i id then K .normal ρ st else K (.exit i) ρ st
  | e => K e ρ st
 | .loop a, ρ, st, _, _, K => match Yc m (fE st 0) (keys ρ) (fun ρ st => oJ c m Γ an a ρ st fun e ρ st => some (e, ρ, st)) ρ st with
  | some (e, ρ, st) => K e ρ st
  | none => none
 | .exit id, ρ, st, _, _, K => K (.exit id) ρ st
 | .ret, ρ, st, _, _, K => K .ret ρ st
 | .rng t, ρ, st, _, _, K => aav (real c) an ρ st (.tmp t) K
 | .bad, _, _, _, _, _ => none
theorem OD {c d : CF} (h : R5 c d) (m : Nat) (Γ : Tab) (an : mH) : ∀ (x : XC) (ρ : Env) (st : St) {R : Type} [DecidableEq R] {K K' : Ex → Env → St → Option R}, (∀ e v s, Le (K e v s) (K' e v s)) → Le (oJ c m Γ an x ρ st K) (jR (real d) Γ an x ρ st K') := by
 intro x
 induction x with
 | skip | exit | ret => intro ρ st R _ K K' hK; simp only [oJ, jR]; exact hK _ _ _
 | bad => intro ρ st R _ K K' hK r hr; simp [oJ] at hr
 | Ag ops t =>
  intro ρ st R _ K K' hK r hr
  simp only [oJ, jR, runT_eq, oU, Di] at hr ⊢
  split at hr
  ·rename_i ρ1 st1 he
   rw [qb] at he ⊢
   obtain ⟨q, h1, h2⟩ := Option.bind_eq_some_iff.1 he
   rw [l8 h _ _ (fun v s => Le.refl _) _ _ _ q h1]
   exact Fe h Γ an (hK _ _ _ r hr) t _ _ h2
  ·cases hr
 | Io cs =>
  intro ρ st R _ K K' hK
  simp only [oJ, jR, runT_eq, Ux]
  exact l8 h _ _ (fun v s => hK _ _ _) _ _ _
 | rng t => intro ρ st R _ K K' hK; simp only [oJ, jR]; exact acW h hK
 | region ops | dF ops =>
  intro ρ st R _ K K' hK
  simp only [oJ, jR, runT_eq, oU]
  exact l8 h _ _ (fun v s => hK _ _ _) _ _ _
 | seq a b iha ihb =>
  intro ρ st R _ K K' hK
  simp only [oJ, jR]
  refine iha _ _ fun e v s => ?_
  cases e
  ·exact ihb _ _ hK
  ·exact hK _ _ _
  ·exact hK _ _ _
 | cond t a b iha ihb =>
  intro ρ st R _ K K' hK
  simp only [oJ, jR]
  split
  ·rename_i b hb
   rw [hb]
   dsimp only
   rw [oU]
   cases b
   ·exact ihb _ _ fun _ _ _ => hK _ _ _
   ·exact iha _ _ fun _ _ _ => hK _ _ _
  ·rename_i hb
   rw [hb]
   intro r hr
   obtain ⟨h1, h2⟩ := OC hr
   exact wz (iha _ _ (fun _ _ _ => hK _ _ _) r h1) (ihb _ _ (fun _ _ _ => hK _ _ _) r h2)
  ·intro r hr; cases hr
 | block id a iha =>
  intro ρ st R _ K K' hK
  simp only [oJ, jR]
  refine iha _ _ fun e v s => ?_
  cases e with
  | exit i =>
   dsimp only
   cases Nat.beq i id
   ·exact hK _ _ _
   ·exact hK _ _ _
  | normal => exact hK _ _ _
  | ret => exact hK _ _ _
 | loop a iha =>
  intro ρ st R _ K K' hK r hr
  simp only [oJ, jR] at hr ⊢
  split at hr
  ·rename_i e ρ' st' hit
   have := Yd (n := fE st 0) (dom := keys ρ) (g := fun ρ st => jR (real d) Γ an a ρ st fun e ρ st => some (e, ρ, st)) (fun ρ s => iha ρ s fun e v s => Le.refl _) m ρ st _ hit
   show ((iter _ _ _ _ _).bind _) = _
   rw [this]
   exact hK _ _ _ r hr
  ·cases hr
abbrev XF := Nat → Option (XC × List ResultVar)
def afM (S : Sys) (xf : XF) : Prop := ∀ f x rs, xf f = some (x, rs) → ∃ fn, S.fn f = some fn ∧ fn.body.map (strip (S.tab.ann f)) = some x ∧ fn.results.toList = rs
abbrev XS := Nat → Option (Nat × List Nat × XC × XC)
def afN (S : Sys) (xs : XS) : Prop := ∀ g own ps xa xb, xs g = some (own, ps, xa, xb) → ∃ q, fq.site g = some q ∧ q.own = own ∧ q.ps = ps ∧ strip (S.tab.ann own) q.RX = xa ∧ strip (S.tab.ann own) q.body = xb ∧ S.fn g = none
noncomputable def aa9 (c : CF) (m : Nat) (Γ : Tab) (an : mH) (ps : List Nat) (xa xb : XC) (args : List PV) (st : St) : Option (PV × St) :=
 match args with
 | .vP l i :: args => match look st l i with
  | some (.loop site ρ none) => match oN ps args (CQ (l + 1) ρ) with
   | some ρ1 => oJ c m Γ an xa ρ1 ([] :: st) fun e ρ2 st2 => match e, st2 with
    | .normal, fr :: Sy => match look Sy l i with
     | some (.loop yc ρ' none) => bif Nat.beq site yc then oJ c m Γ an xb ρ2 (fr :: dU Sy l i (.loop yc ρ' (some .normal))) fun e _ st4 => match st4 with
      | _ :: st5 => match look st5 l i with
       | some (.loop oO ρ'' (some .normal)) => bif Nat.beq site oO then (match e with
        | .normal => some (.d (.bool true), dU st5 l i (.loop oO ρ'' none))
        | e => some (.d (.bool false), dU st5 l i (.loop oO ρ'' (some e)))) else none
       | _ => none
      | [] => none else none
     | _ => none
    | _, _ => none
   | none => none
  | _ => none
 | _ => none
theorem le_none {R : Type} {x : Option Obj} {g g' : Nat → Env → Option R} (h : ∀ s ρ, Le (g s ρ) (g' s ρ)) : Le (match x with | some (.loop s ρ none) => g s ρ | _ => none) (match x with | some (.loop s ρ none) => g' s ρ | _ => none) := by
 cases x with
 | none => exact Le.refl _
 | some o =>
  cases o with
  | loop s ρ p => cases p with
   | none => exact h s ρ
   | some e => exact Le.refl _
  | _ => exact Le.refl _
theorem afO {c d : CF} (h : R5 c d) {m : Nat} {Γ : Tab} {an : mH} {q : Site} {ps : List Nat} {xa xb : XC} (hp : q.ps = ps) (ha : strip an q.RX = xa) (hb : strip an q.body = xb) (args : List PV) (st : St) :
  Le (aa9 c m Γ an ps xa xb args st) (round (real d) Γ an q args st) := by
 subst hp ha hb
 cases args with
 | nil => exact Le.refl _
 | cons a args =>
  cases a with
  | vP l i =>
   unfold aa9 round
   dsimp only
   refine le_none fun site ρ => ?_
   cases oN q.ps args (CQ (l + 1) ρ) with
   | none => exact Le.refl _
   | some ρ1 =>
    dsimp only
    rw [wB]
    refine OD h m _ _ _ _ _ fun e v s => ?_
    cases e with
    | exit | ret => exact Le.refl _
    | normal =>
     cases s with
     | nil => exact Le.refl _
     | cons fr Sy =>
      dsimp only
      refine le_none fun yc ρ' => ?_
      cases Nat.beq site yc with
      | false => exact Le.refl _
      | true =>
       simp only [cond_true]
       rw [wB]
       exact OD h m _ _ _ _ _ fun e v s => Le.refl _
  | _ => exact Le.refl _
noncomputable def adg (c : CF) (m : Nat) (Γ : Tab) (an : mH) (x : XC) (rs : List ResultVar) (args : List PV) (st : St) : Option (PV × St) :=
 sS (real c) an.take 0 (down.gZ 1 args) ([] :: st) fun args st => oJ c m Γ an x (enter 0 args) st fun e ρ st => match e with
  | .exit _ => none
  | _ => leave (real c) Γ an.give rs ρ st
noncomputable def uI (S : Sys) (xf : XF) (xs : XS) (m : Nat) : Nat → CF
 | 0 => fun _ _ _ => none
 | n + 1 => fun f args st => match S.foreign f with
  | some g => g args st
  | none => match xf f with
   | none => match xs f with
    | none => none
    | some (own, ps, xa, xb) => aa9 (uI S xf xs m n) m S.tab (S.tab.ann own) ps xa xb args st
   | some (x, rs) => match (S.tab.ann f).arena with
    | false => adg (uI S xf xs m n) m S.tab (S.tab.ann f) x rs args st
    | true => match adg (uI S xf xs m n) m S.tab (S.tab.ann f) x rs (down.gZ 1 args) ([] :: st) with
     | some (r, _ :: st') => some (up 1 r, st')
     | _ => none
theorem Ye {c d : CF} (h : R5 c d) {m : Nat} {Γ : Tab} {an : mH} {fn : Func} {x : XC} {rs : List ResultVar} (h1 : fn.body.map (strip an) = some x) (h2 : fn.results.toList = rs) (args : List PV) (st : St) :
  Le (adg c m Γ an x rs args st) (body (real d) Γ an fn args st) := by
 rw [NS h1 h2]
 unfold adg
 rw [XG c d]
 refine XH _ _ _ _ fun vs st => ?_
 refine OD h m _ _ _ _ _ fun e v s => ?_
 cases e <;> dsimp only <;> (try rw [XI c d]) <;> exact Le.refl _
theorem zw {S : Sys} {xf : XF} {xs : XS} (hx : afM S xf) (hs : afN S xs) (m : Nat) : ∀ n, R5 (uI S xf xs m n) (call S)
 | 0 => fun _ _ _ r hr => by simp [uI] at hr
 | n + 1 => fun f args st r hr => by
  rw [call.eq_1]
  unfold step
  unfold uI at hr
  split at hr
  ·rename_i g hg; rw [hg]; exact hr
  ·rename_i hg
   rw [hg]
   dsimp only
   split at hr
   ·split at hr
    ·cases hr
    ·rename_i own ps xa xb hxs
     obtain ⟨q, q1, q2, q3, q4, q5, q6⟩ := hs f own ps xa xb hxs
     rw [q6, q1]
     dsimp only
     subst q2
     exact afO (zw hx hs m n) q3 q4 q5 _ _ r hr
   ·rename_i x rs hxf
    obtain ⟨fn, h1, h2, h3⟩ := hx f x rs hxf
    rw [h1]
    dsimp only
    split at hr
    ·rename_i ha
     rw [ha]
     exact Ye (zw hx hs m n) h2 h3 _ _ r hr
    ·rename_i ha
     rw [ha]
     dsimp only
     split at hr
     ·rename_i hb
      rw [Ye (zw hx hs m n) h2 h3 _ _ _ hb]
      exact hr
     ·cases hr
mutual
def wF : PV → Bool
 | .d _ => true
 | .dA _ => true
 | .skip => true
 | .agg cs => oP cs
 | .zh l => oP l
 | _ => false
def oP : List PV → Bool
 | [] => true
 | x :: r => wF x && oP r
end
mutual
theorem K3 {bl qm : List (List eT)} {cl : Nat → Nat} {w : World} : ∀ (r : PV) (v : Value), wF r = true → ak bl cl w r v → ak qm cl w r v
 | .d x, v, _, hv => by simpa only [ak] using hv
 | .dA cs, v, _, hv => by simpa only [ak] using hv
 | .skip, v, _, hv => by simpa only [ak] using hv
 | .agg cs, v, h, hv => by
  simp only [ak] at hv ⊢
  obtain ⟨vs, h1, h2⟩ := hv
  exact ⟨vs, h1, LY cs vs (by simpa only [wF] using h) h2⟩
 | .zh l, v, h, hv => by
  simp only [ak] at hv ⊢
  obtain ⟨vs, h1, h2⟩ := hv
  exact ⟨vs, h1, Gf l vs (by simpa only [wF] using h) h2⟩
 | .ptr _ _ _, _, h, _ | .row _ _ _, _, h, _ | .o9 _ _ _ _ _, _, h, _ | .fn _ _, _, h, _ | .map _ _, _, h, _ | .tail _ _ _ _, _, h, _ | .vP _ _, _, h, _ | .ub, _, h, _ | .unk, _, h, _ => by simp [wF] at h
theorem LY {bl qm : List (List eT)} {cl : Nat → Nat} {w : World} : ∀ (l : List PV) (vs : List Value), oP l = true → aI bl cl w l vs → aI qm cl w l vs
 | [], vs, _, hv => by simpa only [aI] using hv
 | x :: l, vs, h, hv => by
  simp only [oP, Bool.and_eq_true] at h
  simp only [aI] at hv ⊢
  obtain ⟨v, s, h1, h2, h3, h4⟩ := hv
  exact ⟨v, s, h1, K3 x v h.1 h2, h3, LY l s h.2 h4⟩
theorem Gf {bl qm : List (List eT)} {cl : Nat → Nat} {w : World} : ∀ (l : List PV) (vs : List Value), oP l = true → bg bl cl w l vs → bg qm cl w l vs
 | [], vs, _, hv => by simpa only [bg] using hv
 | x :: l, vs, h, hv => by
  simp only [oP, Bool.and_eq_true] at h
  simp only [bg] at hv ⊢
  obtain ⟨v, s, h1, h2, h3⟩ := hv
  exact ⟨v, s, h1, K3 x v h.1 h2, Gf l s h.2 h3⟩
end
theorem ag6 {P : Program} {S : Sys} (hs : yw P S) {f : Nat} {args : List PV} {q : PV × St} (h : call S f args [] = some q) : lX f = false := by
 cases hb : fq.site f with
 | none => simp [lX, hb]
 | some si =>
  exfalso
  obtain ⟨s1, s2, _⟩ := hs.site f si hb
  rw [call] at h
  unfold step at h
  rw [s2, s1] at h
  simp only [hb] at h
  cases args with
  | nil => simp [round] at h
  | cons x args => cases x <;> simp [round, look] at h
theorem Gg {P : Program} {S : Sys} (hs : yw P S) {f : Nat} {args : List PV} {r : PV} (ha : oP args = true) (hb : wF r = true) (h : call S f args [] = some (r, [])) :
  yu P f ∧ ∀ (m : Mt) (w : World) (st : St) (vs : List Value), bg m.blk m.cl w args vs → bI m st w →
   Calls P f vs.toArray w fun e w' => ∃ v m', e = .returned v ∧ ak m'.blk m'.cl w' r v ∧ Ext m w m' w' ∧ bI m' st w' := by
 obtain ⟨h1, h2⟩ := sound hs f args [] r [] (ag6 hs h) h
 refine ⟨h1, fun m w st vs hvs hw => ?_⟩
 have hw0 : bI ⟨[], m.cl⟩ [] w := ⟨by simp [fI], by simp [blks, iq], hw.le, hw.glob.sub (by simp [blks, iq])⟩
 refine Calls.mono (h2 ⟨[], m.cl⟩ w vs (Gf args vs ha hvs) hw0) ?_
 rintro e w' ⟨v, m1, rfl, hr, hx, hw1⟩
 let cl' : Nat → Nat := fun b => if b < w.heap.size then m.cl b else m1.cl b
 have hcl' : cl' = m1.cl := funext fun b => by
  show (if b < w.heap.size then m.cl b else m1.cl b) = m1.cl b
  split
  ·rename_i hb; exact (hx.cls b hb (by simp [blks, iq])).symm
  ·rfl
 have hkept : ∀ b, b < w.heap.size → w'.heap[b]? = w.heap[b]? := fun b hb => hx.kept b hb (by simp [blks, iq])
 have hlt : ∀ b, m.cl b ≠ 0 → b < w.heap.size := fun b hb => by
  have := hw.le b
  unfold csize at this
  by_cases hc : b < w.heap.size
  ·exact hc
  ·have hn : w.heap[b]? = none := by simp; omega
   rw [hn] at this
   exact absurd (Nat.le_zero.1 this) hb
 have hkeep : Keeps m.cl w cl' w' := by
  refine ⟨fun b => ?_, fun b j hj => ?_⟩
  ·show m.cl b ≤ if b < w.heap.size then m.cl b else m1.cl b
   split
   ·exact Nat.le_refl _
   ·exact hx.keeps.le b
  ·exact hx.keeps.cells b j hj
 refine ⟨v, ⟨m.blk, cl'⟩, rfl, hcl' ▸ K3 r v hb hr, ⟨hkeep, .refl _, hx.os, hx.tape, hx.output, hx.size, fun b hb _ => hkept b hb, fun b hb => .inl hb, fun b hb _ => if_pos hb⟩, ⟨?_, hw.nodup, fun b => ?_, hw.glob.step (fun b hb _ => hkept b hb) fun b hb => .inl hb⟩⟩
 ·have hO : ∀ (bl : List (List eT)) (o : Obj) (e : eT), bC bl m.cl w o e → bC bl cl' w' o e := by
   intro bl o e ho
   cases o with
   | void => exact ho
   | loop site ρ p =>
    simp only [bC] at ho ⊢
    obtain ⟨a1, a2, r, a3, a4, a5, a6⟩ := ho
    have hl : e.b < w.heap.size := (Array.getElem?_eq_some_iff.1 a3).1
    exact ⟨a1, by show (if e.b < w.heap.size then m.cl e.b else m1.cl e.b) = 0; rw [if_pos hl]; exact a2, r, by rw [hkept _ hl]; exact a3, a4, a5, fun t => (a6 t).keep hkeep (.refl _)⟩
   | box ty cells =>
    simp only [bC] at ho ⊢
    obtain ⟨a1, a2, vs, a3, a4⟩ := ho
    have hl : e.b < w.heap.size := (Array.getElem?_eq_some_iff.1 a3).1
    exact ⟨a1, by show (if e.b < w.heap.size then m.cl e.b else m1.cl e.b) = 0; rw [if_pos hl]; exact a2, vs, by rw [hkept _ hl]; exact a3, aI.keep hkeep (.refl _) _ _ a4⟩
   | row ty sz rows mt cap =>
    simp only [bC] at ho ⊢
    obtain ⟨a1, a2, a3, a4, a5, a6⟩ := ho
    refine ⟨a1, a2, a3, a4, a5, fun hg => ?_⟩
    obtain ⟨⟨cs, b1, b2⟩, b3, b4⟩ := a6 hg
    have hl : e.b < w.heap.size := (Array.getElem?_eq_some_iff.1 b1).1
    refine ⟨⟨cs, by rw [hkept _ hl]; exact b1, b2⟩, ?_, by show (if e.b < w.heap.size then m.cl e.b else m1.cl e.b) = _; rw [if_pos hl]; exact b4⟩
    have hcell : ∀ (j : Nat), w'.cell? ⟨e.b, j, none⟩ = w.cell? ⟨e.b, j, none⟩ := fun j => by
     have := hkept _ hl
     simp [World.cell?, this]
    have hD : ∀ (l : List D) (o : Nat), bM m.cl w e.b o l → bM cl' w' e.b o l := by
     intro l
     induction l with
     | nil => intro o _; simp only [bM]
     | cons d l ih =>
      intro o hd
      simp only [bM] at hd ⊢
      obtain ⟨⟨v, c1, c2⟩, c3⟩ := hd
      exact ⟨⟨v, (hcell o).trans c1, bT.keep hkeep d v c2⟩, ih _ c3⟩
    have hR : ∀ (l : List (List D)) (o : Nat), bS m.cl w e.b o sz l → bS cl' w' e.b o sz l := by
     intro l
     induction l with
     | nil => intro o _; simp only [bS]
     | cons d l ih =>
      intro o hd
      simp only [bS] at hd ⊢
      exact ⟨hd.1, hD _ _ hd.2.1, ih _ hd.2.2⟩
    exact hR _ _ b3
   | map kk fl es =>
    simp only [bC] at ho ⊢
    obtain ⟨a1, a2, a3, ents, clock, a4, a5⟩ := ho
    have hl : e.b < w.heap.size := (Array.getElem?_eq_some_iff.1 a4).1
    exact ⟨a1, by show (if e.b < w.heap.size then m.cl e.b else m1.cl e.b) = 0; rw [if_pos hl]; exact a2, a3, ents, clock, by rw [hkept _ hl]; exact a4, gT.keep hkeep (.refl _) _ _ a5⟩
  have hOL : ∀ (bl : List (List eT)) (fr : List Obj) (es : List eT), fM bl m.cl w fr es → fM bl cl' w' fr es := by
   intro bl fr
   induction fr with
   | nil => intro es h; exact h
   | cons o fr ih =>
    intro es h
    simp only [fM] at h ⊢
    obtain ⟨e, s, rfl, h1, h2⟩ := h
    exact ⟨e, s, rfl, hO _ _ _ h1, ih _ h2⟩
  have hSt : ∀ (st : St) (bl : List (List eT)), fI m.cl w st bl → fI cl' w' st bl := by
   intro st
   induction st with
   | nil => intro bl h; exact h
   | cons fr st ih =>
    intro bl h
    simp only [fI] at h ⊢
    obtain ⟨es, r, rfl, h1, h2⟩ := h
    exact ⟨es, r, rfl, hOL _ _ _ h1, ih _ h2⟩
  exact hSt _ _ hw.st
 ·show (if b < w.heap.size then m.cl b else m1.cl b) ≤ csize w' b
  by_cases hb : b < w.heap.size
  ·rw [if_pos hb]
   have : csize w' b = csize w b := by simp only [csize, hkept _ hb]
   rw [this]; exact hw.le b
  ·rw [if_neg hb]; exact hw1.le b
def UZ (r : PV) : List PV → St → Option (PV × St) := fun args st => match args with | [] => some (r, st) | _ => none
theorem OE {P : Program} {S : Sys} (hs : yw P S) {xf : XF} {xs : XS} (hx : afM S xf) (hxs : afN S xs) {f : Nat} {r : PV} (hb : wF r = true) {m n : Nat} (h : uI S xf xs m n f [] [] = some (r, [])) :
  yu P f ∧ ∀ (args : List PV) (st : St) (r' : PV) (st' : St), UZ r args st = some (r', st') → ∀ (m : Mt) (w : World) (vs : List Value), bg m.blk m.cl w args vs → bI m st w →
   Calls P f vs.toArray w fun e w' => ∃ v m', e = .returned v ∧ ak m'.blk m'.cl w' r' v ∧ Ext m w m' w' ∧ bI m' st' w' := by
 obtain ⟨h1, h2⟩ := Gg hs (args := []) rfl hb (zw hx hxs m n f [] [] _ h)
 refine ⟨h1, fun args st r' st' ha m w vs hv hw => ?_⟩
 cases args with
 | cons x l => cases ha
 | nil =>
  cases ha
  simp only [bg] at hv
  subst hv
  exact h2 m w _ [] (by simp only [bg]) hw
theorem Yf {S : Sys} {f : Nat} {r : PV} (h : S.foreign f = some (UZ r)) (st : St) : call S f [] st = some (r, st) := by
 rw [call.eq_1]
 unfold step
 rw [h]
 rfl
def iY {α : Type} : List (Nat × α) → Nat → Option α
 | [], _ => none
 | (k, f) :: r, t => bif Nat.beq k t then some f else iY r t
theorem tF {α : Type} {Q : Nat → α → Prop} : ∀ {l : List (Nat × α)}, (∀ p ∈ l, Q p.1 p.2) → ∀ f g, iY l f = some g → Q f g
 | [], _, f, g, h => by simp [iY] at h
 | (k, g) :: r, hl, f, g', h => by
  simp only [iY] at h
  cases hb : Nat.beq k f with
  | true =>
   rw [hb] at h
   simp only [cond_true, Option.some.injEq] at h
   subst h
   have := hl (k, g) (by simp)
   rw [← beq_eq hb]; exact this
  | false =>
   rw [hb] at h
   exact tF (fun p hp => hl p (by simp [hp])) f g' h
theorem av6 {S : Sys} {l : List (Nat × (XC × List ResultVar))} (h : ∀ p ∈ l, ∃ fn, S.fn p.1 = some fn ∧ fn.body.map (strip (S.tab.ann p.1)) = some p.2.1 ∧ fn.results.toList = p.2.2) : afM S (iY l) :=
 fun f x rs hx => tF (Q := fun f q => ∃ fn, S.fn f = some fn ∧ fn.body.map (strip (S.tab.ann f)) = some q.1 ∧ fn.results.toList = q.2) h f (x, rs) hx
theorem av7 {S : Sys} {l : List (Nat × (Nat × List Nat × XC × XC))} (h : ∀ p ∈ l, (fq.site p.1).map (fun q => (q.own, q.ps, strip (S.tab.ann q.own) q.RX, strip (S.tab.ann q.own) q.body)) = some p.2 ∧ S.fn p.1 = none) : afN S (iY l) := by
 intro g own ps xa xb hx
 obtain ⟨h1, h2⟩ := tF (Q := fun g x => (fq.site g).map (fun q => (q.own, q.ps, strip (S.tab.ann q.own) q.RX, strip (S.tab.ann q.own) q.body)) = some x ∧ S.fn g = none) h g (own, ps, xa, xb) hx
 obtain ⟨q, q1, q2⟩ := Option.map_eq_some_iff.1 h1
 simp only [Prod.mk.injEq] at q2
 obtain ⟨rfl, q3, q4, q5⟩ := q2
 exact ⟨q, q1, rfl, q3, q4, q5, h2⟩
def Yg : List (List PV × PV) → List PV → Option PV
 | [], _ => none
 | (k, r) :: t, a => bif decide (k = a) then some r else Yg t a
def U0 (tbl : List (List PV × PV)) : List PV → St → Option (PV × St) := fun args st => match Yg tbl args with
 | some r => some (r, st)
 | none => none
theorem Tx : ∀ {tbl : List (List PV × PV)} {a : List PV} {r : PV}, Yg tbl a = some r → (a, r) ∈ tbl
 | [], _, _, h => by simp [Yg] at h
 | (k, r) :: t, a, r', h => by
  simp only [Yg] at h
  cases hb : decide (k = a) with
  | true =>
   rw [hb] at h
   simp only [cond_true, Option.some.injEq] at h
   rw [← h, ← of_decide_eq_true hb]
   exact List.mem_cons_self
  | false =>
   rw [hb] at h
   exact List.mem_cons_of_mem _ (Tx h)
theorem nS {P : Program} {S : Sys} (hs : yw P S) {xf : XF} {xs : XS} (hx : afM S xf) (hxs : afN S xs) {f m n : Nat} {p0 : List PV × PV} {tbl : List (List PV × PV)}
  (ht : ∀ p ∈ p0 :: tbl, oP p.1 = true ∧ wF p.2 = true ∧ uI S xf xs m n f p.1 [] = some (p.2, [])) :
  yu P f ∧ ∀ (args : List PV) (st : St) (r' : PV) (st' : St), U0 (p0 :: tbl) args st = some (r', st') → ∀ (m : Mt) (w : World) (vs : List Value), bg m.blk m.cl w args vs → bI m st w →
   Calls P f vs.toArray w fun e w' => ∃ v m', e = .returned v ∧ ak m'.blk m'.cl w' r' v ∧ Ext m w m' w' ∧ bI m' st' w' := by
 obtain ⟨g1, g2, g3⟩ := ht p0 List.mem_cons_self
 refine ⟨(Gg hs g1 g2 (zw hx hxs m n f _ [] _ g3)).1, fun args st r' st' ha m' w vs hv hw => ?_⟩
 unfold U0 at ha
 split at ha
 ·rename_i r hp
  cases ha
  obtain ⟨h1, h2, h3⟩ := ht _ (Tx hp)
  exact (Gg hs h1 h2 (zw hx hxs m n f args [] _ h3)).2 m' w st vs hv hw
 ·cases ha
end Go.X
