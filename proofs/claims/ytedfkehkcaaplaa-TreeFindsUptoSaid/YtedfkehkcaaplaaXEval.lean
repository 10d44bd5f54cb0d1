/- T -/
import Derived.Test.YtedfkehkcaaplaaXInv
import Derived.Test.YtedfkehkcaaplaaXX
import Derived.Test.YtedfkehkcaaplaaXGoes
namespace Go.X
open Go
set_option linter.unusedVariables false
variable [bY]
def PN {R : Type} [DecidableEq R] (x y : Option R) : Option R := if x = y then x else none
theorem Dr {R : Type} [DecidableEq R] {x y : Option R} {r : R} (h : PN x y = some r) : x = some r ∧ y = some r := by
 unfold PN at h
 split at h
 ·rename_i hxy; exact ⟨h, hxy ▸ h⟩
 ·cases h
def Ld : Nat → Nat → List Nat → (Env → St → Option (Ex × Env × St)) → Env → St → Option (Ex × Env × St)
 | 0, _, _, _, _, _ => none
 | m + 1, n, dom, f, ρ, st => match f ρ st with
  | none => none
  | some (.normal, ρ, st) => Ld m n dom f (aB dom ρ) (trim fF n (aB dom ρ) st)
  | some (e, ρ, st) => some (e, aB dom ρ, trim fF n (aB dom ρ) st)
theorem Lf {n : Nat} {dom : List Nat} {f g : Env → St → Option (Ex × Env × St)} (h : ∀ ρ s, Le (f ρ s) (g ρ s)) : ∀ (m : Nat) (ρ : Env) (st : St), Le (Ld m n dom f ρ st) (iter n dom g ρ st)
 | 0, _, _ => fun r hr => by simp [Ld] at hr
 | m + 1, ρ, st => fun r hr => by
  rw [iter]
  unfold Ld at hr
  split at hr
  ·cases hr
  ·rename_i hf
   rw [h _ _ _ hf]
   simp only [Option.bind_eq_bind, Option.bind_some]
   exact Lf h m _ _ r hr
  ·rename_i e ρ' st' hne hf
   rw [h _ _ _ hf]
   simp only [Option.bind_eq_bind, Option.bind_some]
   cases e with
   | normal => exact (hne rfl).elim
   | exit i => exact hr
   | ret => exact hr
noncomputable def AL {R : Type} [DecidableEq R] (c : CF) (Γ : Tab) (an : iG) : XT → Env → St → (Env → St → Option R) → Option R
 | .done, ρ, st, K => K ρ st
 | .step o t, ρ, st, K => wL (real c) Γ an o ρ st fun ρ st => AL c Γ an t ρ st K
 | .both a b, ρ, st, K => PN (AL c Γ an a ρ st K) (AL c Γ an b ρ st K)
theorem AO {c : CF} {R : Type} {EN : Bool} {st : St} {F : PV → St → Option R} {G : PV → St → Option (Env × St)} {K : Env → St → Option R} (h : ∀ v s, F v s = (G v s).bind fun q => K q.1 q.2) (Γ : Tab) (an : iG) (ρ : Env) (dst : Option Nat) (op : Op) :
  evalOp (real c) Γ an ρ st dst op (mH (real c) EN st F) = (evalOp (real c) Γ an ρ st dst op (mH (real c) EN st G)).bind fun q => K q.1 q.2 := by
 rw [oC (K := mH (real c) EN st F), oC (K := mH (real c) EN st G), Option.bind_assoc]
 congr 1
 funext q
 unfold mH
 cases EN with
 | false => exact h _ _
 | true =>
  simp only [cond_true]
  cases (real c).same st q.2 with
  | true => exact h _ _
  | false => rfl
theorem lu {c : CF} {R : Type} (Γ : Tab) (an : iG) : ∀ (l : List XO) (ρ : Env) (st : St) (K : Env → St → Option R), dG (real c) Γ an l ρ st K = (dG (real c) Γ an l ρ st fun ρ st => some (ρ, st)).bind fun q => K q.1 q.2
 | [], ρ, st, K => rfl
 | ⟨dst, op, g, EN, dead⟩ :: rest, ρ, st, K => by
  unfold dG
  cases g with
  | none => exact AO (fun v s => lu Γ an rest _ _ K) Γ an ρ dst op
  | some q =>
   obtain ⟨j, want⟩ := q
   dsimp only
   split
   ·rename_i b hb
    generalize (bif want then b else !b) = t
    cases t with
    | true => exact AO (fun v s => lu Γ an rest _ _ K) Γ an _ dst op
    | false => exact lu Γ an rest _ _ K
   ·exact lu Γ an rest _ _ K
   ·rfl
theorem vQ {c d : CF} (h : EU c d) {R : Type} (Γ : Tab) (an : iG) {ρ1 : Env} {st1 : St} {K : Ex → Env → St → Option R} {r : R} (hK : K .normal ρ1 st1 = some r) : ∀ (t : XT) (ρ : Env) (st : St),
  AL c Γ an t ρ st (fun ρ st => some (aB an.keep ρ, st)) = some (ρ1, st1) → jS (real d) Γ an t ρ st (fun ρ st => K .normal (aB an.keep ρ) st) = some r
 | .done, ρ, st, hr => by
  simp only [AL, Option.some.injEq, Prod.mk.injEq] at hr
  simp only [jS, hr.1, hr.2, hK]
 | .step o t, ρ, st, hr => by
  simp only [AL, vM] at hr
  simp only [jS]
  rw [lu] at hr ⊢
  obtain ⟨q, h1, h2⟩ := Option.bind_eq_some_iff.1 hr
  rw [iJ h _ _ (fun v s => Le.refl _) _ _ _ q h1]
  exact vQ h Γ an hK t _ _ h2
 | .both a b, ρ, st, hr => by
  simp only [AL] at hr
  obtain ⟨h1, h2⟩ := Dr hr
  exact oD (vQ h Γ an hK a ρ st h1) (vQ h Γ an hK b ρ st h2)
noncomputable def jU (c : CF) (m : Nat) (Γ : Tab) (an : iG) : XC → Env → St → {R : Type} → [DecidableEq R] → (Ex → Env → St → Option R) → Option R
 | .skip, ρ, st, _, _, K => K .normal ρ st
 | .region ops, ρ, st, _, _, K => runT (real c) Γ an 12 ops ρ st fun ρ st => K .normal (aB an.keep ρ) st
 | .iR ops, ρ, st, _, _, K => runT (real c) Γ an 12 ops ρ st fun ρ st => K .normal (aB an.keep ρ) st
 | .xS cs, ρ, st, _, _, K => runT (real c) Γ an 12 cs.flatten ρ st fun ρ st => K .normal (aB an.keep ρ) st
 | .xU ops t, ρ, st, _, _, K => match runT (real c) Γ an 12 ops ρ st fun ρ st => AL c Γ an t ρ st fun ρ st => some (aB an.keep ρ, st) with
  | some (ρ, st) => K .normal ρ st
  | none => none
 | .seq a b, ρ, st, _, _, K => jU c m Γ an a ρ st fun e ρ st => match e with
  | .normal => jU c m Γ an b ρ st K
  | e => K e ρ st
 | .cond t a b, ρ, st, _, _, K => match gW ρ t with
  | .d (.bool x) => br x (fun _ => jU c m Γ an a (Aj an ρ t true) st (fun e ρ' st' => K e (aB (keys ρ) ρ') (trim fF (dD st 0) (aB (keys ρ) ρ') st')))
    (fun _ => jU c m Γ an b (Aj an ρ t false) st (fun e ρ' st' => K e (aB (keys ρ) ρ') (trim fF (dD st 0) (aB (keys ρ) ρ') st')))
  | .ub => PN (jU c m Γ an a (del ρ t) st (fun e ρ' st' => K e (aB (keys ρ) ρ') (trim fF (dD st 0) (aB (keys ρ) ρ') st')))
    (jU c m Γ an b (del ρ t) st (fun e ρ' st' => K e (aB (keys ρ) ρ') (trim fF (dD st 0) (aB (keys ρ) ρ') st')))
  | _ => none
 | .block id a, ρ, st, _, _, K => jU c m Γ an a ρ st fun e ρ st => match e with
  | .exit i => bif Nat.beq i id then K .normal ρ st else K (.exit i) ρ st
  | e => K e ρ st
 | .loop a, ρ, st, _, _, K => match Ld m (dD st 0) (keys ρ) (fun ρ st => jU c m Γ an a ρ st fun e ρ st => some (e, ρ, st)) ρ st with
  | some (e, ρ, st) => K e ρ st
  | none => none
 | .exit id, ρ, st, _, _, K => K (.exit id) ρ st
 | .ret, ρ, st, _, _, K => K .ret ρ st
 | .rng t, ρ, st, _, _, K => Nf (real c) an ρ st (.tmp t) K
 | .bad, _, _, _, _, _ => none
theorem Dt {c d : CF} (h : EU c d) (m : Nat) (Γ : Tab) (an : iG) : ∀ (x : XC) (ρ : Env) (st : St) {R : Type} [DecidableEq R] {K K' : Ex → Env → St → Option R}, (∀ e v s, Le (K e v s) (K' e v s)) → Le (jU c m Γ an x ρ st K) (gu (real d) Γ an x ρ st K') := by
 intro x
 induction x with
 | skip | exit | ret => intro ρ st R _ K K' hK; simp only [jU, gu]; exact hK _ _ _
 | bad => intro ρ st R _ K K' hK r hr; simp [jU] at hr
 | xU ops t =>
  intro ρ st R _ K K' hK r hr
  simp only [jU, gu, runT_eq, kr, uj] at hr ⊢
  split at hr
  ·rename_i ρ1 st1 he
   rw [lu] at he ⊢
   obtain ⟨q, h1, h2⟩ := Option.bind_eq_some_iff.1 he
   rw [iJ h _ _ (fun v s => Le.refl _) _ _ _ q h1]
   exact vQ h Γ an (hK _ _ _ r hr) t _ _ h2
  ·cases hr
 | xS cs =>
  intro ρ st R _ K K' hK
  simp only [jU, gu, runT_eq, Ie]
  exact iJ h _ _ (fun v s => hK _ _ _) _ _ _
 | rng t => intro ρ st R _ K K' hK; simp only [jU, gu]; exact Pp h hK
 | region ops | iR ops =>
  intro ρ st R _ K K' hK
  simp only [jU, gu, runT_eq, kr]
  exact iJ h _ _ (fun v s => hK _ _ _) _ _ _
 | seq a b iha ihb =>
  intro ρ st R _ K K' hK
  simp only [jU, gu]
  refine iha _ _ fun e v s => ?_
  cases e
  ·exact ihb _ _ hK
  ·exact hK _ _ _
  ·exact hK _ _ _
 | cond t a b iha ihb =>
  intro ρ st R _ K K' hK
  simp only [jU, gu]
  split
  ·rename_i b hb
   rw [hb]
   dsimp only
   rw [kr]
   cases b
   ·exact ihb _ _ fun _ _ _ => hK _ _ _
   ·exact iha _ _ fun _ _ _ => hK _ _ _
  ·rename_i hb
   rw [hb]
   intro r hr
   obtain ⟨h1, h2⟩ := Dr hr
   exact oD (iha _ _ (fun _ _ _ => hK _ _ _) r h1) (ihb _ _ (fun _ _ _ => hK _ _ _) r h2)
  ·intro r hr; cases hr
 | block id a iha =>
  intro ρ st R _ K K' hK
  simp only [jU, gu]
  refine iha _ _ fun e v s => ?_
  cases e with
  | exit i =>
   dsimp only
   cases Nat.beq i id
   ·exact hK _ _ _
   ·exact hK _ _ _
  | normal => exact hK _ _ _
  | ret => exact hK _ _ _
 | loop a iha =>
  intro ρ st R _ K K' hK r hr
  simp only [jU, gu] at hr ⊢
  split at hr
  ·rename_i e ρ' st' hit
   have := Lf (n := dD st 0) (dom := keys ρ) (g := fun ρ st => gu (real d) Γ an a ρ st fun e ρ st => some (e, ρ, st)) (fun ρ s => iha ρ s fun e v s => Le.refl _) m ρ st _ hit
   show ((iter _ _ _ _ _).bind _) = _
   rw [this]
   exact hK _ _ _ r hr
  ·cases hr
abbrev XF := Nat → Option (XC × List ResultVar)
def RD (S : Sys) (xf : XF) : Prop := ∀ f x rs, xf f = some (x, rs) → ∃ fn, S.fn f = some fn ∧ fn.body.map (strip (S.tab.ann f)) = some x ∧ fn.results.toList = rs
abbrev XS := Nat → Option (Nat × List Nat × XC × XC)
def RF (S : Sys) (xs : XS) : Prop := ∀ g own ps xa xb, xs g = some (own, ps, xa, xb) → ∃ q, bY.site g = some q ∧ q.own = own ∧ q.ps = ps ∧ strip (S.tab.ann own) q.BS = xa ∧ strip (S.tab.ann own) q.body = xb ∧ S.fn g = none
noncomputable def Og (c : CF) (m : Nat) (Γ : Tab) (an : iG) (ps : List Nat) (xa xb : XC) (args : List PV) (st : St) : Option (PV × St) :=
 match args with
 | .jv l i :: args => match look st l i with
  | some (.loop site ρ none) => match jX ps args (nY (l + 1) ρ) with
   | some ρ1 => jU c m Γ an xa ρ1 ([] :: st) fun e ρ2 st2 => match e, st2 with
    | .normal, fr :: Fu => match look Fu l i with
     | some (.loop pK ρ' none) => bif Nat.beq site pK then jU c m Γ an xb ρ2 (fr :: bJ Fu l i (.loop pK ρ' (some .normal))) fun e _ st4 => match st4 with
      | _ :: Ng => match look Ng l i with
       | some (.loop jY ρ'' (some .normal)) => bif Nat.beq site jY then (match e with
        | .normal => some (.d (.bool true), bJ Ng l i (.loop jY ρ'' none))
        | e => some (.d (.bool false), bJ Ng l i (.loop jY ρ'' (some e)))) else none
       | _ => none
      | [] => none else none
     | _ => none
    | _, _ => none
   | none => none
  | _ => none
 | _ => none
theorem le_none {R : Type} {x : Option Obj} {g g' : Nat → Env → Option R} (h : ∀ s ρ, Le (g s ρ) (g' s ρ)) : Le (match x with | some (.loop s ρ none) => g s ρ | _ => none) (match x with | some (.loop s ρ none) => g' s ρ | _ => none) := by
 cases x with
 | none => exact Le.refl _
 | some o =>
  cases o with
  | loop s ρ p => cases p with
   | none => exact h s ρ
   | some e => exact Le.refl _
  | _ => exact Le.refl _
theorem RG {c d : CF} (h : EU c d) {m : Nat} {Γ : Tab} {an : iG} {q : Site} {ps : List Nat} {xa xb : XC} (hp : q.ps = ps) (ha : strip an q.BS = xa) (hb : strip an q.body = xb) (args : List PV) (st : St) :
  Le (Og c m Γ an ps xa xb args st) (round (real d) Γ an q args st) := by
 subst hp ha hb
 cases args with
 | nil => exact Le.refl _
 | cons a args =>
  cases a with
  | jv l i =>
   unfold Og round
   dsimp only
   refine le_none fun site ρ => ?_
   cases jX q.ps args (nY (l + 1) ρ) with
   | none => exact Le.refl _
   | some ρ1 =>
    dsimp only
    rw [oG]
    refine Dt h m _ _ _ _ _ fun e v s => ?_
    cases e with
    | exit | ret => exact Le.refl _
    | normal =>
     cases s with
     | nil => exact Le.refl _
     | cons fr Fu =>
      dsimp only
      refine le_none fun pK ρ' => ?_
      cases Nat.beq site pK with
      | false => exact Le.refl _
      | true =>
       simp only [cond_true]
       rw [oG]
       exact Dt h m _ _ _ _ _ fun e v s => Le.refl _
  | _ => exact Le.refl _
noncomputable def PO (c : CF) (m : Nat) (Γ : Tab) (an : iG) (x : XC) (rs : List ResultVar) (args : List PV) (st : St) : Option (PV × St) :=
 mI (real c) an.take 0 (down.fA 1 args) ([] :: st) fun args st => jU c m Γ an x (enter 0 args) st fun e ρ st => match e with
  | .exit _ => none
  | _ => leave (real c) Γ an.give rs ρ st
noncomputable def nN (S : Sys) (xf : XF) (xs : XS) (m : Nat) : Nat → CF
 | 0 => fun _ _ _ => none
 | n + 1 => fun f args st => match S.foreign f with
  | some g => g args st
  | none => match xf f with
   | none => match xs f with
    | none => none
    | some (own, ps, xa, xb) => Og (nN S xf xs m n) m S.tab (S.tab.ann own) ps xa xb args st
   | some (x, rs) => match (S.tab.ann f).arena with
    | false => PO (nN S xf xs m n) m S.tab (S.tab.ann f) x rs args st
    | true => match PO (nN S xf xs m n) m S.tab (S.tab.ann f) x rs (down.fA 1 args) ([] :: st) with
     | some (r, _ :: st') => some (up 1 r, st')
     | _ => none
theorem Lg {c d : CF} (h : EU c d) {m : Nat} {Γ : Tab} {an : iG} {fn : Func} {x : XC} {rs : List ResultVar} (h1 : fn.body.map (strip an) = some x) (h2 : fn.results.toList = rs) (args : List PV) (st : St) :
  Le (PO c m Γ an x rs args st) (body (real d) Γ an fn args st) := by
 rw [Ct h1 h2]
 unfold PO
 rw [KD c d]
 refine KE _ _ _ _ fun vs st => ?_
 refine Dt h m _ _ _ _ _ fun e v s => ?_
 cases e <;> dsimp only <;> (try rw [KF c d]) <;> exact Le.refl _
theorem qW {S : Sys} {xf : XF} {xs : XS} (hx : RD S xf) (hs : RF S xs) (m : Nat) : ∀ n, EU (nN S xf xs m n) (call S)
 | 0 => fun _ _ _ r hr => by simp [nN] at hr
 | n + 1 => fun f args st r hr => by
  rw [call.eq_1]
  unfold step
  unfold nN at hr
  split at hr
  ·rename_i g hg; rw [hg]; exact hr
  ·rename_i hg
   rw [hg]
   dsimp only
   split at hr
   ·split at hr
    ·cases hr
    ·rename_i own ps xa xb hxs
     obtain ⟨q, q1, q2, q3, q4, q5, q6⟩ := hs f own ps xa xb hxs
     rw [q6, q1]
     dsimp only
     subst q2
     exact RG (qW hx hs m n) q3 q4 q5 _ _ r hr
   ·rename_i x rs hxf
    obtain ⟨fn, h1, h2, h3⟩ := hx f x rs hxf
    rw [h1]
    dsimp only
    split at hr
    ·rename_i ha
     rw [ha]
     exact Lg (qW hx hs m n) h2 h3 _ _ r hr
    ·rename_i ha
     rw [ha]
     dsimp only
     split at hr
     ·rename_i hb
      rw [Lg (qW hx hs m n) h2 h3 _ _ _ hb]
      exact hr
     ·cases hr
mutual
def oN : PV → Bool
 | .d _ => true
 | .aS _ => true
 | .skip => true
 | .agg cs => jZ cs
 | .pG l => jZ l
 | _ => false
def jZ : List PV → Bool
 | [] => true
 | x :: r => oN x && jZ r
end
mutual
theorem zP {bl lK : List (List bZ)} {cl : Nat → Nat} {w : World} : ∀ (r : PV) (v : Value), oN r = true → aj bl cl w r v → aj lK cl w r v
 | .d x, v, _, hv => by simpa only [aj] using hv
 | .aS cs, v, _, hv => by simpa only [aj] using hv
 | .skip, v, _, hv => by simpa only [aj] using hv
 | .agg cs, v, h, hv => by
  simp only [aj] at hv ⊢
  obtain ⟨vs, h1, h2⟩ := hv
  exact ⟨vs, h1, AP cs vs (by simpa only [oN] using h) h2⟩
 | .pG l, v, h, hv => by
  simp only [aj] at hv ⊢
  obtain ⟨vs, h1, h2⟩ := hv
  exact ⟨vs, h1, wX l vs (by simpa only [oN] using h) h2⟩
 | .ptr _ _ _, _, h, _ | .row _ _ _, _, h, _ | .kL _ _ _ _ _, _, h, _ | .fn _ _, _, h, _ | .map _ _, _, h, _ | .tail _ _ _ _, _, h, _ | .jv _ _, _, h, _ | .ub, _, h, _ | .unk, _, h, _ => by simp [oN] at h
theorem AP {bl lK : List (List bZ)} {cl : Nat → Nat} {w : World} : ∀ (l : List PV) (vs : List Value), jZ l = true → aF bl cl w l vs → aF lK cl w l vs
 | [], vs, _, hv => by simpa only [aF] using hv
 | x :: l, vs, h, hv => by
  simp only [jZ, Bool.and_eq_true] at h
  simp only [aF] at hv ⊢
  obtain ⟨v, s, h1, h2, h3, h4⟩ := hv
  exact ⟨v, s, h1, zP x v h.1 h2, h3, AP l s h.2 h4⟩
theorem wX {bl lK : List (List bZ)} {cl : Nat → Nat} {w : World} : ∀ (l : List PV) (vs : List Value), jZ l = true → aK bl cl w l vs → aK lK cl w l vs
 | [], vs, _, hv => by simpa only [aK] using hv
 | x :: l, vs, h, hv => by
  simp only [jZ, Bool.and_eq_true] at h
  simp only [aK] at hv ⊢
  obtain ⟨v, s, h1, h2, h3⟩ := hv
  exact ⟨v, s, h1, zP x v h.1 h2, wX l s h.2 h3⟩
end
theorem Uf {P : Program} {S : Sys} (hs : pW P S) {f : Nat} {args : List PV} {q : PV × St} (h : call S f args [] = some q) : iF f = false := by
 cases hb : bY.site f with
 | none => simp [iF, hb]
 | some si =>
  exfalso
  obtain ⟨s1, s2, _⟩ := hs.site f si hb
  rw [call] at h
  unfold step at h
  rw [s2, s1] at h
  simp only [hb] at h
  cases args with
  | nil => simp [round] at h
  | cons x args => cases x <;> simp [round, look] at h
theorem wY {P : Program} {S : Sys} (hs : pW P S) {f : Nat} {args : List PV} {r : PV} (ha : jZ args = true) (hb : oN r = true) (h : call S f args [] = some (r, [])) :
  pV P f ∧ ∀ (m : Mt) (w : World) (st : St) (vs : List Value), aK m.blk m.cl w args vs → aO m st w →
   Calls P f vs.toArray w fun e w' => ∃ v m', e = .returned v ∧ aj m'.blk m'.cl w' r v ∧ Ext m w m' w' ∧ aO m' st w' := by
 obtain ⟨h1, h2⟩ := sound hs f args [] r [] (Uf hs h) h
 refine ⟨h1, fun m w st vs hvs hw => ?_⟩
 have hw0 : aO ⟨[], m.cl⟩ [] w := ⟨by simp [dH], by simp [blks, eX], hw.le, hw.glob.sub (by simp [blks, eX])⟩
 refine Calls.mono (h2 ⟨[], m.cl⟩ w vs (wX args vs ha hvs) hw0) ?_
 rintro e w' ⟨v, m1, rfl, hr, hx, hw1⟩
 let cl' : Nat → Nat := fun b => if b < w.heap.size then m.cl b else m1.cl b
 have hcl' : cl' = m1.cl := funext fun b => by
  show (if b < w.heap.size then m.cl b else m1.cl b) = m1.cl b
  split
  ·rename_i hb; exact (hx.cls b hb (by simp [blks, eX])).symm
  ·rfl
 have hkept : ∀ b, b < w.heap.size → w'.heap[b]? = w.heap[b]? := fun b hb => hx.kept b hb (by simp [blks, eX])
 have hlt : ∀ b, m.cl b ≠ 0 → b < w.heap.size := fun b hb => by
  have := hw.le b
  unfold csize at this
  by_cases hc : b < w.heap.size
  ·exact hc
  ·have hn : w.heap[b]? = none := by simp; omega
   rw [hn] at this
   exact absurd (Nat.le_zero.1 this) hb
 have hkeep : Keeps m.cl w cl' w' := by
  refine ⟨fun b => ?_, fun b j hj => ?_⟩
  ·show m.cl b ≤ if b < w.heap.size then m.cl b else m1.cl b
   split
   ·exact Nat.le_refl _
   ·exact hx.keeps.le b
  ·exact hx.keeps.cells b j hj
 refine ⟨v, ⟨m.blk, cl'⟩, rfl, hcl' ▸ zP r v hb hr, ⟨hkeep, .refl _, hx.os, hx.tape, hx.output, hx.size, fun b hb _ => hkept b hb, fun b hb => .inl hb, fun b hb _ => if_pos hb⟩, ⟨?_, hw.nodup, fun b => ?_, hw.glob.step (fun b hb _ => hkept b hb) fun b hb => .inl hb⟩⟩
 ·have hO : ∀ (bl : List (List bZ)) (o : Obj) (e : bZ), aL bl m.cl w o e → aL bl cl' w' o e := by
   intro bl o e ho
   cases o with
   | void => exact ho
   | loop site ρ p =>
    simp only [aL] at ho ⊢
    obtain ⟨a1, a2, r, a3, a4, a5, a6⟩ := ho
    have hl : e.b < w.heap.size := (Array.getElem?_eq_some_iff.1 a3).1
    exact ⟨a1, by show (if e.b < w.heap.size then m.cl e.b else m1.cl e.b) = 0; rw [if_pos hl]; exact a2, r, by rw [hkept _ hl]; exact a3, a4, a5, fun t => (a6 t).keep hkeep (.refl _)⟩
   | box ty cells =>
    simp only [aL] at ho ⊢
    obtain ⟨a1, a2, vs, a3, a4⟩ := ho
    have hl : e.b < w.heap.size := (Array.getElem?_eq_some_iff.1 a3).1
    exact ⟨a1, by show (if e.b < w.heap.size then m.cl e.b else m1.cl e.b) = 0; rw [if_pos hl]; exact a2, vs, by rw [hkept _ hl]; exact a3, aF.keep hkeep (.refl _) _ _ a4⟩
   | row ty sz rows mt cap =>
    simp only [aL] at ho ⊢
    obtain ⟨a1, a2, a3, a4, a5, a6⟩ := ho
    refine ⟨a1, a2, a3, a4, a5, fun hg => ?_⟩
    obtain ⟨⟨cs, b1, b2⟩, b3, b4⟩ := a6 hg
    have hl : e.b < w.heap.size := (Array.getElem?_eq_some_iff.1 b1).1
    refine ⟨⟨cs, by rw [hkept _ hl]; exact b1, b2⟩, ?_, by show (if e.b < w.heap.size then m.cl e.b else m1.cl e.b) = _; rw [if_pos hl]; exact b4⟩
    have hcell : ∀ (j : Nat), w'.cell? ⟨e.b, j, none⟩ = w.cell? ⟨e.b, j, none⟩ := fun j => by
     have := hkept _ hl
     simp [World.cell?, this]
    have hD : ∀ (l : List D) (o : Nat), aV m.cl w e.b o l → aV cl' w' e.b o l := by
     intro l
     induction l with
     | nil => intro o _; simp only [aV]
     | cons d l ih =>
      intro o hd
      simp only [aV] at hd ⊢
      obtain ⟨⟨v, c1, c2⟩, c3⟩ := hd
      exact ⟨⟨v, (hcell o).trans c1, aZ.keep hkeep d v c2⟩, ih _ c3⟩
    have hR : ∀ (l : List (List D)) (o : Nat), aY m.cl w e.b o sz l → aY cl' w' e.b o sz l := by
     intro l
     induction l with
     | nil => intro o _; simp only [aY]
     | cons d l ih =>
      intro o hd
      simp only [aY] at hd ⊢
      exact ⟨hd.1, hD _ _ hd.2.1, ih _ hd.2.2⟩
    exact hR _ _ b3
   | map kk fl es =>
    simp only [aL] at ho ⊢
    obtain ⟨a1, a2, a3, ents, clock, a4, a5⟩ := ho
    have hl : e.b < w.heap.size := (Array.getElem?_eq_some_iff.1 a4).1
    exact ⟨a1, by show (if e.b < w.heap.size then m.cl e.b else m1.cl e.b) = 0; rw [if_pos hl]; exact a2, a3, ents, clock, by rw [hkept _ hl]; exact a4, eF.keep hkeep (.refl _) _ _ a5⟩
  have hOL : ∀ (bl : List (List bZ)) (fr : List Obj) (es : List bZ), dN bl m.cl w fr es → dN bl cl' w' fr es := by
   intro bl fr
   induction fr with
   | nil => intro es h; exact h
   | cons o fr ih =>
    intro es h
    simp only [dN] at h ⊢
    obtain ⟨e, s, rfl, h1, h2⟩ := h
    exact ⟨e, s, rfl, hO _ _ _ h1, ih _ h2⟩
  have hSt : ∀ (st : St) (bl : List (List bZ)), dH m.cl w st bl → dH cl' w' st bl := by
   intro st
   induction st with
   | nil => intro bl h; exact h
   | cons fr st ih =>
    intro bl h
    simp only [dH] at h ⊢
    obtain ⟨es, r, rfl, h1, h2⟩ := h
    exact ⟨es, r, rfl, hOL _ _ _ h1, ih _ h2⟩
  exact hSt _ _ hw.st
 ·show (if b < w.heap.size then m.cl b else m1.cl b) ≤ csize w' b
  by_cases hb : b < w.heap.size
  ·rw [if_pos hb]
   have : csize w' b = csize w b := by simp only [csize, hkept _ hb]
   rw [this]; exact hw.le b
  ·rw [if_neg hb]; exact hw1.le b
def IK (r : PV) : List PV → St → Option (PV × St) := fun args st => match args with | [] => some (r, st) | _ => none
theorem Du {P : Program} {S : Sys} (hs : pW P S) {xf : XF} {xs : XS} (hx : RD S xf) (hxs : RF S xs) {f : Nat} {r : PV} (hb : oN r = true) {m n : Nat} (h : nN S xf xs m n f [] [] = some (r, [])) :
  pV P f ∧ ∀ (args : List PV) (st : St) (r' : PV) (st' : St), IK r args st = some (r', st') → ∀ (m : Mt) (w : World) (vs : List Value), aK m.blk m.cl w args vs → aO m st w →
   Calls P f vs.toArray w fun e w' => ∃ v m', e = .returned v ∧ aj m'.blk m'.cl w' r' v ∧ Ext m w m' w' ∧ aO m' st' w' := by
 obtain ⟨h1, h2⟩ := wY hs (args := []) rfl hb (qW hx hxs m n f [] [] _ h)
 refine ⟨h1, fun args st r' st' ha m w vs hv hw => ?_⟩
 cases args with
 | cons x l => cases ha
 | nil =>
  cases ha
  simp only [aK] at hv
  subst hv
  exact h2 m w _ [] (by simp only [aK]) hw
theorem Lh {S : Sys} {f : Nat} {r : PV} (h : S.foreign f = some (IK r)) (st : St) : call S f [] st = some (r, st) := by
 rw [call.eq_1]
 unfold step
 rw [h]
 rfl
def fG {α : Type} : List (Nat × α) → Nat → Option α
 | [], _ => none
 | (k, f) :: r, t => bif Nat.beq k t then some f else fG r t
theorem nH {α : Type} {Q : Nat → α → Prop} : ∀ {l : List (Nat × α)}, (∀ p ∈ l, Q p.1 p.2) → ∀ f g, fG l f = some g → Q f g
 | [], _, f, g, h => by simp [fG] at h
 | (k, g) :: r, hl, f, g', h => by
  simp only [fG] at h
  cases hb : Nat.beq k f with
  | true =>
   rw [hb] at h
   simp only [cond_true, Option.some.injEq] at h
   subst h
   have := hl (k, g) (by simp)
   rw [← beq_eq hb]; exact this
  | false =>
   rw [hb] at h
   exact nH (fun p hp => hl p (by simp [hp])) f g' h
theorem ad3 {S : Sys} {l : List (Nat × (XC × List ResultVar))} (h : ∀ p ∈ l, ∃ fn, S.fn p.1 = some fn ∧ fn.body.map (strip (S.tab.ann p.1)) = some p.2.1 ∧ fn.results.toList = p.2.2) : RD S (fG l) :=
 fun f x rs hx => nH (Q := fun f q => ∃ fn, S.fn f = some fn ∧ fn.body.map (strip (S.tab.ann f)) = some q.1 ∧ fn.results.toList = q.2) h f (x, rs) hx
theorem ad4 {S : Sys} {l : List (Nat × (Nat × List Nat × XC × XC))} (h : ∀ p ∈ l, (bY.site p.1).map (fun q => (q.own, q.ps, strip (S.tab.ann q.own) q.BS, strip (S.tab.ann q.own) q.body)) = some p.2 ∧ S.fn p.1 = none) : RF S (fG l) := by
 intro g own ps xa xb hx
 obtain ⟨h1, h2⟩ := nH (Q := fun g x => (bY.site g).map (fun q => (q.own, q.ps, strip (S.tab.ann q.own) q.BS, strip (S.tab.ann q.own) q.body)) = some x ∧ S.fn g = none) h g (own, ps, xa, xb) hx
 obtain ⟨q, q1, q2⟩ := Option.map_eq_some_iff.1 h1
 simp only [Prod.mk.injEq] at q2
 obtain ⟨rfl, q3, q4, q5⟩ := q2
 exact ⟨q, q1, rfl, q3, q4, q5, h2⟩
def Li : List (List PV × PV) → List PV → Option PV
 | [], _ => none
 | (k, r) :: t, a => bif decide (k = a) then some r else Li t a
def IL (tbl : List (List PV × PV)) : List PV → St → Option (PV × St) := fun args st => match Li tbl args with
 | some r => some (r, st)
 | none => none
theorem Gl : ∀ {tbl : List (List PV × PV)} {a : List PV} {r : PV}, Li tbl a = some r → (a, r) ∈ tbl
 | [], _, _, h => by simp [Li] at h
 | (k, r) :: t, a, r', h => by
  simp only [Li] at h
  cases hb : decide (k = a) with
  | true =>
   rw [hb] at h
   simp only [cond_true, Option.some.injEq] at h
   rw [← h, ← of_decide_eq_true hb]
   exact List.mem_cons_self
  | false =>
   rw [hb] at h
   exact List.mem_cons_of_mem _ (Gl h)
theorem jE {P : Program} {S : Sys} (hs : pW P S) {xf : XF} {xs : XS} (hx : RD S xf) (hxs : RF S xs) {f m n : Nat} {p0 : List PV × PV} {tbl : List (List PV × PV)}
  (ht : ∀ p ∈ p0 :: tbl, jZ p.1 = true ∧ oN p.2 = true ∧ nN S xf xs m n f p.1 [] = some (p.2, [])) :
  pV P f ∧ ∀ (args : List PV) (st : St) (r' : PV) (st' : St), IL (p0 :: tbl) args st = some (r', st') → ∀ (m : Mt) (w : World) (vs : List Value), aK m.blk m.cl w args vs → aO m st w →
   Calls P f vs.toArray w fun e w' => ∃ v m', e = .returned v ∧ aj m'.blk m'.cl w' r' v ∧ Ext m w m' w' ∧ aO m' st' w' := by
 obtain ⟨g1, g2, g3⟩ := ht p0 List.mem_cons_self
 refine ⟨(wY hs g1 g2 (qW hx hxs m n f _ [] _ g3)).1, fun args st r' st' ha m' w vs hv hw => ?_⟩
 unfold IL at ha
 split at ha
 ·rename_i r hp
  cases ha
  obtain ⟨h1, h2, h3⟩ := ht _ (Gl hp)
  exact (wY hs h1 h2 (qW hx hxs m n f args [] _ h3)).2 m' w st vs hv hw
 ·cases ha
end Go.X
