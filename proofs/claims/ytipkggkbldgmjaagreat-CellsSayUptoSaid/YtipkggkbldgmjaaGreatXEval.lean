/- A closed call, worked out: the interpreter with fuel, as the kernel can evaluate it. -/
import Derived.Test.YtipkggkbldgmjaaGreatXInv
import Derived.Test.YtipkggkbldgmjaaGreatXX
import Derived.Test.YtipkggkbldgmjaaGreatXGoes
namespace Go.X
open Go
set_option linter.unusedSectionVars false
set_option linter.unusedSimpArgs false
set_option linter.unusedVariables false
variable [eY]
def abr {R : Type} [DecidableEq R] (x y : Option R) : Option R := if x = y then x else none
theorem Vh {R : Type} [DecidableEq R] {x y : Option R} {r : R} (h : abr x y = some r) : x = some r ∧ y = some r := by
 unfold abr at h
 split at h
 ·rename_i hxy; exact ⟨h, hxy ▸ h⟩
 ·cases h
def SC : Nat → Nat → List Nat → (Env → St → Option (Ex × Env × St)) → Env → St → Option (Ex × Env × St)
 | 0, _, _, _, _, _ => none
 | m + 1, n, dom, f, ρ, st => match f ρ st with
  | none => none
  | some (.normal, ρ, st) => SC m n dom f (bn dom ρ) (trim gQ n (bn dom ρ) st)
  | some (e, ρ, st) => some (e, bn dom ρ, trim gQ n (bn dom ρ) st)
theorem SE {n : Nat} {dom : List Nat} {f g : Env → St → Option (Ex × Env × St)} (h : ∀ ρ s, Le (f ρ s) (g ρ s)) : ∀ (m : Nat) (ρ : Env) (st : St), Le (SC m n dom f ρ st) (iter n dom g ρ st)
 | 0, _, _ => fun r hr => by simp [SC] at hr
 | m + 1, ρ, st => fun r hr => by
  rw [iter]
  unfold SC at hr
  split at hr
  ·cases hr
  ·rename_i hf
   rw [h _ _ _ hf]
   simp only [Option.bind_eq_bind, Option.bind_some]
   exact SE h m _ _ r hr
  ·rename_i e ρ' st' hne hf
   rw [h _ _ _ hf]
   simp only [Option.bind_eq_bind, Option.bind_some]
   cases e with
   | normal => exact (hne rfl).elim
   | exit i => exact hr
   | ret => exact hr
noncomputable def kZ (c : CF) (m : Nat) (Γ : Tab) (an : kW) : XC → Env → St → {R : Type} → [DecidableEq R] → (Ex → Env → St → Option R) → Option R
 | .skip, ρ, st, _, _, K => K .normal ρ st
 | .region ops, ρ, st, _, _, K => runT (real c) Γ an 12 ops ρ st fun ρ st => K .normal (bn an.keep ρ) st
 | .bV ops, ρ, st, _, _, K => runT (real c) Γ an 12 ops ρ st fun ρ st => K .normal (bn an.keep ρ) st
 | .eZ cs, ρ, st, _, _, K => runT (real c) Γ an 12 cs.flatten ρ st fun ρ st => K .normal (bn an.keep ρ) st
 | .seq a b, ρ, st, _, _, K => kZ c m Γ an a ρ st fun e ρ st => match e with
  | .normal => kZ c m Γ an b ρ st K
  | e => K e ρ st
 | .cond t a b, ρ, st, _, _, K => match jw ρ t with
  | .d (.bool x) => br x (fun _ => kZ c m Γ an a (E9 an ρ t true) st (fun e ρ' st' => K e (bn (keys ρ) ρ') (trim gQ (fE st 0) (bn (keys ρ) ρ') st')))
    (fun _ => kZ c m Γ an b (E9 an ρ t false) st (fun e ρ' st' => K e (bn (keys ρ) ρ') (trim gQ (fE st 0) (bn (keys ρ) ρ') st')))
  | .ub => abr (kZ c m Γ an a (del ρ t) st (fun e ρ' st' => K e (bn (keys ρ) ρ') (trim gQ (fE st 0) (bn (keys ρ) ρ') st')))
    (kZ c m Γ an b (del ρ t) st (fun e ρ' st' => K e (bn (keys ρ) ρ') (trim gQ (fE st 0) (bn (keys ρ) ρ') st')))
  | _ => none
 | .block id a, ρ, st, _, _, K => kZ c m Γ an a ρ st fun e ρ st => match e with
  | .exit i => bif Nat.beq i id then K .normal ρ st else K (.exit i) ρ st
  | e => K e ρ st
 | .loop a, ρ, st, _, _, K => match SC m (fE st 0) (keys ρ) (fun ρ st => kZ c m Γ an a ρ st fun e ρ st => some (e, ρ, st)) ρ st with
  | some (e, ρ, st) => K e ρ st
  | none => none
 | .exit id, ρ, st, _, _, K => K (.exit id) ρ st
 | .ret, ρ, st, _, _, K => K .ret ρ st
 | .rng t, ρ, st, _, _, K => UE (real c) an ρ st (.tmp t) K
 | .bad, _, _, _, _, _ => none
theorem IC {c d : CF} (h : NU c d) (m : Nat) (Γ : Tab) (an : kW) : ∀ (x : XC) (ρ : Env) (st : St) {R : Type} [DecidableEq R] {K K' : Ex → Env → St → Option R}, (∀ e v s, Le (K e v s) (K' e v s)) → Le (kZ c m Γ an x ρ st K) (jr (real d) Γ an x ρ st K') := by
 intro x
 induction x with
 | skip | exit | ret => intro ρ st R _ K K' hK; simp only [kZ, jr]; exact hK _ _ _
 | bad => intro ρ st R _ K K' hK r hr; simp [kZ] at hr
 | eZ cs =>
  intro ρ st R _ K K' hK
  simp only [kZ, jr, runT_eq, Oa]
  exact nk h _ _ (fun v s => hK _ _ _) _ _ _
 | rng t => intro ρ st R _ K K' hK; simp only [kZ, jr]; exact Xd h hK
 | region ops | bV ops =>
  intro ρ st R _ K K' hK
  simp only [kZ, jr, runT_eq, nK]
  exact nk h _ _ (fun v s => hK _ _ _) _ _ _
 | seq a b iha ihb =>
  intro ρ st R _ K K' hK
  simp only [kZ, jr]
  refine iha _ _ fun e v s => ?_
  cases e
  ·exact ihb _ _ hK
  ·exact hK _ _ _
  ·exact hK _ _ _
 | cond t a b iha ihb =>
  intro ρ st R _ K K' hK
  simp only [kZ, jr]
  split
  ·rename_i b hb
   rw [hb]
   dsimp only
   rw [nK]
   cases b
   ·exact ihb _ _ fun _ _ _ => hK _ _ _
   ·exact iha _ _ fun _ _ _ => hK _ _ _
  ·rename_i hb
   rw [hb]
   intro r hr
   obtain ⟨h1, h2⟩ := Vh hr
   exact Bz (iha _ _ (fun _ _ _ => hK _ _ _) r h1) (ihb _ _ (fun _ _ _ => hK _ _ _) r h2)
  ·intro r hr; cases hr
 | block id a iha =>
  intro ρ st R _ K K' hK
  simp only [kZ, jr]
  refine iha _ _ fun e v s => ?_
  cases e with
  | exit i =>
   dsimp only
   cases Nat.beq i id
   ·exact hK _ _ _
   ·exact hK _ _ _
  | normal => exact hK _ _ _
  | ret => exact hK _ _ _
 | loop a iha =>
  intro ρ st R _ K K' hK r hr
  simp only [kZ, jr] at hr ⊢
  split at hr
  ·rename_i e ρ' st' hit
   have := SE (n := fE st 0) (dom := keys ρ) (g := fun ρ st => jr (real d) Γ an a ρ st fun e ρ st => some (e, ρ, st)) (fun ρ s => iha ρ s fun e v s => Le.refl _) m ρ st _ hit
   show ((iter _ _ _ _ _).bind _) = _
   rw [this]
   exact hK _ _ _ r hr
  ·cases hr
abbrev XF := Nat → Option (XC × List ResultVar)
def agD (S : Sys) (xf : XF) : Prop := ∀ f x rs, xf f = some (x, rs) → ∃ fn, S.fn f = some fn ∧ fn.body.map (strip (S.tab.ann f)) = some x ∧ fn.results.toList = rs
abbrev XS := Nat → Option (Nat × List Nat × XC × XC)
def agE (S : Sys) (xs : XS) : Prop := ∀ g own ps xa xb, xs g = some (own, ps, xa, xb) → ∃ q, eY.site g = some q ∧ q.own = own ∧ q.ps = ps ∧ strip (S.tab.ann own) q.RD = xa ∧ strip (S.tab.ann own) q.body = xb ∧ S.fn g = none
noncomputable def Vi (c : CF) (m : Nat) (Γ : Tab) (an : kW) (ps : List Nat) (xa xb : XC) (args : List PV) (st : St) : Option (PV × St) :=
 match args with
 | .Bf l i :: args => match look st l i with
  | some (.loop site ρ none) => match ng ps args (Lc (l + 1) ρ) with
   | some ρ1 => kZ c m Γ an xa ρ1 ([] :: st) fun e ρ2 st2 => match e, st2 with
    | .normal, fr :: Xa => match look Xa l i with
     | some (.loop yY ρ' none) => bif Nat.beq site yY then kZ c m Γ an xb ρ2 (fr :: fM Xa l i (.loop yY ρ' (some .normal))) fun e _ st4 => match st4 with
      | _ :: st5 => match look st5 l i with
       | some (.loop qV ρ'' (some .normal)) => bif Nat.beq site qV then (match e with
        | .normal => some (.d (.bool true), fM st5 l i (.loop qV ρ'' none))
        | e => some (.d (.bool false), fM st5 l i (.loop qV ρ'' (some e)))) else none
       | _ => none
      | [] => none else none
     | _ => none
    | _, _ => none
   | none => none
  | _ => none
 | _ => none
theorem le_none {R : Type} {x : Option Obj} {g g' : Nat → Env → Option R} (h : ∀ s ρ, Le (g s ρ) (g' s ρ)) : Le (match x with | some (.loop s ρ none) => g s ρ | _ => none) (match x with | some (.loop s ρ none) => g' s ρ | _ => none) := by
 cases x with
 | none => exact Le.refl _
 | some o =>
  cases o with
  | loop s ρ p => cases p with
   | none => exact h s ρ
   | some e => exact Le.refl _
  | _ => exact Le.refl _
theorem Z0 {c d : CF} (h : NU c d) {m : Nat} {Γ : Tab} {an : kW} {q : Site} {ps : List Nat} {xa xb : XC} (hp : q.ps = ps) (ha : strip an q.RD = xa) (hb : strip an q.body = xb) (args : List PV) (st : St) :
  Le (Vi c m Γ an ps xa xb args st) (round (real d) Γ an q args st) := by
 subst hp ha hb
 cases args with
 | nil => exact Le.refl _
 | cons a args =>
  cases a with
  | Bf l i =>
   unfold Vi round
   dsimp only
   refine le_none fun site ρ => ?_
   cases ng q.ps args (Lc (l + 1) ρ) with
   | none => exact Le.refl _
   | some ρ1 =>
    dsimp only
    rw [zF]
    refine IC h m _ _ _ _ _ fun e v s => ?_
    cases e with
    | exit | ret => exact Le.refl _
    | normal =>
     cases s with
     | nil => exact Le.refl _
     | cons fr Xa =>
      dsimp only
      refine le_none fun yY ρ' => ?_
      cases Nat.beq site yY with
      | false => exact Le.refl _
      | true =>
       simp only [cond_true]
       rw [zF]
       exact IC h m _ _ _ _ _ fun e v s => Le.refl _
  | _ => exact Le.refl _
noncomputable def Xr (c : CF) (m : Nat) (Γ : Tab) (an : kW) (x : XC) (rs : List ResultVar) (args : List PV) (st : St) : Option (PV × St) :=
 nJ (real c) an.take 0 (down.iM 1 args) ([] :: st) fun args st => kZ c m Γ an x (enter 0 args) st fun e ρ st => match e with
  | .exit _ => none
  | _ => leave (real c) Γ an.give rs ρ st
noncomputable def FB (S : Sys) (xf : XF) (xs : XS) (m : Nat) : Nat → CF
 | 0 => fun _ _ _ => none
 | n + 1 => fun f args st => match S.foreign f with
  | some g => g args st
  | none => match xf f with
   | none => match xs f with
    | none => none
    | some (own, ps, xa, xb) => Vi (FB S xf xs m n) m S.tab (S.tab.ann own) ps xa xb args st
   | some (x, rs) => match (S.tab.ann f).arena with
    | false => Xr (FB S xf xs m n) m S.tab (S.tab.ann f) x rs args st
    | true => match Xr (FB S xf xs m n) m S.tab (S.tab.ann f) x rs (down.iM 1 args) ([] :: st) with
     | some (r, _ :: st') => some (up 1 r, st')
     | _ => none
theorem SF {c d : CF} (h : NU c d) {m : Nat} {Γ : Tab} {an : kW} {fn : Func} {x : XC} {rs : List ResultVar} (h1 : fn.body.map (strip an) = some x) (h2 : fn.results.toList = rs) (args : List PV) (st : St) :
  Le (Xr c m Γ an x rs args st) (body (real d) Γ an fn args st) := by
 rw [Hy h1 h2]
 unfold Xr
 rw [RY c d]
 refine RZ _ _ _ _ fun vs st => ?_
 refine IC h m _ _ _ _ _ fun e v s => ?_
 cases e <;> dsimp only <;> (try rw [R3 c d]) <;> exact Le.refl _
theorem Ck {S : Sys} {xf : XF} {xs : XS} (hx : agD S xf) (hs : agE S xs) (m : Nat) : ∀ n, NU (FB S xf xs m n) (call S)
 | 0 => fun _ _ _ r hr => by simp [FB] at hr
 | n + 1 => fun f args st r hr => by
  rw [call.eq_1]
  unfold step
  unfold FB at hr
  split at hr
  ·rename_i g hg; rw [hg]; exact hr
  ·rename_i hg
   rw [hg]
   dsimp only
   split at hr
   ·split at hr
    ·cases hr
    ·rename_i own ps xa xb hxs
     obtain ⟨q, q1, q2, q3, q4, q5, q6⟩ := hs f own ps xa xb hxs
     rw [q6, q1]
     dsimp only
     subst q2
     exact Z0 (Ck hx hs m n) q3 q4 q5 _ _ r hr
   ·rename_i x rs hxf
    obtain ⟨fn, h1, h2, h3⟩ := hx f x rs hxf
    rw [h1]
    dsimp only
    split at hr
    ·rename_i ha
     rw [ha]
     exact SF (Ck hx hs m n) h2 h3 _ _ r hr
    ·rename_i ha
     rw [ha]
     dsimp only
     split at hr
     ·rename_i hb
      rw [SF (Ck hx hs m n) h2 h3 _ _ _ hb]
      exact hr
     ·cases hr
def bare : PV → Bool
 | .d (.int _ _) => true
 | .d (.bool _) => true
 | .d (.str _) => true
 | _ => false
theorem abt {r : PV} (h : bare r = true) {bl ni : List (List eD)} {cl cl' : Nat → Nat} {w w' : World} {v : Value} (hv : ay bl cl w r v) : ay ni cl' w' r v := by
 cases r with
 | d x => cases x <;> simp_all [bare, ay, bY]
 | _ => simp [bare] at h
theorem abu {P : Program} {S : Sys} (hs : vH P S) {f : Nat} {q : PV × St} (h : call S f [] [] = some q) : jl f = false := by
 cases hb : eY.site f with
 | none => simp [jl, hb]
 | some si =>
  exfalso
  obtain ⟨s1, s2, _⟩ := hs.site f si hb
  rw [call] at h
  unfold step at h
  rw [s2, s1] at h
  simp only [hb] at h
  simp [round] at h
theorem Vj {P : Program} {S : Sys} (hs : vH P S) {f : Nat} {r : PV} (hb : bare r = true) (h : call S f [] [] = some (r, [])) :
  tQ P f ∧ ∀ (m : Mt) (w : World) (st : St), bS m st w →
   Calls P f #[] w fun e w' => ∃ v m', e = .returned v ∧ ay m'.blk m'.cl w' r v ∧ Ext m w m' w' ∧ bS m' st w' := by
 obtain ⟨h1, h2⟩ := sound hs f [] [] r [] (abu hs h) h
 refine ⟨h1, fun m w st hw => ?_⟩
 have hw0 : bS ⟨[], m.cl⟩ [] w := ⟨by simp [fA], by simp [blks, gT], hw.le, hw.glob.sub (by simp [blks, gT])⟩
 refine Calls.mono (h2 ⟨[], m.cl⟩ w [] (by simp only [bL]) hw0) ?_
 rintro e w' ⟨v, m1, rfl, hr, hx, hw1⟩
 let cl' : Nat → Nat := fun b => if b < w.heap.size then m.cl b else m1.cl b
 have hkept : ∀ b, b < w.heap.size → w'.heap[b]? = w.heap[b]? := fun b hb => hx.kept b hb (by simp [blks, gT])
 have hlt : ∀ b, m.cl b ≠ 0 → b < w.heap.size := fun b hb => by
  have := hw.le b
  unfold csize at this
  by_cases hc : b < w.heap.size
  ·exact hc
  ·have hn : w.heap[b]? = none := by simp; omega
   rw [hn] at this
   exact absurd (Nat.le_zero.1 this) hb
 have hkeep : Keeps m.cl w cl' w' := by
  refine ⟨fun b => ?_, fun b j hj => ?_⟩
  ·show m.cl b ≤ if b < w.heap.size then m.cl b else m1.cl b
   split
   ·exact Nat.le_refl _
   ·exact hx.keeps.le b
  ·exact hx.keeps.cells b j hj
 refine ⟨v, ⟨m.blk, cl'⟩, rfl, abt hb hr, ⟨hkeep, .refl _, hx.os, hx.tape, hx.output, hx.size, fun b hb _ => hkept b hb, fun b hb => .inl hb⟩, ⟨?_, hw.nodup, fun b => ?_, hw.glob.step (fun b hb _ => hkept b hb) fun b hb => .inl hb⟩⟩
 ·have hO : ∀ (bl : List (List eD)) (o : Obj) (e : eD), bF bl m.cl w o e → bF bl cl' w' o e := by
   intro bl o e ho
   cases o with
   | void => exact ho
   | loop site ρ p =>
    simp only [bF] at ho ⊢
    obtain ⟨a1, a2, r, a3, a4, a5, a6⟩ := ho
    have hl : e.b < w.heap.size := (Array.getElem?_eq_some_iff.1 a3).1
    exact ⟨a1, by show (if e.b < w.heap.size then m.cl e.b else m1.cl e.b) = 0; rw [if_pos hl]; exact a2, r, by rw [hkept _ hl]; exact a3, a4, a5, fun t => (a6 t).keep hkeep (.refl _)⟩
   | box ty cells =>
    simp only [bF] at ho ⊢
    obtain ⟨a1, a2, vs, a3, a4⟩ := ho
    have hl : e.b < w.heap.size := (Array.getElem?_eq_some_iff.1 a3).1
    exact ⟨a1, by show (if e.b < w.heap.size then m.cl e.b else m1.cl e.b) = 0; rw [if_pos hl]; exact a2, vs, by rw [hkept _ hl]; exact a3, aZ.keep hkeep (.refl _) _ _ a4⟩
   | row ty sz rows mt cap =>
    simp only [bF] at ho ⊢
    obtain ⟨a1, a2, a3, a4, a5, a6⟩ := ho
    refine ⟨a1, a2, a3, a4, a5, fun hg => ?_⟩
    obtain ⟨⟨cs, b1, b2⟩, b3, b4⟩ := a6 hg
    have hl : e.b < w.heap.size := (Array.getElem?_eq_some_iff.1 b1).1
    refine ⟨⟨cs, by rw [hkept _ hl]; exact b1, b2⟩, ?_, by show (if e.b < w.heap.size then m.cl e.b else m1.cl e.b) = _; rw [if_pos hl]; exact b4⟩
    have hcell : ∀ (j : Nat), w'.cell? ⟨e.b, j, none⟩ = w.cell? ⟨e.b, j, none⟩ := fun j => by
     have := hkept _ hl
     simp [World.cell?, this]
    have hD : ∀ (l : List D) (o : Nat), bQ m.cl w e.b o l → bQ cl' w' e.b o l := by
     intro l
     induction l with
     | nil => intro o _; simp only [bQ]
     | cons d l ih =>
      intro o hd
      simp only [bQ] at hd ⊢
      obtain ⟨⟨v, c1, c2⟩, c3⟩ := hd
      exact ⟨⟨v, (hcell o).trans c1, bY.keep hkeep d v c2⟩, ih _ c3⟩
    have hR : ∀ (l : List (List D)) (o : Nat), bW m.cl w e.b o sz l → bW cl' w' e.b o sz l := by
     intro l
     induction l with
     | nil => intro o _; simp only [bW]
     | cons d l ih =>
      intro o hd
      simp only [bW] at hd ⊢
      exact ⟨hd.1, hD _ _ hd.2.1, ih _ hd.2.2⟩
    exact hR _ _ b3
   | map kk fl es =>
    simp only [bF] at ho ⊢
    obtain ⟨a1, a2, a3, ents, clock, a4, a5⟩ := ho
    have hl : e.b < w.heap.size := (Array.getElem?_eq_some_iff.1 a4).1
    exact ⟨a1, by show (if e.b < w.heap.size then m.cl e.b else m1.cl e.b) = 0; rw [if_pos hl]; exact a2, a3, ents, clock, by rw [hkept _ hl]; exact a4, gu.keep hkeep (.refl _) _ _ a5⟩
  have hOL : ∀ (bl : List (List eD)) (fr : List Obj) (es : List eD), fI bl m.cl w fr es → fI bl cl' w' fr es := by
   intro bl fr
   induction fr with
   | nil => intro es h; exact h
   | cons o fr ih =>
    intro es h
    simp only [fI] at h ⊢
    obtain ⟨e, s, rfl, h1, h2⟩ := h
    exact ⟨e, s, rfl, hO _ _ _ h1, ih _ h2⟩
  have hSt : ∀ (st : St) (bl : List (List eD)), fA m.cl w st bl → fA cl' w' st bl := by
   intro st
   induction st with
   | nil => intro bl h; exact h
   | cons fr st ih =>
    intro bl h
    simp only [fA] at h ⊢
    obtain ⟨es, r, rfl, h1, h2⟩ := h
    exact ⟨es, r, rfl, hOL _ _ _ h1, ih _ h2⟩
  exact hSt _ _ hw.st
 ·show (if b < w.heap.size then m.cl b else m1.cl b) ≤ csize w' b
  by_cases hb : b < w.heap.size
  ·rw [if_pos hb]
   have : csize w' b = csize w b := by simp only [csize, hkept _ hb]
   rw [this]; exact hw.le b
  ·rw [if_neg hb]; exact hw1.le b
def OB (r : PV) : List PV → St → Option (PV × St) := fun args st => match args with | [] => some (r, st) | _ => none
theorem IE {P : Program} {S : Sys} (hs : vH P S) {xf : XF} {xs : XS} (hx : agD S xf) (hxs : agE S xs) {f : Nat} {r : PV} (hb : bare r = true) {m n : Nat} (h : FB S xf xs m n f [] [] = some (r, [])) :
  tQ P f ∧ ∀ (args : List PV) (st : St) (r' : PV) (st' : St), OB r args st = some (r', st') → ∀ (m : Mt) (w : World) (vs : List Value), bL m.blk m.cl w args vs → bS m st w →
   Calls P f vs.toArray w fun e w' => ∃ v m', e = .returned v ∧ ay m'.blk m'.cl w' r' v ∧ Ext m w m' w' ∧ bS m' st' w' := by
 obtain ⟨h1, h2⟩ := Vj hs hb (Ck hx hxs m n f [] [] _ h)
 refine ⟨h1, fun args st r' st' ha m w vs hv hw => ?_⟩
 cases args with
 | cons x l => cases ha
 | nil =>
  cases ha
  simp only [bL] at hv
  subst hv
  exact h2 m w _ hw
theorem SG {S : Sys} {f : Nat} {r : PV} (h : S.foreign f = some (OB r)) (st : St) : call S f [] st = some (r, st) := by
 rw [call.eq_1]
 unfold step
 rw [h]
 rfl
def pG {α : Type} : List (Nat × α) → Nat → Option α
 | [], _ => none
 | (k, f) :: r, t => bif Nat.beq k t then some f else pG r t
theorem qL {α : Type} {Q : Nat → α → Prop} : ∀ {l : List (Nat × α)}, (∀ p ∈ l, Q p.1 p.2) → ∀ f g, pG l f = some g → Q f g
 | [], _, f, g, h => by simp [pG] at h
 | (k, g) :: r, hl, f, g', h => by
  simp only [pG] at h
  cases hb : Nat.beq k f with
  | true =>
   rw [hb] at h
   simp only [cond_true, Option.some.injEq] at h
   subst h
   have := hl (k, g) (by simp)
   rw [← beq_eq hb]; exact this
  | false =>
   rw [hb] at h
   exact qL (fun p hp => hl p (by simp [hp])) f g' h
theorem apz {S : Sys} {l : List (Nat × (XC × List ResultVar))} (h : ∀ p ∈ l, ∃ fn, S.fn p.1 = some fn ∧ fn.body.map (strip (S.tab.ann p.1)) = some p.2.1 ∧ fn.results.toList = p.2.2) : agD S (pG l) :=
 fun f x rs hx => qL (Q := fun f q => ∃ fn, S.fn f = some fn ∧ fn.body.map (strip (S.tab.ann f)) = some q.1 ∧ fn.results.toList = q.2) h f (x, rs) hx
theorem apA {S : Sys} {l : List (Nat × (Nat × List Nat × XC × XC))} (h : ∀ p ∈ l, (eY.site p.1).map (fun q => (q.own, q.ps, strip (S.tab.ann q.own) q.RD, strip (S.tab.ann q.own) q.body)) = some p.2 ∧ S.fn p.1 = none) : agE S (pG l) := by
 intro g own ps xa xb hx
 obtain ⟨h1, h2⟩ := qL (Q := fun g x => (eY.site g).map (fun q => (q.own, q.ps, strip (S.tab.ann q.own) q.RD, strip (S.tab.ann q.own) q.body)) = some x ∧ S.fn g = none) h g (own, ps, xa, xb) hx
 obtain ⟨q, q1, q2⟩ := Option.map_eq_some_iff.1 h1
 simp only [Prod.mk.injEq] at q2
 obtain ⟨rfl, q3, q4, q5⟩ := q2
 exact ⟨q, q1, rfl, q3, q4, q5, h2⟩
end Go.X
