/- Each operation of the interpreter is what the machine does. -/
import Derived.Laws.StructEq
import Derived.CallsIn
import Derived.Test.YtipkggkbldgmjaaGreatXSt
namespace Go.X
open Go
set_option linter.unusedSectionVars false
set_option linter.unusedSimpArgs false
set_option linter.unusedVariables false
variable [eY]
structure Ext (m : Mt) (w : World) (m' : Mt) (w' : World) : Prop where
 keeps : Keeps m.cl w m'.cl w'
 ents : dR m.blk m'.blk
 os : w'.os = w.os
 tape : w'.tape = w.tape
 output : w'.output = w.output
 size : w.heap.size ≤ w'.heap.size
 kept : ∀ b, b < w.heap.size → b ∉ blks m.blk → w'.heap[b]? = w.heap[b]?
 new : ∀ b ∈ blks m'.blk, b ∈ blks m.blk ∨ w.heap.size ≤ b
theorem Ext.refl (m : Mt) (w : World) : Ext m w m w := ⟨.refl _ _, .refl _, rfl, rfl, rfl, Nat.le_refl _, fun _ _ _ => rfl, fun _ h => .inl h⟩
theorem Ext.trans {m1 m2 m3 : Mt} {w1 w2 w3 : World} (h : Ext m1 w1 m2 w2) (k : Ext m2 w2 m3 w3) : Ext m1 w1 m3 w3 :=
 ⟨h.keeps.trans k.keeps, h.ents.trans k.ents, k.os.trans h.os, k.tape.trans h.tape, k.output.trans h.output, Nat.le_trans h.size k.size,
  fun b hb hn => (k.kept b (Nat.lt_of_lt_of_le hb h.size) fun hc => (h.new b hc).elim hn fun h' => by omega).trans (h.kept b hb hn),
  fun b hb => (k.new b hb).elim (h.new b) fun h' => .inr (Nat.le_trans h.size h')⟩
theorem Ext.same {m : Mt} {w w' : World} (h : w'.heap = w.heap) (os : w'.os = w.os) (tape : w'.tape = w.tape) (output : w'.output = w.output) : Ext m w m w' :=
 ⟨⟨fun _ => Nat.le_refl _, fun b j _ => by simp [World.cell?, h]⟩, .refl _, os, tape, output, by rw [h]; exact Nat.le_refl _, fun b _ _ => by rw [h], fun _ h => .inl h⟩
theorem lG {w w' : World} {b : Nat} (h : w'.heap[b]? = w.heap[b]?) : csize w' b = csize w b := by simp [csize, h]
theorem bS.same {m : Mt} {st : St} {w w' : World} (hw : bS m st w) (h : w'.heap = w.heap) : bS m st w' :=
 ⟨hw.st.keep ⟨fun _ => Nat.le_refl _, fun b j _ => by simp [World.cell?, h]⟩ (fun b _ => ⟨by rw [h], rfl⟩), hw.nodup, fun b => by rw [lG (w' := w') (w := w) (by rw [h])]; exact hw.le b, hw.glob.step (fun b _ _ => by rw [h]) (fun b hb => .inl hb)⟩
theorem Ext.drew (m : Mt) (w : World) : Ext m w m w.drew := Ext.same rfl rfl rfl rfl
theorem bS.drew {m : Mt} {st : St} {w : World} (hw : bS m st w) : bS m st w.drew := hw.same rfl
theorem ay.ext {m m' : Mt} {w w' : World} (h : Ext m w m' w') {x : PV} {v : Value} (hv : ay m.blk m.cl w x v) : ay m'.blk m'.cl w' x v := hv.keep h.keeps h.ents
theorem bL.ext {m m' : Mt} {w w' : World} (h : Ext m w m' w') {x : List PV} {v : List Value} (hv : bL m.blk m.cl w x v) : bL m'.blk m'.cl w' x v := hv.keep h.keeps h.ents
theorem aZ.ext {m m' : Mt} {w w' : World} (h : Ext m w m' w') {x : List PV} {v : List Value} (hv : aZ m.blk m.cl w x v) : aZ m'.blk m'.cl w' x v := hv.keep h.keeps h.ents
def bR (m : Mt) (w : World) (ρ : Env) (a : Act) : Prop := ∀ t, ay m.blk m.cl w (jw ρ t) (a.tmps.getD t undef)
theorem bR.ext {m m' : Mt} {w w' : World} (h : Ext m w m' w') {ρ : Env} {a : Act} (he : bR m w ρ a) : bR m' w' ρ a := fun t => (he t).ext h
theorem vY {k t : Nat} (h : k ≠ t) : Nat.beq k t = false := by
 cases hb : Nat.beq k t with
 | false => rfl
 | true => exact absurd (Nat.eq_of_beq_eq_true hb) h
theorem iP (k : Nat) : Nat.beq k k = true := Nat.beq_refl k
theorem tq : ∀ (ρ : Env) (t : Nat) (x : PV) (u : Nat), jw (est ρ t x) u = if t = u then x else jw ρ u
 | [], t, x, u => by
  simp only [est, jw]
  by_cases h : t = u
  ·subst h; simp [iP]
  ·simp [vY h, h]
 | (k, v) :: r, t, x, u => by
  simp only [est]
  by_cases hk : k = t
  ·subst hk
   simp only [iP, cond_true, jw]
   by_cases h : k = u
   ·subst h; simp [iP]
   ·simp [h, vY h]
  ·simp only [vY hk, cond_false]
   cases hlt : Nat.blt t k with
   | true =>
    simp only [cond_true, jw]
    by_cases h : t = u
    ·subst h; simp [iP]
    ·simp [h, vY h]
   | false =>
    simp only [cond_false, jw, tq r t x u]
    by_cases h : k = u
    ·subst h; simp [Ne.symm hk, iP]
    ·simp [vY h]
def Br (ρ' ρ : Env) : Prop := ∀ t, jw ρ' t = jw ρ t ∨ jw ρ' t = .unk
theorem Br.rel {m : Mt} {w : World} {ρ' ρ : Env} {a : Act} (h : Br ρ' ρ) (he : bR m w ρ a) : bR m w ρ' a := fun t => by
 rcases h t with h | h
 ·rw [h]; exact he t
 ·rw [h]; simp only [ay]
theorem NK : ∀ (ρ : Env) (t : Nat), Br (del ρ t) ρ := by
 intro ρ t u
 have : jw (del ρ t) u = if t = u then .unk else jw ρ u := by
  induction ρ with
  | nil => simp [del, jw]
  | cons p r ih =>
   obtain ⟨k, v⟩ := p
   simp only [del]
   by_cases hk : k = t
   ·subst hk
    simp only [iP, cond_true, ih, jw]
    by_cases hu : k = u
    ·simp [hu]
    ·simp [hu, vY hu]
   ·simp only [vY hk, cond_false, jw, ih]
    by_cases hu : k = u
    ·subst hu; simp [iP, Ne.symm hk]
    ·simp [vY hu]
 rw [this]
 split
 ·exact .inr rfl
 ·exact .inl rfl
theorem Li {m : Mt} {w : World} {ρ : Env} {a : Act} {an : kW} {t : Nat} {b : Bool} (he : bR m w ρ a) (h : jw ρ t = .d (.bool b)) : bR m w (E9 an ρ t b) a := by
 unfold E9
 cases an.again t with
 | false => exact (NK ρ t).rel he
 | true =>
  intro u
  simp only [cond_true]
  rw [tq]
  split
  ·rename_i hu
   subst hu
   rw [← h]
   exact he t
  ·exact he u
theorem kF (l : List Nat) (ρ : Env) : Br (bn l ρ) ρ := by
 intro t
 have : jw (bn l ρ) t = bif mem t l then jw ρ t else .unk := by
  induction ρ with
  | nil => simp only [bn, jw]; cases mem t l <;> rfl
  | cons p r ih =>
   obtain ⟨k, v⟩ := p
   simp only [bn]
   by_cases hk : k = t
   ·subst hk
    cases hm : mem k l with
    | true => simp [jw, iP]
    | false => simp [ih, hm]
   ·cases hm : mem k l with
    | true => simp only [cond_true, jw, vY hk, cond_false, ih]
    | false => simp only [cond_false, jw, vY hk, ih]
 rw [this]
 cases mem t l with
 | true => exact .inl rfl
 | false => exact .inr rfl
theorem bR.put {m : Mt} {w : World} {ρ : Env} {a : Act} {x : PV} {v : Value} {d : Nat} (he : bR m w ρ a) (hv : ay m.blk m.cl w x v) (hd : d < a.tmps.size) : bR m w (est ρ d x) (a.put (some d) v) := fun t => by
 rw [tq]
 by_cases h : d = t
 ·subst h; simp [Act.put, hd]; exact hv
 ·rw [if_neg h]
  have : (a.put (some d) v).tmps.getD t undef = a.tmps.getD t undef := by simp [Act.put, Array.getElem?_setIfInBounds_ne h]
  rw [this]
  exact he t
theorem bR.qA {m : Mt} {w : World} {ρ : Env} {a : Act} {x : PV} {v : Value} {d : Option Nat} (he : bR m w ρ a) (hv : ay m.blk m.cl w x v) (hd : ∀ n, d = some n → n < a.tmps.size) : bR m w (qA ρ d x) (a.put d v) := by
 cases d with
 | none => exact he
 | some n => exact he.put hv (hd n rfl)
theorem aaA {bl : List (List eD)} {cl : Nat → Nat} {w : World} {v : Value} {d : D} (h : lit.akh v = some d) : bY cl w d v := by
 unfold lit.akh at h
 split at h <;> first | (cases h; simp [bY]; done) | cases h
theorem RP {bl : List (List eD)} {cl : Nat → Nat} {w : World} : ∀ {cs : List Value} {l : List PV}, lit.lits cs = some l → aZ bl cl w l cs
 | [], l, h => by simp [lit.lits] at h; subst h; rfl
 | v :: r, l, h => by
  simp only [lit.lits] at h
  split at h
  ·rename_i d l' h1 h2
   cases h
   have hd := aaA (bl := bl) (cl := cl) (w := w) h1
   exact ⟨v, r, rfl, by simpa only [ay] using hd, hd.one, RP h2⟩
  ·cases h
theorem agb (bl : List (List eD)) (cl : Nat → Nat) (w : World) (v : Value) : ay bl cl w (lit v) v := by
 unfold lit
 split <;> try (simp [ay, bY]; done)
 split
 ·rename_i cs _ l h
  simp only [ay]
  exact ⟨cs.toList, by simp, RP h⟩
 ·simp only [ay]
section
variable {m : Mt} {w : World} {ρ : Env} {a : Act} (he : bR m w ρ a)
include he
theorem dY (x : Operand) : ay m.blk m.cl w (ev ρ x) (a.eval x) := by
 cases x with
 | tmp t => exact he t
 | const v => exact agb _ _ _ v
 | func f => simp only [ev, ay, bY, Act.eval]; exact ⟨[], rfl, rfl⟩
 | global g => simp only [ev, ay]
theorem Bt : ∀ (xs : List Operand), bL m.blk m.cl w (evs ρ xs) (xs.map a.eval)
 | [] => rfl
 | x :: r => ⟨_, _, rfl, dY he x, Bt r⟩
end
def Fw (ro : Option Nat) : Fence := { fn := fun _ => True, depth := none, alive := false, round := ro }
theorem apn (l : Nat) (ro : Option Nat) : (Fw ro).inRound l = Fw (some l) := rfl
theorem RQ {ro : Option Nat} {n : Nat} {P : Program} {f : FuncId} {args : Array Value} {w : World} {R : Ending → World → Prop} (h : Calls P f args w R) : CallsIn (Fw ro) n P f args w R := callsIn_wide.2 h
theorem vZ {ro : Option Nat} {P : Program} {o : Oper} {ρ : Operand → Value} {w w' : World} {x : Next} (hx : ∀ d, x ≠ .defer d) (h : (execOp ρ o).run P w = .ok x w') : (o.semAt ro ρ).run P w = .ok x w' := by
 by_cases hd : ∃ c, o.op = .defer c
 ·exfalso
  obtain ⟨c, hc⟩ := hd
  simp only [execOp, hc] at h
  rw [Sem.run_bind] at h
  cases hr : (resolve ρ c o.type).run P w with
  | ok d w1 =>
   rw [hr] at h
   simp [Result.andThen] at h
   exact hx d h.1.symm
  | halt q w1 => rw [hr] at h; simp [Result.andThen] at h
 ·rw [Oper.semAt_eq ro ρ o fun c hc => hd ⟨c, hc⟩]; exact h
def Goes {R : Type} (P : Program) (o : Oper) (a : Act) (w : World) (m : Mt) (K : PV → St → Option R) (r : R) : Prop :=
 ∀ (next : Act → World → Prop) (Q : Exit → Act → World → Prop),
  (∀ pv st' m' w' v, K pv st' = some r → Ext m w m' w' → bS m' st' w' → ay m'.blk m'.cl w' pv v → next (a.put o.dst v) w') → ∀ ro, o.wpIn (Fw ro) 0 P a w next Q
section
variable {R : Type} {P : Program} {o : Oper} {a : Act} {w : World} {m : Mt} {K : PV → St → Option R} {r : R} {st : St}
theorem Goes.value {pv : PV} {v : Value} (hr : (execOp a.eval o).run P w = .ok (.value v) w) (hK : K pv st = some r) (hw : bS m st w) (hv : ay m.blk m.cl w pv v) : Goes P o a w m K r := by
 intro next Q h ro
 refine ⟨fun _ _ => trivial, ?_⟩
 have hr' := vZ (ro := ro) (by intro d hd; cases hd) hr
 rw [show (Fw ro).round = ro from rfl, hr']
 exact h pv st m w v hK (Ext.refl m w) hw hv
theorem Goes.value' {pv : PV} {v : Value} {w' : World} {m' : Mt} {st' : St} (hr : (execOp a.eval o).run P w = .ok (.value v) w') (hK : K pv st' = some r) (hx : Ext m w m' w') (hw : bS m' st' w') (hv : ay m'.blk m'.cl w' pv v) : Goes P o a w m K r := by
 intro next Q h ro
 refine ⟨fun _ _ => trivial, ?_⟩
 have hr' := vZ (ro := ro) (by intro d hd; cases hd) hr
 rw [show (Fw ro).round = ro from rfl, hr']
 exact h pv st' m' w' v hK hx hw hv
theorem Goes.skip' {w' : World} {m' : Mt} {st' : St} (hr : (execOp a.eval o).run P w = .ok .skip w') (hK : K .skip st' = some r) (hx : Ext m w m' w') (hw : bS m' st' w') : Goes P o a w m K r := by
 intro next Q h ro
 refine ⟨fun _ _ => trivial, ?_⟩
 have hr' := vZ (ro := ro) (by intro d hd; cases hd) hr
 rw [show (Fw ro).round = ro from rfl, hr']
 exact h .skip st' m' w' undef hK hx hw (by simp only [ay])
end
def tu : TypeDesc → Bool
 | .struct _ => false
 | .array _ _ => false
 | _ => true
def lH (P : Program) (Γ : Tab) (t : Nat) : Prop :=
 match Γ.ty t with
 | .int k => P.underlying t = some (.int k)
 | .bool => P.underlying t = some .bool
 | .str => P.underlying t = some .string
 | .ptr e => P.underlying t = some (.pointer e)
 | .sc => ∃ d, P.underlying t = some d ∧ tu d = true
 | .map k e => P.underlying t = some (.map k e)
 | .slice e sz bytes => P.underlying t = some (.slice e) ∧ 0 < sz ∧ ∃ i, P.info? e = some i ∧ i.size = sz ∧ i.bytes = bytes ∧ 0 < bytes
 | .agg n fs => ∃ fields, P.underlying t = some (.struct fields) ∧ (∃ i, P.info? t = some i ∧ i.size = n) ∧ fields.size = fs.length ∧
   ∀ (j : Nat) f q, fields[j]? = some f → fs[j]? = some q → f.offset = q.1 ∧ f.type = q.2.2 ∧ q.2.1 ≠ 0 ∧ ∃ i, P.info? f.type = some i ∧ i.size = q.2.1
 | .array n e => P.underlying t = some (.array n e) ∧ (∃ d, P.underlying e = some d ∧ tu d = true) ∧ ∃ i, P.info? e = some i ∧ i.size = 1
 | .bad => True
def aaB (P : Program) (Γ : Tab) (t : Nat) : Prop := Γ.zero t ≠ [] → ∃ i z, P.info? t = some i ∧ i.zero = some z ∧ i.size = (Γ.zero t).length ∧ z.cells.toList.length = i.size ∧ (∀ cl w, dW cl w (Γ.zero t) z.cells.toList) ∧ (match Γ.ty t with | .agg n _ => z = .agg z.cells ∧ (Γ.zero t).length = n | _ => z.cells = #[z])
structure aaC (P : Program) (t : Nat) : Prop where
 ty : P.underlying t = some (.struct (P.fieldsOf t))
 held : P.stoodInHeld t = false
 guard : P.eqGuardType P.depth t = false
 aki : ∀ (j : Nat) f, (P.fieldsOf t).toList[j]? = some f → f.offset = j ∧ f.name ≠ "_"
structure eO (P : Program) (Γ : Tab) : Prop where
 ty : ∀ t, lH P Γ t
 zero : ∀ t, aaB P Γ t
 eq : ∀ t, Γ.eqs t = true → aaC P t
 unit : ∀ t fs, Γ.ty t = .agg 0 fs → ∃ i, P.info? t = some i ∧ i.zero = some (.agg #[])
end Go.X
