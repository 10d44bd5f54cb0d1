/- T -/
import Derived.Laws.StructEq
import Derived.CallsIn
import Derived.Test.YtedfkehkcaaplaaXSt
namespace Go.X
open Go
set_option linter.unusedVariables false
variable [bY]
structure Ext (m : Mt) (w : World) (m' : Mt) (w' : World) : Prop where
 keeps : Keeps m.cl w m'.cl w'
 ents : bG m.blk m'.blk
 os : w'.os = w.os
 tape : w'.tape = w.tape
 output : w'.output = w.output
 size : w.heap.size ≤ w'.heap.size
 kept : ∀ b, b < w.heap.size → b ∉ blks m.blk → w'.heap[b]? = w.heap[b]?
 new : ∀ b ∈ blks m'.blk, b ∈ blks m.blk ∨ w.heap.size ≤ b
 cls : ∀ b, b < w.heap.size → b ∉ blks m.blk → m'.cl b = m.cl b
theorem Ext.refl (m : Mt) (w : World) : Ext m w m w := ⟨.refl _ _, .refl _, rfl, rfl, rfl, Nat.le_refl _, fun _ _ _ => rfl, fun _ h => .inl h, fun _ _ _ => rfl⟩
theorem Ext.trans {m1 m2 m3 : Mt} {w1 w2 w3 : World} (h : Ext m1 w1 m2 w2) (k : Ext m2 w2 m3 w3) : Ext m1 w1 m3 w3 :=
 ⟨h.keeps.trans k.keeps, h.ents.trans k.ents, k.os.trans h.os, k.tape.trans h.tape, k.output.trans h.output, Nat.le_trans h.size k.size,
  fun b hb hn => (k.kept b (Nat.lt_of_lt_of_le hb h.size) fun hc => (h.new b hc).elim hn fun h' => by omega).trans (h.kept b hb hn),
  fun b hb => (k.new b hb).elim (h.new b) fun h' => .inr (Nat.le_trans h.size h'),
  fun b hb hn => (k.cls b (Nat.lt_of_lt_of_le hb h.size) fun hc => (h.new b hc).elim hn fun h' => by omega).trans (h.cls b hb hn)⟩
theorem Ext.same {m : Mt} {w w' : World} (h : w'.heap = w.heap) (os : w'.os = w.os) (tape : w'.tape = w.tape) (output : w'.output = w.output) : Ext m w m w' :=
 ⟨⟨fun _ => Nat.le_refl _, fun b j _ => by simp [World.cell?, h]⟩, .refl _, os, tape, output, by rw [h]; exact Nat.le_refl _, fun b _ _ => by rw [h], fun _ h => .inl h, fun _ _ _ => rfl⟩
theorem kM {w w' : World} {b : Nat} (h : w'.heap[b]? = w.heap[b]?) : csize w' b = csize w b := by simp [csize, h]
theorem aO.same {m : Mt} {st : St} {w w' : World} (hw : aO m st w) (h : w'.heap = w.heap) : aO m st w' :=
 ⟨hw.st.keep ⟨fun _ => Nat.le_refl _, fun b j _ => by simp [World.cell?, h]⟩ (fun b _ => ⟨by rw [h], rfl⟩), hw.nodup, fun b => by rw [kM (w' := w') (w := w) (by rw [h])]; exact hw.le b, hw.glob.step (fun b _ _ => by rw [h]) (fun b hb => .inl hb)⟩
theorem Ext.drew (m : Mt) (w : World) : Ext m w m w.drew := Ext.same rfl rfl rfl rfl
theorem aO.drew {m : Mt} {st : St} {w : World} (hw : aO m st w) : aO m st w.drew := hw.same rfl
theorem aj.ext {m m' : Mt} {w w' : World} (h : Ext m w m' w') {x : PV} {v : Value} (hv : aj m.blk m.cl w x v) : aj m'.blk m'.cl w' x v := hv.keep h.keeps h.ents
theorem aK.ext {m m' : Mt} {w w' : World} (h : Ext m w m' w') {x : List PV} {v : List Value} (hv : aK m.blk m.cl w x v) : aK m'.blk m'.cl w' x v := hv.keep h.keeps h.ents
theorem aF.ext {m m' : Mt} {w w' : World} (h : Ext m w m' w') {x : List PV} {v : List Value} (hv : aF m.blk m.cl w x v) : aF m'.blk m'.cl w' x v := hv.keep h.keeps h.ents
def aM (m : Mt) (w : World) (ρ : Env) (a : Act) : Prop := ∀ t, aj m.blk m.cl w (gW ρ t) (a.tmps.getD t undef)
theorem aM.ext {m m' : Mt} {w w' : World} (h : Ext m w m' w') {ρ : Env} {a : Act} (he : aM m w ρ a) : aM m' w' ρ a := fun t => (he t).ext h
theorem qI {k t : Nat} (h : k ≠ t) : Nat.beq k t = false := by
 cases hb : Nat.beq k t with
 | false => rfl
 | true => exact absurd (Nat.eq_of_beq_eq_true hb) h
theorem eY (k : Nat) : Nat.beq k k = true := Nat.beq_refl k
theorem rT : ∀ (ρ : Env) (t : Nat) (x : PV) (u : Nat), gW (est ρ t x) u = if t = u then x else gW ρ u
 | [], t, x, u => by
  simp only [est, gW]
  by_cases h : t = u
  ·subst h; simp [eY]
  ·simp [qI h, h]
 | (k, v) :: r, t, x, u => by
  simp only [est]
  by_cases hk : k = t
  ·subst hk
   simp only [eY, cond_true, gW]
   by_cases h : k = u
   ·subst h; simp [eY]
   ·simp [h, qI h]
  ·simp only [qI hk, cond_false]
   cases hlt : Nat.blt t k with
   | true =>
    simp only [cond_true, gW]
    by_cases h : t = u
    ·subst h; simp [eY]
    ·simp [h, qI h]
   | false =>
    simp only [cond_false, gW, rT r t x u]
    by_cases h : k = u
    ·subst h; simp [Ne.symm hk, eY]
    ·simp [qI h]
def xL (ρ' ρ : Env) : Prop := ∀ t, gW ρ' t = gW ρ t ∨ gW ρ' t = .unk
theorem xL.rel {m : Mt} {w : World} {ρ' ρ : Env} {a : Act} (h : xL ρ' ρ) (he : aM m w ρ a) : aM m w ρ' a := fun t => by
 rcases h t with h | h
 ·rw [h]; exact he t
 ·rw [h]; simp only [aj]
theorem Hr : ∀ (ρ : Env) (t : Nat), xL (del ρ t) ρ := by
 intro ρ t u
 have : gW (del ρ t) u = if t = u then .unk else gW ρ u := by
  induction ρ with
  | nil => simp [del, gW]
  | cons p r ih =>
   obtain ⟨k, v⟩ := p
   simp only [del]
   by_cases hk : k = t
   ·subst hk
    simp only [eY, cond_true, ih, gW]
    by_cases hu : k = u
    ·simp [hu]
    ·simp [hu, qI hu]
   ·simp only [qI hk, cond_false, gW, ih]
    by_cases hu : k = u
    ·subst hu; simp [eY, Ne.symm hk]
    ·simp [qI hu]
 rw [this]
 split
 ·exact .inr rfl
 ·exact .inl rfl
theorem Fy {m : Mt} {w : World} {ρ : Env} {a : Act} {an : iG} {t : Nat} {b : Bool} (he : aM m w ρ a) (h : gW ρ t = .d (.bool b)) : aM m w (Aj an ρ t b) a := by
 unfold Aj
 cases an.again t with
 | false => exact (Hr ρ t).rel he
 | true =>
  intro u
  simp only [cond_true]
  rw [rT]
  split
  ·rename_i hu
   subst hu
   rw [← h]
   exact he t
  ·exact he u
theorem jL (l : List Nat) (ρ : Env) : xL (aB l ρ) ρ := by
 intro t
 have : gW (aB l ρ) t = bif mem t l then gW ρ t else .unk := by
  induction ρ with
  | nil => simp only [aB, gW]; cases mem t l <;> rfl
  | cons p r ih =>
   obtain ⟨k, v⟩ := p
   simp only [aB]
   by_cases hk : k = t
   ·subst hk
    cases hm : mem k l with
    | true => simp [gW, eY]
    | false => simp [ih, hm]
   ·cases hm : mem k l with
    | true => simp only [cond_true, gW, qI hk, cond_false, ih]
    | false => simp only [cond_false, gW, qI hk, ih]
 rw [this]
 cases mem t l with
 | true => exact .inl rfl
 | false => exact .inr rfl
theorem aM.put {m : Mt} {w : World} {ρ : Env} {a : Act} {x : PV} {v : Value} {d : Nat} (he : aM m w ρ a) (hv : aj m.blk m.cl w x v) (hd : d < a.tmps.size) : aM m w (est ρ d x) (a.put (some d) v) := fun t => by
 rw [rT]
 by_cases h : d = t
 ·subst h; simp [Act.put, hd]; exact hv
 ·rw [if_neg h]
  have : (a.put (some d) v).tmps.getD t undef = a.tmps.getD t undef := by simp [Act.put, Array.getElem?_setIfInBounds_ne h]
  rw [this]
  exact he t
theorem aM.oh {m : Mt} {w : World} {ρ : Env} {a : Act} {x : PV} {v : Value} {d : Option Nat} (he : aM m w ρ a) (hv : aj m.blk m.cl w x v) (hd : ∀ n, d = some n → n < a.tmps.size) : aM m w (oh ρ d x) (a.put d v) := by
 cases d with
 | none => exact he
 | some n => exact he.put hv (hd n rfl)
theorem SG {bl : List (List bZ)} {cl : Nat → Nat} {w : World} {v : Value} {d : D} (h : lit.abz v = some d) : aZ cl w d v := by
 unfold lit.abz at h
 split at h <;> first | (cases h; simp [aZ]; done) | cases h
theorem Ku {bl : List (List bZ)} {cl : Nat → Nat} {w : World} : ∀ {cs : List Value} {l : List PV}, lit.lits cs = some l → aF bl cl w l cs
 | [], l, h => by simp [lit.lits] at h; subst h; rfl
 | v :: r, l, h => by
  simp only [lit.lits] at h
  split at h
  ·rename_i d l' h1 h2
   cases h
   have hd := SG (bl := bl) (cl := cl) (w := w) h1
   exact ⟨v, r, rfl, by simpa only [aj] using hd, hd.one, Ku h2⟩
  ·cases h
theorem Xu (bl : List (List bZ)) (cl : Nat → Nat) (w : World) (v : Value) : aj bl cl w (lit v) v := by
 unfold lit
 split <;> try (simp [aj, aZ]; done)
 split
 ·rename_i cs _ l h
  simp only [aj]
  exact ⟨cs.toList, by simp, Ku h⟩
 ·simp only [aj]
section
variable {m : Mt} {w : World} {ρ : Env} {a : Act} (he : aM m w ρ a)
include he
theorem bV (x : Operand) : aj m.blk m.cl w (ev ρ x) (a.eval x) := by
 cases x with
 | tmp t => exact he t
 | const v => exact Xu _ _ _ v
 | func f => simp only [ev, aj, aZ, Act.eval]; exact ⟨[], rfl, rfl⟩
 | global g => simp only [ev, aj]
theorem xM : ∀ (xs : List Operand), aK m.blk m.cl w (evs ρ xs) (xs.map a.eval)
 | [] => rfl
 | x :: r => ⟨_, _, rfl, bV he x, xM r⟩
end
def Fw (ro : Option Nat) : Fence := { fn := fun _ => True, depth := none, alive := false, round := ro }
theorem adQ (l : Nat) (ro : Option Nat) : (Fw ro).inRound l = Fw (some l) := rfl
theorem Kv {ro : Option Nat} {n : Nat} {P : Program} {f : FuncId} {args : Array Value} {w : World} {R : Ending → World → Prop} (h : Calls P f args w R) : CallsIn (Fw ro) n P f args w R := callsIn_wide.2 h
theorem qJ {ro : Option Nat} {P : Program} {o : Oper} {ρ : Operand → Value} {w w' : World} {x : Next} (hx : ∀ d, x ≠ .defer d) (h : (execOp ρ o).run P w = .ok x w') : (o.semAt ro ρ).run P w = .ok x w' := by
 by_cases hd : ∃ c, o.op = .defer c
 ·exfalso
  obtain ⟨c, hc⟩ := hd
  simp only [execOp, hc] at h
  rw [Sem.run_bind] at h
  cases hr : (resolve ρ c o.type).run P w with
  | ok d w1 =>
   rw [hr] at h
   simp [Result.andThen] at h
   exact hx d h.1.symm
  | halt q w1 => rw [hr] at h; simp [Result.andThen] at h
 ·rw [Oper.semAt_eq ro ρ o fun c hc => hd ⟨c, hc⟩]; exact h
def Goes {R : Type} (P : Program) (o : Oper) (a : Act) (w : World) (m : Mt) (K : PV → St → Option R) (r : R) : Prop :=
 ∀ (next : Act → World → Prop) (Q : Exit → Act → World → Prop),
  (∀ pv st' m' w' v, K pv st' = some r → Ext m w m' w' → aO m' st' w' → aj m'.blk m'.cl w' pv v → next (a.put o.dst v) w') → ∀ ro, o.wpIn (Fw ro) 0 P a w next Q
section
variable {R : Type} {P : Program} {o : Oper} {a : Act} {w : World} {m : Mt} {K : PV → St → Option R} {r : R} {st : St}
theorem Goes.value {pv : PV} {v : Value} (hr : (execOp a.eval o).run P w = .ok (.value v) w) (hK : K pv st = some r) (hw : aO m st w) (hv : aj m.blk m.cl w pv v) : Goes P o a w m K r := by
 intro next Q h ro
 refine ⟨fun _ _ => trivial, ?_⟩
 have hr' := qJ (ro := ro) (by intro d hd; cases hd) hr
 rw [show (Fw ro).round = ro from rfl, hr']
 exact h pv st m w v hK (Ext.refl m w) hw hv
theorem Goes.value' {pv : PV} {v : Value} {w' : World} {m' : Mt} {st' : St} (hr : (execOp a.eval o).run P w = .ok (.value v) w') (hK : K pv st' = some r) (hx : Ext m w m' w') (hw : aO m' st' w') (hv : aj m'.blk m'.cl w' pv v) : Goes P o a w m K r := by
 intro next Q h ro
 refine ⟨fun _ _ => trivial, ?_⟩
 have hr' := qJ (ro := ro) (by intro d hd; cases hd) hr
 rw [show (Fw ro).round = ro from rfl, hr']
 exact h pv st' m' w' v hK hx hw hv
theorem Goes.skip' {w' : World} {m' : Mt} {st' : St} (hr : (execOp a.eval o).run P w = .ok .skip w') (hK : K .skip st' = some r) (hx : Ext m w m' w') (hw : aO m' st' w') : Goes P o a w m K r := by
 intro next Q h ro
 refine ⟨fun _ _ => trivial, ?_⟩
 have hr' := qJ (ro := ro) (by intro d hd; cases hd) hr
 rw [show (Fw ro).round = ro from rfl, hr']
 exact h .skip st' m' w' undef hK hx hw (by simp only [aj])
end
def rU : TypeDesc → Bool
 | .struct _ => false
 | .array _ _ => false
 | _ => true
def kD (P : Program) (Γ : Tab) (t : Nat) : Prop :=
 match Γ.ty t with
 | .int k => P.underlying t = some (.int k)
 | .bool => P.underlying t = some .bool
 | .str => P.underlying t = some .string
 | .ptr e => P.underlying t = some (.pointer e)
 | .sc => ∃ d, P.underlying t = some d ∧ rU d = true
 | .map k e => P.underlying t = some (.map k e)
 | .slice e sz bytes => P.underlying t = some (.slice e) ∧ 0 < sz ∧ ∃ i, P.info? e = some i ∧ i.size = sz ∧ i.bytes = bytes ∧ 0 < bytes
 | .agg n fs => ∃ fields, P.underlying t = some (.struct fields) ∧ (∃ i, P.info? t = some i ∧ i.size = n) ∧ fields.size = fs.length ∧
   ∀ (j : Nat) f q, fields[j]? = some f → fs[j]? = some q → f.offset = q.1 ∧ f.type = q.2.2 ∧ q.2.1 ≠ 0 ∧ ∃ i, P.info? f.type = some i ∧ i.size = q.2.1
 | .array n e => P.underlying t = some (.array n e) ∧ (∃ d, P.underlying e = some d ∧ rU d = true) ∧ ∃ i, P.info? e = some i ∧ i.size = 1
 | .bad => True
def SH (P : Program) (Γ : Tab) (t : Nat) : Prop := Γ.zero t ≠ [] → ∃ i z, P.info? t = some i ∧ i.zero = some z ∧ i.size = (Γ.zero t).length ∧ z.cells.toList.length = i.size ∧ (∀ cl w, bR cl w (Γ.zero t) z.cells.toList) ∧ (match Γ.ty t with | .agg n _ => z = .agg z.cells ∧ (Γ.zero t).length = n | _ => z.cells = #[z])
structure SI (P : Program) (t : Nat) : Prop where
 ty : P.underlying t = some (.struct (P.fieldsOf t))
 held : P.stoodInHeld t = false
 guard : P.eqGuardType P.depth t = false
 abA : ∀ (j : Nat) f, (P.fieldsOf t).toList[j]? = some f → f.offset = j ∧ f.name ≠ "_"
structure cZ (P : Program) (Γ : Tab) : Prop where
 ty : ∀ t, kD P Γ t
 zero : ∀ t, SH P Γ t
 eq : ∀ t, Γ.eqs t = true → SI P t
 unit : ∀ t fs, Γ.ty t = .agg 0 fs → ∃ i, P.info? t = some i ∧ i.zero = some (.agg #[])
end Go.X
