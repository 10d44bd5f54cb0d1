/- T -/
import Derived.Test.YtedfkehkcaaplaaXOp8
import Derived.Test.YtedfkehkcaaplaaXTrim
import Derived.Deep.AppendSrc
import Derived.RangeFuncRecord
namespace Go.X
open Go Go.MapKept
set_option linter.unusedVariables false
variable [bY]
section
variable {R : Type} {P : Program} {Γ : Tab} {cf : CF} {an : iG} {o : Oper} {a : Act} {w : World} {m : Mt} {K : PV → St → Option R} {r : R} {st : St} {ρ : Env}
theorem CO (he : aM m w ρ a) {c : Call} {v : PV} (h : evs ρ c.args.toList = [v]) : ∃ x, c.args = #[x] ∧ ev ρ x = v := by
 cases hc : c.args.toList with
 | nil => rw [hc] at h; simp [evs] at h
 | cons x l =>
  rw [hc] at h
  cases l with
  | nil => simp [evs] at h; exact ⟨x, by apply Array.ext'; simpa using hc, h⟩
  | cons y l => simp [evs] at h
theorem uD (he : aM m w ρ a) {c : Call} {v u : PV} (h : evs ρ c.args.toList = [v, u]) : ∃ x y, c.args = #[x, y] ∧ ev ρ x = v ∧ ev ρ y = u := by
 cases hc : c.args.toList with
 | nil => rw [hc] at h; simp [evs] at h
 | cons x l =>
  rw [hc] at h
  cases l with
  | nil => simp [evs] at h
  | cons y l =>
   cases l with
   | nil => simp [evs] at h; exact ⟨x, y, by apply Array.ext'; simpa using hc, h.1, h.2⟩
   | cons z l => simp [evs] at h
theorem zC {c : Call} {t : Nat} (h : c.argTypes.toList = [t]) : c.argTypes = #[t] := by apply Array.ext'; simpa using h
theorem FQ {c : Call} {t u : Nat} (h : c.argTypes.toList = [t, u]) : c.argTypes = #[t, u] := by apply Array.ext'; simpa using h
theorem jf (hΓ : cZ P Γ) {t e sz b : Nat} (h : Γ.ty t = .slice e sz b) : P.underlying t = some (.slice e) ∧ 0 < sz ∧ ∃ i, P.info? e = some i ∧ i.size = sz ∧ i.bytes = b ∧ 0 < b := by
 have ht := hΓ.ty t
 unfold kD at ht
 simpa only [h] using ht
theorem Tt (hΓ : cZ P Γ) {t : Nat} (h : Γ.ty t = .str) : P.underlying t = some .string := by
 have ht := hΓ.ty t
 unfold kD at ht
 simpa only [h] using ht
theorem Tv (hΓ : cZ P Γ) (he : aM m w ρ a) (hw : aO m st w) {c : Call} (hop : o.op = .call c) (hc : c.callee = .builtin .len) {v : PV} {t : Nat} (hv : evs ρ c.args.toList = [v]) (ht : c.argTypes.toList = [t])
  (h : (match (generalizing := false) Γ.ty t, v with
    | .str, .d (.str s) => K (.d (.int .i64 ((real cf).zk s))) st
    | .slice _ _ _, .d (.sl rows _) => (real cf).MW rows fun n => K (.d (.int .i64 n)) st
    | .slice _ _ _, .row _ _ n => K (.d (.int .i64 n)) st
    | .map _ _, .d .tq => K (.d (.int .i64 0)) st
    | .map _ _, .map l i => match look st l i with
     | some (.map _ _ es) => (real cf).Fj es fun n => K (.d (.int .i64 n)) st
     | _ => none
    | _, _ => none) = some r) : Goes P o a w m K r := by
 simp only [ji, oo] at h
 obtain ⟨x, hx, hxv⟩ := CO he hv
 have jw := zC ht
 have hp := bV he x
 rw [hxv] at hp
 have run : ∀ (n : Int) (v : Value), a.eval x = v → (Builtin.len_ #[t] o.type #[v]).run P w = .ok (.int .i64 n) w → (execOp a.eval o).run P w = .ok (.value (.int .i64 n)) w := by
  intro n v hv hr
  simp [execOp, hop, resolve, hc, hx, jw, invoke, builtin, hv, hr]
 have done : ∀ (n : Int), K (.d (.int .i64 n)) st = some r → (execOp a.eval o).run P w = .ok (.value (.int .i64 n)) w → Goes P o a w m K r := fun n hK hr => Goes.value hr hK hw (by simp only [aj, aZ])
 split at h
 ·rename_i s hty
  simp only [aj, aZ] at hp
  exact done _ h (run _ _ hp (by simp [Builtin.len_, run_underlying (Tt hΓ hty), goInt, real]))
 ·rename_i e sz b rows ext hty
  simp only [aj, aZ] at hp
  have hu := (jf hΓ hty).1
  rcases hp with ⟨⟨base, hp⟩, rfl, _⟩ | ⟨sz', b, off, cap, hp, _⟩
  ·exact done _ h (run _ _ hp (by simp [Builtin.len_, run_underlying hu, goInt, real]))
  ·exact done _ h (run _ _ hp (by simp [Builtin.len_, run_underlying hu, goInt, real]))
 ·rename_i e sz b l i n hty
  simp only [aj] at hp
  have hu := (jf hΓ hty).1
  obtain ⟨e', _, h0, _, hp⟩ := hp
  rcases hp with ⟨rfl, _, base, hp⟩ | ⟨b', cap, hp, _⟩
  ·exact done _ h (run _ _ hp (by simp [Builtin.len_, run_underlying hu, goInt]))
  ·refine done _ h (run _ _ hp ?_)
   have : ((n.toNat : Nat) : Int) = n := by omega
   simp [Builtin.len_, run_underlying hu, goInt, this]
 ·rename_i k e hty
  simp only [aj, aZ] at hp
  exact done _ h (run _ _ hp (by simp [Builtin.len_, run_underlying (uy hΓ hty), goInt]))
 ·rename_i k e l i hty
  simp only [aj] at hp
  obtain ⟨en, p1, p0, p2⟩ := hp
  split at h
  ·rename_i kk fl es hl
   obtain ⟨e', k3, k4⟩ := hw.st.je hl
   rw [p1] at k3; cases k3
   simp only [aL] at k4
   obtain ⟨g1, g2, gf, ents, clock, g3, g4⟩ := k4
   have hlen := g4.len
   refine done _ h (run _ _ p2 ?_)
   have : ents.size = es.length := by simpa using hlen
   simp [Builtin.len_, run_underlying (uy hΓ hty), Go.MapKept.run_getObj_map g3, goInt, real, this]
  ·cases h
 ·cases h
theorem Tw (hΓ : cZ P Γ) (he : aM m w ρ a) (hw : aO m st w) {c : Call} (hop : o.op = .call c) (hc : c.callee = .builtin .cap) {v : PV} {t : Nat} (hv : evs ρ c.args.toList = [v]) (ht : c.argTypes.toList = [t])
  (h : (match (generalizing := false) Γ.ty t, v with
    | .slice _ _ _, .d (.sl rows (some hid)) => (real cf).BU rows hid fun _ n => K (.d (.int .i64 n)) st
    | _, _ => none) = some r) : Goes P o a w m K r := by
 simp only [jk] at h
 obtain ⟨x, hx, hxv⟩ := CO he hv
 have jw := zC ht
 have hp := bV he x
 rw [hxv] at hp
 split at h
 ·rename_i e sz b rows hid hty
  simp only [aj, aZ] at hp
  have hu := (jf hΓ hty).1
  rcases hp with ⟨⟨base, hp⟩, rfl, h2⟩ | ⟨sz', b, off, cap, hp, h2, _, _, h3⟩
  ·have := h2 hid rfl
   subst this
   exact Goes.value (v := .int .i64 0) (by simp [execOp, hop, resolve, hc, hx, jw, invoke, builtin, hp, Builtin.cap_, run_underlying hu, goInt]) h hw (by simp [aj, aZ, real])
  ·simp only [lD] at h3
   refine Goes.value (v := .int .i64 cap) (by simp [execOp, hop, resolve, hc, hx, jw, invoke, builtin, hp, Builtin.cap_, run_underlying hu, goInt]) h hw ?_
   simp only [aj, aZ, real, List.length_append]
   congr 1
   omega
 ·cases h
theorem Tx (he : aM m w ρ a) (hw : aO m st w) {c : Call} (hop : o.op = .call c) (hc : c.callee = .builtin .min) {k k' : IntKind} {x y : Int} (hv : evs ρ c.args.toList = [.d (.int k x), .d (.int k' y)])
  (h : br ((real cf).jc x y) (fun _ => K (.d (.int k x)) st) (fun _ => K (.d (.int k y)) st) = some r) : Goes P o a w m K r := by
 obtain ⟨u, v, hx, h1, h2⟩ := uD he hv
 have hp := bV he u
 have hq := bV he v
 rw [h1] at hp; rw [h2] at hq
 simp only [aj, aZ] at hp hq
 have hrun : (execOp a.eval o).run P w = .ok (.value (.int k (if y < x then y else x))) w := by
  simp [execOp, hop, resolve, hc, hx, invoke, builtin, hp, hq, Builtin.min_, Builtin.min2]
 cases hb : (real cf).jc x y with
 | true =>
  rw [hb] at h
  have : ¬ y < x := by have : x ≤ y := by simpa [real] using hb
                       omega
  rw [if_neg this] at hrun
  exact Goes.value hrun h hw (by simp only [aj, aZ])
 | false =>
  rw [hb] at h
  have : y < x := by have : ¬ x ≤ y := by simpa [real] using hb
                     omega
  rw [if_pos this] at hrun
  exact Goes.value hrun h hw (by simp only [aj, aZ])
theorem Tz (he : aM m w ρ a) (hw : aO m st w) {c : Call} (hop : o.op = .call c) (hc : c.callee = .builtin .max) {k k' : IntKind} {x y : Int} (hv : evs ρ c.args.toList = [.d (.int k x), .d (.int k' y)])
  (h : br ((real cf).jc x y) (fun _ => K (.d (.int k y)) st) (fun _ => K (.d (.int k x)) st) = some r) : Goes P o a w m K r := by
 obtain ⟨u, v, hx, h1, h2⟩ := uD he hv
 have hp := bV he u
 have hq := bV he v
 rw [h1] at hp; rw [h2] at hq
 simp only [aj, aZ] at hp hq
 have hrun : (execOp a.eval o).run P w = .ok (.value (.int k (if x < y then y else x))) w := by
  simp [execOp, hop, resolve, hc, hx, invoke, builtin, hp, hq, Builtin.max_, Builtin.max2]
 cases hb : (real cf).jc x y with
 | true =>
  rw [hb] at h
  have hle : x ≤ y := by simpa [real] using hb
  by_cases hlt : x < y
  ·rw [if_pos hlt] at hrun
   exact Goes.value hrun h hw (by simp only [aj, aZ])
  ·rw [if_neg hlt] at hrun
   have : x = y := by omega
   exact Goes.value hrun h hw (by simp only [aj, aZ, this])
 | false =>
  rw [hb] at h
  have : ¬ x < y := by have : ¬ x ≤ y := by simpa [real] using hb
                       omega
  rw [if_neg this] at hrun
  exact Goes.value hrun h hw (by simp only [aj, aZ])
theorem KN (hΓ : cZ P Γ) (he : aM m w ρ a) (hw : aO m st w) {c : Call} (hop : o.op = .call c) (hc : c.callee = .builtin .delete) {mm k : PV} {t t' : Nat} (hv : evs ρ c.args.toList = [mm, k]) (ht : c.argTypes.toList = [t, t'])
  (h : (match Γ.ty t with
    | .map kt _ => match (generalizing := false) rO Γ kt, mm with
     | some kk, .map l i => match look st l i with
      | some (.map Bt fl es) => bif Ba kk Bt then bif fU kk k then (real cf).SC es k fun es' => K (.pG []) (bJ st l i (.map Bt fl es')) else none else none
      | _ => none
     | _, _ => none
    | _ => none) = some r) : Goes P o a w m K r := by
 obtain ⟨x, y, hx, h1, h2⟩ := uD he hv
 have jw := FQ ht
 have hp := bV he x
 have hq := bV he y
 rw [h1] at hp; rw [h2] at hq
 split at h
 ·rename_i kt et hty
  split at h
  ·rename_i kk l i hkk
   have hm := uy hΓ hty
   simp only [aj] at hp
   obtain ⟨e, p1, p0, p2⟩ := hp
   split at h
   ·rename_i Bt fl es hl
    obtain ⟨e', k3, k4⟩ := hw.st.je hl
    rw [p1] at k3; cases k3
    simp only [aL] at k4
    obtain ⟨g1, g2, gf, ents, clock, g3, g4⟩ := k4
    cases hkq : Ba kk Bt with
    | false => simp [hkq] at h
    | true =>
    cases hok : fU kk k with
    | false => simp [hkq, hok] at h
    | true =>
    simp only [hkq, hok, cond_true, zo] at h
    obtain rfl := Ij hkq
    have hkey := fun (em : Bool) => uw (em := em) (w := w) hΓ hkk hok hq
    have finish : ∀ (qM : Array MapEntry), (execOp a.eval o).run P w = .ok (.value (.tuple #[])) { w with heap := w.heap.setIfInBounds e.b (.map qM clock) } →
      eF kk (mG m.blk l) m.cl w (Bb es k) qM.toList → Goes P o a w m K r := by
     intro qM hrun hrel
     have hset := heap_set (o' := .map qM clock) g3
     obtain ⟨m2, rfl, x2, w2⟩ := hw.put (l := l) (i := i) (w' := { w with heap := w.heap.setIfInBounds e.b (.map qM clock) }) p1 (ku g1)
      (fun b hb => hset.2 b hb) (fun a ha => by simp only [World.frozen?, ha, hset.1, g3]) (by simp) rfl rfl rfl (o := .map kk fl (Bb es k)) (e' := e) rfl (jA.refl e) (n := 0) (by rw [g2]; exact Nat.le_refl _) (Nat.zero_le _) (fun j hj => by rw [g2] at hj; omega)
      (fun hk he => by
       simp only [aL, if_true]
       exact ⟨g1, trivial, fun hfl => FP (gf hfl), qM, clock, hset.1, hrel.keep hk (bG.mG l he)⟩)
     exact Goes.value' hrun h x2 w2 (by simp only [aj, aK]; exact ⟨[], rfl, rfl⟩)
    rcases yg (w0 := w) hΓ hkk hok hq 0 g4 with ⟨j, en, v', f1, f2, f3, f4, f5, f6, f7, f8⟩ | ⟨f1, f2, f3, f4⟩
    ·refine finish (ents.eraseIdxIfInBounds j) ?_ ?_
     ·simp [execOp, hop, resolve, hc, hx, jw, invoke, builtin, p2, Builtin.delete_, run_underlying hm, Go.MapKept.run_getObj_map g3, hkey, oH hΓ hkk f1, Go.MapKept.run_setObj_map _ g3]
     ·have : (ents.eraseIdxIfInBounds j).toList = ents.toList.eraseIdx j := by simp
      rw [this]
      exact f7
    ·refine finish ents ?_ ?_
     ·simp [execOp, hop, resolve, hc, hx, jw, invoke, builtin, p2, Builtin.delete_, run_underlying hm, Go.MapKept.run_getObj_map g3, hkey, oH hΓ hkk f1, Go.MapKept.run_setObj_map _ g3]
     ·rw [f3]; exact g4
   ·cases h
  ·cases h
 ·cases h
theorem ql {Ro : Type} {ro : Ro} (tk : List Nat) : ∀ (p : Nat) (l : List PV) {m : Mt} {st : St} {vs : List Value} {K : List PV → St → Option Ro}, aO m st w → aK m.blk m.cl w l vs → eU (real cf) tk p l st K = some ro →
  ∃ m1 l1 st1, Ext m w m1 w ∧ aO m1 st1 w ∧ aK m1.blk m1.cl w l1 vs ∧ K l1 st1 = some ro
 | p, [], m, st, vs, K, hw, hv, h => ⟨m, [], st, Ext.refl _ _, hw, hv, h⟩
 | p, x :: l, m, st, vs, K, hw, hv, h => by
  have hv0 := hv
  simp only [aK] at hv
  obtain ⟨v, s, rfl, h1, h2⟩ := hv
  unfold eU at h
  cases hm : mem p tk with
  | true =>
   simp only [hm, cond_true] at h
   obtain ⟨m1, l1, st1, x1, w1, v1, hK⟩ := ql tk (p + 1) l hw h2 h
   exact ⟨m1, _, st1, x1, w1, (by simp only [aK]; exact ⟨v, s, rfl, h1.ext x1, v1⟩), hK⟩
  | false =>
   simp only [hm, cond_false] at h
   obtain ⟨u, st2, hf, h⟩ := gT h
   obtain ⟨m2, x2, w2, v2, n2⟩ := gQ hw (l := [x]) (vs := [v]) ⟨v, [], rfl, h1, rfl⟩ hf
   obtain ⟨m1, l1, st1, x1, w1, v1, hK⟩ := ql tk (p + 1) l w2 (h2.ext x2) h
   refine ⟨m1, _, st1, x2.trans x1, w1, ?_, hK⟩
   match u, v2.len, v2 with
   | [y], _, v2 =>
    simp only [aK] at v2
    obtain ⟨v', s', h3, h4, h5⟩ := v2
    simp only [List.cons.injEq] at h3
    obtain ⟨rfl, _⟩ := h3
    simp only [List.cons_append, List.nil_append, aK]
    exact ⟨v, s, rfl, h4.ext x1, v1⟩
theorem FR {Ro : Type} {ro : Ro} {b : Bool} {m : Mt} {st : St} {x : PV} {v : Value} {K : PV → St → Option Ro} (hw : aO m st w) (hv : aj m.blk m.cl w x v) (h : lG (real cf) b (x, st) K = some ro) :
  ∃ m1 x1 st1, Ext m w m1 w ∧ aO m1 st1 w ∧ aj m1.blk m1.cl w x1 v ∧ K x1 st1 = some ro := by
 unfold lG at h
 cases b with
 | false => exact ⟨m, x, st, Ext.refl _ _, hw, hv, h⟩
 | true =>
  simp only [cond_true] at h
  obtain ⟨u, st2, hf, h⟩ := gT h
  obtain ⟨m2, x2, w2, v2, n2⟩ := gQ hw (l := [x]) (vs := [v]) ⟨v, [], rfl, hv, rfl⟩ hf
  match u, v2.len, v2 with
  | [y], _, v2 =>
   simp only [aK] at v2
   obtain ⟨v', s', h3, h4, h5⟩ := v2
   simp only [List.cons.injEq] at h3
   obtain ⟨rfl, _⟩ := h3
   exact ⟨m2, y, st2, x2, w2, h4, h⟩
theorem Rm {b : Bool} (h : Goes P o a w m (fun v st => lG (real cf) b (v, st) K) r) : Goes P o a w m K r := by
 intro next Q hn ro
 refine h next Q (fun pv st' m' w' v hK hx hw hv => ?_) ro
 obtain ⟨m1, x1, st1, g1, g2, g3, g4⟩ := FR hw hv hK
 exact hn x1 st1 m1 w' v g4 (hx.trans g1) g2 g3
def FT (P : Program) (c : CF) : Prop := ∀ (g : Nat) (q : Site) (l i : Nat) (args : List PV) (st : St) (r : PV) (st' : St), bY.site g = some q → c g (.jv l i :: args) st = some (r, st') →
 args.length = q.ps.length ∧ ∀ (m : Mt) (w : World) (vs : List Value) (e : bZ) (rec : Loop) (ro : Option Nat), aK m.blk m.cl w args vs → aO m st w → ent m.blk l i = some e → w.heap[e.b]? = some (.loop rec) → Fv g rec →
  RoundIn (Fw ro) 0 P e.b rec.fn ((rec.params.zip vs.toArray).foldl (fun tmps (t, a) => tmps.setIfInBounds t a) rec.tmps) rec.assign rec.body w fun e w' => ∃ v m', e = .returned v ∧ aj m'.blk m'.cl w' r v ∧ Ext m w m' w' ∧ aO m' st' w'
theorem goes_call (hrd : FT P cf) {c : Call} (he : aM m w ρ a) (hw : aO m st w) {fv : Operand} (hop : o.op = .call c) (hc : c.callee = .value fv)
  (hcf : ∀ (f : Nat) (args : List PV) (st : St) (r : PV) (st' : St), iF f = false → cf f args st = some (r, st') → (∃ fn, P.funcs[f]? = some fn ∧ fn.name ≠ "runtime.NumGoroutine" ∧ fn.body.isSome = true) ∧
   ∀ (m : Mt) (w : World) (vs : List Value), aK m.blk m.cl w args vs → aO m st w →
    Calls P f vs.toArray w fun e w' => ∃ v m', e = .returned v ∧ aj m'.blk m'.cl w' r v ∧ Ext m w m' w' ∧ aO m' st' w')
  (h : evalOp (real cf) Γ an ρ st o.dst o.op K = some r) : Goes P o a w m K r := by
 rw [hop] at h
 simp only [evalOp, hc] at h
 have hp := bV he fv
 have hvs := xM he c.args.toList
 obtain ⟨m1, vs, st1, x1, w1, v1, hz⟩ := ql _ _ _ hw hvs h
 clear h
 have h := hz
 clear hz
 try dsimp only at h
 have key : ∀ (g : Nat) (caps : List PV) (us : List Value), a.eval fv = .func (.func g) #[] us.toArray → iF g = false → aK m1.blk m1.cl w caps us → (cf g (vs ++ caps) st1).bind (fun q => lG (real cf) (an.cold (match o.dst with | some d => d | none => 0)) q (xG (real cf) (an.Sy (match o.dst with | some d => d | none => 0)) (dD st1 0) K)) = some r → Goes P o a w m K r := by
  intro g caps us XH hsb TA hK
  obtain ⟨⟨v, st2⟩, hcall, hK⟩ := Option.bind_eq_some_iff.1 hK
  obtain ⟨⟨fn, f1, f2, f3⟩, f4⟩ := hcf g (vs ++ caps) st1 v st2 hsb hcall
  have happ : ∀ {l k : List PV} {ls ks : List Value}, aK m1.blk m1.cl w l ls → aK m1.blk m1.cl w k ks → aK m1.blk m1.cl w (l ++ k) (ls ++ ks) := by
   intro l
   induction l with
   | nil => intro k ls ks hl hk; simp only [aK] at hl; subst hl; simpa using hk
   | cons x l ih =>
    intro k ls ks hl hk
    simp only [aK, List.cons_append] at hl ⊢
    obtain ⟨u, s, rfl, q1, q2⟩ := hl
    exact ⟨u, s ++ ks, rfl, q1, ih q2 hk⟩
  have NI := f4 m1 w _ (happ v1 TA) w1
  have hrun : (execOp a.eval o).run P w = .ok (.enter g (c.args.toList.map a.eval ++ us).toArray) w := by
   cases hb : fn.body with
   | none => rw [hb] at f3; simp at f3
   | some bd =>
    have e1 : (c.args.map a.eval ++ us.toArray) = (c.args.toList.map a.eval ++ us).toArray := by apply Array.ext'; simp
    rw [← e1]
    simp [execOp, hop, resolve, hc, Deferred.ofValue, XH, invoke, callFunc, f1, f2, hb]
  intro next Q hn ro
  refine ⟨fun _ _ => trivial, ?_⟩
  have hrun' := qJ (ro := ro) (by intro d hd; cases hd) hrun
  rw [show (Fw ro).round = ro from rfl, hrun']
  refine ⟨fun h => by simp [Fw] at h, Kv ?_⟩
  refine Calls.mono NI fun e w' he => ?_
  obtain ⟨u, m', rfl, g1, g2, g3⟩ := he
  obtain ⟨m2, v2, Fu, x2, w2, r2, hK2⟩ := FR g3 g1 hK
  have x4 := (x1.trans g2).trans x2
  unfold xG at hK2
  rcases Bool.eq_false_or_eq_true (an.Sy (match o.dst with | some d => d | none => 0)) with hw | hw
  ·simp only [hw, cond_true] at hK2
   split at hK2
   ·rename_i x
    have abG : Il m.blk ≤ dD st1 0 := by
     have h1 := (yt w1)
     rw [h1]
     exact XI x1
    obtain ⟨m3, y1, y2, _, y4⟩ := uz (n := dD st1 0) (ρ := []) (a := a) x4 abG w2 (fun t => by simp only [gW, aj])
    have hcl : m3.cl = m2.cl := by rcases y4 with ⟨rfl, _⟩ | ⟨_, _, _, _, _, rfl, _, _⟩ <;> rfl
    exact hn (.d x) _ m3 w' u hK2 y1 y2 (by simp only [aj] at r2 ⊢; rw [hcl]; exact r2)
   ·cases hK2
  ·simp only [hw, cond_false] at hK2
   exact hn v2 Fu m2 w' u hK2 x4 w2 r2
 split at h
 ·rename_i g caps hx
  rw [hx] at hp; simp only [aj, aZ] at hp
  obtain ⟨us, h1, h2⟩ := hp
  change (bif iF g then none else cf g _ st1).bind _ = some r at h
  cases hsb : iF g with
  | true => rw [hsb] at h; cases h
  | false =>
   rw [hsb] at h
   exact key g (ds caps) us h1 hsb ((aK.cells (bl := m1.blk) (h2.keep x1.keeps)).list) h
 ·rename_i g caps hx
  have hp1 := hp.ext x1
  rw [hx] at hp1; simp only [aj] at hp1
  obtain ⟨us, h1, h2⟩ := hp1
  change (bif iF g then none else cf g _ st1).bind _ = some r at h
  cases hsb : iF g with
  | true => rw [hsb] at h; cases h
  | false =>
   rw [hsb] at h
   exact key g caps us h1 hsb h2.list h
 ·rename_i l i hx
  have hp1 := hp.ext x1
  rw [hx] at hp1; simp only [aj] at hp1
  obtain ⟨e, he1, he2, XH⟩ := hp1
  split at h
  rotate_left
  ·cases h
  rename_i site env uE
  obtain ⟨⟨v, st2⟩, hcall, hK⟩ := Option.bind_eq_some_iff.1 h
  obtain ⟨e', g1, g2⟩ := w1.st.je uE
  rw [he1] at g1; cases g1
  simp only [aL] at g2
  obtain ⟨k1, k2, rec, k3, k4, k5, k6⟩ := g2
  obtain ⟨q, hq, hps, _⟩ := id k4
  obtain ⟨hlen, hrnd⟩ := hrd site q l i vs st1 v st2 hq hcall
  have hl2 := v1.len
  have hrun : (execOp a.eval o).run P w = .ok (.round e.b rec.fn ((rec.params.zip (c.args.toList.map a.eval).toArray).foldl (fun tmps (t, a) => tmps.setIfInBounds t a) rec.tmps) rec.assign rec.body) w := by
   have e1 : c.args.map a.eval = (c.args.toList.map a.eval).toArray := by apply Array.ext'; simp
   have hy := run_yield (P := P) (args := c.args.map a.eval) k3 (by rw [hps, e1]; simp only [List.size_toArray]; omega)
   rw [← e1]
   simp [execOp, hop, resolve, hc, XH, invoke, Deferred.ofValue, hy]
  intro next Q hn ro
  refine ⟨fun _ _ => trivial, ?_⟩
  have hrun' := qJ (ro := ro) (by intro d hd; cases hd) hrun
  rw [show (Fw ro).round = ro from rfl, hrun']
  refine ⟨fun h => by simp [Fw] at h, RoundIn.mono (hrnd m1 w _ e rec ro v1 w1 he1 k3 k4) fun e w' he => ?_⟩
  obtain ⟨u, m', rfl, g1, g2, g3⟩ := he
  exact hn v st2 m' w' u hK (x1.trans g2) g3 g1
 ·cases h
end
end Go.X
