/- T -/
import Derived.Test.YtedfkehkcaaplaaXOps
import Derived.Laws.BytesArg
namespace Go.X
open Go
set_option linter.unusedVariables false
variable [bY]
section
variable {R : Type} {P : Program} {Γ : Tab} {cf : Nat → List PV → St → Option (PV × St)} {o : Oper} {a : Act} {w : World} {m : Mt} {K : PV → St → Option R} {r : R} {st : St} {ρ : Env}
theorem zw (he : aM m w ρ a) (hw : aO m st w) {x : Operand} (hop : o.op = .move x ∨ o.op = .assign x) (h : K (ev ρ x) st = some r) : Goes P o a w m K r := by
 refine Goes.value (v := a.eval x) ?_ h hw (bV he x)
 rcases hop with hop | hop <;> simp [execOp, hop]
theorem QW (he : aM m w ρ a) (hw : aO m st w) {c x y : Operand} (hop : o.op = .pick c x y)
  (h : (match ev ρ c with | .d (.bool t) => br t (fun _ => K (ev ρ x) st) (fun _ => K (ev ρ y) st) | _ => none) = some r) : Goes P o a w m K r := by
 have hc := bV he c
 split at h
 ·rename_i t ht
  rw [ht] at hc
  simp only [aj, aZ] at hc
  cases t with
  | true => exact Goes.value (v := a.eval x) (by simp [execOp, hop, hc, asBool]) h hw (bV he x)
  | false => exact Goes.value (v := a.eval y) (by simp [execOp, hop, hc, asBool]) h hw (bV he y)
 ·cases h
theorem jr {k k' : IntKind} (h : rH k k' = true) : k = k' := by cases k <;> cases k' <;> first | rfl | (simp [rH] at h)
theorem run_equalIn_bool {w : World} {t : TypeId} (d : Nat) (h : P.underlying t = some .bool) (x y : Bool) : (Op.equalIn (d + 1) t (.bool x) (.bool y)).run P w = .ok (x == y) w := by
 simp [Op.equalIn, run_underlying h]
theorem run_equal_bool {w : World} {t : TypeId} (h : P.underlying t = some .bool) (x y : Bool) : (Op.equal t (.bool x) (.bool y)).run P w = .ok (x == y) w := run_equalIn_bool 9999 h x y
theorem Bc {w : World} {t e : TypeId} (d : Nat) (h : P.underlying t = some (.pointer e)) (x : Option Addr) : (Op.equalIn (d + 1) t (.pointer x) (.pointer none)).run P w = .ok x.isNone w := by
 cases x <;> simp [Op.equalIn, run_underlying h]
theorem wo {w : World} {t e : TypeId} (h : P.underlying t = some (.pointer e)) (x : Option Addr) : (Op.equal t (.pointer x) (.pointer none)).run P w = .ok x.isNone w := Bc 9999 h x
theorem wJ {w : World} {t k e : TypeId} (d : Nat) (h : P.underlying t = some (.map k e)) (x : Option Nat) : (Op.equalIn (d + 1) t (.map x) (.map none)).run P w = .ok x.isNone w := by
 cases x <;> simp [Op.equalIn, run_underlying h]
theorem qL {w : World} {t k e : TypeId} (h : P.underlying t = some (.map k e)) (x : Option Nat) : (Op.equal t (.map x) (.map none)).run P w = .ok x.isNone w := wJ 9999 h x
theorem Xv (hΓ : cZ P Γ) {t : TypeId} {x y : Operand} {op : BinOp} {u v : PV} {d : D} {p q : Value} (hd : bin (real cf) (Γ.ty t) op u v = some d) (hp : aj m.blk m.cl w u p) (hq : aj m.blk m.cl w v q) :
  ∃ z, ((do eqGuard op t x y p q; binOp op t p q) : Sem Value).run P w = .ok z w ∧ aZ m.cl w d z := by
 unfold bin at hd
 split at hd
 ·rename_i k n k' n'
  simp only [aj, aZ] at hp hq
  subst hp; subst hq
  cases hk : rH k k' with
  | false => simp [hk] at hd
  | true =>
   obtain rfl := jr hk
   simp only [hk, cond_true] at hd
   unfold arith at hd
   split at hd <;> first | (cases hd; simp [eqGuard, binOp, Op.intArith, Op.intCmp, aZ, real, bne]; done) | cases hd
 ·rename_i b b'
  simp only [aj, aZ] at hp hq
  subst hp; subst hq
  have ht := hΓ.ty t
  unfold kD at ht
  split at hd
  ·rename_i hty
   simp only [hty] at ht
   cases hd; simp [eqGuard, binOp, aZ, run_equal_bool ht]
  ·rename_i hty
   simp only [hty] at ht
   cases hd; simp [eqGuard, binOp, aZ, run_equal_bool ht]
  ·cases hd
 ·rename_i s s'
  simp only [aj, aZ] at hp hq
  subst hp; subst hq
  unfold SE at hd
  split at hd <;> first | (cases hd; simp [eqGuard, binOp, Op.stringOp, aZ, real]; done) | cases hd
 ·cases hd
theorem Pn (hΓ : cZ P Γ) {t : TypeId} {x y : Operand} {op : BinOp} {u v : PV} {b : Bool} {p q : Value} (hd : He (Γ.ty t) u v = some b) (ho : op = .eql ∨ op = .neq) (hp : aj m.blk m.cl w u p) (hq : aj m.blk m.cl w v q) :
  ((do eqGuard op t x y p q; binOp op t p q) : Sem Value).run P w = .ok (.bool (match op with | .eql => b | _ => !b)) w := by
 have ht := hΓ.ty t
 unfold kD at ht
 unfold He at hd
 split at hd
 ·split at hd
  ·rename_i hty
   cases hd
   simp only [hty] at ht; simp only [aj, aZ] at hp hq
   obtain ⟨e, _, _, rfl⟩ := hp; subst hq
   rcases ho with rfl | rfl <;> simp [eqGuard, binOp, wo ht]
  ·cases hd
 ·split at hd
  ·rename_i hty
   cases hd
   simp only [hty] at ht; simp only [aj, aZ] at hp hq
   subst hp; subst hq
   rcases ho with rfl | rfl <;> simp [eqGuard, binOp, wo ht]
  ·cases hd
 ·split at hd
  ·rename_i hty
   cases hd
   simp only [hty] at ht; simp only [aj, aZ] at hp hq
   obtain ⟨e, _, _, rfl⟩ := hp; subst hq
   rcases ho with rfl | rfl <;> simp [eqGuard, binOp, qL ht]
  ·cases hd
 ·split at hd
  ·rename_i hty
   cases hd
   simp only [hty] at ht; simp only [aj, aZ] at hp hq
   subst hp; subst hq
   rcases ho with rfl | rfl <;> simp [eqGuard, binOp, qL ht]
  ·cases hd
 ·cases hd
theorem ug {w : World} {t e : TypeId} (d : Nat) (h : P.underlying t = some (.slice e)) (b : Option Addr) (n c : Nat) : (Op.equalIn (d + 1) t (.slice b n c) (.slice none 0 0)).run P w = .ok b.isNone w := by
 cases b <;> simp [Op.equalIn, run_underlying h]
theorem oz {w : World} {t e : TypeId} (h : P.underlying t = some (.slice e)) (b : Option Addr) (n c : Nat) : (Op.equal t (.slice b n c) (.slice none 0 0)).run P w = .ok b.isNone w := ug 9999 h b n c
theorem SK (hΓ : cZ P Γ) (he : aM m w ρ a) (hw : aO m st w) {op : BinOp} {t ty : TypeId} {x y : Operand} (hop : o.op = .binOp op t x y ty) (hy : zm y = true)
  (h : Cb (real cf) (Γ.ty t) op st (ev ρ x) K = some r) : Goes P o a w m K r := by
 have hp := bV he x
 have hy : y = .const (.slice none 0 0) := by
  unfold zm at hy
  split at hy
  ·rfl
  ·cases hy
 have hx : execOp a.eval o = (do let v ← ((do eqGuard op t x y (a.eval x) (a.eval y); binOp op t (a.eval x) (a.eval y)) : Sem Value); pure (.value v)) := by
  simp [execOp, hop]
 have hq : a.eval y = .slice none 0 0 := by rw [hy]; rfl
 have jw := hΓ.ty t
 unfold kD at jw
 unfold Cb at h
 have key : ∀ {rows : List (List D)} {ext : Option (List (List D))}, (∃ e sz vX, Γ.ty t = .slice e sz vX) → ev ρ x = .d (.sl rows ext) → ∃ b n c e, a.eval x = .slice b n c ∧ P.underlying t = some (.slice e) ∧ ((real cf).ieq ((real cf).len rows) 0 = false → b.isNone = false) := by
  rintro rows ext ⟨e, sz, vX, hty⟩ hx
  simp only [hty] at jw
  rw [hx] at hp
  simp only [aj, aZ] at hp
  rcases hp with ⟨⟨base, h1⟩, h2, _⟩ | ⟨sz', b, o, c, h1, _⟩
  ·refine ⟨base, 0, 0, e, h1, jw.1, fun h => ?_⟩
   subst h2
   simp [real] at h
  ·exact ⟨_, _, _, e, h1, jw.1, fun _ => rfl⟩
 split at h
 ·rename_i e sz vX rows ext hty hx'
  obtain ⟨b, n, c, e, h1, h2, h3⟩ := key ⟨_, _, _, hty⟩ hx'
  have hrun : (execOp a.eval o).run P w = .ok (.value (.bool b.isNone)) w := by
   rw [hx, h1, hq]; simp [eqGuard, binOp, oz h2]
  cases hb : (real cf).ieq ((real cf).len rows) 0 with
  | true => rw [hb, xI] at h; exact Goes.value hrun h hw (by simp only [aj]; exact ⟨_, rfl⟩)
  | false => rw [hb, tL] at h; rw [h3 hb] at hrun; exact Goes.value hrun h hw (by simp only [aj, aZ])
 ·rename_i e sz vX rows ext hty hx'
  obtain ⟨b, n, c, e, h1, h2, h3⟩ := key ⟨_, _, _, hty⟩ hx'
  have hrun : (execOp a.eval o).run P w = .ok (.value (.bool !b.isNone)) w := by
   rw [hx, h1, hq]; simp [eqGuard, binOp, oz h2]
  cases hb : (real cf).ieq ((real cf).len rows) 0 with
  | true => rw [hb, xI] at h; exact Goes.value hrun h hw (by simp only [aj]; exact ⟨_, rfl⟩)
  | false => rw [hb, tL] at h; rw [h3 hb] at hrun; exact Goes.value hrun h hw (by simp [aj, aZ])
 ·cases h
theorem SL (hΓ : cZ P Γ) (he : aM m w ρ a) (hw : aO m st w) {op : BinOp} {t ty : TypeId} {x y : Operand} (hop : o.op = .binOp op t x y ty)
  (h : Ak (real cf) (Γ.ty t) op st (ev ρ x) (ev ρ y) K = some r) : Goes P o a w m K r := by
 have hp := bV he x
 have hq := bV he y
 have hx : execOp a.eval o = (do let v ← ((do eqGuard op t x y (a.eval x) (a.eval y); binOp op t (a.eval x) (a.eval y)) : Sem Value); pure (.value v)) := by
  simp [execOp, hop]
 unfold Ak at h
 split at h
 ·rename_i d hd
  obtain ⟨z, h1, h2⟩ := Xv hΓ (x := x) (y := y) hd hp hq
  exact Goes.value (by rw [hx]; simp only [Sem.run_bind, h1]; rfl) h hw (by simpa only [aj] using h2)
 ·split at h
  ·rename_i b hb
   split at h
   ·have := Pn hΓ (x := x) (y := y) (op := .eql) hb (.inl rfl) hp hq
    exact Goes.value (by rw [hx]; simp only [Sem.run_bind, this]; rfl) h hw (by simp only [aj, aZ])
   ·have := Pn hΓ (x := x) (y := y) (op := .neq) hb (.inr rfl) hp hq
    exact Goes.value (by rw [hx]; simp only [Sem.run_bind, this]; rfl) h hw (by simp only [aj, aZ])
   ·cases h
  ·split at h
   ·rename_i s s' hs hs' _
    rw [hs] at hp; rw [hs'] at hq
    simp only [aj, aZ] at hp hq
    cases hle : (real cf).jc ((real cf).add ((real cf).zk s) ((real cf).zk s')) Na with
    | false => simp [hle] at h
    | true =>
     simp only [hle, cond_true] at h
     have hsz : s.size + s'.size ≤ 9223372036854775807 := by simp [real, Na] at hle; omega
     have := run_string_add_sum (P := P) (w := w) s s' hsz
     exact Goes.value (v := .string (s ++ s')) (by rw [hx, hp, hq]; simp [eqGuard, binOp, this]) h hw (by simp [aj, aZ, real])
   ·rename_i k n k' n' hs hs' _
    rw [hs] at hp; rw [hs'] at hq
    simp only [aj, aZ] at hp hq
    cases hk : rH k k' with
    | false => simp [hk] at h
    | true =>
     obtain rfl := jr hk
     simp only [hk, cond_true] at h
     cases hz : (real cf).ieq n' 0 with
     | true => simp [hz] at h
     | false =>
      simp only [hz, cond_false] at h
      have hz' : ¬ n' = 0 := by simpa [real] using hz
      exact Goes.value (v := .int k (k.wrap (n.tdiv n'))) (by rw [hx, hp, hq]; simp [eqGuard, binOp, Op.intDiv, hz']) h hw (by simp [aj, aZ, real])
   ·rename_i k n k' n' hs hs' _
    rw [hs] at hp; rw [hs'] at hq
    simp only [aj, aZ] at hp hq
    cases hk : rH k k' with
    | false => simp [hk] at h
    | true =>
     obtain rfl := jr hk
     simp only [hk, cond_true] at h
     cases hz : (real cf).ieq n' 0 with
     | true => simp [hz] at h
     | false =>
      simp only [hz, cond_false] at h
      have hz' : ¬ n' = 0 := by simpa [real] using hz
      exact Goes.value (v := .int k (n.tmod n')) (by rw [hx, hp, hq]; simp [eqGuard, binOp, Op.intDiv, hz']) h hw (by simp [aj, aZ, real])
   ·cases h
theorem Xw (he : aM m w ρ a) (hw : aO m st w) {op : UnOp} {t : TypeId} {x : Operand} (hop : o.op = .unOp op t x)
  (h : (match (generalizing := false) op, ev ρ x with
  | .not, .d (.bool b) => K (.d (.bool !b)) st
  | .neg, .d (.int k n) => K (.d (.int k ((real cf).wrap k ((real cf).sub 0 n)))) st
  | _, _ => none) = some r) : Goes P o a w m K r := by
 have hp := bV he x
 split at h
 ·rename_i b hb
  rw [hb] at hp; simp only [aj, aZ] at hp
  exact Goes.value (v := .bool !b) (by simp [execOp, hop, hp, Op.unary]) h hw (by simp only [aj, aZ])
 ·rename_i k n hb
  rw [hb] at hp; simp only [aj, aZ] at hp
  exact Goes.value (v := .int k (k.wrap (0 - n))) (by simp [execOp, hop, hp, Op.unary, Op.intArith]) h hw (by simp [aj, aZ, real])
 ·cases h
theorem Kw {cl : Nat → Nat} {w : World} {b sz : Nat} : ∀ {rows : List (List D)} {l : List UInt8} {o : Nat}, om rows = some l → aY cl w b o sz rows → ∃ xs : List Int, xs.length = rows.length ∧ xs.map (fun n => UInt8.ofNat n.toNat) = l ∧ ∀ i, i < rows.length → w.cell? ⟨b, o + i, none⟩ = some (.int .u8 (xs.getD i 0))
 | [], l, o, h, _ => by
  simp only [om, Option.some.injEq] at h
  subst h
  exact ⟨[], rfl, rfl, fun i hi => absurd hi (Nat.not_lt_zero i)⟩
 | row :: rows, l, o, h, hr => by
  unfold om at h
  split at h
  ·rename_i hx; cases hx
  ·rename_i n r hx
   cases hx
   split at h
   ·rename_i l' hl'
    cases h
    simp only [aY, aV] at hr
    obtain ⟨h1, ⟨⟨v, h2, h3⟩, _⟩, h4⟩ := hr
    simp only [List.length_cons, List.length_nil, Nat.zero_add] at h1
    subst h1
    simp only [aZ] at h3
    subst h3
    obtain ⟨xs, g1, g2, g3⟩ := Kw (o := o + 1) hl' h4
    refine ⟨n :: xs, by simp [g1], by simp [g2], fun i hi => ?_⟩
    cases i with
    | zero => simpa using h2
    | succ i =>
     have := g3 i (by simpa using hi)
     rw [show o + 1 + i = o + (i + 1) by omega] at this
     simpa using this
   ·cases h
  ·cases h
theorem Ni {cl : Nat → Nat} {w : World} {src dst e : TypeId} {rows : List (List D)} {ext : Option (List (List D))} {l : List UInt8} {v : Value} (hs : P.underlying src = some (.slice e)) (he : P.underlying e = some (.int .u8)) (hd : P.underlying dst = some .string)
  (hv : aZ cl w (.sl rows ext) v) (hl : om rows = some l) : (convert src dst v).run P w = .ok (.string ⟨l.toArray⟩) w := by
 simp only [aZ] at hv
 rcases hv with ⟨⟨base, rfl⟩, rfl, _⟩ | ⟨sz, b, o, cap, rfl, _, _, hr, _⟩
 ·simp only [om, Option.some.injEq] at hl
  subst hl
  cases base with
  | none => exact run_convert_bytes_nil w src e hs he 0 0 dst hd
  | some a =>
   rw [run_convert_bytes_string w src dst e _ 0 0 hs he hd, run_bytesToString w a 0 0 [] (run_loadCells_list (P := P) w a [] (fun j v hj => by simp at hj))]
   rfl
 ·obtain ⟨xs, g1, g2, g3⟩ := Kw hl hr
  have := run_convert_bytes_arg (P := P) w src e hs he b o rows.length cap xs g1 (fun i hi => g3 i hi) dst hd
  rw [this]
  simp only [strOfNums, g2]
theorem Ht (hΓ : cZ P Γ) (he : aM m w ρ a) (hw : aO m st w) {src dst : TypeId} {x : Operand} (hop : o.op = .convert src dst x)
  (h : (match Γ.ty src, Γ.ty dst, ev ρ x with
  | .int _, .int k, .d (.int _ n) => K (.d (.int k ((real cf).wrap k n))) st
  | .str, .str, .d (.str s) => K (.d (.str s)) st
  | .int _, .str, .d (.int _ n) => K (.d (.str (Utf8.encode n))) st
  | .slice e _ _, .str, .d (.sl rows _) => match Γ.ty e with
   | .int .u8 => match (real cf).toStr rows with | some s => K (.d (.str s)) st | none => none
   | _ => none
  | _, _, _ => none) = some r) : Goes P o a w m K r := by
 have hp := bV he x
 have h1 := hΓ.ty src
 have h2 := hΓ.ty dst
 unfold kD at h1 h2
 split at h
 ·rename_i k0 k k' n hs hd hb
  rw [hb] at hp; simp only [aj, aZ] at hp
  simp only [hs] at h1; simp only [hd] at h2
  exact Goes.value (v := .int k (k.wrap n)) (by simp [execOp, hop, hp, convert, run_underlying h1, run_underlying h2, Conv.intToInt]) h hw (by simp [aj, aZ, real])
 ·rename_i s hs hd hb
  rw [hb] at hp; simp only [aj, aZ] at hp
  simp only [hs] at h1; simp only [hd] at h2
  exact Goes.value (v := .string s) (by simp [execOp, hop, hp, convert, run_underlying h1, run_underlying h2]) h hw (by simp [aj, aZ])
 ·rename_i k0 k n hs hd hb
  rw [hb] at hp; simp only [aj, aZ] at hp
  simp only [hs] at h1; simp only [hd] at h2
  exact Goes.value (v := .string (Utf8.encode n)) (by simp [execOp, hop, hp, convert, run_underlying h1, run_underlying h2, Conv.intToString]) h hw (by simp [aj, aZ])
 ·rename_i e sz bz rows ext hs hd hb
  rw [hb] at hp; simp only [aj] at hp
  simp only [hs] at h1; simp only [hd] at h2
  split at h
  ·rename_i he8
   have h3 := hΓ.ty e
   unfold kD at h3
   rw [he8] at h3
   split at h
   ·rename_i s hstr
    simp only [real, Option.map_eq_some_iff] at hstr
    obtain ⟨l, hl, rfl⟩ := hstr
    refine Goes.value (v := .string ⟨l.toArray⟩) ?_ h hw (by simp [aj, aZ])
    simp [execOp, hop, Ni (P := P) (src := src) (dst := dst) h1.1 h3 h2 hp hl]
   ·cases h
  ·cases h
 ·cases h
theorem Hu (he : aM m w ρ a) (hw : aO m st w) {t : Operand} {i : Nat} (hop : o.op = .extract t i)
  (h : (match ev ρ t with
  | .pG l => match l[i]? with | some v => K v st | none => none
  | _ => none) = some r) : Goes P o a w m K r := by
 have hp := bV he t
 split at h
 ·rename_i l hl
  rw [hl] at hp; simp only [aj] at hp
  obtain ⟨vs, h1, h2⟩ := hp
  split at h
  ·rename_i x hx
   have : ∀ {l : List PV} {vs : List Value} {i : Nat} {x : PV}, aK m.blk m.cl w l vs → l[i]? = some x → ∃ v, vs[i]? = some v ∧ aj m.blk m.cl w x v := by
    intro l
    induction l with
    | nil => intro vs i x _ h; simp at h
    | cons y r ih =>
     intro vs i x hv h
     simp only [aK] at hv
     obtain ⟨v, s, rfl, g1, g2⟩ := hv
     cases i with
     | zero => simp at h; subst h; exact ⟨v, by simp, g1⟩
     | succ i => simpa using ih g2 (by simpa using h)
   obtain ⟨v, h3, h4⟩ := this h2 hx
   exact Goes.value (v := v) (by simp [execOp, hop, h1, Instr.extract, h3]) h hw h4
  ·cases h
 ·cases h
theorem Nj (hΓ : cZ P Γ) (he : aM m w ρ a) (hw : aO m st w) {t : TypeId} {x ix : Operand} (hop : o.op = .index t x ix)
  (h : (match Γ.ty t, ev ρ x, ev ρ ix with
  | .str, .d (.str s), .d (.int _ i) => bif (real cf).jc 0 i then bif (real cf).ilt i ((real cf).zk s) then K (.d (.int .u8 ((real cf).byte s i))) st else none else none
  | .array n _, .agg cs, .d (.int _ i) => bif (real cf).jc 0 i then bif Nat.blt i.toNat n then (match cs[i.toNat]? with | some (.d x) => K (.d x) st | _ => none) else none else none
  | _, _, _ => none) = some r) : Goes P o a w m K r := by
 have hp := bV he x
 have hq := bV he ix
 have h1 := hΓ.ty t
 unfold kD at h1
 split at h
 ·rename_i s k i hs hx hi
  rw [hx] at hp; rw [hi] at hq; simp only [aj, aZ] at hp hq
  simp only [hs] at h1
  cases ha : (real cf).jc 0 i with
  | false => simp [ha] at h
  | true =>
   cases hb : (real cf).ilt i ((real cf).zk s) with
   | false => simp [ha, hb] at h
   | true =>
    simp only [ha, hb, cond_true] at h
    have h0 : 0 ≤ i := by simpa [real] using ha
    have hl : i.toNat < s.size := by simp [real] at hb; omega
    exact Goes.value (v := .int .u8 (s[i.toNat]'hl).toNat) (by simp [execOp, hop, hp, hq, Instr.index, asIntOf, run_underlying h1, h0, hl]) h hw (by simp [aj, aZ, real, hl])
 ·rename_i n e cs k i hs hx hi
  rw [hx] at hp; rw [hi] at hq; simp only [aj, aZ] at hp hq
  simp only [hs] at h1
  obtain ⟨hu, ⟨d, hd, hn⟩, inf, agC, hsize⟩ := h1
  cases ha : (real cf).jc 0 i with
  | false => simp [ha] at h
  | true =>
  cases hb : Nat.blt i.toNat n with
  | false => simp [ha, hb] at h
  | true =>
  simp only [ha, hb, cond_true] at h
  have h0 : 0 ≤ i := by simpa [real] using ha
  have hl : i < (n : Int) := by
   have : i.toNat < n := by simpa [Nat.blt_eq] using hb
   omega
  split at h
  ·rename_i y hy
   obtain ⟨vs, hv, hvl⟩ := hp
   have get : ∀ {l : List PV} {vs : List Value} {i : Nat} {x : PV}, aF m.blk m.cl w l vs → l[i]? = some x → ∃ v, vs[i]? = some v ∧ aj m.blk m.cl w x v := by
    intro l
    induction l with
    | nil => intro vs i x _ h; simp at h
    | cons y r ih =>
     intro vs i x hv h
     simp only [aF] at hv
     obtain ⟨v, s, rfl, g1, _, g2⟩ := hv
     cases i with
     | zero => simp at h; subst h; exact ⟨v, by simp, g1⟩
     | succ i => simpa using ih g2 (by simpa using h)
   obtain ⟨v, h3, h4⟩ := get hvl hy
   have hpart : (part e vs.toArray i.toNat).run P w = .ok v w := by
    have h3' : vs.toArray[i.toNat]? = some v := by simpa using h3
    cases d <;> first | (simp [rU] at hn; done) | simp [part, isAgg, run_underlying hd, h3']
   refine Goes.value (v := v) ?_ h hw h4
   simp [execOp, hop, hv, hq, Instr.index, asIntOf, run_underlying hu, h0, hl, sizeOf, typeInfo, agC, hsize, hpart]
  ·cases h
 ·cases h
theorem uh {rows : List (List D)} {i : Int} {x : List D} (h : (real cf).nth rows i = some x) : 0 ≤ i ∧ rows[i.toNat]? = some x := by
 simp only [real] at h
 split at h
 ·exact ⟨by assumption, h⟩
 ·cases h
theorem Hw : ∀ (n : Nat) (l : List D), ds (l.drop n) = (ds l).drop n
 | 0, l => by simp
 | n + 1, [] => by simp [ds]
 | n + 1, x :: r => by simp [ds, Hw n r]
theorem Fz {Ω : Om} {st : St} {v : PV} {k : List PV → Option R} : rJ Ω st v k = (match vG Ω st v with | some cs => k cs | none => none) := by
 unfold rJ vG
 split
 ·split <;> rfl
 ·split
  ·cases Ω.ieq _ _ with
   | false => rfl
   | true => simp only [cond_true]; cases Ω.nth _ _ <;> rfl
  ·rfl
 ·rfl
 ·rfl
theorem QX (hΓ : cZ P Γ) (he : aM m w ρ a) (hw : aO m st w) {t : TypeId} {x : Operand} (hop : o.op = .load t x)
  (h : (rJ (real cf) st (ev ρ x) fun cs => match pack Γ t cs with
   | some v => K v st
   | none => none) = some r) : Goes P o a w m K r := by
 have hp := bV he x
 rw [Fz] at h
 split at h
 ·rename_i cs hcs
  split at h
  ·rename_i v hv
   have hcells : ∃ b off vs, a.eval x = .pointer (some ⟨b, off, none⟩) ∧ aF m.blk m.cl w cs vs ∧ ∀ j v, vs[j]? = some v → w.cell? ⟨b, off + j, none⟩ = some v := by
    unfold vG at hcs
    split at hcs
    ·rename_i l i off hx
     rw [hx] at hp; simp only [aj] at hp
     obtain ⟨e, h1, h0, h2⟩ := hp
     split at hcs
     ·rename_i ty cells hl
      cases hcs
      obtain ⟨e', h3, h4⟩ := hw.st.je hl
      rw [h1] at h3; cases h3
      simp only [aL] at h4
      obtain ⟨_, _, vs, h5, h6⟩ := h4
      exact ⟨e.b, off, vs.drop off, h2, ny l _ _ (h6.drop off), Ap h5 off⟩
     ·cases hcs
    ·rename_i l i k ix off hx
     rw [hx] at hp; simp only [aj] at hp
     obtain ⟨e, bb, h1, h0, h2, h22⟩ := hp
     split at hcs
     ·rename_i ty sz rows mt cap hl
      obtain ⟨e', h3, h4⟩ := hw.st.je hl
      rw [h1] at h3; cases h3
      simp only [aL] at h4
      obtain ⟨h41, h42, h43, h44, h45, h4⟩ := h4
      cases hlen : (real cf).ieq ((real cf).len rows) k with
      | false => simp [hlen] at hcs
      | true =>
       simp only [hlen, cond_true] at hcs
       have hk : k = e.len := by rw [h43]; have : (rows.length : Int) = k := by simpa [real] using hlen
                                 exact this.symm
       split at hcs
       ·rename_i rr Hy
        cases hcs
        obtain ⟨hi0, hi1⟩ := uh Hy
        obtain ⟨h46, h47, h48⟩ := h4 (lg (by have := (List.getElem?_eq_some_iff.1 hi1).1; omega))
        obtain ⟨g1, g2⟩ := h47.nth hi1
        obtain ⟨vs, g3, g4⟩ := g2.vals
        have hbl : aF m.blk m.cl w (ds rr) vs := g3.keep (Keeps.refl _ _) (bG.refl _)
        refine ⟨e.b, ix.toNat * e.sz + off, vs.drop off, by rw [h2, h22 hk], ?_, ?_⟩
        ·have hds : ds (rr.drop off) = (ds rr).drop off := Hw off rr
         rw [hds]
         exact hbl.drop off
        ·intro j v hv
         have := g4 (off + j) v (by simpa using hv)
         rw [← this, h42]; congr 2; omega
       ·cases hcs
     ·cases hcs
    ·rename_i cs' hx
     cases hcs
     rw [hx] at hp; simp only [aj] at hp
     obtain ⟨b, o', h1, h2, h3⟩ := hp
     obtain ⟨vs, h4, h5⟩ := h3.vals
     exact ⟨b, o', vs, h1, h4.keep (Keeps.refl _ _) (bG.refl _), h5⟩
    ·cases hcs
   obtain ⟨b, off, vs, h1, h2, h3⟩ := hcells
   obtain ⟨z, h4, h5⟩ := wm (P := P) hΓ hv h2 h3
   exact Goes.value (v := z) (by simp [execOp, hop, h1, h4]) h hw h5
  ·cases h
 ·cases h
end
end Go.X
