/- Values on plain data: several laws, one behind the other. -/
import Derived.Test.YtedfkehkcaaplaaTWO
import Derived.Test.YtedfkehkcaaplaaTWV
import Derived.Test.YtedfkehkcaaplaaTWL0
namespace Go.Proofs.Ytedfkehkcaaplaa
open Go Go.X
set_option linter.unusedVariables false
set_option linter.unusedSimpArgs false
set_option maxRecDepth 100000
def OKV (v : Value) : Prop := WT tab 27 (fK v)
def OKF (f : Field) : Prop := WT tab 112 (jY f)
theorem afS {k n : Int} {s key : ByteArray} {l : List Value} {f : List Field} {x : Option (List Value)} {fx : Option (List Field)} {e : Int} {hk : Bool} (h : OKV (Value.mk k n s ⟨l, x⟩ ⟨f, fx⟩ e key hk)) :
  l.length * 112 ≤ reachBytes ∧ (∀ v ∈ l, OKV v) ∧ f.length * 128 ≤ reachBytes ∧ (∀ q ∈ f, OKF q) := by
 obtain ⟨a0, _, e0, h0, a1, _, e1, h1, a2, _, e2, h2, a3, _, e3, h3, a4, _, e4, h4, _⟩ := h.Ao TR rfl
 obtain ⟨_, rfl, _⟩ := h0.qy TS
 obtain ⟨_, rfl, _⟩ := h1.qy ty_2
 obtain ⟨_, rfl, _⟩ := h2.yx Lb
 obtain ⟨r3, q3, rfl, l3, m3, _⟩ := h3.eZ Mc
 obtain ⟨r4, q4, rfl, l4, m4, _⟩ := h4.eZ Ky
 subst e4; subst e3; subst e2; subst e1
 simp only [fK, iI, gU, List.cons_append, List.nil_append, List.cons.injEq, D.sl.injEq] at e0
 obtain ⟨_, _, _, ⟨rfl, _⟩, ⟨rfl, _⟩, _⟩ := e0
 rw [kN] at l3 m3
 rw [kP] at l4 m4
 simp only [List.length_map, List.mem_map, forall_exists_index, and_imp, forall_apply_eq_imp_iff₂, Nat.add_mul] at l3 m3 l4 m4
 exact ⟨by omega, m3, by omega, m4⟩
theorem TY {n : ByteArray} {v : Value} (h : OKF (Field.mk n v)) : OKV v := by
 obtain ⟨a0, _, e0, h0, a1, _, e1, h1, e2⟩ := h.Ao Lc rfl
 obtain ⟨_, rfl, _⟩ := h0.yx Lb
 subst e2; subst e1
 simp only [jY, List.cons_append, List.nil_append, List.cons.injEq, List.append_nil] at e0
 obtain ⟨_, rfl⟩ := e0
 exact h1
theorem acI {x : Value} {k n : Int} {s key : ByteArray} {l : List Value} {lx : Option (List Value)} {f : Sl Field} {e : Int} {hk : Bool} (h : x ∈ l) : SizeOf.sizeOf x < SizeOf.sizeOf (Value.mk k n s ⟨l, lx⟩ f e key hk) := by
 have := List.sizeOf_lt_of_mem h
 simp only [Value.mk.sizeOf_spec, Sl.mk.sizeOf_spec]
 omega
theorem acJ {q : Field} {k n : Int} {s key : ByteArray} {f : List Field} {fx : Option (List Field)} {l : Sl Value} {e : Int} {hk : Bool} (h : q ∈ f) : SizeOf.sizeOf q < SizeOf.sizeOf (Value.mk k n s l ⟨f, fx⟩ e key hk) := by
 have := List.sizeOf_lt_of_mem h
 simp only [Value.mk.sizeOf_spec, Sl.mk.sizeOf_spec]
 omega
theorem acK {m : ByteArray} {v : Value} : SizeOf.sizeOf v < SizeOf.sizeOf (Field.mk m v) := by
 simp only [Field.mk.sizeOf_spec]
 omega
def afT (p : Value → Value → Prop) : Field → Field → Prop
 | ⟨m, v⟩, ⟨m', v'⟩ => m = m' ∧ p v v'
def Ll : Nat → Value → Value → Prop
 | 0, _, _ => False
 | N + 1, .mk k n s ⟨l, _⟩ ⟨f, _⟩ e c b, .mk k' n' s' ⟨l', _⟩ ⟨f', _⟩ e' c' b' => k = k' ∧ n = n' ∧ s = s' ∧ e = e' ∧ c = c' ∧ b = b' ∧
   (l.length = l'.length ∧ ∀ (i : Nat) t a, l[i]? = some t → l'[i]? = some a → Ll N t a) ∧ f.length = f'.length ∧ ∀ (i : Nat) t a, f[i]? = some t → f'[i]? = some a → afT (Ll N) t a
theorem Ll.refl : ∀ (N : Nat) (v : Value), SizeOf.sizeOf v ≤ N → Ll N v v := by
 intro N
 induction N with
 | zero =>
  intro v h
  obtain ⟨_, _, _, ⟨_, _⟩, ⟨_, _⟩, _, _, _⟩ := v
  simp only [Value.mk.sizeOf_spec] at h
  omega
 | succ N ih =>
  intro v h
  obtain ⟨k, n, s, ⟨l, x⟩, ⟨f, y⟩, e, c, b⟩ := v
  refine ⟨rfl, rfl, rfl, rfl, rfl, rfl, ⟨rfl, fun i t a h1 h2 => ?_⟩, rfl, fun i t a h1 h2 => ?_⟩
  ·rw [h1] at h2; cases h2
   have := acI (k := k) (n := n) (s := s) (key := c) (lx := x) (f := ⟨f, y⟩) (e := e) (hk := b) (List.mem_of_getElem? h1)
   exact ih t (by omega)
  ·rw [h1] at h2; cases h2
   have := acJ (k := k) (n := n) (s := s) (key := c) (l := ⟨l, x⟩) (fx := y) (e := e) (hk := b) (List.mem_of_getElem? h1)
   obtain ⟨m, v⟩ := t
   have := acK (m := m) (v := v)
   exact ⟨rfl, ih v (by omega)⟩
def RP (p : Value → Prop) : Field → Prop
 | ⟨_, v⟩ => p v
def Fit : Nat → Value → Prop
 | 0, _ => False
 | N + 1, .mk _ _ _ ⟨l, _⟩ ⟨f, _⟩ _ _ _ => (l.length * 112 ≤ reachBytes ∧ ∀ v ∈ l, Fit N v) ∧ f.length * 128 ≤ reachBytes ∧ ∀ q ∈ f, RP (Fit N) q
theorem HY : ∀ (N : Nat) (v : Value), SizeOf.sizeOf v ≤ N → OKV v → Fit N v := by
 intro N
 induction N with
 | zero =>
  intro v h
  obtain ⟨_, _, _, ⟨_, _⟩, ⟨_, _⟩, _, _, _⟩ := v
  simp only [Value.mk.sizeOf_spec] at h
  omega
 | succ N ih =>
  intro v h ov
  obtain ⟨k, n, s, ⟨l, x⟩, ⟨f, y⟩, e, c, b⟩ := v
  obtain ⟨p1, p2, p3, p4⟩ := afS ov
  refine ⟨⟨p1, fun v hv => ?_⟩, p3, fun q hq => ?_⟩
  ·have := acI (k := k) (n := n) (s := s) (key := c) (lx := x) (f := ⟨f, y⟩) (e := e) (hk := b) hv
   exact ih v (by omega) (p2 v hv)
  ·have := acJ (k := k) (n := n) (s := s) (key := c) (l := ⟨l, x⟩) (fx := y) (e := e) (hk := b) hq
   obtain ⟨m, v⟩ := q
   have := acK (m := m) (v := v)
   exact ih v (by omega) (TY (p4 _ hq))
theorem Ll.symm : ∀ (N : Nat) (t v : Value), Ll N t v → Ll N v t := by
 intro N
 induction N with
 | zero => intro t v h; exact absurd h (by obtain ⟨_, _, _, ⟨_, _⟩, ⟨_, _⟩, _, _, _⟩ := t; simp [Ll])
 | succ N ih =>
  intro t v h
  obtain ⟨k, n, s, ⟨l, x⟩, ⟨f, y⟩, e, c, b⟩ := v
  obtain ⟨k', n', s', ⟨l', x'⟩, ⟨f', y'⟩, e', c', b'⟩ := t
  obtain ⟨h1, h2, h3, h4, h5, h6, ⟨h7, h8⟩, h9, h10⟩ := h
  refine ⟨h1.symm, h2.symm, h3.symm, h4.symm, h5.symm, h6.symm, ⟨h7.symm, fun i t a g1 g2 => ih _ _ (h8 i a t g2 g1)⟩, h9.symm, fun i t a g1 g2 => ?_⟩
  have := h10 i a t g2 g1
  obtain ⟨m, u⟩ := a
  obtain ⟨m', u'⟩ := t
  exact ⟨this.1.symm, ih _ _ this.2⟩
theorem Ll.trans : ∀ (N : Nat) (a b c : Value), Ll N a b → Ll N b c → Ll N a c := by
 intro N
 induction N with
 | zero => intro a b c h; exact absurd h (by obtain ⟨_, _, _, ⟨_, _⟩, ⟨_, _⟩, _, _, _⟩ := a; simp [Ll])
 | succ N ih =>
  intro a b c h k
  obtain ⟨k1, n1, s1, ⟨l1, x1⟩, ⟨f1, y1⟩, e1, c1, b1⟩ := a
  obtain ⟨k2, n2, s2, ⟨l2, x2⟩, ⟨f2, y2⟩, e2, c2, b2⟩ := b
  obtain ⟨k3, n3, s3, ⟨l3, x3⟩, ⟨f3, y3⟩, e3, c3, b3⟩ := c
  obtain ⟨h1, h2, h3, h4, h5, h6, ⟨h7, h8⟩, h9, h10⟩ := h
  obtain ⟨g1, g2, g3, g4, g5, g6, ⟨g7, g8⟩, g9, g10⟩ := k
  refine ⟨h1.trans g1, h2.trans g2, h3.trans g3, h4.trans g4, h5.trans g5, h6.trans g6, ⟨h7.trans g7, fun i t a u1 u2 => ?_⟩, h9.trans g9, fun i t a u1 u2 => ?_⟩
  ·have hl : i < l2.length := by rw [← h7]; exact (List.getElem?_eq_some_iff.1 u1).1
   exact ih _ _ _ (h8 i t l2[i] u1 (List.getElem?_eq_getElem hl)) (g8 i l2[i] a (List.getElem?_eq_getElem hl) u2)
  ·have hl : i < f2.length := by rw [← h9]; exact (List.getElem?_eq_some_iff.1 u1).1
   have w1 := h10 i t f2[i] u1 (List.getElem?_eq_getElem hl)
   have w2 := g10 i f2[i] a (List.getElem?_eq_getElem hl) u2
   generalize f2[i] = q at w1 w2
   obtain ⟨m1, v1⟩ := t
   obtain ⟨m2, v2⟩ := q
   obtain ⟨m3, v3⟩ := a
   exact ⟨w1.1.trans w2.1, ih _ _ _ w1.2 w2.2⟩
theorem afU (fu : Nat) (l : List Value) (x : Option (List Value)) : amL fu ⟨l, x⟩ = ze 112 l := rfl
theorem afV (fu : Nat) (l : List Field) (x : Option (List Field)) : amN fu ⟨l, x⟩ = ze 128 l := rfl
mutual
noncomputable def cp : Value → Value
 | .mk k n s l f e c b => .mk k n s (cpS l) (cpG f) e c b
noncomputable def RQ : Field → Field
 | .mk m v => .mk m (cp v)
noncomputable def cpS : Sl Value → Sl Value
 | .mk l x => .mk (cpL l) none
noncomputable def cpL : List Value → List Value
 | [] => []
 | v :: r => cp v :: cpL r
noncomputable def cpG : Sl Field → Sl Field
 | .mk l x => .mk (cpM l) none
noncomputable def cpM : List Field → List Field
 | [] => []
 | v :: r => RQ v :: cpM r
end
theorem rQ : ∀ l, cpL l = l.map cp
 | [] => by rw [cpL]; rfl
 | v :: r => by rw [cpL, rQ r]; rfl
theorem rR : ∀ l, cpM l = l.map RQ
 | [] => by rw [cpM]; rfl
 | v :: r => by rw [cpM, rR r]; rfl
theorem acL {A : Type} {h : A → A} {o l : List A} (h1 : o.length = l.length) (h2 : ∀ (i : Nat) t a, o[i]? = some t → l[i]? = some a → t = h a) : o = l.map h := by
 refine List.ext_getElem (by simp [h1]) fun i hi hj => ?_
 have hj' : i < l.length := by simpa using hj
 rw [List.getElem_map]
 exact h2 i _ _ (List.getElem?_eq_getElem hi) (List.getElem?_eq_getElem hj')
theorem au8 (fu : Nat) (p : Value → Option Value) (r : List Value) : MP fu p r = rP p r := by
 funext q
 obtain ⟨o, i⟩ := q
 unfold MP rP
 dsimp only
 cases decide (i < ln r)
 ·rfl
 ·cases idx o i with
  | none => rfl
  | some x =>
   obtain ⟨_, _, _, ⟨_, _⟩, ⟨_, _⟩, _, _, _⟩ := x
   simp only [cond_true, Option.bind_some]
   cases p _ with
   | none => rfl
   | some t => obtain ⟨_, _, _, ⟨_, _⟩, ⟨_, _⟩, _, _, _⟩ := t; rfl
def inF (p : Value → Option Value) : Field → Option Field
 | ⟨m, v⟩ => (p v).bind fun t => some ⟨m, t⟩
theorem au9 (fu : Nat) (p : Field → Option Field) (r : List Field) : MQ fu p r = rP p r := by
 funext q
 obtain ⟨o, i⟩ := q
 unfold MQ rP
 dsimp only
 cases decide (i < ln r)
 ·rfl
 ·cases idx o i with
  | none => rfl
  | some x =>
   obtain ⟨m, ⟨_, _, _, ⟨_, _⟩, ⟨_, _⟩, _, _, _⟩⟩ := x
   simp only [cond_true, Option.bind_some]
   cases p _ with
   | none => rfl
   | some t => obtain ⟨m, ⟨_, _, _, ⟨_, _⟩, ⟨_, _⟩, _, _, _⟩⟩ := t; rfl
theorem ayB (fu : Nat) (q : Field) : Y2 (fu + 1) q = inF (Xq fu) q := by
 obtain ⟨m, ⟨_, _, _, ⟨_, _⟩, ⟨_, _⟩, _, _, _⟩⟩ := q
 rw [Y2.eq_2]
 unfold ad1 inF
 dsimp only
 cases Xq fu _ with
 | none => rfl
 | some t => obtain ⟨_, _, _, ⟨_, _⟩, ⟨_, _⟩, _, _, _⟩ := t; rfl
theorem ari {n : Nat} {l : List Value} {x : Option (List Value)} (h1 : l.length * 112 ≤ reachBytes) (h : ∀ v ∈ l, Xq n v = some (cp v)) :
  P88 (n + 1) ⟨l, x⟩ = some ⟨l.map cp, none⟩ := by
 obtain ⟨o, w1, w2, w3⟩ := map_ok (h := Xq n) (r := l) (fun t a => t = cp a) (dX (by omega) h1) (fun v hv => ⟨_, h v hv, rfl⟩)
 rw [P88.eq_2]
 unfold amQ amM
 dsimp only
 rw [afU, rO (E9 := 112) (k := 112) rfl h1]
 dsimp only [Option.bind_some]
 rw [au8, w1, acL w2 w3]
 rfl
theorem arj {n : Nat} {l : List Field} {x : Option (List Field)} (h1 : l.length * 128 ≤ reachBytes) (h : ∀ q ∈ l, RP (fun v => Xq n v = some (cp v)) q) :
  P89 (n + 2) ⟨l, x⟩ = some ⟨l.map RQ, none⟩ := by
 obtain ⟨o, w1, w2, w3⟩ := map_ok (h := Y2 (n + 1)) (r := l) (fun t a => t = RQ a) (dX (by omega) h1) (fun q hq => by
  have h2 := h _ hq
  rw [ayB]
  obtain ⟨m, v⟩ := q
  exact ⟨RQ ⟨m, v⟩, by simp only [inF, show Xq n v = some (cp v) from h2, Option.bind_some, RQ], rfl⟩)
 rw [P89.eq_2]
 unfold amR amO
 dsimp only
 rw [afV, rO (E9 := 128) (k := 128) rfl h1]
 dsimp only [Option.bind_some]
 rw [au9, w1, acL w2 w3]
 rfl
theorem afW : ∀ (N n : Nat) (v : Value), Fit N v → 3 * N ≤ n → Xq n v = some (cp v) ∧ Ll N (cp v) v := by
 intro N
 induction N with
 | zero => intro n v h; exact absurd h (by obtain ⟨_, _, _, ⟨_, _⟩, ⟨_, _⟩, _, _, _⟩ := v; simp [Fit])
 | succ N ih =>
  intro n v h hn
  obtain ⟨n', rfl⟩ : ∃ n', n = n' + 3 := ⟨n - 3, by omega⟩
  obtain ⟨k, nn, s, ⟨l, x⟩, ⟨f, y⟩, e, c, b⟩ := v
  obtain ⟨⟨p1, p2⟩, p3, p4⟩ := h
  have g1 := ari (n := n' + 1) (x := x) p1 (fun v hv => (ih (n' + 1) v (p2 v hv) (by omega)).1)
  have g2 := arj (n := n') (x := y) p3 (fun q hq => by
   have := p4 q hq
   obtain ⟨m, v⟩ := q
   exact (ih n' v this (by omega)).1)
  constructor
  ·rw [Xq.eq_2]
   unfold amP
   dsimp only
   rw [g1, g2, cp, cpS, cpG, rQ, rR]
   rfl
  ·rw [cp, cpS, cpG, rQ, rR]
   refine ⟨rfl, rfl, rfl, rfl, rfl, rfl, ⟨by simp, fun i t a h1 h2 => ?_⟩, by simp, fun i t a h1 h2 => ?_⟩
   ·rw [List.getElem?_map, h2] at h1
    cases h1
    exact (ih (3 * N) a (p2 a (List.mem_of_getElem? h2)) (Nat.le_refl _)).2
   ·rw [List.getElem?_map, h2] at h1
    cases h1
    have := p4 a (List.mem_of_getElem? h2)
    obtain ⟨m, v⟩ := a
    rw [RQ]
    exact ⟨rfl, (ih (3 * N) v this (Nat.le_refl _)).2⟩
theorem alm (fu : Nat) (p : Value → Value → Option Bool) (a b : List Value) : WM fu p a b = oH a b p := by
 funext i
 unfold WM oH
 dsimp only
 cases decide (i < ln a)
 ·rfl
 ·cases idx a i with
  | none => rfl
  | some x =>
   obtain ⟨_, _, _, ⟨_, _⟩, ⟨_, _⟩, _, _, _⟩ := x
   cases idx b i with
   | none => rfl
   | some y =>
    obtain ⟨_, _, _, ⟨_, _⟩, ⟨_, _⟩, _, _, _⟩ := y
    rfl
theorem aln (fu : Nat) (p : Field → Field → Option Bool) (a b : List Field) : WO fu p a b = oH a b p := by
 funext i
 unfold WO oH
 dsimp only
 cases decide (i < ln a)
 ·rfl
 ·cases idx a i with
  | none => rfl
  | some x =>
   obtain ⟨_, ⟨_, _, _, ⟨_, _⟩, ⟨_, _⟩, _, _, _⟩⟩ := x
   cases idx b i with
   | none => rfl
   | some y =>
    obtain ⟨_, ⟨_, _, _, ⟨_, _⟩, ⟨_, _⟩, _, _, _⟩⟩ := y
    rfl
theorem vS : ∀ (N n : Nat) (a b : Value), Ll N a b → Fit N a → 3 * N ≤ n → P41 n a b = some true := by
 intro N
 induction N with
 | zero => intro n a b h; exact absurd h (by obtain ⟨_, _, _, ⟨_, _⟩, ⟨_, _⟩, _, _, _⟩ := a; simp [Ll])
 | succ N ih =>
  intro n a b h hf hn
  obtain ⟨n', rfl⟩ : ∃ n', n = n' + 3 := ⟨n - 3, by omega⟩
  obtain ⟨k1, n1, s1, ⟨l1, x1⟩, ⟨f1, y1⟩, e1, c1, b1⟩ := a
  obtain ⟨k2, n2, s2, ⟨l2, x2⟩, ⟨f2, y2⟩, e2, c2, b2⟩ := b
  obtain ⟨rfl, rfl, rfl, rfl, rfl, rfl, ⟨u1, u2⟩, u3, u4⟩ := h
  obtain ⟨⟨p1, p2⟩, p3, p4⟩ := hf
  have hl1 := dX (by omega) p1
  have hl3 := dX (by omega) p3
  have e1 : (ln l1 == ln l2) = true := by simp [ln, u1]
  have e2 : (ln f1 == ln f2) = true := by simp [ln, u3]
  have hV : P67 (n' + 2) ⟨l1, x1⟩ ⟨l2, x2⟩ = some true := by
   rw [P67.eq_2]
   simp only [aj5, alm, e1, Bool.not_true, cond_false]
   rw [(xU (a := l1) (b := l2) (p := P41 (n' + 1)) rfl u1.symm (by omega) (fun i x y hx hy => ih (n' + 1) x y (u2 i x y hx hy) (p2 _ (List.mem_of_getElem? hx)) (by omega))).use (t := some true) (f := some false) (fun _ => rfl) (fun _ => rfl)]
   rfl
  have hF : P68 (n' + 2) ⟨f1, y1⟩ ⟨f2, y2⟩ = some true := by
   rw [P68.eq_2]
   simp only [aj6, aln, e2, Bool.not_true, cond_false]
   rw [(xU (a := f1) (b := f2) (p := P91 (n' + 1)) rfl u3.symm (by omega) (fun i x y hx hy => by
    have h1 := u4 i x y hx hy
    have h2 := p4 x (List.mem_of_getElem? hx)
    obtain ⟨m, v⟩ := x
    obtain ⟨m', w⟩ := y
    obtain ⟨rfl, h1⟩ := h1
    have := ih n' v w h1 h2 (by omega)
    rw [P91.eq_2]
    unfold aj7
    obtain ⟨_, _, _, ⟨_, _⟩, ⟨_, _⟩, _, _, _⟩ := v
    obtain ⟨_, _, _, ⟨_, _⟩, ⟨_, _⟩, _, _, _⟩ := w
    dsimp only
    rw [nR, this]
    rfl)).use (t := some true) (f := some false) (fun _ => rfl) (fun _ => rfl)]
   rfl
  rw [P41.eq_2]
  simp only [am9, beq_self_eq_true, nR, cond_true, hV, hF, Option.bind_some]
def Mx (p : Expr → Prop) : Act → Prop
 | .mk _ _ e => p e
def sJ : Nat → Expr → Prop
 | 0, _ => False
 | N + 1, .mk _ _ _ ⟨a, _⟩ ⟨ns, _⟩ ⟨v, _⟩ _ ⟨k, _⟩ ⟨c, _⟩ _ => (a.length * 176 ≤ reachBytes ∧ ∀ e ∈ a, sJ N e) ∧ ns.length * 16 ≤ reachBytes ∧ (v.length * 176 ≤ reachBytes ∧ ∀ e ∈ v, sJ N e) ∧
   (k.length * 176 ≤ reachBytes ∧ ∀ e ∈ k, sJ N e) ∧ c.length * 200 ≤ reachBytes ∧ ∀ q ∈ c, Mx (sJ N) q
def OKE (e : Expr) : Prop := WT tab 126 (lq e)
def OKA (a : Act) : Prop := WT tab 128 (qC a)
def OKC (c : Cell) : Prop := WT tab 78 (jZ c)
theorem alo {l : List Expr} {x : Option (List Expr)} {d : D} (e : jK ⟨l, x⟩ = d) (h : WT tab 123 [d]) : l.length * 176 ≤ reachBytes ∧ ∀ v ∈ l, OKE v := by
 subst e
 obtain ⟨r, q, e, h1, h2, _⟩ := h.eZ Cn
 simp only [jK, List.cons.injEq, D.sl.injEq] at e
 obtain ⟨⟨rfl, _⟩, _⟩ := e
 rw [nT] at h1 h2
 simp only [List.length_map, List.mem_map, forall_exists_index, and_imp, forall_apply_eq_imp_iff₂, Nat.add_mul] at h1 h2
 exact ⟨by omega, h2⟩
theorem ae7 {l : List Act} {x : Option (List Act)} {d : D} (e : kG ⟨l, x⟩ = d) (h : WT tab 76 [d]) : l.length * 200 ≤ reachBytes ∧ ∀ v ∈ l, OKA v := by
 subst e
 obtain ⟨r, q, e, h1, h2, _⟩ := h.eZ FQ
 simp only [kG, List.cons.injEq, D.sl.injEq] at e
 obtain ⟨⟨rfl, _⟩, _⟩ := e
 rw [pG] at h1 h2
 simp only [List.length_map, List.mem_map, forall_exists_index, and_imp, forall_apply_eq_imp_iff₂, Nat.add_mul] at h1 h2
 exact ⟨by omega, h2⟩
theorem ayC {l : List Value} {x : Option (List Value)} {d : D} (e : iI ⟨l, x⟩ = d) (h : WT tab 24 [d]) : l.length * 112 ≤ reachBytes ∧ ∀ v ∈ l, OKV v := by
 subst e
 obtain ⟨r, q, e, h1, h2, _⟩ := h.eZ Mc
 simp only [iI, List.cons.injEq, D.sl.injEq] at e
 obtain ⟨⟨rfl, _⟩, _⟩ := e
 rw [kN] at h1 h2
 simp only [List.length_map, List.mem_map, forall_exists_index, and_imp, forall_apply_eq_imp_iff₂, Nat.add_mul] at h1 h2
 exact ⟨by omega, h2⟩
theorem ark {l : List Field} {x : Option (List Field)} {d : D} (e : gU ⟨l, x⟩ = d) (h : WT tab 25 [d]) : l.length * 128 ≤ reachBytes ∧ ∀ v ∈ l, OKF v := by
 subst e
 obtain ⟨r, q, e, h1, h2, _⟩ := h.eZ Ky
 simp only [gU, List.cons.injEq, D.sl.injEq] at e
 obtain ⟨⟨rfl, _⟩, _⟩ := e
 rw [kP] at h1 h2
 simp only [List.length_map, List.mem_map, forall_exists_index, and_imp, forall_apply_eq_imp_iff₂, Nat.add_mul] at h1 h2
 exact ⟨by omega, h2⟩
theorem afX {k n el : Int} {s t : ByteArray} {a v ky : List Expr} {ax vx kx : Option (List Expr)} {ns : Sl ByteArray} {c : List Act} {cx : Option (List Act)} (h : OKE (Expr.mk k n s ⟨a, ax⟩ ns ⟨v, vx⟩ el ⟨ky, kx⟩ ⟨c, cx⟩ t)) :
  (a.length * 176 ≤ reachBytes ∧ ∀ e ∈ a, OKE e) ∧ ns.l.length * 16 ≤ reachBytes ∧ (v.length * 176 ≤ reachBytes ∧ ∀ e ∈ v, OKE e) ∧ (ky.length * 176 ≤ reachBytes ∧ ∀ e ∈ ky, OKE e) ∧ c.length * 200 ≤ reachBytes ∧ ∀ q ∈ c, OKA q := by
 obtain ⟨a0, _, e0, h0, a1, _, e1, h1, a2, _, e2, h2, a3, _, e3, h3, a4, _, e4, h4, a5, _, e5, h5, a6, _, e6, h6, a7, _, e7, h7, a8, _, e8, h8, a9, _, e9, h9, e10⟩ := h.Ao Lg rfl
 obtain ⟨_, rfl, _⟩ := h0.qy Lh
 obtain ⟨_, rfl, _⟩ := h1.qy ty_2
 obtain ⟨_, rfl, _⟩ := h2.yx Lb
 obtain ⟨r3, q3, rfl, _⟩ := h3.eZ Cn
 obtain ⟨r4, q4, rfl, l4, _⟩ := h4.eZ Li
 obtain ⟨r5, q5, rfl, _⟩ := h5.eZ Cn
 obtain ⟨_, rfl, _⟩ := h6.qy RO
 obtain ⟨r7, q7, rfl, _⟩ := h7.eZ Cn
 obtain ⟨r8, q8, rfl, _⟩ := h8.eZ FQ
 subst e10; subst e9; subst e8; subst e7; subst e6; subst e5; subst e4; subst e3; subst e2; subst e1
 simp only [lq, List.cons_append, List.nil_append, List.cons.injEq] at e0
 obtain ⟨_, _, _, g3, g4, g5, _, g7, g8, _⟩ := e0
 simp only [D.sl.injEq] at g4
 obtain ⟨rfl, _⟩ := g4
 simp only [List.length_map, Nat.add_mul] at l4
 exact ⟨alo g3 h3, by omega, alo g5 h5, alo g7 h7, ae7 g8 h8⟩
theorem T9 {k : Int} {n : ByteArray} {e : Expr} (h : OKA (Act.mk k n e)) : OKE e := by
 obtain ⟨a0, _, e0, h0, a1, _, e1, h1, a2, _, e2, h2, e3⟩ := h.Ao Ld rfl
 obtain ⟨_, rfl, _⟩ := h0.qy Lf
 obtain ⟨_, rfl, _⟩ := h1.yx Lb
 subst e3; subst e2; subst e1
 simp only [qC, List.cons_append, List.nil_append, List.cons.injEq, List.append_nil] at e0
 obtain ⟨_, _, rfl⟩ := e0
 exact h2
theorem aor : ∀ (N : Nat) (e : Expr), SizeOf.sizeOf e ≤ N → OKE e → sJ N e := by
 intro N
 induction N with
 | zero =>
  intro e h
  obtain ⟨_, _, _, ⟨_, _⟩, ⟨_, _⟩, ⟨_, _⟩, _, ⟨_, _⟩, ⟨_, _⟩, _⟩ := e
  simp only [Expr.mk.sizeOf_spec] at h
  omega
 | succ N ih =>
  intro e h oe
  obtain ⟨k, n, s, ⟨a, ax⟩, ⟨ns, nx⟩, ⟨v, vx⟩, el, ⟨ky, kx⟩, ⟨c, cx⟩, t⟩ := e
  obtain ⟨⟨p1, p2⟩, p3, ⟨p4, p5⟩, ⟨p6, p7⟩, p8, p9⟩ := afX oe
  simp only [Expr.mk.sizeOf_spec, Sl.mk.sizeOf_spec] at h
  refine ⟨⟨p1, fun u hu => ?_⟩, p3, ⟨p4, fun u hu => ?_⟩, ⟨p6, fun u hu => ?_⟩, p8, fun q hq => ?_⟩
  ·have := List.sizeOf_lt_of_mem hu; exact ih u (by omega) (p2 u hu)
  ·have := List.sizeOf_lt_of_mem hu; exact ih u (by omega) (p5 u hu)
  ·have := List.sizeOf_lt_of_mem hu; exact ih u (by omega) (p7 u hu)
  ·have := List.sizeOf_lt_of_mem hq
   obtain ⟨k, n, e⟩ := q
   simp only [Act.mk.sizeOf_spec] at this
   exact ih e (by omega) (T9 (p9 _ hq))
def Ua (N : Nat) (l : Sl Act) : Prop := l.l.length * 200 ≤ reachBytes ∧ ∀ t ∈ l.l, Mx (sJ N) t
def aac (N : Nat) (l : Sl Field) : Prop := l.l.length * 128 ≤ reachBytes ∧ ∀ t ∈ l.l, RP (Fit N) t
def alp (N : Nat) (l : Sl Value) : Prop := l.l.length * 112 ≤ reachBytes ∧ ∀ t ∈ l.l, Fit N t
def EK {A : Type} (R : A → A → Prop) (t o : List A) : Prop := t.length = o.length ∧ ∀ (i : Nat) u a, t[i]? = some u → o[i]? = some a → R u a
def acM (p : Expr → Expr → Prop) : Act → Act → Prop
 | ⟨k, n, e⟩, ⟨k', n', e'⟩ => k = k' ∧ n = n' ∧ p e e'
def Kz : Nat → Expr → Expr → Prop
 | 0, _, _ => False
 | N + 1, .mk k n s ⟨a, _⟩ ⟨ns, _⟩ ⟨v, _⟩ el ⟨ky, _⟩ ⟨c, _⟩ t, .mk k' n' s' ⟨a', _⟩ ⟨ns', _⟩ ⟨v', _⟩ el' ⟨ky', _⟩ ⟨c', _⟩ t' =>
  k = k' ∧ n = n' ∧ s = s' ∧ EK (Kz N) a a' ∧ ns = ns' ∧ EK (Kz N) v v' ∧ el = el' ∧ EK (Kz N) ky ky' ∧ EK (acM (Kz N)) c c' ∧ t = t'
theorem ava (fu : Nat) (p : Expr → Expr → Option Bool) (a b : List Expr) : Nu fu p a b = oH a b p := by
 funext i
 unfold Nu oH
 dsimp only
 cases decide (i < ln a)
 ·rfl
 ·cases idx a i with
  | none => rfl
  | some x =>
   obtain ⟨_, _, _, ⟨_, _⟩, ⟨_, _⟩, ⟨_, _⟩, _, ⟨_, _⟩, ⟨_, _⟩, _⟩ := x
   cases idx b i with
   | none => rfl
   | some y =>
    obtain ⟨_, _, _, ⟨_, _⟩, ⟨_, _⟩, ⟨_, _⟩, _, ⟨_, _⟩, ⟨_, _⟩, _⟩ := y
    rfl
theorem alq (fu : Nat) (p : Act → Act → Option Bool) (a b : List Act) : WR fu p a b = oH a b p := by
 funext i
 unfold WR oH
 dsimp only
 cases decide (i < ln a)
 ·rfl
 ·cases idx a i with
  | none => rfl
  | some x =>
   obtain ⟨_, _, ⟨_, _, _, ⟨_, _⟩, ⟨_, _⟩, ⟨_, _⟩, _, ⟨_, _⟩, ⟨_, _⟩, _⟩⟩ := x
   cases idx b i with
   | none => rfl
   | some y =>
    obtain ⟨_, _, ⟨_, _, _, ⟨_, _⟩, ⟨_, _⟩, ⟨_, _⟩, _, ⟨_, _⟩, ⟨_, _⟩, _⟩⟩ := y
    rfl
theorem avb (fu : Nat) (a b : List ByteArray) : Nt fu a b = oH a b (fun x y => some (seq x y)) := by
 funext i
 unfold Nt oH
 dsimp only
 cases decide (i < ln a)
 ·rfl
 ·cases idx a i with
  | none => rfl
  | some x =>
   cases idx b i with
   | none => rfl
   | some y => rfl
theorem acN {fu : Nat} {l : List ByteArray} {x y : Option (List ByteArray)} (h : l.length * 16 ≤ reachBytes) : aj8 fu ⟨l, x⟩ ⟨l, y⟩ = some true := by
 have hl := dX (by omega) h
 unfold aj8
 simp only [avb, beq_self_eq_true, Bool.not_true, cond_false]
 rw [(xU (a := l) (b := l) (p := fun x y => some (seq x y)) rfl rfl (by omega) (fun i u v hu hv => by rw [hu] at hv; cases hv; rw [nR])).use (t := some true) (f := some false) (fun _ => rfl) (fun _ => rfl)]
 rfl
theorem avc : ∀ (N n : Nat) (a b : Expr), Kz N a b → sJ N a → 3 * N ≤ n → ZP n a b = some true := by
 intro N
 induction N with
 | zero => intro n a b h; exact absurd h (by obtain ⟨_, _, _, ⟨_, _⟩, ⟨_, _⟩, ⟨_, _⟩, _, ⟨_, _⟩, ⟨_, _⟩, _⟩ := a; simp [Kz])
 | succ N ih =>
  intro n a b h hf hn
  obtain ⟨n', rfl⟩ : ∃ n', n = n' + 3 := ⟨n - 3, by omega⟩
  obtain ⟨k1, n1, s1, ⟨a1, ax1⟩, ⟨ns1, nx1⟩, ⟨v1, vx1⟩, el1, ⟨ky1, kx1⟩, ⟨c1, cx1⟩, t1⟩ := a
  obtain ⟨k2, n2, s2, ⟨a2, ax2⟩, ⟨ns2, nx2⟩, ⟨v2, vx2⟩, el2, ⟨ky2, kx2⟩, ⟨c2, cx2⟩, t2⟩ := b
  obtain ⟨rfl, rfl, rfl, ha, rfl, hv, rfl, hk, hc, rfl⟩ := h
  obtain ⟨⟨p1, p2⟩, p3, ⟨p4, p5⟩, ⟨p6, p7⟩, p8, p9⟩ := hf
  have row : ∀ (l m : List Expr) (x y : Option (List Expr)), EK (Kz N) l m → l.length * 176 ≤ reachBytes → (∀ e ∈ l, sJ N e) → ab9 (n' + 2) ⟨l, x⟩ ⟨m, y⟩ = some true := by
   intro l m x y h q1 q2
   obtain ⟨u1, u2⟩ := h
   have hl := dX (by omega) q1
   have e1 : (ln l == ln m) = true := by simp [ln, u1]
   rw [ab9.eq_2]
   simp only [aey, ava, e1, Bool.not_true, cond_false]
   rw [(xU (a := l) (b := m) (p := ZP (n' + 1)) rfl u1.symm (by omega) (fun i x y hx hy => ih (n' + 1) x y (u2 i x y hx hy) (q2 _ (List.mem_of_getElem? hx)) (by omega))).use (t := some true) (f := some false) (fun _ => rfl) (fun _ => rfl)]
   rfl
  have hC : P90 (n' + 2) ⟨c1, cx1⟩ ⟨c2, cx2⟩ = some true := by
   obtain ⟨u1, u2⟩ := hc
   have hl := dX (by omega) p8
   have e1 : (ln c1 == ln c2) = true := by simp [ln, u1]
   rw [P90.eq_2]
   simp only [akd, alq, e1, Bool.not_true, cond_false]
   rw [(xU (a := c1) (b := c2) (p := Sk (n' + 1)) rfl u1.symm (by omega) (fun i x y hx hy => by
    have h1 := u2 i x y hx hy
    have h2 := p9 x (List.mem_of_getElem? hx)
    obtain ⟨k, m, e⟩ := x
    obtain ⟨k', m', e'⟩ := y
    obtain ⟨rfl, rfl, h1⟩ := h1
    have := ih n' e e' h1 h2 (by omega)
    rw [Sk.eq_2]
    unfold ZO
    obtain ⟨_, _, _, ⟨_, _⟩, ⟨_, _⟩, ⟨_, _⟩, _, ⟨_, _⟩, ⟨_, _⟩, _⟩ := e
    obtain ⟨_, _, _, ⟨_, _⟩, ⟨_, _⟩, ⟨_, _⟩, _, ⟨_, _⟩, ⟨_, _⟩, _⟩ := e'
    dsimp only
    rw [nR, this, beq_self_eq_true]
    rfl)).use (t := some true) (f := some false) (fun _ => rfl) (fun _ => rfl)]
   rfl
  rw [ZP.eq_2]
  simp only [aex, beq_self_eq_true, nR, cond_true, row a1 a2 ax1 ax2 ha p1 p2, row v1 v2 vx1 vx2 hv p4 p5, row ky1 ky2 kx1 kx2 hk p6 p7, acN (x := nx1) (y := nx2) p3, hC, Option.bind_some]
theorem avd {N n : Nat} {a b : Act} (h : acM (Kz N) a b) (hf : Mx (sJ N) a) (hn : 3 * N + 1 ≤ n) : Sk n a b = some true := by
 obtain ⟨n', rfl⟩ : ∃ n', n = n' + 1 := ⟨n - 1, by omega⟩
 obtain ⟨k, m, e⟩ := a
 obtain ⟨k', m', e'⟩ := b
 obtain ⟨rfl, rfl, h1⟩ := h
 have := avc N n' e e' h1 hf (by omega)
 rw [Sk.eq_2]
 unfold ZO
 obtain ⟨_, _, _, ⟨_, _⟩, ⟨_, _⟩, ⟨_, _⟩, _, ⟨_, _⟩, ⟨_, _⟩, _⟩ := e
 obtain ⟨_, _, _, ⟨_, _⟩, ⟨_, _⟩, ⟨_, _⟩, _, ⟨_, _⟩, ⟨_, _⟩, _⟩ := e'
 dsimp only
 rw [nR, this, beq_self_eq_true]
 rfl
theorem aos {N n : Nat} {l m : List Value} {x y : Option (List Value)} (h : EK (Ll N) l m) (q1 : l.length * 112 ≤ reachBytes) (q2 : ∀ v ∈ l, Fit N v) (hn : 3 * N + 1 ≤ n) : P67 n ⟨l, x⟩ ⟨m, y⟩ = some true := by
 obtain ⟨n', rfl⟩ : ∃ n', n = n' + 1 := ⟨n - 1, by omega⟩
 obtain ⟨u1, u2⟩ := h
 have hl := dX (by omega) q1
 have e1 : (ln l == ln m) = true := by simp [ln, u1]
 rw [P67.eq_2]
 simp only [aj5, alm, e1, Bool.not_true, cond_false]
 rw [(xU (a := l) (b := m) (p := P41 n') rfl u1.symm (by omega) (fun i x y hx hy => vS N n' x y (u2 i x y hx hy) (q2 _ (List.mem_of_getElem? hx)) (by omega))).use (t := some true) (f := some false) (fun _ => rfl) (fun _ => rfl)]
 rfl
theorem ave {N n : Nat} {a b : Field} (h : afT (Ll N) a b) (hf : RP (Fit N) a) (hn : 3 * N + 1 ≤ n) : P91 n a b = some true := by
 obtain ⟨n', rfl⟩ : ∃ n', n = n' + 1 := ⟨n - 1, by omega⟩
 obtain ⟨m, v⟩ := a
 obtain ⟨m', w⟩ := b
 obtain ⟨rfl, h1⟩ := h
 have := vS N n' v w h1 hf (by omega)
 rw [P91.eq_2]
 unfold aj7
 obtain ⟨_, _, _, ⟨_, _⟩, ⟨_, _⟩, _, _, _⟩ := v
 obtain ⟨_, _, _, ⟨_, _⟩, ⟨_, _⟩, _, _, _⟩ := w
 dsimp only
 rw [nR, this]
 rfl
theorem ae8 {N n : Nat} {l m : List Field} {x y : Option (List Field)} (h : EK (afT (Ll N)) l m) (q1 : l.length * 128 ≤ reachBytes) (q2 : ∀ v ∈ l, RP (Fit N) v) (hn : 3 * N + 2 ≤ n) : P68 n ⟨l, x⟩ ⟨m, y⟩ = some true := by
 obtain ⟨n', rfl⟩ : ∃ n', n = n' + 1 := ⟨n - 1, by omega⟩
 obtain ⟨u1, u2⟩ := h
 have hl := dX (by omega) q1
 have e1 : (ln l == ln m) = true := by simp [ln, u1]
 rw [P68.eq_2]
 simp only [aj6, aln, e1, Bool.not_true, cond_false]
 rw [(xU (a := l) (b := m) (p := P91 n') rfl u1.symm (by omega) (fun i x y hx hy => ave (u2 i x y hx hy) (q2 _ (List.mem_of_getElem? hx)) (by omega))).use (t := some true) (f := some false) (fun _ => rfl) (fun _ => rfl)]
 rfl
theorem Xd {N n : Nat} {l m : List Act} {x y : Option (List Act)} (h : EK (acM (Kz N)) l m) (q1 : l.length * 200 ≤ reachBytes) (q2 : ∀ v ∈ l, Mx (sJ N) v) (hn : 3 * N + 2 ≤ n) : P90 n ⟨l, x⟩ ⟨m, y⟩ = some true := by
 obtain ⟨n', rfl⟩ : ∃ n', n = n' + 1 := ⟨n - 1, by omega⟩
 obtain ⟨u1, u2⟩ := h
 have hl := dX (by omega) q1
 have e1 : (ln l == ln m) = true := by simp [ln, u1]
 rw [P90.eq_2]
 simp only [akd, alq, e1, Bool.not_true, cond_false]
 rw [(xU (a := l) (b := m) (p := Sk n') rfl u1.symm (by omega) (fun i x y hx hy => avd (u2 i x y hx hy) (q2 _ (List.mem_of_getElem? hx)) (by omega))).use (t := some true) (f := some false) (fun _ => rfl) (fun _ => rfl)]
 rfl
def alr (N : Nat) (a b : Child) : Prop := a.Key = b.Key ∧ a.Kind = b.Kind ∧ a.Name = b.Name ∧ Ll N a.jN b.jN
theorem ae9 {N n : Nat} {a b : Child} (h : alr N a b) (hf : Fit N a.jN) (hn : 3 * N ≤ n) : P37 n a b = some true := by
 obtain ⟨k, d, m, v⟩ := a
 obtain ⟨k', d', m', w⟩ := b
 obtain ⟨h1, h2, h3, h4⟩ := h
 dsimp only at h1 h2 h3 h4 hf
 subst h1 h2 h3
 have := vS N n v w h4 hf hn
 unfold P37
 obtain ⟨_, _, _, ⟨_, _⟩, ⟨_, _⟩, _, _, _⟩ := v
 obtain ⟨_, _, _, ⟨_, _⟩, ⟨_, _⟩, _, _, _⟩ := w
 dsimp only
 simp only [nR, beq_self_eq_true, this, cond_true, Option.bind_some]
def avf (N : Nat) (a b : Cell) : Prop := a.Kind = b.Kind ∧ a.Name = b.Name ∧ Ll N a.jN b.jN ∧ Ll N a.Next b.Next ∧ EK (Ll N) a.afP.l b.afP.l ∧ EK (acM (Kz N)) a.Do.l b.Do.l ∧ EK (acM (Kz N)) a.Undo.l b.Undo.l ∧
 EK (afT (Ll N)) a.Env.l b.Env.l ∧ a.Runs = b.Runs ∧ a.Ran = b.Ran ∧ EK (acM (Kz N)) a.Old.l b.Old.l ∧ EK (afT (Ll N)) a.Past.l b.Past.l
def zN (N : Nat) (c : Cell) : Prop := Fit N c.jN ∧ Fit N c.Next ∧ alp N c.afP ∧ Ua N c.Do ∧ Ua N c.Undo ∧ aac N c.Env ∧ Ua N c.Old ∧ aac N c.Past
theorem avg {N n : Nat} {a b : Cell} (h : avf N a b) (hf : zN N a) (hn : 3 * N + 2 ≤ n) : P66 n a b = some true := by
 obtain ⟨k, m, v, u, ⟨ds, dx⟩, ⟨do_, dox⟩, ⟨un, unx⟩, ⟨en, enx⟩, r1, r2, ⟨od, odx⟩, ⟨pa, pax⟩⟩ := a
 obtain ⟨k', m', v', u', ⟨ds', dx'⟩, ⟨aAc, ayD⟩, ⟨un', ayE⟩, ⟨en', ayF⟩, r1', r2', ⟨od', ayG⟩, ⟨pa', ayH⟩⟩ := b
 obtain ⟨h1, h2, h3, h4, h5, h6, h7, h8, h9, h10, h11, h12⟩ := h
 obtain ⟨f1, f2, f3, f4, f5, f6, f7, f8⟩ := hf
 dsimp only at h1 h2 h3 h4 h5 h6 h7 h8 h9 h10 h11 h12 f1 f2
 subst h1 h2 h9 h10
 have g1 := vS N n v v' h3 f1 (by omega)
 have g2 := vS N n u u' h4 f2 (by omega)
 have g3 := aos (x := dx) (y := dx') h5 f3.1 f3.2 (n := n) (by omega)
 have g4 := Xd (x := dox) (y := ayD) h6 f4.1 f4.2 (n := n) (by omega)
 have g5 := Xd (x := unx) (y := ayE) h7 f5.1 f5.2 (n := n) (by omega)
 have g6 := ae8 (x := enx) (y := ayF) h8 f6.1 f6.2 (n := n) (by omega)
 have g7 := Xd (x := odx) (y := ayG) h11 f7.1 f7.2 (n := n) (by omega)
 have g8 := ae8 (x := pax) (y := ayH) h12 f8.1 f8.2 (n := n) (by omega)
 unfold P66
 obtain ⟨_, _, _, ⟨_, _⟩, ⟨_, _⟩, _, _, _⟩ := v
 obtain ⟨_, _, _, ⟨_, _⟩, ⟨_, _⟩, _, _, _⟩ := v'
 obtain ⟨_, _, _, ⟨_, _⟩, ⟨_, _⟩, _, _, _⟩ := u
 obtain ⟨_, _, _, ⟨_, _⟩, ⟨_, _⟩, _, _, _⟩ := u'
 dsimp only
 simp only [nR, beq_self_eq_true, g1, g2, g3, g4, g5, g6, g7, g8, cond_true, Option.bind_some]
theorem avh (fu : Nat) (a b : List Cell) : WS fu a b = oH a b (P66 fu) := by
 funext i
 unfold WS oH
 dsimp only
 cases decide (i < ln a)
 ·rfl
 ·cases idx a i with
  | none => rfl
  | some x =>
   obtain ⟨_, _, ⟨_, _, _, ⟨_, _⟩, ⟨_, _⟩, _, _, _⟩, ⟨_, _, _, ⟨_, _⟩, ⟨_, _⟩, _, _, _⟩, ⟨_, _⟩, ⟨_, _⟩, ⟨_, _⟩, ⟨_, _⟩, _, _, ⟨_, _⟩, ⟨_, _⟩⟩ := x
   cases idx b i with
   | none => rfl
   | some y =>
    obtain ⟨_, _, ⟨_, _, _, ⟨_, _⟩, ⟨_, _⟩, _, _, _⟩, ⟨_, _, _, ⟨_, _⟩, ⟨_, _⟩, _, _, _⟩, ⟨_, _⟩, ⟨_, _⟩, ⟨_, _⟩, ⟨_, _⟩, _, _, ⟨_, _⟩, ⟨_, _⟩⟩ := y
    rfl
theorem aot (fu : Nat) (a b : List Child) : WU fu a b = oH a b (P37 fu) := by
 funext i
 unfold WU oH
 dsimp only
 cases decide (i < ln a)
 ·rfl
 ·cases idx a i with
  | none => rfl
  | some x =>
   obtain ⟨_, _, _, ⟨_, _, _, ⟨_, _⟩, ⟨_, _⟩, _, _, _⟩⟩ := x
   cases idx b i with
   | none => rfl
   | some y =>
    obtain ⟨_, _, _, ⟨_, _, _, ⟨_, _⟩, ⟨_, _⟩, _, _, _⟩⟩ := y
    rfl
theorem avi (fu : Nat) (p : Inst → Inst → Option Bool) (a b : List Inst) : WV fu p a b = oH a b p := by
 funext i
 unfold WV oH
 dsimp only
 cases decide (i < ln a)
 ·rfl
 ·cases idx a i with
  | none => rfl
  | some x =>
   obtain ⟨_, ⟨_, _, _, ⟨_, _, _, ⟨_, _⟩, ⟨_, _⟩, _, _, _⟩⟩, ⟨_, _⟩, ⟨_, _⟩, ⟨_, _⟩, _, _, _, ⟨_, _, _, ⟨_, _⟩, ⟨_, _⟩, _, _, _⟩, _, _, ⟨_, _⟩, _, _⟩ := x
   cases idx b i with
   | none => rfl
   | some y =>
    obtain ⟨_, ⟨_, _, _, ⟨_, _, _, ⟨_, _⟩, ⟨_, _⟩, _, _, _⟩⟩, ⟨_, _⟩, ⟨_, _⟩, ⟨_, _⟩, _, _, _, ⟨_, _, _, ⟨_, _⟩, ⟨_, _⟩, _, _, _⟩, _, _, ⟨_, _⟩, _, _⟩ := y
    rfl
theorem aou {N n : Nat} {l m : List Cell} {x y : Option (List Cell)} (h : EK (avf N) l m) (q1 : l.length * 400 ≤ reachBytes) (q2 : ∀ v ∈ l, zN N v) (hn : 3 * N + 2 ≤ n) : P38 n ⟨l, x⟩ ⟨m, y⟩ = some true := by
 obtain ⟨u1, u2⟩ := h
 have hl := dX (by omega) q1
 have e1 : (ln l == ln m) = true := by simp [ln, u1]
 unfold P38
 simp only [avh, e1, Bool.not_true, cond_false]
 rw [(xU (a := l) (b := m) rfl u1.symm (by omega) (fun i x y hx hy => avg (u2 i x y hx hy) (q2 _ (List.mem_of_getElem? hx)) (by omega))).use (t := some true) (f := some false) (fun _ => rfl) (fun _ => rfl)]
 rfl
theorem als {N n : Nat} {l m : List Child} {x y : Option (List Child)} (h : EK (alr N) l m) (q1 : l.length * 152 ≤ reachBytes) (q2 : ∀ v ∈ l, Fit N v.jN) (hn : 3 * N ≤ n) : P39 n ⟨l, x⟩ ⟨m, y⟩ = some true := by
 obtain ⟨u1, u2⟩ := h
 have hl := dX (by omega) q1
 have e1 : (ln l == ln m) = true := by simp [ln, u1]
 unfold P39
 simp only [aot, e1, Bool.not_true, cond_false]
 rw [(xU (a := l) (b := m) rfl u1.symm (by omega) (fun i x y hx hy => ae9 (u2 i x y hx hy) (q2 _ (List.mem_of_getElem? hx)) (by omega))).use (t := some true) (f := some false) (fun _ => rfl) (fun _ => rfl)]
 rfl
end Go.Proofs.Ytedfkehkcaaplaa
