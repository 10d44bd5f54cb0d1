/- T -/
import Derived.Test.YtedfkehkcaaplaaTFO
import Derived.Test.YtedfkehkcaaplaaTFV
import Derived.Test.YtedfkehkcaaplaaTFL0
namespace Go.Proofs.Ytedfkehkcaaplaa
open Go Go.X
set_option linter.unusedVariables false
set_option maxRecDepth 100000
def Sv (v : Value) : Prop := WT tab 27 (dM v)
def OKF (f : Field) : Prop := WT tab 112 (gN f)
theorem RU {k n : Int} {s key : ByteArray} {l : List Value} {f : List Field} {x : Option (List Value)} {fx : Option (List Field)} {e : Int} {hk : Bool} (h : Sv (Value.mk k n s ⟨l, x⟩ ⟨f, fx⟩ e key hk)) :
  l.length * 112 ≤ reachBytes ∧ (∀ v ∈ l, Sv v) ∧ f.length * 128 ≤ reachBytes ∧ (∀ q ∈ f, OKF q) := by
 obtain ⟨a0, _, e0, h0, a1, _, e1, h1, a2, _, e2, h2, a3, _, e3, h3, a4, _, e4, h4, _⟩ := h.sJ Gz rfl
 obtain ⟨_, rfl, _⟩ := h0.mX GA
 obtain ⟨_, rfl, _⟩ := h1.mX ty_2
 obtain ⟨_, rfl, _⟩ := h2.pX zV
 obtain ⟨r3, q3, rfl, l3, m3, _⟩ := h3.dz AV
 obtain ⟨r4, q4, rfl, l4, m4, _⟩ := h4.dz za
 subst e4; subst e3; subst e2; subst e1
 simp only [dM, fD, eG, List.cons_append, List.nil_append, List.cons.injEq, D.sl.injEq] at e0
 obtain ⟨_, _, _, ⟨rfl, _⟩, ⟨rfl, _⟩, _⟩ := e0
 rw [iq] at l3 m3
 rw [iw] at l4 m4
 simp only [List.length_map, List.mem_map, forall_exists_index, and_imp, forall_apply_eq_imp_iff₂, Nat.add_mul] at l3 m3 l4 m4
 exact ⟨by omega, m3, by omega, m4⟩
theorem GK {n : ByteArray} {v : Value} (h : OKF (Field.mk n v)) : Sv v := by
 obtain ⟨a0, _, e0, h0, a1, _, e1, h1, e2⟩ := h.sJ zW rfl
 obtain ⟨_, rfl, _⟩ := h0.pX zV
 subst e2; subst e1
 simp only [gN, List.cons_append, List.nil_append, List.cons.injEq, List.append_nil] at e0
 obtain ⟨_, rfl⟩ := e0
 exact h1
theorem OX {x : Value} {k n : Int} {s key : ByteArray} {l : List Value} {lx : Option (List Value)} {f : Sl Field} {e : Int} {hk : Bool} (h : x ∈ l) : SizeOf.sizeOf x < SizeOf.sizeOf (Value.mk k n s ⟨l, lx⟩ f e key hk) := by
 have := List.sizeOf_lt_of_mem h
 simp only [Value.mk.sizeOf_spec, Sl.mk.sizeOf_spec]
 omega
theorem OY {q : Field} {k n : Int} {s key : ByteArray} {f : List Field} {fx : Option (List Field)} {l : Sl Value} {e : Int} {hk : Bool} (h : q ∈ f) : SizeOf.sizeOf q < SizeOf.sizeOf (Value.mk k n s l ⟨f, fx⟩ e key hk) := by
 have := List.sizeOf_lt_of_mem h
 simp only [Value.mk.sizeOf_spec, Sl.mk.sizeOf_spec]
 omega
theorem OZ {m : ByteArray} {v : Value} : SizeOf.sizeOf v < SizeOf.sizeOf (Field.mk m v) := by
 simp only [Field.mk.sizeOf_spec]
 omega
def RV (p : Value → Value → Prop) : Field → Field → Prop
 | ⟨m, v⟩, ⟨m', v'⟩ => m = m' ∧ p v v'
def Ad : Nat → Value → Value → Prop
 | 0, _, _ => False
 | N + 1, .mk k n s ⟨l, _⟩ ⟨f, _⟩ e c b, .mk k' n' s' ⟨l', _⟩ ⟨f', _⟩ e' c' b' => k = k' ∧ n = n' ∧ s = s' ∧ e = e' ∧ c = c' ∧ b = b' ∧
   (l.length = l'.length ∧ ∀ (i : Nat) t a, l[i]? = some t → l'[i]? = some a → Ad N t a) ∧ f.length = f'.length ∧ ∀ (i : Nat) t a, f[i]? = some t → f'[i]? = some a → RV (Ad N) t a
theorem Ad.refl : ∀ (N : Nat) (v : Value), SizeOf.sizeOf v ≤ N → Ad N v v := by
 intro N
 induction N with
 | zero =>
  intro v h
  obtain ⟨_, _, _, ⟨_, _⟩, ⟨_, _⟩, _, _, _⟩ := v
  simp only [Value.mk.sizeOf_spec] at h
  omega
 | succ N ih =>
  intro v h
  obtain ⟨k, n, s, ⟨l, x⟩, ⟨f, y⟩, e, c, b⟩ := v
  refine ⟨rfl, rfl, rfl, rfl, rfl, rfl, ⟨rfl, fun i t a h1 h2 => ?_⟩, rfl, fun i t a h1 h2 => ?_⟩
  ·rw [h1] at h2; cases h2
   have := OX (k := k) (n := n) (s := s) (key := c) (lx := x) (f := ⟨f, y⟩) (e := e) (hk := b) (List.mem_of_getElem? h1)
   exact ih t (by omega)
  ·rw [h1] at h2; cases h2
   have := OY (k := k) (n := n) (s := s) (key := c) (l := ⟨l, x⟩) (fx := y) (e := e) (hk := b) (List.mem_of_getElem? h1)
   obtain ⟨m, v⟩ := t
   have := OZ (m := m) (v := v)
   exact ⟨rfl, ih v (by omega)⟩
def Bn (p : Value → Prop) : Field → Prop
 | ⟨_, v⟩ => p v
def Fit : Nat → Value → Prop
 | 0, _ => False
 | N + 1, .mk _ _ _ ⟨l, _⟩ ⟨f, _⟩ _ _ _ => (l.length * 112 ≤ reachBytes ∧ ∀ v ∈ l, Fit N v) ∧ f.length * 128 ≤ reachBytes ∧ ∀ q ∈ f, Bn (Fit N) q
theorem xw : ∀ (N : Nat) (v : Value), SizeOf.sizeOf v ≤ N → Sv v → Fit N v := by
 intro N
 induction N with
 | zero =>
  intro v h
  obtain ⟨_, _, _, ⟨_, _⟩, ⟨_, _⟩, _, _, _⟩ := v
  simp only [Value.mk.sizeOf_spec] at h
  omega
 | succ N ih =>
  intro v h ov
  obtain ⟨k, n, s, ⟨l, x⟩, ⟨f, y⟩, e, c, b⟩ := v
  obtain ⟨p1, p2, p3, p4⟩ := RU ov
  refine ⟨⟨p1, fun v hv => ?_⟩, p3, fun q hq => ?_⟩
  ·have := OX (k := k) (n := n) (s := s) (key := c) (lx := x) (f := ⟨f, y⟩) (e := e) (hk := b) hv
   exact ih v (by omega) (p2 v hv)
  ·have := OY (k := k) (n := n) (s := s) (key := c) (l := ⟨l, x⟩) (fx := y) (e := e) (hk := b) hq
   obtain ⟨m, v⟩ := q
   have := OZ (m := m) (v := v)
   exact ih v (by omega) (GK (p4 _ hq))
theorem Ad.symm : ∀ (N : Nat) (t v : Value), Ad N t v → Ad N v t := by
 intro N
 induction N with
 | zero => intro t v h; exact absurd h (by obtain ⟨_, _, _, ⟨_, _⟩, ⟨_, _⟩, _, _, _⟩ := t; simp [Ad])
 | succ N ih =>
  intro t v h
  obtain ⟨k, n, s, ⟨l, x⟩, ⟨f, y⟩, e, c, b⟩ := v
  obtain ⟨k', n', s', ⟨l', x'⟩, ⟨f', y'⟩, e', c', b'⟩ := t
  obtain ⟨h1, h2, h3, h4, h5, h6, ⟨h7, h8⟩, h9, h10⟩ := h
  refine ⟨h1.symm, h2.symm, h3.symm, h4.symm, h5.symm, h6.symm, ⟨h7.symm, fun i t a g1 g2 => ih _ _ (h8 i a t g2 g1)⟩, h9.symm, fun i t a g1 g2 => ?_⟩
  have := h10 i a t g2 g1
  obtain ⟨m, u⟩ := a
  obtain ⟨m', u'⟩ := t
  exact ⟨this.1.symm, ih _ _ this.2⟩
theorem Ad.trans : ∀ (N : Nat) (a b c : Value), Ad N a b → Ad N b c → Ad N a c := by
 intro N
 induction N with
 | zero => intro a b c h; exact absurd h (by obtain ⟨_, _, _, ⟨_, _⟩, ⟨_, _⟩, _, _, _⟩ := a; simp [Ad])
 | succ N ih =>
  intro a b c h k
  obtain ⟨k1, n1, s1, ⟨l1, x1⟩, ⟨f1, y1⟩, e1, c1, b1⟩ := a
  obtain ⟨k2, n2, s2, ⟨l2, x2⟩, ⟨f2, y2⟩, e2, c2, b2⟩ := b
  obtain ⟨k3, n3, s3, ⟨l3, x3⟩, ⟨f3, y3⟩, e3, c3, b3⟩ := c
  obtain ⟨h1, h2, h3, h4, h5, h6, ⟨h7, h8⟩, h9, h10⟩ := h
  obtain ⟨g1, g2, g3, g4, g5, g6, ⟨g7, g8⟩, g9, g10⟩ := k
  refine ⟨h1.trans g1, h2.trans g2, h3.trans g3, h4.trans g4, h5.trans g5, h6.trans g6, ⟨h7.trans g7, fun i t a u1 u2 => ?_⟩, h9.trans g9, fun i t a u1 u2 => ?_⟩
  ·have hl : i < l2.length := by rw [← h7]; exact (List.getElem?_eq_some_iff.1 u1).1
   exact ih _ _ _ (h8 i t l2[i] u1 (List.getElem?_eq_getElem hl)) (g8 i l2[i] a (List.getElem?_eq_getElem hl) u2)
  ·have hl : i < f2.length := by rw [← h9]; exact (List.getElem?_eq_some_iff.1 u1).1
   have w1 := h10 i t f2[i] u1 (List.getElem?_eq_getElem hl)
   have w2 := g10 i f2[i] a (List.getElem?_eq_getElem hl) u2
   generalize f2[i] = q at w1 w2
   obtain ⟨m1, v1⟩ := t
   obtain ⟨m2, v2⟩ := q
   obtain ⟨m3, v3⟩ := a
   exact ⟨w1.1.trans w2.1, ih _ _ _ w1.2 w2.2⟩
theorem RX (fu : Nat) (l : List Value) (x : Option (List Value)) : Y1 fu ⟨l, x⟩ = qC 112 l := rfl
theorem RY (fu : Nat) (l : List Field) (x : Option (List Field)) : Y3 fu ⟨l, x⟩ = qC 128 l := rfl
mutual
noncomputable def cp : Value → Value
 | .mk k n s l f e c b => .mk k n s (QC l) (MS f) e c b
noncomputable def EC : Field → Field
 | .mk m v => .mk m (cp v)
noncomputable def QC : Sl Value → Sl Value
 | .mk l x => .mk (cpL l) none
noncomputable def cpL : List Value → List Value
 | [] => []
 | v :: r => cp v :: cpL r
noncomputable def MS : Sl Field → Sl Field
 | .mk l x => .mk (cpM l) none
noncomputable def cpM : List Field → List Field
 | [] => []
 | v :: r => EC v :: cpM r
end
theorem mo : ∀ l, cpL l = l.map cp
 | [] => by rw [cpL]; rfl
 | v :: r => by rw [cpL, mo r]; rfl
theorem mq : ∀ l, cpM l = l.map EC
 | [] => by rw [cpM]; rfl
 | v :: r => by rw [cpM, mq r]; rfl
theorem O1 {A : Type} {h : A → A} {o l : List A} (h1 : o.length = l.length) (h2 : ∀ (i : Nat) t a, o[i]? = some t → l[i]? = some a → t = h a) : o = l.map h := by
 refine List.ext_getElem (by simp [h1]) fun i hi hj => ?_
 have hj' : i < l.length := by simpa using hj
 rw [List.getElem_map]
 exact h2 i _ _ (List.getElem?_eq_getElem hi) (List.getElem?_eq_getElem hj')
theorem ac1 (fu : Nat) (p : Value → Option Value) (r : List Value) : BK fu p r = mh p r := by
 funext q
 obtain ⟨o, i⟩ := q
 unfold BK mh
 dsimp only
 cases decide (i < ln r)
 ·rfl
 ·cases idx o i with
  | none => rfl
  | some x =>
   obtain ⟨_, _, _, ⟨_, _⟩, ⟨_, _⟩, _, _, _⟩ := x
   simp only [cond_true, Option.bind_some]
   cases p _ with
   | none => rfl
   | some t => obtain ⟨_, _, _, ⟨_, _⟩, ⟨_, _⟩, _, _, _⟩ := t; rfl
def inF (p : Value → Option Value) : Field → Option Field
 | ⟨m, v⟩ => (p v).bind fun t => some ⟨m, t⟩
theorem ac2 (fu : Nat) (p : Field → Option Field) (r : List Field) : BL fu p r = mh p r := by
 funext q
 obtain ⟨o, i⟩ := q
 unfold BL mh
 dsimp only
 cases decide (i < ln r)
 ·rfl
 ·cases idx o i with
  | none => rfl
  | some x =>
   obtain ⟨m, ⟨_, _, _, ⟨_, _⟩, ⟨_, _⟩, _, _, _⟩⟩ := x
   simp only [cond_true, Option.bind_some]
   cases p _ with
   | none => rfl
   | some t => obtain ⟨m, ⟨_, _, _, ⟨_, _⟩, ⟨_, _⟩, _, _, _⟩⟩ := t; rfl
theorem afR (fu : Nat) (q : Field) : Mj (fu + 1) q = inF (Ki fu) q := by
 obtain ⟨m, ⟨_, _, _, ⟨_, _⟩, ⟨_, _⟩, _, _, _⟩⟩ := q
 rw [Mj.eq_2]
 unfold Qf inF
 dsimp only
 cases Ki fu _ with
 | none => rfl
 | some t => obtain ⟨_, _, _, ⟨_, _⟩, ⟨_, _⟩, _, _, _⟩ := t; rfl
theorem abb {n : Nat} {l : List Value} {x : Option (List Value)} (h1 : l.length * 112 ≤ reachBytes) (h : ∀ v ∈ l, Ki n v = some (cp v)) :
  Xn (n + 1) ⟨l, x⟩ = some ⟨l.map cp, none⟩ := by
 obtain ⟨o, w1, w2, w3⟩ := map_ok (h := Ki n) (r := l) (fun t a => t = cp a) (bH (by omega) h1) (fun v hv => ⟨_, h v hv, rfl⟩)
 rw [Xn.eq_2]
 unfold Y6 Y2
 dsimp only
 rw [RX, nJ (vX := 112) (k := 112) rfl h1]
 dsimp only [Option.bind_some]
 rw [ac1, w1, O1 w2 w3]
 rfl
theorem abd {n : Nat} {l : List Field} {x : Option (List Field)} (h1 : l.length * 128 ≤ reachBytes) (h : ∀ q ∈ l, Bn (fun v => Ki n v = some (cp v)) q) :
  Vu (n + 2) ⟨l, x⟩ = some ⟨l.map EC, none⟩ := by
 obtain ⟨o, w1, w2, w3⟩ := map_ok (h := Mj (n + 1)) (r := l) (fun t a => t = EC a) (bH (by omega) h1) (fun q hq => by
  have h2 := h _ hq
  rw [afR]
  obtain ⟨m, v⟩ := q
  exact ⟨EC ⟨m, v⟩, by simp only [inF, show Ki n v = some (cp v) from h2, Option.bind_some, EC], rfl⟩)
 rw [Vu.eq_2]
 unfold Y7 Y4
 dsimp only
 rw [RY, nJ (vX := 128) (k := 128) rfl h1]
 dsimp only [Option.bind_some]
 rw [ac2, w1, O1 w2 w3]
 rfl
theorem RZ : ∀ (N n : Nat) (v : Value), Fit N v → 3 * N ≤ n → Ki n v = some (cp v) ∧ Ad N (cp v) v := by
 intro N
 induction N with
 | zero => intro n v h; exact absurd h (by obtain ⟨_, _, _, ⟨_, _⟩, ⟨_, _⟩, _, _, _⟩ := v; simp [Fit])
 | succ N ih =>
  intro n v h hn
  obtain ⟨n', rfl⟩ : ∃ n', n = n' + 3 := ⟨n - 3, by omega⟩
  obtain ⟨k, nn, s, ⟨l, x⟩, ⟨f, y⟩, e, c, b⟩ := v
  obtain ⟨⟨p1, p2⟩, p3, p4⟩ := h
  have g1 := abb (n := n' + 1) (x := x) p1 (fun v hv => (ih (n' + 1) v (p2 v hv) (by omega)).1)
  have g2 := abd (n := n') (x := y) p3 (fun q hq => by
   have := p4 q hq
   obtain ⟨m, v⟩ := q
   exact (ih n' v this (by omega)).1)
  constructor
  ·rw [Ki.eq_2]
   unfold Y5
   dsimp only
   rw [g1, g2, cp, QC, MS, mo, mq]
   rfl
  ·rw [cp, QC, MS, mo, mq]
   refine ⟨rfl, rfl, rfl, rfl, rfl, rfl, ⟨by simp, fun i t a h1 h2 => ?_⟩, by simp, fun i t a h1 h2 => ?_⟩
   ·rw [List.getElem?_map, h2] at h1
    cases h1
    exact (ih (3 * N) a (p2 a (List.mem_of_getElem? h2)) (Nat.le_refl _)).2
   ·rw [List.getElem?_map, h2] at h1
    cases h1
    have := p4 a (List.mem_of_getElem? h2)
    obtain ⟨m, v⟩ := a
    rw [EC]
    exact ⟨rfl, (ih (3 * N) v this (Nat.le_refl _)).2⟩
theorem O4 (fu : Nat) (p : Value → Value → Option Bool) (a b : List Value) : Jt fu p a b = iN a b p := by
 funext i
 unfold Jt iN
 dsimp only
 cases decide (i < ln a)
 ·rfl
 ·cases idx a i with
  | none => rfl
  | some x =>
   obtain ⟨_, _, _, ⟨_, _⟩, ⟨_, _⟩, _, _, _⟩ := x
   cases idx b i with
   | none => rfl
   | some y =>
    obtain ⟨_, _, _, ⟨_, _⟩, ⟨_, _⟩, _, _, _⟩ := y
    rfl
theorem O5 (fu : Nat) (p : Field → Field → Option Bool) (a b : List Field) : Ju fu p a b = iN a b p := by
 funext i
 unfold Ju iN
 dsimp only
 cases decide (i < ln a)
 ·rfl
 ·cases idx a i with
  | none => rfl
  | some x =>
   obtain ⟨_, ⟨_, _, _, ⟨_, _⟩, ⟨_, _⟩, _, _, _⟩⟩ := x
   cases idx b i with
   | none => rfl
   | some y =>
    obtain ⟨_, ⟨_, _, _, ⟨_, _⟩, ⟨_, _⟩, _, _, _⟩⟩ := y
    rfl
theorem nW : ∀ (N n : Nat) (a b : Value), Ad N a b → Fit N a → 3 * N ≤ n → Jv n a b = some true := by
 intro N
 induction N with
 | zero => intro n a b h; exact absurd h (by obtain ⟨_, _, _, ⟨_, _⟩, ⟨_, _⟩, _, _, _⟩ := a; simp [Ad])
 | succ N ih =>
  intro n a b h hf hn
  obtain ⟨n', rfl⟩ : ∃ n', n = n' + 3 := ⟨n - 3, by omega⟩
  obtain ⟨k1, n1, s1, ⟨l1, x1⟩, ⟨f1, y1⟩, e1, c1, b1⟩ := a
  obtain ⟨k2, n2, s2, ⟨l2, x2⟩, ⟨f2, y2⟩, e2, c2, b2⟩ := b
  obtain ⟨rfl, rfl, rfl, rfl, rfl, rfl, ⟨u1, u2⟩, u3, u4⟩ := h
  obtain ⟨⟨p1, p2⟩, p3, p4⟩ := hf
  have hl1 := bH (by omega) p1
  have hl3 := bH (by omega) p3
  have e1 : (ln l1 == ln l2) = true := by simp [ln, u1]
  have e2 : (ln f1 == ln f2) = true := by simp [ln, u3]
  have hV : Qn (n' + 2) ⟨l1, x1⟩ ⟨l2, x2⟩ = some true := by
   rw [Qn.eq_2]
   simp only [RL, O4, e1, Bool.not_true, cond_false]
   rw [(pq (a := l1) (b := l2) (p := Jv (n' + 1)) rfl u1.symm (by omega) (fun i x y hx hy => ih (n' + 1) x y (u2 i x y hx hy) (p2 _ (List.mem_of_getElem? hx)) (by omega))).use (t := some true) (f := some false) (fun _ => rfl) (fun _ => rfl)]
   rfl
  have hF : Oz (n' + 2) ⟨f1, y1⟩ ⟨f2, y2⟩ = some true := by
   rw [Oz.eq_2]
   simp only [RN, O5, e2, Bool.not_true, cond_false]
   rw [(pq (a := f1) (b := f2) (p := RP (n' + 1)) rfl u3.symm (by omega) (fun i x y hx hy => by
    have h1 := u4 i x y hx hy
    have h2 := p4 x (List.mem_of_getElem? hx)
    obtain ⟨m, v⟩ := x
    obtain ⟨m', w⟩ := y
    obtain ⟨rfl, h1⟩ := h1
    have := ih n' v w h1 h2 (by omega)
    rw [RP.eq_2]
    unfold RO
    obtain ⟨_, _, _, ⟨_, _⟩, ⟨_, _⟩, _, _, _⟩ := v
    obtain ⟨_, _, _, ⟨_, _⟩, ⟨_, _⟩, _, _, _⟩ := w
    dsimp only
    rw [kE, this]
    rfl)).use (t := some true) (f := some false) (fun _ => rfl) (fun _ => rfl)]
   rfl
  rw [Jv.eq_2]
  simp only [Vy, beq_self_eq_true, kE, cond_true, hV, hF, Option.bind_some]
def Ae (p : Expr → Prop) : Act → Prop
 | .mk _ _ e => p e
def mD : Nat → Expr → Prop
 | 0, _ => False
 | N + 1, .mk _ _ _ ⟨a, _⟩ ⟨ns, _⟩ ⟨v, _⟩ _ ⟨k, _⟩ ⟨c, _⟩ _ => (a.length * 176 ≤ reachBytes ∧ ∀ e ∈ a, mD N e) ∧ ns.length * 16 ≤ reachBytes ∧ (v.length * 176 ≤ reachBytes ∧ ∀ e ∈ v, mD N e) ∧
   (k.length * 176 ≤ reachBytes ∧ ∀ e ∈ k, mD N e) ∧ c.length * 200 ≤ reachBytes ∧ ∀ q ∈ c, Ae (mD N) q
def OKE (e : Expr) : Prop := WT tab 126 (iD e)
def OKA (a : Act) : Prop := WT tab 128 (lX a)
def OKC (c : Cell) : Prop := WT tab 78 (gP c)
theorem Wd {l : List Expr} {x : Option (List Expr)} {d : D} (e : gy ⟨l, x⟩ = d) (h : WT tab 123 [d]) : l.length * 176 ≤ reachBytes ∧ ∀ v ∈ l, OKE v := by
 subst e
 obtain ⟨r, q, e, h1, h2, _⟩ := h.dz sP
 simp only [gy, List.cons.injEq, D.sl.injEq] at e
 obtain ⟨⟨rfl, _⟩, _⟩ := e
 rw [jF] at h1 h2
 simp only [List.length_map, List.mem_map, forall_exists_index, and_imp, forall_apply_eq_imp_iff₂, Nat.add_mul] at h1 h2
 exact ⟨by omega, h2⟩
theorem QD {l : List Act} {x : Option (List Act)} {d : D} (e : gY ⟨l, x⟩ = d) (h : WT tab 76 [d]) : l.length * 200 ≤ reachBytes ∧ ∀ v ∈ l, OKA v := by
 subst e
 obtain ⟨r, q, e, h1, h2, _⟩ := h.dz wE
 simp only [gY, List.cons.injEq, D.sl.injEq] at e
 obtain ⟨⟨rfl, _⟩, _⟩ := e
 rw [kS] at h1 h2
 simp only [List.length_map, List.mem_map, forall_exists_index, and_imp, forall_apply_eq_imp_iff₂, Nat.add_mul] at h1 h2
 exact ⟨by omega, h2⟩
theorem afS {l : List Value} {x : Option (List Value)} {d : D} (e : fD ⟨l, x⟩ = d) (h : WT tab 24 [d]) : l.length * 112 ≤ reachBytes ∧ ∀ v ∈ l, Sv v := by
 subst e
 obtain ⟨r, q, e, h1, h2, _⟩ := h.dz AV
 simp only [fD, List.cons.injEq, D.sl.injEq] at e
 obtain ⟨⟨rfl, _⟩, _⟩ := e
 rw [iq] at h1 h2
 simp only [List.length_map, List.mem_map, forall_exists_index, and_imp, forall_apply_eq_imp_iff₂, Nat.add_mul] at h1 h2
 exact ⟨by omega, h2⟩
theorem abe {l : List Field} {x : Option (List Field)} {d : D} (e : eG ⟨l, x⟩ = d) (h : WT tab 25 [d]) : l.length * 128 ≤ reachBytes ∧ ∀ v ∈ l, OKF v := by
 subst e
 obtain ⟨r, q, e, h1, h2, _⟩ := h.dz za
 simp only [eG, List.cons.injEq, D.sl.injEq] at e
 obtain ⟨⟨rfl, _⟩, _⟩ := e
 rw [iw] at h1 h2
 simp only [List.length_map, List.mem_map, forall_exists_index, and_imp, forall_apply_eq_imp_iff₂, Nat.add_mul] at h1 h2
 exact ⟨by omega, h2⟩
theorem Sb {k n el : Int} {s t : ByteArray} {a v ky : List Expr} {ax vx kx : Option (List Expr)} {ns : Sl ByteArray} {c : List Act} {cx : Option (List Act)} (h : OKE (Expr.mk k n s ⟨a, ax⟩ ns ⟨v, vx⟩ el ⟨ky, kx⟩ ⟨c, cx⟩ t)) :
  (a.length * 176 ≤ reachBytes ∧ ∀ e ∈ a, OKE e) ∧ ns.l.length * 16 ≤ reachBytes ∧ (v.length * 176 ≤ reachBytes ∧ ∀ e ∈ v, OKE e) ∧ (ky.length * 176 ≤ reachBytes ∧ ∀ e ∈ ky, OKE e) ∧ c.length * 200 ≤ reachBytes ∧ ∀ q ∈ c, OKA q := by
 obtain ⟨a0, _, e0, h0, a1, _, e1, h1, a2, _, e2, h2, a3, _, e3, h3, a4, _, e4, h4, a5, _, e5, h5, a6, _, e6, h6, a7, _, e7, h7, a8, _, e8, h8, a9, _, e9, h9, e10⟩ := h.sJ zZ rfl
 obtain ⟨_, rfl, _⟩ := h0.mX Aa
 obtain ⟨_, rfl, _⟩ := h1.mX ty_2
 obtain ⟨_, rfl, _⟩ := h2.pX zV
 obtain ⟨r3, q3, rfl, _⟩ := h3.dz sP
 obtain ⟨r4, q4, rfl, l4, _⟩ := h4.dz Ab
 obtain ⟨r5, q5, rfl, _⟩ := h5.dz sP
 obtain ⟨_, rfl, _⟩ := h6.mX EA
 obtain ⟨r7, q7, rfl, _⟩ := h7.dz sP
 obtain ⟨r8, q8, rfl, _⟩ := h8.dz wE
 subst e10; subst e9; subst e8; subst e7; subst e6; subst e5; subst e4; subst e3; subst e2; subst e1
 simp only [iD, List.cons_append, List.nil_append, List.cons.injEq] at e0
 obtain ⟨_, _, _, g3, g4, g5, _, g7, g8, _⟩ := e0
 simp only [D.sl.injEq] at g4
 obtain ⟨rfl, _⟩ := g4
 simp only [List.length_map, Nat.add_mul] at l4
 exact ⟨Wd g3 h3, by omega, Wd g5 h5, Wd g7 h7, QD g8 h8⟩
theorem GL {k : Int} {n : ByteArray} {e : Expr} (h : OKA (Act.mk k n e)) : OKE e := by
 obtain ⟨a0, _, e0, h0, a1, _, e1, h1, a2, _, e2, h2, e3⟩ := h.sJ zX rfl
 obtain ⟨_, rfl, _⟩ := h0.mX zY
 obtain ⟨_, rfl, _⟩ := h1.pX zV
 subst e3; subst e2; subst e1
 simp only [lX, List.cons_append, List.nil_append, List.cons.injEq, List.append_nil] at e0
 obtain ⟨_, _, rfl⟩ := e0
 exact h2
theorem Z7 : ∀ (N : Nat) (e : Expr), SizeOf.sizeOf e ≤ N → OKE e → mD N e := by
 intro N
 induction N with
 | zero =>
  intro e h
  obtain ⟨_, _, _, ⟨_, _⟩, ⟨_, _⟩, ⟨_, _⟩, _, ⟨_, _⟩, ⟨_, _⟩, _⟩ := e
  simp only [Expr.mk.sizeOf_spec] at h
  omega
 | succ N ih =>
  intro e h oe
  obtain ⟨k, n, s, ⟨a, ax⟩, ⟨ns, nx⟩, ⟨v, vx⟩, el, ⟨ky, kx⟩, ⟨c, cx⟩, t⟩ := e
  obtain ⟨⟨p1, p2⟩, p3, ⟨p4, p5⟩, ⟨p6, p7⟩, p8, p9⟩ := Sb oe
  simp only [Expr.mk.sizeOf_spec, Sl.mk.sizeOf_spec] at h
  refine ⟨⟨p1, fun u hu => ?_⟩, p3, ⟨p4, fun u hu => ?_⟩, ⟨p6, fun u hu => ?_⟩, p8, fun q hq => ?_⟩
  ·have := List.sizeOf_lt_of_mem hu; exact ih u (by omega) (p2 u hu)
  ·have := List.sizeOf_lt_of_mem hu; exact ih u (by omega) (p5 u hu)
  ·have := List.sizeOf_lt_of_mem hu; exact ih u (by omega) (p7 u hu)
  ·have := List.sizeOf_lt_of_mem hq
   obtain ⟨k, n, e⟩ := q
   simp only [Act.mk.sizeOf_spec] at this
   exact ih e (by omega) (GL (p9 _ hq))
def ED (N : Nat) (l : Sl Act) : Prop := l.l.length * 200 ≤ reachBytes ∧ ∀ t ∈ l.l, Ae (mD N) t
def GN (N : Nat) (l : Sl Field) : Prop := l.l.length * 128 ≤ reachBytes ∧ ∀ t ∈ l.l, Bn (Fit N) t
def QE (N : Nat) (l : Sl Value) : Prop := l.l.length * 112 ≤ reachBytes ∧ ∀ t ∈ l.l, Fit N t
def vk {A : Type} (R : A → A → Prop) (t o : List A) : Prop := t.length = o.length ∧ ∀ (i : Nat) u a, t[i]? = some u → o[i]? = some a → R u a
def O6 (p : Expr → Expr → Prop) : Act → Act → Prop
 | ⟨k, n, e⟩, ⟨k', n', e'⟩ => k = k' ∧ n = n' ∧ p e e'
def ze : Nat → Expr → Expr → Prop
 | 0, _, _ => False
 | N + 1, .mk k n s ⟨a, _⟩ ⟨ns, _⟩ ⟨v, _⟩ el ⟨ky, _⟩ ⟨c, _⟩ t, .mk k' n' s' ⟨a', _⟩ ⟨ns', _⟩ ⟨v', _⟩ el' ⟨ky', _⟩ ⟨c', _⟩ t' =>
  k = k' ∧ n = n' ∧ s = s' ∧ vk (ze N) a a' ∧ ns = ns' ∧ vk (ze N) v v' ∧ el = el' ∧ vk (ze N) ky ky' ∧ vk (O6 (ze N)) c c' ∧ t = t'
theorem Wh (fu : Nat) (p : Expr → Expr → Option Bool) (a b : List Expr) : BQ fu p a b = iN a b p := by
 funext i
 unfold BQ iN
 dsimp only
 cases decide (i < ln a)
 ·rfl
 ·cases idx a i with
  | none => rfl
  | some x =>
   obtain ⟨_, _, _, ⟨_, _⟩, ⟨_, _⟩, ⟨_, _⟩, _, ⟨_, _⟩, ⟨_, _⟩, _⟩ := x
   cases idx b i with
   | none => rfl
   | some y =>
    obtain ⟨_, _, _, ⟨_, _⟩, ⟨_, _⟩, ⟨_, _⟩, _, ⟨_, _⟩, ⟨_, _⟩, _⟩ := y
    rfl
theorem O7 (fu : Nat) (p : Act → Act → Option Bool) (a b : List Act) : Jy fu p a b = iN a b p := by
 funext i
 unfold Jy iN
 dsimp only
 cases decide (i < ln a)
 ·rfl
 ·cases idx a i with
  | none => rfl
  | some x =>
   obtain ⟨_, _, ⟨_, _, _, ⟨_, _⟩, ⟨_, _⟩, ⟨_, _⟩, _, ⟨_, _⟩, ⟨_, _⟩, _⟩⟩ := x
   cases idx b i with
   | none => rfl
   | some y =>
    obtain ⟨_, _, ⟨_, _, _, ⟨_, _⟩, ⟨_, _⟩, ⟨_, _⟩, _, ⟨_, _⟩, ⟨_, _⟩, _⟩⟩ := y
    rfl
theorem Wi (fu : Nat) (a b : List ByteArray) : BP fu a b = iN a b (fun x y => some (seq x y)) := by
 funext i
 unfold BP iN
 dsimp only
 cases decide (i < ln a)
 ·rfl
 ·cases idx a i with
  | none => rfl
  | some x =>
   cases idx b i with
   | none => rfl
   | some y => rfl
theorem O8 {fu : Nat} {l : List ByteArray} {x y : Option (List ByteArray)} (h : l.length * 16 ≤ reachBytes) : OA fu ⟨l, x⟩ ⟨l, y⟩ = some true := by
 have hl := bH (by omega) h
 unfold OA
 simp only [Wi, beq_self_eq_true, Bool.not_true, cond_false]
 rw [(pq (a := l) (b := l) (p := fun x y => some (seq x y)) rfl rfl (by omega) (fun i u v hu hv => by rw [hu] at hv; cases hv; rw [kE])).use (t := some true) (f := some false) (fun _ => rfl) (fun _ => rfl)]
 rfl
theorem ac3 : ∀ (N n : Nat) (a b : Expr), ze N a b → mD N a → 3 * N ≤ n → zT n a b = some true := by
 intro N
 induction N with
 | zero => intro n a b h; exact absurd h (by obtain ⟨_, _, _, ⟨_, _⟩, ⟨_, _⟩, ⟨_, _⟩, _, ⟨_, _⟩, ⟨_, _⟩, _⟩ := a; simp [ze])
 | succ N ih =>
  intro n a b h hf hn
  obtain ⟨n', rfl⟩ : ∃ n', n = n' + 3 := ⟨n - 3, by omega⟩
  obtain ⟨k1, n1, s1, ⟨a1, Wj⟩, ⟨ns1, Xq⟩, ⟨v1, Wm⟩, el1, ⟨Z8, Wn⟩, ⟨c1, Wo⟩, t1⟩ := a
  obtain ⟨k2, n2, s2, ⟨a2, ax2⟩, ⟨ns2, nx2⟩, ⟨v2, vx2⟩, el2, ⟨ky2, kx2⟩, ⟨c2, cx2⟩, t2⟩ := b
  obtain ⟨rfl, rfl, rfl, ha, rfl, hv, rfl, hk, hc, rfl⟩ := h
  obtain ⟨⟨p1, p2⟩, p3, ⟨p4, p5⟩, ⟨p6, p7⟩, p8, p9⟩ := hf
  have row : ∀ (l m : List Expr) (x y : Option (List Expr)), vk (ze N) l m → l.length * 176 ≤ reachBytes → (∀ e ∈ l, mD N e) → Jz (n' + 2) ⟨l, x⟩ ⟨m, y⟩ = some true := by
   intro l m x y h q1 q2
   obtain ⟨u1, u2⟩ := h
   have hl := bH (by omega) q1
   have e1 : (ln l == ln m) = true := by simp [ln, u1]
   rw [Jz.eq_2]
   simp only [Mr, Wh, e1, Bool.not_true, cond_false]
   rw [(pq (a := l) (b := m) (p := zT (n' + 1)) rfl u1.symm (by omega) (fun i x y hx hy => ih (n' + 1) x y (u2 i x y hx hy) (q2 _ (List.mem_of_getElem? hx)) (by omega))).use (t := some true) (f := some false) (fun _ => rfl) (fun _ => rfl)]
   rfl
  have hC : MR (n' + 2) ⟨c1, Wo⟩ ⟨c2, cx2⟩ = some true := by
   obtain ⟨u1, u2⟩ := hc
   have hl := bH (by omega) p8
   have e1 : (ln c1 == ln c2) = true := by simp [ln, u1]
   rw [MR.eq_2]
   simp only [RQ, O7, e1, Bool.not_true, cond_false]
   rw [(pq (a := c1) (b := c2) (p := zS (n' + 1)) rfl u1.symm (by omega) (fun i x y hx hy => by
    have h1 := u2 i x y hx hy
    have h2 := p9 x (List.mem_of_getElem? hx)
    obtain ⟨k, m, e⟩ := x
    obtain ⟨k', m', e'⟩ := y
    obtain ⟨rfl, rfl, h1⟩ := h1
    have := ih n' e e' h1 h2 (by omega)
    rw [zS.eq_2]
    unfold Gs
    obtain ⟨_, _, _, ⟨_, _⟩, ⟨_, _⟩, ⟨_, _⟩, _, ⟨_, _⟩, ⟨_, _⟩, _⟩ := e
    obtain ⟨_, _, _, ⟨_, _⟩, ⟨_, _⟩, ⟨_, _⟩, _, ⟨_, _⟩, ⟨_, _⟩, _⟩ := e'
    dsimp only
    rw [kE, this, beq_self_eq_true]
    rfl)).use (t := some true) (f := some false) (fun _ => rfl) (fun _ => rfl)]
   rfl
  rw [zT.eq_2]
  simp only [Mq, beq_self_eq_true, kE, cond_true, row a1 a2 Wj ax2 ha p1 p2, row v1 v2 Wm vx2 hv p4 p5, row Z8 ky2 Wn kx2 hk p6 p7, O8 (x := Xq) (y := nx2) p3, hC, Option.bind_some]
theorem ac4 {N n : Nat} {a b : Act} (h : O6 (ze N) a b) (hf : Ae (mD N) a) (hn : 3 * N + 1 ≤ n) : zS n a b = some true := by
 obtain ⟨n', rfl⟩ : ∃ n', n = n' + 1 := ⟨n - 1, by omega⟩
 obtain ⟨k, m, e⟩ := a
 obtain ⟨k', m', e'⟩ := b
 obtain ⟨rfl, rfl, h1⟩ := h
 have := ac3 N n' e e' h1 hf (by omega)
 rw [zS.eq_2]
 unfold Gs
 obtain ⟨_, _, _, ⟨_, _⟩, ⟨_, _⟩, ⟨_, _⟩, _, ⟨_, _⟩, ⟨_, _⟩, _⟩ := e
 obtain ⟨_, _, _, ⟨_, _⟩, ⟨_, _⟩, ⟨_, _⟩, _, ⟨_, _⟩, ⟨_, _⟩, _⟩ := e'
 dsimp only
 rw [kE, this, beq_self_eq_true]
 rfl
theorem Z9 {N n : Nat} {l m : List Value} {x y : Option (List Value)} (h : vk (Ad N) l m) (q1 : l.length * 112 ≤ reachBytes) (q2 : ∀ v ∈ l, Fit N v) (hn : 3 * N + 1 ≤ n) : Qn n ⟨l, x⟩ ⟨m, y⟩ = some true := by
 obtain ⟨n', rfl⟩ : ∃ n', n = n' + 1 := ⟨n - 1, by omega⟩
 obtain ⟨u1, u2⟩ := h
 have hl := bH (by omega) q1
 have e1 : (ln l == ln m) = true := by simp [ln, u1]
 rw [Qn.eq_2]
 simp only [RL, O4, e1, Bool.not_true, cond_false]
 rw [(pq (a := l) (b := m) (p := Jv n') rfl u1.symm (by omega) (fun i x y hx hy => nW N n' x y (u2 i x y hx hy) (q2 _ (List.mem_of_getElem? hx)) (by omega))).use (t := some true) (f := some false) (fun _ => rfl) (fun _ => rfl)]
 rfl
theorem ac5 {N n : Nat} {a b : Field} (h : RV (Ad N) a b) (hf : Bn (Fit N) a) (hn : 3 * N + 1 ≤ n) : RP n a b = some true := by
 obtain ⟨n', rfl⟩ : ∃ n', n = n' + 1 := ⟨n - 1, by omega⟩
 obtain ⟨m, v⟩ := a
 obtain ⟨m', w⟩ := b
 obtain ⟨rfl, h1⟩ := h
 have := nW N n' v w h1 hf (by omega)
 rw [RP.eq_2]
 unfold RO
 obtain ⟨_, _, _, ⟨_, _⟩, ⟨_, _⟩, _, _, _⟩ := v
 obtain ⟨_, _, _, ⟨_, _⟩, ⟨_, _⟩, _, _, _⟩ := w
 dsimp only
 rw [kE, this]
 rfl
theorem QF {N n : Nat} {l m : List Field} {x y : Option (List Field)} (h : vk (RV (Ad N)) l m) (q1 : l.length * 128 ≤ reachBytes) (q2 : ∀ v ∈ l, Bn (Fit N) v) (hn : 3 * N + 2 ≤ n) : Oz n ⟨l, x⟩ ⟨m, y⟩ = some true := by
 obtain ⟨n', rfl⟩ : ∃ n', n = n' + 1 := ⟨n - 1, by omega⟩
 obtain ⟨u1, u2⟩ := h
 have hl := bH (by omega) q1
 have e1 : (ln l == ln m) = true := by simp [ln, u1]
 rw [Oz.eq_2]
 simp only [RN, O5, e1, Bool.not_true, cond_false]
 rw [(pq (a := l) (b := m) (p := RP n') rfl u1.symm (by omega) (fun i x y hx hy => ac5 (u2 i x y hx hy) (q2 _ (List.mem_of_getElem? hx)) (by omega))).use (t := some true) (f := some false) (fun _ => rfl) (fun _ => rfl)]
 rfl
theorem JV {N n : Nat} {l m : List Act} {x y : Option (List Act)} (h : vk (O6 (ze N)) l m) (q1 : l.length * 200 ≤ reachBytes) (q2 : ∀ v ∈ l, Ae (mD N) v) (hn : 3 * N + 2 ≤ n) : MR n ⟨l, x⟩ ⟨m, y⟩ = some true := by
 obtain ⟨n', rfl⟩ : ∃ n', n = n' + 1 := ⟨n - 1, by omega⟩
 obtain ⟨u1, u2⟩ := h
 have hl := bH (by omega) q1
 have e1 : (ln l == ln m) = true := by simp [ln, u1]
 rw [MR.eq_2]
 simp only [RQ, O7, e1, Bool.not_true, cond_false]
 rw [(pq (a := l) (b := m) (p := zS n') rfl u1.symm (by omega) (fun i x y hx hy => ac4 (u2 i x y hx hy) (q2 _ (List.mem_of_getElem? hx)) (by omega))).use (t := some true) (f := some false) (fun _ => rfl) (fun _ => rfl)]
 rfl
def Wp (N : Nat) (a b : Child) : Prop := a.Key = b.Key ∧ a.Kind = b.Kind ∧ a.Name = b.Name ∧ Ad N a.fV b.fV
theorem QG {N n : Nat} {a b : Child} (h : Wp N a b) (hf : Fit N a.fV) (hn : 3 * N ≤ n) : Zh n a b = some true := by
 obtain ⟨k, d, m, v⟩ := a
 obtain ⟨k', d', m', w⟩ := b
 obtain ⟨h1, h2, h3, h4⟩ := h
 dsimp only at h1 h2 h3 h4 hf
 subst h1 h2 h3
 have := nW N n v w h4 hf hn
 unfold Zh
 obtain ⟨_, _, _, ⟨_, _⟩, ⟨_, _⟩, _, _, _⟩ := v
 obtain ⟨_, _, _, ⟨_, _⟩, ⟨_, _⟩, _, _, _⟩ := w
 dsimp only
 simp only [kE, beq_self_eq_true, this, cond_true, Option.bind_some]
def ac6 (N : Nat) (a b : Cell) : Prop := a.Kind = b.Kind ∧ a.Name = b.Name ∧ Ad N a.fV b.fV ∧ Ad N a.Next b.Next ∧ vk (Ad N) a.RH.l b.RH.l ∧ vk (O6 (ze N)) a.Do.l b.Do.l ∧ vk (O6 (ze N)) a.Undo.l b.Undo.l ∧
 vk (RV (Ad N)) a.Env.l b.Env.l ∧ a.Runs = b.Runs ∧ a.Ran = b.Ran ∧ vk (O6 (ze N)) a.Old.l b.Old.l ∧ vk (RV (Ad N)) a.Past.l b.Past.l
def qg (N : Nat) (c : Cell) : Prop := Fit N c.fV ∧ Fit N c.Next ∧ QE N c.RH ∧ ED N c.Do ∧ ED N c.Undo ∧ GN N c.Env ∧ ED N c.Old ∧ GN N c.Past
theorem ac7 {N n : Nat} {a b : Cell} (h : ac6 N a b) (hf : qg N a) (hn : 3 * N + 2 ≤ n) : P66 n a b = some true := by
 obtain ⟨k, m, v, u, ⟨ds, dx⟩, ⟨do_, dox⟩, ⟨un, unx⟩, ⟨en, enx⟩, r1, r2, ⟨od, odx⟩, ⟨pa, pax⟩⟩ := a
 obtain ⟨k', m', v', u', ⟨ds', dx'⟩, ⟨aac, afT⟩, ⟨un', afU⟩, ⟨en', afV⟩, r1', r2', ⟨od', afW⟩, ⟨pa', afX⟩⟩ := b
 obtain ⟨h1, h2, h3, h4, h5, h6, h7, h8, h9, h10, h11, h12⟩ := h
 obtain ⟨f1, f2, f3, f4, f5, f6, f7, f8⟩ := hf
 dsimp only at h1 h2 h3 h4 h5 h6 h7 h8 h9 h10 h11 h12 f1 f2
 subst h1 h2 h9 h10
 have g1 := nW N n v v' h3 f1 (by omega)
 have g2 := nW N n u u' h4 f2 (by omega)
 have g3 := Z9 (x := dx) (y := dx') h5 f3.1 f3.2 (n := n) (by omega)
 have g4 := JV (x := dox) (y := afT) h6 f4.1 f4.2 (n := n) (by omega)
 have g5 := JV (x := unx) (y := afU) h7 f5.1 f5.2 (n := n) (by omega)
 have g6 := QF (x := enx) (y := afV) h8 f6.1 f6.2 (n := n) (by omega)
 have g7 := JV (x := odx) (y := afW) h11 f7.1 f7.2 (n := n) (by omega)
 have g8 := QF (x := pax) (y := afX) h12 f8.1 f8.2 (n := n) (by omega)
 unfold P66
 obtain ⟨_, _, _, ⟨_, _⟩, ⟨_, _⟩, _, _, _⟩ := v
 obtain ⟨_, _, _, ⟨_, _⟩, ⟨_, _⟩, _, _, _⟩ := v'
 obtain ⟨_, _, _, ⟨_, _⟩, ⟨_, _⟩, _, _, _⟩ := u
 obtain ⟨_, _, _, ⟨_, _⟩, ⟨_, _⟩, _, _, _⟩ := u'
 dsimp only
 simp only [kE, beq_self_eq_true, g1, g2, g3, g4, g5, g6, g7, g8, cond_true, Option.bind_some]
theorem Wq (fu : Nat) (a b : List Cell) : JA fu a b = iN a b (P66 fu) := by
 funext i
 unfold JA iN
 dsimp only
 cases decide (i < ln a)
 ·rfl
 ·cases idx a i with
  | none => rfl
  | some x =>
   obtain ⟨_, _, ⟨_, _, _, ⟨_, _⟩, ⟨_, _⟩, _, _, _⟩, ⟨_, _, _, ⟨_, _⟩, ⟨_, _⟩, _, _, _⟩, ⟨_, _⟩, ⟨_, _⟩, ⟨_, _⟩, ⟨_, _⟩, _, _, ⟨_, _⟩, ⟨_, _⟩⟩ := x
   cases idx b i with
   | none => rfl
   | some y =>
    obtain ⟨_, _, ⟨_, _, _, ⟨_, _⟩, ⟨_, _⟩, _, _, _⟩, ⟨_, _, _, ⟨_, _⟩, ⟨_, _⟩, _, _, _⟩, ⟨_, _⟩, ⟨_, _⟩, ⟨_, _⟩, ⟨_, _⟩, _, _, ⟨_, _⟩, ⟨_, _⟩⟩ := y
    rfl
theorem QH (fu : Nat) (a b : List Child) : JB fu a b = iN a b (Zh fu) := by
 funext i
 unfold JB iN
 dsimp only
 cases decide (i < ln a)
 ·rfl
 ·cases idx a i with
  | none => rfl
  | some x =>
   obtain ⟨_, _, _, ⟨_, _, _, ⟨_, _⟩, ⟨_, _⟩, _, _, _⟩⟩ := x
   cases idx b i with
   | none => rfl
   | some y =>
    obtain ⟨_, _, _, ⟨_, _, _, ⟨_, _⟩, ⟨_, _⟩, _, _, _⟩⟩ := y
    rfl
theorem Ws (fu : Nat) (p : Inst → Inst → Option Bool) (a b : List Inst) : JC fu p a b = iN a b p := by
 funext i
 unfold JC iN
 dsimp only
 cases decide (i < ln a)
 ·rfl
 ·cases idx a i with
  | none => rfl
  | some x =>
   obtain ⟨_, ⟨_, _, _, ⟨_, _, _, ⟨_, _⟩, ⟨_, _⟩, _, _, _⟩⟩, ⟨_, _⟩, ⟨_, _⟩, ⟨_, _⟩, _, _, _, ⟨_, _, _, ⟨_, _⟩, ⟨_, _⟩, _, _, _⟩, _, _, ⟨_, _⟩, _, _⟩ := x
   cases idx b i with
   | none => rfl
   | some y =>
    obtain ⟨_, ⟨_, _, _, ⟨_, _, _, ⟨_, _⟩, ⟨_, _⟩, _, _, _⟩⟩, ⟨_, _⟩, ⟨_, _⟩, ⟨_, _⟩, _, _, _, ⟨_, _, _, ⟨_, _⟩, ⟨_, _⟩, _, _, _⟩, _, _, ⟨_, _⟩, _, _⟩ := y
    rfl
theorem aad {N n : Nat} {l m : List Cell} {x y : Option (List Cell)} (h : vk (ac6 N) l m) (q1 : l.length * 400 ≤ reachBytes) (q2 : ∀ v ∈ l, qg N v) (hn : 3 * N + 2 ≤ n) : P38 n ⟨l, x⟩ ⟨m, y⟩ = some true := by
 obtain ⟨u1, u2⟩ := h
 have hl := bH (by omega) q1
 have e1 : (ln l == ln m) = true := by simp [ln, u1]
 unfold P38
 simp only [Wq, e1, Bool.not_true, cond_false]
 rw [(pq (a := l) (b := m) rfl u1.symm (by omega) (fun i x y hx hy => ac7 (u2 i x y hx hy) (q2 _ (List.mem_of_getElem? hx)) (by omega))).use (t := some true) (f := some false) (fun _ => rfl) (fun _ => rfl)]
 rfl
theorem Wt {N n : Nat} {l m : List Child} {x y : Option (List Child)} (h : vk (Wp N) l m) (q1 : l.length * 152 ≤ reachBytes) (q2 : ∀ v ∈ l, Fit N v.fV) (hn : 3 * N ≤ n) : P39 n ⟨l, x⟩ ⟨m, y⟩ = some true := by
 obtain ⟨u1, u2⟩ := h
 have hl := bH (by omega) q1
 have e1 : (ln l == ln m) = true := by simp [ln, u1]
 unfold P39
 simp only [QH, e1, Bool.not_true, cond_false]
 rw [(pq (a := l) (b := m) rfl u1.symm (by omega) (fun i x y hx hy => QG (u2 i x y hx hy) (q2 _ (List.mem_of_getElem? hx)) (by omega))).use (t := some true) (f := some false) (fun _ => rfl) (fun _ => rfl)]
 rfl
end Go.Proofs.Ytedfkehkcaaplaa
