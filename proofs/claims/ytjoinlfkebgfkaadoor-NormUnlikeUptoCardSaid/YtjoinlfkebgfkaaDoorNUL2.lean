/- Values that have room, on plain data; copies.Value's copies of them, as a function. -/
import Derived.Test.YtjoinlfkebgfkaaDoorNUL1
namespace Go.Proofs.YtjoinlfkebgfkaaDoor
open Go Go.X
set_option linter.unusedVariables false
set_option linter.unusedSimpArgs false
set_option maxRecDepth 100000
def fldP (p : Value → Prop) : Field → Prop
  | ⟨_, v⟩ => p v
def Fit : Nat → Value → Prop
  | 0, _ => False
  | N + 1, .mk _ _ _ ⟨l, _⟩ ⟨f, _⟩ _ _ _ => (l.length * 112 ≤ reachBytes ∧ ∀ v ∈ l, Fit N v) ∧ f.length * 128 ≤ reachBytes ∧ ∀ q ∈ f, fldP (Fit N) q
theorem fit_of : ∀ (N : Nat) (v : Value), SizeOf.sizeOf v ≤ N → OKV v → Fit N v := by
  intro N
  induction N with
  | zero =>
    intro v h
    obtain ⟨_, _, _, ⟨_, _⟩, ⟨_, _⟩, _, _, _⟩ := v
    simp only [Value.mk.sizeOf_spec] at h
    omega
  | succ N ih =>
    intro v h ov
    obtain ⟨k, n, s, ⟨l, x⟩, ⟨f, y⟩, e, c, b⟩ := v
    obtain ⟨p1, p2, p3, p4⟩ := okV_parts ov
    refine ⟨⟨p1, fun v hv => ?_⟩, p3, fun q hq => ?_⟩
    · have := size_L (k := k) (n := n) (s := s) (key := c) (lx := x) (f := ⟨f, y⟩) (e := e) (hk := b) hv
      exact ih v (by omega) (p2 v hv)
    · have := size_F (k := k) (n := n) (s := s) (key := c) (l := ⟨l, x⟩) (fx := y) (e := e) (hk := b) hq
      obtain ⟨m, v⟩ := q
      have := size_V (m := m) (v := v)
      exact ih v (by omega) (okF_parts (p4 _ hq))
theorem fit_ali : ∀ (N : Nat) (t v : Value), Ali N t v → Fit N v → Fit N t := by
  intro N
  induction N with
  | zero => intro t v h; exact absurd h (by obtain ⟨_, _, _, ⟨_, _⟩, ⟨_, _⟩, _, _, _⟩ := t; simp [Ali])
  | succ N ih =>
    intro t v h hf
    obtain ⟨k, n, s, ⟨l, x⟩, ⟨f, y⟩, e, c, b⟩ := v
    obtain ⟨k', n', s', ⟨l', x'⟩, ⟨f', y'⟩, e', c', b'⟩ := t
    obtain ⟨_, _, _, _, _, _, ⟨h1, h2⟩, h3, h4⟩ := h
    obtain ⟨⟨p1, p2⟩, p3, p4⟩ := hf
    refine ⟨⟨by rw [h1]; exact p1, fun u hu => ?_⟩, by rw [h3]; exact p3, fun q hq => ?_⟩
    · obtain ⟨i, hi⟩ := List.mem_iff_getElem?.1 hu
      have hl : i < l.length := by rw [← h1]; exact (List.getElem?_eq_some_iff.1 hi).1
      exact ih _ _ (h2 i u l[i] hi (List.getElem?_eq_getElem hl)) (p2 _ (List.getElem_mem hl))
    · obtain ⟨i, hi⟩ := List.mem_iff_getElem?.1 hq
      have hl : i < f.length := by rw [← h3]; exact (List.getElem?_eq_some_iff.1 hi).1
      have h5 := h4 i q f[i] hi (List.getElem?_eq_getElem hl)
      have h6 := p4 _ (List.getElem_mem hl)
      obtain ⟨m, u⟩ := q
      generalize f[i] = q' at h5 h6
      obtain ⟨m', v⟩ := q'
      exact ih _ _ h5.2 h6
theorem Ali.symm : ∀ (N : Nat) (t v : Value), Ali N t v → Ali N v t := by
  intro N
  induction N with
  | zero => intro t v h; exact absurd h (by obtain ⟨_, _, _, ⟨_, _⟩, ⟨_, _⟩, _, _, _⟩ := t; simp [Ali])
  | succ N ih =>
    intro t v h
    obtain ⟨k, n, s, ⟨l, x⟩, ⟨f, y⟩, e, c, b⟩ := v
    obtain ⟨k', n', s', ⟨l', x'⟩, ⟨f', y'⟩, e', c', b'⟩ := t
    obtain ⟨h1, h2, h3, h4, h5, h6, ⟨h7, h8⟩, h9, h10⟩ := h
    refine ⟨h1.symm, h2.symm, h3.symm, h4.symm, h5.symm, h6.symm, ⟨h7.symm, fun i t a g1 g2 => ih _ _ (h8 i a t g2 g1)⟩, h9.symm, fun i t a g1 g2 => ?_⟩
    have := h10 i a t g2 g1
    obtain ⟨m, u⟩ := a
    obtain ⟨m', u'⟩ := t
    exact ⟨this.1.symm, ih _ _ this.2⟩
theorem Ali.trans : ∀ (N : Nat) (a b c : Value), Ali N a b → Ali N b c → Ali N a c := by
  intro N
  induction N with
  | zero => intro a b c h; exact absurd h (by obtain ⟨_, _, _, ⟨_, _⟩, ⟨_, _⟩, _, _, _⟩ := a; simp [Ali])
  | succ N ih =>
    intro a b c h k
    obtain ⟨k1, n1, s1, ⟨l1, x1⟩, ⟨f1, y1⟩, e1, c1, b1⟩ := a
    obtain ⟨k2, n2, s2, ⟨l2, x2⟩, ⟨f2, y2⟩, e2, c2, b2⟩ := b
    obtain ⟨k3, n3, s3, ⟨l3, x3⟩, ⟨f3, y3⟩, e3, c3, b3⟩ := c
    obtain ⟨h1, h2, h3, h4, h5, h6, ⟨h7, h8⟩, h9, h10⟩ := h
    obtain ⟨g1, g2, g3, g4, g5, g6, ⟨g7, g8⟩, g9, g10⟩ := k
    refine ⟨h1.trans g1, h2.trans g2, h3.trans g3, h4.trans g4, h5.trans g5, h6.trans g6, ⟨h7.trans g7, fun i t a u1 u2 => ?_⟩, h9.trans g9, fun i t a u1 u2 => ?_⟩
    · have hl : i < l2.length := by rw [← h7]; exact (List.getElem?_eq_some_iff.1 u1).1
      exact ih _ _ _ (h8 i t l2[i] u1 (List.getElem?_eq_getElem hl)) (g8 i l2[i] a (List.getElem?_eq_getElem hl) u2)
    · have hl : i < f2.length := by rw [← h9]; exact (List.getElem?_eq_some_iff.1 u1).1
      have w1 := h10 i t f2[i] u1 (List.getElem?_eq_getElem hl)
      have w2 := g10 i f2[i] a (List.getElem?_eq_getElem hl) u2
      generalize f2[i] = q at w1 w2
      obtain ⟨m1, v1⟩ := t
      obtain ⟨m2, v2⟩ := q
      obtain ⟨m3, v3⟩ := a
      exact ⟨w1.1.trans w2.1, ih _ _ _ w1.2 w2.2⟩
theorem cloneV_eq (fu : Nat) (l : List Value) (x : Option (List Value)) : P43 fu ⟨l, x⟩ = cloneP 112 l := rfl
theorem cloneF_eq (fu : Nat) (l : List Field) (x : Option (List Field)) : P44 fu ⟨l, x⟩ = cloneP 128 l := rfl
mutual
noncomputable def cp : Value → Value
  | .mk k n s l f e c b => .mk k n s (cpS l) (cpG f) e c b
noncomputable def cpW : Field → Field
  | .mk m v => .mk m (cp v)
noncomputable def cpS : Sl Value → Sl Value
  | .mk l x => .mk (cpL l) none
noncomputable def cpL : List Value → List Value
  | [] => []
  | v :: r => cp v :: cpL r
noncomputable def cpG : Sl Field → Sl Field
  | .mk l x => .mk (cpM l) none
noncomputable def cpM : List Field → List Field
  | [] => []
  | v :: r => cpW v :: cpM r
end
theorem cpL_map : ∀ l, cpL l = l.map cp
  | [] => by rw [cpL]; rfl
  | v :: r => by rw [cpL, cpL_map r]; rfl
theorem cpM_map : ∀ l, cpM l = l.map cpW
  | [] => by rw [cpM]; rfl
  | v :: r => by rw [cpM, cpM_map r]; rfl
theorem map_of {A : Type} {h : A → A} {o l : List A} (h1 : o.length = l.length) (h2 : ∀ (i : Nat) t a, o[i]? = some t → l[i]? = some a → t = h a) : o = l.map h := by
  refine List.ext_getElem (by simp [h1]) fun i hi hj => ?_
  have hj' : i < l.length := by simpa using hj
  rw [List.getElem_map]
  exact h2 i _ _ (List.getElem?_eq_getElem hi) (List.getElem?_eq_getElem hj')
theorem cpV_st (fu : Nat) (p : Value → Option Value) (r : List Value) : P33_s0 fu p r = stMap p r := by
  funext q
  obtain ⟨o, i⟩ := q
  unfold P33_s0 stMap
  dsimp only
  cases decide (i < ln r)
  · rfl
  · cases idx o i with
    | none => rfl
    | some x =>
      obtain ⟨_, _, _, ⟨_, _⟩, ⟨_, _⟩, _, _, _⟩ := x
      simp only [cond_true, Option.bind_some]
      cases p _ with
      | none => rfl
      | some t => obtain ⟨_, _, _, ⟨_, _⟩, ⟨_, _⟩, _, _, _⟩ := t; rfl
def inF (p : Value → Option Value) : Field → Option Field
  | ⟨m, v⟩ => (p v).bind fun t => some ⟨m, t⟩
theorem cpF_st (fu : Nat) (p : Field → Option Field) (r : List Field) : P34_s0 fu p r = stMap p r := by
  funext q
  obtain ⟨o, i⟩ := q
  unfold P34_s0 stMap
  dsimp only
  cases decide (i < ln r)
  · rfl
  · cases idx o i with
    | none => rfl
    | some x =>
      obtain ⟨m, ⟨_, _, _, ⟨_, _⟩, ⟨_, _⟩, _, _, _⟩⟩ := x
      simp only [cond_true, Option.bind_some]
      cases p _ with
      | none => rfl
      | some t => obtain ⟨m, ⟨_, _, _, ⟨_, _⟩, ⟨_, _⟩, _, _, _⟩⟩ := t; rfl
theorem cpV_f (fu : Nat) (q : Field) : P35 (fu + 1) q = inF (P17 fu) q := by
  obtain ⟨m, ⟨_, _, _, ⟨_, _⟩, ⟨_, _⟩, _, _, _⟩⟩ := q
  rw [P35.eq_2]
  unfold Pb35 inF
  dsimp only
  cases P17 fu _ with
  | none => rfl
  | some t => obtain ⟨_, _, _, ⟨_, _⟩, ⟨_, _⟩, _, _, _⟩ := t; rfl
theorem cp_Vs {n : Nat} {l : List Value} {x : Option (List Value)} (h1 : l.length * 112 ≤ reachBytes) (h : ∀ v ∈ l, P17 n v = some (cp v)) :
    P24 (n + 1) ⟨l, x⟩ = some ⟨l.map cp, none⟩ := by
  obtain ⟨o, w1, w2, w3⟩ := map_ok (h := P17 n) (r := l) (fun t a => t = cp a) (len_room (by omega) h1) (fun v hv => ⟨_, h v hv, rfl⟩)
  rw [P24.eq_2]
  unfold Pb24 P33
  dsimp only
  rw [cloneV_eq, clone_ok (by_ := 112) (k := 112) rfl h1]
  dsimp only [Option.bind_some]
  rw [cpV_st, w1, map_of w2 w3]
  rfl
theorem cp_Fs {n : Nat} {l : List Field} {x : Option (List Field)} (h1 : l.length * 128 ≤ reachBytes) (h : ∀ q ∈ l, fldP (fun v => P17 n v = some (cp v)) q) :
    P25 (n + 2) ⟨l, x⟩ = some ⟨l.map cpW, none⟩ := by
  obtain ⟨o, w1, w2, w3⟩ := map_ok (h := P35 (n + 1)) (r := l) (fun t a => t = cpW a) (len_room (by omega) h1) (fun q hq => by
    have h2 := h _ hq
    rw [cpV_f]
    obtain ⟨m, v⟩ := q
    exact ⟨cpW ⟨m, v⟩, by simp only [inF, show P17 n v = some (cp v) from h2, Option.bind_some, cpW], rfl⟩)
  rw [P25.eq_2]
  unfold Pb25 P34
  dsimp only
  rw [cloneF_eq, clone_ok (by_ := 128) (k := 128) rfl h1]
  dsimp only [Option.bind_some]
  rw [cpF_st, w1, map_of w2 w3]
  rfl
theorem cp_V : ∀ (N n : Nat) (v : Value), Fit N v → 3 * N ≤ n → P17 n v = some (cp v) ∧ Ali N (cp v) v := by
  intro N
  induction N with
  | zero => intro n v h; exact absurd h (by obtain ⟨_, _, _, ⟨_, _⟩, ⟨_, _⟩, _, _, _⟩ := v; simp [Fit])
  | succ N ih =>
    intro n v h hn
    obtain ⟨n', rfl⟩ : ∃ n', n = n' + 3 := ⟨n - 3, by omega⟩
    obtain ⟨k, nn, s, ⟨l, x⟩, ⟨f, y⟩, e, c, b⟩ := v
    obtain ⟨⟨p1, p2⟩, p3, p4⟩ := h
    have g1 := cp_Vs (n := n' + 1) (x := x) p1 (fun v hv => (ih (n' + 1) v (p2 v hv) (by omega)).1)
    have g2 := cp_Fs (n := n') (x := y) p3 (fun q hq => by
      have := p4 q hq
      obtain ⟨m, v⟩ := q
      exact (ih n' v this (by omega)).1)
    constructor
    · rw [P17.eq_2]
      unfold Pb17
      dsimp only
      rw [g1, g2, cp, cpS, cpG, cpL_map, cpM_map]
      rfl
    · rw [cp, cpS, cpG, cpL_map, cpM_map]
      refine ⟨rfl, rfl, rfl, rfl, rfl, rfl, ⟨by simp, fun i t a h1 h2 => ?_⟩, by simp, fun i t a h1 h2 => ?_⟩
      · rw [List.getElem?_map, h2] at h1
        cases h1
        exact (ih (3 * N) a (p2 a (List.mem_of_getElem? h2)) (Nat.le_refl _)).2
      · rw [List.getElem?_map, h2] at h1
        cases h1
        have := p4 a (List.mem_of_getElem? h2)
        obtain ⟨m, v⟩ := a
        rw [cpW]
        exact ⟨rfl, (ih (3 * N) v this (Nat.le_refl _)).2⟩
end Go.Proofs.YtjoinlfkebgfkaaDoor
