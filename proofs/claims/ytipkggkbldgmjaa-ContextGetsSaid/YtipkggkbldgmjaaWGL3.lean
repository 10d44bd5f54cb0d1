/- Values that have room, on plain data; the program's own copies of them (a copy of fields goes on as a row). -/
import Derived.Test.YtipkggkbldgmjaaWGL2
namespace Go.Proofs.Ytipkggkbldgmjaa
open Go Go.X
set_option linter.unusedVariables false
set_option linter.unusedSimpArgs false
set_option maxRecDepth 100000
def fldP (p : Value → Prop) : Field → Prop
  | ⟨_, v⟩ => p v
def Fit : Nat → Value → Prop
  | 0, _ => False
  | N + 1, .mk _ _ _ ⟨l, _⟩ ⟨f, _⟩ _ _ _ => (l.length * 112 ≤ reachBytes ∧ ∀ v ∈ l, Fit N v) ∧ f.length * 128 ≤ reachBytes ∧ ∀ q ∈ f, fldP (Fit N) q
theorem fit_of : ∀ (N : Nat) (v : Value), SizeOf.sizeOf v ≤ N → OKV v → Fit N v := by
  intro N
  induction N with
  | zero =>
    intro v h
    obtain ⟨_, _, _, ⟨_, _⟩, ⟨_, _⟩, _, _, _⟩ := v
    simp only [Value.mk.sizeOf_spec] at h
    omega
  | succ N ih =>
    intro v h ov
    obtain ⟨k, n, s, ⟨l, x⟩, ⟨f, y⟩, e, c, b⟩ := v
    obtain ⟨p1, p2, p3, p4⟩ := okV_parts ov
    refine ⟨⟨p1, fun v hv => ?_⟩, p3, fun q hq => ?_⟩
    · have := size_L (k := k) (n := n) (s := s) (key := c) (lx := x) (f := ⟨f, y⟩) (e := e) (hk := b) hv
      exact ih v (by omega) (p2 v hv)
    · have := size_F (k := k) (n := n) (s := s) (key := c) (l := ⟨l, x⟩) (fx := y) (e := e) (hk := b) hq
      obtain ⟨m, v⟩ := q
      have := size_V (m := m) (v := v)
      exact ih v (by omega) (okF_parts (p4 _ hq))
theorem fit_ali : ∀ (N : Nat) (t v : Value), Ali N t v → Fit N v → Fit N t := by
  intro N
  induction N with
  | zero => intro t v h; exact absurd h (by obtain ⟨_, _, _, ⟨_, _⟩, ⟨_, _⟩, _, _, _⟩ := t; simp [Ali])
  | succ N ih =>
    intro t v h hf
    obtain ⟨k, n, s, ⟨l, x⟩, ⟨f, y⟩, e, c, b⟩ := v
    obtain ⟨k', n', s', ⟨l', x'⟩, ⟨f', y'⟩, e', c', b'⟩ := t
    obtain ⟨_, _, _, _, _, _, ⟨h1, h2⟩, h3, h4⟩ := h
    obtain ⟨⟨p1, p2⟩, p3, p4⟩ := hf
    refine ⟨⟨by rw [h1]; exact p1, fun u hu => ?_⟩, by rw [h3]; exact p3, fun q hq => ?_⟩
    · obtain ⟨i, hi⟩ := List.mem_iff_getElem?.1 hu
      have hl : i < l.length := by rw [← h1]; exact (List.getElem?_eq_some_iff.1 hi).1
      exact ih _ _ (h2 i u l[i] hi (List.getElem?_eq_getElem hl)) (p2 _ (List.getElem_mem hl))
    · obtain ⟨i, hi⟩ := List.mem_iff_getElem?.1 hq
      have hl : i < f.length := by rw [← h3]; exact (List.getElem?_eq_some_iff.1 hi).1
      have h5 := h4 i q f[i] hi (List.getElem?_eq_getElem hl)
      have h6 := p4 _ (List.getElem_mem hl)
      obtain ⟨m, u⟩ := q
      generalize f[i] = q' at h5 h6
      obtain ⟨m', v⟩ := q'
      exact ih _ _ h5.2 h6
theorem Ali.symm : ∀ (N : Nat) (t v : Value), Ali N t v → Ali N v t := by
  intro N
  induction N with
  | zero => intro t v h; exact absurd h (by obtain ⟨_, _, _, ⟨_, _⟩, ⟨_, _⟩, _, _, _⟩ := t; simp [Ali])
  | succ N ih =>
    intro t v h
    obtain ⟨k, n, s, ⟨l, x⟩, ⟨f, y⟩, e, c, b⟩ := v
    obtain ⟨k', n', s', ⟨l', x'⟩, ⟨f', y'⟩, e', c', b'⟩ := t
    obtain ⟨h1, h2, h3, h4, h5, h6, ⟨h7, h8⟩, h9, h10⟩ := h
    refine ⟨h1.symm, h2.symm, h3.symm, h4.symm, h5.symm, h6.symm, ⟨h7.symm, fun i t a g1 g2 => ih _ _ (h8 i a t g2 g1)⟩, h9.symm, fun i t a g1 g2 => ?_⟩
    have := h10 i a t g2 g1
    obtain ⟨m, u⟩ := a
    obtain ⟨m', u'⟩ := t
    exact ⟨this.1.symm, ih _ _ this.2⟩
theorem Ali.trans : ∀ (N : Nat) (a b c : Value), Ali N a b → Ali N b c → Ali N a c := by
  intro N
  induction N with
  | zero => intro a b c h; exact absurd h (by obtain ⟨_, _, _, ⟨_, _⟩, ⟨_, _⟩, _, _, _⟩ := a; simp [Ali])
  | succ N ih =>
    intro a b c h k
    obtain ⟨k1, n1, s1, ⟨l1, x1⟩, ⟨f1, y1⟩, e1, c1, b1⟩ := a
    obtain ⟨k2, n2, s2, ⟨l2, x2⟩, ⟨f2, y2⟩, e2, c2, b2⟩ := b
    obtain ⟨k3, n3, s3, ⟨l3, x3⟩, ⟨f3, y3⟩, e3, c3, b3⟩ := c
    obtain ⟨h1, h2, h3, h4, h5, h6, ⟨h7, h8⟩, h9, h10⟩ := h
    obtain ⟨g1, g2, g3, g4, g5, g6, ⟨g7, g8⟩, g9, g10⟩ := k
    refine ⟨h1.trans g1, h2.trans g2, h3.trans g3, h4.trans g4, h5.trans g5, h6.trans g6, ⟨h7.trans g7, fun i t a u1 u2 => ?_⟩, h9.trans g9, fun i t a u1 u2 => ?_⟩
    · have hl : i < l2.length := by rw [← h7]; exact (List.getElem?_eq_some_iff.1 u1).1
      exact ih _ _ _ (h8 i t l2[i] u1 (List.getElem?_eq_getElem hl)) (g8 i l2[i] a (List.getElem?_eq_getElem hl) u2)
    · have hl : i < f2.length := by rw [← h9]; exact (List.getElem?_eq_some_iff.1 u1).1
      have w1 := h10 i t f2[i] u1 (List.getElem?_eq_getElem hl)
      have w2 := g10 i f2[i] a (List.getElem?_eq_getElem hl) u2
      generalize f2[i] = q at w1 w2
      obtain ⟨m1, v1⟩ := t
      obtain ⟨m2, v2⟩ := q
      obtain ⟨m3, v3⟩ := a
      exact ⟨w1.1.trans w2.1, ih _ _ _ w1.2 w2.2⟩
theorem cloneV_eq (fu : Nat) (l : List Value) (x : Option (List Value)) : P69 fu ⟨l, x⟩ = cloneP 112 l := rfl
theorem cloneF_eq (fu : Nat) (l : List Field) (x : Option (List Field)) : P48 fu ⟨l, x⟩ = cloneP 128 l := rfl
theorem clipV_eq (fu : Nat) (l : List Value) (x : Option (List Value)) : P70 fu ⟨l, x⟩ = clipP l := rfl
theorem clipF_ok (fu : Nat) (l : List Field) : P49 fu l = some l := by
  have e1 : decide (0 ≤ ln l) = true := by simp [ln]
  have e2 : decide (ln l ≤ ln l) = true := by simp
  unfold P49
  simp only [e1, e2, cond_true, cut_all]
theorem tpV_st (fu : Nat) (p : Value → Option Value) (r : List Value) : P50_s0 fu p r = stMap p r := by
  funext q
  obtain ⟨o, i⟩ := q
  unfold P50_s0 stMap
  dsimp only
  cases decide (i < ln r)
  · rfl
  · cases idx o i with
    | none => rfl
    | some x =>
      obtain ⟨_, _, _, ⟨_, _⟩, ⟨_, _⟩, _, _, _⟩ := x
      simp only [cond_true, Option.bind_some]
      cases p _ with
      | none => rfl
      | some t => obtain ⟨_, _, _, ⟨_, _⟩, ⟨_, _⟩, _, _, _⟩ := t; rfl
def inF (p : Value → Option Value) : Field → Option Field
  | ⟨m, v⟩ => (p v).bind fun t => some ⟨m, t⟩
theorem tpF_st (fu : Nat) (p : Value → Option Value) (r : List Field) : P24_s0 fu p r = stMap (inF p) r := by
  funext q
  obtain ⟨o, i⟩ := q
  unfold P24_s0 stMap
  dsimp only
  cases decide (i < ln r)
  · rfl
  · cases idx o i with
    | none => rfl
    | some x =>
      obtain ⟨m, ⟨_, _, _, ⟨_, _⟩, ⟨_, _⟩, _, _, _⟩⟩ := x
      simp only [cond_true, Option.bind_some, inF]
      cases p _ with
      | none => rfl
      | some t => obtain ⟨_, _, _, ⟨_, _⟩, ⟨_, _⟩, _, _, _⟩ := t; rfl
theorem tp_Vs {N n : Nat} {l : List Value} {x : Option (List Value)} (h1 : l.length * 112 ≤ reachBytes) (h : ∀ v ∈ l, ∃ t, P26 n v = some t ∧ Ali N t v) :
    ∃ o, P50 (n + 1) ⟨l, x⟩ = some ⟨o, some []⟩ ∧ o.length = l.length ∧ ∀ (i : Nat) t a, o[i]? = some t → l[i]? = some a → Ali N t a := by
  obtain ⟨o, w1, w2, w3⟩ := map_ok (h := P26 n) (r := l) (Ali N) (len_room (by omega) h1) h
  refine ⟨o, ?_, w2, w3⟩
  rw [P50.eq_2]
  unfold Pb50
  dsimp only
  rw [cloneV_eq, clone_ok (by_ := 112) (k := 112) rfl h1]
  dsimp only [Option.bind_some]
  rw [tpV_st, w1]
  dsimp only [Option.bind_some]
  rw [clipV_eq, clip_ok]
  rfl
theorem tp_Fs {N n : Nat} {l : List Field} {x : Option (List Field)} (h1 : l.length * 128 ≤ reachBytes) (h : ∀ q ∈ l, fldP (fun v => ∃ t, P26 n v = some t ∧ Ali N t v) q) :
    ∃ o, P24 (n + 1) ⟨l, x⟩ = some o ∧ o.length = l.length ∧ ∀ (i : Nat) t a, o[i]? = some t → l[i]? = some a → fldR (Ali N) t a := by
  obtain ⟨o, w1, w2, w3⟩ := map_ok (h := inF (P26 n)) (r := l) (fldR (Ali N)) (len_room (by omega) h1) (fun q hq => by
    obtain ⟨m, v⟩ := q
    obtain ⟨t, h2, h3⟩ := h _ hq
    exact ⟨⟨m, t⟩, by simp only [inF, h2, Option.bind_some], rfl, h3⟩)
  refine ⟨o, ?_, w2, w3⟩
  rw [P24.eq_2]
  unfold Pb24
  dsimp only
  rw [cloneF_eq, clone_ok (by_ := 128) (k := 128) rfl h1]
  dsimp only [Option.bind_some]
  rw [tpF_st, w1]
  dsimp only [Option.bind_some]
  rw [clipF_ok]
  rfl
theorem tp_V : ∀ (N n : Nat) (v : Value), Fit N v → 2 * N ≤ n → ∃ t, P26 n v = some t ∧ Ali N t v := by
  intro N
  induction N with
  | zero => intro n v h; exact absurd h (by obtain ⟨_, _, _, ⟨_, _⟩, ⟨_, _⟩, _, _, _⟩ := v; simp [Fit])
  | succ N ih =>
    intro n v h hn
    obtain ⟨n', rfl⟩ : ∃ n', n = n' + 2 := ⟨n - 2, by omega⟩
    obtain ⟨k, nn, s, ⟨l, x⟩, ⟨f, y⟩, e, c, b⟩ := v
    obtain ⟨⟨p1, p2⟩, p3, p4⟩ := h
    rw [P26.eq_2]
    unfold Pb26
    dsimp only
    obtain ⟨o, g1, g2, g3⟩ := tp_Vs (N := N) (n := n') (x := x) p1 (fun v hv => ih n' v (p2 v hv) (by omega))
    obtain ⟨o2, g4, g5, g6⟩ := tp_Fs (N := N) (n := n') (x := y) p3 (fun q hq => by
      have := p4 q hq
      obtain ⟨m, v⟩ := q
      exact ih n' v this (by omega))
    rw [g1, g4]
    exact ⟨_, rfl, rfl, rfl, rfl, rfl, rfl, rfl, ⟨g2, g3⟩, g5, g6⟩
end Go.Proofs.Ytipkggkbldgmjaa
