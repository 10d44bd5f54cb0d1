/- Cells that have room, on plain data; the program's own copies of them. -/
import Derived.Test.YtipkggkbldgmjaaKQL3
namespace Go.Proofs.Ytipkggkbldgmjaa
open Go Go.X
set_option linter.unusedVariables false
set_option linter.unusedSimpArgs false
set_option maxRecDepth 100000
def actP (p : Expr → Prop) : Act → Prop
  | .mk _ _ e => p e
def FitE : Nat → Expr → Prop
  | 0, _ => False
  | N + 1, .mk _ _ _ ⟨a, _⟩ ⟨ns, _⟩ ⟨v, _⟩ _ ⟨k, _⟩ ⟨c, _⟩ _ => (a.length * 176 ≤ reachBytes ∧ ∀ e ∈ a, FitE N e) ∧ ns.length * 16 ≤ reachBytes ∧ (v.length * 176 ≤ reachBytes ∧ ∀ e ∈ v, FitE N e) ∧
      (k.length * 176 ≤ reachBytes ∧ ∀ e ∈ k, FitE N e) ∧ c.length * 200 ≤ reachBytes ∧ ∀ q ∈ c, actP (FitE N) q
def OKE (e : Expr) : Prop := WT tab 103 (e_Expr e)
def OKA (a : Act) : Prop := WT tab 105 (e_Act a)
def OKC (c : Cell) : Prop := WT tab 61 (e_Cell c)
theorem rowsE {l : List Expr} {x : Option (List Expr)} {d : D} (e : es_Expr ⟨l, x⟩ = d) (h : WT tab 101 [d]) : l.length * 176 ≤ reachBytes ∧ ∀ v ∈ l, OKE v := by
  subst e
  obtain ⟨r, q, e, h1, h2, _⟩ := h.slice_room ty_101
  simp only [es_Expr, List.cons.injEq, D.sl.injEq] at e
  obtain ⟨⟨rfl, _⟩, _⟩ := e
  rw [el_Expr_map] at h1 h2
  simp only [List.length_map, List.mem_map, forall_exists_index, and_imp, forall_apply_eq_imp_iff₂, Nat.add_mul] at h1 h2
  exact ⟨by omega, h2⟩
theorem rowsA {l : List Act} {x : Option (List Act)} {d : D} (e : es_Act ⟨l, x⟩ = d) (h : WT tab 59 [d]) : l.length * 200 ≤ reachBytes ∧ ∀ v ∈ l, OKA v := by
  subst e
  obtain ⟨r, q, e, h1, h2, _⟩ := h.slice_room ty_59
  simp only [es_Act, List.cons.injEq, D.sl.injEq] at e
  obtain ⟨⟨rfl, _⟩, _⟩ := e
  rw [el_Act_map] at h1 h2
  simp only [List.length_map, List.mem_map, forall_exists_index, and_imp, forall_apply_eq_imp_iff₂, Nat.add_mul] at h1 h2
  exact ⟨by omega, h2⟩
theorem rowsV {l : List Value} {x : Option (List Value)} {d : D} (e : es_Value ⟨l, x⟩ = d) (h : WT tab 24 [d]) : l.length * 112 ≤ reachBytes ∧ ∀ v ∈ l, OKV v := by
  subst e
  obtain ⟨r, q, e, h1, h2, _⟩ := h.slice_room ty_24
  simp only [es_Value, List.cons.injEq, D.sl.injEq] at e
  obtain ⟨⟨rfl, _⟩, _⟩ := e
  rw [el_Value_map] at h1 h2
  simp only [List.length_map, List.mem_map, forall_exists_index, and_imp, forall_apply_eq_imp_iff₂, Nat.add_mul] at h1 h2
  exact ⟨by omega, h2⟩
theorem rowsF {l : List Field} {x : Option (List Field)} {d : D} (e : es_Field ⟨l, x⟩ = d) (h : WT tab 22 [d]) : l.length * 128 ≤ reachBytes ∧ ∀ v ∈ l, OKF v := by
  subst e
  obtain ⟨r, q, e, h1, h2, _⟩ := h.slice_room ty_22
  simp only [es_Field, List.cons.injEq, D.sl.injEq] at e
  obtain ⟨⟨rfl, _⟩, _⟩ := e
  rw [el_Field_map] at h1 h2
  simp only [List.length_map, List.mem_map, forall_exists_index, and_imp, forall_apply_eq_imp_iff₂, Nat.add_mul] at h1 h2
  exact ⟨by omega, h2⟩
theorem okE_parts {k n el : Int} {s t : ByteArray} {a v ky : List Expr} {ax vx kx : Option (List Expr)} {ns : Sl ByteArray} {c : List Act} {cx : Option (List Act)} (h : OKE (Expr.mk k n s ⟨a, ax⟩ ns ⟨v, vx⟩ el ⟨ky, kx⟩ ⟨c, cx⟩ t)) :
    (a.length * 176 ≤ reachBytes ∧ ∀ e ∈ a, OKE e) ∧ ns.l.length * 16 ≤ reachBytes ∧ (v.length * 176 ≤ reachBytes ∧ ∀ e ∈ v, OKE e) ∧ (ky.length * 176 ≤ reachBytes ∧ ∀ e ∈ ky, OKE e) ∧ c.length * 200 ≤ reachBytes ∧ ∀ q ∈ c, OKA q := by
  obtain ⟨a0, _, e0, h0, a1, _, e1, h1, a2, _, e2, h2, a3, _, e3, h3, a4, _, e4, h4, a5, _, e5, h5, a6, _, e6, h6, a7, _, e7, h7, a8, _, e8, h8, a9, _, e9, h9, e10⟩ := h.agg_inv ty_103 rfl
  obtain ⟨_, rfl, _⟩ := h0.int_inv ty_100
  obtain ⟨_, rfl, _⟩ := h1.int_inv ty_2
  obtain ⟨_, rfl, _⟩ := h2.str_inv ty_9
  obtain ⟨r3, q3, rfl, _⟩ := h3.slice_room ty_101
  obtain ⟨r4, q4, rfl, l4, _⟩ := h4.slice_room ty_93
  obtain ⟨r5, q5, rfl, _⟩ := h5.slice_room ty_101
  obtain ⟨_, rfl, _⟩ := h6.int_inv ty_25
  obtain ⟨r7, q7, rfl, _⟩ := h7.slice_room ty_101
  obtain ⟨r8, q8, rfl, _⟩ := h8.slice_room ty_59
  subst e10; subst e9; subst e8; subst e7; subst e6; subst e5; subst e4; subst e3; subst e2; subst e1
  simp only [e_Expr, List.cons_append, List.nil_append, List.cons.injEq] at e0
  obtain ⟨_, _, _, g3, g4, g5, _, g7, g8, _⟩ := e0
  simp only [D.sl.injEq] at g4
  obtain ⟨rfl, _⟩ := g4
  simp only [List.length_map, Nat.add_mul] at l4
  exact ⟨rowsE g3 h3, by omega, rowsE g5 h5, rowsE g7 h7, rowsA g8 h8⟩
theorem okA_parts {k : Int} {n : ByteArray} {e : Expr} (h : OKA (Act.mk k n e)) : OKE e := by
  obtain ⟨a0, _, e0, h0, a1, _, e1, h1, a2, _, e2, h2, e3⟩ := h.agg_inv ty_105 rfl
  obtain ⟨_, rfl, _⟩ := h0.int_inv ty_99
  obtain ⟨_, rfl, _⟩ := h1.str_inv ty_9
  subst e3; subst e2; subst e1
  simp only [e_Act, List.cons_append, List.nil_append, List.cons.injEq, List.append_nil] at e0
  obtain ⟨_, _, rfl⟩ := e0
  exact h2
theorem fitE_of : ∀ (N : Nat) (e : Expr), SizeOf.sizeOf e ≤ N → OKE e → FitE N e := by
  intro N
  induction N with
  | zero =>
    intro e h
    obtain ⟨_, _, _, ⟨_, _⟩, ⟨_, _⟩, ⟨_, _⟩, _, ⟨_, _⟩, ⟨_, _⟩, _⟩ := e
    simp only [Expr.mk.sizeOf_spec] at h
    omega
  | succ N ih =>
    intro e h oe
    obtain ⟨k, n, s, ⟨a, ax⟩, ⟨ns, nx⟩, ⟨v, vx⟩, el, ⟨ky, kx⟩, ⟨c, cx⟩, t⟩ := e
    obtain ⟨⟨p1, p2⟩, p3, ⟨p4, p5⟩, ⟨p6, p7⟩, p8, p9⟩ := okE_parts oe
    simp only [Expr.mk.sizeOf_spec, Sl.mk.sizeOf_spec] at h
    refine ⟨⟨p1, fun u hu => ?_⟩, p3, ⟨p4, fun u hu => ?_⟩, ⟨p6, fun u hu => ?_⟩, p8, fun q hq => ?_⟩
    · have := List.sizeOf_lt_of_mem hu; exact ih u (by omega) (p2 u hu)
    · have := List.sizeOf_lt_of_mem hu; exact ih u (by omega) (p5 u hu)
    · have := List.sizeOf_lt_of_mem hu; exact ih u (by omega) (p7 u hu)
    · have := List.sizeOf_lt_of_mem hq
      obtain ⟨k, n, e⟩ := q
      simp only [Act.mk.sizeOf_spec] at this
      exact ih e (by omega) (okA_parts (p9 _ hq))
theorem tpE_st (fu : Nat) (p : Expr → Option Expr) (r : List Expr) : P96_s0 fu p r = stMap p r := by
  funext q
  obtain ⟨o, i⟩ := q
  unfold P96_s0 stMap
  dsimp only
  cases decide (i < ln r)
  · rfl
  · cases idx o i with
    | none => rfl
    | some x =>
      obtain ⟨_, _, _, ⟨_, _⟩, ⟨_, _⟩, ⟨_, _⟩, _, ⟨_, _⟩, ⟨_, _⟩, _⟩ := x
      simp only [cond_true, Option.bind_some]
      cases p _ with
      | none => rfl
      | some t => obtain ⟨_, _, _, ⟨_, _⟩, ⟨_, _⟩, ⟨_, _⟩, _, ⟨_, _⟩, ⟨_, _⟩, _⟩ := t; rfl
def inA (p : Expr → Option Expr) : Act → Option Act
  | .mk k m e => (p e).bind fun t => some (.mk k m t)
theorem tpA_st (fu : Nat) (p : Expr → Option Expr) (r : List Act) : P86_s0 fu p r = stMap (inA p) r := by
  funext q
  obtain ⟨o, i⟩ := q
  unfold P86_s0 stMap
  dsimp only
  cases decide (i < ln r)
  · rfl
  · cases idx o i with
    | none => rfl
    | some x =>
      obtain ⟨k, m, ⟨_, _, _, ⟨_, _⟩, ⟨_, _⟩, ⟨_, _⟩, _, ⟨_, _⟩, ⟨_, _⟩, _⟩⟩ := x
      simp only [cond_true, Option.bind_some, inA]
      cases p _ with
      | none => rfl
      | some t => obtain ⟨_, _, _, ⟨_, _⟩, ⟨_, _⟩, ⟨_, _⟩, _, ⟨_, _⟩, ⟨_, _⟩, _⟩ := t; rfl
theorem mem_of_pairs {A : Type} {o l : List A} {T : A → A → Prop} {Q : A → Prop} (h1 : o.length = l.length) (h2 : ∀ (i : Nat) t a, o[i]? = some t → l[i]? = some a → T t a) (h3 : ∀ t a, a ∈ l → T t a → Q t) : ∀ t ∈ o, Q t := by
  intro t ht
  obtain ⟨i, hi⟩ := List.mem_iff_getElem?.1 ht
  have hl : i < l.length := by rw [← h1]; exact (List.getElem?_eq_some_iff.1 hi).1
  exact h3 t l[i] (List.getElem_mem hl) (h2 i t l[i] hi (List.getElem?_eq_getElem hl))
theorem tp_Es {N n : Nat} {l : List Expr} {x : Option (List Expr)} (h1 : l.length * 176 ≤ reachBytes) (h : ∀ e ∈ l, ∃ t, P94 n e = some t ∧ FitE N t) :
    ∃ o, P96 (n + 1) ⟨l, x⟩ = some ⟨o, some []⟩ ∧ o.length = l.length ∧ ∀ t ∈ o, FitE N t := by
  obtain ⟨o, w1, w2, w3⟩ := map_ok (h := P94 n) (r := l) (fun t _ => FitE N t) (len_room (by omega) h1) h
  refine ⟨o, ?_, w2, mem_of_pairs w2 w3 (fun t a _ h => h)⟩
  rw [P96.eq_2]
  unfold Pb96
  dsimp only
  rw [show P99 n ⟨l, x⟩ = cloneP 176 l from rfl, clone_ok (by_ := 176) (k := 176) rfl h1]
  dsimp only [Option.bind_some]
  rw [tpE_st, w1]
  dsimp only [Option.bind_some]
  rw [show P100 n ⟨o, none⟩ = clipP o from rfl, clip_ok]
  rfl
theorem tp_As {N n : Nat} {l : List Act} {x : Option (List Act)} (h1 : l.length * 200 ≤ reachBytes) (h : ∀ q ∈ l, actP (fun e => ∃ t, P94 n e = some t ∧ FitE N t) q) :
    ∃ o, P86 (n + 1) ⟨l, x⟩ = some ⟨o, some []⟩ ∧ o.length = l.length ∧ ∀ t ∈ o, actP (FitE N) t := by
  obtain ⟨o, w1, w2, w3⟩ := map_ok (h := inA (P94 n)) (r := l) (fun t _ => actP (FitE N) t) (len_room (by omega) h1) (fun q hq => by
    obtain ⟨k, m, e⟩ := q
    obtain ⟨t, h2, h3⟩ := h _ hq
    exact ⟨.mk k m t, by simp only [inA, h2, Option.bind_some], h3⟩)
  refine ⟨o, ?_, w2, mem_of_pairs w2 w3 (fun t a _ h => h)⟩
  rw [P86.eq_2]
  unfold Pb86
  dsimp only
  rw [show P93 n ⟨l, x⟩ = cloneP 200 l from rfl, clone_ok (by_ := 200) (k := 200) rfl h1]
  dsimp only [Option.bind_some]
  rw [tpA_st, w1]
  dsimp only [Option.bind_some]
  rw [show P95 n ⟨o, none⟩ = clipP o from rfl, clip_ok]
  rfl
theorem tp_E : ∀ (N n : Nat) (e : Expr), FitE N e → 2 * N ≤ n → ∃ t, P94 n e = some t ∧ FitE N t := by
  intro N
  induction N with
  | zero => intro n e h; exact absurd h (by obtain ⟨_, _, _, ⟨_, _⟩, ⟨_, _⟩, ⟨_, _⟩, _, ⟨_, _⟩, ⟨_, _⟩, _⟩ := e; simp [FitE])
  | succ N ih =>
    intro n e h hn
    obtain ⟨n', rfl⟩ : ∃ n', n = n' + 2 := ⟨n - 2, by omega⟩
    obtain ⟨k, nn, s, ⟨a, ax⟩, ⟨ns, nx⟩, ⟨v, vx⟩, el, ⟨ky, kx⟩, ⟨c, cx⟩, t⟩ := e
    obtain ⟨⟨p1, p2⟩, p3, ⟨p4, p5⟩, ⟨p6, p7⟩, p8, p9⟩ := h
    rw [P94.eq_2]
    unfold Pb94
    dsimp only
    obtain ⟨o1, g1, g2, g3⟩ := tp_Es (N := N) (n := n') (x := ax) p1 (fun u hu => ih n' u (p2 u hu) (by omega))
    obtain ⟨o2, g4, g5, g6⟩ := tp_Es (N := N) (n := n') (x := vx) p4 (fun u hu => ih n' u (p5 u hu) (by omega))
    obtain ⟨o3, g7, g8, g9⟩ := tp_Es (N := N) (n := n') (x := kx) p6 (fun u hu => ih n' u (p7 u hu) (by omega))
    obtain ⟨o4, g10, g11, g12⟩ := tp_As (N := N) (n := n') (x := cx) p8 (fun q hq => by
      have := p9 q hq
      obtain ⟨k, m, e⟩ := q
      exact ih n' e this (by omega))
    rw [g1, g4, g7, g10, show P98 (n' + 1) ⟨ns, nx⟩ = cloneP 16 ns from rfl, clone_ok (by_ := 16) (k := 16) rfl p3]
    dsimp only [Option.bind_some]
    rw [show P97 (n' + 1) ⟨ns, none⟩ = clipP ns from rfl, clip_ok]
    exact ⟨_, rfl, ⟨by rw [g2]; exact p1, g3⟩, p3, ⟨by rw [g5]; exact p4, g6⟩, ⟨by rw [g8]; exact p6, g9⟩, by rw [g11]; exact p8, g12⟩
def FitAs (N : Nat) (l : Sl Act) : Prop := l.l.length * 200 ≤ reachBytes ∧ ∀ t ∈ l.l, actP (FitE N) t
def FitFs (N : Nat) (l : Sl Field) : Prop := l.l.length * 128 ≤ reachBytes ∧ ∀ t ∈ l.l, fldP (Fit N) t
def FitVs (N : Nat) (l : Sl Value) : Prop := l.l.length * 112 ≤ reachBytes ∧ ∀ t ∈ l.l, Fit N t
structure FitC (N : Nat) (c : Cell) : Prop where
  value : Fit N c.Value_
  next : Fit N c.Next
  deps : FitVs N c.Deps
  does : FitAs N c.Do
  undo : FitAs N c.Undo
  old : FitAs N c.Old
  env : FitFs N c.Env
  past : FitFs N c.Past
/-- What a cell's twin keeps. -/
structure CTw (N : Nat) (t c : Cell) : Prop where
  kind : t.Kind = c.Kind
  name : t.Name = c.Name
  value : Ali N t.Value_ c.Value_
  next : Ali N t.Next c.Next
  fit : FitC N t
theorem as_t {N n : Nat} {l : Sl Act} (h : FitAs N l) (hn : 2 * N + 1 ≤ n) : ∃ o, P86 n l = some o ∧ FitAs N o := by
  obtain ⟨n', rfl⟩ : ∃ n', n = n' + 1 := ⟨n - 1, by omega⟩
  obtain ⟨l, x⟩ := l
  obtain ⟨o, h1, h2, h3⟩ := tp_As (N := N) (n := n') (x := x) h.1 (fun q hq => by
    have := h.2 q hq
    obtain ⟨k, m, e⟩ := q
    exact tp_E N n' e this (by omega))
  exact ⟨_, h1, by show o.length * 200 ≤ _; rw [h2]; exact h.1, h3⟩
theorem fs_t {N n : Nat} {l : Sl Field} (h : FitFs N l) (hn : 2 * N + 1 ≤ n) : ∃ o, P24 n l = some o ∧ FitFs N o := by
  obtain ⟨n', rfl⟩ : ∃ n', n = n' + 1 := ⟨n - 1, by omega⟩
  obtain ⟨l, x⟩ := l
  obtain ⟨o, h1, h2, h3⟩ := tp_Fs (N := N) (n := n') (x := x) h.1 (fun q hq => by
    have := h.2 q hq
    obtain ⟨m, v⟩ := q
    exact tp_V N n' v this (by omega))
  refine ⟨_, h1, by show o.length * 128 ≤ _; rw [h2]; exact h.1, mem_of_pairs h2 h3 (fun t a ha hT => ?_)⟩
  have := h.2 a ha
  obtain ⟨m, v⟩ := t
  obtain ⟨m', w⟩ := a
  exact fit_ali N v w hT.2 this
theorem vs_t {N n : Nat} {l : Sl Value} (h : FitVs N l) (hn : 2 * N + 1 ≤ n) : ∃ o, P50 n l = some o ∧ FitVs N o := by
  obtain ⟨n', rfl⟩ : ∃ n', n = n' + 1 := ⟨n - 1, by omega⟩
  obtain ⟨l, x⟩ := l
  obtain ⟨o, h1, h2, h3⟩ := tp_Vs (N := N) (n := n') (x := x) h.1 (fun v hv => tp_V N n' v (h.2 v hv) (by omega))
  exact ⟨_, h1, by show o.length * 112 ≤ _; rw [h2]; exact h.1, mem_of_pairs h2 h3 (fun t a ha hT => fit_ali N t a hT (h.2 a ha))⟩
theorem cell_t {N n : Nat} {c : Cell} (h : FitC N c) (hn : 2 * N + 1 ≤ n) : ∃ t, P65 n c = some t ∧ CTw N t c := by
  obtain ⟨t1, a1, b1⟩ := tp_V N n _ h.value (by omega)
  obtain ⟨t2, a2, b2⟩ := tp_V N n _ h.next (by omega)
  obtain ⟨t3, a3, b3⟩ := vs_t h.deps hn
  obtain ⟨t4, a4, b4⟩ := as_t h.does hn
  obtain ⟨t5, a5, b5⟩ := as_t h.undo hn
  obtain ⟨t6, a6, b6⟩ := as_t h.old hn
  obtain ⟨t7, a7, b7⟩ := fs_t h.env hn
  obtain ⟨t8, a8, b8⟩ := fs_t h.past hn
  have hv := fit_ali N _ _ b1 h.value
  have hx := fit_ali N _ _ b2 h.next
  obtain ⟨k, nm, ⟨_, _, _, ⟨_, _⟩, ⟨_, _⟩, _, _, _⟩, ⟨_, _, _, ⟨_, _⟩, ⟨_, _⟩, _, _, _⟩, ⟨_, _⟩, ⟨_, _⟩, ⟨_, _⟩, ⟨_, _⟩, r, q, ⟨_, _⟩, ⟨_, _⟩⟩ := c
  unfold P65
  dsimp only at a1 a2 a3 a4 a5 a6 a7 a8 ⊢
  rw [a1, a2, a3, a4, a5, a6, a7, a8]
  obtain ⟨_, _, _, ⟨_, _⟩, ⟨_, _⟩, _, _, _⟩ := t1
  obtain ⟨_, _, _, ⟨_, _⟩, ⟨_, _⟩, _, _, _⟩ := t2
  exact ⟨_, rfl, rfl, rfl, b1, b2, hv, hx, b3, b4, b5, b6, b7, b8⟩
theorem tpC_st (fu : Nat) (r : List Cell) : P42_s0 fu r = stMap (P65 fu) r := by
  funext q
  obtain ⟨o, i⟩ := q
  unfold P42_s0 stMap
  dsimp only
  cases decide (i < ln r)
  · rfl
  · cases idx o i with
    | none => rfl
    | some x =>
      obtain ⟨_, _, ⟨_, _, _, ⟨_, _⟩, ⟨_, _⟩, _, _, _⟩, ⟨_, _, _, ⟨_, _⟩, ⟨_, _⟩, _, _, _⟩, ⟨_, _⟩, ⟨_, _⟩, ⟨_, _⟩, ⟨_, _⟩, _, _, ⟨_, _⟩, ⟨_, _⟩⟩ := x
      simp only [cond_true, Option.bind_some]
      cases P65 fu _ with
      | none => rfl
      | some t => obtain ⟨_, _, ⟨_, _, _, ⟨_, _⟩, ⟨_, _⟩, _, _, _⟩, ⟨_, _, _, ⟨_, _⟩, ⟨_, _⟩, _, _, _⟩, ⟨_, _⟩, ⟨_, _⟩, ⟨_, _⟩, ⟨_, _⟩, _, _, ⟨_, _⟩, ⟨_, _⟩⟩ := t; rfl
theorem cells_t {N n : Nat} {l : List Cell} {x : Option (List Cell)} (h1 : l.length * 400 ≤ reachBytes) (h : ∀ c ∈ l, FitC N c) (hn : 2 * N + 1 ≤ n) :
    ∃ o, P42 n ⟨l, x⟩ = some o ∧ o.length = l.length ∧ ∀ (i : Nat) t a, o[i]? = some t → l[i]? = some a → CTw N t a := by
  obtain ⟨o, w1, w2, w3⟩ := map_ok (h := P65 n) (r := l) (CTw N) (len_room (by omega) h1) (fun c hc => cell_t (h c hc) hn)
  refine ⟨o, ?_, w2, w3⟩
  unfold P42
  dsimp only
  rw [show P64 n ⟨l, x⟩ = cloneP 400 l from rfl, clone_ok (by_ := 400) (k := 400) rfl h1]
  dsimp only [Option.bind_some]
  rw [tpC_st, w1]
  dsimp only [Option.bind_some]
  have : P66 n o = some o := by
    unfold P66
    have e1 : decide (0 ≤ ln o) = true := by simp [ln]
    have e2 : decide (ln o ≤ ln o) = true := by simp
    simp only [e1, e2, cond_true, cut_all]
  rw [this]
  rfl
end Go.Proofs.Ytipkggkbldgmjaa
