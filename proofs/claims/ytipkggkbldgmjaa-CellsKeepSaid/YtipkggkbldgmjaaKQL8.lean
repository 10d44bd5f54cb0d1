/- tapestrylaw13.CellsKeep, on plain data. -/
import Derived.Test.YtipkggkbldgmjaaKQL7
import Derived.Test.YtipkggkbldgmjaaKQL4
import Derived.Test.YtipkggkbldgmjaaKQL5
import Derived.Test.YtipkggkbldgmjaaKQL6
namespace Go.Proofs.Ytipkggkbldgmjaa
open Go Go.X
set_option linter.unusedVariables false
set_option linter.unusedSimpArgs false
set_option maxRecDepth 100000
theorem okC_fit {N : Nat} {c : Cell} (h : OKC c) (hs : SizeOf.sizeOf c ≤ N) : FitC N c := by
  obtain ⟨k, nm, v, nx, ⟨dl, dx⟩, ⟨ol, ox⟩, ⟨ul, ux⟩, ⟨el, ex⟩, r, q, ⟨pl, px⟩, ⟨tl, tx⟩⟩ := c
  simp only [Cell.mk.sizeOf_spec, Sl.mk.sizeOf_spec] at hs
  obtain ⟨a0, _, e0, h0, a1, _, e1, h1, a2, _, e2, h2, a3, _, e3, h3, a4, _, e4, h4, a5, _, e5, h5, a6, _, e6, h6, a7, _, e7, h7, a8, _, e8, h8, a9, _, e9, h9, a10, _, e10, h10, a11, _, e11, h11, e12⟩ := h.agg_inv ty_61 rfl
  obtain ⟨_, rfl, _⟩ := h0.int_inv ty_58
  obtain ⟨_, rfl, _⟩ := h1.str_inv ty_9
  obtain ⟨v', rfl⟩ := wt_27 h2
  obtain ⟨nx', rfl⟩ := wt_27 h3
  obtain ⟨r4, q4, rfl, _⟩ := h4.slice_room ty_24
  obtain ⟨r5, q5, rfl, _⟩ := h5.slice_room ty_59
  obtain ⟨r6, q6, rfl, _⟩ := h6.slice_room ty_59
  obtain ⟨r7, q7, rfl, _⟩ := h7.slice_room ty_22
  obtain ⟨_, rfl⟩ := h8.bool_inv ty_4
  obtain ⟨_, rfl⟩ := h9.bool_inv ty_4
  obtain ⟨r10, q10, rfl, _⟩ := h10.slice_room ty_59
  obtain ⟨r11, q11, rfl, _⟩ := h11.slice_room ty_22
  subst e12; subst e11; subst e10; subst e9; subst e8; subst e7; subst e6; subst e5; subst e4; subst e3; subst e2; subst e1
  simp only [e_Cell, List.cons_append, List.nil_append, List.append_assoc, List.cons.injEq] at e0
  obtain ⟨_, _, e0⟩ := e0
  have hl : ∀ w : Value, (e_Value w).length = 8 := by intro w; obtain ⟨_, _, _, ⟨_, _⟩, ⟨_, _⟩, _, _, _⟩ := w; rfl
  obtain ⟨g2, e0⟩ := List.append_inj e0 (by rw [hl, hl])
  obtain ⟨g3, e0⟩ := List.append_inj e0 (by rw [hl, hl])
  simp only [List.cons.injEq] at e0
  obtain ⟨g4, g5, g6, g7, _, _, g10, g11, _⟩ := e0
  have h2' : OKV v := by unfold OKV; rw [g2]; exact h2
  have h3' : OKV nx := by unfold OKV; rw [g3]; exact h3
  have as_ : ∀ {l : List Act} {x : Option (List Act)}, (l.length * 200 ≤ reachBytes ∧ ∀ a ∈ l, OKA a) → SizeOf.sizeOf l ≤ N → FitAs N ⟨l, x⟩ := by
    intro l x h hn
    refine ⟨h.1, fun t ht => ?_⟩
    have h1 := h.2 t ht
    have h2 := List.sizeOf_lt_of_mem ht
    obtain ⟨k, m, e⟩ := t
    simp only [Act.mk.sizeOf_spec] at h2
    exact fitE_of N e (by omega) (okA_parts h1)
  have fs_ : ∀ {l : List Field} {x : Option (List Field)}, (l.length * 128 ≤ reachBytes ∧ ∀ a ∈ l, OKF a) → SizeOf.sizeOf l ≤ N → FitFs N ⟨l, x⟩ := by
    intro l x h hn
    refine ⟨h.1, fun t ht => ?_⟩
    have h1 := h.2 t ht
    have h2 := List.sizeOf_lt_of_mem ht
    obtain ⟨m, e⟩ := t
    simp only [Field.mk.sizeOf_spec] at h2
    exact fit_of N e (by omega) (okF_parts h1)
  refine ⟨fit_of N v (by omega) h2', fit_of N nx (by omega) h3', ?_, as_ (rowsA g5 h5) (by omega), as_ (rowsA g6 h6) (by omega), as_ (rowsA g10 h10) (by omega), fs_ (rowsF g7 h7) (by omega), fs_ (rowsF g11 h11) (by omega)⟩
  have hr := rowsV g4 h4
  exact ⟨hr.1, fun t ht => by
    have hm : t ∈ dl := ht
    have := List.sizeOf_lt_of_mem hm
    exact fit_of N t (by omega) (hr.2 t hm)⟩
/-! Looking for cells. -/
def isSt (nm : ByteArray) (c : Cell) : Bool := c.Kind == 1 && seq c.Name nm
theorem kind1 (fu : Nat) (k : Int) : P68 fu ⟨[1], some []⟩ k = some (k == 1) := by
  unfold P68 P87
  dsimp only
  have e : P87_s0 fu [1] k = stFind (fun x => some (k == x)) [1] := by
    funext q
    obtain ⟨r, i⟩ := q
    unfold P87_s0 stFind
    rfl
  rw [e, find_ok (fun x => k == x) (by decide) (fun x hx => rfl)]
  rw [List.findIdx?_cons]
  cases k == 1 <;> rfl
theorem find1_st (fu : Nat) (l : List Cell) (nm : ByteArray) : P54x1_s0 fu l [1] (some []) nm = stFind (fun c => P67x1 fu c ⟨[1], some []⟩ nm) l := by
  funext q
  obtain ⟨r, i⟩ := q
  unfold P54x1_s0 stFind
  dsimp only
  cases decide (i < ln l)
  · rfl
  · cases idx l i with
    | none => rfl
    | some x => obtain ⟨_, _, ⟨_, _, _, ⟨_, _⟩, ⟨_, _⟩, _, _, _⟩, ⟨_, _, _, ⟨_, _⟩, ⟨_, _⟩, _, _, _⟩, ⟨_, _⟩, ⟨_, _⟩, ⟨_, _⟩, ⟨_, _⟩, _, _, ⟨_, _⟩, ⟨_, _⟩⟩ := x; rfl
theorem state_ok (fu : Nat) (l : List Cell) (x : Option (List Cell)) (nm : ByteArray) (hl : l.length ≤ 8796093022208) : P40 fu ⟨l, x⟩ nm = some (placeOf (l.findIdx? (isSt nm))) := by
  unfold P40 P45x1 P54x1
  dsimp only
  rw [find1_st, find_ok (isSt nm) (by omega) (fun c hc => by
    obtain ⟨k, nm', ⟨_, _, _, ⟨_, _⟩, ⟨_, _⟩, _, _, _⟩, ⟨_, _, _, ⟨_, _⟩, ⟨_, _⟩, _, _, _⟩, ⟨_, _⟩, ⟨_, _⟩, ⟨_, _⟩, ⟨_, _⟩, r, q, ⟨_, _⟩, ⟨_, _⟩⟩ := c
    unfold P67x1
    dsimp only
    rw [kind1]
    unfold isSt P60x1
    dsimp only [Option.bind_some]
    cases k == 1 <;> rfl)]
  rw [Option.bind_some]
  cases l.findIdx? (isSt nm) <;> rfl
theorem find2_st (fu : Nat) (l : List Cell) : P54x2_s0 fu l [1] (some []) = stFind (fun c => P67x2 fu c ⟨[1], some []⟩) l := by
  funext q
  obtain ⟨r, i⟩ := q
  unfold P54x2_s0 stFind
  dsimp only
  cases decide (i < ln l)
  · rfl
  · cases idx l i with
    | none => rfl
    | some x => obtain ⟨_, _, ⟨_, _, _, ⟨_, _⟩, ⟨_, _⟩, _, _, _⟩, ⟨_, _, _, ⟨_, _⟩, ⟨_, _⟩, _, _, _⟩, ⟨_, _⟩, ⟨_, _⟩, ⟨_, _⟩, ⟨_, _⟩, _, _, ⟨_, _⟩, ⟨_, _⟩⟩ := x; rfl
theorem clean_ok {N fu : Nat} {l : List Cell} {x : Option (List Cell)} (hl : l.length ≤ 8796093022208) (hn : 4 * N ≤ fu) (h : ∀ c ∈ l, (c.Kind == 1) = true → Ali N c.Value_ c.Next ∧ Fit N c.Value_) : P21 fu ⟨l, x⟩ = some false := by
  unfold P21 P45x2 P54x2
  dsimp only
  rw [find2_st, find_ok (fun _ => false) (by omega) (fun c hc => by
    have h1 := h c hc
    obtain ⟨k, nm, ⟨_, _, _, ⟨_, _⟩, ⟨_, _⟩, _, _, _⟩, ⟨_, _, _, ⟨_, _⟩, ⟨_, _⟩, _, _, _⟩, ⟨_, _⟩, ⟨_, _⟩, ⟨_, _⟩, ⟨_, _⟩, r, q, ⟨_, _⟩, ⟨_, _⟩⟩ := c
    unfold P67x2
    dsimp only at h1 ⊢
    rw [kind1]
    dsimp only [Option.bind_some]
    cases hk : k == 1 with
    | false => rfl
    | true =>
      obtain ⟨g1, g2⟩ := h1 hk
      unfold P46
      dsimp only
      rw [same_true N fu _ _ g1 g2 hn]
      rfl)]
  have : l.findIdx? (fun _ => false) = none := by simp
  rw [this]
  rfl
def zeroV : Value := Value.mk 0 0 ByteArray.empty (Sl.mk [] (some [])) (Sl.mk [] (some [])) 0 ByteArray.empty false
theorem next_none {fu : Nat} {l : List Cell} {x : Option (List Cell)} {nm : ByteArray} (hl : l.length ≤ 8796093022208) (h : l.findIdx? (isSt nm) = none) : P19 fu ⟨l, x⟩ nm = some (zeroV, false) := by
  unfold P19
  dsimp only
  rw [state_ok fu l x nm hl, h]
  rfl
theorem next_some {fu : Nat} {l : List Cell} {x : Option (List Cell)} {nm : ByteArray} {j : Nat} {c : Cell} {t : Value} (hl : l.length ≤ 8796093022208) (h : l.findIdx? (isSt nm) = some j) (hc : l[j]? = some c) (ht : P26 fu c.Next = some t) :
    P19 fu ⟨l, x⟩ nm = some (t, true) := by
  unfold P19
  dsimp only
  rw [state_ok fu l x nm hl, h]
  have e : decide (placeOf (some j) < 0) = false := decide_eq_false (by show ¬ (j : Int) < 0; omega)
  dsimp only [Option.bind_some]
  rw [e]
  dsimp only [cond_false]
  rw [show idx l (placeOf (some j)) = some c from by show idx l (j : Int) = _; rw [idx_nat]; exact hc]
  obtain ⟨k, nm, ⟨_, _, _, ⟨_, _⟩, ⟨_, _⟩, _, _, _⟩, ⟨_, _, _, ⟨_, _⟩, ⟨_, _⟩, _, _, _⟩, ⟨_, _⟩, ⟨_, _⟩, ⟨_, _⟩, ⟨_, _⟩, r, q, ⟨_, _⟩, ⟨_, _⟩⟩ := c
  dsimp only [Option.bind_some] at ht ⊢
  rw [ht]
  obtain ⟨_, _, _, ⟨_, _⟩, ⟨_, _⟩, _, _, _⟩ := t
  rfl
theorem findIdx_congr {A : Type} {p : A → Bool} : ∀ {a b : List A}, a.length = b.length → (∀ (i : Nat) x y, a[i]? = some x → b[i]? = some y → p x = p y) → a.findIdx? p = b.findIdx? p
  | [], [], _, _ => rfl
  | x :: a, y :: b, h, hp => by
    rw [List.findIdx?_cons, List.findIdx?_cons, hp 0 x y rfl rfl, findIdx_congr (by simpa using h) fun i u v h1 h2 => hp (i + 1) u v (by simpa using h1) (by simpa using h2)]
theorem findIdx_at {A : Type} {p : A → Bool} {l : List A} {j : Nat} (h : l.findIdx? p = some j) : ∃ x, l[j]? = some x ∧ p x = true := by
  obtain ⟨h1, h2, _⟩ := List.findIdx?_eq_some_iff_getElem.1 h
  exact ⟨l[j], List.getElem?_eq_getElem h1, h2⟩
/-! Settling. -/
def settleC (p : Value → Option Value) (c : Cell) : Option Cell := bif c.Kind == 1 then (p c.Next).bind fun t => some { c with Value_ := t } else some c
theorem settle_st (fu : Nat) (r : List Cell) : P22_s0 fu r = stMap (settleC (P26 fu)) r := by
  funext q
  obtain ⟨o, i⟩ := q
  unfold P22_s0 stMap
  dsimp only
  cases decide (i < ln r)
  · rfl
  · cases hi : idx o i with
    | none => rfl
    | some x =>
      obtain ⟨k, nm, ⟨_, _, _, ⟨_, _⟩, ⟨_, _⟩, _, _, _⟩, ⟨_, _, _, ⟨_, _⟩, ⟨_, _⟩, _, _, _⟩, ⟨_, _⟩, ⟨_, _⟩, ⟨_, _⟩, ⟨_, _⟩, r, q, ⟨_, _⟩, ⟨_, _⟩⟩ := x
      simp only [cond_true, Option.bind_some, settleC]
      cases k == 1 with
      | true =>
        simp only [cond_true]
        cases P26 fu _ with
        | none => rfl
        | some t => obtain ⟨_, _, _, ⟨_, _⟩, ⟨_, _⟩, _, _, _⟩ := t; rfl
      | false =>
        simp only [cond_false, Option.bind_some]
        have hs : ∀ {y : Cell}, idx o i = some y → o.set i.toNat y = o := by
          intro y hy
          unfold idx at hy
          split at hy
          · obtain ⟨h1, h2⟩ := List.getElem?_eq_some_iff.1 hy
            rw [← h2]
            exact List.set_getElem_self h1
          · cases hy
        rw [hs hi]
theorem cellsKeep_true (x : Law13Kept) (h : WT tab 38 (e_Law13Kept x)) : ∃ fu, P6 fu x = some true := by
  obtain ⟨⟨l, lx⟩, nm, ot, v⟩ := x
  have hparts : l.length * 400 ≤ reachBytes ∧ (∀ c ∈ l, OKC c) ∧ OKV v := by
    obtain ⟨a0, _, e0, h0, a1, _, e1, h1, a2, _, e2, h2, a3, _, e3, h3, e4⟩ := h.agg_inv ty_38 rfl
    obtain ⟨r0, q0, rfl, l0, m0, _⟩ := h0.slice_room ty_33
    obtain ⟨_, rfl, _⟩ := h1.str_inv ty_9
    obtain ⟨_, rfl, _⟩ := h2.str_inv ty_9
    subst e4; subst e3; subst e2; subst e1
    simp only [e_Law13Kept, List.cons_append, List.nil_append, List.append_nil, List.cons.injEq, D.sl.injEq] at e0
    obtain ⟨⟨rfl, _⟩, _, _, g3⟩ := e0
    simp only [List.length_map, List.mem_map, forall_exists_index, and_imp, forall_apply_eq_imp_iff₂, Nat.add_mul] at l0 m0
    exact ⟨by omega, m0, by unfold OKV; rw [g3]; exact h3⟩
  obtain ⟨hl, hc, hv⟩ := hparts
  have hl' := len_room (by omega) hl
  let N := SizeOf.sizeOf l + SizeOf.sizeOf v + 1
  have hfc : ∀ c ∈ l, FitC N c := fun c hm => okC_fit (hc c hm) (by have := List.sizeOf_lt_of_mem hm; show _ ≤ SizeOf.sizeOf l + SizeOf.sizeOf v + 1; omega)
  have hfv : Fit N v := fit_of N v (by show _ ≤ SizeOf.sizeOf l + SizeOf.sizeOf v + 1; omega) hv
  have hN : 1 ≤ N := by show _ ≤ SizeOf.sizeOf l + SizeOf.sizeOf v + 1; omega
  generalize N = N at hfc hfv hN
  obtain ⟨n, hn⟩ : ∃ n, n = 4 * N + 2 := ⟨_, rfl⟩
  refine ⟨n, ?_⟩
  obtain ⟨r, hr⟩ := check_t (n := n) hfv (by omega)
  -- not set
  have hno : P18 n ⟨l, lx⟩ nm v = some (⟨[], some []⟩, false) → P6 n ⟨⟨l, lx⟩, nm, ot, v⟩ = some true := by
    intro hs
    obtain ⟨_, _, _, ⟨_, _⟩, ⟨_, _⟩, _, _, _⟩ := v
    unfold P6
    dsimp only
    rw [hs]
    rfl
  cases hj : l.findIdx? (isSt nm) with
  | none =>
    refine hno ?_
    obtain ⟨_, _, _, ⟨_, _⟩, ⟨_, _⟩, _, _, _⟩ := v
    unfold P18
    dsimp only
    rw [state_ok n l lx nm hl', hj]
    rfl
  | some j =>
    obtain ⟨c0, hc0, hp0⟩ := findIdx_at hj
    have e0 : decide (placeOf (some j) < 0) = false := decide_eq_false (by show ¬ (j : Int) < 0; omega)
    cases r with
    | false =>
      refine hno ?_
      obtain ⟨_, _, _, ⟨_, _⟩, ⟨_, _⟩, _, _, _⟩ := v
      unfold P18
      dsimp only
      rw [state_ok n l lx nm hl', hj]
      dsimp only [Option.bind_some]
      rw [e0, hr]
      rfl
    | true =>
      obtain ⟨m0, w1, w2, w3⟩ := cells_t (N := N) (n := n) (x := lx) hl hfc (by omega)
      obtain ⟨tv, u1, u2⟩ := tp_V N n v hfv (by omega)
      have hjl : j < l.length := (List.getElem?_eq_some_iff.1 hc0).1
      obtain ⟨c1, hc1⟩ : ∃ c, m0[j]? = some c := ⟨_, List.getElem?_eq_getElem (by omega)⟩
      have hset : P18 n ⟨l, lx⟩ nm v = some (⟨m0.set j { c1 with Next := tv }, none⟩, true) := by
        obtain ⟨_, _, _, ⟨_, _⟩, ⟨_, _⟩, _, _, _⟩ := v
        unfold P18
        dsimp only
        rw [state_ok n l lx nm hl', hj]
        dsimp only [Option.bind_some]
        rw [e0, hr]
        dsimp only [Bool.not_false, Bool.not_true, cond_true, cond_false, Option.bind_some]
        rw [w1, u1]
        dsimp only [Option.bind_some]
        rw [show idx m0 (placeOf (some j)) = some c1 from by show idx m0 (j : Int) = _; rw [idx_nat]; exact hc1]
        obtain ⟨k, nm', ⟨_, _, _, ⟨_, _⟩, ⟨_, _⟩, _, _, _⟩, ⟨_, _, _, ⟨_, _⟩, ⟨_, _⟩, _, _, _⟩, ⟨_, _⟩, ⟨_, _⟩, ⟨_, _⟩, ⟨_, _⟩, r, q, ⟨_, _⟩, ⟨_, _⟩⟩ := c1
        obtain ⟨_, _, _, ⟨_, _⟩, ⟨_, _⟩, _, _, _⟩ := tv
        rfl
      obtain ⟨m, hm⟩ : ∃ m, m = m0.set j { c1 with Next := tv } := ⟨_, rfl⟩
      rw [← hm] at hset
      have hml : m.length = l.length := by rw [hm, List.length_set, w2]
      have hT1 := w3 j c1 c0 hc1 hc0
      -- what the cells are
      have hm1 : ∀ (i : Nat) t a, m[i]? = some t → l[i]? = some a → t.Kind = a.Kind ∧ t.Name = a.Name ∧ FitC N t ∧ (i ≠ j → Ali N t.Next a.Next) := by
        intro i t a ht ha
        rw [hm] at ht
        by_cases hij : i = j
        · subst hij
          rw [List.getElem?_set_self (by omega)] at ht
          cases ht
          rw [hc0] at ha; cases ha
          exact ⟨hT1.kind, hT1.name, ⟨hT1.fit.value, fit_ali N _ _ u2 hfv, hT1.fit.deps, hT1.fit.does, hT1.fit.undo, hT1.fit.old, hT1.fit.env, hT1.fit.past⟩, fun h => absurd rfl h⟩
        · rw [List.getElem?_set_ne (fun e => hij e.symm)] at ht
          have := w3 i t a ht ha
          exact ⟨this.kind, this.name, this.fit, fun _ => this.next⟩
      have hmj : m[j]? = some { c1 with Next := tv } := by rw [hm]; exact List.getElem?_set_self (by omega)
      have hmfit : ∀ c ∈ m, FitC N c := by
        intro c hcm
        obtain ⟨i, hi⟩ := List.mem_iff_getElem?.1 hcm
        have : i < l.length := by rw [← hml]; exact (List.getElem?_eq_some_iff.1 hi).1
        exact (hm1 i c _ hi (List.getElem?_eq_getElem this)).2.2.1
      have hfi : ∀ s, m.findIdx? (isSt s) = l.findIdx? (isSt s) := fun s => findIdx_congr hml fun i t a ht ha => by
        have := hm1 i t a ht ha
        simp only [isSt, this.1, this.2.1]
      have hmN : m.length ≤ 8796093022208 := by omega
      -- Next of the name
      obtain ⟨t1, z1, z2⟩ := tp_V N n tv (fit_ali N _ _ u2 hfv) (by omega)
      have n1 := next_some (fu := n) (x := none) hmN ((hfi nm).trans hj) hmj z1
      have s1 : P8 n t1 v = some true := said_same N n t1 v (Ali.trans N _ _ _ z2 u2) (fit_ali N _ _ z2 (fit_ali N _ _ u2 hfv)) (by omega)
      -- Next of the other one
      have n2 : ∃ b c q, P19 n ⟨m, none⟩ ot = some (b, q) ∧ P19 n ⟨l, lx⟩ ot = some (c, q) ∧ (seq ot nm = false → P8 n b c = some true) := by
        cases hk : l.findIdx? (isSt ot) with
        | none =>
          refine ⟨zeroV, zeroV, false, next_none hmN ((hfi ot).trans hk), next_none hl' hk, fun _ => ?_⟩
          obtain ⟨N', rfl⟩ : ∃ N', N = N' + 1 := ⟨N - 1, by omega⟩
          refine said_same (N' + 1) n _ _ ⟨rfl, rfl, rfl, rfl, rfl, rfl, ⟨rfl, fun i t a h1 => by simp at h1⟩, rfl, fun i t a h1 => by simp at h1⟩ ⟨⟨by simp, fun v hv => by simp at hv⟩, by simp, fun v hv => by simp at hv⟩ (by omega)
        | some j2 =>
          obtain ⟨a2, ha2, hp2⟩ := findIdx_at hk
          have hj2 : j2 < l.length := (List.getElem?_eq_some_iff.1 ha2).1
          obtain ⟨b2, hb2⟩ : ∃ c, m[j2]? = some c := ⟨_, List.getElem?_eq_getElem (by omega)⟩
          obtain ⟨g1, g2, g3, g4⟩ := hm1 j2 b2 a2 hb2 ha2
          obtain ⟨tb, y1, y2⟩ := tp_V N n b2.Next g3.next (by omega)
          obtain ⟨tc, y3, y4⟩ := tp_V N n a2.Next (hfc a2 (List.mem_of_getElem? ha2)).next (by omega)
          refine ⟨tb, tc, true, next_some hmN ((hfi ot).trans hk) hb2 y1, next_some hl' hk ha2 y3, fun hne => ?_⟩
          have hjj : j2 ≠ j := by
            intro e
            subst e
            rw [hc0] at ha2
            cases ha2
            simp only [isSt, Bool.and_eq_true] at hp0 hp2
            have q1 := seq_iff.1 hp0.2
            have q2 := seq_iff.1 hp2.2
            rw [← q1, ← q2, seq_self] at hne
            cases hne
          exact said_same N n tb tc (Ali.trans N _ _ _ y2 (Ali.trans N _ _ _ (g4 hjj) (Ali.symm N _ _ y4))) (fit_ali N _ _ y2 g3.next) (by omega)
      obtain ⟨b, c, q, n2, n3, s2⟩ := n2
      -- Order
      have ho : P20 n ⟨l, lx⟩ ⟨m, none⟩ = some true := by
        unfold P20 P43
        dsimp only
        have e : P43_s0 n (P44 n) l m = stAll l m (P44 n) := by
          funext i
          unfold P43_s0 stAll
          dsimp only
          cases decide (i < ln l)
          · rfl
          · cases idx l i with
            | none => rfl
            | some x =>
              obtain ⟨_, _, ⟨_, _, _, ⟨_, _⟩, ⟨_, _⟩, _, _, _⟩, ⟨_, _, _, ⟨_, _⟩, ⟨_, _⟩, _, _, _⟩, ⟨_, _⟩, ⟨_, _⟩, ⟨_, _⟩, ⟨_, _⟩, _, _, ⟨_, _⟩, ⟨_, _⟩⟩ := x
              cases idx m i with
              | none => rfl
              | some y => obtain ⟨_, _, ⟨_, _, _, ⟨_, _⟩, ⟨_, _⟩, _, _, _⟩, ⟨_, _, _, ⟨_, _⟩, ⟨_, _⟩, _, _, _⟩, ⟨_, _⟩, ⟨_, _⟩, ⟨_, _⟩, ⟨_, _⟩, _, _, ⟨_, _⟩, ⟨_, _⟩⟩ := y; rfl
        have e1 : (!(ln l == ln m)) = false := by simp [ln, hml]
        rw [e, e1]
        dsimp only [cond_false]
        rw [(allYes (a := l) (b := m) (p := P44 n) rfl hml (by omega) (fun i x y hx hy => by
          obtain ⟨g1, g2, _⟩ := hm1 i y x hy hx
          obtain ⟨_, _, ⟨_, _, _, ⟨_, _⟩, ⟨_, _⟩, _, _, _⟩, ⟨_, _, _, ⟨_, _⟩, ⟨_, _⟩, _, _, _⟩, ⟨_, _⟩, ⟨_, _⟩, ⟨_, _⟩, ⟨_, _⟩, _, _, ⟨_, _⟩, ⟨_, _⟩⟩ := x
          obtain ⟨_, _, ⟨_, _, _, ⟨_, _⟩, ⟨_, _⟩, _, _, _⟩, ⟨_, _, _, ⟨_, _⟩, ⟨_, _⟩, _, _, _⟩, ⟨_, _⟩, ⟨_, _⟩, ⟨_, _⟩, ⟨_, _⟩, _, _, ⟨_, _⟩, ⟨_, _⟩⟩ := y
          dsimp only at g1 g2
          subst g1; subst g2
          unfold P44
          dsimp only
          rw [beq_self_eq_true, seq_self]
          rfl)).use (t := some true) (f := some false) (fun _ => rfl) (fun _ => rfl)]
        rfl
      -- Settle, Dirty
      have hd : ∃ o, P22 n ⟨m, none⟩ = some ⟨o, none⟩ ∧ P21 n ⟨o, none⟩ = some false := by
        obtain ⟨m1, w4, w5, w6⟩ := cells_t (N := N) (n := n) (x := none) (l := m) (by rw [hml]; exact hl) hmfit (by omega)
        have hm1fit : ∀ c ∈ m1, FitC N c := by
          intro c hcm
          obtain ⟨i, hi⟩ := List.mem_iff_getElem?.1 hcm
          have : i < m.length := by rw [← w5]; exact (List.getElem?_eq_some_iff.1 hi).1
          exact (w6 i c _ hi (List.getElem?_eq_getElem this)).fit
        obtain ⟨o, w7, w8, w9⟩ := map_ok (h := settleC (P26 n)) (r := m1) (fun t _ => (t.Kind == 1) = true → Ali N t.Value_ t.Next ∧ Fit N t.Value_) (by omega) (fun c hcm => by
          have hf := hm1fit c hcm
          unfold settleC
          cases hk : c.Kind == 1 with
          | false => exact ⟨c, rfl, fun h => by rw [hk] at h; cases h⟩
          | true =>
            obtain ⟨t, y1, y2⟩ := tp_V N n c.Next hf.next (by omega)
            dsimp only [cond_true]
            rw [y1]
            exact ⟨_, rfl, fun _ => ⟨y2, fit_ali N _ _ y2 hf.next⟩⟩)
        refine ⟨o, ?_, clean_ok (N := N) (by omega) (by omega) (mem_of_pairs w8 w9 (fun t a _ h => h))⟩
        unfold P22
        dsimp only
        rw [w4]
        dsimp only [Option.bind_some]
        rw [settle_st, w7]
        rfl
      obtain ⟨o, d1, d2⟩ := hd
      obtain ⟨_, _, _, ⟨_, _⟩, ⟨_, _⟩, _, _, _⟩ := v
      obtain ⟨_, _, _, ⟨_, _⟩, ⟨_, _⟩, _, _, _⟩ := t1
      obtain ⟨_, _, _, ⟨_, _⟩, ⟨_, _⟩, _, _, _⟩ := b
      obtain ⟨_, _, _, ⟨_, _⟩, ⟨_, _⟩, _, _, _⟩ := c
      unfold P6
      dsimp only
      simp only [hset, n1, n2, n3, ho, d1, s1, Option.bind_some, Bool.not_true, Bool.not_false, cond_true, cond_false, beq_self_eq_true]
      cases hq : seq ot nm with
      | true =>
        simp only [Bool.not_true, cond_false, Option.bind_some, d2, Bool.not_false, cond_true]
        rfl
      | false =>
        simp only [Bool.not_true, Bool.not_false, cond_true, cond_false, Option.bind_some, s2 hq, d2]
        rfl
theorem law6 (ls : List (List D)) (h : WTs tab [38] ls) : call S 6 (argsPV tab [38] ls) [] = some (.d (.bool true), []) := by
  obtain ⟨l1, _, rfl, h1, rfl⟩ := h
  obtain ⟨a, rfl⟩ := wt_38 h1
  obtain ⟨fu, hp⟩ := cellsKeep_true a h1
  refine call_of (ok6 rfl rfl hp ?_ [])
  obtain ⟨⟨_, _⟩, _, _, ⟨_, _, _, ⟨_, _⟩, ⟨_, _⟩, _, _, _⟩⟩ := a
  rfl
end Go.Proofs.Ytipkggkbldgmjaa
