/- ContextGets: what is put is got, and any other name is got as it was ahead. -/
import Derived.Test.YtipkggkbldgmjaaWGL4
import Derived.Test.YtipkggkbldgmjaaWGL1
import Derived.Test.YtipkggkbldgmjaaWGL5
import Derived.ProofKit
namespace Go.Proofs.Ytipkggkbldgmjaa
open Go Go.X
set_option linter.unusedVariables false
set_option linter.unusedSimpArgs false
set_option maxRecDepth 100000
theorem isN_eq (fu : Nat) (f : Field) (nm : ByteArray) : P25x1 fu f nm = some (named nm f) := by
  obtain ⟨n, b1, b2, b3, ⟨b4, b5⟩, ⟨b6, b7⟩, b8, b9, b10⟩ := f
  rfl
theorem ixN_st (fu : Nat) (nm : ByteArray) (l : List Field) : P47x1_s0 fu nm l = stFind (fun f => P25x1 fu f nm) l := by
  funext q
  obtain ⟨r, i⟩ := q
  unfold P47x1_s0 stFind
  dsimp only
  cases decide (i < ln l)
  · rfl
  · cases idx l i with
    | none => rfl
    | some x => obtain ⟨n, b1, b2, b3, ⟨b4, b5⟩, ⟨b6, b7⟩, b8, b9, b10⟩ := x; rfl
theorem delN_st (fu : Nat) (nm : ByteArray) : P23x1_s0 fu nm = stDel (fun f => P25x1 fu f nm) := by
  funext q
  obtain ⟨l, i, j⟩ := q
  unfold P23x1_s0 stDel
  dsimp only
  cases decide (j < ln l)
  · rfl
  · cases idx l j with
    | none => rfl
    | some x =>
      obtain ⟨n, b1, b2, b3, ⟨b4, b5⟩, ⟨b6, b7⟩, b8, b9, b10⟩ := x
      cases idx l i with
      | none => rfl
      | some y => obtain ⟨m, c1, c2, c3, ⟨c4, c5⟩, ⟨c6, c7⟩, c8, c9, c10⟩ := y; rfl
theorem del_eq (fu : Nat) (nm : ByteArray) (l : List Field) (hn : l.length ≤ 8796093022208) : P23x1 fu l nm = some (l.filter fun f => !named nm f) := by
  have h1 : P47x1 fu nm l = some (placeOf (l.findIdx? (named nm))) := by
    unfold P47x1
    rw [ixN_st]
    exact find_place (named nm) (by omega) (fun x _ => isN_eq fu x nm)
  have h2 := del_ok (z := Field.mk ByteArray.empty zV) (p := fun f => P25x1 fu f nm) (l := l) (named nm) hn (fun x _ => isN_eq fu x nm)
  unfold P23x1
  rw [h1, Option.bind_some, delN_st]
  exact h2
/-- The last one of a name. -/
def lastOf (nm : ByteArray) (l : List Field) : Option Field := (l.filter (named nm)).getLast?
theorem lastOf_some {nm : ByteArray} {l : List Field} {i : Nat} {x : Field} (h1 : l[i]? = some x) (h2 : named nm x = true) (h3 : ∀ (j : Nat) y, i < j → l[j]? = some y → named nm y = false) : lastOf nm l = some x := by
  have hi := (List.getElem?_eq_some_iff.1 h1).1
  have hd : (l.drop (i + 1)).filter (named nm) = [] := by
    rw [List.filter_eq_nil_iff]
    intro y hy
    obtain ⟨j, hj⟩ := List.mem_iff_getElem?.1 hy
    rw [List.getElem?_drop] at hj
    simp [h3 _ y (by omega) hj]
  have hs : l = l.take i ++ x :: l.drop (i + 1) := by
    have := (List.take_append_drop i l).symm
    rw [List.drop_eq_getElem_cons hi] at this
    rw [List.getElem?_eq_getElem hi] at h1
    cases h1
    exact this
  unfold lastOf
  rw [hs, List.filter_append, List.filter_cons, h2, if_pos rfl, hd]
  simp
theorem lastOf_none {nm : ByteArray} {l : List Field} (h : ∀ x ∈ l, named nm x = false) : lastOf nm l = none := by
  have : l.filter (named nm) = [] := by rw [List.filter_eq_nil_iff]; intro x hx; simp [h x hx]
  unfold lastOf
  rw [this]; rfl
theorem last_val {N n : Nat} {nm : ByteArray} {l : List Field} {x : Option (List Field)} (hl : l.length ≤ 8796093022208) (hn : 2 * N ≤ n) (h : ∀ f ∈ l, fldP (Fit N) f) :
    (lastOf nm l = none ∧ P9 n ⟨l, x⟩ nm = some zV) ∨ ∃ m v t, lastOf nm l = some (Field.mk m v) ∧ P9 n ⟨l, x⟩ nm = some t ∧ Ali N t v ∧ Fit N v := by
  rcases last_cases (named nm) l with ⟨i, ⟨m, v⟩, h1, h2, h3⟩ | h1
  · have hf := h _ (List.mem_of_getElem? h1)
    obtain ⟨t, h4, h5⟩ := tp_V N n v hf hn
    exact .inr ⟨m, v, t, lastOf_some h1 h2 h3, get_some hl h1 h2 h4 h3, h5, hf⟩
  · exact .inl ⟨lastOf_none h1, get_none hl h1⟩
theorem alike_filter {R : Value → Value → Prop} (nm : ByteArray) : ∀ (o l : List Field), o.length = l.length → (∀ (i : Nat) t a, o[i]? = some t → l[i]? = some a → fldR R t a) →
    (o.filter (named nm)).length = (l.filter (named nm)).length ∧ ∀ (i : Nat) t a, (o.filter (named nm))[i]? = some t → (l.filter (named nm))[i]? = some a → fldR R t a
  | [], [], _, _ => ⟨rfl, fun i t a h => by simp at h⟩
  | [], _ :: _, h, _ => by simp at h
  | _ :: _, [], h, _ => by simp at h
  | ⟨n, v⟩ :: o, ⟨m, w⟩ :: l, h, hr => by
    obtain ⟨h1, h2⟩ := alike_filter nm o l (by simpa using h) (fun i t a g1 g2 => hr (i + 1) t a (by simpa using g1) (by simpa using g2))
    have h0 := hr 0 _ _ rfl rfl
    obtain ⟨rfl, h0'⟩ := h0
    simp only [List.filter_cons, named]
    by_cases hs : seq n nm = true
    · simp only [hs, if_true]
      refine ⟨by simp [h1], fun i t a g1 g2 => ?_⟩
      cases i with
      | zero => simp at g1 g2; subst g1; subst g2; exact ⟨rfl, h0'⟩
      | succ i => exact h2 i t a (by simpa using g1) (by simpa using g2)
    · simp only [hs, if_false]
      exact ⟨h1, h2⟩
theorem lastOf_alike {R : Value → Value → Prop} (nm : ByteArray) (o l : List Field) (h : o.length = l.length) (hr : ∀ (i : Nat) t a, o[i]? = some t → l[i]? = some a → fldR R t a) :
    (lastOf nm o = none ∧ lastOf nm l = none) ∨ ∃ t a, lastOf nm o = some t ∧ lastOf nm l = some a ∧ fldR R t a := by
  obtain ⟨h1, h2⟩ := alike_filter nm o l h hr
  unfold lastOf
  rw [List.getLast?_eq_getElem?, List.getLast?_eq_getElem?, h1]
  by_cases h0 : (l.filter (named nm)).length = 0
  · left
    have h3 : l.filter (named nm) = [] := List.eq_nil_of_length_eq_zero h0
    have h4 : o.filter (named nm) = [] := List.eq_nil_of_length_eq_zero (by omega)
    rw [h3, h4]; simp
  · right
    have hl : (l.filter (named nm)).length - 1 < (l.filter (named nm)).length := by omega
    have ho : (l.filter (named nm)).length - 1 < (o.filter (named nm)).length := by omega
    exact ⟨_, _, List.getElem?_eq_getElem ho, List.getElem?_eq_getElem hl, h2 _ _ _ (List.getElem?_eq_getElem ho) (List.getElem?_eq_getElem hl)⟩
theorem with_ok {N n : Nat} {l : List Field} {x : Option (List Field)} {nm : ByteArray} {v : Value} (hr : l.length * 128 ≤ reachBytes) (hn : 2 * N + 2 ≤ n) (h : ∀ f ∈ l, fldP (Fit N) f) (hv : Fit N v) :
    ∃ (o : List Field) (t : Value), P7 n ⟨l, x⟩ nm v = some ⟨(o.filter fun f => !named nm f) ++ [Field.mk nm t], none⟩ ∧ Ali N t v ∧ o.length = l.length ∧ ∀ (i : Nat) t a, o[i]? = some t → l[i]? = some a → fldR (Ali N) t a := by
  obtain ⟨n', rfl⟩ : ∃ n', n = n' + 1 := ⟨n - 1, by omega⟩
  obtain ⟨o, g1, g2, g3⟩ := tp_Fs (N := N) (n := n') (x := x) hr (fun q hq => by
    have := h q hq
    obtain ⟨m, w⟩ := q
    exact tp_V N n' w this (by omega))
  obtain ⟨t, g4, g5⟩ := tp_V N (n' + 1) v hv (by omega)
  have hlen := len_room (by omega) hr
  refine ⟨o, t, ?_, g5, g2, g3⟩
  obtain ⟨_, _, _, ⟨_, _⟩, ⟨_, _⟩, _, _, _⟩ := v
  unfold P7
  dsimp only
  rw [g1, Option.bind_some, del_eq _ _ _ (by omega), Option.bind_some, g4]
  obtain ⟨_, _, _, ⟨_, _⟩, ⟨_, _⟩, _, _, _⟩ := t
  simp only [Option.bind_some]
  have hroom : ∀ a : List Field, a.length = l.length → ∀ f, room 128 (ln ((a.filter fun f => !named nm f) ++ [f])) = true := fun a ha f => by
    have h1 : ((a.filter fun f => !named nm f) ++ [f]).length ≤ l.length + 1 := by
      have := List.length_filter_le (fun f => !named nm f) a
      simp; omega
    rw [ln_eq]
    refine room_of (k := 128) ?_ rfl
    have := Nat.mul_le_mul_right 128 h1
    rw [reach_is] at hr
    omega
  rw [hroom o g2]
  rfl
theorem fit_copies {N : Nat} {o l : List Field} (h : ∀ f ∈ l, fldP (Fit N) f) (g2 : o.length = l.length) (g3 : ∀ (i : Nat) t a, o[i]? = some t → l[i]? = some a → fldR (Ali N) t a) : ∀ f ∈ o, fldP (Fit N) f := fun f hf => by
  obtain ⟨i, hi⟩ := List.mem_iff_getElem?.1 hf
  have hl : i < l.length := by rw [← g2]; exact (List.getElem?_eq_some_iff.1 hi).1
  have h5 := g3 i f l[i] hi (List.getElem?_eq_getElem hl)
  have h6 := h _ (List.getElem_mem hl)
  obtain ⟨m, u⟩ := f
  generalize l[i] = q' at h5 h6
  obtain ⟨m', v⟩ := q'
  exact fit_ali N u v h5.2 h6
theorem fit_zV : Fit 1 zV := ⟨⟨by rw [reach_is]; decide, by simp⟩, by rw [reach_is]; decide, by simp⟩
theorem fit_mono : ∀ (N M : Nat) (v : Value), N ≤ M → Fit N v → Fit M v := by
  intro N
  induction N with
  | zero => intro M v _ h; exact absurd h (by obtain ⟨_, _, _, ⟨_, _⟩, ⟨_, _⟩, _, _, _⟩ := v; simp [Fit])
  | succ N ih =>
    intro M v hM h
    obtain ⟨M', rfl⟩ : ∃ M', M = M' + 1 := ⟨M - 1, by omega⟩
    obtain ⟨k, n, s, ⟨l, x⟩, ⟨f, y⟩, e, c, b⟩ := v
    obtain ⟨⟨p1, p2⟩, p3, p4⟩ := h
    refine ⟨⟨p1, fun v hv => ih M' v (by omega) (p2 v hv)⟩, p3, fun q hq => ?_⟩
    have := p4 q hq
    obtain ⟨m, w⟩ := q
    exact ih M' w (by omega) this
def newV : Value := Value.mk 3 0 (⟨#[110, 101, 119]⟩ : ByteArray) (Sl.mk [] (some [])) (Sl.mk [] (some [])) 0 ByteArray.empty false
theorem gets_true (fs : Sl Field) (nm other : ByteArray) (h2 : ∀ f ∈ fs.l, OKF f) (hr : fs.l.length * 128 ≤ reachBytes) : ∃ fu, P3 fu fs nm other = some true := by
  obtain ⟨l, x⟩ := fs
  replace h2 : ∀ f ∈ l, OKF f := h2
  replace hr : l.length * 128 ≤ reachBytes := hr
  let N := SizeOf.sizeOf l + SizeOf.sizeOf zV + SizeOf.sizeOf newV + 1
  have hf : ∀ f ∈ l, fldP (Fit N) f := fun f hm => by
    have hs := List.sizeOf_lt_of_mem hm
    have ho0 := h2 f hm
    obtain ⟨m, v⟩ := f
    have ho := okF_parts ho0
    have := size_V (m := m) (v := v)
    exact fit_of N v (by show _ ≤ SizeOf.sizeOf l + SizeOf.sizeOf zV + SizeOf.sizeOf newV + 1; omega) ho
  have hz : SizeOf.sizeOf zV ≤ N := by show _ ≤ SizeOf.sizeOf l + SizeOf.sizeOf zV + SizeOf.sizeOf newV + 1; omega
  have hw : SizeOf.sizeOf newV ≤ N := by show _ ≤ SizeOf.sizeOf l + SizeOf.sizeOf zV + SizeOf.sizeOf newV + 1; omega
  have hN1 : 1 ≤ N := by show _ ≤ SizeOf.sizeOf l + SizeOf.sizeOf zV + SizeOf.sizeOf newV + 1; omega
  generalize N = N at hf hz hw hN1
  have fz : Fit N zV := fit_mono 1 N _ hN1 fit_zV
  have fw : Fit N newV := fit_mono 1 N _ hN1 ⟨⟨by rw [reach_is]; decide, by simp⟩, by rw [reach_is]; decide, by simp⟩
  have hlen := len_room (by omega) hr
  obtain ⟨o, t, g1, g2, g3, g4⟩ := with_ok (n := 4 * N + 2) (x := x) (nm := nm) (v := newV) hr (by omega) hf fw
  have fo := fit_copies hf g3 g4
  have ft := fit_ali N t newV g2 fw
  have hm1 : ((o.filter fun f => !named nm f) ++ [Field.mk nm t]).length ≤ 8796093022208 := by
    have := List.length_filter_le (fun f => !named nm f) o
    rw [reach_is] at hr
    simp; omega
  have fm : ∀ f ∈ (o.filter fun f => !named nm f) ++ [Field.mk nm t], fldP (Fit N) f := fun f hfm => by
    rcases List.mem_append.1 hfm with h | h
    · exact fo f (List.mem_filter.1 h).1
    · simp only [List.mem_singleton] at h; subst h; exact ft
  have hsame : ∀ a b, Ali N a b → Fit N b → P8 (4 * N + 2) a b = some true := fun a b h hb => said_same N _ a b h (fit_ali N a b h hb) (by omega)
  -- what is put is got
  have hput : ∃ r, P9 (4 * N + 2) ⟨(o.filter fun f => !named nm f) ++ [Field.mk nm t], none⟩ nm = some r ∧ Ali N r newV := by
    have hl1 : lastOf nm ((o.filter fun f => !named nm f) ++ [Field.mk nm t]) = some (Field.mk nm t) := by
      unfold lastOf
      rw [List.filter_append]
      simp [named, seq_self]
    rcases last_val (N := N) (n := 4 * N + 2) (nm := nm) (x := none) hm1 (by omega) fm with ⟨h1, _⟩ | ⟨m, v, r, h1, h3, h4, _⟩
    · rw [hl1] at h1; cases h1
    · rw [hl1] at h1
      cases h1
      exact ⟨r, h3, Ali.trans N _ _ _ h4 g2⟩
  obtain ⟨r, hr1, hr2⟩ := hput
  have hs1 := hsame r newV hr2 fw
  refine ⟨4 * N + 2, ?_⟩
  unfold P3 P10
  dsimp only
  rw [show (Value.mk 3 0 (⟨#[110, 101, 119]⟩ : ByteArray) (Sl.mk [] (some [])) (Sl.mk [] (some [])) 0 ByteArray.empty false) = newV from rfl, g1]
  obtain ⟨_, _, _, ⟨_, _⟩, ⟨_, _⟩, _, _, _⟩ := r
  simp only [Option.bind_some, hr1, hs1, Bool.not_true, cond_false]
  cases hseq : seq other nm with
  | true => rfl
  | false =>
    have hne : other ≠ nm := fun e => by rw [e, seq_self] at hseq; cases hseq
    have hl2 : lastOf other ((o.filter fun f => !named nm f) ++ [Field.mk nm t]) = lastOf other o := by
      unfold lastOf
      rw [List.filter_append, List.filter_filter]
      have e1 : (([Field.mk nm t] : List Field).filter (named other)) = [] := by
        have : seq nm other = false := by
          cases h : seq nm other with
          | false => rfl
          | true => exact absurd (seq_iff.1 h).symm hne
        simp [named, this]
      have e2 : (o.filter fun a => named other a && !named nm a) = o.filter (named other) := by
        refine List.filter_congr fun f _ => ?_
        obtain ⟨m, v⟩ := f
        simp only [named]
        cases h : seq m other with
        | false => rfl
        | true =>
          have := seq_iff.1 h
          subst this
          simp [hseq]
      rw [e1, e2, List.append_nil]
    have hboth : ∃ a b, P9 (4 * N + 2) ⟨(o.filter fun f => !named nm f) ++ [Field.mk nm t], none⟩ other = some a ∧ P9 (4 * N + 2) ⟨l, x⟩ other = some b ∧ Ali N a b ∧ Fit N b := by
      rcases last_val (N := N) (n := 4 * N + 2) (nm := other) (x := none) hm1 (by omega) fm with ⟨h1, h1'⟩ | ⟨m1, v1, t1, h1, h1', h1a, h1f⟩ <;>
      rcases last_val (N := N) (n := 4 * N + 2) (nm := other) (x := x) hlen (by omega) hf with ⟨h3, h3'⟩ | ⟨m2, v2, t2, h3, h3', h3a, h3f⟩ <;>
      rw [hl2] at h1 <;>
      rcases lastOf_alike other o l g3 g4 with ⟨h5, h6⟩ | ⟨p, q, h5, h6, h7⟩ <;>
      rw [h1] at h5 <;> rw [h3] at h6
      · exact ⟨zV, zV, h1', h3', Ali.refl N zV hz, fz⟩
      · cases h5
      · cases h6
      · cases h5
      · cases h5
      · cases h6
      · cases h5
      · cases h5; cases h6
        exact ⟨t1, t2, h1', h3', Ali.trans N _ _ _ h1a (Ali.trans N _ _ _ h7.2 (Ali.symm N _ _ h3a)), fit_ali N t2 v2 h3a h3f⟩
    obtain ⟨a, b, ha, hb, hab, hfb⟩ := hboth
    have hs2 := hsame a b hab hfb
    obtain ⟨_, _, _, ⟨_, _⟩, ⟨_, _⟩, _, _, _⟩ := a
    obtain ⟨_, _, _, ⟨_, _⟩, ⟨_, _⟩, _, _, _⟩ := b
    simp only [Bool.not_false, cond_true, ha, hb, Option.bind_some, hs2]
theorem law3 (ls : List (List D)) (h : WTs tab [22, 9, 9] ls) : call S 3 (argsPV tab [22, 9, 9] ls) [] = some (.d (.bool true), []) := by
  obtain ⟨l1, _, rfl, h1, l2, _, rfl, h2, l3, _, rfl, h3, rfl⟩ := h
  obtain ⟨r1, q1, e1, a1, b1, _⟩ := h1.slice_room ty_22
  obtain ⟨⟨l, x⟩, rfl⟩ := wt_22 h1
  obtain ⟨s2, rfl⟩ := wt_9 h2
  obtain ⟨s3, rfl⟩ := wt_9 h3
  have hf : l.length * 128 ≤ reachBytes ∧ ∀ f ∈ l, OKF f := by
    have e1' : es_Field ⟨l, x⟩ = .sl r1 (some q1) := by simpa using e1
    simp only [es_Field, D.sl.injEq] at e1'
    obtain ⟨rfl, _⟩ := e1'
    rw [el_Field_map] at a1 b1
    simp only [List.length_map, List.mem_map, forall_exists_index, and_imp, forall_apply_eq_imp_iff₂, Nat.add_mul] at a1 b1
    exact ⟨by omega, b1⟩
  obtain ⟨fu, hp⟩ := gets_true ⟨l, x⟩ s2 s3 hf.2 hf.1
  exact call_of (ok3 rfl rfl hp rfl [])
end Go.Proofs.Ytipkggkbldgmjaa
