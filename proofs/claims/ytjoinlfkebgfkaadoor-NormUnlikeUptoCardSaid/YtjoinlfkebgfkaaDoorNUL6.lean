/- NormLists on plain data: a stretch of values in a list of its own gives the same children. -/
import Derived.Test.YtjoinlfkebgfkaaDoorNUL5
import Derived.Test.YtjoinlfkebgfkaaDoorNUL4
namespace Go.Proofs.YtjoinlfkebgfkaaDoor
open Go Go.X
set_option linter.unusedVariables false
set_option linter.unusedSimpArgs false
set_option maxRecDepth 100000
theorem okV_more {k n : Int} {s key : ByteArray} {l : Sl Value} {f : Sl Field} {e : Int} {hk : Bool} (h : OKV (Value.mk k n s l f e key hk)) : inI64 n = true ∧ key.size ≤ reachBytes := by
  obtain ⟨l, x⟩ := l
  obtain ⟨f, y⟩ := f
  obtain ⟨a0, _, e0, h0, a1, _, e1, h1, a2, _, e2, h2, a3, _, e3, h3, a4, _, e4, h4, a5, _, e5, h5, a6, _, e6, h6, _⟩ := h.agg_inv ty_32 rfl
  obtain ⟨_, rfl, _⟩ := h0.int_inv ty_29
  obtain ⟨_, rfl, w1⟩ := h1.int_inv ty_2
  obtain ⟨_, rfl, _⟩ := h2.str_inv ty_9
  obtain ⟨r3, q3, rfl, l3, m3, _⟩ := h3.slice_room ty_22
  obtain ⟨r4, q4, rfl, l4, m4, _⟩ := h4.slice_room ty_30
  obtain ⟨_, rfl, _⟩ := h5.int_inv ty_28
  obtain ⟨_, rfl, w6⟩ := h6.str_room ty_9
  subst e6; subst e5; subst e4; subst e3; subst e2; subst e1
  simp only [e_Value, es_Value, es_Field, List.cons_append, List.nil_append, List.cons.injEq, D.sl.injEq, D.int.injEq, D.str.injEq, true_and] at e0
  obtain ⟨rfl, rfl, _, _, _, _, rfl, _⟩ := e0
  refine ⟨?_, w6⟩
  rw [inI64_iff]
  simpa [Lit.wf, show IntKind.i64.min = -9223372036854775808 from rfl] using w1
theorem fit_mono : ∀ (N M : Nat) (v : Value), N ≤ M → Fit N v → Fit M v := by
  intro N
  induction N with
  | zero => intro M v hM h; exact absurd h (by obtain ⟨_, _, _, ⟨_, _⟩, ⟨_, _⟩, _, _, _⟩ := v; simp [Fit])
  | succ N ih =>
    intro M v hM h
    obtain ⟨M', rfl⟩ : ∃ M', M = M' + 1 := ⟨M - 1, by omega⟩
    obtain ⟨k, n, s, ⟨l, x⟩, ⟨f, y⟩, e, c, b⟩ := v
    obtain ⟨⟨p1, p2⟩, p3, p4⟩ := h
    refine ⟨⟨p1, fun v hv => ih M' v (by omega) (p2 v hv)⟩, p3, fun q hq => ?_⟩
    have := p4 q hq
    obtain ⟨m, w⟩ := q
    exact ih M' w (by omega) this
theorem kok_of : ∀ (N : Nat) (v : Value), SizeOf.sizeOf v ≤ N → OKV v → Kok N v := by
  intro N
  induction N with
  | zero =>
    intro v h
    obtain ⟨_, _, _, ⟨_, _⟩, ⟨_, _⟩, _, _, _⟩ := v
    simp only [Value.mk.sizeOf_spec] at h
    omega
  | succ N ih =>
    intro v h ov
    have hf := fit_of (N + 1) v h ov
    obtain ⟨k, n, s, ⟨l, x⟩, ⟨f, y⟩, e, c, b⟩ := v
    obtain ⟨p1, p2, p3, p4⟩ := okV_parts ov
    obtain ⟨g1, g2⟩ := okV_more ov
    refine ⟨g1, g2, fun _ => ⟨by have := len_room (by omega) p1; omega, fun v hv => ?_⟩, fun _ => hf⟩
    have := size_L (k := k) (n := n) (s := s) (key := c) (lx := x) (f := ⟨f, y⟩) (e := e) (hk := b) hv
    exact ih v (by omega) (p2 v hv)
theorem fl_fit : ∀ (N : Nat) (l : List Value), (∀ v ∈ l, Kok N v) → ∀ u ∈ flL l, Fit N u := by
  intro N
  induction N with
  | zero =>
    intro l h u hu
    cases l with
    | nil => rw [flL] at hu; cases hu
    | cons v r => exact absurd (h v (List.mem_cons_self ..)) (by obtain ⟨_, _, _, ⟨_, _⟩, ⟨_, _⟩, _, _, _⟩ := v; simp [Kok])
  | succ N ih =>
    intro l
    induction l with
    | nil => intro h u hu; rw [flL] at hu; cases hu
    | cons v r ihr =>
      intro h u hu
      rw [flL] at hu
      rcases List.mem_append.1 hu with hu | hu
      · have hv := h v (List.mem_cons_self ..)
        obtain ⟨k, n, s, ⟨l', x'⟩, ⟨f, y⟩, e, c, b⟩ := v
        obtain ⟨_, _, h3, h4⟩ := hv
        rw [fl] at hu
        by_cases hk : k = 4
        · subst hk
          rw [show ((4 : Int) == 4) = true from rfl, cond_true, flS] at hu
          exact fit_mono N (N + 1) u (by omega) (ih l' (h3 rfl).2 u hu)
        · rw [show (k == 4) = false by simpa using hk, cond_false, List.mem_singleton] at hu
          subst hu
          exact h4 hk
      · exact ihr (fun v hv => h v (List.mem_cons_of_mem _ hv)) u hu
def KidOK (N : Nat) : Child → Prop
  | ⟨_, _, _, w⟩ => Ali N w w ∧ Fit N w
theorem text_ok (N : Nat) (s : ByteArray) : Ali (N + 1) (textV s) (textV s) ∧ Fit (N + 1) (textV s) :=
  ⟨⟨rfl, rfl, rfl, rfl, rfl, rfl, ⟨rfl, fun i t a h => by simp at h⟩, rfl, fun i t a h => by simp at h⟩, ⟨⟨by simp, fun v h => by cases h⟩, by simp, fun v h => by cases h⟩⟩
theorem kid_ok {N : Nat} {u : Value} (h : Fit (N + 1) u) {k : Int} {nm : ByteArray} {w : Value} (hk : kidOf u = some (k, nm, w)) : Ali (N + 1) w w ∧ Fit (N + 1) w := by
  have h1 := (cp_V (N + 1) _ u h (Nat.le_refl _)).2
  have h2 : Ali (N + 1) (cp u) (cp u) ∧ Fit (N + 1) (cp u) := ⟨Ali.trans _ _ _ _ h1 (Ali.symm _ _ _ h1), fit_ali _ _ _ h1 h⟩
  obtain ⟨k', n, s, l, f, e, c, b⟩ := u
  rw [kidOf] at hk
  cases hq1 : (k' == 1) with
  | true => rw [hq1, cond_true] at hk; cases hk; exact text_ok N _
  | false =>
  rw [hq1, cond_false] at hk
  cases hq3 : (k' == 3) with
  | true => rw [hq3, cond_true] at hk; cases hk; exact text_ok N _
  | false =>
  rw [hq3, cond_false] at hk
  cases hq : (bif k' == 6 then bif decide (0 < e) then decide (e < 9) else false else false) with
  | true => rw [hq, cond_true] at hk; cases hk; exact h2
  | false => rw [hq, cond_false] at hk; cases hk
theorem run_kids {N : Nat} : ∀ (fs : List Value) (p : Int) (out : List Child) (seen : Seen), (∀ u ∈ fs, Fit (N + 1) u) → (∀ c ∈ out, KidOK (N + 1) c) → ∀ c ∈ (run fs p out seen).2.2.1, KidOK (N + 1) c
  | [], p, out, seen, h1, h2 => h2
  | v :: r, p, out, seen, h1, h2 => by
    have h3 : ∀ c ∈ (stp p v out seen).2.1, KidOK (N + 1) c := by
      unfold stp
      cases ln out == 4096 with
      | true => exact h2
      | false =>
        rw [cond_false]
        split
        · exact h2
        · rename_i k nm w hk
          intro c hc
          rcases List.mem_append.1 hc with hc | hc
          · exact h2 c hc
          · rw [List.mem_singleton] at hc
            subst hc
            exact kid_ok (h1 v (List.mem_cons_self ..)) hk
    rw [run]
    generalize stp p v out seen = t at h3
    obtain ⟨_ | _, out', seen'⟩ := t
    · exact h3
    · exact run_kids r _ _ _ (fun u hu => h1 u (List.mem_cons_of_mem _ hu)) h3
theorem scC_st (fu : Nat) (a b : List Child) : P10_s0 fu a b = stAll a b (P19 fu) := by
  funext i
  unfold P10_s0 stAll
  dsimp only
  cases decide (i < ln a)
  · rfl
  · cases idx a i with
    | none => rfl
    | some x =>
      obtain ⟨_, _, _, ⟨_, _, _, ⟨_, _⟩, ⟨_, _⟩, _, _, _⟩⟩ := x
      cases idx b i with
      | none => rfl
      | some y =>
        obtain ⟨_, _, _, ⟨_, _, _, ⟨_, _⟩, ⟨_, _⟩, _, _, _⟩⟩ := y
        rfl
theorem same_kids {N fu : Nat} {l : List Child} {x y : Option (List Child)} (hl : l.length ≤ 4096) (h : ∀ c ∈ l, KidOK N c) (hf : 3 * N ≤ fu) : P10 fu ⟨l, x⟩ ⟨l, y⟩ = some true := by
  unfold P10
  dsimp only
  rw [scC_st, show (ln l == ln l) = true by simp, Bool.not_true, cond_false]
  rw [(allYes (a := l) (b := l) (p := P19 fu) rfl rfl (by omega) (fun i a b ha hb => by
    rw [ha] at hb
    cases hb
    obtain ⟨h1, h2⟩ := h a (List.mem_of_getElem? ha)
    have := said_same N fu _ _ h1 h2 hf
    obtain ⟨k, kd, nm, ⟨_, _, _, ⟨_, _⟩, ⟨_, _⟩, _, _, _⟩⟩ := a
    unfold P19
    dsimp only at this ⊢
    rw [this, seq_self, seq_self, show (kd == kd) = true by simp]
    rfl)).use (t := some true) (f := some false) (fun _ => rfl) (fun _ => rfl)]
  rfl
theorem app_ok {p c : List Value} (h : (p.length + c.length) * 112 ≤ 140737488355328) : (bif ln c == 0 then some p else bif room 112 (ln (p ++ c)) then some (p ++ c) else none) = some (p ++ c) := by
  have hr : room 112 (ln (p ++ c)) = true := room_ok (by rw [ln_eq, List.length_append]; omega)
  rw [hr, cond_true]
  cases c with
  | nil => simp
  | cons v r => rw [show (ln (v :: r) == 0) = false by simp [ln]; omega]; rfl
theorem split3 {A : Type} (l : List A) {a b : Nat} (h1 : a ≤ b) (h2 : b ≤ l.length) : l = l.take a ++ ((l.take b).drop a ++ l.drop b) := by
  conv => lhs; rw [← List.take_append_drop b l, ← List.take_append_drop a (l.take b)]
  rw [List.take_take, Nat.min_eq_left h1, List.append_assoc]
theorem tmod_nat {x y : Int} (hx : 0 ≤ x) (hy : 0 < y) : ∃ a : Nat, Int.tmod x y = (a : Int) ∧ (a : Int) < y := by
  have h1 := Int.tmod_nonneg y hx
  have h2 := Int.tmod_lt_of_pos x hy
  exact ⟨(Int.tmod x y).toNat, by omega, by omega⟩
theorem lists_true (l h : List Value) (x1 x2 : Int) (h1 : l.length * 112 ≤ reachBytes) (h2 : ∀ v ∈ l, OKV v) (g1 : 0 ≤ x1 ∧ x1 ≤ 255) (g2 : 0 ≤ x2 ∧ x2 ≤ 255) : ∃ fu, P4 fu ⟨l, some h⟩ x1 x2 = some true := by
  let N := SizeOf.sizeOf l
  have hs : ∀ v ∈ l, SizeOf.sizeOf v ≤ N := fun v hv => Nat.le_of_lt (List.sizeOf_lt_of_mem hv)
  generalize N = N at hs
  have hlen := len_room (by omega) h1
  obtain ⟨r4, hsz⟩ := sizes_told N (4 * N + 40) l (some h) h1 (fun v hv => ⟨hs v hv, h2 v hv⟩) (by omega)
  obtain ⟨r6, hby⟩ := P7_def (4 * N + 40) [r4] (some []) (by simp)
  refine ⟨4 * N + 40, ?_⟩
  obtain ⟨a, ha, ha'⟩ := tmod_nat (x := w64 x1) (y := w64 (ln l + 1)) (by rw [w64_id (by omega) (by omega)]; omega) (by rw [w64_id (by simp [ln]; omega) (by simp [ln]; omega), ln_eq]; omega)
  rw [w64_id (n := ln l + 1) (by simp [ln]; omega) (by simp [ln]; omega), ln_eq] at ha'
  obtain ⟨d, hd, hd'⟩ := tmod_nat (x := w64 x2) (y := w64 (w64 (ln l - (a : Int)) + 1)) (by rw [w64_id (by omega) (by omega)]; omega) (by rw [w64_id (n := ln l - (a : Int)) (by simp [ln]; omega) (by simp [ln]; omega), w64_id (by simp [ln]; omega) (by simp [ln]; omega), ln_eq]; omega)
  rw [w64_id (n := ln l - (a : Int)) (by simp [ln]; omega) (by simp [ln]; omega), w64_id (by simp [ln]; omega) (by simp [ln]; omega), ln_eq] at hd'
  have hz1 : (w64 (ln l + 1) == 0) = false := by
    rw [w64_id (by simp [ln]; omega) (by simp [ln]; omega), ln_eq, beq_eq_false_iff_ne]; omega
  have hz2 : (w64 (w64 (ln l - (a : Int)) + 1) == 0) = false := by
    rw [w64_id (n := ln l - (a : Int)) (by simp [ln]; omega) (by simp [ln]; omega), w64_id (by simp [ln]; omega) (by simp [ln]; omega), ln_eq, beq_eq_false_iff_ne]; omega
  obtain ⟨b, hb⟩ : ∃ b : Nat, b = a + d := ⟨_, rfl⟩
  have hw : w64 ((a : Int) + (d : Int)) = (b : Int) := by rw [w64_id (by omega) (by omega)]; omega
  have hab : a ≤ b := by omega
  have hbl : b ≤ l.length := by omega
  have c1 : cut (l ++ h) 0 (a : Int) = l.take a := by simp [cut, List.take_append_of_le_length (show a ≤ l.length by omega)]
  have c2 : cut (l ++ h) (a : Int) (b : Int) = (l.take b).drop a := by simp [cut, List.take_append_of_le_length hbl]
  have c3 : cut (l ++ h) (b : Int) (ln l) = l.drop b := by simp [cut, ln]
  have hsplit := split3 l hab hbl
  have htl : (l.take a).length = a := by rw [List.length_take]; omega
  have hdl : (l.drop b).length = l.length - b := by rw [List.length_drop]
  rw [reach_is] at h1
  have a1 := app_ok (p := []) (c := l.take a) (by rw [htl]; simp; omega)
  obtain ⟨V, hV⟩ : ∃ V, V = Value.mk 4 0 ByteArray.empty (Sl.mk ((l.take b).drop a) (some (cut (l ++ h) (b : Int) (ln (l ++ h))))) (Sl.mk [] (some [])) 0 ByteArray.empty false := ⟨_, rfl⟩
  have a2 : room 112 (ln (l.take a ++ [V])) = true := room_ok (by rw [ln_eq, List.length_append, htl, List.length_singleton]; omega)
  have a3 := app_ok (p := l.take a ++ [V]) (c := l.drop b) (by rw [List.length_append, htl, List.length_singleton, hdl]; omega)
  have k1 : ∀ M, N ≤ M → ∀ v ∈ l, Kok M v := fun M hM v hv => kok_of M v (Nat.le_trans (hs v hv) hM) (h2 v hv)
  have kV : Kok (N + 1) V := by
    subst hV
    refine ⟨rfl, by simp, fun _ => ⟨?_, fun v hv => k1 N (Nat.le_refl _) v (List.mem_of_mem_take (List.mem_of_mem_drop hv))⟩, fun hk => absurd rfl hk⟩
    rw [List.length_drop, List.length_take]; omega
  have kM : ∀ v ∈ (l.take a ++ [V]) ++ l.drop b, Kok (N + 1) v := by
    intro v hv
    rcases List.mem_append.1 hv with hv | hv
    · rcases List.mem_append.1 hv with hv | hv
      · exact k1 _ (by omega) v (List.mem_of_mem_take hv)
      · rw [List.mem_singleton] at hv; subst hv; exact kV
    · exact k1 _ (by omega) v (List.mem_of_mem_drop hv)
  have lM : ((l.take a ++ [V]) ++ l.drop b).length ≤ 9000000000000 := by
    rw [List.length_append, List.length_append, htl, List.length_singleton, hdl]; omega
  obtain ⟨m, hm⟩ : ∃ m, m = (l.take a ++ [V]) ++ l.drop b := ⟨_, rfl⟩
  have hflm : flL m = flL l := by
    rw [hm, flL_append, flL_append, hV, flL_list]
    conv => rhs; rw [hsplit]
    rw [flL_append, flL_append, List.append_assoc]
  rw [← hm] at kM lM a3
  obtain ⟨W, hW⟩ : ∃ W, W = Value.mk 4 0 ByteArray.empty (Sl.mk [Value.mk 4 0 ByteArray.empty (Sl.mk m none) (Sl.mk [] (some [])) 0 ByteArray.empty false] (some [])) (Sl.mk [] (some [])) 0 ByteArray.empty false := ⟨_, rfl⟩
  have kW : ∀ v ∈ [W], Kok (N + 3) v := by
    intro v hv
    rw [List.mem_singleton] at hv
    subst hv hW
    refine ⟨rfl, by simp, fun _ => ⟨by simp, fun v hv => ?_⟩, fun hk => absurd rfl hk⟩
    rw [List.mem_singleton] at hv
    subst hv
    exact ⟨rfl, by simp, fun _ => ⟨lM, kM⟩, fun hk => absurd rfl hk⟩
  have q1 := kids_ok (N := N) (fu := 4 * N + 40) (x := some h) (by omega) (k1 N (Nat.le_refl _)) (by omega)
  have q2 := kids_ok (N := N + 1) (fu := 4 * N + 40) (x := none) lM kM (by omega)
  have q3 := kids_ok (N := N + 3) (fu := 4 * N + 40) (x := some []) (l := [W]) (by simp) kW (by omega)
  rw [hflm] at q2
  have hflW : flL [W] = flL l := by rw [hW, flL_list, flL_list, hflm]
  rw [hflW] at q3
  have hkl := (run_keeps (flL l) 0 [] [] rfl (by simp)).2
  have hko := run_kids (N := N) (flL l) 0 [] [] (fl_fit (N + 1) l (k1 (N + 1) (by omega))) (fun c hc => by cases hc)
  generalize (run (flL l) 0 [] []).2.2.1 = K at q1 q2 q3 hkl hko
  have hsame := same_kids (x := none) (y := none) (fu := 4 * N + 40) hkl hko (by omega)
  unfold P4 P6
  dsimp only
  simp only [Option.bind_some, Bool.not_true, Bool.not_false, cond_true, hsz, hby]
  cases r6 with
  | true => rfl
  | false =>
  have t1 : decide (0 ≤ (a : Int)) = true := by simp
  have t2 : decide ((a : Int) ≤ ln (l ++ h)) = true := by simp [ln]; omega
  have t3 : decide ((a : Int) ≤ (b : Int)) = true := by simp; omega
  have t4 : decide ((b : Int) ≤ ln (l ++ h)) = true := by simp [ln]; omega
  have t5 : decide (0 ≤ (b : Int)) = true := by simp
  have t6 : decide ((b : Int) ≤ ln l) = true := by simp [ln]; omega
  have t7 : decide (ln l ≤ ln (l ++ h)) = true := by simp [ln]; omega
  have t0 : decide ((0 : Nat) ≤ 0) = true := rfl
  have t0' : decide ((0 : Int) ≤ 0) = true := rfl
  rw [List.nil_append] at a1
  simp only [cond_false, hz1, ha, hz2, hd, hw, t0, t0', t1, t2, t3, t4, t5, t6, t7, cond_true, c1, c2, c3, a1, Option.bind_some, List.nil_append, ← hV, a2, a3, ← hm, q1, q2, hsame, ← hW, q3]
theorem law4 (ls : List (List D)) (h : WTs tab [22, 5, 5] ls) : call S 4 (argsPV tab [22, 5, 5] ls) [] = some (.d (.bool true), []) := by
  obtain ⟨l1, _, rfl, h1, l2, _, rfl, h2, l3, _, rfl, h3, rfl⟩ := h
  obtain ⟨r1, q1, e1, a1, b1, _⟩ := h1.slice_room ty_22
  obtain ⟨x2, e2, w2⟩ := h2.int_inv ty_5
  obtain ⟨x3, e3, w3⟩ := h3.int_inv ty_5
  obtain ⟨⟨l, x⟩, rfl⟩ := wt_22 h1
  subst e2 e3
  have e1' : es_Value ⟨l, x⟩ = .sl r1 (some q1) := by simpa using e1
  have hx : ∃ hd, x = some hd := by
    cases x with
    | none => simp [es_Value, eo_Value] at e1'
    | some hd => exact ⟨hd, rfl⟩
  obtain ⟨hd, rfl⟩ := hx
  simp only [es_Value, D.sl.injEq] at e1'
  obtain ⟨rfl, _⟩ := e1'
  rw [el_Value_map] at a1 b1
  simp only [List.length_map, List.mem_map, forall_exists_index, and_imp, forall_apply_eq_imp_iff₂, Nat.add_mul] at a1 b1
  obtain ⟨fu, hp⟩ := lists_true l hd x2 x3 (by omega) b1 (by simpa [Lit.wf, show IntKind.u8.min = 0 from rfl, show IntKind.u8.max = 255 from rfl] using w2) (by simpa [Lit.wf, show IntKind.u8.min = 0 from rfl, show IntKind.u8.max = 255 from rfl] using w3)
  exact call_of (ok4 rfl rfl hp rfl [])
end Go.Proofs.YtjoinlfkebgfkaaDoor
