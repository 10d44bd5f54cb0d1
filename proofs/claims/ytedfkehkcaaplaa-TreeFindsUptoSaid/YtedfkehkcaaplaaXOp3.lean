/- T -/
import Derived.Test.YtedfkehkcaaplaaXOp2
namespace Go.X
open Go
set_option linter.unusedVariables false
variable [bY]
section
variable {R : Type} {P : Program} {Γ : Tab} {cf : Nat → List PV → St → Option (PV × St)} {o : Oper} {a : Act} {w : World} {m : Mt} {K : PV → St → Option R} {r : R} {st : St} {ρ : Env}
theorem aV.drop' {cl : Nat → Nat} {w : World} {b : Nat} : ∀ {l : List D} {o : Nat} (n : Nat), aV cl w b o l → aV cl w b (o + n) (l.drop n)
 | l, o, 0, h => by simpa using h
 | [], o, n + 1, h => by simp [aV]
 | d :: r, o, n + 1, h => by
  simp only [aV] at h
  have := h.2.drop' n
  simpa [Nat.add_assoc, Nat.add_comm 1 n] using this
theorem SN (hΓ : cZ P Γ) {t off : Nat} {cs : List PV} {vs : List Value} {x : PV} {bl : List (List bZ)} {cl : Nat → Nat} (hp : pack Γ t cs = some x) (hv : aF bl cl w cs (vs.drop off)) :
  ∃ v, (part t vs.toArray off).run P w = .ok v w ∧ aj bl cl w x v := by
 have ht := hΓ.ty t
 unfold kD at ht
 unfold pack at hp
 have scalar : ∀ (d : TypeDesc), P.underlying t = some d → rU d = true → (∃ v r, cs = x :: r ∧ vs[off]? = some v ∧ aj bl cl w x v) → ∃ v, (part t vs.toArray off).run P w = .ok v w ∧ aj bl cl w x v := by
  rintro d hd hn ⟨v, r, rfl, h0, h1⟩
  refine ⟨v, ?_, h1⟩
  cases d <;> first | (simp [rU] at hn; done) | simp [part, isAgg, run_underlying hd, h0]
 have hd : ∀ {y : PV}, xH cs = some y → ∃ v r, cs = y :: r ∧ vs[off]? = some v ∧ aj bl cl w y v := by
  intro y hy
  cases cs with
  | nil => simp [xH] at hy
  | cons z r =>
   simp [xH] at hy; subst hy
   simp only [aF] at hv
   obtain ⟨v, s, h1, h2, _, _⟩ := hv
   refine ⟨v, r, rfl, ?_, h2⟩
   have : (vs.drop off)[0]? = some v := by rw [h1]; rfl
   simpa using this
 cases hty : Γ.ty t with
 | int k => simp only [hty] at ht hp; exact scalar _ ht rfl (hd hp)
 | bool => simp only [hty] at ht hp; exact scalar _ ht rfl (hd hp)
 | str => simp only [hty] at ht hp; exact scalar _ ht rfl (hd hp)
 | ptr e => simp only [hty] at ht hp; exact scalar _ ht rfl (hd hp)
 | sc => simp only [hty] at ht hp; obtain ⟨d, h1, h2⟩ := ht; exact scalar d h1 h2 (hd hp)
 | map k e => simp only [hty] at ht hp; exact scalar _ ht rfl (hd hp)
 | slice e sz vX => simp only [hty] at ht hp; exact scalar _ ht.1 rfl (hd hp)
 | array n e => simp [hty] at hp
 | bad => simp [hty] at hp
 | agg n fs =>
  simp only [hty] at ht hp
  obtain ⟨fields, h1, ⟨i, hi, hn⟩, _⟩ := ht
  cases hb : Nat.ble n cs.length with
  | false => simp [hb] at hp
  | true =>
   simp only [hb, cond_true, Option.some.injEq] at hp
   subst hp
   have hle := Nat.le_of_ble_eq_true hb
   refine ⟨.agg ((vs.drop off).take n).toArray, ?_, ?_⟩
   ·have : vs.toArray.extract off (off + n) = ((vs.drop off).take n).toArray := by simp [List.extract_eq_take_drop]
    simp [part, isAgg, run_underlying h1, sizeOf, typeInfo, hi, hn]
   ·simp only [aj]; exact ⟨_, rfl, hv.take n⟩
theorem Cj (hΓ : cZ P Γ) (he : aM m w ρ a) (hw : aO m st w) {t : TypeId} {x : Operand} {f : Nat} (hop : o.op = .fieldAddr t x f)
  (h : (match Γ.ty t with
  | .agg _ fs => match fs[f]? with
   | some q => match ev ρ x with
    | .ptr l i off => K (.ptr l i (off + q.1)) st
    | .kL l i k ix off => K (.kL l i k ix (off + q.1)) st
    | .aS cs => bif Nat.ble q.1 cs.length then K (.aS (cs.drop q.1)) st else none
    | _ => none
   | none => none
  | _ => none) = some r) : Goes P o a w m K r := by
 have hp := bV he x
 have ht := hΓ.ty t
 unfold kD at ht
 split at h
 ·rename_i n fs hty
  simp only [hty] at ht
  obtain ⟨fields, h1, _, hsz, hf⟩ := ht
  split at h
  ·rename_i q hq
   have hlt : f < fs.length := (List.getElem?_eq_some_iff.1 hq).1
   have Nk : ∃ fd, fields[f]? = some fd := ⟨fields[f]'(by omega), Array.getElem?_eq_getElem (by omega)⟩
   obtain ⟨fd, Xx⟩ := Nk
   obtain ⟨g1, g2, g3, i, g4, g5⟩ := hf f fd q Xx hq
   have run : ∀ b off, (Instr.fieldAt t (.pointer (some ⟨b, off, none⟩)) f).run P w = .ok (.pointer (some ⟨b, off + q.1, none⟩)) w := by
    intro b off
    have hz : ¬ i.size = 0 := by rw [g5]; exact g3
    simp [Instr.fieldAt, run_underlying h1, Xx, Instr.sureAddr, fieldPlace, sizeOf, typeInfo, g4, hz, gI, g1]
   split at h
   ·rename_i l i off hx
    rw [hx] at hp; simp only [aj] at hp
    obtain ⟨e, k1, k0, k2⟩ := hp
    exact Goes.value (v := .pointer (some ⟨e.b, off + q.1, none⟩)) (by simp [execOp, hop, k2, run]) h hw (by simp only [aj]; exact ⟨e, k1, k0, rfl⟩)
   ·rename_i l i k ix off hx
    rw [hx] at hp; simp only [aj] at hp
    obtain ⟨e, b, k1, k0, k2, k3⟩ := hp
    exact Goes.value (v := .pointer (some ⟨b, ix.toNat * e.sz + off + q.1, none⟩)) (by simp [execOp, hop, k2, run]) h hw (by simp only [aj]; exact ⟨e, b, k1, k0, by rw [Nat.add_assoc], k3⟩)
   ·rename_i cs hx
    rw [hx] at hp; simp only [aj] at hp
    obtain ⟨b, off, k1, k2, k3⟩ := hp
    cases hb : Nat.ble q.1 cs.length with
    | false => simp [hb] at h
    | true =>
     simp only [hb, cond_true] at h
     have hle := Nat.le_of_ble_eq_true hb
     exact Goes.value (v := .pointer (some ⟨b, off + q.1, none⟩)) (by simp [execOp, hop, k1, run]) h hw (by simp only [aj]; exact ⟨b, off + q.1, rfl, by simp only [List.length_drop]; omega, k3.drop' _⟩)
   ·cases h
  ·cases h
 ·cases h
theorem Nl (hΓ : cZ P Γ) (he : aM m w ρ a) (hw : aO m st w) {t : TypeId} {x : Operand} {f : Nat} (hop : o.op = .field t x f)
  (h : (match Γ.ty t, ev ρ x with
  | .agg _ fs, .agg cs => match fs[f]? with
   | some q => match pack Γ q.2.2 (cs.drop q.1) with | some v => K v st | none => none
   | none => none
  | _, _ => none) = some r) : Goes P o a w m K r := by
 have hp := bV he x
 have ht := hΓ.ty t
 unfold kD at ht
 split at h
 ·rename_i n fs cs hty hx
  simp only [hty] at ht
  obtain ⟨fields, h1, _, hsz, hf⟩ := ht
  rw [hx] at hp; simp only [aj] at hp
  obtain ⟨vs, k1, k2⟩ := hp
  split at h
  ·rename_i q hq
   have hlt : f < fs.length := (List.getElem?_eq_some_iff.1 hq).1
   have Nk : ∃ fd, fields[f]? = some fd := ⟨fields[f]'(by omega), Array.getElem?_eq_getElem (by omega)⟩
   obtain ⟨fd, Xx⟩ := Nk
   obtain ⟨g1, g2, g3, i, g4, g5⟩ := hf f fd q Xx hq
   split at h
   ·rename_i y hy
    obtain ⟨z, k3, k4⟩ := SN (P := P) (w := w) hΓ hy (k2.drop q.1)
    exact Goes.value (v := z) (by simp [execOp, hop, k1, Instr.field, run_underlying h1, Xx, asAgg, g1, g2, k3]) h hw k4
   ·cases h
  ·cases h
 ·cases h
theorem Ck (hΓ : cZ P Γ) (he : aM m w ρ a) (hw : aO m st w) {t : TypeId} {x ix : Operand} (hop : o.op = .indexAddr t x ix)
  (h : (match Γ.ty t with
  | .slice _ sz _ => match ev ρ x, ev ρ ix with
   | .d (.sl rows _), .d (.int _ i) => bif (real cf).fits sz rows none then ((real cf).nth rows i).bind fun r => K (.aS r) st else none
   | .row l j k, .d (.int _ i) => match look st l j with
    | some (.row _ sz' rows _ _) => bif Nat.beq sz sz' then bif (real cf).ieq ((real cf).len rows) k then ((real cf).nth rows i).bind fun _ => K (.kL l j k i 0) st else none else none
    | _ => none
   | _, _ => none
  | _ => none) = some r) : Goes P o a w m K r := by
 have hp := bV he x
 have hq := bV he ix
 have ht := hΓ.ty t
 unfold kD at ht
 split at h
 ·rename_i e sz vX hty
  simp only [hty] at ht
  obtain ⟨h1, hsz, i0, h2, h3, _⟩ := ht
  have run : ∀ (b off len cap : Nat) (k : IntKind) (i : Int), 0 ≤ i → i < (len : Int) → (Instr.indexAt t (.slice (some ⟨b, off, none⟩) len cap) (.int k i)).run P w = .ok (.pointer (some ⟨b, off + i.toNat * sz, none⟩)) w := by
   intro b off len cap k i hi0 hi1
   simp [Instr.indexAt, run_underlying h1, asIntOf, hi0, hi1, sizeOf, typeInfo, h2, h3, gI]
  split at h
  ·rename_i rows ext k i hx hi
   rw [hx] at hp; rw [hi] at hq
   simp only [aj] at hp
   simp only [aj, aZ] at hq
   cases hb : (real cf).fits sz rows none with
   | false => simp [hb] at h
   | true =>
    simp only [hb, cond_true] at h
    obtain ⟨rr, Hy, h⟩ := Option.bind_eq_some_iff.1 h
    obtain ⟨hi0, hi1⟩ := uh Hy
    have hlt := (List.getElem?_eq_some_iff.1 hi1).1
    simp only [aZ] at hp
    rcases hp with ⟨_, hnil, _⟩ | ⟨sz', b, off, cap, g1, g2, g3, g4, _⟩
    ·subst hnil; simp at hi1
    ·obtain ⟨g5, g6⟩ := g4.nth hi1
     have hsz' : sz' = sz := by rw [← g5]; exact (tY hb).1 rr (List.mem_of_getElem? hi1)
     subst hsz'
     have hle : (i.toNat + 1) * sz' ≤ rows.length * sz' := Nat.mul_le_mul_right _ (by omega)
     rw [Nat.add_mul, Nat.one_mul] at hle
     exact Goes.value (v := .pointer (some ⟨b, off + i.toNat * sz', none⟩)) (by simp [execOp, hop, g1, hq, run b off rows.length cap k i hi0 (by omega)]) h hw
      (by simp only [aj]; exact ⟨b, _, rfl, by omega, g6⟩)
  ·rename_i l j k kk i hx hi
   rw [hx] at hp; rw [hi] at hq
   simp only [aj, aZ] at hp hq
   obtain ⟨en, g1, g2, g3, g5⟩ := hp
   split at h
   ·rename_i ty sz' rows mt cp hl
    obtain ⟨e', k3, k4⟩ := hw.st.je hl
    rw [g1] at k3; cases k3
    simp only [aL] at k4
    obtain ⟨k41, k42, k43, k44, _⟩ := k4
    cases hb : Nat.beq sz sz' with
    | false => simp [hb] at h
    | true =>
     obtain rfl := Nat.eq_of_beq_eq_true hb
     simp only [hb, cond_true] at h
     cases hlen : (real cf).ieq ((real cf).len rows) k with
     | false => simp [hlen] at h
     | true =>
      simp only [hlen, cond_true] at h
      have hk : (rows.length : Int) = k := by simpa [real] using hlen
      obtain ⟨rr, Hy, h⟩ := Option.bind_eq_some_iff.1 h
      obtain ⟨hi0, hi1⟩ := uh Hy
      have hlt := (List.getElem?_eq_some_iff.1 hi1).1
      rcases g5 with ⟨g5, _⟩ | ⟨b, cap, g4, g5⟩
      ·omega
      obtain ⟨g6, g7⟩ := g5 (by rw [k43]; exact hk.symm)
      exact Goes.value (v := .pointer (some ⟨b, 0 + i.toNat * sz, none⟩)) (by simp [execOp, hop, g4, hq, run b 0 k.toNat cap kk i hi0 (by omega)]) h hw
       (by simp only [aj]; exact ⟨en, b, g1, g3, by rw [k42]; simp, fun _ => g6⟩)
   ·cases h
  ·cases h
 ·cases h
theorem ES (he : aM m w ρ a) (hw : aO m st w) {x : Operand} (hop : o.op = .nilCheck x)
  (h : (match ev ρ x with
  | .ptr l i o => K (.ptr l i o) st
  | .fn f cs => K (.fn f cs) st
  | .d (.fn f cs) => K (.d (.fn f cs)) st
  | .aS cs => K (.aS cs) st
  | .kL l i k x o => K (.kL l i k x o) st
  | _ => none) = some r) : Goes P o a w m K r := by
 have hp := bV he x
 have key : ∀ v, a.eval x = v → (∃ ad, v = .pointer (some ad)) ∨ (∃ f fst caps, v = .func (.func f) fst caps) → (execOp a.eval o).run P w = .ok (.value v) w := by
  rintro v hv (⟨ad, rfl⟩ | ⟨f, fst, caps, rfl⟩) <;> simp [execOp, hop, hv]
 split at h
 ·rename_i l i off hx
  rw [hx] at hp
  have hp' := hp
  simp only [aj] at hp'
  obtain ⟨e, k1, k0, k2⟩ := hp'
  exact Goes.value (key _ rfl (.inl ⟨_, k2⟩)) h hw hp
 ·rename_i f cs hx
  rw [hx] at hp
  have hp' := hp
  simp only [aj] at hp'
  obtain ⟨vs, k1, _⟩ := hp'
  exact Goes.value (key _ rfl (.inr ⟨_, _, _, k1⟩)) h hw hp
 ·rename_i f cs hx
  rw [hx] at hp
  have hp' := hp
  simp only [aj, aZ] at hp'
  obtain ⟨vs, k1, _⟩ := hp'
  exact Goes.value (key _ rfl (.inr ⟨_, _, _, k1⟩)) h hw hp
 ·rename_i cs hx
  rw [hx] at hp
  have hp' := hp
  simp only [aj] at hp'
  obtain ⟨b, off, k1, _⟩ := hp'
  exact Goes.value (key _ rfl (.inl ⟨_, k1⟩)) h hw hp
 ·rename_i l i k ix off hx
  rw [hx] at hp
  have hp' := hp
  simp only [aj] at hp'
  obtain ⟨e, b, k1, k0, k2, _⟩ := hp'
  exact Goes.value (key _ rfl (.inl ⟨_, k2⟩)) h hw hp
 ·cases h
end
end Go.X
