/- Parts of strings and slices; what is appended. -/
import Derived.Test.YtdmpjlpkmokllaaDoorXOp9
namespace Go.X
open Go Go.MapKept
set_option linter.unusedSectionVars false
set_option linter.unusedSimpArgs false
set_option linter.unusedVariables false
variable [Sites]

theorem DRows.append {cl : Nat → Nat} {w : World} {b sz : Nat} : ∀ {l k : List (List D)} {o : Nat}, DRows cl w b o sz l → DRows cl w b (o + l.length * sz) sz k → DRows cl w b o sz (l ++ k)
  | [], k, o, _, h => by simpa using h
  | r :: l, k, o, h, hk => by
    simp only [DRows, List.cons_append] at h ⊢
    refine ⟨h.1, h.2.1, DRows.append h.2.2 ?_⟩
    simp only [List.length_cons, Nat.add_mul, Nat.one_mul] at hk
    rwa [Nat.add_assoc, Nat.add_comm sz]
theorem DRows.take {cl : Nat → Nat} {w : World} {b sz : Nat} : ∀ {l : List (List D)} {o : Nat} (n : Nat), DRows cl w b o sz l → DRows cl w b o sz (l.take n)
  | l, o, 0, h => by simp [DRows]
  | [], o, n + 1, h => by simp [DRows]
  | r :: l, o, n + 1, h => by
    simp only [DRows, List.take_succ_cons] at h ⊢
    exact ⟨h.1, h.2.1, h.2.2.take n⟩
theorem DRows.drop {cl : Nat → Nat} {w : World} {b sz : Nat} : ∀ {l : List (List D)} {o : Nat} (n : Nat), DRows cl w b o sz l → DRows cl w b (o + n * sz) sz (l.drop n)
  | l, o, 0, h => by simpa using h
  | [], o, n + 1, h => by simp [DRows]
  | r :: l, o, n + 1, h => by
    simp only [DRows] at h
    have := h.2.2.drop n
    simpa [Nat.add_mul, Nat.add_assoc, Nat.add_comm sz] using this

section
variable {R : Type} {P : Program} {Γ : Tab} {cf : CF} {an : Ann} {o : Oper} {a : Act} {w : World} {m : Mt} {K : PV → St → Option R} {r : R} {st : St} {ρ : Env}

/-- A bound: none, or a number. -/
def BRel (d : Int) (x : Option PV) (v : Option Value) (n : Int) : Prop := (x = none ∧ v = none ∧ n = d) ∨ ∃ y k, x = some y ∧ v = some (.int k n)
theorem bound_rel (he : EnvRel m w ρ a) {d n : Int} {x : Option Operand} (h : sInt d (x.map (ev ρ)) = some n) : BRel d (x.map (ev ρ)) (x.map a.eval) n := by
  cases x with
  | none => simp [sInt] at h; exact .inl ⟨rfl, rfl, h.symm⟩
  | some x =>
    simp only [Option.map_some] at h ⊢
    have hp := ev_rel he x
    unfold sInt at h
    split at h
    · rename_i h'; cases h'
    · rename_i k n' hx
      simp only [Option.some.injEq] at hx h
      subst h
      rw [hx] at hp
      simp only [VRel, DRel] at hp
      exact .inr ⟨_, k, rfl, by rw [hp]⟩
    · cases h
theorem run_sliceBound (k : IntKind) (i : Int) (y : Nat) (code : BoundsCode) (h0 : 0 ≤ i) (h1 : i ≤ y) : (Instr.sliceBound (.int k i) y code).run P w = .ok i.toNat w := by
  simp [Instr.sliceBound, asIntOf, h0, h1]
theorem run_bounds (isS : Bool) (len cap : Nat) {lo hi : Option PV} {lo' hi' : Option Value} {l h : Int} (hl : BRel 0 lo lo' l) (hh : BRel len hi hi' h) (c1 : 0 ≤ l) (c2 : l ≤ h) (c3 : h ≤ cap) :
    (Instr.sliceBounds isS len cap lo' hi' none).run P w = .ok (l.toNat, h.toNat, cap) w := by
  rcases hl with ⟨_, rfl, rfl⟩ | ⟨y, k, _, rfl⟩ <;> rcases hh with ⟨_, rfl, rfl⟩ | ⟨y', k', _, rfl⟩
  · simp [Instr.sliceBounds]
  · cases isS <;> simp [Instr.sliceBounds, run_sliceBound k' h cap _ (by omega) c3]
  · cases isS <;> simp [Instr.sliceBounds, run_sliceBound k l len _ c1 (by omega)]
  · have : l ≤ h.toNat := by omega
    cases isS <;> simp [Instr.sliceBounds, run_sliceBound k' h cap _ (by omega) c3, run_sliceBound k l h.toNat _ c1 this]
theorem run_bounds3 (len cap : Nat) {lo hi : Option PV} {lo' hi' : Option Value} {l h mm : Int} {k : IntKind} (hl : BRel 0 lo lo' l) (hh : BRel len hi hi' h) (hn : hi ≠ none) (c1 : 0 ≤ l) (c2 : l ≤ h) (c3 : h ≤ mm) (c4 : mm ≤ cap) :
    (Instr.sliceBounds true len cap lo' hi' (some (.int k mm))).run P w = .ok (l.toNat, h.toNat, mm.toNat) w := by
  have e1 : h ≤ (mm.toNat : Int) := by omega
  have e2 : l ≤ (h.toNat : Int) := by omega
  rcases hl with ⟨_, rfl, rfl⟩ | ⟨y, k1, _, rfl⟩ <;> rcases hh with ⟨h', rfl, rfl⟩ | ⟨y', k', _, rfl⟩
  · exact absurd h' hn
  · simp [Instr.sliceBounds, run_sliceBound k mm cap _ (by omega) c4, run_sliceBound k' h mm.toNat _ (by omega) e1]
  · exact absurd h' hn
  · simp [Instr.sliceBounds, run_sliceBound k mm cap _ (by omega) c4, run_sliceBound k' h mm.toNat _ (by omega) e1, run_sliceBound k1 l h.toNat _ c1 e2]

theorem goes_sliceD (hΓ : TabOK P Γ) (he : EnvRel m w ρ a) (hw : WRel m st w) {t : TypeId} {x : Operand} {lo hi mx : Option Operand} (hop : o.op = .slice t x lo hi mx) {e sz by_ : Nat} (hty : Γ.ty t = .slice e sz by_)
    {rows : List (List D)} {ext : Option (List (List D))} (hx : ((∃ base, a.eval x = .slice base 0 0) ∧ rows = [] ∧ (∀ h, ext = some h → h = [])) ∨
      ∃ b o cap, a.eval x = .slice (some ⟨b, o, none⟩) rows.length cap ∧ rows.length ≤ cap ∧ o + rows.length * sz ≤ m.cl b ∧ DRows m.cl w b o sz rows ∧ DExt m.cl w b (o + rows.length * sz) sz (cap - rows.length) ext)
    (h : evSliceD (real cf) st rows ext (lo.map (ev ρ)) (hi.map (ev ρ)) (mx.map (ev ρ)) false K = some r) : Goes P o a w m K r := by
  obtain ⟨hu, hsz, i, h2, h3, _⟩ := ty_slice hΓ hty
  unfold evSliceD at h
  simp only [real_lenK, real_catK, real_cutK] at h
  have cutlen : ∀ (q : List (List D)) (l h : Int), 0 ≤ l → l ≤ h → h ≤ q.length → ((real cf).cut q l h).length = (h - l).toNat := by
    intro q l h c1 c2 c3
    simp [real]; omega
  have cutrows : ∀ {cl : Nat → Nat} {w : World} {b off : Nat} (q : List (List D)) (l h : Int), 0 ≤ l → DRows cl w b off sz q → DRows cl w b (off + l.toNat * sz) sz ((real cf).cut q l h) := by
    intro cl w b off q l h c1 hq
    exact (hq.take h.toNat).drop l.toNat
  -- what the machine does, at a slice that is there
  have run : ∀ (b off cap : Nat) (l q : Int), a.eval x = .slice (some ⟨b, off, none⟩) rows.length cap → mx = none → BRel 0 (lo.map (ev ρ)) (lo.map a.eval) l → BRel rows.length (hi.map (ev ρ)) (hi.map a.eval) q → 0 ≤ l → l ≤ q → q ≤ cap →
      ∃ o', (o' = off ∨ o' = off + l.toNat * sz) ∧ ((cap : Int) ≠ l → o' = off + l.toNat * sz) ∧ (execOp a.eval o).run P w = .ok (.value (.slice (some ⟨b, o', none⟩) (q.toNat - l.toNat) (cap - l.toNat))) w := by
    intro b off cap l q hxv hm hl hh c1 c2 c3
    subst hm
    have hb := run_bounds (P := P) (w := w) true rows.length cap hl hh c1 c2 c3
    by_cases hml : cap = l.toNat
    · refine ⟨off, .inl rfl, fun hc => by omega, ?_⟩
      subst hml
      simp [execOp, hop, hxv, Instr.sliceAt, Instr.slice, run_underlying hu, hb, sizeOf, typeInfo, h2]
    · refine ⟨off + l.toNat * sz, .inr rfl, fun _ => rfl, ?_⟩
      simp [execOp, hop, hxv, Instr.sliceAt, Instr.slice, run_underlying hu, hb, sizeOf, typeInfo, h2, h3, hml, add_none]
  have runnil : ∀ (base : Option Addr) (l q : Int), a.eval x = .slice base 0 0 → mx = none → BRel 0 (lo.map (ev ρ)) (lo.map a.eval) l → BRel (0 : Nat) (hi.map (ev ρ)) (hi.map a.eval) q → 0 ≤ l → l ≤ q → q ≤ (0 : Nat) →
      (execOp a.eval o).run P w = .ok (.value (.slice base 0 0)) w := by
    intro base l q hxv hm hl hh c1 c2 c3
    subst hm
    have hb := run_bounds (P := P) (w := w) true 0 0 hl hh c1 c2 c3
    have hl0 : l = 0 := by omega
    have hh0 : q = 0 := by omega
    rw [hl0, hh0] at hb
    simp [execOp, hop, hxv, Instr.sliceAt, Instr.slice, run_underlying hu, hb, sizeOf, typeInfo, h2]
  split at h
  · -- no more is known
    rename_i l hh_ hlo hhi hmx
    have hm : mx = none := by cases mx <;> simp at hmx ⊢
    cases b1 : (real cf).ile 0 l with
    | false => simp [b1] at h
    | true =>
    cases b2 : (real cf).ile l hh_ with
    | false => simp [b1, b2] at h
    | true =>
    cases b3 : (real cf).ile hh_ ((real cf).len rows) with
    | false => simp [b1, b2, b3] at h
    | true =>
    simp only [b1, b2, b3, cond_true] at h
    have c1 : 0 ≤ l := by simpa [real] using b1
    have c2 : l ≤ hh_ := by simpa [real] using b2
    have c3 : hh_ ≤ rows.length := by simpa [real] using b3
    have hl := bound_rel he hlo
    have hh := bound_rel he hhi
    rcases hx with ⟨⟨base, hxv⟩, rfl, _⟩ | ⟨b, off, cap, hxv, g1, g2, g3, g4⟩
    · exact Goes.value (runnil base l hh_ hxv hm hl hh c1 c2 (by simpa using c3)) h hw (by simp only [VRel, DRel]; exact .inl ⟨⟨base, rfl⟩, by simp [real], by simp⟩)
    · obtain ⟨o', q1, q2, q3⟩ := run b off cap l hh_ hxv hm hl hh c1 c2 (by omega)
      have hcl := cutlen rows l hh_ c1 c2 c3
      have hmul : hh_.toNat * sz ≤ rows.length * sz := Nat.mul_le_mul_right _ (by omega)
      have hsub : (hh_ - l).toNat = hh_.toNat - l.toNat := by omega
      have hsum : l.toNat * sz + (hh_ - l).toNat * sz = hh_.toNat * sz := by rw [← Nat.add_mul]; congr 1; omega
      refine Goes.value q3 h hw ?_
      simp only [VRel, DRel]
      refine .inr ⟨sz, b, o', cap - l.toNat, by rw [hcl, hsub], by rw [hcl]; omega, ?_, ?_, by simp only [DExt]⟩
      · rw [hcl]
        rcases q1 with rfl | rfl <;> omega
      · by_cases hc : (cap : Int) = l
        · have : (real cf).cut rows l hh_ = [] := List.eq_nil_of_length_eq_zero (by rw [hcl]; omega)
          rw [this]; simp [DRows]
        · rw [q2 hc]; exact cutrows rows l hh_ c1 g3
  · -- what lies behind is known
    rename_i l hh_ hid hlo hhi hmx
    have hm : mx = none := by cases mx <;> simp at hmx ⊢
    cases b1 : (real cf).ile 0 l with
    | false => simp [b1] at h
    | true =>
    cases b2 : (real cf).ile l hh_ with
    | false => simp [b1, b2] at h
    | true =>
    cases b3 : (real cf).ile hh_ ((real cf).len ((real cf).cat rows hid)) with
    | false => simp [b1, b2, b3] at h
    | true =>
    simp only [b1, b2, b3, cond_true] at h
    have c1 : 0 ≤ l := by simpa [real] using b1
    have c2 : l ≤ hh_ := by simpa [real] using b2
    have c3 : hh_ ≤ (rows ++ hid).length := by simpa [real] using b3
    have hl := bound_rel he hlo
    have hh := bound_rel he hhi
    rcases hx with ⟨⟨base, hxv⟩, rfl, hn⟩ | ⟨b, off, cap, hxv, g1, g2, g3, g4⟩
    · have := hn hid rfl
      subst this
      exact Goes.value (runnil base l hh_ hxv hm hl hh c1 c2 (by simpa using c3)) h hw (by simp only [VRel, DRel]; exact .inl ⟨⟨base, rfl⟩, by simp [real], by simp [real]⟩)
    · simp only [DExt] at g4
      obtain ⟨g5, g6, g7⟩ := g4
      have hall : DRows m.cl w b off sz (rows ++ hid) := g3.append g7
      have hlen : (rows ++ hid).length = cap := by rw [List.length_append]; omega
      obtain ⟨o', q1, q2, q3⟩ := run b off cap l hh_ hxv hm hl hh c1 c2 (by omega)
      have hcl := cutlen (rows ++ hid) l hh_ c1 c2 c3
      have hcl2 := cutlen (rows ++ hid) hh_ ((real cf).len ((real cf).cat rows hid)) (by omega) (by simpa [real] using c3) (by simp [real])
      have hl2 : (real cf).len ((real cf).cat rows hid) = cap := by show ((rows ++ hid).length : Int) = cap; rw [hlen]
      have hmul : hh_.toNat * sz ≤ cap * sz := Nat.mul_le_mul_right _ (by omega)
      have hcapm : off + cap * sz ≤ m.cl b := by rw [← hlen, List.length_append, Nat.add_mul]; omega
      have hsub : (hh_ - l).toNat = hh_.toNat - l.toNat := by omega
      have hsum : l.toNat * sz + (hh_ - l).toNat * sz = hh_.toNat * sz := by rw [← Nat.add_mul]; congr 1; omega
      have hsum2 : hh_.toNat * sz + ((cap : Int) - hh_).toNat * sz = cap * sz := by rw [← Nat.add_mul]; congr 1; omega
      have hcat : (real cf).cat rows hid = rows ++ hid := rfl
      refine Goes.value q3 h hw ?_
      simp only [VRel, DRel]
      rw [hl2] at hcl2 ⊢
      rw [hcat]
      refine .inr ⟨sz, b, o', cap - l.toNat, by rw [hcl, hsub], by rw [hcl]; omega, ?_, ?_, ?_⟩
      · rw [hcl]
        rcases q1 with rfl | rfl <;> omega
      · by_cases hc : (cap : Int) = l
        · have : (real cf).cut (rows ++ hid) l hh_ = [] := List.eq_nil_of_length_eq_zero (by rw [hcl]; omega)
          rw [this]; simp [DRows]
        · rw [q2 hc]; exact cutrows _ l hh_ c1 hall
      · simp only [DExt]
        rw [hcl, hcl2]
        by_cases hc : (cap : Int) = l
        · have : (real cf).cut (rows ++ hid) hh_ cap = [] := List.eq_nil_of_length_eq_zero (by rw [hcl2]; omega)
          rw [this]
          refine ⟨by omega, ?_, by simp [DRows]⟩
          have z1 : (hh_ - l).toNat = 0 := by omega
          have z2 : ((cap : Int) - hh_).toNat = 0 := by omega
          rw [z1, z2]
          rcases q1 with rfl | rfl <;> omega
        · rw [q2 hc]
          refine ⟨by omega, by omega, ?_⟩
          have := cutrows (rows ++ hid) hh_ cap (by omega) hall
          rwa [Nat.add_assoc, hsum]
  · -- three bounds
    rename_i l hh_ k mm hlo hhi hmx
    split at h
    · cases h
    · rename_i hv hhv
      cases b1 : (real cf).ile 0 l with
      | false => simp [b1] at h
      | true =>
      cases b2 : (real cf).ile l hh_ with
      | false => simp [b1, b2] at h
      | true =>
      cases b3 : (real cf).ile hh_ mm with
      | false => simp [b1, b2, b3] at h
      | true =>
      cases b4 : (real cf).ile mm ((real cf).len rows) with
      | false => simp [b1, b2, b3, b4] at h
      | true =>
      simp only [b1, b2, b3, b4, cond_true] at h
      have c1 : 0 ≤ l := by simpa [real] using b1
      have c2 : l ≤ hh_ := by simpa [real] using b2
      have c3 : hh_ ≤ mm := by simpa [real] using b3
      have c4 : mm ≤ rows.length := by simpa [real] using b4
      have hl := bound_rel he hlo
      have hh := bound_rel he hhi
      have hmm : ∃ k', mx.map a.eval = some (.int k' mm) := by
        cases mx with
        | none => simp at hmx
        | some y =>
          simp only [Option.map_some, Option.some.injEq] at hmx
          have hp := ev_rel he y
          rw [hmx] at hp
          simp only [VRel, DRel] at hp
          exact ⟨k, by simp [hp]⟩
      obtain ⟨k', hmm⟩ := hmm
      rcases hx with ⟨⟨base, hxv⟩, rfl, hn⟩ | ⟨b, off, cap, hxv, g1, g2, g3, g4⟩
      · have hb := run_bounds3 (P := P) (w := w) 0 0 (k := k') hl hh (by rw [hhv]; simp) c1 c2 c3 (by simpa using c4)
        have z1 : l = 0 := by simp at c4; omega
        have z2 : hh_ = 0 := by simp at c4; omega
        have z3 : mm = 0 := by simp at c4; omega
        subst z1; subst z2; subst z3
        refine Goes.value (v := .slice base 0 0) (by simp [execOp, hop, hxv, Instr.sliceAt, Instr.slice, run_underlying hu, hmm, hb, sizeOf, typeInfo, h2]) h hw ?_
        simp only [VRel, DRel]
        exact .inl ⟨⟨base, rfl⟩, by simp [real], by simp [real]⟩
      · have hb := run_bounds3 (P := P) (w := w) rows.length cap (k := k') hl hh (by rw [hhv]; simp) c1 c2 c3 (by omega)
        have hcl := cutlen rows l hh_ c1 c2 (by omega)
        have hcl2 := cutlen rows hh_ mm (by omega) c3 c4
        have hmul : mm.toNat * sz ≤ rows.length * sz := Nat.mul_le_mul_right _ (by omega)
        have hsub : (hh_ - l).toNat = hh_.toNat - l.toNat := by omega
        have hsum : l.toNat * sz + (hh_ - l).toNat * sz = hh_.toNat * sz := by rw [← Nat.add_mul]; congr 1; omega
        have hsum2 : hh_.toNat * sz + (mm - hh_).toNat * sz = mm.toNat * sz := by rw [← Nat.add_mul]; congr 1; omega
        by_cases hml : mm.toNat = l.toNat
        · have hrun : (execOp a.eval o).run P w = .ok (.value (.slice (some ⟨b, off, none⟩) (hh_.toNat - l.toNat) (mm.toNat - l.toNat))) w := by
            simp [execOp, hop, hxv, Instr.sliceAt, Instr.slice, run_underlying hu, hmm, hb, sizeOf, typeInfo, h2, hml]
          refine Goes.value hrun h hw ?_
          have e1 : (real cf).cut rows l hh_ = [] := List.eq_nil_of_length_eq_zero (by rw [hcl]; omega)
          have e2 : (real cf).cut rows hh_ mm = [] := List.eq_nil_of_length_eq_zero (by rw [hcl2]; omega)
          simp only [VRel, DRel, e1, e2]
          refine .inr ⟨sz, b, off, mm.toNat - l.toNat, by simp; omega, by simp, by simp; omega, by simp [DRows], ?_⟩
          simp only [DExt, DRows, List.length_nil]
          exact ⟨by omega, by omega, trivial⟩
        · have hrun : (execOp a.eval o).run P w = .ok (.value (.slice (some ⟨b, off + l.toNat * sz, none⟩) (hh_.toNat - l.toNat) (mm.toNat - l.toNat))) w := by
            simp [execOp, hop, hxv, Instr.sliceAt, Instr.slice, run_underlying hu, hmm, hb, sizeOf, typeInfo, h2, h3, hml, add_none]
          refine Goes.value hrun h hw ?_
          simp only [VRel, DRel]
          refine .inr ⟨sz, b, off + l.toNat * sz, mm.toNat - l.toNat, by rw [hcl, hsub], by rw [hcl]; omega, by rw [hcl]; omega, cutrows rows l hh_ c1 g3, ?_⟩
          simp only [DExt]
          rw [hcl, hcl2]
          refine ⟨by omega, by omega, ?_⟩
          have := cutrows rows hh_ mm (by omega) g3
          rwa [Nat.add_assoc, hsum]
  · cases h

end
end Go.X
