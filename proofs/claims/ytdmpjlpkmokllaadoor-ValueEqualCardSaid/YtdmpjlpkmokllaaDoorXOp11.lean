/- What is appended; parts of strings and rows. -/
import Derived.Test.YtdmpjlpkmokllaaDoorXOp10
namespace Go.X
open Go Go.MapKept
set_option linter.unusedSectionVars false
set_option linter.unusedSimpArgs false
set_option linter.unusedVariables false
variable [Sites]

theorem DList.append {cl : Nat → Nat} {w : World} : ∀ {l k : List D} {vs us : List Value}, DList cl w l vs → DList cl w k us → DList cl w (l ++ k) (vs ++ us)
  | [], k, vs, us, h, hk => by simp only [DList] at h; subst h; simpa using hk
  | d :: l, k, vs, us, h, hk => by
    simp only [DList] at h
    obtain ⟨v, s, rfl, h1, h2⟩ := h
    simp only [List.cons_append, DList]
    exact ⟨v, _, rfl, h1, DList.append h2 hk⟩
theorem DCells.list {cl : Nat → Nat} {w : World} {b : Nat} : ∀ {l : List D} {o : Nat}, DCells cl w b o l → ∃ vs, DList cl w l vs ∧ ∀ j v, vs[j]? = some v → w.cell? ⟨b, o + j, none⟩ = some v
  | [], o, _ => ⟨[], rfl, fun j v h => by simp at h⟩
  | d :: l, o, h => by
    simp only [DCells] at h
    obtain ⟨⟨v, h1, h2⟩, h3⟩ := h
    obtain ⟨vs, h4, h5⟩ := h3.list
    refine ⟨v :: vs, ⟨v, vs, rfl, h2, h4⟩, fun j u hj => ?_⟩
    cases j with
    | zero => simp at hj; subst hj; exact h1
    | succ j => have := h5 j u (by simpa using hj); rwa [Nat.add_assoc, Nat.add_comm 1] at this
theorem DList.one {cl : Nat → Nat} {w : World} : ∀ {l : List D} {vs : List Value}, DList cl w l vs → ∀ v ∈ vs, v.oneCell' = true
  | [], vs, h => by simp only [DList] at h; subst h; simp
  | d :: l, vs, h => by
    simp only [DList] at h
    obtain ⟨v, s, rfl, h1, h2⟩ := h
    intro u hu
    rcases List.mem_cons.1 hu with rfl | hu
    · exact h1.one
    · exact DList.one h2 u hu
theorem DRows.list {cl : Nat → Nat} {w : World} {b sz : Nat} : ∀ {l : List (List D)} {o : Nat}, DRows cl w b o sz l → (∀ r ∈ l, r.length = sz) ∧ ∃ vs, vs.length = l.length * sz ∧ DList cl w l.flatten vs ∧ ∀ j v, vs[j]? = some v → w.cell? ⟨b, o + j, none⟩ = some v
  | [], o, _ => ⟨by simp, [], by simp, rfl, fun j v h => by simp at h⟩
  | r :: l, o, h => by
    simp only [DRows] at h
    obtain ⟨h1, h2, h3⟩ := h
    obtain ⟨vs, h4, h5⟩ := h2.list
    obtain ⟨h6, us, h7, h8, h9⟩ := h3.list
    have hl := DList.len h4
    refine ⟨fun x hx => ?_, vs ++ us, by simp [hl, h1, h7, Nat.add_mul, Nat.add_comm], by simpa using h4.append h8, fun j v hj => ?_⟩
    · rcases List.mem_cons.1 hx with rfl | hx
      · exact h1
      · exact h6 x hx
    · by_cases hj2 : j < vs.length
      · rw [List.getElem?_append_left hj2] at hj; exact h5 j v hj
      · rw [List.getElem?_append_right (by omega)] at hj
        have := h9 _ v hj
        rw [← this]
        congr 2
        omega
theorem DCells.split {cl : Nat → Nat} {w : World} {b : Nat} : ∀ {l k : List D} {o : Nat}, DCells cl w b o (l ++ k) → DCells cl w b o l ∧ DCells cl w b (o + l.length) k
  | [], k, o, h => ⟨by simp [DCells], by simpa using h⟩
  | d :: l, k, o, h => by
    simp only [List.cons_append, DCells] at h ⊢
    obtain ⟨h1, h2⟩ := DCells.split h.2
    exact ⟨⟨h.1, h1⟩, by rwa [List.length_cons, ← Nat.add_assoc, Nat.add_right_comm]⟩
theorem rows_of {cl : Nat → Nat} {w : World} {b sz : Nat} : ∀ {l : List (List D)} {o : Nat}, (∀ r ∈ l, r.length = sz) → DCells cl w b o l.flatten → DRows cl w b o sz l
  | [], o, _, _ => by simp [DRows]
  | r :: l, o, hl, h => by
    simp only [List.flatten_cons] at h
    obtain ⟨h1, h2⟩ := h.split
    have hr := hl r (by simp)
    rw [hr] at h2
    simp only [DRows]
    exact ⟨hr, h1, rows_of (fun x hx => hl x (by simp [hx])) h2⟩

section
variable {R : Type} {P : Program} {Γ : Tab} {cf : CF} {an : Ann} {o : Oper} {a : Act} {w : World} {m : Mt} {K : PV → St → Option R} {r : R} {st : St} {ρ : Env}

theorem Goes.ext {m1 : Mt} (hx : Ext m w m1 w) (h : Goes P o a w m1 K r) : Goes P o a w m K r := fun next Q hn =>
  h next Q fun pv st' m' w' v hK hx' hw hv => hn pv st' m' w' v hK (hx.trans hx') hw hv

theorem DRel.noExt {cl : Nat → Nat} {w : World} {rows : List (List D)} {ext : Option (List (List D))} {v : Value} (h : DRel cl w (.sl rows ext) v) : DRel cl w (.sl rows none) v := by
  simp only [DRel] at h ⊢
  rcases h with ⟨h1, h2, _⟩ | ⟨sz, b, o, cap, h1, h2, h3, h4, _⟩
  · exact .inl ⟨h1, h2, by simp⟩
  · exact .inr ⟨sz, b, o, cap, h1, h2, h3, h4, by simp only [DExt]⟩
/-- A row that is not written any more, as data. -/
theorem row_data (hw : WRel m st w) {l i : Nat} {k : Int} {v : Value} (hp : VRel m.blk m.cl w (.row l i k) v) {ty sz : Nat} {rows : List (List D)} {cap : Option Int} (hl : look st l i = some (.row ty sz rows false cap)) (hk : (rows.length : Int) = k)
    {ext : Option (List (List D))} (hext : ext = none ∨ (ext = some [] ∧ cap = some k)) :
    ((∃ base, v = .slice base 0 0) ∧ rows = [] ∧ (∀ h, ext = some h → h = [])) ∨
      ∃ b o cap, v = .slice (some ⟨b, o, none⟩) rows.length cap ∧ rows.length ≤ cap ∧ o + rows.length * sz ≤ m.cl b ∧ DRows m.cl w b o sz rows ∧ DExt m.cl w b (o + rows.length * sz) sz (cap - rows.length) ext := by
  simp only [VRel] at hp
  obtain ⟨e, h1, h2, h3, h5⟩ := hp
  obtain ⟨e', k1, k2⟩ := hw.st.look_ hl
  rw [h1] at k1; cases k1
  simp only [ObjRel] at k2
  obtain ⟨g1, g2, g3, g4, g5, g⟩ := k2
  rcases h5 with ⟨h0, _, base, rfl⟩ | ⟨b, cp, rfl, h5⟩
  · left
    refine ⟨⟨base, rfl⟩, List.eq_nil_of_length_eq_zero (by omega), fun h hh => ?_⟩
    rcases hext with rfl | ⟨rfl, _⟩
    · cases hh
    · cases hh; rfl
  · obtain ⟨rfl, rfl, hgone⟩ := h5 (by rw [g3]; exact hk.symm)
    obtain ⟨⟨cs, g6, g7⟩, g8, g9⟩ := g hgone
    simp only [cond_false] at g9
    right
    refine ⟨e.b, 0, e.cap, by congr 1; omega, g4, by omega, g8, ?_⟩
    rcases hext with rfl | ⟨rfl, hc⟩
    · simp only [DExt]
    · have := g5 k hc
      simp only [DExt, DRows, List.length_nil]
      exact ⟨by omega, by omega, trivial⟩
theorem isC0_eq {x : Option Operand} (h : isC0 x = true) : ∃ k, x = some (.const (.int k 0)) := by
  unfold isC0 at h
  split at h
  · rename_i k
    exact ⟨k, rfl⟩
  · cases h
theorem evSlice_zz {c : CF} {re : Bool} {Ro : Type} {ty : Ty} {st : St} {x : PV} {ρ : Env} {lo hi mx : Option Operand} {K : CallK Ro} :
    evSlice (real c) ty st x (lo.map (ev ρ)) (hi.map (ev ρ)) (mx.map (ev ρ)) (isC0 hi && isC0 mx) re K = evSlice (real c) ty st x (lo.map (ev ρ)) (hi.map (ev ρ)) (mx.map (ev ρ)) false re K := by
  cases h1 : isC0 hi with
  | false => rfl
  | true =>
    cases h2 : isC0 mx with
    | false => rfl
    | true =>
      obtain ⟨k, rfl⟩ := isC0_eq h1
      obtain ⟨k', rfl⟩ := isC0_eq h2
      have hD : ∀ rows ext, evSliceD (real c) st rows ext (lo.map (ev ρ)) (some (.d (.int k 0))) (some (.d (.int k' 0))) true K = evSliceD (real c) st rows ext (lo.map (ev ρ)) (some (.d (.int k 0))) (some (.d (.int k' 0))) false K := by
        intro rows ext
        have hs : sInt ((real c).len rows) (some (PV.d (.int k 0))) = some 0 := rfl
        unfold evSliceD
        simp only [real_lenK, real_cutK, hs]
        generalize sInt 0 (lo.map (ev ρ)) = q
        cases q with
        | none => rfl
        | some l => simp [real]
      unfold evSlice
      simp only [Bool.and_self, Option.map_some, ev, lit, hD]
theorem DRows.take_ {cl : Nat → Nat} {w : World} {b sz : Nat} {l : List (List D)} {o : Nat} (n : Nat) (h : DRows cl w b o sz l) : DRows cl w b o sz (l.take n) := h.take n
/-- A row that goes on as its own beginning. -/
theorem goes_re (hΓ : TabOK P Γ) (he : EnvRel m w ρ a) (hw : WRel m st w) {t : TypeId} {x : Operand} {lo hi mx : Option Operand} (hop : o.op = .slice t x lo hi mx) {e sz' by_ : Nat} (hty : Γ.ty t = .slice e sz' by_) {l i : Nat} {k : Int} (hp : VRel m.blk m.cl w (.row l i k) (a.eval x))
    {ty sz : Nat} {rows : List (List D)} {cap : Option Int} (hl : look st l i = some (.row ty sz rows true cap)) {re : Bool}
    (h : (bif re then bif Nat.beq l 0 then bif Nat.beq sz sz' then bif (real cf).ieq ((real cf).len rows) k then evRe (real cf) st i ty sz rows k (lo.map (ev ρ)) (hi.map (ev ρ)) (mx.map (ev ρ)) K else none else none else none else none) = some r) : Goes P o a w m K r := by
  cases re with
  | false => simp at h
  | true =>
  cases hl0 : Nat.beq l 0 with
  | false => simp [hl0] at h
  | true =>
  cases hb : Nat.beq sz sz' with
  | false => simp [hl0, hb] at h
  | true =>
  cases hlen : (real cf).ieq ((real cf).len rows) k with
  | false => simp [hl0, hb, hlen] at h
  | true =>
  simp only [hl0, hb, hlen, cond_true] at h
  obtain rfl := Nat.eq_of_beq_eq_true hl0
  obtain rfl := Nat.eq_of_beq_eq_true hb
  have hk : (rows.length : Int) = k := by simpa [real] using hlen
  obtain ⟨en, k1, k2⟩ := hw.st.look_ hl
  simp only [VRel] at hp
  obtain ⟨en', p1, p2, p3, p5⟩ := hp
  rw [k1] at p1; cases p1
  simp only [ObjRel] at k2
  obtain ⟨g1, g2, g3, g4, g5, g⟩ := k2
  have hst : 0 < st.length := by cases st <;> simp [look] at hl ⊢
  obtain ⟨hu, hsz, inf, hi_, hisz, _⟩ := ty_slice hΓ hty
  have fin : ∀ (q : Int) (v : Value) (c2 : Nat), 0 ≤ q → q ≤ k → q ≤ (c2 : Int) → c2 * sz ≤ en.cap * sz → (execOp a.eval o).run P w = .ok (.value v) w →
      ((q = 0 ∧ (c2 = 0 ∨ en.gone = true) ∧ (∃ base, v = .slice base 0 0)) ∨ (en.gone = false ∧ v = .slice (some ⟨en.b, 0, none⟩) q.toNat c2)) →
      K (.row 0 (numO st 0) q) (addO (setO st 0 i .void) 0 (.row ty sz (rows.take q.toNat) true none)) = some r → Goes P o a w m K r := by
    intro q v c2 hq0 hqk hqc hcc hrun hv hK
    have hlt : (rows.take q.toNat).length = q.toNat := by rw [List.length_take]; omega
    rcases hv with ⟨rfl, hgo, base, rfl⟩ | ⟨hgo, rfl⟩
    · -- nothing
      obtain ⟨m2, rfl, x2, w2, e2⟩ := hw.rebase k1 (by omega) hst (e2 := ⟨0, 0, sz, 0⟩) (.inl (gone_mk rfl hsz)) (o := .row ty sz (rows.take (0 : Int).toNat) true none) (fun bl => by
        simp only [ObjRel]
        refine ⟨hsz, trivial, by simp, by simp, fun c hc => (by cases hc), fun hg => ?_⟩
        rw [gone_mk rfl hsz] at hg; cases hg)
      exact Goes.value' hrun hK x2 w2 (by
        simp only [VRel]
        exact ⟨_, e2, Int.le_refl _, Int.le_refl _, .inl ⟨trivial, fun _ => gone_mk rfl hsz, base, rfl⟩⟩)
    · obtain ⟨⟨cs, g6, g7⟩, g8, g9⟩ := g hgo
      obtain ⟨m2, rfl, x2, w2, e2⟩ := hw.rebase k1 (by omega) hst (e2 := ⟨en.b, q, sz, c2⟩) (.inr ⟨hgo, rfl⟩) (o := .row ty sz (rows.take q.toNat) true none) (fun bl => by
        simp only [ObjRel]
        refine ⟨hsz, trivial, by rw [hlt]; omega, by rw [hlt]; omega, fun c hc => (by cases hc), fun _ => ⟨⟨cs, g6, Nat.le_trans hcc g7⟩, g8.take _, by simpa using g9⟩⟩)
      refine Goes.value' hrun hK x2 w2 ?_
      simp only [VRel]
      refine ⟨_, e2, hq0, Int.le_refl _, ?_⟩
      cases hgn : (⟨en.b, q, sz, c2⟩ : Ent).gone with
      | false => exact .inr ⟨en.b, c2, rfl, fun _ => ⟨rfl, rfl, rfl⟩⟩
      | true =>
        obtain ⟨hc0, _⟩ := gone_cap hgn
        have hc0 : c2 = 0 := hc0
        subst hc0
        have : q = 0 := by omega
        subst this
        exact .inl ⟨rfl, fun _ => rfl, _, rfl⟩
  have hlen2 : k = en.len := by rw [g3]; exact hk.symm
  unfold evRe at h
  simp only [real_cutK] at h
  split at h
  · -- two bounds
    rename_i kq q hlo hhi hmx
    have hm : mx = none := by cases mx <;> simp at hmx ⊢
    have hlo' : lo = none := by cases lo <;> simp at hlo ⊢
    subst hm; subst hlo'
    cases b1 : (real cf).ile 0 q with
    | false => simp [b1] at h
    | true =>
    cases b2 : (real cf).ile q k with
    | false => simp [b1, b2] at h
    | true =>
    simp only [b1, b2, cond_true] at h
    have c1 : 0 ≤ q := by simpa [real] using b1
    have c2 : q ≤ k := by simpa [real] using b2
    have hcut : (real cf).cut rows 0 q = rows.take q.toNat := by simp [real]
    rw [hcut] at h
    have hl0 := bound_rel (d := 0) he (x := (none : Option Operand)) (n := 0) rfl
    rcases p5 with ⟨h0, hgo, base, hxv⟩ | ⟨b, cap0, hxv, hlive⟩
    · have hq0 : q = 0 := by omega
      have hh := bound_rel he (d := ((0 : Nat) : Int)) (x := hi) (n := q) (by rw [hhi]; rfl)
      have hb := run_bounds (P := P) (w := w) true 0 0 hl0 hh (Int.le_refl 0) c1 (by omega)
      simp only [Option.map_none] at hb
      rw [hq0] at hb
      subst hq0
      exact fin 0 _ 0 c1 c2 (by omega) (by simp) (by simp [execOp, hop, hxv, Instr.sliceAt, Instr.slice, run_underlying hu, hb, sizeOf, typeInfo, hi_]) (.inl ⟨rfl, .inl rfl, base, rfl⟩) h
    · obtain ⟨rfl, rfl, hlv⟩ := hlive hlen2
      have hkn : k.toNat = rows.length := by omega
      have hh := bound_rel he (d := (k.toNat : Int)) (x := hi) (n := q) (by rw [hhi]; rfl)
      have hb := run_bounds (P := P) (w := w) true k.toNat en.cap hl0 hh (Int.le_refl 0) c1 (by omega)
      simp only [Option.map_none] at hb
      have hrun : (execOp a.eval o).run P w = .ok (.value (.slice (some ⟨en.b, 0, none⟩) q.toNat en.cap)) w := by
        by_cases hc : en.cap = 0
        · rw [hc] at hb hxv
          simp [execOp, hop, hxv, Instr.sliceAt, Instr.slice, run_underlying hu, hb, sizeOf, typeInfo, hi_, hc]
        · simp [execOp, hop, hxv, Instr.sliceAt, Instr.slice, run_underlying hu, hb, sizeOf, typeInfo, hi_, hc, add_none]
      exact fin q _ en.cap c1 c2 (by omega) (Nat.le_refl _) hrun (.inr ⟨hlv, rfl⟩) h
  · -- from a place on
    rename_i ko q hlo hhi hmx
    have hm : mx = none := by cases mx <;> simp at hmx ⊢
    have hhi' : hi = none := by cases hi <;> simp at hhi ⊢
    subst hm; subst hhi'
    cases b1 : (real cf).ile 0 q with
    | false => simp [b1] at h
    | true =>
    cases b2 : (real cf).ile q k with
    | false => simp [b1, b2] at h
    | true =>
    simp only [b1, b2, cond_true] at h
    have c1 : 0 ≤ q := by simpa [real] using b1
    have c2 : q ≤ k := by simpa [real] using b2
    have hl' := bound_rel he (d := 0) (x := lo) (n := q) (by rw [hlo]; rfl)
    rcases p5 with ⟨h0, hgo, base, hxv⟩ | ⟨b, cap0, hxv, hlive⟩
    · have hq0 : q = 0 := by omega
      have hh := bound_rel (d := ((0 : Nat) : Int)) he (x := (none : Option Operand)) (n := ((0 : Nat) : Int)) rfl
      have hb := run_bounds (P := P) (w := w) true 0 0 hl' hh c1 (by omega) (by omega)
      simp only [Option.map_none] at hb
      rw [hq0] at hb
      subst hq0
      refine Goes.value (v := .slice base 0 0) (by simp [execOp, hop, hxv, Instr.sliceAt, Instr.slice, run_underlying hu, hb, sizeOf, typeInfo, hi_]) h hw ?_
      simp only [VRel]
      exact ⟨en, k1, p3, Int.le_refl _, c2, base, 0, by rw [h0]; rfl, fun h1 _ => by omega⟩
    · obtain ⟨rfl, rfl, hlv⟩ := hlive hlen2
      have hh := bound_rel (d := (k.toNat : Int)) he (x := (none : Option Operand)) (n := (k.toNat : Int)) rfl
      have hb := run_bounds (P := P) (w := w) true k.toNat en.cap hl' hh c1 (by omega) (by omega)
      simp only [Option.map_none, Int.toNat_natCast] at hb
      refine Goes.value (v := .slice (if en.cap = q.toNat then some ⟨en.b, 0, none⟩ else (some (⟨en.b, 0, none⟩ : Addr)).map (·.add (q.toNat * sz))) (k.toNat - q.toNat) (en.cap - q.toNat)) (by simp [execOp, hop, hxv, Instr.sliceAt, Instr.slice, run_underlying hu, hb, sizeOf, typeInfo, hi_, hisz]) h hw ?_
      simp only [VRel]
      refine ⟨en, k1, p3, c1, c2, _, _, by rw [show (k - q).toNat = k.toNat - q.toNat by omega], fun h1 h2 => ?_⟩
      rw [if_neg (by omega)]
      simp [add_none, g2]
  · -- three bounds
    rename_i kq q km mm hlo hhi hmx
    have hlo' : lo = none := by cases lo <;> simp at hlo ⊢
    subst hlo'
    cases b1 : (real cf).ile 0 q with
    | false => simp [b1] at h
    | true =>
    cases b2 : (real cf).ile q mm with
    | false => simp [b1, b2] at h
    | true =>
    cases b3 : (real cf).ile mm k with
    | false => simp [b1, b2, b3] at h
    | true =>
    simp only [b1, b2, b3, cond_true] at h
    have c1 : 0 ≤ q := by simpa [real] using b1
    have c2 : q ≤ mm := by simpa [real] using b2
    have c3 : mm ≤ k := by simpa [real] using b3
    have hcut : (real cf).cut rows 0 q = rows.take q.toNat := by simp [real]
    rw [hcut] at h
    have hl0 := bound_rel (d := 0) he (x := (none : Option Operand)) (n := 0) rfl
    have hmm : ∃ k', mx.map a.eval = some (.int k' mm) := by
      cases mx with
      | none => simp at hmx
      | some y =>
        simp only [Option.map_some, Option.some.injEq] at hmx
        have hp := ev_rel he y
        rw [hmx] at hp
        simp only [VRel, DRel] at hp
        exact ⟨km, by simp [hp]⟩
    obtain ⟨k', hmm⟩ := hmm
    rcases p5 with ⟨h0, hgo, base, hxv⟩ | ⟨b, cap0, hxv, hlive⟩
    · have hq0 : q = 0 := by omega
      have hm0 : mm = 0 := by omega
      have hh := bound_rel he (d := ((0 : Nat) : Int)) (x := hi) (n := q) (by rw [hhi]; rfl)
      have hb := run_bounds3 (P := P) (w := w) 0 0 (k := k') hl0 hh (by rw [hhi]; simp) (Int.le_refl 0) c1 c2 (by omega)
      simp only [Option.map_none] at hb
      rw [hq0, hm0] at hb
      subst hq0
      rw [hm0] at hmm
      exact fin 0 _ 0 c1 (by omega) (by omega) (by simp) (by simp [execOp, hop, hxv, Instr.sliceAt, Instr.slice, run_underlying hu, hmm, hb, sizeOf, typeInfo, hi_]) (.inl ⟨rfl, .inl rfl, base, rfl⟩) h
    · obtain ⟨rfl, rfl, hlv⟩ := hlive hlen2
      have hkn : k.toNat = rows.length := by omega
      have hh := bound_rel he (d := (k.toNat : Int)) (x := hi) (n := q) (by rw [hhi]; rfl)
      have hb := run_bounds3 (P := P) (w := w) k.toNat en.cap (k := k') hl0 hh (by rw [hhi]; simp) (Int.le_refl 0) c1 c2 (by omega)
      simp only [Option.map_none] at hb
      have hrun : (execOp a.eval o).run P w = .ok (.value (.slice (some ⟨en.b, 0, none⟩) q.toNat mm.toNat)) w := by
        by_cases hc : mm.toNat = 0
        · simp [execOp, hop, hxv, Instr.sliceAt, Instr.slice, run_underlying hu, hmm, hb, sizeOf, typeInfo, hi_, hc]
        · simp [execOp, hop, hxv, Instr.sliceAt, Instr.slice, run_underlying hu, hmm, hb, sizeOf, typeInfo, hi_, hc, add_none]
      exact fin q _ mm.toNat c1 (by omega) (by omega) (Nat.mul_le_mul_right _ (by omega)) hrun (.inr ⟨hlv, rfl⟩) h
  · cases h
theorem goes_slice (hΓ : TabOK P Γ) (he : EnvRel m w ρ a) (hw : WRel m st w) {t : TypeId} {x : Operand} {lo hi mx : Option Operand} (hop : o.op = .slice t x lo hi mx)
    (h : evalOp (real cf) Γ an ρ st o.dst o.op K = some r) : Goes P o a w m K r := by
  rw [hop] at h
  simp only [evalOp] at h
  have hp := ev_rel he x
  rw [evSlice_zz] at h
  unfold evSlice at h
  split at h
  · rename_i s hty hx
    rw [hx] at hp; simp only [VRel, DRel] at hp
    split at h
    · rename_i l q hlo hhi hmx
      have hm : mx = none := by cases mx <;> simp at hmx ⊢
      subst hm
      cases b1 : (real cf).ile 0 l with
      | false => simp [b1] at h
      | true =>
      cases b2 : (real cf).ile l q with
      | false => simp [b1, b2] at h
      | true =>
      cases b3 : (real cf).ile q ((real cf).slen s) with
      | false => simp [b1, b2, b3] at h
      | true =>
      simp only [b1, b2, b3, cond_true] at h
      have c1 : 0 ≤ l := by simpa [real] using b1
      have c2 : l ≤ q := by simpa [real] using b2
      have c3 : q ≤ s.size := by simpa [real] using b3
      have hb := run_bounds (P := P) (w := w) false s.size s.size (bound_rel he hlo) (bound_rel he hhi) c1 c2 c3
      have hu := ty_str hΓ hty
      refine Goes.value (v := .string (s.extract l.toNat q.toNat)) (by simp [execOp, hop, hp, Instr.sliceAt, Instr.slice, run_underlying hu, hb]) h hw ?_
      simp only [VRel, DRel]
      rfl
    · cases h
  · rename_i e sz by_ rows ext hty hx
    rw [hx] at hp; simp only [VRel] at hp
    cases hb : (real cf).fits sz rows ext with
    | true =>
      simp only [hb, cond_true] at h
      obtain ⟨f1, f2⟩ := fits_iff hb
      exact goes_sliceD hΓ he hw hop hty (hp.fix f1 f2) h
    | false => simp [hb] at h
  · rename_i e sz' by_ l i k hty hx
    rw [hx] at hp
    split at h
    · rename_i ty sz rows cap hl
      exact goes_re hΓ he hw hop hty hp hl h
    · rename_i ty sz rows cap hl
      cases hb : Nat.beq sz sz' with
      | false => simp [hb] at h
      | true =>
      cases hlen : (real cf).ieq ((real cf).len rows) k with
      | false => simp [hb, hlen] at h
      | true =>
      simp only [hb, hlen, cond_true] at h
      obtain rfl := Nat.eq_of_beq_eq_true hb
      have hk : (rows.length : Int) = k := by simpa [real] using hlen
      split at h
      · rename_i c
        cases hc : (real cf).ieq c k with
        | true =>
          simp only [hc, br_true] at h
          have hc' : c = k := by simpa [real] using hc
          subst hc'
          exact goes_sliceD hΓ he hw hop hty (row_data hw hp hl hk (.inr ⟨rfl, rfl⟩)) h
        | false =>
          simp only [hc, br_false] at h
          exact goes_sliceD hΓ he hw hop hty (row_data hw hp hl hk (.inl rfl)) h
      · exact goes_sliceD hΓ he hw hop hty (row_data hw hp hl hk (.inl rfl)) h
    · cases h
  · cases h

/-- A row goes on in a new block. -/
theorem WRel.move (hw : WRel m st w) {w' : World} {l i : Nat} {e : Ent} (he : ent m.blk l i = some e) {ob : Go.Obj} (hh : w'.heap = w.heap.push ob) (os : w'.os = w.os) (tape : w'.tape = w.tape) (output : w'.output = w.output)
    (hob : ∀ c e fr, ob = .cells c e fr → fr = (0, 0)) {o : Obj} {e' : Ent} (hb : e'.b = w.heap.size) (hle : EntLe e e') {n : Nat} (hn : n ≤ csize w' w.heap.size)
    (ho : Keeps m.cl w (fun b => if b = w.heap.size then n else m.cl b) w' → EntsLe m.blk (setE m.blk l i e') → ObjRel (upE (setE m.blk l i e') l) (fun b => if b = w.heap.size then n else m.cl b) w' o e') :
    ∃ m', m' = ⟨setE m.blk l i e', fun b => if b = w.heap.size then n else m.cl b⟩ ∧ Ext m w m' w' ∧ WRel m' (setO st l i o) w' := by
  have hold : ∀ b, b < w.heap.size → w'.heap[b]? = w.heap[b]? := fun b hb => by rw [hh, Array.getElem?_push, if_neg (by omega)]
  have hlt := hw.lt
  have hk : Keeps m.cl w (fun b => if b = w.heap.size then n else m.cl b) w' := by
    refine ⟨fun b => ?_, fun b j hj => ?_⟩
    · show m.cl b ≤ if b = w.heap.size then n else m.cl b
      split
      · rename_i h; rw [h, hw.cl_size (Nat.le_refl _)]; exact Nat.zero_le _
      · exact Nat.le_refl _
    · have : b < w.heap.size := by
        rcases Nat.lt_or_ge b w.heap.size with h | h
        · exact h
        · rw [hw.cl_size h] at hj; omega
      exact World.cell?_of_block (hold b this)
  have hsize : w'.heap.size = w.heap.size + 1 := by rw [hh]; simp
  have hnw : ∀ b ∈ blks (setE m.blk l i e'), b ∈ blks m.blk ∨ w.heap.size ≤ b := fun b hb' => by
    rcases blks_setE he _ hb' with ⟨_, h⟩ | h
    · right; omega
    · exact .inl h
  refine ⟨_, rfl, ⟨hk, EntsLe.setE he hle, os, tape, output, by omega, fun b hb' _ => hold b hb', hnw⟩, ⟨?_, ?_, fun b => ?_, hw.glob.step (fun b hb' _ => hold b hb') hnw⟩⟩
  · refine hw.st.set_ hk he hle (ho hk (EntsLe.setE he hle)) hw.nodup fun b hb' _ => ⟨hold b (hlt b hb'), ?_⟩
    have := hlt b hb'
    simp only [ite_eq_right_iff]; intro h; omega
  · exact nodup_setE he hw.nodup (.inr <| .inr fun hc => by have := hlt _ hc; omega)
  · show (if b = w.heap.size then n else m.cl b) ≤ _
    split
    · rename_i h; subst h; exact hn
    · rename_i h
      rcases Nat.lt_or_ge b w.heap.size with h' | h'
      · rw [csize_same (hold b h')]; exact hw.le b
      · rw [hw.cl_size h']; exact Nat.zero_le _

/-- The elements that are read. -/
theorem rowsOf_rel (hw : WRel m st w) {x : PV} {v : Value} (hv : VRel m.blk m.cl w x v) {sz : Nat} {kx : Int} {xs : List (List D)} (h : rowsOf (real cf) st x = some (kx, xs)) (hkx : (real cf).ieq ((real cf).len xs) kx = true) (hfit : (real cf).fits sz xs none = true) :
    ((∃ base, v = .slice base 0 0) ∧ xs = []) ∨ ∃ b off c, v = .slice (some ⟨b, off, none⟩) xs.length c ∧ DRows m.cl w b off sz xs := by
  have hk : (xs.length : Int) = kx := by simpa [real] using hkx
  obtain ⟨f1, f2⟩ := fits_iff hfit
  unfold rowsOf at h
  split at h
  · cases h
    simp only [VRel] at hv
    rcases hv.noExt.fix f1 f2 with ⟨h1, h2, _⟩ | ⟨b, off, cap, h1, _, _, h2, _⟩
    · exact .inl ⟨h1, h2⟩
    · exact .inr ⟨b, off, cap, h1, h2⟩
  · rename_i l i k
    simp only [VRel] at hv
    obtain ⟨e, h1, h2, h3, h5⟩ := hv
    split at h
    · rename_i ty sz' rows mt cp hl
      obtain ⟨e', k1, k2⟩ := hw.st.look_ hl
      rw [h1] at k1; cases k1
      simp only [ObjRel] at k2
      obtain ⟨g1, g2, g3, g4, g5, g⟩ := k2
      simp only [Option.some.injEq, Prod.mk.injEq] at h
      obtain ⟨rfl, rfl⟩ := h
      rcases h5 with ⟨h0, _, base, rfl⟩ | ⟨b, cp, rfl, h5⟩
      · exact .inl ⟨⟨base, rfl⟩, List.eq_nil_of_length_eq_zero (by omega)⟩
      · obtain ⟨rfl, rfl, hgone⟩ := h5 (by rw [g3]; exact hk.symm)
        obtain ⟨g6, g7, g8⟩ := g hgone
        refine .inr ⟨e.b, 0, e.cap, by congr 1; omega, ?_⟩
        cases rows with
        | nil => simp only [DRows]
        | cons r rows =>
          have : sz' = sz := by
            have := f1 r (by simp)
            simp only [DRows] at g7
            omega
          subst this
          exact g7
    · cases h
  · cases h
theorem run_append_nothing {t t' e e' ty : TypeId} (ht : P.underlying t = some (.slice e)) (ht' : P.underlying t' = some (.slice e')) {i : TypeInfo} (hi : P.info? e = some i) (base : Option Addr) (n c : Nat) (hn : n ≤ c) {v : Value}
    (hv : ∃ base c, v = .slice base 0 c) : (Builtin.append_ #[t, t'] ty #[.slice base n c, v]).run P w = .ok (.slice base n c) w := by
  obtain ⟨bx, c', rfl⟩ := hv
  cases bx <;> cases base <;>
    simp [Builtin.append_, run_underlying ht, run_underlying ht', sizeOf, typeInfo, hi, Builtin.lenOf, Builtin.firstCells, loadCells, loadCellsFrom, storeCells, hn]

theorem run_append_room_ (t tx ty e : TypeId) (i : TypeInfo) (ht : P.underlying t = some (.slice e)) (hi : P.info? e = some i) (b sLen sCap : Nat) (x : Value) (n : Nat) (news : List Value) (hs : Src P i.size tx x n news w)
    (hroom : sLen + n ≤ sCap) {cur : Array Value} {te : TypeId} (hb : w.heap[b]? = some (.cells cur te (0, 0))) (hfit : sLen * i.size + news.length ≤ cur.size) :
    (Builtin.append_ #[t, tx] ty #[.slice (some ⟨b, 0, none⟩) sLen sCap, x]).run P w = .ok (.slice (some ⟨b, 0, none⟩) (sLen + n) sCap)
      (w.setRow b (cur.toList.take (sLen * i.size) ++ news ++ cur.toList.drop (sLen * i.size + news.length)).toArray) := by
  have hst := run_storeCells_at P b (sLen * i.size) te news 0 cur w hb (by simpa using hfit) hs.one
  simp only [Nat.add_zero] at hst
  rcases hs.kind with ⟨e', hk⟩ | hk <;> simp [Builtin.append_, run_underlying ht, run_underlying hk, sizeOf, typeInfo, hi, hs.len, hroom, hs.cells, add_none, hst]

theorem goes_append_src (hΓ : TabOK P Γ) (hw : WRel m st w) {c : Call} (hop : o.op = .call c) (hc : c.callee = .builtin .append) {s x : PV} {t t' : Nat} {u v : Operand} (hx : c.args = #[u, v]) (hp : VRel m.blk m.cl w s (a.eval u)) (htt : c.argTypes.toList = [t, t'])
    {e sz bytes : Nat} (hty : Γ.ty t = .slice e sz bytes) {mt : Bool} {lv : Nat}
    (hno : ∀ kx xs, rowsOf (real cf) st x = some (kx, xs) → (real cf).ieq ((real cf).len xs) kx = true → (real cf).fits sz xs none = true → xs.length = 0 → ∀ (base : Option Addr) (n cp : Nat), n ≤ cp → (Builtin.append_ #[t, t'] o.type #[.slice base n cp, a.eval v]).run P w = .ok (.slice base n cp) w)
    (hsr : ∀ kx xs, rowsOf (real cf) st x = some (kx, xs) → (real cf).ieq ((real cf).len xs) kx = true → (real cf).fits sz xs none = true → 0 < xs.length → ∃ news, Src P sz t' (a.eval v) xs.length news w ∧ DList m.cl w xs.flatten news ∧ news.length = xs.length * sz ∧ ∀ r ∈ xs, r.length = sz)
    (h : evAppend (real cf) Γ mt lv e sz bytes st s x K = some r) : Goes P o a w m K r := by
  have htt := types_two htt
  obtain ⟨hu, hsz, i, hi, hisz, hib, hby⟩ := ty_slice hΓ hty
  unfold evAppend at h
  simp only [real_catK] at h
  split at h
  rotate_left
  · cases h
  rename_i z0 z1 kx xs hz hrows
  cases hkx : (real cf).ieq ((real cf).len xs) kx with
  | false => simp [hkx] at h
  | true =>
  cases hfit : (real cf).fits sz xs none with
  | false => simp [hkx, hfit] at h
  | true =>
  simp only [hkx, hfit, cond_true] at h
  obtain ⟨i', z, q1, q2, q3, q4, q5, _⟩ := hΓ.zero e (by rw [hz]; simp)
  rw [hi] at q1; cases q1
  have hzs : z.cells.size = sz := by rw [← hisz, ← q4]; simp
  have run : ∀ (sv : Value) (res : Value) (w' : World), a.eval u = sv → (Builtin.append_ #[t, t'] o.type #[sv, a.eval v]).run P w = .ok res w' → (execOp a.eval o).run P w = .ok (.value res) w' := by
    intro sv res w' h1 h2
    simp [execOp, hop, resolve, hc, hx, htt, invoke, builtin, h1, h2]
  have noth : (real cf).ieq ((real cf).len xs) 0 = true → ∀ (base : Option Addr) (n cp : Nat), n ≤ cp → (Builtin.append_ #[t, t'] o.type #[.slice base n cp, a.eval v]).run P w = .ok (.slice base n cp) w := by
    intro hb
    have hl : xs.length = 0 := by
      have : (xs.length : Int) = 0 := by simpa [real] using hb
      omega
    exact hno kx xs hrows hkx hfit hl
  -- what is appended
  have src : 0 < xs.length → ∃ news, Src P i.size t' (a.eval v) xs.length news w ∧ DList m.cl w xs.flatten news ∧ news.length = xs.length * sz ∧ ∀ r ∈ xs, r.length = sz := by
    rw [hisz]
    exact hsr kx xs hrows hkx hfit
  have hlimit : ∀ n : Nat, (real cf).ile ((real cf).mul (n : Int) bytes) limit = true → n * bytes ≤ 140737488355328 := by
    intro n hb
    have : (n : Int) * bytes ≤ 140737488355328 := by simpa [real, limit] using hb
    have h2 : ((n * bytes : Nat) : Int) ≤ 140737488355328 := by rw [Int.natCast_mul]; exact this
    omega
  have hsmall : ∀ n : Nat, n * bytes ≤ 140737488355328 → n ≤ 140737488355328 := by
    intro n hb
    exact Nat.le_trans (Nat.le_mul_of_pos_right n hby) hb
  -- a new row: where it lies, and what it holds
  have grow : 0 < xs.length → ∀ (sv : Value) (base : Option Addr) (rows : List (List D)) (sCap : Nat) (olds : List Value), a.eval u = sv → sv = .slice base rows.length sCap → (Builtin.firstCells i.size rows.length (.slice base rows.length sCap)).run P w.drew = .ok olds.toArray w.drew →
      DList m.cl w rows.flatten olds → olds.length = rows.length * sz → (∀ r ∈ rows, r.length = sz) → sCap < rows.length + xs.length → (rows.length + xs.length) * bytes ≤ 140737488355328 →
      ∃ (cs : Array Value) (cap : Nat), rows.length + xs.length ≤ cap ∧ cs.size = cap * sz ∧ (execOp a.eval o).run P w = .ok (.value (.slice (some ⟨w.heap.size, 0, none⟩) (rows.length + xs.length) cap)) (w.drew.alloc (.cells cs e (0, 0))) ∧
        (∀ cl', Keeps m.cl w cl' (w.drew.alloc (.cells cs e (0, 0))) → DRows cl' (w.drew.alloc (.cells cs e (0, 0))) w.heap.size 0 sz (rows ++ xs)) := by
    intro hx0 sv base rows sCap olds hsv hb hfo hdl hol hrl hg hlim
    obtain ⟨news, s1, s2, s3, s4⟩ := src hx0
    have hr := run_append_grow_src (P := P) w t t' o.type e i z hu hi q2 base rows.length sCap olds hfo (a.eval v) xs.length news s1 hg (by have := hsmall _ hlim; omega) (growslice_fits hg (by rw [hib]; exact hlim))
    refine ⟨_, _, grownCap_ge w (rows.length + xs.length) sCap e, ?_, run sv _ _ hsv (by rw [hb]; exact hr), ?_⟩
    · simp only [Array.size_append, List.size_toArray, List.length_append, size_zeroCells, hzs, hol, s3]
      rw [← Nat.add_mul, ← Nat.add_mul]
      congr 1
      have := grownCap_ge w (rows.length + xs.length) sCap e
      omega
    · intro cl' hk
      have hflat : (rows ++ xs).flatten = rows.flatten ++ xs.flatten := by simp
      refine rows_of (fun r hr => (List.mem_append.1 hr).elim (hrl r) (s4 r)) ?_
      rw [hflat]
      refine DCells.of ((hdl.append s2).keep hk) fun j v hj => ?_
      have hlt := (List.getElem?_eq_some_iff.1 hj).1
      have hcell : (w.drew.alloc (.cells ((olds ++ news).toArray ++ Builtin.zeroCells z.cells (grownCap w (rows.length + xs.length) sCap e - (rows.length + xs.length))) e (0, 0))).heap[w.heap.size]? = some (.cells ((olds ++ news).toArray ++ Builtin.zeroCells z.cells (grownCap w (rows.length + xs.length) sCap e - (rows.length + xs.length))) e (0, 0)) := by
        show (w.heap.push _)[w.heap.size]? = _
        simp
      simp only [World.cell?, hcell, Nat.zero_add]
      rw [Array.getElem?_append_left (by simpa using hlt)]
      simpa using hj
  -- a new object
  have fresh : (hx0 : (real cf).ieq ((real cf).len xs) 0 = false) → ∀ (sv : Value) (base : Option Addr) (rows : List (List D)) (sCap : Nat) (olds : List Value), a.eval u = sv → sv = .slice base rows.length sCap → (Builtin.firstCells i.size rows.length (.slice base rows.length sCap)).run P w.drew = .ok olds.toArray w.drew →
      DList m.cl w rows.flatten olds → olds.length = rows.length * sz → (∀ r ∈ rows, r.length = sz) → sCap < rows.length + xs.length → newRow_ (real cf) mt lv e sz bytes st (rows ++ xs) K = some r → Goes P o a w m K r := by
    intro hx0 sv base rows sCap olds hsv hb hfo hdl hol hrl hg h
    unfold newRow_ at h
    simp only [real_lenK] at h
    cases b1 : (real cf).ile ((real cf).mul ((real cf).len (rows ++ xs)) bytes) limit with
    | false => simp [b1] at h
    | true =>
    cases hl : hasL st lv with
    | false => simp [b1, hl] at h
    | true =>
    simp only [b1, hl, cond_true] at h
    have hlim := hlimit (rows ++ xs).length b1
    rw [List.length_append] at hlim
    have hxl : 0 < xs.length := by
      rcases Nat.eq_zero_or_pos xs.length with h0 | h0
      · have : (real cf).ieq ((real cf).len xs) 0 = true := by simp [real, h0]
        rw [this] at hx0; cases hx0
      · exact h0
    obtain ⟨cs, cap, g1, g2, g3, g4⟩ := grow hxl sv base rows sCap olds hsv hb hfo hdl hol hrl hg hlim
    have hnew : (w.drew.alloc (.cells cs e (0, 0))).heap = w.heap.push (.cells cs e (0, 0)) := rfl
    have hcell : (w.drew.alloc (.cells cs e (0, 0))).heap[w.heap.size]? = some (.cells cs e (0, 0)) := by rw [hnew]; simp
    have hmul : (rows.length + xs.length) * sz ≤ cap * sz := Nat.mul_le_mul_right _ g1
    obtain ⟨m2, rfl, x2, w2, e2⟩ := hw.new (l := lv) (w' := w.drew.alloc (.cells cs e (0, 0))) (hasL_lt hl) hnew rfl rfl rfl (by intro _ _ _ h; cases h <;> rfl) (o := .row e sz (rows ++ xs) mt none) (e := ⟨w.heap.size, (rows ++ xs).length, sz, cap⟩) rfl
      (n := bif mt then 0 else (rows ++ xs).length * sz) (by simp only [csize, hcell, List.length_append]; cases mt <;> simp <;> omega) (fun hk he => by
        simp only [ObjRel, if_true]
        exact ⟨hsz, trivial, trivial, by rw [List.length_append]; exact g1, fun c hc => by (cases hc), fun _ => ⟨⟨cs, hcell, Nat.le_of_eq g2.symm⟩, g4 _ hk, trivial⟩⟩)
    refine Goes.value' g3 h x2 w2 ?_
    simp only [VRel]
    have hl2 : (real cf).len (rows ++ xs) = ((rows.length + xs.length : Nat) : Int) := by simp [real]
    refine ⟨_, e2, ?_, Int.le_refl _, .inr ⟨w.heap.size, cap, ?_, fun _ => ⟨rfl, rfl, gone_room (by show 0 < cap; omega)⟩⟩⟩
    · rw [hl2]; omega
    · rw [hl2]; congr 1
  split at h
  · -- data
    rename_i rows ext
    have hp' := hp
    simp only [VRel] at hp
    cases hb : (real cf).ieq ((real cf).len xs) 0 with
    | true =>
      simp only [hb, br_true] at h
      simp only [DRel] at hp
      rcases hp with ⟨⟨base, hs⟩, _, _⟩ | ⟨_, b, off, cap, hs, h3, _⟩
      · have := noth hb base 0 0 (Nat.le_refl _)
        exact Goes.value (run _ _ _ hs this) h hw (by rw [← hs]; exact hp')
      · have := noth hb (some ⟨b, off, none⟩) rows.length cap h3
        exact Goes.value (run _ _ _ hs this) h hw (by rw [← hs]; exact hp')
    | false =>
      simp only [hb, br_false] at h
      have hxl : 0 < xs.length := by
        rcases Nat.eq_zero_or_pos xs.length with h0 | h0
        · have : (real cf).ieq ((real cf).len xs) 0 = true := by simp [real, h0]
          rw [this] at hb; cases hb
        · exact h0
      cases hfr : (real cf).fits sz rows ext with
      | false => simp [hfr] at h
      | true =>
      simp only [hfr, cond_true] at h
      obtain ⟨f1, f2⟩ := fits_iff hfr
      have hp := hp.fix f1 f2
      split at h
      rotate_left
      · cases h
      have h : newRow_ (real cf) mt lv e sz bytes st (rows ++ xs) K = some r := h
      rcases hp with ⟨⟨base, hs⟩, rfl, _⟩ | ⟨b, off, cap, hs, h3, h4, h5, h6⟩
      · exact fresh hb _ base [] 0 [] hs rfl (by cases base <;> simp [Builtin.firstCells, loadCells, loadCellsFrom]) rfl (by simp) (by simp) (by simpa using hxl) h
      · simp only [DExt, List.length_nil] at h6
        have hcap : cap = rows.length := by omega
        subst hcap
        obtain ⟨k1, olds, k2, k3, k4⟩ := h5.list
        exact fresh hb _ (some ⟨b, off, none⟩) rows rows.length olds hs rfl (run_firstCells_some w.drew _ _ _ _ _ olds (by rw [hisz]; exact k2) (fun j v hj => by rw [add_none]; exact k4 j v hj)) k3 k2 k1 (by omega) h
  · -- a row
    rename_i l j k
    have hp' := hp
    simp only [VRel] at hp
    obtain ⟨en, p1, p2, p3, p45⟩ := hp
    split at h
    rotate_left
    · cases h
    rename_i e' szr rows mt' cp hl
    obtain ⟨en', k3, k4⟩ := hw.st.look_ hl
    rw [p1] at k3; cases k3
    simp only [ObjRel] at k4
    obtain ⟨g1, g2, g3, g4, g5, g⟩ := k4
    cases hlen : (real cf).ieq ((real cf).len rows) k with
    | false => simp [hlen] at h
    | true =>
    simp only [hlen, cond_true] at h
    have hk : (rows.length : Int) = k := by simpa [real] using hlen
    have hkn : k.toNat = rows.length := by omega
    cases hb : (real cf).ieq ((real cf).len xs) 0 with
    | true =>
      simp only [hb, br_true] at h
      rcases p45 with ⟨_, _, base, p4⟩ | ⟨b, cap, p4, p5⟩
      · have := noth hb base 0 0 (Nat.le_refl _)
        exact Goes.value (run _ _ _ p4 this) h hw (by rw [← p4]; exact hp')
      · obtain ⟨rfl, rfl, _⟩ := p5 (by rw [g3]; exact hk.symm)
        rw [hkn] at p4
        have := noth hb (some ⟨en.b, 0, none⟩) rows.length en.cap g4
        exact Goes.value (run _ _ _ p4 this) h hw (by rw [← p4]; exact hp')
    | false =>
      simp only [hb, br_false] at h
      have hxl : 0 < xs.length := by
        rcases Nat.eq_zero_or_pos xs.length with h0 | h0
        · have : (real cf).ieq ((real cf).len xs) 0 = true := by simp [real, h0]
          rw [this] at hb; cases hb
        · exact h0
      cases hbe : Nat.beq e e' with
      | false => simp [hbe] at h
      | true =>
      cases hbr : Nat.beq sz szr with
      | false => simp [hbe, hbr] at h
      | true =>
      simp only [hbe, hbr, cond_true] at h
      obtain rfl := Nat.eq_of_beq_eq_true hbe
      have hszr := Nat.eq_of_beq_eq_true hbr
      cases b1 : (real cf).ile ((real cf).mul ((real cf).len ((real cf).cat rows xs)) bytes) limit with
      | false => simp [b1] at h
      | true =>
      simp only [b1, cond_true] at h
      have h : K (.row l j ((real cf).len ((real cf).cat rows xs))) (setO st l j (.row e szr ((real cf).cat rows xs) mt' (capOf (real cf) cp ((real cf).len ((real cf).cat rows xs))))) = some r := by
        cases cp with
        | none => exact h
        | some c =>
          dsimp only at h
          simp only [capOf]
          cases hq : (real cf).ile ((real cf).len ((real cf).cat rows xs)) c with
          | false => simp [hq] at h
          | true => simpa only [hq, cond_true] using h
      have hlim : (rows.length + xs.length) * bytes ≤ 140737488355328 := hlimit (rows.length + xs.length) (by rw [← b1]; simp [real])
      -- the row's own element size is the type's
      subst hszr
      have hcatl : (real cf).len ((real cf).cat rows xs) = ((rows.length + xs.length : Nat) : Int) := by simp [real]
      have hcat : (real cf).cat rows xs = rows ++ xs := rfl
      have vrow : ∀ (bl : List (List Ent)) (cl : Nat → Nat) (w : World) (bb cc : Nat), 0 < cc → ent bl l j = some ⟨bb, (rows ++ xs).length, sz, cc⟩ → VRel bl cl w (.row l j ((real cf).len ((real cf).cat rows xs))) (.slice (some ⟨bb, 0, none⟩) (rows.length + xs.length) cc) := by
        intro bl cl w bb cc hcc hent
        simp only [VRel]
        refine ⟨_, hent, by rw [hcatl]; omega, by rw [hcatl]; simp, .inr ⟨bb, cc, ?_, fun _ => ⟨rfl, rfl, gone_room hcc⟩⟩⟩
        rw [hcatl]
        congr 1
      have moved : ∀ (cs : Array Value) (cap' : Nat), ¬ rows.length + xs.length ≤ en.cap → rows.length + xs.length ≤ cap' → cs.size = cap' * sz → (execOp a.eval o).run P w = .ok (.value (.slice (some ⟨w.heap.size, 0, none⟩) (rows.length + xs.length) cap')) (w.drew.alloc (.cells cs e (0, 0))) →
          (∀ cl', Keeps m.cl w cl' (w.drew.alloc (.cells cs e (0, 0))) → DRows cl' (w.drew.alloc (.cells cs e (0, 0))) w.heap.size 0 sz (rows ++ xs)) → Goes P o a w m K r := by
        intro cs cap' hroom q1 q2' q3' q4'
        have hnew : (w.drew.alloc (.cells cs e (0, 0))).heap = w.heap.push (.cells cs e (0, 0)) := rfl
        have hcell : (w.drew.alloc (.cells cs e (0, 0))).heap[w.heap.size]? = some (.cells cs e (0, 0)) := by rw [hnew]; simp
        have hmul : (rows.length + xs.length) * sz ≤ cap' * sz := Nat.mul_le_mul_right _ q1
        obtain ⟨m2, rfl, x2, w2⟩ := hw.move (l := l) (i := j) (w' := w.drew.alloc (.cells cs e (0, 0))) p1 hnew rfl rfl rfl (by intro _ _ _ h; cases h <;> rfl) (o := .row e sz ((real cf).cat rows xs) mt' (capOf (real cf) cp ((real cf).len ((real cf).cat rows xs)))) (e' := ⟨w.heap.size, (rows ++ xs).length, sz, cap'⟩) rfl
          ⟨by show en.len ≤ ((rows ++ xs).length : Int); rw [g3, List.length_append]; omega, g2.symm, fun hh => by
            rcases hh with hh | hh
            · rw [g3] at hh; simp at hh; omega
            · omega⟩ (n := bif mt' then 0 else (rows ++ xs).length * sz) (by simp only [csize, hcell, List.length_append]; cases mt' <;> simp <;> omega) (fun hk he => by
            simp only [ObjRel, if_true]
            refine ⟨g1, trivial, by rw [hcat], by rw [hcat, List.length_append]; exact q1, fun c hc => ?_, fun _ => ⟨⟨cs, hcell, Nat.le_of_eq q2'.symm⟩, q4' _ hk, by rw [hcat]⟩⟩
            cases cp with
            | none => simp [capOf] at hc
            | some c' =>
              simp only [capOf] at hc
              have := g5 c' rfl
              cases hq : (real cf).ile ((real cf).len ((real cf).cat rows xs)) c' with
              | false => simp [hq] at hc
              | true =>
                have hq' : ((rows ++ xs).length : Int) ≤ c' := by simpa [real] using hq
                rw [List.length_append] at hq'
                omega)
        exact Goes.value' q3' h x2 w2 (vrow _ _ _ _ _ (by omega) (ent_setE_same p1))
      rcases p45 with ⟨h0, hgo, base, p4⟩ | ⟨b, cap, p4, p5⟩
      · -- it lies nowhere yet
        have hgone := hgo (by rw [g3]; exact hk.symm)
        obtain ⟨hcap0, _⟩ := gone_cap hgone
        have hr : rows = [] := List.eq_nil_of_length_eq_zero (by omega)
        subst hr
        obtain ⟨cs, cap', q1, q2', q3', q4'⟩ := grow hxl _ base [] 0 [] p4 rfl (by cases base <;> simp [Builtin.firstCells, loadCells, loadCellsFrom]) rfl (by simp) (by simp) (by simpa using hxl) hlim
        exact moved cs cap' (by simp only [List.length_nil]; omega) q1 q2' q3' q4'
      obtain ⟨rfl, rfl, hgone⟩ := p5 (by rw [g3]; exact hk.symm)
      rw [hkn] at p4
      obtain ⟨⟨cur, g6, g7⟩, g8, g9⟩ := g hgone
      by_cases hroom : rows.length + xs.length ≤ en.cap
      · obtain ⟨news, s1, s2, s3, s4⟩ := src hxl
        have hmul : (rows.length + xs.length) * sz ≤ en.cap * sz := Nat.mul_le_mul_right _ hroom
        rw [Nat.add_mul] at hmul
        have hfit : rows.length * i.size + news.length ≤ cur.size := by rw [hisz, s3]; exact Nat.le_trans hmul g7
        have hr := run_append_room_ (P := P) t t' o.type e i hu hi en.b rows.length en.cap (a.eval v) xs.length news s1 hroom g6 hfit
        rw [hisz] at hr hfit
        have hcurl : rows.length * sz + news.length ≤ cur.toList.length := by simpa using hfit
        obtain ⟨m2, rfl, x2, w2⟩ := hw.put (l := l) (i := j) (w' := w.setRow en.b (cur.toList.take (rows.length * sz) ++ news ++ cur.toList.drop (rows.length * sz + news.length)).toArray) p1 hgone
          (fun b hb => setRow_other w en.b b _ hb) (froz_setRow g6) (by simp [World.setRow]) rfl rfl rfl (o := .row e sz ((real cf).cat rows xs) mt' (capOf (real cf) cp ((real cf).len ((real cf).cat rows xs)))) (e' := ⟨en.b, (rows ++ xs).length, sz, en.cap⟩) rfl
          ⟨by show en.len ≤ ((rows ++ xs).length : Int); rw [g3, List.length_append]; omega, g2.symm, fun hh => by
            rcases hh with hh | hh
            · rw [g3] at hh; simp at hh; omega
            · omega⟩ (n := bif mt' then 0 else (rows ++ xs).length * sz)
          (by rw [g9]; cases mt' <;> simp <;> (rw [Nat.add_mul]; omega))
          (by
            have hcs : csize (w.setRow en.b (cur.toList.take (rows.length * sz) ++ news ++ cur.toList.drop (rows.length * sz + news.length)).toArray) en.b = cur.size := by
              simp only [csize, setRow_heap w en.b cur _ e (0, 0) g6]
              simp only [List.size_toArray, List.length_append, List.length_take, List.length_drop]
              simp only [Array.length_toList] at hcurl ⊢
              omega
            rw [hcs]
            cases mt' <;> simp <;> (rw [Nat.add_mul]; omega))
          (fun q hq => by
            rw [g9] at hq
            cases mt' with
            | true => simp at hq
            | false =>
              simp only [cond_false] at hq
              rw [cell_setRow g6, mid_get _ _ _ _ hcurl, if_pos hq]
              simp [World.cell?, g6])
          (fun hk he => by
            simp only [ObjRel, if_true]
            refine ⟨g1, trivial, by rw [hcat], by rw [hcat, List.length_append]; exact hroom, fun c hc => ?_, fun _ => ⟨⟨_, setRow_heap w en.b cur _ e (0, 0) g6, ?_⟩, ?_, by rw [hcat]⟩⟩
            · cases cp with
              | none => simp [capOf] at hc
              | some c' =>
                simp only [capOf] at hc
                cases hq : (real cf).ile ((real cf).len ((real cf).cat rows xs)) c' with
                | false => simp [hq] at hc
                | true =>
                  simp only [hq, cond_true] at hc
                  exact g5 c (by rw [hc])
            · simp only [List.size_toArray, List.length_append, List.length_take, List.length_drop]
              simp only [Array.length_toList] at hcurl ⊢
              omega
            · refine DRows.append (g8.move hk fun q hq => ?_) (rows_of s4 (DCells.of (s2.keep hk) fun q v hv => ?_))
              · rw [Nat.zero_add, cell_setRow g6, mid_get _ _ _ _ hcurl, if_pos hq]
                simp [World.cell?, g6]
              · have hq := (List.getElem?_eq_some_iff.1 hv).1
                rw [Nat.zero_add, cell_setRow g6, mid_get _ _ _ _ hcurl, if_neg (by omega), if_pos (by omega), ← hv]
                congr 1; omega)
        exact Goes.value' (run _ _ _ p4 hr) h x2 w2 (vrow _ _ _ _ _ (by omega) (ent_setE_same p1))
      · obtain ⟨k1, olds, k2, k3', k4'⟩ := g8.list
        obtain ⟨cs, cap', q1, q2', q3', q4'⟩ := grow hxl _ (some ⟨en.b, 0, none⟩) rows en.cap olds p4 rfl (run_firstCells_some w.drew _ _ _ _ _ olds (by rw [hisz]; exact k2) (fun j v hj => by rw [add_none]; exact k4' j v hj)) k3' k2 k1 (by omega) hlim
        exact moved cs cap' hroom q1 q2' q3' q4'
  · cases h
theorem goes_append_ (hΓ : TabOK P Γ) (hw : WRel m st w) {c : Call} (hop : o.op = .call c) (hc : c.callee = .builtin .append) {s x : PV} {t t' : Nat} {u v : Operand} (hx : c.args = #[u, v]) (hp : VRel m.blk m.cl w s (a.eval u)) (hq : VRel m.blk m.cl w x (a.eval v)) (htt : c.argTypes.toList = [t, t'])
    {e sz bytes e2 sz2 by2 : Nat} (hty : Γ.ty t = .slice e sz bytes) (hty' : Γ.ty t' = .slice e2 sz2 by2) {mt : Bool} {lv : Nat}
    (h : evAppend (real cf) Γ mt lv e sz bytes st s x K = some r) : Goes P o a w m K r := by
  obtain ⟨hu, hsz, i, hi, hisz, hib, hby⟩ := ty_slice hΓ hty
  obtain ⟨hu', _⟩ := ty_slice hΓ hty'
  refine goes_append_src hΓ hw hop hc hx hp htt hty (fun kx xs hrows hkx hfit hl base n cp hn => ?_) (fun kx xs hrows hkx hfit hx0 => ?_) h
  · refine run_append_nothing hu hu' hi base n cp hn ?_
    rcases rowsOf_rel hw hq hrows hkx hfit with ⟨⟨base, h1⟩, _⟩ | ⟨b, off, c, h1, _⟩
    · exact ⟨base, 0, h1⟩
    · rw [hl] at h1; exact ⟨_, c, h1⟩
  · rcases rowsOf_rel hw hq hrows hkx hfit with ⟨h1, rfl⟩ | ⟨b, off, c, h1, h2⟩
    · simp at hx0
    · obtain ⟨h3, news, h4, h5, h6⟩ := h2.list
      refine ⟨news, ?_, h5, h4, h3⟩
      rw [h1]
      exact Src.ofSlice w hu' ⟨b, off, none⟩ xs.length c news h4 (fun j u hj => by rw [add_none]; exact h6 j u hj) (DList.one h5)
/-- A string is appended to bytes. -/
theorem run_append_nothing_str {t t' e ty : TypeId} (ht : P.underlying t = some (.slice e)) (ht' : P.underlying t' = some .string) {i : TypeInfo} (hi : P.info? e = some i) (base : Option Addr) (n c : Nat) (hn : n ≤ c) {s : ByteArray} (hs : s.size = 0) :
    (Builtin.append_ #[t, t'] ty #[.slice base n c, .string s]).run P w = .ok (.slice base n c) w := by
  have hf : ∀ k, (Builtin.firstCells k 0 (.string s)).run P w = .ok #[] w := by
    intro k
    simp [Builtin.firstCells]
  cases base <;>
    simp [Builtin.append_, run_underlying ht, run_underlying ht', sizeOf, typeInfo, hi, Builtin.lenOf, hs, hf, loadCells, loadCellsFrom, storeCells, hn]
theorem strRows_list {cl : Nat → Nat} (s : ByteArray) : DList cl w (strRows s).flatten (byteCells s) := by
  unfold strRows byteCells
  induction s.data.toList with
  | nil => rfl
  | cons b l ih =>
    simp only [List.map_cons, List.flatten_cons, List.singleton_append, DList]
    exact ⟨_, _, rfl, by simp only [DRel], ih⟩
theorem goes_append_str_ (hΓ : TabOK P Γ) (hw : WRel m st w) {c : Call} (hop : o.op = .call c) (hc : c.callee = .builtin .append) {s : PV} {bs : ByteArray} {t t' : Nat} {u v : Operand} (hx : c.args = #[u, v]) (hp : VRel m.blk m.cl w s (a.eval u)) (hq : a.eval v = .string bs) (htt : c.argTypes.toList = [t, t'])
    {e sz bytes : Nat} (hty : Γ.ty t = .slice e sz bytes) (hty' : Γ.ty t' = .str) {mt : Bool} {lv : Nat}
    (h : evAppend (real cf) Γ mt lv e sz bytes st s (.d (.sl (strRows bs) (some []))) K = some r) : Goes P o a w m K r := by
  obtain ⟨hu, hsz, i, hi, hisz, hib, hby⟩ := ty_slice hΓ hty
  have hu' : P.underlying t' = some .string := by
    have := hΓ.ty t'
    simp only [TyOK, hty'] at this
    exact this
  have hlen : (strRows bs).length = bs.size := by
    unfold strRows
    rw [List.length_map, Array.length_toList]; rfl
  have hxs : ∀ kx xs, rowsOf (real cf) st (.d (.sl (strRows bs) (some []))) = some (kx, xs) → xs = strRows bs := by
    intro kx xs h
    simp only [rowsOf, Option.some.injEq, Prod.mk.injEq] at h
    exact h.2.symm
  refine goes_append_src hΓ hw hop hc hx hp htt hty (fun kx xs hrows hkx hfit hl base n cp hn => ?_) (fun kx xs hrows hkx hfit hx0 => ?_) h
  · obtain rfl := hxs kx xs hrows
    rw [hq]
    exact run_append_nothing_str hu hu' hi base n cp hn (by omega)
  · obtain rfl := hxs kx xs hrows
    obtain ⟨f1, _⟩ := fits_iff hfit
    have h1 : sz = 1 := by
      cases hr : strRows bs with
      | nil => rw [hr] at hx0; cases hx0
      | cons r0 l =>
        have h2 := f1 r0 (by rw [hr]; simp)
        have h3 : r0 ∈ strRows bs := by rw [hr]; simp
        unfold strRows at h3
        obtain ⟨b, _, rfl⟩ := List.mem_map.1 h3
        simpa using h2.symm
    subst h1
    rw [hq, hlen]
    exact ⟨byteCells bs, Src.ofString w hu' bs, strRows_list bs, by rw [byteCells_length, Nat.mul_one], f1⟩
theorem goes_append (hΓ : TabOK P Γ) (he : EnvRel m w ρ a) (hw : WRel m st w) {c : Call} (hop : o.op = .call c) (hc : c.callee = .builtin .append) {s x : PV} {t t' : Nat} (hv : evs ρ c.args.toList = [s, x]) (htt : c.argTypes.toList = [t, t'])
    {e sz bytes e2 sz2 by2 : Nat} (hty : Γ.ty t = .slice e sz bytes) (hty' : Γ.ty t' = .slice e2 sz2 by2) {mt : Bool} {lv : Nat} {own : Option Nat}
    (h : evAppendO (real cf) Γ own mt lv e sz bytes st s x K = some r) : Goes P o a w m K r := by
  unfold evAppendO at h
  obtain ⟨u, v, hx, h1, h2⟩ := args_two he hv
  have hp := ev_rel he u
  have hq := ev_rel he v
  rw [h1] at hp; rw [h2] at hq
  split at h
  · rename_i own
    cases hl : hasL st 0 with
    | false => simp [hl] at h
    | true =>
      simp only [hl, cond_true, real_nilK] at h
      have hsz := (ty_slice hΓ hty).2.1
      obtain ⟨m2, rfl, x2, w2, e2⟩ := hw.newGone (l := 0) (hasL_lt hl) hsz mt none (ty := e) (by intro c hc; cases hc)
      refine Goes.ext x2 (goes_append_ hΓ w2 hop hc hx ?_ (hq.ext x2) htt hty hty' h)
      simp only [VRel, DRel] at hp ⊢
      refine ⟨_, e2, Int.le_refl _, Int.le_refl _, .inl ⟨trivial, fun _ => gone_mk rfl hsz, ?_⟩⟩
      rcases hp with ⟨h1, _, _⟩ | ⟨sz, b, o, cap, h1, h2, h3, h4, h5⟩
      · exact h1
      · simp only [DExt, List.length_nil, Nat.sub_zero] at h5
        have : cap = 0 := h5.1.symm
        subst this
        exact ⟨_, by simpa using h1⟩
  · exact goes_append_ hΓ hw hop hc hx hp hq htt hty hty' h

theorem goes_append_str (hΓ : TabOK P Γ) (he : EnvRel m w ρ a) (hw : WRel m st w) {c : Call} (hop : o.op = .call c) (hc : c.callee = .builtin .append) {s : PV} {bs : ByteArray} {t t' : Nat} (hv : evs ρ c.args.toList = [s, .d (.str bs)]) (htt : c.argTypes.toList = [t, t'])
    {e sz bytes : Nat} (hty : Γ.ty t = .slice e sz bytes) (hty' : Γ.ty t' = .str) {mt : Bool} {lv : Nat} {own : Option Nat}
    (h : evAppendO (real cf) Γ own mt lv e sz bytes st s (.d (.sl (strRows bs) (some []))) K = some r) : Goes P o a w m K r := by
  unfold evAppendO at h
  obtain ⟨u, v, hx, h1, h2⟩ := args_two he hv
  have hp := ev_rel he u
  have hq := ev_rel he v
  rw [h1] at hp; rw [h2] at hq
  have hq : a.eval v = .string bs := by simpa only [VRel, DRel] using hq
  split at h
  · rename_i own
    cases hl : hasL st 0 with
    | false => simp [hl] at h
    | true =>
      simp only [hl, cond_true, real_nilK] at h
      have hsz := (ty_slice hΓ hty).2.1
      obtain ⟨m2, rfl, x2, w2, e2⟩ := hw.newGone (l := 0) (hasL_lt hl) hsz mt none (ty := e) (by intro c hc; cases hc)
      refine Goes.ext x2 (goes_append_str_ hΓ w2 hop hc hx ?_ hq htt hty hty' h)
      simp only [VRel, DRel] at hp ⊢
      refine ⟨_, e2, Int.le_refl _, Int.le_refl _, .inl ⟨trivial, fun _ => gone_mk rfl hsz, ?_⟩⟩
      rcases hp with ⟨h1, _, _⟩ | ⟨sz, b, o, cap, h1, h2, h3, h4, h5⟩
      · exact h1
      · simp only [DExt, List.length_nil, Nat.sub_zero] at h5
        have : cap = 0 := h5.1.symm
        subst this
        exact ⟨_, by simpa using h1⟩
  · exact goes_append_str_ hΓ hw hop hc hx hp hq htt hty hty' h

theorem setO_same : ∀ {st : St} {l i : Nat} {o : Obj}, look st l i = some o → setO st l i o = st
  | fr :: r, 0, i, o, h => by
    simp only [look] at h
    simp only [setO]
    obtain ⟨h1, h2⟩ := List.getElem?_eq_some_iff.1 h
    rw [← h2, List.set_getElem_self]
  | fr :: r, l + 1, i, o, h => by
    simp only [look] at h
    simp only [setO, setO_same h]
  | [], _, _, _, h => by simp [look] at h
/-- What lies behind a place of a written row is zero now. -/
theorem goes_clear (hΓ : TabOK P Γ) (he : EnvRel m w ρ a) (hw : WRel m st w) {c : Call} (hop : o.op = .call c) (hc : c.callee = .builtin .clear) {l i : Nat} {k lo : Int} {t : Nat} (hv : evs ρ c.args.toList = [.tail l i k lo]) (ht : c.argTypes.toList = [t])
    (h : (match Γ.ty t with
        | .slice e sz' _ => match look st l i with
          | some (.row ty sz rows true cap) => bif Nat.beq sz sz' then bif Nat.beq (Γ.zero e).length sz then bif (real cf).ieq ((real cf).len rows) k then
              (real cf).cutK rows 0 lo fun a => (real cf).fillK (Γ.zero e) ((real cf).sub k lo) fun z _ => (real cf).catK a z fun rows' _ => K (.tup []) (setO st l i (.row ty sz rows' true cap)) else none else none else none
          | _ => none
        | _ => none) = some r) : Goes P o a w m K r := by
  simp only [real_cutK, real_fillK, real_catK] at h
  obtain ⟨x, hx, hxv⟩ := args_one he hv
  have htt := types_one ht
  have hp := ev_rel he x
  rw [hxv] at hp
  simp only [VRel] at hp
  obtain ⟨en, p1, p2, p3, p4, p, c0, hpv, plive⟩ := hp
  split at h
  rotate_left
  · cases h
  rename_i e sz' by_ hty
  obtain ⟨hu, hsz0, inf, hi1, hi2, _⟩ := ty_slice hΓ hty
  split at h
  rotate_left
  · cases h
  rename_i ty sz rows cap hl
  cases b1 : Nat.beq sz sz' with
  | false => simp [b1] at h
  | true =>
  cases b2 : Nat.beq (Γ.zero e).length sz with
  | false => simp [b1, b2] at h
  | true =>
  cases b3 : (real cf).ieq ((real cf).len rows) k with
  | false => simp [b1, b2, b3] at h
  | true =>
  simp only [b1, b2, b3, cond_true] at h
  obtain rfl := Nat.eq_of_beq_eq_true b1
  have hz := Nat.eq_of_beq_eq_true b2
  have hk : (rows.length : Int) = k := by simpa [real] using b3
  obtain ⟨en', g0, g⟩ := hw.st.look_ hl
  rw [p1] at g0; cases g0
  simp only [ObjRel] at g
  obtain ⟨g1, g2, g3, g4, g5, g⟩ := g
  have hrows : (real cf).cat ((real cf).cut rows 0 lo) ((real cf).fill (Γ.zero e) ((real cf).sub k lo)) = rows.take lo.toNat ++ List.replicate (k - lo).toNat (Γ.zero e) := by simp [real]
  rw [hrows] at h
  obtain ⟨inf', z, z1, z2, z3, z4, z5, _⟩ := hΓ.zero e (by intro hc; rw [hc] at hz; simp at hz; omega)
  rw [hi1] at z1; cases z1
  have hzs : z.cells.size = sz := by rw [← hz, ← z3, ← z4]; simp
  rcases Int.lt_or_le lo k with hlt | hge
  · have hpp := plive hlt (by omega)
    have hgone : en.gone = false := gone_room (by omega)
    obtain ⟨⟨cur, g6, g7⟩, g8, g9⟩ := g hgone
    have hn : (k - lo).toNat = rows.length - lo.toNat := by omega
    have hloN : lo.toNat ≤ rows.length := by omega
    have hzc : (Builtin.zeroCells z.cells (k - lo).toNat).toList = (List.replicate (k - lo).toNat z.cells.toList).flatten := by
      have := made_flat z.cells (k - lo).toNat (by omega)
      rw [← this]
      rfl
    have hzl : ((List.replicate (k - lo).toNat z.cells.toList).flatten).length = (k - lo).toNat * sz := by rw [flatten_len]; simp [hzs]
    have hcap : rows.length * sz ≤ en.cap * sz := Nat.mul_le_mul_right _ g4
    have hmul : lo.toNat * sz + (k - lo).toNat * sz = rows.length * sz := by rw [← Nat.add_mul]; congr 1; omega
    have hone : ∀ v ∈ (List.replicate (k - lo).toNat z.cells.toList).flatten, v.oneCell' = true := by
      intro v hv
      obtain ⟨l, hl1, hl2⟩ := List.mem_flatten.1 hv
      rw [(List.mem_replicate.1 hl1).2] at hl2
      exact (VList.cells (bl := m.blk) (z5 m.cl w)).one v hl2
    have hst := run_storeCells_at P en.b (lo.toNat * sz) ty _ 0 cur w g6 (by rw [hzl]; simpa using (by omega : lo.toNat * sz + (k - lo).toNat * sz ≤ cur.size)) hone
    simp only [Nat.add_zero] at hst
    have hrun : (execOp a.eval o).run P w = .ok (.value (.tuple #[])) (w.setRow en.b (cur.toList.take (lo.toNat * sz) ++ (List.replicate (k - lo).toNat z.cells.toList).flatten ++ cur.toList.drop (lo.toNat * sz + ((List.replicate (k - lo).toNat z.cells.toList).flatten).length)).toArray) := by
      have hne : (k - lo).toNat ≠ 0 := by omega
      rw [hpp] at hpv
      rw [g2] at hpv
      obtain ⟨nn, hnn⟩ : ∃ nn, (k - lo).toNat = nn + 1 := ⟨(k - lo).toNat - 1, by omega⟩
      rw [hnn] at hpv hst hzc ⊢
      simp [execOp, hop, resolve, hc, hx, htt, invoke, builtin, hpv, Builtin.clear_, run_underlying hu, zeroValue, typeInfo, hi1, z2, hzc, hst]
    have hcurl : lo.toNat * sz + ((List.replicate (k - lo).toNat z.cells.toList).flatten).length ≤ cur.toList.length := by rw [hzl]; simp only [Array.length_toList]; omega
    have hcell : ∀ j, (w.setRow en.b (cur.toList.take (lo.toNat * sz) ++ (List.replicate (k - lo).toNat z.cells.toList).flatten ++ cur.toList.drop (lo.toNat * sz + ((List.replicate (k - lo).toNat z.cells.toList).flatten).length)).toArray).cell? ⟨en.b, j, none⟩ =
        if j < lo.toNat * sz then w.cell? ⟨en.b, j, none⟩ else if j < lo.toNat * sz + ((List.replicate (k - lo).toNat z.cells.toList).flatten).length then ((List.replicate (k - lo).toNat z.cells.toList).flatten)[j - lo.toNat * sz]? else w.cell? ⟨en.b, j, none⟩ := by
      intro j
      rw [cell_setRow g6, mid_get _ _ _ _ hcurl]
      simp [World.cell?, g6]
    obtain ⟨m2, rfl, x2, w2⟩ := hw.put (l := l) (i := i) (w' := w.setRow en.b (cur.toList.take (lo.toNat * sz) ++ (List.replicate (k - lo).toNat z.cells.toList).flatten ++ cur.toList.drop (lo.toNat * sz + ((List.replicate (k - lo).toNat z.cells.toList).flatten).length)).toArray) p1 hgone
      (fun b hb => setRow_other w en.b b _ hb) (froz_setRow g6) (by simp [World.setRow]) rfl rfl rfl (o := .row ty sz (rows.take lo.toNat ++ List.replicate (k - lo).toNat (Γ.zero e)) true cap) (e' := en) rfl (EntLe.refl en) (n := 0) (by rw [g9]; exact Nat.le_refl _) (Nat.zero_le _) (fun j hj => by rw [g9] at hj; simp at hj)
      (fun hk' he' => by
        simp only [ObjRel, if_true, cond_true]
        have hsl : (rows.take lo.toNat ++ List.replicate (k - lo).toNat (Γ.zero e)).length = rows.length := by simp; omega
        rw [hsl]
        refine ⟨g1, g2, g3, g4, g5, fun _ => ⟨⟨_, setRow_heap w en.b cur _ ty (0, 0) g6, ?_⟩, ?_, trivial⟩⟩
        · simp only [List.size_toArray, List.length_append, List.length_take, List.length_drop, Array.length_toList] at hcurl ⊢
          omega
        · refine DRows.append ((g8.take _).move hk' fun j hj => ?_) (rows_fill hz _ _ fun q hq => ?_)
          · have : (rows.take lo.toNat).length = lo.toNat := by simp; omega
            rw [this] at hj
            rw [Nat.zero_add, hcell, if_pos (by omega)]
          · have ht : (rows.take lo.toNat).length = lo.toNat := by simp; omega
            rw [ht, Nat.zero_add]
            refine DCells.of ((z5 m.cl w).keep hk') fun j v hj => ?_
            have hj1 := (List.getElem?_eq_some_iff.1 hj).1
            have hj2 : j < sz := by rw [← hzs]; simpa using hj1
            have hq2 : (q + 1) * sz ≤ (k - lo).toNat * sz := Nat.mul_le_mul_right _ hq
            rw [Nat.add_mul, Nat.one_mul] at hq2
            rw [hcell, if_neg (by omega), if_pos (by rw [hzl]; omega)]
            rw [flatten_get (by simpa [hzs] using hsz0) _ _ (by simp [hzs]; omega)]
            have e1 : (lo.toNat * sz + q * sz + j - lo.toNat * sz) % z.cells.toList.length = j := by
              have : lo.toNat * sz + q * sz + j - lo.toNat * sz = j + sz * q := by rw [Nat.mul_comm sz q]; omega
              rw [this]
              simp only [Array.length_toList, hzs]
              rw [Nat.add_mul_mod_self_left, Nat.mod_eq_of_lt hj2]
            rw [e1]
            exact hj)
    exact Goes.value' hrun h x2 w2 (by simp only [VRel, VList]; exact ⟨[], rfl, rfl⟩)
  · have hlk : lo = k := by omega
    subst hlk
    have e1 : rows.take lo.toNat ++ List.replicate (lo - lo).toNat (Γ.zero e) = rows := by
      rw [Int.sub_self, show (0 : Int).toNat = 0 from rfl, List.replicate_zero, List.append_nil]
      exact List.take_of_length_le (by omega)
    rw [e1, setO_same hl] at h
    have hpv' : a.eval x = .slice p 0 c0 := by rw [hpv]; simp
    have hrun : (execOp a.eval o).run P w = .ok (.value (.tuple #[])) w := by
      cases p <;> simp [execOp, hop, resolve, hc, hx, htt, invoke, builtin, hpv', Builtin.clear_, run_underlying hu]
    exact Goes.value hrun h hw (by simp only [VRel, VList]; exact ⟨[], rfl, rfl⟩)
end
end Go.X
