/- T -/
import Derived.Test.YtedfkehkcaaplaaXOp10
namespace Go.X
open Go Go.MapKept
set_option linter.unusedVariables false
variable [bY]
theorem bR.append {cl : Nat → Nat} {w : World} : ∀ {l k : List D} {vs us : List Value}, bR cl w l vs → bR cl w k us → bR cl w (l ++ k) (vs ++ us)
 | [], k, vs, us, h, hk => by simp only [bR] at h; subst h; simpa using hk
 | d :: l, k, vs, us, h, hk => by
  simp only [bR] at h
  obtain ⟨v, s, rfl, h1, h2⟩ := h
  simp only [List.cons_append, bR]
  exact ⟨v, _, rfl, h1, bR.append h2 hk⟩
theorem aV.list {cl : Nat → Nat} {w : World} {b : Nat} : ∀ {l : List D} {o : Nat}, aV cl w b o l → ∃ vs, bR cl w l vs ∧ ∀ j v, vs[j]? = some v → w.cell? ⟨b, o + j, none⟩ = some v
 | [], o, _ => ⟨[], rfl, fun j v h => by simp at h⟩
 | d :: l, o, h => by
  simp only [aV] at h
  obtain ⟨⟨v, h1, h2⟩, h3⟩ := h
  obtain ⟨vs, h4, h5⟩ := h3.list
  refine ⟨v :: vs, ⟨v, vs, rfl, h2, h4⟩, fun j u hj => ?_⟩
  cases j with
  | zero => simp at hj; subst hj; exact h1
  | succ j => have := h5 j u (by simpa using hj); rwa [Nat.add_assoc, Nat.add_comm 1] at this
theorem bR.one {cl : Nat → Nat} {w : World} : ∀ {l : List D} {vs : List Value}, bR cl w l vs → ∀ v ∈ vs, v.oneCell' = true
 | [], vs, h => by simp only [bR] at h; subst h; simp
 | d :: l, vs, h => by
  simp only [bR] at h
  obtain ⟨v, s, rfl, h1, h2⟩ := h
  intro u hu
  rcases List.mem_cons.1 hu with rfl | hu
  ·exact h1.one
  ·exact bR.one h2 u hu
theorem aY.list {cl : Nat → Nat} {w : World} {b sz : Nat} : ∀ {l : List (List D)} {o : Nat}, aY cl w b o sz l → (∀ r ∈ l, r.length = sz) ∧ ∃ vs, vs.length = l.length * sz ∧ bR cl w l.flatten vs ∧ ∀ j v, vs[j]? = some v → w.cell? ⟨b, o + j, none⟩ = some v
 | [], o, _ => ⟨by simp, [], by simp, rfl, fun j v h => by simp at h⟩
 | r :: l, o, h => by
  simp only [aY] at h
  obtain ⟨h1, h2, h3⟩ := h
  obtain ⟨vs, h4, h5⟩ := h2.list
  obtain ⟨h6, us, h7, h8, h9⟩ := h3.list
  have hl := bR.len h4
  refine ⟨fun x hx => ?_, vs ++ us, by simp [hl, h1, h7, Nat.add_mul, Nat.add_comm], by simpa using h4.append h8, fun j v hj => ?_⟩
  ·rcases List.mem_cons.1 hx with rfl | hx
   ·exact h1
   ·exact h6 x hx
  ·by_cases hj2 : j < vs.length
   ·rw [List.getElem?_append_left hj2] at hj; exact h5 j v hj
   ·rw [List.getElem?_append_right (by omega)] at hj
    have := h9 _ v hj
    rw [← this]
    congr 2
    omega
theorem aV.split {cl : Nat → Nat} {w : World} {b : Nat} : ∀ {l k : List D} {o : Nat}, aV cl w b o (l ++ k) → aV cl w b o l ∧ aV cl w b (o + l.length) k
 | [], k, o, h => ⟨by simp [aV], by simpa using h⟩
 | d :: l, k, o, h => by
  simp only [List.cons_append, aV] at h ⊢
  obtain ⟨h1, h2⟩ := aV.split h.2
  exact ⟨⟨h.1, h1⟩, by rwa [List.length_cons, ← Nat.add_assoc, Nat.add_right_comm]⟩
theorem Io {cl : Nat → Nat} {w : World} {b sz : Nat} : ∀ {l : List (List D)} {o : Nat}, (∀ r ∈ l, r.length = sz) → aV cl w b o l.flatten → aY cl w b o sz l
 | [], o, _, _ => by simp [aY]
 | r :: l, o, hl, h => by
  simp only [List.flatten_cons] at h
  obtain ⟨h1, h2⟩ := h.split
  have hr := hl r (by simp)
  rw [hr] at h2
  simp only [aY]
  exact ⟨hr, h1, Io (fun x hx => hl x (by simp [hx])) h2⟩
section
variable {R : Type} {P : Program} {Γ : Tab} {cf : CF} {an : iG} {o : Oper} {a : Act} {w : World} {m : Mt} {K : PV → St → Option R} {r : R} {st : St} {ρ : Env}
theorem Goes.ext {m1 : Mt} (hx : Ext m w m1 w) (h : Goes P o a w m1 K r) : Goes P o a w m K r := fun next Q hn =>
 h next Q fun pv st' m' w' v hK hx' hw hv => hn pv st' m' w' v hK (hx.trans hx') hw hv
theorem aZ.adS {cl : Nat → Nat} {w : World} {rows : List (List D)} {ext : Option (List (List D))} {v : Value} (h : aZ cl w (.sl rows ext) v) : aZ cl w (.sl rows none) v := by
 simp only [aZ] at h ⊢
 rcases h with ⟨h1, h2, _⟩ | ⟨sz, b, o, cap, h1, h2, h3, h4, _⟩
 ·exact .inl ⟨h1, h2, by simp⟩
 ·exact .inr ⟨sz, b, o, cap, h1, h2, h3, h4, by simp only [lD]⟩
theorem CQ (hw : aO m st w) {l i : Nat} {k : Int} {v : Value} (hp : aj m.blk m.cl w (.row l i k) v) {ty sz : Nat} {rows : List (List D)} {cap : Option Int} (hl : look st l i = some (.row ty sz rows false cap)) (hk : (rows.length : Int) = k)
  {ext : Option (List (List D))} (hext : ext = none ∨ (ext = some [] ∧ cap = some k)) :
  ((∃ base, v = .slice base 0 0) ∧ rows = [] ∧ (∀ h, ext = some h → h = [])) ∨
   ∃ b o cap, v = .slice (some ⟨b, o, none⟩) rows.length cap ∧ rows.length ≤ cap ∧ o + rows.length * sz ≤ m.cl b ∧ aY m.cl w b o sz rows ∧ lD m.cl w b (o + rows.length * sz) sz (cap - rows.length) ext := by
 simp only [aj] at hp
 obtain ⟨e, h1, h2, h3, h5⟩ := hp
 obtain ⟨e', k1, k2⟩ := hw.st.je hl
 rw [h1] at k1; cases k1
 simp only [aL] at k2
 obtain ⟨g1, g2, g3, g4, g5, g⟩ := k2
 rcases h5 with ⟨h0, _, base, rfl⟩ | ⟨b, cp, rfl, h5⟩
 ·left
  refine ⟨⟨base, rfl⟩, List.eq_nil_of_length_eq_zero (by omega), fun h hh => ?_⟩
  rcases hext with rfl | ⟨rfl, _⟩
  ·cases hh
  ·cases hh; rfl
 ·obtain ⟨rfl, rfl, jB⟩ := h5 (by rw [g3]; exact hk.symm)
  obtain ⟨⟨cs, g6, g7⟩, g8, g9⟩ := g jB
  simp only [cond_false] at g9
  right
  refine ⟨e.b, 0, e.cap, by congr 1; omega, g4, by omega, g8, ?_⟩
  rcases hext with rfl | ⟨rfl, hc⟩
  ·simp only [lD]
  ·have := g5 k hc
   simp only [lD, aY, List.length_nil]
   exact ⟨by omega, by omega, trivial⟩
theorem Pw {x : Option Operand} (h : Kq x = true) : ∃ k, x = some (.const (.int k 0)) := by
 unfold Kq at h
 split at h
 ·rename_i k
  exact ⟨k, rfl⟩
 ·cases h
theorem NJ {c : CF} {re : Bool} {Ro : Type} {ty : Ty} {st : St} {x : PV} {ρ : Env} {lo hi mx : Option Operand} {K : fT Ro} :
  pJ (real c) ty st x (lo.map (ev ρ)) (hi.map (ev ρ)) (mx.map (ev ρ)) (Kq hi && Kq mx) re K = pJ (real c) ty st x (lo.map (ev ρ)) (hi.map (ev ρ)) (mx.map (ev ρ)) false re K := by
 cases h1 : Kq hi with
 | false => rfl
 | true =>
  cases h2 : Kq mx with
  | false => rfl
  | true =>
   obtain ⟨k, rfl⟩ := Pw h1
   obtain ⟨k', rfl⟩ := Pw h2
   have hD : ∀ rows ext, jd (real c) st rows ext (lo.map (ev ρ)) (some (.d (.int k 0))) (some (.d (.int k' 0))) true K = jd (real c) st rows ext (lo.map (ev ρ)) (some (.d (.int k 0))) (some (.d (.int k' 0))) false K := by
    intro rows ext
    have hs : Hf ((real c).len rows) (some (PV.d (.int k 0))) = some 0 := rfl
    unfold jd
    simp only [ji, kX, hs]
    generalize Hf 0 (lo.map (ev ρ)) = q
    cases q with
    | none => rfl
    | some l => simp [real]
   unfold pJ
   simp only [Bool.and_self, Option.map_some, ev, lit, hD]
theorem aY.Tq {cl : Nat → Nat} {w : World} {b sz : Nat} {l : List (List D)} {o : Nat} (n : Nat) (h : aY cl w b o sz l) : aY cl w b o sz (l.take n) := h.take n
theorem XJ (hΓ : cZ P Γ) (he : aM m w ρ a) (hw : aO m st w) {t : TypeId} {x : Operand} {lo hi mx : Option Operand} (hop : o.op = .slice t x lo hi mx) {e sz' vX : Nat} (hty : Γ.ty t = .slice e sz' vX) {l i : Nat} {k : Int} (hp : aj m.blk m.cl w (.row l i k) (a.eval x))
  {ty sz : Nat} {rows : List (List D)} {cap : Option Int} (hl : look st l i = some (.row ty sz rows true cap)) {re : Bool}
  (h : (bif re then bif Nat.beq l 0 then bif Nat.beq sz sz' then bif (real cf).ieq ((real cf).len rows) k then QV (real cf) st i ty sz rows k (lo.map (ev ρ)) (hi.map (ev ρ)) (mx.map (ev ρ)) K else none else none else none else none) = some r) : Goes P o a w m K r := by
 cases re with
 | false => simp at h
 | true =>
 cases hl0 : Nat.beq l 0 with
 | false => simp [hl0] at h
 | true =>
 cases hb : Nat.beq sz sz' with
 | false => simp [hl0, hb] at h
 | true =>
 cases hlen : (real cf).ieq ((real cf).len rows) k with
 | false => simp [hl0, hb, hlen] at h
 | true =>
 simp only [hl0, hb, hlen, cond_true] at h
 obtain rfl := Nat.eq_of_beq_eq_true hl0
 obtain rfl := Nat.eq_of_beq_eq_true hb
 have hk : (rows.length : Int) = k := by simpa [real] using hlen
 obtain ⟨en, k1, k2⟩ := hw.st.je hl
 simp only [aj] at hp
 obtain ⟨en', p1, p2, p3, p5⟩ := hp
 rw [k1] at p1; cases p1
 simp only [aL] at k2
 obtain ⟨g1, g2, g3, g4, g5, g⟩ := k2
 have hst : 0 < st.length := by cases st <;> simp [look] at hl ⊢
 obtain ⟨hu, hsz, inf, hi_, hisz, _⟩ := jf hΓ hty
 have fin : ∀ (q : Int) (v : Value) (c2 : Nat), 0 ≤ q → q ≤ k → q ≤ (c2 : Int) → c2 * sz ≤ en.cap * sz → (execOp a.eval o).run P w = .ok (.value v) w →
   ((q = 0 ∧ (c2 = 0 ∨ en.gone = true) ∧ (∃ base, v = .slice base 0 0)) ∨ (en.gone = false ∧ v = .slice (some ⟨en.b, 0, none⟩) q.toNat c2)) →
   K (.row 0 (dD st 0) q) (iQ (bJ st 0 i .void) 0 (.row ty sz (rows.take q.toNat) true none)) = some r → Goes P o a w m K r := by
  intro q v c2 hq0 hqk hqc hcc hrun hv hK
  have hlt : (rows.take q.toNat).length = q.toNat := by rw [List.length_take]; omega
  rcases hv with ⟨rfl, hgo, base, rfl⟩ | ⟨hgo, rfl⟩
  ·
   obtain ⟨m2, rfl, x2, w2, e2⟩ := hw.Nn k1 (by omega) hst (e2 := ⟨0, 0, sz, 0⟩) (.inl (jK rfl hsz)) (o := .row ty sz (rows.take (0 : Int).toNat) true none) (fun bl => by
    simp only [aL]
    refine ⟨hsz, trivial, by simp, by simp, fun c hc => (by cases hc), fun hg => ?_⟩
    rw [jK rfl hsz] at hg; cases hg)
   exact Goes.value' hrun hK x2 w2 (by
    simp only [aj]
    exact ⟨_, e2, Int.le_refl _, Int.le_refl _, .inl ⟨trivial, fun _ => jK rfl hsz, base, rfl⟩⟩)
  ·obtain ⟨⟨cs, g6, g7⟩, g8, g9⟩ := g hgo
   obtain ⟨m2, rfl, x2, w2, e2⟩ := hw.Nn k1 (by omega) hst (e2 := ⟨en.b, q, sz, c2⟩) (.inr ⟨hgo, rfl⟩) (o := .row ty sz (rows.take q.toNat) true none) (fun bl => by
    simp only [aL]
    refine ⟨hsz, trivial, by rw [hlt]; omega, by rw [hlt]; omega, fun c hc => (by cases hc), fun _ => ⟨⟨cs, g6, Nat.le_trans hcc g7⟩, g8.take _, by simpa using g9⟩⟩)
   refine Goes.value' hrun hK x2 w2 ?_
   simp only [aj]
   refine ⟨_, e2, hq0, Int.le_refl _, ?_⟩
   cases hgn : (⟨en.b, q, sz, c2⟩ : bZ).gone with
   | false => exact .inr ⟨en.b, c2, rfl, fun _ => ⟨rfl, rfl, rfl⟩⟩
   | true =>
    obtain ⟨hc0, _⟩ := Kt hgn
    have hc0 : c2 = 0 := hc0
    subst hc0
    have : q = 0 := by omega
    subst this
    exact .inl ⟨rfl, fun _ => rfl, _, rfl⟩
 have Cw : k = en.len := by rw [g3]; exact hk.symm
 unfold QV at h
 simp only [kX] at h
 split at h
 ·
  rename_i kq q hlo hhi hmx
  have hm : mx = none := by cases mx <;> simp at hmx ⊢
  have abH : lo = none := by cases lo <;> simp at hlo ⊢
  subst hm; subst abH
  cases b1 : (real cf).jc 0 q with
  | false => simp [b1] at h
  | true =>
  cases b2 : (real cf).jc q k with
  | false => simp [b1, b2] at h
  | true =>
  simp only [b1, b2, cond_true] at h
  have c1 : 0 ≤ q := by simpa [real] using b1
  have c2 : q ≤ k := by simpa [real] using b2
  have hcut : (real cf).cut rows 0 q = rows.take q.toNat := by simp [real]
  rw [hcut] at h
  have hl0 := eZ (d := 0) he (x := (none : Option Operand)) (n := 0) rfl
  rcases p5 with ⟨h0, hgo, base, hxv⟩ | ⟨b, cap0, hxv, hlive⟩
  ·have hq0 : q = 0 := by omega
   have hh := eZ he (d := ((0 : Nat) : Int)) (x := hi) (n := q) (by rw [hhi]; rfl)
   have hb := kN (P := P) (w := w) true 0 0 hl0 hh (Int.le_refl 0) c1 (by omega)
   simp only [Option.map_none] at hb
   rw [hq0] at hb
   subst hq0
   exact fin 0 _ 0 c1 c2 (by omega) (by simp) (by simp [execOp, hop, hxv, Instr.sliceAt, Instr.slice, run_underlying hu, hb, sizeOf, typeInfo, hi_]) (.inl ⟨rfl, .inl rfl, base, rfl⟩) h
  ·obtain ⟨rfl, rfl, hlv⟩ := hlive Cw
   have hkn : k.toNat = rows.length := by omega
   have hh := eZ he (d := (k.toNat : Int)) (x := hi) (n := q) (by rw [hhi]; rfl)
   have hb := kN (P := P) (w := w) true k.toNat en.cap hl0 hh (Int.le_refl 0) c1 (by omega)
   simp only [Option.map_none] at hb
   have hrun : (execOp a.eval o).run P w = .ok (.value (.slice (some ⟨en.b, 0, none⟩) q.toNat en.cap)) w := by
    by_cases hc : en.cap = 0
    ·rw [hc] at hb hxv
     simp [execOp, hop, hxv, Instr.sliceAt, Instr.slice, run_underlying hu, hb, sizeOf, typeInfo, hi_, hc]
    ·simp [execOp, hop, hxv, Instr.sliceAt, Instr.slice, run_underlying hu, hb, sizeOf, typeInfo, hi_, hc, gI]
   exact fin q _ en.cap c1 c2 (by omega) (Nat.le_refl _) hrun (.inr ⟨hlv, rfl⟩) h
 ·
  rename_i ko q hlo hhi hmx
  have hm : mx = none := by cases mx <;> simp at hmx ⊢
  have agF : hi = none := by cases hi <;> simp at hhi ⊢
  subst hm; subst agF
  cases b1 : (real cf).jc 0 q with
  | false => simp [b1] at h
  | true =>
  cases b2 : (real cf).jc q k with
  | false => simp [b1, b2] at h
  | true =>
  simp only [b1, b2, cond_true] at h
  have c1 : 0 ≤ q := by simpa [real] using b1
  have c2 : q ≤ k := by simpa [real] using b2
  have hl' := eZ he (d := 0) (x := lo) (n := q) (by rw [hlo]; rfl)
  rcases p5 with ⟨h0, hgo, base, hxv⟩ | ⟨b, cap0, hxv, hlive⟩
  ·have hq0 : q = 0 := by omega
   have hh := eZ (d := ((0 : Nat) : Int)) he (x := (none : Option Operand)) (n := ((0 : Nat) : Int)) rfl
   have hb := kN (P := P) (w := w) true 0 0 hl' hh c1 (by omega) (by omega)
   simp only [Option.map_none] at hb
   rw [hq0] at hb
   subst hq0
   refine Goes.value (v := .slice base 0 0) (by simp [execOp, hop, hxv, Instr.sliceAt, Instr.slice, run_underlying hu, hb, sizeOf, typeInfo, hi_]) h hw ?_
   simp only [aj]
   exact ⟨en, k1, p3, Int.le_refl _, c2, base, 0, by rw [h0]; rfl, fun h1 _ => by omega⟩
  ·obtain ⟨rfl, rfl, hlv⟩ := hlive Cw
   have hh := eZ (d := (k.toNat : Int)) he (x := (none : Option Operand)) (n := (k.toNat : Int)) rfl
   have hb := kN (P := P) (w := w) true k.toNat en.cap hl' hh c1 (by omega) (by omega)
   simp only [Option.map_none, Int.toNat_natCast] at hb
   refine Goes.value (v := .slice (if en.cap = q.toNat then some ⟨en.b, 0, none⟩ else (some (⟨en.b, 0, none⟩ : Addr)).map (·.add (q.toNat * sz))) (k.toNat - q.toNat) (en.cap - q.toNat)) (by simp [execOp, hop, hxv, Instr.sliceAt, Instr.slice, run_underlying hu, hb, sizeOf, typeInfo, hi_, hisz]) h hw ?_
   simp only [aj]
   refine ⟨en, k1, p3, c1, c2, _, _, by rw [show (k - q).toNat = k.toNat - q.toNat by omega], fun h1 h2 => ?_⟩
   rw [if_neg (by omega)]
   simp [gI, g2]
 ·
  rename_i kq q km mm hlo hhi hmx
  have abH : lo = none := by cases lo <;> simp at hlo ⊢
  subst abH
  cases b1 : (real cf).jc 0 q with
  | false => simp [b1] at h
  | true =>
  cases b2 : (real cf).jc q mm with
  | false => simp [b1, b2] at h
  | true =>
  cases b3 : (real cf).jc mm k with
  | false => simp [b1, b2, b3] at h
  | true =>
  simp only [b1, b2, b3, cond_true] at h
  have c1 : 0 ≤ q := by simpa [real] using b1
  have c2 : q ≤ mm := by simpa [real] using b2
  have c3 : mm ≤ k := by simpa [real] using b3
  have hcut : (real cf).cut rows 0 q = rows.take q.toNat := by simp [real]
  rw [hcut] at h
  have hl0 := eZ (d := 0) he (x := (none : Option Operand)) (n := 0) rfl
  have hmm : ∃ k', mx.map a.eval = some (.int k' mm) := by
   cases mx with
   | none => simp at hmx
   | some y =>
    simp only [Option.map_some, Option.some.injEq] at hmx
    have hp := bV he y
    rw [hmx] at hp
    simp only [aj, aZ] at hp
    exact ⟨km, by simp [hp]⟩
  obtain ⟨k', hmm⟩ := hmm
  rcases p5 with ⟨h0, hgo, base, hxv⟩ | ⟨b, cap0, hxv, hlive⟩
  ·have hq0 : q = 0 := by omega
   have hm0 : mm = 0 := by omega
   have hh := eZ he (d := ((0 : Nat) : Int)) (x := hi) (n := q) (by rw [hhi]; rfl)
   have hb := pR (P := P) (w := w) 0 0 (k := k') hl0 hh (by rw [hhi]; simp) (Int.le_refl 0) c1 c2 (by omega)
   simp only [Option.map_none] at hb
   rw [hq0, hm0] at hb
   subst hq0
   rw [hm0] at hmm
   exact fin 0 _ 0 c1 (by omega) (by omega) (by simp) (by simp [execOp, hop, hxv, Instr.sliceAt, Instr.slice, run_underlying hu, hmm, hb, sizeOf, typeInfo, hi_]) (.inl ⟨rfl, .inl rfl, base, rfl⟩) h
  ·obtain ⟨rfl, rfl, hlv⟩ := hlive Cw
   have hkn : k.toNat = rows.length := by omega
   have hh := eZ he (d := (k.toNat : Int)) (x := hi) (n := q) (by rw [hhi]; rfl)
   have hb := pR (P := P) (w := w) k.toNat en.cap (k := k') hl0 hh (by rw [hhi]; simp) (Int.le_refl 0) c1 c2 (by omega)
   simp only [Option.map_none] at hb
   have hrun : (execOp a.eval o).run P w = .ok (.value (.slice (some ⟨en.b, 0, none⟩) q.toNat mm.toNat)) w := by
    by_cases hc : mm.toNat = 0
    ·simp [execOp, hop, hxv, Instr.sliceAt, Instr.slice, run_underlying hu, hmm, hb, sizeOf, typeInfo, hi_, hc]
    ·simp [execOp, hop, hxv, Instr.sliceAt, Instr.slice, run_underlying hu, hmm, hb, sizeOf, typeInfo, hi_, hc, gI]
   exact fin q _ mm.toNat c1 (by omega) (by omega) (Nat.mul_le_mul_right _ (by omega)) hrun (.inr ⟨hlv, rfl⟩) h
 ·cases h
theorem NK (hΓ : cZ P Γ) (he : aM m w ρ a) (hw : aO m st w) {t : TypeId} {x : Operand} {lo hi mx : Option Operand} (hop : o.op = .slice t x lo hi mx)
  (h : evalOp (real cf) Γ an ρ st o.dst o.op K = some r) : Goes P o a w m K r := by
 rw [hop] at h
 simp only [evalOp] at h
 have hp := bV he x
 rw [NJ] at h
 unfold pJ at h
 split at h
 ·rename_i s hty hx
  rw [hx] at hp; simp only [aj, aZ] at hp
  split at h
  ·rename_i l q hlo hhi hmx
   have hm : mx = none := by cases mx <;> simp at hmx ⊢
   subst hm
   cases b1 : (real cf).jc 0 l with
   | false => simp [b1] at h
   | true =>
   cases b2 : (real cf).jc l q with
   | false => simp [b1, b2] at h
   | true =>
   cases b3 : (real cf).jc q ((real cf).zk s) with
   | false => simp [b1, b2, b3] at h
   | true =>
   simp only [b1, b2, b3, cond_true] at h
   have c1 : 0 ≤ l := by simpa [real] using b1
   have c2 : l ≤ q := by simpa [real] using b2
   have c3 : q ≤ s.size := by simpa [real] using b3
   have hb := kN (P := P) (w := w) false s.size s.size (eZ he hlo) (eZ he hhi) c1 c2 c3
   have hu := Tt hΓ hty
   refine Goes.value (v := .string (s.extract l.toNat q.toNat)) (by simp [execOp, hop, hp, Instr.sliceAt, Instr.slice, run_underlying hu, hb]) h hw ?_
   simp only [aj, aZ]
   rfl
  ·cases h
 ·rename_i e sz vX rows ext hty hx
  rw [hx] at hp; simp only [aj] at hp
  cases hb : (real cf).fits sz rows ext with
  | true =>
   simp only [hb, cond_true] at h
   obtain ⟨f1, f2⟩ := tY hb
   exact pU hΓ he hw hop hty (hp.fix f1 f2) h
  | false => simp [hb] at h
 ·rename_i e sz' vX l i k hty hx
  rw [hx] at hp
  split at h
  ·rename_i ty sz rows cap hl
   exact XJ hΓ he hw hop hty hp hl h
  ·rename_i ty sz rows cap hl
   cases hb : Nat.beq sz sz' with
   | false => simp [hb] at h
   | true =>
   cases hlen : (real cf).ieq ((real cf).len rows) k with
   | false => simp [hb, hlen] at h
   | true =>
   simp only [hb, hlen, cond_true] at h
   obtain rfl := Nat.eq_of_beq_eq_true hb
   have hk : (rows.length : Int) = k := by simpa [real] using hlen
   split at h
   ·rename_i c
    cases hc : (real cf).ieq c k with
    | true =>
     simp only [hc, xI] at h
     have hc' : c = k := by simpa [real] using hc
     subst hc'
     exact pU hΓ he hw hop hty (CQ hw hp hl hk (.inr ⟨rfl, rfl⟩)) h
    | false =>
     simp only [hc, tL] at h
     exact pU hΓ he hw hop hty (CQ hw hp hl hk (.inl rfl)) h
   ·exact pU hΓ he hw hop hty (CQ hw hp hl hk (.inl rfl)) h
  ·cases h
 ·cases h
theorem aO.move (hw : aO m st w) {w' : World} {l i : Nat} {e : bZ} (he : ent m.blk l i = some e) {ob : Go.Obj} (hh : w'.heap = w.heap.push ob) (os : w'.os = w.os) (tape : w'.tape = w.tape) (output : w'.output = w.output)
  (hob : ∀ c e fr, ob = .cells c e fr → fr = (0, 0)) {o : Obj} {e' : bZ} (hb : e'.b = w.heap.size) (hle : jA e e') {n : Nat} (hn : n ≤ csize w' w.heap.size)
  (ho : Keeps m.cl w (fun b => if b = w.heap.size then n else m.cl b) w' → bG m.blk (fO m.blk l i e') → aL (mG (fO m.blk l i e') l) (fun b => if b = w.heap.size then n else m.cl b) w' o e') :
  ∃ m', m' = ⟨fO m.blk l i e', fun b => if b = w.heap.size then n else m.cl b⟩ ∧ Ext m w m' w' ∧ aO m' (bJ st l i o) w' := by
 have hold : ∀ b, b < w.heap.size → w'.heap[b]? = w.heap[b]? := fun b hb => by rw [hh, Array.getElem?_push, if_neg (by omega)]
 have hlt := hw.lt
 have hk : Keeps m.cl w (fun b => if b = w.heap.size then n else m.cl b) w' := by
  refine ⟨fun b => ?_, fun b j hj => ?_⟩
  ·show m.cl b ≤ if b = w.heap.size then n else m.cl b
   split
   ·rename_i h; rw [h, hw.kI (Nat.le_refl _)]; exact Nat.zero_le _
   ·exact Nat.le_refl _
  ·have : b < w.heap.size := by
    rcases Nat.lt_or_ge b w.heap.size with h | h
    ·exact h
    ·rw [hw.kI h] at hj; omega
   exact World.cell?_of_block (hold b this)
 have hsize : w'.heap.size = w.heap.size + 1 := by rw [hh]; simp
 have hnw : ∀ b ∈ blks (fO m.blk l i e'), b ∈ blks m.blk ∨ w.heap.size ≤ b := fun b hb' => by
  rcases qH he _ hb' with ⟨_, h⟩ | h
  ·right; omega
  ·exact .inl h
 refine ⟨_, rfl, ⟨hk, bG.fO he hle, os, tape, output, by omega, fun b hb' _ => hold b hb', hnw, fun b hb' _ => if_neg (by omega)⟩, ⟨?_, ?_, fun b => ?_, hw.glob.step (fun b hb' _ => hold b hb') hnw⟩⟩
 ·refine hw.st.Ci hk he hle (ho hk (bG.fO he hle)) hw.nodup fun b hb' _ => ⟨hold b (hlt b hb'), ?_⟩
  have := hlt b hb'
  simp only [ite_eq_right_iff]; intro h; omega
 ·exact rR he hw.nodup (.inr <| .inr fun hc => by have := hlt _ hc; omega)
 ·show (if b = w.heap.size then n else m.cl b) ≤ _
  split
  ·rename_i h; subst h; exact hn
  ·rename_i h
   rcases Nat.lt_or_ge b w.heap.size with h' | h'
   ·rw [kM (hold b h')]; exact hw.le b
   ·rw [hw.kI h']; exact Nat.zero_le _
theorem CS (hw : aO m st w) {x : PV} {v : Value} (hv : aj m.blk m.cl w x v) {sz : Nat} {kx : Int} {xs : List (List D)} (h : rowsOf (real cf) st x = some (kx, xs)) (hkx : (real cf).ieq ((real cf).len xs) kx = true) (hfit : (real cf).fits sz xs none = true) :
  ((∃ base, v = .slice base 0 0) ∧ xs = []) ∨ ∃ b off c, v = .slice (some ⟨b, off, none⟩) xs.length c ∧ aY m.cl w b off sz xs := by
 have hk : (xs.length : Int) = kx := by simpa [real] using hkx
 obtain ⟨f1, f2⟩ := tY hfit
 unfold rowsOf at h
 split at h
 ·cases h
  simp only [aj] at hv
  rcases hv.adS.fix f1 f2 with ⟨h1, h2, _⟩ | ⟨b, off, cap, h1, _, _, h2, _⟩
  ·exact .inl ⟨h1, h2⟩
  ·exact .inr ⟨b, off, cap, h1, h2⟩
 ·rename_i l i k
  simp only [aj] at hv
  obtain ⟨e, h1, h2, h3, h5⟩ := hv
  split at h
  ·rename_i ty sz' rows mt cp hl
   obtain ⟨e', k1, k2⟩ := hw.st.je hl
   rw [h1] at k1; cases k1
   simp only [aL] at k2
   obtain ⟨g1, g2, g3, g4, g5, g⟩ := k2
   simp only [Option.some.injEq, Prod.mk.injEq] at h
   obtain ⟨rfl, rfl⟩ := h
   rcases h5 with ⟨h0, _, base, rfl⟩ | ⟨b, cp, rfl, h5⟩
   ·exact .inl ⟨⟨base, rfl⟩, List.eq_nil_of_length_eq_zero (by omega)⟩
   ·obtain ⟨rfl, rfl, jB⟩ := h5 (by rw [g3]; exact hk.symm)
    obtain ⟨g6, g7, g8⟩ := g jB
    refine .inr ⟨e.b, 0, e.cap, by congr 1; omega, ?_⟩
    cases rows with
    | nil => simp only [aY]
    | cons r rows =>
     have : sz' = sz := by
      have := f1 r (by simp)
      simp only [aY] at g7
      omega
     subst this
     exact g7
  ·cases h
 ·cases h
theorem run_append_nothing {t t' e e' ty : TypeId} (ht : P.underlying t = some (.slice e)) (ht' : P.underlying t' = some (.slice e')) {i : TypeInfo} (hi : P.info? e = some i) (base : Option Addr) (n c : Nat) (hn : n ≤ c) {v : Value}
  (hv : ∃ base c, v = .slice base 0 c) : (Builtin.append_ #[t, t'] ty #[.slice base n c, v]).run P w = .ok (.slice base n c) w := by
 obtain ⟨bx, c', rfl⟩ := hv
 cases bx <;> cases base <;>
  simp [Builtin.append_, run_underlying ht, run_underlying ht', sizeOf, typeInfo, hi, Builtin.lenOf, Builtin.firstCells, loadCells, loadCellsFrom, storeCells, hn]
theorem zD (t tx ty e : TypeId) (i : TypeInfo) (ht : P.underlying t = some (.slice e)) (hi : P.info? e = some i) (b sLen sCap : Nat) (x : Value) (n : Nat) (news : List Value) (hs : Src P i.size tx x n news w)
  (hroom : sLen + n ≤ sCap) {cur : Array Value} {te : TypeId} (hb : w.heap[b]? = some (.cells cur te (0, 0))) (hfit : sLen * i.size + news.length ≤ cur.size) :
  (Builtin.append_ #[t, tx] ty #[.slice (some ⟨b, 0, none⟩) sLen sCap, x]).run P w = .ok (.slice (some ⟨b, 0, none⟩) (sLen + n) sCap)
   (w.setRow b (cur.toList.take (sLen * i.size) ++ news ++ cur.toList.drop (sLen * i.size + news.length)).toArray) := by
 have hst := run_storeCells_at P b (sLen * i.size) te news 0 cur w hb (by simpa using hfit) hs.one
 simp only [Nat.add_zero] at hst
 rcases hs.kind with ⟨e', hk⟩ | hk <;> simp [Builtin.append_, run_underlying ht, run_underlying hk, sizeOf, typeInfo, hi, hs.len, hroom, hs.cells, gI, hst]
theorem sZ (hΓ : cZ P Γ) (hw : aO m st w) {c : Call} (hop : o.op = .call c) (hc : c.callee = .builtin .append) {s x : PV} {t t' : Nat} {u v : Operand} (hx : c.args = #[u, v]) (hp : aj m.blk m.cl w s (a.eval u)) (jw : c.argTypes.toList = [t, t'])
  {e sz bytes : Nat} (hty : Γ.ty t = .slice e sz bytes) {mt : Bool} {lv : Nat}
  (hno : ∀ kx xs, rowsOf (real cf) st x = some (kx, xs) → (real cf).ieq ((real cf).len xs) kx = true → (real cf).fits sz xs none = true → xs.length = 0 → ∀ (base : Option Addr) (n cp : Nat), n ≤ cp → (Builtin.append_ #[t, t'] o.type #[.slice base n cp, a.eval v]).run P w = .ok (.slice base n cp) w)
  (hsr : ∀ kx xs, rowsOf (real cf) st x = some (kx, xs) → (real cf).ieq ((real cf).len xs) kx = true → (real cf).fits sz xs none = true → 0 < xs.length → ∃ news, Src P sz t' (a.eval v) xs.length news w ∧ bR m.cl w xs.flatten news ∧ news.length = xs.length * sz ∧ ∀ r ∈ xs, r.length = sz)
  (h : jy (real cf) Γ mt lv e sz bytes st s x K = some r) : Goes P o a w m K r := by
 have jw := FQ jw
 obtain ⟨hu, hsz, i, hi, hisz, hib, hby⟩ := jf hΓ hty
 unfold jy at h
 simp only [jk] at h
 split at h
 rotate_left
 ·cases h
 rename_i z0 z1 kx xs hz hrows
 cases hkx : (real cf).ieq ((real cf).len xs) kx with
 | false => simp [hkx] at h
 | true =>
 cases hfit : (real cf).fits sz xs none with
 | false => simp [hkx, hfit] at h
 | true =>
 simp only [hkx, hfit, cond_true] at h
 obtain ⟨i', z, q1, q2, q3, q4, q5, _⟩ := hΓ.zero e (by rw [hz]; simp)
 rw [hi] at q1; cases q1
 have hzs : z.cells.size = sz := by rw [← hisz, ← q4]; simp
 have run : ∀ (sv : Value) (res : Value) (w' : World), a.eval u = sv → (Builtin.append_ #[t, t'] o.type #[sv, a.eval v]).run P w = .ok res w' → (execOp a.eval o).run P w = .ok (.value res) w' := by
  intro sv res w' h1 h2
  simp [execOp, hop, resolve, hc, hx, jw, invoke, builtin, h1, h2]
 have XK : (real cf).ieq ((real cf).len xs) 0 = true → ∀ (base : Option Addr) (n cp : Nat), n ≤ cp → (Builtin.append_ #[t, t'] o.type #[.slice base n cp, a.eval v]).run P w = .ok (.slice base n cp) w := by
  intro hb
  have hl : xs.length = 0 := by
   have : (xs.length : Int) = 0 := by simpa [real] using hb
   omega
  exact hno kx xs hrows hkx hfit hl
 have src : 0 < xs.length → ∃ news, Src P i.size t' (a.eval v) xs.length news w ∧ bR m.cl w xs.flatten news ∧ news.length = xs.length * sz ∧ ∀ r ∈ xs, r.length = sz := by
  rw [hisz]
  exact hsr kx xs hrows hkx hfit
 have hlimit : ∀ n : Nat, (real cf).jc ((real cf).mul (n : Int) bytes) limit = true → n * bytes ≤ 140737488355328 := by
  intro n hb
  have : (n : Int) * bytes ≤ 140737488355328 := by simpa [real, limit] using hb
  have h2 : ((n * bytes : Nat) : Int) ≤ 140737488355328 := by rw [Int.natCast_mul]; exact this
  omega
 have hsmall : ∀ n : Nat, n * bytes ≤ 140737488355328 → n ≤ 140737488355328 := by
  intro n hb
  exact Nat.le_trans (Nat.le_mul_of_pos_right n hby) hb
 have grow : 0 < xs.length → ∀ (sv : Value) (base : Option Addr) (rows : List (List D)) (sCap : Nat) (olds : List Value), a.eval u = sv → sv = .slice base rows.length sCap → (Builtin.firstCells i.size rows.length (.slice base rows.length sCap)).run P w.drew = .ok olds.toArray w.drew →
   bR m.cl w rows.flatten olds → olds.length = rows.length * sz → (∀ r ∈ rows, r.length = sz) → sCap < rows.length + xs.length → (rows.length + xs.length) * bytes ≤ 140737488355328 →
   ∃ (cs : Array Value) (cap : Nat), rows.length + xs.length ≤ cap ∧ cs.size = cap * sz ∧ (execOp a.eval o).run P w = .ok (.value (.slice (some ⟨w.heap.size, 0, none⟩) (rows.length + xs.length) cap)) (w.drew.alloc (.cells cs e (0, 0))) ∧
    (∀ cl', Keeps m.cl w cl' (w.drew.alloc (.cells cs e (0, 0))) → aY cl' (w.drew.alloc (.cells cs e (0, 0))) w.heap.size 0 sz (rows ++ xs)) := by
  intro hx0 sv base rows sCap olds hsv hb hfo hdl hol hrl hg hlim
  obtain ⟨news, s1, s2, s3, s4⟩ := src hx0
  have hr := run_append_grow_src (P := P) w t t' o.type e i z hu hi q2 base rows.length sCap olds hfo (a.eval v) xs.length news s1 hg (by have := hsmall _ hlim; omega) (growslice_fits hg (by rw [hib]; exact hlim))
  refine ⟨_, _, grownCap_ge w (rows.length + xs.length) sCap e, ?_, run sv _ _ hsv (by rw [hb]; exact hr), ?_⟩
  ·simp only [Array.size_append, List.size_toArray, List.length_append, size_zeroCells, hzs, hol, s3]
   rw [← Nat.add_mul, ← Nat.add_mul]
   congr 1
   have := grownCap_ge w (rows.length + xs.length) sCap e
   omega
  ·intro cl' hk
   have Tp : (rows ++ xs).flatten = rows.flatten ++ xs.flatten := by simp
   refine Io (fun r hr => (List.mem_append.1 hr).elim (hrl r) (s4 r)) ?_
   rw [Tp]
   refine aV.of ((hdl.append s2).keep hk) fun j v hj => ?_
   have hlt := (List.getElem?_eq_some_iff.1 hj).1
   have hcell : (w.drew.alloc (.cells ((olds ++ news).toArray ++ Builtin.zeroCells z.cells (grownCap w (rows.length + xs.length) sCap e - (rows.length + xs.length))) e (0, 0))).heap[w.heap.size]? = some (.cells ((olds ++ news).toArray ++ Builtin.zeroCells z.cells (grownCap w (rows.length + xs.length) sCap e - (rows.length + xs.length))) e (0, 0)) := by
    show (w.heap.push _)[w.heap.size]? = _
    simp
   simp only [World.cell?, hcell, Nat.zero_add]
   rw [Array.getElem?_append_left (by simpa using hlt)]
   simpa using hj
 have fresh : (hx0 : (real cf).ieq ((real cf).len xs) 0 = false) → ∀ (sv : Value) (base : Option Addr) (rows : List (List D)) (sCap : Nat) (olds : List Value), a.eval u = sv → sv = .slice base rows.length sCap → (Builtin.firstCells i.size rows.length (.slice base rows.length sCap)).run P w.drew = .ok olds.toArray w.drew →
   bR m.cl w rows.flatten olds → olds.length = rows.length * sz → (∀ r ∈ rows, r.length = sz) → sCap < rows.length + xs.length → rM (real cf) mt lv e sz bytes st (rows ++ xs) K = some r → Goes P o a w m K r := by
  intro hx0 sv base rows sCap olds hsv hb hfo hdl hol hrl hg h
  unfold rM at h
  simp only [ji] at h
  cases b1 : (real cf).jc ((real cf).mul ((real cf).len (rows ++ xs)) bytes) limit with
  | false => simp [b1] at h
  | true =>
  cases hl : fQ st lv with
  | false => simp [b1, hl] at h
  | true =>
  simp only [b1, hl, cond_true] at h
  have hlim := hlimit (rows ++ xs).length b1
  rw [List.length_append] at hlim
  have hxl : 0 < xs.length := by
   rcases Nat.eq_zero_or_pos xs.length with h0 | h0
   ·have : (real cf).ieq ((real cf).len xs) 0 = true := by simp [real, h0]
    rw [this] at hx0; cases hx0
   ·exact h0
  obtain ⟨cs, cap, g1, g2, g3, g4⟩ := grow hxl sv base rows sCap olds hsv hb hfo hdl hol hrl hg hlim
  have hnew : (w.drew.alloc (.cells cs e (0, 0))).heap = w.heap.push (.cells cs e (0, 0)) := rfl
  have hcell : (w.drew.alloc (.cells cs e (0, 0))).heap[w.heap.size]? = some (.cells cs e (0, 0)) := by rw [hnew]; simp
  have hmul : (rows.length + xs.length) * sz ≤ cap * sz := Nat.mul_le_mul_right _ g1
  obtain ⟨m2, rfl, x2, w2, e2⟩ := hw.new (l := lv) (w' := w.drew.alloc (.cells cs e (0, 0))) (iT hl) hnew rfl rfl rfl (by intro _ _ _ h; cases h <;> rfl) (o := .row e sz (rows ++ xs) mt none) (e := ⟨w.heap.size, (rows ++ xs).length, sz, cap⟩) rfl
   (n := bif mt then 0 else (rows ++ xs).length * sz) (by simp only [csize, hcell, List.length_append]; cases mt <;> simp <;> omega) (fun hk he => by
    simp only [aL, if_true]
    exact ⟨hsz, trivial, trivial, by rw [List.length_append]; exact g1, fun c hc => by (cases hc), fun _ => ⟨⟨cs, hcell, Nat.le_of_eq g2.symm⟩, g4 _ hk, trivial⟩⟩)
  refine Goes.value' g3 h x2 w2 ?_
  simp only [aj]
  have hl2 : (real cf).len (rows ++ xs) = ((rows.length + xs.length : Nat) : Int) := by simp [real]
  refine ⟨_, e2, ?_, Int.le_refl _, .inr ⟨w.heap.size, cap, ?_, fun _ => ⟨rfl, rfl, lg (by show 0 < cap; omega)⟩⟩⟩
  ·rw [hl2]; omega
  ·rw [hl2]; congr 1
 split at h
 ·
  rename_i rows ext
  have hp' := hp
  simp only [aj] at hp
  cases hb : (real cf).ieq ((real cf).len xs) 0 with
  | true =>
   simp only [hb, xI] at h
   simp only [aZ] at hp
   rcases hp with ⟨⟨base, hs⟩, _, _⟩ | ⟨_, b, off, cap, hs, h3, _⟩
   ·have := XK hb base 0 0 (Nat.le_refl _)
    exact Goes.value (run _ _ _ hs this) h hw (by rw [← hs]; exact hp')
   ·have := XK hb (some ⟨b, off, none⟩) rows.length cap h3
    exact Goes.value (run _ _ _ hs this) h hw (by rw [← hs]; exact hp')
  | false =>
   simp only [hb, tL] at h
   have hxl : 0 < xs.length := by
    rcases Nat.eq_zero_or_pos xs.length with h0 | h0
    ·have : (real cf).ieq ((real cf).len xs) 0 = true := by simp [real, h0]
     rw [this] at hb; cases hb
    ·exact h0
   cases hfr : (real cf).fits sz rows ext with
   | false => simp [hfr] at h
   | true =>
   simp only [hfr, cond_true] at h
   obtain ⟨f1, f2⟩ := tY hfr
   have hp := hp.fix f1 f2
   split at h
   rotate_left
   ·cases h
   have h : rM (real cf) mt lv e sz bytes st (rows ++ xs) K = some r := h
   rcases hp with ⟨⟨base, hs⟩, rfl, _⟩ | ⟨b, off, cap, hs, h3, h4, h5, h6⟩
   ·exact fresh hb _ base [] 0 [] hs rfl (by cases base <;> simp [Builtin.firstCells, loadCells, loadCellsFrom]) rfl (by simp) (by simp) (by simpa using hxl) h
   ·simp only [lD, List.length_nil] at h6
    have hcap : cap = rows.length := by omega
    subst hcap
    obtain ⟨k1, olds, k2, k3, k4⟩ := h5.list
    exact fresh hb _ (some ⟨b, off, none⟩) rows rows.length olds hs rfl (run_firstCells_some w.drew _ _ _ _ _ olds (by rw [hisz]; exact k2) (fun j v hj => by rw [gI]; exact k4 j v hj)) k3 k2 k1 (by omega) h
 ·
  rename_i l j k
  have hp' := hp
  simp only [aj] at hp
  obtain ⟨en, p1, p2, p3, p45⟩ := hp
  split at h
  rotate_left
  ·cases h
  rename_i e' szr rows MZ cp hl
  obtain ⟨en', k3, k4⟩ := hw.st.je hl
  rw [p1] at k3; cases k3
  simp only [aL] at k4
  obtain ⟨g1, g2, g3, g4, g5, g⟩ := k4
  cases hlen : (real cf).ieq ((real cf).len rows) k with
  | false => simp [hlen] at h
  | true =>
  simp only [hlen, cond_true] at h
  have hk : (rows.length : Int) = k := by simpa [real] using hlen
  have hkn : k.toNat = rows.length := by omega
  cases hb : (real cf).ieq ((real cf).len xs) 0 with
  | true =>
   simp only [hb, xI] at h
   rcases p45 with ⟨_, _, base, p4⟩ | ⟨b, cap, p4, p5⟩
   ·have := XK hb base 0 0 (Nat.le_refl _)
    exact Goes.value (run _ _ _ p4 this) h hw (by rw [← p4]; exact hp')
   ·obtain ⟨rfl, rfl, _⟩ := p5 (by rw [g3]; exact hk.symm)
    rw [hkn] at p4
    have := XK hb (some ⟨en.b, 0, none⟩) rows.length en.cap g4
    exact Goes.value (run _ _ _ p4 this) h hw (by rw [← p4]; exact hp')
  | false =>
   simp only [hb, tL] at h
   have hxl : 0 < xs.length := by
    rcases Nat.eq_zero_or_pos xs.length with h0 | h0
    ·have : (real cf).ieq ((real cf).len xs) 0 = true := by simp [real, h0]
     rw [this] at hb; cases hb
    ·exact h0
   cases hbe : Nat.beq e e' with
   | false => simp [hbe] at h
   | true =>
   cases hbr : Nat.beq sz szr with
   | false => simp [hbe, hbr] at h
   | true =>
   simp only [hbe, hbr, cond_true] at h
   obtain rfl := Nat.eq_of_beq_eq_true hbe
   have agG := Nat.eq_of_beq_eq_true hbr
   cases b1 : (real cf).jc ((real cf).mul ((real cf).len ((real cf).cat rows xs)) bytes) limit with
   | false => simp [b1] at h
   | true =>
   simp only [b1, cond_true] at h
   have h : K (.row l j ((real cf).len ((real cf).cat rows xs))) (bJ st l j (.row e szr ((real cf).cat rows xs) MZ (capOf (real cf) cp ((real cf).len ((real cf).cat rows xs))))) = some r := by
    cases cp with
    | none => exact h
    | some c =>
     dsimp only at h
     simp only [capOf]
     cases hq : (real cf).jc ((real cf).len ((real cf).cat rows xs)) c with
     | false => simp [hq] at h
     | true => simpa only [hq, cond_true] using h
   have hlim : (rows.length + xs.length) * bytes ≤ 140737488355328 := hlimit (rows.length + xs.length) (by rw [← b1]; simp [real])
   subst agG
   have TD : (real cf).len ((real cf).cat rows xs) = ((rows.length + xs.length : Nat) : Int) := by simp [real]
   have KO : (real cf).cat rows xs = rows ++ xs := rfl
   have adT : ∀ (bl : List (List bZ)) (cl : Nat → Nat) (w : World) (bb cc : Nat), 0 < cc → ent bl l j = some ⟨bb, (rows ++ xs).length, sz, cc⟩ → aj bl cl w (.row l j ((real cf).len ((real cf).cat rows xs))) (.slice (some ⟨bb, 0, none⟩) (rows.length + xs.length) cc) := by
    intro bl cl w bb cc hcc hent
    simp only [aj]
    refine ⟨_, hent, by rw [TD]; omega, by rw [TD]; simp, .inr ⟨bb, cc, ?_, fun _ => ⟨rfl, rfl, lg hcc⟩⟩⟩
    rw [TD]
    congr 1
   have moved : ∀ (cs : Array Value) (cap' : Nat), ¬ rows.length + xs.length ≤ en.cap → rows.length + xs.length ≤ cap' → cs.size = cap' * sz → (execOp a.eval o).run P w = .ok (.value (.slice (some ⟨w.heap.size, 0, none⟩) (rows.length + xs.length) cap')) (w.drew.alloc (.cells cs e (0, 0))) →
     (∀ cl', Keeps m.cl w cl' (w.drew.alloc (.cells cs e (0, 0))) → aY cl' (w.drew.alloc (.cells cs e (0, 0))) w.heap.size 0 sz (rows ++ xs)) → Goes P o a w m K r := by
    intro cs cap' hroom q1 q2' q3' q4'
    have hnew : (w.drew.alloc (.cells cs e (0, 0))).heap = w.heap.push (.cells cs e (0, 0)) := rfl
    have hcell : (w.drew.alloc (.cells cs e (0, 0))).heap[w.heap.size]? = some (.cells cs e (0, 0)) := by rw [hnew]; simp
    have hmul : (rows.length + xs.length) * sz ≤ cap' * sz := Nat.mul_le_mul_right _ q1
    obtain ⟨m2, rfl, x2, w2⟩ := hw.move (l := l) (i := j) (w' := w.drew.alloc (.cells cs e (0, 0))) p1 hnew rfl rfl rfl (by intro _ _ _ h; cases h <;> rfl) (o := .row e sz ((real cf).cat rows xs) MZ (capOf (real cf) cp ((real cf).len ((real cf).cat rows xs)))) (e' := ⟨w.heap.size, (rows ++ xs).length, sz, cap'⟩) rfl
     ⟨by show en.len ≤ ((rows ++ xs).length : Int); rw [g3, List.length_append]; omega, g2.symm, fun hh => by
      rcases hh with hh | hh
      ·rw [g3] at hh; simp at hh; omega
      ·omega⟩ (n := bif MZ then 0 else (rows ++ xs).length * sz) (by simp only [csize, hcell, List.length_append]; cases MZ <;> simp <;> omega) (fun hk he => by
      simp only [aL, if_true]
      refine ⟨g1, trivial, by rw [KO], by rw [KO, List.length_append]; exact q1, fun c hc => ?_, fun _ => ⟨⟨cs, hcell, Nat.le_of_eq q2'.symm⟩, q4' _ hk, by rw [KO]⟩⟩
      cases cp with
      | none => simp [capOf] at hc
      | some c' =>
       simp only [capOf] at hc
       have := g5 c' rfl
       cases hq : (real cf).jc ((real cf).len ((real cf).cat rows xs)) c' with
       | false => simp [hq] at hc
       | true =>
        have hq' : ((rows ++ xs).length : Int) ≤ c' := by simpa [real] using hq
        rw [List.length_append] at hq'
        omega)
    exact Goes.value' q3' h x2 w2 (adT _ _ _ _ _ (by omega) (kC p1))
   rcases p45 with ⟨h0, hgo, base, p4⟩ | ⟨b, cap, p4, p5⟩
   ·
    have jB := hgo (by rw [g3]; exact hk.symm)
    obtain ⟨hcap0, _⟩ := Kt jB
    have hr : rows = [] := List.eq_nil_of_length_eq_zero (by omega)
    subst hr
    obtain ⟨cs, cap', q1, q2', q3', q4'⟩ := grow hxl _ base [] 0 [] p4 rfl (by cases base <;> simp [Builtin.firstCells, loadCells, loadCellsFrom]) rfl (by simp) (by simp) (by simpa using hxl) hlim
    exact moved cs cap' (by simp only [List.length_nil]; omega) q1 q2' q3' q4'
   obtain ⟨rfl, rfl, jB⟩ := p5 (by rw [g3]; exact hk.symm)
   rw [hkn] at p4
   obtain ⟨⟨cur, g6, g7⟩, g8, g9⟩ := g jB
   by_cases hroom : rows.length + xs.length ≤ en.cap
   ·obtain ⟨news, s1, s2, s3, s4⟩ := src hxl
    have hmul : (rows.length + xs.length) * sz ≤ en.cap * sz := Nat.mul_le_mul_right _ hroom
    rw [Nat.add_mul] at hmul
    have hfit : rows.length * i.size + news.length ≤ cur.size := by rw [hisz, s3]; exact Nat.le_trans hmul g7
    have hr := zD (P := P) t t' o.type e i hu hi en.b rows.length en.cap (a.eval v) xs.length news s1 hroom g6 hfit
    rw [hisz] at hr hfit
    have um : rows.length * sz + news.length ≤ cur.toList.length := by simpa using hfit
    obtain ⟨m2, rfl, x2, w2⟩ := hw.put (l := l) (i := j) (w' := w.setRow en.b (cur.toList.take (rows.length * sz) ++ news ++ cur.toList.drop (rows.length * sz + news.length)).toArray) p1 jB
     (fun b hb => setRow_other w en.b b _ hb) (pQ g6) (by simp [World.setRow]) rfl rfl rfl (o := .row e sz ((real cf).cat rows xs) MZ (capOf (real cf) cp ((real cf).len ((real cf).cat rows xs)))) (e' := ⟨en.b, (rows ++ xs).length, sz, en.cap⟩) rfl
     ⟨by show en.len ≤ ((rows ++ xs).length : Int); rw [g3, List.length_append]; omega, g2.symm, fun hh => by
      rcases hh with hh | hh
      ·rw [g3] at hh; simp at hh; omega
      ·omega⟩ (n := bif MZ then 0 else (rows ++ xs).length * sz)
     (by rw [g9]; cases MZ <;> simp <;> (rw [Nat.add_mul]; omega))
     (by
      have hcs : csize (w.setRow en.b (cur.toList.take (rows.length * sz) ++ news ++ cur.toList.drop (rows.length * sz + news.length)).toArray) en.b = cur.size := by
       simp only [csize, setRow_heap w en.b cur _ e (0, 0) g6]
       simp only [List.size_toArray, List.length_append, List.length_take, List.length_drop]
       simp only [Array.length_toList] at um ⊢
       omega
      rw [hcs]
      cases MZ <;> simp <;> (rw [Nat.add_mul]; omega))
     (fun q hq => by
      rw [g9] at hq
      cases MZ with
      | true => simp at hq
      | false =>
       simp only [cond_false] at hq
       rw [nC g6, xX _ _ _ _ um, if_pos hq]
       simp [World.cell?, g6])
     (fun hk he => by
      simp only [aL, if_true]
      refine ⟨g1, trivial, by rw [KO], by rw [KO, List.length_append]; exact hroom, fun c hc => ?_, fun _ => ⟨⟨_, setRow_heap w en.b cur _ e (0, 0) g6, ?_⟩, ?_, by rw [KO]⟩⟩
      ·cases cp with
       | none => simp [capOf] at hc
       | some c' =>
        simp only [capOf] at hc
        cases hq : (real cf).jc ((real cf).len ((real cf).cat rows xs)) c' with
        | false => simp [hq] at hc
        | true =>
         simp only [hq, cond_true] at hc
         exact g5 c (by rw [hc])
      ·simp only [List.size_toArray, List.length_append, List.length_take, List.length_drop]
       simp only [Array.length_toList] at um ⊢
       omega
      ·refine aY.append (g8.move hk fun q hq => ?_) (Io s4 (aV.of (s2.keep hk) fun q v hv => ?_))
       ·rw [Nat.zero_add, nC g6, xX _ _ _ _ um, if_pos hq]
        simp [World.cell?, g6]
       ·have hq := (List.getElem?_eq_some_iff.1 hv).1
        rw [Nat.zero_add, nC g6, xX _ _ _ _ um, if_neg (by omega), if_pos (by omega), ← hv]
        congr 1; omega)
    exact Goes.value' (run _ _ _ p4 hr) h x2 w2 (adT _ _ _ _ _ (by omega) (kC p1))
   ·obtain ⟨k1, olds, k2, k3', k4'⟩ := g8.list
    obtain ⟨cs, cap', q1, q2', q3', q4'⟩ := grow hxl _ (some ⟨en.b, 0, none⟩) rows en.cap olds p4 rfl (run_firstCells_some w.drew _ _ _ _ _ olds (by rw [hisz]; exact k2) (fun j v hj => by rw [gI]; exact k4' j v hj)) k3' k2 k1 (by omega) hlim
    exact moved cs cap' hroom q1 q2' q3' q4'
 ·cases h
theorem yw (hΓ : cZ P Γ) (hw : aO m st w) {c : Call} (hop : o.op = .call c) (hc : c.callee = .builtin .append) {s x : PV} {t t' : Nat} {u v : Operand} (hx : c.args = #[u, v]) (hp : aj m.blk m.cl w s (a.eval u)) (hq : aj m.blk m.cl w x (a.eval v)) (jw : c.argTypes.toList = [t, t'])
  {e sz bytes e2 sz2 by2 : Nat} (hty : Γ.ty t = .slice e sz bytes) (hty' : Γ.ty t' = .slice e2 sz2 by2) {mt : Bool} {lv : Nat}
  (h : jy (real cf) Γ mt lv e sz bytes st s x K = some r) : Goes P o a w m K r := by
 obtain ⟨hu, hsz, i, hi, hisz, hib, hby⟩ := jf hΓ hty
 obtain ⟨hu', _⟩ := jf hΓ hty'
 refine sZ hΓ hw hop hc hx hp jw hty (fun kx xs hrows hkx hfit hl base n cp hn => ?_) (fun kx xs hrows hkx hfit hx0 => ?_) h
 ·refine run_append_nothing hu hu' hi base n cp hn ?_
  rcases CS hw hq hrows hkx hfit with ⟨⟨base, h1⟩, _⟩ | ⟨b, off, c, h1, _⟩
  ·exact ⟨base, 0, h1⟩
  ·rw [hl] at h1; exact ⟨_, c, h1⟩
 ·rcases CS hw hq hrows hkx hfit with ⟨h1, rfl⟩ | ⟨b, off, c, h1, h2⟩
  ·simp at hx0
  ·obtain ⟨h3, news, h4, h5, h6⟩ := h2.list
   refine ⟨news, ?_, h5, h4, h3⟩
   rw [h1]
   exact Src.ofSlice w hu' ⟨b, off, none⟩ xs.length c news h4 (fun j u hj => by rw [gI]; exact h6 j u hj) (bR.one h5)
theorem su {t t' e ty : TypeId} (ht : P.underlying t = some (.slice e)) (ht' : P.underlying t' = some .string) {i : TypeInfo} (hi : P.info? e = some i) (base : Option Addr) (n c : Nat) (hn : n ≤ c) {s : ByteArray} (hs : s.size = 0) :
  (Builtin.append_ #[t, t'] ty #[.slice base n c, .string s]).run P w = .ok (.slice base n c) w := by
 have hf : ∀ k, (Builtin.firstCells k 0 (.string s)).run P w = .ok #[] w := by
  intro k
  simp [Builtin.firstCells]
 cases base <;>
  simp [Builtin.append_, run_underlying ht, run_underlying ht', sizeOf, typeInfo, hi, Builtin.lenOf, hs, hf, loadCells, loadCellsFrom, storeCells, hn]
theorem Ip {cl : Nat → Nat} (s : ByteArray) : bR cl w (kH s).flatten (byteCells s) := by
 unfold kH byteCells
 induction s.data.toList with
 | nil => rfl
 | cons b l ih =>
  simp only [List.map_cons, List.flatten_cons, List.singleton_append, bR]
  exact ⟨_, _, rfl, by simp only [aZ], ih⟩
theorem qN (hΓ : cZ P Γ) (hw : aO m st w) {c : Call} (hop : o.op = .call c) (hc : c.callee = .builtin .append) {s : PV} {bs : ByteArray} {t t' : Nat} {u v : Operand} (hx : c.args = #[u, v]) (hp : aj m.blk m.cl w s (a.eval u)) (hq : a.eval v = .string bs) (jw : c.argTypes.toList = [t, t'])
  {e sz bytes : Nat} (hty : Γ.ty t = .slice e sz bytes) (hty' : Γ.ty t' = .str) {mt : Bool} {lv : Nat}
  (h : jy (real cf) Γ mt lv e sz bytes st s (.d (.sl (kH bs) (some []))) K = some r) : Goes P o a w m K r := by
 obtain ⟨hu, hsz, i, hi, hisz, hib, hby⟩ := jf hΓ hty
 have hu' : P.underlying t' = some .string := by
  have := hΓ.ty t'
  simp only [kD, hty'] at this
  exact this
 have hlen : (kH bs).length = bs.size := by
  unfold kH
  rw [List.length_map, Array.length_toList]; rfl
 have hxs : ∀ kx xs, rowsOf (real cf) st (.d (.sl (kH bs) (some []))) = some (kx, xs) → xs = kH bs := by
  intro kx xs h
  simp only [rowsOf, Option.some.injEq, Prod.mk.injEq] at h
  exact h.2.symm
 refine sZ hΓ hw hop hc hx hp jw hty (fun kx xs hrows hkx hfit hl base n cp hn => ?_) (fun kx xs hrows hkx hfit hx0 => ?_) h
 ·obtain rfl := hxs kx xs hrows
  rw [hq]
  exact su hu hu' hi base n cp hn (by omega)
 ·obtain rfl := hxs kx xs hrows
  obtain ⟨f1, _⟩ := tY hfit
  have h1 : sz = 1 := by
   cases hr : kH bs with
   | nil => rw [hr] at hx0; cases hx0
   | cons r0 l =>
    have h2 := f1 r0 (by rw [hr]; simp)
    have h3 : r0 ∈ kH bs := by rw [hr]; simp
    unfold kH at h3
    obtain ⟨b, _, rfl⟩ := List.mem_map.1 h3
    simpa using h2.symm
  subst h1
  rw [hq, hlen]
  exact ⟨byteCells bs, Src.ofString w hu' bs, Ip bs, by rw [byteCells_length, Nat.mul_one], f1⟩
theorem KP (hΓ : cZ P Γ) (he : aM m w ρ a) (hw : aO m st w) {c : Call} (hop : o.op = .call c) (hc : c.callee = .builtin .append) {s x : PV} {t t' : Nat} (hv : evs ρ c.args.toList = [s, x]) (jw : c.argTypes.toList = [t, t'])
  {e sz bytes e2 sz2 by2 : Nat} (hty : Γ.ty t = .slice e sz bytes) (hty' : Γ.ty t' = .slice e2 sz2 by2) {mt : Bool} {lv : Nat} {own : Option Nat}
  (h : jh (real cf) Γ own mt lv e sz bytes st s x K = some r) : Goes P o a w m K r := by
 unfold jh at h
 obtain ⟨u, v, hx, h1, h2⟩ := uD he hv
 have hp := bV he u
 have hq := bV he v
 rw [h1] at hp; rw [h2] at hq
 split at h
 ·rename_i own
  cases hl : fQ st 0 with
  | false => simp [hl] at h
  | true =>
   simp only [hl, cond_true, kY] at h
   have hsz := (jf hΓ hty).2.1
   obtain ⟨m2, rfl, x2, w2, e2⟩ := hw.Bv (l := 0) (iT hl) hsz mt none (ty := e) (by intro c hc; cases hc)
   refine Goes.ext x2 (yw hΓ w2 hop hc hx ?_ (hq.ext x2) jw hty hty' h)
   simp only [aj, aZ] at hp ⊢
   refine ⟨_, e2, Int.le_refl _, Int.le_refl _, .inl ⟨trivial, fun _ => jK rfl hsz, ?_⟩⟩
   rcases hp with ⟨h1, _, _⟩ | ⟨sz, b, o, cap, h1, h2, h3, h4, h5⟩
   ·exact h1
   ·simp only [lD, List.length_nil, Nat.sub_zero] at h5
    have : cap = 0 := h5.1.symm
    subst this
    exact ⟨_, by simpa using h1⟩
 ·exact yw hΓ hw hop hc hx hp hq jw hty hty' h
theorem Bg (hΓ : cZ P Γ) (he : aM m w ρ a) (hw : aO m st w) {c : Call} (hop : o.op = .call c) (hc : c.callee = .builtin .append) {s : PV} {bs : ByteArray} {t t' : Nat} (hv : evs ρ c.args.toList = [s, .d (.str bs)]) (jw : c.argTypes.toList = [t, t'])
  {e sz bytes : Nat} (hty : Γ.ty t = .slice e sz bytes) (hty' : Γ.ty t' = .str) {mt : Bool} {lv : Nat} {own : Option Nat}
  (h : jh (real cf) Γ own mt lv e sz bytes st s (.d (.sl (kH bs) (some []))) K = some r) : Goes P o a w m K r := by
 unfold jh at h
 obtain ⟨u, v, hx, h1, h2⟩ := uD he hv
 have hp := bV he u
 have hq := bV he v
 rw [h1] at hp; rw [h2] at hq
 have hq : a.eval v = .string bs := by simpa only [aj, aZ] using hq
 split at h
 ·rename_i own
  cases hl : fQ st 0 with
  | false => simp [hl] at h
  | true =>
   simp only [hl, cond_true, kY] at h
   have hsz := (jf hΓ hty).2.1
   obtain ⟨m2, rfl, x2, w2, e2⟩ := hw.Bv (l := 0) (iT hl) hsz mt none (ty := e) (by intro c hc; cases hc)
   refine Goes.ext x2 (qN hΓ w2 hop hc hx ?_ hq jw hty hty' h)
   simp only [aj, aZ] at hp ⊢
   refine ⟨_, e2, Int.le_refl _, Int.le_refl _, .inl ⟨trivial, fun _ => jK rfl hsz, ?_⟩⟩
   rcases hp with ⟨h1, _, _⟩ | ⟨sz, b, o, cap, h1, h2, h3, h4, h5⟩
   ·exact h1
   ·simp only [lD, List.length_nil, Nat.sub_zero] at h5
    have : cap = 0 := h5.1.symm
    subst this
    exact ⟨_, by simpa using h1⟩
 ·exact qN hΓ hw hop hc hx hp hq jw hty hty' h
theorem FU : ∀ {st : St} {l i : Nat} {o : Obj}, look st l i = some o → bJ st l i o = st
 | fr :: r, 0, i, o, h => by
  simp only [look] at h
  simp only [bJ]
  obtain ⟨h1, h2⟩ := List.getElem?_eq_some_iff.1 h
  rw [← h2, List.set_getElem_self]
 | fr :: r, l + 1, i, o, h => by
  simp only [look] at h
  simp only [bJ, FU h]
 | [], _, _, _, h => by simp [look] at h
theorem NM (hΓ : cZ P Γ) (he : aM m w ρ a) (hw : aO m st w) {c : Call} (hop : o.op = .call c) (hc : c.callee = .builtin .clear) {l i : Nat} {k lo : Int} {t : Nat} (hv : evs ρ c.args.toList = [.tail l i k lo]) (ht : c.argTypes.toList = [t])
  (h : (match Γ.ty t with
    | .slice e sz' _ => match look st l i with
     | some (.row ty sz rows true cap) => bif Nat.beq sz sz' then bif Nat.beq (Γ.zero e).length sz then bif (real cf).ieq ((real cf).len rows) k then
       (real cf).BX rows 0 lo fun a => (real cf).Ko (Γ.zero e) ((real cf).sub k lo) fun z _ => (real cf).BU a z fun rows' _ => K (.pG []) (bJ st l i (.row ty sz rows' true cap)) else none else none else none
     | _ => none
    | _ => none) = some r) : Goes P o a w m K r := by
 simp only [kX, rQ, jk] at h
 obtain ⟨x, hx, hxv⟩ := CO he hv
 have jw := zC ht
 have hp := bV he x
 rw [hxv] at hp
 simp only [aj] at hp
 obtain ⟨en, p1, p2, p3, p4, p, c0, hpv, adU⟩ := hp
 split at h
 rotate_left
 ·cases h
 rename_i e sz' vX hty
 obtain ⟨hu, hsz0, inf, hi1, hi2, _⟩ := jf hΓ hty
 split at h
 rotate_left
 ·cases h
 rename_i ty sz rows cap hl
 cases b1 : Nat.beq sz sz' with
 | false => simp [b1] at h
 | true =>
 cases b2 : Nat.beq (Γ.zero e).length sz with
 | false => simp [b1, b2] at h
 | true =>
 cases b3 : (real cf).ieq ((real cf).len rows) k with
 | false => simp [b1, b2, b3] at h
 | true =>
 simp only [b1, b2, b3, cond_true] at h
 obtain rfl := Nat.eq_of_beq_eq_true b1
 have hz := Nat.eq_of_beq_eq_true b2
 have hk : (rows.length : Int) = k := by simpa [real] using b3
 obtain ⟨en', g0, g⟩ := hw.st.je hl
 rw [p1] at g0; cases g0
 simp only [aL] at g
 obtain ⟨g1, g2, g3, g4, g5, g⟩ := g
 have hrows : (real cf).cat ((real cf).cut rows 0 lo) ((real cf).fill (Γ.zero e) ((real cf).sub k lo)) = rows.take lo.toNat ++ List.replicate (k - lo).toNat (Γ.zero e) := by simp [real]
 rw [hrows] at h
 obtain ⟨inf', z, z1, z2, z3, z4, z5, _⟩ := hΓ.zero e (by intro hc; rw [hc] at hz; simp at hz; omega)
 rw [hi1] at z1; cases z1
 have hzs : z.cells.size = sz := by rw [← hz, ← z3, ← z4]; simp
 rcases Int.lt_or_le lo k with hlt | hge
 ·have hpp := adU hlt (by omega)
  have jB : en.gone = false := lg (by omega)
  obtain ⟨⟨cur, g6, g7⟩, g8, g9⟩ := g jB
  have hn : (k - lo).toNat = rows.length - lo.toNat := by omega
  have ahO : lo.toNat ≤ rows.length := by omega
  have hzc : (Builtin.zeroCells z.cells (k - lo).toNat).toList = (List.replicate (k - lo).toNat z.cells.toList).flatten := by
   have := FK z.cells (k - lo).toNat (by omega)
   rw [← this]
   rfl
  have hzl : ((List.replicate (k - lo).toNat z.cells.toList).flatten).length = (k - lo).toNat * sz := by rw [uo]; simp [hzs]
  have hcap : rows.length * sz ≤ en.cap * sz := Nat.mul_le_mul_right _ g4
  have hmul : lo.toNat * sz + (k - lo).toNat * sz = rows.length * sz := by rw [← Nat.add_mul]; congr 1; omega
  have hone : ∀ v ∈ (List.replicate (k - lo).toNat z.cells.toList).flatten, v.oneCell' = true := by
   intro v hv
   obtain ⟨l, hl1, hl2⟩ := List.mem_flatten.1 hv
   rw [(List.mem_replicate.1 hl1).2] at hl2
   exact (aK.cells (bl := m.blk) (z5 m.cl w)).one v hl2
  have hst := run_storeCells_at P en.b (lo.toNat * sz) ty _ 0 cur w g6 (by rw [hzl]; simpa using (by omega : lo.toNat * sz + (k - lo).toNat * sz ≤ cur.size)) hone
  simp only [Nat.add_zero] at hst
  have hrun : (execOp a.eval o).run P w = .ok (.value (.tuple #[])) (w.setRow en.b (cur.toList.take (lo.toNat * sz) ++ (List.replicate (k - lo).toNat z.cells.toList).flatten ++ cur.toList.drop (lo.toNat * sz + ((List.replicate (k - lo).toNat z.cells.toList).flatten).length)).toArray) := by
   have hne : (k - lo).toNat ≠ 0 := by omega
   rw [hpp] at hpv
   rw [g2] at hpv
   obtain ⟨nn, hnn⟩ : ∃ nn, (k - lo).toNat = nn + 1 := ⟨(k - lo).toNat - 1, by omega⟩
   rw [hnn] at hpv hst hzc ⊢
   simp [execOp, hop, resolve, hc, hx, jw, invoke, builtin, hpv, Builtin.clear_, run_underlying hu, zeroValue, typeInfo, hi1, z2, hzc, hst]
  have um : lo.toNat * sz + ((List.replicate (k - lo).toNat z.cells.toList).flatten).length ≤ cur.toList.length := by rw [hzl]; simp only [Array.length_toList]; omega
  have hcell : ∀ j, (w.setRow en.b (cur.toList.take (lo.toNat * sz) ++ (List.replicate (k - lo).toNat z.cells.toList).flatten ++ cur.toList.drop (lo.toNat * sz + ((List.replicate (k - lo).toNat z.cells.toList).flatten).length)).toArray).cell? ⟨en.b, j, none⟩ =
    if j < lo.toNat * sz then w.cell? ⟨en.b, j, none⟩ else if j < lo.toNat * sz + ((List.replicate (k - lo).toNat z.cells.toList).flatten).length then ((List.replicate (k - lo).toNat z.cells.toList).flatten)[j - lo.toNat * sz]? else w.cell? ⟨en.b, j, none⟩ := by
   intro j
   rw [nC g6, xX _ _ _ _ um]
   simp [World.cell?, g6]
  obtain ⟨m2, rfl, x2, w2⟩ := hw.put (l := l) (i := i) (w' := w.setRow en.b (cur.toList.take (lo.toNat * sz) ++ (List.replicate (k - lo).toNat z.cells.toList).flatten ++ cur.toList.drop (lo.toNat * sz + ((List.replicate (k - lo).toNat z.cells.toList).flatten).length)).toArray) p1 jB
   (fun b hb => setRow_other w en.b b _ hb) (pQ g6) (by simp [World.setRow]) rfl rfl rfl (o := .row ty sz (rows.take lo.toNat ++ List.replicate (k - lo).toNat (Γ.zero e)) true cap) (e' := en) rfl (jA.refl en) (n := 0) (by rw [g9]; exact Nat.le_refl _) (Nat.zero_le _) (fun j hj => by rw [g9] at hj; simp at hj)
   (fun hk' he' => by
    simp only [aL, if_true, cond_true]
    have hsl : (rows.take lo.toNat ++ List.replicate (k - lo).toNat (Γ.zero e)).length = rows.length := by simp; omega
    rw [hsl]
    refine ⟨g1, g2, g3, g4, g5, fun _ => ⟨⟨_, setRow_heap w en.b cur _ ty (0, 0) g6, ?_⟩, ?_, trivial⟩⟩
    ·simp only [List.size_toArray, List.length_append, List.length_take, List.length_drop, Array.length_toList] at um ⊢
     omega
    ·refine aY.append ((g8.take _).move hk' fun j hj => ?_) (zB hz _ _ fun q hq => ?_)
     ·have : (rows.take lo.toNat).length = lo.toNat := by simp; omega
      rw [this] at hj
      rw [Nat.zero_add, hcell, if_pos (by omega)]
     ·have ht : (rows.take lo.toNat).length = lo.toNat := by simp; omega
      rw [ht, Nat.zero_add]
      refine aV.of ((z5 m.cl w).keep hk') fun j v hj => ?_
      have hj1 := (List.getElem?_eq_some_iff.1 hj).1
      have hj2 : j < sz := by rw [← hzs]; simpa using hj1
      have hq2 : (q + 1) * sz ≤ (k - lo).toNat * sz := Nat.mul_le_mul_right _ hq
      rw [Nat.add_mul, Nat.one_mul] at hq2
      rw [hcell, if_neg (by omega), if_pos (by rw [hzl]; omega)]
      rw [uq (by simpa [hzs] using hsz0) _ _ (by simp [hzs]; omega)]
      have e1 : (lo.toNat * sz + q * sz + j - lo.toNat * sz) % z.cells.toList.length = j := by
       have : lo.toNat * sz + q * sz + j - lo.toNat * sz = j + sz * q := by rw [Nat.mul_comm sz q]; omega
       rw [this]
       simp only [Array.length_toList, hzs]
       rw [Nat.add_mul_mod_self_left, Nat.mod_eq_of_lt hj2]
      rw [e1]
      exact hj)
  exact Goes.value' hrun h x2 w2 (by simp only [aj, aK]; exact ⟨[], rfl, rfl⟩)
 ·have hlk : lo = k := by omega
  subst hlk
  have e1 : rows.take lo.toNat ++ List.replicate (lo - lo).toNat (Γ.zero e) = rows := by
   rw [Int.sub_self, show (0 : Int).toNat = 0 from rfl, List.replicate_zero, List.append_nil]
   exact List.take_of_length_le (by omega)
  rw [e1, FU hl] at h
  have agH : a.eval x = .slice p 0 c0 := by rw [hpv]; simp
  have hrun : (execOp a.eval o).run P w = .ok (.value (.tuple #[])) w := by
   cases p <;> simp [execOp, hop, resolve, hc, hx, jw, invoke, builtin, agH, Builtin.clear_, run_underlying hu]
  exact Goes.value hrun h hw (by simp only [aj, aK]; exact ⟨[], rfl, rfl⟩)
end
end Go.X
