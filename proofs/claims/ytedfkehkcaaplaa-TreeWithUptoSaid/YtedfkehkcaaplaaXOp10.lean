/- Parts of strings and slices; what is appended. -/
import Derived.Test.YtedfkehkcaaplaaXOp9
namespace Go.X
open Go Go.MapKept
set_option linter.unusedSectionVars false
set_option linter.unusedSimpArgs false
set_option linter.unusedVariables false
variable [fq]
theorem bS.append {cl : Nat → Nat} {w : World} {b sz : Nat} : ∀ {l k : List (List D)} {o : Nat}, bS cl w b o sz l → bS cl w b (o + l.length * sz) sz k → bS cl w b o sz (l ++ k)
 | [], k, o, _, h => by simpa using h
 | r :: l, k, o, h, hk => by
  simp only [bS, List.cons_append] at h ⊢
  refine ⟨h.1, h.2.1, bS.append h.2.2 ?_⟩
  simp only [List.length_cons, Nat.add_mul, Nat.one_mul] at hk
  rwa [Nat.add_assoc, Nat.add_comm sz]
theorem bS.take {cl : Nat → Nat} {w : World} {b sz : Nat} : ∀ {l : List (List D)} {o : Nat} (n : Nat), bS cl w b o sz l → bS cl w b o sz (l.take n)
 | l, o, 0, h => by simp [bS]
 | [], o, n + 1, h => by simp [bS]
 | r :: l, o, n + 1, h => by
  simp only [bS, List.take_succ_cons] at h ⊢
  exact ⟨h.1, h.2.1, h.2.2.take n⟩
theorem bS.drop {cl : Nat → Nat} {w : World} {b sz : Nat} : ∀ {l : List (List D)} {o : Nat} (n : Nat), bS cl w b o sz l → bS cl w b (o + n * sz) sz (l.drop n)
 | l, o, 0, h => by simpa using h
 | [], o, n + 1, h => by simp [bS]
 | r :: l, o, n + 1, h => by
  simp only [bS] at h
  have := h.2.2.drop n
  simpa [Nat.add_mul, Nat.add_assoc, Nat.add_comm sz] using this
section
variable {R : Type} {P : Program} {Γ : Tab} {cf : CF} {an : mH} {o : Oper} {a : Act} {w : World} {m : Mt} {K : PV → St → Option R} {r : R} {st : St} {ρ : Env}
def UF (d : Int) (x : Option PV) (v : Option Value) (n : Int) : Prop := (x = none ∧ v = none ∧ n = d) ∨ ∃ y k, x = some y ∧ v = some (.int k n)
theorem iw (he : bG m w ρ a) {d n : Int} {x : Option Operand} (h : Ug d (x.map (ev ρ)) = some n) : UF d (x.map (ev ρ)) (x.map a.eval) n := by
 cases x with
 | none => simp [Ug] at h; exact .inl ⟨rfl, rfl, h.symm⟩
 | some x =>
  simp only [Option.map_some] at h ⊢
  have hp := eG he x
  unfold Ug at h
  split at h
  ·rename_i h'; cases h'
  ·rename_i k n' hx
   simp only [Option.some.injEq] at hx h
   subst h
   rw [hx] at hp
   simp only [ak, bT] at hp
   exact .inr ⟨_, k, rfl, by rw [hp]⟩
  ·cases h
theorem run_sliceBound (k : IntKind) (i : Int) (y : Nat) (code : BoundsCode) (h0 : 0 ≤ i) (h1 : i ≤ y) : (Instr.sliceBound (.int k i) y code).run P w = .ok i.toNat w := by
 simp [Instr.sliceBound, asIntOf, h0, h1]
theorem pz (isS : Bool) (len cap : Nat) {lo hi : Option PV} {lo' hi' : Option Value} {l h : Int} (hl : UF 0 lo lo' l) (hh : UF len hi hi' h) (c1 : 0 ≤ l) (c2 : l ≤ h) (c3 : h ≤ cap) :
  (Instr.sliceBounds isS len cap lo' hi' none).run P w = .ok (l.toNat, h.toNat, cap) w := by
 rcases hl with ⟨_, rfl, rfl⟩ | ⟨y, k, _, rfl⟩ <;> rcases hh with ⟨_, rfl, rfl⟩ | ⟨y', k', _, rfl⟩
 ·simp [Instr.sliceBounds]
 ·cases isS <;> simp [Instr.sliceBounds, run_sliceBound k' h cap _ (by omega) c3]
 ·cases isS <;> simp [Instr.sliceBounds, run_sliceBound k l len _ c1 (by omega)]
 ·have : l ≤ h.toNat := by omega
  cases isS <;> simp [Instr.sliceBounds, run_sliceBound k' h cap _ (by omega) c3, run_sliceBound k l h.toNat _ c1 this]
theorem yj (len cap : Nat) {lo hi : Option PV} {lo' hi' : Option Value} {l h mm : Int} {k : IntKind} (hl : UF 0 lo lo' l) (hh : UF len hi hi' h) (hn : hi ≠ none) (c1 : 0 ≤ l) (c2 : l ≤ h) (c3 : h ≤ mm) (c4 : mm ≤ cap) :
  (Instr.sliceBounds true len cap lo' hi' (some (.int k mm))).run P w = .ok (l.toNat, h.toNat, mm.toNat) w := by
 have e1 : h ≤ (mm.toNat : Int) := by omega
 have e2 : l ≤ (h.toNat : Int) := by omega
 rcases hl with ⟨_, rfl, rfl⟩ | ⟨y, k1, _, rfl⟩ <;> rcases hh with ⟨h', rfl, rfl⟩ | ⟨y', k', _, rfl⟩
 ·exact absurd h' hn
 ·simp [Instr.sliceBounds, run_sliceBound k mm cap _ (by omega) c4, run_sliceBound k' h mm.toNat _ (by omega) e1]
 ·exact absurd h' hn
 ·simp [Instr.sliceBounds, run_sliceBound k mm cap _ (by omega) c4, run_sliceBound k' h mm.toNat _ (by omega) e1, run_sliceBound k1 l h.toNat _ c1 e2]
theorem yt (hΓ : fA P Γ) (he : bG m w ρ a) (hw : bI m st w) {t : TypeId} {x : Operand} {lo hi mx : Option Operand} (hop : o.op = .slice t x lo hi mx) {e sz E9 : Nat} (hty : Γ.ty t = .slice e sz E9)
  {rows : List (List D)} {ext : Option (List (List D))} (hx : ((∃ base, a.eval x = .slice base 0 0) ∧ rows = [] ∧ (∀ h, ext = some h → h = [])) ∨
   ∃ b o cap, a.eval x = .slice (some ⟨b, o, none⟩) rows.length cap ∧ rows.length ≤ cap ∧ o + rows.length * sz ≤ m.cl b ∧ bS m.cl w b o sz rows ∧ qh m.cl w b (o + rows.length * sz) sz (cap - rows.length) ext)
  (h : mV (real cf) st rows ext (lo.map (ev ρ)) (hi.map (ev ρ)) (mx.map (ev ρ)) false K = some r) : Goes P o a w m K r := by
 obtain ⟨hu, hsz, i, h2, h3, _⟩ := mX hΓ hty
 unfold mV at h
 simp only [ni, nu, pV] at h
 have Ob : ∀ (q : List (List D)) (l h : Int), 0 ≤ l → l ≤ h → h ≤ q.length → ((real cf).cut q l h).length = (h - l).toNat := by
  intro q l h c1 c2 c3
  simp [real]; omega
 have IG : ∀ {cl : Nat → Nat} {w : World} {b off : Nat} (q : List (List D)) (l h : Int), 0 ≤ l → bS cl w b off sz q → bS cl w b (off + l.toNat * sz) sz ((real cf).cut q l h) := by
  intro cl w b off q l h c1 hq
  exact (hq.take h.toNat).drop l.toNat
 have run : ∀ (b off cap : Nat) (l q : Int), a.eval x = .slice (some ⟨b, off, none⟩) rows.length cap → mx = none → UF 0 (lo.map (ev ρ)) (lo.map a.eval) l → UF rows.length (hi.map (ev ρ)) (hi.map a.eval) q → 0 ≤ l → l ≤ q → q ≤ cap →
   ∃ o', (o' = off ∨ o' = off + l.toNat * sz) ∧ ((cap : Int) ≠ l → o' = off + l.toNat * sz) ∧ (execOp a.eval o).run P w = .ok (.value (.slice (some ⟨b, o', none⟩) (q.toNat - l.toNat) (cap - l.toNat))) w := by
  intro b off cap l q hxv hm hl hh c1 c2 c3
  subst hm
  have hb := pz (P := P) (w := w) true rows.length cap hl hh c1 c2 c3
  by_cases hml : cap = l.toNat
  ·refine ⟨off, .inl rfl, fun hc => by omega, ?_⟩
   subst hml
   simp [execOp, hop, hxv, Instr.sliceAt, Instr.slice, run_underlying hu, hb, sizeOf, typeInfo, h2]
  ·refine ⟨off + l.toNat * sz, .inr rfl, fun _ => rfl, ?_⟩
   simp [execOp, hop, hxv, Instr.sliceAt, Instr.slice, run_underlying hu, hb, sizeOf, typeInfo, h2, h3, hml, jQ]
 have agK : ∀ (base : Option Addr) (l q : Int), a.eval x = .slice base 0 0 → mx = none → UF 0 (lo.map (ev ρ)) (lo.map a.eval) l → UF (0 : Nat) (hi.map (ev ρ)) (hi.map a.eval) q → 0 ≤ l → l ≤ q → q ≤ (0 : Nat) →
   (execOp a.eval o).run P w = .ok (.value (.slice base 0 0)) w := by
  intro base l q hxv hm hl hh c1 c2 c3
  subst hm
  have hb := pz (P := P) (w := w) true 0 0 hl hh c1 c2 c3
  have hl0 : l = 0 := by omega
  have hh0 : q = 0 := by omega
  rw [hl0, hh0] at hb
  simp [execOp, hop, hxv, Instr.sliceAt, Instr.slice, run_underlying hu, hb, sizeOf, typeInfo, h2]
 split at h
 ·
  rename_i l rX hlo hhi hmx
  have hm : mx = none := by cases mx <;> simp at hmx ⊢
  cases b1 : (real cf).mR 0 l with
  | false => simp [b1] at h
  | true =>
  cases b2 : (real cf).mR l rX with
  | false => simp [b1, b2] at h
  | true =>
  cases b3 : (real cf).mR rX ((real cf).len rows) with
  | false => simp [b1, b2, b3] at h
  | true =>
  simp only [b1, b2, b3, cond_true] at h
  have c1 : 0 ≤ l := by simpa [real] using b1
  have c2 : l ≤ rX := by simpa [real] using b2
  have c3 : rX ≤ rows.length := by simpa [real] using b3
  have hl := iw he hlo
  have hh := iw he hhi
  rcases hx with ⟨⟨base, hxv⟩, rfl, _⟩ | ⟨b, off, cap, hxv, g1, g2, g3, g4⟩
  ·exact Goes.value (agK base l rX hxv hm hl hh c1 c2 (by simpa using c3)) h hw (by simp only [ak, bT]; exact .inl ⟨⟨base, rfl⟩, by simp [real], by simp⟩)
  ·obtain ⟨o', q1, q2, q3⟩ := run b off cap l rX hxv hm hl hh c1 c2 (by omega)
   have hcl := Ob rows l rX c1 c2 c3
   have hmul : rX.toNat * sz ≤ rows.length * sz := Nat.mul_le_mul_right _ (by omega)
   have hsub : (rX - l).toNat = rX.toNat - l.toNat := by omega
   have hsum : l.toNat * sz + (rX - l).toNat * sz = rX.toNat * sz := by rw [← Nat.add_mul]; congr 1; omega
   refine Goes.value q3 h hw ?_
   simp only [ak, bT]
   refine .inr ⟨sz, b, o', cap - l.toNat, by rw [hcl, hsub], by rw [hcl]; omega, ?_, ?_, by simp only [qh]⟩
   ·rw [hcl]
    rcases q1 with rfl | rfl <;> omega
   ·by_cases hc : (cap : Int) = l
    ·have : (real cf).cut rows l rX = [] := List.eq_nil_of_length_eq_zero (by rw [hcl]; omega)
     rw [this]; simp [bS]
    ·rw [q2 hc]; exact IG rows l rX c1 g3
 ·
  rename_i l rX hid hlo hhi hmx
  have hm : mx = none := by cases mx <;> simp at hmx ⊢
  cases b1 : (real cf).mR 0 l with
  | false => simp [b1] at h
  | true =>
  cases b2 : (real cf).mR l rX with
  | false => simp [b1, b2] at h
  | true =>
  cases b3 : (real cf).mR rX ((real cf).len ((real cf).cat rows hid)) with
  | false => simp [b1, b2, b3] at h
  | true =>
  simp only [b1, b2, b3, cond_true] at h
  have c1 : 0 ≤ l := by simpa [real] using b1
  have c2 : l ≤ rX := by simpa [real] using b2
  have c3 : rX ≤ (rows ++ hid).length := by simpa [real] using b3
  have hl := iw he hlo
  have hh := iw he hhi
  rcases hx with ⟨⟨base, hxv⟩, rfl, hn⟩ | ⟨b, off, cap, hxv, g1, g2, g3, g4⟩
  ·have := hn hid rfl
   subst this
   exact Goes.value (agK base l rX hxv hm hl hh c1 c2 (by simpa using c3)) h hw (by simp only [ak, bT]; exact .inl ⟨⟨base, rfl⟩, by simp [real], by simp [real]⟩)
  ·simp only [qh] at g4
   obtain ⟨g5, g6, g7⟩ := g4
   have hall : bS m.cl w b off sz (rows ++ hid) := g3.append g7
   have hlen : (rows ++ hid).length = cap := by rw [List.length_append]; omega
   obtain ⟨o', q1, q2, q3⟩ := run b off cap l rX hxv hm hl hh c1 c2 (by omega)
   have hcl := Ob (rows ++ hid) l rX c1 c2 c3
   have afB := Ob (rows ++ hid) rX ((real cf).len ((real cf).cat rows hid)) (by omega) (by simpa [real] using c3) (by simp [real])
   have hl2 : (real cf).len ((real cf).cat rows hid) = cap := by show ((rows ++ hid).length : Int) = cap; rw [hlen]
   have hmul : rX.toNat * sz ≤ cap * sz := Nat.mul_le_mul_right _ (by omega)
   have aAo : off + cap * sz ≤ m.cl b := by rw [← hlen, List.length_append, Nat.add_mul]; omega
   have hsub : (rX - l).toNat = rX.toNat - l.toNat := by omega
   have hsum : l.toNat * sz + (rX - l).toNat * sz = rX.toNat * sz := by rw [← Nat.add_mul]; congr 1; omega
   have avW : rX.toNat * sz + ((cap : Int) - rX).toNat * sz = cap * sz := by rw [← Nat.add_mul]; congr 1; omega
   have XU : (real cf).cat rows hid = rows ++ hid := rfl
   refine Goes.value q3 h hw ?_
   simp only [ak, bT]
   rw [hl2] at afB ⊢
   rw [XU]
   refine .inr ⟨sz, b, o', cap - l.toNat, by rw [hcl, hsub], by rw [hcl]; omega, ?_, ?_, ?_⟩
   ·rw [hcl]
    rcases q1 with rfl | rfl <;> omega
   ·by_cases hc : (cap : Int) = l
    ·have : (real cf).cut (rows ++ hid) l rX = [] := List.eq_nil_of_length_eq_zero (by rw [hcl]; omega)
     rw [this]; simp [bS]
    ·rw [q2 hc]; exact IG _ l rX c1 hall
   ·simp only [qh]
    rw [hcl, afB]
    by_cases hc : (cap : Int) = l
    ·have : (real cf).cut (rows ++ hid) rX cap = [] := List.eq_nil_of_length_eq_zero (by rw [afB]; omega)
     rw [this]
     refine ⟨by omega, ?_, by simp [bS]⟩
     have z1 : (rX - l).toNat = 0 := by omega
     have z2 : ((cap : Int) - rX).toNat = 0 := by omega
     rw [z1, z2]
     rcases q1 with rfl | rfl <;> omega
    ·rw [q2 hc]
     refine ⟨by omega, by omega, ?_⟩
     have := IG (rows ++ hid) rX cap (by omega) hall
     rwa [Nat.add_assoc, hsum]
 ·
  rename_i l rX k mm hlo hhi hmx
  split at h
  ·cases h
  ·rename_i hv hhv
   cases b1 : (real cf).mR 0 l with
   | false => simp [b1] at h
   | true =>
   cases b2 : (real cf).mR l rX with
   | false => simp [b1, b2] at h
   | true =>
   cases b3 : (real cf).mR rX mm with
   | false => simp [b1, b2, b3] at h
   | true =>
   cases b4 : (real cf).mR mm ((real cf).len rows) with
   | false => simp [b1, b2, b3, b4] at h
   | true =>
   simp only [b1, b2, b3, b4, cond_true] at h
   have c1 : 0 ≤ l := by simpa [real] using b1
   have c2 : l ≤ rX := by simpa [real] using b2
   have c3 : rX ≤ mm := by simpa [real] using b3
   have c4 : mm ≤ rows.length := by simpa [real] using b4
   have hl := iw he hlo
   have hh := iw he hhi
   have hmm : ∃ k', mx.map a.eval = some (.int k' mm) := by
    cases mx with
    | none => simp at hmx
    | some y =>
     simp only [Option.map_some, Option.some.injEq] at hmx
     have hp := eG he y
     rw [hmx] at hp
     simp only [ak, bT] at hp
     exact ⟨k, by simp [hp]⟩
   obtain ⟨k', hmm⟩ := hmm
   rcases hx with ⟨⟨base, hxv⟩, rfl, hn⟩ | ⟨b, off, cap, hxv, g1, g2, g3, g4⟩
   ·have hb := yj (P := P) (w := w) 0 0 (k := k') hl hh (by rw [hhv]; simp) c1 c2 c3 (by simpa using c4)
    have z1 : l = 0 := by simp at c4; omega
    have z2 : rX = 0 := by simp at c4; omega
    have z3 : mm = 0 := by simp at c4; omega
    subst z1; subst z2; subst z3
    refine Goes.value (v := .slice base 0 0) (by simp [execOp, hop, hxv, Instr.sliceAt, Instr.slice, run_underlying hu, hmm, hb, sizeOf, typeInfo, h2]) h hw ?_
    simp only [ak, bT]
    exact .inl ⟨⟨base, rfl⟩, by simp [real], by simp [real]⟩
   ·have hb := yj (P := P) (w := w) rows.length cap (k := k') hl hh (by rw [hhv]; simp) c1 c2 c3 (by omega)
    have hcl := Ob rows l rX c1 c2 (by omega)
    have afB := Ob rows rX mm (by omega) c3 c4
    have hmul : mm.toNat * sz ≤ rows.length * sz := Nat.mul_le_mul_right _ (by omega)
    have hsub : (rX - l).toNat = rX.toNat - l.toNat := by omega
    have hsum : l.toNat * sz + (rX - l).toNat * sz = rX.toNat * sz := by rw [← Nat.add_mul]; congr 1; omega
    have avW : rX.toNat * sz + (mm - rX).toNat * sz = mm.toNat * sz := by rw [← Nat.add_mul]; congr 1; omega
    by_cases hml : mm.toNat = l.toNat
    ·have hrun : (execOp a.eval o).run P w = .ok (.value (.slice (some ⟨b, off, none⟩) (rX.toNat - l.toNat) (mm.toNat - l.toNat))) w := by
      simp [execOp, hop, hxv, Instr.sliceAt, Instr.slice, run_underlying hu, hmm, hb, sizeOf, typeInfo, h2, hml]
     refine Goes.value hrun h hw ?_
     have e1 : (real cf).cut rows l rX = [] := List.eq_nil_of_length_eq_zero (by rw [hcl]; omega)
     have e2 : (real cf).cut rows rX mm = [] := List.eq_nil_of_length_eq_zero (by rw [afB]; omega)
     simp only [ak, bT, e1, e2]
     refine .inr ⟨sz, b, off, mm.toNat - l.toNat, by simp; omega, by simp, by simp; omega, by simp [bS], ?_⟩
     simp only [qh, bS, List.length_nil]
     exact ⟨by omega, by omega, trivial⟩
    ·have hrun : (execOp a.eval o).run P w = .ok (.value (.slice (some ⟨b, off + l.toNat * sz, none⟩) (rX.toNat - l.toNat) (mm.toNat - l.toNat))) w := by
      simp [execOp, hop, hxv, Instr.sliceAt, Instr.slice, run_underlying hu, hmm, hb, sizeOf, typeInfo, h2, h3, hml, jQ]
     refine Goes.value hrun h hw ?_
     simp only [ak, bT]
     refine .inr ⟨sz, b, off + l.toNat * sz, mm.toNat - l.toNat, by rw [hcl, hsub], by rw [hcl]; omega, by rw [hcl]; omega, IG rows l rX c1 g3, ?_⟩
     simp only [qh]
     rw [hcl, afB]
     refine ⟨by omega, by omega, ?_⟩
     have := IG rows rX mm (by omega) g3
     rwa [Nat.add_assoc, hsum]
 ·cases h
end
end Go.X
