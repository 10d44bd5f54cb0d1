/- T -/
import Derived.Test.YtedfkehkcaaplaaXOp9
namespace Go.X
open Go Go.MapKept
set_option linter.unusedVariables false
variable [bY]
theorem aY.append {cl : Nat → Nat} {w : World} {b sz : Nat} : ∀ {l k : List (List D)} {o : Nat}, aY cl w b o sz l → aY cl w b (o + l.length * sz) sz k → aY cl w b o sz (l ++ k)
 | [], k, o, _, h => by simpa using h
 | r :: l, k, o, h, hk => by
  simp only [aY, List.cons_append] at h ⊢
  refine ⟨h.1, h.2.1, aY.append h.2.2 ?_⟩
  simp only [List.length_cons, Nat.add_mul, Nat.one_mul] at hk
  rwa [Nat.add_assoc, Nat.add_comm sz]
theorem aY.take {cl : Nat → Nat} {w : World} {b sz : Nat} : ∀ {l : List (List D)} {o : Nat} (n : Nat), aY cl w b o sz l → aY cl w b o sz (l.take n)
 | l, o, 0, h => by simp [aY]
 | [], o, n + 1, h => by simp [aY]
 | r :: l, o, n + 1, h => by
  simp only [aY, List.take_succ_cons] at h ⊢
  exact ⟨h.1, h.2.1, h.2.2.take n⟩
theorem aY.drop {cl : Nat → Nat} {w : World} {b sz : Nat} : ∀ {l : List (List D)} {o : Nat} (n : Nat), aY cl w b o sz l → aY cl w b (o + n * sz) sz (l.drop n)
 | l, o, 0, h => by simpa using h
 | [], o, n + 1, h => by simp [aY]
 | r :: l, o, n + 1, h => by
  simp only [aY] at h
  have := h.2.2.drop n
  simpa [Nat.add_mul, Nat.add_assoc, Nat.add_comm sz] using this
section
variable {R : Type} {P : Program} {Γ : Tab} {cf : CF} {an : iG} {o : Oper} {a : Act} {w : World} {m : Mt} {K : PV → St → Option R} {r : R} {st : St} {ρ : Env}
def Im (d : Int) (x : Option PV) (v : Option Value) (n : Int) : Prop := (x = none ∧ v = none ∧ n = d) ∨ ∃ y k, x = some y ∧ v = some (.int k n)
theorem eZ (he : aM m w ρ a) {d n : Int} {x : Option Operand} (h : Hf d (x.map (ev ρ)) = some n) : Im d (x.map (ev ρ)) (x.map a.eval) n := by
 cases x with
 | none => simp [Hf] at h; exact .inl ⟨rfl, rfl, h.symm⟩
 | some x =>
  simp only [Option.map_some] at h ⊢
  have hp := bV he x
  unfold Hf at h
  split at h
  ·rename_i h'; cases h'
  ·rename_i k n' hx
   simp only [Option.some.injEq] at hx h
   subst h
   rw [hx] at hp
   simp only [aj, aZ] at hp
   exact .inr ⟨_, k, rfl, by rw [hp]⟩
  ·cases h
theorem run_sliceBound (k : IntKind) (i : Int) (y : Nat) (code : BoundsCode) (h0 : 0 ≤ i) (h1 : i ≤ y) : (Instr.sliceBound (.int k i) y code).run P w = .ok i.toNat w := by
 simp [Instr.sliceBound, asIntOf, h0, h1]
theorem kN (isS : Bool) (len cap : Nat) {lo hi : Option PV} {lo' hi' : Option Value} {l h : Int} (hl : Im 0 lo lo' l) (hh : Im len hi hi' h) (c1 : 0 ≤ l) (c2 : l ≤ h) (c3 : h ≤ cap) :
  (Instr.sliceBounds isS len cap lo' hi' none).run P w = .ok (l.toNat, h.toNat, cap) w := by
 rcases hl with ⟨_, rfl, rfl⟩ | ⟨y, k, _, rfl⟩ <;> rcases hh with ⟨_, rfl, rfl⟩ | ⟨y', k', _, rfl⟩
 ·simp [Instr.sliceBounds]
 ·cases isS <;> simp [Instr.sliceBounds, run_sliceBound k' h cap _ (by omega) c3]
 ·cases isS <;> simp [Instr.sliceBounds, run_sliceBound k l len _ c1 (by omega)]
 ·have : l ≤ h.toNat := by omega
  cases isS <;> simp [Instr.sliceBounds, run_sliceBound k' h cap _ (by omega) c3, run_sliceBound k l h.toNat _ c1 this]
theorem pR (len cap : Nat) {lo hi : Option PV} {lo' hi' : Option Value} {l h mm : Int} {k : IntKind} (hl : Im 0 lo lo' l) (hh : Im len hi hi' h) (hn : hi ≠ none) (c1 : 0 ≤ l) (c2 : l ≤ h) (c3 : h ≤ mm) (c4 : mm ≤ cap) :
  (Instr.sliceBounds true len cap lo' hi' (some (.int k mm))).run P w = .ok (l.toNat, h.toNat, mm.toNat) w := by
 have e1 : h ≤ (mm.toNat : Int) := by omega
 have e2 : l ≤ (h.toNat : Int) := by omega
 rcases hl with ⟨_, rfl, rfl⟩ | ⟨y, k1, _, rfl⟩ <;> rcases hh with ⟨h', rfl, rfl⟩ | ⟨y', k', _, rfl⟩
 ·exact absurd h' hn
 ·simp [Instr.sliceBounds, run_sliceBound k mm cap _ (by omega) c4, run_sliceBound k' h mm.toNat _ (by omega) e1]
 ·exact absurd h' hn
 ·simp [Instr.sliceBounds, run_sliceBound k mm cap _ (by omega) c4, run_sliceBound k' h mm.toNat _ (by omega) e1, run_sliceBound k1 l h.toNat _ c1 e2]
theorem pU (hΓ : cZ P Γ) (he : aM m w ρ a) (hw : aO m st w) {t : TypeId} {x : Operand} {lo hi mx : Option Operand} (hop : o.op = .slice t x lo hi mx) {e sz vX : Nat} (hty : Γ.ty t = .slice e sz vX)
  {rows : List (List D)} {ext : Option (List (List D))} (hx : ((∃ base, a.eval x = .slice base 0 0) ∧ rows = [] ∧ (∀ h, ext = some h → h = [])) ∨
   ∃ b o cap, a.eval x = .slice (some ⟨b, o, none⟩) rows.length cap ∧ rows.length ≤ cap ∧ o + rows.length * sz ≤ m.cl b ∧ aY m.cl w b o sz rows ∧ lD m.cl w b (o + rows.length * sz) sz (cap - rows.length) ext)
  (h : jd (real cf) st rows ext (lo.map (ev ρ)) (hi.map (ev ρ)) (mx.map (ev ρ)) false K = some r) : Goes P o a w m K r := by
 obtain ⟨hu, hsz, i, h2, h3, _⟩ := jf hΓ hty
 unfold jd at h
 simp only [ji, jk, kX] at h
 have CP : ∀ (q : List (List D)) (l h : Int), 0 ≤ l → l ≤ h → h ≤ q.length → ((real cf).cut q l h).length = (h - l).toNat := by
  intro q l h c1 c2 c3
  simp [real]; omega
 have yu : ∀ {cl : Nat → Nat} {w : World} {b off : Nat} (q : List (List D)) (l h : Int), 0 ≤ l → aY cl w b off sz q → aY cl w b (off + l.toNat * sz) sz ((real cf).cut q l h) := by
  intro cl w b off q l h c1 hq
  exact (hq.take h.toNat).drop l.toNat
 have run : ∀ (b off cap : Nat) (l q : Int), a.eval x = .slice (some ⟨b, off, none⟩) rows.length cap → mx = none → Im 0 (lo.map (ev ρ)) (lo.map a.eval) l → Im rows.length (hi.map (ev ρ)) (hi.map a.eval) q → 0 ≤ l → l ≤ q → q ≤ cap →
   ∃ o', (o' = off ∨ o' = off + l.toNat * sz) ∧ ((cap : Int) ≠ l → o' = off + l.toNat * sz) ∧ (execOp a.eval o).run P w = .ok (.value (.slice (some ⟨b, o', none⟩) (q.toNat - l.toNat) (cap - l.toNat))) w := by
  intro b off cap l q hxv hm hl hh c1 c2 c3
  subst hm
  have hb := kN (P := P) (w := w) true rows.length cap hl hh c1 c2 c3
  by_cases hml : cap = l.toNat
  ·refine ⟨off, .inl rfl, fun hc => by omega, ?_⟩
   subst hml
   simp [execOp, hop, hxv, Instr.sliceAt, Instr.slice, run_underlying hu, hb, sizeOf, typeInfo, h2]
  ·refine ⟨off + l.toNat * sz, .inr rfl, fun _ => rfl, ?_⟩
   simp [execOp, hop, hxv, Instr.sliceAt, Instr.slice, run_underlying hu, hb, sizeOf, typeInfo, h2, h3, hml, gI]
 have TB : ∀ (base : Option Addr) (l q : Int), a.eval x = .slice base 0 0 → mx = none → Im 0 (lo.map (ev ρ)) (lo.map a.eval) l → Im (0 : Nat) (hi.map (ev ρ)) (hi.map a.eval) q → 0 ≤ l → l ≤ q → q ≤ (0 : Nat) →
   (execOp a.eval o).run P w = .ok (.value (.slice base 0 0)) w := by
  intro base l q hxv hm hl hh c1 c2 c3
  subst hm
  have hb := kN (P := P) (w := w) true 0 0 hl hh c1 c2 c3
  have hl0 : l = 0 := by omega
  have hh0 : q = 0 := by omega
  rw [hl0, hh0] at hb
  simp [execOp, hop, hxv, Instr.sliceAt, Instr.slice, run_underlying hu, hb, sizeOf, typeInfo, h2]
 split at h
 ·
  rename_i l mJ hlo hhi hmx
  have hm : mx = none := by cases mx <;> simp at hmx ⊢
  cases b1 : (real cf).jc 0 l with
  | false => simp [b1] at h
  | true =>
  cases b2 : (real cf).jc l mJ with
  | false => simp [b1, b2] at h
  | true =>
  cases b3 : (real cf).jc mJ ((real cf).len rows) with
  | false => simp [b1, b2, b3] at h
  | true =>
  simp only [b1, b2, b3, cond_true] at h
  have c1 : 0 ≤ l := by simpa [real] using b1
  have c2 : l ≤ mJ := by simpa [real] using b2
  have c3 : mJ ≤ rows.length := by simpa [real] using b3
  have hl := eZ he hlo
  have hh := eZ he hhi
  rcases hx with ⟨⟨base, hxv⟩, rfl, _⟩ | ⟨b, off, cap, hxv, g1, g2, g3, g4⟩
  ·exact Goes.value (TB base l mJ hxv hm hl hh c1 c2 (by simpa using c3)) h hw (by simp only [aj, aZ]; exact .inl ⟨⟨base, rfl⟩, by simp [real], by simp⟩)
  ·obtain ⟨o', q1, q2, q3⟩ := run b off cap l mJ hxv hm hl hh c1 c2 (by omega)
   have hcl := CP rows l mJ c1 c2 c3
   have hmul : mJ.toNat * sz ≤ rows.length * sz := Nat.mul_le_mul_right _ (by omega)
   have hsub : (mJ - l).toNat = mJ.toNat - l.toNat := by omega
   have hsum : l.toNat * sz + (mJ - l).toNat * sz = mJ.toNat * sz := by rw [← Nat.add_mul]; congr 1; omega
   refine Goes.value q3 h hw ?_
   simp only [aj, aZ]
   refine .inr ⟨sz, b, o', cap - l.toNat, by rw [hcl, hsub], by rw [hcl]; omega, ?_, ?_, by simp only [lD]⟩
   ·rw [hcl]
    rcases q1 with rfl | rfl <;> omega
   ·by_cases hc : (cap : Int) = l
    ·have : (real cf).cut rows l mJ = [] := List.eq_nil_of_length_eq_zero (by rw [hcl]; omega)
     rw [this]; simp [aY]
    ·rw [q2 hc]; exact yu rows l mJ c1 g3
 ·
  rename_i l mJ hid hlo hhi hmx
  have hm : mx = none := by cases mx <;> simp at hmx ⊢
  cases b1 : (real cf).jc 0 l with
  | false => simp [b1] at h
  | true =>
  cases b2 : (real cf).jc l mJ with
  | false => simp [b1, b2] at h
  | true =>
  cases b3 : (real cf).jc mJ ((real cf).len ((real cf).cat rows hid)) with
  | false => simp [b1, b2, b3] at h
  | true =>
  simp only [b1, b2, b3, cond_true] at h
  have c1 : 0 ≤ l := by simpa [real] using b1
  have c2 : l ≤ mJ := by simpa [real] using b2
  have c3 : mJ ≤ (rows ++ hid).length := by simpa [real] using b3
  have hl := eZ he hlo
  have hh := eZ he hhi
  rcases hx with ⟨⟨base, hxv⟩, rfl, hn⟩ | ⟨b, off, cap, hxv, g1, g2, g3, g4⟩
  ·have := hn hid rfl
   subst this
   exact Goes.value (TB base l mJ hxv hm hl hh c1 c2 (by simpa using c3)) h hw (by simp only [aj, aZ]; exact .inl ⟨⟨base, rfl⟩, by simp [real], by simp [real]⟩)
  ·simp only [lD] at g4
   obtain ⟨g5, g6, g7⟩ := g4
   have hall : aY m.cl w b off sz (rows ++ hid) := g3.append g7
   have hlen : (rows ++ hid).length = cap := by rw [List.length_append]; omega
   obtain ⟨o', q1, q2, q3⟩ := run b off cap l mJ hxv hm hl hh c1 c2 (by omega)
   have hcl := CP (rows ++ hid) l mJ c1 c2 c3
   have Rn := CP (rows ++ hid) mJ ((real cf).len ((real cf).cat rows hid)) (by omega) (by simpa [real] using c3) (by simp [real])
   have hl2 : (real cf).len ((real cf).cat rows hid) = cap := by show ((rows ++ hid).length : Int) = cap; rw [hlen]
   have hmul : mJ.toNat * sz ≤ cap * sz := Nat.mul_le_mul_right _ (by omega)
   have ahN : off + cap * sz ≤ m.cl b := by rw [← hlen, List.length_append, Nat.add_mul]; omega
   have hsub : (mJ - l).toNat = mJ.toNat - l.toNat := by omega
   have hsum : l.toNat * sz + (mJ - l).toNat * sz = mJ.toNat * sz := by rw [← Nat.add_mul]; congr 1; omega
   have adR : mJ.toNat * sz + ((cap : Int) - mJ).toNat * sz = cap * sz := by rw [← Nat.add_mul]; congr 1; omega
   have KO : (real cf).cat rows hid = rows ++ hid := rfl
   refine Goes.value q3 h hw ?_
   simp only [aj, aZ]
   rw [hl2] at Rn ⊢
   rw [KO]
   refine .inr ⟨sz, b, o', cap - l.toNat, by rw [hcl, hsub], by rw [hcl]; omega, ?_, ?_, ?_⟩
   ·rw [hcl]
    rcases q1 with rfl | rfl <;> omega
   ·by_cases hc : (cap : Int) = l
    ·have : (real cf).cut (rows ++ hid) l mJ = [] := List.eq_nil_of_length_eq_zero (by rw [hcl]; omega)
     rw [this]; simp [aY]
    ·rw [q2 hc]; exact yu _ l mJ c1 hall
   ·simp only [lD]
    rw [hcl, Rn]
    by_cases hc : (cap : Int) = l
    ·have : (real cf).cut (rows ++ hid) mJ cap = [] := List.eq_nil_of_length_eq_zero (by rw [Rn]; omega)
     rw [this]
     refine ⟨by omega, ?_, by simp [aY]⟩
     have z1 : (mJ - l).toNat = 0 := by omega
     have z2 : ((cap : Int) - mJ).toNat = 0 := by omega
     rw [z1, z2]
     rcases q1 with rfl | rfl <;> omega
    ·rw [q2 hc]
     refine ⟨by omega, by omega, ?_⟩
     have := yu (rows ++ hid) mJ cap (by omega) hall
     rwa [Nat.add_assoc, hsum]
 ·
  rename_i l mJ k mm hlo hhi hmx
  split at h
  ·cases h
  ·rename_i hv hhv
   cases b1 : (real cf).jc 0 l with
   | false => simp [b1] at h
   | true =>
   cases b2 : (real cf).jc l mJ with
   | false => simp [b1, b2] at h
   | true =>
   cases b3 : (real cf).jc mJ mm with
   | false => simp [b1, b2, b3] at h
   | true =>
   cases b4 : (real cf).jc mm ((real cf).len rows) with
   | false => simp [b1, b2, b3, b4] at h
   | true =>
   simp only [b1, b2, b3, b4, cond_true] at h
   have c1 : 0 ≤ l := by simpa [real] using b1
   have c2 : l ≤ mJ := by simpa [real] using b2
   have c3 : mJ ≤ mm := by simpa [real] using b3
   have c4 : mm ≤ rows.length := by simpa [real] using b4
   have hl := eZ he hlo
   have hh := eZ he hhi
   have hmm : ∃ k', mx.map a.eval = some (.int k' mm) := by
    cases mx with
    | none => simp at hmx
    | some y =>
     simp only [Option.map_some, Option.some.injEq] at hmx
     have hp := bV he y
     rw [hmx] at hp
     simp only [aj, aZ] at hp
     exact ⟨k, by simp [hp]⟩
   obtain ⟨k', hmm⟩ := hmm
   rcases hx with ⟨⟨base, hxv⟩, rfl, hn⟩ | ⟨b, off, cap, hxv, g1, g2, g3, g4⟩
   ·have hb := pR (P := P) (w := w) 0 0 (k := k') hl hh (by rw [hhv]; simp) c1 c2 c3 (by simpa using c4)
    have z1 : l = 0 := by simp at c4; omega
    have z2 : mJ = 0 := by simp at c4; omega
    have z3 : mm = 0 := by simp at c4; omega
    subst z1; subst z2; subst z3
    refine Goes.value (v := .slice base 0 0) (by simp [execOp, hop, hxv, Instr.sliceAt, Instr.slice, run_underlying hu, hmm, hb, sizeOf, typeInfo, h2]) h hw ?_
    simp only [aj, aZ]
    exact .inl ⟨⟨base, rfl⟩, by simp [real], by simp [real]⟩
   ·have hb := pR (P := P) (w := w) rows.length cap (k := k') hl hh (by rw [hhv]; simp) c1 c2 c3 (by omega)
    have hcl := CP rows l mJ c1 c2 (by omega)
    have Rn := CP rows mJ mm (by omega) c3 c4
    have hmul : mm.toNat * sz ≤ rows.length * sz := Nat.mul_le_mul_right _ (by omega)
    have hsub : (mJ - l).toNat = mJ.toNat - l.toNat := by omega
    have hsum : l.toNat * sz + (mJ - l).toNat * sz = mJ.toNat * sz := by rw [← Nat.add_mul]; congr 1; omega
    have adR : mJ.toNat * sz + (mm - mJ).toNat * sz = mm.toNat * sz := by rw [← Nat.add_mul]; congr 1; omega
    by_cases hml : mm.toNat = l.toNat
    ·have hrun : (execOp a.eval o).run P w = .ok (.value (.slice (some ⟨b, off, none⟩) (mJ.toNat - l.toNat) (mm.toNat - l.toNat))) w := by
      simp [execOp, hop, hxv, Instr.sliceAt, Instr.slice, run_underlying hu, hmm, hb, sizeOf, typeInfo, h2, hml]
     refine Goes.value hrun h hw ?_
     have e1 : (real cf).cut rows l mJ = [] := List.eq_nil_of_length_eq_zero (by rw [hcl]; omega)
     have e2 : (real cf).cut rows mJ mm = [] := List.eq_nil_of_length_eq_zero (by rw [Rn]; omega)
     simp only [aj, aZ, e1, e2]
     refine .inr ⟨sz, b, off, mm.toNat - l.toNat, by simp; omega, by simp, by simp; omega, by simp [aY], ?_⟩
     simp only [lD, aY, List.length_nil]
     exact ⟨by omega, by omega, trivial⟩
    ·have hrun : (execOp a.eval o).run P w = .ok (.value (.slice (some ⟨b, off + l.toNat * sz, none⟩) (mJ.toNat - l.toNat) (mm.toNat - l.toNat))) w := by
      simp [execOp, hop, hxv, Instr.sliceAt, Instr.slice, run_underlying hu, hmm, hb, sizeOf, typeInfo, h2, h3, hml, gI]
     refine Goes.value hrun h hw ?_
     simp only [aj, aZ]
     refine .inr ⟨sz, b, off + l.toNat * sz, mm.toNat - l.toNat, by rw [hcl, hsub], by rw [hcl]; omega, by rw [hcl]; omega, yu rows l mJ c1 g3, ?_⟩
     simp only [lD]
     rw [hcl, Rn]
     refine ⟨by omega, by omega, ?_⟩
     have := yu rows mJ mm (by omega) g3
     rwa [Nat.add_assoc, hsum]
 ·cases h
end
end Go.X
