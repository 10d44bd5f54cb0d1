/- Parts of strings and slices; what is appended. -/
import Derived.Test.YtipkggkbldgmjaaGreatXOp9
namespace Go.X
open Go Go.MapKept
set_option linter.unusedSectionVars false
set_option linter.unusedSimpArgs false
set_option linter.unusedVariables false
variable [eY]
theorem bW.append {cl : Nat → Nat} {w : World} {b sz : Nat} : ∀ {l k : List (List D)} {o : Nat}, bW cl w b o sz l → bW cl w b (o + l.length * sz) sz k → bW cl w b o sz (l ++ k)
 | [], k, o, _, h => by simpa using h
 | r :: l, k, o, h, hk => by
  simp only [bW, List.cons_append] at h ⊢
  refine ⟨h.1, h.2.1, bW.append h.2.2 ?_⟩
  simp only [List.length_cons, Nat.add_mul, Nat.one_mul] at hk
  rwa [Nat.add_assoc, Nat.add_comm sz]
theorem bW.take {cl : Nat → Nat} {w : World} {b sz : Nat} : ∀ {l : List (List D)} {o : Nat} (n : Nat), bW cl w b o sz l → bW cl w b o sz (l.take n)
 | l, o, 0, h => by simp [bW]
 | [], o, n + 1, h => by simp [bW]
 | r :: l, o, n + 1, h => by
  simp only [bW, List.take_succ_cons] at h ⊢
  exact ⟨h.1, h.2.1, h.2.2.take n⟩
theorem bW.drop {cl : Nat → Nat} {w : World} {b sz : Nat} : ∀ {l : List (List D)} {o : Nat} (n : Nat), bW cl w b o sz l → bW cl w b (o + n * sz) sz (l.drop n)
 | l, o, 0, h => by simpa using h
 | [], o, n + 1, h => by simp [bW]
 | r :: l, o, n + 1, h => by
  simp only [bW] at h
  have := h.2.2.drop n
  simpa [Nat.add_mul, Nat.add_assoc, Nat.add_comm sz] using this
section
variable {R : Type} {P : Program} {Γ : Tab} {cf : CF} {an : kW} {o : Oper} {a : Act} {w : World} {m : Mt} {K : PV → St → Option R} {r : R} {st : St} {ρ : Env}
def Oi (d : Int) (x : Option PV) (v : Option Value) (n : Int) : Prop := (x = none ∧ v = none ∧ n = d) ∨ ∃ y k, x = some y ∧ v = some (.int k n)
theorem gG (he : bR m w ρ a) {d n : Int} {x : Option Operand} (h : NG d (x.map (ev ρ)) = some n) : Oi d (x.map (ev ρ)) (x.map a.eval) n := by
 cases x with
 | none => simp [NG] at h; exact .inl ⟨rfl, rfl, h.symm⟩
 | some x =>
  simp only [Option.map_some] at h ⊢
  have hp := dY he x
  unfold NG at h
  split at h
  ·rename_i h'; cases h'
  ·rename_i k n' hx
   simp only [Option.some.injEq] at hx h
   subst h
   rw [hx] at hp
   simp only [ay, bY] at hp
   exact .inr ⟨_, k, rfl, by rw [hp]⟩
  ·cases h
theorem run_sliceBound (k : IntKind) (i : Int) (y : Nat) (code : BoundsCode) (h0 : 0 ≤ i) (h1 : i ≤ y) : (Instr.sliceBound (.int k i) y code).run P w = .ok i.toNat w := by
 simp [Instr.sliceBound, asIntOf, h0, h1]
theorem lI (isS : Bool) (len cap : Nat) {lo hi : Option PV} {lo' hi' : Option Value} {l h : Int} (hl : Oi 0 lo lo' l) (hh : Oi len hi hi' h) (c1 : 0 ≤ l) (c2 : l ≤ h) (c3 : h ≤ cap) :
  (Instr.sliceBounds isS len cap lo' hi' none).run P w = .ok (l.toNat, h.toNat, cap) w := by
 rcases hl with ⟨_, rfl, rfl⟩ | ⟨y, k, _, rfl⟩ <;> rcases hh with ⟨_, rfl, rfl⟩ | ⟨y', k', _, rfl⟩
 ·simp [Instr.sliceBounds]
 ·cases isS <;> simp [Instr.sliceBounds, run_sliceBound k' h cap _ (by omega) c3]
 ·cases isS <;> simp [Instr.sliceBounds, run_sliceBound k l len _ c1 (by omega)]
 ·have : l ≤ h.toNat := by omega
  cases isS <;> simp [Instr.sliceBounds, run_sliceBound k' h cap _ (by omega) c3, run_sliceBound k l h.toNat _ c1 this]
theorem qG (len cap : Nat) {lo hi : Option PV} {lo' hi' : Option Value} {l h mm : Int} {k : IntKind} (hl : Oi 0 lo lo' l) (hh : Oi len hi hi' h) (hn : hi ≠ none) (c1 : 0 ≤ l) (c2 : l ≤ h) (c3 : h ≤ mm) (c4 : mm ≤ cap) :
  (Instr.sliceBounds true len cap lo' hi' (some (.int k mm))).run P w = .ok (l.toNat, h.toNat, mm.toNat) w := by
 have e1 : h ≤ (mm.toNat : Int) := by omega
 have e2 : l ≤ (h.toNat : Int) := by omega
 rcases hl with ⟨_, rfl, rfl⟩ | ⟨y, k1, _, rfl⟩ <;> rcases hh with ⟨h', rfl, rfl⟩ | ⟨y', k', _, rfl⟩
 ·exact absurd h' hn
 ·simp [Instr.sliceBounds, run_sliceBound k mm cap _ (by omega) c4, run_sliceBound k' h mm.toNat _ (by omega) e1]
 ·exact absurd h' hn
 ·simp [Instr.sliceBounds, run_sliceBound k mm cap _ (by omega) c4, run_sliceBound k' h mm.toNat _ (by omega) e1, run_sliceBound k1 l h.toNat _ c1 e2]
theorem qH (hΓ : eO P Γ) (he : bR m w ρ a) (hw : bS m st w) {t : TypeId} {x : Operand} {lo hi mx : Option Operand} (hop : o.op = .slice t x lo hi mx) {e sz pz : Nat} (hty : Γ.ty t = .slice e sz pz)
  {rows : List (List D)} {ext : Option (List (List D))} (hx : ((∃ base, a.eval x = .slice base 0 0) ∧ rows = [] ∧ (∀ h, ext = some h → h = [])) ∨
   ∃ b o cap, a.eval x = .slice (some ⟨b, o, none⟩) rows.length cap ∧ rows.length ≤ cap ∧ o + rows.length * sz ≤ m.cl b ∧ bW m.cl w b o sz rows ∧ mH m.cl w b (o + rows.length * sz) sz (cap - rows.length) ext)
  (h : jG (real cf) st rows ext (lo.map (ev ρ)) (hi.map (ev ρ)) (mx.map (ev ρ)) false K = some r) : Goes P o a w m K r := by
 obtain ⟨hu, hsz, i, h2, h3, _⟩ := jI hΓ hty
 unfold jG at h
 simp only [jK, jL, kD] at h
 have Ic : ∀ (q : List (List D)) (l h : Int), 0 ≤ l → l ≤ h → h ≤ q.length → ((real cf).cut q l h).length = (h - l).toNat := by
  intro q l h c1 c2 c3
  simp [real]; omega
 have BM : ∀ {cl : Nat → Nat} {w : World} {b off : Nat} (q : List (List D)) (l h : Int), 0 ≤ l → bW cl w b off sz q → bW cl w b (off + l.toNat * sz) sz ((real cf).cut q l h) := by
  intro cl w b off q l h c1 hq
  exact (hq.take h.toNat).drop l.toNat
 have run : ∀ (b off cap : Nat) (l q : Int), a.eval x = .slice (some ⟨b, off, none⟩) rows.length cap → mx = none → Oi 0 (lo.map (ev ρ)) (lo.map a.eval) l → Oi rows.length (hi.map (ev ρ)) (hi.map a.eval) q → 0 ≤ l → l ≤ q → q ≤ cap →
   ∃ o', (o' = off ∨ o' = off + l.toNat * sz) ∧ ((cap : Int) ≠ l → o' = off + l.toNat * sz) ∧ (execOp a.eval o).run P w = .ok (.value (.slice (some ⟨b, o', none⟩) (q.toNat - l.toNat) (cap - l.toNat))) w := by
  intro b off cap l q hxv hm hl hh c1 c2 c3
  subst hm
  have hb := lI (P := P) (w := w) true rows.length cap hl hh c1 c2 c3
  by_cases hml : cap = l.toNat
  ·refine ⟨off, .inl rfl, fun hc => by omega, ?_⟩
   subst hml
   simp [execOp, hop, hxv, Instr.sliceAt, Instr.slice, run_underlying hu, hb, sizeOf, typeInfo, h2]
  ·refine ⟨off + l.toNat * sz, .inr rfl, fun _ => rfl, ?_⟩
   simp [execOp, hop, hxv, Instr.sliceAt, Instr.slice, run_underlying hu, hb, sizeOf, typeInfo, h2, h3, hml, iE]
 have aa5 : ∀ (base : Option Addr) (l q : Int), a.eval x = .slice base 0 0 → mx = none → Oi 0 (lo.map (ev ρ)) (lo.map a.eval) l → Oi (0 : Nat) (hi.map (ev ρ)) (hi.map a.eval) q → 0 ≤ l → l ≤ q → q ≤ (0 : Nat) →
   (execOp a.eval o).run P w = .ok (.value (.slice base 0 0)) w := by
  intro base l q hxv hm hl hh c1 c2 c3
  subst hm
  have hb := lI (P := P) (w := w) true 0 0 hl hh c1 c2 c3
  have hl0 : l = 0 := by omega
  have hh0 : q = 0 := by omega
  rw [hl0, hh0] at hb
  simp [execOp, hop, hxv, Instr.sliceAt, Instr.slice, run_underlying hu, hb, sizeOf, typeInfo, h2]
 split at h
 ·
  rename_i l mU hlo hhi hmx
  have hm : mx = none := by cases mx <;> simp at hmx ⊢
  cases b1 : (real cf).jF 0 l with
  | false => simp [b1] at h
  | true =>
  cases b2 : (real cf).jF l mU with
  | false => simp [b1, b2] at h
  | true =>
  cases b3 : (real cf).jF mU ((real cf).len rows) with
  | false => simp [b1, b2, b3] at h
  | true =>
  simp only [b1, b2, b3, cond_true] at h
  have c1 : 0 ≤ l := by simpa [real] using b1
  have c2 : l ≤ mU := by simpa [real] using b2
  have c3 : mU ≤ rows.length := by simpa [real] using b3
  have hl := gG he hlo
  have hh := gG he hhi
  rcases hx with ⟨⟨base, hxv⟩, rfl, _⟩ | ⟨b, off, cap, hxv, g1, g2, g3, g4⟩
  ·exact Goes.value (aa5 base l mU hxv hm hl hh c1 c2 (by simpa using c3)) h hw (by simp only [ay, bY]; exact .inl ⟨⟨base, rfl⟩, by simp [real], by simp⟩)
  ·obtain ⟨o', q1, q2, q3⟩ := run b off cap l mU hxv hm hl hh c1 c2 (by omega)
   have hcl := Ic rows l mU c1 c2 c3
   have hmul : mU.toNat * sz ≤ rows.length * sz := Nat.mul_le_mul_right _ (by omega)
   have hsub : (mU - l).toNat = mU.toNat - l.toNat := by omega
   have hsum : l.toNat * sz + (mU - l).toNat * sz = mU.toNat * sz := by rw [← Nat.add_mul]; congr 1; omega
   refine Goes.value q3 h hw ?_
   simp only [ay, bY]
   refine .inr ⟨sz, b, o', cap - l.toNat, by rw [hcl, hsub], by rw [hcl]; omega, ?_, ?_, by simp only [mH]⟩
   ·rw [hcl]
    rcases q1 with rfl | rfl <;> omega
   ·by_cases hc : (cap : Int) = l
    ·have : (real cf).cut rows l mU = [] := List.eq_nil_of_length_eq_zero (by rw [hcl]; omega)
     rw [this]; simp [bW]
    ·rw [q2 hc]; exact BM rows l mU c1 g3
 ·
  rename_i l mU hid hlo hhi hmx
  have hm : mx = none := by cases mx <;> simp at hmx ⊢
  cases b1 : (real cf).jF 0 l with
  | false => simp [b1] at h
  | true =>
  cases b2 : (real cf).jF l mU with
  | false => simp [b1, b2] at h
  | true =>
  cases b3 : (real cf).jF mU ((real cf).len ((real cf).cat rows hid)) with
  | false => simp [b1, b2, b3] at h
  | true =>
  simp only [b1, b2, b3, cond_true] at h
  have c1 : 0 ≤ l := by simpa [real] using b1
  have c2 : l ≤ mU := by simpa [real] using b2
  have c3 : mU ≤ (rows ++ hid).length := by simpa [real] using b3
  have hl := gG he hlo
  have hh := gG he hhi
  rcases hx with ⟨⟨base, hxv⟩, rfl, hn⟩ | ⟨b, off, cap, hxv, g1, g2, g3, g4⟩
  ·have := hn hid rfl
   subst this
   exact Goes.value (aa5 base l mU hxv hm hl hh c1 c2 (by simpa using c3)) h hw (by simp only [ay, bY]; exact .inl ⟨⟨base, rfl⟩, by simp [real], by simp [real]⟩)
  ·simp only [mH] at g4
   obtain ⟨g5, g6, g7⟩ := g4
   have hall : bW m.cl w b off sz (rows ++ hid) := g3.append g7
   have hlen : (rows ++ hid).length = cap := by rw [List.length_append]; omega
   obtain ⟨o', q1, q2, q3⟩ := run b off cap l mU hxv hm hl hh c1 c2 (by omega)
   have hcl := Ic (rows ++ hid) l mU c1 c2 c3
   have ZQ := Ic (rows ++ hid) mU ((real cf).len ((real cf).cat rows hid)) (by omega) (by simpa [real] using c3) (by simp [real])
   have hl2 : (real cf).len ((real cf).cat rows hid) = cap := by show ((rows ++ hid).length : Int) = cap; rw [hlen]
   have hmul : mU.toNat * sz ≤ cap * sz := Nat.mul_le_mul_right _ (by omega)
   have atq : off + cap * sz ≤ m.cl b := by rw [← hlen, List.length_append, Nat.add_mul]; omega
   have hsub : (mU - l).toNat = mU.toNat - l.toNat := by omega
   have hsum : l.toNat * sz + (mU - l).toNat * sz = mU.toNat * sz := by rw [← Nat.add_mul]; congr 1; omega
   have apo : mU.toNat * sz + ((cap : Int) - mU).toNat * sz = cap * sz := by rw [← Nat.add_mul]; congr 1; omega
   have Sb : (real cf).cat rows hid = rows ++ hid := rfl
   refine Goes.value q3 h hw ?_
   simp only [ay, bY]
   rw [hl2] at ZQ ⊢
   rw [Sb]
   refine .inr ⟨sz, b, o', cap - l.toNat, by rw [hcl, hsub], by rw [hcl]; omega, ?_, ?_, ?_⟩
   ·rw [hcl]
    rcases q1 with rfl | rfl <;> omega
   ·by_cases hc : (cap : Int) = l
    ·have : (real cf).cut (rows ++ hid) l mU = [] := List.eq_nil_of_length_eq_zero (by rw [hcl]; omega)
     rw [this]; simp [bW]
    ·rw [q2 hc]; exact BM _ l mU c1 hall
   ·simp only [mH]
    rw [hcl, ZQ]
    by_cases hc : (cap : Int) = l
    ·have : (real cf).cut (rows ++ hid) mU cap = [] := List.eq_nil_of_length_eq_zero (by rw [ZQ]; omega)
     rw [this]
     refine ⟨by omega, ?_, by simp [bW]⟩
     have z1 : (mU - l).toNat = 0 := by omega
     have z2 : ((cap : Int) - mU).toNat = 0 := by omega
     rw [z1, z2]
     rcases q1 with rfl | rfl <;> omega
    ·rw [q2 hc]
     refine ⟨by omega, by omega, ?_⟩
     have := BM (rows ++ hid) mU cap (by omega) hall
     rwa [Nat.add_assoc, hsum]
 ·
  rename_i l mU k mm hlo hhi hmx
  split at h
  ·cases h
  ·rename_i hv hhv
   cases b1 : (real cf).jF 0 l with
   | false => simp [b1] at h
   | true =>
   cases b2 : (real cf).jF l mU with
   | false => simp [b1, b2] at h
   | true =>
   cases b3 : (real cf).jF mU mm with
   | false => simp [b1, b2, b3] at h
   | true =>
   cases b4 : (real cf).jF mm ((real cf).len rows) with
   | false => simp [b1, b2, b3, b4] at h
   | true =>
   simp only [b1, b2, b3, b4, cond_true] at h
   have c1 : 0 ≤ l := by simpa [real] using b1
   have c2 : l ≤ mU := by simpa [real] using b2
   have c3 : mU ≤ mm := by simpa [real] using b3
   have c4 : mm ≤ rows.length := by simpa [real] using b4
   have hl := gG he hlo
   have hh := gG he hhi
   have hmm : ∃ k', mx.map a.eval = some (.int k' mm) := by
    cases mx with
    | none => simp at hmx
    | some y =>
     simp only [Option.map_some, Option.some.injEq] at hmx
     have hp := dY he y
     rw [hmx] at hp
     simp only [ay, bY] at hp
     exact ⟨k, by simp [hp]⟩
   obtain ⟨k', hmm⟩ := hmm
   rcases hx with ⟨⟨base, hxv⟩, rfl, hn⟩ | ⟨b, off, cap, hxv, g1, g2, g3, g4⟩
   ·have hb := qG (P := P) (w := w) 0 0 (k := k') hl hh (by rw [hhv]; simp) c1 c2 c3 (by simpa using c4)
    have z1 : l = 0 := by simp at c4; omega
    have z2 : mU = 0 := by simp at c4; omega
    have z3 : mm = 0 := by simp at c4; omega
    subst z1; subst z2; subst z3
    refine Goes.value (v := .slice base 0 0) (by simp [execOp, hop, hxv, Instr.sliceAt, Instr.slice, run_underlying hu, hmm, hb, sizeOf, typeInfo, h2]) h hw ?_
    simp only [ay, bY]
    exact .inl ⟨⟨base, rfl⟩, by simp [real], by simp [real]⟩
   ·have hb := qG (P := P) (w := w) rows.length cap (k := k') hl hh (by rw [hhv]; simp) c1 c2 c3 (by omega)
    have hcl := Ic rows l mU c1 c2 (by omega)
    have ZQ := Ic rows mU mm (by omega) c3 c4
    have hmul : mm.toNat * sz ≤ rows.length * sz := Nat.mul_le_mul_right _ (by omega)
    have hsub : (mU - l).toNat = mU.toNat - l.toNat := by omega
    have hsum : l.toNat * sz + (mU - l).toNat * sz = mU.toNat * sz := by rw [← Nat.add_mul]; congr 1; omega
    have apo : mU.toNat * sz + (mm - mU).toNat * sz = mm.toNat * sz := by rw [← Nat.add_mul]; congr 1; omega
    by_cases hml : mm.toNat = l.toNat
    ·have hrun : (execOp a.eval o).run P w = .ok (.value (.slice (some ⟨b, off, none⟩) (mU.toNat - l.toNat) (mm.toNat - l.toNat))) w := by
      simp [execOp, hop, hxv, Instr.sliceAt, Instr.slice, run_underlying hu, hmm, hb, sizeOf, typeInfo, h2, hml]
     refine Goes.value hrun h hw ?_
     have e1 : (real cf).cut rows l mU = [] := List.eq_nil_of_length_eq_zero (by rw [hcl]; omega)
     have e2 : (real cf).cut rows mU mm = [] := List.eq_nil_of_length_eq_zero (by rw [ZQ]; omega)
     simp only [ay, bY, e1, e2]
     refine .inr ⟨sz, b, off, mm.toNat - l.toNat, by simp; omega, by simp, by simp; omega, by simp [bW], ?_⟩
     simp only [mH, bW, List.length_nil]
     exact ⟨by omega, by omega, trivial⟩
    ·have hrun : (execOp a.eval o).run P w = .ok (.value (.slice (some ⟨b, off + l.toNat * sz, none⟩) (mU.toNat - l.toNat) (mm.toNat - l.toNat))) w := by
      simp [execOp, hop, hxv, Instr.sliceAt, Instr.slice, run_underlying hu, hmm, hb, sizeOf, typeInfo, h2, h3, hml, iE]
     refine Goes.value hrun h hw ?_
     simp only [ay, bY]
     refine .inr ⟨sz, b, off + l.toNat * sz, mm.toNat - l.toNat, by rw [hcl, hsub], by rw [hcl]; omega, by rw [hcl]; omega, BM rows l mU c1 g3, ?_⟩
     simp only [mH]
     rw [hcl, ZQ]
     refine ⟨by omega, by omega, ?_⟩
     have := BM rows mU mm (by omega) g3
     rwa [Nat.add_assoc, hsum]
 ·cases h
end
end Go.X
