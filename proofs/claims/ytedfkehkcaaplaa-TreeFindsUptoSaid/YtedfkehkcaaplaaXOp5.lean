/- T -/
import Derived.Test.YtedfkehkcaaplaaXOp4
import Derived.Test.YtedfkehkcaaplaaXMono
namespace Go.X
open Go
set_option linter.unusedVariables false
variable [bY]
theorem iT : ∀ {st : St} {l : Nat}, fQ st l = true → l < st.length
 | _ :: _, 0, _ => by simp
 | _ :: r, l + 1, h => by simp only [fQ] at h; have := iT h; simp; omega
 | [], _, h => by cases ‹Nat› <;> simp [fQ] at h
section
variable {R : Type} {P : Program} {Γ : Tab} {cf : CF} {an : iG} {o : Oper} {a : Act} {w : World} {m : Mt} {K : PV → St → Option R} {r : R} {st : St} {ρ : Env}
theorem Ig {n : Nat} {x : PV} : up.ups n [x] = [up n x] := rfl
theorem xV (hw : aO m st w) {x : PV} {v : Value} (hv : aj m.blk m.cl w x v) {cs : List PV} {st1 : St} (hf : freezes (real cf) st (unpack x) = (cs, st1)) :
  ∃ m1, Ext m w m1 w ∧ aO m1 st1 w ∧ st1.length = st.length ∧ ∀ n, bU (up.ups n cs) = true → aF (mG m1.blk n) m1.cl w (up.ups n cs) v.cells.toList := by
 rcases rX hv (.inr (.inr (.inr trivial))) with ⟨l, rfl, h2⟩ | ⟨hne, h2⟩
 ·obtain ⟨m1, x1, w1, v1, n1⟩ := gQ hw h2 hf
  exact ⟨m1, x1, w1, n1, fun n hok => jl hok (qK n _ _ v1)⟩
 ·rw [h2] at hf
  obtain ⟨m1, x1, w1, v1, n1⟩ := gQ hw (l := [x]) (vs := [v]) ⟨v, [], rfl, hv, rfl⟩ hf
  refine ⟨m1, x1, w1, n1, fun n hok => ?_⟩
  have hl := v1.len
  match cs, hl, v1 with
  | [y], _, v1 =>
   simp only [aK] at v1
   obtain ⟨u, s, h3, h4, h5⟩ := v1
   simp only [List.cons.injEq] at h3
   obtain ⟨rfl, rfl⟩ := h3
   rw [Ig] at hok ⊢
   have hy : iI (up n y) = true := by
    cases hc : iI (up n y) with
    | true => rfl
    | false => simp [bU, hc] at hok
   have h6 := zq n y v h4
   have h7 := rW hy h6
   rw [cells_one h7]
   simp only [aF]
   exact ⟨v, [], rfl, h6, h7, rfl⟩
theorem rZ : ∀ {l : List PV} {k : List D}, AZ l = some k → l = ds k
 | [], k, h => by simp [AZ] at h; subst h; rfl
 | x :: r, k, h => by
  cases x with
  | d x =>
   simp only [AZ] at h
   split at h
   ·rename_i l hl; cases h; simp [ds, rZ hl]
   ·cases h
  | _ => simp [AZ] at h
theorem bR.sj {bl : List (List bZ)} {cl : Nat → Nat} : ∀ {k : List D} {vs : List Value}, aK bl cl w (ds k) vs → bR cl w k vs
 | [], vs, h => by simpa only [ds, aK, bR] using h
 | d :: k, vs, h => by
  simp only [ds, aK] at h
  obtain ⟨v, s, rfl, h1, h2⟩ := h
  simp only [bR]
  exact ⟨v, s, rfl, by simpa only [aj] using h1, bR.sj h2⟩
theorem aO.claim (hw : aO m st w) {w' : World} {ob : Go.Obj} (hh : w'.heap = w.heap.push ob) (os : w'.os = w.os) (tape : w'.tape = w.tape) (output : w'.output = w.output) (hob : ∀ c e fr, ob = .cells c e fr → fr = (0, 0)) {n : Nat} (hn : n ≤ csize w' w.heap.size) :
  ∃ m', m' = ⟨m.blk, fun b => if b = w.heap.size then n else m.cl b⟩ ∧ Ext m w m' w' ∧ aO m' st w' := by
 have hold : ∀ b, b < w.heap.size → w'.heap[b]? = w.heap[b]? := fun b hb => by rw [hh, Array.getElem?_push, if_neg (by omega)]
 have hlt := hw.lt
 have hk : Keeps m.cl w (fun b => if b = w.heap.size then n else m.cl b) w' := by
  refine ⟨fun b => ?_, fun b j hj => ?_⟩
  ·show m.cl b ≤ if b = w.heap.size then n else m.cl b
   split
   ·rename_i h; rw [h, hw.kI (Nat.le_refl _)]; exact Nat.zero_le _
   ·exact Nat.le_refl _
  ·have : b < w.heap.size := by
    rcases Nat.lt_or_ge b w.heap.size with h | h
    ·exact h
    ·rw [hw.kI h] at hj; omega
   exact World.cell?_of_block (hold b this)
 have hsize : w'.heap.size = w.heap.size + 1 := by rw [hh]; simp
 refine ⟨_, rfl, ⟨hk, bG.refl _, os, tape, output, by omega, fun b hb' _ => hold b hb', fun b hb' => .inl hb', fun b hb' _ => if_neg (by omega)⟩, ⟨?_, hw.nodup, fun b => ?_, hw.glob.step (fun b hb' _ => hold b hb') fun b hb' => .inl hb'⟩⟩
 ·refine hw.st.keep hk fun b hb => ⟨hold b (hlt b hb), ?_⟩
  have := hlt b hb
  simp only [ite_eq_right_iff]; intro h; omega
 ·show (if b = w.heap.size then n else m.cl b) ≤ _
  split
  ·rename_i h; subst h; exact hn
  ·rename_i h
   rcases Nat.lt_or_ge b w.heap.size with h' | h'
   ·rw [kM (hold b h')]; exact hw.le b
   ·rw [hw.kI h']; exact Nat.zero_le _
theorem aV.of {cl : Nat → Nat} {w : World} {b : Nat} : ∀ {l : List D} {vs : List Value} {o : Nat}, bR cl w l vs → (∀ j v, vs[j]? = some v → w.cell? ⟨b, o + j, none⟩ = some v) → aV cl w b o l
 | [], vs, o, _, _ => by simp [aV]
 | d :: l, vs, o, h, hc => by
  simp only [bR] at h
  obtain ⟨v, s, rfl, h1, h2⟩ := h
  simp only [aV]
  refine ⟨⟨v, by simpa using hc 0 v rfl, h1⟩, aV.of h2 fun j u hu => ?_⟩
  have := hc (j + 1) u (by simpa using hu)
  rwa [Nat.add_assoc, Nat.add_comm 1]
theorem bR.len {cl : Nat → Nat} : ∀ {k : List D} {vs : List Value}, bR cl w k vs → vs.length = k.length
 | [], vs, h => by simp only [bR] at h; subst h; rfl
 | d :: k, vs, h => by
  simp only [bR] at h
  obtain ⟨v, s, rfl, _, h2⟩ := h
  simp [bR.len h2]
theorem abE {α : Type} {b : Bool} {x y : Option α} {r : α} (h : (bif b then x else y) = some r) : x = some r ∨ y = some r := by
 cases b
 ·exact .inr h
 ·exact .inl h
theorem jN (hΓ : cZ P Γ) {t : Nat} {Ro : Type} {ro : Ro} : ∀ (l : List D) (j : Nat) {m : Mt} {st : St} {vs : List Value} {K : List PV → St → Option Ro}, aO m st w → 0 < st.length → bR m.cl w l vs → gZ (real cf) Γ t j l st K = some ro →
  ∃ m1 st1 cs, Ext m w m1 w ∧ aO m1 st1 w ∧ 0 < st1.length ∧ aF m1.blk m1.cl w cs vs ∧ K cs st1 = some ro
 | [], j, m, st, vs, K, hw, hn, hd, h => by
  simp only [gZ] at h
  simp only [bR] at hd
  subst hd
  exact ⟨m, st, [], Ext.refl _ _, hw, hn, rfl, h⟩
 | d :: l, j, m, st, vs, K, hw, hn, hd, h => by
  have hd0 := hd
  simp only [bR] at hd
  obtain ⟨v, s, rfl, hv, hs⟩ := hd
  have one := hv.one
  unfold gZ at h
  split at h
  ·rename_i q hq
   simp only [kY] at h
   have hsz : 0 < q.2 := by
    unfold aaG at hq
    split at hq
    ·rename_i e sz vX hty
     have jw := hΓ.ty t
     unfold kD at jw
     simp only [hty] at jw
     cases hj : Nat.beq j 0 with
     | false => simp [hj] at hq
     | true =>
      simp only [hj, cond_true, Option.some.injEq] at hq
      subst hq
      exact jw.2.1
    ·split at hq
     ·rename_i q' hq'
      split at hq
      ·rename_i e sz vX hty
       have jw := hΓ.ty q'.2.2
       unfold kD at jw
       simp only [hty] at jw
       simp only [Option.some.injEq] at hq
       subst hq
       exact jw.2.1
      ·cases hq
     ·cases hq
    ·cases hq
   obtain ⟨m2, rfl, x2, w2, e2⟩ := hw.Bv (l := 0) hn hsz true none (ty := q.1) (by intro c hc; cases hc)
   obtain ⟨m1, st1, cs, x1, w1, n1, v1, hK⟩ := jN hΓ l (j + 1) w2 (by cases st <;> simp [iQ] at hn ⊢) (hs.keep x2.keeps) h
   refine ⟨m1, st1, _, x2.trans x1, w1, n1, ?_, hK⟩
   simp only [aF]
   refine ⟨v, s, rfl, ?_, one, v1⟩
   refine aj.ext x1 ?_
   simp only [aj]
   refine ⟨_, e2, Int.le_refl _, Int.le_refl _, .inl ⟨trivial, fun _ => jK rfl hsz, ?_⟩⟩
   simp only [aZ] at hv
   rcases hv with ⟨h1, _, _⟩ | ⟨sz, b, o, cap, h1, h2, h3, h4, h5⟩
   ·exact h1
   ·simp only [lD, List.length_nil, Nat.sub_zero] at h5
    have : cap = 0 := h5.1.symm
    subst this
    exact ⟨_, by simpa using h1⟩
  ·obtain ⟨m1, st1, cs, x1, w1, n1, v1, hK⟩ := jN hΓ l (j + 1) hw hn hs h
   refine ⟨m1, st1, _, x1, w1, n1, ?_, hK⟩
   simp only [aF]
   exact ⟨v, s, rfl, aj.ext x1 (by simpa only [aj] using hv), one, v1⟩
theorem Te (hΓ : cZ P Γ) (he : aM m w ρ a) (hw : aO m st w) {t : TypeId} {x : Operand} (hop : o.op = .box t x)
  (h : evalOp (real cf) Γ an ρ st o.dst o.op K = some r) : Goes P o a w m K r := by
 rw [hop] at h
 simp only [evalOp] at h
 have hv := bV he x
 generalize hlv : nZ ρ (an.lv (match o.dst with | some d => d | none => 0)) = lv at h
 obtain ⟨cs, st1, hf, hz⟩ := gT h
 clear h
 have h := hz
 clear hz
 try dsimp only at h
 obtain ⟨m1, x1, w1, n1, hcells⟩ := xV hw hv hf
 have hrun : (execOp a.eval o).run P w = .ok (.value (.pointer (some ⟨w.heap.size, 0, none⟩))) (w.alloc (.cells (a.eval x).cells t (0, 0))) := by
  simp [execOp, hop, Instr.box, newVar, newRow]
 have hnew : (w.alloc (.cells (a.eval x).cells t (0, 0))).heap = w.heap.push (.cells (a.eval x).cells t (0, 0)) := rfl
 have h0 := h
 clear h
 rcases abE h0 with h | h
 ·clear h0
  split at h
  rotate_left
  ·cases h
  rename_i l hall
  have hcs := rZ hall
  subst hcs
  have Nu : ∀ l : List D, up.ups 0 (ds l) = ds l := by
   intro l
   induction l with
   | nil => rfl
   | cons d l ih => simp [ds, up.ups, up, ih]
  have hok : bU (ds l) = true := by
   have : ∀ l : List D, bU (ds l) = true := by
    intro l
    induction l with
    | nil => rfl
    | cons d l ih => simp [ds, bU, iI, ih]
   exact this l
  have hD := hcells 0 (by rw [Nu]; exact hok)
  rw [Nu] at hD
  have hDl := bR.sj hD.list
  have hlen := hDl.len
  have hcell : (w.alloc (.cells (a.eval x).cells t (0, 0))).heap[w.heap.size]? = some (.cells (a.eval x).cells t (0, 0)) := by rw [hnew]; simp
  obtain ⟨m2, rfl, x2, w2⟩ := w1.claim hnew rfl rfl rfl (by intro _ _ _ h; cases h <;> rfl) (n := l.length) (by simp only [csize, hcell]; simp only [Array.length_toList] at hlen; omega)
  refine Goes.value' hrun h (x1.trans x2) w2 ?_
  simp only [aj]
  refine ⟨w.heap.size, 0, rfl, by simp, aV.of (hDl.keep x2.keeps) fun j v hj => ?_⟩
  rw [Nat.zero_add]
  simp only [World.cell?, hcell]
  simpa using hj
 clear h0
 split at h
 ·split at h
  rotate_left
  ·cases h
  rename_i l hall
  have hcs := rZ hall
  subst hcs
  have Nu : ∀ l : List D, up.ups 0 (ds l) = ds l := by
   intro l
   induction l with
   | nil => rfl
   | cons d l ih => simp [ds, up.ups, up, ih]
  have hok : bU (ds l) = true := by
   have : ∀ l : List D, bU (ds l) = true := by
    intro l
    induction l with
    | nil => rfl
    | cons d l ih => simp [ds, bU, iI, ih]
   exact this l
  have hD := hcells 0 (by rw [Nu]; exact hok)
  rw [Nu] at hD
  have hDl := bR.sj hD.list
  cases hl : fQ st1 0 with
  | false => simp [hl] at h
  | true =>
   simp only [hl, cond_true] at h
   obtain ⟨m2, st2, cs, x2, w2, n2, v2, hK⟩ := jN hΓ l 0 w1 (iT hl) hDl h
   obtain ⟨m3, rfl, x3, w3, e3⟩ := w2.new (l := 0) (w' := w.alloc (.cells (a.eval x).cells t (0, 0))) n2 hnew rfl rfl rfl (by intro _ _ _ h; cases h <;> rfl) (o := .box t cs) (e := ⟨w.heap.size, 0, 0, 0⟩) rfl (n := 0) (Nat.zero_le _) (fun hk he => by
    simp only [aL, if_true]
    refine ⟨trivial, trivial, (a.eval x).cells.toList, ?_, ?_⟩
    ·rw [hnew]
     simp
    ·have := v2.keep hk he
     simpa [mG] using this)
   exact Goes.value' hrun hK ((x1.trans x2).trans x3) w3 (by simp only [aj]; exact ⟨_, e3, rfl, rfl⟩)
 subst hlv
 generalize hlv : nZ ρ (an.lv (match o.dst with | some d => d | none => 0)) = lv at h
 cases hl : fQ st1 lv with
 | false => simp [hl] at h
 | true =>
  cases hc : bU (up.ups lv cs) with
  | false => simp [hl, hc] at h
  | true =>
   simp only [hl, hc, cond_true] at h
   have hcs := hcells lv hc
   obtain ⟨m2, rfl, x2, w2, e2⟩ := w1.new (l := lv) (w' := w.alloc (.cells (a.eval x).cells t (0, 0))) (iT hl) hnew rfl rfl rfl (by intro _ _ _ h; cases h <;> rfl) (o := .box t (up.ups lv cs)) (e := ⟨w.heap.size, 0, 0, 0⟩) rfl (n := 0) (Nat.zero_le _) (fun hk he => by
    simp only [aL, if_true]
    refine ⟨trivial, trivial, (a.eval x).cells.toList, ?_, hcs.keep hk (bG.mG lv he)⟩
    rw [hnew]
    simp)
   exact Goes.value' hrun h (x1.trans x2) w2 (by simp only [aj]; exact ⟨_, e2, rfl, rfl⟩)
theorem Nv (hΓ : cZ P Γ) (he : aM m w ρ a) (hw : aO m st w) {t : TypeId} (hop : o.op = .alloc t)
  (h : evalOp (real cf) Γ an ρ st o.dst o.op K = some r) : Goes P o a w m K r := by
 rw [hop] at h
 simp only [evalOp] at h
 generalize hlv : nZ ρ (an.lv (match o.dst with | some d => d | none => 0)) = lv at h
 split at h
 ·cases h
 rename_i hne
 have hz := hΓ.zero t hne
 obtain ⟨i, z, h1, h2, h3, h4, h5, _⟩ := hz
 split at h
 rotate_left
 ·cases hl : fQ st 0 with
  | false => simp [hl] at h
  | true =>
   simp only [hl, cond_true] at h
   obtain ⟨m1, st1, cs, x1, w1, n1, v1, hK⟩ := jN hΓ (Γ.zero t) 0 hw (iT hl) (h5 m.cl w) h
   clear h
   have h := hK
   clear hK
   have hrun : (execOp a.eval o).run P w = .ok (.value (.pointer (some ⟨w.heap.size, 0, none⟩))) (w.alloc (.cells z.cells t (0, 0))) := by
    simp [execOp, hop, Instr.alloc, newVar, newRow, zeroValue, typeInfo, h1, h2]
   have hnew : (w.alloc (.cells z.cells t (0, 0))).heap = w.heap.push (.cells z.cells t (0, 0)) := rfl
   obtain ⟨m2, rfl, x2, w2, e2⟩ := w1.new (l := 0) (w' := w.alloc (.cells z.cells t (0, 0))) n1 hnew rfl rfl rfl (by intro _ _ _ h; cases h <;> rfl) (o := .box t cs) (e := ⟨w.heap.size, 0, 0, 0⟩) rfl (n := 0) (Nat.zero_le _) (fun hk he => by
    simp only [aL, if_true]
    refine ⟨trivial, trivial, z.cells.toList, ?_, ?_⟩
    ·rw [hnew]
     simp
    ·have := v1.keep hk he
     simpa [mG] using this)
   exact Goes.value' hrun h (x1.trans x2) w2 (by simp only [aj]; exact ⟨_, e2, rfl, rfl⟩)
 ·cases hl : fQ st lv with
  | false => simp [hl] at h
  | true =>
   simp only [hl, cond_true] at h
   have hrun : (execOp a.eval o).run P w = .ok (.value (.pointer (some ⟨w.heap.size, 0, none⟩))) (w.alloc (.cells z.cells t (0, 0))) := by
    simp [execOp, hop, Instr.alloc, newVar, newRow, zeroValue, typeInfo, h1, h2]
   have hnew : (w.alloc (.cells z.cells t (0, 0))).heap = w.heap.push (.cells z.cells t (0, 0)) := rfl
   obtain ⟨m2, rfl, x2, w2, e2⟩ := hw.new (l := lv) (w' := w.alloc (.cells z.cells t (0, 0))) (iT hl) hnew rfl rfl rfl (by intro _ _ _ h; cases h <;> rfl) (o := .box t (ds (Γ.zero t))) (e := ⟨w.heap.size, 0, 0, 0⟩) rfl (n := 0) (Nat.zero_le _) (fun hk he => by
    simp only [aL, if_true]
    refine ⟨trivial, trivial, z.cells.toList, ?_, aK.cells (h5 _ _)⟩
    rw [hnew]
    simp)
   exact Goes.value' hrun h x2 w2 (by simp only [aj]; exact ⟨_, e2, rfl, rfl⟩)
theorem Ih (hΓ : cZ P Γ) (he : aM m w ρ a) (hw : aO m st w) {t : TypeId} {q : Option Operand} (hop : o.op = .makeMap t q)
  (h : evalOp (real cf) Γ an ρ st o.dst o.op K = some r) : Goes P o a w m K r := by
 rw [hop] at h
 simp only [evalOp] at h
 generalize hlv : nZ ρ (an.lv (match o.dst with | some d => d | none => 0)) = lv at h
 split at h
 ·split at h
  ·rename_i kk hkk
   cases hl : fQ st lv with
   | false => simp [hl] at h
   | true =>
    simp only [hl, cond_true] at h
    have hrun : (execOp a.eval o).run P w = .ok (.value (.map (some w.heap.size))) (w.alloc (.map #[] 0)) := by
     simp [execOp, hop, Instr.makeMap]
    obtain ⟨m2, rfl, x2, w2, e2⟩ := hw.new (l := lv) (w' := w.alloc (.map #[] 0)) (iT hl) rfl rfl rfl rfl (by intro _ _ _ h; cases h) (o := .map kk (!(an.rf (match o.dst with | some d => d | none => 0))) []) (e := ⟨w.heap.size, 0, 0, 0⟩) rfl (n := 0) (Nat.zero_le _) (fun hk he => by
     simp only [aL, if_true]
     refine ⟨trivial, trivial, fun _ => rfl, #[], 0, ?_, ?_⟩
     ·show (w.heap.push _)[w.heap.size]? = _
      simp
     ·simp [eF])
    exact Goes.value' hrun h x2 w2 (by simp only [aj]; exact ⟨_, e2, rfl, rfl⟩)
  ·cases h
 ·cases h
theorem zB {cl : Nat → Nat} {w : World} {b sz : Nat} {z : List D} (hz : z.length = sz) : ∀ (n o : Nat), (∀ i, i < n → aV cl w b (o + i * sz) z) → aY cl w b o sz (List.replicate n z)
 | 0, o, _ => by simp [aY]
 | n + 1, o, h => by
  simp only [List.replicate_succ, aY]
  refine ⟨hz, by simpa using h 0 (by omega), zB hz n (o + sz) fun i hi => ?_⟩
  have := h (i + 1) (by omega)
  rw [Nat.add_mul, Nat.one_mul] at this
  rwa [Nat.add_assoc, Nat.add_comm sz]
theorem KI (hΓ : cZ P Γ) (he : aM m w ρ a) (hw : aO m st w) {x : Operand} (hop : o.op = .assign x)
  (h : evalOp (real cf) Γ an ρ st o.dst o.op K = some r) : Goes P o a w m K r := by
 rw [hop] at h
 simp only [evalOp] at h
 split at h
 ·rename_i t ht
  split at h
  ·rename_i e sz bytes hty
   have jw := hΓ.ty t
   unfold kD at jw
   simp only [hty] at jw
   cases hl : fQ st 0 with
   | false => simp [hl] at h
   | true =>
    simp only [hl, cond_true, kY] at h
    obtain ⟨m2, rfl, x2, w2, e2⟩ := hw.Bv (l := 0) (iT hl) jw.2.1 (an.mt (match o.dst with | some d => d | none => 0)) none (ty := e) (by intro c hc; cases hc)
    refine Goes.value' (v := .slice none 0 0) (by simp [execOp, hop, Act.eval]) h x2 w2 ?_
    simp only [aj]
    exact ⟨_, e2, Int.le_refl _, Int.le_refl _, .inl ⟨trivial, fun _ => jK rfl jw.2.1, none, rfl⟩⟩
  ·exact zw he hw (.inr hop) h
 ·exact zw he hw (.inr hop) h
theorem Cv (hΓ : cZ P Γ) (he : aM m w ρ a) (hw : aO m st w) {t : TypeId} {x y : Operand} (hop : o.op = .makeSlice t x y)
  (h : evalOp (real cf) Γ an ρ st o.dst o.op K = some r) : Goes P o a w m K r := by
 rw [hop] at h
 simp only [evalOp] at h
 generalize hlv : nZ ρ (an.lv (match o.dst with | some d => d | none => 0)) = lv at h
 generalize hmt : an.mt (match o.dst with | some d => d | none => 0) = mt at h
 have hp := bV he x
 have hq := bV he y
 have ht := hΓ.ty t
 unfold kD at ht
 split at h
 ·rename_i e sz bytes k1 l k2 c hty hx hy
  rw [hx] at hp; rw [hy] at hq
  simp only [aj, aZ] at hp hq
  simp only [hty] at ht
  obtain ⟨h1, hsz, i, h2, h3, h4, hby⟩ := ht
  split at h
  ·cases h
  rename_i hz0
  cases b1 : (real cf).jc 0 l with
  | false => simp [b1] at h
  | true =>
  cases b2 : (real cf).jc l c with
  | false => simp [b1, b2] at h
  | true =>
  cases b3 : (real cf).jc ((real cf).mul c bytes) limit with
  | false => simp [b1, b2, b3] at h
  | true =>
  cases hl : fQ st lv with
  | false => simp [b1, b2, b3, hl] at h
  | true =>
  simp only [b1, b2, b3, hl, cond_true, rQ] at h
  have c1 : 0 ≤ l := by simpa [real] using b1
  have c2 : l ≤ c := by simpa [real] using b2
  have c3 : c * bytes ≤ 140737488355328 := by simpa [real, limit] using b3
  have c4 : c ≤ c * bytes := by
   have : (1 : Int) ≤ bytes := by omega
   calc c = c * 1 := by omega
    _ ≤ c * bytes := Int.mul_le_mul_of_nonneg_left this (by omega)
  obtain ⟨i', z, g1, g2, g3, g4, g5, _⟩ := hΓ.zero e hz0
  rw [h2] at g1; cases g1
  have hzl : z.cells.size = sz := by rw [← h3]; simpa using g4
  have hrun : (execOp a.eval o).run P w = .ok (.value (.slice (some ⟨w.heap.size, 0, none⟩) l.toNat c.toNat)) (w.alloc (.cells (madeCells z.cells (c.toNat * sz)) e (0, 0))) := by
   have := run_make (P := P) w t e i z h1 h2 g2 k1 k2 l c c1 c2 (by rw [h4, Int.mul_comm]; omega) (by omega)
   rw [h3] at this
   simp [execOp, hop, hp, hq, this]
  have Tf : (real cf).fill (Γ.zero e) l = List.replicate l.toNat (Γ.zero e) := rfl
  have hlen : (real cf).len ((real cf).fill (Γ.zero e) l) = l := by simp [real]; omega
  have hnew : (w.alloc (.cells (madeCells z.cells (c.toNat * sz)) e (0, 0))).heap = w.heap.push (.cells (madeCells z.cells (c.toNat * sz)) e (0, 0)) := rfl
  have hcell : ∀ j, j < c.toNat * sz → (w.alloc (.cells (madeCells z.cells (c.toNat * sz)) e (0, 0))).cell? ⟨w.heap.size, j, none⟩ = z.cells[j % z.cells.size]? := by
   intro j hj
   have hlt : j % z.cells.size < z.cells.size := Nat.mod_lt _ (by omega)
   have : (w.alloc (.cells (madeCells z.cells (c.toNat * sz)) e (0, 0))).heap[w.heap.size]? = some (.cells (madeCells z.cells (c.toNat * sz)) e (0, 0)) := by rw [hnew]; simp
   simp only [World.cell?, this]
   simp [madeCells, hj, hlt]
  have hle : l.toNat ≤ c.toNat := by omega
  have hle2 : l.toNat * sz ≤ c.toNat * sz := Nat.mul_le_mul_right _ hle
  have hcsz : csize (w.alloc (.cells (madeCells z.cells (c.toNat * sz)) e (0, 0))) w.heap.size = c.toNat * sz := by
   have : (w.alloc (.cells (madeCells z.cells (c.toNat * sz)) e (0, 0))).heap[w.heap.size]? = some (.cells (madeCells z.cells (c.toNat * sz)) e (0, 0)) := by rw [hnew]; simp
   simp only [csize, this]
   exact size_madeCells _ _
  obtain ⟨m2, rfl, x2, w2, e2⟩ := hw.new (l := lv) (w' := w.alloc (.cells (madeCells z.cells (c.toNat * sz)) e (0, 0))) (iT hl) hnew rfl rfl rfl (by intro _ _ _ h; cases h <;> rfl)
   (o := .row e sz (List.replicate l.toNat (Γ.zero e)) mt (some c)) (e := ⟨w.heap.size, l, sz, c.toNat⟩) rfl (n := bif mt then 0 else l.toNat * sz) (by rw [hcsz]; cases mt <;> simp <;> omega) (fun hk he => by
    simp only [aL, if_true, List.length_replicate]
    refine ⟨hsz, trivial, by omega, hle, fun c' hc' => by cases hc'; omega, fun _ => ⟨⟨madeCells z.cells (c.toNat * sz), by rw [hnew]; simp, Nat.le_of_eq (size_madeCells _ _).symm⟩, ?_, trivial⟩⟩
    refine zB (by rw [← g3]; exact h3) _ _ fun i hi => ?_
    refine aV.of (g5 _ _) fun j v hv => ?_
    have hj : j < z.cells.size := by simpa using (List.getElem?_eq_some_iff.1 hv).1
    have hi2 : (i + 1) * sz ≤ c.toNat * sz := Nat.mul_le_mul_right _ (by omega)
    rw [Nat.add_mul, Nat.one_mul] at hi2
    rw [Nat.zero_add, hcell _ (by omega)]
    have : (i * sz + j) % z.cells.size = j := by rw [hzl, Nat.add_comm, Nat.add_mul_mod_self_right, Nat.mod_eq_of_lt (by omega)]
    rw [this]
    simpa using hv)
  rw [hlen, Tf] at h
  refine Goes.value' hrun h x2 w2 ?_
  simp only [aj]
  refine ⟨_, e2, c1, Int.le_refl _, ?_⟩
  by_cases hc0 : c.toNat = 0
  ·left
   refine ⟨by omega, fun _ => jK hc0 hsz, ⟨some ⟨w.heap.size, 0, none⟩, ?_⟩⟩
   rw [hc0, show l.toNat = 0 by omega]
  ·right
   exact ⟨w.heap.size, c.toNat, rfl, fun _ => ⟨rfl, rfl, lg (by show 0 < c.toNat; omega)⟩⟩
 ·cases h
end
end Go.X
