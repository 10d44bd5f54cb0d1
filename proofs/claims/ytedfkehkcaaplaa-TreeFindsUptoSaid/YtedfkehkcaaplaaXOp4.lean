/- T -/
import Derived.Test.YtedfkehkcaaplaaXOp3
namespace Go.X
open Go
set_option linter.unusedVariables false
variable [bY]
theorem zx : ∀ {bl : List (List bZ)} {l i : Nat} {e : bZ}, ent bl l i = some e → fO bl l i e = bl
 | fr :: r, 0, i, e, h => by
  simp only [ent] at h
  simp only [fO]
  congr 1
  apply List.ext_getElem?
  intro j
  by_cases hj : i = j
  ·subst hj; rw [List.getElem?_set_self (List.getElem?_eq_some_iff.1 h).1]; exact h.symm
  ·rw [List.getElem?_set_ne hj]
 | fr :: r, l + 1, i, e, h => by simp only [ent] at h; simp only [fO, zx h]
 | [], _, _, _, h => by simp [ent] at h
theorem dN.lt {bl : List (List bZ)} {cl : Nat → Nat} {w : World} : ∀ {fr : List Obj} {es : List bZ}, dN bl cl w fr es → ∀ e ∈ es, e.gone = false → e.b < w.heap.size
 | [], es, h => by simp only [dN] at h; subst h; simp
 | o :: r, es, h => by
  simp only [dN] at h
  obtain ⟨e, s, rfl, h1, h2⟩ := h
  intro x hx hg
  rcases List.mem_cons.1 hx with rfl | hx
  ·cases o with
   | box ty cells => simp only [aL] at h1; obtain ⟨_, _, vs, h, _⟩ := h1; exact (Array.getElem?_eq_some_iff.1 h).1
   | row ty sz rows mt cap => simp only [aL] at h1; obtain ⟨_, _, _, _, _, h1⟩ := h1; obtain ⟨⟨cs, h, _⟩, _⟩ := h1 hg; exact (Array.getElem?_eq_some_iff.1 h).1
   | void => simp only [aL] at h1; rw [h1] at hg; cases hg
   | loop site ρ p => simp only [aL] at h1; obtain ⟨_, _, r, h, _⟩ := h1; exact (Array.getElem?_eq_some_iff.1 h).1
   | map es => simp only [aL] at h1; obtain ⟨_, _, _, ents, clock, h, _⟩ := h1; exact (Array.getElem?_eq_some_iff.1 h).1
  ·exact h2.lt x hx hg
theorem dH.lt {cl : Nat → Nat} {w : World} : ∀ {st : St} {bl : List (List bZ)}, dH cl w st bl → ∀ b ∈ blks bl, b < w.heap.size
 | [], bl, h => by simp only [dH] at h; subst h; simp [blks, eX]
 | fr :: st, bl, h => by
  simp only [dH] at h
  obtain ⟨es, r, rfl, h1, h2⟩ := h
  intro b hb
  rw [aA] at hb
  rcases List.mem_append.1 hb with hb | hb
  ·obtain ⟨e, he, hg, rfl⟩ := cB.1 hb; exact h1.lt e he hg
  ·exact h2.lt b hb
theorem aO.lt {m : Mt} {st : St} {w : World} (hw : aO m st w) : ∀ b ∈ blks m.blk, b < w.heap.size := hw.st.lt
theorem aO.kI {m : Mt} {st : St} {w : World} (hw : aO m st w) {b : Nat} (h : w.heap.size ≤ b) : m.cl b = 0 := by
 have := hw.le b
 have h0 : csize w b = 0 := by simp [csize, Array.getElem?_eq_none h]
 omega
theorem aO.new {m : Mt} {st : St} {w w' : World} (hw : aO m st w) {l : Nat} (hl : l < st.length) {ob : Go.Obj} (hh : w'.heap = w.heap.push ob) (os : w'.os = w.os) (tape : w'.tape = w.tape) (output : w'.output = w.output)
  (hob : ∀ c e fr, ob = .cells c e fr → fr = (0, 0)) {o : Obj} {e : bZ} (hb : e.b = w.heap.size) {n : Nat} (hn : n ≤ csize w' w.heap.size)
  (ho : Keeps m.cl w (fun b => if b = w.heap.size then n else m.cl b) w' → bG m.blk (fC m.blk l e) → aL (mG (fC m.blk l e) l) (fun b => if b = w.heap.size then n else m.cl b) w' o e) :
  ∃ m', m' = ⟨fC m.blk l e, fun b => if b = w.heap.size then n else m.cl b⟩ ∧ Ext m w m' w' ∧ aO m' (iQ st l o) w' ∧ ent m'.blk l (dD st l) = some e := by
 have hold : ∀ b, b < w.heap.size → w'.heap[b]? = w.heap[b]? := fun b hb => by rw [hh, Array.getElem?_push, if_neg (by omega)]
 have hk : Keeps m.cl w (fun b => if b = w.heap.size then n else m.cl b) w' := by
  refine ⟨fun b => ?_, fun b j hj => ?_⟩
  ·show m.cl b ≤ if b = w.heap.size then n else m.cl b
   split
   ·rename_i h; rw [h, hw.kI (Nat.le_refl _)]; exact Nat.zero_le _
   ·exact Nat.le_refl _
  ·have : b < w.heap.size := by
    rcases Nat.lt_or_ge b w.heap.size with h | h
    ·exact h
    ·rw [hw.kI h] at hj; omega
   exact World.cell?_of_block (hold b this)
 have hlt := hw.lt
 have hsize : w'.heap.size = w.heap.size + 1 := by rw [hh]; simp
 have hnew : ∀ b ∈ blks (fC m.blk l e), b ∈ blks m.blk ∨ w.heap.size ≤ b := fun b hb' => by
  rcases mQ _ _ _ _ hb' with ⟨_, h⟩ | h
  ·right; omega
  ·exact .inl h
 refine ⟨_, rfl, ⟨hk, bG.fC _ _ _, os, tape, output, by omega, fun b hb' _ => hold b hb', hnew, fun b hb' _ => if_neg (by omega)⟩, ⟨?_, ?_, fun b => ?_, hw.glob.step (fun b hb' _ => hold b hb') hnew⟩, ?_⟩
 ·refine hw.st.Hq hk (ho hk (bG.fC _ _ _)) hl fun b hb' => ⟨hold b (hlt b hb'), ?_⟩
  have := hlt b hb'
  simp only [ite_eq_right_iff]; intro h; omega
 ·exact ou _ _ _ hw.nodup (.inr fun hc => by have := hlt _ hc; omega)
 ·show (if b = w.heap.size then n else m.cl b) ≤ _
  split
  ·rename_i h; subst h; exact hn
  ·rename_i h
   rcases Nat.lt_or_ge b w.heap.size with h' | h'
   ·rw [kM (hold b h')]; exact hw.le b
   ·rw [hw.kI h']; exact Nat.zero_le _
 ·exact lM hw.st hl
theorem aO.push {m : Mt} {st : St} {w w' : World} (hw : aO m st w) {ob : Go.Obj} (hh : w'.heap = w.heap.push ob) (os : w'.os = w.os) (tape : w'.tape = w.tape) (output : w'.output = w.output)
  (hob : ∀ c e fr, ob = .cells c e fr → fr = (0, 0)) : Ext m w m w' ∧ aO m st w' := by
 have hold : ∀ b, b < w.heap.size → w'.heap[b]? = w.heap[b]? := fun b hb => by rw [hh, Array.getElem?_push, if_neg (by omega)]
 have hk : Keeps m.cl w m.cl w' := ⟨fun b => Nat.le_refl _, fun b j hj => by
  have : b < w.heap.size := by
   rcases Nat.lt_or_ge b w.heap.size with h | h
   ·exact h
   ·rw [hw.kI h] at hj; omega
  exact World.cell?_of_block (hold b this)⟩
 have hsize : w'.heap.size = w.heap.size + 1 := by rw [hh]; simp
 refine ⟨⟨hk, bG.refl _, os, tape, output, by omega, fun b hb' _ => hold b hb', fun b hb' => .inl hb', fun _ _ _ => rfl⟩, hw.st.keep hk (fun b hb => ⟨hold b (hw.lt b hb), rfl⟩), hw.nodup, fun b => ?_, hw.glob.step (fun b hb' _ => hold b hb') fun b hb' => .inl hb'⟩
 rcases Nat.lt_or_ge b w.heap.size with h' | h'
 ·rw [kM (hold b h')]; exact hw.le b
 ·rw [hw.kI h']; exact Nat.zero_le _
theorem aO.Bv {m : Mt} {st : St} {w : World} (hw : aO m st w) {l : Nat} (hl : l < st.length) {ty sz : Nat} (hsz : 0 < sz) (mt : Bool) (cap : Option Int) (hcap : ∀ c, cap = some c → c = 0) :
  ∃ m', m' = ⟨fC m.blk l ⟨0, 0, sz, 0⟩, m.cl⟩ ∧ Ext m w m' w ∧ aO m' (iQ st l (.row ty sz [] mt cap)) w ∧ ent m'.blk l (dD st l) = some ⟨0, 0, sz, 0⟩ := by
 have hg : (⟨0, 0, sz, 0⟩ : bZ).gone = true := jK rfl hsz
 have hnew : ∀ b ∈ blks (fC m.blk l ⟨0, 0, sz, 0⟩), b ∈ blks m.blk ∨ w.heap.size ≤ b := fun b hb => by
  rcases mQ _ _ _ _ hb with ⟨h, _⟩ | h
  ·rw [hg] at h; cases h
  ·exact .inl h
 refine ⟨_, rfl, ⟨Keeps.refl _ _, bG.fC _ _ _, rfl, rfl, rfl, Nat.le_refl _, fun _ _ _ => rfl, hnew, fun _ _ _ => rfl⟩, ⟨?_, ?_, hw.le, hw.glob.step (fun _ _ _ => rfl) hnew⟩, lM hw.st hl⟩
 ·refine hw.st.Hq (Keeps.refl _ _) ?_ hl fun b hb => ⟨rfl, rfl⟩
  simp only [aL]
  exact ⟨hsz, trivial, rfl, Nat.le_refl _, fun c hc => by rw [hcap c hc]; rfl, fun h => by rw [hg] at h; cases h⟩
 ·exact ou _ _ _ hw.nodup (.inl hg)
theorem aO.abB {m : Mt} {st : St} {w : World} (hw : aO m st w) {l i : Nat} {e : bZ} (he : ent m.blk l i = some e) (hg : e.gone = true) {o : Obj} (ho : aL (mG m.blk l) m.cl w o e) : aO m (bJ st l i o) w := by
 have h := hw.st.Ci (Keeps.refl _ _) he (jA.refl e) (o' := o) (by rw [zx he]; exact ho) hw.nodup (fun b _ _ => ⟨rfl, rfl⟩)
 rw [zx he] at h
 exact ⟨h, hw.nodup, hw.le, hw.glob⟩
theorem zy : ∀ {l : List bZ} {i : Nat} {e e' : bZ}, l[i]? = some e → e.gone = false → (eX l).Nodup → e'.gone = true → e.b ∉ eX (l.set i e')
 | x :: r, 0, e, e', h, hg, hn, hd => by
  simp at h; subst h
  rw [fE, hg, cond_false, List.nodup_cons] at hn
  simp only [List.set_cons_zero, fE, hd, cond_true]
  exact hn.1
 | x :: r, i + 1, e, e', h, hg, hn, hd => by
  simp at h
  rw [fE] at hn
  simp only [List.set_cons_succ, fE]
  have hm : e.b ∈ eX r := cB.2 ⟨e, List.mem_of_getElem? h, hg, rfl⟩
  cases hx : x.gone with
  | true =>
   rw [hx] at hn
   simp only [cond_true] at hn ⊢
   exact zy h hg hn hd
  | false =>
   rw [hx, cond_false, List.nodup_cons] at hn
   simp only [cond_false, List.mem_cons, not_or]
   exact ⟨fun hb => hn.1 (hb ▸ hm), zy h hg hn.2 hd⟩
 | [], _, _, _, h, _, _, _ => by simp at h
theorem FB : ∀ {bl : List (List bZ)} {l i : Nat} {e e' : bZ}, ent bl l i = some e → e.gone = false → (blks bl).Nodup → e'.gone = true → e.b ∉ blks (fO bl l i e')
 | fr :: r, 0, i, e, e', h, hg, hn, hd => by
  simp only [ent] at h
  rw [aA] at hn
  simp only [fO, aA, List.mem_append, not_or]
  have hn' := List.nodup_append.1 hn
  exact ⟨zy h hg hn'.1 hd, fun hb => hn'.2.2 e.b (cB.2 ⟨e, List.mem_of_getElem? h, hg, rfl⟩) e.b hb rfl⟩
 | fr :: r, l + 1, i, e, e', h, hg, hn, hd => by
  simp only [ent] at h
  rw [aA] at hn
  simp only [fO, aA, List.mem_append, not_or]
  have hn' := List.nodup_append.1 hn
  exact ⟨fun hb => hn'.2.2 e.b hb e.b (vK h hg) rfl, FB h hg hn'.2.1 hd⟩
 | [], _, _, _, _, h, _, _, _ => by simp [ent] at h
theorem Aq : ∀ (st : St) (l i : Nat) (o : Obj), (bJ st l i o).length = st.length
 | [], _, _, _ => rfl
 | fr :: st, 0, _, _ => rfl
 | fr :: st, l + 1, i, o => by simp [bJ, Aq st l i o]
theorem FC : ∀ (st : St) (l i : Nat) (o : Obj) (k : Nat), dD (bJ st l i o) k = dD st k
 | [], _, _, _, k => by cases k <;> rfl
 | fr :: st, 0, _, _, 0 => by simp [bJ, dD]
 | fr :: st, 0, _, _, k + 1 => rfl
 | fr :: st, l + 1, i, o, 0 => rfl
 | fr :: st, l + 1, i, o, k + 1 => by simp only [bJ, dD]; exact FC st l i o k
theorem aO.Nn {m : Mt} {st : St} {w : World} (hw : aO m st w) {l i : Nat} {e : bZ} (he : ent m.blk l i = some e) (hsz : 0 < e.sz) {k : Nat} (hk : k < st.length) {e2 : bZ} (hb : e2.gone = true ∨ (e.gone = false ∧ e2.b = e.b)) {o : Obj} (ho : ∀ bl, aL bl m.cl w o e2) :
  ∃ m', m' = ⟨fC (fO m.blk l i ⟨e.b, e.len + 1, e.sz, 0⟩) k e2, m.cl⟩ ∧ Ext m w m' w ∧ aO m' (iQ (bJ st l i .void) k o) w ∧ ent m'.blk k (dD st k) = some e2 := by
 have hd : (⟨e.b, e.len + 1, e.sz, 0⟩ : bZ).gone = true := jK rfl hsz
 have hle : jA e ⟨e.b, e.len + 1, e.sz, 0⟩ := ⟨by show e.len ≤ e.len + 1; omega, rfl, fun h => by
  rcases h with h | h
  ·have : e.len + 1 = e.len := h
   omega
  ·omega⟩
 have h1 : dH m.cl w (bJ st l i .void) (fO m.blk l i ⟨e.b, e.len + 1, e.sz, 0⟩) := hw.st.Ci (Keeps.refl _ _) he hle (by simp only [aL]; exact hd) hw.nodup (fun b _ _ => ⟨rfl, rfl⟩)
 have hk' : k < (bJ st l i .void).length := by rw [Aq]; exact hk
 have hn1 := rR (e' := ⟨e.b, e.len + 1, e.sz, 0⟩) he hw.nodup (.inl hd)
 have hnew : ∀ b ∈ blks (fC (fO m.blk l i ⟨e.b, e.len + 1, e.sz, 0⟩) k e2), b ∈ blks m.blk ∨ w.heap.size ≤ b := fun b hb' => by
  rcases mQ _ _ _ _ hb' with ⟨hg, rfl⟩ | h
  ·rcases hb with hb | ⟨hb1, hb2⟩
   ·rw [hg] at hb; cases hb
   ·exact .inl (hb2 ▸ vK he hb1)
  ·rcases qH he _ h with ⟨h, _⟩ | h
   ·rw [hd] at h; cases h
   ·exact .inl h
 refine ⟨_, rfl, ⟨Keeps.refl _ _, (bG.fO he hle).trans (bG.fC _ _ _), rfl, rfl, rfl, Nat.le_refl _, fun _ _ _ => rfl, hnew, fun _ _ _ => rfl⟩, ⟨?_, ?_, hw.le, hw.glob.step (fun _ _ _ => rfl) hnew⟩, ?_⟩
 ·exact h1.Hq (Keeps.refl _ _) (ho _) hk' fun b _ => ⟨rfl, rfl⟩
 ·refine ou _ _ _ hn1 ?_
  rcases hb with hb | ⟨hb1, hb2⟩
  ·exact .inl hb
  ·exact .inr (by rw [hb2]; exact FB he hb1 hw.nodup hd)
 ·have := lM (e' := e2) h1 hk'
  rwa [FC] at this
theorem aO.put {m : Mt} {st : St} {w w' : World} (hw : aO m st w) {l i : Nat} {e : bZ} (he : ent m.blk l i = some e) (hg : e.gone = false) (hsame : ∀ b, b ≠ e.b → w'.heap[b]? = w.heap[b]?) (hfz : ∀ a : Addr, a.block = e.b → w'.frozen? a = w.frozen? a) (hsz : w'.heap.size = w.heap.size) (os : w'.os = w.os) (tape : w'.tape = w.tape) (output : w'.output = w.output)
  {o : Obj} {e' : bZ} (hb : e'.b = e.b) (hle : jA e e') {n : Nat} (hn : m.cl e.b ≤ n) (hn' : n ≤ csize w' e.b) (hcells : ∀ j, j < m.cl e.b → w'.cell? ⟨e.b, j, none⟩ = w.cell? ⟨e.b, j, none⟩)
  (ho : Keeps m.cl w (fun b => if b = e.b then n else m.cl b) w' → bG m.blk (fO m.blk l i e') → aL (mG (fO m.blk l i e') l) (fun b => if b = e.b then n else m.cl b) w' o e') :
  ∃ m', m' = ⟨fO m.blk l i e', fun b => if b = e.b then n else m.cl b⟩ ∧ Ext m w m' w' ∧ aO m' (bJ st l i o) w' := by
 have hk : Keeps m.cl w (fun b => if b = e.b then n else m.cl b) w' := by
  refine ⟨fun b => ?_, fun b j hj => ?_⟩
  ·show m.cl b ≤ if b = e.b then n else m.cl b
   split
   ·rename_i h; rw [h]; exact hn
   ·exact Nat.le_refl _
  ·by_cases h : b = e.b
   ·subst h; exact hcells j hj
   ·exact World.cell?_of_block (hsame b h)
 have hmem := vK he hg
 have hnew : ∀ b ∈ blks (fO m.blk l i e'), b ∈ blks m.blk ∨ w.heap.size ≤ b := fun b hb' => by
  rcases qH he _ hb' with ⟨_, h⟩ | h
  ·left; rw [h, hb]; exact hmem
  ·exact .inl h
 refine ⟨_, rfl, ⟨hk, bG.fO he hle, os, tape, output, by omega, fun b _ hb' => hsame b fun h => hb' (h ▸ hmem), hnew, fun b _ hb' => if_neg fun (h : b = e.b) => hb' (h ▸ hmem)⟩, ⟨?_, ?_, fun b => ?_, hw.glob.step (fun b _ hb' => hsame b fun h => hb' (h ▸ hmem)) hnew⟩⟩
 ·exact hw.st.Ci hk he hle (ho hk (bG.fO he hle)) hw.nodup fun b _ hne => ⟨hsame b (hne hg), by simp [hne hg]⟩
 ·exact rR he hw.nodup (.inr (.inl ⟨hg, hb⟩))
 ·show (if b = e.b then n else m.cl b) ≤ _
  split
  ·rename_i h; subst h; exact hn'
  ·rename_i h; rw [kM (hsame b h)]; exact hw.le b
section
variable {R : Type} {P : Program} {Γ : Tab} {cf : Nat → List PV → St → Option (PV × St)} {o : Oper} {a : Act} {w : World} {m : Mt} {K : PV → St → Option R} {r : R} {st : St} {ρ : Env}
theorem Cn (hw : aO m st w) {x x' : PV} {v : Value} {st' : St} (hv : aj m.blk m.cl w x v) (h : freeze (real cf) st x = (x', st')) : ∃ m', Ext m w m' w ∧ aO m' st' w ∧ aj m'.blk m'.cl w x' v ∧ st'.length = st.length := by
 unfold freeze at h
 split at h
 ·rename_i l i k
  simp only [aj] at hv
  obtain ⟨e, h1, h2, h3, h5⟩ := hv
  have hset : ∀ (st : St) (l i : Nat) (o : Obj), (bJ st l i o).length = st.length := by
   intro st
   induction st with
   | nil => intro l i o; simp [bJ]
   | cons fr st ih => intro l i o; cases l <;> simp [bJ, ih]
  split at h
  ·rename_i ty sz rows mt cp hl
   obtain ⟨e', k1, k2⟩ := hw.st.je hl
   rw [h1] at k1; cases k1
   cases hlen : (real cf).ieq ((real cf).len rows) k with
   | false =>
    simp only [hlen, cond_false, Prod.mk.injEq] at h
    obtain ⟨rfl, rfl⟩ := h
    exact ⟨m, Ext.refl m w, hw, by simp only [aj], rfl⟩
   | true =>
    simp only [hlen, cond_true, Prod.mk.injEq] at h
    obtain ⟨rfl, rfl⟩ := h
    have hk : (rows.length : Int) = k := by simpa [real] using hlen
    have k2' := k2
    simp only [aL] at k2
    obtain ⟨g1, g2, g3, g4, g5, g⟩ := k2
    have hke : k = e.len := by rw [g3]; exact hk.symm
    rcases h5 with ⟨h0, hgo, base, rfl⟩ | ⟨b, cap, h4, h5⟩
    ·
     have jB := hgo hke
     have hr : rows = [] := List.eq_nil_of_length_eq_zero (by omega)
     subst hr
     have hw' : aO m (bif mt then bJ st l i (.row ty sz [] false cp) else st) w := by
      cases mt with
      | false => exact hw
      | true =>
       refine hw.abB h1 jB ?_
       simp only [aL]
       exact ⟨g1, g2, g3, g4, g5, fun hg => by rw [jB] at hg; cases hg⟩
     refine ⟨m, Ext.refl m w, hw', ?_, by cases mt <;> simp [hset]⟩
     simp only [aj, aZ]
     exact .inl ⟨⟨base, rfl⟩, trivial, by simp⟩
    obtain ⟨rfl, rfl, jB⟩ := h5 hke
    obtain ⟨⟨cs, g6, g7⟩, g8, g9⟩ := g jB
    have abC : k.toNat = rows.length := by omega
    have hext : ∀ cl, (cl e.b = rows.length * sz) → aY cl w e.b 0 sz rows → aZ cl w (.sl rows none) v := by
     intro cl hcl hrows
     simp only [aZ]
     exact .inr ⟨sz, e.b, 0, e.cap, by rw [h4, abC], g4, by omega, hrows, by simp only [lD]⟩
    cases mt with
    | false =>
     simp only [cond_false] at g9 ⊢
     exact ⟨m, Ext.refl m w, by simpa using hw, by simp only [aj]; exact hext m.cl g9 g8, by simp⟩
    | true =>
     simp only [cond_true] at g9 ⊢
     have hcs : e.cap * sz ≤ csize w e.b := by simpa [csize, g6] using g7
     obtain ⟨m', rfl, hx, hw'⟩ := hw.put (l := l) (i := i) (w' := w) h1 jB (fun _ _ => rfl) (fun _ _ => rfl) rfl rfl rfl rfl (o := .row ty sz rows false cp) (e' := e) rfl (jA.refl e) (n := rows.length * sz) (by omega)
      (Nat.le_trans (Nat.mul_le_mul_right _ g4) hcs) (fun _ _ => rfl) (fun hk he => by
       have hsz : ¬ (e.sz = 0) := by omega
       simp only [aL, cond_false, if_true]
       have : ∀ cl', Keeps m.cl w cl' w → ∀ (l : List (List D)) (o : Nat), aY m.cl w e.b o sz l → aY cl' w e.b o sz l := by
        intro cl' hk
        have hc : ∀ (l : List D) (o : Nat), aV m.cl w e.b o l → aV cl' w e.b o l := by
         intro l
         induction l with
         | nil => intro o _; simp only [aV]
         | cons d r ih =>
          intro o h
          simp only [aV] at h ⊢
          obtain ⟨⟨v, g1, g2⟩, g3⟩ := h
          exact ⟨⟨v, g1, aZ.keep hk d v g2⟩, ih _ g3⟩
        intro l
        induction l with
        | nil => intro o _; simp only [aY]
        | cons r rs ih =>
         intro o h
         simp only [aY] at h ⊢
         exact ⟨h.1, hc r o h.2.1, ih _ h.2.2⟩
       exact ⟨g1, g2, g3, g4, g5, fun _ => ⟨⟨cs, g6, g7⟩, this _ hk rows 0 g8, trivial⟩⟩)
     refine ⟨_, hx, hw', ?_, hset st l i _⟩
     simp only [aj]
     have hrow := hw'.st.je (l := l) (i := i) (o := .row ty sz rows false cp) (by
      have : ∀ {st : St} {l i : Nat} {o o' : Obj}, look st l i = some o → look (bJ st l i o') l i = some o' := by
       intro st
       induction st with
       | nil => intro l i o o' h; simp [look] at h
       | cons fr st ih =>
        intro l i o o' h
        cases l with
        | zero => simp only [look, bJ] at h ⊢; exact List.getElem?_set_self (List.getElem?_eq_some_iff.1 h).1
        | succ l => simp only [look, bJ] at h ⊢; exact ih h
      exact this hl)
     obtain ⟨e2, q1, q2⟩ := hrow
     simp only [kC h1] at q1
     cases q1
     simp only [aL] at q2
     obtain ⟨_, _, _, _, _, q2⟩ := q2
     exact hext _ (by simp) (q2 jB).2.1
  ·cases h
   exact ⟨m, Ext.refl m w, hw, by simp only [aj], rfl⟩
 ·cases h
  exact ⟨m, Ext.refl m w, hw, hv, rfl⟩
theorem Hz (hw : aO m st w) {l i : Nat} {k : Int} {v : Value} (hv : aj m.blk m.cl w (.row l i k) v) {ty sz : Nat} {rows : List (List D)} {cp : Option Int} (hl : look st l i = some (.row ty sz rows false cp)) (hlen : (real cf).ieq ((real cf).len rows) k = true) : aj m.blk m.cl w (.d (.sl rows none)) v := by
 simp only [aj] at hv
 obtain ⟨e, h1, h2, h3, h5⟩ := hv
 obtain ⟨e', k1, k2⟩ := hw.st.je hl
 rw [h1] at k1; cases k1
 have hk : (rows.length : Int) = k := by simpa [real] using hlen
 simp only [aL] at k2
 obtain ⟨g1, g2, g3, g4, g5, g⟩ := k2
 have hke : k = e.len := by rw [g3]; exact hk.symm
 simp only [aj, aZ]
 rcases h5 with ⟨h0, hgo, base, rfl⟩ | ⟨b, cap, h4, h5⟩
 ·have hr : rows = [] := List.eq_nil_of_length_eq_zero (by omega)
  subst hr
  exact .inl ⟨⟨base, rfl⟩, rfl, by simp⟩
 obtain ⟨rfl, rfl, jB⟩ := h5 hke
 obtain ⟨⟨cs, g6, g7⟩, g8, g9⟩ := g jB
 have abC : k.toNat = rows.length := by omega
 simp only [cond_false] at g9
 exact .inr ⟨sz, e.b, 0, e.cap, by rw [h4, abC], g4, by omega, g8, by simp only [lD]⟩
theorem gQ : ∀ {l l' : List PV} {vs : List Value} {st st' : St} {m : Mt}, aO m st w → aK m.blk m.cl w l vs → freezes (real cf) st l = (l', st') →
  ∃ m', Ext m w m' w ∧ aO m' st' w ∧ aK m'.blk m'.cl w l' vs ∧ st'.length = st.length
 | [], l', vs, st, st', m, hw, hv, h => by
  simp only [freezes, Prod.mk.injEq] at h
  obtain ⟨rfl, rfl⟩ := h
  exact ⟨m, Ext.refl m w, hw, hv, rfl⟩
 | x :: r, l', vs, st, st', m, hw, hv, h => by
  simp only [aK] at hv
  obtain ⟨v, s, rfl, h1, h2⟩ := hv
  simp only [freezes, Prod.mk.injEq] at h
  obtain ⟨rfl, rfl⟩ := h
  obtain ⟨m1, e1, w1, v1, n1⟩ := Cn (cf := cf) hw h1 rfl
  obtain ⟨m2, e2, w2, v2, n2⟩ := gQ (l := r) w1 (h2.ext e1) rfl
  exact ⟨m2, e1.trans e2, w2, ⟨v, s, rfl, v1.ext e2, v2⟩, n2.trans n1⟩
theorem gT {R : Type} {r : R} : ∀ {l : List PV} {st : St} {K : List PV → St → Option R}, bW (real cf) st l K = some r → ∃ l' st', freezes (real cf) st l = (l', st') ∧ K l' st' = some r := by
 intro l
 induction l with
 | nil => intro st K h; exact ⟨[], st, rfl, by simpa only [bW] using h⟩
 | cons x l ih =>
  intro st K h
  have other : (∀ st, freeze (real cf) st x = (x, st)) → bW (real cf) st l (fun vs st => K (x :: vs) st) = some r → ∃ l' st', freezes (real cf) st (x :: l) = (l', st') ∧ K l' st' = some r := by
   intro hx h
   obtain ⟨l', st', h1, h2⟩ := ih h
   exact ⟨x :: l', st', by simp only [freezes, hx, h1], h2⟩
  cases x with
  | row lv i k =>
   simp only [bW] at h
   split at h
   ·rename_i ty sz rows mt cap hl
    cases hb : (real cf).ieq ((real cf).len rows) k with
    | false => simp [hb] at h
    | true =>
     simp only [hb, cond_true] at h
     obtain ⟨l', st', h1, h2⟩ := ih h
     refine ⟨_, st', ?_, h2⟩
     have : freeze (real cf) st (.row lv i k) = (.d (.sl rows none), bif mt then bJ st lv i (.row ty sz rows false cap) else st) := by simp only [freeze, hl, hb, cond_true]
     simp only [freezes, this, h1]
   ·cases h
  | _ => simp only [bW] at h; exact other (fun _ => rfl) h
theorem Co {R : Type} {r : R} : ∀ {l : List PV} {st : St} {K : List PV → St → Option R}, gq (real cf) st l K = some r → ∃ l' st', nu (real cf) st l = (l', st') ∧ K l' st' = some r := by
 intro l
 induction l with
 | nil => intro st K h; exact ⟨[], st, rfl, by simpa only [gq] using h⟩
 | cons x l ih =>
  intro st K h
  have other : (∀ st, vI (real cf) st x = (x, st)) → gq (real cf) st l (fun vs st => K (x :: vs) st) = some r → ∃ l' st', nu (real cf) st (x :: l) = (l', st') ∧ K l' st' = some r := by
   intro hx h
   obtain ⟨l', st', h1, h2⟩ := ih h
   exact ⟨x :: l', st', by simp only [nu, hx, h1], h2⟩
  cases x with
  | row lv i k =>
   cases lv with
   | succ lv => simp only [gq] at h; exact other (fun _ => rfl) h
   | zero =>
   simp only [gq] at h
   split at h
   ·rename_i ty sz rows mt cap hl
    cases hb : (real cf).ieq ((real cf).len rows) k with
    | false => simp [hb] at h
    | true =>
     simp only [hb, cond_true] at h
     obtain ⟨l', st', h1, h2⟩ := ih h
     refine ⟨_, st', ?_, h2⟩
     have : vI (real cf) st (.row 0 i k) = (.d (.sl rows none), bif mt then bJ st 0 i (.row ty sz rows false cap) else st) := by simp only [vI, freeze, hl, hb, cond_true]
     simp only [nu, this, h1]
   ·cases h
  | _ => simp only [gq] at h; exact other (fun _ => rfl) h
theorem Ky (hw : aO m st w) {x x' : PV} {v : Value} {st' : St} (hv : aj m.blk m.cl w x v) (h : vI (real cf) st x = (x', st')) : ∃ m', Ext m w m' w ∧ aO m' st' w ∧ aj m'.blk m'.cl w x' v ∧ st'.length = st.length := by
 unfold vI at h
 split at h
 ·exact Cn hw hv h
 ·cases h
  exact ⟨m, Ext.refl m w, hw, hv, rfl⟩
theorem xO : ∀ {l l' : List PV} {vs : List Value} {st st' : St} {m : Mt}, aO m st w → aK m.blk m.cl w l vs → nu (real cf) st l = (l', st') →
  ∃ m', Ext m w m' w ∧ aO m' st' w ∧ aK m'.blk m'.cl w l' vs ∧ st'.length = st.length
 | [], l', vs, st, st', m, hw, hv, h => by
  simp only [nu, Prod.mk.injEq] at h
  obtain ⟨rfl, rfl⟩ := h
  exact ⟨m, Ext.refl m w, hw, hv, rfl⟩
 | x :: r, l', vs, st, st', m, hw, hv, h => by
  simp only [aK] at hv
  obtain ⟨v, s, rfl, h1, h2⟩ := hv
  simp only [nu, Prod.mk.injEq] at h
  obtain ⟨rfl, rfl⟩ := h
  obtain ⟨m1, e1, w1, v1, n1⟩ := Ky (cf := cf) hw h1 rfl
  obtain ⟨m2, e2, w2, v2, n2⟩ := xO (l := r) w1 (h2.ext e1) rfl
  exact ⟨m2, e1.trans e2, w2, ⟨v, s, rfl, v1.ext e2, v2⟩, n2.trans n1⟩
theorem aK.len {bl : List (List bZ)} {cl : Nat → Nat} {w : World} : ∀ {l : List PV} {vs : List Value}, aK bl cl w l vs → vs.length = l.length
 | [], vs, h => by simp only [aK] at h; subst h; rfl
 | x :: r, vs, h => by
  simp only [aK] at h
  obtain ⟨v, s, rfl, _, h4⟩ := h
  simp [h4.len]
theorem rW {bl : List (List bZ)} {cl : Nat → Nat} {w : World} {x : PV} {v : Value} (h : iI x = true) (hv : aj bl cl w x v) : v.oneCell' = true := by
 cases x with
 | d x => simp only [aj] at hv; exact hv.one
 | agg _ => simp [iI] at h
 | ptr l i o => simp only [aj] at hv; obtain ⟨e, _, _, rfl⟩ := hv; rfl
 | aS cs => simp only [aj] at hv; obtain ⟨b, o, rfl, _⟩ := hv; rfl
 | row l i k => simp only [aj] at hv; obtain ⟨e, _, _, _, h⟩ := hv; rcases h with ⟨_, _, base, rfl⟩ | ⟨b, c, rfl, _⟩ <;> rfl
 | kL l i k x o => simp only [aj] at hv; obtain ⟨e, b, _, _, rfl, _⟩ := hv; rfl
 | fn f cs => simp only [aj] at hv; obtain ⟨vs, rfl, _⟩ := hv; rfl
 | map l i => simp only [aj] at hv; obtain ⟨e, _, _, rfl⟩ := hv; rfl
 | tail l i k o => simp only [aj] at hv; obtain ⟨e, _, _, _, _, p, c, rfl, _⟩ := hv; rfl
 | jv l i => simp only [aj] at hv; obtain ⟨e, _, _, rfl⟩ := hv; rfl
 | pG _ => simp [iI] at h
 | skip => simp [iI] at h
 | ub => simp [iI] at h
 | unk => simp [iI] at h
theorem jl {bl : List (List bZ)} {cl : Nat → Nat} {w : World} : ∀ {l : List PV} {vs : List Value}, bU l = true → aK bl cl w l vs → aF bl cl w l vs
 | [], vs, _, h => by simpa only [aK, aF] using h
 | x :: r, vs, ho, h => by
  simp only [aK] at h
  obtain ⟨v, s, rfl, h1, h2⟩ := h
  simp only [bU] at ho
  cases hx : iI x with
  | false => simp [hx] at ho
  | true =>
   simp only [hx, cond_true] at ho
   simp only [aF]
   exact ⟨v, s, rfl, h1, rW hx h1, jl ho h2⟩
theorem aF.list {bl : List (List bZ)} {cl : Nat → Nat} {w : World} : ∀ {l : List PV} {vs : List Value}, aF bl cl w l vs → aK bl cl w l vs
 | [], vs, h => by simpa only [aK, aF] using h
 | x :: r, vs, h => by
  simp only [aF] at h
  obtain ⟨v, s, rfl, h1, _, h2⟩ := h
  simp only [aK]
  exact ⟨v, s, rfl, h1, h2.list⟩
theorem rX {bl : List (List bZ)} {cl : Nat → Nat} {w : World} {x : PV} {v : Value} (h : aj bl cl w x v) (hok : x = .unk ∨ x = .skip ∨ (∃ l, x = .pG l) ∨ True) : (∃ cs, x = .agg cs ∧ aK bl cl w (unpack x) v.cells.toList) ∨ ((∀ cs, x ≠ .agg cs) ∧ unpack x = [x]) := by
 cases x with
 | agg cs =>
  left
  simp only [aj] at h
  obtain ⟨vs, rfl, h2⟩ := h
  exact ⟨cs, rfl, by simpa [unpack, Value.cells] using h2.list⟩
 | _ => right; exact ⟨fun cs => by simp, rfl⟩
theorem cells_one {v : Value} (h : v.oneCell' = true) : v.cells = #[v] := by cases v <;> first | rfl | (simp [Value.oneCell'] at h)
theorem FD {bl : List (List bZ)} {cl : Nat → Nat} {w : World} {x : PV} {v : Value} (h : aj bl cl w x v) : bU (unpack x) = true → aF bl cl w (unpack x) v.cells.toList := by
 intro hok
 rcases rX h (.inr (.inr (.inr trivial))) with ⟨cs, rfl, h2⟩ | ⟨hne, h2⟩
 ·exact jl hok h2
 ·rw [h2] at hok ⊢
  simp only [bU] at hok
  cases hx : iI x with
  | false => simp [hx] at hok
  | true =>
   have h1 := rW hx h
   rw [cells_one h1]
   simp only [aF]
   exact ⟨v, [], rfl, h, h1, rfl⟩
end
end Go.X
