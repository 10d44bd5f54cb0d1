/- New objects; what is handed on becomes data. -/
import Derived.Test.YtedfkehkcaaplaaXOp3
namespace Go.X
open Go
set_option linter.unusedSectionVars false
set_option linter.unusedSimpArgs false
set_option linter.unusedVariables false
variable [fq]
theorem KO : ∀ {bl : List (List eT)} {l i : Nat} {e : eT}, ent bl l i = some e → jq bl l i e = bl
 | fr :: r, 0, i, e, h => by
  simp only [ent] at h
  simp only [jq]
  congr 1
  apply List.ext_getElem?
  intro j
  by_cases hj : i = j
  ·subst hj; rw [List.getElem?_set_self (List.getElem?_eq_some_iff.1 h).1]; exact h.symm
  ·rw [List.getElem?_set_ne hj]
 | fr :: r, l + 1, i, e, h => by simp only [ent] at h; simp only [jq, KO h]
 | [], _, _, _, h => by simp [ent] at h
theorem fM.lt {bl : List (List eT)} {cl : Nat → Nat} {w : World} : ∀ {fr : List Obj} {es : List eT}, fM bl cl w fr es → ∀ e ∈ es, e.gone = false → e.b < w.heap.size
 | [], es, h => by simp only [fM] at h; subst h; simp
 | o :: r, es, h => by
  simp only [fM] at h
  obtain ⟨e, s, rfl, h1, h2⟩ := h
  intro x hx hg
  rcases List.mem_cons.1 hx with rfl | hx
  ·cases o with
   | box ty cells => simp only [bC] at h1; obtain ⟨_, _, vs, h, _⟩ := h1; exact (Array.getElem?_eq_some_iff.1 h).1
   | row ty sz rows mt cap => simp only [bC] at h1; obtain ⟨_, _, _, _, _, h1⟩ := h1; obtain ⟨⟨cs, h, _⟩, _⟩ := h1 hg; exact (Array.getElem?_eq_some_iff.1 h).1
   | void => simp only [bC] at h1; rw [h1] at hg; cases hg
   | loop site ρ p => simp only [bC] at h1; obtain ⟨_, _, r, h, _⟩ := h1; exact (Array.getElem?_eq_some_iff.1 h).1
   | map es => simp only [bC] at h1; obtain ⟨_, _, _, ents, clock, h, _⟩ := h1; exact (Array.getElem?_eq_some_iff.1 h).1
  ·exact h2.lt x hx hg
theorem fI.lt {cl : Nat → Nat} {w : World} : ∀ {st : St} {bl : List (List eT)}, fI cl w st bl → ∀ b ∈ blks bl, b < w.heap.size
 | [], bl, h => by simp only [fI] at h; subst h; simp [blks, iq]
 | fr :: st, bl, h => by
  simp only [fI] at h
  obtain ⟨es, r, rfl, h1, h2⟩ := h
  intro b hb
  rw [aC] at hb
  rcases List.mem_append.1 hb with hb | hb
  ·obtain ⟨e, he, hg, rfl⟩ := eX.1 hb; exact h1.lt e he hg
  ·exact h2.lt b hb
theorem bI.lt {m : Mt} {st : St} {w : World} (hw : bI m st w) : ∀ b ∈ blks m.blk, b < w.heap.size := hw.st.lt
theorem bI.qo {m : Mt} {st : St} {w : World} (hw : bI m st w) {b : Nat} (h : w.heap.size ≤ b) : m.cl b = 0 := by
 have := hw.le b
 have h0 : csize w b = 0 := by simp [csize, Array.getElem?_eq_none h]
 omega
theorem bI.new {m : Mt} {st : St} {w w' : World} (hw : bI m st w) {l : Nat} (hl : l < st.length) {ob : Go.Obj} (hh : w'.heap = w.heap.push ob) (os : w'.os = w.os) (tape : w'.tape = w.tape) (output : w'.output = w.output)
  (hob : ∀ c e fr, ob = .cells c e fr → fr = (0, 0)) {o : Obj} {e : eT} (hb : e.b = w.heap.size) {n : Nat} (hn : n ≤ csize w' w.heap.size)
  (ho : Keeps m.cl w (fun b => if b = w.heap.size then n else m.cl b) w' → dO m.blk (jW m.blk l e) → bC (rW (jW m.blk l e) l) (fun b => if b = w.heap.size then n else m.cl b) w' o e) :
  ∃ m', m' = ⟨jW m.blk l e, fun b => if b = w.heap.size then n else m.cl b⟩ ∧ Ext m w m' w' ∧ bI m' (mU st l o) w' ∧ ent m'.blk l (fE st l) = some e := by
 have hold : ∀ b, b < w.heap.size → w'.heap[b]? = w.heap[b]? := fun b hb => by rw [hh, Array.getElem?_push, if_neg (by omega)]
 have hk : Keeps m.cl w (fun b => if b = w.heap.size then n else m.cl b) w' := by
  refine ⟨fun b => ?_, fun b j hj => ?_⟩
  ·show m.cl b ≤ if b = w.heap.size then n else m.cl b
   split
   ·rename_i h; rw [h, hw.qo (Nat.le_refl _)]; exact Nat.zero_le _
   ·exact Nat.le_refl _
  ·have : b < w.heap.size := by
    rcases Nat.lt_or_ge b w.heap.size with h | h
    ·exact h
    ·rw [hw.qo h] at hj; omega
   exact World.cell?_of_block (hold b this)
 have hlt := hw.lt
 have hsize : w'.heap.size = w.heap.size + 1 := by rw [hh]; simp
 have hnew : ∀ b ∈ blks (jW m.blk l e), b ∈ blks m.blk ∨ w.heap.size ≤ b := fun b hb' => by
  rcases vQ _ _ _ _ hb' with ⟨_, h⟩ | h
  ·right; omega
  ·exact .inl h
 refine ⟨_, rfl, ⟨hk, dO.jW _ _ _, os, tape, output, by omega, fun b hb' _ => hold b hb', hnew, fun b hb' _ => if_neg (by omega)⟩, ⟨?_, ?_, fun b => ?_, hw.glob.step (fun b hb' _ => hold b hb') hnew⟩, ?_⟩
 ·refine hw.st.Xx hk (ho hk (dO.jW _ _ _)) hl fun b hb' => ⟨hold b (hlt b hb'), ?_⟩
  have := hlt b hb'
  simp only [ite_eq_right_iff]; intro h; omega
 ·exact z8 _ _ _ hw.nodup (.inr fun hc => by have := hlt _ hc; omega)
 ·show (if b = w.heap.size then n else m.cl b) ≤ _
  split
  ·rename_i h; subst h; exact hn
  ·rename_i h
   rcases Nat.lt_or_ge b w.heap.size with h' | h'
   ·rw [pq (hold b h')]; exact hw.le b
   ·rw [hw.qo h']; exact Nat.zero_le _
 ·exact uN hw.st hl
theorem bI.push {m : Mt} {st : St} {w w' : World} (hw : bI m st w) {ob : Go.Obj} (hh : w'.heap = w.heap.push ob) (os : w'.os = w.os) (tape : w'.tape = w.tape) (output : w'.output = w.output)
  (hob : ∀ c e fr, ob = .cells c e fr → fr = (0, 0)) : Ext m w m w' ∧ bI m st w' := by
 have hold : ∀ b, b < w.heap.size → w'.heap[b]? = w.heap[b]? := fun b hb => by rw [hh, Array.getElem?_push, if_neg (by omega)]
 have hk : Keeps m.cl w m.cl w' := ⟨fun b => Nat.le_refl _, fun b j hj => by
  have : b < w.heap.size := by
   rcases Nat.lt_or_ge b w.heap.size with h | h
   ·exact h
   ·rw [hw.qo h] at hj; omega
  exact World.cell?_of_block (hold b this)⟩
 have hsize : w'.heap.size = w.heap.size + 1 := by rw [hh]; simp
 refine ⟨⟨hk, dO.refl _, os, tape, output, by omega, fun b hb' _ => hold b hb', fun b hb' => .inl hb', fun _ _ _ => rfl⟩, hw.st.keep hk (fun b hb => ⟨hold b (hw.lt b hb), rfl⟩), hw.nodup, fun b => ?_, hw.glob.step (fun b hb' _ => hold b hb') fun b hb' => .inl hb'⟩
 rcases Nat.lt_or_ge b w.heap.size with h' | h'
 ·rw [pq (hold b h')]; exact hw.le b
 ·rw [hw.qo h']; exact Nat.zero_le _
theorem bI.MH {m : Mt} {st : St} {w : World} (hw : bI m st w) {l : Nat} (hl : l < st.length) {ty sz : Nat} (hsz : 0 < sz) (mt : Bool) (cap : Option Int) (hcap : ∀ c, cap = some c → c = 0) :
  ∃ m', m' = ⟨jW m.blk l ⟨0, 0, sz, 0⟩, m.cl⟩ ∧ Ext m w m' w ∧ bI m' (mU st l (.row ty sz [] mt cap)) w ∧ ent m'.blk l (fE st l) = some ⟨0, 0, sz, 0⟩ := by
 have hg : (⟨0, 0, sz, 0⟩ : eT).gone = true := om rfl hsz
 have hnew : ∀ b ∈ blks (jW m.blk l ⟨0, 0, sz, 0⟩), b ∈ blks m.blk ∨ w.heap.size ≤ b := fun b hb => by
  rcases vQ _ _ _ _ hb with ⟨h, _⟩ | h
  ·rw [hg] at h; cases h
  ·exact .inl h
 refine ⟨_, rfl, ⟨Keeps.refl _ _, dO.jW _ _ _, rfl, rfl, rfl, Nat.le_refl _, fun _ _ _ => rfl, hnew, fun _ _ _ => rfl⟩, ⟨?_, ?_, hw.le, hw.glob.step (fun _ _ _ => rfl) hnew⟩, uN hw.st hl⟩
 ·refine hw.st.Xx (Keeps.refl _ _) ?_ hl fun b hb => ⟨rfl, rfl⟩
  simp only [bC]
  exact ⟨hsz, trivial, rfl, Nat.le_refl _, fun c hc => by rw [hcap c hc]; rfl, fun h => by rw [hg] at h; cases h⟩
 ·exact z8 _ _ _ hw.nodup (.inl hg)
theorem bI.arE {m : Mt} {st : St} {w : World} (hw : bI m st w) {l i : Nat} {e : eT} (he : ent m.blk l i = some e) (hg : e.gone = true) {o : Obj} (ho : bC (rW m.blk l) m.cl w o e) : bI m (dU st l i o) w := by
 have h := hw.st.NH (Keeps.refl _ _) he (nM.refl e) (o' := o) (by rw [KO he]; exact ho) hw.nodup (fun b _ _ => ⟨rfl, rfl⟩)
 rw [KO he] at h
 exact ⟨h, hw.nodup, hw.le, hw.glob⟩
theorem KP : ∀ {l : List eT} {i : Nat} {e e' : eT}, l[i]? = some e → e.gone = false → (iq l).Nodup → e'.gone = true → e.b ∉ iq (l.set i e')
 | x :: r, 0, e, e', h, hg, hn, hd => by
  simp at h; subst h
  rw [iV, hg, cond_false, List.nodup_cons] at hn
  simp only [List.set_cons_zero, iV, hd, cond_true]
  exact hn.1
 | x :: r, i + 1, e, e', h, hg, hn, hd => by
  simp at h
  rw [iV] at hn
  simp only [List.set_cons_succ, iV]
  have hm : e.b ∈ iq r := eX.2 ⟨e, List.mem_of_getElem? h, hg, rfl⟩
  cases hx : x.gone with
  | true =>
   rw [hx] at hn
   simp only [cond_true] at hn ⊢
   exact KP h hg hn hd
  | false =>
   rw [hx, cond_false, List.nodup_cons] at hn
   simp only [cond_false, List.mem_cons, not_or]
   exact ⟨fun hb => hn.1 (hb ▸ hm), KP h hg hn.2 hd⟩
 | [], _, _, _, h, _, _, _ => by simp at h
theorem SE : ∀ {bl : List (List eT)} {l i : Nat} {e e' : eT}, ent bl l i = some e → e.gone = false → (blks bl).Nodup → e'.gone = true → e.b ∉ blks (jq bl l i e')
 | fr :: r, 0, i, e, e', h, hg, hn, hd => by
  simp only [ent] at h
  rw [aC] at hn
  simp only [jq, aC, List.mem_append, not_or]
  have hn' := List.nodup_append.1 hn
  exact ⟨KP h hg hn'.1 hd, fun hb => hn'.2.2 e.b (eX.2 ⟨e, List.mem_of_getElem? h, hg, rfl⟩) e.b hb rfl⟩
 | fr :: r, l + 1, i, e, e', h, hg, hn, hd => by
  simp only [ent] at h
  rw [aC] at hn
  simp only [jq, aC, List.mem_append, not_or]
  have hn' := List.nodup_append.1 hn
  exact ⟨fun hb => hn'.2.2 e.b hb e.b (E5 h hg) rfl, SE h hg hn'.2.1 hd⟩
 | [], _, _, _, _, h, _, _, _ => by simp [ent] at h
theorem LH : ∀ (st : St) (l i : Nat) (o : Obj), (dU st l i o).length = st.length
 | [], _, _, _ => rfl
 | fr :: st, 0, _, _ => rfl
 | fr :: st, l + 1, i, o => by simp [dU, LH st l i o]
theorem SF : ∀ (st : St) (l i : Nat) (o : Obj) (k : Nat), fE (dU st l i o) k = fE st k
 | [], _, _, _, k => by cases k <;> rfl
 | fr :: st, 0, _, _, 0 => by simp [dU, fE]
 | fr :: st, 0, _, _, k + 1 => rfl
 | fr :: st, l + 1, i, o, 0 => rfl
 | fr :: st, l + 1, i, o, k + 1 => by simp only [dU, fE]; exact SF st l i o k
theorem bI.aaB {m : Mt} {st : St} {w : World} (hw : bI m st w) {l i : Nat} {e : eT} (he : ent m.blk l i = some e) (hsz : 0 < e.sz) {k : Nat} (hk : k < st.length) {e2 : eT} (hb : e2.gone = true ∨ (e.gone = false ∧ e2.b = e.b)) {o : Obj} (ho : ∀ bl, bC bl m.cl w o e2) :
  ∃ m', m' = ⟨jW (jq m.blk l i ⟨e.b, e.len + 1, e.sz, 0⟩) k e2, m.cl⟩ ∧ Ext m w m' w ∧ bI m' (mU (dU st l i .void) k o) w ∧ ent m'.blk k (fE st k) = some e2 := by
 have hd : (⟨e.b, e.len + 1, e.sz, 0⟩ : eT).gone = true := om rfl hsz
 have hle : nM e ⟨e.b, e.len + 1, e.sz, 0⟩ := ⟨by show e.len ≤ e.len + 1; omega, rfl, fun h => by
  rcases h with h | h
  ·have : e.len + 1 = e.len := h
   omega
  ·omega⟩
 have h1 : fI m.cl w (dU st l i .void) (jq m.blk l i ⟨e.b, e.len + 1, e.sz, 0⟩) := hw.st.NH (Keeps.refl _ _) he hle (by simp only [bC]; exact hd) hw.nodup (fun b _ _ => ⟨rfl, rfl⟩)
 have hk' : k < (dU st l i .void).length := by rw [LH]; exact hk
 have hn1 := zZ (e' := ⟨e.b, e.len + 1, e.sz, 0⟩) he hw.nodup (.inl hd)
 have hnew : ∀ b ∈ blks (jW (jq m.blk l i ⟨e.b, e.len + 1, e.sz, 0⟩) k e2), b ∈ blks m.blk ∨ w.heap.size ≤ b := fun b hb' => by
  rcases vQ _ _ _ _ hb' with ⟨hg, rfl⟩ | h
  ·rcases hb with hb | ⟨hb1, hb2⟩
   ·rw [hg] at hb; cases hb
   ·exact .inl (hb2 ▸ E5 he hb1)
  ·rcases zk he _ h with ⟨h, _⟩ | h
   ·rw [hd] at h; cases h
   ·exact .inl h
 refine ⟨_, rfl, ⟨Keeps.refl _ _, (dO.jq he hle).trans (dO.jW _ _ _), rfl, rfl, rfl, Nat.le_refl _, fun _ _ _ => rfl, hnew, fun _ _ _ => rfl⟩, ⟨?_, ?_, hw.le, hw.glob.step (fun _ _ _ => rfl) hnew⟩, ?_⟩
 ·exact h1.Xx (Keeps.refl _ _) (ho _) hk' fun b _ => ⟨rfl, rfl⟩
 ·refine z8 _ _ _ hn1 ?_
  rcases hb with hb | ⟨hb1, hb2⟩
  ·exact .inl hb
  ·exact .inr (by rw [hb2]; exact SE he hb1 hw.nodup hd)
 ·have := uN (e' := e2) h1 hk'
  rwa [SF] at this
theorem bI.put {m : Mt} {st : St} {w w' : World} (hw : bI m st w) {l i : Nat} {e : eT} (he : ent m.blk l i = some e) (hg : e.gone = false) (hsame : ∀ b, b ≠ e.b → w'.heap[b]? = w.heap[b]?) (hfz : ∀ a : Addr, a.block = e.b → w'.frozen? a = w.frozen? a) (hsz : w'.heap.size = w.heap.size) (os : w'.os = w.os) (tape : w'.tape = w.tape) (output : w'.output = w.output)
  {o : Obj} {e' : eT} (hb : e'.b = e.b) (hle : nM e e') {n : Nat} (hn : m.cl e.b ≤ n) (hn' : n ≤ csize w' e.b) (hcells : ∀ j, j < m.cl e.b → w'.cell? ⟨e.b, j, none⟩ = w.cell? ⟨e.b, j, none⟩)
  (ho : Keeps m.cl w (fun b => if b = e.b then n else m.cl b) w' → dO m.blk (jq m.blk l i e') → bC (rW (jq m.blk l i e') l) (fun b => if b = e.b then n else m.cl b) w' o e') :
  ∃ m', m' = ⟨jq m.blk l i e', fun b => if b = e.b then n else m.cl b⟩ ∧ Ext m w m' w' ∧ bI m' (dU st l i o) w' := by
 have hk : Keeps m.cl w (fun b => if b = e.b then n else m.cl b) w' := by
  refine ⟨fun b => ?_, fun b j hj => ?_⟩
  ·show m.cl b ≤ if b = e.b then n else m.cl b
   split
   ·rename_i h; rw [h]; exact hn
   ·exact Nat.le_refl _
  ·by_cases h : b = e.b
   ·subst h; exact hcells j hj
   ·exact World.cell?_of_block (hsame b h)
 have hmem := E5 he hg
 have hnew : ∀ b ∈ blks (jq m.blk l i e'), b ∈ blks m.blk ∨ w.heap.size ≤ b := fun b hb' => by
  rcases zk he _ hb' with ⟨_, h⟩ | h
  ·left; rw [h, hb]; exact hmem
  ·exact .inl h
 refine ⟨_, rfl, ⟨hk, dO.jq he hle, os, tape, output, by omega, fun b _ hb' => hsame b fun h => hb' (h ▸ hmem), hnew, fun b _ hb' => if_neg fun (h : b = e.b) => hb' (h ▸ hmem)⟩, ⟨?_, ?_, fun b => ?_, hw.glob.step (fun b _ hb' => hsame b fun h => hb' (h ▸ hmem)) hnew⟩⟩
 ·exact hw.st.NH hk he hle (ho hk (dO.jq he hle)) hw.nodup fun b _ hne => ⟨hsame b (hne hg), by simp [hne hg]⟩
 ·exact zZ he hw.nodup (.inr (.inl ⟨hg, hb⟩))
 ·show (if b = e.b then n else m.cl b) ≤ _
  split
  ·rename_i h; subst h; exact hn'
  ·rename_i h; rw [pq (hsame b h)]; exact hw.le b
section
variable {R : Type} {P : Program} {Γ : Tab} {cf : Nat → List PV → St → Option (PV × St)} {o : Oper} {a : Act} {w : World} {m : Mt} {K : PV → St → Option R} {r : R} {st : St} {ρ : Env}
theorem NM (hw : bI m st w) {x x' : PV} {v : Value} {st' : St} (hv : ak m.blk m.cl w x v) (h : freeze (real cf) st x = (x', st')) : ∃ m', Ext m w m' w ∧ bI m' st' w ∧ ak m'.blk m'.cl w x' v ∧ st'.length = st.length := by
 unfold freeze at h
 split at h
 ·rename_i l i k
  simp only [ak] at hv
  obtain ⟨e, h1, h2, h3, h5⟩ := hv
  have hset : ∀ (st : St) (l i : Nat) (o : Obj), (dU st l i o).length = st.length := by
   intro st
   induction st with
   | nil => intro l i o; simp [dU]
   | cons fr st ih => intro l i o; cases l <;> simp [dU, ih]
  split at h
  ·rename_i ty sz rows mt cp hl
   obtain ⟨e', k1, k2⟩ := hw.st.mW hl
   rw [h1] at k1; cases k1
   cases hlen : (real cf).ieq ((real cf).len rows) k with
   | false =>
    simp only [hlen, cond_false, Prod.mk.injEq] at h
    obtain ⟨rfl, rfl⟩ := h
    exact ⟨m, Ext.refl m w, hw, by simp only [ak], rfl⟩
   | true =>
    simp only [hlen, cond_true, Prod.mk.injEq] at h
    obtain ⟨rfl, rfl⟩ := h
    have hk : (rows.length : Int) = k := by simpa [real] using hlen
    have k2' := k2
    simp only [bC] at k2
    obtain ⟨g1, g2, g3, g4, g5, g⟩ := k2
    have hke : k = e.len := by rw [g3]; exact hk.symm
    rcases h5 with ⟨h0, hgo, base, rfl⟩ | ⟨b, cap, h4, h5⟩
    ·
     have nN := hgo hke
     have hr : rows = [] := List.eq_nil_of_length_eq_zero (by omega)
     subst hr
     have hw' : bI m (bif mt then dU st l i (.row ty sz [] false cp) else st) w := by
      cases mt with
      | false => exact hw
      | true =>
       refine hw.arE h1 nN ?_
       simp only [bC]
       exact ⟨g1, g2, g3, g4, g5, fun hg => by rw [nN] at hg; cases hg⟩
     refine ⟨m, Ext.refl m w, hw', ?_, by cases mt <;> simp [hset]⟩
     simp only [ak, bT]
     exact .inl ⟨⟨base, rfl⟩, trivial, by simp⟩
    obtain ⟨rfl, rfl, nN⟩ := h5 hke
    obtain ⟨⟨cs, g6, g7⟩, g8, g9⟩ := g nN
    have arF : k.toNat = rows.length := by omega
    have hext : ∀ cl, (cl e.b = rows.length * sz) → bS cl w e.b 0 sz rows → bT cl w (.sl rows none) v := by
     intro cl hcl hrows
     simp only [bT]
     exact .inr ⟨sz, e.b, 0, e.cap, by rw [h4, arF], g4, by omega, hrows, by simp only [qh]⟩
    cases mt with
    | false =>
     simp only [cond_false] at g9 ⊢
     exact ⟨m, Ext.refl m w, by simpa using hw, by simp only [ak]; exact hext m.cl g9 g8, by simp⟩
    | true =>
     simp only [cond_true] at g9 ⊢
     have hcs : e.cap * sz ≤ csize w e.b := by simpa [csize, g6] using g7
     obtain ⟨m', rfl, hx, hw'⟩ := hw.put (l := l) (i := i) (w' := w) h1 nN (fun _ _ => rfl) (fun _ _ => rfl) rfl rfl rfl rfl (o := .row ty sz rows false cp) (e' := e) rfl (nM.refl e) (n := rows.length * sz) (by omega)
      (Nat.le_trans (Nat.mul_le_mul_right _ g4) hcs) (fun _ _ => rfl) (fun hk he => by
       have hsz : ¬ (e.sz = 0) := by omega
       simp only [bC, cond_false, if_true]
       have : ∀ cl', Keeps m.cl w cl' w → ∀ (l : List (List D)) (o : Nat), bS m.cl w e.b o sz l → bS cl' w e.b o sz l := by
        intro cl' hk
        have hc : ∀ (l : List D) (o : Nat), bM m.cl w e.b o l → bM cl' w e.b o l := by
         intro l
         induction l with
         | nil => intro o _; simp only [bM]
         | cons d r ih =>
          intro o h
          simp only [bM] at h ⊢
          obtain ⟨⟨v, g1, g2⟩, g3⟩ := h
          exact ⟨⟨v, g1, bT.keep hk d v g2⟩, ih _ g3⟩
        intro l
        induction l with
        | nil => intro o _; simp only [bS]
        | cons r rs ih =>
         intro o h
         simp only [bS] at h ⊢
         exact ⟨h.1, hc r o h.2.1, ih _ h.2.2⟩
       exact ⟨g1, g2, g3, g4, g5, fun _ => ⟨⟨cs, g6, g7⟩, this _ hk rows 0 g8, trivial⟩⟩)
     refine ⟨_, hx, hw', ?_, hset st l i _⟩
     simp only [ak]
     have hrow := hw'.st.mW (l := l) (i := i) (o := .row ty sz rows false cp) (by
      have : ∀ {st : St} {l i : Nat} {o o' : Obj}, look st l i = some o → look (dU st l i o') l i = some o' := by
       intro st
       induction st with
       | nil => intro l i o o' h; simp [look] at h
       | cons fr st ih =>
        intro l i o o' h
        cases l with
        | zero => simp only [look, dU] at h ⊢; exact List.getElem?_set_self (List.getElem?_eq_some_iff.1 h).1
        | succ l => simp only [look, dU] at h ⊢; exact ih h
      exact this hl)
     obtain ⟨e2, q1, q2⟩ := hrow
     simp only [oV h1] at q1
     cases q1
     simp only [bC] at q2
     obtain ⟨_, _, _, _, _, q2⟩ := q2
     exact hext _ (by simp) (q2 nN).2.1
  ·cases h
   exact ⟨m, Ext.refl m w, hw, by simp only [ak], rfl⟩
 ·cases h
  exact ⟨m, Ext.refl m w, hw, hv, rfl⟩
theorem Uq (hw : bI m st w) {l i : Nat} {k : Int} {v : Value} (hv : ak m.blk m.cl w (.row l i k) v) {ty sz : Nat} {rows : List (List D)} {cp : Option Int} (hl : look st l i = some (.row ty sz rows false cp)) (hlen : (real cf).ieq ((real cf).len rows) k = true) : ak m.blk m.cl w (.d (.sl rows none)) v := by
 simp only [ak] at hv
 obtain ⟨e, h1, h2, h3, h5⟩ := hv
 obtain ⟨e', k1, k2⟩ := hw.st.mW hl
 rw [h1] at k1; cases k1
 have hk : (rows.length : Int) = k := by simpa [real] using hlen
 simp only [bC] at k2
 obtain ⟨g1, g2, g3, g4, g5, g⟩ := k2
 have hke : k = e.len := by rw [g3]; exact hk.symm
 simp only [ak, bT]
 rcases h5 with ⟨h0, hgo, base, rfl⟩ | ⟨b, cap, h4, h5⟩
 ·have hr : rows = [] := List.eq_nil_of_length_eq_zero (by omega)
  subst hr
  exact .inl ⟨⟨base, rfl⟩, rfl, by simp⟩
 obtain ⟨rfl, rfl, nN⟩ := h5 hke
 obtain ⟨⟨cs, g6, g7⟩, g8, g9⟩ := g nN
 have arF : k.toNat = rows.length := by omega
 simp only [cond_false] at g9
 exact .inr ⟨sz, e.b, 0, e.cap, by rw [h4, arF], g4, by omega, g8, by simp only [qh]⟩
theorem j4 : ∀ {l l' : List PV} {vs : List Value} {st st' : St} {m : Mt}, bI m st w → bg m.blk m.cl w l vs → freezes (real cf) st l = (l', st') →
  ∃ m', Ext m w m' w ∧ bI m' st' w ∧ bg m'.blk m'.cl w l' vs ∧ st'.length = st.length
 | [], l', vs, st, st', m, hw, hv, h => by
  simp only [freezes, Prod.mk.injEq] at h
  obtain ⟨rfl, rfl⟩ := h
  exact ⟨m, Ext.refl m w, hw, hv, rfl⟩
 | x :: r, l', vs, st, st', m, hw, hv, h => by
  simp only [bg] at hv
  obtain ⟨v, s, rfl, h1, h2⟩ := hv
  simp only [freezes, Prod.mk.injEq] at h
  obtain ⟨rfl, rfl⟩ := h
  obtain ⟨m1, e1, w1, v1, n1⟩ := NM (cf := cf) hw h1 rfl
  obtain ⟨m2, e2, w2, v2, n2⟩ := j4 (l := r) w1 (h2.ext e1) rfl
  exact ⟨m2, e1.trans e2, w2, ⟨v, s, rfl, v1.ext e2, v2⟩, n2.trans n1⟩
theorem j5 {R : Type} {r : R} : ∀ {l : List PV} {st : St} {K : List PV → St → Option R}, eH (real cf) st l K = some r → ∃ l' st', freezes (real cf) st l = (l', st') ∧ K l' st' = some r := by
 intro l
 induction l with
 | nil => intro st K h; exact ⟨[], st, rfl, by simpa only [eH] using h⟩
 | cons x l ih =>
  intro st K h
  have other : (∀ st, freeze (real cf) st x = (x, st)) → eH (real cf) st l (fun vs st => K (x :: vs) st) = some r → ∃ l' st', freezes (real cf) st (x :: l) = (l', st') ∧ K l' st' = some r := by
   intro hx h
   obtain ⟨l', st', h1, h2⟩ := ih h
   exact ⟨x :: l', st', by simp only [freezes, hx, h1], h2⟩
  cases x with
  | row lv i k =>
   simp only [eH] at h
   split at h
   ·rename_i ty sz rows mt cap hl
    cases hb : (real cf).ieq ((real cf).len rows) k with
    | false => simp [hb] at h
    | true =>
     simp only [hb, cond_true] at h
     obtain ⟨l', st', h1, h2⟩ := ih h
     refine ⟨_, st', ?_, h2⟩
     have : freeze (real cf) st (.row lv i k) = (.d (.sl rows none), bif mt then dU st lv i (.row ty sz rows false cap) else st) := by simp only [freeze, hl, hb, cond_true]
     simp only [freezes, this, h1]
   ·cases h
  | _ => simp only [eH] at h; exact other (fun _ => rfl) h
theorem NP {R : Type} {r : R} : ∀ {l : List PV} {st : St} {K : List PV → St → Option R}, jJ (real cf) st l K = some r → ∃ l' st', sQ (real cf) st l = (l', st') ∧ K l' st' = some r := by
 intro l
 induction l with
 | nil => intro st K h; exact ⟨[], st, rfl, by simpa only [jJ] using h⟩
 | cons x l ih =>
  intro st K h
  have other : (∀ st, EY (real cf) st x = (x, st)) → jJ (real cf) st l (fun vs st => K (x :: vs) st) = some r → ∃ l' st', sQ (real cf) st (x :: l) = (l', st') ∧ K l' st' = some r := by
   intro hx h
   obtain ⟨l', st', h1, h2⟩ := ih h
   exact ⟨x :: l', st', by simp only [sQ, hx, h1], h2⟩
  cases x with
  | row lv i k =>
   cases lv with
   | succ lv => simp only [jJ] at h; exact other (fun _ => rfl) h
   | zero =>
   simp only [jJ] at h
   split at h
   ·rename_i ty sz rows mt cap hl
    cases hb : (real cf).ieq ((real cf).len rows) k with
    | false => simp [hb] at h
    | true =>
     simp only [hb, cond_true] at h
     obtain ⟨l', st', h1, h2⟩ := ih h
     refine ⟨_, st', ?_, h2⟩
     have : EY (real cf) st (.row 0 i k) = (.d (.sl rows none), bif mt then dU st 0 i (.row ty sz rows false cap) else st) := by simp only [EY, freeze, hl, hb, cond_true]
     simp only [sQ, this, h1]
   ·cases h
  | _ => simp only [jJ] at h; exact other (fun _ => rfl) h
theorem XB (hw : bI m st w) {x x' : PV} {v : Value} {st' : St} (hv : ak m.blk m.cl w x v) (h : EY (real cf) st x = (x', st')) : ∃ m', Ext m w m' w ∧ bI m' st' w ∧ ak m'.blk m'.cl w x' v ∧ st'.length = st.length := by
 unfold EY at h
 split at h
 ·exact NM hw hv h
 ·cases h
  exact ⟨m, Ext.refl m w, hw, hv, rfl⟩
theorem Ij : ∀ {l l' : List PV} {vs : List Value} {st st' : St} {m : Mt}, bI m st w → bg m.blk m.cl w l vs → sQ (real cf) st l = (l', st') →
  ∃ m', Ext m w m' w ∧ bI m' st' w ∧ bg m'.blk m'.cl w l' vs ∧ st'.length = st.length
 | [], l', vs, st, st', m, hw, hv, h => by
  simp only [sQ, Prod.mk.injEq] at h
  obtain ⟨rfl, rfl⟩ := h
  exact ⟨m, Ext.refl m w, hw, hv, rfl⟩
 | x :: r, l', vs, st, st', m, hw, hv, h => by
  simp only [bg] at hv
  obtain ⟨v, s, rfl, h1, h2⟩ := hv
  simp only [sQ, Prod.mk.injEq] at h
  obtain ⟨rfl, rfl⟩ := h
  obtain ⟨m1, e1, w1, v1, n1⟩ := XB (cf := cf) hw h1 rfl
  obtain ⟨m2, e2, w2, v2, n2⟩ := Ij (l := r) w1 (h2.ext e1) rfl
  exact ⟨m2, e1.trans e2, w2, ⟨v, s, rfl, v1.ext e2, v2⟩, n2.trans n1⟩
theorem bg.len {bl : List (List eT)} {cl : Nat → Nat} {w : World} : ∀ {l : List PV} {vs : List Value}, bg bl cl w l vs → vs.length = l.length
 | [], vs, h => by simp only [bg] at h; subst h; rfl
 | x :: r, vs, h => by
  simp only [bg] at h
  obtain ⟨v, s, rfl, _, h4⟩ := h
  simp [h4.len]
theorem Ad {bl : List (List eT)} {cl : Nat → Nat} {w : World} {x : PV} {v : Value} (h : lY x = true) (hv : ak bl cl w x v) : v.oneCell' = true := by
 cases x with
 | d x => simp only [ak] at hv; exact hv.one
 | agg _ => simp [lY] at h
 | ptr l i o => simp only [ak] at hv; obtain ⟨e, _, _, rfl⟩ := hv; rfl
 | dA cs => simp only [ak] at hv; obtain ⟨b, o, rfl, _⟩ := hv; rfl
 | row l i k => simp only [ak] at hv; obtain ⟨e, _, _, _, h⟩ := hv; rcases h with ⟨_, _, base, rfl⟩ | ⟨b, c, rfl, _⟩ <;> rfl
 | o9 l i k x o => simp only [ak] at hv; obtain ⟨e, b, _, _, rfl, _⟩ := hv; rfl
 | fn f cs => simp only [ak] at hv; obtain ⟨vs, rfl, _⟩ := hv; rfl
 | map l i => simp only [ak] at hv; obtain ⟨e, _, _, rfl⟩ := hv; rfl
 | tail l i k o => simp only [ak] at hv; obtain ⟨e, _, _, _, _, p, c, rfl, _⟩ := hv; rfl
 | vP l i => simp only [ak] at hv; obtain ⟨e, _, _, rfl⟩ := hv; rfl
 | zh _ => simp [lY] at h
 | skip => simp [lY] at h
 | ub => simp [lY] at h
 | unk => simp [lY] at h
theorem ny {bl : List (List eT)} {cl : Nat → Nat} {w : World} : ∀ {l : List PV} {vs : List Value}, eF l = true → bg bl cl w l vs → aI bl cl w l vs
 | [], vs, _, h => by simpa only [bg, aI] using h
 | x :: r, vs, ho, h => by
  simp only [bg] at h
  obtain ⟨v, s, rfl, h1, h2⟩ := h
  simp only [eF] at ho
  cases hx : lY x with
  | false => simp [hx] at ho
  | true =>
   simp only [hx, cond_true] at ho
   simp only [aI]
   exact ⟨v, s, rfl, h1, Ad hx h1, ny ho h2⟩
theorem aI.list {bl : List (List eT)} {cl : Nat → Nat} {w : World} : ∀ {l : List PV} {vs : List Value}, aI bl cl w l vs → bg bl cl w l vs
 | [], vs, h => by simpa only [bg, aI] using h
 | x :: r, vs, h => by
  simp only [aI] at h
  obtain ⟨v, s, rfl, h1, _, h2⟩ := h
  simp only [bg]
  exact ⟨v, s, rfl, h1, h2.list⟩
theorem Ae {bl : List (List eT)} {cl : Nat → Nat} {w : World} {x : PV} {v : Value} (h : ak bl cl w x v) (hok : x = .unk ∨ x = .skip ∨ (∃ l, x = .zh l) ∨ True) : (∃ cs, x = .agg cs ∧ bg bl cl w (unpack x) v.cells.toList) ∨ ((∀ cs, x ≠ .agg cs) ∧ unpack x = [x]) := by
 cases x with
 | agg cs =>
  left
  simp only [ak] at h
  obtain ⟨vs, rfl, h2⟩ := h
  exact ⟨cs, rfl, by simpa [unpack, Value.cells] using h2.list⟩
 | _ => right; exact ⟨fun cs => by simp, rfl⟩
theorem cells_one {v : Value} (h : v.oneCell' = true) : v.cells = #[v] := by cases v <;> first | rfl | (simp [Value.oneCell'] at h)
theorem SG {bl : List (List eT)} {cl : Nat → Nat} {w : World} {x : PV} {v : Value} (h : ak bl cl w x v) : eF (unpack x) = true → aI bl cl w (unpack x) v.cells.toList := by
 intro hok
 rcases Ae h (.inr (.inr (.inr trivial))) with ⟨cs, rfl, h2⟩ | ⟨hne, h2⟩
 ·exact ny hok h2
 ·rw [h2] at hok ⊢
  simp only [eF] at hok
  cases hx : lY x with
  | false => simp [hx] at hok
  | true =>
   have h1 := Ad hx h
   rw [cells_one h1]
   simp only [aI]
   exact ⟨v, [], rfl, h, h1, rfl⟩
end
end Go.X
