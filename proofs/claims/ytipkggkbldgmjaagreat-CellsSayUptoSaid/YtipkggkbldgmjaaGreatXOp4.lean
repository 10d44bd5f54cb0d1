/- New objects; what is handed on becomes data. -/
import Derived.Test.YtipkggkbldgmjaaGreatXOp3
namespace Go.X
open Go
set_option linter.unusedSectionVars false
set_option linter.unusedSimpArgs false
set_option linter.unusedVariables false
variable [eY]
theorem D5 : ∀ {bl : List (List eD)} {l i : Nat} {e : eD}, ent bl l i = some e → gV bl l i e = bl
 | fr :: r, 0, i, e, h => by
  simp only [ent] at h
  simp only [gV]
  congr 1
  apply List.ext_getElem?
  intro j
  by_cases hj : i = j
  ·subst hj; rw [List.getElem?_set_self (List.getElem?_eq_some_iff.1 h).1]; exact h.symm
  ·rw [List.getElem?_set_ne hj]
 | fr :: r, l + 1, i, e, h => by simp only [ent] at h; simp only [gV, D5 h]
 | [], _, _, _, h => by simp [ent] at h
theorem fI.lt {bl : List (List eD)} {cl : Nat → Nat} {w : World} : ∀ {fr : List Obj} {es : List eD}, fI bl cl w fr es → ∀ e ∈ es, e.gone = false → e.b < w.heap.size
 | [], es, h => by simp only [fI] at h; subst h; simp
 | o :: r, es, h => by
  simp only [fI] at h
  obtain ⟨e, s, rfl, h1, h2⟩ := h
  intro x hx hg
  rcases List.mem_cons.1 hx with rfl | hx
  ·cases o with
   | box ty cells => simp only [bF] at h1; obtain ⟨_, _, vs, h, _⟩ := h1; exact (Array.getElem?_eq_some_iff.1 h).1
   | row ty sz rows mt cap => simp only [bF] at h1; obtain ⟨_, _, _, _, _, h1⟩ := h1; obtain ⟨⟨cs, h, _⟩, _⟩ := h1 hg; exact (Array.getElem?_eq_some_iff.1 h).1
   | void => simp only [bF] at h1; rw [h1] at hg; cases hg
   | loop site ρ p => simp only [bF] at h1; obtain ⟨_, _, r, h, _⟩ := h1; exact (Array.getElem?_eq_some_iff.1 h).1
   | map es => simp only [bF] at h1; obtain ⟨_, _, _, ents, clock, h, _⟩ := h1; exact (Array.getElem?_eq_some_iff.1 h).1
  ·exact h2.lt x hx hg
theorem fA.lt {cl : Nat → Nat} {w : World} : ∀ {st : St} {bl : List (List eD)}, fA cl w st bl → ∀ b ∈ blks bl, b < w.heap.size
 | [], bl, h => by simp only [fA] at h; subst h; simp [blks, gT]
 | fr :: st, bl, h => by
  simp only [fA] at h
  obtain ⟨es, r, rfl, h1, h2⟩ := h
  intro b hb
  rw [aX] at hb
  rcases List.mem_append.1 hb with hb | hb
  ·obtain ⟨e, he, hg, rfl⟩ := eG.1 hb; exact h1.lt e he hg
  ·exact h2.lt b hb
theorem bS.lt {m : Mt} {st : St} {w : World} (hw : bS m st w) : ∀ b ∈ blks m.blk, b < w.heap.size := hw.st.lt
theorem bS.mJ {m : Mt} {st : St} {w : World} (hw : bS m st w) {b : Nat} (h : w.heap.size ≤ b) : m.cl b = 0 := by
 have := hw.le b
 have h0 : csize w b = 0 := by simp [csize, Array.getElem?_eq_none h]
 omega
theorem bS.new {m : Mt} {st : St} {w w' : World} (hw : bS m st w) {l : Nat} (hl : l < st.length) {ob : Go.Obj} (hh : w'.heap = w.heap.push ob) (os : w'.os = w.os) (tape : w'.tape = w.tape) (output : w'.output = w.output)
  (hob : ∀ c e fr, ob = .cells c e fr → fr = (0, 0)) {o : Obj} {e : eD} (hb : e.b = w.heap.size) {n : Nat} (hn : n ≤ csize w' w.heap.size)
  (ho : Keeps m.cl w (fun b => if b = w.heap.size then n else m.cl b) w' → dR m.blk (iG m.blk l e) → bF (mR (iG m.blk l e) l) (fun b => if b = w.heap.size then n else m.cl b) w' o e) :
  ∃ m', m' = ⟨iG m.blk l e, fun b => if b = w.heap.size then n else m.cl b⟩ ∧ Ext m w m' w' ∧ bS m' (kX st l o) w' ∧ ent m'.blk l (fE st l) = some e := by
 have hold : ∀ b, b < w.heap.size → w'.heap[b]? = w.heap[b]? := fun b hb => by rw [hh, Array.getElem?_push, if_neg (by omega)]
 have hk : Keeps m.cl w (fun b => if b = w.heap.size then n else m.cl b) w' := by
  refine ⟨fun b => ?_, fun b j hj => ?_⟩
  ·show m.cl b ≤ if b = w.heap.size then n else m.cl b
   split
   ·rename_i h; rw [h, hw.mJ (Nat.le_refl _)]; exact Nat.zero_le _
   ·exact Nat.le_refl _
  ·have : b < w.heap.size := by
    rcases Nat.lt_or_ge b w.heap.size with h | h
    ·exact h
    ·rw [hw.mJ h] at hj; omega
   exact World.cell?_of_block (hold b this)
 have hlt := hw.lt
 have hsize : w'.heap.size = w.heap.size + 1 := by rw [hh]; simp
 have hnew : ∀ b ∈ blks (iG m.blk l e), b ∈ blks m.blk ∨ w.heap.size ≤ b := fun b hb' => by
  rcases oZ _ _ _ _ hb' with ⟨_, h⟩ | h
  ·right; omega
  ·exact .inl h
 refine ⟨_, rfl, ⟨hk, dR.iG _ _ _, os, tape, output, by omega, fun b hb' _ => hold b hb', hnew⟩, ⟨?_, ?_, fun b => ?_, hw.glob.step (fun b hb' _ => hold b hb') hnew⟩, ?_⟩
 ·refine hw.st.RO hk (ho hk (dR.iG _ _ _)) hl fun b hb' => ⟨hold b (hlt b hb'), ?_⟩
  have := hlt b hb'
  simp only [ite_eq_right_iff]; intro h; omega
 ·exact sZ _ _ _ hw.nodup (.inr fun hc => by have := hlt _ hc; omega)
 ·show (if b = w.heap.size then n else m.cl b) ≤ _
  split
  ·rename_i h; subst h; exact hn
  ·rename_i h
   rcases Nat.lt_or_ge b w.heap.size with h' | h'
   ·rw [lG (hold b h')]; exact hw.le b
   ·rw [hw.mJ h']; exact Nat.zero_le _
 ·exact oG hw.st hl
theorem bS.push {m : Mt} {st : St} {w w' : World} (hw : bS m st w) {ob : Go.Obj} (hh : w'.heap = w.heap.push ob) (os : w'.os = w.os) (tape : w'.tape = w.tape) (output : w'.output = w.output)
  (hob : ∀ c e fr, ob = .cells c e fr → fr = (0, 0)) : Ext m w m w' ∧ bS m st w' := by
 have hold : ∀ b, b < w.heap.size → w'.heap[b]? = w.heap[b]? := fun b hb => by rw [hh, Array.getElem?_push, if_neg (by omega)]
 have hk : Keeps m.cl w m.cl w' := ⟨fun b => Nat.le_refl _, fun b j hj => by
  have : b < w.heap.size := by
   rcases Nat.lt_or_ge b w.heap.size with h | h
   ·exact h
   ·rw [hw.mJ h] at hj; omega
  exact World.cell?_of_block (hold b this)⟩
 have hsize : w'.heap.size = w.heap.size + 1 := by rw [hh]; simp
 refine ⟨⟨hk, dR.refl _, os, tape, output, by omega, fun b hb' _ => hold b hb', fun b hb' => .inl hb'⟩, hw.st.keep hk (fun b hb => ⟨hold b (hw.lt b hb), rfl⟩), hw.nodup, fun b => ?_, hw.glob.step (fun b hb' _ => hold b hb') fun b hb' => .inl hb'⟩
 rcases Nat.lt_or_ge b w.heap.size with h' | h'
 ·rw [lG (hold b h')]; exact hw.le b
 ·rw [hw.mJ h']; exact Nat.zero_le _
theorem bS.Gd {m : Mt} {st : St} {w : World} (hw : bS m st w) {l : Nat} (hl : l < st.length) {ty sz : Nat} (hsz : 0 < sz) (mt : Bool) (cap : Option Int) (hcap : ∀ c, cap = some c → c = 0) :
  ∃ m', m' = ⟨iG m.blk l ⟨0, 0, sz, 0⟩, m.cl⟩ ∧ Ext m w m' w ∧ bS m' (kX st l (.row ty sz [] mt cap)) w ∧ ent m'.blk l (fE st l) = some ⟨0, 0, sz, 0⟩ := by
 have hg : (⟨0, 0, sz, 0⟩ : eD).gone = true := kE rfl hsz
 have hnew : ∀ b ∈ blks (iG m.blk l ⟨0, 0, sz, 0⟩), b ∈ blks m.blk ∨ w.heap.size ≤ b := fun b hb => by
  rcases oZ _ _ _ _ hb with ⟨h, _⟩ | h
  ·rw [hg] at h; cases h
  ·exact .inl h
 refine ⟨_, rfl, ⟨Keeps.refl _ _, dR.iG _ _ _, rfl, rfl, rfl, Nat.le_refl _, fun _ _ _ => rfl, hnew⟩, ⟨?_, ?_, hw.le, hw.glob.step (fun _ _ _ => rfl) hnew⟩, oG hw.st hl⟩
 ·refine hw.st.RO (Keeps.refl _ _) ?_ hl fun b hb => ⟨rfl, rfl⟩
  simp only [bF]
  exact ⟨hsz, trivial, rfl, Nat.le_refl _, fun c hc => by rw [hcap c hc]; rfl, fun h => by rw [hg] at h; cases h⟩
 ·exact sZ _ _ _ hw.nodup (.inl hg)
theorem bS.akj {m : Mt} {st : St} {w : World} (hw : bS m st w) {l i : Nat} {e : eD} (he : ent m.blk l i = some e) (hg : e.gone = true) {o : Obj} (ho : bF (mR m.blk l) m.cl w o e) : bS m (fM st l i o) w := by
 have h := hw.st.Hg (Keeps.refl _ _) he (jW.refl e) (o' := o) (by rw [D5 he]; exact ho) hw.nodup (fun b _ _ => ⟨rfl, rfl⟩)
 rw [D5 he] at h
 exact ⟨h, hw.nodup, hw.le, hw.glob⟩
theorem D6 : ∀ {l : List eD} {i : Nat} {e e' : eD}, l[i]? = some e → e.gone = false → (gT l).Nodup → e'.gone = true → e.b ∉ gT (l.set i e')
 | x :: r, 0, e, e', h, hg, hn, hd => by
  simp at h; subst h
  rw [gP, hg, cond_false, List.nodup_cons] at hn
  simp only [List.set_cons_zero, gP, hd, cond_true]
  exact hn.1
 | x :: r, i + 1, e, e', h, hg, hn, hd => by
  simp at h
  rw [gP] at hn
  simp only [List.set_cons_succ, gP]
  have hm : e.b ∈ gT r := eG.2 ⟨e, List.mem_of_getElem? h, hg, rfl⟩
  cases hx : x.gone with
  | true =>
   rw [hx] at hn
   simp only [cond_true] at hn ⊢
   exact D6 h hg hn hd
  | false =>
   rw [hx, cond_false, List.nodup_cons] at hn
   simp only [cond_false, List.mem_cons, not_or]
   exact ⟨fun hb => hn.1 (hb ▸ hm), D6 h hg hn.2 hd⟩
 | [], _, _, _, h, _, _, _ => by simp at h
theorem Ll : ∀ {bl : List (List eD)} {l i : Nat} {e e' : eD}, ent bl l i = some e → e.gone = false → (blks bl).Nodup → e'.gone = true → e.b ∉ blks (gV bl l i e')
 | fr :: r, 0, i, e, e', h, hg, hn, hd => by
  simp only [ent] at h
  rw [aX] at hn
  simp only [gV, aX, List.mem_append, not_or]
  have hn' := List.nodup_append.1 hn
  exact ⟨D6 h hg hn'.1 hd, fun hb => hn'.2.2 e.b (eG.2 ⟨e, List.mem_of_getElem? h, hg, rfl⟩) e.b hb rfl⟩
 | fr :: r, l + 1, i, e, e', h, hg, hn, hd => by
  simp only [ent] at h
  rw [aX] at hn
  simp only [gV, aX, List.mem_append, not_or]
  have hn' := List.nodup_append.1 hn
  exact ⟨fun hb => hn'.2.2 e.b hb e.b (yJ h hg) rfl, Ll h hg hn'.2.1 hd⟩
 | [], _, _, _, _, h, _, _, _ => by simp [ent] at h
theorem Fp : ∀ (st : St) (l i : Nat) (o : Obj), (fM st l i o).length = st.length
 | [], _, _, _ => rfl
 | fr :: st, 0, _, _ => rfl
 | fr :: st, l + 1, i, o => by simp [fM, Fp st l i o]
theorem Lm : ∀ (st : St) (l i : Nat) (o : Obj) (k : Nat), fE (fM st l i o) k = fE st k
 | [], _, _, _, k => by cases k <;> rfl
 | fr :: st, 0, _, _, 0 => by simp [fM, fE]
 | fr :: st, 0, _, _, k + 1 => rfl
 | fr :: st, l + 1, i, o, 0 => rfl
 | fr :: st, l + 1, i, o, k + 1 => by simp only [fM, fE]; exact Lm st l i o k
theorem bS.UK {m : Mt} {st : St} {w : World} (hw : bS m st w) {l i : Nat} {e : eD} (he : ent m.blk l i = some e) (hsz : 0 < e.sz) {k : Nat} (hk : k < st.length) {e2 : eD} (hb : e2.gone = true ∨ (e.gone = false ∧ e2.b = e.b)) {o : Obj} (ho : ∀ bl, bF bl m.cl w o e2) :
  ∃ m', m' = ⟨iG (gV m.blk l i ⟨e.b, e.len + 1, e.sz, 0⟩) k e2, m.cl⟩ ∧ Ext m w m' w ∧ bS m' (kX (fM st l i .void) k o) w ∧ ent m'.blk k (fE st k) = some e2 := by
 have hd : (⟨e.b, e.len + 1, e.sz, 0⟩ : eD).gone = true := kE rfl hsz
 have hle : jW e ⟨e.b, e.len + 1, e.sz, 0⟩ := ⟨by show e.len ≤ e.len + 1; omega, rfl, fun h => by
  rcases h with h | h
  ·have : e.len + 1 = e.len := h
   omega
  ·omega⟩
 have h1 : fA m.cl w (fM st l i .void) (gV m.blk l i ⟨e.b, e.len + 1, e.sz, 0⟩) := hw.st.Hg (Keeps.refl _ _) he hle (by simp only [bF]; exact hd) hw.nodup (fun b _ _ => ⟨rfl, rfl⟩)
 have hk' : k < (fM st l i .void).length := by rw [Fp]; exact hk
 have hn1 := sW (e' := ⟨e.b, e.len + 1, e.sz, 0⟩) he hw.nodup (.inl hd)
 have hnew : ∀ b ∈ blks (iG (gV m.blk l i ⟨e.b, e.len + 1, e.sz, 0⟩) k e2), b ∈ blks m.blk ∨ w.heap.size ≤ b := fun b hb' => by
  rcases oZ _ _ _ _ hb' with ⟨hg, rfl⟩ | h
  ·rcases hb with hb | ⟨hb1, hb2⟩
   ·rw [hg] at hb; cases hb
   ·exact .inl (hb2 ▸ yJ he hb1)
  ·rcases rR he _ h with ⟨h, _⟩ | h
   ·rw [hd] at h; cases h
   ·exact .inl h
 refine ⟨_, rfl, ⟨Keeps.refl _ _, (dR.gV he hle).trans (dR.iG _ _ _), rfl, rfl, rfl, Nat.le_refl _, fun _ _ _ => rfl, hnew⟩, ⟨?_, ?_, hw.le, hw.glob.step (fun _ _ _ => rfl) hnew⟩, ?_⟩
 ·exact h1.RO (Keeps.refl _ _) (ho _) hk' fun b _ => ⟨rfl, rfl⟩
 ·refine sZ _ _ _ hn1 ?_
  rcases hb with hb | ⟨hb1, hb2⟩
  ·exact .inl hb
  ·exact .inr (by rw [hb2]; exact Ll he hb1 hw.nodup hd)
 ·have := oG (e' := e2) h1 hk'
  rwa [Lm] at this
theorem bS.put {m : Mt} {st : St} {w w' : World} (hw : bS m st w) {l i : Nat} {e : eD} (he : ent m.blk l i = some e) (hg : e.gone = false) (hsame : ∀ b, b ≠ e.b → w'.heap[b]? = w.heap[b]?) (hfz : ∀ a : Addr, a.block = e.b → w'.frozen? a = w.frozen? a) (hsz : w'.heap.size = w.heap.size) (os : w'.os = w.os) (tape : w'.tape = w.tape) (output : w'.output = w.output)
  {o : Obj} {e' : eD} (hb : e'.b = e.b) (hle : jW e e') {n : Nat} (hn : m.cl e.b ≤ n) (hn' : n ≤ csize w' e.b) (hcells : ∀ j, j < m.cl e.b → w'.cell? ⟨e.b, j, none⟩ = w.cell? ⟨e.b, j, none⟩)
  (ho : Keeps m.cl w (fun b => if b = e.b then n else m.cl b) w' → dR m.blk (gV m.blk l i e') → bF (mR (gV m.blk l i e') l) (fun b => if b = e.b then n else m.cl b) w' o e') :
  ∃ m', m' = ⟨gV m.blk l i e', fun b => if b = e.b then n else m.cl b⟩ ∧ Ext m w m' w' ∧ bS m' (fM st l i o) w' := by
 have hk : Keeps m.cl w (fun b => if b = e.b then n else m.cl b) w' := by
  refine ⟨fun b => ?_, fun b j hj => ?_⟩
  ·show m.cl b ≤ if b = e.b then n else m.cl b
   split
   ·rename_i h; rw [h]; exact hn
   ·exact Nat.le_refl _
  ·by_cases h : b = e.b
   ·subst h; exact hcells j hj
   ·exact World.cell?_of_block (hsame b h)
 have hmem := yJ he hg
 have hnew : ∀ b ∈ blks (gV m.blk l i e'), b ∈ blks m.blk ∨ w.heap.size ≤ b := fun b hb' => by
  rcases rR he _ hb' with ⟨_, h⟩ | h
  ·left; rw [h, hb]; exact hmem
  ·exact .inl h
 refine ⟨_, rfl, ⟨hk, dR.gV he hle, os, tape, output, by omega, fun b _ hb' => hsame b fun h => hb' (h ▸ hmem), hnew⟩, ⟨?_, ?_, fun b => ?_, hw.glob.step (fun b _ hb' => hsame b fun h => hb' (h ▸ hmem)) hnew⟩⟩
 ·exact hw.st.Hg hk he hle (ho hk (dR.gV he hle)) hw.nodup fun b _ hne => ⟨hsame b (hne hg), by simp [hne hg]⟩
 ·exact sW he hw.nodup (.inr (.inl ⟨hg, hb⟩))
 ·show (if b = e.b then n else m.cl b) ≤ _
  split
  ·rename_i h; subst h; exact hn'
  ·rename_i h; rw [lG (hsame b h)]; exact hw.le b
section
variable {R : Type} {P : Program} {Γ : Tab} {cf : Nat → List PV → St → Option (PV × St)} {o : Oper} {a : Act} {w : World} {m : Mt} {K : PV → St → Option R} {r : R} {st : St} {ρ : Env}
theorem Hr (hw : bS m st w) {x x' : PV} {v : Value} {st' : St} (hv : ay m.blk m.cl w x v) (h : freeze (real cf) st x = (x', st')) : ∃ m', Ext m w m' w ∧ bS m' st' w ∧ ay m'.blk m'.cl w x' v ∧ st'.length = st.length := by
 unfold freeze at h
 split at h
 ·rename_i l i k
  simp only [ay] at hv
  obtain ⟨e, h1, h2, h3, h5⟩ := hv
  have hset : ∀ (st : St) (l i : Nat) (o : Obj), (fM st l i o).length = st.length := by
   intro st
   induction st with
   | nil => intro l i o; simp [fM]
   | cons fr st ih => intro l i o; cases l <;> simp [fM, ih]
  split at h
  ·rename_i ty sz rows mt cp hl
   obtain ⟨e', k1, k2⟩ := hw.st.jH hl
   rw [h1] at k1; cases k1
   cases hlen : (real cf).ieq ((real cf).len rows) k with
   | false =>
    simp only [hlen, cond_false, Prod.mk.injEq] at h
    obtain ⟨rfl, rfl⟩ := h
    exact ⟨m, Ext.refl m w, hw, by simp only [ay], rfl⟩
   | true =>
    simp only [hlen, cond_true, Prod.mk.injEq] at h
    obtain ⟨rfl, rfl⟩ := h
    have hk : (rows.length : Int) = k := by simpa [real] using hlen
    have k2' := k2
    simp only [bF] at k2
    obtain ⟨g1, g2, g3, g4, g5, g⟩ := k2
    have hke : k = e.len := by rw [g3]; exact hk.symm
    rcases h5 with ⟨h0, hgo, base, rfl⟩ | ⟨b, cap, h4, h5⟩
    ·
     have jX := hgo hke
     have hr : rows = [] := List.eq_nil_of_length_eq_zero (by omega)
     subst hr
     have hw' : bS m (bif mt then fM st l i (.row ty sz [] false cp) else st) w := by
      cases mt with
      | false => exact hw
      | true =>
       refine hw.akj h1 jX ?_
       simp only [bF]
       exact ⟨g1, g2, g3, g4, g5, fun hg => by rw [jX] at hg; cases hg⟩
     refine ⟨m, Ext.refl m w, hw', ?_, by cases mt <;> simp [hset]⟩
     simp only [ay, bY]
     exact .inl ⟨⟨base, rfl⟩, trivial, by simp⟩
    obtain ⟨rfl, rfl, jX⟩ := h5 hke
    obtain ⟨⟨cs, g6, g7⟩, g8, g9⟩ := g jX
    have akk : k.toNat = rows.length := by omega
    have hext : ∀ cl, (cl e.b = rows.length * sz) → bW cl w e.b 0 sz rows → bY cl w (.sl rows none) v := by
     intro cl hcl hrows
     simp only [bY]
     exact .inr ⟨sz, e.b, 0, e.cap, by rw [h4, akk], g4, by omega, hrows, by simp only [mH]⟩
    cases mt with
    | false =>
     simp only [cond_false] at g9 ⊢
     exact ⟨m, Ext.refl m w, by simpa using hw, by simp only [ay]; exact hext m.cl g9 g8, by simp⟩
    | true =>
     simp only [cond_true] at g9 ⊢
     have hcs : e.cap * sz ≤ csize w e.b := by simpa [csize, g6] using g7
     obtain ⟨m', rfl, hx, hw'⟩ := hw.put (l := l) (i := i) (w' := w) h1 jX (fun _ _ => rfl) (fun _ _ => rfl) rfl rfl rfl rfl (o := .row ty sz rows false cp) (e' := e) rfl (jW.refl e) (n := rows.length * sz) (by omega)
      (Nat.le_trans (Nat.mul_le_mul_right _ g4) hcs) (fun _ _ => rfl) (fun hk he => by
       have hsz : ¬ (e.sz = 0) := by omega
       simp only [bF, cond_false, if_true]
       have : ∀ cl', Keeps m.cl w cl' w → ∀ (l : List (List D)) (o : Nat), bW m.cl w e.b o sz l → bW cl' w e.b o sz l := by
        intro cl' hk
        have hc : ∀ (l : List D) (o : Nat), bQ m.cl w e.b o l → bQ cl' w e.b o l := by
         intro l
         induction l with
         | nil => intro o _; simp only [bQ]
         | cons d r ih =>
          intro o h
          simp only [bQ] at h ⊢
          obtain ⟨⟨v, g1, g2⟩, g3⟩ := h
          exact ⟨⟨v, g1, bY.keep hk d v g2⟩, ih _ g3⟩
        intro l
        induction l with
        | nil => intro o _; simp only [bW]
        | cons r rs ih =>
         intro o h
         simp only [bW] at h ⊢
         exact ⟨h.1, hc r o h.2.1, ih _ h.2.2⟩
       exact ⟨g1, g2, g3, g4, g5, fun _ => ⟨⟨cs, g6, g7⟩, this _ hk rows 0 g8, trivial⟩⟩)
     refine ⟨_, hx, hw', ?_, hset st l i _⟩
     simp only [ay]
     have hrow := hw'.st.jH (l := l) (i := i) (o := .row ty sz rows false cp) (by
      have : ∀ {st : St} {l i : Nat} {o o' : Obj}, look st l i = some o → look (fM st l i o') l i = some o' := by
       intro st
       induction st with
       | nil => intro l i o o' h; simp [look] at h
       | cons fr st ih =>
        intro l i o o' h
        cases l with
        | zero => simp only [look, fM] at h ⊢; exact List.getElem?_set_self (List.getElem?_eq_some_iff.1 h).1
        | succ l => simp only [look, fM] at h ⊢; exact ih h
      exact this hl)
     obtain ⟨e2, q1, q2⟩ := hrow
     simp only [kY h1] at q1
     cases q1
     simp only [bF] at q2
     obtain ⟨_, _, _, _, _, q2⟩ := q2
     exact hext _ (by simp) (q2 jX).2.1
  ·cases h
   exact ⟨m, Ext.refl m w, hw, by simp only [ay], rfl⟩
 ·cases h
  exact ⟨m, Ext.refl m w, hw, hv, rfl⟩
theorem NS (hw : bS m st w) {l i : Nat} {k : Int} {v : Value} (hv : ay m.blk m.cl w (.row l i k) v) {ty sz : Nat} {rows : List (List D)} {cp : Option Int} (hl : look st l i = some (.row ty sz rows false cp)) (hlen : (real cf).ieq ((real cf).len rows) k = true) : ay m.blk m.cl w (.d (.sl rows none)) v := by
 simp only [ay] at hv
 obtain ⟨e, h1, h2, h3, h5⟩ := hv
 obtain ⟨e', k1, k2⟩ := hw.st.jH hl
 rw [h1] at k1; cases k1
 have hk : (rows.length : Int) = k := by simpa [real] using hlen
 simp only [bF] at k2
 obtain ⟨g1, g2, g3, g4, g5, g⟩ := k2
 have hke : k = e.len := by rw [g3]; exact hk.symm
 simp only [ay, bY]
 rcases h5 with ⟨h0, hgo, base, rfl⟩ | ⟨b, cap, h4, h5⟩
 ·have hr : rows = [] := List.eq_nil_of_length_eq_zero (by omega)
  subst hr
  exact .inl ⟨⟨base, rfl⟩, rfl, by simp⟩
 obtain ⟨rfl, rfl, jX⟩ := h5 hke
 obtain ⟨⟨cs, g6, g7⟩, g8, g9⟩ := g jX
 have akk : k.toNat = rows.length := by omega
 simp only [cond_false] at g9
 exact .inr ⟨sz, e.b, 0, e.cap, by rw [h4, akk], g4, by omega, g8, by simp only [mH]⟩
theorem iN : ∀ {l l' : List PV} {vs : List Value} {st st' : St} {m : Mt}, bS m st w → bL m.blk m.cl w l vs → freezes (real cf) st l = (l', st') →
  ∃ m', Ext m w m' w ∧ bS m' st' w ∧ bL m'.blk m'.cl w l' vs ∧ st'.length = st.length
 | [], l', vs, st, st', m, hw, hv, h => by
  simp only [freezes, Prod.mk.injEq] at h
  obtain ⟨rfl, rfl⟩ := h
  exact ⟨m, Ext.refl m w, hw, hv, rfl⟩
 | x :: r, l', vs, st, st', m, hw, hv, h => by
  simp only [bL] at hv
  obtain ⟨v, s, rfl, h1, h2⟩ := hv
  simp only [freezes, Prod.mk.injEq] at h
  obtain ⟨rfl, rfl⟩ := h
  obtain ⟨m1, e1, w1, v1, n1⟩ := Hr (cf := cf) hw h1 rfl
  obtain ⟨m2, e2, w2, v2, n2⟩ := iN (l := r) w1 (h2.ext e1) rfl
  exact ⟨m2, e1.trans e2, w2, ⟨v, s, rfl, v1.ext e2, v2⟩, n2.trans n1⟩
theorem iO {R : Type} {r : R} : ∀ {l : List PV} {st : St} {K : List PV → St → Option R}, eu (real cf) st l K = some r → ∃ l' st', freezes (real cf) st l = (l', st') ∧ K l' st' = some r := by
 intro l
 induction l with
 | nil => intro st K h; exact ⟨[], st, rfl, by simpa only [eu] using h⟩
 | cons x l ih =>
  intro st K h
  have other : (∀ st, freeze (real cf) st x = (x, st)) → eu (real cf) st l (fun vs st => K (x :: vs) st) = some r → ∃ l' st', freezes (real cf) st (x :: l) = (l', st') ∧ K l' st' = some r := by
   intro hx h
   obtain ⟨l', st', h1, h2⟩ := ih h
   exact ⟨x :: l', st', by simp only [freezes, hx, h1], h2⟩
  cases x with
  | row lv i k =>
   simp only [eu] at h
   split at h
   ·rename_i ty sz rows mt cap hl
    cases hb : (real cf).ieq ((real cf).len rows) k with
    | false => simp [hb] at h
    | true =>
     simp only [hb, cond_true] at h
     obtain ⟨l', st', h1, h2⟩ := ih h
     refine ⟨_, st', ?_, h2⟩
     have : freeze (real cf) st (.row lv i k) = (.d (.sl rows none), bif mt then fM st lv i (.row ty sz rows false cap) else st) := by simp only [freeze, hl, hb, cond_true]
     simp only [freezes, this, h1]
   ·cases h
  | _ => simp only [eu] at h; exact other (fun _ => rfl) h
theorem Ht {R : Type} {r : R} : ∀ {l : List PV} {st : St} {K : List PV → St → Option R}, iB (real cf) st l K = some r → ∃ l' st', nI (real cf) st l = (l', st') ∧ K l' st' = some r := by
 intro l
 induction l with
 | nil => intro st K h; exact ⟨[], st, rfl, by simpa only [iB] using h⟩
 | cons x l ih =>
  intro st K h
  have other : (∀ st, yH (real cf) st x = (x, st)) → iB (real cf) st l (fun vs st => K (x :: vs) st) = some r → ∃ l' st', nI (real cf) st (x :: l) = (l', st') ∧ K l' st' = some r := by
   intro hx h
   obtain ⟨l', st', h1, h2⟩ := ih h
   exact ⟨x :: l', st', by simp only [nI, hx, h1], h2⟩
  cases x with
  | row lv i k =>
   cases lv with
   | succ lv => simp only [iB] at h; exact other (fun _ => rfl) h
   | zero =>
   simp only [iB] at h
   split at h
   ·rename_i ty sz rows mt cap hl
    cases hb : (real cf).ieq ((real cf).len rows) k with
    | false => simp [hb] at h
    | true =>
     simp only [hb, cond_true] at h
     obtain ⟨l', st', h1, h2⟩ := ih h
     refine ⟨_, st', ?_, h2⟩
     have : yH (real cf) st (.row 0 i k) = (.d (.sl rows none), bif mt then fM st 0 i (.row ty sz rows false cap) else st) := by simp only [yH, freeze, hl, hb, cond_true]
     simp only [nI, this, h1]
   ·cases h
  | _ => simp only [iB] at h; exact other (fun _ => rfl) h
theorem RS (hw : bS m st w) {x x' : PV} {v : Value} {st' : St} (hv : ay m.blk m.cl w x v) (h : yH (real cf) st x = (x', st')) : ∃ m', Ext m w m' w ∧ bS m' st' w ∧ ay m'.blk m'.cl w x' v ∧ st'.length = st.length := by
 unfold yH at h
 split at h
 ·exact Hr hw hv h
 ·cases h
  exact ⟨m, Ext.refl m w, hw, hv, rfl⟩
theorem Bu : ∀ {l l' : List PV} {vs : List Value} {st st' : St} {m : Mt}, bS m st w → bL m.blk m.cl w l vs → nI (real cf) st l = (l', st') →
  ∃ m', Ext m w m' w ∧ bS m' st' w ∧ bL m'.blk m'.cl w l' vs ∧ st'.length = st.length
 | [], l', vs, st, st', m, hw, hv, h => by
  simp only [nI, Prod.mk.injEq] at h
  obtain ⟨rfl, rfl⟩ := h
  exact ⟨m, Ext.refl m w, hw, hv, rfl⟩
 | x :: r, l', vs, st, st', m, hw, hv, h => by
  simp only [bL] at hv
  obtain ⟨v, s, rfl, h1, h2⟩ := hv
  simp only [nI, Prod.mk.injEq] at h
  obtain ⟨rfl, rfl⟩ := h
  obtain ⟨m1, e1, w1, v1, n1⟩ := RS (cf := cf) hw h1 rfl
  obtain ⟨m2, e2, w2, v2, n2⟩ := Bu (l := r) w1 (h2.ext e1) rfl
  exact ⟨m2, e1.trans e2, w2, ⟨v, s, rfl, v1.ext e2, v2⟩, n2.trans n1⟩
theorem bL.len {bl : List (List eD)} {cl : Nat → Nat} {w : World} : ∀ {l : List PV} {vs : List Value}, bL bl cl w l vs → vs.length = l.length
 | [], vs, h => by simp only [bL] at h; subst h; rfl
 | x :: r, vs, h => by
  simp only [bL] at h
  obtain ⟨v, s, rfl, _, h4⟩ := h
  simp [h4.len]
theorem tF {bl : List (List eD)} {cl : Nat → Nat} {w : World} {x : PV} {v : Value} (h : jm x = true) (hv : ay bl cl w x v) : v.oneCell' = true := by
 cases x with
 | d x => simp only [ay] at hv; exact hv.one
 | agg _ => simp [jm] at h
 | ptr l i o => simp only [ay] at hv; obtain ⟨e, _, _, rfl⟩ := hv; rfl
 | bf cs => simp only [ay] at hv; obtain ⟨b, o, rfl, _⟩ := hv; rfl
 | row l i k => simp only [ay] at hv; obtain ⟨e, _, _, _, h⟩ := hv; rcases h with ⟨_, _, base, rfl⟩ | ⟨b, c, rfl, _⟩ <;> rfl
 | mG l i k x o => simp only [ay] at hv; obtain ⟨e, b, _, _, rfl, _⟩ := hv; rfl
 | fn f cs => simp only [ay] at hv; obtain ⟨vs, rfl, _⟩ := hv; rfl
 | map l i => simp only [ay] at hv; obtain ⟨e, _, _, rfl⟩ := hv; rfl
 | tail l i k o => simp only [ay] at hv; obtain ⟨e, _, _, _, _, p, c, rfl, _⟩ := hv; rfl
 | Bf l i => simp only [ay] at hv; obtain ⟨e, _, _, rfl⟩ := hv; rfl
 | yV _ => simp [jm] at h
 | skip => simp [jm] at h
 | ub => simp [jm] at h
 | unk => simp [jm] at h
theorem jM {bl : List (List eD)} {cl : Nat → Nat} {w : World} : ∀ {l : List PV} {vs : List Value}, eB l = true → bL bl cl w l vs → aZ bl cl w l vs
 | [], vs, _, h => by simpa only [bL, aZ] using h
 | x :: r, vs, ho, h => by
  simp only [bL] at h
  obtain ⟨v, s, rfl, h1, h2⟩ := h
  simp only [eB] at ho
  cases hx : jm x with
  | false => simp [hx] at ho
  | true =>
   simp only [hx, cond_true] at ho
   simp only [aZ]
   exact ⟨v, s, rfl, h1, tF hx h1, jM ho h2⟩
theorem aZ.list {bl : List (List eD)} {cl : Nat → Nat} {w : World} : ∀ {l : List PV} {vs : List Value}, aZ bl cl w l vs → bL bl cl w l vs
 | [], vs, h => by simpa only [bL, aZ] using h
 | x :: r, vs, h => by
  simp only [aZ] at h
  obtain ⟨v, s, rfl, h1, _, h2⟩ := h
  simp only [bL]
  exact ⟨v, s, rfl, h1, h2.list⟩
theorem tH {bl : List (List eD)} {cl : Nat → Nat} {w : World} {x : PV} {v : Value} (h : ay bl cl w x v) (hok : x = .unk ∨ x = .skip ∨ (∃ l, x = .yV l) ∨ True) : (∃ cs, x = .agg cs ∧ bL bl cl w (unpack x) v.cells.toList) ∨ ((∀ cs, x ≠ .agg cs) ∧ unpack x = [x]) := by
 cases x with
 | agg cs =>
  left
  simp only [ay] at h
  obtain ⟨vs, rfl, h2⟩ := h
  exact ⟨cs, rfl, by simpa [unpack, Value.cells] using h2.list⟩
 | _ => right; exact ⟨fun cs => by simp, rfl⟩
theorem cells_one {v : Value} (h : v.oneCell' = true) : v.cells = #[v] := by cases v <;> first | rfl | (simp [Value.oneCell'] at h)
theorem Lp {bl : List (List eD)} {cl : Nat → Nat} {w : World} {x : PV} {v : Value} (h : ay bl cl w x v) : eB (unpack x) = true → aZ bl cl w (unpack x) v.cells.toList := by
 intro hok
 rcases tH h (.inr (.inr (.inr trivial))) with ⟨cs, rfl, h2⟩ | ⟨hne, h2⟩
 ·exact jM hok h2
 ·rw [h2] at hok ⊢
  simp only [eB] at hok
  cases hx : jm x with
  | false => simp [hx] at hok
  | true =>
   have h1 := tF hx h
   rw [cells_one h1]
   simp only [aZ]
   exact ⟨v, [], rfl, h, h1, rfl⟩
end
end Go.X
