/- New objects; what is handed on becomes data. -/
import Derived.Test.YtdmpjlpkmokllaaDoorXOp3
namespace Go.X
open Go
set_option linter.unusedSectionVars false
set_option linter.unusedSimpArgs false
set_option linter.unusedVariables false
variable [Sites]

theorem setE_self : ∀ {bl : List (List Ent)} {l i : Nat} {e : Ent}, ent bl l i = some e → setE bl l i e = bl
  | fr :: r, 0, i, e, h => by
    simp only [ent] at h
    simp only [setE]
    congr 1
    apply List.ext_getElem?
    intro j
    by_cases hj : i = j
    · subst hj; rw [List.getElem?_set_self (List.getElem?_eq_some_iff.1 h).1]; exact h.symm
    · rw [List.getElem?_set_ne hj]
  | fr :: r, l + 1, i, e, h => by simp only [ent] at h; simp only [setE, setE_self h]
  | [], _, _, _, h => by simp [ent] at h

theorem OList.lt {bl : List (List Ent)} {cl : Nat → Nat} {w : World} : ∀ {fr : List Obj} {es : List Ent}, OList bl cl w fr es → ∀ e ∈ es, e.gone = false → e.b < w.heap.size
  | [], es, h => by simp only [OList] at h; subst h; simp
  | o :: r, es, h => by
    simp only [OList] at h
    obtain ⟨e, s, rfl, h1, h2⟩ := h
    intro x hx hg
    rcases List.mem_cons.1 hx with rfl | hx
    · cases o with
      | box ty cells => simp only [ObjRel] at h1; obtain ⟨_, _, vs, h, _⟩ := h1; exact (Array.getElem?_eq_some_iff.1 h).1
      | row ty sz rows mt cap => simp only [ObjRel] at h1; obtain ⟨_, _, _, _, _, h1⟩ := h1; obtain ⟨⟨cs, h, _⟩, _⟩ := h1 hg; exact (Array.getElem?_eq_some_iff.1 h).1
      | void => simp only [ObjRel] at h1; rw [h1] at hg; cases hg
      | loop site ρ p => simp only [ObjRel] at h1; obtain ⟨_, _, r, h, _⟩ := h1; exact (Array.getElem?_eq_some_iff.1 h).1
      | map es => simp only [ObjRel] at h1; obtain ⟨_, _, _, ents, clock, h, _⟩ := h1; exact (Array.getElem?_eq_some_iff.1 h).1
    · exact h2.lt x hx hg
theorem StRel.lt {cl : Nat → Nat} {w : World} : ∀ {st : St} {bl : List (List Ent)}, StRel cl w st bl → ∀ b ∈ blks bl, b < w.heap.size
  | [], bl, h => by simp only [StRel] at h; subst h; simp [blks, livB]
  | fr :: st, bl, h => by
    simp only [StRel] at h
    obtain ⟨es, r, rfl, h1, h2⟩ := h
    intro b hb
    rw [blks_cons] at hb
    rcases List.mem_append.1 hb with hb | hb
    · obtain ⟨e, he, hg, rfl⟩ := mem_livB.1 hb; exact h1.lt e he hg
    · exact h2.lt b hb
theorem WRel.lt {m : Mt} {st : St} {w : World} (hw : WRel m st w) : ∀ b ∈ blks m.blk, b < w.heap.size := hw.st.lt
theorem WRel.cl_size {m : Mt} {st : St} {w : World} (hw : WRel m st w) {b : Nat} (h : w.heap.size ≤ b) : m.cl b = 0 := by
  have := hw.le b
  have h0 : csize w b = 0 := by simp [csize, Array.getElem?_eq_none h]
  omega

theorem froz_push {w w' : World} {ob : Go.Obj} (hh : w'.heap = w.heap.push ob) (hob : ∀ c e fr, ob = .cells c e fr → fr = (0, 0)) (a : Addr) : w'.frozen? a = w.frozen? a := by
  rcases Nat.lt_trichotomy a.block w.heap.size with h | h | h
  · have : w'.heap[a.block]? = w.heap[a.block]? := by rw [hh, Array.getElem?_push, if_neg (by omega)]
    simp only [World.frozen?, this]
  · have h1 : w'.heap[a.block]? = some ob := by rw [hh, h]; simp
    have h2 : w.heap[a.block]? = none := Array.getElem?_eq_none (by omega)
    simp only [World.frozen?, h1, h2]
    cases ob <;> first | rfl | skip
    rename_i c e fr
    have := hob c e fr rfl
    subst this
    simp
  · have h1 : w'.heap[a.block]? = none := Array.getElem?_eq_none (by rw [hh]; simp; omega)
    have h2 : w.heap[a.block]? = none := Array.getElem?_eq_none (by omega)
    simp only [World.frozen?, h1, h2]
/-- One object more, in a new block. -/
theorem WRel.new {m : Mt} {st : St} {w w' : World} (hw : WRel m st w) {l : Nat} (hl : l < st.length) {ob : Go.Obj} (hh : w'.heap = w.heap.push ob) (os : w'.os = w.os) (tape : w'.tape = w.tape) (output : w'.output = w.output)
    (hob : ∀ c e fr, ob = .cells c e fr → fr = (0, 0)) {o : Obj} {e : Ent} (hb : e.b = w.heap.size) {n : Nat} (hn : n ≤ csize w' w.heap.size)
    (ho : Keeps m.cl w (fun b => if b = w.heap.size then n else m.cl b) w' → EntsLe m.blk (addE m.blk l e) → ObjRel (upE (addE m.blk l e) l) (fun b => if b = w.heap.size then n else m.cl b) w' o e) :
    ∃ m', m' = ⟨addE m.blk l e, fun b => if b = w.heap.size then n else m.cl b⟩ ∧ Ext m w m' w' ∧ WRel m' (addO st l o) w' ∧ ent m'.blk l (numO st l) = some e := by
  have hold : ∀ b, b < w.heap.size → w'.heap[b]? = w.heap[b]? := fun b hb => by rw [hh, Array.getElem?_push, if_neg (by omega)]
  have hk : Keeps m.cl w (fun b => if b = w.heap.size then n else m.cl b) w' := by
    refine ⟨fun b => ?_, fun b j hj => ?_⟩
    · show m.cl b ≤ if b = w.heap.size then n else m.cl b
      split
      · rename_i h; rw [h, hw.cl_size (Nat.le_refl _)]; exact Nat.zero_le _
      · exact Nat.le_refl _
    · have : b < w.heap.size := by
        rcases Nat.lt_or_ge b w.heap.size with h | h
        · exact h
        · rw [hw.cl_size h] at hj; omega
      exact World.cell?_of_block (hold b this)
  have hlt := hw.lt
  have hsize : w'.heap.size = w.heap.size + 1 := by rw [hh]; simp
  have hnew : ∀ b ∈ blks (addE m.blk l e), b ∈ blks m.blk ∨ w.heap.size ≤ b := fun b hb' => by
    rcases blks_addE _ _ _ _ hb' with ⟨_, h⟩ | h
    · right; omega
    · exact .inl h
  refine ⟨_, rfl, ⟨hk, EntsLe.addE _ _ _, os, tape, output, by omega, fun b hb' _ => hold b hb', hnew⟩, ⟨?_, ?_, fun b => ?_, hw.glob.step (fun b hb' _ => hold b hb') hnew⟩, ?_⟩
  · refine hw.st.add_ hk (ho hk (EntsLe.addE _ _ _)) hl fun b hb' => ⟨hold b (hlt b hb'), ?_⟩
    have := hlt b hb'
    simp only [ite_eq_right_iff]; intro h; omega
  · exact nodup_addE _ _ _ hw.nodup (.inr fun hc => by have := hlt _ hc; omega)
  · show (if b = w.heap.size then n else m.cl b) ≤ _
    split
    · rename_i h; subst h; exact hn
    · rename_i h
      rcases Nat.lt_or_ge b w.heap.size with h' | h'
      · rw [csize_same (hold b h')]; exact hw.le b
      · rw [hw.cl_size h']; exact Nat.zero_le _
  · exact ent_addE_new hw.st hl

/-- A world with blocks more. -/
theorem WRel.push {m : Mt} {st : St} {w w' : World} (hw : WRel m st w) {ob : Go.Obj} (hh : w'.heap = w.heap.push ob) (os : w'.os = w.os) (tape : w'.tape = w.tape) (output : w'.output = w.output)
    (hob : ∀ c e fr, ob = .cells c e fr → fr = (0, 0)) : Ext m w m w' ∧ WRel m st w' := by
  have hold : ∀ b, b < w.heap.size → w'.heap[b]? = w.heap[b]? := fun b hb => by rw [hh, Array.getElem?_push, if_neg (by omega)]
  have hk : Keeps m.cl w m.cl w' := ⟨fun b => Nat.le_refl _, fun b j hj => by
    have : b < w.heap.size := by
      rcases Nat.lt_or_ge b w.heap.size with h | h
      · exact h
      · rw [hw.cl_size h] at hj; omega
    exact World.cell?_of_block (hold b this)⟩
  have hsize : w'.heap.size = w.heap.size + 1 := by rw [hh]; simp
  refine ⟨⟨hk, EntsLe.refl _, os, tape, output, by omega, fun b hb' _ => hold b hb', fun b hb' => .inl hb'⟩, hw.st.keep hk (fun b hb => ⟨hold b (hw.lt b hb), rfl⟩), hw.nodup, fun b => ?_, hw.glob.step (fun b hb' _ => hold b hb') fun b hb' => .inl hb'⟩
  rcases Nat.lt_or_ge b w.heap.size with h' | h'
  · rw [csize_same (hold b h')]; exact hw.le b
  · rw [hw.cl_size h']; exact Nat.zero_le _
/-- A row more, that lies nowhere. -/
theorem WRel.newGone {m : Mt} {st : St} {w : World} (hw : WRel m st w) {l : Nat} (hl : l < st.length) {ty sz : Nat} (hsz : 0 < sz) (mt : Bool) (cap : Option Int) (hcap : ∀ c, cap = some c → c = 0) :
    ∃ m', m' = ⟨addE m.blk l ⟨0, 0, sz, 0⟩, m.cl⟩ ∧ Ext m w m' w ∧ WRel m' (addO st l (.row ty sz [] mt cap)) w ∧ ent m'.blk l (numO st l) = some ⟨0, 0, sz, 0⟩ := by
  have hg : (⟨0, 0, sz, 0⟩ : Ent).gone = true := gone_mk rfl hsz
  have hnew : ∀ b ∈ blks (addE m.blk l ⟨0, 0, sz, 0⟩), b ∈ blks m.blk ∨ w.heap.size ≤ b := fun b hb => by
    rcases blks_addE _ _ _ _ hb with ⟨h, _⟩ | h
    · rw [hg] at h; cases h
    · exact .inl h
  refine ⟨_, rfl, ⟨Keeps.refl _ _, EntsLe.addE _ _ _, rfl, rfl, rfl, Nat.le_refl _, fun _ _ _ => rfl, hnew⟩, ⟨?_, ?_, hw.le, hw.glob.step (fun _ _ _ => rfl) hnew⟩, ent_addE_new hw.st hl⟩
  · refine hw.st.add_ (Keeps.refl _ _) ?_ hl fun b hb => ⟨rfl, rfl⟩
    simp only [ObjRel]
    exact ⟨hsz, trivial, rfl, Nat.le_refl _, fun c hc => by rw [hcap c hc]; rfl, fun h => by rw [hg] at h; cases h⟩
  · exact nodup_addE _ _ _ hw.nodup (.inl hg)
/-- A row that lies nowhere is another one. -/
theorem WRel.reGone {m : Mt} {st : St} {w : World} (hw : WRel m st w) {l i : Nat} {e : Ent} (he : ent m.blk l i = some e) (hg : e.gone = true) {o : Obj} (ho : ObjRel (upE m.blk l) m.cl w o e) : WRel m (setO st l i o) w := by
  have h := hw.st.set_ (Keeps.refl _ _) he (EntLe.refl e) (o' := o) (by rw [setE_self he]; exact ho) hw.nodup (fun b _ _ => ⟨rfl, rfl⟩)
  rw [setE_self he] at h
  exact ⟨h, hw.nodup, hw.le, hw.glob⟩

/-- A live row that becomes void has its block no more. -/
theorem livB_kill : ∀ {l : List Ent} {i : Nat} {e e' : Ent}, l[i]? = some e → e.gone = false → (livB l).Nodup → e'.gone = true → e.b ∉ livB (l.set i e')
  | x :: r, 0, e, e', h, hg, hn, hd => by
    simp at h; subst h
    rw [livB_cons, hg, cond_false, List.nodup_cons] at hn
    simp only [List.set_cons_zero, livB_cons, hd, cond_true]
    exact hn.1
  | x :: r, i + 1, e, e', h, hg, hn, hd => by
    simp at h
    rw [livB_cons] at hn
    simp only [List.set_cons_succ, livB_cons]
    have hm : e.b ∈ livB r := mem_livB.2 ⟨e, List.mem_of_getElem? h, hg, rfl⟩
    cases hx : x.gone with
    | true =>
      rw [hx] at hn
      simp only [cond_true] at hn ⊢
      exact livB_kill h hg hn hd
    | false =>
      rw [hx, cond_false, List.nodup_cons] at hn
      simp only [cond_false, List.mem_cons, not_or]
      exact ⟨fun hb => hn.1 (hb ▸ hm), livB_kill h hg hn.2 hd⟩
  | [], _, _, _, h, _, _, _ => by simp at h
theorem blks_kill : ∀ {bl : List (List Ent)} {l i : Nat} {e e' : Ent}, ent bl l i = some e → e.gone = false → (blks bl).Nodup → e'.gone = true → e.b ∉ blks (setE bl l i e')
  | fr :: r, 0, i, e, e', h, hg, hn, hd => by
    simp only [ent] at h
    rw [blks_cons] at hn
    simp only [setE, blks_cons, List.mem_append, not_or]
    have hn' := List.nodup_append.1 hn
    exact ⟨livB_kill h hg hn'.1 hd, fun hb => hn'.2.2 e.b (mem_livB.2 ⟨e, List.mem_of_getElem? h, hg, rfl⟩) e.b hb rfl⟩
  | fr :: r, l + 1, i, e, e', h, hg, hn, hd => by
    simp only [ent] at h
    rw [blks_cons] at hn
    simp only [setE, blks_cons, List.mem_append, not_or]
    have hn' := List.nodup_append.1 hn
    exact ⟨fun hb => hn'.2.2 e.b hb e.b (ent_mem h hg) rfl, blks_kill h hg hn'.2.1 hd⟩
  | [], _, _, _, _, h, _, _, _ => by simp [ent] at h
theorem setO_length : ∀ (st : St) (l i : Nat) (o : Obj), (setO st l i o).length = st.length
  | [], _, _, _ => rfl
  | fr :: st, 0, _, _ => rfl
  | fr :: st, l + 1, i, o => by simp [setO, setO_length st l i o]
theorem numO_setO : ∀ (st : St) (l i : Nat) (o : Obj) (k : Nat), numO (setO st l i o) k = numO st k
  | [], _, _, _, k => by cases k <;> rfl
  | fr :: st, 0, _, _, 0 => by simp [setO, numO]
  | fr :: st, 0, _, _, k + 1 => rfl
  | fr :: st, l + 1, i, o, 0 => rfl
  | fr :: st, l + 1, i, o, k + 1 => by simp only [setO, numO]; exact numO_setO st l i o k
/-- A row that is another object from now on. -/
theorem WRel.rebase {m : Mt} {st : St} {w : World} (hw : WRel m st w) {l i : Nat} {e : Ent} (he : ent m.blk l i = some e) (hsz : 0 < e.sz) {k : Nat} (hk : k < st.length) {e2 : Ent} (hb : e2.gone = true ∨ (e.gone = false ∧ e2.b = e.b)) {o : Obj} (ho : ∀ bl, ObjRel bl m.cl w o e2) :
    ∃ m', m' = ⟨addE (setE m.blk l i ⟨e.b, e.len + 1, e.sz, 0⟩) k e2, m.cl⟩ ∧ Ext m w m' w ∧ WRel m' (addO (setO st l i .void) k o) w ∧ ent m'.blk k (numO st k) = some e2 := by
  have hd : (⟨e.b, e.len + 1, e.sz, 0⟩ : Ent).gone = true := gone_mk rfl hsz
  have hle : EntLe e ⟨e.b, e.len + 1, e.sz, 0⟩ := ⟨by show e.len ≤ e.len + 1; omega, rfl, fun h => by
    rcases h with h | h
    · have : e.len + 1 = e.len := h
      omega
    · omega⟩
  have h1 : StRel m.cl w (setO st l i .void) (setE m.blk l i ⟨e.b, e.len + 1, e.sz, 0⟩) := hw.st.set_ (Keeps.refl _ _) he hle (by simp only [ObjRel]; exact hd) hw.nodup (fun b _ _ => ⟨rfl, rfl⟩)
  have hk' : k < (setO st l i .void).length := by rw [setO_length]; exact hk
  have hn1 := nodup_setE (e' := ⟨e.b, e.len + 1, e.sz, 0⟩) he hw.nodup (.inl hd)
  have hnew : ∀ b ∈ blks (addE (setE m.blk l i ⟨e.b, e.len + 1, e.sz, 0⟩) k e2), b ∈ blks m.blk ∨ w.heap.size ≤ b := fun b hb' => by
    rcases blks_addE _ _ _ _ hb' with ⟨hg, rfl⟩ | h
    · rcases hb with hb | ⟨hb1, hb2⟩
      · rw [hg] at hb; cases hb
      · exact .inl (hb2 ▸ ent_mem he hb1)
    · rcases blks_setE he _ h with ⟨h, _⟩ | h
      · rw [hd] at h; cases h
      · exact .inl h
  refine ⟨_, rfl, ⟨Keeps.refl _ _, (EntsLe.setE he hle).trans (EntsLe.addE _ _ _), rfl, rfl, rfl, Nat.le_refl _, fun _ _ _ => rfl, hnew⟩, ⟨?_, ?_, hw.le, hw.glob.step (fun _ _ _ => rfl) hnew⟩, ?_⟩
  · exact h1.add_ (Keeps.refl _ _) (ho _) hk' fun b _ => ⟨rfl, rfl⟩
  · refine nodup_addE _ _ _ hn1 ?_
    rcases hb with hb | ⟨hb1, hb2⟩
    · exact .inl hb
    · exact .inr (by rw [hb2]; exact blks_kill he hb1 hw.nodup hd)
  · have := ent_addE_new (e' := e2) h1 hk'
    rwa [numO_setO] at this
/-- One object is another one now, in the block where it was. -/
theorem WRel.put {m : Mt} {st : St} {w w' : World} (hw : WRel m st w) {l i : Nat} {e : Ent} (he : ent m.blk l i = some e) (hg : e.gone = false) (hsame : ∀ b, b ≠ e.b → w'.heap[b]? = w.heap[b]?) (hfz : ∀ a : Addr, a.block = e.b → w'.frozen? a = w.frozen? a) (hsz : w'.heap.size = w.heap.size) (os : w'.os = w.os) (tape : w'.tape = w.tape) (output : w'.output = w.output)
    {o : Obj} {e' : Ent} (hb : e'.b = e.b) (hle : EntLe e e') {n : Nat} (hn : m.cl e.b ≤ n) (hn' : n ≤ csize w' e.b) (hcells : ∀ j, j < m.cl e.b → w'.cell? ⟨e.b, j, none⟩ = w.cell? ⟨e.b, j, none⟩)
    (ho : Keeps m.cl w (fun b => if b = e.b then n else m.cl b) w' → EntsLe m.blk (setE m.blk l i e') → ObjRel (upE (setE m.blk l i e') l) (fun b => if b = e.b then n else m.cl b) w' o e') :
    ∃ m', m' = ⟨setE m.blk l i e', fun b => if b = e.b then n else m.cl b⟩ ∧ Ext m w m' w' ∧ WRel m' (setO st l i o) w' := by
  have hk : Keeps m.cl w (fun b => if b = e.b then n else m.cl b) w' := by
    refine ⟨fun b => ?_, fun b j hj => ?_⟩
    · show m.cl b ≤ if b = e.b then n else m.cl b
      split
      · rename_i h; rw [h]; exact hn
      · exact Nat.le_refl _
    · by_cases h : b = e.b
      · subst h; exact hcells j hj
      · exact World.cell?_of_block (hsame b h)
  have hmem := ent_mem he hg
  have hnew : ∀ b ∈ blks (setE m.blk l i e'), b ∈ blks m.blk ∨ w.heap.size ≤ b := fun b hb' => by
    rcases blks_setE he _ hb' with ⟨_, h⟩ | h
    · left; rw [h, hb]; exact hmem
    · exact .inl h
  refine ⟨_, rfl, ⟨hk, EntsLe.setE he hle, os, tape, output, by omega, fun b _ hb' => hsame b fun h => hb' (h ▸ hmem), hnew⟩, ⟨?_, ?_, fun b => ?_, hw.glob.step (fun b _ hb' => hsame b fun h => hb' (h ▸ hmem)) hnew⟩⟩
  · exact hw.st.set_ hk he hle (ho hk (EntsLe.setE he hle)) hw.nodup fun b _ hne => ⟨hsame b (hne hg), by simp [hne hg]⟩
  · exact nodup_setE he hw.nodup (.inr (.inl ⟨hg, hb⟩))
  · show (if b = e.b then n else m.cl b) ≤ _
    split
    · rename_i h; subst h; exact hn'
    · rename_i h; rw [csize_same (hsame b h)]; exact hw.le b

section
variable {R : Type} {P : Program} {Γ : Tab} {cf : Nat → List PV → St → Option (PV × St)} {o : Oper} {a : Act} {w : World} {m : Mt} {K : PV → St → Option R} {r : R} {st : St} {ρ : Env}

theorem freeze_rel (hw : WRel m st w) {x x' : PV} {v : Value} {st' : St} (hv : VRel m.blk m.cl w x v) (h : freeze (real cf) st x = (x', st')) : ∃ m', Ext m w m' w ∧ WRel m' st' w ∧ VRel m'.blk m'.cl w x' v ∧ st'.length = st.length := by
  unfold freeze at h
  split at h
  · rename_i l i k
    simp only [VRel] at hv
    obtain ⟨e, h1, h2, h3, h5⟩ := hv
    have hset : ∀ (st : St) (l i : Nat) (o : Obj), (setO st l i o).length = st.length := by
      intro st
      induction st with
      | nil => intro l i o; simp [setO]
      | cons fr st ih => intro l i o; cases l <;> simp [setO, ih]
    split at h
    · rename_i ty sz rows mt cp hl
      obtain ⟨e', k1, k2⟩ := hw.st.look_ hl
      rw [h1] at k1; cases k1
      cases hlen : (real cf).ieq ((real cf).len rows) k with
      | false =>
        simp only [hlen, cond_false, Prod.mk.injEq] at h
        obtain ⟨rfl, rfl⟩ := h
        exact ⟨m, Ext.refl m w, hw, by simp only [VRel], rfl⟩
      | true =>
        simp only [hlen, cond_true, Prod.mk.injEq] at h
        obtain ⟨rfl, rfl⟩ := h
        have hk : (rows.length : Int) = k := by simpa [real] using hlen
        have k2' := k2
        simp only [ObjRel] at k2
        obtain ⟨g1, g2, g3, g4, g5, g⟩ := k2
        have hke : k = e.len := by rw [g3]; exact hk.symm
        rcases h5 with ⟨h0, hgo, base, rfl⟩ | ⟨b, cap, h4, h5⟩
        · -- a row that lies nowhere
          have hgone := hgo hke
          have hr : rows = [] := List.eq_nil_of_length_eq_zero (by omega)
          subst hr
          have hw' : WRel m (bif mt then setO st l i (.row ty sz [] false cp) else st) w := by
            cases mt with
            | false => exact hw
            | true =>
              refine hw.reGone h1 hgone ?_
              simp only [ObjRel]
              exact ⟨g1, g2, g3, g4, g5, fun hg => by rw [hgone] at hg; cases hg⟩
          refine ⟨m, Ext.refl m w, hw', ?_, by cases mt <;> simp [hset]⟩
          simp only [VRel, DRel]
          exact .inl ⟨⟨base, rfl⟩, trivial, by simp⟩
        obtain ⟨rfl, rfl, hgone⟩ := h5 hke
        obtain ⟨⟨cs, g6, g7⟩, g8, g9⟩ := g hgone
        have hnat : k.toNat = rows.length := by omega
        have hext : ∀ cl, (cl e.b = rows.length * sz) → DRows cl w e.b 0 sz rows → DRel cl w (.sl rows none) v := by
          intro cl hcl hrows
          simp only [DRel]
          exact .inr ⟨sz, e.b, 0, e.cap, by rw [h4, hnat], g4, by omega, hrows, by simp only [DExt]⟩
        cases mt with
        | false =>
          simp only [cond_false] at g9 ⊢
          exact ⟨m, Ext.refl m w, by simpa using hw, by simp only [VRel]; exact hext m.cl g9 g8, by simp⟩
        | true =>
          simp only [cond_true] at g9 ⊢
          have hcs : e.cap * sz ≤ csize w e.b := by simpa [csize, g6] using g7
          obtain ⟨m', rfl, hx, hw'⟩ := hw.put (l := l) (i := i) (w' := w) h1 hgone (fun _ _ => rfl) (fun _ _ => rfl) rfl rfl rfl rfl (o := .row ty sz rows false cp) (e' := e) rfl (EntLe.refl e) (n := rows.length * sz) (by omega)
            (Nat.le_trans (Nat.mul_le_mul_right _ g4) hcs) (fun _ _ => rfl) (fun hk he => by
              have hsz : ¬ (e.sz = 0) := by omega
              simp only [ObjRel, cond_false, if_true]
              have : ∀ cl', Keeps m.cl w cl' w → ∀ (l : List (List D)) (o : Nat), DRows m.cl w e.b o sz l → DRows cl' w e.b o sz l := by
                intro cl' hk
                have hc : ∀ (l : List D) (o : Nat), DCells m.cl w e.b o l → DCells cl' w e.b o l := by
                  intro l
                  induction l with
                  | nil => intro o _; simp only [DCells]
                  | cons d r ih =>
                    intro o h
                    simp only [DCells] at h ⊢
                    obtain ⟨⟨v, g1, g2⟩, g3⟩ := h
                    exact ⟨⟨v, g1, DRel.keep hk d v g2⟩, ih _ g3⟩
                intro l
                induction l with
                | nil => intro o _; simp only [DRows]
                | cons r rs ih =>
                  intro o h
                  simp only [DRows] at h ⊢
                  exact ⟨h.1, hc r o h.2.1, ih _ h.2.2⟩
              exact ⟨g1, g2, g3, g4, g5, fun _ => ⟨⟨cs, g6, g7⟩, this _ hk rows 0 g8, trivial⟩⟩)
          refine ⟨_, hx, hw', ?_, hset st l i _⟩
          simp only [VRel]
          have hrow := hw'.st.look_ (l := l) (i := i) (o := .row ty sz rows false cp) (by
            have : ∀ {st : St} {l i : Nat} {o o' : Obj}, look st l i = some o → look (setO st l i o') l i = some o' := by
              intro st
              induction st with
              | nil => intro l i o o' h; simp [look] at h
              | cons fr st ih =>
                intro l i o o' h
                cases l with
                | zero => simp only [look, setO] at h ⊢; exact List.getElem?_set_self (List.getElem?_eq_some_iff.1 h).1
                | succ l => simp only [look, setO] at h ⊢; exact ih h
            exact this hl)
          obtain ⟨e2, q1, q2⟩ := hrow
          simp only [ent_setE_same h1] at q1
          cases q1
          simp only [ObjRel] at q2
          obtain ⟨_, _, _, _, _, q2⟩ := q2
          exact hext _ (by simp) (q2 hgone).2.1
    · cases h
      exact ⟨m, Ext.refl m w, hw, by simp only [VRel], rfl⟩
  · cases h
    exact ⟨m, Ext.refl m w, hw, hv, rfl⟩

theorem freeze_still (hw : WRel m st w) {l i : Nat} {k : Int} {v : Value} (hv : VRel m.blk m.cl w (.row l i k) v) {ty sz : Nat} {rows : List (List D)} {cp : Option Int} (hl : look st l i = some (.row ty sz rows false cp)) (hlen : (real cf).ieq ((real cf).len rows) k = true) : VRel m.blk m.cl w (.d (.sl rows none)) v := by
  simp only [VRel] at hv
  obtain ⟨e, h1, h2, h3, h5⟩ := hv
  obtain ⟨e', k1, k2⟩ := hw.st.look_ hl
  rw [h1] at k1; cases k1
  have hk : (rows.length : Int) = k := by simpa [real] using hlen
  simp only [ObjRel] at k2
  obtain ⟨g1, g2, g3, g4, g5, g⟩ := k2
  have hke : k = e.len := by rw [g3]; exact hk.symm
  simp only [VRel, DRel]
  rcases h5 with ⟨h0, hgo, base, rfl⟩ | ⟨b, cap, h4, h5⟩
  · have hr : rows = [] := List.eq_nil_of_length_eq_zero (by omega)
    subst hr
    exact .inl ⟨⟨base, rfl⟩, rfl, by simp⟩
  obtain ⟨rfl, rfl, hgone⟩ := h5 hke
  obtain ⟨⟨cs, g6, g7⟩, g8, g9⟩ := g hgone
  have hnat : k.toNat = rows.length := by omega
  simp only [cond_false] at g9
  exact .inr ⟨sz, e.b, 0, e.cap, by rw [h4, hnat], g4, by omega, g8, by simp only [DExt]⟩
theorem freezes_rel : ∀ {l l' : List PV} {vs : List Value} {st st' : St} {m : Mt}, WRel m st w → VList m.blk m.cl w l vs → freezes (real cf) st l = (l', st') →
    ∃ m', Ext m w m' w ∧ WRel m' st' w ∧ VList m'.blk m'.cl w l' vs ∧ st'.length = st.length
  | [], l', vs, st, st', m, hw, hv, h => by
    simp only [freezes, Prod.mk.injEq] at h
    obtain ⟨rfl, rfl⟩ := h
    exact ⟨m, Ext.refl m w, hw, hv, rfl⟩
  | x :: r, l', vs, st, st', m, hw, hv, h => by
    simp only [VList] at hv
    obtain ⟨v, s, rfl, h1, h2⟩ := hv
    simp only [freezes, Prod.mk.injEq] at h
    obtain ⟨rfl, rfl⟩ := h
    obtain ⟨m1, e1, w1, v1, n1⟩ := freeze_rel (cf := cf) hw h1 rfl
    obtain ⟨m2, e2, w2, v2, n2⟩ := freezes_rel (l := r) w1 (h2.ext e1) rfl
    exact ⟨m2, e1.trans e2, w2, ⟨v, s, rfl, v1.ext e2, v2⟩, n2.trans n1⟩
theorem freezesK_some {R : Type} {r : R} : ∀ {l : List PV} {st : St} {K : List PV → St → Option R}, freezesK (real cf) st l K = some r → ∃ l' st', freezes (real cf) st l = (l', st') ∧ K l' st' = some r := by
  intro l
  induction l with
  | nil => intro st K h; exact ⟨[], st, rfl, by simpa only [freezesK] using h⟩
  | cons x l ih =>
    intro st K h
    have other : (∀ st, freeze (real cf) st x = (x, st)) → freezesK (real cf) st l (fun vs st => K (x :: vs) st) = some r → ∃ l' st', freezes (real cf) st (x :: l) = (l', st') ∧ K l' st' = some r := by
      intro hx h
      obtain ⟨l', st', h1, h2⟩ := ih h
      exact ⟨x :: l', st', by simp only [freezes, hx, h1], h2⟩
    cases x with
    | row lv i k =>
      simp only [freezesK] at h
      split at h
      · rename_i ty sz rows mt cap hl
        cases hb : (real cf).ieq ((real cf).len rows) k with
        | false => simp [hb] at h
        | true =>
          simp only [hb, cond_true] at h
          obtain ⟨l', st', h1, h2⟩ := ih h
          refine ⟨_, st', ?_, h2⟩
          have : freeze (real cf) st (.row lv i k) = (.d (.sl rows none), bif mt then setO st lv i (.row ty sz rows false cap) else st) := by simp only [freeze, hl, hb, cond_true]
          simp only [freezes, this, h1]
      · cases h
    | _ => simp only [freezesK] at h; exact other (fun _ => rfl) h
theorem freezes0K_some {R : Type} {r : R} : ∀ {l : List PV} {st : St} {K : List PV → St → Option R}, freezes0K (real cf) st l K = some r → ∃ l' st', freezes0 (real cf) st l = (l', st') ∧ K l' st' = some r := by
  intro l
  induction l with
  | nil => intro st K h; exact ⟨[], st, rfl, by simpa only [freezes0K] using h⟩
  | cons x l ih =>
    intro st K h
    have other : (∀ st, freeze0 (real cf) st x = (x, st)) → freezes0K (real cf) st l (fun vs st => K (x :: vs) st) = some r → ∃ l' st', freezes0 (real cf) st (x :: l) = (l', st') ∧ K l' st' = some r := by
      intro hx h
      obtain ⟨l', st', h1, h2⟩ := ih h
      exact ⟨x :: l', st', by simp only [freezes0, hx, h1], h2⟩
    cases x with
    | row lv i k =>
      cases lv with
      | succ lv => simp only [freezes0K] at h; exact other (fun _ => rfl) h
      | zero =>
      simp only [freezes0K] at h
      split at h
      · rename_i ty sz rows mt cap hl
        cases hb : (real cf).ieq ((real cf).len rows) k with
        | false => simp [hb] at h
        | true =>
          simp only [hb, cond_true] at h
          obtain ⟨l', st', h1, h2⟩ := ih h
          refine ⟨_, st', ?_, h2⟩
          have : freeze0 (real cf) st (.row 0 i k) = (.d (.sl rows none), bif mt then setO st 0 i (.row ty sz rows false cap) else st) := by simp only [freeze0, freeze, hl, hb, cond_true]
          simp only [freezes0, this, h1]
      · cases h
    | _ => simp only [freezes0K] at h; exact other (fun _ => rfl) h
theorem freeze0_rel (hw : WRel m st w) {x x' : PV} {v : Value} {st' : St} (hv : VRel m.blk m.cl w x v) (h : freeze0 (real cf) st x = (x', st')) : ∃ m', Ext m w m' w ∧ WRel m' st' w ∧ VRel m'.blk m'.cl w x' v ∧ st'.length = st.length := by
  unfold freeze0 at h
  split at h
  · exact freeze_rel hw hv h
  · cases h
    exact ⟨m, Ext.refl m w, hw, hv, rfl⟩
theorem freezes0_rel : ∀ {l l' : List PV} {vs : List Value} {st st' : St} {m : Mt}, WRel m st w → VList m.blk m.cl w l vs → freezes0 (real cf) st l = (l', st') →
    ∃ m', Ext m w m' w ∧ WRel m' st' w ∧ VList m'.blk m'.cl w l' vs ∧ st'.length = st.length
  | [], l', vs, st, st', m, hw, hv, h => by
    simp only [freezes0, Prod.mk.injEq] at h
    obtain ⟨rfl, rfl⟩ := h
    exact ⟨m, Ext.refl m w, hw, hv, rfl⟩
  | x :: r, l', vs, st, st', m, hw, hv, h => by
    simp only [VList] at hv
    obtain ⟨v, s, rfl, h1, h2⟩ := hv
    simp only [freezes0, Prod.mk.injEq] at h
    obtain ⟨rfl, rfl⟩ := h
    obtain ⟨m1, e1, w1, v1, n1⟩ := freeze0_rel (cf := cf) hw h1 rfl
    obtain ⟨m2, e2, w2, v2, n2⟩ := freezes0_rel (l := r) w1 (h2.ext e1) rfl
    exact ⟨m2, e1.trans e2, w2, ⟨v, s, rfl, v1.ext e2, v2⟩, n2.trans n1⟩
theorem VList.len {bl : List (List Ent)} {cl : Nat → Nat} {w : World} : ∀ {l : List PV} {vs : List Value}, VList bl cl w l vs → vs.length = l.length
  | [], vs, h => by simp only [VList] at h; subst h; rfl
  | x :: r, vs, h => by
    simp only [VList] at h
    obtain ⟨v, s, rfl, _, h4⟩ := h
    simp [h4.len]
/-- Of cells that may be stored. -/
theorem cellOk_one {bl : List (List Ent)} {cl : Nat → Nat} {w : World} {x : PV} {v : Value} (h : cellOk x = true) (hv : VRel bl cl w x v) : v.oneCell' = true := by
  cases x with
  | d x => simp only [VRel] at hv; exact hv.one
  | agg _ => simp [cellOk] at h
  | ptr l i o => simp only [VRel] at hv; obtain ⟨e, _, _, rfl⟩ := hv; rfl
  | eptr cs => simp only [VRel] at hv; obtain ⟨b, o, rfl, _⟩ := hv; rfl
  | row l i k => simp only [VRel] at hv; obtain ⟨e, _, _, _, h⟩ := hv; rcases h with ⟨_, _, base, rfl⟩ | ⟨b, c, rfl, _⟩ <;> rfl
  | rptr l i k x o => simp only [VRel] at hv; obtain ⟨e, b, _, _, rfl, _⟩ := hv; rfl
  | fn f cs => simp only [VRel] at hv; obtain ⟨vs, rfl, _⟩ := hv; rfl
  | map l i => simp only [VRel] at hv; obtain ⟨e, _, _, rfl⟩ := hv; rfl
  | tail l i k o => simp only [VRel] at hv; obtain ⟨e, _, _, _, _, p, c, rfl, _⟩ := hv; rfl
  | yld l i => simp only [VRel] at hv; obtain ⟨e, _, _, rfl⟩ := hv; rfl
  | tup _ => simp [cellOk] at h
  | skip => simp [cellOk] at h
  | ub => simp [cellOk] at h
  | unk => simp [cellOk] at h
theorem cellsOk_cells {bl : List (List Ent)} {cl : Nat → Nat} {w : World} : ∀ {l : List PV} {vs : List Value}, cellsOk l = true → VList bl cl w l vs → VCells bl cl w l vs
  | [], vs, _, h => by simpa only [VList, VCells] using h
  | x :: r, vs, ho, h => by
    simp only [VList] at h
    obtain ⟨v, s, rfl, h1, h2⟩ := h
    simp only [cellsOk] at ho
    cases hx : cellOk x with
    | false => simp [hx] at ho
    | true =>
      simp only [hx, cond_true] at ho
      simp only [VCells]
      exact ⟨v, s, rfl, h1, cellOk_one hx h1, cellsOk_cells ho h2⟩
theorem VCells.list {bl : List (List Ent)} {cl : Nat → Nat} {w : World} : ∀ {l : List PV} {vs : List Value}, VCells bl cl w l vs → VList bl cl w l vs
  | [], vs, h => by simpa only [VList, VCells] using h
  | x :: r, vs, h => by
    simp only [VCells] at h
    obtain ⟨v, s, rfl, h1, _, h2⟩ := h
    simp only [VList]
    exact ⟨v, s, rfl, h1, h2.list⟩
/-- A value's cells. -/
theorem unpack_rel {bl : List (List Ent)} {cl : Nat → Nat} {w : World} {x : PV} {v : Value} (h : VRel bl cl w x v) (hok : x = .unk ∨ x = .skip ∨ (∃ l, x = .tup l) ∨ True) : (∃ cs, x = .agg cs ∧ VList bl cl w (unpack x) v.cells.toList) ∨ ((∀ cs, x ≠ .agg cs) ∧ unpack x = [x]) := by
  cases x with
  | agg cs =>
    left
    simp only [VRel] at h
    obtain ⟨vs, rfl, h2⟩ := h
    exact ⟨cs, rfl, by simpa [unpack, Value.cells] using h2.list⟩
  | _ => right; exact ⟨fun cs => by simp, rfl⟩
theorem cells_one {v : Value} (h : v.oneCell' = true) : v.cells = #[v] := by cases v <;> first | rfl | (simp [Value.oneCell'] at h)
/-- The cells of a value, of which each may be stored. -/
theorem unpack_ok {bl : List (List Ent)} {cl : Nat → Nat} {w : World} {x : PV} {v : Value} (h : VRel bl cl w x v) : cellsOk (unpack x) = true → VCells bl cl w (unpack x) v.cells.toList := by
  intro hok
  rcases unpack_rel h (.inr (.inr (.inr trivial))) with ⟨cs, rfl, h2⟩ | ⟨hne, h2⟩
  · exact cellsOk_cells hok h2
  · rw [h2] at hok ⊢
    simp only [cellsOk] at hok
    cases hx : cellOk x with
    | false => simp [hx] at hok
    | true =>
      have h1 := cellOk_one hx h
      rw [cells_one h1]
      simp only [VCells]
      exact ⟨v, [], rfl, h, h1, rfl⟩
end
end Go.X
