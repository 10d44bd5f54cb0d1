/- The store of objects against the heap. -/
import Derived.Test.YtdmpjlpkmokllaaDoorXRel
namespace Go.X
open Go
set_option linter.unusedSectionVars false
variable [Sites]

def MapRel (kk : KK) (bl : List (List Ent)) (cl : Nat → Nat) (w : World) : List (PV × PV) → List MapEntry → Prop
  | [], es => es = []
  | x :: r, es => ∃ e s, es = e :: s ∧ keyOk kk x.1 = true ∧ VRel bl cl w x.1 e.key ∧ VRel bl cl w x.2 e.val ∧ valOk x.2 = true ∧ MapRel kk bl cl w r s
theorem MapRel.keep {kk : KK} {bl bl' : List (List Ent)} {cl cl' : Nat → Nat} {w w' : World} (hk : Keeps cl w cl' w') (he : EntsLe bl bl') :
    ∀ (l : List (PV × PV)) (es : List MapEntry), MapRel kk bl cl w l es → MapRel kk bl' cl' w' l es
  | [], es, h => h
  | x :: r, es, h => by
    simp only [MapRel] at h ⊢
    obtain ⟨e, s, h1, h2, h3, h4, h5, h6⟩ := h
    exact ⟨e, s, h1, h2, h3.keep hk he, h4.keep hk he, h5, MapRel.keep hk he r s h6⟩

/-- How far a loop over a function has come. -/
def LState : Option Ex → Loop → Prop
  | none, r => r.state = .ready ∧ r.pending = none
  | some .normal, r => r.state = .busy
  | some .ret, r => r.state = .done ∧ r.pending = some .ret
  | some (.exit id), r => r.state = .done ∧ r.pending = some (.exit id)
/-- The code of its rounds. -/
def LSite (site : Nat) (r : Loop) : Prop := ∃ q, Sites.site site = some q ∧ r.params = q.ps.toArray ∧ r.assign = q.asg ∧ r.body = q.body ∧ q.n ≤ r.tmps.size
def ObjRel (bl : List (List Ent)) (cl : Nat → Nat) (w : World) : Obj → Ent → Prop
  | .box ty cells, e => e.sz = 0 ∧ cl e.b = 0 ∧ ∃ vs : List Value, w.heap[e.b]? = some (.cells vs.toArray ty (0, 0)) ∧ VCells bl cl w cells vs
  | .row ty sz rows mt cap, e => 0 < sz ∧ e.sz = sz ∧ e.len = rows.length ∧ rows.length ≤ e.cap ∧ (∀ c, cap = some c → c = (e.cap : Int)) ∧
      (e.gone = false → (∃ cs : Array Value, w.heap[e.b]? = some (.cells cs ty (0, 0)) ∧ e.cap * sz ≤ cs.size) ∧ DRows cl w e.b 0 sz rows ∧ cl e.b = (bif mt then 0 else rows.length * sz))
  | .void, e => e.gone = true
  | .loop site ρ p, e => e.sz = 0 ∧ cl e.b = 0 ∧ ∃ r : Loop, w.heap[e.b]? = some (.loop r) ∧ LSite site r ∧ LState p r ∧ ∀ t, VRel bl cl w (egt ρ t) (r.tmps.getD t undef)
  | .map kk fl es, e => e.sz = 0 ∧ cl e.b = 0 ∧ (fl = true → flats es = true) ∧ ∃ (ents : Array MapEntry) (clock : Nat), w.heap[e.b]? = some (.map ents clock) ∧ MapRel kk bl cl w es ents.toList

def OList (bl : List (List Ent)) (cl : Nat → Nat) (w : World) : List Obj → List Ent → Prop
  | [], es => es = []
  | o :: r, es => ∃ e s, es = e :: s ∧ ObjRel bl cl w o e ∧ OList bl cl w r s
def StRel (cl : Nat → Nat) (w : World) : St → List (List Ent) → Prop
  | [], bl => bl = []
  | fr :: st, bl => ∃ es r, bl = es :: r ∧ OList (es :: r) cl w fr es ∧ StRel cl w st r
/-- The blocks of a frame, and of all; rows that lie nowhere have none. -/
def livB (es : List Ent) : List Nat := (es.filter fun e => !e.gone).map (·.b)
def blks (bl : List (List Ent)) : List Nat := livB bl.flatten
theorem mem_livB {es : List Ent} {b : Nat} : b ∈ livB es ↔ ∃ e ∈ es, e.gone = false ∧ e.b = b := by
  simp [livB, and_assoc]
theorem livB_append (a b : List Ent) : livB (a ++ b) = livB a ++ livB b := by simp [livB]
theorem livB_cons (e : Ent) (r : List Ent) : livB (e :: r) = (bif e.gone then livB r else e.b :: livB r) := by
  simp only [livB, List.filter_cons]
  cases e.gone <;> rfl
theorem gone_box {e : Ent} (h : e.sz = 0) : e.gone = false := by simp [Ent.gone, h, Nat.blt, Nat.ble]
theorem gone_room {e : Ent} (h : 0 < e.cap) : e.gone = false := by
  have : Nat.beq e.cap 0 = false := by
    cases hb : Nat.beq e.cap 0 with
    | false => rfl
    | true => have := Nat.eq_of_beq_eq_true hb; omega
  simp [Ent.gone, this]
theorem gone_cap {e : Ent} (h : e.gone = true) : e.cap = 0 ∧ 0 < e.sz := by
  simp only [Ent.gone, Bool.and_eq_true] at h
  exact ⟨Nat.eq_of_beq_eq_true h.2, Nat.le_of_ble_eq_true h.1⟩
theorem gone_mk {e : Ent} (h : e.cap = 0) (h2 : 0 < e.sz) : e.gone = true := by
  cases hb : e.gone with
  | true => rfl
  | false =>
    simp only [Ent.gone, h, Bool.and_eq_false_iff] at hb
    rcases hb with hb | hb
    · have : Nat.blt 0 e.sz = true := Nat.ble_eq_true_of_le h2
      rw [this] at hb; cases hb
    · cases hb
def csize (w : World) (b : Nat) : Nat := match w.heap[b]? with | some (.cells c _ _) => c.size | _ => 0
/-- The variables that are laid are as they were. -/
def GlobOK (bl : List (List Ent)) (w : World) : Prop := ∀ q ∈ Sites.glob, (∃ t fr, w.heap[q.1]? = some (.cells q.2 t fr)) ∧ q.1 ∉ blks bl
theorem GlobOK.lt {bl : List (List Ent)} {w : World} (h : GlobOK bl w) : ∀ q ∈ Sites.glob, q.1 < w.heap.size := fun q hq => by
  obtain ⟨⟨_, _, h1⟩, _⟩ := h q hq
  exact (Array.getElem?_eq_some_iff.1 h1).1
theorem GlobOK.step {bl bl' : List (List Ent)} {w w' : World} (h : GlobOK bl w) (hk : ∀ b, b < w.heap.size → b ∉ blks bl → w'.heap[b]? = w.heap[b]?) (hn : ∀ b ∈ blks bl', b ∈ blks bl ∨ w.heap.size ≤ b) : GlobOK bl' w' := fun q hq => by
  obtain ⟨⟨t, fr, h1⟩, h2⟩ := h q hq
  exact ⟨⟨t, fr, (hk _ (h.lt q hq) h2).trans h1⟩, fun hb => (hn _ hb).elim h2 fun h3 => by have := h.lt q hq; omega⟩
theorem GlobOK.sub {bl bl' : List (List Ent)} {w : World} (h : GlobOK bl w) (hn : ∀ b ∈ blks bl', b ∈ blks bl) : GlobOK bl' w := h.step (fun _ _ _ => rfl) fun b hb => .inl (hn b hb)
structure WRel (m : Mt) (st : St) (w : World) : Prop where
  st : StRel m.cl w st m.blk
  nodup : (blks m.blk).Nodup
  le : ∀ b, m.cl b ≤ csize w b
  glob : GlobOK m.blk w

def setE : List (List Ent) → Nat → Nat → Ent → List (List Ent)
  | fr :: r, 0, i, e => fr.set i e :: r
  | fr :: r, l + 1, i, e => fr :: setE r l i e
  | [], _, _, _ => []
def addE : List (List Ent) → Nat → Ent → List (List Ent)
  | fr :: r, 0, e => (fr ++ [e]) :: r
  | fr :: r, l + 1, e => fr :: addE r l e
  | [], _, _ => []
def upE : List (List Ent) → Nat → List (List Ent)
  | bl, 0 => bl
  | _ :: r, l + 1 => upE r l
  | [], _ + 1 => []

theorem blks_cons (fr : List Ent) (r : List (List Ent)) : blks (fr :: r) = livB fr ++ blks r := by simp [blks, livB_append]
theorem ent_mem : ∀ {bl : List (List Ent)} {l i : Nat} {e : Ent}, ent bl l i = some e → e.gone = false → e.b ∈ blks bl
  | fr :: r, 0, i, e, h, hg => by
    simp only [ent] at h
    rw [blks_cons]
    exact List.mem_append.2 (.inl (mem_livB.2 ⟨e, List.mem_of_getElem? h, hg, rfl⟩))
  | fr :: r, l + 1, i, e, h, hg => by
    simp only [ent] at h
    rw [blks_cons]
    exact List.mem_append.2 (.inr (ent_mem h hg))
  | [], _, _, _, h, _ => by simp [ent] at h

/-- What stands at one place of the store, and what at the same place of the blocks. -/
theorem OList.at_ {bl : List (List Ent)} {cl : Nat → Nat} {w : World} : ∀ {fr : List Obj} {es : List Ent} {i : Nat} {o : Obj}, OList bl cl w fr es → fr[i]? = some o → ∃ e, es[i]? = some e ∧ ObjRel bl cl w o e
  | [], _, _, _, _, h => by simp at h
  | x :: r, es, 0, o, hO, h => by
    simp only [OList] at hO
    obtain ⟨e, s, rfl, h1, _⟩ := hO
    simp at h; subst h
    exact ⟨e, by simp, h1⟩
  | x :: r, es, i + 1, o, hO, h => by
    simp only [OList] at hO
    obtain ⟨e, s, rfl, _, h2⟩ := hO
    simp at h
    obtain ⟨e', h3, h4⟩ := h2.at_ h
    exact ⟨e', by simpa using h3, h4⟩
theorem StRel.look_ {cl : Nat → Nat} {w : World} : ∀ {st : St} {bl : List (List Ent)} {l i : Nat} {o : Obj}, StRel cl w st bl → look st l i = some o → ∃ e, ent bl l i = some e ∧ ObjRel (upE bl l) cl w o e
  | fr :: st, bl, 0, i, o, h, hl => by
    simp only [StRel] at h
    obtain ⟨es, r, rfl, h1, _⟩ := h
    simp only [look] at hl
    obtain ⟨e, h2, h3⟩ := h1.at_ hl
    exact ⟨e, by simpa [ent] using h2, by simpa [upE] using h3⟩
  | fr :: st, bl, l + 1, i, o, h, hl => by
    simp only [StRel] at h
    obtain ⟨es, r, rfl, _, h2⟩ := h
    simp only [look] at hl
    obtain ⟨e, h3, h4⟩ := h2.look_ hl
    exact ⟨e, by simpa [ent] using h3, by simpa [upE] using h4⟩
  | [], _, _, _, _, _, hl => by simp [look] at hl
theorem OList.length {bl : List (List Ent)} {cl : Nat → Nat} {w : World} : ∀ {fr : List Obj} {es : List Ent}, OList bl cl w fr es → es.length = fr.length
  | [], es, h => by simp only [OList] at h; subst h; rfl
  | x :: r, es, h => by
    simp only [OList] at h
    obtain ⟨e, s, rfl, _, h2⟩ := h
    simp [h2.length]
theorem StRel.length {cl : Nat → Nat} {w : World} : ∀ {st : St} {bl : List (List Ent)}, StRel cl w st bl → bl.length = st.length
  | [], bl, h => by simp only [StRel] at h; subst h; rfl
  | fr :: st, bl, h => by
    simp only [StRel] at h
    obtain ⟨es, r, rfl, _, h2⟩ := h
    simp [h2.length]

theorem EntsLe.tail {a b : List Ent} {r s : List (List Ent)} (h : EntsLe (a :: r) (b :: s)) : EntsLe r s :=
  ⟨by simpa using h.1, fun l i e he => by simpa [ent] using h.2 (l + 1) i e (by simpa [ent] using he)⟩
theorem EntsLe.upE : ∀ {bl bl' : List (List Ent)} (l : Nat), EntsLe bl bl' → EntsLe (upE bl l) (upE bl' l)
  | bl, bl', 0, h => by simpa [Go.X.upE] using h
  | a :: r, b :: s, l + 1, h => by simpa [Go.X.upE] using (h.tail).upE l
  | [], [], l + 1, h => by simpa [Go.X.upE] using h
  | [], b :: s, l + 1, h => by have := h.1; simp at this
  | a :: r, [], l + 1, h => by have := h.1; simp at this

section
variable {cl cl' : Nat → Nat} {w w' : World} (hk : Keeps cl w cl' w')
include hk
theorem ObjRel.keep {bl bl' : List (List Ent)} (he : EntsLe bl bl') {o : Obj} {e : Ent} (hhc : e.gone = false → w'.heap[e.b]? = w.heap[e.b]? ∧ cl' e.b = cl e.b) (h : ObjRel bl cl w o e) : ObjRel bl' cl' w' o e := by
  cases o with
  | box ty cells =>
    simp only [ObjRel] at h ⊢
    obtain ⟨h1, h2, vs, h3, h4⟩ := h
    obtain ⟨hh, hc⟩ := hhc (gone_box h1)
    exact ⟨h1, hc.trans h2, vs, hh.trans h3, h4.keep hk he⟩
  | row ty sz rows mt cap =>
    simp only [ObjRel] at h ⊢
    obtain ⟨h1, h2, h3, h4, h5, h⟩ := h
    refine ⟨h1, h2, h3, h4, h5, fun hg => ?_⟩
    obtain ⟨⟨cs, h6, h6'⟩, h7, h8⟩ := h hg
    obtain ⟨hh, hc⟩ := hhc hg
    refine ⟨⟨cs, hh.trans h6, h6'⟩, ?_, hc.trans h8⟩
    cases mt with
    | false => exact DRows.keep hk rows e.b 0 sz (by simp at h8; omega) h7
    | true =>
      have hcell : ∀ j, w'.cell? ⟨e.b, j, none⟩ = w.cell? ⟨e.b, j, none⟩ := fun j => World.cell?_of_block hh
      have hall : ∀ (l : List D) (o : Nat), DCells cl w e.b o l → DCells cl' w' e.b o l := by
        intro l
        induction l with
        | nil => intro o _; simp only [DCells]
        | cons d r ih =>
          intro o h
          simp only [DCells] at h ⊢
          obtain ⟨⟨v, g1, g2⟩, g3⟩ := h
          exact ⟨⟨v, (hcell o).trans g1, DRel.keep hk d v g2⟩, ih _ g3⟩
      have hrows : ∀ (l : List (List D)) (o : Nat), DRows cl w e.b o sz l → DRows cl' w' e.b o sz l := by
        intro l
        induction l with
        | nil => intro o _; simp only [DRows]
        | cons r rs ih =>
          intro o h
          simp only [DRows] at h ⊢
          exact ⟨h.1, hall r o h.2.1, ih _ h.2.2⟩
      exact hrows rows 0 h7
  | void => simpa only [ObjRel] using h
  | loop site ρ p =>
    simp only [ObjRel] at h ⊢
    obtain ⟨h1, h2, r, h3, h4, h5, h6⟩ := h
    obtain ⟨hh, hc⟩ := hhc (gone_box h1)
    exact ⟨h1, hc.trans h2, r, hh.trans h3, h4, h5, fun t => (h6 t).keep hk he⟩
  | map es =>
    simp only [ObjRel] at h ⊢
    obtain ⟨h1, h2, hf, ents, clock, h3, h4⟩ := h
    obtain ⟨hh, hc⟩ := hhc (gone_box h1)
    exact ⟨h1, hc.trans h2, hf, ents, clock, hh.trans h3, h4.keep hk he⟩
theorem OList.keep {bl bl' : List (List Ent)} (he : EntsLe bl bl') : ∀ {fr : List Obj} {es : List Ent}, (∀ e ∈ es, e.gone = false → w'.heap[e.b]? = w.heap[e.b]? ∧ cl' e.b = cl e.b) → OList bl cl w fr es → OList bl' cl' w' fr es
  | [], es, _, h => by simpa only [OList] using h
  | o :: r, es, hs, h => by
    simp only [OList] at h ⊢
    obtain ⟨e, s, rfl, h1, h2⟩ := h
    exact ⟨e, s, rfl, h1.keep hk he (hs e (by simp)), OList.keep he (fun x hx => hs x (by simp [hx])) h2⟩
/-- The store stays, in a heap whose blocks of the store are as they were. -/
theorem StRel.keep : ∀ {st : St} {bl : List (List Ent)}, (∀ b ∈ blks bl, w'.heap[b]? = w.heap[b]? ∧ cl' b = cl b) → StRel cl w st bl → StRel cl' w' st bl
  | [], bl, _, h => by simpa only [StRel] using h
  | fr :: st, bl, hs, h => by
    simp only [StRel] at h ⊢
    obtain ⟨es, r, rfl, h1, h2⟩ := h
    refine ⟨es, r, rfl, h1.keep hk (EntsLe.refl _) (fun e he hg => hs e.b ?_), StRel.keep (fun b hb => hs b ?_) h2⟩
    · rw [blks_cons]; exact List.mem_append.2 (.inl (mem_livB.2 ⟨e, he, hg, rfl⟩))
    · rw [blks_cons]; exact List.mem_append.2 (.inr hb)

theorem OList.set_ {bl bl' : List (List Ent)} (he : EntsLe bl bl') {o' : Obj} {e e' : Ent} (ho : ObjRel bl' cl' w' o' e') : ∀ {fr : List Obj} {es : List Ent} {i : Nat}, es[i]? = some e → (livB es).Nodup →
    (∀ x ∈ es, x.gone = false → (e.gone = false → x.b ≠ e.b) → w'.heap[x.b]? = w.heap[x.b]? ∧ cl' x.b = cl x.b) → OList bl cl w fr es → OList bl' cl' w' (fr.set i o') (es.set i e')
  | [], es, i, h1, _, _, h => by simp only [OList] at h; subst h; simp at h1
  | o :: r, es, 0, h1, hn, hs, h => by
    simp only [OList] at h
    obtain ⟨e0, s, rfl, _, h3⟩ := h
    simp at h1; subst h1
    simp only [List.set_cons_zero, OList]
    refine ⟨e', s, rfl, ho, h3.keep hk he fun x hx hg => hs x (by simp [hx]) hg fun hg0 hb => ?_⟩
    rw [livB_cons, hg0, cond_false, List.nodup_cons] at hn
    exact hn.1 (hb ▸ mem_livB.2 ⟨x, hx, hg, rfl⟩)
  | o :: r, es, i + 1, h1, hn, hs, h => by
    simp only [OList] at h
    obtain ⟨e0, s, rfl, h2, h3⟩ := h
    simp at h1
    rw [livB_cons] at hn
    simp only [List.set_cons_succ, OList]
    have hne : e0.gone = false → e.gone = false → e0.b ≠ e.b := fun hg0 hg hb => by
      rw [hg0, cond_false, List.nodup_cons] at hn
      exact hn.1 (hb ▸ mem_livB.2 ⟨e, List.mem_of_getElem? h1, hg, rfl⟩)
    have hn' : (livB s).Nodup := by
      cases hg : e0.gone with
      | true => rw [hg] at hn; exact hn
      | false => rw [hg, cond_false, List.nodup_cons] at hn; exact hn.2
    exact ⟨e0, _, rfl, h2.keep hk he (fun hg => hs e0 (by simp) hg (hne hg)), OList.set_ he ho h1 hn' (fun x hx => hs x (by simp [hx])) h3⟩

theorem OList.add_ {bl bl' : List (List Ent)} (he : EntsLe bl bl') {o' : Obj} {e' : Ent} (ho : ObjRel bl' cl' w' o' e') : ∀ {fr : List Obj} {es : List Ent},
    (∀ x ∈ es, x.gone = false → w'.heap[x.b]? = w.heap[x.b]? ∧ cl' x.b = cl x.b) → OList bl cl w fr es → OList bl' cl' w' (fr ++ [o']) (es ++ [e'])
  | [], es, _, h => by simp only [OList] at h; subst h; simp only [List.nil_append, OList]; exact ⟨e', [], rfl, ho, rfl⟩
  | o :: r, es, hs, h => by
    simp only [OList] at h
    obtain ⟨e0, s, rfl, h2, h3⟩ := h
    simp only [List.cons_append, OList]
    exact ⟨e0, _, rfl, h2.keep hk he (hs e0 (by simp)), OList.add_ he ho (fun x hx => hs x (by simp [hx])) h3⟩
end

theorem ent_setE_same : ∀ {bl : List (List Ent)} {l i : Nat} {e e' : Ent}, ent bl l i = some e → ent (setE bl l i e') l i = some e'
  | fr :: r, 0, i, e, e', h => by
    simp only [ent] at h
    simp only [setE, ent]
    exact List.getElem?_set_self (List.getElem?_eq_some_iff.1 h).1
  | fr :: r, l + 1, i, e, e', h => by simp only [ent] at h; simpa [setE, ent] using ent_setE_same h
  | [], _, _, _, _, h => by simp [ent] at h
theorem ent_setE_other : ∀ {bl : List (List Ent)} {l i l' i' : Nat} {e' : Ent}, (l' ≠ l ∨ i' ≠ i) → ent (setE bl l i e') l' i' = ent bl l' i'
  | fr :: r, 0, i, 0, i', e', h => by
    simp only [setE, ent]
    exact List.getElem?_set_ne (by omega)
  | fr :: r, 0, i, l' + 1, i', e', h => by simp [setE, ent]
  | fr :: r, l + 1, i, 0, i', e', h => by simp [setE, ent]
  | fr :: r, l + 1, i, l' + 1, i', e', h => by
    simp only [setE, ent]
    exact ent_setE_other (by omega)
  | [], _, _, _, _, _, _ => by simp [setE]
theorem setE_length : ∀ (bl : List (List Ent)) (l i : Nat) (e' : Ent), (setE bl l i e').length = bl.length
  | fr :: r, 0, i, e' => by simp [setE]
  | fr :: r, l + 1, i, e' => by simp [setE, setE_length r l i e']
  | [], _, _, _ => by simp [setE]
theorem EntsLe.setE {bl : List (List Ent)} {l i : Nat} {e e' : Ent} (h : ent bl l i = some e) (he : EntLe e e') : EntsLe bl (setE bl l i e') :=
  ⟨setE_length _ _ _ _, fun l' i' x hx => by
    by_cases hc : l' = l ∧ i' = i
    · obtain ⟨rfl, rfl⟩ := hc
      rw [h] at hx; cases hx
      exact ⟨e', ent_setE_same h, he⟩
    · exact ⟨x, by rw [ent_setE_other (by omega)]; exact hx, EntLe.refl x⟩⟩
theorem addE_length : ∀ (bl : List (List Ent)) (l : Nat) (e' : Ent), (addE bl l e').length = bl.length
  | fr :: r, 0, e' => by simp [addE]
  | fr :: r, l + 1, e' => by simp [addE, addE_length r l e']
  | [], _, _ => by simp [addE]
theorem ent_addE_old : ∀ {bl : List (List Ent)} {l l' i' : Nat} {e' x : Ent}, ent bl l' i' = some x → ent (addE bl l e') l' i' = some x
  | fr :: r, 0, 0, i', e', x, h => by
    simp only [ent] at h
    simp only [addE, ent]
    rw [List.getElem?_append_left (List.getElem?_eq_some_iff.1 h).1]; exact h
  | fr :: r, 0, l' + 1, i', e', x, h => by simpa [addE, ent] using h
  | fr :: r, l + 1, 0, i', e', x, h => by simpa [addE, ent] using h
  | fr :: r, l + 1, l' + 1, i', e', x, h => by simp only [ent] at h; simpa [addE, ent] using ent_addE_old h
  | [], _, _, _, _, _, h => by simp [ent] at h
theorem EntsLe.addE (bl : List (List Ent)) (l : Nat) (e' : Ent) : EntsLe bl (addE bl l e') :=
  ⟨addE_length _ _ _, fun _ _ x hx => ⟨x, ent_addE_old hx, EntLe.refl x⟩⟩
theorem ent_addE_new {cl : Nat → Nat} {w : World} : ∀ {st : St} {bl : List (List Ent)} {l : Nat} {e' : Ent}, StRel cl w st bl → l < st.length → ent (addE bl l e') l (numO st l) = some e'
  | fr :: st, bl, 0, e', h, _ => by
    simp only [StRel] at h
    obtain ⟨es, r, rfl, h1, _⟩ := h
    simp only [addE, ent, numO, ← h1.length]
    simp
  | fr :: st, bl, l + 1, e', h, hl => by
    simp only [StRel] at h
    obtain ⟨es, r, rfl, _, h2⟩ := h
    simp only [addE, ent, numO]
    exact ent_addE_new h2 (by simpa using hl)
  | [], _, _, _, _, hl => by simp at hl

section
variable {cl cl' : Nat → Nat} {w w' : World} (hk : Keeps cl w cl' w')
include hk
/-- One object of the store is another one now. -/
theorem StRel.set_ : ∀ {st : St} {bl : List (List Ent)} {l i : Nat} {o' : Obj} {e e' : Ent}, ent bl l i = some e → EntLe e e' → ObjRel (upE (setE bl l i e') l) cl' w' o' e' → (blks bl).Nodup →
    (∀ b ∈ blks bl, (e.gone = false → b ≠ e.b) → w'.heap[b]? = w.heap[b]? ∧ cl' b = cl b) → StRel cl w st bl → StRel cl' w' (setO st l i o') (setE bl l i e')
  | fr :: st, bl, 0, i, o', e, e', h1, hle, ho, hn, hs, h => by
    simp only [StRel] at h
    obtain ⟨es, r, rfl, h2, h3⟩ := h
    have hE : EntsLe (es :: r) (es.set i e' :: r) := by simpa [Go.X.setE] using EntsLe.setE h1 hle
    simp only [ent] at h1
    rw [blks_cons] at hn
    have hn' := List.nodup_append.1 hn
    simp only [setO, Go.X.setE, StRel]
    refine ⟨es.set i e', r, rfl, h2.set_ hk hE (by simpa [Go.X.setE, upE] using ho) h1 hn'.1 (fun x hx hg hb => hs x.b ?_ hb), h3.keep hk fun b hb => hs b ?_ ?_⟩
    · rw [blks_cons]; exact List.mem_append.2 (.inl (mem_livB.2 ⟨x, hx, hg, rfl⟩))
    · rw [blks_cons]; exact List.mem_append.2 (.inr hb)
    · exact fun hg hb' => hn'.2.2 e.b (mem_livB.2 ⟨e, List.mem_of_getElem? h1, hg, rfl⟩) b hb hb'.symm
  | fr :: st, bl, l + 1, i, o', e, e', h1, hle, ho, hn, hs, h => by
    simp only [StRel] at h
    obtain ⟨es, r, rfl, h2, h3⟩ := h
    have hE : EntsLe (es :: r) (es :: setE r l i e') := by simpa [Go.X.setE] using EntsLe.setE h1 hle
    simp only [ent] at h1
    rw [blks_cons] at hn
    have hn' := List.nodup_append.1 hn
    simp only [setO, Go.X.setE, StRel]
    have hr : ∀ b ∈ blks r, b ∈ blks (es :: r) := fun b hb => by rw [blks_cons]; exact List.mem_append.2 (.inr hb)
    refine ⟨es, setE r l i e', rfl, h2.keep hk hE (fun x hx hg => hs x.b ?_ ?_), h3.set_ h1 hle (by simpa [Go.X.setE, upE] using ho) hn'.2.1 fun b hb hne => hs b (hr b hb) hne⟩
    · rw [blks_cons]; exact List.mem_append.2 (.inl (mem_livB.2 ⟨x, hx, hg, rfl⟩))
    · exact fun hg' hb => hn'.2.2 x.b (mem_livB.2 ⟨x, hx, hg, rfl⟩) e.b (ent_mem h1 hg') hb
  | [], bl, _, _, _, _, _, h1, _, _, _, _, h => by simp only [StRel] at h; subst h; simp [ent] at h1
/-- One object more. -/
theorem StRel.add_ : ∀ {st : St} {bl : List (List Ent)} {l : Nat} {o' : Obj} {e' : Ent}, ObjRel (upE (addE bl l e') l) cl' w' o' e' → l < st.length →
    (∀ b ∈ blks bl, w'.heap[b]? = w.heap[b]? ∧ cl' b = cl b) → StRel cl w st bl → StRel cl' w' (addO st l o') (addE bl l e')
  | fr :: st, bl, 0, o', e', ho, _, hs, h => by
    simp only [StRel] at h
    obtain ⟨es, r, rfl, h2, h3⟩ := h
    have hE : EntsLe (es :: r) ((es ++ [e']) :: r) := by simpa [Go.X.addE] using EntsLe.addE (es :: r) 0 e'
    simp only [addO, Go.X.addE, StRel]
    refine ⟨es ++ [e'], r, rfl, h2.add_ hk hE (by simpa [Go.X.addE, upE] using ho) (fun x hx hg => hs x.b ?_), h3.keep hk fun b hb => hs b ?_⟩
    · rw [blks_cons]; exact List.mem_append.2 (.inl (mem_livB.2 ⟨x, hx, hg, rfl⟩))
    · rw [blks_cons]; exact List.mem_append.2 (.inr hb)
  | fr :: st, bl, l + 1, o', e', ho, hl, hs, h => by
    simp only [StRel] at h
    obtain ⟨es, r, rfl, h2, h3⟩ := h
    have hE : EntsLe (es :: r) (es :: addE r l e') := by simpa [Go.X.addE] using EntsLe.addE (es :: r) (l + 1) e'
    simp only [addO, Go.X.addE, StRel]
    refine ⟨es, addE r l e', rfl, h2.keep hk hE (fun x hx hg => hs x.b ?_), h3.add_ (by simpa [Go.X.addE, upE] using ho) (by simpa using hl) fun b hb => hs b ?_⟩
    · rw [blks_cons]; exact List.mem_append.2 (.inl (mem_livB.2 ⟨x, hx, hg, rfl⟩))
    · rw [blks_cons]; exact List.mem_append.2 (.inr hb)
  | [], bl, _, _, _, _, hl, _, _ => by simp at hl
end

theorem mem_blks_ent : ∀ {bl : List (List Ent)} {b : Nat}, b ∈ blks bl → ∃ l i e, ent bl l i = some e ∧ e.gone = false ∧ e.b = b
  | [], b, h => by simp [blks, livB] at h
  | fr :: r, b, h => by
    rw [blks_cons, List.mem_append] at h
    rcases h with h | h
    · obtain ⟨e, h1, h2, h3⟩ := mem_livB.1 h
      obtain ⟨i, hi⟩ := List.mem_iff_getElem?.1 h1
      exact ⟨0, i, e, hi, h2, h3⟩
    · obtain ⟨l, i, e, h1, h2⟩ := mem_blks_ent h
      exact ⟨l + 1, i, e, h1, h2⟩
theorem blks_setE : ∀ {bl : List (List Ent)} {l i : Nat} {e e' : Ent}, ent bl l i = some e → ∀ b, b ∈ blks (setE bl l i e') → (e'.gone = false ∧ b = e'.b) ∨ b ∈ blks bl
  | fr :: r, 0, i, e, e', h, b, hb => by
    simp only [setE, blks_cons, List.mem_append] at hb ⊢
    rcases hb with hb | hb
    · obtain ⟨x, hx, hg, rfl⟩ := mem_livB.1 hb
      rcases List.mem_or_eq_of_mem_set hx with hx | rfl
      · exact .inr (.inl (mem_livB.2 ⟨x, hx, hg, rfl⟩))
      · exact .inl ⟨hg, rfl⟩
    · exact .inr (.inr hb)
  | fr :: r, l + 1, i, e, e', h, b, hb => by
    simp only [ent] at h
    simp only [setE, blks_cons, List.mem_append] at hb ⊢
    rcases hb with hb | hb
    · exact .inr (.inl hb)
    · rcases blks_setE h b hb with hb | hb
      · exact .inl hb
      · exact .inr (.inr hb)
  | [], _, _, _, _, h, _, _ => by simp [ent] at h
theorem nodup_set : ∀ {l : List Ent} {i : Nat} {e e' : Ent}, l[i]? = some e → (livB l).Nodup → (e'.gone = true ∨ (e.gone = false ∧ e'.b = e.b) ∨ e'.b ∉ livB l) → (livB (l.set i e')).Nodup
  | x :: r, 0, e, e', h, hn, hb => by
    simp at h; subst h
    rw [livB_cons] at hn
    simp only [List.set_cons_zero, livB_cons]
    have hr : (livB r).Nodup := by
      cases hg : x.gone with
      | true => rw [hg] at hn; exact hn
      | false => rw [hg, cond_false, List.nodup_cons] at hn; exact hn.2
    cases hg' : e'.gone with
    | true => exact hr
    | false =>
      simp only [cond_false, List.nodup_cons]
      refine ⟨fun hc => ?_, hr⟩
      rcases hb with hb | ⟨hg, hb⟩ | hb
      · rw [hg'] at hb; cases hb
      · rw [hg, cond_false, List.nodup_cons] at hn
        exact hn.1 (hb ▸ hc)
      · rw [livB_cons] at hb
        cases hg : x.gone with
        | true => rw [hg] at hb; exact hb hc
        | false => rw [hg] at hb; exact hb (by simp [hc])
  | x :: r, i + 1, e, e', h, hn, hb => by
    simp at h
    rw [livB_cons] at hn
    simp only [List.set_cons_succ, livB_cons]
    have hr : (livB r).Nodup := by
      cases hg : x.gone with
      | true => rw [hg] at hn; exact hn
      | false => rw [hg, cond_false, List.nodup_cons] at hn; exact hn.2
    have hb' : e'.gone = true ∨ (e.gone = false ∧ e'.b = e.b) ∨ e'.b ∉ livB r := by
      rcases hb with hb | hb | hb
      · exact .inl hb
      · exact .inr (.inl hb)
      · refine .inr (.inr fun hc => hb ?_)
        rw [livB_cons]
        cases x.gone <;> simp [hc]
    have ih := nodup_set h hr hb'
    cases hg : x.gone with
    | true => exact ih
    | false =>
      rw [hg, cond_false, List.nodup_cons] at hn
      simp only [cond_false, List.nodup_cons]
      refine ⟨fun hc => ?_, ih⟩
      obtain ⟨y, hy, hyg, hyb⟩ := mem_livB.1 hc
      rcases List.mem_or_eq_of_mem_set hy with hy | rfl
      · exact hn.1 (mem_livB.2 ⟨y, hy, hyg, hyb⟩)
      · rcases hb with hb | ⟨hge, hb⟩ | hb
        · rw [hyg] at hb; cases hb
        · exact hn.1 (mem_livB.2 ⟨e, List.mem_of_getElem? h, hge, hb ▸ hyb⟩)
        · exact hb (by rw [livB_cons, hg]; simp [hyb])
  | [], _, _, _, h, _, _ => by simp at h
theorem nodup_setE : ∀ {bl : List (List Ent)} {l i : Nat} {e e' : Ent}, ent bl l i = some e → (blks bl).Nodup → (e'.gone = true ∨ (e.gone = false ∧ e'.b = e.b) ∨ e'.b ∉ blks bl) → (blks (setE bl l i e')).Nodup
  | fr :: r, 0, i, e, e', h, hn, hb => by
    simp only [ent] at h
    rw [blks_cons] at hn hb
    simp only [setE, blks_cons]
    have hn' := List.nodup_append.1 hn
    refine List.nodup_append.2 ⟨nodup_set h hn'.1 (hb.imp id (Or.imp id fun hb hc => hb (List.mem_append.2 (.inl hc)))), hn'.2.1, fun a ha c hc hac => ?_⟩
    obtain ⟨y, hy, hyg, rfl⟩ := mem_livB.1 ha
    rcases List.mem_or_eq_of_mem_set hy with hy | rfl
    · exact hn'.2.2 y.b (mem_livB.2 ⟨y, hy, hyg, rfl⟩) c hc hac
    · rcases hb with hb | ⟨hge, hb⟩ | hb
      · rw [hyg] at hb; cases hb
      · exact hn'.2.2 e.b (mem_livB.2 ⟨e, List.mem_of_getElem? h, hge, rfl⟩) c hc (hb ▸ hac)
      · exact hb (List.mem_append.2 (.inr (hac ▸ hc)))
  | fr :: r, l + 1, i, e, e', h, hn, hb => by
    simp only [ent] at h
    rw [blks_cons] at hn hb
    simp only [setE, blks_cons]
    have hn' := List.nodup_append.1 hn
    refine List.nodup_append.2 ⟨hn'.1, nodup_setE h hn'.2.1 (hb.imp id (Or.imp id fun hb hc => hb (List.mem_append.2 (.inr hc)))), fun a ha c hc hac => ?_⟩
    rcases blks_setE h c hc with ⟨hg, rfl⟩ | hc
    · rcases hb with hb | ⟨hge, hb⟩ | hb
      · rw [hg] at hb; cases hb
      · exact hn'.2.2 a ha e.b (ent_mem h hge) (hb ▸ hac)
      · exact hb (List.mem_append.2 (.inl (hac ▸ ha)))
    · exact hn'.2.2 a ha c hc hac
  | [], _, _, _, _, h, _, _ => by simp [ent] at h
theorem blks_addE : ∀ (bl : List (List Ent)) (l : Nat) (e' : Ent) (b : Nat), b ∈ blks (addE bl l e') → (e'.gone = false ∧ b = e'.b) ∨ b ∈ blks bl
  | fr :: r, 0, e', b, hb => by
    simp only [addE, blks_cons, List.mem_append, livB_append] at hb ⊢
    rcases hb with (hb | hb) | hb
    · exact .inr (.inl hb)
    · obtain ⟨x, hx, hg, rfl⟩ := mem_livB.1 hb
      simp only [List.mem_singleton] at hx
      subst hx
      exact .inl ⟨hg, rfl⟩
    · exact .inr (.inr hb)
  | fr :: r, l + 1, e', b, hb => by
    simp only [addE, blks_cons, List.mem_append] at hb ⊢
    rcases hb with hb | hb
    · exact .inr (.inl hb)
    · rcases blks_addE r l e' b hb with hb | hb
      · exact .inl hb
      · exact .inr (.inr hb)
  | [], _, _, _, hb => by simp [addE, blks, livB] at hb
theorem nodup_addE : ∀ (bl : List (List Ent)) (l : Nat) (e' : Ent), (blks bl).Nodup → (e'.gone = true ∨ e'.b ∉ blks bl) → (blks (addE bl l e')).Nodup
  | fr :: r, 0, e', hn, hb => by
    rw [blks_cons] at hn hb
    simp only [addE, blks_cons, livB_append]
    have hn' := List.nodup_append.1 hn
    have h1 : ∀ c, c ∈ livB [e'] → e'.gone = false ∧ c = e'.b := fun c hc => by
      obtain ⟨x, hx, hg, rfl⟩ := mem_livB.1 hc
      simp only [List.mem_singleton] at hx
      subst hx; exact ⟨hg, rfl⟩
    have hno : ∀ c, c ∈ livB [e'] → c ∉ livB fr ++ blks r := fun c hc hm => by
      obtain ⟨hg, rfl⟩ := h1 c hc
      rcases hb with hb | hb
      · rw [hg] at hb; cases hb
      · exact hb hm
    refine List.nodup_append.2 ⟨List.nodup_append.2 ⟨hn'.1, by rw [livB_cons]; cases e'.gone <;> simp [livB], fun a ha c hc hac => ?_⟩, hn'.2.1, fun a ha c hc hac => ?_⟩
    · exact hno c hc (List.mem_append.2 (.inl (hac ▸ ha)))
    · rcases List.mem_append.1 ha with ha | ha
      · exact hn'.2.2 a ha c hc hac
      · exact hno a ha (List.mem_append.2 (.inr (hac ▸ hc)))
  | fr :: r, l + 1, e', hn, hb => by
    rw [blks_cons] at hn hb
    simp only [addE, blks_cons]
    have hn' := List.nodup_append.1 hn
    refine List.nodup_append.2 ⟨hn'.1, nodup_addE r l e' hn'.2.1 (hb.imp id fun hb hc => hb (List.mem_append.2 (.inr hc))), fun a ha c hc hac => ?_⟩
    rcases blks_addE r l e' c hc with ⟨hg, rfl⟩ | hc
    · rcases hb with hb | hb
      · rw [hg] at hb; cases hb
      · exact hb (List.mem_append.2 (.inl (hac ▸ ha)))
    · exact hn'.2.2 a ha c hc hac
  | [], _, _, hn, _ => by simpa [addE] using hn
end Go.X
