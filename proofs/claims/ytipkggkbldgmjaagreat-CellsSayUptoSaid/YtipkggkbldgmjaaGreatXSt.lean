/- The store of objects against the heap. -/
import Derived.Test.YtipkggkbldgmjaaGreatXRel
namespace Go.X
open Go
set_option linter.unusedSectionVars false
variable [eY]
def gu (kk : KK) (bl : List (List eD)) (cl : Nat → Nat) (w : World) : List (PV × PV) → List MapEntry → Prop
 | [], es => es = []
 | x :: r, es => ∃ e s, es = e :: s ∧ iw kk x.1 = true ∧ ay bl cl w x.1 e.key ∧ ay bl cl w x.2 e.val ∧ Ld x.2 = true ∧ gu kk bl cl w r s
theorem gu.keep {kk : KK} {bl ni : List (List eD)} {cl cl' : Nat → Nat} {w w' : World} (hk : Keeps cl w cl' w') (he : dR bl ni) :
  ∀ (l : List (PV × PV)) (es : List MapEntry), gu kk bl cl w l es → gu kk ni cl' w' l es
 | [], es, h => h
 | x :: r, es, h => by
  simp only [gu] at h ⊢
  obtain ⟨e, s, h1, h2, h3, h4, h5, h6⟩ := h
  exact ⟨e, s, h1, h2, h3.keep hk he, h4.keep hk he, h5, gu.keep hk he r s h6⟩
def NJ : Option Ex → Loop → Prop
 | none, r => r.state = .ready ∧ r.pending = none
 | some .normal, r => r.state = .busy
 | some .ret, r => r.state = .done ∧ r.pending = some .ret
 | some (.exit id), r => r.state = .done ∧ r.pending = some (.exit id)
def Lg (site : Nat) (r : Loop) : Prop := ∃ q, eY.site site = some q ∧ r.params = q.ps.toArray ∧ r.assign = q.RD ∧ r.body = q.body ∧ q.n ≤ r.tmps.size
def bF (bl : List (List eD)) (cl : Nat → Nat) (w : World) : Obj → eD → Prop
 | .box ty cells, e => e.sz = 0 ∧ cl e.b = 0 ∧ ∃ vs : List Value, w.heap[e.b]? = some (.cells vs.toArray ty (0, 0)) ∧ aZ bl cl w cells vs
 | .row ty sz rows mt cap, e => 0 < sz ∧ e.sz = sz ∧ e.len = rows.length ∧ rows.length ≤ e.cap ∧ (∀ c, cap = some c → c = (e.cap : Int)) ∧
   (e.gone = false → (∃ cs : Array Value, w.heap[e.b]? = some (.cells cs ty (0, 0)) ∧ e.cap * sz ≤ cs.size) ∧ bW cl w e.b 0 sz rows ∧ cl e.b = (bif mt then 0 else rows.length * sz))
 | .void, e => e.gone = true
 | .loop site ρ p, e => e.sz = 0 ∧ cl e.b = 0 ∧ ∃ r : Loop, w.heap[e.b]? = some (.loop r) ∧ Lg site r ∧ NJ p r ∧ ∀ t, ay bl cl w (jw ρ t) (r.tmps.getD t undef)
 | .map kk fl es, e => e.sz = 0 ∧ cl e.b = 0 ∧ (fl = true → nH es = true) ∧ ∃ (ents : Array MapEntry) (clock : Nat), w.heap[e.b]? = some (.map ents clock) ∧ gu kk bl cl w es ents.toList
def fI (bl : List (List eD)) (cl : Nat → Nat) (w : World) : List Obj → List eD → Prop
 | [], es => es = []
 | o :: r, es => ∃ e s, es = e :: s ∧ bF bl cl w o e ∧ fI bl cl w r s
def fA (cl : Nat → Nat) (w : World) : St → List (List eD) → Prop
 | [], bl => bl = []
 | fr :: st, bl => ∃ es r, bl = es :: r ∧ fI (es :: r) cl w fr es ∧ fA cl w st r
def gT (es : List eD) : List Nat := (es.filter fun e => !e.gone).map (·.b)
def blks (bl : List (List eD)) : List Nat := gT bl.flatten
theorem eG {es : List eD} {b : Nat} : b ∈ gT es ↔ ∃ e ∈ es, e.gone = false ∧ e.b = b := by
 simp [gT, and_assoc]
theorem mq (a b : List eD) : gT (a ++ b) = gT a ++ gT b := by simp [gT]
theorem gP (e : eD) (r : List eD) : gT (e :: r) = (bif e.gone then gT r else e.b :: gT r) := by
 simp only [gT, List.filter_cons]
 cases e.gone <;> rfl
theorem nL {e : eD} (h : e.sz = 0) : e.gone = false := by simp [eD.gone, h, Nat.blt, Nat.ble]
theorem mD {e : eD} (h : 0 < e.cap) : e.gone = false := by
 have : Nat.beq e.cap 0 = false := by
  cases hb : Nat.beq e.cap 0 with
  | false => rfl
  | true => have := Nat.eq_of_beq_eq_true hb; omega
 simp [eD.gone, this]
theorem RN {e : eD} (h : e.gone = true) : e.cap = 0 ∧ 0 < e.sz := by
 simp only [eD.gone, Bool.and_eq_true] at h
 exact ⟨Nat.eq_of_beq_eq_true h.2, Nat.le_of_ble_eq_true h.1⟩
theorem kE {e : eD} (h : e.cap = 0) (h2 : 0 < e.sz) : e.gone = true := by
 cases hb : e.gone with
 | true => rfl
 | false =>
  simp only [eD.gone, h, Bool.and_eq_false_iff] at hb
  rcases hb with hb | hb
  ·have : Nat.blt 0 e.sz = true := Nat.ble_eq_true_of_le h2
   rw [this] at hb; cases hb
  ·cases hb
def csize (w : World) (b : Nat) : Nat := match w.heap[b]? with | some (.cells c _ _) => c.size | _ => 0
def pq (bl : List (List eD)) (w : World) : Prop := ∀ q ∈ eY.glob, (∃ t fr, w.heap[q.1]? = some (.cells q.2 t fr)) ∧ q.1 ∉ blks bl
theorem pq.lt {bl : List (List eD)} {w : World} (h : pq bl w) : ∀ q ∈ eY.glob, q.1 < w.heap.size := fun q hq => by
 obtain ⟨⟨_, _, h1⟩, _⟩ := h q hq
 exact (Array.getElem?_eq_some_iff.1 h1).1
theorem pq.step {bl ni : List (List eD)} {w w' : World} (h : pq bl w) (hk : ∀ b, b < w.heap.size → b ∉ blks bl → w'.heap[b]? = w.heap[b]?) (hn : ∀ b ∈ blks ni, b ∈ blks bl ∨ w.heap.size ≤ b) : pq ni w' := fun q hq => by
 obtain ⟨⟨t, fr, h1⟩, h2⟩ := h q hq
 exact ⟨⟨t, fr, (hk _ (h.lt q hq) h2).trans h1⟩, fun hb => (hn _ hb).elim h2 fun h3 => by have := h.lt q hq; omega⟩
theorem pq.sub {bl ni : List (List eD)} {w : World} (h : pq bl w) (hn : ∀ b ∈ blks ni, b ∈ blks bl) : pq ni w := h.step (fun _ _ _ => rfl) fun b hb => .inl (hn b hb)
structure bS (m : Mt) (st : St) (w : World) : Prop where
 st : fA m.cl w st m.blk
 nodup : (blks m.blk).Nodup
 le : ∀ b, m.cl b ≤ csize w b
 glob : pq m.blk w
def gV : List (List eD) → Nat → Nat → eD → List (List eD)
 | fr :: r, 0, i, e => fr.set i e :: r
 | fr :: r, l + 1, i, e => fr :: gV r l i e
 | [], _, _, _ => []
def iG : List (List eD) → Nat → eD → List (List eD)
 | fr :: r, 0, e => (fr ++ [e]) :: r
 | fr :: r, l + 1, e => fr :: iG r l e
 | [], _, _ => []
def mR : List (List eD) → Nat → List (List eD)
 | bl, 0 => bl
 | _ :: r, l + 1 => mR r l
 | [], _ + 1 => []
theorem aX (fr : List eD) (r : List (List eD)) : blks (fr :: r) = gT fr ++ blks r := by simp [blks, mq]
theorem yJ : ∀ {bl : List (List eD)} {l i : Nat} {e : eD}, ent bl l i = some e → e.gone = false → e.b ∈ blks bl
 | fr :: r, 0, i, e, h, hg => by
  simp only [ent] at h
  rw [aX]
  exact List.mem_append.2 (.inl (eG.2 ⟨e, List.mem_of_getElem? h, hg, rfl⟩))
 | fr :: r, l + 1, i, e, h, hg => by
  simp only [ent] at h
  rw [aX]
  exact List.mem_append.2 (.inr (yJ h hg))
 | [], _, _, _, h, _ => by simp [ent] at h
theorem fI.at_ {bl : List (List eD)} {cl : Nat → Nat} {w : World} : ∀ {fr : List Obj} {es : List eD} {i : Nat} {o : Obj}, fI bl cl w fr es → fr[i]? = some o → ∃ e, es[i]? = some e ∧ bF bl cl w o e
 | [], _, _, _, _, h => by simp at h
 | x :: r, es, 0, o, hO, h => by
  simp only [fI] at hO
  obtain ⟨e, s, rfl, h1, _⟩ := hO
  simp at h; subst h
  exact ⟨e, by simp, h1⟩
 | x :: r, es, i + 1, o, hO, h => by
  simp only [fI] at hO
  obtain ⟨e, s, rfl, _, h2⟩ := hO
  simp at h
  obtain ⟨e', h3, h4⟩ := h2.at_ h
  exact ⟨e', by simpa using h3, h4⟩
theorem fA.jH {cl : Nat → Nat} {w : World} : ∀ {st : St} {bl : List (List eD)} {l i : Nat} {o : Obj}, fA cl w st bl → look st l i = some o → ∃ e, ent bl l i = some e ∧ bF (mR bl l) cl w o e
 | fr :: st, bl, 0, i, o, h, hl => by
  simp only [fA] at h
  obtain ⟨es, r, rfl, h1, _⟩ := h
  simp only [look] at hl
  obtain ⟨e, h2, h3⟩ := h1.at_ hl
  exact ⟨e, by simpa [ent] using h2, by simpa [mR] using h3⟩
 | fr :: st, bl, l + 1, i, o, h, hl => by
  simp only [fA] at h
  obtain ⟨es, r, rfl, _, h2⟩ := h
  simp only [look] at hl
  obtain ⟨e, h3, h4⟩ := h2.jH hl
  exact ⟨e, by simpa [ent] using h3, by simpa [mR] using h4⟩
 | [], _, _, _, _, _, hl => by simp [look] at hl
theorem fI.length {bl : List (List eD)} {cl : Nat → Nat} {w : World} : ∀ {fr : List Obj} {es : List eD}, fI bl cl w fr es → es.length = fr.length
 | [], es, h => by simp only [fI] at h; subst h; rfl
 | x :: r, es, h => by
  simp only [fI] at h
  obtain ⟨e, s, rfl, _, h2⟩ := h
  simp [h2.length]
theorem fA.length {cl : Nat → Nat} {w : World} : ∀ {st : St} {bl : List (List eD)}, fA cl w st bl → bl.length = st.length
 | [], bl, h => by simp only [fA] at h; subst h; rfl
 | fr :: st, bl, h => by
  simp only [fA] at h
  obtain ⟨es, r, rfl, _, h2⟩ := h
  simp [h2.length]
theorem dR.tail {a b : List eD} {r s : List (List eD)} (h : dR (a :: r) (b :: s)) : dR r s :=
 ⟨by simpa using h.1, fun l i e he => by simpa [ent] using h.2 (l + 1) i e (by simpa [ent] using he)⟩
theorem dR.mR : ∀ {bl ni : List (List eD)} (l : Nat), dR bl ni → dR (mR bl l) (mR ni l)
 | bl, ni, 0, h => by simpa [Go.X.mR] using h
 | a :: r, b :: s, l + 1, h => by simpa [Go.X.mR] using (h.tail).mR l
 | [], [], l + 1, h => by simpa [Go.X.mR] using h
 | [], b :: s, l + 1, h => by have := h.1; simp at this
 | a :: r, [], l + 1, h => by have := h.1; simp at this
section
variable {cl cl' : Nat → Nat} {w w' : World} (hk : Keeps cl w cl' w')
include hk
theorem bF.keep {bl ni : List (List eD)} (he : dR bl ni) {o : Obj} {e : eD} (hhc : e.gone = false → w'.heap[e.b]? = w.heap[e.b]? ∧ cl' e.b = cl e.b) (h : bF bl cl w o e) : bF ni cl' w' o e := by
 cases o with
 | box ty cells =>
  simp only [bF] at h ⊢
  obtain ⟨h1, h2, vs, h3, h4⟩ := h
  obtain ⟨hh, hc⟩ := hhc (nL h1)
  exact ⟨h1, hc.trans h2, vs, hh.trans h3, h4.keep hk he⟩
 | row ty sz rows mt cap =>
  simp only [bF] at h ⊢
  obtain ⟨h1, h2, h3, h4, h5, h⟩ := h
  refine ⟨h1, h2, h3, h4, h5, fun hg => ?_⟩
  obtain ⟨⟨cs, h6, h6'⟩, h7, h8⟩ := h hg
  obtain ⟨hh, hc⟩ := hhc hg
  refine ⟨⟨cs, hh.trans h6, h6'⟩, ?_, hc.trans h8⟩
  cases mt with
  | false => exact bW.keep hk rows e.b 0 sz (by simp at h8; omega) h7
  | true =>
   have hcell : ∀ j, w'.cell? ⟨e.b, j, none⟩ = w.cell? ⟨e.b, j, none⟩ := fun j => World.cell?_of_block hh
   have hall : ∀ (l : List D) (o : Nat), bQ cl w e.b o l → bQ cl' w' e.b o l := by
    intro l
    induction l with
    | nil => intro o _; simp only [bQ]
    | cons d r ih =>
     intro o h
     simp only [bQ] at h ⊢
     obtain ⟨⟨v, g1, g2⟩, g3⟩ := h
     exact ⟨⟨v, (hcell o).trans g1, bY.keep hk d v g2⟩, ih _ g3⟩
   have hrows : ∀ (l : List (List D)) (o : Nat), bW cl w e.b o sz l → bW cl' w' e.b o sz l := by
    intro l
    induction l with
    | nil => intro o _; simp only [bW]
    | cons r rs ih =>
     intro o h
     simp only [bW] at h ⊢
     exact ⟨h.1, hall r o h.2.1, ih _ h.2.2⟩
   exact hrows rows 0 h7
 | void => simpa only [bF] using h
 | loop site ρ p =>
  simp only [bF] at h ⊢
  obtain ⟨h1, h2, r, h3, h4, h5, h6⟩ := h
  obtain ⟨hh, hc⟩ := hhc (nL h1)
  exact ⟨h1, hc.trans h2, r, hh.trans h3, h4, h5, fun t => (h6 t).keep hk he⟩
 | map es =>
  simp only [bF] at h ⊢
  obtain ⟨h1, h2, hf, ents, clock, h3, h4⟩ := h
  obtain ⟨hh, hc⟩ := hhc (nL h1)
  exact ⟨h1, hc.trans h2, hf, ents, clock, hh.trans h3, h4.keep hk he⟩
theorem fI.keep {bl ni : List (List eD)} (he : dR bl ni) : ∀ {fr : List Obj} {es : List eD}, (∀ e ∈ es, e.gone = false → w'.heap[e.b]? = w.heap[e.b]? ∧ cl' e.b = cl e.b) → fI bl cl w fr es → fI ni cl' w' fr es
 | [], es, _, h => by simpa only [fI] using h
 | o :: r, es, hs, h => by
  simp only [fI] at h ⊢
  obtain ⟨e, s, rfl, h1, h2⟩ := h
  exact ⟨e, s, rfl, h1.keep hk he (hs e (by simp)), fI.keep he (fun x hx => hs x (by simp [hx])) h2⟩
theorem fA.keep : ∀ {st : St} {bl : List (List eD)}, (∀ b ∈ blks bl, w'.heap[b]? = w.heap[b]? ∧ cl' b = cl b) → fA cl w st bl → fA cl' w' st bl
 | [], bl, _, h => by simpa only [fA] using h
 | fr :: st, bl, hs, h => by
  simp only [fA] at h ⊢
  obtain ⟨es, r, rfl, h1, h2⟩ := h
  refine ⟨es, r, rfl, h1.keep hk (dR.refl _) (fun e he hg => hs e.b ?_), fA.keep (fun b hb => hs b ?_) h2⟩
  ·rw [aX]; exact List.mem_append.2 (.inl (eG.2 ⟨e, he, hg, rfl⟩))
  ·rw [aX]; exact List.mem_append.2 (.inr hb)
theorem fI.Hg {bl ni : List (List eD)} (he : dR bl ni) {o' : Obj} {e e' : eD} (ho : bF ni cl' w' o' e') : ∀ {fr : List Obj} {es : List eD} {i : Nat}, es[i]? = some e → (gT es).Nodup →
  (∀ x ∈ es, x.gone = false → (e.gone = false → x.b ≠ e.b) → w'.heap[x.b]? = w.heap[x.b]? ∧ cl' x.b = cl x.b) → fI bl cl w fr es → fI ni cl' w' (fr.set i o') (es.set i e')
 | [], es, i, h1, _, _, h => by simp only [fI] at h; subst h; simp at h1
 | o :: r, es, 0, h1, hn, hs, h => by
  simp only [fI] at h
  obtain ⟨e0, s, rfl, _, h3⟩ := h
  simp at h1; subst h1
  simp only [List.set_cons_zero, fI]
  refine ⟨e', s, rfl, ho, h3.keep hk he fun x hx hg => hs x (by simp [hx]) hg fun hg0 hb => ?_⟩
  rw [gP, hg0, cond_false, List.nodup_cons] at hn
  exact hn.1 (hb ▸ eG.2 ⟨x, hx, hg, rfl⟩)
 | o :: r, es, i + 1, h1, hn, hs, h => by
  simp only [fI] at h
  obtain ⟨e0, s, rfl, h2, h3⟩ := h
  simp at h1
  rw [gP] at hn
  simp only [List.set_cons_succ, fI]
  have hne : e0.gone = false → e.gone = false → e0.b ≠ e.b := fun hg0 hg hb => by
   rw [hg0, cond_false, List.nodup_cons] at hn
   exact hn.1 (hb ▸ eG.2 ⟨e, List.mem_of_getElem? h1, hg, rfl⟩)
  have hn' : (gT s).Nodup := by
   cases hg : e0.gone with
   | true => rw [hg] at hn; exact hn
   | false => rw [hg, cond_false, List.nodup_cons] at hn; exact hn.2
  exact ⟨e0, _, rfl, h2.keep hk he (fun hg => hs e0 (by simp) hg (hne hg)), fI.Hg he ho h1 hn' (fun x hx => hs x (by simp [hx])) h3⟩
theorem fI.RO {bl ni : List (List eD)} (he : dR bl ni) {o' : Obj} {e' : eD} (ho : bF ni cl' w' o' e') : ∀ {fr : List Obj} {es : List eD},
  (∀ x ∈ es, x.gone = false → w'.heap[x.b]? = w.heap[x.b]? ∧ cl' x.b = cl x.b) → fI bl cl w fr es → fI ni cl' w' (fr ++ [o']) (es ++ [e'])
 | [], es, _, h => by simp only [fI] at h; subst h; simp only [List.nil_append, fI]; exact ⟨e', [], rfl, ho, rfl⟩
 | o :: r, es, hs, h => by
  simp only [fI] at h
  obtain ⟨e0, s, rfl, h2, h3⟩ := h
  simp only [List.cons_append, fI]
  exact ⟨e0, _, rfl, h2.keep hk he (hs e0 (by simp)), fI.RO he ho (fun x hx => hs x (by simp [hx])) h3⟩
end
theorem kY : ∀ {bl : List (List eD)} {l i : Nat} {e e' : eD}, ent bl l i = some e → ent (gV bl l i e') l i = some e'
 | fr :: r, 0, i, e, e', h => by
  simp only [ent] at h
  simp only [gV, ent]
  exact List.getElem?_set_self (List.getElem?_eq_some_iff.1 h).1
 | fr :: r, l + 1, i, e, e', h => by simp only [ent] at h; simpa [gV, ent] using kY h
 | [], _, _, _, _, h => by simp [ent] at h
theorem vX : ∀ {bl : List (List eD)} {l i l' i' : Nat} {e' : eD}, (l' ≠ l ∨ i' ≠ i) → ent (gV bl l i e') l' i' = ent bl l' i'
 | fr :: r, 0, i, 0, i', e', h => by
  simp only [gV, ent]
  exact List.getElem?_set_ne (by omega)
 | fr :: r, 0, i, l' + 1, i', e', h => by simp [gV, ent]
 | fr :: r, l + 1, i, 0, i', e', h => by simp [gV, ent]
 | fr :: r, l + 1, i, l' + 1, i', e', h => by
  simp only [gV, ent]
  exact vX (by omega)
 | [], _, _, _, _, _, _ => by simp [gV]
theorem Fg : ∀ (bl : List (List eD)) (l i : Nat) (e' : eD), (gV bl l i e').length = bl.length
 | fr :: r, 0, i, e' => by simp [gV]
 | fr :: r, l + 1, i, e' => by simp [gV, Fg r l i e']
 | [], _, _, _ => by simp [gV]
theorem dR.gV {bl : List (List eD)} {l i : Nat} {e e' : eD} (h : ent bl l i = some e) (he : jW e e') : dR bl (gV bl l i e') :=
 ⟨Fg _ _ _ _, fun l' i' x hx => by
  by_cases hc : l' = l ∧ i' = i
  ·obtain ⟨rfl, rfl⟩ := hc
   rw [h] at hx; cases hx
   exact ⟨e', kY h, he⟩
  ·exact ⟨x, by rw [vX (by omega)]; exact hx, jW.refl x⟩⟩
theorem Fh : ∀ (bl : List (List eD)) (l : Nat) (e' : eD), (iG bl l e').length = bl.length
 | fr :: r, 0, e' => by simp [iG]
 | fr :: r, l + 1, e' => by simp [iG, Fh r l e']
 | [], _, _ => by simp [iG]
theorem Bq : ∀ {bl : List (List eD)} {l l' i' : Nat} {e' x : eD}, ent bl l' i' = some x → ent (iG bl l e') l' i' = some x
 | fr :: r, 0, 0, i', e', x, h => by
  simp only [ent] at h
  simp only [iG, ent]
  rw [List.getElem?_append_left (List.getElem?_eq_some_iff.1 h).1]; exact h
 | fr :: r, 0, l' + 1, i', e', x, h => by simpa [iG, ent] using h
 | fr :: r, l + 1, 0, i', e', x, h => by simpa [iG, ent] using h
 | fr :: r, l + 1, l' + 1, i', e', x, h => by simp only [ent] at h; simpa [iG, ent] using Bq h
 | [], _, _, _, _, _, h => by simp [ent] at h
theorem dR.iG (bl : List (List eD)) (l : Nat) (e' : eD) : dR bl (iG bl l e') :=
 ⟨Fh _ _ _, fun _ _ x hx => ⟨x, Bq hx, jW.refl x⟩⟩
theorem oG {cl : Nat → Nat} {w : World} : ∀ {st : St} {bl : List (List eD)} {l : Nat} {e' : eD}, fA cl w st bl → l < st.length → ent (iG bl l e') l (fE st l) = some e'
 | fr :: st, bl, 0, e', h, _ => by
  simp only [fA] at h
  obtain ⟨es, r, rfl, h1, _⟩ := h
  simp only [iG, ent, fE, ← h1.length]
  simp
 | fr :: st, bl, l + 1, e', h, hl => by
  simp only [fA] at h
  obtain ⟨es, r, rfl, _, h2⟩ := h
  simp only [iG, ent, fE]
  exact oG h2 (by simpa using hl)
 | [], _, _, _, _, hl => by simp at hl
section
variable {cl cl' : Nat → Nat} {w w' : World} (hk : Keeps cl w cl' w')
include hk
theorem fA.Hg : ∀ {st : St} {bl : List (List eD)} {l i : Nat} {o' : Obj} {e e' : eD}, ent bl l i = some e → jW e e' → bF (mR (gV bl l i e') l) cl' w' o' e' → (blks bl).Nodup →
  (∀ b ∈ blks bl, (e.gone = false → b ≠ e.b) → w'.heap[b]? = w.heap[b]? ∧ cl' b = cl b) → fA cl w st bl → fA cl' w' (fM st l i o') (gV bl l i e')
 | fr :: st, bl, 0, i, o', e, e', h1, hle, ho, hn, hs, h => by
  simp only [fA] at h
  obtain ⟨es, r, rfl, h2, h3⟩ := h
  have hE : dR (es :: r) (es.set i e' :: r) := by simpa [Go.X.gV] using dR.gV h1 hle
  simp only [ent] at h1
  rw [aX] at hn
  have hn' := List.nodup_append.1 hn
  simp only [fM, Go.X.gV, fA]
  refine ⟨es.set i e', r, rfl, h2.Hg hk hE (by simpa [Go.X.gV, mR] using ho) h1 hn'.1 (fun x hx hg hb => hs x.b ?_ hb), h3.keep hk fun b hb => hs b ?_ ?_⟩
  ·rw [aX]; exact List.mem_append.2 (.inl (eG.2 ⟨x, hx, hg, rfl⟩))
  ·rw [aX]; exact List.mem_append.2 (.inr hb)
  ·exact fun hg hb' => hn'.2.2 e.b (eG.2 ⟨e, List.mem_of_getElem? h1, hg, rfl⟩) b hb hb'.symm
 | fr :: st, bl, l + 1, i, o', e, e', h1, hle, ho, hn, hs, h => by
  simp only [fA] at h
  obtain ⟨es, r, rfl, h2, h3⟩ := h
  have hE : dR (es :: r) (es :: gV r l i e') := by simpa [Go.X.gV] using dR.gV h1 hle
  simp only [ent] at h1
  rw [aX] at hn
  have hn' := List.nodup_append.1 hn
  simp only [fM, Go.X.gV, fA]
  have hr : ∀ b ∈ blks r, b ∈ blks (es :: r) := fun b hb => by rw [aX]; exact List.mem_append.2 (.inr hb)
  refine ⟨es, gV r l i e', rfl, h2.keep hk hE (fun x hx hg => hs x.b ?_ ?_), h3.Hg h1 hle (by simpa [Go.X.gV, mR] using ho) hn'.2.1 fun b hb hne => hs b (hr b hb) hne⟩
  ·rw [aX]; exact List.mem_append.2 (.inl (eG.2 ⟨x, hx, hg, rfl⟩))
  ·exact fun hg' hb => hn'.2.2 x.b (eG.2 ⟨x, hx, hg, rfl⟩) e.b (yJ h1 hg') hb
 | [], bl, _, _, _, _, _, h1, _, _, _, _, h => by simp only [fA] at h; subst h; simp [ent] at h1
theorem fA.RO : ∀ {st : St} {bl : List (List eD)} {l : Nat} {o' : Obj} {e' : eD}, bF (mR (iG bl l e') l) cl' w' o' e' → l < st.length →
  (∀ b ∈ blks bl, w'.heap[b]? = w.heap[b]? ∧ cl' b = cl b) → fA cl w st bl → fA cl' w' (kX st l o') (iG bl l e')
 | fr :: st, bl, 0, o', e', ho, _, hs, h => by
  simp only [fA] at h
  obtain ⟨es, r, rfl, h2, h3⟩ := h
  have hE : dR (es :: r) ((es ++ [e']) :: r) := by simpa [Go.X.iG] using dR.iG (es :: r) 0 e'
  simp only [kX, Go.X.iG, fA]
  refine ⟨es ++ [e'], r, rfl, h2.RO hk hE (by simpa [Go.X.iG, mR] using ho) (fun x hx hg => hs x.b ?_), h3.keep hk fun b hb => hs b ?_⟩
  ·rw [aX]; exact List.mem_append.2 (.inl (eG.2 ⟨x, hx, hg, rfl⟩))
  ·rw [aX]; exact List.mem_append.2 (.inr hb)
 | fr :: st, bl, l + 1, o', e', ho, hl, hs, h => by
  simp only [fA] at h
  obtain ⟨es, r, rfl, h2, h3⟩ := h
  have hE : dR (es :: r) (es :: iG r l e') := by simpa [Go.X.iG] using dR.iG (es :: r) (l + 1) e'
  simp only [kX, Go.X.iG, fA]
  refine ⟨es, iG r l e', rfl, h2.keep hk hE (fun x hx hg => hs x.b ?_), h3.RO (by simpa [Go.X.iG, mR] using ho) (by simpa using hl) fun b hb => hs b ?_⟩
  ·rw [aX]; exact List.mem_append.2 (.inl (eG.2 ⟨x, hx, hg, rfl⟩))
  ·rw [aX]; exact List.mem_append.2 (.inr hb)
 | [], bl, _, _, _, _, hl, _, _ => by simp at hl
end
theorem rR : ∀ {bl : List (List eD)} {l i : Nat} {e e' : eD}, ent bl l i = some e → ∀ b, b ∈ blks (gV bl l i e') → (e'.gone = false ∧ b = e'.b) ∨ b ∈ blks bl
 | fr :: r, 0, i, e, e', h, b, hb => by
  simp only [gV, aX, List.mem_append] at hb ⊢
  rcases hb with hb | hb
  ·obtain ⟨x, hx, hg, rfl⟩ := eG.1 hb
   rcases List.mem_or_eq_of_mem_set hx with hx | rfl
   ·exact .inr (.inl (eG.2 ⟨x, hx, hg, rfl⟩))
   ·exact .inl ⟨hg, rfl⟩
  ·exact .inr (.inr hb)
 | fr :: r, l + 1, i, e, e', h, b, hb => by
  simp only [ent] at h
  simp only [gV, aX, List.mem_append] at hb ⊢
  rcases hb with hb | hb
  ·exact .inr (.inl hb)
  ·rcases rR h b hb with hb | hb
   ·exact .inl hb
   ·exact .inr (.inr hb)
 | [], _, _, _, _, h, _, _ => by simp [ent] at h
theorem Lh : ∀ {l : List eD} {i : Nat} {e e' : eD}, l[i]? = some e → (gT l).Nodup → (e'.gone = true ∨ (e.gone = false ∧ e'.b = e.b) ∨ e'.b ∉ gT l) → (gT (l.set i e')).Nodup
 | x :: r, 0, e, e', h, hn, hb => by
  simp at h; subst h
  rw [gP] at hn
  simp only [List.set_cons_zero, gP]
  have hr : (gT r).Nodup := by
   cases hg : x.gone with
   | true => rw [hg] at hn; exact hn
   | false => rw [hg, cond_false, List.nodup_cons] at hn; exact hn.2
  cases hg' : e'.gone with
  | true => exact hr
  | false =>
   simp only [cond_false, List.nodup_cons]
   refine ⟨fun hc => ?_, hr⟩
   rcases hb with hb | ⟨hg, hb⟩ | hb
   ·rw [hg'] at hb; cases hb
   ·rw [hg, cond_false, List.nodup_cons] at hn
    exact hn.1 (hb ▸ hc)
   ·rw [gP] at hb
    cases hg : x.gone with
    | true => rw [hg] at hb; exact hb hc
    | false => rw [hg] at hb; exact hb (by simp [hc])
 | x :: r, i + 1, e, e', h, hn, hb => by
  simp at h
  rw [gP] at hn
  simp only [List.set_cons_succ, gP]
  have hr : (gT r).Nodup := by
   cases hg : x.gone with
   | true => rw [hg] at hn; exact hn
   | false => rw [hg, cond_false, List.nodup_cons] at hn; exact hn.2
  have hb' : e'.gone = true ∨ (e.gone = false ∧ e'.b = e.b) ∨ e'.b ∉ gT r := by
   rcases hb with hb | hb | hb
   ·exact .inl hb
   ·exact .inr (.inl hb)
   ·refine .inr (.inr fun hc => hb ?_)
    rw [gP]
    cases x.gone <;> simp [hc]
  have ih := Lh h hr hb'
  cases hg : x.gone with
  | true => exact ih
  | false =>
   rw [hg, cond_false, List.nodup_cons] at hn
   simp only [cond_false, List.nodup_cons]
   refine ⟨fun hc => ?_, ih⟩
   obtain ⟨y, hy, hyg, hyb⟩ := eG.1 hc
   rcases List.mem_or_eq_of_mem_set hy with hy | rfl
   ·exact hn.1 (eG.2 ⟨y, hy, hyg, hyb⟩)
   ·rcases hb with hb | ⟨hge, hb⟩ | hb
    ·rw [hyg] at hb; cases hb
    ·exact hn.1 (eG.2 ⟨e, List.mem_of_getElem? h, hge, hb ▸ hyb⟩)
    ·exact hb (by rw [gP, hg]; simp [hyb])
 | [], _, _, _, h, _, _ => by simp at h
theorem sW : ∀ {bl : List (List eD)} {l i : Nat} {e e' : eD}, ent bl l i = some e → (blks bl).Nodup → (e'.gone = true ∨ (e.gone = false ∧ e'.b = e.b) ∨ e'.b ∉ blks bl) → (blks (gV bl l i e')).Nodup
 | fr :: r, 0, i, e, e', h, hn, hb => by
  simp only [ent] at h
  rw [aX] at hn hb
  simp only [gV, aX]
  have hn' := List.nodup_append.1 hn
  refine List.nodup_append.2 ⟨Lh h hn'.1 (hb.imp id (Or.imp id fun hb hc => hb (List.mem_append.2 (.inl hc)))), hn'.2.1, fun a ha c hc hac => ?_⟩
  obtain ⟨y, hy, hyg, rfl⟩ := eG.1 ha
  rcases List.mem_or_eq_of_mem_set hy with hy | rfl
  ·exact hn'.2.2 y.b (eG.2 ⟨y, hy, hyg, rfl⟩) c hc hac
  ·rcases hb with hb | ⟨hge, hb⟩ | hb
   ·rw [hyg] at hb; cases hb
   ·exact hn'.2.2 e.b (eG.2 ⟨e, List.mem_of_getElem? h, hge, rfl⟩) c hc (hb ▸ hac)
   ·exact hb (List.mem_append.2 (.inr (hac ▸ hc)))
 | fr :: r, l + 1, i, e, e', h, hn, hb => by
  simp only [ent] at h
  rw [aX] at hn hb
  simp only [gV, aX]
  have hn' := List.nodup_append.1 hn
  refine List.nodup_append.2 ⟨hn'.1, sW h hn'.2.1 (hb.imp id (Or.imp id fun hb hc => hb (List.mem_append.2 (.inr hc)))), fun a ha c hc hac => ?_⟩
  rcases rR h c hc with ⟨hg, rfl⟩ | hc
  ·rcases hb with hb | ⟨hge, hb⟩ | hb
   ·rw [hg] at hb; cases hb
   ·exact hn'.2.2 a ha e.b (yJ h hge) (hb ▸ hac)
   ·exact hb (List.mem_append.2 (.inl (hac ▸ ha)))
  ·exact hn'.2.2 a ha c hc hac
 | [], _, _, _, _, h, _, _ => by simp [ent] at h
theorem oZ : ∀ (bl : List (List eD)) (l : Nat) (e' : eD) (b : Nat), b ∈ blks (iG bl l e') → (e'.gone = false ∧ b = e'.b) ∨ b ∈ blks bl
 | fr :: r, 0, e', b, hb => by
  simp only [iG, aX, List.mem_append, mq] at hb ⊢
  rcases hb with (hb | hb) | hb
  ·exact .inr (.inl hb)
  ·obtain ⟨x, hx, hg, rfl⟩ := eG.1 hb
   simp only [List.mem_singleton] at hx
   subst hx
   exact .inl ⟨hg, rfl⟩
  ·exact .inr (.inr hb)
 | fr :: r, l + 1, e', b, hb => by
  simp only [iG, aX, List.mem_append] at hb ⊢
  rcases hb with hb | hb
  ·exact .inr (.inl hb)
  ·rcases oZ r l e' b hb with hb | hb
   ·exact .inl hb
   ·exact .inr (.inr hb)
 | [], _, _, _, hb => by simp [iG, blks, gT] at hb
theorem sZ : ∀ (bl : List (List eD)) (l : Nat) (e' : eD), (blks bl).Nodup → (e'.gone = true ∨ e'.b ∉ blks bl) → (blks (iG bl l e')).Nodup
 | fr :: r, 0, e', hn, hb => by
  rw [aX] at hn hb
  simp only [iG, aX, mq]
  have hn' := List.nodup_append.1 hn
  have h1 : ∀ c, c ∈ gT [e'] → e'.gone = false ∧ c = e'.b := fun c hc => by
   obtain ⟨x, hx, hg, rfl⟩ := eG.1 hc
   simp only [List.mem_singleton] at hx
   subst hx; exact ⟨hg, rfl⟩
  have hno : ∀ c, c ∈ gT [e'] → c ∉ gT fr ++ blks r := fun c hc hm => by
   obtain ⟨hg, rfl⟩ := h1 c hc
   rcases hb with hb | hb
   ·rw [hg] at hb; cases hb
   ·exact hb hm
  refine List.nodup_append.2 ⟨List.nodup_append.2 ⟨hn'.1, by rw [gP]; cases e'.gone <;> simp [gT], fun a ha c hc hac => ?_⟩, hn'.2.1, fun a ha c hc hac => ?_⟩
  ·exact hno c hc (List.mem_append.2 (.inl (hac ▸ ha)))
  ·rcases List.mem_append.1 ha with ha | ha
   ·exact hn'.2.2 a ha c hc hac
   ·exact hno a ha (List.mem_append.2 (.inr (hac ▸ hc)))
 | fr :: r, l + 1, e', hn, hb => by
  rw [aX] at hn hb
  simp only [iG, aX]
  have hn' := List.nodup_append.1 hn
  refine List.nodup_append.2 ⟨hn'.1, sZ r l e' hn'.2.1 (hb.imp id fun hb hc => hb (List.mem_append.2 (.inr hc))), fun a ha c hc hac => ?_⟩
  rcases oZ r l e' c hc with ⟨hg, rfl⟩ | hc
  ·rcases hb with hb | hb
   ·rw [hg] at hb; cases hb
   ·exact hb (List.mem_append.2 (.inl (hac ▸ ha)))
  ·exact hn'.2.2 a ha c hc hac
 | [], _, _, hn, _ => by simpa [iG] using hn
end Go.X
