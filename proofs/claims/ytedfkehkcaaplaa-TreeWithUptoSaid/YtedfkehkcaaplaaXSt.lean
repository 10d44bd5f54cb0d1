/- The store of objects against the heap. -/
import Derived.Test.YtedfkehkcaaplaaXRel
namespace Go.X
open Go
set_option linter.unusedSectionVars false
variable [fq]
def gT (kk : KK) (bl : List (List eT)) (cl : Nat → Nat) (w : World) : List (PV × PV) → List MapEntry → Prop
 | [], es => es = []
 | x :: r, es => ∃ e s, es = e :: s ∧ jC kk x.1 = true ∧ ak bl cl w x.1 e.key ∧ ak bl cl w x.2 e.val ∧ Sw x.2 = true ∧ gT kk bl cl w r s
theorem gT.keep {kk : KK} {bl qm : List (List eT)} {cl cl' : Nat → Nat} {w w' : World} (hk : Keeps cl w cl' w') (he : dO bl qm) :
  ∀ (l : List (PV × PV)) (es : List MapEntry), gT kk bl cl w l es → gT kk qm cl' w' l es
 | [], es, h => h
 | x :: r, es, h => by
  simp only [gT] at h ⊢
  obtain ⟨e, s, h1, h2, h3, h4, h5, h6⟩ := h
  exact ⟨e, s, h1, h2, h3.keep hk he, h4.keep hk he, h5, gT.keep hk he r s h6⟩
def Uj : Option Ex → Loop → Prop
 | none, r => r.state = .ready ∧ r.pending = none
 | some .normal, r => r.state = .busy
 | some .ret, r => r.state = .done ∧ r.pending = some .ret
 | some (.exit id), r => r.state = .done ∧ r.pending = some (.exit id)
def Sz (site : Nat) (r : Loop) : Prop := ∃ q, fq.site site = some q ∧ r.params = q.ps.toArray ∧ r.assign = q.RX ∧ r.body = q.body ∧ q.n ≤ r.tmps.size
def bC (bl : List (List eT)) (cl : Nat → Nat) (w : World) : Obj → eT → Prop
 | .box ty cells, e => e.sz = 0 ∧ cl e.b = 0 ∧ ∃ vs : List Value, w.heap[e.b]? = some (.cells vs.toArray ty (0, 0)) ∧ aI bl cl w cells vs
 | .row ty sz rows mt cap, e => 0 < sz ∧ e.sz = sz ∧ e.len = rows.length ∧ rows.length ≤ e.cap ∧ (∀ c, cap = some c → c = (e.cap : Int)) ∧
   (e.gone = false → (∃ cs : Array Value, w.heap[e.b]? = some (.cells cs ty (0, 0)) ∧ e.cap * sz ≤ cs.size) ∧ bS cl w e.b 0 sz rows ∧ cl e.b = (bif mt then 0 else rows.length * sz))
 | .void, e => e.gone = true
 | .loop site ρ p, e => e.sz = 0 ∧ cl e.b = 0 ∧ ∃ r : Loop, w.heap[e.b]? = some (.loop r) ∧ Sz site r ∧ Uj p r ∧ ∀ t, ak bl cl w (mI ρ t) (r.tmps.getD t undef)
 | .map kk fl es, e => e.sz = 0 ∧ cl e.b = 0 ∧ (fl = true → sN es = true) ∧ ∃ (ents : Array MapEntry) (clock : Nat), w.heap[e.b]? = some (.map ents clock) ∧ gT kk bl cl w es ents.toList
def fM (bl : List (List eT)) (cl : Nat → Nat) (w : World) : List Obj → List eT → Prop
 | [], es => es = []
 | o :: r, es => ∃ e s, es = e :: s ∧ bC bl cl w o e ∧ fM bl cl w r s
def fI (cl : Nat → Nat) (w : World) : St → List (List eT) → Prop
 | [], bl => bl = []
 | fr :: st, bl => ∃ es r, bl = es :: r ∧ fM (es :: r) cl w fr es ∧ fI cl w st r
def iq (es : List eT) : List Nat := (es.filter fun e => !e.gone).map (·.b)
def blks (bl : List (List eT)) : List Nat := iq bl.flatten
theorem eX {es : List eT} {b : Nat} : b ∈ iq es ↔ ∃ e ∈ es, e.gone = false ∧ e.b = b := by
 simp [iq, and_assoc]
theorem pX (a b : List eT) : iq (a ++ b) = iq a ++ iq b := by simp [iq]
theorem iV (e : eT) (r : List eT) : iq (e :: r) = (bif e.gone then iq r else e.b :: iq r) := by
 simp only [iq, List.filter_cons]
 cases e.gone <;> rfl
theorem sU {e : eT} (h : e.sz = 0) : e.gone = false := by simp [eT.gone, h, Nat.blt, Nat.ble]
theorem pY {e : eT} (h : 0 < e.cap) : e.gone = false := by
 have : Nat.beq e.cap 0 = false := by
  cases hb : Nat.beq e.cap 0 with
  | false => rfl
  | true => have := Nat.eq_of_beq_eq_true hb; omega
 simp [eT.gone, this]
theorem Xw {e : eT} (h : e.gone = true) : e.cap = 0 ∧ 0 < e.sz := by
 simp only [eT.gone, Bool.and_eq_true] at h
 exact ⟨Nat.eq_of_beq_eq_true h.2, Nat.le_of_ble_eq_true h.1⟩
theorem om {e : eT} (h : e.cap = 0) (h2 : 0 < e.sz) : e.gone = true := by
 cases hb : e.gone with
 | true => rfl
 | false =>
  simp only [eT.gone, h, Bool.and_eq_false_iff] at hb
  rcases hb with hb | hb
  ·have : Nat.blt 0 e.sz = true := Nat.ble_eq_true_of_le h2
   rw [this] at hb; cases hb
  ·cases hb
def csize (w : World) (b : Nat) : Nat := match w.heap[b]? with | some (.cells c _ _) => c.size | _ => 0
def wm (bl : List (List eT)) (w : World) : Prop := ∀ q ∈ fq.glob, (∃ t fr, w.heap[q.1]? = some (.cells q.2 t fr)) ∧ q.1 ∉ blks bl
theorem wm.lt {bl : List (List eT)} {w : World} (h : wm bl w) : ∀ q ∈ fq.glob, q.1 < w.heap.size := fun q hq => by
 obtain ⟨⟨_, _, h1⟩, _⟩ := h q hq
 exact (Array.getElem?_eq_some_iff.1 h1).1
theorem wm.step {bl qm : List (List eT)} {w w' : World} (h : wm bl w) (hk : ∀ b, b < w.heap.size → b ∉ blks bl → w'.heap[b]? = w.heap[b]?) (hn : ∀ b ∈ blks qm, b ∈ blks bl ∨ w.heap.size ≤ b) : wm qm w' := fun q hq => by
 obtain ⟨⟨t, fr, h1⟩, h2⟩ := h q hq
 exact ⟨⟨t, fr, (hk _ (h.lt q hq) h2).trans h1⟩, fun hb => (hn _ hb).elim h2 fun h3 => by have := h.lt q hq; omega⟩
theorem wm.sub {bl qm : List (List eT)} {w : World} (h : wm bl w) (hn : ∀ b ∈ blks qm, b ∈ blks bl) : wm qm w := h.step (fun _ _ _ => rfl) fun b hb => .inl (hn b hb)
structure bI (m : Mt) (st : St) (w : World) : Prop where
 st : fI m.cl w st m.blk
 nodup : (blks m.blk).Nodup
 le : ∀ b, m.cl b ≤ csize w b
 glob : wm m.blk w
def jq : List (List eT) → Nat → Nat → eT → List (List eT)
 | fr :: r, 0, i, e => fr.set i e :: r
 | fr :: r, l + 1, i, e => fr :: jq r l i e
 | [], _, _, _ => []
def jW : List (List eT) → Nat → eT → List (List eT)
 | fr :: r, 0, e => (fr ++ [e]) :: r
 | fr :: r, l + 1, e => fr :: jW r l e
 | [], _, _ => []
def rW : List (List eT) → Nat → List (List eT)
 | bl, 0 => bl
 | _ :: r, l + 1 => rW r l
 | [], _ + 1 => []
theorem aC (fr : List eT) (r : List (List eT)) : blks (fr :: r) = iq fr ++ blks r := by simp [blks, pX]
theorem E5 : ∀ {bl : List (List eT)} {l i : Nat} {e : eT}, ent bl l i = some e → e.gone = false → e.b ∈ blks bl
 | fr :: r, 0, i, e, h, hg => by
  simp only [ent] at h
  rw [aC]
  exact List.mem_append.2 (.inl (eX.2 ⟨e, List.mem_of_getElem? h, hg, rfl⟩))
 | fr :: r, l + 1, i, e, h, hg => by
  simp only [ent] at h
  rw [aC]
  exact List.mem_append.2 (.inr (E5 h hg))
 | [], _, _, _, h, _ => by simp [ent] at h
theorem fM.at_ {bl : List (List eT)} {cl : Nat → Nat} {w : World} : ∀ {fr : List Obj} {es : List eT} {i : Nat} {o : Obj}, fM bl cl w fr es → fr[i]? = some o → ∃ e, es[i]? = some e ∧ bC bl cl w o e
 | [], _, _, _, _, h => by simp at h
 | x :: r, es, 0, o, hO, h => by
  simp only [fM] at hO
  obtain ⟨e, s, rfl, h1, _⟩ := hO
  simp at h; subst h
  exact ⟨e, by simp, h1⟩
 | x :: r, es, i + 1, o, hO, h => by
  simp only [fM] at hO
  obtain ⟨e, s, rfl, _, h2⟩ := hO
  simp at h
  obtain ⟨e', h3, h4⟩ := h2.at_ h
  exact ⟨e', by simpa using h3, h4⟩
theorem fI.mW {cl : Nat → Nat} {w : World} : ∀ {st : St} {bl : List (List eT)} {l i : Nat} {o : Obj}, fI cl w st bl → look st l i = some o → ∃ e, ent bl l i = some e ∧ bC (rW bl l) cl w o e
 | fr :: st, bl, 0, i, o, h, hl => by
  simp only [fI] at h
  obtain ⟨es, r, rfl, h1, _⟩ := h
  simp only [look] at hl
  obtain ⟨e, h2, h3⟩ := h1.at_ hl
  exact ⟨e, by simpa [ent] using h2, by simpa [rW] using h3⟩
 | fr :: st, bl, l + 1, i, o, h, hl => by
  simp only [fI] at h
  obtain ⟨es, r, rfl, _, h2⟩ := h
  simp only [look] at hl
  obtain ⟨e, h3, h4⟩ := h2.mW hl
  exact ⟨e, by simpa [ent] using h3, by simpa [rW] using h4⟩
 | [], _, _, _, _, _, hl => by simp [look] at hl
theorem fM.length {bl : List (List eT)} {cl : Nat → Nat} {w : World} : ∀ {fr : List Obj} {es : List eT}, fM bl cl w fr es → es.length = fr.length
 | [], es, h => by simp only [fM] at h; subst h; rfl
 | x :: r, es, h => by
  simp only [fM] at h
  obtain ⟨e, s, rfl, _, h2⟩ := h
  simp [h2.length]
theorem fI.length {cl : Nat → Nat} {w : World} : ∀ {st : St} {bl : List (List eT)}, fI cl w st bl → bl.length = st.length
 | [], bl, h => by simp only [fI] at h; subst h; rfl
 | fr :: st, bl, h => by
  simp only [fI] at h
  obtain ⟨es, r, rfl, _, h2⟩ := h
  simp [h2.length]
theorem dO.tail {a b : List eT} {r s : List (List eT)} (h : dO (a :: r) (b :: s)) : dO r s :=
 ⟨by simpa using h.1, fun l i e he => by simpa [ent] using h.2 (l + 1) i e (by simpa [ent] using he)⟩
theorem dO.rW : ∀ {bl qm : List (List eT)} (l : Nat), dO bl qm → dO (rW bl l) (rW qm l)
 | bl, qm, 0, h => by simpa [Go.X.rW] using h
 | a :: r, b :: s, l + 1, h => by simpa [Go.X.rW] using (h.tail).rW l
 | [], [], l + 1, h => by simpa [Go.X.rW] using h
 | [], b :: s, l + 1, h => by have := h.1; simp at this
 | a :: r, [], l + 1, h => by have := h.1; simp at this
section
variable {cl cl' : Nat → Nat} {w w' : World} (hk : Keeps cl w cl' w')
include hk
theorem bC.keep {bl qm : List (List eT)} (he : dO bl qm) {o : Obj} {e : eT} (hhc : e.gone = false → w'.heap[e.b]? = w.heap[e.b]? ∧ cl' e.b = cl e.b) (h : bC bl cl w o e) : bC qm cl' w' o e := by
 cases o with
 | box ty cells =>
  simp only [bC] at h ⊢
  obtain ⟨h1, h2, vs, h3, h4⟩ := h
  obtain ⟨hh, hc⟩ := hhc (sU h1)
  exact ⟨h1, hc.trans h2, vs, hh.trans h3, h4.keep hk he⟩
 | row ty sz rows mt cap =>
  simp only [bC] at h ⊢
  obtain ⟨h1, h2, h3, h4, h5, h⟩ := h
  refine ⟨h1, h2, h3, h4, h5, fun hg => ?_⟩
  obtain ⟨⟨cs, h6, h6'⟩, h7, h8⟩ := h hg
  obtain ⟨hh, hc⟩ := hhc hg
  refine ⟨⟨cs, hh.trans h6, h6'⟩, ?_, hc.trans h8⟩
  cases mt with
  | false => exact bS.keep hk rows e.b 0 sz (by simp at h8; omega) h7
  | true =>
   have hcell : ∀ j, w'.cell? ⟨e.b, j, none⟩ = w.cell? ⟨e.b, j, none⟩ := fun j => World.cell?_of_block hh
   have hall : ∀ (l : List D) (o : Nat), bM cl w e.b o l → bM cl' w' e.b o l := by
    intro l
    induction l with
    | nil => intro o _; simp only [bM]
    | cons d r ih =>
     intro o h
     simp only [bM] at h ⊢
     obtain ⟨⟨v, g1, g2⟩, g3⟩ := h
     exact ⟨⟨v, (hcell o).trans g1, bT.keep hk d v g2⟩, ih _ g3⟩
   have hrows : ∀ (l : List (List D)) (o : Nat), bS cl w e.b o sz l → bS cl' w' e.b o sz l := by
    intro l
    induction l with
    | nil => intro o _; simp only [bS]
    | cons r rs ih =>
     intro o h
     simp only [bS] at h ⊢
     exact ⟨h.1, hall r o h.2.1, ih _ h.2.2⟩
   exact hrows rows 0 h7
 | void => simpa only [bC] using h
 | loop site ρ p =>
  simp only [bC] at h ⊢
  obtain ⟨h1, h2, r, h3, h4, h5, h6⟩ := h
  obtain ⟨hh, hc⟩ := hhc (sU h1)
  exact ⟨h1, hc.trans h2, r, hh.trans h3, h4, h5, fun t => (h6 t).keep hk he⟩
 | map es =>
  simp only [bC] at h ⊢
  obtain ⟨h1, h2, hf, ents, clock, h3, h4⟩ := h
  obtain ⟨hh, hc⟩ := hhc (sU h1)
  exact ⟨h1, hc.trans h2, hf, ents, clock, hh.trans h3, h4.keep hk he⟩
theorem fM.keep {bl qm : List (List eT)} (he : dO bl qm) : ∀ {fr : List Obj} {es : List eT}, (∀ e ∈ es, e.gone = false → w'.heap[e.b]? = w.heap[e.b]? ∧ cl' e.b = cl e.b) → fM bl cl w fr es → fM qm cl' w' fr es
 | [], es, _, h => by simpa only [fM] using h
 | o :: r, es, hs, h => by
  simp only [fM] at h ⊢
  obtain ⟨e, s, rfl, h1, h2⟩ := h
  exact ⟨e, s, rfl, h1.keep hk he (hs e (by simp)), fM.keep he (fun x hx => hs x (by simp [hx])) h2⟩
theorem fI.keep : ∀ {st : St} {bl : List (List eT)}, (∀ b ∈ blks bl, w'.heap[b]? = w.heap[b]? ∧ cl' b = cl b) → fI cl w st bl → fI cl' w' st bl
 | [], bl, _, h => by simpa only [fI] using h
 | fr :: st, bl, hs, h => by
  simp only [fI] at h ⊢
  obtain ⟨es, r, rfl, h1, h2⟩ := h
  refine ⟨es, r, rfl, h1.keep hk (dO.refl _) (fun e he hg => hs e.b ?_), fI.keep (fun b hb => hs b ?_) h2⟩
  ·rw [aC]; exact List.mem_append.2 (.inl (eX.2 ⟨e, he, hg, rfl⟩))
  ·rw [aC]; exact List.mem_append.2 (.inr hb)
theorem fM.NH {bl qm : List (List eT)} (he : dO bl qm) {o' : Obj} {e e' : eT} (ho : bC qm cl' w' o' e') : ∀ {fr : List Obj} {es : List eT} {i : Nat}, es[i]? = some e → (iq es).Nodup →
  (∀ x ∈ es, x.gone = false → (e.gone = false → x.b ≠ e.b) → w'.heap[x.b]? = w.heap[x.b]? ∧ cl' x.b = cl x.b) → fM bl cl w fr es → fM qm cl' w' (fr.set i o') (es.set i e')
 | [], es, i, h1, _, _, h => by simp only [fM] at h; subst h; simp at h1
 | o :: r, es, 0, h1, hn, hs, h => by
  simp only [fM] at h
  obtain ⟨e0, s, rfl, _, h3⟩ := h
  simp at h1; subst h1
  simp only [List.set_cons_zero, fM]
  refine ⟨e', s, rfl, ho, h3.keep hk he fun x hx hg => hs x (by simp [hx]) hg fun hg0 hb => ?_⟩
  rw [iV, hg0, cond_false, List.nodup_cons] at hn
  exact hn.1 (hb ▸ eX.2 ⟨x, hx, hg, rfl⟩)
 | o :: r, es, i + 1, h1, hn, hs, h => by
  simp only [fM] at h
  obtain ⟨e0, s, rfl, h2, h3⟩ := h
  simp at h1
  rw [iV] at hn
  simp only [List.set_cons_succ, fM]
  have hne : e0.gone = false → e.gone = false → e0.b ≠ e.b := fun hg0 hg hb => by
   rw [hg0, cond_false, List.nodup_cons] at hn
   exact hn.1 (hb ▸ eX.2 ⟨e, List.mem_of_getElem? h1, hg, rfl⟩)
  have hn' : (iq s).Nodup := by
   cases hg : e0.gone with
   | true => rw [hg] at hn; exact hn
   | false => rw [hg, cond_false, List.nodup_cons] at hn; exact hn.2
  exact ⟨e0, _, rfl, h2.keep hk he (fun hg => hs e0 (by simp) hg (hne hg)), fM.NH he ho h1 hn' (fun x hx => hs x (by simp [hx])) h3⟩
theorem fM.Xx {bl qm : List (List eT)} (he : dO bl qm) {o' : Obj} {e' : eT} (ho : bC qm cl' w' o' e') : ∀ {fr : List Obj} {es : List eT},
  (∀ x ∈ es, x.gone = false → w'.heap[x.b]? = w.heap[x.b]? ∧ cl' x.b = cl x.b) → fM bl cl w fr es → fM qm cl' w' (fr ++ [o']) (es ++ [e'])
 | [], es, _, h => by simp only [fM] at h; subst h; simp only [List.nil_append, fM]; exact ⟨e', [], rfl, ho, rfl⟩
 | o :: r, es, hs, h => by
  simp only [fM] at h
  obtain ⟨e0, s, rfl, h2, h3⟩ := h
  simp only [List.cons_append, fM]
  exact ⟨e0, _, rfl, h2.keep hk he (hs e0 (by simp)), fM.Xx he ho (fun x hx => hs x (by simp [hx])) h3⟩
end
theorem oV : ∀ {bl : List (List eT)} {l i : Nat} {e e' : eT}, ent bl l i = some e → ent (jq bl l i e') l i = some e'
 | fr :: r, 0, i, e, e', h => by
  simp only [ent] at h
  simp only [jq, ent]
  exact List.getElem?_set_self (List.getElem?_eq_some_iff.1 h).1
 | fr :: r, l + 1, i, e, e', h => by simp only [ent] at h; simpa [jq, ent] using oV h
 | [], _, _, _, _, h => by simp [ent] at h
theorem C9 : ∀ {bl : List (List eT)} {l i l' i' : Nat} {e' : eT}, (l' ≠ l ∨ i' ≠ i) → ent (jq bl l i e') l' i' = ent bl l' i'
 | fr :: r, 0, i, 0, i', e', h => by
  simp only [jq, ent]
  exact List.getElem?_set_ne (by omega)
 | fr :: r, 0, i, l' + 1, i', e', h => by simp [jq, ent]
 | fr :: r, l + 1, i, 0, i', e', h => by simp [jq, ent]
 | fr :: r, l + 1, i, l' + 1, i', e', h => by
  simp only [jq, ent]
  exact C9 (by omega)
 | [], _, _, _, _, _, _ => by simp [jq]
theorem LC : ∀ (bl : List (List eT)) (l i : Nat) (e' : eT), (jq bl l i e').length = bl.length
 | fr :: r, 0, i, e' => by simp [jq]
 | fr :: r, l + 1, i, e' => by simp [jq, LC r l i e']
 | [], _, _, _ => by simp [jq]
theorem dO.jq {bl : List (List eT)} {l i : Nat} {e e' : eT} (h : ent bl l i = some e) (he : nM e e') : dO bl (jq bl l i e') :=
 ⟨LC _ _ _ _, fun l' i' x hx => by
  by_cases hc : l' = l ∧ i' = i
  ·obtain ⟨rfl, rfl⟩ := hc
   rw [h] at hx; cases hx
   exact ⟨e', oV h, he⟩
  ·exact ⟨x, by rw [C9 (by omega)]; exact hx, nM.refl x⟩⟩
theorem LD : ∀ (bl : List (List eT)) (l : Nat) (e' : eT), (jW bl l e').length = bl.length
 | fr :: r, 0, e' => by simp [jW]
 | fr :: r, l + 1, e' => by simp [jW, LD r l e']
 | [], _, _ => by simp [jW]
theorem Ig : ∀ {bl : List (List eT)} {l l' i' : Nat} {e' x : eT}, ent bl l' i' = some x → ent (jW bl l e') l' i' = some x
 | fr :: r, 0, 0, i', e', x, h => by
  simp only [ent] at h
  simp only [jW, ent]
  rw [List.getElem?_append_left (List.getElem?_eq_some_iff.1 h).1]; exact h
 | fr :: r, 0, l' + 1, i', e', x, h => by simpa [jW, ent] using h
 | fr :: r, l + 1, 0, i', e', x, h => by simpa [jW, ent] using h
 | fr :: r, l + 1, l' + 1, i', e', x, h => by simp only [ent] at h; simpa [jW, ent] using Ig h
 | [], _, _, _, _, _, h => by simp [ent] at h
theorem dO.jW (bl : List (List eT)) (l : Nat) (e' : eT) : dO bl (jW bl l e') :=
 ⟨LD _ _ _, fun _ _ x hx => ⟨x, Ig hx, nM.refl x⟩⟩
theorem uN {cl : Nat → Nat} {w : World} : ∀ {st : St} {bl : List (List eT)} {l : Nat} {e' : eT}, fI cl w st bl → l < st.length → ent (jW bl l e') l (fE st l) = some e'
 | fr :: st, bl, 0, e', h, _ => by
  simp only [fI] at h
  obtain ⟨es, r, rfl, h1, _⟩ := h
  simp only [jW, ent, fE, ← h1.length]
  simp
 | fr :: st, bl, l + 1, e', h, hl => by
  simp only [fI] at h
  obtain ⟨es, r, rfl, _, h2⟩ := h
  simp only [jW, ent, fE]
  exact uN h2 (by simpa using hl)
 | [], _, _, _, _, hl => by simp at hl
section
variable {cl cl' : Nat → Nat} {w w' : World} (hk : Keeps cl w cl' w')
include hk
theorem fI.NH : ∀ {st : St} {bl : List (List eT)} {l i : Nat} {o' : Obj} {e e' : eT}, ent bl l i = some e → nM e e' → bC (rW (jq bl l i e') l) cl' w' o' e' → (blks bl).Nodup →
  (∀ b ∈ blks bl, (e.gone = false → b ≠ e.b) → w'.heap[b]? = w.heap[b]? ∧ cl' b = cl b) → fI cl w st bl → fI cl' w' (dU st l i o') (jq bl l i e')
 | fr :: st, bl, 0, i, o', e, e', h1, hle, ho, hn, hs, h => by
  simp only [fI] at h
  obtain ⟨es, r, rfl, h2, h3⟩ := h
  have hE : dO (es :: r) (es.set i e' :: r) := by simpa [Go.X.jq] using dO.jq h1 hle
  simp only [ent] at h1
  rw [aC] at hn
  have hn' := List.nodup_append.1 hn
  simp only [dU, Go.X.jq, fI]
  refine ⟨es.set i e', r, rfl, h2.NH hk hE (by simpa [Go.X.jq, rW] using ho) h1 hn'.1 (fun x hx hg hb => hs x.b ?_ hb), h3.keep hk fun b hb => hs b ?_ ?_⟩
  ·rw [aC]; exact List.mem_append.2 (.inl (eX.2 ⟨x, hx, hg, rfl⟩))
  ·rw [aC]; exact List.mem_append.2 (.inr hb)
  ·exact fun hg hb' => hn'.2.2 e.b (eX.2 ⟨e, List.mem_of_getElem? h1, hg, rfl⟩) b hb hb'.symm
 | fr :: st, bl, l + 1, i, o', e, e', h1, hle, ho, hn, hs, h => by
  simp only [fI] at h
  obtain ⟨es, r, rfl, h2, h3⟩ := h
  have hE : dO (es :: r) (es :: jq r l i e') := by simpa [Go.X.jq] using dO.jq h1 hle
  simp only [ent] at h1
  rw [aC] at hn
  have hn' := List.nodup_append.1 hn
  simp only [dU, Go.X.jq, fI]
  have hr : ∀ b ∈ blks r, b ∈ blks (es :: r) := fun b hb => by rw [aC]; exact List.mem_append.2 (.inr hb)
  refine ⟨es, jq r l i e', rfl, h2.keep hk hE (fun x hx hg => hs x.b ?_ ?_), h3.NH h1 hle (by simpa [Go.X.jq, rW] using ho) hn'.2.1 fun b hb hne => hs b (hr b hb) hne⟩
  ·rw [aC]; exact List.mem_append.2 (.inl (eX.2 ⟨x, hx, hg, rfl⟩))
  ·exact fun hg' hb => hn'.2.2 x.b (eX.2 ⟨x, hx, hg, rfl⟩) e.b (E5 h1 hg') hb
 | [], bl, _, _, _, _, _, h1, _, _, _, _, h => by simp only [fI] at h; subst h; simp [ent] at h1
theorem fI.Xx : ∀ {st : St} {bl : List (List eT)} {l : Nat} {o' : Obj} {e' : eT}, bC (rW (jW bl l e') l) cl' w' o' e' → l < st.length →
  (∀ b ∈ blks bl, w'.heap[b]? = w.heap[b]? ∧ cl' b = cl b) → fI cl w st bl → fI cl' w' (mU st l o') (jW bl l e')
 | fr :: st, bl, 0, o', e', ho, _, hs, h => by
  simp only [fI] at h
  obtain ⟨es, r, rfl, h2, h3⟩ := h
  have hE : dO (es :: r) ((es ++ [e']) :: r) := by simpa [Go.X.jW] using dO.jW (es :: r) 0 e'
  simp only [mU, Go.X.jW, fI]
  refine ⟨es ++ [e'], r, rfl, h2.Xx hk hE (by simpa [Go.X.jW, rW] using ho) (fun x hx hg => hs x.b ?_), h3.keep hk fun b hb => hs b ?_⟩
  ·rw [aC]; exact List.mem_append.2 (.inl (eX.2 ⟨x, hx, hg, rfl⟩))
  ·rw [aC]; exact List.mem_append.2 (.inr hb)
 | fr :: st, bl, l + 1, o', e', ho, hl, hs, h => by
  simp only [fI] at h
  obtain ⟨es, r, rfl, h2, h3⟩ := h
  have hE : dO (es :: r) (es :: jW r l e') := by simpa [Go.X.jW] using dO.jW (es :: r) (l + 1) e'
  simp only [mU, Go.X.jW, fI]
  refine ⟨es, jW r l e', rfl, h2.keep hk hE (fun x hx hg => hs x.b ?_), h3.Xx (by simpa [Go.X.jW, rW] using ho) (by simpa using hl) fun b hb => hs b ?_⟩
  ·rw [aC]; exact List.mem_append.2 (.inl (eX.2 ⟨x, hx, hg, rfl⟩))
  ·rw [aC]; exact List.mem_append.2 (.inr hb)
 | [], bl, _, _, _, _, hl, _, _ => by simp at hl
end
theorem zk : ∀ {bl : List (List eT)} {l i : Nat} {e e' : eT}, ent bl l i = some e → ∀ b, b ∈ blks (jq bl l i e') → (e'.gone = false ∧ b = e'.b) ∨ b ∈ blks bl
 | fr :: r, 0, i, e, e', h, b, hb => by
  simp only [jq, aC, List.mem_append] at hb ⊢
  rcases hb with hb | hb
  ·obtain ⟨x, hx, hg, rfl⟩ := eX.1 hb
   rcases List.mem_or_eq_of_mem_set hx with hx | rfl
   ·exact .inr (.inl (eX.2 ⟨x, hx, hg, rfl⟩))
   ·exact .inl ⟨hg, rfl⟩
  ·exact .inr (.inr hb)
 | fr :: r, l + 1, i, e, e', h, b, hb => by
  simp only [ent] at h
  simp only [jq, aC, List.mem_append] at hb ⊢
  rcases hb with hb | hb
  ·exact .inr (.inl hb)
  ·rcases zk h b hb with hb | hb
   ·exact .inl hb
   ·exact .inr (.inr hb)
 | [], _, _, _, _, h, _, _ => by simp [ent] at h
theorem SA : ∀ {l : List eT} {i : Nat} {e e' : eT}, l[i]? = some e → (iq l).Nodup → (e'.gone = true ∨ (e.gone = false ∧ e'.b = e.b) ∨ e'.b ∉ iq l) → (iq (l.set i e')).Nodup
 | x :: r, 0, e, e', h, hn, hb => by
  simp at h; subst h
  rw [iV] at hn
  simp only [List.set_cons_zero, iV]
  have hr : (iq r).Nodup := by
   cases hg : x.gone with
   | true => rw [hg] at hn; exact hn
   | false => rw [hg, cond_false, List.nodup_cons] at hn; exact hn.2
  cases hg' : e'.gone with
  | true => exact hr
  | false =>
   simp only [cond_false, List.nodup_cons]
   refine ⟨fun hc => ?_, hr⟩
   rcases hb with hb | ⟨hg, hb⟩ | hb
   ·rw [hg'] at hb; cases hb
   ·rw [hg, cond_false, List.nodup_cons] at hn
    exact hn.1 (hb ▸ hc)
   ·rw [iV] at hb
    cases hg : x.gone with
    | true => rw [hg] at hb; exact hb hc
    | false => rw [hg] at hb; exact hb (by simp [hc])
 | x :: r, i + 1, e, e', h, hn, hb => by
  simp at h
  rw [iV] at hn
  simp only [List.set_cons_succ, iV]
  have hr : (iq r).Nodup := by
   cases hg : x.gone with
   | true => rw [hg] at hn; exact hn
   | false => rw [hg, cond_false, List.nodup_cons] at hn; exact hn.2
  have hb' : e'.gone = true ∨ (e.gone = false ∧ e'.b = e.b) ∨ e'.b ∉ iq r := by
   rcases hb with hb | hb | hb
   ·exact .inl hb
   ·exact .inr (.inl hb)
   ·refine .inr (.inr fun hc => hb ?_)
    rw [iV]
    cases x.gone <;> simp [hc]
  have ih := SA h hr hb'
  cases hg : x.gone with
  | true => exact ih
  | false =>
   rw [hg, cond_false, List.nodup_cons] at hn
   simp only [cond_false, List.nodup_cons]
   refine ⟨fun hc => ?_, ih⟩
   obtain ⟨y, hy, hyg, hyb⟩ := eX.1 hc
   rcases List.mem_or_eq_of_mem_set hy with hy | rfl
   ·exact hn.1 (eX.2 ⟨y, hy, hyg, hyb⟩)
   ·rcases hb with hb | ⟨hge, hb⟩ | hb
    ·rw [hyg] at hb; cases hb
    ·exact hn.1 (eX.2 ⟨e, List.mem_of_getElem? h, hge, hb ▸ hyb⟩)
    ·exact hb (by rw [iV, hg]; simp [hyb])
 | [], _, _, _, h, _, _ => by simp at h
theorem zZ : ∀ {bl : List (List eT)} {l i : Nat} {e e' : eT}, ent bl l i = some e → (blks bl).Nodup → (e'.gone = true ∨ (e.gone = false ∧ e'.b = e.b) ∨ e'.b ∉ blks bl) → (blks (jq bl l i e')).Nodup
 | fr :: r, 0, i, e, e', h, hn, hb => by
  simp only [ent] at h
  rw [aC] at hn hb
  simp only [jq, aC]
  have hn' := List.nodup_append.1 hn
  refine List.nodup_append.2 ⟨SA h hn'.1 (hb.imp id (Or.imp id fun hb hc => hb (List.mem_append.2 (.inl hc)))), hn'.2.1, fun a ha c hc hac => ?_⟩
  obtain ⟨y, hy, hyg, rfl⟩ := eX.1 ha
  rcases List.mem_or_eq_of_mem_set hy with hy | rfl
  ·exact hn'.2.2 y.b (eX.2 ⟨y, hy, hyg, rfl⟩) c hc hac
  ·rcases hb with hb | ⟨hge, hb⟩ | hb
   ·rw [hyg] at hb; cases hb
   ·exact hn'.2.2 e.b (eX.2 ⟨e, List.mem_of_getElem? h, hge, rfl⟩) c hc (hb ▸ hac)
   ·exact hb (List.mem_append.2 (.inr (hac ▸ hc)))
 | fr :: r, l + 1, i, e, e', h, hn, hb => by
  simp only [ent] at h
  rw [aC] at hn hb
  simp only [jq, aC]
  have hn' := List.nodup_append.1 hn
  refine List.nodup_append.2 ⟨hn'.1, zZ h hn'.2.1 (hb.imp id (Or.imp id fun hb hc => hb (List.mem_append.2 (.inr hc)))), fun a ha c hc hac => ?_⟩
  rcases zk h c hc with ⟨hg, rfl⟩ | hc
  ·rcases hb with hb | ⟨hge, hb⟩ | hb
   ·rw [hg] at hb; cases hb
   ·exact hn'.2.2 a ha e.b (E5 h hge) (hb ▸ hac)
   ·exact hb (List.mem_append.2 (.inl (hac ▸ ha)))
  ·exact hn'.2.2 a ha c hc hac
 | [], _, _, _, _, h, _, _ => by simp [ent] at h
theorem vQ : ∀ (bl : List (List eT)) (l : Nat) (e' : eT) (b : Nat), b ∈ blks (jW bl l e') → (e'.gone = false ∧ b = e'.b) ∨ b ∈ blks bl
 | fr :: r, 0, e', b, hb => by
  simp only [jW, aC, List.mem_append, pX] at hb ⊢
  rcases hb with (hb | hb) | hb
  ·exact .inr (.inl hb)
  ·obtain ⟨x, hx, hg, rfl⟩ := eX.1 hb
   simp only [List.mem_singleton] at hx
   subst hx
   exact .inl ⟨hg, rfl⟩
  ·exact .inr (.inr hb)
 | fr :: r, l + 1, e', b, hb => by
  simp only [jW, aC, List.mem_append] at hb ⊢
  rcases hb with hb | hb
  ·exact .inr (.inl hb)
  ·rcases vQ r l e' b hb with hb | hb
   ·exact .inl hb
   ·exact .inr (.inr hb)
 | [], _, _, _, hb => by simp [jW, blks, iq] at hb
theorem z8 : ∀ (bl : List (List eT)) (l : Nat) (e' : eT), (blks bl).Nodup → (e'.gone = true ∨ e'.b ∉ blks bl) → (blks (jW bl l e')).Nodup
 | fr :: r, 0, e', hn, hb => by
  rw [aC] at hn hb
  simp only [jW, aC, pX]
  have hn' := List.nodup_append.1 hn
  have h1 : ∀ c, c ∈ iq [e'] → e'.gone = false ∧ c = e'.b := fun c hc => by
   obtain ⟨x, hx, hg, rfl⟩ := eX.1 hc
   simp only [List.mem_singleton] at hx
   subst hx; exact ⟨hg, rfl⟩
  have hno : ∀ c, c ∈ iq [e'] → c ∉ iq fr ++ blks r := fun c hc hm => by
   obtain ⟨hg, rfl⟩ := h1 c hc
   rcases hb with hb | hb
   ·rw [hg] at hb; cases hb
   ·exact hb hm
  refine List.nodup_append.2 ⟨List.nodup_append.2 ⟨hn'.1, by rw [iV]; cases e'.gone <;> simp [iq], fun a ha c hc hac => ?_⟩, hn'.2.1, fun a ha c hc hac => ?_⟩
  ·exact hno c hc (List.mem_append.2 (.inl (hac ▸ ha)))
  ·rcases List.mem_append.1 ha with ha | ha
   ·exact hn'.2.2 a ha c hc hac
   ·exact hno a ha (List.mem_append.2 (.inr (hac ▸ hc)))
 | fr :: r, l + 1, e', hn, hb => by
  rw [aC] at hn hb
  simp only [jW, aC]
  have hn' := List.nodup_append.1 hn
  refine List.nodup_append.2 ⟨hn'.1, z8 r l e' hn'.2.1 (hb.imp id fun hb hc => hb (List.mem_append.2 (.inr hc))), fun a ha c hc hac => ?_⟩
  rcases vQ r l e' c hc with ⟨hg, rfl⟩ | hc
  ·rcases hb with hb | hb
   ·rw [hg] at hb; cases hb
   ·exact hb (List.mem_append.2 (.inl (hac ▸ ha)))
  ·exact hn'.2.2 a ha c hc hac
 | [], _, _, hn, _ => by simpa [jW] using hn
end Go.X
