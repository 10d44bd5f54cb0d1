/- T -/
import Derived.Test.YtedfkehkcaaplaaXRel
namespace Go.X
open Go
variable [bY]
def eF (kk : KK) (bl : List (List bZ)) (cl : Nat → Nat) (w : World) : List (PV × PV) → List MapEntry → Prop
 | [], es => es = []
 | x :: r, es => ∃ e s, es = e :: s ∧ fU kk x.1 = true ∧ aj bl cl w x.1 e.key ∧ aj bl cl w x.2 e.val ∧ Fp x.2 = true ∧ eF kk bl cl w r s
theorem eF.keep {kk : KK} {bl lK : List (List bZ)} {cl cl' : Nat → Nat} {w w' : World} (hk : Keeps cl w cl' w') (he : bG bl lK) :
  ∀ (l : List (PV × PV)) (es : List MapEntry), eF kk bl cl w l es → eF kk lK cl' w' l es
 | [], es, h => h
 | x :: r, es, h => by
  simp only [eF] at h ⊢
  obtain ⟨e, s, h1, h2, h3, h4, h5, h6⟩ := h
  exact ⟨e, s, h1, h2, h3.keep hk he, h4.keep hk he, h5, eF.keep hk he r s h6⟩
def Ho : Option Ex → Loop → Prop
 | none, r => r.state = .ready ∧ r.pending = none
 | some .normal, r => r.state = .busy
 | some .ret, r => r.state = .done ∧ r.pending = some .ret
 | some (.exit id), r => r.state = .done ∧ r.pending = some (.exit id)
def Fv (site : Nat) (r : Loop) : Prop := ∃ q, bY.site site = some q ∧ r.params = q.ps.toArray ∧ r.assign = q.BS ∧ r.body = q.body ∧ q.n ≤ r.tmps.size
def aL (bl : List (List bZ)) (cl : Nat → Nat) (w : World) : Obj → bZ → Prop
 | .box ty cells, e => e.sz = 0 ∧ cl e.b = 0 ∧ ∃ vs : List Value, w.heap[e.b]? = some (.cells vs.toArray ty (0, 0)) ∧ aF bl cl w cells vs
 | .row ty sz rows mt cap, e => 0 < sz ∧ e.sz = sz ∧ e.len = rows.length ∧ rows.length ≤ e.cap ∧ (∀ c, cap = some c → c = (e.cap : Int)) ∧
   (e.gone = false → (∃ cs : Array Value, w.heap[e.b]? = some (.cells cs ty (0, 0)) ∧ e.cap * sz ≤ cs.size) ∧ aY cl w e.b 0 sz rows ∧ cl e.b = (bif mt then 0 else rows.length * sz))
 | .void, e => e.gone = true
 | .loop site ρ p, e => e.sz = 0 ∧ cl e.b = 0 ∧ ∃ r : Loop, w.heap[e.b]? = some (.loop r) ∧ Fv site r ∧ Ho p r ∧ ∀ t, aj bl cl w (gW ρ t) (r.tmps.getD t undef)
 | .map kk fl es, e => e.sz = 0 ∧ cl e.b = 0 ∧ (fl = true → ng es = true) ∧ ∃ (ents : Array MapEntry) (clock : Nat), w.heap[e.b]? = some (.map ents clock) ∧ eF kk bl cl w es ents.toList
def dN (bl : List (List bZ)) (cl : Nat → Nat) (w : World) : List Obj → List bZ → Prop
 | [], es => es = []
 | o :: r, es => ∃ e s, es = e :: s ∧ aL bl cl w o e ∧ dN bl cl w r s
def dH (cl : Nat → Nat) (w : World) : St → List (List bZ) → Prop
 | [], bl => bl = []
 | fr :: st, bl => ∃ es r, bl = es :: r ∧ dN (es :: r) cl w fr es ∧ dH cl w st r
def eX (es : List bZ) : List Nat := (es.filter fun e => !e.gone).map (·.b)
def blks (bl : List (List bZ)) : List Nat := eX bl.flatten
theorem cB {es : List bZ} {b : Nat} : b ∈ eX es ↔ ∃ e ∈ es, e.gone = false ∧ e.b = b := by
 simp [eX, and_assoc]
theorem kZ (a b : List bZ) : eX (a ++ b) = eX a ++ eX b := by simp [eX]
theorem fE (e : bZ) (r : List bZ) : eX (e :: r) = (bif e.gone then eX r else e.b :: eX r) := by
 simp only [eX, List.filter_cons]
 cases e.gone <;> rfl
theorem ku {e : bZ} (h : e.sz = 0) : e.gone = false := by simp [bZ.gone, h, Nat.blt, Nat.ble]
theorem lg {e : bZ} (h : 0 < e.cap) : e.gone = false := by
 have : Nat.beq e.cap 0 = false := by
  cases hb : Nat.beq e.cap 0 with
  | false => rfl
  | true => have := Nat.eq_of_beq_eq_true hb; omega
 simp [bZ.gone, this]
theorem Kt {e : bZ} (h : e.gone = true) : e.cap = 0 ∧ 0 < e.sz := by
 simp only [bZ.gone, Bool.and_eq_true] at h
 exact ⟨Nat.eq_of_beq_eq_true h.2, Nat.le_of_ble_eq_true h.1⟩
theorem jK {e : bZ} (h : e.cap = 0) (h2 : 0 < e.sz) : e.gone = true := by
 cases hb : e.gone with
 | true => rfl
 | false =>
  simp only [bZ.gone, h, Bool.and_eq_false_iff] at hb
  rcases hb with hb | hb
  ·have : Nat.blt 0 e.sz = true := Nat.ble_eq_true_of_le h2
   rw [this] at hb; cases hb
  ·cases hb
def csize (w : World) (b : Nat) : Nat := match w.heap[b]? with | some (.cells c _ _) => c.size | _ => 0
def oq (bl : List (List bZ)) (w : World) : Prop := ∀ q ∈ bY.glob, (∃ t fr, w.heap[q.1]? = some (.cells q.2 t fr)) ∧ q.1 ∉ blks bl
theorem oq.lt {bl : List (List bZ)} {w : World} (h : oq bl w) : ∀ q ∈ bY.glob, q.1 < w.heap.size := fun q hq => by
 obtain ⟨⟨_, _, h1⟩, _⟩ := h q hq
 exact (Array.getElem?_eq_some_iff.1 h1).1
theorem oq.step {bl lK : List (List bZ)} {w w' : World} (h : oq bl w) (hk : ∀ b, b < w.heap.size → b ∉ blks bl → w'.heap[b]? = w.heap[b]?) (hn : ∀ b ∈ blks lK, b ∈ blks bl ∨ w.heap.size ≤ b) : oq lK w' := fun q hq => by
 obtain ⟨⟨t, fr, h1⟩, h2⟩ := h q hq
 exact ⟨⟨t, fr, (hk _ (h.lt q hq) h2).trans h1⟩, fun hb => (hn _ hb).elim h2 fun h3 => by have := h.lt q hq; omega⟩
theorem oq.sub {bl lK : List (List bZ)} {w : World} (h : oq bl w) (hn : ∀ b ∈ blks lK, b ∈ blks bl) : oq lK w := h.step (fun _ _ _ => rfl) fun b hb => .inl (hn b hb)
structure aO (m : Mt) (st : St) (w : World) : Prop where
 st : dH m.cl w st m.blk
 nodup : (blks m.blk).Nodup
 le : ∀ b, m.cl b ≤ csize w b
 glob : oq m.blk w
def fO : List (List bZ) → Nat → Nat → bZ → List (List bZ)
 | fr :: r, 0, i, e => fr.set i e :: r
 | fr :: r, l + 1, i, e => fr :: fO r l i e
 | [], _, _, _ => []
def fC : List (List bZ) → Nat → bZ → List (List bZ)
 | fr :: r, 0, e => (fr ++ [e]) :: r
 | fr :: r, l + 1, e => fr :: fC r l e
 | [], _, _ => []
def mG : List (List bZ) → Nat → List (List bZ)
 | bl, 0 => bl
 | _ :: r, l + 1 => mG r l
 | [], _ + 1 => []
theorem aA (fr : List bZ) (r : List (List bZ)) : blks (fr :: r) = eX fr ++ blks r := by simp [blks, kZ]
theorem vK : ∀ {bl : List (List bZ)} {l i : Nat} {e : bZ}, ent bl l i = some e → e.gone = false → e.b ∈ blks bl
 | fr :: r, 0, i, e, h, hg => by
  simp only [ent] at h
  rw [aA]
  exact List.mem_append.2 (.inl (cB.2 ⟨e, List.mem_of_getElem? h, hg, rfl⟩))
 | fr :: r, l + 1, i, e, h, hg => by
  simp only [ent] at h
  rw [aA]
  exact List.mem_append.2 (.inr (vK h hg))
 | [], _, _, _, h, _ => by simp [ent] at h
theorem dN.at_ {bl : List (List bZ)} {cl : Nat → Nat} {w : World} : ∀ {fr : List Obj} {es : List bZ} {i : Nat} {o : Obj}, dN bl cl w fr es → fr[i]? = some o → ∃ e, es[i]? = some e ∧ aL bl cl w o e
 | [], _, _, _, _, h => by simp at h
 | x :: r, es, 0, o, hO, h => by
  simp only [dN] at hO
  obtain ⟨e, s, rfl, h1, _⟩ := hO
  simp at h; subst h
  exact ⟨e, by simp, h1⟩
 | x :: r, es, i + 1, o, hO, h => by
  simp only [dN] at hO
  obtain ⟨e, s, rfl, _, h2⟩ := hO
  simp at h
  obtain ⟨e', h3, h4⟩ := h2.at_ h
  exact ⟨e', by simpa using h3, h4⟩
theorem dH.je {cl : Nat → Nat} {w : World} : ∀ {st : St} {bl : List (List bZ)} {l i : Nat} {o : Obj}, dH cl w st bl → look st l i = some o → ∃ e, ent bl l i = some e ∧ aL (mG bl l) cl w o e
 | fr :: st, bl, 0, i, o, h, hl => by
  simp only [dH] at h
  obtain ⟨es, r, rfl, h1, _⟩ := h
  simp only [look] at hl
  obtain ⟨e, h2, h3⟩ := h1.at_ hl
  exact ⟨e, by simpa [ent] using h2, by simpa [mG] using h3⟩
 | fr :: st, bl, l + 1, i, o, h, hl => by
  simp only [dH] at h
  obtain ⟨es, r, rfl, _, h2⟩ := h
  simp only [look] at hl
  obtain ⟨e, h3, h4⟩ := h2.je hl
  exact ⟨e, by simpa [ent] using h3, by simpa [mG] using h4⟩
 | [], _, _, _, _, _, hl => by simp [look] at hl
theorem dN.length {bl : List (List bZ)} {cl : Nat → Nat} {w : World} : ∀ {fr : List Obj} {es : List bZ}, dN bl cl w fr es → es.length = fr.length
 | [], es, h => by simp only [dN] at h; subst h; rfl
 | x :: r, es, h => by
  simp only [dN] at h
  obtain ⟨e, s, rfl, _, h2⟩ := h
  simp [h2.length]
theorem dH.length {cl : Nat → Nat} {w : World} : ∀ {st : St} {bl : List (List bZ)}, dH cl w st bl → bl.length = st.length
 | [], bl, h => by simp only [dH] at h; subst h; rfl
 | fr :: st, bl, h => by
  simp only [dH] at h
  obtain ⟨es, r, rfl, _, h2⟩ := h
  simp [h2.length]
theorem bG.tail {a b : List bZ} {r s : List (List bZ)} (h : bG (a :: r) (b :: s)) : bG r s :=
 ⟨by simpa using h.1, fun l i e he => by simpa [ent] using h.2 (l + 1) i e (by simpa [ent] using he)⟩
theorem bG.mG : ∀ {bl lK : List (List bZ)} (l : Nat), bG bl lK → bG (mG bl l) (mG lK l)
 | bl, lK, 0, h => by simpa [Go.X.mG] using h
 | a :: r, b :: s, l + 1, h => by simpa [Go.X.mG] using (h.tail).mG l
 | [], [], l + 1, h => by simpa [Go.X.mG] using h
 | [], b :: s, l + 1, h => by have := h.1; simp at this
 | a :: r, [], l + 1, h => by have := h.1; simp at this
section
variable {cl cl' : Nat → Nat} {w w' : World} (hk : Keeps cl w cl' w')
include hk
theorem aL.keep {bl lK : List (List bZ)} (he : bG bl lK) {o : Obj} {e : bZ} (hhc : e.gone = false → w'.heap[e.b]? = w.heap[e.b]? ∧ cl' e.b = cl e.b) (h : aL bl cl w o e) : aL lK cl' w' o e := by
 cases o with
 | box ty cells =>
  simp only [aL] at h ⊢
  obtain ⟨h1, h2, vs, h3, h4⟩ := h
  obtain ⟨hh, hc⟩ := hhc (ku h1)
  exact ⟨h1, hc.trans h2, vs, hh.trans h3, h4.keep hk he⟩
 | row ty sz rows mt cap =>
  simp only [aL] at h ⊢
  obtain ⟨h1, h2, h3, h4, h5, h⟩ := h
  refine ⟨h1, h2, h3, h4, h5, fun hg => ?_⟩
  obtain ⟨⟨cs, h6, h6'⟩, h7, h8⟩ := h hg
  obtain ⟨hh, hc⟩ := hhc hg
  refine ⟨⟨cs, hh.trans h6, h6'⟩, ?_, hc.trans h8⟩
  cases mt with
  | false => exact aY.keep hk rows e.b 0 sz (by simp at h8; omega) h7
  | true =>
   have hcell : ∀ j, w'.cell? ⟨e.b, j, none⟩ = w.cell? ⟨e.b, j, none⟩ := fun j => World.cell?_of_block hh
   have hall : ∀ (l : List D) (o : Nat), aV cl w e.b o l → aV cl' w' e.b o l := by
    intro l
    induction l with
    | nil => intro o _; simp only [aV]
    | cons d r ih =>
     intro o h
     simp only [aV] at h ⊢
     obtain ⟨⟨v, g1, g2⟩, g3⟩ := h
     exact ⟨⟨v, (hcell o).trans g1, aZ.keep hk d v g2⟩, ih _ g3⟩
   have hrows : ∀ (l : List (List D)) (o : Nat), aY cl w e.b o sz l → aY cl' w' e.b o sz l := by
    intro l
    induction l with
    | nil => intro o _; simp only [aY]
    | cons r rs ih =>
     intro o h
     simp only [aY] at h ⊢
     exact ⟨h.1, hall r o h.2.1, ih _ h.2.2⟩
   exact hrows rows 0 h7
 | void => simpa only [aL] using h
 | loop site ρ p =>
  simp only [aL] at h ⊢
  obtain ⟨h1, h2, r, h3, h4, h5, h6⟩ := h
  obtain ⟨hh, hc⟩ := hhc (ku h1)
  exact ⟨h1, hc.trans h2, r, hh.trans h3, h4, h5, fun t => (h6 t).keep hk he⟩
 | map es =>
  simp only [aL] at h ⊢
  obtain ⟨h1, h2, hf, ents, clock, h3, h4⟩ := h
  obtain ⟨hh, hc⟩ := hhc (ku h1)
  exact ⟨h1, hc.trans h2, hf, ents, clock, hh.trans h3, h4.keep hk he⟩
theorem dN.keep {bl lK : List (List bZ)} (he : bG bl lK) : ∀ {fr : List Obj} {es : List bZ}, (∀ e ∈ es, e.gone = false → w'.heap[e.b]? = w.heap[e.b]? ∧ cl' e.b = cl e.b) → dN bl cl w fr es → dN lK cl' w' fr es
 | [], es, _, h => by simpa only [dN] using h
 | o :: r, es, hs, h => by
  simp only [dN] at h ⊢
  obtain ⟨e, s, rfl, h1, h2⟩ := h
  exact ⟨e, s, rfl, h1.keep hk he (hs e (by simp)), dN.keep he (fun x hx => hs x (by simp [hx])) h2⟩
theorem dH.keep : ∀ {st : St} {bl : List (List bZ)}, (∀ b ∈ blks bl, w'.heap[b]? = w.heap[b]? ∧ cl' b = cl b) → dH cl w st bl → dH cl' w' st bl
 | [], bl, _, h => by simpa only [dH] using h
 | fr :: st, bl, hs, h => by
  simp only [dH] at h ⊢
  obtain ⟨es, r, rfl, h1, h2⟩ := h
  refine ⟨es, r, rfl, h1.keep hk (bG.refl _) (fun e he hg => hs e.b ?_), dH.keep (fun b hb => hs b ?_) h2⟩
  ·rw [aA]; exact List.mem_append.2 (.inl (cB.2 ⟨e, he, hg, rfl⟩))
  ·rw [aA]; exact List.mem_append.2 (.inr hb)
theorem dN.Ci {bl lK : List (List bZ)} (he : bG bl lK) {o' : Obj} {e e' : bZ} (ho : aL lK cl' w' o' e') : ∀ {fr : List Obj} {es : List bZ} {i : Nat}, es[i]? = some e → (eX es).Nodup →
  (∀ x ∈ es, x.gone = false → (e.gone = false → x.b ≠ e.b) → w'.heap[x.b]? = w.heap[x.b]? ∧ cl' x.b = cl x.b) → dN bl cl w fr es → dN lK cl' w' (fr.set i o') (es.set i e')
 | [], es, i, h1, _, _, h => by simp only [dN] at h; subst h; simp at h1
 | o :: r, es, 0, h1, hn, hs, h => by
  simp only [dN] at h
  obtain ⟨e0, s, rfl, _, h3⟩ := h
  simp at h1; subst h1
  simp only [List.set_cons_zero, dN]
  refine ⟨e', s, rfl, ho, h3.keep hk he fun x hx hg => hs x (by simp [hx]) hg fun hg0 hb => ?_⟩
  rw [fE, hg0, cond_false, List.nodup_cons] at hn
  exact hn.1 (hb ▸ cB.2 ⟨x, hx, hg, rfl⟩)
 | o :: r, es, i + 1, h1, hn, hs, h => by
  simp only [dN] at h
  obtain ⟨e0, s, rfl, h2, h3⟩ := h
  simp at h1
  rw [fE] at hn
  simp only [List.set_cons_succ, dN]
  have hne : e0.gone = false → e.gone = false → e0.b ≠ e.b := fun hg0 hg hb => by
   rw [hg0, cond_false, List.nodup_cons] at hn
   exact hn.1 (hb ▸ cB.2 ⟨e, List.mem_of_getElem? h1, hg, rfl⟩)
  have hn' : (eX s).Nodup := by
   cases hg : e0.gone with
   | true => rw [hg] at hn; exact hn
   | false => rw [hg, cond_false, List.nodup_cons] at hn; exact hn.2
  exact ⟨e0, _, rfl, h2.keep hk he (fun hg => hs e0 (by simp) hg (hne hg)), dN.Ci he ho h1 hn' (fun x hx => hs x (by simp [hx])) h3⟩
theorem dN.Hq {bl lK : List (List bZ)} (he : bG bl lK) {o' : Obj} {e' : bZ} (ho : aL lK cl' w' o' e') : ∀ {fr : List Obj} {es : List bZ},
  (∀ x ∈ es, x.gone = false → w'.heap[x.b]? = w.heap[x.b]? ∧ cl' x.b = cl x.b) → dN bl cl w fr es → dN lK cl' w' (fr ++ [o']) (es ++ [e'])
 | [], es, _, h => by simp only [dN] at h; subst h; simp only [List.nil_append, dN]; exact ⟨e', [], rfl, ho, rfl⟩
 | o :: r, es, hs, h => by
  simp only [dN] at h
  obtain ⟨e0, s, rfl, h2, h3⟩ := h
  simp only [List.cons_append, dN]
  exact ⟨e0, _, rfl, h2.keep hk he (hs e0 (by simp)), dN.Hq he ho (fun x hx => hs x (by simp [hx])) h3⟩
end
theorem kC : ∀ {bl : List (List bZ)} {l i : Nat} {e e' : bZ}, ent bl l i = some e → ent (fO bl l i e') l i = some e'
 | fr :: r, 0, i, e, e', h => by
  simp only [ent] at h
  simp only [fO, ent]
  exact List.getElem?_set_self (List.getElem?_eq_some_iff.1 h).1
 | fr :: r, l + 1, i, e, e', h => by simp only [ent] at h; simpa [fO, ent] using kC h
 | [], _, _, _, _, h => by simp [ent] at h
theorem tZ : ∀ {bl : List (List bZ)} {l i l' i' : Nat} {e' : bZ}, (l' ≠ l ∨ i' ≠ i) → ent (fO bl l i e') l' i' = ent bl l' i'
 | fr :: r, 0, i, 0, i', e', h => by
  simp only [fO, ent]
  exact List.getElem?_set_ne (by omega)
 | fr :: r, 0, i, l' + 1, i', e', h => by simp [fO, ent]
 | fr :: r, l + 1, i, 0, i', e', h => by simp [fO, ent]
 | fr :: r, l + 1, i, l' + 1, i', e', h => by
  simp only [fO, ent]
  exact tZ (by omega)
 | [], _, _, _, _, _, _ => by simp [fO]
theorem Am : ∀ (bl : List (List bZ)) (l i : Nat) (e' : bZ), (fO bl l i e').length = bl.length
 | fr :: r, 0, i, e' => by simp [fO]
 | fr :: r, l + 1, i, e' => by simp [fO, Am r l i e']
 | [], _, _, _ => by simp [fO]
theorem bG.fO {bl : List (List bZ)} {l i : Nat} {e e' : bZ} (h : ent bl l i = some e) (he : jA e e') : bG bl (fO bl l i e') :=
 ⟨Am _ _ _ _, fun l' i' x hx => by
  by_cases hc : l' = l ∧ i' = i
  ·obtain ⟨rfl, rfl⟩ := hc
   rw [h] at hx; cases hx
   exact ⟨e', kC h, he⟩
  ·exact ⟨x, by rw [tZ (by omega)]; exact hx, jA.refl x⟩⟩
theorem Ao : ∀ (bl : List (List bZ)) (l : Nat) (e' : bZ), (fC bl l e').length = bl.length
 | fr :: r, 0, e' => by simp [fC]
 | fr :: r, l + 1, e' => by simp [fC, Ao r l e']
 | [], _, _ => by simp [fC]
theorem xK : ∀ {bl : List (List bZ)} {l l' i' : Nat} {e' x : bZ}, ent bl l' i' = some x → ent (fC bl l e') l' i' = some x
 | fr :: r, 0, 0, i', e', x, h => by
  simp only [ent] at h
  simp only [fC, ent]
  rw [List.getElem?_append_left (List.getElem?_eq_some_iff.1 h).1]; exact h
 | fr :: r, 0, l' + 1, i', e', x, h => by simpa [fC, ent] using h
 | fr :: r, l + 1, 0, i', e', x, h => by simpa [fC, ent] using h
 | fr :: r, l + 1, l' + 1, i', e', x, h => by simp only [ent] at h; simpa [fC, ent] using xK h
 | [], _, _, _, _, _, h => by simp [ent] at h
theorem bG.fC (bl : List (List bZ)) (l : Nat) (e' : bZ) : bG bl (fC bl l e') :=
 ⟨Ao _ _ _, fun _ _ x hx => ⟨x, xK hx, jA.refl x⟩⟩
theorem lM {cl : Nat → Nat} {w : World} : ∀ {st : St} {bl : List (List bZ)} {l : Nat} {e' : bZ}, dH cl w st bl → l < st.length → ent (fC bl l e') l (dD st l) = some e'
 | fr :: st, bl, 0, e', h, _ => by
  simp only [dH] at h
  obtain ⟨es, r, rfl, h1, _⟩ := h
  simp only [fC, ent, dD, ← h1.length]
  simp
 | fr :: st, bl, l + 1, e', h, hl => by
  simp only [dH] at h
  obtain ⟨es, r, rfl, _, h2⟩ := h
  simp only [fC, ent, dD]
  exact lM h2 (by simpa using hl)
 | [], _, _, _, _, hl => by simp at hl
section
variable {cl cl' : Nat → Nat} {w w' : World} (hk : Keeps cl w cl' w')
include hk
theorem dH.Ci : ∀ {st : St} {bl : List (List bZ)} {l i : Nat} {o' : Obj} {e e' : bZ}, ent bl l i = some e → jA e e' → aL (mG (fO bl l i e') l) cl' w' o' e' → (blks bl).Nodup →
  (∀ b ∈ blks bl, (e.gone = false → b ≠ e.b) → w'.heap[b]? = w.heap[b]? ∧ cl' b = cl b) → dH cl w st bl → dH cl' w' (bJ st l i o') (fO bl l i e')
 | fr :: st, bl, 0, i, o', e, e', h1, hle, ho, hn, hs, h => by
  simp only [dH] at h
  obtain ⟨es, r, rfl, h2, h3⟩ := h
  have hE : bG (es :: r) (es.set i e' :: r) := by simpa [Go.X.fO] using bG.fO h1 hle
  simp only [ent] at h1
  rw [aA] at hn
  have hn' := List.nodup_append.1 hn
  simp only [bJ, Go.X.fO, dH]
  refine ⟨es.set i e', r, rfl, h2.Ci hk hE (by simpa [Go.X.fO, mG] using ho) h1 hn'.1 (fun x hx hg hb => hs x.b ?_ hb), h3.keep hk fun b hb => hs b ?_ ?_⟩
  ·rw [aA]; exact List.mem_append.2 (.inl (cB.2 ⟨x, hx, hg, rfl⟩))
  ·rw [aA]; exact List.mem_append.2 (.inr hb)
  ·exact fun hg hb' => hn'.2.2 e.b (cB.2 ⟨e, List.mem_of_getElem? h1, hg, rfl⟩) b hb hb'.symm
 | fr :: st, bl, l + 1, i, o', e, e', h1, hle, ho, hn, hs, h => by
  simp only [dH] at h
  obtain ⟨es, r, rfl, h2, h3⟩ := h
  have hE : bG (es :: r) (es :: fO r l i e') := by simpa [Go.X.fO] using bG.fO h1 hle
  simp only [ent] at h1
  rw [aA] at hn
  have hn' := List.nodup_append.1 hn
  simp only [bJ, Go.X.fO, dH]
  have hr : ∀ b ∈ blks r, b ∈ blks (es :: r) := fun b hb => by rw [aA]; exact List.mem_append.2 (.inr hb)
  refine ⟨es, fO r l i e', rfl, h2.keep hk hE (fun x hx hg => hs x.b ?_ ?_), h3.Ci h1 hle (by simpa [Go.X.fO, mG] using ho) hn'.2.1 fun b hb hne => hs b (hr b hb) hne⟩
  ·rw [aA]; exact List.mem_append.2 (.inl (cB.2 ⟨x, hx, hg, rfl⟩))
  ·exact fun hg' hb => hn'.2.2 x.b (cB.2 ⟨x, hx, hg, rfl⟩) e.b (vK h1 hg') hb
 | [], bl, _, _, _, _, _, h1, _, _, _, _, h => by simp only [dH] at h; subst h; simp [ent] at h1
theorem dH.Hq : ∀ {st : St} {bl : List (List bZ)} {l : Nat} {o' : Obj} {e' : bZ}, aL (mG (fC bl l e') l) cl' w' o' e' → l < st.length →
  (∀ b ∈ blks bl, w'.heap[b]? = w.heap[b]? ∧ cl' b = cl b) → dH cl w st bl → dH cl' w' (iQ st l o') (fC bl l e')
 | fr :: st, bl, 0, o', e', ho, _, hs, h => by
  simp only [dH] at h
  obtain ⟨es, r, rfl, h2, h3⟩ := h
  have hE : bG (es :: r) ((es ++ [e']) :: r) := by simpa [Go.X.fC] using bG.fC (es :: r) 0 e'
  simp only [iQ, Go.X.fC, dH]
  refine ⟨es ++ [e'], r, rfl, h2.Hq hk hE (by simpa [Go.X.fC, mG] using ho) (fun x hx hg => hs x.b ?_), h3.keep hk fun b hb => hs b ?_⟩
  ·rw [aA]; exact List.mem_append.2 (.inl (cB.2 ⟨x, hx, hg, rfl⟩))
  ·rw [aA]; exact List.mem_append.2 (.inr hb)
 | fr :: st, bl, l + 1, o', e', ho, hl, hs, h => by
  simp only [dH] at h
  obtain ⟨es, r, rfl, h2, h3⟩ := h
  have hE : bG (es :: r) (es :: fC r l e') := by simpa [Go.X.fC] using bG.fC (es :: r) (l + 1) e'
  simp only [iQ, Go.X.fC, dH]
  refine ⟨es, fC r l e', rfl, h2.keep hk hE (fun x hx hg => hs x.b ?_), h3.Hq (by simpa [Go.X.fC, mG] using ho) (by simpa using hl) fun b hb => hs b ?_⟩
  ·rw [aA]; exact List.mem_append.2 (.inl (cB.2 ⟨x, hx, hg, rfl⟩))
  ·rw [aA]; exact List.mem_append.2 (.inr hb)
 | [], bl, _, _, _, _, hl, _, _ => by simp at hl
end
theorem qH : ∀ {bl : List (List bZ)} {l i : Nat} {e e' : bZ}, ent bl l i = some e → ∀ b, b ∈ blks (fO bl l i e') → (e'.gone = false ∧ b = e'.b) ∨ b ∈ blks bl
 | fr :: r, 0, i, e, e', h, b, hb => by
  simp only [fO, aA, List.mem_append] at hb ⊢
  rcases hb with hb | hb
  ·obtain ⟨x, hx, hg, rfl⟩ := cB.1 hb
   rcases List.mem_or_eq_of_mem_set hx with hx | rfl
   ·exact .inr (.inl (cB.2 ⟨x, hx, hg, rfl⟩))
   ·exact .inl ⟨hg, rfl⟩
  ·exact .inr (.inr hb)
 | fr :: r, l + 1, i, e, e', h, b, hb => by
  simp only [ent] at h
  simp only [fO, aA, List.mem_append] at hb ⊢
  rcases hb with hb | hb
  ·exact .inr (.inl hb)
  ·rcases qH h b hb with hb | hb
   ·exact .inl hb
   ·exact .inr (.inr hb)
 | [], _, _, _, _, h, _, _ => by simp [ent] at h
theorem Fx : ∀ {l : List bZ} {i : Nat} {e e' : bZ}, l[i]? = some e → (eX l).Nodup → (e'.gone = true ∨ (e.gone = false ∧ e'.b = e.b) ∨ e'.b ∉ eX l) → (eX (l.set i e')).Nodup
 | x :: r, 0, e, e', h, hn, hb => by
  simp at h; subst h
  rw [fE] at hn
  simp only [List.set_cons_zero, fE]
  have hr : (eX r).Nodup := by
   cases hg : x.gone with
   | true => rw [hg] at hn; exact hn
   | false => rw [hg, cond_false, List.nodup_cons] at hn; exact hn.2
  cases hg' : e'.gone with
  | true => exact hr
  | false =>
   simp only [cond_false, List.nodup_cons]
   refine ⟨fun hc => ?_, hr⟩
   rcases hb with hb | ⟨hg, hb⟩ | hb
   ·rw [hg'] at hb; cases hb
   ·rw [hg, cond_false, List.nodup_cons] at hn
    exact hn.1 (hb ▸ hc)
   ·rw [fE] at hb
    cases hg : x.gone with
    | true => rw [hg] at hb; exact hb hc
    | false => rw [hg] at hb; exact hb (by simp [hc])
 | x :: r, i + 1, e, e', h, hn, hb => by
  simp at h
  rw [fE] at hn
  simp only [List.set_cons_succ, fE]
  have hr : (eX r).Nodup := by
   cases hg : x.gone with
   | true => rw [hg] at hn; exact hn
   | false => rw [hg, cond_false, List.nodup_cons] at hn; exact hn.2
  have hb' : e'.gone = true ∨ (e.gone = false ∧ e'.b = e.b) ∨ e'.b ∉ eX r := by
   rcases hb with hb | hb | hb
   ·exact .inl hb
   ·exact .inr (.inl hb)
   ·refine .inr (.inr fun hc => hb ?_)
    rw [fE]
    cases x.gone <;> simp [hc]
  have ih := Fx h hr hb'
  cases hg : x.gone with
  | true => exact ih
  | false =>
   rw [hg, cond_false, List.nodup_cons] at hn
   simp only [cond_false, List.nodup_cons]
   refine ⟨fun hc => ?_, ih⟩
   obtain ⟨y, hy, hyg, hyb⟩ := cB.1 hc
   rcases List.mem_or_eq_of_mem_set hy with hy | rfl
   ·exact hn.1 (cB.2 ⟨y, hy, hyg, hyb⟩)
   ·rcases hb with hb | ⟨hge, hb⟩ | hb
    ·rw [hyg] at hb; cases hb
    ·exact hn.1 (cB.2 ⟨e, List.mem_of_getElem? h, hge, hb ▸ hyb⟩)
    ·exact hb (by rw [fE, hg]; simp [hyb])
 | [], _, _, _, h, _, _ => by simp at h
theorem rR : ∀ {bl : List (List bZ)} {l i : Nat} {e e' : bZ}, ent bl l i = some e → (blks bl).Nodup → (e'.gone = true ∨ (e.gone = false ∧ e'.b = e.b) ∨ e'.b ∉ blks bl) → (blks (fO bl l i e')).Nodup
 | fr :: r, 0, i, e, e', h, hn, hb => by
  simp only [ent] at h
  rw [aA] at hn hb
  simp only [fO, aA]
  have hn' := List.nodup_append.1 hn
  refine List.nodup_append.2 ⟨Fx h hn'.1 (hb.imp id (Or.imp id fun hb hc => hb (List.mem_append.2 (.inl hc)))), hn'.2.1, fun a ha c hc hac => ?_⟩
  obtain ⟨y, hy, hyg, rfl⟩ := cB.1 ha
  rcases List.mem_or_eq_of_mem_set hy with hy | rfl
  ·exact hn'.2.2 y.b (cB.2 ⟨y, hy, hyg, rfl⟩) c hc hac
  ·rcases hb with hb | ⟨hge, hb⟩ | hb
   ·rw [hyg] at hb; cases hb
   ·exact hn'.2.2 e.b (cB.2 ⟨e, List.mem_of_getElem? h, hge, rfl⟩) c hc (hb ▸ hac)
   ·exact hb (List.mem_append.2 (.inr (hac ▸ hc)))
 | fr :: r, l + 1, i, e, e', h, hn, hb => by
  simp only [ent] at h
  rw [aA] at hn hb
  simp only [fO, aA]
  have hn' := List.nodup_append.1 hn
  refine List.nodup_append.2 ⟨hn'.1, rR h hn'.2.1 (hb.imp id (Or.imp id fun hb hc => hb (List.mem_append.2 (.inr hc)))), fun a ha c hc hac => ?_⟩
  rcases qH h c hc with ⟨hg, rfl⟩ | hc
  ·rcases hb with hb | ⟨hge, hb⟩ | hb
   ·rw [hg] at hb; cases hb
   ·exact hn'.2.2 a ha e.b (vK h hge) (hb ▸ hac)
   ·exact hb (List.mem_append.2 (.inl (hac ▸ ha)))
  ·exact hn'.2.2 a ha c hc hac
 | [], _, _, _, _, h, _, _ => by simp [ent] at h
theorem mQ : ∀ (bl : List (List bZ)) (l : Nat) (e' : bZ) (b : Nat), b ∈ blks (fC bl l e') → (e'.gone = false ∧ b = e'.b) ∨ b ∈ blks bl
 | fr :: r, 0, e', b, hb => by
  simp only [fC, aA, List.mem_append, kZ] at hb ⊢
  rcases hb with (hb | hb) | hb
  ·exact .inr (.inl hb)
  ·obtain ⟨x, hx, hg, rfl⟩ := cB.1 hb
   simp only [List.mem_singleton] at hx
   subst hx
   exact .inl ⟨hg, rfl⟩
  ·exact .inr (.inr hb)
 | fr :: r, l + 1, e', b, hb => by
  simp only [fC, aA, List.mem_append] at hb ⊢
  rcases hb with hb | hb
  ·exact .inr (.inl hb)
  ·rcases mQ r l e' b hb with hb | hb
   ·exact .inl hb
   ·exact .inr (.inr hb)
 | [], _, _, _, hb => by simp [fC, blks, eX] at hb
theorem ou : ∀ (bl : List (List bZ)) (l : Nat) (e' : bZ), (blks bl).Nodup → (e'.gone = true ∨ e'.b ∉ blks bl) → (blks (fC bl l e')).Nodup
 | fr :: r, 0, e', hn, hb => by
  rw [aA] at hn hb
  simp only [fC, aA, kZ]
  have hn' := List.nodup_append.1 hn
  have h1 : ∀ c, c ∈ eX [e'] → e'.gone = false ∧ c = e'.b := fun c hc => by
   obtain ⟨x, hx, hg, rfl⟩ := cB.1 hc
   simp only [List.mem_singleton] at hx
   subst hx; exact ⟨hg, rfl⟩
  have hno : ∀ c, c ∈ eX [e'] → c ∉ eX fr ++ blks r := fun c hc hm => by
   obtain ⟨hg, rfl⟩ := h1 c hc
   rcases hb with hb | hb
   ·rw [hg] at hb; cases hb
   ·exact hb hm
  refine List.nodup_append.2 ⟨List.nodup_append.2 ⟨hn'.1, by rw [fE]; cases e'.gone <;> simp [eX], fun a ha c hc hac => ?_⟩, hn'.2.1, fun a ha c hc hac => ?_⟩
  ·exact hno c hc (List.mem_append.2 (.inl (hac ▸ ha)))
  ·rcases List.mem_append.1 ha with ha | ha
   ·exact hn'.2.2 a ha c hc hac
   ·exact hno a ha (List.mem_append.2 (.inr (hac ▸ hc)))
 | fr :: r, l + 1, e', hn, hb => by
  rw [aA] at hn hb
  simp only [fC, aA]
  have hn' := List.nodup_append.1 hn
  refine List.nodup_append.2 ⟨hn'.1, ou r l e' hn'.2.1 (hb.imp id fun hb hc => hb (List.mem_append.2 (.inr hc))), fun a ha c hc hac => ?_⟩
  rcases mQ r l e' c hc with ⟨hg, rfl⟩ | hc
  ·rcases hb with hb | hb
   ·rw [hg] at hb; cases hb
   ·exact hb (List.mem_append.2 (.inl (hac ▸ ha)))
  ·exact hn'.2.2 a ha c hc hac
 | [], _, _, hn, _ => by simpa [fC] using hn
end Go.X
