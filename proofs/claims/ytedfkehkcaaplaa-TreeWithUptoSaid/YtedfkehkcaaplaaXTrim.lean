/- Objects that nothing points at any more may be forgotten. -/
import Derived.Test.YtedfkehkcaaplaaXStep
namespace Go.X
open Go
set_option linter.unusedSectionVars false
set_option linter.unusedSimpArgs false
set_option linter.unusedVariables false
variable [fq]
section
variable {es : List eT} {r : List (List eT)} {cl : Nat → Nat} {w : World} {n : Nat}
theorem sD {l i : Nat} (h : (bif Nat.beq l 0 then Nat.blt i n else true) = true) : ent (es.take n :: r) l i = ent (es :: r) l i := by
 cases l with
 | zero =>
  have h : Nat.blt i n = true := h
  have hi : i < n := Nat.le_of_ble_eq_true h
  simp only [ent]
  rw [List.getElem?_take_of_lt hi]
 | succ l => rfl
mutual
theorem vR : ∀ (x : PV) (v : Value), below n x = true → ak (es :: r) cl w x v → ak (es.take n :: r) cl w x v
 | .d x, v, _, h => by simpa only [ak] using h
 | .agg cs, v, hb, h => by
  simp only [ak] at h ⊢
  obtain ⟨vs, h1, h2⟩ := h
  exact ⟨vs, h1, uO cs vs hb h2⟩
 | .ptr l i o, v, hb, h => by simp only [ak] at h ⊢; rw [sD hb]; exact h
 | .dA cs, v, _, h => by simpa only [ak] using h
 | .row l i k, v, hb, h => by simp only [ak] at h ⊢; rw [sD hb]; exact h
 | .o9 l i k x o, v, hb, h => by simp only [ak] at h ⊢; rw [sD hb]; exact h
 | .fn f cs, v, hb, h => by
  simp only [ak] at h ⊢
  obtain ⟨vs, h1, h2⟩ := h
  exact ⟨vs, h1, uO cs vs hb h2⟩
 | .map l i, v, hb, h => by simp only [ak] at h ⊢; rw [sD hb]; exact h
 | .tail l i k o, v, hb, h => by simp only [ak] at h ⊢; rw [sD hb]; exact h
 | .vP l i, v, hb, h => by simp only [ak] at h ⊢; rw [sD hb]; exact h
 | .zh l, v, hb, h => by
  simp only [ak] at h ⊢
  obtain ⟨vs, h1, h2⟩ := h
  exact ⟨vs, h1, LJ l vs hb h2⟩
 | .skip, v, _, h => by simpa only [ak] using h
 | .ub, v, _, h => by simpa only [ak] using h
 | .unk, v, _, h => by simp only [ak]
theorem uO : ∀ (l : List PV) (vs : List Value), below.belows n l = true → aI (es :: r) cl w l vs → aI (es.take n :: r) cl w l vs
 | [], vs, _, h => by simpa only [aI] using h
 | x :: l, vs, hb, h => by
  simp only [aI] at h ⊢
  obtain ⟨v, s, h1, h2, h3, h4⟩ := h
  simp only [below.belows] at hb
  cases hx : below n x with
  | false => simp [hx] at hb
  | true =>
   simp only [hx, cond_true] at hb
   exact ⟨v, s, h1, vR x v hx h2, h3, uO l s hb h4⟩
theorem LJ : ∀ (l : List PV) (vs : List Value), below.belows n l = true → bg (es :: r) cl w l vs → bg (es.take n :: r) cl w l vs
 | [], vs, _, h => by simpa only [bg] using h
 | x :: l, vs, hb, h => by
  simp only [bg] at h ⊢
  obtain ⟨v, s, h1, h2, h3⟩ := h
  simp only [below.belows] at hb
  cases hx : below n x with
  | false => simp [hx] at hb
  | true =>
   simp only [hx, cond_true] at hb
   exact ⟨v, s, h1, vR x v hx h2, LJ l s hb h3⟩
end
theorem N8 {kk : KK} : ∀ (l : List (PV × PV)) (vs : List MapEntry), iX n l = true → gT kk (es :: r) cl w l vs → gT kk (es.take n :: r) cl w l vs
 | [], vs, _, h => h
 | x :: l, vs, hb, h => by
  obtain ⟨k, v⟩ := x
  simp only [gT] at h ⊢
  obtain ⟨e, s, h1, h2, h3, h4, h5, h6⟩ := h
  simp only [iX, Bool.and_eq_true] at hb
  exact ⟨e, s, h1, h2, vR _ _ hb.1.1 h3, vR _ _ hb.1.2 h4, h5, N8 l s hb.2 h6⟩
theorem IB : ∀ (l : List PV), CP l = true → below.belows n l = true
 | [], _ => rfl
 | x :: l, h => by
  cases x with
  | d x => simp only [CP] at h; simp only [below.belows, below, cond_true]; exact IB l h
  | _ => simp [CP] at h
theorem LK {v : PV} (h : Cq v = true) : below n v = true := by
 cases v with
 | d x => rfl
 | agg cs => exact IB cs h
 | _ => simp [Cq] at h
theorem IC : ∀ {es : List (PV × PV)}, sN es = true → iX n es = true
 | [], _ => rfl
 | (k, v) :: r, h => by
  simp only [sN, Bool.and_eq_true] at h
  simp only [iX, Bool.and_eq_true]
  exact ⟨⟨LK h.1.1, LK h.1.2⟩, IC h.2⟩
theorem F3 : ∀ {ρ : Env} (t : Nat), KG n ρ = true → below n (mI ρ t) = true
 | [], t, _ => rfl
 | (k, v) :: ρ, t, h => by
  simp only [KG] at h
  cases hx : below n v with
  | false => simp [hx] at h
  | true =>
   simp only [hx, cond_true] at h
   simp only [mI]
   cases Nat.beq k t with
   | true => exact hx
   | false => exact F3 t h
theorem aaQ {o : Obj} {e : eT} (hb : aas iX n o = true) (h : bC (es :: r) cl w o e) : bC (es.take n :: r) cl w o e := by
 cases o with
 | box ty cells =>
  simp only [bC] at h ⊢
  obtain ⟨h1, h2, vs, h3, h4⟩ := h
  exact ⟨h1, h2, vs, h3, uO _ _ hb h4⟩
 | row ty sz rows mt cap => simpa only [bC] using h
 | void => simpa only [bC] using h
 | loop site ρ p =>
  simp only [bC] at h ⊢
  obtain ⟨h1, h2, q, h3, h4, h5, h6⟩ := h
  exact ⟨h1, h2, q, h3, h4, h5, fun t => vR _ _ (F3 t hb) (h6 t)⟩
 | map kk fl l =>
  simp only [bC] at h ⊢
  obtain ⟨h1, h2, hf, ents, clock, h3, h4⟩ := h
  exact ⟨h1, h2, hf, ents, clock, h3, N8 _ _ (IC (hf hb)) h4⟩
theorem N9 : ∀ {fr : List Obj} {q : List eT}, NA iX n fr = true → fM (es :: r) cl w fr q → fM (es.take n :: r) cl w fr q
 | [], q, _, h => by simpa only [fM] using h
 | o :: fr, q, hb, h => by
  simp only [fM] at h ⊢
  obtain ⟨e, s, h1, h2, h3⟩ := h
  simp only [NA] at hb
  cases hx : aas iX n o with
  | false => simp [hx] at hb
  | true =>
   simp only [hx, cond_true] at hb
   exact ⟨e, s, h1, aaQ hx h2, N9 hb h3⟩
theorem fM.agD {bl : List (List eT)} : ∀ {fr : List Obj} {q : List eT} (k : Nat), fM bl cl w fr q → fM bl cl w (fr.take k) (q.take k)
 | fr, q, 0, h => by simp [fM]
 | [], q, k + 1, h => by simp only [fM] at h; subst h; simp [fM]
 | o :: fr, q, k + 1, h => by
  simp only [fM] at h
  obtain ⟨e, s, rfl, h2, h3⟩ := h
  simp only [List.take_succ_cons, fM]
  exact ⟨e, _, rfl, h2, h3.agD k⟩
end
def UE (bl : List (List eT)) : Nat := match bl with | fr :: _ => fr.length | [] => 0
theorem IE {m : Mt} {st : St} {w : World} (hw : bI m st w) : fE st 0 = UE m.blk := by
 have h := hw.st
 cases st with
 | nil => simp only [fI] at h; rw [h]; rfl
 | cons fr st =>
  simp only [fI] at h
  obtain ⟨es, r, h1, h2, _⟩ := h
  rw [h1]
  exact h2.length.symm
theorem al9 {m m' : Mt} {w w' : World} (hx : Ext m w m' w') : UE m.blk ≤ UE m'.blk := by
 have h1 := hx.ents.2
 generalize m.blk = a at h1 ⊢
 generalize m'.blk = b at h1 ⊢
 cases a with
 | nil => exact Nat.zero_le _
 | cons fr r =>
  simp only [UE]
  rcases Nat.eq_zero_or_pos fr.length with h | h
  ·omega
  ·obtain ⟨e', h2, _⟩ := h1 0 (fr.length - 1) (fr[fr.length - 1]'(by omega)) (by simp only [ent]; exact List.getElem?_eq_getElem (by omega))
   cases b with
   | nil => simp [ent] at h2
   | cons fr' r' =>
    simp only [ent] at h2
    have := (List.getElem?_eq_some_iff.1 h2).1
    dsimp only
    omega
def MJ (n : Nat) (m m' : Mt) (st st' : St) : Prop := (m' = m ∧ st' = st) ∨ ∃ es r fr s, m.blk = es :: r ∧ m' = ⟨es.take n :: r, m.cl⟩ ∧ st = fr :: s ∧ st' = fr.take n :: s
theorem afz {es : List eT} {n : Nat} {b : Nat} (h : b ∈ iq (es.take n)) : b ∈ iq es := by
 obtain ⟨e, h3, h4, h5⟩ := eX.1 h
 exact eX.2 ⟨e, List.mem_of_mem_take h3, h4, h5⟩
theorem MJ.blks {n : Nat} {m m' : Mt} {st st' : St} (h : MJ n m m' st st') : ∀ b ∈ Go.X.blks m'.blk, b ∈ Go.X.blks m.blk := by
 rcases h with ⟨rfl, _⟩ | ⟨es, r, fr, s, h1, rfl, _, _⟩
 ·exact fun b hb => hb
 ·intro b hb
  rw [h1, aC]
  rw [show Go.X.blks (Mt.blk ⟨es.take n :: r, m.cl⟩) = iq (es.take n) ++ Go.X.blks r from aC _ _] at hb
  rcases List.mem_append.1 hb with hb | hb
  ·exact List.mem_append.2 (.inl (afz hb))
  ·exact List.mem_append.2 (.inr hb)
theorem Dp {m0 m : Mt} {w0 w : World} {st : St} {ρ : Env} {a : Act} {n : Nat} (hx : Ext m0 w0 m w) (hn : UE m0.blk ≤ n) (hw : bI m st w) (he : bG m w ρ a) : ∃ m', Ext m0 w0 m' w ∧ bI m' (trim iX n ρ st) w ∧ bG m' w ρ a ∧ MJ n m m' st (trim iX n ρ st) := by
 have stay : ∃ m', Ext m0 w0 m' w ∧ bI m' st w ∧ bG m' w ρ a ∧ MJ n m m' st st := ⟨m, hx, hw, he, .inl ⟨rfl, rfl⟩⟩
 cases st with
 | nil => exact stay
 | cons fr st =>
  simp only [trim]
  cases Nat.ble fr.length n with
  | true => exact stay
  | false =>
   cases hb1 : KG n ρ with
   | false => exact stay
   | true =>
    cases hb2 : NA iX n (fr.take n) with
    | false => exact stay
    | true =>
     simp only [cond_true, cond_false]
     have hst := hw.st
     simp only [fI] at hst
     obtain ⟨es, r, hbl, h1, h2⟩ := hst
     have hsub : ∀ b, b ∈ iq (es.take n) → b ∈ iq es := fun b hb => by
      obtain ⟨e, h3, h4, h5⟩ := eX.1 hb
      exact eX.2 ⟨e, List.mem_of_mem_take h3, h4, h5⟩
     have hmem : ∀ b, b ∈ blks (es.take n :: r) → b ∈ blks m.blk := fun b hb => by
      rw [hbl, aC]
      rw [aC] at hb
      rcases List.mem_append.1 hb with hb | hb
      ·exact List.mem_append.2 (.inl (hsub b hb))
      ·exact List.mem_append.2 (.inr hb)
     refine ⟨⟨es.take n :: r, m.cl⟩, ⟨hx.keeps, ⟨?_, fun l i e h => ?_⟩, hx.os, hx.tape, hx.output, hx.size, hx.kept, fun b hb => hx.new b (hmem b hb), hx.cls⟩, ⟨?_, ?_, hw.le, hw.glob.sub hmem⟩, fun t => ?_, .inr ⟨es, r, fr, st, hbl, rfl, rfl, rfl⟩⟩
     ·have := hx.ents.1; rw [hbl] at this; simpa using this
     ·obtain ⟨e', h3, h4⟩ := hx.ents.2 l i e h
      refine ⟨e', ?_, h4⟩
      rw [← h3, hbl]
      refine sD ?_
      cases l with
      | succ l => rfl
      | zero =>
       have : i < UE m0.blk := by
        cases hm : m0.blk with
        | nil => rw [hm] at h; simp [ent] at h
        | cons f s => rw [hm] at h; simp only [ent] at h; exact (List.getElem?_eq_some_iff.1 h).1
       exact Nat.ble_eq_true_of_le (by omega : i + 1 ≤ n)
     ·simp only [fI]
      exact ⟨es.take n, r, rfl, N9 hb2 (h1.agD n), h2⟩
     ·have hnd := hw.nodup
      rw [hbl, aC] at hnd
      show (blks (es.take n :: r)).Nodup
      rw [aC]
      refine hnd.sublist (List.Sublist.append ?_ (List.Sublist.refl _))
      exact ((List.take_sublist n es).filter _).map _
     ·have := he t
      rw [hbl] at this
      exact vR _ _ (F3 t hb1) this
end Go.X
