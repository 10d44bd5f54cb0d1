/- Objects that nothing points at any more may be forgotten. -/
import Derived.Test.YtipkggkbldgmjaaGreatXStep
namespace Go.X
open Go
set_option linter.unusedSectionVars false
set_option linter.unusedSimpArgs false
set_option linter.unusedVariables false
variable [eY]
section
variable {es : List eD} {r : List (List eD)} {cl : Nat → Nat} {w : World} {n : Nat}
theorem ny {l i : Nat} (h : (bif Nat.beq l 0 then Nat.blt i n else true) = true) : ent (es.take n :: r) l i = ent (es :: r) l i := by
 cases l with
 | zero =>
  have h : Nat.blt i n = true := h
  have hi : i < n := Nat.le_of_ble_eq_true h
  simp only [ent]
  rw [List.getElem?_take_of_lt hi]
 | succ l => rfl
mutual
theorem o7 : ∀ (x : PV) (v : Value), below n x = true → ay (es :: r) cl w x v → ay (es.take n :: r) cl w x v
 | .d x, v, _, h => by simpa only [ay] using h
 | .agg cs, v, hb, h => by
  simp only [ay] at h ⊢
  obtain ⟨vs, h1, h2⟩ := h
  exact ⟨vs, h1, oH cs vs hb h2⟩
 | .ptr l i o, v, hb, h => by simp only [ay] at h ⊢; rw [ny hb]; exact h
 | .bf cs, v, _, h => by simpa only [ay] using h
 | .row l i k, v, hb, h => by simp only [ay] at h ⊢; rw [ny hb]; exact h
 | .mG l i k x o, v, hb, h => by simp only [ay] at h ⊢; rw [ny hb]; exact h
 | .fn f cs, v, hb, h => by
  simp only [ay] at h ⊢
  obtain ⟨vs, h1, h2⟩ := h
  exact ⟨vs, h1, oH cs vs hb h2⟩
 | .map l i, v, hb, h => by simp only [ay] at h ⊢; rw [ny hb]; exact h
 | .tail l i k o, v, hb, h => by simp only [ay] at h ⊢; rw [ny hb]; exact h
 | .Bf l i, v, hb, h => by simp only [ay] at h ⊢; rw [ny hb]; exact h
 | .yV l, v, hb, h => by
  simp only [ay] at h ⊢
  obtain ⟨vs, h1, h2⟩ := h
  exact ⟨vs, h1, Fq l vs hb h2⟩
 | .skip, v, _, h => by simpa only [ay] using h
 | .ub, v, _, h => by simpa only [ay] using h
 | .unk, v, _, h => by simp only [ay]
theorem oH : ∀ (l : List PV) (vs : List Value), below.belows n l = true → aZ (es :: r) cl w l vs → aZ (es.take n :: r) cl w l vs
 | [], vs, _, h => by simpa only [aZ] using h
 | x :: l, vs, hb, h => by
  simp only [aZ] at h ⊢
  obtain ⟨v, s, h1, h2, h3, h4⟩ := h
  simp only [below.belows] at hb
  cases hx : below n x with
  | false => simp [hx] at hb
  | true =>
   simp only [hx, cond_true] at hb
   exact ⟨v, s, h1, o7 x v hx h2, h3, oH l s hb h4⟩
theorem Fq : ∀ (l : List PV) (vs : List Value), below.belows n l = true → bL (es :: r) cl w l vs → bL (es.take n :: r) cl w l vs
 | [], vs, _, h => by simpa only [bL] using h
 | x :: l, vs, hb, h => by
  simp only [bL] at h ⊢
  obtain ⟨v, s, h1, h2, h3⟩ := h
  simp only [below.belows] at hb
  cases hx : below n x with
  | false => simp [hx] at hb
  | true =>
   simp only [hx, cond_true] at hb
   exact ⟨v, s, h1, o7 x v hx h2, Fq l s hb h3⟩
end
theorem H9 {kk : KK} : ∀ (l : List (PV × PV)) (vs : List MapEntry), gQ n l = true → gu kk (es :: r) cl w l vs → gu kk (es.take n :: r) cl w l vs
 | [], vs, _, h => h
 | x :: l, vs, hb, h => by
  obtain ⟨k, v⟩ := x
  simp only [gu] at h ⊢
  obtain ⟨e, s, h1, h2, h3, h4, h5, h6⟩ := h
  simp only [gQ, Bool.and_eq_true] at hb
  exact ⟨e, s, h1, h2, o7 _ _ hb.1.1 h3, o7 _ _ hb.1.2 h4, h5, H9 l s hb.2 h6⟩
theorem BJ : ∀ (l : List PV), vO l = true → below.belows n l = true
 | [], _ => rfl
 | x :: l, h => by
  cases x with
  | d x => simp only [vO] at h; simp only [below.belows, below, cond_true]; exact BJ l h
  | _ => simp [vO] at h
theorem Fu {v : PV} (h : vD v = true) : below n v = true := by
 cases v with
 | d x => rfl
 | agg cs => exact BJ cs h
 | _ => simp [vD] at h
theorem BK : ∀ {es : List (PV × PV)}, nH es = true → gQ n es = true
 | [], _ => rfl
 | (k, v) :: r, h => by
  simp only [nH, Bool.and_eq_true] at h
  simp only [gQ, Bool.and_eq_true]
  exact ⟨⟨Fu h.1.1, Fu h.1.2⟩, BK h.2⟩
theorem zI : ∀ {ρ : Env} (t : Nat), DU n ρ = true → below n (jw ρ t) = true
 | [], t, _ => rfl
 | (k, v) :: ρ, t, h => by
  simp only [DU] at h
  cases hx : below n v with
  | false => simp [hx] at h
  | true =>
   simp only [hx, cond_true] at h
   simp only [jw]
   cases Nat.beq k t with
   | true => exact hx
   | false => exact zI t h
theorem U5 {o : Obj} {e : eD} (hb : Uy gQ n o = true) (h : bF (es :: r) cl w o e) : bF (es.take n :: r) cl w o e := by
 cases o with
 | box ty cells =>
  simp only [bF] at h ⊢
  obtain ⟨h1, h2, vs, h3, h4⟩ := h
  exact ⟨h1, h2, vs, h3, oH _ _ hb h4⟩
 | row ty sz rows mt cap => simpa only [bF] using h
 | void => simpa only [bF] using h
 | loop site ρ p =>
  simp only [bF] at h ⊢
  obtain ⟨h1, h2, q, h3, h4, h5, h6⟩ := h
  exact ⟨h1, h2, q, h3, h4, h5, fun t => o7 _ _ (zI t hb) (h6 t)⟩
 | map kk fl l =>
  simp only [bF] at h ⊢
  obtain ⟨h1, h2, hf, ents, clock, h3, h4⟩ := h
  exact ⟨h1, h2, hf, ents, clock, h3, H9 _ _ (BK (hf hb)) h4⟩
theorem Ia : ∀ {fr : List Obj} {q : List eD}, G8 gQ n fr = true → fI (es :: r) cl w fr q → fI (es.take n :: r) cl w fr q
 | [], q, _, h => by simpa only [fI] using h
 | o :: fr, q, hb, h => by
  simp only [fI] at h ⊢
  obtain ⟨e, s, h1, h2, h3⟩ := h
  simp only [G8] at hb
  cases hx : Uy gQ n o with
  | false => simp [hx] at hb
  | true =>
   simp only [hx, cond_true] at hb
   exact ⟨e, s, h1, U5 hx h2, Ia hb h3⟩
theorem fI.aaY {bl : List (List eD)} : ∀ {fr : List Obj} {q : List eD} (k : Nat), fI bl cl w fr q → fI bl cl w (fr.take k) (q.take k)
 | fr, q, 0, h => by simp [fI]
 | [], q, k + 1, h => by simp only [fI] at h; subst h; simp [fI]
 | o :: fr, q, k + 1, h => by
  simp only [fI] at h
  obtain ⟨e, s, rfl, h2, h3⟩ := h
  simp only [List.take_succ_cons, fI]
  exact ⟨e, _, rfl, h2, h3.aaY k⟩
end
def Oh (bl : List (List eD)) : Nat := match bl with | fr :: _ => fr.length | [] => 0
theorem BL {m : Mt} {st : St} {w : World} (hw : bS m st w) : fE st 0 = Oh m.blk := by
 have h := hw.st
 cases st with
 | nil => simp only [fA] at h; rw [h]; rfl
 | cons fr st =>
  simp only [fA] at h
  obtain ⟨es, r, h1, h2, _⟩ := h
  rw [h1]
  exact h2.length.symm
theorem agm {m m' : Mt} {w w' : World} (hx : Ext m w m' w') : Oh m.blk ≤ Oh m'.blk := by
 have h1 := hx.ents.2
 generalize m.blk = a at h1 ⊢
 generalize m'.blk = b at h1 ⊢
 cases a with
 | nil => exact Nat.zero_le _
 | cons fr r =>
  simp only [Oh]
  rcases Nat.eq_zero_or_pos fr.length with h | h
  ·omega
  ·obtain ⟨e', h2, _⟩ := h1 0 (fr.length - 1) (fr[fr.length - 1]'(by omega)) (by simp only [ent]; exact List.getElem?_eq_getElem (by omega))
   cases b with
   | nil => simp [ent] at h2
   | cons fr' r' =>
    simp only [ent] at h2
    have := (List.getElem?_eq_some_iff.1 h2).1
    dsimp only
    omega
def Gg (n : Nat) (m m' : Mt) (st st' : St) : Prop := (m' = m ∧ st' = st) ∨ ∃ es r fr s, m.blk = es :: r ∧ m' = ⟨es.take n :: r, m.cl⟩ ∧ st = fr :: s ∧ st' = fr.take n :: s
theorem ZO {es : List eD} {n : Nat} {b : Nat} (h : b ∈ gT (es.take n)) : b ∈ gT es := by
 obtain ⟨e, h3, h4, h5⟩ := eG.1 h
 exact eG.2 ⟨e, List.mem_of_mem_take h3, h4, h5⟩
theorem Gg.blks {n : Nat} {m m' : Mt} {st st' : St} (h : Gg n m m' st st') : ∀ b ∈ Go.X.blks m'.blk, b ∈ Go.X.blks m.blk := by
 rcases h with ⟨rfl, _⟩ | ⟨es, r, fr, s, h1, rfl, _, _⟩
 ·exact fun b hb => hb
 ·intro b hb
  rw [h1, aX]
  rw [show Go.X.blks (Mt.blk ⟨es.take n :: r, m.cl⟩) = gT (es.take n) ++ Go.X.blks r from aX _ _] at hb
  rcases List.mem_append.1 hb with hb | hb
  ·exact List.mem_append.2 (.inl (ZO hb))
  ·exact List.mem_append.2 (.inr hb)
theorem wE {m0 m : Mt} {w0 w : World} {st : St} {ρ : Env} {a : Act} {n : Nat} (hx : Ext m0 w0 m w) (hn : Oh m0.blk ≤ n) (hw : bS m st w) (he : bR m w ρ a) : ∃ m', Ext m0 w0 m' w ∧ bS m' (trim gQ n ρ st) w ∧ bR m' w ρ a ∧ Gg n m m' st (trim gQ n ρ st) := by
 have stay : ∃ m', Ext m0 w0 m' w ∧ bS m' st w ∧ bR m' w ρ a ∧ Gg n m m' st st := ⟨m, hx, hw, he, .inl ⟨rfl, rfl⟩⟩
 cases st with
 | nil => exact stay
 | cons fr st =>
  simp only [trim]
  cases Nat.ble fr.length n with
  | true => exact stay
  | false =>
   cases hb1 : DU n ρ with
   | false => exact stay
   | true =>
    cases hb2 : G8 gQ n (fr.take n) with
    | false => exact stay
    | true =>
     simp only [cond_true, cond_false]
     have hst := hw.st
     simp only [fA] at hst
     obtain ⟨es, r, hbl, h1, h2⟩ := hst
     have hsub : ∀ b, b ∈ gT (es.take n) → b ∈ gT es := fun b hb => by
      obtain ⟨e, h3, h4, h5⟩ := eG.1 hb
      exact eG.2 ⟨e, List.mem_of_mem_take h3, h4, h5⟩
     have hmem : ∀ b, b ∈ blks (es.take n :: r) → b ∈ blks m.blk := fun b hb => by
      rw [hbl, aX]
      rw [aX] at hb
      rcases List.mem_append.1 hb with hb | hb
      ·exact List.mem_append.2 (.inl (hsub b hb))
      ·exact List.mem_append.2 (.inr hb)
     refine ⟨⟨es.take n :: r, m.cl⟩, ⟨hx.keeps, ⟨?_, fun l i e h => ?_⟩, hx.os, hx.tape, hx.output, hx.size, hx.kept, fun b hb => hx.new b (hmem b hb)⟩, ⟨?_, ?_, hw.le, hw.glob.sub hmem⟩, fun t => ?_, .inr ⟨es, r, fr, st, hbl, rfl, rfl, rfl⟩⟩
     ·have := hx.ents.1; rw [hbl] at this; simpa using this
     ·obtain ⟨e', h3, h4⟩ := hx.ents.2 l i e h
      refine ⟨e', ?_, h4⟩
      rw [← h3, hbl]
      refine ny ?_
      cases l with
      | succ l => rfl
      | zero =>
       have : i < Oh m0.blk := by
        cases hm : m0.blk with
        | nil => rw [hm] at h; simp [ent] at h
        | cons f s => rw [hm] at h; simp only [ent] at h; exact (List.getElem?_eq_some_iff.1 h).1
       exact Nat.ble_eq_true_of_le (by omega : i + 1 ≤ n)
     ·simp only [fA]
      exact ⟨es.take n, r, rfl, Ia hb2 (h1.aaY n), h2⟩
     ·have hnd := hw.nodup
      rw [hbl, aX] at hnd
      show (blks (es.take n :: r)).Nodup
      rw [aX]
      refine hnd.sublist (List.Sublist.append ?_ (List.Sublist.refl _))
      exact ((List.take_sublist n es).filter _).map _
     ·have := he t
      rw [hbl] at this
      exact o7 _ _ (zI t hb1) this
end Go.X
