/- T -/
import Derived.Test.YtedfkehkcaaplaaXStep
namespace Go.X
open Go
set_option linter.unusedVariables false
variable [bY]
section
variable {es : List bZ} {r : List (List bZ)} {cl : Nat → Nat} {w : World} {n : Nat}
theorem mU {l i : Nat} (h : (bif Nat.beq l 0 then Nat.blt i n else true) = true) : ent (es.take n :: r) l i = ent (es :: r) l i := by
 cases l with
 | zero =>
  have h : Nat.blt i n = true := h
  have hi : i < n := Nat.le_of_ble_eq_true h
  simp only [ent]
  rw [List.getElem?_take_of_lt hi]
 | succ l => rfl
mutual
theorem nV : ∀ (x : PV) (v : Value), below n x = true → aj (es :: r) cl w x v → aj (es.take n :: r) cl w x v
 | .d x, v, _, h => by simpa only [aj] using h
 | .agg cs, v, hb, h => by
  simp only [aj] at h ⊢
  obtain ⟨vs, h1, h2⟩ := h
  exact ⟨vs, h1, nR cs vs hb h2⟩
 | .ptr l i o, v, hb, h => by simp only [aj] at h ⊢; rw [mU hb]; exact h
 | .aS cs, v, _, h => by simpa only [aj] using h
 | .row l i k, v, hb, h => by simp only [aj] at h ⊢; rw [mU hb]; exact h
 | .kL l i k x o, v, hb, h => by simp only [aj] at h ⊢; rw [mU hb]; exact h
 | .fn f cs, v, hb, h => by
  simp only [aj] at h ⊢
  obtain ⟨vs, h1, h2⟩ := h
  exact ⟨vs, h1, nR cs vs hb h2⟩
 | .map l i, v, hb, h => by simp only [aj] at h ⊢; rw [mU hb]; exact h
 | .tail l i k o, v, hb, h => by simp only [aj] at h ⊢; rw [mU hb]; exact h
 | .jv l i, v, hb, h => by simp only [aj] at h ⊢; rw [mU hb]; exact h
 | .pG l, v, hb, h => by
  simp only [aj] at h ⊢
  obtain ⟨vs, h1, h2⟩ := h
  exact ⟨vs, h1, Ar l vs hb h2⟩
 | .skip, v, _, h => by simpa only [aj] using h
 | .ub, v, _, h => by simpa only [aj] using h
 | .unk, v, _, h => by simp only [aj]
theorem nR : ∀ (l : List PV) (vs : List Value), below.belows n l = true → aF (es :: r) cl w l vs → aF (es.take n :: r) cl w l vs
 | [], vs, _, h => by simpa only [aF] using h
 | x :: l, vs, hb, h => by
  simp only [aF] at h ⊢
  obtain ⟨v, s, h1, h2, h3, h4⟩ := h
  simp only [below.belows] at hb
  cases hx : below n x with
  | false => simp [hx] at hb
  | true =>
   simp only [hx, cond_true] at hb
   exact ⟨v, s, h1, nV x v hx h2, h3, nR l s hb h4⟩
theorem Ar : ∀ (l : List PV) (vs : List Value), below.belows n l = true → aK (es :: r) cl w l vs → aK (es.take n :: r) cl w l vs
 | [], vs, _, h => by simpa only [aK] using h
 | x :: l, vs, hb, h => by
  simp only [aK] at h ⊢
  obtain ⟨v, s, h1, h2, h3⟩ := h
  simp only [below.belows] at hb
  cases hx : below n x with
  | false => simp [hx] at hb
  | true =>
   simp only [hx, cond_true] at hb
   exact ⟨v, s, h1, nV x v hx h2, Ar l s hb h3⟩
end
theorem CJ {kk : KK} : ∀ (l : List (PV × PV)) (vs : List MapEntry), fF n l = true → eF kk (es :: r) cl w l vs → eF kk (es.take n :: r) cl w l vs
 | [], vs, _, h => h
 | x :: l, vs, hb, h => by
  obtain ⟨k, v⟩ := x
  simp only [eF] at h ⊢
  obtain ⟨e, s, h1, h2, h3, h4, h5, h6⟩ := h
  simp only [fF, Bool.and_eq_true] at hb
  exact ⟨e, s, h1, h2, nV _ _ hb.1.1 h3, nV _ _ hb.1.2 h4, h5, CJ l s hb.2 h6⟩
theorem yh : ∀ (l : List PV), tK l = true → below.belows n l = true
 | [], _ => rfl
 | x :: l, h => by
  cases x with
  | d x => simp only [tK] at h; simp only [below.belows, below, cond_true]; exact yh l h
  | _ => simp [tK] at h
theorem Au {v : PV} (h : sU v = true) : below n v = true := by
 cases v with
 | d x => rfl
 | agg cs => exact yh cs h
 | _ => simp [sU] at h
theorem yj : ∀ {es : List (PV × PV)}, ng es = true → fF n es = true
 | [], _ => rfl
 | (k, v) :: r, h => by
  simp only [ng, Bool.and_eq_true] at h
  simp only [fF, Bool.and_eq_true]
  exact ⟨⟨Au h.1.1, Au h.1.2⟩, yj h.2⟩
theorem wO : ∀ {ρ : Env} (t : Nat), zl n ρ = true → below n (gW ρ t) = true
 | [], t, _ => rfl
 | (k, v) :: ρ, t, h => by
  simp only [zl] at h
  cases hx : below n v with
  | false => simp [hx] at h
  | true =>
   simp only [hx, cond_true] at h
   simp only [gW]
   cases Nat.beq k t with
   | true => exact hx
   | false => exact wO t h
theorem NH {o : Obj} {e : bZ} (hb : MX fF n o = true) (h : aL (es :: r) cl w o e) : aL (es.take n :: r) cl w o e := by
 cases o with
 | box ty cells =>
  simp only [aL] at h ⊢
  obtain ⟨h1, h2, vs, h3, h4⟩ := h
  exact ⟨h1, h2, vs, h3, nR _ _ hb h4⟩
 | row ty sz rows mt cap => simpa only [aL] using h
 | void => simpa only [aL] using h
 | loop site ρ p =>
  simp only [aL] at h ⊢
  obtain ⟨h1, h2, q, h3, h4, h5, h6⟩ := h
  exact ⟨h1, h2, q, h3, h4, h5, fun t => nV _ _ (wO t hb) (h6 t)⟩
 | map kk fl l =>
  simp only [aL] at h ⊢
  obtain ⟨h1, h2, hf, ents, clock, h3, h4⟩ := h
  exact ⟨h1, h2, hf, ents, clock, h3, CJ _ _ (yj (hf hb)) h4⟩
theorem CK : ∀ {fr : List Obj} {q : List bZ}, Ca fF n fr = true → dN (es :: r) cl w fr q → dN (es.take n :: r) cl w fr q
 | [], q, _, h => by simpa only [dN] using h
 | o :: fr, q, hb, h => by
  simp only [dN] at h ⊢
  obtain ⟨e, s, h1, h2, h3⟩ := h
  simp only [Ca] at hb
  cases hx : MX fF n o with
  | false => simp [hx] at hb
  | true =>
   simp only [hx, cond_true] at hb
   exact ⟨e, s, h1, NH hx h2, CK hb h3⟩
theorem dN.Tq {bl : List (List bZ)} : ∀ {fr : List Obj} {q : List bZ} (k : Nat), dN bl cl w fr q → dN bl cl w (fr.take k) (q.take k)
 | fr, q, 0, h => by simp [dN]
 | [], q, k + 1, h => by simp only [dN] at h; subst h; simp [dN]
 | o :: fr, q, k + 1, h => by
  simp only [dN] at h
  obtain ⟨e, s, rfl, h2, h3⟩ := h
  simp only [List.take_succ_cons, dN]
  exact ⟨e, _, rfl, h2, h3.Tq k⟩
end
def Il (bl : List (List bZ)) : Nat := match bl with | fr :: _ => fr.length | [] => 0
theorem yt {m : Mt} {st : St} {w : World} (hw : aO m st w) : dD st 0 = Il m.blk := by
 have h := hw.st
 cases st with
 | nil => simp only [dH] at h; rw [h]; rfl
 | cons fr st =>
  simp only [dH] at h
  obtain ⟨es, r, h1, h2, _⟩ := h
  rw [h1]
  exact h2.length.symm
theorem XI {m m' : Mt} {w w' : World} (hx : Ext m w m' w') : Il m.blk ≤ Il m'.blk := by
 have h1 := hx.ents.2
 generalize m.blk = a at h1 ⊢
 generalize m'.blk = b at h1 ⊢
 cases a with
 | nil => exact Nat.zero_le _
 | cons fr r =>
  simp only [Il]
  rcases Nat.eq_zero_or_pos fr.length with h | h
  ·omega
  ·obtain ⟨e', h2, _⟩ := h1 0 (fr.length - 1) (fr[fr.length - 1]'(by omega)) (by simp only [ent]; exact List.getElem?_eq_getElem (by omega))
   cases b with
   | nil => simp [ent] at h2
   | cons fr' r' =>
    simp only [ent] at h2
    have := (List.getElem?_eq_some_iff.1 h2).1
    dsimp only
    omega
def Bz (n : Nat) (m m' : Mt) (st st' : St) : Prop := (m' = m ∧ st' = st) ∨ ∃ es r fr s, m.blk = es :: r ∧ m' = ⟨es.take n :: r, m.cl⟩ ∧ st = fr :: s ∧ st' = fr.take n :: s
theorem Rl {es : List bZ} {n : Nat} {b : Nat} (h : b ∈ eX (es.take n)) : b ∈ eX es := by
 obtain ⟨e, h3, h4, h5⟩ := cB.1 h
 exact cB.2 ⟨e, List.mem_of_mem_take h3, h4, h5⟩
theorem Bz.blks {n : Nat} {m m' : Mt} {st st' : St} (h : Bz n m m' st st') : ∀ b ∈ Go.X.blks m'.blk, b ∈ Go.X.blks m.blk := by
 rcases h with ⟨rfl, _⟩ | ⟨es, r, fr, s, h1, rfl, _, _⟩
 ·exact fun b hb => hb
 ·intro b hb
  rw [h1, aA]
  rw [show Go.X.blks (Mt.blk ⟨es.take n :: r, m.cl⟩) = eX (es.take n) ++ Go.X.blks r from aA _ _] at hb
  rcases List.mem_append.1 hb with hb | hb
  ·exact List.mem_append.2 (.inl (Rl hb))
  ·exact List.mem_append.2 (.inr hb)
theorem uz {m0 m : Mt} {w0 w : World} {st : St} {ρ : Env} {a : Act} {n : Nat} (hx : Ext m0 w0 m w) (hn : Il m0.blk ≤ n) (hw : aO m st w) (he : aM m w ρ a) : ∃ m', Ext m0 w0 m' w ∧ aO m' (trim fF n ρ st) w ∧ aM m' w ρ a ∧ Bz n m m' st (trim fF n ρ st) := by
 have stay : ∃ m', Ext m0 w0 m' w ∧ aO m' st w ∧ aM m' w ρ a ∧ Bz n m m' st st := ⟨m, hx, hw, he, .inl ⟨rfl, rfl⟩⟩
 cases st with
 | nil => exact stay
 | cons fr st =>
  simp only [trim]
  cases Nat.ble fr.length n with
  | true => exact stay
  | false =>
   cases hb1 : zl n ρ with
   | false => exact stay
   | true =>
    cases hb2 : Ca fF n (fr.take n) with
    | false => exact stay
    | true =>
     simp only [cond_true, cond_false]
     have hst := hw.st
     simp only [dH] at hst
     obtain ⟨es, r, hbl, h1, h2⟩ := hst
     have hsub : ∀ b, b ∈ eX (es.take n) → b ∈ eX es := fun b hb => by
      obtain ⟨e, h3, h4, h5⟩ := cB.1 hb
      exact cB.2 ⟨e, List.mem_of_mem_take h3, h4, h5⟩
     have hmem : ∀ b, b ∈ blks (es.take n :: r) → b ∈ blks m.blk := fun b hb => by
      rw [hbl, aA]
      rw [aA] at hb
      rcases List.mem_append.1 hb with hb | hb
      ·exact List.mem_append.2 (.inl (hsub b hb))
      ·exact List.mem_append.2 (.inr hb)
     refine ⟨⟨es.take n :: r, m.cl⟩, ⟨hx.keeps, ⟨?_, fun l i e h => ?_⟩, hx.os, hx.tape, hx.output, hx.size, hx.kept, fun b hb => hx.new b (hmem b hb), hx.cls⟩, ⟨?_, ?_, hw.le, hw.glob.sub hmem⟩, fun t => ?_, .inr ⟨es, r, fr, st, hbl, rfl, rfl, rfl⟩⟩
     ·have := hx.ents.1; rw [hbl] at this; simpa using this
     ·obtain ⟨e', h3, h4⟩ := hx.ents.2 l i e h
      refine ⟨e', ?_, h4⟩
      rw [← h3, hbl]
      refine mU ?_
      cases l with
      | succ l => rfl
      | zero =>
       have : i < Il m0.blk := by
        cases hm : m0.blk with
        | nil => rw [hm] at h; simp [ent] at h
        | cons f s => rw [hm] at h; simp only [ent] at h; exact (List.getElem?_eq_some_iff.1 h).1
       exact Nat.ble_eq_true_of_le (by omega : i + 1 ≤ n)
     ·simp only [dH]
      exact ⟨es.take n, r, rfl, CK hb2 (h1.Tq n), h2⟩
     ·have hnd := hw.nodup
      rw [hbl, aA] at hnd
      show (blks (es.take n :: r)).Nodup
      rw [aA]
      refine hnd.sublist (List.Sublist.append ?_ (List.Sublist.refl _))
      exact ((List.take_sublist n es).filter _).map _
     ·have := he t
      rw [hbl] at this
      exact nV _ _ (wO t hb1) this
end Go.X
