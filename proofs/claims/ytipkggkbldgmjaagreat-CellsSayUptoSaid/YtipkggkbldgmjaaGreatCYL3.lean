/- Values on plain data: several laws, one behind the other. -/
import Derived.Test.YtipkggkbldgmjaaGreatCYL2
namespace Go.Proofs.YtipkggkbldgmjaaGreat
open Go Go.X
set_option linter.unusedVariables false
set_option linter.unusedSimpArgs false
set_option maxRecDepth 100000
theorem Uq (fu : Nat) (s : ByteArray) : P50 fu s = some (F9 s) := by
 unfold P50 F9
 rw [fH]
 rfl
theorem Ur (fu : Nat) (s : ByteArray) : P53 fu s = some (F9 s) := by
 unfold P53 F9
 rw [fH, KN, Bool.not_not]
 rfl
structure GV (N : Nat) (v : Value) : Prop where
 fit : Fit N v
 kd : Kd N v
 size : vN N v ≤ 4611686018427387904
theorem afX {N n : Nat} {t v : Value} (h : qC N t v) (hv : GV N v) (hn : N ≤ n) : P49 n t = some (kV N v) := by
 rw [Um (GX N t v h hv.fit) hn, GZ h]
theorem Zq {N n : Nat} {v : Value} (hv : GV N v) (hn : 4 * N ≤ n) : P54 n v = some (kV N v) := aat hv.fit hv.kd hn hv.size
theorem afY {A : Type} {l l' : List A} (p q : A → Bool) (hl : l.length = l'.length) (h : ∀ (i : Nat) t a, l[i]? = some t → l'[i]? = some a → p t = q a) : l.all p = l'.all q := by
 rw [← nE l (WW l p) p fun k hk => jQ hk, ← nE l' (WW l' q) q fun k hk => jQ hk, hl]
 rw [Bool.eq_iff_iff]
 simp only [List.all_eq_true, List.mem_range]
 constructor <;> intro hh i hi
 ·have := hh i hi
  rw [jQ (by omega)] at this ⊢
  rw [← h i l[i] l'[i] (List.getElem?_eq_getElem (by omega)) (List.getElem?_eq_getElem hi)]; exact this
 ·have := hh i hi
  rw [jQ (by omega)] at this ⊢
  rw [h i l[i] l'[i] (List.getElem?_eq_getElem (by omega)) (List.getElem?_eq_getElem hi)]; exact this
theorem FV {A : Type} (l : List A) (q : A → Bool) : decide (0 ≤ placeOf (l.findIdx? q)) = l.any q := by
 cases h : l.findIdx? q with
 | none =>
  have : l.any q = false := by
   rw [List.findIdx?_eq_none_iff] at h
   rw [List.any_eq_false]
   intro z hz
   rw [h z hz]
   decide
  rw [this]; rfl
 | some j =>
  have : l.any q = true := by
   obtain ⟨h1, h2, _⟩ := List.findIdx?_eq_some_iff_getElem.1 h
   exact List.any_eq_true.2 ⟨_, List.getElem_mem h1, h2⟩
  rw [this]
  show decide ((0 : Int) ≤ (j : Int)) = true
  simp
theorem ai8 {A : Type} (l : List A) (q : A → Bool) : l.any (fun x => !(q x)) = !(l.all q) := by
 induction l with
 | nil => rfl
 | cons a r ih => rw [List.any_cons, List.all_cons, ih]; cases q a <;> cases r.all q <;> rfl
theorem ai9 (fu : Nat) (p : Value → Option Bool) (l : List Value) : QG fu p l = l8 p l := by
 funext q
 obtain ⟨r, i⟩ := q
 unfold QG l8
 dsimp only
 cases decide (i < ln l)
 ·rfl
 ·cases idx l i with
  | none => rfl
  | some x => obtain ⟨_, _, _, ⟨_, _⟩, ⟨_, _⟩, _, _, _⟩ := x; rfl
theorem apd {N n : Nat} {o l : List Value} {x : Option (List Value)} (h0 : o.length = l.length) (hT : ∀ (i : Nat) t a, o[i]? = some t → l[i]? = some a → Tw N t a) (hl : l.length ≤ 8796093022208) (h : ∀ v ∈ l, GV N v) (hn : N ≤ n) :
  P47 n ⟨o, x⟩ (P48 n) = some (!(l.all (kV N))) := by
 have hp : ∀ t ∈ o, P48 n t = some (!(kV N t)) := fun t ht => by
  obtain ⟨i, hi⟩ := List.mem_iff_getElem?.1 ht
  have hlt : i < l.length := by rw [← h0]; exact (List.getElem?_eq_some_iff.1 hi).1
  have ha := Tw.ali _ _ _ (hT i t l[i] hi (List.getElem?_eq_getElem hlt))
  have := afX ha (h _ (List.getElem_mem hlt)) hn
  rw [← GZ ha] at this
  unfold P48
  obtain ⟨_, _, _, ⟨_, _⟩, ⟨_, _⟩, _, _, _⟩ := t
  dsimp only
  rw [this]
  rfl
 unfold P47 P74
 dsimp only
 rw [ai9]
 refine (congrArg (fun z => Option.bind z fun r1 => some (decide (0 ≤ r1))) (vw (fun t => !(kV N t)) (by omega) hp)).trans ?_
 rw [Option.bind_some, FV, ai8]
 rw [afY (kV N) (kV N) h0 fun i t a g1 g2 => GZ (Tw.ali _ _ _ (hT i t a g1 g2))]
theorem ape {N n : Nat} {l : List Value} {x : Option (List Value)} (hl : l.length ≤ 8796093022208) (h : ∀ v ∈ l, GV N v) (hn : 4 * N ≤ n) : P57 n ⟨l, x⟩ = some (l.all (kV N)) := by
 unfold P57
 dsimp only
 have hr : Runs (wl (JL n l) 0) ((List.range l.length).all (WW l (kV N))) := by
  refine jq (n := l.length) _ (by omega) (fun k hk => ?_) ?_
  ·unfold JL
   dsimp only
   rw [gU hk, fO l k hk, jQ hk]
   have := Zq (h _ (List.getElem_mem hk)) hn
   generalize l[k] = v at this
   obtain ⟨_, _, _, ⟨_, _⟩, ⟨_, _⟩, _, _, _⟩ := v
   simp only [cond_true, Option.bind_some, this]
   cases kV N _ <;> rfl
  ·unfold JL
   dsimp only
   rw [fU]; rfl
 rw [hr.use (t := some true) (f := some false) (fun _ => rfl) (fun _ => rfl), nE l _ (kV N) fun k hk => jQ hk]
 cases l.all (kV N) <;> rfl
def KQ (l : List Field) (i : Nat) : Bool := match l[i]? with
 | none => true
 | some f => F9 (vB f) && match i with
  | 0 => true
  | j + 1 => match l[j]? with | none => true | some g => !(slt (vB f) (vB g) || seq (vB f) (vB g))
theorem yR {l : List Field} {f : Field} (h : l[0]? = some f) : KQ l 0 = F9 (vB f) := by
 unfold KQ; rw [h]; exact Bool.and_true _
theorem yS {l : List Field} {k : Nat} {f g : Field} (h : l[k + 1]? = some f) (h2 : l[k]? = some g) : KQ l (k + 1) = (F9 (vB f) && !(slt (vB f) (vB g) || seq (vB f) (vB g))) := by
 unfold KQ; rw [h]; dsimp only; rw [h2]
def upB (N : Nat) (l : List Field) : Bool := (List.range l.length).all fun i => KQ l i && WW l (fun q => kV N (fZ q)) i
theorem afZ {N : Nat} {o l : List Field} (h0 : o.length = l.length) (hT : ∀ (i : Nat) t a, o[i]? = some t → l[i]? = some a → yU (Tw N) t a) : upB N o = upB N l := by
 have hA : ∀ (i : Nat) t a, o[i]? = some t → l[i]? = some a → yU (qC N) t a := fun i t a g1 g2 => by
  have := hT i t a g1 g2
  obtain ⟨m, u⟩ := t
  obtain ⟨m', u'⟩ := a
  exact ⟨this.1, Tw.ali _ _ _ this.2⟩
 have hm := Nw h0 hA
 unfold upB
 rw [h0, Bool.eq_iff_iff]
 simp only [List.all_eq_true, List.mem_range]
 have : ∀ i, i < l.length → (KQ o i && WW o (fun q => kV N (fZ q)) i) = (KQ l i && WW l (fun q => kV N (fZ q)) i) := fun i hi => by
  have ho : i < o.length := by omega
  rw [jQ ho, jQ hi]
  have e1 : KQ o i = KQ l i := by
   have h1 := sH hm i
   cases i with
   | zero =>
    rw [List.getElem?_eq_getElem ho, List.getElem?_eq_getElem hi] at h1
    rw [yR (List.getElem?_eq_getElem ho), yR (List.getElem?_eq_getElem hi), Option.some.inj h1]
   | succ j =>
    have h4 := sH hm j
    rw [List.getElem?_eq_getElem ho, List.getElem?_eq_getElem hi] at h1
    rw [List.getElem?_eq_getElem (show j < o.length by omega), List.getElem?_eq_getElem (show j < l.length by omega)] at h4
    rw [yS (List.getElem?_eq_getElem ho) (List.getElem?_eq_getElem (show j < o.length by omega)), yS (List.getElem?_eq_getElem hi) (List.getElem?_eq_getElem (show j < l.length by omega)), Option.some.inj h1, Option.some.inj h4]
  have e2 : kV N (fZ o[i]) = kV N (fZ l[i]) := by
   have := hA i _ _ (List.getElem?_eq_getElem ho) (List.getElem?_eq_getElem hi)
   generalize o[i] = a at this
   generalize l[i] = b at this
   obtain ⟨m, u⟩ := a
   obtain ⟨m', u'⟩ := b
   exact GZ this.2
  rw [e1, e2]
 constructor <;> intro hh i hi
 ·rw [← this i hi]; exact hh i hi
 ·rw [this i hi]; exact hh i hi
theorem akd {N n : Nat} {o : List Field} {x : Option (List Field)} (hl : o.length ≤ 8796093022208) (h : ∀ q ∈ o, Fit N (fZ q)) (hn : N ≤ n) : P52 n ⟨o, x⟩ = some (upB N o) := by
 unfold P52 upB
 dsimp only
 have hr : Runs (wl (Jw n o) 0) ((List.range o.length).all fun k => KQ o k && WW o (fun q => kV N (fZ q)) k) := by
  refine jq (n := o.length) _ (by omega) (fun k hk => ?_) ?_
  ·unfold Jw
   dsimp only
   rw [gU hk, fO o k hk, jQ hk]
   have hm := List.getElem?_eq_getElem hk
   have := Um (h _ (List.getElem_mem hk)) hn
   generalize o[k] = q at this hm
   obtain ⟨m, ⟨_, _, _, ⟨_, _⟩, ⟨_, _⟩, _, _, _⟩⟩ := q
   simp only [fZ] at this
   simp only [cond_true, Option.bind_some, Uq, this, fZ]
   cases k with
   | zero =>
    rw [yR hm]
    simp only [vB]
    cases F9 m <;> cases kV N _ <;> rfl
   | succ k =>
    have hz := List.getElem?_eq_getElem (show k < o.length by omega)
    have e1 : decide (0 < ((k + 1 : Nat) : Int)) = true := by simp
    have e2 : fq (((k + 1 : Nat) : Int) - 1) = (k : Int) := by rw [nA (by omega) (by omega)]; omega
    rw [e1, e2, fO o k (by omega)]
    generalize o[k] = z at hz
    rw [yS hm hz]
    obtain ⟨m', ⟨_, _, _, ⟨_, _⟩, ⟨_, _⟩, _, _, _⟩⟩ := z
    simp only [Option.bind_some, vB, cond_true]
    cases F9 m <;> cases (slt m m' || seq m m') <;> cases kV N _ <;> rfl
  ·unfold Jw
   dsimp only
   rw [fU]; rfl
 rw [hr.use (t := some true) (f := some false) (fun _ => rfl) (fun _ => rfl)]
 cases (List.range o.length).all _ <;> rfl
theorem ake {N n : Nat} {o : List Field} {x : Option (List Field)} (hl : o.length ≤ 8796093022208) (h : ∀ q ∈ o, GV N (fZ q)) (hn : 4 * N ≤ n) : P58 n ⟨o, x⟩ = some (upB N o) := by
 unfold P58 upB
 dsimp only
 have hr : Runs (wl (JM n o) 0) ((List.range o.length).all fun k => KQ o k && WW o (fun q => kV N (fZ q)) k) := by
  refine jq (n := o.length) _ (by omega) (fun k hk => ?_) ?_
  ·unfold JM
   dsimp only
   rw [gU hk, fO o k hk, jQ hk]
   have hm := List.getElem?_eq_getElem hk
   have := Zq (h _ (List.getElem_mem hk)) hn
   generalize o[k] = q at this hm
   obtain ⟨m, ⟨_, _, _, ⟨_, _⟩, ⟨_, _⟩, _, _, _⟩⟩ := q
   simp only [fZ] at this
   simp only [cond_true, Option.bind_some, Ur, this, fZ]
   cases k with
   | zero =>
    rw [yR hm]
    simp only [vB]
    cases F9 m <;> cases kV N _ <;> rfl
   | succ k =>
    have hz := List.getElem?_eq_getElem (show k < o.length by omega)
    have e1 : decide (0 < ((k + 1 : Nat) : Int)) = true := by simp
    have e2 : fq (((k + 1 : Nat) : Int) - 1) = (k : Int) := by rw [nA (by omega) (by omega)]; omega
    rw [e1, e2, fO o k (by omega)]
    generalize o[k] = z at hz
    rw [yS hm hz]
    obtain ⟨m', ⟨_, _, _, ⟨_, _⟩, ⟨_, _⟩, _, _, _⟩⟩ := z
    simp only [Option.bind_some, vB, cond_true]
    cases F9 m <;> cases (slt m m' || seq m m') <;> cases kV N _ <;> rfl
  ·unfold JM
   dsimp only
   rw [fU]; rfl
 rw [hr.use (t := some true) (f := some false) (fun _ => rfl) (fun _ => rfl)]
 cases (List.range o.length).all _ <;> rfl
structure GC (N : Nat) (c : Cell) : Prop where
 ok : Bc N c
 none : SizeOf.sizeOf RG ≤ N
 value : GV N c.lK
 next : GV N c.Next
 deps : ∀ v ∈ c.Vq.l, GV N v
 env : ∀ q ∈ c.Env.l, GV N (fZ q)
 past : ∀ q ∈ c.Past.l, GV N (fZ q)
theorem Zr {N n m : Nat} {t v : Value} (h : qC N t v) (hv : KT v) (h0 : SizeOf.sizeOf RG ≤ N) (hn : 4 * N ≤ n) (hm : 4 * N ≤ m) : ∃ z, P51 n t = some z ∧ P56 m v = some z := by
 obtain ⟨r, g1, g2⟩ := Uj N n m v RG t RG h (qC.refl N RG h0) hn hm hv
 refine ⟨r, ?_, ?_⟩
 ·unfold P51
  obtain ⟨_, _, _, ⟨_, _⟩, ⟨_, _⟩, _, _, _⟩ := t
  dsimp only
  unfold RG at g1
  rw [g1]; rfl
 ·unfold P56
  obtain ⟨_, _, _, ⟨_, _⟩, ⟨_, _⟩, _, _, _⟩ := v
  dsimp only
  unfold RG at g2
  rw [g2]; rfl
theorem af0 {N : Nat} {o l : List Field} (h0 : o.length = l.length) (hT : ∀ (i : Nat) t a, o[i]? = some t → l[i]? = some a → yU (Tw N) t a) (h : ∀ q ∈ l, GV N (fZ q)) : ∀ q ∈ o, Fit N (fZ q) := fun q hq => by
 obtain ⟨i, hi⟩ := List.mem_iff_getElem?.1 hq
 have hlt : i < l.length := by rw [← h0]; exact (List.getElem?_eq_some_iff.1 hi).1
 have h1 := hT i q l[i] hi (List.getElem?_eq_getElem hlt)
 have h2 := (h _ (List.getElem_mem hlt)).fit
 obtain ⟨m, u⟩ := q
 generalize l[i] = z at h1 h2
 obtain ⟨m', u'⟩ := z
 exact GX N u u' (Tw.ali _ _ _ h1.2) h2
theorem aja {a b c d e : Nat} (h1 : a ≤ 8796093022208) (h2 : b ≤ 8796093022208) (h3 : c ≤ 8796093022208) (h4 : d ≤ 8796093022208) (h5 : e ≤ 8796093022208) :
  ∀ T : Int, T = fq (fq (fq (fq ((a : Int) + (b : Int)) + (c : Int)) + (d : Int)) + (e : Int)) → decide (0 < T) = !(T == 0) := by
 intro T hT
 rw [nA (n := (a : Int) + (b : Int)) (by omega) (by omega), nA (n := (a : Int) + (b : Int) + (c : Int)) (by omega) (by omega), nA (n := (a : Int) + (b : Int) + (c : Int) + (d : Int)) (by omega) (by omega), nA (by omega) (by omega)] at hT
 subst hT
 by_cases h : (a : Int) + (b : Int) + (c : Int) + (d : Int) + (e : Int) = 0
 ·rw [h]; rfl
 ·have e1 : ((a : Int) + (b : Int) + (c : Int) + (d : Int) + (e : Int) == 0) = false := by simpa using h
  rw [e1]
  simp; omega
theorem apf {N n m : Nat} {t c : Cell} (ht : TwC N t c) (hc : GC N c) (hn : 4 * N ≤ n) (hm : 4 * N ≤ m) : ∃ r, P26 n t = some r ∧ P27 m c = some r := by
 obtain ⟨⟨hs, hv, hx, ⟨d1, d2⟩, ⟨do1, do2⟩, ⟨u1, u2⟩, ⟨e1, e2⟩, ⟨o1, o2⟩, ⟨p1, p2⟩⟩, hN, gv, gx, gd, ge, gp⟩ := hc
 obtain ⟨k, nm, v, nx, ⟨dl, dx⟩, ⟨ol, ox⟩, ⟨ul, ux⟩, ⟨el, ex⟩, r, q, ⟨pl, px⟩, ⟨tl, tx⟩⟩ := c
 obtain ⟨k', nm', v', nx', ⟨dl', dx'⟩, ⟨ol', ox'⟩, ⟨ul', ux'⟩, ⟨el', ex'⟩, r', q', ⟨pl', px'⟩, ⟨tl', tx'⟩⟩ := t
 obtain ⟨t1, t2, t3, t4, ⟨_, t6, t7⟩, ⟨_, t8, _⟩, ⟨_, t9, _⟩, ⟨_, t10, apg⟩, t11, t12, ⟨_, t13, _⟩, ⟨_, t14, aph⟩⟩ := ht
 dsimp only at hv hx d1 d2 do1 do2 u1 u2 e1 e2 o1 o2 p1 p2 t1 t2 t3 t4 t6 t7 t8 t9 t10 apg t11 t12 t13 t14 aph gv gx gd ge gp
 subst t1; subst t2; subst t11; subst t12
 have l1 := dX (by omega) d1
 have l2 := dX (by omega) do1
 have l3 := dX (by omega) u1
 have l4 := dX (by omega) e1
 have l5 := dX (by omega) o1
 have l6 := dX (by omega) p1
 have a3 := Tw.ali _ _ _ t3
 have a4 := Tw.ali _ _ _ t4
 have c1 := afX (n := n) a3 gv (by omega)
 have c2 := afX (n := n) a4 gx (by omega)
 have c3 := Zq (n := m) gv hm
 have c4 := Zq (n := m) gx hm
 obtain ⟨z1, b1, b2⟩ := Zr a3 hv hN hn hm
 obtain ⟨z2, b3, b4⟩ := Zr a4 hx hN hn hm
 have f1 := apd (N := N) (n := n) (x := dx') t6 t7 l1 gd (by omega)
 have f2 := ape (N := N) (n := m) (x := dx) l1 gd hm
 have f3 := akd (N := N) (n := n) (x := ex') (o := el') (by omega) (af0 t10 apg ge) (by omega)
 have f4 := ake (N := N) (n := m) (x := ex) l4 ge hm
 have f5 := akd (N := N) (n := n) (x := tx') (o := tl') (by omega) (af0 t14 aph gp) (by omega)
 have f6 := ake (N := N) (n := m) (x := tx) l6 gp hm
 rw [afZ t10 apg] at f3
 rw [afZ t14 aph] at f5
 have hd : ln dl' = ln dl := by simp [ln, t6]
 have h1 : ln ol' = ln ol := by simp [ln, t8]
 have h2 : ln ul' = ln ul := by simp [ln, t9]
 have h3 : ln el' = ln el := by simp [ln, t10]
 have h4 : ln pl' = ln pl := by simp [ln, t13]
 have h5 : ln tl' = ln tl := by simp [ln, t14]
 unfold P26 P27 P55
 obtain ⟨_, _, _, ⟨_, _⟩, ⟨_, _⟩, _, _, _⟩ := v
 obtain ⟨_, _, _, ⟨_, _⟩, ⟨_, _⟩, _, _, _⟩ := nx
 obtain ⟨_, _, _, ⟨_, _⟩, ⟨_, _⟩, _, _, _⟩ := v'
 obtain ⟨_, _, _, ⟨_, _⟩, ⟨_, _⟩, _, _, _⟩ := nx'
 dsimp only
 rw [c1, c2, c3, c4, b1, b2, b3, b4, f1, f2, f3, f4, f5, f6, hd, h1, h2, h3, h4, h5, Uq, Ur]
 generalize hS : fq (fq (fq (fq (ln ol + ln ul) + ln el) + ln pl) + ln tl) = S
 rw [aja l2 l3 l4 l5 l6 S hS.symm]
 generalize (S == 0) = T
 generalize (fq (ln pl + ln tl) == 0) = T2
 generalize (ln dl == 0) = Z
 generalize dl.all (kV N) = L
 generalize upB N el = U1
 generalize upB N tl = U2
 generalize F9 nm' = M
 generalize seq nm' ByteArray.empty = E
 simp only [fH, qU, Option.bind_some, Bool.not_not]
 generalize kV N _ = A1
 generalize kV N _ = A2
 generalize (k' == 1) = k1
 generalize (k' == 2) = k2
 generalize (k' == 3) = k3
 generalize (k' == 4) = k4
 generalize (k' == 5) = k5
 have hT : (bif T then some r' else some true) = some (!T || r') := by cases T <;> rfl
 rw [hT, Option.bind_some]
 cases k1
 ·cases k2
  ·cases k3
   ·cases k4 <;> cases k5 <;> (refine ⟨_, rfl, ?_⟩; first | rfl | (show some _ = some _; congr 1; grind))
   ·refine ⟨_, rfl, ?_⟩
    show some _ = some _
    congr 1
    grind
  ·refine ⟨_, rfl, ?_⟩
   show some _ = some _
   congr 1
   grind
 ·refine ⟨_, rfl, ?_⟩
  show some _ = some _
  congr 1
  grind
def Us (nm : ByteArray) (c : Cell) : Bool := c.Kind == 1 && seq c.Name nm
theorem af2 (fu : Nat) (l : List Int) (a : Int) : Pg fu l a = l8 (fun x => some (a == x)) l := by
 funext q
 obtain ⟨r, i⟩ := q
 unfold Pg l8
 rfl
theorem Ny (fu : Nat) (k : Int) : P43 fu ⟨[1], some []⟩ k = some (k == 1) := by
 unfold P43 P71
 dsimp only
 rw [af2]
 refine (congrArg (fun z => Option.bind z fun r1 => some (decide (0 ≤ r1))) (vw (l := [1]) (fun x => k == x) (by decide) (fun x _ => rfl))).trans ?_
 rw [Option.bind_some, FV]
 simp
theorem Nz {A : Type} (b : Bool) (x y : A) : (bif b then some x else some y) = some (bif b then x else y) := by cases b <;> rfl
theorem af3 {A : Type} (a b : Bool) (x y : A) : ((bif !(!a) then some (!b) else some true).bind fun q => bif q then some x else some y) = some (bif a && b then y else x) := by cases a <;> cases b <;> rfl
theorem E8 {A B : Type} {o : List A} {l : List B} (p : A → Bool) (q : B → Bool) (h0 : o.length = l.length) (h : ∀ (i : Nat) t a, o[i]? = some t → l[i]? = some a → p t = q a) : o.findIdx? p = l.findIdx? q := by
 have e : o.map p = l.map q := by
  refine List.ext_getElem (by simpa using h0) fun i h1 h2 => ?_
  simp only [List.getElem_map]
  simp only [List.length_map] at h1 h2
  exact h i _ _ (List.getElem?_eq_getElem h1) (List.getElem?_eq_getElem h2)
 have e1 : o.findIdx? p = (o.map p).findIdx? id := by rw [List.findIdx?_map]; rfl
 have e2 : l.findIdx? q = (l.map q).findIdx? id := by rw [List.findIdx?_map]; rfl
 rw [e1, e2, e]
theorem arP (fu : Nat) (c : Cell) (nm : ByteArray) : Mi fu c ⟨[1], some []⟩ nm = some (Us nm c) := by
 unfold Mi XJ Us
 obtain ⟨_, _, ⟨_, _, _, ⟨_, _⟩, ⟨_, _⟩, _, _, _⟩, ⟨_, _, _, ⟨_, _⟩, ⟨_, _⟩, _, _, _⟩, ⟨_, _⟩, ⟨_, _⟩, ⟨_, _⟩, ⟨_, _⟩, _, _, ⟨_, _⟩, ⟨_, _⟩⟩ := c
 dsimp only
 rw [Ny]
 simp only [Option.bind_some, fH]
theorem Zt (fu : Nat) (o : List Cell) (x : Option (List Cell)) (nm : ByteArray) (hl : o.length ≤ 8796093022208) : P17 fu ⟨o, x⟩ nm = some (placeOf (o.findIdx? (Us nm))) := by
 have e : Cx fu ⟨[1], some []⟩ nm o = l8 (fun c => Mi fu c ⟨[1], some []⟩ nm) o := by
  funext q
  obtain ⟨r, i⟩ := q
  unfold Cx l8
  dsimp only
  cases decide (i < ln o)
  ·rfl
  ·cases idx o i with
   | none => rfl
   | some x => obtain ⟨_, _, ⟨_, _, _, ⟨_, _⟩, ⟨_, _⟩, _, _, _⟩, ⟨_, _, _, ⟨_, _⟩, ⟨_, _⟩, _, _, _⟩, ⟨_, _⟩, ⟨_, _⟩, ⟨_, _⟩, ⟨_, _⟩, _, _, ⟨_, _⟩, ⟨_, _⟩⟩ := x; rfl
 unfold P17 XL XK
 dsimp only
 rw [e]
 refine (congrArg (fun z => Option.bind (Option.bind z some) some) (vw (Us nm) (by omega) (fun c _ => arP fu c nm))).trans ?_
 rfl
theorem Zu (fu : Nat) (l : List Cell) (x : Option (List Cell)) (nm : ByteArray) (hl : l.length ≤ 8796093022208) : P19 fu ⟨l, x⟩ nm = some (placeOf (l.findIdx? (Us nm))) := by
 unfold P19
 dsimp only
 have := Ej (f := Jr fu l nm) l (Us nm) (fun k => (0, (k : Int))) (fun j => .inr ((j : Int), (j : Int))) (.inl (0, (l.length : Int))) (fun k hk => by
  unfold Jr
  dsimp only
  rw [gU hk, fO l k hk]
  generalize l[k] = c
  obtain ⟨_, _, ⟨_, _, _, ⟨_, _⟩, ⟨_, _⟩, _, _, _⟩, ⟨_, _, _, ⟨_, _⟩, ⟨_, _⟩, _, _, _⟩, ⟨_, _⟩, ⟨_, _⟩, ⟨_, _⟩, ⟨_, _⟩, _, _, ⟨_, _⟩, ⟨_, _⟩⟩ := c
  simp only [cond_true, Option.bind_some, fH, Us, iF (show k < 9223372036854775807 by omega)]
  exact Nz _ _ _) (by
  unfold Jr
  dsimp only
  rw [fU]; rfl)
 rw [show ((0 : Nat) : Int) = 0 from rfl] at this
 rw [this]
 cases l.findIdx? (Us nm) <;> rfl
theorem Zv {N : Nat} {t c : Cell} (h : TwC N t c) (nm : ByteArray) : Us nm t = Us nm c := by
 unfold Us; rw [h.kind, h.name]
section
variable {N n m : Nat} {o l : List Cell} {x y : Option (List Cell)} (h0 : o.length = l.length) (hT : ∀ (i : Nat) t a, o[i]? = some t → l[i]? = some a → TwC N t a) (hl : l.length ≤ 8796093022208) (hG : ∀ c ∈ l, GC N c) (hn : 4 * N ≤ n) (hm : 4 * N ≤ m)
include h0 hT hl hG hn hm
theorem ajb (hN : SizeOf.sizeOf RG ≤ N) (nm : ByteArray) : ∃ v w b, P5 n ⟨o, x⟩ nm = some (v, b) ∧ P6 m ⟨l, y⟩ nm = some (w, b) ∧ P13 m v w = some true := by
 have e := E8 (o := o) (l := l) (Us nm) (Us nm) h0 fun i t a g1 g2 => Zv (hT i t a g1 g2) nm
 unfold P5 P6
 dsimp only
 rw [Zt n o x nm (by omega), Zu m l y nm hl, e]
 cases hf : l.findIdx? (Us nm) with
 | none =>
  refine ⟨RG, RG, false, rfl, rfl, Nu N m RG RG (qC.refl N RG hN) ?_ (by omega)⟩
  obtain ⟨N', rfl⟩ : ∃ N', N = N' + 1 := ⟨N - 1, by unfold RG at hN; simp only [Value.mk.sizeOf_spec] at hN; omega⟩
  exact ⟨⟨by simp, fun v hv => by cases hv⟩, by simp, fun v hv => by cases hv⟩
 | some j =>
  obtain ⟨hj, _, _⟩ := List.findIdx?_eq_some_iff_getElem.1 hf
  have hjo : j < o.length := by omega
  have ht := hT j _ _ (List.getElem?_eq_getElem hjo) (List.getElem?_eq_getElem hj)
  have hg := hG _ (List.getElem_mem hj)
  have hlt : decide ((j : Int) < 0) = false := by simp
  have ha := Tw.ali _ _ _ ht.next
  have hft := GX N _ _ ha hg.next.fit
  obtain ⟨v, v1, v2⟩ := ato N n (o[j]).Next hft (by omega)
  have hav := qC.trans N _ _ _ v2 ha
  refine ⟨v, (l[j]).Next, true, ?_, ?_, Nu N m v _ hav (GX N _ _ hav hg.next.fit) (by omega)⟩
  ·simp only [Option.bind_some, placeOf, hlt, cond_false]
   rw [fO o j hjo]
   generalize o[j] = t at v1
   obtain ⟨k, nm', v', ⟨_, _, _, ⟨_, _⟩, ⟨_, _⟩, _, _, _⟩, d, a, b, c, r, q, z, u⟩ := t
   obtain ⟨_, _, _, ⟨_, _⟩, ⟨_, _⟩, _, _, _⟩ := v'
   obtain ⟨_, _⟩ := d
   obtain ⟨_, _⟩ := a
   obtain ⟨_, _⟩ := b
   obtain ⟨_, _⟩ := c
   obtain ⟨_, _⟩ := z
   obtain ⟨_, _⟩ := u
   simp only at v1
   simp only [Option.bind_some, v1]
   obtain ⟨_, _, _, ⟨_, _⟩, ⟨_, _⟩, _, _, _⟩ := v
   rfl
  ·simp only [Option.bind_some, placeOf, hlt, cond_false]
   rw [fO l j hj]
   generalize l[j] = t
   obtain ⟨_, _, ⟨_, _, _, ⟨_, _⟩, ⟨_, _⟩, _, _, _⟩, ⟨_, _, _, ⟨_, _⟩, ⟨_, _⟩, _, _, _⟩, ⟨_, _⟩, ⟨_, _⟩, ⟨_, _⟩, ⟨_, _⟩, _, _, ⟨_, _⟩, ⟨_, _⟩⟩ := t
   rfl
omit hn hm hG in
theorem af4 {o2 l2 : List Cell} {x2 y2 : Option (List Cell)} (h2 : o2.length = l2.length) (hT2 : ∀ (i : Nat) t a, o2[i]? = some t → l2[i]? = some a → TwC N t a) : ∃ r, P7 n ⟨o, x⟩ ⟨o2, x2⟩ = some r ∧ P8 m ⟨l, y⟩ ⟨l2, y2⟩ = some r := by
 have e : Pw n (P21 n) o o2 = jS o o2 (P21 n) := by
  funext i
  unfold Pw jS
  dsimp only
  cases decide (i < ln o)
  ·rfl
  ·cases idx o i with
   | none => rfl
   | some x =>
    obtain ⟨_, _, ⟨_, _, _, ⟨_, _⟩, ⟨_, _⟩, _, _, _⟩, ⟨_, _, _, ⟨_, _⟩, ⟨_, _⟩, _, _, _⟩, ⟨_, _⟩, ⟨_, _⟩, ⟨_, _⟩, ⟨_, _⟩, _, _, ⟨_, _⟩, ⟨_, _⟩⟩ := x
    cases idx o2 i with
    | none => rfl
    | some y =>
     obtain ⟨_, _, ⟨_, _, _, ⟨_, _⟩, ⟨_, _⟩, _, _, _⟩, ⟨_, _, _, ⟨_, _⟩, ⟨_, _⟩, _, _, _⟩, ⟨_, _⟩, ⟨_, _⟩, ⟨_, _⟩, ⟨_, _⟩, _, _, ⟨_, _⟩, ⟨_, _⟩⟩ := y
     rfl
 unfold P7 P8 P20
 dsimp only
 rw [e]
 have hlo : (ln o == ln o2) = (ln l == ln l2) := by simp [ln, h0, h2]
 rw [hlo]
 cases hq : (ln l == ln l2) with
 | false => exact ⟨false, rfl, rfl⟩
 | true =>
  have hll : l.length = l2.length := by simp [ln] at hq; omega
  rw [Bool.not_true, cond_false, cond_false]
  have r1 : Runs (wl (jS o o2 (P21 n)) 0) ((List.range l.length).all fun i => match l[i]?, l2[i]? with | some c, some d => c.Kind == d.Kind && seq c.Name d.Name | _, _ => true) := by
   refine vv (n := l.length) h0 (by omega) (by omega) fun i t u hi hi2 => ?_
   have hlt : i < l.length := by rw [← h0]; exact (List.getElem?_eq_some_iff.1 hi).1
   have t1 := hT i t _ hi (List.getElem?_eq_getElem hlt)
   have t2 := hT2 i u _ hi2 (List.getElem?_eq_getElem (show i < l2.length by omega))
   rw [List.getElem?_eq_getElem hlt, List.getElem?_eq_getElem (show i < l2.length by omega)]
   dsimp only
   rw [← t1.kind, ← t1.name, ← t2.kind, ← t2.name]
   unfold P21
   obtain ⟨_, _, ⟨_, _, _, ⟨_, _⟩, ⟨_, _⟩, _, _, _⟩, ⟨_, _, _, ⟨_, _⟩, ⟨_, _⟩, _, _, _⟩, ⟨_, _⟩, ⟨_, _⟩, ⟨_, _⟩, ⟨_, _⟩, _, _, ⟨_, _⟩, ⟨_, _⟩⟩ := t
   obtain ⟨_, _, ⟨_, _, _, ⟨_, _⟩, ⟨_, _⟩, _, _, _⟩, ⟨_, _, _, ⟨_, _⟩, ⟨_, _⟩, _, _, _⟩, ⟨_, _⟩, ⟨_, _⟩, ⟨_, _⟩, ⟨_, _⟩, _, _, ⟨_, _⟩, ⟨_, _⟩⟩ := u
   dsimp only
   rw [fH]
   rfl
  have r2 : Runs (wl (TF m l l2) 0) ((List.range l.length).all fun i => match l[i]?, l2[i]? with | some c, some d => c.Kind == d.Kind && seq c.Name d.Name | _, _ => true) := by
   refine jq (n := l.length) _ (by omega) (fun k hk => ?_) ?_
   ·unfold TF
    dsimp only
    rw [gU hk, fO l k hk, fO l2 k (by omega), List.getElem?_eq_getElem hk, List.getElem?_eq_getElem (show k < l2.length by omega)]
    generalize l[k] = c
    generalize l2[k] = d
    obtain ⟨_, _, ⟨_, _, _, ⟨_, _⟩, ⟨_, _⟩, _, _, _⟩, ⟨_, _, _, ⟨_, _⟩, ⟨_, _⟩, _, _, _⟩, ⟨_, _⟩, ⟨_, _⟩, ⟨_, _⟩, ⟨_, _⟩, _, _, ⟨_, _⟩, ⟨_, _⟩⟩ := c
    obtain ⟨_, _, ⟨_, _, _, ⟨_, _⟩, ⟨_, _⟩, _, _, _⟩, ⟨_, _, _, ⟨_, _⟩, ⟨_, _⟩, _, _, _⟩, ⟨_, _⟩, ⟨_, _⟩, ⟨_, _⟩, ⟨_, _⟩, _, _, ⟨_, _⟩, ⟨_, _⟩⟩ := d
    simp only [cond_true, Option.bind_some]
    exact af3 _ _ _ _
   ·unfold TF
    dsimp only
    rw [fU]; rfl
  refine ⟨(List.range l.length).all fun i => match l[i]?, l2[i]? with | some c, some d => c.Kind == d.Kind && seq c.Name d.Name | _, _ => true, ?_, ?_⟩
  ·rw [r1.use (t := some true) (f := some false) (fun _ => rfl) (fun _ => rfl)]
   cases (List.range l.length).all _ <;> rfl
  ·rw [r2.use (t := some true) (f := some false) (fun _ => rfl) (fun _ => rfl)]
   cases (List.range l.length).all _ <;> rfl
theorem af5 : ∃ r, P9 n ⟨o, x⟩ = some r ∧ P10 m ⟨l, y⟩ = some r := by
 let p : Cell → Bool := fun t => t.Kind == 1 && !((X0 n t.lK t.Next).getD false)
 let q : Cell → Bool := fun c => c.Kind == 1 && !((VG m c.lK c.Next).getD false)
 have both : ∀ (i : Nat) t a, o[i]? = some t → l[i]? = some a → ∃ r, X0 n t.lK t.Next = some r ∧ VG m a.lK a.Next = some r := fun i t a g1 g2 => by
  have ht := hT i t a g1 g2
  exact Uj N n m _ _ _ _ (Tw.ali _ _ _ ht.value) (Tw.ali _ _ _ ht.next) hn hm (hG a (List.mem_of_getElem? g2)).ok.value
 have e := E8 (o := o) (l := l) p q h0 fun i t a g1 g2 => by
  obtain ⟨r, w1, w2⟩ := both i t a g1 g2
  simp only [p, q, w1, w2, (hT i t a g1 g2).kind]
 have hp : ∀ t ∈ o, MK n t ⟨[1], some []⟩ = some (p t) := fun t ht => by
  obtain ⟨i, hi⟩ := List.mem_iff_getElem?.1 ht
  have hlt : i < l.length := by rw [← h0]; exact (List.getElem?_eq_some_iff.1 hi).1
  obtain ⟨r, w1, w2⟩ := both i t _ hi (List.getElem?_eq_getElem hlt)
  unfold MK P23
  simp only [p, w1]
  obtain ⟨k, nm', v', nx', d, a, b, c, r', q', z, u⟩ := t
  obtain ⟨_, _, _, ⟨_, _⟩, ⟨_, _⟩, _, _, _⟩ := v'
  obtain ⟨_, _, _, ⟨_, _⟩, ⟨_, _⟩, _, _, _⟩ := nx'
  simp only at w1
  dsimp only
  rw [Ny, w1]
  simp only [Option.bind_some, fH, Option.getD_some]
 have hq : ∀ (k : Nat) (hk : k < l.length), VG m l[k].lK l[k].Next = some ((VG m l[k].lK l[k].Next).getD false) := fun k hk => by
  obtain ⟨r, w1, w2⟩ := both k _ _ (List.getElem?_eq_getElem (by omega)) (List.getElem?_eq_getElem hk)
  rw [w2]; rfl
 have es : Dj n ⟨[1], some []⟩ o = l8 (fun c => MK n c ⟨[1], some []⟩) o := by
  funext q
  obtain ⟨r, i⟩ := q
  unfold Dj l8
  dsimp only
  cases decide (i < ln o)
  ·rfl
  ·cases idx o i with
   | none => rfl
   | some x => obtain ⟨_, _, ⟨_, _, _, ⟨_, _⟩, ⟨_, _⟩, _, _, _⟩, ⟨_, _, _, ⟨_, _⟩, ⟨_, _⟩, _, _, _⟩, ⟨_, _⟩, ⟨_, _⟩, ⟨_, _⟩, ⟨_, _⟩, _, _, ⟨_, _⟩, ⟨_, _⟩⟩ := x; rfl
 refine ⟨decide (0 ≤ placeOf (l.findIdx? q)), ?_, ?_⟩
 ·rw [← e]
  unfold P9 X4 X3
  dsimp only
  rw [es]
  exact (congrArg (fun z => Option.bind (Option.bind z some) fun r => some (decide (0 ≤ r))) (vw p (by omega) hp)).trans rfl
 ·unfold P10
  dsimp only
  have := Ej (f := Ju m l) l q (fun k => (false, (k : Int))) (fun j => .inr (true, (j : Int))) (.inl (false, (l.length : Int))) (fun k hk => by
   unfold Ju
   dsimp only
   have hs := hq k hk
   rw [gU hk, fO l k hk]
   simp only [q]
   generalize l[k] = c at hs
   obtain ⟨_, _, ⟨_, _, _, ⟨_, _⟩, ⟨_, _⟩, _, _, _⟩, ⟨_, _, _, ⟨_, _⟩, ⟨_, _⟩, _, _, _⟩, ⟨_, _⟩, ⟨_, _⟩, ⟨_, _⟩, ⟨_, _⟩, _, _, ⟨_, _⟩, ⟨_, _⟩⟩ := c
   simp only at hs
   simp only [cond_true, Option.bind_some, iF (show k < 9223372036854775807 by omega)]
   rw [hs]
   simp only [Option.bind_some, fH, Option.getD_some]
   exact Nz _ _ _) (by
   unfold Ju
   dsimp only
   rw [fU]; rfl)
  rw [show ((0 : Nat) : Int) = 0 from rfl] at this
  rw [this]
  cases l.findIdx? q with
  | none => rfl
  | some j => show some true = some (decide ((0 : Int) ≤ (j : Int))); simp
theorem af6 : ∃ r, P11 n ⟨o, x⟩ = some r ∧ P12 m ⟨l, y⟩ = some r := by
 have hmay : ∀ (i : Nat) t a, o[i]? = some t → l[i]? = some a → ∃ r, P26 n t = some r ∧ P27 m a = some r := fun i t a g1 g2 => apf (hT i t a g1 g2) (hG a (List.mem_of_getElem? g2)) hn hm
 let r : Nat → Bool := fun i => match l[i]? with
  | none => true
  | some c => (P27 m c).getD false && !(c.Kind == 1 && !(placeOf (l.findIdx? (Us c.Name)) == (i : Int)))
 unfold P11 P12
 dsimp only
 have hlo : ln o = ln l := by simp [ln, h0]
 rw [hlo]
 cases hq : decide (4096 < ln l) with
 | true => exact ⟨false, rfl, rfl⟩
 | false =>
  rw [cond_false, cond_false]
  have stp : ∀ {A : Type} (a b c : Bool) (x y : A), ((bif !(!a) then bif b then some (!c) else some false else some true).bind fun q => bif q then some x else some y) = some (bif a && !(b && !c) then y else x) := by
   intro A a b c x y; cases a <;> cases b <;> cases c <;> rfl
  have r1 : Runs (wl (Jy n o x) 0) ((List.range l.length).all r) := by
   refine jq (n := l.length) r (by omega) (fun k hk => ?_) ?_
   ·have hko : k < o.length := by omega
    obtain ⟨b, w1, w2⟩ := hmay k _ _ (List.getElem?_eq_getElem hko) (List.getElem?_eq_getElem hk)
    have ht := hT k _ _ (List.getElem?_eq_getElem hko) (List.getElem?_eq_getElem hk)
    have hr : r k = (b && !(o[k].Kind == 1 && !(placeOf (l.findIdx? (Us o[k].Name)) == (k : Int)))) := by
     simp only [r, List.getElem?_eq_getElem hk, w2, Option.getD_some, ht.kind, ht.name]
    rw [hr]
    unfold Jy
    dsimp only
    rw [show ln o = ln l from hlo, gU hk, fO o k hko]
    generalize o[k] = t at w1
    obtain ⟨_, _, ⟨_, _, _, ⟨_, _⟩, ⟨_, _⟩, _, _, _⟩, ⟨_, _, _, ⟨_, _⟩, ⟨_, _⟩, _, _, _⟩, ⟨_, _⟩, ⟨_, _⟩, ⟨_, _⟩, ⟨_, _⟩, _, _, ⟨_, _⟩, ⟨_, _⟩⟩ := t
    simp only [cond_true, Option.bind_some]
    rw [w1, Zt n o x _ (by omega), E8 (o := o) (l := l) _ _ h0 fun i t a g1 g2 => Zv (hT i t a g1 g2) _]
    simp only [Option.bind_some]
    exact stp _ _ _ _ _
   ·unfold Jy
    dsimp only
    rw [show ln o = ln l from hlo, fU]; rfl
  have r2 : Runs (wl (JN m l y) 0) ((List.range l.length).all r) := by
   refine jq (n := l.length) r (by omega) (fun k hk => ?_) ?_
   ·obtain ⟨b, w1, w2⟩ := hmay k _ _ (List.getElem?_eq_getElem (show k < o.length by omega)) (List.getElem?_eq_getElem hk)
    have hr : r k = (b && !(l[k].Kind == 1 && !(placeOf (l.findIdx? (Us l[k].Name)) == (k : Int)))) := by
     simp only [r, List.getElem?_eq_getElem hk, w2, Option.getD_some]
    rw [hr]
    unfold JN
    dsimp only
    rw [gU hk, fO l k hk]
    generalize l[k] = t at w2
    obtain ⟨_, _, ⟨_, _, _, ⟨_, _⟩, ⟨_, _⟩, _, _, _⟩, ⟨_, _, _, ⟨_, _⟩, ⟨_, _⟩, _, _, _⟩, ⟨_, _⟩, ⟨_, _⟩, ⟨_, _⟩, ⟨_, _⟩, _, _, ⟨_, _⟩, ⟨_, _⟩⟩ := t
    simp only [cond_true, Option.bind_some]
    rw [w2, Zu m l y _ hl]
    simp only [Option.bind_some]
    exact stp _ _ _ _ _
   ·unfold JN
    dsimp only
    rw [fU]; rfl
  refine ⟨(List.range l.length).all r, ?_, ?_⟩
  ·rw [r1.use (t := some true) (f := some false) (fun _ => rfl) (fun _ => rfl)]
   cases (List.range l.length).all r <;> rfl
  ·rw [r2.use (t := some true) (f := some false) (fun _ => rfl) (fun _ => rfl)]
   cases (List.range l.length).all r <;> rfl
end
theorem yD {l : List D} : ∀ {r : List (List D)}, l ∈ r → iC l ≤ gH r
 | a :: r, h => by
  rw [gH]
  rcases List.mem_cons.1 h with rfl | h
  ·omega
  ·have := yD h; omega
theorem KR {A : Type} (g : A → Nat) (e : A → List D) : ∀ (l : List A), (∀ a ∈ l, g a ≤ iC (e a)) → (l.map g).sum ≤ gH (l.map e)
 | [], _ => by simp
 | a :: r, h => by
  have h1 := h a (List.mem_cons_self ..)
  have h2 := KR g e r fun x hx => h x (List.mem_cons_of_mem _ hx)
  rw [List.map_cons, List.map_cons, List.sum_cons, gH]
  omega
theorem ajc : ∀ (N : Nat) (v : Value), vN N v ≤ iC (fK v) := by
 intro N
 induction N with
 | zero => intro v; simp [vN]
 | succ N ih =>
  intro v
  obtain ⟨k, n, s, ⟨l, x⟩, ⟨f, y⟩, e, c, b⟩ := v
  have h1 := KR (vN N) fK l fun v _ => ih v
  have h2 := KR (fun q => vN N (fZ q)) iJ f fun q _ => by
   obtain ⟨m, v⟩ := q
   have := ih v
   simp only [fZ, iJ, kJ, iC, vI]
   omega
  simp only [vN, fK, iy, gK, kJ, iC, vI, ig, iq]
  omega
theorem Zw {N : Nat} {v : Value} (hs : SizeOf.sizeOf v ≤ N) (hv : KT v) (hb : iC (fK v) ≤ 1048576) : GV N v :=
 ⟨aoP N v hs hv, arM N v hs hv, by have := ajc N v; omega⟩
theorem akf {N : Nat} {c : Cell} (h : OKC c) (hs : SizeOf.sizeOf c ≤ N) (hN : SizeOf.sizeOf RG ≤ N) (hb : iC (iK c) ≤ 1048576) : GC N c := by
 have hc := ao8 h
 have hc' : Bc N c := ⟨hs, hc.value, hc.next, hc.deps, hc.does, hc.undo, hc.env, hc.old, hc.past⟩
 obtain ⟨k, nm, v, nx, ⟨dl, dx⟩, ⟨ol, ox⟩, ⟨ul, ux⟩, ⟨el, ex⟩, r, q, ⟨pl, px⟩, ⟨tl, tx⟩⟩ := c
 simp only [iK, kJ, iC, vI, iy, gK] at hb
 simp only [Cell.mk.sizeOf_spec, Sl.mk.sizeOf_spec] at hs
 have hf : ∀ {l : List Field} {x : Option (List Field)}, (∀ q ∈ l, OKF q) → SizeOf.sizeOf l ≤ N → gH (pI l) ≤ 1048576 → ∀ q ∈ l, GV N (fZ q) := fun h1 h2 h3 q hq => by
  have b1 := List.sizeOf_lt_of_mem hq
  rw [iq] at h3
  have b2 := yD (List.mem_map_of_mem (f := iJ) hq)
  have b3 := h1 _ hq
  obtain ⟨m, v⟩ := q
  simp only [Field.mk.sizeOf_spec] at b1
  simp only [iJ, kJ, iC, vI] at b2
  exact Zw (by simp only [fZ]; omega) (mF b3) (by simp only [fZ]; omega)
 refine ⟨hc', hN, Zw (by dsimp only; omega) hc.value (by dsimp only; omega), Zw (by dsimp only; omega) hc.next (by dsimp only; omega), fun v hv => ?_, hf (x := ex) hc.env.2 (by dsimp only; omega) (by dsimp only; omega), hf (x := tx) hc.past.2 (by dsimp only; omega) (by dsimp only; omega)⟩
 have b1 := List.sizeOf_lt_of_mem hv
 have b2 := yD (List.mem_map_of_mem (f := fK) hv)
 rw [← ig] at b2
 dsimp only at b1 b2
 exact Zw (by omega) (hc.deps.2 v hv) (by omega)
theorem La (a b : List Cell) (ax bx : Option (List Cell)) (nm : ByteArray) (a1 : a.length * 400 ≤ reachBytes) (b1 : b.length * 400 ≤ reachBytes) (a2 : ∀ c ∈ a, OKC c) (b2 : ∀ c ∈ b, OKC c)
  (a3 : ∀ c ∈ a, iC (iK c) ≤ 1048576) (b3 : ∀ c ∈ b, iC (iK c) ≤ 1048576) : ∃ fu, P3 fu ⟨a, ax⟩ ⟨b, bx⟩ nm = some true := by
 obtain ⟨N, hN⟩ : ∃ N, N = SizeOf.sizeOf a + SizeOf.sizeOf b + SizeOf.sizeOf RG := ⟨_, rfl⟩
 have ga : ∀ c ∈ a, GC N c := fun c hc => akf (a2 c hc) (by have := List.sizeOf_lt_of_mem hc; omega) (by omega) (a3 c hc)
 have gb : ∀ c ∈ b, GC N c := fun c hc => akf (b2 c hc) (by have := List.sizeOf_lt_of_mem hc; omega) (by omega) (b3 c hc)
 have la := dX (by omega) a1
 have lb := dX (by omega) b1
 obtain ⟨ta, t1, t2, t3⟩ := Zl (N := N) (n := 4 * N + 2) (x := ax) (Nat.le_refl _) a1 fun c hc => (ga c hc).ok
 obtain ⟨tb, u1, u2, u3⟩ := Zl (N := N) (n := 4 * N + 2) (x := bx) (Nat.le_refl _) b1 fun c hc => (gb c hc).ok
 have l1 := Zm (N := N) (n := 4 * N + 2) (x := ax) t2 t3 (Nat.le_refl _) a1 fun c hc => (ga c hc).ok
 have l2 := Zm (N := N) (n := 4 * N + 2) (x := bx) u2 u3 (Nat.le_refl _) b1 fun c hc => (gb c hc).ok
 obtain ⟨v, w, q, n1, n2, n3⟩ := ajb (n := 4 * N + 2) (m := 4 * N + 2) (x := some [rO]) (y := ax) t2 t3 la ga (by omega) (by omega) (by omega) nm
 obtain ⟨r1, o1, o2⟩ := af4 (n := 4 * N + 2) (m := 4 * N + 2) (x := some [rO]) (y := ax) (x2 := some [rO]) (y2 := bx) t2 t3 la u2 u3
 obtain ⟨r2, d1, d2⟩ := af5 (n := 4 * N + 2) (m := 4 * N + 2) (x := some [rO]) (y := ax) t2 t3 la ga (by omega) (by omega)
 obtain ⟨r3, j1, j2⟩ := af6 (n := 4 * N + 2) (m := 4 * N + 2) (x := some [rO]) (y := ax) t2 t3 la ga (by omega) (by omega)
 refine ⟨4 * N + 2, ?_⟩
 unfold P3 P15
 obtain ⟨_, _, _, ⟨_, _⟩, ⟨_, _⟩, _, _, _⟩ := v
 obtain ⟨_, _, _, ⟨_, _⟩, ⟨_, _⟩, _, _, _⟩ := w
 dsimp only
 simp only [t1, u1, n1, n2, n3, o1, o2, d1, d2, j1, j2, l1, l2, Option.bind_some, beq_self_eq_true, Bool.not_true, Bool.not_false, cond_true, cond_false]
theorem atp (ls : List (List D)) (h : WTs tab [22, 22, 9] ls) (hb : gH ls ≤ 1048576) :
  call S 3 (Iu tab [22, 22, 9] ls) [] = some (.d (.bool true), []) := by
 obtain ⟨l1, _, rfl, h1, l2, _, rfl, h2, l3, _, rfl, h3, rfl⟩ := h
 obtain ⟨r1, q1, e1, p1, p2, _⟩ := h1.fG KG
 obtain ⟨r2, q2, e2, p3, p4, _⟩ := h2.fG KG
 obtain ⟨⟨a, ax⟩, rfl⟩ := aj7 h1
 obtain ⟨⟨b, bx⟩, rfl⟩ := aj7 h2
 obtain ⟨nm, rfl⟩ := atn h3
 simp only [gH, iC, vI] at hb
 simp only [List.cons.injEq, D.sl.injEq, and_true] at e1 e2
 obtain ⟨rfl, _⟩ := e1
 obtain ⟨rfl, _⟩ := e2
 simp only [List.length_map, List.mem_map, forall_exists_index, and_imp, forall_apply_eq_imp_iff₂, Nat.add_mul] at p1 p2 p3 p4
 obtain ⟨fu, hp⟩ := La a b ax bx nm (by omega) (by omega) p2 p4 (fun c hc => by
  have := yD (List.mem_map_of_mem (f := fun y => iK y) hc)
  omega) (fun c hc => by
  have := yD (List.mem_map_of_mem (f := fun y => iK y) hc)
  omega)
 exact agz (ok3 rfl rfl hp rfl [])
end Go.Proofs.YtipkggkbldgmjaaGreat
