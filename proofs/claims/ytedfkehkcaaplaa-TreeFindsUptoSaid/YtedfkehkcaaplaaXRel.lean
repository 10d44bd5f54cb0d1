/- T -/
import Derived.Test.YtedfkehkcaaplaaXPi
import Derived.WalkKit
namespace Go.X
open Go
mutual
def aZ (cl : Nat → Nat) (w : World) : D → Value → Prop
 | .int k n, v => v = .int k n
 | .bool b, v => v = .bool b
 | .str s, v => v = .string s
 | .mO, v => v = .pointer none
 | .tq, v => v = .map none
 | .bT, v => v = .nilFunc
 | .fn f caps, v => ∃ vs : List Value, v = .func (.func f) #[] vs.toArray ∧ bR cl w caps vs
 | .sl rows ext, v => ((∃ base, v = .slice base 0 0) ∧ rows = [] ∧ (∀ h, ext = some h → h = [])) ∨
   ∃ sz b o cap, v = .slice (some ⟨b, o, none⟩) rows.length cap ∧ rows.length ≤ cap ∧ o + rows.length * sz ≤ cl b ∧ aY cl w b o sz rows ∧ lD cl w b (o + rows.length * sz) sz (cap - rows.length) ext
def bR (cl : Nat → Nat) (w : World) : List D → List Value → Prop
 | [], vs => vs = []
 | d :: r, vs => ∃ v s, vs = v :: s ∧ aZ cl w d v ∧ bR cl w r s
def aV (cl : Nat → Nat) (w : World) (b o : Nat) : List D → Prop
 | [] => True
 | d :: r => (∃ v, w.cell? ⟨b, o, none⟩ = some v ∧ aZ cl w d v) ∧ aV cl w b (o + 1) r
def aY (cl : Nat → Nat) (w : World) (b o sz : Nat) : List (List D) → Prop
 | [] => True
 | r :: rs => r.length = sz ∧ aV cl w b o r ∧ aY cl w b (o + sz) sz rs
def lD (cl : Nat → Nat) (w : World) (b o sz n : Nat) : Option (List (List D)) → Prop
 | none => True
 | some hid => hid.length = n ∧ o + hid.length * sz ≤ cl b ∧ aY cl w b o sz hid
end
structure Keeps (cl : Nat → Nat) (w : World) (cl' : Nat → Nat) (w' : World) : Prop where
 le : ∀ b, cl b ≤ cl' b
 cells : ∀ b j, j < cl b → w'.cell? ⟨b, j, none⟩ = w.cell? ⟨b, j, none⟩
theorem Keeps.refl (cl : Nat → Nat) (w : World) : Keeps cl w cl w := ⟨fun _ => Nat.le_refl _, fun _ _ _ => rfl⟩
theorem Keeps.trans {c1 c2 c3 : Nat → Nat} {w1 w2 w3 : World} (h : Keeps c1 w1 c2 w2) (k : Keeps c2 w2 c3 w3) : Keeps c1 w1 c3 w3 :=
 ⟨fun b => Nat.le_trans (h.le b) (k.le b), fun b j hj => (k.cells b j (Nat.lt_of_lt_of_le hj (h.le b))).trans (h.cells b j hj)⟩
section
variable {cl cl' : Nat → Nat} {w w' : World} (hk : Keeps cl w cl' w')
include hk
mutual
theorem aZ.keep : ∀ (d : D) (v : Value), aZ cl w d v → aZ cl' w' d v
 | .int _ _, _, h => h
 | .bool _, _, h => h
 | .str _, _, h => h
 | .mO, _, h => h
 | .tq, _, h => h
 | .bT, _, h => h
 | .fn f caps, v, h => by
  simp only [aZ] at h ⊢
  obtain ⟨vs, h1, h2⟩ := h
  exact ⟨vs, h1, bR.keep caps vs h2⟩
 | .sl rows ext, v, h => by
  simp only [aZ] at h ⊢
  rcases h with h | ⟨sz, b, o, cap, h1, h2, h3, h4, h5⟩
  ·exact .inl h
  ·exact .inr ⟨sz, b, o, cap, h1, h2, Nat.le_trans h3 (hk.le b), aY.keep rows b o sz h3 h4, lD.keep ext b _ sz _ h5⟩
theorem bR.keep : ∀ (l : List D) (vs : List Value), bR cl w l vs → bR cl' w' l vs
 | [], _, h => h
 | d :: r, vs, h => by
  simp only [bR] at h ⊢
  obtain ⟨v, s, h1, h2, h3⟩ := h
  exact ⟨v, s, h1, aZ.keep d v h2, bR.keep r s h3⟩
theorem aV.keep : ∀ (l : List D) (b o : Nat), o + l.length ≤ cl b → aV cl w b o l → aV cl' w' b o l
 | [], _, _, _, _ => by simp only [aV]
 | d :: r, b, o, hl, h => by
  simp only [aV] at h ⊢
  simp only [List.length_cons] at hl
  obtain ⟨⟨v, h1, h2⟩, h3⟩ := h
  exact ⟨⟨v, (hk.cells b o (by omega)).trans h1, aZ.keep d v h2⟩, aV.keep r b (o + 1) (by omega) h3⟩
theorem aY.keep : ∀ (l : List (List D)) (b o sz : Nat), o + l.length * sz ≤ cl b → aY cl w b o sz l → aY cl' w' b o sz l
 | [], _, _, _, _, _ => by simp only [aY]
 | r :: rs, b, o, sz, hl, h => by
  simp only [aY] at h ⊢
  simp only [List.length_cons, Nat.add_mul, Nat.one_mul] at hl
  obtain ⟨h1, h2, h3⟩ := h
  exact ⟨h1, aV.keep r b o (by omega) h2, aY.keep rs b (o + sz) sz (by omega) h3⟩
theorem lD.keep : ∀ (x : Option (List (List D))) (b o sz n : Nat), lD cl w b o sz n x → lD cl' w' b o sz n x
 | none, _, _, _, _, _ => by simp only [lD]
 | some hid, b, o, sz, n, h => by
  simp only [lD] at h ⊢
  exact ⟨h.1, Nat.le_trans h.2.1 (hk.le b), aY.keep hid b o sz h.2.1 h.2.2⟩
end
end
theorem aZ.one {cl : Nat → Nat} {w : World} : ∀ {d : D} {v : Value}, aZ cl w d v → v.oneCell' = true
 | .int _ _, _, h => by cases h; rfl
 | .bool _, _, h => by cases h; rfl
 | .str _, _, h => by cases h; rfl
 | .mO, _, h => by cases h; rfl
 | .tq, _, h => by cases h; rfl
 | .bT, _, h => by cases h; rfl
 | .fn _ _, _, h => by simp only [aZ] at h; obtain ⟨_, rfl, _⟩ := h; rfl
 | .sl _ _, _, h => by
  simp only [aZ] at h
  rcases h with ⟨⟨_, rfl⟩, _⟩ | ⟨_, _, _, _, rfl, _⟩ <;> rfl
structure bZ where
 b : Nat
 len : Int
 sz : Nat
 cap : Nat
def bZ.gone (e : bZ) : Bool := Nat.blt 0 e.sz && Nat.beq e.cap 0
structure Mt where
 blk : List (List bZ)
 cl : Nat → Nat
def ent : List (List bZ) → Nat → Nat → Option bZ
 | fr :: _, 0, i => fr[i]?
 | _ :: r, l + 1, i => ent r l i
 | [], _, _ => none
mutual
def aj (bl : List (List bZ)) (cl : Nat → Nat) (w : World) : PV → Value → Prop
 | .d x, v => aZ cl w x v
 | .agg cs, v => ∃ vs : List Value, v = .agg vs.toArray ∧ aF bl cl w cs vs
 | .ptr l i off, v => ∃ e, ent bl l i = some e ∧ e.sz = 0 ∧ v = .pointer (some ⟨e.b, off, none⟩)
 | .aS cs, v => ∃ b o, v = .pointer (some ⟨b, o, none⟩) ∧ o + cs.length ≤ cl b ∧ aV cl w b o cs
 | .row l i len, v => ∃ e, ent bl l i = some e ∧ 0 ≤ len ∧ len ≤ e.len ∧ ((len = 0 ∧ (len = e.len → e.gone = true) ∧ ∃ base, v = .slice base 0 0) ∨
   ∃ b cap, v = .slice (some ⟨b, 0, none⟩) len.toNat cap ∧ (len = e.len → b = e.b ∧ cap = e.cap ∧ e.gone = false))
 | .kL l i len idx off, v => ∃ e b, ent bl l i = some e ∧ len ≤ e.len ∧ v = .pointer (some ⟨b, idx.toNat * e.sz + off, none⟩) ∧ (len = e.len → b = e.b)
 | .fn f cs, v => ∃ vs : List Value, v = .func (.func f) #[] vs.toArray ∧ aF bl cl w cs vs
 | .map l i, v => ∃ e, ent bl l i = some e ∧ e.sz = 0 ∧ v = .map (some e.b)
 | .tail l i len lo, v => ∃ e, ent bl l i = some e ∧ len ≤ e.len ∧ 0 ≤ lo ∧ lo ≤ len ∧ ∃ p c, v = .slice p (len - lo).toNat c ∧ (lo < len → len = e.len → p = some ⟨e.b, lo.toNat * e.sz, none⟩)
 | .jv l i, v => ∃ e, ent bl l i = some e ∧ e.sz = 0 ∧ v = .func (.yield e.b) #[] #[]
 | .pG l, v => ∃ vs : List Value, v = .tuple vs.toArray ∧ aK bl cl w l vs
 | .skip, v => v = undef
 | .ub, v => ∃ b, v = .bool b
 | .unk, _ => True
def aF (bl : List (List bZ)) (cl : Nat → Nat) (w : World) : List PV → List Value → Prop
 | [], vs => vs = []
 | x :: r, vs => ∃ v s, vs = v :: s ∧ aj bl cl w x v ∧ v.oneCell' = true ∧ aF bl cl w r s
def aK (bl : List (List bZ)) (cl : Nat → Nat) (w : World) : List PV → List Value → Prop
 | [], vs => vs = []
 | x :: r, vs => ∃ v s, vs = v :: s ∧ aj bl cl w x v ∧ aK bl cl w r s
end
def jA (e e' : bZ) : Prop := e.len ≤ e'.len ∧ e'.sz = e.sz ∧ (e'.len = e.len ∨ e.sz = 0 → e' = e)
theorem jA.refl (e : bZ) : jA e e := ⟨Int.le_refl _, rfl, fun _ => rfl⟩
theorem jA.trans {a b c : bZ} (h : jA a b) (k : jA b c) : jA a c :=
 ⟨Int.le_trans h.1 k.1, k.2.1.trans h.2.1, fun e => by
  have h1 := h.1; have k1 := k.1
  have hs := h.2.1
  have hc : c = b := k.2.2 (e.imp (fun e => by omega) (fun e => by omega))
  subst hc
  exact h.2.2 e⟩
def bG (bl lK : List (List bZ)) : Prop := lK.length = bl.length ∧ ∀ l i e, ent bl l i = some e → ∃ e', ent lK l i = some e' ∧ jA e e'
theorem bG.refl (bl : List (List bZ)) : bG bl bl := ⟨rfl, fun _ _ e h => ⟨e, h, jA.refl e⟩⟩
theorem bG.trans {a b c : List (List bZ)} (h : bG a b) (k : bG b c) : bG a c :=
 ⟨k.1.trans h.1, fun l i e he => by
  obtain ⟨e1, h1, h2⟩ := h.2 l i e he
  obtain ⟨e2, k1, k2⟩ := k.2 l i e1 h1
  exact ⟨e2, k1, h2.trans k2⟩⟩
section
variable {bl lK : List (List bZ)} {cl cl' : Nat → Nat} {w w' : World} (hk : Keeps cl w cl' w') (he : bG bl lK)
include hk he
mutual
theorem aj.keep : ∀ (x : PV) (v : Value), aj bl cl w x v → aj lK cl' w' x v
 | .d x, v, h => by simp only [aj] at h ⊢; exact aZ.keep hk x v h
 | .agg cs, v, h => by
  simp only [aj] at h ⊢
  obtain ⟨vs, h1, h2⟩ := h
  exact ⟨vs, h1, aF.keep cs vs h2⟩
 | .ptr l i off, v, h => by
  simp only [aj] at h ⊢
  obtain ⟨e, h1, h0, h2⟩ := h
  obtain ⟨e', k1, k2⟩ := he.2 l i e h1
  have : e' = e := k2.2.2 (.inr h0)
  subst this
  exact ⟨e', k1, h0, h2⟩
 | .aS cs, v, h => by
  simp only [aj] at h ⊢
  obtain ⟨b, o, h1, h2, h3⟩ := h
  exact ⟨b, o, h1, Nat.le_trans h2 (hk.le b), aV.keep hk cs b o h2 h3⟩
 | .row l i len, v, h => by
  simp only [aj] at h ⊢
  obtain ⟨e, h1, h0, h2, h3⟩ := h
  obtain ⟨e', k1, k2, k3, k4⟩ := he.2 l i e h1
  refine ⟨e', k1, h0, by omega, ?_⟩
  have hsame : len = e'.len → e' = e := fun hl => k4 (.inl (by omega))
  rcases h3 with ⟨g1, g2, g3⟩ | ⟨b, cap, g1, g2⟩
  ·exact .inl ⟨g1, fun hl => by have := hsame hl; subst this; exact g2 hl, g3⟩
  ·exact .inr ⟨b, cap, g1, fun hl => by have := hsame hl; subst this; exact g2 hl⟩
 | .kL l i len idx off, v, h => by
  simp only [aj] at h ⊢
  obtain ⟨e, b, h1, h2, h3, h4⟩ := h
  obtain ⟨e', k1, k2, k3, k4⟩ := he.2 l i e h1
  refine ⟨e', b, k1, by omega, by rw [k3]; exact h3, fun hl => ?_⟩
  have : e' = e := k4 (.inl (by omega))
  subst this
  exact h4 (by omega)
 | .fn f cs, v, h => by
  simp only [aj] at h ⊢
  obtain ⟨vs, h1, h2⟩ := h
  exact ⟨vs, h1, aF.keep cs vs h2⟩
 | .map l i, v, h => by
  simp only [aj] at h ⊢
  obtain ⟨e, h1, h0, h2⟩ := h
  obtain ⟨e', k1, k2⟩ := he.2 l i e h1
  have : e' = e := k2.2.2 (.inr h0)
  subst this
  exact ⟨e', k1, h0, h2⟩
 | .tail l i len lo, v, h => by
  simp only [aj] at h ⊢
  obtain ⟨e, h1, h2, h3, h4, p, c, h5, h6⟩ := h
  obtain ⟨e', g1, g2, g3, g4⟩ := he.2 l i e h1
  refine ⟨e', g1, by omega, h3, h4, p, c, h5, fun h7 h8 => ?_⟩
  have : e'.len = e.len := by omega
  rw [g4 (.inl this)]
  exact h6 h7 (by omega)
 | .jv l i, v, h => by
  simp only [aj] at h ⊢
  obtain ⟨e, h1, h0, h2⟩ := h
  obtain ⟨e', k1, k2⟩ := he.2 l i e h1
  have : e' = e := k2.2.2 (.inr h0)
  subst this
  exact ⟨e', k1, h0, h2⟩
 | .pG l, v, h => by
  simp only [aj] at h ⊢
  obtain ⟨vs, h1, h2⟩ := h
  exact ⟨vs, h1, aK.keep l vs h2⟩
 | .skip, v, h => by simp only [aj] at h ⊢; exact h
 | .ub, v, h => by simp only [aj] at h ⊢; exact h
 | .unk, v, h => by simp only [aj]
theorem aF.keep : ∀ (l : List PV) (vs : List Value), aF bl cl w l vs → aF lK cl' w' l vs
 | [], vs, h => by simp only [aF] at h ⊢; exact h
 | x :: r, vs, h => by
  simp only [aF] at h ⊢
  obtain ⟨v, s, h1, h2, h3, h4⟩ := h
  exact ⟨v, s, h1, aj.keep x v h2, h3, aF.keep r s h4⟩
theorem aK.keep : ∀ (l : List PV) (vs : List Value), aK bl cl w l vs → aK lK cl' w' l vs
 | [], vs, h => by simp only [aK] at h ⊢; exact h
 | x :: r, vs, h => by
  simp only [aK] at h ⊢
  obtain ⟨v, s, h1, h2, h3⟩ := h
  exact ⟨v, s, h1, aj.keep x v h2, aK.keep r s h3⟩
end
end
theorem tY [bY] {c : Nat → List PV → St → Option (PV × St)} {sz : Nat} {rows : List (List D)} {ext : Option (List (List D))} (h : (real c).fits sz rows ext = true) : (∀ r ∈ rows, r.length = sz) ∧ ∀ hid, ext = some hid → ∀ r ∈ hid, r.length = sz := by
 simp only [real, Bool.and_eq_true, List.all_eq_true] at h
 refine ⟨fun r hr => Nat.eq_of_beq_eq_true (h.1 r hr), fun hid he r hr => ?_⟩
 subst he
 have := h.2
 simp only [List.all_eq_true] at this
 exact Nat.eq_of_beq_eq_true (this r hr)
theorem aZ.fix {cl : Nat → Nat} {w : World} {sz : Nat} {rows : List (List D)} {ext : Option (List (List D))} {v : Value} (h : aZ cl w (.sl rows ext) v) (h1 : ∀ r ∈ rows, r.length = sz) (h2 : ∀ hid, ext = some hid → ∀ r ∈ hid, r.length = sz) :
  ((∃ base, v = .slice base 0 0) ∧ rows = [] ∧ (∀ h, ext = some h → h = [])) ∨
   ∃ b o cap, v = .slice (some ⟨b, o, none⟩) rows.length cap ∧ rows.length ≤ cap ∧ o + rows.length * sz ≤ cl b ∧ aY cl w b o sz rows ∧ lD cl w b (o + rows.length * sz) sz (cap - rows.length) ext := by
 simp only [aZ] at h
 rcases h with h | ⟨sz', b, o, cap, g1, g2, g3, g4, g5⟩
 ·exact .inl h
 ·right
  cases rows with
  | cons r rows =>
   have : sz' = sz := by
    have := h1 r (by simp)
    simp only [aY] at g4
    omega
   subst this
   exact ⟨b, o, cap, g1, g2, g3, g4, g5⟩
  | nil =>
   simp only [List.length_nil, Nat.zero_mul, Nat.add_zero] at g3 g5 ⊢
   refine ⟨b, o, cap, g1, by simp, g3, by simp only [aY], ?_⟩
   cases ext with
   | none => simp only [lD]
   | some hid =>
    cases hid with
    | nil => simp only [lD, List.length_nil, Nat.zero_mul, aY] at g5 ⊢; exact g5
    | cons r hid =>
     have : sz' = sz := by
      have := h2 _ rfl r (by simp)
      simp only [lD, aY] at g5
      omega
     subst this
     exact g5
end Go.X
