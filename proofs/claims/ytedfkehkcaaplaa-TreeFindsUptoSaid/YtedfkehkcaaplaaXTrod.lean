/- T -/
import Derived.Test.YtedfkehkcaaplaaXGoes
import Derived.ProofKit
namespace Go.X
open Go
set_option linter.unusedVariables false
set_option linter.unnecessarySimpa false
variable [bY]
inductive WT (Γ : Tab) : Nat → List D → Prop
 | int {t : Nat} {k : IntKind} {n : Int} : Γ.ty t = .int k → (Lit.int k n).wf = true → WT Γ t [.int k n]
 | bool {t : Nat} {b : Bool} : Γ.ty t = .bool → WT Γ t [.bool b]
 | str {t : Nat} {s : ByteArray} : Γ.ty t = .str → s.size ≤ reachBytes → WT Γ t [.str s]
 | slice {t e sz bytes : Nat} {rows hid : List (List D)} : Γ.ty t = .slice e sz bytes → rows.length + hid.length ≤ maxLen → (rows.length + hid.length) * bytes ≤ reachBytes → (∀ r ∈ rows, WT Γ e r) → (∀ r ∈ hid, WT Γ e r) → WT Γ t [.sl rows (some hid)]
 | agg {t n : Nat} {fs : List (Nat × Nat × Nat)} {l : List D} : Γ.ty t = .agg n fs → l.length = n → (∀ q ∈ fs, WT Γ q.2.2 ((l.drop q.1).take q.2.1)) → WT Γ t l
mutual
def yI : D → Nat
 | .str s => s.size + 1
 | .sl rows ext => fP rows + PD ext + 1
 | .int _ _ => 1
 | .bool _ => 1
 | .fn _ _ => 1
 | .mO => 1
 | .tq => 1
 | .bT => 1
def iL : List D → Nat
 | [] => 0
 | d :: r => yI d + iL r
def fP : List (List D) → Nat
 | [] => 0
 | l :: r => iL l + fP r
def PD : Option (List (List D)) → Nat
 | none => 0
 | some r => fP r
end
structure qp {H : Type} (B : DataW H → Nat) : Prop where
 one : ∀ d, 1 ≤ B d
 str : ∀ s : List UInt8, s.length + 1 ≤ B (.lit (.string s))
 slice : ∀ e s, (e.map B).sum + (s.map B).sum + 1 ≤ B (.slice e s)
 agg : ∀ p, (p.map B).sum ≤ B (.agg p)
theorem sH : ∀ a b : List D, iL (a ++ b) = iL a + iL b
 | [], b => by simp [iL]
 | d :: a, b => by rw [List.cons_append, iL, iL, sH a b]; omega
theorem wB : ∀ a b : List (List D), fP (a ++ b) = fP a + fP b
 | [], b => by simp [fP]
 | d :: a, b => by rw [List.cons_append, fP, fP, wB a b]; omega
theorem Gg {H : Type} {B : DataW H → Nat} : ∀ (all : List (List D)) (L : List (DataW H)), (∀ (i : Nat) r, all[i]? = some r → ∃ y, L[i]? = some y ∧ iL r ≤ B y) → fP all ≤ (L.map B).sum
 | [], L, _ => by simp [fP]
 | r :: all, L, h => by
  obtain ⟨y, h1, h2⟩ := h 0 r rfl
  cases L with
  | nil => cases h1
  | cons x L =>
   simp only [List.getElem?_cons_zero, Option.some.injEq] at h1
   subst h1
   have := Gg all L fun i r hr => by simpa using h (i + 1) r (by simpa using hr)
   simp only [fP, List.map_cons, List.sum_cons]
   omega
def kP : Nat → Nat → List (Nat × Nat × Nat) → Bool
 | off, n, [] => Nat.beq off n
 | off, n, q :: r => Nat.beq q.1 off && kP (off + q.2.1) n r
def yJ (Γ : Tab) (L : List Nat) : Bool := L.all fun t => match Γ.ty t with
 | .int _ => true | .bool => true | .str => true
 | .slice e _ _ => mem e L
 | .agg n fs => kP 0 n fs && fs.all fun q => mem q.2.2 L
 | _ => false
theorem mem_iff {l : List Nat} {t : Nat} (h : mem t l = true) : t ∈ l := by
 induction l with
 | nil => simp [mem] at h
 | cons x r ih =>
  simp only [mem] at h
  cases hb : Nat.beq t x with
  | true => rw [Nat.eq_of_beq_eq_true hb]; simp
  | false => rw [hb] at h; exact List.mem_cons_of_mem _ (ih h)
theorem mapM_some {α β : Type} {f : α → Option β} : ∀ {l : List α} {xs : List β}, l.mapM f = some xs → xs.length = l.length ∧ ∀ (i : Nat) (x : α), l[i]? = some x → ∃ y, xs[i]? = some y ∧ f x = some y
 | [], xs, h => by simp at h; subst h; simp
 | a :: l, xs, h => by
  simp only [List.mapM_cons, Option.bind_eq_bind, Option.pure_def] at h
  cases ha : f a with
  | none => simp [ha] at h
  | some y =>
   cases hl : l.mapM f with
   | none => simp [ha, hl] at h
   | some ys =>
    simp [ha, hl] at h
    subst h
    obtain ⟨h1, h2⟩ := mapM_some hl
    refine ⟨by simp [h1], fun i x hx => ?_⟩
    cases i with
    | zero => simp at hx; subst hx; exact ⟨y, by simp, ha⟩
    | succ i => simpa using h2 i x (by simpa using hx)
theorem wT {β : Type} {f : Nat → Option β} {n : Nat} {xs : List β} (h : (List.range n).mapM f = some xs) : xs.length = n ∧ ∀ i, i < n → ∃ y, xs[i]? = some y ∧ f i = some y := by
 obtain ⟨h1, h2⟩ := mapM_some h
 exact ⟨by simpa using h1, fun i hi => h2 i i (by simp [hi])⟩
theorem AJ {α : Type} {Q : Nat → α → Prop} : ∀ (n : Nat), (∀ i, i < n → ∃ r, Q i r) → ∃ rows : List α, rows.length = n ∧ ∀ i r, rows[i]? = some r → Q i r
 | 0, _ => ⟨[], rfl, fun i r h => by simp at h⟩
 | n + 1, h => by
  obtain ⟨rows, h1, h2⟩ := AJ n fun i hi => h i (by omega)
  obtain ⟨r, hr⟩ := h n (by omega)
  refine ⟨rows ++ [r], by simp [h1], fun i x hx => ?_⟩
  by_cases hi : i < n
  ·rw [List.getElem?_append_left (by omega)] at hx; exact h2 i x hx
  ·rw [List.getElem?_append_right (by omega)] at hx
   have : i - rows.length = 0 := by
    rcases Nat.eq_zero_or_pos (i - rows.length) with h0 | h0
    ·exact h0
    ·rw [List.getElem?_eq_none (by simp; omega)] at hx; cases hx
   rw [this] at hx
   simp at hx
   subst hx
   have : i = n := by omega
   rw [this]; exact hr
theorem aY.TP {cl : Nat → Nat} {w : World} {b sz : Nat} : ∀ {rows : List (List D)} {o : Nat}, (∀ i r, rows[i]? = some r → r.length = sz ∧ aV cl w b (o + i * sz) r) → aY cl w b o sz rows
 | [], o, _ => by simp [aY]
 | r :: rows, o, h => by
  simp only [aY]
  have h0 := h 0 r rfl
  refine ⟨h0.1, by simpa using h0.2, aY.TP fun i x hx => ?_⟩
  have := h (i + 1) x (by simpa using hx)
  rw [Nat.add_mul, Nat.one_mul] at this
  rwa [Nat.add_assoc, Nat.add_comm sz]
section
variable {H : Type} {enc : TypeId × Value → H} {P : Program} {Γ : Tab} {W : World}
theorem wU {a : Addr} {n : Nat} {vs : List Value} (h : W.cells? 0 a n = some vs) : vs.length = n ∧ ∀ j, j < n → ∃ v, vs[j]? = some v ∧ W.cell? (a.add j) = some v := by
 unfold World.cells? at h
 simp only [Nat.zero_le, if_true] at h
 exact wT h
theorem cell_spot {a : Addr} {v : Value} (h : W.cell? a = some v) : a.spot = none := by
 unfold World.cell? at h
 split at h
 ·cases hs : a.spot with
  | none => rfl
  | some x => simp [hs] at h
 ·cases h
theorem XU {b o : Nat} {v : Value} (h : W.cell? ⟨b, o, none⟩ = some v) : o < csize W b := by
 unfold World.cell? at h
 unfold csize
 split at h
 ·rename_i c e fr hb
  simp at h
  simp only [hb]
  exact (Array.getElem?_eq_some_iff.1 h).1
 ·cases h
theorem yK {cl : Nat → Nat} {cs : List Value} : ∀ (fs : List (Nat × Nat × Nat)) (ys : List (DataW H)) (off : Nat) , kP off cs.length fs = true → ys.length = fs.length →
  (∀ (j : Nat) q y, fs[j]? = some q → ys[j]? = some y → ∃ l, bR cl W l ((cs.drop q.1).take q.2.1) ∧ WT Γ q.2.2 l ∧ ∀ B : DataW H → Nat, qp B → iL l ≤ B y) →
  ∃ l, bR cl W l (cs.drop off) ∧ (∀ q ∈ fs, off ≤ q.1 ∧ WT Γ q.2.2 ((l.drop (q.1 - off)).take q.2.1)) ∧ ∀ B : DataW H → Nat, qp B → iL l ≤ (ys.map B).sum
 | [], ys, off, hc, _, _ => by
  simp only [kP] at hc
  have := Nat.eq_of_beq_eq_true hc
  exact ⟨[], by rw [List.drop_of_length_le (by omega)]; rfl, by simp, fun B _ => by simp [iL]⟩
 | q :: fs, [], off, hc, hy, _ => by cases hy
 | q :: fs, y :: ys, off, hc, hy, h => by
  simp only [kP, Bool.and_eq_true] at hc
  have h1 := Nat.eq_of_beq_eq_true hc.1
  obtain ⟨l, h2, h3, hb1⟩ := h 0 q y rfl rfl
  obtain ⟨k, h4, h5, hb2⟩ := yK fs ys (off + q.2.1) hc.2 (by simpa using hy) fun j q y hq hy => h (j + 1) q y (by simpa using hq) (by simpa using hy)
  have hle : ∀ (fs : List (Nat × Nat × Nat)) (off : Nat), kP off cs.length fs = true → off ≤ cs.length := by
   intro fs
   induction fs with
   | nil => intro off h; simp only [kP] at h; have := Nat.eq_of_beq_eq_true h; omega
   | cons q fs ih => intro off h; simp only [kP, Bool.and_eq_true] at h; have := ih _ h.2; omega
  have hl := bR.len h2
  have hoff := hle fs _ hc.2
  have hlen : l.length = q.2.1 := by
   rw [← hl]
   simp only [List.length_take, List.length_drop]
   omega
  refine ⟨l ++ k, ?_, fun q' hq' => ?_, fun B hB => by rw [sH, List.map_cons, List.sum_cons]; have := hb1 B hB; have := hb2 B hB; omega⟩
  ·have : cs.drop off = (cs.drop off).take q.2.1 ++ cs.drop (off + q.2.1) := by
    rw [← List.drop_drop]; exact (List.take_append_drop _ _).symm
   rw [this]
   rw [h1] at h2
   exact bR.append h2 h4
  ·rcases List.mem_cons.1 hq' with rfl | hq'
   ·refine ⟨by omega, ?_⟩
    rw [h1, Nat.sub_self, List.drop_zero, List.take_left' hlen]
    exact h3
   ·obtain ⟨h6, h7⟩ := h5 q' hq'
    refine ⟨by omega, ?_⟩
    have : q'.1 - off = l.length + (q'.1 - (off + q.2.1)) := by omega
    rw [this, List.drop_append, List.drop_of_length_le (by omega), List.nil_append, Nat.add_sub_cancel_left]
    exact h7
theorem wV {t : Nat} {i : TypeInfo} (h : P.info? t = some i) : P.cellsOf t = i.size := by simp [Program.cellsOf, h]
theorem uJ {H : Type} {P : Program} {e : TypeId} : ∀ {l : List (DataW H)} {d : DataW H}, d ∈ l → ∀ x ∈ d.weights P e, x ∈ DataW.weightsAll P e l
 | d' :: l, d, h, x, hx => by
  simp only [DataW.weightsAll, List.mem_append]
  rcases List.mem_cons.1 h with rfl | h
  ·exact .inl hx
  ·exact .inr (uJ h x hx)
theorem yL {H : Type} {P : Program} : ∀ {ts : List TypeId} {l : List (DataW H)} {j : Nat} {t : TypeId} {d : DataW H}, ts[j]? = some t → l[j]? = some d → ∀ x ∈ d.weights P t, x ∈ DataW.weightsEach P ts l
 | [], _, _, _, _, h, _, _, _ => by simp at h
 | _ :: _, [], _, _, _, _, h, _, _ => by simp at h
 | t :: ts, d :: l, 0, _, _, h, k, x, hx => by
  simp only [List.getElem?_cons_zero, Option.some.injEq] at h k
  subst h; subst k
  simp only [DataW.weightsEach, List.mem_append]
  exact .inl hx
 | t :: ts, d :: l, j + 1, _, _, h, k, x, hx => by
  simp only [List.getElem?_cons_succ] at h k
  simp only [DataW.weightsEach, List.mem_append]
  exact .inr (yL h k x hx)
theorem wW (hΓ : cZ P Γ) {L : List Nat} (hL : yJ Γ L = true) : ∀ (fuel t : Nat) (cs : List Value) (d : DataW H) (ps : List MemPlace), t ∈ L →
  DataW.trod enc P W 0 (fun _ => true) true fuel t cs = some (d, ps) → (∀ x ∈ d.weights P t, x ≤ reachBytes) → ∃ l, bR (csize W) W l cs ∧ WT Γ t l ∧ ∀ B : DataW H → Nat, qp B → iL l ≤ B d
 | 0, t, cs, d, ps, _, h, _ => by simp [DataW.trod] at h
 | fuel + 1, t, cs, d, ps, ht, h, hz => by
  have hc := List.all_eq_true.1 hL t ht
  have jw := hΓ.ty t
  unfold kD at jw
  cases hty : Γ.ty t with
  | int k =>
   simp only [hty] at jw
   rcases cs with _ | ⟨v, _ | ⟨_, _⟩⟩
   ·simp [DataW.trod, jw] at h
   ·cases v <;> simp [DataW.trod, jw] at h
    rename_i k' n
    obtain ⟨⟨rfl, h2⟩, _⟩ := h
    exact ⟨[.int k' n], ⟨_, [], rfl, rfl, rfl⟩, .int hty h2, fun B hB => by simpa [iL, yI] using hB.one _⟩
   ·simp [DataW.trod, jw] at h
  | bool =>
   simp only [hty] at jw
   rcases cs with _ | ⟨v, _ | ⟨_, _⟩⟩
   ·simp [DataW.trod, jw] at h
   ·cases v <;> simp [DataW.trod, jw] at h
    rename_i b
    exact ⟨[.bool b], ⟨_, [], rfl, rfl, rfl⟩, .bool hty, fun B hB => by simpa [iL, yI] using hB.one _⟩
   ·simp [DataW.trod, jw] at h
  | str =>
   simp only [hty] at jw
   rcases cs with _ | ⟨v, _ | ⟨_, _⟩⟩
   ·simp [DataW.trod, jw] at h
   ·cases v <;> simp [DataW.trod, jw] at h
    rename_i s
    obtain ⟨h1, rfl, _⟩ := h
    refine ⟨[.str s], ⟨_, [], rfl, rfl, rfl⟩, .str hty ?_, fun B hB => by have := hB.str s.data.toList; simpa [iL, yI] using this⟩
    have := hz s.data.toList.length (by simp [DataW.weights])
    simpa using this
   ·simp [DataW.trod, jw] at h
  | slice e sz bytes =>
   simp only [hty] at jw hc
   obtain ⟨hu, hsz, i, hi, hisz, agQ, _⟩ := jw
   have hby : P.bytesOf e = bytes := by simp [Program.bytesOf, hi, agQ]
   have heL := mem_iff hc
   have hce : P.cellsOf e = sz := by rw [wV hi, hisz]
   rcases cs with _ | ⟨v, _ | ⟨_, _⟩⟩
   ·simp [DataW.trod, hu] at h
   ·cases v with
    | slice base len cap =>
     cases base with
     | none =>
      have h0 : len = 0 ∧ cap = 0 := by
       rcases len with _ | len <;> rcases cap with _ | cap <;> simp [DataW.trod, hu] at h ⊢
      obtain ⟨rfl, rfl⟩ := h0
      refine ⟨[.sl [] (some [])], ⟨_, [], rfl, ?_, rfl⟩, .slice hty (by simp) (by simp) (by simp) (by simp), fun B hB => by simpa [iL, yI, fP, PD] using hB.one _⟩
      simp only [aZ]
      exact .inl ⟨⟨none, rfl⟩, trivial, by simp⟩
     | some a =>
      simp only [DataW.trod, hu, hce] at h
      split at h
      rotate_left
      ·cases h
      rename_i hb
      obtain ⟨elems, he, h⟩ := Option.bind_eq_some_iff.1 h
      simp only [if_true] at h
      obtain ⟨rest, hr, hd⟩ := Option.map_eq_some_iff.1 h
      simp only [Prod.mk.injEq] at hd
      obtain ⟨hd, _⟩ := hd
      subst hd
      simp only [DataW.weights, hu, hby, List.mem_cons, List.mem_append, List.length_map] at hz
      obtain ⟨e1, e2⟩ := wT he
      obtain ⟨r1, r2⟩ := wT hr
      have elem : ∀ i, i < cap → ∃ r vs, W.cells? 0 (a.add (i * sz)) sz = some vs ∧ bR (csize W) W r vs ∧ WT Γ e r ∧ ∃ y, (elems.map (·.1) ++ rest.map (·.1))[i]? = some y ∧ ∀ B : DataW H → Nat, qp B → iL r ≤ B y := by
       intro i hi
       have : ∃ y : DataW H × List MemPlace, (W.cells? 0 (a.add (i * sz)) sz).bind (DataW.trod enc P W 0 (fun _ => true) true fuel e) = some y ∧ (∀ x ∈ y.1.weights P e, x ≤ reachBytes) ∧ (elems.map (·.1) ++ rest.map (·.1))[i]? = some y.1 := by
        by_cases hil : i < len
        ·obtain ⟨y, hm, hy⟩ := e2 i hil
         exact ⟨y, hy, fun x hx => hz x (.inr (.inl (uJ (List.mem_map.2 ⟨y, List.mem_of_getElem? hm, rfl⟩) x hx))), by rw [List.getElem?_append_left (by simp; omega), List.getElem?_map, hm]; rfl⟩
        ·obtain ⟨y, hm, hy⟩ := r2 (i - len) (by omega)
         rw [show len + (i - len) = i by omega] at hy
         exact ⟨y, hy, fun x hx => hz x (.inr (.inr (uJ (List.mem_map.2 ⟨y, List.mem_of_getElem? hm, rfl⟩) x hx))), by rw [List.getElem?_append_right (by simp; omega), List.length_map, e1, List.getElem?_map, hm]; rfl⟩
       obtain ⟨⟨d', ps'⟩, hy, hzy, hat⟩ := this
       obtain ⟨vs, hvs, htr⟩ := Option.bind_eq_some_iff.1 hy
       obtain ⟨r, h1, h2, h3⟩ := wW hΓ hL fuel e vs d' ps' heL htr hzy
       exact ⟨r, vs, hvs, h1, h2, d', hat, h3⟩
      by_cases hcap : cap = 0
      ·subst hcap
       have hl0 : len = 0 := by omega
       subst hl0
       refine ⟨[.sl [] (some [])], ⟨_, [], rfl, ?_, rfl⟩, .slice hty (by simp) (by simp) (by simp) (by simp), fun B hB => by simpa [iL, yI, fP, PD] using hB.one _⟩
       simp only [aZ]
       exact .inl ⟨⟨some a, rfl⟩, trivial, by simp⟩
      ·obtain ⟨b, o, sp⟩ := a
       have hsp : sp = none := by
        obtain ⟨r, vs, hvs, _, _, _⟩ := elem 0 (by omega)
        obtain ⟨_, hv⟩ := wU hvs
        obtain ⟨v, _, hcell⟩ := hv 0 hsz
        simp only [Nat.zero_mul, Addr.add, if_true] at hcell
        exact cell_spot hcell
       subst hsp
       obtain ⟨all, a1, a2⟩ := AJ (Q := fun i r => r.length = sz ∧ aV (csize W) W b (o + i * sz) r ∧ WT Γ e r ∧ ∃ y, (elems.map (·.1) ++ rest.map (·.1))[i]? = some y ∧ ∀ B : DataW H → Nat, qp B → iL r ≤ B y) cap fun i hi => by
        obtain ⟨r, vs, hvs, h1, h2⟩ := elem i hi
        obtain ⟨c1, c2⟩ := wU hvs
        refine ⟨r, by rw [← bR.len h1]; exact c1, aV.of h1 fun j v hj => ?_, h2⟩
        have hjl : j < sz := by rw [← c1]; exact (List.getElem?_eq_some_iff.1 hj).1
        obtain ⟨v', g1, g2⟩ := c2 j hjl
        rw [hj] at g1; cases g1
        rw [← g2, gI, gI]
       have hrows : aY (csize W) W b o sz all := aY.TP fun i r hr => ⟨(a2 i r hr).1, (a2 i r hr).2.1⟩
       have hfits : o + cap * sz ≤ csize W b := by
        obtain ⟨r, vs, hvs, _, _, _⟩ := elem (cap - 1) (by omega)
        obtain ⟨_, hv⟩ := wU hvs
        obtain ⟨v, _, hcell⟩ := hv (sz - 1) (by omega)
        rw [gI, gI] at hcell
        have := XU hcell
        have e3 : cap * sz = (cap - 1) * sz + sz := by
         obtain ⟨c, rfl⟩ : ∃ c, cap = c + 1 := ⟨cap - 1, by omega⟩
         rw [Nat.add_sub_cancel, Nat.add_mul, Nat.one_mul]
        omega
       have hlc : len ≤ cap := hb.2.1
       have hmul : len * sz ≤ cap * sz := Nat.mul_le_mul_right _ hlc
       have ht1 : (all.take len).length = len := by simp; omega
       have hd1 : (all.drop len).length = cap - len := by simp; omega
       refine ⟨[.sl (all.take len) (some (all.drop len))], ⟨_, [], rfl, ?_, rfl⟩, .slice hty (by rw [ht1, hd1]; have := hb.2.2; omega) (by
        rw [ht1, hd1]
        have h9 := hz ((elems.length + rest.length) * bytes) (.inl rfl)
        rw [e1, r1] at h9
        exact h9) (fun r hr => ?_) (fun r hr => ?_), fun B hB => ?_⟩
       ·simp only [aZ]
        refine .inr ⟨sz, b, o, cap, by rw [ht1], by rw [ht1]; exact hlc, by rw [ht1]; omega, hrows.take len, ?_⟩
        simp only [lD]
        rw [ht1, hd1]
        refine ⟨rfl, ?_, hrows.drop len⟩
        have : len * sz + (cap - len) * sz = cap * sz := by rw [← Nat.add_mul]; congr 1; omega
        omega
       ·obtain ⟨i, hi⟩ := List.mem_iff_getElem?.1 (List.mem_of_mem_take hr)
        exact (a2 i r hi).2.2.1
       ·obtain ⟨i, hi⟩ := List.mem_iff_getElem?.1 (List.mem_of_mem_drop hr)
        exact (a2 i r hi).2.2.1
       ·have hr1 := Gg (B := B) all (elems.map (·.1) ++ rest.map (·.1)) fun i r hr => by
         obtain ⟨y, hy1, hy2⟩ := (a2 i r hr).2.2.2
         exact ⟨y, hy1, hy2 B hB⟩
        rw [List.map_append, List.sum_append] at hr1
        have hr2 := hB.slice (elems.map (·.1)) (rest.map (·.1))
        have hr3 : fP (all.take len) + fP (all.drop len) = fP all := by rw [← wB, List.take_append_drop]
        simp only [iL, yI, PD]
        omega
    | _ => simp [DataW.trod, hu] at h
   ·simp [DataW.trod, hu] at h
  | agg n fs =>
   simp only [hty] at jw hc
   obtain ⟨fields, hu, ⟨i, hi, hn⟩, hsz, hf⟩ := jw
   simp only [Bool.and_eq_true, List.all_eq_true] at hc
   simp only [DataW.trod, hu] at h
   split at h
   rotate_left
   ·cases h
   rename_i hlen
   rw [wV hi, hn] at hlen
   obtain ⟨xs, hxs, hd⟩ := Option.map_eq_some_iff.1 h
   obtain ⟨m1, m2⟩ := mapM_some hxs
   simp only [Prod.mk.injEq] at hd
   obtain ⟨hd, _⟩ := hd
   subst hd
   simp only [DataW.weights, hu] at hz
   have hxl : (xs.map (·.1)).length = fs.length := by rw [List.length_map, m1]; simpa using hsz
   obtain ⟨l, h1, h2, hbk⟩ := yK (Γ := Γ) (W := W) (cl := csize W) (cs := cs) fs (xs.map (·.1)) 0 (by rw [hlen]; exact hc.1) hxl (fun j q yy hj hyy => by
    have hq : q ∈ fs := List.mem_of_getElem? hj
    have hjl : j < fs.length := (List.getElem?_eq_some_iff.1 hj).1
    have Xx : fields[j]? = some fields[j] := Array.getElem?_eq_getElem (by omega)
    obtain ⟨g1, g2, g3, i', g4, g5⟩ := hf j _ q Xx hj
    obtain ⟨y, hm, hy⟩ := m2 j fields[j] (by simpa using Xx)
    have hzy : ∀ x ∈ y.1.weights P fields[j].type, x ≤ reachBytes := fun x hx => hz x (yL (j := j) (t := fields[j].type) (d := y.1) (by simp [List.getElem?_map]; exact ⟨_, Xx, rfl⟩) (by simp [List.getElem?_map, hm]) x hx)
    rw [g1, g2] at hy
    rw [g2] at hzy
    rw [g2] at g4
    rw [wV g4, g5] at hy
    obtain rfl : y.1 = yy := by rw [List.getElem?_map, hm] at hyy; simpa using hyy
    exact wW hΓ hL fuel q.2.2 _ y.1 y.2 (mem_iff (hc.2 q hq)) hy hzy)
   rw [List.drop_zero] at h1
   refine ⟨l, h1, .agg hty (by rw [← bR.len h1]; exact hlen) fun q hq => ?_, fun B hB => Nat.le_trans (hbk B hB) (hB.agg _)⟩
   have := (h2 q hq).2
   rwa [Nat.sub_zero] at this
  | _ => simp only [hty] at hc; cases hc
end
end Go.X
