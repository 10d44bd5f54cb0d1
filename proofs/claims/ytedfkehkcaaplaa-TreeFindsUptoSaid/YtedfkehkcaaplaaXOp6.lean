/- T -/
import Derived.Test.YtedfkehkcaaplaaXOp5
namespace Go.X
open Go
set_option linter.unusedVariables false
variable [bY]
section
variable {R : Type} {P : Program} {Γ : Tab} {cf : CF} {an : iG} {o : Oper} {a : Act} {w : World} {m : Mt} {K : PV → St → Option R} {r : R} {st : St} {ρ : Env}
theorem Pt (n : Nat) : ∀ l, (up.ups n l).length = l.length
 | [] => rfl
 | x :: r => by simp [up.ups, Pt n r]
theorem Rh {x : PV} {v : Value} {bl : List (List bZ)} {cl : Nat → Nat} (hv : aj bl cl w x v) (n : Nat) (hok : bU (up.ups n (unpack x)) = true) : aF (mG bl n) cl w (up.ups n (unpack x)) v.cells.toList := by
 rcases rX hv (.inr (.inr (.inr trivial))) with ⟨l, rfl, h2⟩ | ⟨hne, h2⟩
 ·exact jl hok (qK n _ _ h2)
 ·rw [h2] at hok ⊢
  rw [Ig] at hok ⊢
  have hy : iI (up n x) = true := by
   cases hc : iI (up n x) with
   | true => rfl
   | false => simp [bU, hc] at hok
  have h6 := zq n x v hv
  have h7 := rW hy h6
  rw [cells_one h7]
  simp only [aF]
  exact ⟨v, [], rfl, h6, h7, rfl⟩
theorem aV.append {cl : Nat → Nat} {w : World} {b : Nat} : ∀ {l k : List D} {o : Nat}, aV cl w b o l → aV cl w b (o + l.length) k → aV cl w b o (l ++ k)
 | [], k, o, _, h => by simpa using h
 | d :: l, k, o, h, hk => by
  simp only [aV, List.cons_append] at h ⊢
  exact ⟨h.1, aV.append h.2 (by rwa [List.length_cons, ← Nat.add_assoc, Nat.add_right_comm] at hk)⟩
theorem aV.take' {cl : Nat → Nat} {w : World} {b : Nat} : ∀ {l : List D} {o : Nat} (n : Nat), aV cl w b o l → aV cl w b o (l.take n)
 | l, o, 0, h => by simp [aV]
 | [], o, n + 1, h => by simp [aV]
 | d :: r, o, n + 1, h => by
  simp only [aV, List.take_succ_cons] at h ⊢
  exact ⟨h.1, h.2.take' n⟩
theorem aV.move {cl cl' : Nat → Nat} {w w' : World} (hk : Keeps cl w cl' w') {b : Nat} : ∀ {l : List D} {o : Nat}, (∀ j, j < l.length → w'.cell? ⟨b, o + j, none⟩ = w.cell? ⟨b, o + j, none⟩) → aV cl w b o l → aV cl' w' b o l
 | [], o, _, _ => by simp [aV]
 | d :: l, o, hc, h => by
  simp only [aV] at h ⊢
  obtain ⟨⟨v, h1, h2⟩, h3⟩ := h
  refine ⟨⟨v, by rw [← h1]; simpa using hc 0 (by simp), h2.keep hk⟩, aV.move hk (fun j hj => ?_) h3⟩
  have := hc (j + 1) (by simpa using hj)
  rwa [Nat.add_assoc, Nat.add_comm 1]
theorem aY.move {cl cl' : Nat → Nat} {w w' : World} (hk : Keeps cl w cl' w') {b sz : Nat} : ∀ {l : List (List D)} {o : Nat}, (∀ j, j < l.length * sz → w'.cell? ⟨b, o + j, none⟩ = w.cell? ⟨b, o + j, none⟩) → aY cl w b o sz l → aY cl' w' b o sz l
 | [], o, _, _ => by simp [aY]
 | r :: l, o, hc, h => by
  simp only [aY] at h ⊢
  simp only [List.length_cons, Nat.add_mul, Nat.one_mul] at hc
  refine ⟨h.1, h.2.1.move hk fun j hj => hc j (by omega), aY.move hk (fun j hj => ?_) h.2.2⟩
  have := hc (sz + j) (by omega)
  rwa [Nat.add_assoc]
theorem aY.Ci {cl cl' : Nat → Nat} {w w' : World} (hk : Keeps cl w cl' w') {b sz : Nat} {r' : List D} (hr : r'.length = sz) : ∀ {l : List (List D)} {o i : Nat}, aV cl' w' b (o + i * sz) r' →
  (∀ j, j < l.length * sz → (j < i * sz ∨ (i + 1) * sz ≤ j) → w'.cell? ⟨b, o + j, none⟩ = w.cell? ⟨b, o + j, none⟩) → aY cl w b o sz l → aY cl' w' b o sz (l.set i r')
 | [], o, i, _, _, _ => by simp [aY]
 | r :: l, o, 0, h, hc, hl => by
  simp only [List.set_cons_zero, aY] at hl ⊢
  simp only [List.length_cons, Nat.add_mul, Nat.one_mul, Nat.zero_mul, Nat.zero_add, Nat.add_zero] at hc h
  refine ⟨hr, h, hl.2.2.move hk fun j hj => ?_⟩
  have := hc (sz + j) (by omega) (.inr (by omega))
  rwa [Nat.add_assoc]
 | r :: l, o, i + 1, h, hc, hl => by
  simp only [List.set_cons_succ, aY] at hl ⊢
  simp only [List.length_cons, Nat.add_mul, Nat.one_mul] at hc h
  refine ⟨hl.1, hl.2.1.move hk fun j hj => hc j (by omega) (.inl (by omega)), aY.Ci hk hr ?_ (fun j hj hj2 => ?_) hl.2.2⟩
  ·rwa [Nat.add_assoc, Nat.add_comm sz]
  ·have := hc (sz + j) (by omega) (hj2.imp (fun h => by omega) (fun h => by rw [Nat.add_mul, Nat.one_mul] at h; omega))
   rwa [Nat.add_assoc]
theorem nC {g : Nat} {cur : Array Value} {t : TypeId} {fr : Nat × Nat} {cs : List Value} (hg : w.heap[g]? = some (.cells cur t fr)) (j : Nat) : (w.setRow g cs.toArray).cell? ⟨g, j, none⟩ = cs[j]? := by
 simp [World.cell?, setRow_heap w g cur cs.toArray t fr hg]
theorem pQ {g : Nat} {cur cs : Array Value} {t : TypeId} (hg : w.heap[g]? = some (.cells cur t (0, 0))) (a : Addr) (h : a.block = g) : (w.setRow g cs).frozen? a = w.frozen? a := by
 simp only [World.frozen?, h, setRow_heap w g cur cs t (0, 0) hg, hg]
theorem xX (cur vs : List Value) (o j : Nat) (h : o + vs.length ≤ cur.length) : (cur.take o ++ vs ++ cur.drop (o + vs.length))[j]? = if j < o then cur[j]? else if j < o + vs.length then vs[j - o]? else cur[j]? := by
 have ho : (cur.take o).length = o := by simp; omega
 by_cases h1 : j < o
 ·rw [if_pos h1, List.append_assoc, List.getElem?_append_left (by omega), List.getElem?_take_of_lt h1]
 ·rw [if_neg h1]
  by_cases h2 : j < o + vs.length
  ·rw [if_pos h2, List.append_assoc, List.getElem?_append_right (by omega), ho, List.getElem?_append_left (by omega)]
  ·rw [if_neg h2, List.getElem?_append_right (by simp; omega)]
   simp only [List.length_append, ho, List.getElem?_drop]
   congr 1
   omega
theorem Nw (hΓ : cZ P Γ) (he : aM m w ρ a) (hw : aO m st w) {t : TypeId} {x y : Operand} (hop : o.op = .store t x y)
  (h : evalOp (real cf) Γ an ρ st o.dst o.op K = some r) : Goes P o a w m K r := by
 rw [hop] at h
 simp only [evalOp] at h
 have hp := bV he x
 have hq := bV he y
 cases b1 : Nat.beq (Γ.zero t).length (unpack (ev ρ y)).length with
 | false => simp [b1] at h
 | true =>
 cases b2 : Nat.ble 1 (Γ.zero t).length with
 | false => simp [b1, b2] at h
 | true =>
 simp only [b1, b2, cond_true] at h
 have c1 := Nat.eq_of_beq_eq_true b1
 have c2 := Nat.le_of_ble_eq_true b2
 obtain ⟨it, z, z1, z2, z3, z4, z5, _⟩ := hΓ.zero t (by intro hc; rw [hc] at c2; simp at c2)
 have run : ∀ b off (cur : Array Value) (ty : TypeId), a.eval x = .pointer (some ⟨b, off, none⟩) → (a.eval y).cells.size = (unpack (ev ρ y)).length → w.heap[b]? = some (.cells cur ty (0, 0)) → off + (a.eval y).cells.size ≤ cur.size → (∀ v ∈ (a.eval y).cells.toList, v.oneCell' = true) →
   (execOp a.eval o).run P w = .ok .skip (w.setRow b (cur.toList.take off ++ (a.eval y).cells.toList ++ cur.toList.drop (off + (a.eval y).cells.toList.length)).toArray) := by
  intro b off cur ty hx hsz hb hfit hone
  have hst := run_storeCells_at P b off ty (a.eval y).cells.toList 0 cur w hb (by simpa using hfit) hone
  simp only [Nat.add_zero] at hst
  have hn : (a.eval y).cells.size = it.size := by rw [hsz, ← c1, ← z3]
  simp only [execOp, hop, hx, Instr.storeAt, Instr.sureAddr, storeVar, sizeOf, typeInfo]
  simp [z1, hn]
  rw [hst]
  simp [hn]
 split at h
 ·rename_i l i off hx
  rw [hx] at hp; simp only [aj] at hp
  obtain ⟨e, p1, p0, p2⟩ := hp
  split at h
  ·rename_i ty cs hl
   obtain ⟨e', k3, k4⟩ := hw.st.je hl
   rw [p1] at k3; cases k3
   have k4' := k4
   simp only [aL] at k4
   obtain ⟨k5, k6, vs, k7, k8⟩ := k4
   cases b3 : bU (up.ups l (unpack (ev ρ y))) with
   | false => simp [b3] at h
   | true =>
   cases b4 : Nat.ble (off + (unpack (ev ρ y)).length) cs.length with
   | false => simp [b3, b4] at h
   | true =>
   simp only [b3, b4, cond_true] at h
   have c4 := Nat.le_of_ble_eq_true b4
   have hnew := Rh hq l b3
   have hlen := hnew.len
   rw [Pt] at hlen
   have hlen' : (a.eval y).cells.size = (unpack (ev ρ y)).length := by simpa using hlen
   have hvl := k8.len
   have hrun := run e.b off vs.toArray ty p2 hlen' k7 (by simp; omega) (fun v hv => hnew.one v hv)
   simp only [List.toList_toArray] at hrun
   obtain ⟨m2, rfl, x2, w2⟩ := hw.put (l := l) (i := i) (w' := w.setRow e.b (vs.take off ++ (a.eval y).cells.toList ++ vs.drop (off + (a.eval y).cells.toList.length)).toArray) p1 (ku p0)
    (fun b hb => setRow_other w e.b b _ hb) (pQ k7) (by simp [World.setRow]) rfl rfl rfl (o := .box ty (cs.take off ++ up.ups l (unpack (ev ρ y)) ++ cs.drop (off + (unpack (ev ρ y)).length))) (e' := e) rfl (jA.refl e) (n := 0) (by rw [k6]; exact Nat.le_refl _) (Nat.zero_le _) (fun j hj => by rw [k6] at hj; omega)
    (fun hk he => by
     simp only [aL, if_true]
     refine ⟨k5, trivial, _, setRow_heap w e.b vs.toArray _ ty (0, 0) k7, ?_⟩
     have he' := bG.mG l he
     exact (((k8.take off).keep hk he').append (hnew.keep hk he')).append (by rw [← hlen]; exact (k8.drop _).keep hk he'))
   exact Goes.skip' hrun h x2 w2
  ·cases h
 ·rename_i l i k ix off hx
  obtain ⟨cs, st1, hf, hz⟩ := gT h
  clear h
  have h := hz
  clear hz
  try dsimp only at h
  obtain ⟨m1, x1, w1, n1, hcells⟩ := xV hw hq hf
  have hp1 := (hp).ext x1
  rw [hx] at hp1; simp only [aj] at hp1
  obtain ⟨e, bb, p1, p0, p2, p3⟩ := hp1
  split at h
  ·rename_i ty sz rows cap hl
   obtain ⟨e', k3, k4⟩ := w1.st.je hl
   rw [p1] at k3; cases k3
   simp only [aL, cond_true] at k4
   obtain ⟨g1, g2, g3, g4, g5, g⟩ := k4
   subst g2
   cases hlen : (real cf).ieq ((real cf).len rows) k with
   | false => simp [hlen] at h
   | true =>
   simp only [hlen, cond_true] at h
   have hk : (rows.length : Int) = k := by simpa [real] using hlen
   have hb : bb = e.b := p3 (by rw [g3]; exact hk.symm)
   subst hb
   obtain ⟨rr, Hy, hz⟩ := Option.bind_eq_some_iff.1 h
   clear h
   have h := hz
   clear hz
   split at h
   ·rename_i ds' hall
    obtain ⟨hi0, hi1⟩ := uh Hy
    have hlt := (List.getElem?_eq_some_iff.1 hi1).1
    have jB : e.gone = false := lg (by omega)
    obtain ⟨⟨cur, g6, g7⟩, g8, g9⟩ := g jB
    obtain ⟨q1, q2⟩ := g8.nth hi1
    rw [Nat.zero_add] at q2
    cases b3 : Nat.ble (off + ds'.length) rr.length with
    | false => simp [b3] at h
    | true =>
    simp only [b3, cond_true, vJ] at h
    have c3 := Nat.le_of_ble_eq_true b3
    have hcs := rZ hall
    subst hcs
    have hok : bU (up.ups 0 (ds ds')) = true := by
     have : ∀ l : List D, bU (up.ups 0 (ds l)) = true := by
      intro l
      induction l with
      | nil => rfl
      | cons d l ih => simp [ds, up.ups, up, bU, iI, ih]
     exact this ds'
    have hnew := hcells 0 hok
    have Nu : ∀ l : List D, up.ups 0 (ds l) = ds l := by
     intro l
     induction l with
     | nil => rfl
     | cons d l ih => simp [ds, up.ups, up, ih]
    rw [Nu] at hnew
    have hdl := bR.sj hnew.list
    have hvl := hdl.len
    have Cw : (a.eval y).cells.size = (unpack (ev ρ y)).length := by
     have h1 : (ds ds').length = (unpack (ev ρ y)).length := by
      have : ∀ (l : List PV) (st : St), (freezes (real cf) st l).1.length = l.length := by
       intro l
       induction l with
       | nil => intro st; rfl
       | cons x l ih => intro st; simp [freezes, ih]
      rw [← this (unpack (ev ρ y)) st, hf]
     rw [← h1, Nh, ← hvl]; simp
    have hsz : (ix.toNat + 1) * e.sz ≤ rows.length * e.sz := Nat.mul_le_mul_right _ hlt
    have hsz2 : rows.length * e.sz ≤ e.cap * e.sz := Nat.mul_le_mul_right _ g4
    rw [Nat.add_mul, Nat.one_mul] at hsz
    have hsy : (a.eval y).cells.size = ds'.length := by simpa using hvl
    have hrun := run e.b (ix.toNat * e.sz + off) cur ty p2 Cw g6 (by rw [hsy]; omega) (fun v hv => hnew.one v hv)
    have um : (ix.toNat * e.sz + off) + (a.eval y).cells.toList.length ≤ cur.toList.length := by rw [hvl]; simp; omega
    have hcell : ∀ j, (w.setRow e.b (cur.toList.take (ix.toNat * e.sz + off) ++ (a.eval y).cells.toList ++ cur.toList.drop (ix.toNat * e.sz + off + (a.eval y).cells.toList.length)).toArray).cell? ⟨e.b, j, none⟩ =
      if j < ix.toNat * e.sz + off then w.cell? ⟨e.b, j, none⟩ else if j < ix.toNat * e.sz + off + (a.eval y).cells.toList.length then (a.eval y).cells.toList[j - (ix.toNat * e.sz + off)]? else w.cell? ⟨e.b, j, none⟩ := by
     intro j
     rw [nC g6, xX _ _ _ _ um]
     simp [World.cell?, g6]
    obtain ⟨m2, rfl, x2, w2⟩ := w1.put (l := l) (i := i) (w' := w.setRow e.b (cur.toList.take (ix.toNat * e.sz + off) ++ (a.eval y).cells.toList ++ cur.toList.drop (ix.toNat * e.sz + off + (a.eval y).cells.toList.length)).toArray) p1 jB
     (fun b hb => setRow_other w e.b b _ hb) (pQ g6) (by simp [World.setRow]) rfl rfl rfl (o := .row ty e.sz ((real cf).SA rows ix (rr.take off ++ ds' ++ rr.drop (off + ds'.length))) true cap) (e' := e) rfl (jA.refl e) (n := 0) (by rw [g9]; exact Nat.le_refl _) (Nat.zero_le _) (fun j hj => by rw [g9] at hj; omega)
     (fun hk he => by
      have hrl : (rr.take off ++ ds' ++ rr.drop (off + ds'.length)).length = e.sz := by simp; omega
      simp only [aL, if_true, cond_true]
      have hsl : ((real cf).SA rows ix (rr.take off ++ ds' ++ rr.drop (off + ds'.length))).length = rows.length := by simp [real]
      rw [hsl]
      refine ⟨g1, trivial, g3, g4, g5, fun _ => ⟨⟨_, setRow_heap w e.b cur _ ty (0, 0) g6, ?_⟩, ?_, trivial⟩⟩
      ·simp only [List.size_toArray, List.length_append, List.length_take, List.length_drop]
       simp only [Array.length_toList] at um ⊢
       omega
      ·refine aY.Ci hk hrl ?_ (fun j hj hj2 => ?_) g8
       ·rw [Nat.zero_add]
        refine aV.append (aV.append ?_ ?_) ?_
        ·refine ((q2.take' off).move hk fun j hj => ?_)
         simp only [List.length_take] at hj
         rw [hcell, if_pos (by omega)]
        ·refine aV.of (hdl.keep hk) fun j v hv => ?_
         have hj := (List.getElem?_eq_some_iff.1 hv).1
         have ht : (rr.take off).length = off := by simp; omega
         rw [ht, hcell, if_neg (by omega), if_pos (by omega), ← hv]
         congr 1; omega
        ·have ht : (rr.take off ++ ds').length = off + ds'.length := by simp; omega
         rw [ht]
         have q3 := (q2.drop' (off + ds'.length))
         refine q3.move hk fun j hj => ?_
         rw [hcell, if_neg (by omega), if_neg (by omega)]
       ·rw [Nat.zero_add, hcell]
        rw [Nat.add_mul, Nat.one_mul] at hj2
        rcases hj2 with hj2 | hj2
        ·rw [if_pos (by omega)]
        ·rw [if_neg (by omega), if_neg (by omega)])
    exact Goes.skip' hrun h (x1.trans x2) w2
   ·cases h
  ·cases h
 ·cases h
end
end Go.X
