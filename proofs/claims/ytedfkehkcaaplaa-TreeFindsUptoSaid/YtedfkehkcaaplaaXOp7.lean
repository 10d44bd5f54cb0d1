/- T -/
import Derived.Test.YtedfkehkcaaplaaXOp6
import Derived.Laws.Tables
namespace Go.X
open Go
set_option linter.unusedVariables false
variable [bY]
theorem KJ (off : Nat) : ∀ (l : List Value) (k : Nat) (cs : Array Value), off + k + l.length ≤ cs.size →
  ((l.zipIdx k).foldl (fun (cs : Array Value) (q : Value × Nat) => cs.setIfInBounds (off + q.2) q.1) cs).toList = cs.toList.take (off + k) ++ l ++ cs.toList.drop (off + k + l.length)
 | [], k, cs, _ => by simp
 | x :: l, k, cs, h => by
  simp only [List.length_cons] at h
  simp only [List.zipIdx_cons, List.foldl_cons]
  rw [KJ off l (k + 1) _ (by simp; omega)]
  apply List.ext_getElem?
  intro j
  have hs : off + k < cs.toList.length := by simp; omega
  have e1 : (cs.setIfInBounds (off + k) x).toList = cs.toList.set (off + k) x := by simp
  rw [e1]
  have l1 : (cs.toList.set (off + k) x).length = cs.toList.length := by simp
  have hL : ((cs.toList.set (off + k) x).take (off + (k + 1))).length = off + k + 1 := by simp; omega
  have hR : (cs.toList.take (off + k)).length = off + k := by simp; omega
  rcases Nat.lt_trichotomy j (off + k) with hj | hj | hj
  ·rw [List.append_assoc, List.append_assoc, List.getElem?_append_left (by omega), List.getElem?_append_left (by omega), List.getElem?_take_of_lt (by omega), List.getElem?_take_of_lt hj, List.getElem?_set_ne (by omega)]
  ·subst hj
   rw [List.append_assoc, List.append_assoc, List.getElem?_append_left (by omega), List.getElem?_append_right (by omega), List.getElem?_take_of_lt (by omega), List.getElem?_set_self (by omega), hR]
   simp
  ·have eL : ∀ (A B : List Value), ((cs.toList.set (off + k) x).take (off + (k + 1)) ++ A ++ B)[j]? = (A ++ B)[j - (off + k + 1)]? := fun A B => by
    rw [List.append_assoc, List.getElem?_append_right (by omega), hL]
   have eR : ∀ (A B : List Value), (cs.toList.take (off + k) ++ A ++ B)[j]? = (A ++ B)[j - (off + k)]? := fun A B => by
    rw [List.append_assoc, List.getElem?_append_right (by omega), hR]
   rw [eL, eR]
   have : j - (off + k) = (j - (off + k + 1)) + 1 := by omega
   rw [this]
   by_cases h2 : j - (off + k + 1) < l.length
   ·rw [List.getElem?_append_left h2, List.getElem?_append_left (by simp; omega)]; simp
   ·rw [List.getElem?_append_right (by omega), List.getElem?_append_right (by simp; omega)]
    simp only [List.getElem?_drop, List.length_cons]
    rw [List.getElem?_set_ne (by omega)]
    congr 1; omega
theorem Ri (off : Nat) (v cs : Array Value) (h : off + v.size ≤ cs.size) :
  (v.zipIdx.foldl (fun (cs : Array Value) (q : Value × Nat) => cs.setIfInBounds (off + q.2) q.1) cs).toList = cs.toList.take off ++ v.toList ++ cs.toList.drop (off + v.size) := by
 have := KJ off v.toList 0 cs (by simpa using h)
 rw [← Array.foldl_toList, Array.toList_zipIdx]
 simpa using this
section
variable {R : Type} {P : Program} {Γ : Tab} {cf : CF} {an : iG} {o : Oper} {a : Act} {w : World} {m : Mt} {K : PV → St → Option R} {r : R} {st : St} {ρ : Env}
theorem Ny {bl : List (List bZ)} {cl : Nat → Nat} {x : PV} {v : Value} (hv : aj bl cl w x v) (hok : bU (unpack x) = true) : v.cells.size = (unpack x).length := by
 have := (FD hv hok).len
 simpa using this
theorem Cx {bl : List (List bZ)} {cl : Nat → Nat} {place place' : Nat → Option (Nat × Nat)} (hpl : ∀ i q, place i = some q → place' i = some q) :
  ∀ {is : List Nat} {vs : List PV} {us : List Value} {cells cells' : List PV} {cs : Array Value}, aK bl cl w vs us → aF bl cl w cells cs.toList → wh place cells (List.zip is vs) = some cells' →
   ∃ cs', Instr.fill place' cs (List.zip is us) = some cs' ∧ aF bl cl w cells' cs'.toList
 | [], vs, us, cells, cells', cs, hv, hc, h => by
  simp only [List.zip_nil_left, wh, Option.some.injEq] at h
  subst h
  exact ⟨cs, by simp [Instr.fill], hc⟩
 | i :: is, [], us, cells, cells', cs, hv, hc, h => by
  simp only [aK] at hv
  subst hv
  simp only [List.zip_nil_right, wh, Option.some.injEq] at h
  subst h
  exact ⟨cs, by simp [Instr.fill], hc⟩
 | i :: is, x :: vs, us, cells, cells', cs, hv, hc, h => by
  simp only [aK] at hv
  obtain ⟨v, s, rfl, h1, h2⟩ := hv
  simp only [List.zip_cons_cons, wh] at h ⊢
  split at h
  ·rename_i off sz hp
   cases b1 : Nat.beq (unpack x).length sz with
   | false => simp [b1] at h
   | true =>
   cases b2 : Nat.ble (off + sz) cells.length with
   | false => simp [b1, b2] at h
   | true =>
   cases b3 : bU (unpack x) with
   | false => simp [b1, b2, b3] at h
   | true =>
   simp only [b1, b2, b3, cond_true] at h
   have c1 := Nat.eq_of_beq_eq_true b1
   have c2 := Nat.le_of_ble_eq_true b2
   have hl := Ny h1 b3
   have hcl := hc.len
   have hcl' : cs.size = cells.length := by simpa using hcl
   simp only [Instr.fill, hpl i _ hp]
   have hn : ¬ (v.cells.size ≠ sz || off + v.cells.size > cs.size) = true := by
    simp only [Bool.or_eq_true, decide_eq_true_eq, not_or]
    omega
   rw [if_neg hn]
   refine Cx hpl h2 ?_ h
   have hf := Ri off v.cells cs (by omega)
   rw [hf]
   have e2 : off + v.cells.size = off + sz := by omega
   rw [e2]
   exact ((hc.take off).append (FD h1 b3)).append (hc.drop _)
  ·cases h
theorem Nz (hΓ : cZ P Γ) {t n : Nat} {fs : List (Nat × Nat × Nat)} (hty : Γ.ty t = .agg n fs) :
  ∃ fields, P.underlying t = some (.struct fields) ∧ (∃ i, P.info? t = some i ∧ i.size = n) ∧ fields.toList.mapM (fun f => (P.info? f.type).map fun i => (f.offset, i.size)) = some (fs.map fun q => (q.1, q.2.1)) := by
 have ht := hΓ.ty t
 unfold kD at ht
 simp only [hty] at ht
 obtain ⟨fields, h1, h2, h3, h4⟩ := ht
 refine ⟨fields, h1, h2, ?_⟩
 have : ∀ (l : List Field) (fs : List (Nat × Nat × Nat)), l.length = fs.length → (∀ (j : Nat) f q, l[j]? = some f → fs[j]? = some q → f.offset = q.1 ∧ f.type = q.2.2 ∧ q.2.1 ≠ 0 ∧ ∃ i, P.info? f.type = some i ∧ i.size = q.2.1) →
   l.mapM (fun f => (P.info? f.type).map fun i => (f.offset, i.size)) = some (fs.map fun q => (q.1, q.2.1)) := by
  intro l
  induction l with
  | nil => intro fs hl _; cases fs <;> simp at hl ⊢
  | cons f l ih =>
   intro fs hl hf
   cases fs with
   | nil => simp at hl
   | cons q fs =>
    obtain ⟨g1, g2, g3, i, g4, g5⟩ := hf 0 f q rfl rfl
    have := ih fs (by simpa using hl) fun j f q h1 h2 => hf (j + 1) f q (by simpa using h1) (by simpa using h2)
    simp [List.mapM_cons, g4, this, g1, g5]
 exact this fields.toList fs (by simpa using h3) fun j f q h1 h2 => h4 j f q (by simpa using h1) h2
theorem map_snd {α β γ : Type} (f : β → γ) (l : List (α × β)) : (l.map fun q => (q.1, f q.2)) = List.zip (l.map (·.1)) ((l.map (·.2)).map f) := by
 induction l with
 | nil => rfl
 | cons q l ih => simp [ih]
theorem NA (hΓ : cZ P Γ) (he : aM m w ρ a) (hw : aO m st w) {t : TypeId} {parts : Array (Nat × Operand)} (hop : o.op = .build t parts)
  (h : evalOp (real cf) Γ an ρ st o.dst o.op K = some r) : Goes P o a w m K r := by
 rw [hop] at h
 simp only [evalOp] at h
 split at h
 ·rename_i n fs z0 z1 hty hz
  obtain ⟨fields, h1, ⟨i, h2, h3⟩, h4⟩ := Nz hΓ hty
  obtain ⟨i', z, q1, q2, q3, q4, q5, _⟩ := hΓ.zero t (by rw [hz]; simp)
  rw [h2] at q1; cases q1
  obtain ⟨vs, st1, hf, hz⟩ := gT h
  clear h
  have h := hz
  clear hz
  try dsimp only at h
  have hvs := xM he (parts.toList.map (·.2))
  obtain ⟨m1, x1, w1, v1, n1⟩ := gQ hw hvs hf
  split at h
  ·rename_i cs hcs
   rw [← hz] at hcs
   obtain ⟨cs', g1, g2⟩ := Cx (place' := fun x => (fs.map fun q => (q.1, q.2.1)).toArray[x]?) (fun j q hq => by
    unfold Pm at hq
    split at hq
    ·rename_i q' hq'
     cases hq
     simp [hq']
    ·cases hq) v1 (aK.cells (q5 m1.cl w)) hcs
   have hrun : (execOp a.eval o).run P w = .ok (.value (.agg cs')) w := by
    have hb : P.built t (parts.map fun (i, x) => (i, a.eval x)).toList = some cs' := by
     unfold Program.built
     simp only [h2, h1, q2, h4]
     rw [← g1]
     simp only [Array.toList_map]
     rw [← map_snd]
    simp [execOp, hop, run_build w t _ cs' hb]
   split at h
   ·split at h
    ·rename_i l hall
     have hcs := rZ hall
     subst hcs
     have hDl := bR.sj g2.list
     cases hl : fQ st1 0 with
     | false => simp [hl] at h
     | true =>
      simp only [hl, cond_true] at h
      obtain ⟨m2, st2, cs2, x2, w2, n2, v2, hK⟩ := jN hΓ l 0 w1 (iT hl) hDl h
      exact Goes.value' hrun hK (x1.trans x2) w2 (by simp only [aj]; exact ⟨cs'.toList, by simp, v2⟩)
    ·cases h
   ·exact Goes.value' hrun h x1 w1 (by simp only [aj]; exact ⟨cs'.toList, by simp, g2⟩)
  ·cases h
 ·cases h
theorem Cy {bl : List (List bZ)} {cl : Nat → Nat} {z : List PV} {vs : List Value} (hz : aF bl cl w z vs) : ∀ n : Nat, aF bl cl w (QU z n) ((List.replicate n vs).flatten)
 | 0 => by simp [QU, aF]
 | n + 1 => by simp only [QU, List.replicate_succ, List.flatten_cons]; exact hz.append (Cy hz n)
theorem uo {vs : List Value} : ∀ n : Nat, (List.replicate n vs).flatten.length = n * vs.length
 | 0 => by simp
 | n + 1 => by simp [List.replicate_succ, uo n, Nat.add_mul, Nat.add_comm]
theorem uq {vs : List Value} (h0 : 0 < vs.length) : ∀ (n j : Nat), j < n * vs.length → (List.replicate n vs).flatten[j]? = vs[j % vs.length]?
 | 0, j, h => by simp at h
 | n + 1, j, h => by
  simp only [List.replicate_succ, List.flatten_cons]
  by_cases hj : j < vs.length
  ·rw [List.getElem?_append_left hj, Nat.mod_eq_of_lt hj]
  ·rw [List.getElem?_append_right (by omega), uq h0 n _ (by rw [Nat.add_mul, Nat.one_mul] at h; omega)]
   congr 1
   rw [← Nat.mod_eq_sub_mod (by omega)]
theorem FK (z : Array Value) (n : Nat) (h0 : 0 < z.size) : (madeCells z (n * z.size)).toList = (List.replicate n z.toList).flatten := by
 apply List.ext_getElem?
 intro j
 by_cases hj : j < n * z.size
 ·rw [uq (by simpa using h0) n j (by simpa using hj)]
  have hlt : j % z.size < z.size := Nat.mod_lt _ h0
  simp [madeCells, hj, hlt]
 ·rw [List.getElem?_eq_none (by simp [madeCells]; omega), List.getElem?_eq_none (by rw [uo]; simpa using hj)]
theorem wM {cl : Nat → Nat} {w : World} {b sz : Nat} : ∀ (n : Nat) {l : List D} {o : Nat}, l.length = n * sz → aV cl w b o l → aY cl w b o sz (chunk sz n l)
 | 0, l, o, _, _ => by simp [chunk, aY]
 | n + 1, l, o, hl, h => by
  simp only [chunk, aY]
  rw [Nat.add_mul, Nat.one_mul] at hl
  exact ⟨by simp; omega, h.take' sz, wM n (by simp; omega) (h.drop' sz)⟩
theorem mR (sz : Nat) : ∀ (n : Nat) (l : List D), (chunk sz n l).length = n
 | 0, l => rfl
 | n + 1, l => by simp [chunk, mR sz n]
theorem Bd (hΓ : cZ P Γ) (he : aM m w ρ a) (hw : aO m st w) {t : TypeId} {n : Nat} {parts : Array (Nat × Operand)} (hop : o.op = .buildSlice t n parts)
  (h : evalOp (real cf) Γ an ρ st o.dst o.op K = some r) : Goes P o a w m K r := by
 rw [hop] at h
 simp only [evalOp] at h
 have ht := hΓ.ty t
 unfold kD at ht
 split at h
 ·rename_i e sz bytes hty
  simp only [hty] at ht
  obtain ⟨h1, hsz, i, h2, h3, h4, hby⟩ := ht
  split at h
  ·cases h
  ·rename_i hz0
   obtain ⟨i', z, q1, q2, q3, q4, q5, _⟩ := hΓ.zero e hz0
   rw [h2] at q1; cases q1
   cases b1 : Nat.ble (n * sz) 16777216 with
   | false => simp [b1] at h
   | true =>
   simp only [b1, cond_true] at h
   have c1 := Nat.le_of_ble_eq_true b1
   obtain ⟨vs, st1, hf, hz⟩ := gT h
   clear h
   have h := hz
   clear hz
   try dsimp only at h
   have hvs := xM he (parts.toList.map (·.2))
   obtain ⟨m1, x1, w1, v1, n1⟩ := gQ hw hvs hf
   have hzs : z.cells.size = sz := by rw [← h3, ← q4]; simp
   split at h
   ·rename_i cs hcs
    split at h
    ·rename_i dl hdl
     have hcz : aF m1.blk m1.cl w (QU (ds (Γ.zero e)) n) (madeCells z.cells (n * sz)).toList := by
      have := Cy (aK.cells (bl := m1.blk) (q5 m1.cl w)) n
      rw [← hzs, FK z.cells n (by omega)]
      exact this
     obtain ⟨cs', g1, g2⟩ := Cx (place' := fun i => some (i * sz, sz)) (fun j q hq => hq) v1 hcz hcs
     have agD := rZ hdl
     subst agD
     have hD := bR.sj g2.list
     have hlen : cs'.size = n * sz := by
      have e1 := g2.len
      have : ∀ (ps : List (Nat × PV)) (c c' : List PV), wh (fun i => some (i * sz, sz)) c ps = some c' → c'.length = c.length := by
       intro ps
       induction ps with
       | nil => intro c c' hc; simp [wh] at hc; rw [hc]
       | cons p ps ih =>
        intro c c' hc
        obtain ⟨j, x⟩ := p
        simp only [wh] at hc
        cases d1 : Nat.beq (unpack x).length sz with
        | false => simp [d1] at hc
        | true =>
        cases d2 : Nat.ble (j * sz + sz) c.length with
        | false => simp [d1, d2] at hc
        | true =>
        cases d3 : bU (unpack x) with
        | false => simp [d1, d2, d3] at hc
        | true =>
        simp only [d1, d2, d3, cond_true] at hc
        have := ih _ _ hc
        have e1 := Nat.eq_of_beq_eq_true d1
        have e2 := Nat.le_of_ble_eq_true d2
        rw [this]
        simp only [List.length_append, List.length_take, List.length_drop]
        omega
      have e2 := this _ _ _ hcs
      have e3 := hcz.len
      have e4 : (madeCells z.cells (n * sz)).size = n * sz := size_madeCells _ _
      simp only [Array.length_toList] at e1 e3
      omega
     have hrun : (execOp a.eval o).run P w = .ok (.value (.slice (some ⟨w.heap.size, 0, none⟩) n n)) (w.alloc (.cells cs' e (0, 0))) := by
      have Tf : Instr.fill (fun j => some (j * i.size, i.size)) (madeCells z.cells (n * i.size)) (parts.map fun (j, x) => (j, a.eval x)).toList = some cs' := by
       rw [h3, ← g1]
       simp only [Array.toList_map]
       rw [← map_snd]
      have Ii : Instr.fill (fun j => some (j * i.size, i.size)) (Array.map (fun x => z.cells[x % z.cells.size]!) (Array.range (n * i.size))) (parts.toList.map fun (j, x) => (j, a.eval x)) = some cs' := by
       have := Tf
       simp only [Array.toList_map] at this
       exact this
      have hle : ¬ (16777216 < n * i.size) := by rw [h3]; omega
      by_cases hn : n * i.size = 0
      ·have hn' : n = 0 := by
        rcases Nat.mul_eq_zero.1 hn with h | h
        ·exact h
        ·omega
       subst hn'
       rw [hn] at Ii
       simp [Array.range_zero'] at Ii
       simp [execOp, hop, Instr.buildSlice, run_underlying h1, sizeOf, typeInfo, h2, newRow, Ii, Array.range_zero']
      ·simp [execOp, hop, Instr.buildSlice, run_underlying h1, sizeOf, typeInfo, zeroValue, h2, q2, newRow, Ii, hle, hn]
     have hnew : (w.alloc (.cells cs' e (0, 0))).heap = w.heap.push (.cells cs' e (0, 0)) := rfl
     have hcell : (w.alloc (.cells cs' e (0, 0))).heap[w.heap.size]? = some (.cells cs' e (0, 0)) := by rw [hnew]; simp
     split at h
     ·cases hn1 : Nat.ble 1 n with
      | false => simp [hn1] at h
      | true =>
      have hn1 := Nat.le_of_ble_eq_true hn1
      cases hl : fQ st1 0 with
      | false => simp [hl] at h
      | true =>
      simp only [hl, cond_true] at h
      have h : K (.row 0 (dD st1 0) (n : Int)) (iQ st1 0 (.row e sz (chunk sz n dl) true none)) = some r := by
       revert h
       cases hb : Nat.ble 1 n with
       | false => intro h; cases h
       | true => exact fun h => h
      have Tg := hD.len
      obtain ⟨m2, rfl, x2, w2, e2⟩ := w1.new (l := 0) (w' := w.alloc (.cells cs' e (0, 0))) (iT hl) hnew rfl rfl rfl (by intro _ _ _ h; cases h <;> rfl) (o := .row e sz (chunk sz n dl) true none) (e := ⟨w.heap.size, (n : Int), sz, n⟩) rfl (n := 0) (Nat.zero_le _) (fun hk he => by
       simp only [aL, if_true]
       refine ⟨hsz, trivial, by rw [mR], by rw [mR]; exact Nat.le_refl _, fun c hc => by (cases hc), fun _ => ⟨⟨cs', hcell, by omega⟩, ?_, rfl⟩⟩
       refine wM n (by simp only [Array.length_toList] at Tg; omega) (aV.of (hD.keep hk) fun j v hv => ?_)
       rw [Nat.zero_add]
       simp only [World.cell?, hcell]
       simpa using hv)
      refine Goes.value' hrun h (x1.trans x2) w2 ?_
      simp only [aj]
      exact ⟨_, e2, Int.natCast_nonneg _, Int.le_refl _, .inr ⟨w.heap.size, n, by simp, fun _ => ⟨rfl, rfl, lg (by show 0 < n; omega)⟩⟩⟩
     obtain ⟨m2, rfl, x2, w2⟩ := w1.claim hnew rfl rfl rfl (by intro _ _ _ h; cases h <;> rfl) (n := n * sz) (by simp only [csize, hcell]; omega)
     refine Goes.value' hrun h (x1.trans x2) w2 ?_
     simp only [aj, aZ]
     refine .inr ⟨sz, w.heap.size, 0, n, by rw [mR], by rw [mR]; exact Nat.le_refl _, by rw [mR]; simp, ?_, ?_⟩
     ·have Tg := hD.len
      refine wM n (by simp only [Array.length_toList] at Tg; omega) (aV.of (hD.keep x2.keeps) fun j v hv => ?_)
      rw [Nat.zero_add]
      simp only [World.cell?, hcell]
      simpa using hv
     ·simp only [lD, aY, List.length_nil]
      rw [mR]
      refine ⟨by omega, by simp, trivial⟩
    ·cases h
   ·cases h
 ·cases h
theorem EW (he : aM m w ρ a) (hw : aO m st w) {f : Fn} {first captured : Array Operand} (hop : o.op = .makeFunc f first captured)
  (h : evalOp (real cf) Γ an ρ st o.dst o.op K = some r) : Goes P o a w m K r := by
 rw [hop] at h
 cases f with
 | func f =>
  simp only [evalOp] at h
  split at h
  ·rename_i abF
   have hf0 : first = #[] := by simpa using abF
   subst hf0
   obtain ⟨vs, st1, hf, hz⟩ := gT h
   clear h
   have h := hz
   clear hz
   try dsimp only at h
   have hvs := xM he captured.toList
   obtain ⟨m1, x1, w1, v1, n1⟩ := gQ hw hvs hf
   have hrun : (execOp a.eval o).run P w = .ok (.value (.func (.func f) #[] (captured.toList.map a.eval).toArray)) w := by
    simp [execOp, hop, Instr.makeFunc]
    apply Array.ext'
    simp
   split at h
   ·rename_i l hl
    have := rZ hl
    subst this
    exact Goes.value' hrun h x1 w1 (by simp only [aj, aZ]; exact ⟨_, rfl, bR.sj v1⟩)
   ·cases b : bU vs with
    | false => simp [b] at h
    | true =>
     simp only [b, cond_true] at h
     exact Goes.value' hrun h x1 w1 (by simp only [aj]; exact ⟨_, rfl, jl b v1⟩)
  ·cases h
 | _ => simp [evalOp] at h
end
end Go.X
