/- Maps. -/
import Derived.Test.YtamllgdaepjcfaaXOp7
import Derived.MapKept
namespace Go.X
open Go Go.MapKept
set_option linter.unusedSectionVars false
set_option linter.unusedSimpArgs false
set_option linter.unusedVariables false

def kkDesc : Option IntKind → TypeDesc
  | none => .string
  | some k => .int k
theorem kkEq_eq {a b : Option IntKind} (h : kkEq a b = true) : a = b := by
  cases a <;> cases b <;> simp [kkEq] at h ⊢
  exact ikEq_eq h
theorem isKey_of {kk : Option IntKind} {x : PV} {v : Value} {bl : List (List Ent)} {cl : Nat → Nat} {w : World} (h : keyOk kk x = true) (hv : VRel bl cl w x v) : IsKey (kkDesc kk) v := by
  unfold keyOk at h
  split at h
  · rename_i k j n
    simp only [VRel, DRel] at hv
    subst hv
    exact (ikEq_eq h).symm
  · simp only [VRel, DRel] at hv
    subst hv
    trivial
  · cases h
/-- Keys are the same where their values are. -/
theorem keyEq_iff {kk : Option IntKind} {x y : PV} {v u : Value} {bl bl' : List (List Ent)} {cl cl' : Nat → Nat} {w w' : World} (hx : keyOk kk x = true) (hy : keyOk kk y = true) (hv : VRel bl cl w x v) (hu : VRel bl' cl' w' y u) :
    Instr.sameNow (kkDesc kk) v u = some (keyEq x y) := by
  cases kk with
  | none =>
    unfold keyOk at hx hy
    split at hx <;> first | (cases hx; done) | skip
    all_goals (split at hy <;> first | (cases hy; done) | skip)
    all_goals simp_all [VRel, DRel, Instr.sameNow, kkDesc, keyEq]
  | some k =>
    unfold keyOk at hx hy
    split at hx <;> first | (cases hx; done) | skip
    all_goals (split at hy <;> first | (cases hy; done) | skip)
    all_goals simp_all
    obtain ⟨rfl, rfl⟩ : _ ∧ _ := ⟨ikEq_eq hx, ikEq_eq hy⟩
    simp only [VRel, DRel] at hv hu
    subst hv; subst hu
    simp [Instr.sameNow, kkDesc, keyEq]
theorem keyEq_val {kk : Option IntKind} {x y : PV} {v u : Value} {bl bl' : List (List Ent)} {cl cl' : Nat → Nat} {w w' : World} (hx : keyOk kk x = true) (hy : keyOk kk y = true) (hv : VRel bl cl w x v) (hu : VRel bl' cl' w' y u) (h : keyEq x y = true) : v = u := by
  have h1 := keyEq_iff hx hy hv hu
  rw [h] at h1
  obtain ⟨r, hr, hi⟩ := sameNow_of_keys (isKey_of hx hv) (isKey_of hy hu)
  rw [h1] at hr
  cases hr
  exact hi.1 rfl

section
variable {kk : Option IntKind} {bl bl' : List (List Ent)} {cl cl' : Nat → Nat} {w w' : World}
theorem map_find {x : PV} {k : Value} (hx : keyOk kk x = true) (hk : VRel bl' cl' w' x k) : ∀ {es : List (PV × PV)} {l : List MapEntry} (i : Nat), MapRel kk bl cl w es l →
    (∃ j e v, Instr.findNow (kkDesc kk) k l i = some (some (i + j, e.val)) ∧ l[j]? = some e ∧ e.key = k ∧ mfind es x = some v ∧ VRel bl cl w v e.val ∧ valOk v = true ∧ MapRel kk bl cl w (mdel es x) (l.eraseIdx j) ∧
      ∀ y u, VRel bl cl w y u → VRel bl cl w x k → valOk y = true → MapRel kk bl cl w (mput es x y) (l.set j { e with key := k, val := u })) ∨
    (Instr.findNow (kkDesc kk) k l i = some none ∧ mfind es x = none ∧ mdel es x = es ∧ ∀ y u b, VRel bl cl w y u → VRel bl cl w x k → valOk y = true → MapRel kk bl cl w (mput es x y) (l ++ [⟨k, u, b⟩]))
  | [], l, i, h => by
    simp only [MapRel] at h
    subst h
    refine .inr ⟨rfl, rfl, rfl, fun y u b hy hxk ho => ?_⟩
    simp only [mput, List.nil_append, MapRel]
    exact ⟨_, [], rfl, hx, hxk, hy, ho, rfl⟩
  | q :: es, l, i, h => by
    simp only [MapRel] at h
    obtain ⟨e, s, rfl, h1, h2, h3, h4, h5⟩ := h
    have hs := keyEq_iff hx h1 hk h2
    cases hb : keyEq x q.1 with
    | true =>
      rw [hb] at hs
      have hke := keyEq_val hx h1 hk h2 hb
      refine .inl ⟨0, e, q.2, by simp [Instr.findNow, hs], rfl, hke.symm, by simp [mfind, hb], h3, h4, by simpa [mdel, hb] using h5, fun y u hy hxk ho => ?_⟩
      simp only [mput, hb, if_true, List.set_cons_zero, MapRel]
      exact ⟨_, s, rfl, hx, hxk, hy, ho, h5⟩
    | false =>
      rw [hb] at hs
      rcases map_find hx hk (i + 1) h5 with ⟨j, e', v, g1, g2, g3, g4, g5, g6, g7, g8⟩ | ⟨g1, g2, g3, g4⟩
      · refine .inl ⟨j + 1, e', v, by simp [Instr.findNow, hs, g1]; omega, by simpa using g2, g3, by simp [mfind, hb, g4], g5, g6, ?_, fun y u hy hxk ho => ?_⟩
        · simp only [mdel, hb, Bool.false_eq_true, if_false, List.eraseIdx_cons_succ, MapRel]
          exact ⟨e, _, rfl, h1, h2, h3, h4, g7⟩
        · simp only [mput, hb, Bool.false_eq_true, if_false, List.set_cons_succ, MapRel]
          exact ⟨e, _, rfl, h1, h2, h3, h4, g8 y u hy hxk ho⟩
      · refine .inr ⟨by simp [Instr.findNow, hs, g1], by simp [mfind, hb, g2], by simp [mdel, hb, g3], fun y u b hy hxk ho => ?_⟩
        simp only [mput, hb, Bool.false_eq_true, if_false, List.cons_append, MapRel]
        exact ⟨e, _, rfl, h1, h2, h3, h4, g4 y u b hy hxk ho⟩
theorem MapRel.len : ∀ {es : List (PV × PV)} {l : List MapEntry}, MapRel kk bl cl w es l → l.length = es.length
  | [], l, h => by simp only [MapRel] at h; subst h; rfl
  | q :: es, l, h => by
    simp only [MapRel] at h
    obtain ⟨e, s, rfl, _, _, _, _, h5⟩ := h
    simp [h5.len]
end

section
variable {R : Type} {P : Program} {Γ : Tab} {cf : CF} {an : Ann} {o : Oper} {a : Act} {w : World} {m : Mt} {K : PV → St → Option R} {r : R} {st : St} {ρ : Env}

theorem key_rel_up {bl : List (List Ent)} {cl : Nat → Nat} {kk : Option IntKind} {x : PV} {v : Value} (h : keyOk kk x = true) (hv : VRel bl cl w x v) (bl' : List (List Ent)) (cl' : Nat → Nat) (w' : World) : VRel bl' cl' w' x v := by
  unfold keyOk at h
  split at h
  · simpa only [VRel, DRel] using hv
  · simpa only [VRel, DRel] using hv
  · cases h
theorem zero_pack (hΓ : TabOK P Γ) {t : Nat} {z : PV} (h : pack Γ t (ds (Γ.zero t)) = some z) (bl : List (List Ent)) (cl : Nat → Nat) : ∃ i v, P.info? t = some i ∧ i.zero = some v ∧ VRel bl cl w z v := by
  have hne : Γ.zero t ≠ [] ∨ ∃ n fs, Γ.ty t = .agg n fs := by
    by_cases h0 : Γ.zero t = []
    · right
      unfold pack at h
      rw [h0] at h
      split at h
      · rename_i n fs hty; exact ⟨n, fs, hty⟩
      · cases h
      · cases h
      · simp [ds, headO] at h
    · exact .inl h0
  by_cases h0 : Γ.zero t = []
  · -- an empty struct: nothing is known of its zero
    rcases hne with h1 | ⟨n, fs, hty⟩
    · exact absurd h0 h1
    · obtain ⟨i, q1, q2⟩ := hΓ.unit t fs (by
        unfold pack at h
        simp only [hty, h0, ds, List.length_nil] at h
        cases hb : Nat.ble n 0 with
        | false => simp [hb] at h
        | true => rw [hty, Nat.le_zero.1 (Nat.le_of_ble_eq_true hb)])
      refine ⟨i, _, q1, q2, ?_⟩
      unfold pack at h
      simp only [hty, h0, ds, List.length_nil, List.take_nil] at h
      cases hb : Nat.ble n 0 with
      | false => simp [hb] at h
      | true =>
        simp only [hb, cond_true, Option.some.injEq] at h
        subst h
        simp only [VRel, VCells]
        exact ⟨[], rfl, rfl⟩
  obtain ⟨i, v, q1, q2, q3, q4, q5, q6⟩ := hΓ.zero t h0
  refine ⟨i, v, q1, q2, ?_⟩
  have hl := q5 cl w
  unfold pack at h
  split at h
  · rename_i n fs hty
    simp only [hty] at q6
    cases hb : Nat.ble n (ds (Γ.zero t)).length with
    | false => simp [hb] at h
    | true =>
      simp only [hb, cond_true, Option.some.injEq] at h
      subst h
      simp only [VRel]
      refine ⟨v.cells.toList, by rw [Array.toArray_toList]; exact q6.1, ?_⟩
      have : (ds (Γ.zero t)).take n = ds (Γ.zero t) := List.take_of_length_le (by rw [ds_len]; omega)
      rw [this]
      exact VList.cells hl
  · cases h
  · cases h
  · rename_i hna _ _
    have q6' : v.cells = #[v] := by
      split at q6
      · rename_i n fs hty; exact absurd hty (hna n fs)
      · exact q6
    rw [q6'] at hl
    cases hz : Γ.zero t with
    | nil => exact absurd hz h0
    | cons d rest =>
      rw [hz] at hl h
      simp only [ds, headO, Option.some.injEq] at h
      subst h
      simp only [DList] at hl
      obtain ⟨u, s, h1, h2, _⟩ := hl
      simp only [List.cons.injEq] at h1
      obtain ⟨rfl, _⟩ := h1
      simpa only [VRel] using h2
theorem kk_desc {t : Nat} (hΓ : TabOK P Γ) {kk : Option IntKind} (h : kkOf (Γ.ty t) = some kk) : P.underlying t = some (kkDesc kk) := by
  have ht := hΓ.ty t
  unfold TyOK at ht
  unfold kkOf at h
  split at h
  · rename_i hty; cases h; simp only [hty] at ht; exact ht
  · rename_i k hty; cases h; simp only [hty] at ht; exact ht
  · cases h
theorem map_desc {t k e : Nat} (hΓ : TabOK P Γ) (h : Γ.ty t = .map k e) : P.underlying t = some (.map k e) := by
  have ht := hΓ.ty t
  unfold TyOK at ht
  simpa only [h] using ht

theorem goes_lookup (hΓ : TabOK P Γ) (he : EnvRel m w ρ a) (hw : WRel m st w) {t : TypeId} {x y : Operand} {ok : Bool} (hop : o.op = .lookup t x y ok)
    (h : evalOp (real cf) Γ an ρ st o.dst o.op K = some r) : Goes P o a w m K r := by
  rw [hop] at h
  simp only [evalOp] at h
  have hp := ev_rel he x
  have hq := ev_rel he y
  split at h
  · rename_i kt et hty
    split at h
    · rename_i kk hkk
      have hm := map_desc hΓ hty
      have hkt := kk_desc hΓ hkk
      unfold evLookup at h
      dsimp only at h
      cases hok : keyOk kk (ev ρ y) with
      | false => simp [hok] at h
      | true =>
      simp only [hok, cond_true] at h
      have hkey := isKey_of hok hq
      have tupRel : ∀ (z : PV) (v : Value) (b : Bool), VRel m.blk m.cl w z v → VRel m.blk m.cl w (bif ok then .tup [z, .d (.bool b)] else z) (if ok then .tuple #[v, .bool b] else v) := by
        intro z v b hz
        cases ok
        · exact hz
        · simp only [cond_true, if_true, VRel]
          exact ⟨[v, .bool b], rfl, by simp only [VList, VRel, DRel]; exact ⟨v, _, rfl, hz, _, _, rfl, rfl, rfl⟩⟩
      split at h
      · rename_i z hmm hz
        rw [hmm] at hp; simp only [VRel, DRel] at hp
        obtain ⟨i, v, z1, z2, z3⟩ := zero_pack (w := w) hΓ hz m.blk m.cl
        have hrun : (execOp a.eval o).run P w = .ok (.value (if ok then .tuple #[v, .bool false] else v)) w := by
          simp [execOp, hop, hp, Instr.lookup, run_underlying hm, run_checkKey hkt hkey, run_findKey (l := []) hkt (a := none) rfl, zeroValue, typeInfo, z1, z2]
        exact Goes.value hrun h hw (tupRel z v false z3)
      · rename_i l i z hmm hz
        rw [hmm] at hp; simp only [VRel] at hp
        obtain ⟨e, p1, p0, p2⟩ := hp
        obtain ⟨iz, v, z1, z2, z3⟩ := zero_pack (w := w) hΓ hz m.blk m.cl
        split at h
        · rename_i kk' fl es hl
          obtain ⟨e', k3, k4⟩ := hw.st.look_ hl
          rw [p1] at k3; cases k3
          simp only [ObjRel] at k4
          obtain ⟨g1, g2, gf, ents, clock, g3, g4⟩ := k4
          cases hkq : kkEq kk kk' with
          | false => simp [hkq] at h
          | true =>
          simp only [hkq, cond_true, real_findK] at h
          obtain rfl := kkEq_eq hkq
          rcases map_find hok hq 0 g4 with ⟨j, en, v', f1, f2, f3, f4, f5, f6, f7, f8⟩ | ⟨f1, f2, f3, f4⟩
          · have e1 : (real cf).find es (ev ρ y) = some v' := f4
            rw [e1] at h
            dsimp only at h
            have hrun : (execOp a.eval o).run P w = .ok (.value (if ok then .tuple #[en.val, .bool true] else en.val)) w := by
              simp [execOp, hop, p2, Instr.lookup, run_underlying hm, Go.MapKept.run_getObj_map g3, run_checkKey hkt hkey, run_findKey hkt f1]
            exact Goes.value hrun h hw (tupRel _ _ true (down_rel l _ _ f5))
          · have e1 : (real cf).find es (ev ρ y) = none := f2
            rw [e1] at h
            dsimp only at h
            have hrun : (execOp a.eval o).run P w = .ok (.value (if ok then .tuple #[v, .bool false] else v)) w := by
              simp [execOp, hop, p2, Instr.lookup, run_underlying hm, Go.MapKept.run_getObj_map g3, run_checkKey hkt hkey, run_findKey hkt f1, zeroValue, typeInfo, z1, z2]
            exact Goes.value hrun h hw (tupRel z v false z3)
        · cases h
      · cases h
    · cases h
  · cases h

/-- A value that is laid into a map. -/
theorem flat_key {kk : Option IntKind} {k : PV} (h : keyOk kk k = true) : flatV k = true := by
  cases k with
  | d x => rfl
  | _ => cases kk <;> simp [keyOk] at h
theorem flats_put {k v : PV} (hk : flatV k = true) : ∀ {es : List (PV × PV)}, flats es = true → flatV v = true → flats (mput es k v) = true
  | [], _, hv => by simp [mput, flats, hk, hv]
  | (a, b) :: r, h, hv => by
    simp only [flats, Bool.and_eq_true] at h
    simp only [mput]
    split
    · simp [flats, hk, hv, h.2]
    · simp only [flats, Bool.and_eq_true]
      exact ⟨h.1, flats_put hk h.2 hv⟩
theorem flats_del {k : PV} : ∀ {es : List (PV × PV)}, flats es = true → flats (mdel es k) = true
  | [], _ => rfl
  | (a, b) :: r, h => by
    simp only [flats, Bool.and_eq_true] at h
    simp only [mdel]
    split
    · exact h.2
    · simp only [flats, Bool.and_eq_true]
      exact ⟨h.1, flats_del h.2⟩
theorem value_frozen (hw : WRel m st w) {x : PV} {v : Value} (hv : VRel m.blk m.cl w x v) {cs : List PV} {st1 : St} (hf : freezes (real cf) st (unpack x) = (cs, st1)) :
    ∃ m1, Ext m w m1 w ∧ WRel m1 st1 w ∧ st1.length = st.length ∧ ∀ n, cellsOk (up.ups n cs) = true → VRel (upE m1.blk n) m1.cl w (repack x (up.ups n cs)) v ∧ valOk (repack x (up.ups n cs)) = true := by
  rcases unpack_rel hv (.inr (.inr (.inr trivial))) with ⟨l, rfl, h2⟩ | ⟨hne, h2⟩
  · obtain ⟨m1, x1, w1, v1, n1⟩ := freezes_rel hw h2 hf
    refine ⟨m1, x1, w1, n1, fun n hok => ?_⟩
    simp only [repack, VRel, valOk]
    simp only [VRel] at hv
    obtain ⟨vs, rfl, _⟩ := hv
    refine ⟨⟨vs, rfl, ?_⟩, hok⟩
    have := cellsOk_cells hok (ups_list n _ _ v1)
    simpa [Value.cells] using this
  · rw [h2] at hf
    obtain ⟨m1, x1, w1, v1, n1⟩ := freezes_rel hw (l := [x]) (vs := [v]) ⟨v, [], rfl, hv, rfl⟩ hf
    refine ⟨m1, x1, w1, n1, fun n hok => ?_⟩
    have hl := v1.len
    match cs, hl, v1 with
    | [y], _, v1 =>
      simp only [VList] at v1
      obtain ⟨u, s, h3, h4, h5⟩ := v1
      simp only [List.cons.injEq] at h3
      obtain ⟨rfl, rfl⟩ := h3
      rw [ups_one] at hok ⊢
      have hy : cellOk (up n y) = true := by
        cases hc : cellOk (up n y) with
        | true => rfl
        | false => simp [cellsOk, hc] at hok
      have h6 := up_rel n y v h4
      have hr : repack x [up n y] = up n y := by
        cases x with
        | agg l => exact absurd rfl (hne l)
        | _ => rfl
      rw [hr]
      refine ⟨h6, ?_⟩
      cases hu : up n y <;> rw [hu] at hy <;> first | rfl | (simp [cellOk] at hy)

theorem goes_mapUpdate (hΓ : TabOK P Γ) (he : EnvRel m w ρ a) (hw : WRel m st w) {t : TypeId} {x y z : Operand} (hop : o.op = .mapUpdate t x y z)
    (h : evalOp (real cf) Γ an ρ st o.dst o.op K = some r) : Goes P o a w m K r := by
  rw [hop] at h
  simp only [evalOp] at h
  have hp := ev_rel he x
  have hq := ev_rel he y
  have hz := ev_rel he z
  split at h
  · rename_i kt et hty
    split at h
    · rename_i kk l i hkk hx
      have hm := map_desc hΓ hty
      have hkt := kk_desc hΓ hkk
      obtain ⟨vs, st1, hf, hz⟩ := freezesK_some h
      clear h
      have h := hz
      clear hz
      try dsimp only at h
      obtain ⟨m1, x1, w1, n1, hval⟩ := value_frozen hw hz hf
      have hp1 := hp.ext x1
      rw [hx] at hp1; simp only [VRel] at hp1
      obtain ⟨e, p1, p0, p2⟩ := hp1
      split at h
      · rename_i kk' fl es hl
        obtain ⟨e', k3, k4⟩ := w1.st.look_ hl
        rw [p1] at k3; cases k3
        simp only [ObjRel] at k4
        obtain ⟨g1, g2, gf, ents, clock, g3, g4⟩ := k4
        cases hkq : kkEq kk kk' with
        | false => simp [hkq] at h
        | true =>
        cases hok : keyOk kk (ev ρ y) with
        | false => simp [hkq, hok] at h
        | true =>
        cases hco : cellsOk (up.ups l vs) with
        | false => simp [hkq, hok, hco] at h
        | true =>
        cases hfv : (bif fl then flatV (repack (ev ρ z) (up.ups l vs)) else true) with
        | false => simp [hkq, hok, hco, hfv] at h
        | true =>
        simp only [hkq, hok, hco, hfv, cond_true, real_putK] at h
        have hflat : fl = true → flats (mput es (ev ρ y) (repack (ev ρ z) (up.ups l vs))) = true := fun hfl => by
          subst hfl
          exact flats_put (flat_key hok) (gf rfl) (by simpa using hfv)
        obtain rfl := kkEq_eq hkq
        have hkey := isKey_of hok hq
        obtain ⟨hv1, hv2⟩ := hval l hco
        have finish : ∀ (ents' : Array MapEntry) (clock' : Nat), (execOp a.eval o).run P w = .ok .skip { w with heap := w.heap.setIfInBounds e.b (.map ents' clock') } →
            MapRel kk (upE m1.blk l) m1.cl w (mput es (ev ρ y) (repack (ev ρ z) (up.ups l vs))) ents'.toList → Goes P o a w m K r := by
          intro ents' clock' hrun hrel
          have hset := heap_set (o' := .map ents' clock') g3
          obtain ⟨m2, rfl, x2, w2⟩ := w1.put (l := l) (i := i) (w' := { w with heap := w.heap.setIfInBounds e.b (.map ents' clock') }) p1 (gone_box g1)
            (fun b hb => hset.2 b hb) (fun a ha => by simp only [World.frozen?, ha, hset.1, g3]) (by simp) rfl rfl rfl (o := .map kk fl (mput es (ev ρ y) (repack (ev ρ z) (up.ups l vs)))) (e' := e) rfl (EntLe.refl e) (n := 0) (by rw [g2]; exact Nat.le_refl _) (Nat.zero_le _) (fun j hj => by rw [g2] at hj; omega)
            (fun hk he => by
              simp only [ObjRel, if_true]
              exact ⟨g1, trivial, hflat, ents', clock', hset.1, hrel.keep hk (EntsLe.upE l he)⟩)
          exact Goes.skip' hrun h (x1.trans x2) w2
        have hqu := key_rel_up hok hq (upE m1.blk l) m1.cl w
        rcases map_find hok hq 0 g4 with ⟨j, en, v', f1, f2, f3, f4, f5, f6, f7, f8⟩ | ⟨f1, f2, f3, f4⟩
        · refine finish (ents.modify j fun e => { e with key := a.eval y, val := a.eval z }) clock ?_ ?_
          · have hsame : Instr.sameBits 10000 (a.eval y) (a.eval y) = true := by
              cases kk <;> simp only [kkDesc, IsKey] at hkey <;> split at hkey <;> simp_all [Instr.sameBits, bytes_beq]
            have f2' : ents[j]? = some en := by simpa using f2
            simp [execOp, hop, p2, Instr.mapUpdate, run_underlying hm, Go.MapKept.run_getObj_map g3, run_checkKey hkt hkey, run_findKey hkt f1, f2', f3, Instr.keyThatStays, hsame, Go.MapKept.run_setObj_map _ g3]
          · have f2' : ents.toList[j]? = some en := f2
            have hj := (List.getElem?_eq_some_iff.1 f2').1
            have e1 : (ents.modify j fun e => { e with key := a.eval y, val := a.eval z }).toList = ents.toList.set j { en with key := a.eval y, val := a.eval z } := by
              apply List.ext_getElem?
              intro n
              by_cases hn : j = n
              · subst hn
                rw [List.getElem?_set_self hj]
                have f2'' : ents[j]? = some en := by simpa using f2
                simp [Array.getElem?_modify, f2'']
              · rw [List.getElem?_set_ne hn]
                simp [Array.getElem?_modify, hn]
            rw [e1]
            exact f8 _ _ hv1 hqu hv2
        · refine finish (ents.push ⟨a.eval y, a.eval z, clock⟩) (clock + 1) ?_ ?_
          · simp [execOp, hop, p2, Instr.mapUpdate, run_underlying hm, Go.MapKept.run_getObj_map g3, run_checkKey hkt hkey, run_findKey hkt f1, Go.MapKept.run_setObj_map _ g3]
          · rw [Array.toList_push]
            exact f4 _ _ _ hv1 hqu hv2
      · cases h
    · cases h
  · cases h
end
end Go.X
