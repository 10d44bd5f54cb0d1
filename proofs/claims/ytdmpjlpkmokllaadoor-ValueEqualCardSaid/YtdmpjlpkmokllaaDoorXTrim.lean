/- Objects that nothing points at any more may be forgotten. -/
import Derived.Test.YtdmpjlpkmokllaaDoorXStep
namespace Go.X
open Go
set_option linter.unusedSectionVars false
set_option linter.unusedSimpArgs false
set_option linter.unusedVariables false
variable [Sites]

section
variable {es : List Ent} {r : List (List Ent)} {cl : Nat → Nat} {w : World} {n : Nat}
theorem ent_below {l i : Nat} (h : (bif Nat.beq l 0 then Nat.blt i n else true) = true) : ent (es.take n :: r) l i = ent (es :: r) l i := by
  cases l with
  | zero =>
    have h : Nat.blt i n = true := h
    have hi : i < n := Nat.le_of_ble_eq_true h
    simp only [ent]
    rw [List.getElem?_take_of_lt hi]
  | succ l => rfl
mutual
theorem below_rel : ∀ (x : PV) (v : Value), below n x = true → VRel (es :: r) cl w x v → VRel (es.take n :: r) cl w x v
  | .d x, v, _, h => by simpa only [VRel] using h
  | .agg cs, v, hb, h => by
    simp only [VRel] at h ⊢
    obtain ⟨vs, h1, h2⟩ := h
    exact ⟨vs, h1, belows_cells cs vs hb h2⟩
  | .ptr l i o, v, hb, h => by simp only [VRel] at h ⊢; rw [ent_below hb]; exact h
  | .eptr cs, v, _, h => by simpa only [VRel] using h
  | .row l i k, v, hb, h => by simp only [VRel] at h ⊢; rw [ent_below hb]; exact h
  | .rptr l i k x o, v, hb, h => by simp only [VRel] at h ⊢; rw [ent_below hb]; exact h
  | .fn f cs, v, hb, h => by
    simp only [VRel] at h ⊢
    obtain ⟨vs, h1, h2⟩ := h
    exact ⟨vs, h1, belows_cells cs vs hb h2⟩
  | .map l i, v, hb, h => by simp only [VRel] at h ⊢; rw [ent_below hb]; exact h
  | .tail l i k o, v, hb, h => by simp only [VRel] at h ⊢; rw [ent_below hb]; exact h
  | .yld l i, v, hb, h => by simp only [VRel] at h ⊢; rw [ent_below hb]; exact h
  | .tup l, v, hb, h => by
    simp only [VRel] at h ⊢
    obtain ⟨vs, h1, h2⟩ := h
    exact ⟨vs, h1, belows_list l vs hb h2⟩
  | .skip, v, _, h => by simpa only [VRel] using h
  | .ub, v, _, h => by simpa only [VRel] using h
  | .unk, v, _, h => by simp only [VRel]
theorem belows_cells : ∀ (l : List PV) (vs : List Value), below.belows n l = true → VCells (es :: r) cl w l vs → VCells (es.take n :: r) cl w l vs
  | [], vs, _, h => by simpa only [VCells] using h
  | x :: l, vs, hb, h => by
    simp only [VCells] at h ⊢
    obtain ⟨v, s, h1, h2, h3, h4⟩ := h
    simp only [below.belows] at hb
    cases hx : below n x with
    | false => simp [hx] at hb
    | true =>
      simp only [hx, cond_true] at hb
      exact ⟨v, s, h1, below_rel x v hx h2, h3, belows_cells l s hb h4⟩
theorem belows_list : ∀ (l : List PV) (vs : List Value), below.belows n l = true → VList (es :: r) cl w l vs → VList (es.take n :: r) cl w l vs
  | [], vs, _, h => by simpa only [VList] using h
  | x :: l, vs, hb, h => by
    simp only [VList] at h ⊢
    obtain ⟨v, s, h1, h2, h3⟩ := h
    simp only [below.belows] at hb
    cases hx : below n x with
    | false => simp [hx] at hb
    | true =>
      simp only [hx, cond_true] at hb
      exact ⟨v, s, h1, below_rel x v hx h2, belows_list l s hb h3⟩
end
theorem plains_rel {kk : KK} : ∀ (l : List (PV × PV)) (vs : List MapEntry), plains n l = true → MapRel kk (es :: r) cl w l vs → MapRel kk (es.take n :: r) cl w l vs
  | [], vs, _, h => h
  | x :: l, vs, hb, h => by
    obtain ⟨k, v⟩ := x
    simp only [MapRel] at h ⊢
    obtain ⟨e, s, h1, h2, h3, h4, h5, h6⟩ := h
    simp only [plains, Bool.and_eq_true] at hb
    exact ⟨e, s, h1, h2, below_rel _ _ hb.1.1 h3, below_rel _ _ hb.1.2 h4, h5, plains_rel l s hb.2 h6⟩
theorem flatC_belows : ∀ (l : List PV), flatC l = true → below.belows n l = true
  | [], _ => rfl
  | x :: l, h => by
    cases x with
    | d x => simp only [flatC] at h; simp only [below.belows, below, cond_true]; exact flatC_belows l h
    | _ => simp [flatC] at h
theorem flatV_below {v : PV} (h : flatV v = true) : below n v = true := by
  cases v with
  | d x => rfl
  | agg cs => exact flatC_belows cs h
  | _ => simp [flatV] at h
theorem flats_plains : ∀ {es : List (PV × PV)}, flats es = true → plains n es = true
  | [], _ => rfl
  | (k, v) :: r, h => by
    simp only [flats, Bool.and_eq_true] at h
    simp only [plains, Bool.and_eq_true]
    exact ⟨⟨flatV_below h.1.1, flatV_below h.1.2⟩, flats_plains h.2⟩
theorem belowE_rel : ∀ {ρ : Env} (t : Nat), belowE n ρ = true → below n (egt ρ t) = true
  | [], t, _ => rfl
  | (k, v) :: ρ, t, h => by
    simp only [belowE] at h
    cases hx : below n v with
    | false => simp [hx] at h
    | true =>
      simp only [hx, cond_true] at h
      simp only [egt]
      cases Nat.beq k t with
      | true => exact hx
      | false => exact belowE_rel t h
theorem belowO_rel {o : Obj} {e : Ent} (hb : belowO plains n o = true) (h : ObjRel (es :: r) cl w o e) : ObjRel (es.take n :: r) cl w o e := by
  cases o with
  | box ty cells =>
    simp only [ObjRel] at h ⊢
    obtain ⟨h1, h2, vs, h3, h4⟩ := h
    exact ⟨h1, h2, vs, h3, belows_cells _ _ hb h4⟩
  | row ty sz rows mt cap => simpa only [ObjRel] using h
  | void => simpa only [ObjRel] using h
  | loop site ρ p =>
    simp only [ObjRel] at h ⊢
    obtain ⟨h1, h2, q, h3, h4, h5, h6⟩ := h
    exact ⟨h1, h2, q, h3, h4, h5, fun t => below_rel _ _ (belowE_rel t hb) (h6 t)⟩
  | map kk fl l =>
    simp only [ObjRel] at h ⊢
    obtain ⟨h1, h2, hf, ents, clock, h3, h4⟩ := h
    exact ⟨h1, h2, hf, ents, clock, h3, plains_rel _ _ (flats_plains (hf hb)) h4⟩
theorem belowF_rel : ∀ {fr : List Obj} {q : List Ent}, belowF plains n fr = true → OList (es :: r) cl w fr q → OList (es.take n :: r) cl w fr q
  | [], q, _, h => by simpa only [OList] using h
  | o :: fr, q, hb, h => by
    simp only [OList] at h ⊢
    obtain ⟨e, s, h1, h2, h3⟩ := h
    simp only [belowF] at hb
    cases hx : belowO plains n o with
    | false => simp [hx] at hb
    | true =>
      simp only [hx, cond_true] at hb
      exact ⟨e, s, h1, belowO_rel hx h2, belowF_rel hb h3⟩
theorem OList.take_ {bl : List (List Ent)} : ∀ {fr : List Obj} {q : List Ent} (k : Nat), OList bl cl w fr q → OList bl cl w (fr.take k) (q.take k)
  | fr, q, 0, h => by simp [OList]
  | [], q, k + 1, h => by simp only [OList] at h; subst h; simp [OList]
  | o :: fr, q, k + 1, h => by
    simp only [OList] at h
    obtain ⟨e, s, rfl, h2, h3⟩ := h
    simp only [List.take_succ_cons, OList]
    exact ⟨e, _, rfl, h2, h3.take_ k⟩
end
/-- How many objects the topmost frame has. -/
def num0 (bl : List (List Ent)) : Nat := match bl with | fr :: _ => fr.length | [] => 0
theorem num0_st {m : Mt} {st : St} {w : World} (hw : WRel m st w) : numO st 0 = num0 m.blk := by
  have h := hw.st
  cases st with
  | nil => simp only [StRel] at h; rw [h]; rfl
  | cons fr st =>
    simp only [StRel] at h
    obtain ⟨es, r, h1, h2, _⟩ := h
    rw [h1]
    exact h2.length.symm
theorem num0_le {m m' : Mt} {w w' : World} (hx : Ext m w m' w') : num0 m.blk ≤ num0 m'.blk := by
  have h1 := hx.ents.2
  generalize m.blk = a at h1 ⊢
  generalize m'.blk = b at h1 ⊢
  cases a with
  | nil => exact Nat.zero_le _
  | cons fr r =>
    simp only [num0]
    rcases Nat.eq_zero_or_pos fr.length with h | h
    · omega
    · obtain ⟨e', h2, _⟩ := h1 0 (fr.length - 1) (fr[fr.length - 1]'(by omega)) (by simp only [ent]; exact List.getElem?_eq_getElem (by omega))
      cases b with
      | nil => simp [ent] at h2
      | cons fr' r' =>
        simp only [ent] at h2
        have := (List.getElem?_eq_some_iff.1 h2).1
        dsimp only
        omega
/-- What became of the store: nothing, or its topmost frame is shorter. -/
def Trimmed (n : Nat) (m m' : Mt) (st st' : St) : Prop := (m' = m ∧ st' = st) ∨ ∃ es r fr s, m.blk = es :: r ∧ m' = ⟨es.take n :: r, m.cl⟩ ∧ st = fr :: s ∧ st' = fr.take n :: s
theorem livB_take {es : List Ent} {n : Nat} {b : Nat} (h : b ∈ livB (es.take n)) : b ∈ livB es := by
  obtain ⟨e, h3, h4, h5⟩ := mem_livB.1 h
  exact mem_livB.2 ⟨e, List.mem_of_mem_take h3, h4, h5⟩
theorem Trimmed.blks {n : Nat} {m m' : Mt} {st st' : St} (h : Trimmed n m m' st st') : ∀ b ∈ Go.X.blks m'.blk, b ∈ Go.X.blks m.blk := by
  rcases h with ⟨rfl, _⟩ | ⟨es, r, fr, s, h1, rfl, _, _⟩
  · exact fun b hb => hb
  · intro b hb
    rw [h1, blks_cons]
    rw [show Go.X.blks (Mt.blk ⟨es.take n :: r, m.cl⟩) = livB (es.take n) ++ Go.X.blks r from blks_cons _ _] at hb
    rcases List.mem_append.1 hb with hb | hb
    · exact List.mem_append.2 (.inl (livB_take hb))
    · exact List.mem_append.2 (.inr hb)
theorem trim_rel {m0 m : Mt} {w0 w : World} {st : St} {ρ : Env} {a : Act} {n : Nat} (hx : Ext m0 w0 m w) (hn : num0 m0.blk ≤ n) (hw : WRel m st w) (he : EnvRel m w ρ a) : ∃ m', Ext m0 w0 m' w ∧ WRel m' (trim plains n ρ st) w ∧ EnvRel m' w ρ a ∧ Trimmed n m m' st (trim plains n ρ st) := by
  have stay : ∃ m', Ext m0 w0 m' w ∧ WRel m' st w ∧ EnvRel m' w ρ a ∧ Trimmed n m m' st st := ⟨m, hx, hw, he, .inl ⟨rfl, rfl⟩⟩
  cases st with
  | nil => exact stay
  | cons fr st =>
    simp only [trim]
    cases Nat.ble fr.length n with
    | true => exact stay
    | false =>
      cases hb1 : belowE n ρ with
      | false => exact stay
      | true =>
        cases hb2 : belowF plains n (fr.take n) with
        | false => exact stay
        | true =>
          simp only [cond_true, cond_false]
          have hst := hw.st
          simp only [StRel] at hst
          obtain ⟨es, r, hbl, h1, h2⟩ := hst
          have hsub : ∀ b, b ∈ livB (es.take n) → b ∈ livB es := fun b hb => by
            obtain ⟨e, h3, h4, h5⟩ := mem_livB.1 hb
            exact mem_livB.2 ⟨e, List.mem_of_mem_take h3, h4, h5⟩
          have hmem : ∀ b, b ∈ blks (es.take n :: r) → b ∈ blks m.blk := fun b hb => by
            rw [hbl, blks_cons]
            rw [blks_cons] at hb
            rcases List.mem_append.1 hb with hb | hb
            · exact List.mem_append.2 (.inl (hsub b hb))
            · exact List.mem_append.2 (.inr hb)
          refine ⟨⟨es.take n :: r, m.cl⟩, ⟨hx.keeps, ⟨?_, fun l i e h => ?_⟩, hx.os, hx.tape, hx.output, hx.size, hx.kept, fun b hb => hx.new b (hmem b hb)⟩, ⟨?_, ?_, hw.le, hw.glob.sub hmem⟩, fun t => ?_, .inr ⟨es, r, fr, st, hbl, rfl, rfl, rfl⟩⟩
          · have := hx.ents.1; rw [hbl] at this; simpa using this
          · obtain ⟨e', h3, h4⟩ := hx.ents.2 l i e h
            refine ⟨e', ?_, h4⟩
            rw [← h3, hbl]
            refine ent_below ?_
            cases l with
            | succ l => rfl
            | zero =>
              have : i < num0 m0.blk := by
                cases hm : m0.blk with
                | nil => rw [hm] at h; simp [ent] at h
                | cons f s => rw [hm] at h; simp only [ent] at h; exact (List.getElem?_eq_some_iff.1 h).1
              exact Nat.ble_eq_true_of_le (by omega : i + 1 ≤ n)
          · simp only [StRel]
            exact ⟨es.take n, r, rfl, belowF_rel hb2 (h1.take_ n), h2⟩
          · have hnd := hw.nodup
            rw [hbl, blks_cons] at hnd
            show (blks (es.take n :: r)).Nodup
            rw [blks_cons]
            refine hnd.sublist (List.Sublist.append ?_ (List.Sublist.refl _))
            exact ((List.take_sublist n es).filter _).map _
          · have := he t
            rw [hbl] at this
            exact below_rel _ _ (belowE_rel t hb1) this
end Go.X
