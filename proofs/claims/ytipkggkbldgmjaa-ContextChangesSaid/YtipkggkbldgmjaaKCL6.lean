/- ContextChanges: whether a component read what is another one now, as the reference tells it. -/
import Derived.Test.YtipkggkbldgmjaaKCL5
import Derived.ProofKit
namespace Go.Proofs.Ytipkggkbldgmjaa
open Go Go.X
set_option linter.unusedVariables false
set_option linter.unusedSimpArgs false
set_option maxRecDepth 100000
def OKC (c : Cell) : Prop := WT tab 61 (e_Cell c)
theorem okC_val {c : Cell} (h : OKC c) : OKV c.Value_ := by
  obtain ⟨k, nm, v, nx, ⟨dl, dx⟩, ⟨ol, ox⟩, ⟨ul, ux⟩, ⟨el, ex⟩, r, q, ⟨pl, px⟩, ⟨tl, tx⟩⟩ := c
  obtain ⟨a0, _, e0, h0, a1, _, e1, h1, a2, _, e2, h2, _⟩ := h.agg_inv ty_61 rfl
  obtain ⟨_, rfl, _⟩ := h0.int_inv ty_58
  obtain ⟨_, rfl, _⟩ := h1.str_inv ty_9
  obtain ⟨v', rfl⟩ := wt_27 h2
  subst e2; subst e1
  simp only [e_Cell, List.cons_append, List.nil_append, List.append_assoc, List.cons.injEq] at e0
  obtain ⟨_, _, e0⟩ := e0
  have hl : ∀ w : Value, (e_Value w).length = 8 := by intro w; obtain ⟨_, _, _, ⟨_, _⟩, ⟨_, _⟩, _, _, _⟩ := w; rfl
  obtain ⟨g2, e0⟩ := List.append_inj e0 (by rw [hl, hl])
  show OKV v
  unfold OKV
  rw [g2]
  exact h2
/-- Is a cell's context another one now? -/
noncomputable def changed (n : Nat) (l : List Field) (x : Option (List Field)) (c : Cell) : Option Bool := bif c.Kind == 3 then (P34 n ⟨l, x⟩ c.Name).bind fun v => (P33 n c.Value_ v).bind fun r => some (!r) else some false
theorem cell_eq {N n : Nat} {l : List Field} {x : Option (List Field)} (hl : l.length ≤ 8796093022208) (hn : 4 * N ≤ n) (hN : SizeOf.sizeOf zV ≤ N) (hf : ∀ f ∈ l, fldP (Fit N) f) (c : Cell) (hc : OKC c) (hs : SizeOf.sizeOf c ≤ N) :
    ∃ b, P31x1 n c ⟨l, x⟩ = some b ∧ changed n l x c = some b := by
  have hv := okC_val hc
  have hsv : SizeOf.sizeOf c.Value_ ≤ N := by
    obtain ⟨k, nm, v, nx, ⟨dl, dx⟩, ⟨ol, ox⟩, ⟨ul, ux⟩, ⟨el, ex⟩, r, q, ⟨pl, px⟩, ⟨tl, tx⟩⟩ := c
    simp only [Cell.mk.sizeOf_spec] at hs ⊢
    omega
  obtain ⟨t, v, h1, h2, h3⟩ := get_both c.Name l x hl (by omega : 2 * N ≤ n) hN hf
  obtain ⟨r, h4, h5⟩ := same_ali N n n c.Value_ v c.Value_ t (Ali.refl N _ hsv) h3 hn hn hv
  obtain ⟨k, nm, ⟨_, _, _, ⟨_, _⟩, ⟨_, _⟩, _, _, _⟩, ⟨_, _, _, ⟨_, _⟩, ⟨_, _⟩, _, _, _⟩, ⟨dl, dx⟩, ⟨ol, ox⟩, ⟨ul, ux⟩, ⟨el, ex⟩, r', q, ⟨pl, px⟩, ⟨tl, tx⟩⟩ := c
  unfold changed
  unfold P31x1
  dsimp only at h1 h2 h4 h5 ⊢
  cases hk : k == 3 with
  | false => exact ⟨false, rfl, rfl⟩
  | true =>
    rw [h1, h2]
    obtain ⟨_, _, _, ⟨_, _⟩, ⟨_, _⟩, _, _, _⟩ := t
    obtain ⟨_, _, _, ⟨_, _⟩, ⟨_, _⟩, _, _, _⟩ := v
    simp only [cond_true, Option.bind_some, h4, h5]
    exact ⟨_, rfl, rfl⟩
theorem find_st (n : Nat) (l : List Cell) (fl : List Field) (fx : Option (List Field)) : P54x1_s0 n l fl fx = stFind (fun c => P31x1 n c ⟨fl, fx⟩) l := by
  funext q
  obtain ⟨r, i⟩ := q
  unfold P54x1_s0 stFind
  dsimp only
  cases decide (i < ln l)
  · rfl
  · cases idx l i with
    | none => rfl
    | some x => obtain ⟨k, nm, ⟨_, _, _, ⟨_, _⟩, ⟨_, _⟩, _, _, _⟩, ⟨_, _, _, ⟨_, _⟩, ⟨_, _⟩, _, _, _⟩, ⟨dl, dx⟩, ⟨ol, ox⟩, ⟨ul, ux⟩, ⟨el, ex⟩, r', q, ⟨pl, px⟩, ⟨tl, tx⟩⟩ := x; rfl
theorem ref_find {n : Nat} {l : List Cell} {fl : List Field} {fx : Option (List Field)} (q : Cell → Bool) (hn : l.length ≤ 8796093022208) (hp : ∀ c ∈ l, changed n fl fx c = some (q c)) :
    wl (P12_s0 n l fl fx) (false, 0) = some (match l.findIdx? q with | some j => .inr (true, (j : Int)) | none => .inl (false, (l.length : Int))) := by
  refine wl_search (f := P12_s0 n l fl fx) l q (fun k => (false, (k : Int))) (fun j => .inr (true, (j : Int))) (.inl (false, (l.length : Int))) (fun k hk => ?_) ?_
  · have hc := hp _ (List.getElem_mem hk)
    generalize hce : l[k] = c at hc ⊢
    have hix : idx l (k : Int) = some c := by rw [idx_lt l k hk, hce]
    obtain ⟨kd, nm, ⟨_, _, _, ⟨_, _⟩, ⟨_, _⟩, _, _, _⟩, ⟨_, _, _, ⟨_, _⟩, ⟨_, _⟩, _, _, _⟩, ⟨dl, dx⟩, ⟨ol, ox⟩, ⟨ul, ux⟩, ⟨el, ex⟩, r', q', ⟨pl, px⟩, ⟨tl, tx⟩⟩ := c
    unfold P12_s0
    dsimp only
    rw [lt_true hk, hix]
    unfold changed at hc
    dsimp only at hc
    simp only [cond_true, Option.bind_some, hix]
    cases hk3 : kd == 3 with
    | false =>
      rw [hk3] at hc
      simp only [cond_false, Option.some.injEq] at hc
      rw [← hc]
      simp only [cond_false, Option.bind_some, w64_succ (show k < 9223372036854775807 by omega)]
    | true =>
      rw [hk3] at hc
      simp only [cond_true] at hc ⊢
      obtain ⟨v, hv, hc⟩ := Option.bind_eq_some_iff.1 hc
      rw [hv]
      obtain ⟨_, _, _, ⟨_, _⟩, ⟨_, _⟩, _, _, _⟩ := v
      simp only [Option.bind_some]
      obtain ⟨r, hr, hc⟩ := Option.bind_eq_some_iff.1 hc
      rw [hr]
      simp only [Option.some.injEq] at hc
      rw [← hc]
      simp only [Option.bind_some, w64_succ (show k < 9223372036854775807 by omega)]
      cases r <;> rfl
  · unfold P12_s0
    dsimp only
    rw [lt_false]
    rfl
theorem changes_true (cs : Sl Cell) (fs : Sl Field) (h1 : ∀ c ∈ cs.l, OKC c) (hl1 : cs.l.length ≤ 8796093022208) (h2 : ∀ f ∈ fs.l, OKF f) (hl2 : fs.l.length ≤ 8796093022208) : ∃ fu, P4 fu cs fs = some true := by
  obtain ⟨l, lx⟩ := cs
  obtain ⟨fl, fx⟩ := fs
  replace hl1 : l.length ≤ 8796093022208 := hl1
  replace hl2 : fl.length ≤ 8796093022208 := hl2
  let N := SizeOf.sizeOf l + SizeOf.sizeOf fl + SizeOf.sizeOf zV
  have hf : ∀ f ∈ fl, fldP (Fit N) f := fun f hm => by
    have hs := List.sizeOf_lt_of_mem hm
    have ho0 := h2 f hm
    obtain ⟨m, v⟩ := f
    have ho := okF_parts ho0
    have := size_V (m := m) (v := v)
    exact fit_of N v (by show _ ≤ SizeOf.sizeOf l + SizeOf.sizeOf fl + SizeOf.sizeOf zV; omega) ho
  have hs : ∀ c ∈ l, SizeOf.sizeOf c ≤ N := fun c hm => by
    have := List.sizeOf_lt_of_mem hm
    show _ ≤ SizeOf.sizeOf l + SizeOf.sizeOf fl + SizeOf.sizeOf zV
    omega
  have hz : SizeOf.sizeOf zV ≤ N := by show _ ≤ SizeOf.sizeOf l + SizeOf.sizeOf fl + SizeOf.sizeOf zV; omega
  generalize N = N at hf hs hz
  refine ⟨4 * N, ?_⟩
  have hb : ∀ c ∈ l, ∃ b, P31x1 (4 * N) c ⟨fl, fx⟩ = some b ∧ changed (4 * N) fl fx c = some b := fun c hm => cell_eq hl2 (Nat.le_refl _) hz hf c (h1 c hm) (hs c hm)
  let q : Cell → Bool := fun c => (changed (4 * N) fl fx c).getD false
  have hq1 : ∀ c ∈ l, P31x1 (4 * N) c ⟨fl, fx⟩ = some (q c) := fun c hm => by
    obtain ⟨b, e1, e2⟩ := hb c hm
    show _ = some ((changed (4 * N) fl fx c).getD false)
    rw [e1, e2]
    rfl
  have hq2 : ∀ c ∈ l, changed (4 * N) fl fx c = some (q c) := fun c hm => by
    obtain ⟨b, e1, e2⟩ := hb c hm
    show _ = some ((changed (4 * N) fl fx c).getD false)
    rw [e2]
    rfl
  have hA : P11 (4 * N) ⟨l, lx⟩ ⟨fl, fx⟩ = some (l.findIdx? q).isSome := by
    unfold P11 P30x1 P54x1
    dsimp only
    rw [find_st, find_ok q (by omega) hq1]
    cases l.findIdx? q with
    | none => rfl
    | some j => simp
  have hB : P12 (4 * N) ⟨l, lx⟩ ⟨fl, fx⟩ = some (l.findIdx? q).isSome := by
    unfold P12
    dsimp only
    rw [ref_find q hl1 hq2]
    cases l.findIdx? q <;> rfl
  unfold P4 P10
  dsimp only
  simp only [hA, hB, Option.bind_some, beq_self_eq_true, cond_true]
theorem law4 (ls : List (List D)) (h : WTs tab [33, 22] ls) : call S 4 (argsPV tab [33, 22] ls) [] = some (.d (.bool true), []) := by
  obtain ⟨l1, _, rfl, h1, l2, _, rfl, h2, rfl⟩ := h
  obtain ⟨r1, q1, e1, a1, b1, _⟩ := h1.slice_room ty_33
  obtain ⟨r2, q2, e2, a2, b2, _⟩ := h2.slice_room ty_22
  obtain ⟨⟨l, lx⟩, rfl⟩ := wt_33 h1
  obtain ⟨⟨fl, fx⟩, rfl⟩ := wt_22 h2
  have hc : l.length ≤ 8796093022208 ∧ ∀ c ∈ l, OKC c := by
    simp only [List.cons.injEq, D.sl.injEq] at e1
    obtain ⟨⟨rfl, _⟩, _⟩ := e1
    simp only [List.length_map, List.mem_map, forall_exists_index, and_imp, forall_apply_eq_imp_iff₂, Nat.add_mul] at a1 b1
    exact ⟨len_room (b := 400) (by omega) (by omega), b1⟩
  have hf : fl.length ≤ 8796093022208 ∧ ∀ f ∈ fl, OKF f := by
    have e2' : es_Field ⟨fl, fx⟩ = .sl r2 (some q2) := by simpa using e2
    simp only [es_Field, D.sl.injEq] at e2'
    obtain ⟨rfl, _⟩ := e2'
    rw [el_Field_map] at a2 b2
    simp only [List.length_map, List.mem_map, forall_exists_index, and_imp, forall_apply_eq_imp_iff₂, Nat.add_mul] at a2 b2
    exact ⟨len_room (b := 128) (by omega) (by omega), b2⟩
  obtain ⟨fu, hp⟩ := changes_true ⟨l, lx⟩ ⟨fl, fx⟩ hc.2 hc.1 hf.2 hf.1
  exact call_of (ok4 rfl rfl hp rfl [])
end Go.Proofs.Ytipkggkbldgmjaa
