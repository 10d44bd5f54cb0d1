/- The inputs that are looked at, and the law's own example. -/
import Derived.Test.YtamllgdaepjcfaaMPL2
namespace Go.Proofs.Ytamllgdaepjcfaa
open Go Go.X
set_option linter.unusedVariables false
set_option linter.unusedSimpArgs false
set_option maxRecDepth 100000
def OKC (c : Child) : Prop := WT tab 29 (e_Child c)
theorem okC_value {c : Child} (h : OKC c) : OKV c.Value := by
  obtain ⟨k, d, n, v⟩ := c
  obtain ⟨a0, _, e0, h0, a1, _, e1, h1, a2, _, e2, h2, a3, _, e3, h3, e4⟩ := h.agg_inv ty_29 rfl
  obtain ⟨_, rfl, _⟩ := h0.str_inv ty_9
  obtain ⟨_, rfl, _⟩ := h1.int_inv ty_22
  obtain ⟨_, rfl, _⟩ := h2.str_inv ty_9
  subst e4; subst e3; subst e2; subst e1
  simp only [e_Child, List.cons_append, List.nil_append, List.cons.injEq, List.append_nil] at e0
  obtain ⟨_, _, _, rfl⟩ := e0
  exact h3
theorem P65_def (fu : Nat) (c : Child) (h : OKC c) (hf : 4 * SizeOf.sizeOf c ≤ fu) : ∃ r, P65 fu c = some r := by
  have hv := okC_value h
  obtain ⟨k, d, n, v⟩ := c
  simp only [Child.mk.sizeOf_spec] at hf
  obtain ⟨r, hr⟩ := P28_def (SizeOf.sizeOf v) fu v (by omega) (by omega) hv
  obtain ⟨_, _, _, ⟨_, _⟩, ⟨_, _⟩, _, _, _⟩ := v
  unfold P65
  dsimp only
  rw [hr]
  exact ex_bif ⟨_, rfl⟩ ⟨_, rfl⟩
theorem P52_def (fu : Nat) (l : List Child) (x : Option (List Child)) (hl : l.length ≤ 1048576) (h : ∀ c ∈ l, OKC c) (hf : 4 * SizeOf.sizeOf l ≤ fu) : ∃ r, P52 fu ⟨l, x⟩ = some r := by
  obtain ⟨q, hq⟩ : ∃ q, wl (P52_s0 fu l) (ln l, 0) = some q := by
    refine wl_ends l.length (by omega) (fun s k hk => ?_) (ln l)
    unfold P52_s0
    dsimp only
    by_cases hlt : k < l.length
    · have h1 : decide ((k : Int) < ln l) = true := by simp [ln]; omega
      rw [h1]
      simp only [cond_true]
      cases decide (s ≤ 1048576) with
      | false => exact .inl ⟨_, rfl⟩
      | true =>
        right
        refine ⟨hlt, ?_⟩
        have hs := List.sizeOf_lt_of_mem (List.getElem_mem hlt)
        obtain ⟨r, hr⟩ := P65_def fu l[k] (h _ (List.getElem_mem hlt)) (by omega)
        rw [idx_lt l k hlt]
        generalize l[k] = x at hr
        obtain ⟨_, _, _, ⟨_, _, _, ⟨_, _⟩, ⟨_, _⟩, _, _, _⟩⟩ := x
        simp only [cond_true, Option.bind_some, hr]
        exact ⟨_, rfl⟩
    · have h1 : decide ((k : Int) < ln l) = false := by simp [ln]; omega
      rw [h1]
      exact .inl ⟨_, rfl⟩
  obtain ⟨a, b⟩ := q
  unfold P52
  dsimp only
  rw [hq]
  exact ⟨_, rfl⟩
theorem P25_def (fu : Nat) (a b : List Child) (x y : Option (List Child)) (ha : ∀ c ∈ a, OKC c) (hb : ∀ c ∈ b, OKC c) (hf : 4 * SizeOf.sizeOf a ≤ fu) (hg : 4 * SizeOf.sizeOf b ≤ fu) :
    ∃ r, P25 fu ⟨a, x⟩ ⟨b, y⟩ = some r ∧ (r = false → a.length ≤ 500 ∧ b.length ≤ 500) := by
  unfold P25
  dsimp only
  by_cases h1 : (500 : Int) < ln a
  · rw [decide_eq_true h1]
    exact ⟨true, rfl, fun e => nomatch e⟩
  · rw [decide_eq_false h1]
    by_cases h2 : (500 : Int) < ln b
    · rw [decide_eq_true h2]
      exact ⟨true, rfl, fun e => nomatch e⟩
    · rw [decide_eq_false h2]
      have l1 : a.length ≤ 500 := by simp [ln] at h1; omega
      have l2 : b.length ≤ 500 := by simp [ln] at h2; omega
      obtain ⟨r1, e1⟩ := P52_def fu a x (by omega) ha hf
      obtain ⟨r2, e2⟩ := P52_def fu b y (by omega) hb hg
      obtain ⟨r3, e3⟩ := P19_def fu [r1, r2] (some []) (by simp [maxLen_eq])
      refine ⟨r3, ?_, fun _ => ⟨l1, l2⟩⟩
      simp only [Bool.not_false, cond_true, e1, e2, e3, Option.bind_some]
theorem go_none {fu : Nat} {old next : List Child} {k : Nat} {c : Child} {r : List Int} {m : List (ByteArray × Int)} (hc : next[k]? = some c) (hl : next.length ≤ 1048576) (hr : r.length = k) (hm : mget m c.Key = none) :
    wl (P26_s1 fu old next) (r, m, (k : Int)) = wl (P26_s1 fu old next) (r ++ [-1], m, ((k + 1 : Nat) : Int)) := by
  have h := one_step fu old next k c hc hl r hr m (fun v hv => by rw [hm] at hv; cases hv)
  simp only [one, hm] at h
  exact wl_inl h
theorem go_some {fu : Nat} {old next : List Child} {k : Nat} {c : Child} {r : List Int} {m : List (ByteArray × Int)} {v : Int} {o : Child} {b : Bool} (hc : next[k]? = some c) (hl : next.length ≤ 1048576) (hr : r.length = k) (hm : mget m c.Key = some v) (ho : idx old v = some o) (ha : al o c = b) :
    wl (P26_s1 fu old next) (r, m, (k : Int)) = wl (P26_s1 fu old next) (r ++ [if b then v else -1], if b then mrem m c.Key else m, ((k + 1 : Nat) : Int)) := by
  have h := one_step fu old next k c hc hl r hr m (fun v' hv => by rw [hm] at hv; cases hv; exact ⟨o, ho⟩)
  simp only [one, hm, ho, ha] at h
  rw [wl_inl h]
  cases b <;> rfl
/-- A child of the example. -/
def ch (key : ByteArray) (kind : Int) : Child := Child.mk key kind ByteArray.empty (Value.mk 0 0 ByteArray.empty (Sl.mk [] (some [])) (Sl.mk [] (some [])) 0 ByteArray.empty false)
def kx : ByteArray := ⟨#[107, 58, 120]⟩
def ky : ByteArray := ⟨#[107, 58, 121]⟩
def ki : ByteArray := ⟨#[105, 58, 49]⟩
theorem al_same (a b : ByteArray) (n : Int) : al (ch a n) (ch b n) = true := by simp [al, ch, seq_self]
theorem al_other (a b : ByteArray) : al (ch a 1) (ch b 2) = false := by simp [al, ch]
theorem run2 (fu : Nat) : wl (P26_s0 fu [ch kx 1, ch ky 1]) (([] : List (ByteArray × Int)), w64 (ln [ch kx 1, ch ky 1] - 1)) = some ([(ky, 1), (kx, 0)], -1) := by
  have e : w64 (ln [ch kx 1, ch ky 1] - 1) = ((1 : Nat) : Int) := by decide
  rw [e, wl_inl (map_step fu _ [] 1 (ch ky 1) rfl (by omega))]
  have e2 : ((1 : Nat) : Int) - 1 = ((0 : Nat) : Int) := rfl
  rw [e2, wl_inl (map_step fu _ _ 0 (ch kx 1) rfl (by omega))]
  have e3 : ((0 : Nat) : Int) - 1 = -1 := rfl
  have e4 : mset (mset [] (ch ky 1).Key ((1 : Nat) : Int)) (ch kx 1).Key ((0 : Nat) : Int) = [(ky, 1), (kx, 0)] := rfl
  rw [e3, e4, wl_inr (map_end fu _ _)]
theorem run1 (fu : Nat) : wl (P26_s0 fu [ch kx 1]) (([] : List (ByteArray × Int)), w64 (ln [ch kx 1] - 1)) = some ([(kx, 0)], -1) := by
  have e : w64 (ln [ch kx 1] - 1) = ((0 : Nat) : Int) := by decide
  rw [e, wl_inl (map_step fu _ [] 0 (ch kx 1) rfl (by omega))]
  have e3 : ((0 : Nat) : Int) - 1 = -1 := rfl
  have e4 : mset [] (ch kx 1).Key ((0 : Nat) : Int) = [(kx, 0)] := rfl
  rw [e3, e4, wl_inr (map_end fu _ _)]
theorem ex1 (fu : Nat) (x y : Option (List Child)) : P26 fu ⟨[ch kx 1, ch ky 1], x⟩ ⟨[ch ky 1, ch ki 1, ch kx 2], y⟩ = some ⟨[1, -1, -1], none⟩ := by
  unfold P26
  dsimp only
  rw [run2]
  simp only [Option.bind_some]
  have h : wl (P26_s1 fu [ch kx 1, ch ky 1] [ch ky 1, ch ki 1, ch kx 2]) ([], [(ky, 1), (kx, 0)], 0) = some ([1, -1, -1], [(kx, 0)], ((3 : Nat) : Int)) := by
    rw [show (0 : Int) = ((0 : Nat) : Int) from rfl]
    rw [go_some (k := 0) (c := ch ky 1) (v := 1) (o := ch ky 1) (b := true) rfl (by simp) rfl rfl rfl (al_same _ _ _)]
    rw [go_none (k := 1) (c := ch ki 1) rfl (by simp) rfl rfl]
    rw [go_some (k := 2) (c := ch kx 2) (v := 0) (o := ch kx 1) (b := false) rfl (by simp) rfl rfl rfl (al_other _ _)]
    exact wl_inr (one_end fu _ [ch ky 1, ch ki 1, ch kx 2] _ _)
  rw [h]
  rfl
theorem ex2 (fu : Nat) (x y : Option (List Child)) : P26 fu ⟨[ch kx 1], x⟩ ⟨[ch kx 1, ch kx 1], y⟩ = some ⟨[0, -1], none⟩ := by
  unfold P26
  dsimp only
  rw [run1]
  simp only [Option.bind_some]
  have h : wl (P26_s1 fu [ch kx 1] [ch kx 1, ch kx 1]) ([], [(kx, 0)], 0) = some ([0, -1], [], ((2 : Nat) : Int)) := by
    rw [show (0 : Int) = ((0 : Nat) : Int) from rfl]
    rw [go_some (k := 0) (c := ch kx 1) (v := 0) (o := ch kx 1) (b := true) rfl (by simp) rfl rfl rfl (al_same _ _ _)]
    rw [go_none (k := 1) (c := ch kx 1) rfl (by simp) rfl rfl]
    exact wl_inr (one_end fu _ [ch kx 1, ch kx 1] _ _)
  rw [h]
  rfl
theorem ex3 (fu : Nat) (x y : Option (List Child)) : P26 fu ⟨[ch kx 1, ch ky 1], x⟩ ⟨[], y⟩ = some ⟨[], none⟩ := by
  unfold P26
  dsimp only
  rw [run2]
  simp only [Option.bind_some]
  have h : wl (P26_s1 fu [ch kx 1, ch ky 1] []) ([], [(ky, 1), (kx, 0)], 0) = some ([], [(ky, 1), (kx, 0)], 0) := by
    exact wl_inr (one_end fu [ch kx 1, ch ky 1] [] _ _)
  rw [h]
  rfl
theorem P51_ch (fu : Nat) (k : ByteArray) (d : Int) : P51 fu k d = some (ch k d) := rfl
theorem ints3 (fu : Nat) (x y : Option (List Int)) : P45 fu ⟨[1, -1, -1], x⟩ ⟨[1, -1, -1], y⟩ = some true := by
  unfold P45
  dsimp only
  have h : wl (P45_s0 fu [1, -1, -1] [1, -1, -1]) 0 = some (.inl 3) := by
    rw [wl_inl (show P45_s0 fu [1, -1, -1] [1, -1, -1] 0 = some (.inl 1) from rfl)]
    rw [wl_inl (show P45_s0 fu [1, -1, -1] [1, -1, -1] 1 = some (.inl 2) from rfl)]
    rw [wl_inl (show P45_s0 fu [1, -1, -1] [1, -1, -1] 2 = some (.inl 3) from rfl)]
    rw [wl_inr (show P45_s0 fu [1, -1, -1] [1, -1, -1] 3 = some (.inr (.inl 3)) from rfl)]
  rw [h]
  rfl
theorem ints2 (fu : Nat) (x y : Option (List Int)) : P45 fu ⟨[0, -1], x⟩ ⟨[0, -1], y⟩ = some true := by
  unfold P45
  dsimp only
  have h : wl (P45_s0 fu [0, -1] [0, -1]) 0 = some (.inl 2) := by
    rw [wl_inl (show P45_s0 fu [0, -1] [0, -1] 0 = some (.inl 1) from rfl)]
    rw [wl_inl (show P45_s0 fu [0, -1] [0, -1] 1 = some (.inl 2) from rfl)]
    rw [wl_inr (show P45_s0 fu [0, -1] [0, -1] 2 = some (.inr (.inl 2)) from rfl)]
  rw [h]
  rfl
theorem alive_true (fu : Nat) : P24 fu = some true := by
  unfold P24
  simp only [P51, Option.bind_some]
  have h1 := ex1 fu (some []) (some [])
  simp only [ch, kx, ky, ki] at h1
  rw [h1]
  simp only [Option.bind_some, ints3, cond_true]
  have h2 : ∀ x y, P26 fu ⟨[ch kx 1], x⟩ ⟨[ch kx 1, ch kx 1], y⟩ = some ⟨[0, -1], none⟩ := ex2 fu
  have h3 := ex3 fu (some []) (some [])
  have i0 : idx [ch kx 1, ch ky 1] 0 = some (ch kx 1) := rfl
  have c0 : cut ([ch kx 1, ch ky 1] ++ []) 0 1 = [ch kx 1] := rfl
  have d0 : decide (1 ≤ ln ([ch kx 1, ch ky 1] ++ [])) = true := by decide
  simp only [ch, kx, ky] at h2 h3 i0 c0 d0
  simp only [i0, c0, d0, decide_true, cond_true, Option.bind_some, h2, ints2, h3, Int.le_refl, Nat.le_refl, Nat.zero_le, Int.zero_le_ofNat]
  rfl
theorem lt_of_get {α : Type} {l : List α} {k : Nat} {x : α} (h : l[k]? = some x) : k < l.length := by
  rcases Nat.lt_or_ge k l.length with h1 | h1
  · exact h1
  · rw [List.getElem?_eq_none h1] at h; cases h
theorem ok_children {s : Sl Child} (h : WT tab 38 [.sl (s.l.map fun y => e_Child y) (s.x.map (List.map fun y => e_Child y))]) : ∀ c ∈ s.l, OKC c := by
  obtain ⟨rows, hid, e1, _, h3, _⟩ := h.slice_inv ty_38
  simp only [List.cons.injEq, D.sl.injEq, and_true] at e1
  obtain ⟨rfl, _⟩ := e1
  simp only [List.mem_map, forall_exists_index, and_imp, forall_apply_eq_imp_iff₂] at h3
  exact h3
end Go.Proofs.Ytamllgdaepjcfaa
