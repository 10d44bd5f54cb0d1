/- Twins of values: copies with a mark behind each list; what is left of them. -/
import Derived.Test.YtipkggkbldgmjaaKRL1
namespace Go.Proofs.Ytipkggkbldgmjaa
open Go Go.X
set_option linter.unusedVariables false
set_option linter.unusedSimpArgs false
set_option maxRecDepth 100000
def spareB : ByteArray := ⟨#[115, 112, 97, 114, 101]⟩
def spareV : Value := Value.mk 0 0 spareB (Sl.mk [] (some [])) (Sl.mk [] (some [])) 0 ByteArray.empty false
def spareF : Field := Field.mk spareB (Value.mk 0 0 ByteArray.empty (Sl.mk [] (some [])) (Sl.mk [] (some [])) 0 ByteArray.empty false)
def Tw : Nat → Value → Value → Prop
  | 0, _, _ => False
  | N + 1, .mk k n s ⟨l, x⟩ ⟨f, y⟩ e c b, .mk k' n' s' ⟨l', _⟩ ⟨f', _⟩ e' c' b' => k = k' ∧ n = n' ∧ s = s' ∧ e = e' ∧ c = c' ∧ b = b' ∧
      (x = some [spareV] ∧ l.length = l'.length ∧ ∀ (i : Nat) t a, l[i]? = some t → l'[i]? = some a → Tw N t a) ∧
      y = some [spareF] ∧ f.length = f'.length ∧ ∀ (i : Nat) t a, f[i]? = some t → f'[i]? = some a → fldR (Tw N) t a
theorem Tw.ali : ∀ (N : Nat) (t v : Value), Tw N t v → Ali N t v := by
  intro N
  induction N with
  | zero => intro t v h; exact absurd h (by obtain ⟨_, _, _, ⟨_, _⟩, ⟨_, _⟩, _, _, _⟩ := t; simp [Tw])
  | succ N ih =>
    intro t v h
    obtain ⟨k, n, s, ⟨l, x⟩, ⟨f, y⟩, e, c, b⟩ := v
    obtain ⟨k', n', s', ⟨l', x'⟩, ⟨f', y'⟩, e', c', b'⟩ := t
    obtain ⟨h1, h2, h3, h4, h5, h6, ⟨h7, h8, h9⟩, h10, h11, h12⟩ := h
    refine ⟨h1, h2, h3, h4, h5, h6, ⟨h8, fun i t a g1 g2 => ih _ _ (h9 i t a g1 g2)⟩, h11, fun i t a g1 g2 => ?_⟩
    have := h12 i t a g1 g2
    obtain ⟨m, v⟩ := t
    obtain ⟨m', v'⟩ := a
    exact ⟨this.1, ih _ _ this.2⟩
theorem twV_st (fu : Nat) (p : Value → Option Value) (l : List Value) : P13_s0 fu p l = stTwin 112 p l := by
  funext q
  obtain ⟨o, i⟩ := q
  unfold P13_s0 stTwin
  dsimp only
  cases decide (i < ln l)
  · rfl
  · cases idx l i with
    | none => rfl
    | some x =>
      obtain ⟨_, _, _, ⟨_, _⟩, ⟨_, _⟩, _, _, _⟩ := x
      simp only [cond_true, Option.bind_some]
      cases p _ with
      | none => rfl
      | some t => obtain ⟨_, _, _, ⟨_, _⟩, ⟨_, _⟩, _, _, _⟩ := t; rfl
theorem twF_st (fu : Nat) (p : Field → Option Field) (l : List Field) : P57_s0 fu p l = stTwin 128 p l := by
  funext q
  obtain ⟨o, i⟩ := q
  unfold P57_s0 stTwin
  dsimp only
  cases decide (i < ln l)
  · rfl
  · cases idx l i with
    | none => rfl
    | some x =>
      obtain ⟨_, ⟨_, _, _, ⟨_, _⟩, ⟨_, _⟩, _, _, _⟩⟩ := x
      simp only [cond_true, Option.bind_some]
      cases p _ with
      | none => rfl
      | some t => obtain ⟨_, ⟨_, _, _, ⟨_, _⟩, ⟨_, _⟩, _, _, _⟩⟩ := t; rfl
theorem twVs_eq (fu : Nat) (l : List Value) (x : Option (List Value)) : P13 (fu + 1) ⟨l, x⟩ = twinS 112 spareV (stTwin 112 (P35 fu) l) l := by
  rw [P13.eq_2]
  unfold Pb13
  dsimp only
  rw [twV_st]
  rfl
theorem twFs_eq (fu : Nat) (l : List Field) (x : Option (List Field)) : P57 (fu + 1) ⟨l, x⟩ = twinS 128 spareF (stTwin 128 (P74 fu) l) l := by
  rw [P57.eq_2]
  unfold Pb57
  dsimp only
  rw [twF_st]
  rfl
theorem twin_V : ∀ (N n : Nat) (v : Value), SizeOf.sizeOf v ≤ N → 4 * N ≤ n → OKV v → ∃ t, P35 n v = some t ∧ Tw N t v := by
  intro N
  induction N with
  | zero =>
    intro n v h
    obtain ⟨_, _, _, ⟨_, _⟩, ⟨_, _⟩, _, _, _⟩ := v
    simp only [Value.mk.sizeOf_spec] at h
    omega
  | succ N ih =>
    intro n v h hn ov
    obtain ⟨n', rfl⟩ : ∃ n', n = n' + 4 := ⟨n - 4, by omega⟩
    obtain ⟨k, nn, s, ⟨l, x⟩, ⟨f, y⟩, e, c, b⟩ := v
    obtain ⟨p1, p2, p3, p4⟩ := okV_parts ov
    rw [P35.eq_2]
    unfold Pb35
    dsimp only
    rw [twVs_eq, twFs_eq]
    obtain ⟨o, g1, g2, g3⟩ := twin_ok (by_ := 112) (k := 112) (m := spareV) (p := P35 (n' + 2)) (l := l) (Tw N) rfl (by omega) (by omega) p1 (fun x' hx => by
      have := size_L (k := k) (n := nn) (s := s) (key := c) (lx := x) (f := ⟨f, y⟩) (e := e) (hk := b) hx
      exact ih (n' + 2) x' (by omega) (by omega) (p2 x' hx))
    obtain ⟨o2, g4, g5, g6⟩ := twin_ok (by_ := 128) (k := 128) (m := spareF) (p := P74 (n' + 2)) (l := f) (fldR (Tw N)) rfl (by omega) (by omega) p3 (fun q hq => by
      have h1 := size_F (k := k) (n := nn) (s := s) (key := c) (l := ⟨l, x⟩) (fx := y) (e := e) (hk := b) hq
      obtain ⟨m, w⟩ := q
      have h2 := size_V (m := m) (v := w)
      obtain ⟨t, h3, h4⟩ := ih (n' + 1) w (by omega) (by omega) (okF_parts (p4 _ hq))
      refine ⟨Field.mk m t, ?_, rfl, h4⟩
      rw [P74.eq_2]
      unfold Pb74
      obtain ⟨_, _, _, ⟨_, _⟩, ⟨_, _⟩, _, _, _⟩ := w
      dsimp only
      rw [h3]
      obtain ⟨_, _, _, ⟨_, _⟩, ⟨_, _⟩, _, _, _⟩ := t
      rfl)
    rw [g1, g4]
    exact ⟨_, rfl, rfl, rfl, rfl, rfl, rfl, rfl, ⟨rfl, g2, g3⟩, rfl, g5, g6⟩
theorem twin_Vs {N n : Nat} {l : List Value} {x : Option (List Value)} (hN : ∀ v ∈ l, SizeOf.sizeOf v ≤ N) (hn : 4 * N ≤ n) (h1 : l.length * 112 ≤ reachBytes) (h2 : ∀ v ∈ l, OKV v) :
    ∃ o, P13 (n + 1) ⟨l, x⟩ = some ⟨o, some [spareV]⟩ ∧ o.length = l.length ∧ ∀ (i : Nat) t a, o[i]? = some t → l[i]? = some a → Tw N t a := by
  rw [twVs_eq]
  exact twin_ok (by_ := 112) (k := 112) (m := spareV) (p := P35 n) (l := l) (Tw N) rfl (by omega) (by omega) h1 (fun x' hx => twin_V N n x' (hN x' hx) hn (h2 x' hx))

theorem lfV_st (fu : Nat) (p : Value → Value → Option Bool) (a b : List Value) : P16_s0 fu p a b = stLeft p a b := by
  funext i
  unfold P16_s0 stLeft
  dsimp only
  cases decide (i < ln b)
  · rfl
  · cases idx a i with
    | none => rfl
    | some x =>
      obtain ⟨_, _, _, ⟨_, _⟩, ⟨_, _⟩, _, _, _⟩ := x
      cases idx b i with
      | none => rfl
      | some y =>
        obtain ⟨_, _, _, ⟨_, _⟩, ⟨_, _⟩, _, _, _⟩ := y
        rfl
theorem lfF_st (fu : Nat) (p : Field → Field → Option Bool) (a b : List Field) : P58_s0 fu p a b = stLeft p a b := by
  funext i
  unfold P58_s0 stLeft
  dsimp only
  cases decide (i < ln b)
  · rfl
  · cases idx a i with
    | none => rfl
    | some x =>
      obtain ⟨_, ⟨_, _, _, ⟨_, _⟩, ⟨_, _⟩, _, _, _⟩⟩ := x
      cases idx b i with
      | none => rfl
      | some y =>
        obtain ⟨_, ⟨_, _, _, ⟨_, _⟩, ⟨_, _⟩, _, _, _⟩⟩ := y
        rfl
def isSpV : Value → Bool
  | .mk _ _ s _ _ _ _ _ => seq s spareB
def isSpF : Field → Bool
  | .mk s _ => seq s spareB
theorem lfVs_eq (fu : Nat) (l h b : List Value) (x : Option (List Value)) : P16 (fu + 1) ⟨l, some h⟩ ⟨b, x⟩ = leftS (stLeft (P37 fu) l b) isSpV l h b := by
  rw [P16.eq_2]
  unfold Pb16
  dsimp only
  rw [lfV_st]
  refine (show _ = leftG (stLeft (P37 fu) l b) l h b _ from rfl).trans (congrArg (leftG _ l h b) (funext fun x => ?_))
  obtain ⟨_, _, _, ⟨_, _⟩, ⟨_, _⟩, _, _, _⟩ := x
  rfl
theorem lfFs_eq (fu : Nat) (l h b : List Field) (x : Option (List Field)) : P58 (fu + 1) ⟨l, some h⟩ ⟨b, x⟩ = leftS (stLeft (P75 fu) l b) isSpF l h b := by
  rw [P58.eq_2]
  unfold Pb58
  dsimp only
  rw [lfF_st]
  refine (show _ = leftG (stLeft (P75 fu) l b) l h b _ from rfl).trans (congrArg (leftG _ l h b) (funext fun x => ?_))
  obtain ⟨_, ⟨_, _, _, ⟨_, _⟩, ⟨_, _⟩, _, _, _⟩⟩ := x
  rfl
theorem isSpV_self : isSpV spareV = true := seq_self _
theorem isSpF_self : isSpF spareF = true := seq_self _
theorem left_V : ∀ (N n : Nat) (t v : Value), Tw N t v → 4 * N ≤ n → OKV v → P37 n t v = some true := by
  intro N
  induction N with
  | zero => intro n t v h; exact absurd h (by obtain ⟨_, _, _, ⟨_, _⟩, ⟨_, _⟩, _, _, _⟩ := t; simp [Tw])
  | succ N ih =>
    intro n t v h hn ov
    obtain ⟨n', rfl⟩ : ∃ n', n = n' + 4 := ⟨n - 4, by omega⟩
    obtain ⟨k, nn, s, ⟨l, x⟩, ⟨f, y⟩, e, c, b⟩ := v
    obtain ⟨k', n2, s', ⟨l', x'⟩, ⟨f', y'⟩, e', c', b'⟩ := t
    obtain ⟨rfl, rfl, rfl, rfl, rfl, rfl, ⟨rfl, h8, h9⟩, rfl, h11, h12⟩ := h
    obtain ⟨p1, p2, p3, p4⟩ := okV_parts ov
    have hl1 := len_room (by omega) p1
    have hl3 := len_room (by omega) p3
    rw [P37.eq_2]
    unfold Pb37
    dsimp only
    rw [lfVs_eq, lfFs_eq]
    rw [left_ok (m := spareV) (isM := isSpV) h8 hl1 isSpV_self (fun i t a h1 h2 => ih (n' + 2) t a (h9 i t a h1 h2) (by omega) (p2 _ (List.mem_of_getElem? h2)))]
    rw [left_ok (m := spareF) (isM := isSpF) h11 hl3 isSpF_self (fun i t a h1 h2 => by
      have hh := h12 i t a h1 h2
      obtain ⟨m, w⟩ := t
      obtain ⟨m', w'⟩ := a
      obtain ⟨rfl, hw⟩ := hh
      have hi := ih (n' + 1) w w' hw (by omega) (okF_parts (p4 _ (List.mem_of_getElem? h2)))
      rw [P75.eq_2]
      unfold Pb75
      obtain ⟨_, _, _, ⟨_, _⟩, ⟨_, _⟩, _, _, _⟩ := w
      obtain ⟨_, _, _, ⟨_, _⟩, ⟨_, _⟩, _, _, _⟩ := w'
      dsimp only
      rw [seq_self, hi]
      rfl)]
    simp only [beq_self_eq_true, seq_self, cond_true, Option.bind_some]
theorem left_Vs {N n : Nat} {o l : List Value} {x : Option (List Value)} (h0 : o.length = l.length) (hT : ∀ (i : Nat) t a, o[i]? = some t → l[i]? = some a → Tw N t a) (hn : 4 * N ≤ n) (h1 : l.length * 112 ≤ reachBytes) (h2 : ∀ v ∈ l, OKV v) :
    P16 (n + 1) ⟨o, some [spareV]⟩ ⟨l, x⟩ = some true := by
  rw [lfVs_eq]
  exact left_ok (m := spareV) (isM := isSpV) h0 (len_room (by omega) h1) isSpV_self fun i t a g1 g2 => left_V N n t a (hT i t a g1 g2) hn (h2 _ (List.mem_of_getElem? g2))
end Go.Proofs.Ytipkggkbldgmjaa
