/- norm.Kids on plain data: one value after another, over all the values that the lists hold, in their order. -/
import Derived.Test.YtjoinlfkebgfkaaDoorNUL3
namespace Go.Proofs.YtjoinlfkebgfkaaDoor
open Go Go.X
set_option linter.unusedVariables false
set_option linter.unusedSimpArgs false
set_option maxRecDepth 100000
mutual
noncomputable def fl : Value → List Value
  | .mk k n s l f e c b => bif k == 4 then flS l else [.mk k n s l f e c b]
noncomputable def flS : Sl Value → List Value
  | .mk l x => flL l
noncomputable def flL : List Value → List Value
  | [] => []
  | v :: r => fl v ++ flL r
end
theorem flL_append : ∀ a b, flL (a ++ b) = flL a ++ flL b
  | [], b => by rw [List.nil_append, flL]; rfl
  | v :: r, b => by rw [List.cons_append, flL, flL, flL_append r b, List.append_assoc]
theorem flL_list (s c : ByteArray) (n e : Int) (b : Bool) (l : List Value) (x : Option (List Value)) (f : Sl Field) : flL [.mk 4 n s ⟨l, x⟩ f e c b] = flL l := by
  rw [flL, flL, fl, flS, List.append_nil]
  rfl
abbrev Seen := List (ByteArray × Bool)
def textV (s : ByteArray) : Value := Value.mk 3 0 s (Sl.mk [] (some [])) (Sl.mk [] (some [])) 0 ByteArray.empty false
/-- A value's child: its kind, name and value. -/
noncomputable def kidOf : Value → Option (Int × ByteArray × Value)
  | .mk k n s l f e c b => bif k == 1 then some (9, ByteArray.empty, textV (itoaB n)) else bif k == 3 then some (9, ByteArray.empty, textV s) else
      bif (bif k == 6 then bif decide (0 < e) then decide (e < 9) else false else false) then some (e, s, cp (.mk k n s l f e c b)) else none
/-- Its key, and the keys that have been given. -/
def keyOf (p : Int) (seen : Seen) : Value → ByteArray × Seen
  | .mk k n s l f e c b => bif (bif k == 6 then bif b then (match mget seen c with | none => true | some x => !x) else false else false) then ((⟨#[107, 58]⟩ : ByteArray) ++ c, mset seen c true) else ((⟨#[105, 58]⟩ : ByteArray) ++ itoaB p, seen)
noncomputable def stp (p : Int) (v : Value) (out : List Child) (seen : Seen) : Bool × List Child × Seen :=
  bif ln out == 4096 then (false, out, seen) else
    match kidOf v with
    | none => (true, out, seen)
    | some (k, nm, w) => (true, out ++ [Child.mk (keyOf p seen v).1 k nm w], (keyOf p seen v).2)
def knd : Value → Int
  | .mk k _ _ _ _ _ _ _ => k
def why (b : Bool) : Option X.Ex := bif b then none else some (.exit 0)
def Kok : Nat → Value → Prop
  | 0, _ => False
  | N + 1, .mk k n s ⟨l, x⟩ f e c b => inI64 n = true ∧ c.size ≤ reachBytes ∧ (k = 4 → l.length ≤ 9000000000000 ∧ ∀ v ∈ l, Kok N v) ∧ (k ≠ 4 → Fit (N + 1) (.mk k n s ⟨l, x⟩ f e c b))
theorem nDigits_le : ∀ (k u : Nat), u < 10 ^ (k + 1) → Lib.nDigits u ≤ k + 1 := by
  intro k
  induction k with
  | zero => intro u h; rw [Lib.nDigits_small (by simpa using h)]; omega
  | succ k ih =>
    intro u h
    by_cases h0 : u < 10
    · rw [Lib.nDigits_small h0]; omega
    · rw [Lib.nDigits_big h0]
      have := ih (u / 10) (by rw [Nat.pow_succ] at h; omega)
      omega
theorem inI64_iff {n : Int} : inI64 n = true ↔ -9223372036854775808 ≤ n ∧ n ≤ 9223372036854775807 := by simp [inI64]
theorem itoaB_size {n : Int} (h : inI64 n = true) : (itoaB n).size ≤ 21 := by
  rw [inI64_iff] at h
  show (Lib.itoa n).toArray.size ≤ 21
  rw [List.size_toArray]
  unfold Lib.itoa
  have h1 : Lib.nDigits n.natAbs ≤ 20 := nDigits_le 19 _ (by omega)
  have h2 : Lib.nDigits n.toNat ≤ 20 := nDigits_le 19 _ (by omega)
  split
  · rw [List.length_cons, Lib.decDigits_length]; omega
  · rw [Lib.decDigits_length]; omega
theorem inI64_w64 (n : Int) : inI64 (w64 n) = true := by
  rw [inI64_iff]
  unfold w64
  rw [IntKind.wrap_i64]
  omega
theorem itoa_P (fu : Nat) {p : Int} (hp : inI64 p = true) : P18 fu p = some (itoaB p) := by
  show Option.bind (Option.bind (bif true then bif inI64 p then some (itoaB p) else none else none) _) _ = _
  rw [hp]; rfl
theorem fmt_P (fu : Nat) {p : Int} (hp : inI64 p = true) : P16 fu p 10 = some (itoaB p) := by
  show Option.bind (bif true then bif inI64 p then some (itoaB p) else none else none) _ = _
  rw [hp]; rfl
theorem round_ok {N fu : Nat} {p : Int} {v : Value} {out : List Child} {seen : Seen} (hv : Kok N v) (hk : knd v ≠ 4) (hN : 3 * N ≤ fu) (hp : inI64 p = true) (ho : out.length ≤ 4096) :
    P70x1 fu p v none out seen = some ((stp p v out seen).1, why (stp p v out seen).1, (stp p v out seen).2.1, (stp p v out seen).2.2) := by
  obtain ⟨k, n, s, ⟨l, x⟩, ⟨f, y⟩, e, c, b⟩ := v
  cases N with
  | zero => exact absurd hv (by simp [Kok])
  | succ N =>
  obtain ⟨h1, h2, _, h4⟩ := hv
  have hf := h4 hk
  obtain ⟨hc, _⟩ := cp_V (N + 1) fu _ hf hN
  have s1 := itoaB_size hp
  rw [reach_is] at h2
  unfold P70x1 stp
  dsimp only
  cases hl : ln out == 4096 with
  | true => rfl
  | false =>
  have hlen : out.length < 4096 := by
    have : ln out ≠ 4096 := by simpa using hl
    rw [ln_eq] at this
    omega
  have e1 : decide (((⟨#[105, 58]⟩ : ByteArray).size : Int) + ((itoaB p).size : Int) ≤ 9223372036854775807) = true := by
    have : (⟨#[105, 58]⟩ : ByteArray).size = 2 := rfl
    rw [decide_eq_true_eq, this]; omega
  have e2 : decide (((⟨#[107, 58]⟩ : ByteArray).size : Int) + (c.size : Int) ≤ 9223372036854775807) = true := by
    have : (⟨#[107, 58]⟩ : ByteArray).size = 2 := rfl
    rw [decide_eq_true_eq, this]; omega
  have e3 : ∀ q : Child, room 152 (ln (out ++ [q])) = true := fun q => room_ok (by rw [ln_eq, List.length_append, List.length_singleton]; omega)
  simp only [cond_false, fmt_P fu h1, P15, itoa_P fu hp, Option.bind_some, e1, e2, e3, cond_true, hc, kidOf, keyOf]
  cases k == 1 <;> cases k == 3 <;> cases k == 6 <;> simp only [cond_true, cond_false, Option.bind_some]
  all_goals first
    | rfl
    | (cases b <;> first | rfl | (cases mget seen c with | none => rfl | some q => cases q <;> rfl))
    | (clear hc
       generalize cp (Value.mk k n s ⟨l, x⟩ ⟨f, y⟩ e c b) = w
       obtain ⟨_, _, _, ⟨_, _⟩, ⟨_, _⟩, _, _, _⟩ := w
       cases decide (0 < e) <;> cases decide (e < 9) <;> cases b <;> first | rfl | (cases mget seen c with | none => rfl | some q => cases q <;> rfl))
noncomputable def run : List Value → Int → List Child → Seen → Bool × Int × List Child × Seen
  | [], p, out, seen => (true, p, out, seen)
  | v :: r, p, out, seen => match stp p v out seen with
    | (true, out', seen') => run r (w64 (p + 1)) out' seen'
    | (false, out', seen') => (false, p, out', seen')
theorem run_append : ∀ (a b : List Value) (p : Int) (out : List Child) (seen : Seen), run (a ++ b) p out seen = (match run a p out seen with | (true, p', out', seen') => run b p' out' seen' | (false, p', out', seen') => (false, p', out', seen'))
  | [], b, p, out, seen => rfl
  | v :: r, b, p, out, seen => by
    show run (v :: (r ++ b)) p out seen = _
    rw [run, run]
    rcases stp p v out seen with ⟨_ | _, out', seen'⟩
    · rfl
    · exact run_append r b _ _ _
theorem stp_len {p : Int} {v : Value} {out : List Child} {seen : Seen} (h : out.length ≤ 4096) : (stp p v out seen).2.1.length ≤ 4096 := by
  unfold stp
  cases hl : ln out == 4096 with
  | true => exact h
  | false =>
    have : ln out ≠ 4096 := by simpa using hl
    rw [ln_eq] at this
    rw [cond_false]
    split
    · exact h
    · rw [List.length_append, List.length_singleton]; omega
theorem run_keeps : ∀ (a : List Value) (p : Int) (out : List Child) (seen : Seen), inI64 p = true → out.length ≤ 4096 → inI64 (run a p out seen).2.1 = true ∧ (run a p out seen).2.2.1.length ≤ 4096
  | [], p, out, seen, h1, h2 => ⟨h1, h2⟩
  | v :: r, p, out, seen, h1, h2 => by
    rw [run]
    have := stp_len (p := p) (v := v) (seen := seen) h2
    generalize stp p v out seen = t at this
    obtain ⟨_ | _, out', seen'⟩ := t
    · exact ⟨h1, this⟩
    · exact run_keeps r _ _ _ (inI64_w64 _) this
abbrev WSt := (Option X.Ex) × (List Child) × Seen × Int × Int
def fin : WSt ⊕ WSt → Bool × (Option X.Ex) × (List Child) × Seen × Int
  | .inl (a, b, c, d, _) => (true, a, b, c, d)
  | .inr (a, b, c, d, _) => (false, a, b, c, d)
def pack : Bool × Int × List Child × Seen → Bool × (Option X.Ex) × (List Child) × Seen × Int
  | (b, p, out, seen) => (b, why b, out, seen, p)
theorem loop_ok {N fu : Nat} {p22 : (Sl Value) → (Option X.Ex) → (List Child) → Seen → Int → Option (Bool × (Option X.Ex) × (List Child) × Seen × Int)} {l : List Value} (hlen : l.length ≤ 9000000000000) (hK : ∀ v ∈ l, Kok N v) (hfu : 3 * N ≤ fu)
    (hp : ∀ (n : Int) (s : ByteArray) (l' : List Value) (x' : Option (List Value)) (f : Sl Field) (e : Int) (c : ByteArray) (b : Bool), Value.mk 4 n s ⟨l', x'⟩ f e c b ∈ l → ∀ (p : Int) (out : List Child) (seen : Seen), inI64 p = true → out.length ≤ 4096 → p22 ⟨l', x'⟩ none out seen p = some (pack (run (flL l') p out seen))) :
    ∀ (r pre : List Value), l = pre ++ r → ∀ (p : Int) (out : List Child) (seen : Seen), inI64 p = true → out.length ≤ 4096 →
      ∃ q, wl (P22x1_s0 fu p22 l) (none, out, seen, p, (pre.length : Int)) = some q ∧ fin q = pack (run (flL r) p out seen) := by
  intro r
  induction r with
  | nil =>
    intro pre hl p out seen h1 h2
    rw [List.append_nil] at hl
    subst hl
    refine ⟨.inl (none, out, seen, p, (l.length : Int)), wl_inr ?_, by rw [flL, run]; rfl⟩
    unfold P22x1_s0
    dsimp only
    rw [lt_false, cond_false]
  | cons v r ih =>
    intro pre hl p out seen h1 h2
    have hm : v ∈ l := by rw [hl]; simp
    have hlt : pre.length < l.length := by rw [hl]; simp
    have hv := hK v hm
    have hix : idx l (pre.length : Int) = some v := by rw [idx_nat, hl]; simp
    have hl2 : l = (pre ++ [v]) ++ r := by rw [hl]; simp
    have hsucc : w64 ((pre.length : Int) + 1) = ((pre ++ [v]).length : Int) := by rw [w64_succ (by omega)]; simp
    obtain ⟨k, n, s, ⟨l', x'⟩, ⟨f, y⟩, e, c, b⟩ := v
    by_cases hk : k = 4
    · subst hk
      have hc := hp n s l' x' ⟨f, y⟩ e c b hm p out seen h1 h2
      rw [flL, fl, flS, run_append, show ((4 : Int) == 4) = true from rfl, cond_true]
      have hkeep := run_keeps (flL l') p out seen h1 h2
      generalize run (flL l') p out seen = t at hc hkeep
      obtain ⟨b', p', out', seen'⟩ := t
      cases b' with
      | true =>
        have hst : P22x1_s0 fu p22 l (none, out, seen, p, (pre.length : Int)) = some (.inl (none, out', seen', p', ((pre ++ [Value.mk 4 n s ⟨l', x'⟩ ⟨f, y⟩ e c b]).length : Int))) := by
          unfold P22x1_s0
          dsimp only
          rw [lt_true hlt, hix, cond_true]
          simp only [Option.bind_some, hc, pack, why, cond_true, Bool.not_true, cond_false, hsucc, show ((4 : Int) == 4) = true from rfl]
        rw [wl_inl hst]
        exact ih _ hl2 p' out' seen' hkeep.1 hkeep.2
      | false =>
        refine ⟨.inr (some (.exit 0), out', seen', p', (pre.length : Int)), wl_inr ?_, rfl⟩
        unfold P22x1_s0
        dsimp only
        rw [lt_true hlt, hix, cond_true]
        simp only [Option.bind_some, hc, pack, why, cond_false, cond_true, Bool.not_false, show ((4 : Int) == 4) = true from rfl]
    · have hr := round_ok (p := p) (seen := seen) hv (by exact hk) hfu h1 h2
      have hk4 : (k == 4) = false := by simpa using hk
      rw [flL, fl, hk4, cond_false, List.singleton_append, run]
      have hlen2 := stp_len (p := p) (v := Value.mk k n s ⟨l', x'⟩ ⟨f, y⟩ e c b) (seen := seen) h2
      generalize stp p (Value.mk k n s ⟨l', x'⟩ ⟨f, y⟩ e c b) out seen = t at hr hlen2
      obtain ⟨b', out', seen'⟩ := t
      cases b' with
      | true =>
        have hst : P22x1_s0 fu p22 l (none, out, seen, p, (pre.length : Int)) = some (.inl (none, out', seen', w64 (p + 1), ((pre ++ [Value.mk k n s ⟨l', x'⟩ ⟨f, y⟩ e c b]).length : Int))) := by
          unfold P22x1_s0
          dsimp only
          rw [lt_true hlt, hix, cond_true]
          simp only [Option.bind_some, hk4, cond_false, hr, why, cond_true, Bool.not_true, hsucc]
        rw [wl_inl hst]
        exact ih _ hl2 _ out' seen' (inI64_w64 _) hlen2
      | false =>
        refine ⟨.inr (some (.exit 0), out', seen', p, (pre.length : Int)), wl_inr ?_, rfl⟩
        unfold P22x1_s0
        dsimp only
        rw [lt_true hlt, hix, cond_true]
        simp only [Option.bind_some, hk4, cond_false, hr, why, cond_true, Bool.not_false]
theorem walk_ok : ∀ (N fu : Nat) (l : List Value) (x : Option (List Value)) (p : Int) (out : List Child) (seen : Seen), l.length ≤ 9000000000000 → (∀ v ∈ l, Kok N v) → 4 * N + 1 ≤ fu → inI64 p = true → out.length ≤ 4096 →
    P22x1 fu ⟨l, x⟩ none out seen p = some (pack (run (flL l) p out seen)) := by
  intro N
  induction N with
  | zero =>
    intro fu l x p out seen h1 h2 h3 h4 h5
    obtain ⟨fu', rfl⟩ : ∃ f, fu = f + 1 := ⟨fu - 1, by omega⟩
    cases l with
    | cons v r => exact absurd (h2 v (List.mem_cons_self ..)) (by obtain ⟨_, _, _, ⟨_, _⟩, ⟨_, _⟩, _, _, _⟩ := v; simp [Kok])
    | nil =>
    obtain ⟨q, g1, g2⟩ := loop_ok (N := 0) (fu := fu') (p22 := P22x1 fu') h1 h2 (by omega) (fun _ _ _ _ _ _ _ _ hm => by cases hm) [] [] rfl p out seen h4 h5
    rw [P22x1.eq_2]
    unfold Pb22x1
    dsimp only
    rw [show (0 : Int) = (([] : List Value).length : Int) from rfl, g1, ← g2]
    rcases q with ⟨_, _, _, _, _⟩ | ⟨_, _, _, _, _⟩ <;> rfl
  | succ N ih =>
    intro fu l x p out seen h1 h2 h3 h4 h5
    obtain ⟨fu', rfl⟩ : ∃ f, fu = f + 1 := ⟨fu - 1, by omega⟩
    obtain ⟨q, g1, g2⟩ := loop_ok (N := N + 1) (fu := fu') (p22 := P22x1 fu') h1 h2 (by omega) (fun n s l' x' f e c b hm p out seen j1 j2 => by
      have hv := h2 _ hm
      obtain ⟨f, y⟩ := f
      obtain ⟨_, _, hv, _⟩ := hv
      exact ih fu' l' x' p out seen (hv rfl).1 (hv rfl).2 (by omega) j1 j2) l [] rfl p out seen h4 h5
    rw [P22x1.eq_2]
    unfold Pb22x1
    dsimp only
    rw [show (0 : Int) = (([] : List Value).length : Int) from rfl, g1, ← g2]
    rcases q with ⟨_, _, _, _, _⟩ | ⟨_, _, _, _, _⟩ <;> rfl
/-- The children of values. -/
theorem kids_ok {N fu : Nat} {l : List Value} {x : Option (List Value)} (h1 : l.length ≤ 9000000000000) (h2 : ∀ v ∈ l, Kok N v) (h3 : 4 * N + 1 ≤ fu) : P9 fu ⟨l, x⟩ = some ⟨(run (flL l) 0 [] []).2.2.1, none⟩ := by
  have := walk_ok N fu l x 0 [] [] h1 h2 h3 rfl (by simp)
  unfold P9 P21x1
  dsimp only
  rw [this]
  rcases run (flL l) 0 [] [] with ⟨_ | _, p', out', seen'⟩ <;> rfl
end Go.Proofs.YtjoinlfkebgfkaaDoor
