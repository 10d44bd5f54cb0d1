/- context.Get on plain data: the last of that name. (The rounds' numbers 117, 118 are those of seat r4.) -/
import Derived.Test.YtipkggkbldgmjaaWGL3
namespace Go.Proofs.Ytipkggkbldgmjaa
open Go Go.X
set_option linter.unusedVariables false
set_option linter.unusedSimpArgs false
set_option maxRecDepth 100000
theorem back_to {α β : Type} {f : α → Option (α ⊕ β)} (mk : Int → α) {i n : Nat} (hs : ∀ j : Nat, i < j → j < n → f (mk j) = some (.inl (mk ((j : Int) - 1)))) : ∀ k : Nat, i ≤ k → k < n → wl f (mk k) = wl f (mk i) := by
  intro k
  induction k with
  | zero => intro h _; obtain rfl : i = 0 := by omega
            rfl
  | succ k ih =>
    intro h h2
    by_cases hk : i = k + 1
    · subst hk; rfl
    · rw [wl_inl (hs (k + 1) (by omega) h2)]
      have : (((k + 1 : Nat) : Int) - 1) = (k : Int) := by omega
      rw [this]
      exact ih (by omega) (by omega)
theorem back_found {α β : Type} {f : α → Option (α ⊕ β)} (mk : Int → α) {i n : Nat} {out : β} (hi : i < n) (hf : f (mk i) = some (.inr out)) (hs : ∀ j : Nat, i < j → j < n → f (mk j) = some (.inl (mk ((j : Int) - 1)))) : wl f (mk ((n : Int) - 1)) = some out := by
  have h := back_to mk hs (n - 1) (by omega) (by omega)
  have e : ((n - 1 : Nat) : Int) = (n : Int) - 1 := by omega
  rw [e] at h
  rw [h, wl_inr hf]
theorem back_none {α β : Type} {f : α → Option (α ⊕ β)} (mk : Int → α) {n : Nat} {fin : β} (he : f (mk (-1)) = some (.inr fin)) (hs : ∀ j : Nat, j < n → f (mk j) = some (.inl (mk ((j : Int) - 1)))) : wl f (mk ((n : Int) - 1)) = some fin := by
  cases n with
  | zero => exact wl_inr he
  | succ n =>
    have h := back_to (i := 0) mk (fun j _ h2 => hs j h2) n (Nat.zero_le _) (by omega)
    have e : (((n + 1 : Nat) : Int) - 1) = (n : Int) := by omega
    rw [e, h]
    have := hs 0 (by omega)
    rw [wl_inl this]
    exact wl_inr he
/-- The last of a name: there is one, or none. -/
theorem last_cases {A : Type} (p : A → Bool) (l : List A) : (∃ i x, l[i]? = some x ∧ p x = true ∧ ∀ (j : Nat) y, i < j → l[j]? = some y → p y = false) ∨ ∀ x ∈ l, p x = false := by
  induction l with
  | nil => exact .inr fun x hx => by simp at hx
  | cons a l ih =>
    rcases ih with ⟨i, x, h1, h2, h3⟩ | h
    · exact .inl ⟨i + 1, x, by simpa using h1, h2, fun j y hj hy => by
        cases j with
        | zero => omega
        | succ j => exact h3 j y (by omega) (by simpa using hy)⟩
    · cases ha : p a with
      | true => exact .inl ⟨0, a, rfl, ha, fun j y hj hy => by
          cases j with
          | zero => omega
          | succ j => exact h y (List.mem_of_getElem? (by simpa using hy))⟩
      | false =>
        refine .inr fun x hx => ?_
        rcases List.mem_cons.1 hx with rfl | hx
        · exact ha
        · exact h x hx
def zV : Value := Value.mk 0 0 ByteArray.empty (Sl.mk [] (some [])) (Sl.mk [] (some [])) 0 ByteArray.empty false
def named (nm : ByteArray) : Field → Bool
  | ⟨n, _⟩ => seq n nm
abbrev BS := (Option X.Ex) × (Option X.Ex) × Int × Int × ByteArray × (List Value) × (Option (List Value)) × (List Field) × (Option (List Field)) × Int × ByteArray × Bool × Int
def mkB (i : Int) : BS := (none, none, 0, 0, ByteArray.empty, [], (some []), [], (some []), 0, ByteArray.empty, false, i)
def stB (p q : Option X.Ex) : Value → Int → BS
  | ⟨a1, a2, a3, ⟨a4, a5⟩, ⟨a6, a7⟩, a8, a9, a10⟩, i => (p, q, a1, a2, a3, a4, a5, a6, a7, a8, a9, a10, i)
theorem w64_pred {j : Nat} (h : j < 9223372036854775807) : w64 ((j : Int) - 1) = (j : Int) - 1 := w64_id (by omega) (by omega)
theorem getB_no (fu : Nat) (nm : ByteArray) (l : List Field) (j : Nat) (f : Field) (hj : l[j]? = some f) (hl : l.length < 9223372036854775807) (hn : named nm f = false) : P71x1_s0 fu nm l (mkB j) = some (.inl (mkB ((j : Int) - 1))) := by
  have hlt := (List.getElem?_eq_some_iff.1 hj).1
  obtain ⟨n, b1, b2, b3, ⟨b4, b5⟩, ⟨b6, b7⟩, b8, b9, b10⟩ := f
  have hn' : seq n nm = false := hn
  have h0 : decide ((0 : Int) ≤ (j : Int)) = true := by simp
  have hc : P118x1 fu j (Field.mk n (Value.mk b1 b2 b3 (Sl.mk b4 b5) (Sl.mk b6 b7) b8 b9 b10)) nm none none (Value.mk 0 0 ByteArray.empty (Sl.mk [] (some [])) (Sl.mk [] (some [])) 0 ByteArray.empty false) = some (true, none, none, zV) := by
    unfold P118x1
    dsimp only
    rw [hn']
    rfl
  unfold P71x1_s0 mkB
  dsimp only
  rw [h0, idx_nat, hj]
  dsimp only [cond_true, Option.bind_some]
  rw [hc]
  dsimp only [Option.bind_some, zV, Bool.not_true, cond_false]
  rw [w64_pred (by omega)]
  rfl
theorem getB_yes (fu : Nat) (nm : ByteArray) (l : List Field) (j : Nat) (n : ByteArray) (v t : Value) (hj : l[j]? = some (Field.mk n v)) (hn : seq n nm = true) (ht : P26 fu v = some t) : P71x1_s0 fu nm l (mkB j) = some (.inr (.inr (stB (some .ret) (some .ret) t j))) := by
  obtain ⟨b1, b2, b3, ⟨b4, b5⟩, ⟨b6, b7⟩, b8, b9, b10⟩ := v
  obtain ⟨t1, t2, t3, ⟨t4, t5⟩, ⟨t6, t7⟩, t8, t9, t10⟩ := t
  have h0 : decide ((0 : Int) ≤ (j : Int)) = true := by simp
  have hr : P117x1 fu (Value.mk b1 b2 b3 (Sl.mk b4 b5) (Sl.mk b6 b7) b8 b9 b10) none (Value.mk 0 0 ByteArray.empty (Sl.mk [] (some [])) (Sl.mk [] (some [])) 0 ByteArray.empty false) = some (false, some .ret, Value.mk t1 t2 t3 (Sl.mk t4 t5) (Sl.mk t6 t7) t8 t9 t10) := by
    unfold P117x1
    dsimp only
    rw [ht]
    rfl
  have hc : P118x1 fu j (Field.mk n (Value.mk b1 b2 b3 (Sl.mk b4 b5) (Sl.mk b6 b7) b8 b9 b10)) nm none none (Value.mk 0 0 ByteArray.empty (Sl.mk [] (some [])) (Sl.mk [] (some [])) 0 ByteArray.empty false) = some (false, some .ret, some .ret, Value.mk t1 t2 t3 (Sl.mk t4 t5) (Sl.mk t6 t7) t8 t9 t10) := by
    unfold P118x1
    dsimp only
    rw [hn, cond_true, hr]
    rfl
  unfold P71x1_s0 mkB
  dsimp only
  rw [h0, idx_nat, hj]
  dsimp only [cond_true, Option.bind_some]
  rw [hc]
  rfl
theorem getB_end (fu : Nat) (nm : ByteArray) (l : List Field) : P71x1_s0 fu nm l (mkB (-1)) = some (.inr (.inl (stB none none zV (-1)))) := by
  unfold P71x1_s0 mkB
  rfl
theorem get_none {fu : Nat} {nm : ByteArray} {l : List Field} {x : Option (List Field)} (hl : l.length ≤ 8796093022208) (h : ∀ f ∈ l, named nm f = false) : P9 fu ⟨l, x⟩ nm = some zV := by
  have hw : w64 (ln l - 1) = (l.length : Int) - 1 := w64_id (by simp only [ln]; omega) (by simp only [ln]; omega)
  have hb := back_none (f := P71x1_s0 fu nm l) mkB (n := l.length) (getB_end fu nm l) (fun j hj => by
    obtain ⟨f, hf⟩ : ∃ f, l[j]? = some f := ⟨_, List.getElem?_eq_getElem hj⟩
    exact getB_no fu nm l j f hf (by omega) (h f (List.mem_of_getElem? hf)))
  have h71 : P71x1 fu (Sl.mk l x) nm none none (Value.mk 0 0 ByteArray.empty (Sl.mk [] (some [])) (Sl.mk [] (some [])) 0 ByteArray.empty false) = some (none, none, zV) := by
    unfold P71x1
    dsimp only
    rw [hw]
    rw [show ((none, none, 0, 0, ByteArray.empty, [], (some []), [], (some []), 0, ByteArray.empty, false, (l.length : Int) - 1) : BS) = mkB ((l.length : Int) - 1) from rfl, hb]
    rfl
  unfold P9 P52x1
  dsimp only
  rw [h71]
  rfl
theorem get_some {fu : Nat} {nm n : ByteArray} {l : List Field} {x : Option (List Field)} {i : Nat} {v t : Value} (hl : l.length ≤ 8796093022208) (hi : l[i]? = some (Field.mk n v)) (hn : seq n nm = true) (ht : P26 fu v = some t)
    (h : ∀ (j : Nat) y, i < j → l[j]? = some y → named nm y = false) : P9 fu ⟨l, x⟩ nm = some t := by
  have hlt := (List.getElem?_eq_some_iff.1 hi).1
  have hw : w64 (ln l - 1) = (l.length : Int) - 1 := w64_id (by simp only [ln]; omega) (by simp only [ln]; omega)
  have hb := back_found (f := P71x1_s0 fu nm l) mkB (n := l.length) hlt (getB_yes fu nm l i n v t hi hn ht) (fun j hj hj2 => by
    obtain ⟨f, hf⟩ : ∃ f, l[j]? = some f := ⟨_, List.getElem?_eq_getElem hj2⟩
    exact getB_no fu nm l j f hf (by omega) (h j f hj hf))
  have h71 : P71x1 fu (Sl.mk l x) nm none none (Value.mk 0 0 ByteArray.empty (Sl.mk [] (some [])) (Sl.mk [] (some [])) 0 ByteArray.empty false) = some (some .ret, some .ret, t) := by
    unfold P71x1
    dsimp only
    rw [hw]
    rw [show ((none, none, 0, 0, ByteArray.empty, [], (some []), [], (some []), 0, ByteArray.empty, false, (l.length : Int) - 1) : BS) = mkB ((l.length : Int) - 1) from rfl, hb]
    obtain ⟨t1, t2, t3, ⟨t4, t5⟩, ⟨t6, t7⟩, t8, t9, t10⟩ := t
    rfl
  obtain ⟨t1, t2, t3, ⟨t4, t5⟩, ⟨t6, t7⟩, t8, t9, t10⟩ := t
  unfold P9 P52x1
  dsimp only
  rw [h71]
  rfl
end Go.Proofs.Ytipkggkbldgmjaa
