/- tapestrylaw17.TaleTurns: notes of other kinds can stand anywhere: on plain data. -/
import Derived.Test.YtamllgdaepjcfaaTTL1
import Derived.Test.YtamllgdaepjcfaaTTO2
import Derived.Test.YtamllgdaepjcfaaTTV
namespace Go.Proofs.Ytamllgdaepjcfaa
open Go Go.X
set_option linter.unusedVariables false
set_option linter.unusedSimpArgs false
set_option maxRecDepth 100000
theorem call_of {f : Nat} {args : List PV} {st : St} {r : PV × St} (h : Sat ((real (call S)).cf f args st) (fun q => q = r)) : call S f args st = some r := by
  obtain ⟨_, h1, rfl⟩ := h; exact h1
theorem ofI_len (l : List Note) (id : Int) : (ofI l id).length ≤ l.length := List.length_filter_le _ _
/-- Whether notes can stand is a question of the stories alone. -/
theorem bad_st : ∀ (r p p' : List Note), (∀ id, stS (ofI p id) = stS (ofI p' id)) → bad p r = bad p' r
  | [], p, p', _ => rfl
  | y :: r, p, p', h => by
    have h1 : can (ofI p y.Inst) y = can (ofI p' y.Inst) y := by unfold can; rw [h]
    have h2 := bad_st r (p ++ [y]) (p' ++ [y]) (fun id => by
      rw [ofI_snoc, ofI_snoc]
      by_cases hy : y.Inst = id
      · rw [if_pos hy, if_pos hy, stS_snoc, stS_snoc, h]
      · rw [if_neg hy, if_neg hy, h])
    simp only [bad, h1, h2]
def free (x : Note) : Prop := x.Kind < 1 ∨ 6 < x.Kind
theorem G_free {x : Note} (h : free x) (s : Story) : G x s = (true, s) := by
  unfold free at h
  unfold G
  dsimp only
  rw [if_neg (by omega), if_neg (by omega), if_neg (by omega), if_neg (by omega), if_neg (by omega), if_neg (by omega)]
theorem bad_ins {x : Note} (hx : free x) (b : List Note) : ∀ (a p : List Note), bad p (a ++ x :: b) = (match bad p (a ++ b) with | none => none | some k => if k < a.length then some k else some (k + 1))
  | [], p => by
    have h1 : can (ofI p x.Inst) x = true := by unfold can; rw [G_free hx]
    have h2 := bad_st b (p ++ [x]) p (fun id => by
      rw [ofI_snoc]
      split
      · rw [stS_snoc, G_free hx]
      · rfl)
    simp only [List.nil_append, bad, h1, if_true, h2]
    cases bad p b <;> simp
  | y :: a, p => by
    have ih := bad_ins hx b a (p ++ [y])
    simp only [List.cons_append, bad]
    cases can (ofI p y.Inst) y with
    | false => simp
    | true =>
      simp only [if_true, ih]
      cases bad (p ++ [y]) (a ++ b) with
      | none => rfl
      | some k =>
        simp only [Option.map_some]
        by_cases hk : k < a.length
        · simp [hk]
        · simp [hk]
theorem chk_ins {x : Note} (hx : free x) (a b : List Note) : (chk (a ++ x :: b)).2 = (chk (a ++ b)).2 ∧ (chk (a ++ x :: b)).1 = if (chk (a ++ b)).2 = 0 ∨ (a.length : Int) ≤ (chk (a ++ b)).1 then (chk (a ++ b)).1 + 1 else (chk (a ++ b)).1 := by
  unfold chk
  rw [bad_ins hx b a []]
  cases bad [] (a ++ b) with
  | none => simp [ln]; omega
  | some k =>
    by_cases hk : k < a.length
    · have : ¬ (a.length : Int) ≤ (k : Int) := by omega
      simp [hk, this]
    · have : (a.length : Int) ≤ (k : Int) := by omega
      simp [hk, this]
theorem same_self (fu : Nat) (l : List Note) (x y : Option (List Note)) (hl : l.length ≤ 1048576) : P50 fu ⟨l, x⟩ ⟨l, y⟩ = some true := by
  unfold P50
  dsimp only
  have h := wl_each (f := P50_s0 fu l l) l (fun (_ : Unit) _ => ()) (fun _ k => (k : Int)) (fun _ _ => True) () trivial (fun k hk s _ => by
    refine ⟨?_, trivial⟩
    unfold P50_s0
    dsimp only
    rw [lt_true hk, idx_lt l k hk, w64_succ (by omega)]
    generalize l[k] = n
    obtain ⟨a, b, c, d, e⟩ := n
    simp [seq_self]) (b := .inl (l.length : Int)) (fun s _ _ => by
    unfold P50_s0
    dsimp only
    rw [lt_false]
    rfl)
  have h : wl (P50_s0 fu l l) 0 = some (.inl (l.length : Int)) := h
  rw [h]
  simp
theorem room_n (n : Nat) (h : n ≤ 1000) : room 56 (n : Int) = true := room_small (m := 1000) h (by omega) (by omega) (by omega)
theorem next_ne {n : Int} (h1 : -9223372036854775808 ≤ n) (h2 : n ≤ 9223372036854775807) : w64 (n + 1) ≠ n := by
  unfold w64
  rw [IntKind.wrap_i64]
  omega
/-- A beginning put behind rows, or nothing at all. -/
theorem put_all (s q : List Note) (h : (s ++ q).length ≤ 1000) : (bif ln q == 0 then some s else (bif room 56 (ln (s ++ q)) then some (s ++ q) else none)) = some (s ++ q) := by
  cases q with
  | nil => simp [ln]
  | cons y q =>
    have h1 : (ln (y :: q) == 0) = false := by simp [ln]; omega
    have h2 : room 56 (ln (s ++ y :: q)) = true := by rw [ln_eq]; exact room_n _ h
    rw [h1, h2]
    rfl
theorem tail_eq (l : List Note) (hd : List Note) (i : Nat) (hi : i ≤ l.length) : cut (l ++ hd) (i : Int) (ln l) = l.drop i := by
  simp [cut, ln, List.take_append_of_le_length]
theorem core (fu : Nat) (l : List Note) (x : Option (List Note)) (hl : l.length ≤ 300) (i : Nat) (hi : i ≤ l.length) (k id : Int) (hf : k < 1 ∨ 6 < k) (h1 : -9223372036854775808 ≤ id) (h2 : id ≤ 9223372036854775807) :
    ((P35 fu (Sl.mk l x)).bind fun ⟨r53, r54⟩ =>
      (P35 fu (Sl.mk (l.take i ++ (Note.mk k id ByteArray.empty false ByteArray.empty) :: l.drop i) none)).bind fun ⟨r56, r57⟩ =>
        (bif !(r54 == 0) then some (decide ((i : Int) ≤ r53)) else some true).bind fun (q : Bool) =>
          (bif q then some (w64 (r53 + 1)) else some r53).bind fun (q : Int) =>
            (bif r57 == r54 then
              bif r56 == q then
                (P47 fu (Sl.mk (l.take i ++ (Note.mk k id ByteArray.empty false ByteArray.empty) :: l.drop i) none) id).bind fun ⟨r65_l, r65_x⟩ =>
                  (P47 fu (Sl.mk l x) id).bind fun ⟨r69_l, r69_x⟩ =>
                    bif (ln r65_l) == (w64 ((ln r69_l) + 1)) then
                      (P47 fu (Sl.mk (l.take i ++ (Note.mk k id ByteArray.empty false ByteArray.empty) :: l.drop i) none) (w64 (id + 1))).bind fun ⟨r74_l, r74_x⟩ =>
                        (P47 fu (Sl.mk l x) (w64 (id + 1))).bind fun ⟨r76_l, r76_x⟩ =>
                          (P50 fu (Sl.mk r74_l r74_x) (Sl.mk r76_l r76_x)).bind fun r78 =>
                            some r78
                    else some false
              else some false
            else some false).bind fun (q : Bool) => some q) = some true := by
  have hsp : l.take i ++ l.drop i = l := List.take_append_drop i l
  have hlt : (l.take i).length = i := by simp; omega
  obtain ⟨e2, e1⟩ := chk_ins (x := ⟨k, id, ByteArray.empty, false, ByteArray.empty⟩) hf (l.take i) (l.drop i)
  rw [hsp, hlt] at e1
  rw [hsp] at e2
  have hlen : (l.take i ++ (Note.mk k id ByteArray.empty false ByteArray.empty) :: l.drop i).length = l.length + 1 := by simp; omega
  have hof : ∀ j, ofI (l.take i ++ (Note.mk k id ByteArray.empty false ByteArray.empty) :: l.drop i) j = if id = j then ofI (l.take i) j ++ (Note.mk k id ByteArray.empty false ByteArray.empty) :: ofI (l.drop i) j else ofI l j := by
    intro j
    by_cases hj : id = j
    · simp [ofI, hj]
    · rw [if_neg hj]
      simp [ofI, hj]
      rw [← List.filter_append, hsp]
  have hof1 : ofI l id = ofI (l.take i) id ++ ofI (l.drop i) id := by
    simp only [ofI]
    rw [← List.filter_append, hsp]
  generalize hm : l.take i ++ (Note.mk k id ByteArray.empty false ByteArray.empty) :: l.drop i = m at *
  rw [check_ok fu l x (by omega), check_ok fu m none (by omega)]
  simp only [Option.bind_some]
  obtain ⟨c1, c2, c3, c4⟩ := chk_fst l
  have hw : w64 ((chk l).1 + 1) = (chk l).1 + 1 := w64_id (by omega) (by rw [ln_eq] at c2; omega)
  have hn : (bif !((chk l).2 == 0) then some (decide ((i : Int) ≤ (chk l).1)) else some true) = some (decide ((chk l).2 = 0 ∨ (i : Int) ≤ (chk l).1)) := by
    by_cases h0 : (chk l).2 = 0
    · simp [h0]
    · have : ((chk l).2 == 0) = false := by simp [h0]
      simp [this, h0]
  rw [hn]
  simp only [Option.bind_some]
  have hq : (bif decide ((chk l).2 = 0 ∨ (i : Int) ≤ (chk l).1) then some (w64 ((chk l).1 + 1)) else some (chk l).1) = some (chk m).1 := by
    rw [e1, hw]
    by_cases h0 : (chk l).2 = 0 ∨ (i : Int) ≤ (chk l).1
    · rw [decide_eq_true h0, if_pos h0]; rfl
    · rw [decide_eq_false h0, if_neg h0]; rfl
  rw [hq]
  simp only [Option.bind_some, e2, beq_self_eq_true, cond_true]
  have ne := next_ne h1 h2
  rw [of_ok fu m none id (by omega), of_ok fu l x id (by omega)]
  simp only [Option.bind_some]
  rw [of_ok fu m none (w64 (id + 1)) (by omega), of_ok fu l x (w64 (id + 1)) (by omega)]
  simp only [Option.bind_some]
  have l1 := ofI_len l id
  have hc : (ln (ofI m id) == w64 (ln (ofI l id) + 1)) = true := by
    have e3 := hof id
    rw [if_pos rfl] at e3
    rw [e3, hof1]
    rw [hof1] at l1
    simp only [ln_eq, List.length_append, List.length_cons] at l1 ⊢
    rw [w64_id (by omega) (by omega)]
    simp
    omega
  rw [hc, hof (w64 (id + 1)), if_neg (fun e => ne e.symm)]
  have l2 := ofI_len l (w64 (id + 1))
  rw [same_self fu _ none none (by omega)]
  rfl
theorem P16_true (fu : Nat) (l : List Note) (x : Option (List Note)) (a k id : Int) (ha : 0 ≤ a) (ha2 : a ≤ 65535) (h1 : -9223372036854775808 ≤ id) (h2 : id ≤ 9223372036854775807) : P16 fu ⟨l, x⟩ a k id = some true := by
  have hkind : (bif decide (1 ≤ k) then some (decide (k ≤ 6)) else some false) = some (decide (1 ≤ k ∧ k ≤ 6)) := by
    by_cases hk : 1 ≤ k <;> simp [hk]
  unfold P16
  by_cases hl : 300 < ln l
  · cases x <;> (dsimp only; rw [alive_ok]; simp [hl])
  · have hl2 : l.length ≤ 300 := by simp [ln] at hl; omega
    have e0 : w64 (ln l + 1) = ((l.length + 1 : Nat) : Int) := w64_succ (by omega)
    have e00 : (((l.length + 1 : Nat) : Int) == 0) = false := by simp; omega
    have ea : w64 a = a := w64_id (by omega) (by omega)
    obtain ⟨i, hi, hil⟩ : ∃ i : Nat, Int.tmod a ((l.length + 1 : Nat) : Int) = (i : Int) ∧ i ≤ l.length := by
      have g1 := Int.tmod_nonneg ((l.length + 1 : Nat) : Int) ha
      have g2 := Int.tmod_lt_of_pos a (b := ((l.length + 1 : Nat) : Int)) (by omega)
      exact ⟨(Int.tmod a ((l.length + 1 : Nat) : Int)).toNat, by omega, by omega⟩
    have hlt : (l.take i).length = i := by simp; omega
    have d0 : decide ((0 : Int) ≤ (i : Int)) = true := decide_eq_true (by omega)
    by_cases hk : 1 ≤ k ∧ k ≤ 6
    · cases x <;> (dsimp only; rw [alive_ok]; simp [hl, hkind, hk])
    · cases x with
      | none =>
        dsimp only
        rw [alive_ok]
        simp only [Option.bind_some, Bool.not_true, Bool.not_false, cond_true, hl, decide_false, cond_false, hkind, hk, e0, e00, ea, hi]
        have d1 : decide ((i : Int) ≤ ln l) = true := decide_eq_true (by rw [ln_eq]; omega)
        have d2 : decide (ln l ≤ ln l) = true := decide_eq_true (Int.le_refl _)
        have c1 : cut l 0 (i : Int) = l.take i := by simp [cut]
        have c2 : cut l (i : Int) (ln l) = l.drop i := by simpa using tail_eq l [] i hil
        rw [c1, c2, d0, d1, d2]
        have p1 := put_all [] (l.take i) (by simp; omega)
        rw [show decide ((0 : Nat) ≤ 0) = true from rfl]
        simp only [cond_true] at p1 ⊢
        rw [p1, Option.bind_some]
        simp only [P49, Option.bind_some, List.nil_append]
        rw [show room 56 (ln (l.take i ++ [Note.mk k id ByteArray.empty false ByteArray.empty])) = true from by rw [ln_eq]; exact room_n _ (by simp; omega)]
        simp only [cond_true]
        rw [put_all (l.take i ++ [Note.mk k id ByteArray.empty false ByteArray.empty]) (l.drop i) (by simp; omega), Option.bind_some]
        have happ : l.take i ++ [Note.mk k id ByteArray.empty false ByteArray.empty] ++ l.drop i = l.take i ++ (Note.mk k id ByteArray.empty false ByteArray.empty) :: l.drop i := by simp
        rw [happ]
        exact core fu l none hl2 i hil k id (by omega) h1 h2
      | some hd =>
        dsimp only
        rw [alive_ok]
        simp only [Option.bind_some, Bool.not_true, Bool.not_false, cond_true, hl, decide_false, cond_false, hkind, hk, e0, e00, ea, hi]
        have d1 : decide ((i : Int) ≤ ln l) = true := decide_eq_true (by rw [ln_eq]; omega)
        have d3 : decide ((i : Int) ≤ ln (l ++ hd)) = true := decide_eq_true (by rw [ln_eq, List.length_append]; omega)
        have d2 : decide (ln l ≤ ln (l ++ hd)) = true := decide_eq_true (by rw [ln_eq, ln_eq, List.length_append]; omega)
        have c1 : cut (l ++ hd) 0 (i : Int) = l.take i := by simp [cut, List.take_append_of_le_length hil]
        have c2 : cut (l ++ hd) (i : Int) (ln l) = l.drop i := tail_eq l hd i hil
        rw [c1, c2, d0, d1, d2, d3]
        have p1 := put_all [] (l.take i) (by simp; omega)
        rw [show decide ((0 : Nat) ≤ 0) = true from rfl]
        simp only [cond_true] at p1 ⊢
        rw [p1, Option.bind_some]
        simp only [P49, Option.bind_some, List.nil_append]
        rw [show room 56 (ln (l.take i ++ [Note.mk k id ByteArray.empty false ByteArray.empty])) = true from by rw [ln_eq]; exact room_n _ (by simp; omega)]
        simp only [cond_true]
        rw [put_all (l.take i ++ [Note.mk k id ByteArray.empty false ByteArray.empty]) (l.drop i) (by simp; omega), Option.bind_some]
        have happ : l.take i ++ [Note.mk k id ByteArray.empty false ByteArray.empty] ++ l.drop i = l.take i ++ (Note.mk k id ByteArray.empty false ByteArray.empty) :: l.drop i := by simp
        rw [happ]
        exact core fu l (some hd) hl2 i hil k id (by omega) h1 h2
theorem rng {k : IntKind} {n : Int} {t : Nat} (ht : tab.ty t = .int k) (h : WT tab t [D.int k n]) : k.min ≤ n ∧ n ≤ k.max := by
  cases h with
  | int h2 h3 => simpa [Lit.wf] using h3
  | agg h2 h3 h4 => rw [ht] at h2; cases h2
theorem law16 (ls : List (List D)) (h : WTs tab [45, 72, 5, 3] ls) : call S 16 (argsPV tab [45, 72, 5, 3] ls) [] = some (.d (.bool true), []) := by
  obtain ⟨l1, _, rfl, h1, l2, _, rfl, h2, l3, _, rfl, h3, l4, _, rfl, h4, rfl⟩ := h
  obtain ⟨⟨l, x⟩, rfl⟩ := wt_45 h1
  obtain ⟨a, rfl⟩ := wt_72 h2
  obtain ⟨k, rfl⟩ := wt_5 h3
  obtain ⟨id, rfl⟩ := wt_3 h4
  have r1 := rng ty_72 h2
  have r2 := rng ty_3 h4
  have m1 : IntKind.u16.min = 0 := rfl
  have m2 : IntKind.u16.max = 65535 := rfl
  have m3 : IntKind.i64.min = -9223372036854775808 := rfl
  have m4 : IntKind.i64.max = 9223372036854775807 := rfl
  exact call_of (ok16 (fu := 0) rfl rfl (P16_true 0 l x a k id (by omega) (by omega) (by omega) (by omega)) rfl [])
end Go.Proofs.Ytamllgdaepjcfaa
