/- tapestrylaw17.TaleApart: whether a trace can be is told by each instance's notes alone: on plain data. -/
import Derived.Test.YtamllgdaepjcfaaTAL1
import Derived.Test.YtamllgdaepjcfaaTAO2
import Derived.Test.YtamllgdaepjcfaaTAV
namespace Go.Proofs.Ytamllgdaepjcfaa
open Go Go.X
set_option linter.unusedVariables false
set_option linter.unusedSimpArgs false
set_option maxRecDepth 100000
theorem call_of {f : Nat} {args : List PV} {st : St} {r : PV × St} (h : Sat ((real (call S)).cf f args st) (fun q => q = r)) : call S f args st = some r := by
  obtain ⟨_, h1, rfl⟩ := h; exact h1
theorem chk_ok (l : List Note) : (chk l).2 = 0 ↔ bad [] l = none := by
  unfold chk
  cases bad [] l <;> simp
theorem chk_same {l m : List Note} (h : ∀ id, ofI m id = ofI l id) : (chk m).2 = (chk l).2 := by
  have h1 : (chk m).2 = 0 ↔ (chk l).2 = 0 := by
    rw [chk_ok, chk_ok, bad_iff, bad_iff]
    constructor
    · intro g id; rw [← h id]; exact g id
    · intro g id; rw [h id]; exact g id
  have h2 := (chk_fst l).2.2.1
  have h3 := (chk_fst m).2.2.1
  rcases h2 with h2 | h2 <;> rcases h3 with h3 | h3
  · rw [h2, h3]
  · have := h1.2 h2; omega
  · have := h1.1 h3; omega
  · rw [h2, h3]
theorem ofI_len (l : List Note) (id : Int) : (ofI l id).length ≤ l.length := List.length_filter_le _ _
def okI (l : List Note) (x : Note) : Bool := (chk (ofI l x.Inst)).2 == 0
theorem loop0 (fu : Nat) (l : List Note) (x : Option (List Note)) (hl : l.length ≤ 300) : wl (P14_s0 fu l x) (true, 0) = some (l.all (okI l), (l.length : Int)) := by
  have h := wl_each (f := P14_s0 fu l x) l (fun s y => s && okI l y) (fun s k => (s, (k : Int))) (fun _ _ => True) true trivial (fun k hk s _ => by
    refine ⟨?_, trivial⟩
    unfold P14_s0
    dsimp only
    rw [lt_true hk, idx_lt l k hk, w64_succ (by omega)]
    generalize l[k] = n
    obtain ⟨a, b, c, d, e⟩ := n
    simp only [Option.bind_some, cond_true]
    rw [of_ok fu l x b (by omega)]
    simp only [Option.bind_some]
    have := ofI_len l b
    rw [check_ok fu (ofI l b) none (by omega)]
    simp only [Option.bind_some, okI]
    cases s <;> rfl) (b := (l.all (okI l), (l.length : Int))) (fun s _ hs => by
    unfold P14_s0
    dsimp only
    rw [lt_false, hs]
    have : ∀ (q : List Note) (a : Bool), q.foldl (fun s y => s && okI l y) a = (a && q.all (okI l)) := by
      intro q
      induction q with
      | nil => intro a; simp
      | cons y q ih => intro a; simp [ih, Bool.and_assoc]
    rw [this]
    rfl)
  exact h
theorem all_ok (l : List Note) : l.all (okI l) = ((chk l).2 == 0) := by
  have : l.all (okI l) = true ↔ ((chk l).2 == 0) = true := by
    rw [List.all_eq_true]
    simp only [okI, beq_iff_eq]
    rw [chk_ok, bad_iff]
    constructor
    · intro h id
      by_cases hid : ∃ y ∈ l, y.Inst = id
      · obtain ⟨y, hy, rfl⟩ := hid
        exact (bad_one l y.Inst).1 ((chk_ok _).1 (h y hy))
      · have : ofI l id = [] := by
          simp only [ofI, List.filter_eq_nil_iff]
          intro y hy
          simp only [beq_iff_eq]
          exact fun e => hid ⟨y, hy, e⟩
        rw [this]
        exact valid_nil
    · intro h y hy
      exact (chk_ok _).2 ((bad_one l y.Inst).2 (h y.Inst))
  cases h1 : l.all (okI l) <;> cases h2 : ((chk l).2 == 0) <;> simp_all
theorem step1 (fu : Nat) (l : List Note) (hl : l.length ≤ 300) (k : Nat) (hk : k + 1 < l.length) : P14_s1 fu l (chk l).2 ((k + 1 : Nat) : Int) = some (.inl ((k + 1 + 1 : Nat) : Int)) := by
  have k0 : k < l.length := by omega
  have hm : w64 (((k + 1 : Nat) : Int) - 1) = (k : Int) := by rw [w64_id (by omega) (by omega)]; omega
  unfold P14_s1
  dsimp only
  rw [lt_true hk, idx_lt l (k + 1) hk, hm, idx_lt l k k0, w64_succ (by omega)]
  have hsplit : l = l.take k ++ l[k] :: l[k + 1] :: l.drop (k + 2) := by
    conv => lhs; rw [← List.take_append_drop k l, List.drop_eq_getElem_cons k0, List.drop_eq_getElem_cons hk]
  have hlk : (l.take k).length = k := by simp; omega
  revert hsplit
  generalize l[k] = a
  generalize l[k + 1] = b
  intro hsplit
  obtain ⟨a1, a2, a3, a4, a5⟩ := a
  obtain ⟨b1, b2, b3, b4, b5⟩ := b
  simp only [Option.bind_some, cond_true]
  have hln : (ln l == 0) = false := by rw [ln_eq]; simp only [beq_eq_false_iff_ne, ne_eq]; omega
  have hroom : room 56 (ln (([] : List Note) ++ l)) = true := by
    rw [ln_eq]
    exact room_small (m := 300) (by simp; omega) (by omega) (by omega) (by omega)
  rw [hln, hroom]
  simp only [cond_true, cond_false, Option.bind_some]
  cases hne : (b2 == a2) with
  | true => simp
  | false =>
    simp only [Bool.not_false, cond_true, Option.bind_some]
    by_cases h40 : ((k + 1 : Nat) : Int) < 40
    · simp only [h40, decide_true, cond_true, List.nil_append]
      rw [idx_lt l (k + 1) hk]
      have hset : ((l.set (k + 1) ⟨a1, a2, a3, a4, a5⟩).set k ⟨b1, b2, b3, b4, b5⟩) = l.take k ++ ⟨b1, b2, b3, b4, b5⟩ :: ⟨a1, a2, a3, a4, a5⟩ :: l.drop (k + 2) := by
        conv => lhs; rw [hsplit]
        rw [List.set_append_right _ _ (by rw [hlk]; omega), List.set_append_right _ _ (by rw [hlk]; omega), hlk]
        have e1 : k + 1 - k = 1 := by omega
        have e2 : k - k = 0 := by omega
        rw [e1, e2]
        rfl
      have k2 : k < (l.set (k + 1) (Note.mk a1 a2 a3 a4 a5)).length := by simp; omega
      have h2 : b2 ≠ a2 := by simpa using hne
      have hof : ∀ id, ofI (l.take k ++ ⟨b1, b2, b3, b4, b5⟩ :: ⟨a1, a2, a3, a4, a5⟩ :: l.drop (k + 2)) id = ofI l id := by
        intro id
        conv => rhs; rw [hsplit]
        simp only [ofI, List.filter_append, List.filter_cons]
        by_cases q1 : b2 = id
        · subst q1
          have : (a2 == b2) = false := by simp; exact fun e => h2 e.symm
          simp [this]
        · have : (b2 == id) = false := by simp [q1]
          simp [this]
      simp only [Int.toNat_natCast, hset, Option.bind_some]
      rw [show idx (l.set (k + 1) (Note.mk a1 a2 a3 a4 a5)) (k : Int) = some (l.set (k + 1) (Note.mk a1 a2 a3 a4 a5))[k] from idx_lt _ k k2]
      have hlen : (l.take k ++ (⟨b1, b2, b3, b4, b5⟩ : Note) :: ⟨a1, a2, a3, a4, a5⟩ :: l.drop (k + 2)).length ≤ 9223372036854775807 := by
        simp; omega
      simp only [Option.bind_some, idx_lt l (k + 1) hk]
      rw [check_ok fu _ none hlen]
      simp only [Option.bind_some]
      rw [chk_same hof]
      generalize l[k + 1] = z
      generalize (l.set (k + 1) (Note.mk a1 a2 a3 a4 a5))[k] = y
      simp
    · simp only [h40, decide_false, cond_false, Option.bind_some]
theorem P14_true (fu : Nat) (l : List Note) (x : Option (List Note)) : P14 fu ⟨l, x⟩ = some true := by
  unfold P14
  dsimp only
  rw [alive_ok]
  simp only [Option.bind_some, Bool.not_true, Bool.not_false, cond_true]
  by_cases hl : 300 < ln l
  · simp [hl]
  · have hl2 : l.length ≤ 300 := by simp [ln] at hl; omega
    simp only [hl, decide_false, cond_false]
    rw [check_ok fu l x (by omega), Option.bind_some]
    rw [loop0 fu l x hl2, Option.bind_some]
    rw [all_ok]
    simp only [beq_self_eq_true, Bool.not_true, cond_false]
    have h1 : ∃ b, wl (P14_s1 fu l (chk l).2) 1 = some (.inl b) := by
      by_cases h0 : l.length = 0
      · refine ⟨1, wl_inr ?_⟩
        unfold P14_s1
        dsimp only
        have : decide ((1 : Int) < ln l) = false := decide_eq_false (by simp [ln]; omega)
        rw [this]
        rfl
      · have := wl_fold (f := P14_s1 fu l (chk l).2) (fun (s : Unit) (k : Nat) => ((k + 1 : Nat) : Int)) (l.length - 1) (fun _ => ()) (b := .inl (((l.length - 1) + 1 : Nat) : Int)) (fun k hk => step1 fu l hl2 k (by omega)) (by
          unfold P14_s1
          dsimp only
          have : decide ((((l.length - 1) + 1 : Nat) : Int) < ln l) = false := decide_eq_false (by simp [ln]; omega)
          rw [this]
          rfl)
        exact ⟨_, this⟩
    obtain ⟨b, hb⟩ := h1
    rw [hb]
    rfl
theorem law14 (ls : List (List D)) (h : WTs tab [45] ls) : call S 14 (argsPV tab [45] ls) [] = some (.d (.bool true), []) := by
  obtain ⟨l1, _, rfl, h1, rfl⟩ := h
  obtain ⟨⟨l, x⟩, rfl⟩ := wt_45 h1
  exact call_of (ok14 (fu := 0) rfl rfl (P14_true 0 l x) rfl [])
end Go.Proofs.Ytamllgdaepjcfaa
