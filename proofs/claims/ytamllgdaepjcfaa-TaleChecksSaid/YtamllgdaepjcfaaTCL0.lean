/- tale: what goes and Check compute, on plain data. -/
import Derived.Test.YtamllgdaepjcfaaTCH
import Derived.Test.YtamllgdaepjcfaaXQ
namespace Go.Proofs.Ytamllgdaepjcfaa
open Go Go.X
set_option linter.unusedVariables false
set_option linter.unusedSimpArgs false
set_option maxRecDepth 100000
theorem ba_eq (a b : ByteArray) : (a == b) = true ↔ a = b := by
  obtain ⟨x⟩ := a
  obtain ⟨y⟩ := b
  constructor
  · intro h
    have e : x = y := by simpa using (show (x == y) = true from h)
    rw [e]
  · intro h
    cases h
    show (x == x) = true
    simp
instance : LawfulBEq ByteArray where
  eq_of_beq h := (ba_eq _ _).1 h
  rfl := (ba_eq _ _).2 rfl
theorem run_beq (a b : Talerun) : (a == b) = true ↔ a = b := by
  obtain ⟨n, l⟩ := a
  obtain ⟨n', l'⟩ := b
  show (n == n' && (l == l' && true)) = true ↔ _
  simp
instance : LawfulBEq Talerun where
  eq_of_beq h := (run_beq _ _).1 h
  rfl := (run_beq _ _).2 rfl
instance : DecidableEq Talerun := fun a b => decidable_of_iff _ (run_beq a b)
/-- What a note makes of a story, and whether it can stand there. -/
def G (x : Note) (s : Story) : Bool × Story :=
  let r : Talerun := ⟨x.Name, x.Late⟩
  let on := (mget s.2 r).getD false
  if x.Kind = 1 then (!s.1.2.2, ((true, s.1.2.1, s.1.2.2), s.2))
  else if x.Kind = 2 then (s.1.1 && !s.1.2.1 && !s.1.2.2, ((s.1.1, true, s.1.2.2), s.2))
  else if x.Kind = 4 then (if 0 < s.2.length ∨ s.1.2.2 = true then (false, s) else (s.1.2.1, ((s.1.1, s.1.2.1, true), s.2)))
  else if x.Kind = 5 then (if on = true then (false, s) else (s.1.2.1 && !s.1.2.2, (s.1, mset s.2 r true)))
  else if x.Kind = 3 then (s.1.2.1 && !s.1.2.2, s)
  else if x.Kind = 6 then (on && s.1.2.1 && !s.1.2.2, (s.1, mrem s.2 r))
  else (true, s)
theorem goes_G (fu : Nat) (x : Note) (s : Story) : P58x1 fu x s.1 s.2 = some ((G x s).1, (G x s).2.1, (G x s).2.2) := by
  obtain ⟨k, id, nm, lt, tx⟩ := x
  obtain ⟨⟨ev, mo, le⟩, rs⟩ := s
  unfold P58x1 G
  dsimp only
  by_cases h1 : k = 1
  · simp [h1]
  have c1 : (k == 1) = false := by simp [h1]
  rw [c1, cond_false, if_neg h1]
  by_cases h2 : k = 2
  · subst h2; cases ev <;> cases mo <;> simp
  have c2 : (k == 2) = false := by simp [h2]
  rw [c2, cond_false, if_neg h2]
  by_cases h4 : k = 4
  · subst h4
    rw [if_pos rfl]
    by_cases hl : 0 < rs.length
    · have : decide (0 < ln rs) = true := decide_eq_true (by rw [ln_eq]; omega)
      simp [this, hl]
    · have : decide (0 < ln rs) = false := decide_eq_false (by rw [ln_eq]; omega)
      cases le <;> simp [this, hl]
  have c4 : (k == 4) = false := by simp [h4]
  rw [c4, cond_false, if_neg h4]
  by_cases h5 : k = 5
  · subst h5
    rw [if_pos rfl]
    cases hq : mget rs ⟨nm, lt⟩ with
    | none => cases mo <;> simp
    | some b => cases b <;> cases mo <;> simp
  have c5 : (k == 5) = false := by simp [h5]
  rw [c5, cond_false, if_neg h5]
  by_cases h3 : k = 3
  · subst h3
    rw [if_pos rfl]
    cases mo <;> simp
  have c3 : (k == 3) = false := by simp [h3]
  rw [c3, cond_false, if_neg h3]
  by_cases h6 : k = 6
  · subst h6
    rw [if_pos rfl]
    cases hq : mget rs ⟨nm, lt⟩ with
    | none => cases mo <;> simp
    | some b => cases b <;> cases mo <;> simp
  have c6 : (k == 6) = false := by simp [h6]
  rw [c6, cond_false, if_neg h6]
/-- A story of notes of one instance. -/
def dflt : Story := ((false, false, false), [])
def stS (h : List Note) : Story := h.foldl (fun s x => (G x s).2) dflt
theorem stS_snoc (h : List Note) (x : Note) : stS (h ++ [x]) = (G x (stS h)).2 := by simp [stS]
def can (h : List Note) (x : Note) : Bool := (G x (stS h)).1
def ofI (p : List Note) (id : Int) : List Note := p.filter (fun y => y.Inst == id)
theorem ofI_snoc (p : List Note) (x : Note) (id : Int) : ofI (p ++ [x]) id = if x.Inst = id then ofI p id ++ [x] else ofI p id := by
  by_cases h : x.Inst = id <;> simp [ofI, h]
/-- The first note that cannot stand where it stands. -/
def bad : List Note → List Note → Option Nat
  | _, [] => none
  | p, x :: r => if can (ofI p x.Inst) x then (bad (p ++ [x]) r).map (· + 1) else some 0
structure J (m : List (Int × Nat)) (ss : List Story) (p : List Note) : Prop where
  none_ : ∀ id, mget m id = none → ofI p id = []
  some_ : ∀ id j, mget m id = some j → ss[j]? = some (stS (ofI p id))
  inj : ∀ a b j, mget m a = some j → mget m b = some j → a = b
theorem check_loop (fu : Nat) (l : List Note) (hl : l.length ≤ 9223372036854775807) : ∀ (r p : List Note) (m : List (Int × Nat)) (ss : List Story), p ++ r = l → J m ss p →
    ∃ o, wl (P35_s0 fu l) (ss, m, (p.length : Int)) = some (match bad p r with | none => .inl o | some k => .inr (o.1, o.2.1, ((p.length + k : Nat) : Int)))
  | [], p, m, ss, hp, hJ => by
    simp only [List.append_nil] at hp
    subst hp
    refine ⟨(ss, m, (p.length : Int)), ?_⟩
    refine wl_inr ?_
    unfold P35_s0
    dsimp only
    rw [lt_false]
    rfl
  | x :: r, p, m, ss, hp, hJ => by
    have hk : p.length < l.length := by rw [← hp]; simp
    have hx : l[p.length] = x := by simp [← hp]
    have hbad : bad p (x :: r) = if can (ofI p x.Inst) x then (bad (p ++ [x]) r).map (· + 1) else some 0 := rfl
    have ih := check_loop fu l hl r (p ++ [x])
    have hlen : (p ++ [x]).length = p.length + 1 := by simp
    have step : ∀ (m' : List (Int × Nat)) (ss' : List Story), J m' ss' (p ++ [x]) →
        (P35_s0 fu l (ss, m, (p.length : Int)) = some (bif !(can (ofI p x.Inst) x) then .inr (.inr (ss', m', (p.length : Int))) else .inl (ss', m', ((p.length + 1 : Nat) : Int)))) →
        ∃ o, wl (P35_s0 fu l) (ss, m, (p.length : Int)) = some (match bad p (x :: r) with | none => .inl o | some k => .inr (o.1, o.2.1, ((p.length + k : Nat) : Int))) := by
      intro m' ss' hJ' hs
      rw [hbad]
      cases hc : can (ofI p x.Inst) x with
      | false =>
        rw [hc] at hs
        exact ⟨(ss', m', 0), wl_inr hs⟩
      | true =>
        rw [hc] at hs
        obtain ⟨o, ho⟩ := ih m' ss' (by simpa using hp) hJ'
        refine ⟨o, ?_⟩
        rw [wl_inl hs, ← hlen, ho]
        cases bad (p ++ [x]) r with
        | none => rfl
        | some k => simp; omega
    unfold P35_s0 at step
    dsimp only at step
    rw [lt_true hk, idx_lt l p.length hk, hx, w64_succ (by omega)] at step
    simp only [cond_true, Option.bind_some] at step
    unfold can at step
    cases hq : mget m x.Inst with
    | none =>
      have h0 := hJ.none_ _ hq
      have hg := goes_G fu x dflt
      have hg : P58x1 fu x (false, false, false) [] = _ := hg
      rw [hq, h0] at step
      dsimp only at step
      rw [hg] at step
      simp only [Option.bind_some] at step
      refine step (mset m x.Inst ss.length) (ss ++ [(G x dflt).2]) ⟨fun id hn => ?_, fun id j hs => ?_, fun a b j ha hb => ?_⟩ ?_
      · rw [mget_mset'] at hn
        split at hn
        · cases hn
        · rename_i hne
          rw [ofI_snoc, if_neg (fun e => hne e.symm)]
          exact hJ.none_ id hn
      · rw [mget_mset'] at hs
        split at hs
        · rename_i he
          cases hs
          subst he
          rw [ofI_snoc, if_pos rfl, h0]
          simp [stS]
        · rename_i hne
          rw [ofI_snoc, if_neg (fun e => hne e.symm)]
          have := hJ.some_ id j hs
          rw [List.getElem?_append_left (List.getElem?_eq_some_iff.1 this).1]
          exact this
      · rw [mget_mset'] at ha hb
        split at ha
        · rename_i e1
          cases ha
          split at hb
          · rename_i e2; rw [e1, e2]
          · have := (List.getElem?_eq_some_iff.1 (hJ.some_ b _ hb)).1
            omega
        · split at hb
          · cases hb
            have := (List.getElem?_eq_some_iff.1 (hJ.some_ a _ ha)).1
            omega
          · exact hJ.inj a b j ha hb
      · show (bif !(G x (stS [])).1 then _ else _) = _
        have : stS [] = dflt := rfl
        rw [this]
        cases (G x dflt).1 <;> rfl
    | some j =>
      have hs := hJ.some_ _ _ hq
      have hg := goes_G fu x (stS (ofI p x.Inst))
      rw [hq] at step
      dsimp only at step
      rw [hs] at step
      simp only [Option.bind_some] at step
      rw [hg] at step
      simp only [Option.bind_some] at step
      have hj := (List.getElem?_eq_some_iff.1 hs).1
      refine step m (ss.set j (G x (stS (ofI p x.Inst))).2) ⟨fun id hn => ?_, fun id j' hs' => ?_, hJ.inj⟩ ?_
      · rw [ofI_snoc]
        have h1 := hJ.none_ id hn
        by_cases he : x.Inst = id
        · subst he; rw [hq] at hn; cases hn
        · rw [if_neg he]; exact h1
      · rw [ofI_snoc]
        by_cases he : x.Inst = id
        · subst he
          rw [hq] at hs'; cases hs'
          rw [if_pos rfl, stS_snoc]
          exact List.getElem?_set_self hj
        · rw [if_neg he]
          have hne : j ≠ j' := fun e => by subst e; exact he (hJ.inj _ _ _ hq hs')
          rw [List.getElem?_set_ne hne]
          exact hJ.some_ id j' hs'
      · cases (G x (stS (ofI p x.Inst))).1 <;> rfl
/-- What Check tells. -/
def chk (l : List Note) : Int × Int := match bad [] l with | none => (ln l, 0) | some k => ((k : Int), 1)
theorem check_ok (fu : Nat) (l : List Note) (x : Option (List Note)) (hl : l.length ≤ 9223372036854775807) : P35 fu ⟨l, x⟩ = some (chk l) := by
  obtain ⟨o, ho⟩ := check_loop fu l hl l [] [] [] rfl ⟨fun _ _ => rfl, fun _ _ h => (by cases h), fun _ _ _ h => (by cases h)⟩
  unfold P35 chk
  dsimp only
  have ho : wl (P35_s0 fu l) ([], [], 0) = _ := ho
  rw [ho]
  cases bad [] l with
  | none => rfl
  | some k => simp
/-- Notes that can stand, all of them. -/
def valid (h : List Note) : Prop := ∀ (a : List Note) (x : Note) (b : List Note), h = a ++ x :: b → can a x = true
theorem bad_none : ∀ (r p : List Note), bad p r = none ↔ ∀ (a : List Note) (x : Note) (b : List Note), r = a ++ x :: b → can (ofI (p ++ a) x.Inst) x = true
  | [], p => by simp [bad]
  | y :: r, p => by
    have ih := bad_none r (p ++ [y])
    simp only [bad]
    cases hc : can (ofI p y.Inst) y with
    | false =>
      simp only [Bool.false_eq_true, if_false]
      refine ⟨fun h => (by cases h), fun h => ?_⟩
      have := h [] y r rfl
      rw [List.append_nil, hc] at this
      cases this
    | true =>
      simp only [if_true, Option.map_eq_none_iff]
      rw [ih]
      constructor
      · intro h a x b e
        cases a with
        | nil =>
          simp only [List.nil_append, List.cons.injEq] at e
          obtain ⟨rfl, rfl⟩ := e
          simpa using hc
        | cons z a =>
          simp only [List.cons_append, List.cons.injEq] at e
          obtain ⟨rfl, rfl⟩ := e
          have := h a x b rfl
          simpa using this
      · intro h a x b e
        subst e
        have := h (y :: a) x b rfl
        simpa using this
/-- A trace can be where each instance's notes can. -/
theorem bad_iff (l : List Note) : bad [] l = none ↔ ∀ id, valid (ofI l id) := by
  rw [bad_none]
  constructor
  · intro h id a x b e
    obtain ⟨l1, l2, rfl, h1, h2⟩ := List.filter_eq_append_iff.1 e
    obtain ⟨l3, l4, rfl, h3, h4, h5⟩ := List.filter_eq_cons_iff.1 h2
    have hx : x.Inst = id := by simpa using h4
    have := h (l1 ++ l3) x l4 (by simp)
    have e2 : ofI ([] ++ (l1 ++ l3)) x.Inst = a := by
      rw [hx]
      simp only [ofI, List.nil_append, List.filter_append, h1]
      have : l3.filter (fun y => y.Inst == id) = [] := List.filter_eq_nil_iff.2 h3
      rw [this, List.append_nil]
    rw [e2] at this
    exact this
  · intro h a x b e
    subst e
    have := h x.Inst (ofI a x.Inst) x (ofI b x.Inst) (by simp [ofI])
    simpa using this
theorem ofI_of (l : List Note) (a b : Int) : ofI (ofI l a) b = if a = b then ofI l a else [] := by
  simp only [ofI, List.filter_filter]
  by_cases h : a = b
  · subst h; simp
  · rw [if_neg h, List.filter_eq_nil_iff]
    intro y _
    simp only [Bool.and_eq_true, beq_iff_eq, not_and]
    intro e1 e2
    exact h (e2.symm.trans e1)
theorem valid_nil : valid [] := fun a x b h => by cases a <;> cases h
/-- One instance's notes, as a trace. -/
theorem bad_one (l : List Note) (id : Int) : bad [] (ofI l id) = none ↔ valid (ofI l id) := by
  rw [bad_iff]
  constructor
  · intro h
    have := h id
    rw [ofI_of, if_pos rfl] at this
    exact this
  · intro h id'
    rw [ofI_of]
    split
    · exact h
    · exact valid_nil
/-- What comes of a beginning. -/
theorem bad_take : ∀ (r p : List Note) (i : Nat), bad p (r.take i) = (match bad p r with | some k => if k < i then some k else none | none => none)
  | [], p, i => by simp [bad]
  | x :: r, p, 0 => by
    simp only [List.take_zero, bad]
    split <;> simp
  | x :: r, p, i + 1 => by
    simp only [List.take_succ_cons, bad, bad_take r (p ++ [x]) i]
    cases can (ofI p x.Inst) x with
    | false => simp
    | true =>
      simp only [if_true]
      cases bad (p ++ [x]) r with
      | none => rfl
      | some k =>
        simp only [Option.map_some]
        by_cases h : k < i
        · simp [h]
        · simp [h]
theorem bad_lt : ∀ (r p : List Note) (k : Nat), bad p r = some k → k < r.length
  | [], p, k, h => by simp [bad] at h
  | x :: r, p, k, h => by
    simp only [bad] at h
    split at h
    · cases hb : bad (p ++ [x]) r with
      | none => rw [hb] at h; cases h
      | some j =>
        rw [hb] at h
        cases h
        have := bad_lt r (p ++ [x]) j hb
        simp; omega
    · cases h; simp
end Go.Proofs.Ytamllgdaepjcfaa
