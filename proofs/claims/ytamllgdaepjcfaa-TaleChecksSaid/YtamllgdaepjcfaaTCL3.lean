/- tapestrylaw17.TaleChecks: whether a trace can be, and the first note that cannot, is told as the reference says: on plain data. -/
import Derived.Test.YtamllgdaepjcfaaTCL2
import Derived.Test.YtamllgdaepjcfaaTCO2
import Derived.Test.YtamllgdaepjcfaaTCV
namespace Go.Proofs.Ytamllgdaepjcfaa
open Go Go.X
set_option linter.unusedVariables false
set_option linter.unusedSimpArgs false
set_option maxRecDepth 100000
theorem call_of {f : Nat} {args : List PV} {st : St} {r : PV × St} (h : Sat ((real (call S)).cf f args st) (fun q => q = r)) : call S f args st = some r := by
  obtain ⟨_, h1, rfl⟩ := h; exact h1
theorem ofI_len (l : List Note) (id : Int) : (ofI l id).length ≤ l.length := List.length_filter_le _ _
theorem refOf_ok (fu : Nat) (l : List Note) (x : Option (List Note)) (id : Int) (hl : l.length ≤ 1048576) : P60 fu ⟨l, x⟩ id = some ⟨ofI l id, none⟩ := by
  unfold P60
  dsimp only
  obtain ⟨s, h1, h2, h3⟩ := wl_rest (f := P60_s0 fu l id) l (fun (s : List Note) k => (s, (k : Int))) (fun k s => s = ofI (l.take k) id ∧ s.length ≤ k) (fun s => (s, (l.length : Int))) (fun k hk s hI => by
    obtain ⟨g1, g2⟩ := hI
    have hn : ofI (l.take (k + 1)) id = if l[k].Inst = id then s ++ [l[k]] else s := by rw [take_snoc' l k hk, ofI_snoc, ← g1]
    unfold P60_s0
    dsimp only
    rw [lt_true hk, idx_lt l k hk]
    revert hn
    generalize l[k] = n
    obtain ⟨a, b, c, d, e⟩ := n
    intro hn
    dsimp only at hn
    have hroom : room 56 (ln (s ++ [Note.mk a b c d e])) = true := by
      rw [ln_eq]
      exact room_small (m := l.length) (by simp; omega) (by omega) (by omega) (by omega)
    simp only [Option.bind_some, cond_true]
    rw [w64_succ (by omega)]
    by_cases he : b = id
    · rw [if_pos he] at hn
      have : (b == id) = true := by simp [he]
      exact ⟨_, by simp only [this, cond_true, hroom, Option.bind_some], hn.symm, by simp; omega⟩
    · rw [if_neg he] at hn
      have : (b == id) = false := by simp [he]
      exact ⟨s, by simp only [this, cond_false, Option.bind_some], hn.symm, by omega⟩) (fun s hI => by
    unfold P60_s0
    dsimp only
    rw [lt_false]
    rfl) [] ⟨rfl, by simp⟩
  have h1 : wl (P60_s0 fu l id) (([] : List Note), 0) = some (s, (l.length : Int)) := h1
  rw [h1]
  rw [List.take_length] at h2
  subst h2
  rfl
theorem refCount_ok (fu : Nat) (l : List Note) (x : Option (List Note)) (kd : Int) (hl : l.length ≤ 1048576) : P69 fu ⟨l, x⟩ kd = some (cntK l kd : Int) := by
  unfold P69
  dsimp only
  obtain ⟨s, h1, h2⟩ := wl_rest (f := P69_s0 fu l kd) l (fun (s : Nat) k => ((s : Int), (k : Int))) (fun k s => s = cntK (l.take k) kd) (fun s => ((s : Int), (l.length : Int))) (fun k hk s hI => by
    have hn : cntK (l.take (k + 1)) kd = if l[k].Kind = kd then s + 1 else s := by rw [take_snoc' l k hk, cntK_snoc, ← hI]
    have hs : s ≤ l.length := by rw [hI]; have := cntK_le (l.take k) kd; simp at this; omega
    unfold P69_s0
    dsimp only
    rw [lt_true hk, idx_lt l k hk]
    revert hn
    generalize l[k] = n
    obtain ⟨a, b, c, d, e⟩ := n
    intro hn
    dsimp only at hn
    simp only [Option.bind_some, cond_true]
    rw [w64_succ (by omega), w64_succ (by omega)]
    by_cases he : a = kd
    · rw [if_pos he] at hn
      have : (a == kd) = true := by simp [he]
      exact ⟨s + 1, by simp only [this, cond_true, Option.bind_some], hn.symm⟩
    · rw [if_neg he] at hn
      have : (a == kd) = false := by simp [he]
      exact ⟨s, by simp only [this, cond_false, Option.bind_some], hn.symm⟩) (fun s hI => by
    unfold P69_s0
    dsimp only
    rw [lt_false]
    rfl) 0 rfl
  have h1 : wl (P69_s0 fu l kd) (0, 0) = some ((s : Int), (l.length : Int)) := h1
  rw [h1]
  rw [List.take_length] at h2
  subst h2
  rfl
theorem seq_dec (a b : ByteArray) : seq a b = decide (a = b) := by
  cases h : seq a b with
  | true => exact (decide_eq_true (seq_iff.1 h)).symm
  | false => exact (decide_eq_false (fun e => by rw [seq_iff.2 e] at h; cases h)).symm
theorem runs_ok (fu : Nat) (l : List Note) (x : Option (List Note)) (nm : ByteArray) (lt : Bool) (hl : l.length ≤ 1048576) : P70 fu ⟨l, x⟩ nm lt = some (onR l ⟨nm, lt⟩) := by
  unfold P70
  dsimp only
  obtain ⟨s, h1, h2⟩ := wl_rest (f := P70_s0 fu l nm lt) l (fun (s : Bool) k => (s, (k : Int))) (fun k s => s = onR (l.take k) ⟨nm, lt⟩) (fun s => (s, (l.length : Int))) (fun k hk s hI => by
    have hn := onR_snoc (l.take k) l[k] ⟨nm, lt⟩
    rw [← take_snoc' l k hk, ← hI] at hn
    refine ⟨onR (l.take (k + 1)) ⟨nm, lt⟩, ?_, rfl⟩
    unfold P70_s0
    dsimp only
    rw [lt_true hk, idx_lt l k hk, w64_succ (by omega), hn]
    generalize l[k] = n
    obtain ⟨a, b, c, d, e⟩ := n
    simp only [Option.bind_some, cond_true, seq_dec]
    by_cases q1 : c = nm
    · by_cases q2 : d = lt
      · by_cases q5 : a = 5
        · simp [q1, q2, q5]
        · have e5 : (a == 5) = false := by simp [q5]
          by_cases q6 : a = 6
          · simp [q1, q2, q5, q6]
          · have e6 : (a == 6) = false := by simp [q6]
            simp [q1, q2, q5, q6, e5, e6]
      · have e2 : (d == lt) = false := by simp [q2]
        simp [q1, q2, e2]
    · simp [q1]) (fun s hI => by
    unfold P70_s0
    dsimp only
    rw [lt_false]
    rfl) false rfl
  have h1 : wl (P70_s0 fu l nm lt) (false, 0) = some (s, (l.length : Int)) := h1
  rw [h1]
  rw [List.take_length] at h2
  subst h2
  rfl
theorem still_ok (fu : Nat) (l : List Note) (x : Option (List Note)) (hl : l.length ≤ 1048576) : P71 fu ⟨l, x⟩ = some (l.any (fun y => decide (y.Kind = 5) && onR l ⟨y.Name, y.Late⟩)) := by
  unfold P71
  dsimp only
  have h := wl_findFrom (f := P71_s0 fu l x) l (fun y => decide (y.Kind = 5) && onR l ⟨y.Name, y.Late⟩) (fun k => (false, (k : Int))) (fun k _ => .inr (true, (k : Int))) (.inl (false, (l.length : Int))) (fun k hk => by
    unfold P71_s0
    dsimp only
    rw [lt_true hk, idx_lt l k hk, w64_succ (by omega)]
    generalize l[k] = n
    obtain ⟨a, b, c, d, e⟩ := n
    simp only [Option.bind_some, cond_true]
    rw [runs_ok fu l x c d hl]
    by_cases q5 : a = 5
    · have e5 : (a == 5) = true := by simp [q5]
      simp only [e5, cond_true, Option.bind_some, q5, decide_true, Bool.true_and]
      cases onR l ⟨c, d⟩ <;> rfl
    · have e5 : (a == 5) = false := by simp [q5]
      simp [e5, q5]) (by
    unfold P71_s0
    dsimp only
    rw [lt_false]
    rfl) 0 (by omega)
  rw [List.drop_zero] at h
  rcases h with ⟨j, a, h1, h2⟩ | ⟨h1, h2⟩
  · have h2 : wl (P71_s0 fu l x) (false, 0) = some (.inr (true, (j : Int))) := h2
    rw [h2]
    have hm := List.mem_of_find?_eq_some h1
    have ha := List.find?_some h1
    rw [List.any_eq_true.2 ⟨a, hm, ha⟩]
    rfl
  · have h2 : wl (P71_s0 fu l x) (false, 0) = some (.inl (false, (l.length : Int))) := h2
    rw [h2]
    have : l.any (fun y => decide (y.Kind = 5) && onR l ⟨y.Name, y.Late⟩) = false := by
      rw [List.any_eq_false]
      exact fun y hy => List.find?_eq_none.1 h1 y hy
    rw [this]
    rfl
/-- The reference's word is the story's, where all ahead can be. -/
theorem can_ok (fu : Nat) (h : List Note) (x : Option (List Note)) (y : Note) (hl : h.length ≤ 1048576) (I : Inv h) : P59 fu ⟨h, x⟩ y = some (can h y) := by
  obtain ⟨k, id, nm, lt, tx⟩ := y
  unfold P59
  dsimp only
  rw [refCount_ok fu h x 2 hl, refCount_ok fu h x 4 hl, refCount_ok fu h x 1 hl, runs_ok fu h x nm lt hl, still_ok fu h x hl]
  simp only [Option.bind_some]
  have hst : h.any (fun y => decide (y.Kind = 5) && onR h ⟨y.Name, y.Late⟩) = decide (0 < (stS h).2.length) := by
    by_cases q : 0 < (stS h).2.length
    · rw [decide_eq_true q, List.any_eq_true]
      cases hr : (stS h).2 with
      | nil => rw [hr] at q; simp at q
      | cons p r =>
        obtain ⟨r0, b⟩ := p
        have hg : mget (stS h).2 r0 = some b := by rw [hr]; simp [mget]
        have := I.on r0
        rw [hg] at this
        have hon : onR h r0 = true := by
          cases ho : onR h r0 with
          | true => rfl
          | false => rw [ho] at this; simp at this
        obtain ⟨z, hz, z5, zn, zl⟩ := onR_mem h r0 hon
        refine ⟨z, hz, ?_⟩
        rw [zn, zl]
        simp [z5, hon]
    · rw [decide_eq_false q, List.any_eq_false]
      intro z hz
      have h0 : (stS h).2 = [] := List.eq_nil_of_length_eq_zero (by omega)
      have := I.on ⟨z.Name, z.Late⟩
      rw [h0] at this
      simp only [mget] at this
      cases ho : onR h ⟨z.Name, z.Late⟩ with
      | false => simp
      | true => rw [ho] at this; simp at this
  rw [hst]
  have hon := I.on ⟨nm, lt⟩
  have ev := I.ev; have mo := I.mo; have le := I.le
  have d2 : decide ((0 : Int) < (cntK h 2 : Int)) = decide (0 < cntK h 2) := by congr 1; simp
  have d4 : decide ((0 : Int) < (cntK h 4 : Int)) = decide (0 < cntK h 4) := by congr 1; simp
  have d1 : decide ((0 : Int) < (cntK h 1 : Int)) = decide (0 < cntK h 1) := by congr 1; simp
  rw [d1, d2, d4]
  unfold can
  revert ev mo le hon
  generalize stS h = s
  obtain ⟨⟨sev, smo, sle⟩, rs⟩ := s
  dsimp only
  intro hon ev mo le
  rw [← ev, ← mo, ← le]
  unfold G
  dsimp only
  have hget : (mget rs ⟨nm, lt⟩).getD false = onR h ⟨nm, lt⟩ := by rw [hon]; cases onR h ⟨nm, lt⟩ <;> rfl
  rw [hget]
  by_cases h1 : k = 1
  · simp [h1]
  have c1 : (k == 1) = false := by simp [h1]
  rw [c1, cond_false, if_neg h1]
  by_cases h2 : k = 2
  · subst h2; cases sev <;> cases smo <;> simp
  have c2 : (k == 2) = false := by simp [h2]
  rw [c2, cond_false, if_neg h2]
  by_cases h3 : k = 3
  · subst h3; cases smo <;> simp
  have c3 : (k == 3) = false := by simp [h3]
  rw [c3, cond_false]
  by_cases h5 : k = 5
  · subst h5; cases smo <;> cases sle <;> cases onR h ⟨nm, lt⟩ <;> simp
  have c5 : (k == 5) = false := by simp [h5]
  rw [c5, cond_false]
  by_cases h6 : k = 6
  · subst h6; cases smo <;> cases sle <;> cases onR h ⟨nm, lt⟩ <;> simp
  have c6 : (k == 6) = false := by simp [h6]
  rw [c6, cond_false]
  by_cases h4 : k = 4
  · subst h4
    by_cases q : 0 < rs.length
    · cases smo <;> cases sle <;> simp [q]
    · cases smo <;> cases sle <;> simp [q]
  have c4 : (k == 4) = false := by simp [h4]
  rw [c4, cond_false, if_neg h4, if_neg h5, if_neg h3, if_neg h6]
  rfl
/-- The reference's loop, of a slice of which it is known, or not, what lies behind it. -/
theorem ref_loop {f : Int × Int × Int → Option ((Int × Int × Int) ⊕ ((Int × Int × Int) ⊕ (Int × Int × Int)))} (l : List Note)
    (hs : ∀ (p : List Note) (x : Note) (r : List Note), p ++ x :: r = l → (∀ id, Inv (ofI p id)) → f (0, 0, (p.length : Int)) = some (bif !(can (ofI p x.Inst) x) then .inr (.inr ((p.length : Int), 1, (p.length : Int))) else .inl (0, 0, ((p.length + 1 : Nat) : Int))))
    (he : f (0, 0, (l.length : Int)) = some (.inr (.inl (0, 0, (l.length : Int))))) : ∀ (r p : List Note), p ++ r = l → (∀ id, Inv (ofI p id)) →
    wl f (0, 0, (p.length : Int)) = some (match bad p r with | none => .inl (0, 0, (l.length : Int)) | some k => .inr (((p.length + k : Nat) : Int), 1, ((p.length + k : Nat) : Int)))
  | [], p, hp, hI => by
    simp only [List.append_nil] at hp
    subst hp
    exact wl_inr he
  | x :: r, p, hp, hI => by
    have h1 := hs p x r hp hI
    simp only [bad]
    cases hc : can (ofI p x.Inst) x with
    | false => rw [hc] at h1; exact wl_inr h1
    | true =>
      rw [hc] at h1
      have ih := ref_loop l hs he r (p ++ [x]) (by simpa using hp) (fun id => by
        rw [ofI_snoc]
        split
        · rename_i e; subst e; exact inv_snoc (hI _) hc
        · exact hI id)
      have hlen : (p ++ [x]).length = p.length + 1 := by simp
      rw [hlen] at ih
      rw [wl_inl h1]
      refine ih.trans ?_
      cases bad (p ++ [x]) r with
      | none => rfl
      | some k =>
        simp only [if_true, Option.map_some]
        have : p.length + 1 + k = p.length + (k + 1) := by omega
        rw [this]
theorem refCheck_ok (fu : Nat) (l : List Note) (x : Option (List Note)) (hl : l.length ≤ 1048576) : P36 fu ⟨l, x⟩ = some (chk l) := by
  have fin : ∀ (q : (Int × Int × Int) ⊕ (Int × Int × Int)), q = (match bad [] l with | none => .inl (0, 0, (l.length : Int)) | some k => .inr ((k : Int), 1, (k : Int))) →
      (match q with | .inl (o24, o25, o26) => some (ln l, (0 : Int)) | .inr (o29, o30, o31) => some (o29, o30)) = some (chk l) := by
    rintro q rfl
    unfold chk
    cases bad [] l <;> rfl
  unfold P36
  cases x with
  | none =>
    dsimp only
    have h := ref_loop (f := P36_s0 fu l) l (fun p y r hp hI => by
      have hk : p.length < l.length := by rw [← hp]; simp
      have hy : l[p.length] = y := by simp [← hp]
      have ht : cut l 0 (p.length : Int) = p := by simp [cut, ← hp]
      unfold P36_s0
      dsimp only
      have d1 : decide ((0 : Int) ≤ (p.length : Int)) = true := decide_eq_true (by omega)
      have d2 : decide ((p.length : Int) ≤ ln l) = true := decide_eq_true (by rw [ln_eq]; omega)
      rw [lt_true hk, d1, d2, idx_lt l _ hk, hy, ht, w64_succ (by omega)]
      obtain ⟨a, b, c, d, e⟩ := y
      simp only [Option.bind_some, cond_true]
      have := ofI_len p b
      rw [refOf_ok fu p none b (by omega)]
      simp only [Option.bind_some]
      rw [can_ok fu (ofI p b) none _ (by omega) (hI b)]
      cases can (ofI p b) ⟨a, b, c, d, e⟩ <;> rfl) (by
      unfold P36_s0
      dsimp only
      rw [lt_false]
      rfl) l [] rfl (fun id => inv_nil)
    have h : wl (P36_s0 fu l) (0, 0, 0) = _ := h
    rw [h, Option.bind_some]
    exact fin _ (by cases bad [] l <;> simp)
  | some hd =>
    dsimp only
    have h := ref_loop (f := P36_s1 fu l hd) l (fun p y r hp hI => by
      have hk : p.length < l.length := by rw [← hp]; simp
      have hy : l[p.length] = y := by simp [← hp]
      have ht : cut (l ++ hd) 0 (p.length : Int) = p := by simp [cut, ← hp]
      unfold P36_s1
      dsimp only
      have d1 : decide ((0 : Int) ≤ (p.length : Int)) = true := decide_eq_true (by omega)
      have d2 : decide ((p.length : Int) ≤ ln (l ++ hd)) = true := decide_eq_true (by rw [ln_eq, List.length_append]; omega)
      rw [lt_true hk, d1, d2, idx_lt l _ hk, hy, ht, w64_succ (by omega)]
      obtain ⟨a, b, c, d, e⟩ := y
      simp only [Option.bind_some, cond_true]
      have := ofI_len p b
      rw [refOf_ok fu p _ b (by omega)]
      simp only [Option.bind_some]
      rw [can_ok fu (ofI p b) none _ (by omega) (hI b)]
      cases can (ofI p b) ⟨a, b, c, d, e⟩ <;> rfl) (by
      unfold P36_s1
      dsimp only
      rw [lt_false]
      rfl) l [] rfl (fun id => inv_nil)
    have h : wl (P36_s1 fu l hd) (0, 0, 0) = _ := h
    rw [h, Option.bind_some]
    exact fin _ (by cases bad [] l <;> simp)
theorem maxLen_eq : maxLen = 9223372036854775807 := by decide
theorem P19_def (fu : Nat) (l : List Int) (x : Option (List Int)) (hl : l.length ≤ maxLen) : ∃ r, P19 fu ⟨l, x⟩ = some r := by
  rw [maxLen_eq] at hl
  obtain ⟨q, hq⟩ : ∃ q, wl (P19_s0 fu l) (false, 0, 0) = some q := by
    obtain ⟨b, h1, _⟩ := wl_rule (f := P19_s0 fu l) (fun a => ∃ k : Nat, a.2.2 = (k : Int) ∧ k ≤ l.length) (fun a => l.length - a.2.2.toNat) (fun _ => True) (fun a hI => by
      obtain ⟨b, s, i⟩ := a
      obtain ⟨k, hk0, hk⟩ := hI
      dsimp only at hk0
      subst hk0
      unfold P19_s0
      dsimp only
      by_cases hlt : k < l.length
      · have h1 : decide ((k : Int) < ln l) = true := by simp [ln]; omega
        rw [h1, idx_lt l k hlt]
        simp only [cond_true, Option.bind_some]
        cases decide (1048576 < w64 (s + l[k])) with
        | true => exact .inr ⟨_, rfl, trivial⟩
        | false =>
          left
          refine ⟨_, rfl, ⟨k + 1, ?_, by omega⟩, ?_⟩
          · show w64 _ = _
            rw [w64_id (by omega) (by omega)]; rfl
          · show l.length - (w64 _).toNat < l.length - _
            rw [w64_id (by omega) (by omega)]
            omega
      · have h1 : decide ((k : Int) < ln l) = false := by simp [ln]; omega
        rw [h1]
        exact .inr ⟨_, rfl, trivial⟩) l.length (false, 0, 0) (by simp) ⟨0, rfl, by omega⟩
    exact ⟨b, h1⟩
  unfold P19
  dsimp only
  rw [hq]
  rcases q with ⟨_, _, _⟩ | ⟨_, _, _⟩ <;> exact ⟨_, rfl⟩
theorem size_def (fu : Nat) (l : List Note) (x : Option (List Note)) (hl : l.length ≤ 1048576) : ∃ r, P33 fu ⟨l, x⟩ = some r := by
  obtain ⟨b, hb⟩ := wl_ends (f := P33_s0 fu l) l.length (by omega) (fun s k hk => by
    unfold P33_s0
    dsimp only
    by_cases hlt : k < l.length
    · rw [lt_true hlt, idx_lt l k hlt]
      generalize l[k] = y
      obtain ⟨a, b, c, d, e⟩ := y
      simp only [cond_true, Option.bind_some]
      cases decide (s ≤ 1048576) with
      | false => exact .inl ⟨_, rfl⟩
      | true => exact .inr ⟨hlt, _, rfl⟩
    · have : k = l.length := by omega
      subst this
      rw [lt_false]
      exact .inl ⟨_, rfl⟩) (ln l)
  unfold P33
  dsimp only
  rw [hb]
  exact ⟨b.1, rfl⟩
def sp : Note := ⟨0, 7777, ByteArray.empty, false, ByteArray.empty⟩
theorem twin_ok (fu : Nat) (l : List Note) (x : Option (List Note)) (hl : l.length ≤ 400) : P34 fu ⟨l, x⟩ = some ⟨l, some [sp]⟩ := by
  unfold P34
  dsimp only
  have hsp : Note.mk 0 7777 ByteArray.empty false ByteArray.empty = sp := rfl
  have hc : w64 (ln l + 1) = ((l.length + 1 : Nat) : Int) := w64_succ (by omega)
  have rm : ∀ n : Nat, n ≤ 401 → room 56 (n : Int) = true := fun n hn => room_small (m := 401) hn (by omega) (by omega) (by omega)
  have h := wl_each (f := P34_s0 fu l) l (fun s y => s ++ [y]) (fun s k => (s, (k : Int))) (fun k s => s.length = k) [] rfl (fun k hk s hI => by
    have hs : s.length = k := hI
    refine ⟨?_, by simp [hs]⟩
    unfold P34_s0
    dsimp only
    rw [lt_true hk, idx_lt l k hk, hc, w64_succ (by omega)]
    generalize l[k] = y
    obtain ⟨a, b, c, d, e⟩ := y
    simp only [Option.bind_some, cond_true]
    have e1 : ln (s ++ [Note.mk a b c d e]) = ((k + 1 : Nat) : Int) := by simp [ln, hs]
    have e2 : decide (((k + 1 : Nat) : Int) ≤ ((l.length + 1 : Nat) : Int)) = true := decide_eq_true (by omega)
    rw [e1, rm (k + 1) (by omega), e2]
    rfl) (b := (l, (l.length : Int))) (fun s _ hs => by
    unfold P34_s0
    dsimp only
    rw [lt_false, hs]
    have : ∀ (q a : List Note), q.foldl (fun s y => s ++ [y]) a = a ++ q := by
      intro q
      induction q with
      | nil => intro a; simp
      | cons y q ih => intro a; simp [ih]
    rw [this]
    rfl)
  have h : wl (P34_s0 fu l) ((List.replicate (Int.toNat 0) (Note.mk 0 0 ByteArray.empty false ByteArray.empty)), 0) = _ := h
  rw [hc, h, hsp]
  have l1 : ln (l ++ [sp]) = ((l.length + 1 : Nat) : Int) := by simp [ln]
  have e0 : decide ((0 : Nat) ≤ 0) = true := rfl
  have e1 : decide ((0 : Int) ≤ ((l.length + 1 : Nat) : Int)) = true := decide_eq_true (by omega)
  have e2 : decide (((l.length + 1 : Nat) : Int) ≤ ((l.length + 1 : Nat) : Int)) = true := decide_eq_true (Int.le_refl _)
  have e3 : ((((l.length + 1 : Nat) : Int)) == ((l.length + 1 : Nat) : Int)) = true := by simp
  have e4 : decide ((0 : Int) ≤ ln l) = true := decide_eq_true (ln_ge l)
  have e5 : decide (ln l ≤ ((l.length + 1 : Nat) : Int)) = true := decide_eq_true (by rw [ln_eq]; omega)
  simp only [e0, e1, rm (l.length + 1) (by omega), cond_true, Option.bind_some, l1, e2, e3, e4, e5, List.append_nil]
  have c1 : cut (l ++ [sp]) 0 (ln l) = l := by simp [cut, ln]
  have c2 : cut (l ++ [sp]) (ln l) ((l.length + 1 : Nat) : Int) = [sp] := by simp [cut, ln, List.take_of_length_le]
  rw [c1, c2]
theorem left_ok (fu : Nat) (l : List Note) (x : Option (List Note)) (hl : l.length ≤ 400) : P37 fu ⟨l, some [sp]⟩ ⟨l, x⟩ = some true := by
  unfold P37
  dsimp only
  have h := wl_each (f := P37_s0 fu l l) l (fun (_ : Unit) _ => ()) (fun _ k => (k : Int)) (fun _ _ => True) () trivial (fun k hk s _ => by
    refine ⟨?_, trivial⟩
    unfold P37_s0
    dsimp only
    rw [lt_true hk, idx_lt l k hk, w64_succ (by omega)]
    generalize l[k] = n
    obtain ⟨a, b, c, d, e⟩ := n
    simp [seq_self]) (b := .inl (l.length : Int)) (fun s _ _ => by
    unfold P37_s0
    dsimp only
    rw [lt_false]
    rfl)
  have h : wl (P37_s0 fu l l) 0 = some (.inl (l.length : Int)) := h
  rw [h]
  have hc : w64 (ln l + 1) = ((l.length + 1 : Nat) : Int) := w64_succ (by omega)
  have e0 : decide ((0 : Nat) ≤ 0) = true := rfl
  have e1 : (ln l == ln l) = true := by simp
  have e2 : decide (ln (l ++ [sp]) ≤ ln l) = false := decide_eq_false (by simp [ln]; omega)
  have e3 : decide ((0 : Int) ≤ ((l.length + 1 : Nat) : Int)) = true := decide_eq_true (by omega)
  have e4 : decide (((l.length + 1 : Nat) : Int) ≤ ln (l ++ [sp])) = true := decide_eq_true (by simp [ln])
  have e5 : idx (cut (l ++ [sp]) 0 ((l.length + 1 : Nat) : Int)) (ln l) = some sp := by
    have : cut (l ++ [sp]) 0 ((l.length + 1 : Nat) : Int) = l ++ [sp] := by simp [cut, List.take_of_length_le]
    rw [this, ln, idx_nat]
    simp
  simp only [e1, e2, hc, Bool.not_true, Bool.not_false, cond_true, cond_false, Option.bind_some, e0, e3, e4, e5]
  rfl
theorem P8_true (fu : Nat) (l : List Note) (x : Option (List Note)) : P8 fu ⟨l, x⟩ = some true := by
  unfold P8
  dsimp only
  by_cases hl : 400 < ln l
  · simp [hl]
  · have hl2 : l.length ≤ 400 := by simp [ln] at hl; omega
    obtain ⟨r, hr⟩ := size_def fu l x (by omega)
    obtain ⟨b, hb⟩ := P19_def fu [r] (some []) (by rw [maxLen_eq]; simp)
    simp only [hl, decide_false, Bool.not_false, cond_true, hr, Option.bind_some, hb]
    cases b with
    | true => rfl
    | false =>
      simp only [cond_false]
      rw [twin_ok fu l x hl2]
      simp only [Option.bind_some]
      rw [check_ok fu l _ (by omega)]
      simp only [Option.bind_some]
      rw [refCheck_ok fu l x (by omega)]
      simp only [Option.bind_some, beq_self_eq_true, cond_true]
      rw [left_ok fu l x hl2]
      rfl
theorem law8 (ls : List (List D)) (h : WTs tab [45] ls) : call S 8 (argsPV tab [45] ls) [] = some (.d (.bool true), []) := by
  obtain ⟨l1, _, rfl, h1, rfl⟩ := h
  obtain ⟨⟨l, x⟩, rfl⟩ := wt_45 h1
  exact call_of (ok8 (fu := 0) rfl rfl (P8_true 0 l x) rfl [])
end Go.Proofs.Ytamllgdaepjcfaa
