/- tale.Check: the interpreter computes a function on plain data: an arena of stories, and which story is an instance's. -/
import Derived.Test.YtamllgdaepjcfaaTCO
namespace Go.Proofs.Ytamllgdaepjcfaa
open Go Go.X
set_option linter.unusedVariables false
set_option linter.unusedSimpArgs false
set_option maxRecDepth 100000
/-- A story, as it lies in two objects: what it has had; its runs. -/
abbrev Story := (Bool × Bool × Bool) × List (Talerun × Bool)
noncomputable def P35_s0 (fu : Nat) (a0_l : List Note) : (List Story × List (Int × Nat) × Int) → Option ((List Story × List (Int × Nat) × Int) ⊕ ((List Story × List (Int × Nat) × Int) ⊕ (List Story × List (Int × Nat) × Int)))
  | (ss, m, i) =>
    bif decide (i < ln a0_l) then
      (idx a0_l i).bind fun x =>
        (match mget m x.Inst with
        | none => (P58x1 fu x (false, false, false) []).bind fun r =>
          bif !r.1 then some (.inr (.inr (ss ++ [(r.2.1, r.2.2)], mset m x.Inst ss.length, i))) else some (.inl (ss ++ [(r.2.1, r.2.2)], mset m x.Inst ss.length, w64 (i + 1)))
        | some j => (ss[j]?).bind fun s => (P58x1 fu x s.1 s.2).bind fun r =>
          bif !r.1 then some (.inr (.inr (ss.set j (r.2.1, r.2.2), m, i))) else some (.inl (ss.set j (r.2.1, r.2.2), m, w64 (i + 1))))
    else
      some (.inr (.inl (ss, m, i)))
noncomputable def P35 (fu : Nat) (a0 : Sl Note) : Option (Int × Int) :=
  match a0 with
  | ⟨a0_l, a0_x⟩ =>
    (wl (P35_s0 fu a0_l) ([], [], 0)).bind fun q =>
      match q with
      | .inl _ => some (ln a0_l, 0)
      | .inr o => some (o.2.2, 1)
/-- The arena: the map of stories; behind it each story's runs and its box. -/
def kvp (j : Nat) : PV := .ptr 0 (2 * j + 2) 0
def kip (n : Int) : PV := .d (.int .i64 n)
def Mst (m : List (Int × Nat)) : List (PV × PV) := m.map fun p => (kip p.1, kvp p.2)
theorem mo_st : MapsOf Mst kip kvp := ⟨fun l => rfl, fun x y => rfl⟩
def encS (E : Enc) : Nat → List Story → List X.Obj
  | _, [] => []
  | k, s :: r => .map (.agg [.str, .bool]) true (E.M_Talerun_bool s.2) :: .box 88 (bx_88 E (2 * k + 1) s.1) :: encS E (k + 1) r
def AR (E : Enc) (m : List (Int × Nat)) (ss : List Story) : List X.Obj := .map (.int .i64) false (Mst m) :: encS E 0 ss
theorem encS_len (E : Enc) : ∀ (k : Nat) (l : List Story), (encS E k l).length = 2 * l.length
  | _, [] => rfl
  | k, s :: r => by simp only [encS, List.length_cons, encS_len E (k + 1) r]; omega
theorem encS_snoc (E : Enc) : ∀ (k : Nat) (l : List Story) (s : Story), encS E k (l ++ [s]) = encS E k l ++ [X.Obj.map (.agg [.str, .bool]) true (E.M_Talerun_bool s.2), X.Obj.box 88 (bx_88 E (2 * (k + l.length) + 1) s.1)]
  | k, [], s => by simp [encS]
  | k, a :: r, s => by
    simp only [List.cons_append, encS, encS_snoc E (k + 1) r s, List.length_cons]
    have : k + 1 + r.length = k + (r.length + 1) := by omega
    rw [this]
theorem encS_get (E : Enc) : ∀ (k j : Nat) (l : List Story) (s : Story), l[j]? = some s → (encS E k l)[2 * j]? = some (X.Obj.map (.agg [.str, .bool]) true (E.M_Talerun_bool s.2)) ∧ (encS E k l)[2 * j + 1]? = some (X.Obj.box 88 (bx_88 E (2 * (k + j) + 1) s.1))
  | k, j, [], s, h => by simp at h
  | k, 0, a :: r, s, h => by simp at h; subst h; exact ⟨rfl, rfl⟩
  | k, j + 1, a :: r, s, h => by
    simp at h
    have := encS_get E (k + 1) j r s h
    have e1 : 2 * (j + 1) = 2 * j + 1 + 1 := by omega
    have e2 : k + 1 + j = k + (j + 1) := by omega
    rw [e2] at this
    simp only [encS, e1, List.getElem?_cons_succ]
    exact this
theorem encS_set (E : Enc) : ∀ (k j : Nat) (l : List Story) (s s' : Story), l[j]? = some s →
    (s'.2 = s.2 → (encS E k l).set (2 * j + 1) (X.Obj.box 88 (bx_88 E (2 * (k + j) + 1) s'.1)) = encS E k (l.set j s')) ∧
    (s'.1 = s.1 → (encS E k l).set (2 * j) (X.Obj.map (.agg [.str, .bool]) true (E.M_Talerun_bool s'.2)) = encS E k (l.set j s'))
  | k, j, [], s, s', h => by simp at h
  | k, 0, a :: r, s, s', h => by
    simp at h; subst h
    exact ⟨fun e => by simp [encS, e], fun e => by simp [encS, e]⟩
  | k, j + 1, a :: r, s, s', h => by
    simp at h
    have := encS_set E (k + 1) j r s s' h
    have e1 : 2 * (j + 1) = 2 * j + 1 + 1 := by omega
    have e2 : k + 1 + j = k + (j + 1) := by omega
    rw [e2] at this
    refine ⟨fun e => ?_, fun e => ?_⟩
    · simp only [encS, e1, List.set_cons_succ, this.1 e]
    · simp only [encS, e1, List.set_cons_succ, this.2 e]
section
variable {E : Enc} {m : List (Int × Nat)} {ss : List Story} {j : Nat} {st : St}
theorem ar_box {s : Story} (h : ss[j]? = some s) : X.look (AR E m ss :: st) 0 (2 * j + 2) = some (X.Obj.box 88 (bx_88 E (2 * j + 1) s.1)) := by
  have := (encS_get E 0 j ss s h).2
  rw [Nat.zero_add] at this
  exact this
theorem ar_map {s : Story} (h : ss[j]? = some s) : X.look (AR E m ss :: st) 0 (2 * j + 1) = some (X.Obj.map (.agg [.str, .bool]) true (E.M_Talerun_bool s.2)) := (encS_get E 0 j ss s h).1
theorem ar_setbox {s s' : Story} (h : ss[j]? = some s) (e : s'.2 = s.2) : X.setO (AR E m ss :: st) 0 (2 * j + 2) (X.Obj.box 88 (bx_88 E (2 * j + 1) s'.1)) = AR E m (ss.set j s') :: st := by
  have := (encS_set E 0 j ss s s' h).1 e
  rw [Nat.zero_add] at this
  show ((X.Obj.map (.int .i64) false (Mst m) :: encS E 0 ss).set (2 * j + 1 + 1) _) :: st = _
  rw [List.set_cons_succ, this]
  rfl
theorem ar_setmap {s s' : Story} (h : ss[j]? = some s) (e : s'.1 = s.1) : X.setO (AR E m ss :: st) 0 (2 * j + 1) (X.Obj.map (.agg [.str, .bool]) true (E.M_Talerun_bool s'.2)) = AR E m (ss.set j s') :: st := by
  have := (encS_set E 0 j ss s s' h).2 e
  show ((X.Obj.map (.int .i64) false (Mst m) :: encS E 0 ss).set (2 * j + 1) _) :: st = _
  rw [List.set_cons_succ, this]
  rfl
end
theorem goes_at {Ω : Om} {E : Enc} (hΩ : real (call S) = Ω) (hE : theEnc = E) {ARf : List (Int × Nat) → List Story → List X.Obj} (hAR : ARf = AR E) {fu : Nat} {x : Note} {own : List X.Obj} {m : List (Int × Nat)} {ss : List Story} {j n2 : Nat} {st : St} {s0 : Story} (hj : ss[j]? = some s0) (hn : 2 * j + 2 = n2)
    {r : Bool × (Bool × Bool × Bool) × List (Talerun × Bool)} (h : P58x1 fu x s0.1 s0.2 = some r) {args : List PV} (ha : [PV.ptr 1 n2 0, pv_Note E x] = args) {ss2 : List Story} (hs2 : ss.set j (r.2.1, r.2.2) = ss2) :
    Sat (Ω.cf 58 args (own :: ARf m ss :: st)) (fun q => q = (PV.d (.bool r.1), own :: ARf m ss2 :: st)) := by
  subst hAR hn hs2
  have hl : j < ss.length := (List.getElem?_eq_some_iff.1 hj).1
  have hget : ∀ s : Story, (ss.set j s)[j]? = some s := fun s => List.getElem?_set_self hl
  have hset : ∀ s s' : Story, (ss.set j s).set j s' = ss.set j s' := fun s s' => by simp
  refine ok58x1 hΩ hE (S := fun s => own :: AR E m (ss.set j s) :: st) (lz0 := 1) (iz0 := 2 * j + 2) (iz1 := 2 * j + 1) (c0 := s0.1) (c1 := s0.2) rfl rfl
    (fun s => ar_box (m := m) (st := st) (hget s)) (fun s y => ?_) (fun s => ar_map (m := m) (st := st) (hget s)) (fun s y => ?_) h ha ?_
  · have := ar_setbox (E := E) (m := m) (st := st) (s' := (y, s.2)) (hget s) rfl
    rw [hset] at this
    exact congrArg (List.cons own) this
  · have := ar_setmap (E := E) (m := m) (st := st) (s' := (s.1, y)) (hget s) rfl
    rw [hset] at this
    exact congrArg (List.cons own) this
  · have : ss.set j (s0.1, s0.2) = ss := by
      apply List.ext_getElem?
      intro i
      by_cases hi : j = i
      · subst hi; rw [hget]; exact hj.symm
      · rw [List.getElem?_set_ne hi]
    show own :: AR E m (ss.set j (s0.1, s0.2)) :: st = _
    rw [this]
set_option maxHeartbeats 4000000 in
theorem ok35 {Ω : Om} {E : Enc} (hΩ : real (call S) = Ω) (hE : theEnc = E) {fu : Nat} {a0 : Sl Note} {r : Int × Int} (h : P35 fu a0 = some r) {args : List PV} (ha : [PV.d (.sl (E.L_Note a0.l) (E.X_Note a0.x))] = args) (st : St) :
    Sat (Ω.cf 35 args st) (fun q => q = (PV.tup [PV.d (.int .i64 r.1), PV.d (.int .i64 r.2)], st)) := by
  subst ha
  rcases a0 with ⟨a0_l, a0_x⟩
  refine cf_arena hΩ (f := 35) (fn := Try.f35) (x := c35) rfl rfl c35_ok rfl rfl ?_
  unfold P35 at h
  try dsimp only at h
  conv => arg 1; cbv
  obtain ⟨ARf, hAR⟩ : ∃ f, f = AR E := ⟨_, rfl⟩
  obtain ⟨Mf, hMf⟩ : ∃ f, f = Mst := ⟨_, rfl⟩
  have mo_f : MapsOf Mf kip kvp := by subst hMf; exact mo_st
  obtain ⟨q, hl, hz⟩ := Option.bind_eq_some_iff.1 h
  clear h
  have h := hz
  clear hz
  refine sat_empty hΩ mo_f fun m0 hm0 => ?_
  conv => arg 1; cbv
  refine sat_addfar hΩ (n := 0) (st' := ARf [] [] :: st) rfl rfl (by subst hAR hMf; subst_vars; rfl) ?_
  conv => arg 1; cbv
  refine sat_len hΩ (ro_Note hE) a0_l rfl fun n5 hn6 => ?_
  conv => arg 1; cbv
  refine sat_loop hΩ (fun (a : List Story × List (Int × Nat) × Int) => (match a with | (ss, m, i) => ([(0, PV.d (.sl (E.L_Note a0_l) (E.X_Note a0_x))), (2, PV.d (.int .i64 0)), (3, PV.d (.int .i64 0)), (4, PV.map 1 0), (10, PV.d (.sl (E.L_Note a0_l) (E.X_Note a0_x))), (11, PV.d (.int .i64 n5)), (12, PV.d (.int .i64 i))], ([] : List X.Obj) :: ARf m ss :: st)))
    (fun (q : (List Story × List (Int × Nat) × Int) ⊕ (List Story × List (Int × Nat) × Int)) => (match q with
      | .inl (ss, m, i) => (.exit 0, [(0, PV.d (.sl (E.L_Note a0_l) (E.X_Note a0_x))), (2, PV.d (.int .i64 0)), (3, PV.d (.int .i64 0)), (4, PV.map 1 0), (10, PV.d (.sl (E.L_Note a0_l) (E.X_Note a0_x))), (11, PV.d (.int .i64 n5)), (12, PV.d (.int .i64 i))], ([] : List X.Obj) :: ARf m ss :: st)
      | .inr (ss, m, i) => (.ret, [(0, PV.d (.sl (E.L_Note a0_l) (E.X_Note a0_x))), (2, PV.d (.int .i64 i)), (3, PV.d (.int .i64 1)), (4, PV.map 1 0), (10, PV.d (.sl (E.L_Note a0_l) (E.X_Note a0_x))), (11, PV.d (.int .i64 n5)), (12, PV.d (.int .i64 i))], ([] : List X.Obj) :: ARf m ss :: st)))
    ([], [], 0) hl rfl ?_ ?_
  · clear h hl
    rintro ⟨ss, m, i⟩ q h
    unfold P35_s0 at h
    dsimp only at h
    conv => arg 1; cbv
    refine sat_in hΩ ?_
    conv => arg 1; cbv
    replace h := bif_cases h
    rcases h with ⟨hb10, h⟩ | ⟨hb10, h⟩
    · refine sat_brt (by first | exact hb10 | (subst_vars; first | exact hb10 | rfl)) ?_
      conv => arg 1; cbv
      refine sat_true (fits_l hΩ (ro_Note hE) a0_l rfl) ?_
      conv => arg 1; cbv
      obtain ⟨⟨x_Kind, x_Inst, x_Name, x_Late, x_Text⟩, hx12, hz⟩ := Option.bind_eq_some_iff.1 h
      clear h
      have h := hz
      clear hz
      try dsimp only at h
      refine sat_bind (nth_ok hΩ (ro_Note hE) hx12 rfl rfl) ?_
      conv => arg 1; cbv
      refine sat_in hΩ ?_
      conv => arg 1; cbv
      refine sat_mapfar hΩ (kk := .int .i64) (fl := false) (es := Mf m) (by subst hAR hMf; rfl) ?_
      conv => arg 1; cbv
      rcases hq14 : mget m x_Inst with _ | j
      · rw [hq14] at h
        dsimp only at h
        refine sat_find_none hΩ mo_f hq14 rfl rfl ?_
        conv => arg 1; cbv
        refine sat_in hΩ ?_
        conv => arg 1; cbv
        refine sat_empty hΩ (mo_Talerun_bool hE) fun m1 hm1 => ?_
        conv => arg 1; cbv
        obtain ⟨n1, hn1⟩ : ∃ n, 2 * ss.length + 1 = n := ⟨_, rfl⟩
        obtain ⟨n2, hn2⟩ : ∃ n, 2 * ss.length + 2 = n := ⟨_, rfl⟩
        obtain ⟨A1, hA1⟩ : ∃ A, ARf m ss ++ [X.Obj.map (.agg [.str, .bool]) true (E.M_Talerun_bool [])] = A := ⟨_, rfl⟩
        refine sat_addfar hΩ (n := n1) (st' := A1 :: st) rfl (by subst hAR hn1; simp [numO, AR, encS_len]) (by subst hA1 hm1; rfl) ?_
        conv => arg 1; cbv
        obtain ⟨ss1, hss1⟩ : ∃ l, ss ++ [((false, false, false), [])] = l := ⟨_, rfl⟩
        refine sat_addfar hΩ (n := n2) (st' := ARf m ss1 :: st) rfl (by subst hA1 hAR hn2; simp [numO, AR, encS_len]) (by
          subst hA1 hAR hss1 hn1
          simp only [addO, AR, encS_snoc, Nat.zero_add, List.cons_append, List.append_assoc]
          rfl) ?_
        conv => arg 1; cbv
        refine sat_mapfar hΩ (kk := .int .i64) (fl := false) (es := Mf m) (by subst hAR hMf; rfl) ?_
        conv => arg 1; cbv
        refine sat_put hΩ mo_f m x_Inst ss.length rfl rfl (by subst hn2; rfl) fun m2 hm2 => ?_
        conv => arg 1; cbv
        refine sat_setfar hΩ (st' := ARf m2 ss1 :: st) (by subst hAR hMf; rfl) ?_
        conv => arg 1; cbv
        obtain ⟨⟨ok, b0, b1⟩, hx2, hz⟩ := Option.bind_eq_some_iff.1 h
        clear h
        have h := hz
        clear hz
        dsimp only at h
        obtain ⟨ss2, hss2⟩ : ∃ l, ss ++ [(b0, b1)] = l := ⟨_, rfl⟩
        refine sat_call (goes_at hΩ hE hAR (j := ss.length) (s0 := ((false, false, false), [])) (m := m2) (ss := ss1) (n2 := n2) (by subst hss1; simp) hn2 hx2 rfl (ss2 := ss2) (by subst hss1 hss2; simp)) ?_
        conv => arg 1; cbv
        refine sat_in hΩ ?_
        cases ok with
        | true =>
          simp only [Bool.not_true, cond_false] at h
          conv => arg 1; cbv
          obtain rfl := Option.some.inj h
          subst hss2 hm2
          subst hΩ
          exact sat_pure ⟨rfl, rfl, rfl⟩
        | false =>
          simp only [Bool.not_false, cond_true] at h
          conv => arg 1; cbv
          obtain rfl := Option.some.inj h
          subst hss2 hm2
          exact sat_pure (.inr ⟨rfl, rfl⟩)
      · rw [hq14] at h
        dsimp only at h
        obtain ⟨s0, hs0, hz⟩ := Option.bind_eq_some_iff.1 h
        clear h
        have h := hz
        clear hz
        obtain ⟨⟨ok, b0, b1⟩, hx2, hz⟩ := Option.bind_eq_some_iff.1 h
        clear h
        have h := hz
        clear hz
        dsimp only at h
        obtain ⟨n2, hn2⟩ : ∃ n, 2 * j + 2 = n := ⟨_, rfl⟩
        obtain ⟨kv, hkv⟩ : ∃ v, kvp j = v := ⟨_, rfl⟩
        have hkv2 : kv = PV.ptr 0 n2 0 := by subst hkv hn2; rfl
        refine sat_find_some hΩ mo_f hq14 rfl rfl ?_
        rw [hkv, hkv2]
        conv => arg 1; cbv
        refine sat_in hΩ ?_
        conv => arg 1; cbv
        obtain ⟨ss2, hss2⟩ : ∃ l, ss.set j (b0, b1) = l := ⟨_, rfl⟩
        refine sat_call (goes_at hΩ hE hAR (j := j) (s0 := s0) (m := m) (ss := ss) (n2 := n2) hs0 hn2 hx2 rfl (ss2 := ss2) hss2) ?_
        conv => arg 1; cbv
        refine sat_in hΩ ?_
        cases ok with
        | true =>
          simp only [Bool.not_true, cond_false] at h
          conv => arg 1; cbv
          obtain rfl := Option.some.inj h
          subst hss2
          subst hΩ
          exact sat_pure ⟨rfl, rfl, rfl⟩
        | false =>
          simp only [Bool.not_false, cond_true] at h
          conv => arg 1; cbv
          obtain rfl := Option.some.inj h
          subst hss2
          exact sat_pure (.inr ⟨rfl, rfl⟩)
    · refine sat_brf (by first | exact hb10 | (subst_vars; first | exact hb10 | rfl)) ?_
      conv => arg 1; cbv
      obtain rfl := Option.some.inj h
      exact sat_pure (.inl ⟨⟨_, rfl⟩, rfl⟩)
  · clear hl
    rcases q with ⟨ss, m, i⟩ | ⟨ss, m, i⟩
    · dsimp only at h
      conv => arg 1; cbv
      refine sat_len hΩ (ro_Note hE) a0_l rfl fun n7 hn7 => ?_
      conv => arg 1; cbv
      obtain rfl := Option.some.inj h
      subst hn7
      exact sat_pure ⟨_, _, rfl, rfl⟩
    · dsimp only at h
      conv => arg 1; cbv
      obtain rfl := Option.some.inj h
      exact sat_pure ⟨_, _, rfl, rfl⟩
end Go.Proofs.Ytamllgdaepjcfaa
