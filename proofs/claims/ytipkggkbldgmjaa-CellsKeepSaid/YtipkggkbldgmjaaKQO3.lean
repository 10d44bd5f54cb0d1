/- The interpreter computes just these functions: printed by a small program. -/
import Derived.Test.YtipkggkbldgmjaaKQO2
namespace Go.Proofs.Ytipkggkbldgmjaa
open Go Go.X
set_option linter.unusedVariables false
set_option linter.unusedSimpArgs false
set_option maxRecDepth 100000
set_option maxHeartbeats 4000000 in
theorem ok19 {Ω : Om} {E : Enc} (hΩ : real (call S) = Ω) (hE : theEnc = E) {fu : Nat} {a0 : Sl Cell} {a1 : ByteArray} {r : Value × Bool} (h : P19 fu a0 a1 = some r) {args : List PV} (ha : [PV.d (.sl (E.L_Cell a0.l) (E.X_Cell a0.x)), PV.d (.str a1)] = args) (st : St) :
    Sat (Ω.cf 19 args st) (fun q => q = (PV.tup [pv_Value E r.1, PV.d (.bool r.2)], st)) := by
  subst ha
  rcases a0 with ⟨a0_l, a0_x⟩
  rw [cf_body hΩ (f := 19) (fn := Try.f19) (x := c19) rfl rfl c19_ok rfl rfl]
  unfold P19 at h
  try dsimp only at h
  conv => arg 1; cbv
  obtain ⟨r1, hx2, hz⟩ := Option.bind_eq_some_iff.1 h
  clear h
  have h := hz
  clear hz
  refine sat_call (ok40 hΩ hE hx2 (by (try clear h); subst_vars; rfl) _) ?_
  conv => arg 1; cbv
  refine sat_in hΩ ?_
  conv => arg 1; cbv
  replace h := bif_cases h
  rcases h with ⟨hb3, h⟩ | ⟨hb3, h⟩
  · refine sat_brt (by first | exact hb3 | ((try clear h); subst_vars; first | exact hb3 | rfl)) ?_
    conv => arg 1; cbv
    obtain rfl := Option.some.inj h
    subst_vars
    exact sat_pure rfl
  · refine sat_brf (by first | exact hb3 | ((try clear h); subst_vars; first | exact hb3 | rfl)) ?_
    conv => arg 1; cbv
    refine sat_true (fits_l hΩ (ro_Cell hE) a0_l (by first | rfl | ((try clear h); subst_vars; rfl))) ?_
    conv => arg 1; cbv
    obtain ⟨⟨x4_Kind, x4_Name, ⟨x4_Value__Kind, x4_Value__N, x4_Value__S, ⟨x4_Value__L_l, x4_Value__L_x⟩, ⟨x4_Value__F_l, x4_Value__F_x⟩, x4_Value__Elem, x4_Value__Key, x4_Value__HasKey⟩, ⟨x4_Next_Kind, x4_Next_N, x4_Next_S, ⟨x4_Next_L_l, x4_Next_L_x⟩, ⟨x4_Next_F_l, x4_Next_F_x⟩, x4_Next_Elem, x4_Next_Key, x4_Next_HasKey⟩, ⟨x4_Deps_l, x4_Deps_x⟩, ⟨x4_Do_l, x4_Do_x⟩, ⟨x4_Undo_l, x4_Undo_x⟩, ⟨x4_Env_l, x4_Env_x⟩, x4_Runs, x4_Ran, ⟨x4_Old_l, x4_Old_x⟩, ⟨x4_Past_l, x4_Past_x⟩⟩, hx5, hz⟩ := Option.bind_eq_some_iff.1 h
    clear h
    have h := hz
    clear hz
    try dsimp only at h
    refine sat_bind (nth_ok hΩ (ro_Cell hE) hx5 (by first | rfl | ((try clear h); subst_vars; rfl)) (by first | rfl | ((try clear h); subst_vars; rfl))) ?_
    conv => arg 1; cbv
    obtain ⟨⟨r6_Kind, r6_N, r6_S, ⟨r6_L_l, r6_L_x⟩, ⟨r6_F_l, r6_F_x⟩, r6_Elem, r6_Key, r6_HasKey⟩, hx7, hz⟩ := Option.bind_eq_some_iff.1 h
    clear h
    have h := hz
    clear hz
    try dsimp only at h
    refine sat_call (ok26 hΩ hE hx7 (by (try clear h); subst_vars; rfl) _) ?_
    conv => arg 1; cbv
    obtain rfl := Option.some.inj h
    subst_vars
    exact sat_pure rfl
set_option maxHeartbeats 4000000 in
theorem okb27 {Ω : Om} {E : Enc} (hΩ : real (call S) = Ω) (hE : theEnc = E) {fu : Nat} {p27 : (Sl Value) → (Sl Value) → Option (Bool)} (hp27 : ∀ {a0 : Sl Value} {a1 : Sl Value} {r : Bool}, p27 a0 a1 = some r → ∀ {args : List PV}, [PV.d (.sl (E.L_Value a0.l) (E.X_Value a0.x)), PV.d (.sl (E.L_Value a1.l) (E.X_Value a1.x))] = args → ∀ (st : St), Sat (Ω.cf 27 args st) (fun q => q = (PV.d (.bool r), st))) {p28 : (Sl Field) → (Sl Field) → Option (Bool)} (hp28 : ∀ {a0 : Sl Field} {a1 : Sl Field} {r : Bool}, p28 a0 a1 = some r → ∀ {args : List PV}, [PV.d (.sl (E.L_Field a0.l) (E.X_Field a0.x)), PV.d (.sl (E.L_Field a1.l) (E.X_Field a1.x))] = args → ∀ (st : St), Sat (Ω.cf 28 args st) (fun q => q = (PV.d (.bool r), st))) {p51 : Field → Field → Option (Bool)} (hp51 : ∀ {a0 : Field} {a1 : Field} {r : Bool}, p51 a0 a1 = some r → ∀ {args : List PV}, [pv_Field E a0, pv_Field E a1] = args → ∀ (st : St), Sat (Ω.cf 51 args st) (fun q => q = (PV.d (.bool r), st))) {p8 : Value → Value → Option (Bool)} (hp8 : ∀ {a0 : Value} {a1 : Value} {r : Bool}, p8 a0 a1 = some r → ∀ {args : List PV}, [pv_Value E a0, pv_Value E a1] = args → ∀ (st : St), Sat (Ω.cf 8 args st) (fun q => q = (PV.d (.bool r), st))) {a0 : Sl Value} {a1 : Sl Value} {r : Bool} (h : Pb27 fu p27 p28 p51 p8 a0 a1 = some r) {args : List PV} (ha : [PV.d (.sl (E.L_Value a0.l) (E.X_Value a0.x)), PV.d (.sl (E.L_Value a1.l) (E.X_Value a1.x))] = args) (st : St) :
    Sat (Ω.cf 27 args st) (fun q => q = (PV.d (.bool r), st)) := by
  subst ha
  rcases a0 with ⟨a0_l, a0_x⟩
  rcases a1 with ⟨a1_l, a1_x⟩
  rw [cf_body hΩ (f := 27) (fn := Try.f27) (x := c27) rfl rfl c27_ok rfl rfl]
  unfold Pb27 at h
  try dsimp only at h
  conv => arg 1; cbv
  refine sat_len hΩ (ro_Value hE) a0_l (by first | rfl | ((try clear h); subst_vars; rfl)) fun n1 hn2 => ?_
  conv => arg 1; cbv
  refine sat_len hΩ (ro_Value hE) a1_l (by first | rfl | ((try clear h); subst_vars; rfl)) fun n3 hn4 => ?_
  conv => arg 1; cbv
  refine sat_in hΩ ?_
  conv => arg 1; cbv
  replace h := bif_cases h
  rcases h with ⟨hb5, h⟩ | ⟨hb5, h⟩
  · refine sat_brt (by first | exact hb5 | ((try clear h); subst_vars; first | exact hb5 | rfl)) ?_
    conv => arg 1; cbv
    obtain rfl := Option.some.inj h
    subst_vars
    exact sat_pure rfl
  · refine sat_brf (by first | exact hb5 | ((try clear h); subst_vars; first | exact hb5 | rfl)) ?_
    conv => arg 1; cbv
    obtain ⟨q, hl17, hz⟩ := Option.bind_eq_some_iff.1 h
    clear h
    have h := hz
    clear hz
    refine sat_loop hΩ (fun (a : Int) => (match a with | i6 => ([(0, PV.d (.sl (E.L_Value a0_l) (E.X_Value a0_x))), (1, PV.d (.sl (E.L_Value a1_l) (E.X_Value a1_x))), (4, PV.d (.bool false)), (5, PV.d (.int .i64 i6))], ([] : List X.Obj) :: st))) (fun (q : Int ⊕ Int) => (match q with | .inl o18 => (.exit 0, [(0, PV.d (.sl (E.L_Value a0_l) (E.X_Value a0_x))), (1, PV.d (.sl (E.L_Value a1_l) (E.X_Value a1_x))), (4, PV.d (.bool false)), (5, PV.d (.int .i64 o18))], ([] : List X.Obj) :: st) | .inr o19 => (.ret, [(0, PV.d (.sl (E.L_Value a0_l) (E.X_Value a0_x))), (1, PV.d (.sl (E.L_Value a1_l) (E.X_Value a1_x))), (4, PV.d (.bool false)), (5, PV.d (.int .i64 o19))], ([] : List X.Obj) :: st))) 0 hl17 (by first | rfl | ((try clear h); subst_vars; rfl) | ((try clear h); subst_vars; simp only [ln_set])) ?_ ?_
    · clear h hl17
      rintro i6 q h
      unfold P27_s0 at h
      dsimp only at h
      conv => arg 1; cbv
      refine sat_len hΩ (ro_Value hE) a0_l (by first | rfl | ((try clear h); subst_vars; rfl)) fun n7 hn8 => ?_
      conv => arg 1; cbv
      refine sat_in hΩ ?_
      conv => arg 1; cbv
      replace h := bif_cases h
      rcases h with ⟨hb9, h⟩ | ⟨hb9, h⟩
      · refine sat_brt (by first | exact hb9 | ((try clear h); subst_vars; first | exact hb9 | rfl)) ?_
        conv => arg 1; cbv
        refine sat_true (fits_l hΩ (ro_Value hE) a0_l (by first | rfl | ((try clear h); subst_vars; rfl))) ?_
        conv => arg 1; cbv
        obtain ⟨⟨x10_Kind, x10_N, x10_S, ⟨x10_L_l, x10_L_x⟩, ⟨x10_F_l, x10_F_x⟩, x10_Elem, x10_Key, x10_HasKey⟩, hx11, hz⟩ := Option.bind_eq_some_iff.1 h
        clear h
        have h := hz
        clear hz
        try dsimp only at h
        refine sat_bind (nth_ok hΩ (ro_Value hE) hx11 (by first | rfl | ((try clear h); subst_vars; rfl)) (by first | rfl | ((try clear h); subst_vars; rfl))) ?_
        conv => arg 1; cbv
        refine sat_true (fits_l hΩ (ro_Value hE) a1_l (by first | rfl | ((try clear h); subst_vars; rfl))) ?_
        conv => arg 1; cbv
        obtain ⟨⟨x12_Kind, x12_N, x12_S, ⟨x12_L_l, x12_L_x⟩, ⟨x12_F_l, x12_F_x⟩, x12_Elem, x12_Key, x12_HasKey⟩, hx13, hz⟩ := Option.bind_eq_some_iff.1 h
        clear h
        have h := hz
        clear hz
        try dsimp only at h
        refine sat_bind (nth_ok hΩ (ro_Value hE) hx13 (by first | rfl | ((try clear h); subst_vars; rfl)) (by first | rfl | ((try clear h); subst_vars; rfl))) ?_
        conv => arg 1; cbv
        obtain ⟨r14, hx15, hz⟩ := Option.bind_eq_some_iff.1 h
        clear h
        have h := hz
        clear hz
        refine sat_call (hp8 hx15 (by (try clear h); subst_vars; rfl) _) ?_
        conv => arg 1; cbv
        refine sat_true (same_ok hΩ _) ?_
        conv => arg 1; cbv
        refine sat_in hΩ ?_
        conv => arg 1; cbv
        replace h := bif_cases h
        rcases h with ⟨hb16, h⟩ | ⟨hb16, h⟩
        · refine sat_brt (by first | exact hb16 | ((try clear h); subst_vars; first | exact hb16 | rfl)) ?_
          conv => arg 1; cbv
          obtain rfl := Option.some.inj h
          subst_vars
          first | exact sat_pure (.inr ⟨rfl, rfl⟩) | (refine sat_pure (.inr ⟨rfl, ?_⟩); dsimp only; simp only [ln_set]; rfl)
        · refine sat_brf (by first | exact hb16 | ((try clear h); subst_vars; first | exact hb16 | rfl)) ?_
          conv => arg 1; cbv
          obtain rfl := Option.some.inj h
          subst_vars
          first | exact sat_pure ⟨rfl, rfl, rfl⟩ | (refine sat_pure ⟨rfl, ?_, ?_⟩ <;> first | rfl | (dsimp only; simp only [ln_set]; rfl))
      · refine sat_brf (by first | exact hb9 | ((try clear h); subst_vars; first | exact hb9 | rfl)) ?_
        conv => arg 1; cbv
        obtain rfl := Option.some.inj h
        subst_vars
        first | exact sat_pure (.inl ⟨⟨_, rfl⟩, rfl⟩) | (refine sat_pure (.inl ⟨⟨_, rfl⟩, ?_⟩); dsimp only; simp only [ln_set]; rfl)
    · clear hl17
      rcases q with o18 | o19
      · dsimp only at h
        conv => arg 1; cbv
        obtain rfl := Option.some.inj h
        subst_vars
        exact sat_pure rfl
      · dsimp only at h
        conv => arg 1; cbv
        obtain rfl := Option.some.inj h
        subst_vars
        exact sat_pure rfl
set_option maxHeartbeats 4000000 in
theorem okb28 {Ω : Om} {E : Enc} (hΩ : real (call S) = Ω) (hE : theEnc = E) {fu : Nat} {p27 : (Sl Value) → (Sl Value) → Option (Bool)} (hp27 : ∀ {a0 : Sl Value} {a1 : Sl Value} {r : Bool}, p27 a0 a1 = some r → ∀ {args : List PV}, [PV.d (.sl (E.L_Value a0.l) (E.X_Value a0.x)), PV.d (.sl (E.L_Value a1.l) (E.X_Value a1.x))] = args → ∀ (st : St), Sat (Ω.cf 27 args st) (fun q => q = (PV.d (.bool r), st))) {p28 : (Sl Field) → (Sl Field) → Option (Bool)} (hp28 : ∀ {a0 : Sl Field} {a1 : Sl Field} {r : Bool}, p28 a0 a1 = some r → ∀ {args : List PV}, [PV.d (.sl (E.L_Field a0.l) (E.X_Field a0.x)), PV.d (.sl (E.L_Field a1.l) (E.X_Field a1.x))] = args → ∀ (st : St), Sat (Ω.cf 28 args st) (fun q => q = (PV.d (.bool r), st))) {p51 : Field → Field → Option (Bool)} (hp51 : ∀ {a0 : Field} {a1 : Field} {r : Bool}, p51 a0 a1 = some r → ∀ {args : List PV}, [pv_Field E a0, pv_Field E a1] = args → ∀ (st : St), Sat (Ω.cf 51 args st) (fun q => q = (PV.d (.bool r), st))) {p8 : Value → Value → Option (Bool)} (hp8 : ∀ {a0 : Value} {a1 : Value} {r : Bool}, p8 a0 a1 = some r → ∀ {args : List PV}, [pv_Value E a0, pv_Value E a1] = args → ∀ (st : St), Sat (Ω.cf 8 args st) (fun q => q = (PV.d (.bool r), st))) {a0 : Sl Field} {a1 : Sl Field} {r : Bool} (h : Pb28 fu p27 p28 p51 p8 a0 a1 = some r) {args : List PV} (ha : [PV.d (.sl (E.L_Field a0.l) (E.X_Field a0.x)), PV.d (.sl (E.L_Field a1.l) (E.X_Field a1.x))] = args) (st : St) :
    Sat (Ω.cf 28 args st) (fun q => q = (PV.d (.bool r), st)) := by
  subst ha
  rcases a0 with ⟨a0_l, a0_x⟩
  rcases a1 with ⟨a1_l, a1_x⟩
  rw [cf_body hΩ (f := 28) (fn := Try.f28) (x := c28) rfl rfl c28_ok rfl rfl]
  unfold Pb28 at h
  try dsimp only at h
  conv => arg 1; cbv
  refine sat_len hΩ (ro_Field hE) a0_l (by first | rfl | ((try clear h); subst_vars; rfl)) fun n1 hn2 => ?_
  conv => arg 1; cbv
  refine sat_len hΩ (ro_Field hE) a1_l (by first | rfl | ((try clear h); subst_vars; rfl)) fun n3 hn4 => ?_
  conv => arg 1; cbv
  refine sat_in hΩ ?_
  conv => arg 1; cbv
  replace h := bif_cases h
  rcases h with ⟨hb5, h⟩ | ⟨hb5, h⟩
  · refine sat_brt (by first | exact hb5 | ((try clear h); subst_vars; first | exact hb5 | rfl)) ?_
    conv => arg 1; cbv
    obtain rfl := Option.some.inj h
    subst_vars
    exact sat_pure rfl
  · refine sat_brf (by first | exact hb5 | ((try clear h); subst_vars; first | exact hb5 | rfl)) ?_
    conv => arg 1; cbv
    obtain ⟨q, hl17, hz⟩ := Option.bind_eq_some_iff.1 h
    clear h
    have h := hz
    clear hz
    refine sat_loop hΩ (fun (a : Int) => (match a with | i6 => ([(0, PV.d (.sl (E.L_Field a0_l) (E.X_Field a0_x))), (1, PV.d (.sl (E.L_Field a1_l) (E.X_Field a1_x))), (4, PV.d (.bool false)), (5, PV.d (.int .i64 i6))], ([] : List X.Obj) :: st))) (fun (q : Int ⊕ Int) => (match q with | .inl o18 => (.exit 0, [(0, PV.d (.sl (E.L_Field a0_l) (E.X_Field a0_x))), (1, PV.d (.sl (E.L_Field a1_l) (E.X_Field a1_x))), (4, PV.d (.bool false)), (5, PV.d (.int .i64 o18))], ([] : List X.Obj) :: st) | .inr o19 => (.ret, [(0, PV.d (.sl (E.L_Field a0_l) (E.X_Field a0_x))), (1, PV.d (.sl (E.L_Field a1_l) (E.X_Field a1_x))), (4, PV.d (.bool false)), (5, PV.d (.int .i64 o19))], ([] : List X.Obj) :: st))) 0 hl17 (by first | rfl | ((try clear h); subst_vars; rfl) | ((try clear h); subst_vars; simp only [ln_set])) ?_ ?_
    · clear h hl17
      rintro i6 q h
      unfold P28_s0 at h
      dsimp only at h
      conv => arg 1; cbv
      refine sat_len hΩ (ro_Field hE) a0_l (by first | rfl | ((try clear h); subst_vars; rfl)) fun n7 hn8 => ?_
      conv => arg 1; cbv
      refine sat_in hΩ ?_
      conv => arg 1; cbv
      replace h := bif_cases h
      rcases h with ⟨hb9, h⟩ | ⟨hb9, h⟩
      · refine sat_brt (by first | exact hb9 | ((try clear h); subst_vars; first | exact hb9 | rfl)) ?_
        conv => arg 1; cbv
        refine sat_true (fits_l hΩ (ro_Field hE) a0_l (by first | rfl | ((try clear h); subst_vars; rfl))) ?_
        conv => arg 1; cbv
        obtain ⟨⟨x10_Name, ⟨x10_Value__Kind, x10_Value__N, x10_Value__S, ⟨x10_Value__L_l, x10_Value__L_x⟩, ⟨x10_Value__F_l, x10_Value__F_x⟩, x10_Value__Elem, x10_Value__Key, x10_Value__HasKey⟩⟩, hx11, hz⟩ := Option.bind_eq_some_iff.1 h
        clear h
        have h := hz
        clear hz
        try dsimp only at h
        refine sat_bind (nth_ok hΩ (ro_Field hE) hx11 (by first | rfl | ((try clear h); subst_vars; rfl)) (by first | rfl | ((try clear h); subst_vars; rfl))) ?_
        conv => arg 1; cbv
        refine sat_true (fits_l hΩ (ro_Field hE) a1_l (by first | rfl | ((try clear h); subst_vars; rfl))) ?_
        conv => arg 1; cbv
        obtain ⟨⟨x12_Name, ⟨x12_Value__Kind, x12_Value__N, x12_Value__S, ⟨x12_Value__L_l, x12_Value__L_x⟩, ⟨x12_Value__F_l, x12_Value__F_x⟩, x12_Value__Elem, x12_Value__Key, x12_Value__HasKey⟩⟩, hx13, hz⟩ := Option.bind_eq_some_iff.1 h
        clear h
        have h := hz
        clear hz
        try dsimp only at h
        refine sat_bind (nth_ok hΩ (ro_Field hE) hx13 (by first | rfl | ((try clear h); subst_vars; rfl)) (by first | rfl | ((try clear h); subst_vars; rfl))) ?_
        conv => arg 1; cbv
        obtain ⟨r14, hx15, hz⟩ := Option.bind_eq_some_iff.1 h
        clear h
        have h := hz
        clear hz
        refine sat_call (hp51 hx15 (by (try clear h); subst_vars; rfl) _) ?_
        conv => arg 1; cbv
        refine sat_true (same_ok hΩ _) ?_
        conv => arg 1; cbv
        refine sat_in hΩ ?_
        conv => arg 1; cbv
        replace h := bif_cases h
        rcases h with ⟨hb16, h⟩ | ⟨hb16, h⟩
        · refine sat_brt (by first | exact hb16 | ((try clear h); subst_vars; first | exact hb16 | rfl)) ?_
          conv => arg 1; cbv
          obtain rfl := Option.some.inj h
          subst_vars
          first | exact sat_pure (.inr ⟨rfl, rfl⟩) | (refine sat_pure (.inr ⟨rfl, ?_⟩); dsimp only; simp only [ln_set]; rfl)
        · refine sat_brf (by first | exact hb16 | ((try clear h); subst_vars; first | exact hb16 | rfl)) ?_
          conv => arg 1; cbv
          obtain rfl := Option.some.inj h
          subst_vars
          first | exact sat_pure ⟨rfl, rfl, rfl⟩ | (refine sat_pure ⟨rfl, ?_, ?_⟩ <;> first | rfl | (dsimp only; simp only [ln_set]; rfl))
      · refine sat_brf (by first | exact hb9 | ((try clear h); subst_vars; first | exact hb9 | rfl)) ?_
        conv => arg 1; cbv
        obtain rfl := Option.some.inj h
        subst_vars
        first | exact sat_pure (.inl ⟨⟨_, rfl⟩, rfl⟩) | (refine sat_pure (.inl ⟨⟨_, rfl⟩, ?_⟩); dsimp only; simp only [ln_set]; rfl)
    · clear hl17
      rcases q with o18 | o19
      · dsimp only at h
        conv => arg 1; cbv
        obtain rfl := Option.some.inj h
        subst_vars
        exact sat_pure rfl
      · dsimp only at h
        conv => arg 1; cbv
        obtain rfl := Option.some.inj h
        subst_vars
        exact sat_pure rfl
set_option maxHeartbeats 4000000 in
theorem okb51 {Ω : Om} {E : Enc} (hΩ : real (call S) = Ω) (hE : theEnc = E) {fu : Nat} {p27 : (Sl Value) → (Sl Value) → Option (Bool)} (hp27 : ∀ {a0 : Sl Value} {a1 : Sl Value} {r : Bool}, p27 a0 a1 = some r → ∀ {args : List PV}, [PV.d (.sl (E.L_Value a0.l) (E.X_Value a0.x)), PV.d (.sl (E.L_Value a1.l) (E.X_Value a1.x))] = args → ∀ (st : St), Sat (Ω.cf 27 args st) (fun q => q = (PV.d (.bool r), st))) {p28 : (Sl Field) → (Sl Field) → Option (Bool)} (hp28 : ∀ {a0 : Sl Field} {a1 : Sl Field} {r : Bool}, p28 a0 a1 = some r → ∀ {args : List PV}, [PV.d (.sl (E.L_Field a0.l) (E.X_Field a0.x)), PV.d (.sl (E.L_Field a1.l) (E.X_Field a1.x))] = args → ∀ (st : St), Sat (Ω.cf 28 args st) (fun q => q = (PV.d (.bool r), st))) {p51 : Field → Field → Option (Bool)} (hp51 : ∀ {a0 : Field} {a1 : Field} {r : Bool}, p51 a0 a1 = some r → ∀ {args : List PV}, [pv_Field E a0, pv_Field E a1] = args → ∀ (st : St), Sat (Ω.cf 51 args st) (fun q => q = (PV.d (.bool r), st))) {p8 : Value → Value → Option (Bool)} (hp8 : ∀ {a0 : Value} {a1 : Value} {r : Bool}, p8 a0 a1 = some r → ∀ {args : List PV}, [pv_Value E a0, pv_Value E a1] = args → ∀ (st : St), Sat (Ω.cf 8 args st) (fun q => q = (PV.d (.bool r), st))) {a0 : Field} {a1 : Field} {r : Bool} (h : Pb51 fu p27 p28 p51 p8 a0 a1 = some r) {args : List PV} (ha : [pv_Field E a0, pv_Field E a1] = args) (st : St) :
    Sat (Ω.cf 51 args st) (fun q => q = (PV.d (.bool r), st)) := by
  subst ha
  rcases a0 with ⟨a0_Name, ⟨a0_Value__Kind, a0_Value__N, a0_Value__S, ⟨a0_Value__L_l, a0_Value__L_x⟩, ⟨a0_Value__F_l, a0_Value__F_x⟩, a0_Value__Elem, a0_Value__Key, a0_Value__HasKey⟩⟩
  rcases a1 with ⟨a1_Name, ⟨a1_Value__Kind, a1_Value__N, a1_Value__S, ⟨a1_Value__L_l, a1_Value__L_x⟩, ⟨a1_Value__F_l, a1_Value__F_x⟩, a1_Value__Elem, a1_Value__Key, a1_Value__HasKey⟩⟩
  rw [cf_body hΩ (f := 51) (fn := Try.f51) (x := c51) rfl rfl c51_ok rfl rfl]
  unfold Pb51 at h
  try dsimp only at h
  conv => arg 1; cbv
  obtain ⟨q, hq5, hz⟩ := Option.bind_eq_some_iff.1 h
  clear h
  have h := hz
  clear hz
  refine sat_grp hΩ ((fun (q : Bool) => (match q with | i4 => ([(0, PV.agg [.d (.str a0_Name), .d (.int .u8 a0_Value__Kind), .d (.int .i64 a0_Value__N), .d (.str a0_Value__S), .d (.sl (E.L_Value a0_Value__L_l) (E.X_Value a0_Value__L_x)), .d (.sl (E.L_Field a0_Value__F_l) (E.X_Field a0_Value__F_x)), .d (.int .u8 a0_Value__Elem), .d (.str a0_Value__Key), .d (.bool a0_Value__HasKey)]), (1, PV.agg [.d (.str a1_Name), .d (.int .u8 a1_Value__Kind), .d (.int .i64 a1_Value__N), .d (.str a1_Value__S), .d (.sl (E.L_Value a1_Value__L_l) (E.X_Value a1_Value__L_x)), .d (.sl (E.L_Field a1_Value__F_l) (E.X_Field a1_Value__F_x)), .d (.int .u8 a1_Value__Elem), .d (.str a1_Value__Key), .d (.bool a1_Value__HasKey)]), (2, PV.ptr 0 0 0), (3, PV.ptr 0 1 0), (4, PV.d (.bool i4))], ([X.Obj.box 49 [.d (.str a0_Name), .d (.int .u8 a0_Value__Kind), .d (.int .i64 a0_Value__N), .d (.str a0_Value__S), .d (.sl (E.L_Value a0_Value__L_l) (E.X_Value a0_Value__L_x)), .d (.sl (E.L_Field a0_Value__F_l) (E.X_Field a0_Value__F_x)), .d (.int .u8 a0_Value__Elem), .d (.str a0_Value__Key), .d (.bool a0_Value__HasKey)], X.Obj.box 49 [.d (.str a1_Name), .d (.int .u8 a1_Value__Kind), .d (.int .i64 a1_Value__N), .d (.str a1_Value__S), .d (.sl (E.L_Value a1_Value__L_l) (E.X_Value a1_Value__L_x)), .d (.sl (E.L_Field a1_Value__F_l) (E.X_Field a1_Value__F_x)), .d (.int .u8 a1_Value__Elem), .d (.str a1_Value__Key), .d (.bool a1_Value__HasKey)]] : List X.Obj) :: st))) q) (fun k hk => ?_) ?_
  · clear h
    have h := hq5
    clear hq5
    conv => arg 1; cbv
    replace h := bif_cases h
    rcases h with ⟨hb1, h⟩ | ⟨hb1, h⟩
    · refine sat_brt (by first | exact hb1 | ((try clear h); subst_vars; first | exact hb1 | rfl)) ?_
      conv => arg 1; cbv
      obtain ⟨r2, hx3, hz⟩ := Option.bind_eq_some_iff.1 h
      clear h
      have h := hz
      clear hz
      refine sat_call (hp8 hx3 (by (try clear h); subst_vars; rfl) _) ?_
      conv => arg 1; cbv
      refine sat_tick hΩ ?_
      conv => arg 1; cbv
      obtain rfl := Option.some.inj h
      subst_vars
      first | exact hk | (simp only [ln_set] at hk ⊢; exact hk)
    · refine sat_brf (by first | exact hb1 | ((try clear h); subst_vars; first | exact hb1 | rfl)) ?_
      conv => arg 1; cbv
      refine sat_tick hΩ ?_
      conv => arg 1; cbv
      obtain rfl := Option.some.inj h
      subst_vars
      first | exact hk | (simp only [ln_set] at hk ⊢; exact hk)
  · clear hq5
    obtain ⟨i4, hqq⟩ : ∃ x, x = q := ⟨_, rfl⟩
    subst hqq
    try dsimp only at h
    conv => arg 1; cbv
    obtain rfl := Option.some.inj h
    subst_vars
    exact sat_pure rfl
set_option maxHeartbeats 4000000 in
theorem okb8 {Ω : Om} {E : Enc} (hΩ : real (call S) = Ω) (hE : theEnc = E) {fu : Nat} {p27 : (Sl Value) → (Sl Value) → Option (Bool)} (hp27 : ∀ {a0 : Sl Value} {a1 : Sl Value} {r : Bool}, p27 a0 a1 = some r → ∀ {args : List PV}, [PV.d (.sl (E.L_Value a0.l) (E.X_Value a0.x)), PV.d (.sl (E.L_Value a1.l) (E.X_Value a1.x))] = args → ∀ (st : St), Sat (Ω.cf 27 args st) (fun q => q = (PV.d (.bool r), st))) {p28 : (Sl Field) → (Sl Field) → Option (Bool)} (hp28 : ∀ {a0 : Sl Field} {a1 : Sl Field} {r : Bool}, p28 a0 a1 = some r → ∀ {args : List PV}, [PV.d (.sl (E.L_Field a0.l) (E.X_Field a0.x)), PV.d (.sl (E.L_Field a1.l) (E.X_Field a1.x))] = args → ∀ (st : St), Sat (Ω.cf 28 args st) (fun q => q = (PV.d (.bool r), st))) {p51 : Field → Field → Option (Bool)} (hp51 : ∀ {a0 : Field} {a1 : Field} {r : Bool}, p51 a0 a1 = some r → ∀ {args : List PV}, [pv_Field E a0, pv_Field E a1] = args → ∀ (st : St), Sat (Ω.cf 51 args st) (fun q => q = (PV.d (.bool r), st))) {p8 : Value → Value → Option (Bool)} (hp8 : ∀ {a0 : Value} {a1 : Value} {r : Bool}, p8 a0 a1 = some r → ∀ {args : List PV}, [pv_Value E a0, pv_Value E a1] = args → ∀ (st : St), Sat (Ω.cf 8 args st) (fun q => q = (PV.d (.bool r), st))) {a0 : Value} {a1 : Value} {r : Bool} (h : Pb8 fu p27 p28 p51 p8 a0 a1 = some r) {args : List PV} (ha : [pv_Value E a0, pv_Value E a1] = args) (st : St) :
    Sat (Ω.cf 8 args st) (fun q => q = (PV.d (.bool r), st)) := by
  subst ha
  rcases a0 with ⟨a0_Kind, a0_N, a0_S, ⟨a0_L_l, a0_L_x⟩, ⟨a0_F_l, a0_F_x⟩, a0_Elem, a0_Key, a0_HasKey⟩
  rcases a1 with ⟨a1_Kind, a1_N, a1_S, ⟨a1_L_l, a1_L_x⟩, ⟨a1_F_l, a1_F_x⟩, a1_Elem, a1_Key, a1_HasKey⟩
  rw [cf_body hΩ (f := 8) (fn := Try.f8) (x := c8) rfl rfl c8_ok rfl rfl]
  unfold Pb8 at h
  try dsimp only at h
  conv => arg 1; cbv
  obtain ⟨q, hq13, hz⟩ := Option.bind_eq_some_iff.1 h
  clear h
  have h := hz
  clear hz
  refine sat_grp hΩ ((fun (q : Bool) => (match q with | i12 => ([(0, PV.agg [.d (.int .u8 a0_Kind), .d (.int .i64 a0_N), .d (.str a0_S), .d (.sl (E.L_Value a0_L_l) (E.X_Value a0_L_x)), .d (.sl (E.L_Field a0_F_l) (E.X_Field a0_F_x)), .d (.int .u8 a0_Elem), .d (.str a0_Key), .d (.bool a0_HasKey)]), (1, PV.agg [.d (.int .u8 a1_Kind), .d (.int .i64 a1_N), .d (.str a1_S), .d (.sl (E.L_Value a1_L_l) (E.X_Value a1_L_x)), .d (.sl (E.L_Field a1_F_l) (E.X_Field a1_F_x)), .d (.int .u8 a1_Elem), .d (.str a1_Key), .d (.bool a1_HasKey)]), (2, PV.ptr 0 0 0), (3, PV.ptr 0 1 0), (4, PV.d (.bool i12))], ([X.Obj.box 27 [.d (.int .u8 a0_Kind), .d (.int .i64 a0_N), .d (.str a0_S), .d (.sl (E.L_Value a0_L_l) (E.X_Value a0_L_x)), .d (.sl (E.L_Field a0_F_l) (E.X_Field a0_F_x)), .d (.int .u8 a0_Elem), .d (.str a0_Key), .d (.bool a0_HasKey)], X.Obj.box 27 [.d (.int .u8 a1_Kind), .d (.int .i64 a1_N), .d (.str a1_S), .d (.sl (E.L_Value a1_L_l) (E.X_Value a1_L_x)), .d (.sl (E.L_Field a1_F_l) (E.X_Field a1_F_x)), .d (.int .u8 a1_Elem), .d (.str a1_Key), .d (.bool a1_HasKey)]] : List X.Obj) :: st))) q) (fun k hk => ?_) ?_
  · clear h
    have h := hq13
    clear hq13
    conv => arg 1; cbv
    replace h := bif_cases h
    rcases h with ⟨hb1, h⟩ | ⟨hb1, h⟩
    · refine sat_brt (by first | exact hb1 | ((try clear h); subst_vars; first | exact hb1 | rfl)) ?_
      conv => arg 1; cbv
      refine sat_tick hΩ ?_
      conv => arg 1; cbv
      replace h := bif_cases h
      rcases h with ⟨hb2, h⟩ | ⟨hb2, h⟩
      · refine sat_brt (by first | exact hb2 | ((try clear h); subst_vars; first | exact hb2 | rfl)) ?_
        conv => arg 1; cbv
        replace h := bif_cases h
        rcases h with ⟨hb3, h⟩ | ⟨hb3, h⟩
        · refine sat_brt (by first | exact hb3 | ((try clear h); subst_vars; first | exact hb3 | rfl)) ?_
          conv => arg 1; cbv
          refine sat_tick hΩ ?_
          conv => arg 1; cbv
          obtain ⟨r4, hx5, hz⟩ := Option.bind_eq_some_iff.1 h
          clear h
          have h := hz
          clear hz
          refine sat_call (hp27 hx5 (by (try clear h); subst_vars; rfl) _) ?_
          conv => arg 1; cbv
          replace h := bif_cases h
          rcases h with ⟨hb6, h⟩ | ⟨hb6, h⟩
          · refine sat_brt (by first | exact hb6 | ((try clear h); subst_vars; first | exact hb6 | rfl)) ?_
            conv => arg 1; cbv
            obtain ⟨r7, hx8, hz⟩ := Option.bind_eq_some_iff.1 h
            clear h
            have h := hz
            clear hz
            refine sat_call (hp28 hx8 (by (try clear h); subst_vars; rfl) _) ?_
            conv => arg 1; cbv
            replace h := bif_cases h
            rcases h with ⟨hb9, h⟩ | ⟨hb9, h⟩
            · refine sat_brt (by first | exact hb9 | ((try clear h); subst_vars; first | exact hb9 | rfl)) ?_
              conv => arg 1; cbv
              refine sat_tick hΩ ?_
              conv => arg 1; cbv
              replace h := bif_cases h
              rcases h with ⟨hb10, h⟩ | ⟨hb10, h⟩
              · refine sat_brt (by first | exact hb10 | ((try clear h); subst_vars; first | exact hb10 | rfl)) ?_
                conv => arg 1; cbv
                refine sat_tick hΩ ?_
                conv => arg 1; cbv
                replace h := bif_cases h
                rcases h with ⟨hb11, h⟩ | ⟨hb11, h⟩
                · refine sat_brt (by first | exact hb11 | ((try clear h); subst_vars; first | exact hb11 | rfl)) ?_
                  conv => arg 1; cbv
                  obtain rfl := Option.some.inj h
                  subst_vars
                  first | exact hk | (simp only [ln_set] at hk ⊢; exact hk)
                · refine sat_brf (by first | exact hb11 | ((try clear h); subst_vars; first | exact hb11 | rfl)) ?_
                  conv => arg 1; cbv
                  obtain rfl := Option.some.inj h
                  subst_vars
                  first | exact hk | (simp only [ln_set] at hk ⊢; exact hk)
              · refine sat_brf (by first | exact hb10 | ((try clear h); subst_vars; first | exact hb10 | rfl)) ?_
                conv => arg 1; cbv
                refine sat_tick hΩ ?_
                conv => arg 1; cbv
                obtain rfl := Option.some.inj h
                subst_vars
                first | exact hk | (simp only [ln_set] at hk ⊢; exact hk)
            · refine sat_brf (by first | exact hb9 | ((try clear h); subst_vars; first | exact hb9 | rfl)) ?_
              conv => arg 1; cbv
              refine sat_tick hΩ ?_
              conv => arg 1; cbv
              refine sat_tick hΩ ?_
              conv => arg 1; cbv
              obtain rfl := Option.some.inj h
              subst_vars
              first | exact hk | (simp only [ln_set] at hk ⊢; exact hk)
          · refine sat_brf (by first | exact hb6 | ((try clear h); subst_vars; first | exact hb6 | rfl)) ?_
            conv => arg 1; cbv
            refine sat_tick hΩ ?_
            conv => arg 1; cbv
            refine sat_tick hΩ ?_
            conv => arg 1; cbv
            obtain rfl := Option.some.inj h
            subst_vars
            first | exact hk | (simp only [ln_set] at hk ⊢; exact hk)
        · refine sat_brf (by first | exact hb3 | ((try clear h); subst_vars; first | exact hb3 | rfl)) ?_
          conv => arg 1; cbv
          refine sat_tick hΩ ?_
          conv => arg 1; cbv
          refine sat_tick hΩ ?_
          conv => arg 1; cbv
          refine sat_tick hΩ ?_
          conv => arg 1; cbv
          obtain rfl := Option.some.inj h
          subst_vars
          first | exact hk | (simp only [ln_set] at hk ⊢; exact hk)
      · refine sat_brf (by first | exact hb2 | ((try clear h); subst_vars; first | exact hb2 | rfl)) ?_
        conv => arg 1; cbv
        refine sat_tick hΩ ?_
        conv => arg 1; cbv
        refine sat_tick hΩ ?_
        conv => arg 1; cbv
        refine sat_tick hΩ ?_
        conv => arg 1; cbv
        obtain rfl := Option.some.inj h
        subst_vars
        first | exact hk | (simp only [ln_set] at hk ⊢; exact hk)
    · refine sat_brf (by first | exact hb1 | ((try clear h); subst_vars; first | exact hb1 | rfl)) ?_
      conv => arg 1; cbv
      refine sat_tick hΩ ?_
      conv => arg 1; cbv
      refine sat_tick hΩ ?_
      conv => arg 1; cbv
      refine sat_tick hΩ ?_
      conv => arg 1; cbv
      refine sat_tick hΩ ?_
      conv => arg 1; cbv
      obtain rfl := Option.some.inj h
      subst_vars
      first | exact hk | (simp only [ln_set] at hk ⊢; exact hk)
  · clear hq13
    obtain ⟨i12, hqq⟩ : ∃ x, x = q := ⟨_, rfl⟩
    subst hqq
    try dsimp only at h
    conv => arg 1; cbv
    obtain rfl := Option.some.inj h
    subst_vars
    exact sat_pure rfl
theorem okr27 {Ω : Om} {E : Enc} (hΩ : real (call S) = Ω) (hE : theEnc = E) : ∀ fu,
    (∀ {a0 : Sl Value} {a1 : Sl Value} {r : Bool}, P27 fu a0 a1 = some r → ∀ {args : List PV}, [PV.d (.sl (E.L_Value a0.l) (E.X_Value a0.x)), PV.d (.sl (E.L_Value a1.l) (E.X_Value a1.x))] = args → ∀ (st : St), Sat (Ω.cf 27 args st) (fun q => q = (PV.d (.bool r), st))) ∧
    (∀ {a0 : Sl Field} {a1 : Sl Field} {r : Bool}, P28 fu a0 a1 = some r → ∀ {args : List PV}, [PV.d (.sl (E.L_Field a0.l) (E.X_Field a0.x)), PV.d (.sl (E.L_Field a1.l) (E.X_Field a1.x))] = args → ∀ (st : St), Sat (Ω.cf 28 args st) (fun q => q = (PV.d (.bool r), st))) ∧
    (∀ {a0 : Field} {a1 : Field} {r : Bool}, P51 fu a0 a1 = some r → ∀ {args : List PV}, [pv_Field E a0, pv_Field E a1] = args → ∀ (st : St), Sat (Ω.cf 51 args st) (fun q => q = (PV.d (.bool r), st))) ∧
    (∀ {a0 : Value} {a1 : Value} {r : Bool}, P8 fu a0 a1 = some r → ∀ {args : List PV}, [pv_Value E a0, pv_Value E a1] = args → ∀ (st : St), Sat (Ω.cf 8 args st) (fun q => q = (PV.d (.bool r), st))) := by
  intro fu
  induction fu with
  | zero => exact ⟨(fun h => (by cases h)), (fun h => (by cases h)), (fun h => (by cases h)), (fun h => (by cases h))⟩
  | succ fu ih =>
    obtain ⟨i27, i28, i51, i8⟩ := ih
    exact ⟨(fun h => @fun args ha st => okb27 (fu := fu) hΩ hE i27 i28 i51 i8 h ha st), (fun h => @fun args ha st => okb28 (fu := fu) hΩ hE i27 i28 i51 i8 h ha st), (fun h => @fun args ha st => okb51 (fu := fu) hΩ hE i27 i28 i51 i8 h ha st), (fun h => @fun args ha st => okb8 (fu := fu) hΩ hE i27 i28 i51 i8 h ha st)⟩
theorem ok27 {Ω : Om} {E : Enc} (hΩ : real (call S) = Ω) (hE : theEnc = E) {fu : Nat} : ∀ {a0 : Sl Value} {a1 : Sl Value} {r : Bool}, P27 fu a0 a1 = some r → ∀ {args : List PV}, [PV.d (.sl (E.L_Value a0.l) (E.X_Value a0.x)), PV.d (.sl (E.L_Value a1.l) (E.X_Value a1.x))] = args → ∀ (st : St), Sat (Ω.cf 27 args st) (fun q => q = (PV.d (.bool r), st)) := (okr27 hΩ hE fu).1
theorem ok28 {Ω : Om} {E : Enc} (hΩ : real (call S) = Ω) (hE : theEnc = E) {fu : Nat} : ∀ {a0 : Sl Field} {a1 : Sl Field} {r : Bool}, P28 fu a0 a1 = some r → ∀ {args : List PV}, [PV.d (.sl (E.L_Field a0.l) (E.X_Field a0.x)), PV.d (.sl (E.L_Field a1.l) (E.X_Field a1.x))] = args → ∀ (st : St), Sat (Ω.cf 28 args st) (fun q => q = (PV.d (.bool r), st)) := (okr27 hΩ hE fu).2.1
theorem ok51 {Ω : Om} {E : Enc} (hΩ : real (call S) = Ω) (hE : theEnc = E) {fu : Nat} : ∀ {a0 : Field} {a1 : Field} {r : Bool}, P51 fu a0 a1 = some r → ∀ {args : List PV}, [pv_Field E a0, pv_Field E a1] = args → ∀ (st : St), Sat (Ω.cf 51 args st) (fun q => q = (PV.d (.bool r), st)) := (okr27 hΩ hE fu).2.2.1
theorem ok8 {Ω : Om} {E : Enc} (hΩ : real (call S) = Ω) (hE : theEnc = E) {fu : Nat} : ∀ {a0 : Value} {a1 : Value} {r : Bool}, P8 fu a0 a1 = some r → ∀ {args : List PV}, [pv_Value E a0, pv_Value E a1] = args → ∀ (st : St), Sat (Ω.cf 8 args st) (fun q => q = (PV.d (.bool r), st)) := (okr27 hΩ hE fu).2.2.2
set_option maxHeartbeats 4000000 in
theorem ok43 {Ω : Om} {E : Enc} (hΩ : real (call S) = Ω) (hE : theEnc = E) {fu : Nat} {a0 : Sl Cell} {a1 : Sl Cell} {a2 : (Cell → Cell → Option (Bool))} {a2_g : Nat} (hf : ∀ {x0 : Cell} {x1 : Cell} {r : Bool}, a2 x0 x1 = some r → ∀ {args : List PV}, [pv_Cell E x0, pv_Cell E x1] = args → ∀ (st : St), Sat (Ω.cf a2_g args st) (fun q => q = (PV.d (.bool r), st))) {r : Bool} (h : P43 fu a0 a1 a2 = some r) {args : List PV} (ha : [PV.d (.sl (E.L_Cell a0.l) (E.X_Cell a0.x)), PV.d (.sl (E.L_Cell a1.l) (E.X_Cell a1.x)), PV.d (.fn a2_g [])] = args) (st : St) :
    Sat (Ω.cf 43 args st) (fun q => q = (PV.d (.bool r), st)) := by
  subst ha
  rcases a0 with ⟨a0_l, a0_x⟩
  rcases a1 with ⟨a1_l, a1_x⟩
  rw [cf_body hΩ (f := 43) (fn := Try.f43) (x := c43) rfl rfl c43_ok rfl rfl]
  unfold P43 at h
  try dsimp only at h
  conv => arg 1; cbv
  refine sat_len hΩ (ro_Cell hE) a0_l (by first | rfl | ((try clear h); subst_vars; rfl)) fun n1 hn2 => ?_
  conv => arg 1; cbv
  refine sat_len hΩ (ro_Cell hE) a1_l (by first | rfl | ((try clear h); subst_vars; rfl)) fun n3 hn4 => ?_
  conv => arg 1; cbv
  refine sat_in hΩ ?_
  conv => arg 1; cbv
  replace h := bif_cases h
  rcases h with ⟨hb5, h⟩ | ⟨hb5, h⟩
  · refine sat_brt (by first | exact hb5 | ((try clear h); subst_vars; first | exact hb5 | rfl)) ?_
    conv => arg 1; cbv
    obtain rfl := Option.some.inj h
    subst_vars
    exact sat_pure rfl
  · refine sat_brf (by first | exact hb5 | ((try clear h); subst_vars; first | exact hb5 | rfl)) ?_
    conv => arg 1; cbv
    refine sat_len hΩ (ro_Cell hE) a0_l (by first | rfl | ((try clear h); subst_vars; rfl)) fun n6 hn7 => ?_
    conv => arg 1; cbv
    obtain ⟨q, hl17, hz⟩ := Option.bind_eq_some_iff.1 h
    clear h
    have h := hz
    clear hz
    refine sat_loop hΩ (fun (a : Int) => (match a with | i8 => ([(0, PV.d (.sl (E.L_Cell a0_l) (E.X_Cell a0_x))), (1, PV.d (.sl (E.L_Cell a1_l) (E.X_Cell a1_x))), (2, PV.d (.fn a2_g [])), (6, PV.d (.bool false)), (15, PV.d (.sl (E.L_Cell a0_l) (E.X_Cell a0_x))), (16, PV.d (.int .i64 n6)), (17, PV.d (.int .i64 i8))], ([] : List X.Obj) :: st))) (fun (q : Int ⊕ Int) => (match q with | .inl o18 => (.exit 0, [(0, PV.d (.sl (E.L_Cell a0_l) (E.X_Cell a0_x))), (1, PV.d (.sl (E.L_Cell a1_l) (E.X_Cell a1_x))), (2, PV.d (.fn a2_g [])), (6, PV.d (.bool false)), (15, PV.d (.sl (E.L_Cell a0_l) (E.X_Cell a0_x))), (16, PV.d (.int .i64 n6)), (17, PV.d (.int .i64 o18))], ([] : List X.Obj) :: st) | .inr o19 => (.ret, [(0, PV.d (.sl (E.L_Cell a0_l) (E.X_Cell a0_x))), (1, PV.d (.sl (E.L_Cell a1_l) (E.X_Cell a1_x))), (2, PV.d (.fn a2_g [])), (6, PV.d (.bool false)), (15, PV.d (.sl (E.L_Cell a0_l) (E.X_Cell a0_x))), (16, PV.d (.int .i64 n6)), (17, PV.d (.int .i64 o19))], ([] : List X.Obj) :: st))) 0 hl17 (by first | rfl | ((try clear h); subst_vars; rfl) | ((try clear h); subst_vars; simp only [ln_set])) ?_ ?_
    · clear h hl17
      rintro i8 q h
      unfold P43_s0 at h
      dsimp only at h
      conv => arg 1; cbv
      refine sat_in hΩ ?_
      conv => arg 1; cbv
      replace h := bif_cases h
      rcases h with ⟨hb9, h⟩ | ⟨hb9, h⟩
      · refine sat_brt (by first | exact hb9 | ((try clear h); subst_vars; first | exact hb9 | rfl)) ?_
        conv => arg 1; cbv
        refine sat_true (fits_l hΩ (ro_Cell hE) a0_l (by first | rfl | ((try clear h); subst_vars; rfl))) ?_
        conv => arg 1; cbv
        obtain ⟨⟨x10_Kind, x10_Name, ⟨x10_Value__Kind, x10_Value__N, x10_Value__S, ⟨x10_Value__L_l, x10_Value__L_x⟩, ⟨x10_Value__F_l, x10_Value__F_x⟩, x10_Value__Elem, x10_Value__Key, x10_Value__HasKey⟩, ⟨x10_Next_Kind, x10_Next_N, x10_Next_S, ⟨x10_Next_L_l, x10_Next_L_x⟩, ⟨x10_Next_F_l, x10_Next_F_x⟩, x10_Next_Elem, x10_Next_Key, x10_Next_HasKey⟩, ⟨x10_Deps_l, x10_Deps_x⟩, ⟨x10_Do_l, x10_Do_x⟩, ⟨x10_Undo_l, x10_Undo_x⟩, ⟨x10_Env_l, x10_Env_x⟩, x10_Runs, x10_Ran, ⟨x10_Old_l, x10_Old_x⟩, ⟨x10_Past_l, x10_Past_x⟩⟩, hx11, hz⟩ := Option.bind_eq_some_iff.1 h
        clear h
        have h := hz
        clear hz
        try dsimp only at h
        refine sat_bind (nth_ok hΩ (ro_Cell hE) hx11 (by first | rfl | ((try clear h); subst_vars; rfl)) (by first | rfl | ((try clear h); subst_vars; rfl))) ?_
        conv => arg 1; cbv
        refine sat_true (fits_l hΩ (ro_Cell hE) a1_l (by first | rfl | ((try clear h); subst_vars; rfl))) ?_
        conv => arg 1; cbv
        obtain ⟨⟨x12_Kind, x12_Name, ⟨x12_Value__Kind, x12_Value__N, x12_Value__S, ⟨x12_Value__L_l, x12_Value__L_x⟩, ⟨x12_Value__F_l, x12_Value__F_x⟩, x12_Value__Elem, x12_Value__Key, x12_Value__HasKey⟩, ⟨x12_Next_Kind, x12_Next_N, x12_Next_S, ⟨x12_Next_L_l, x12_Next_L_x⟩, ⟨x12_Next_F_l, x12_Next_F_x⟩, x12_Next_Elem, x12_Next_Key, x12_Next_HasKey⟩, ⟨x12_Deps_l, x12_Deps_x⟩, ⟨x12_Do_l, x12_Do_x⟩, ⟨x12_Undo_l, x12_Undo_x⟩, ⟨x12_Env_l, x12_Env_x⟩, x12_Runs, x12_Ran, ⟨x12_Old_l, x12_Old_x⟩, ⟨x12_Past_l, x12_Past_x⟩⟩, hx13, hz⟩ := Option.bind_eq_some_iff.1 h
        clear h
        have h := hz
        clear hz
        try dsimp only at h
        refine sat_bind (nth_ok hΩ (ro_Cell hE) hx13 (by first | rfl | ((try clear h); subst_vars; rfl)) (by first | rfl | ((try clear h); subst_vars; rfl))) ?_
        conv => arg 1; cbv
        obtain ⟨r14, hx15, hz⟩ := Option.bind_eq_some_iff.1 h
        clear h
        have h := hz
        clear hz
        refine sat_call (hf hx15 (by (try clear h); subst_vars; rfl) _) ?_
        conv => arg 1; cbv
        refine sat_in hΩ ?_
        conv => arg 1; cbv
        replace h := bif_cases h
        rcases h with ⟨hb16, h⟩ | ⟨hb16, h⟩
        · refine sat_brt (by first | exact hb16 | ((try clear h); subst_vars; first | exact hb16 | rfl)) ?_
          conv => arg 1; cbv
          obtain rfl := Option.some.inj h
          subst_vars
          first | exact sat_pure (.inr ⟨rfl, rfl⟩) | (refine sat_pure (.inr ⟨rfl, ?_⟩); dsimp only; simp only [ln_set]; rfl)
        · refine sat_brf (by first | exact hb16 | ((try clear h); subst_vars; first | exact hb16 | rfl)) ?_
          conv => arg 1; cbv
          obtain rfl := Option.some.inj h
          subst_vars
          first | exact sat_pure ⟨rfl, rfl, rfl⟩ | (refine sat_pure ⟨rfl, ?_, ?_⟩ <;> first | rfl | (dsimp only; simp only [ln_set]; rfl))
      · refine sat_brf (by first | exact hb9 | ((try clear h); subst_vars; first | exact hb9 | rfl)) ?_
        conv => arg 1; cbv
        obtain rfl := Option.some.inj h
        subst_vars
        first | exact sat_pure (.inl ⟨⟨_, rfl⟩, rfl⟩) | (refine sat_pure (.inl ⟨⟨_, rfl⟩, ?_⟩); dsimp only; simp only [ln_set]; rfl)
    · clear hl17
      rcases q with o18 | o19
      · dsimp only at h
        conv => arg 1; cbv
        obtain rfl := Option.some.inj h
        subst_vars
        exact sat_pure rfl
      · dsimp only at h
        conv => arg 1; cbv
        obtain rfl := Option.some.inj h
        subst_vars
        exact sat_pure rfl
set_option maxHeartbeats 4000000 in
theorem ok44 {Ω : Om} {E : Enc} (hΩ : real (call S) = Ω) (hE : theEnc = E) {fu : Nat} {a0 : Cell} {a1 : Cell} {r : Bool} (h : P44 fu a0 a1 = some r) {args : List PV} (ha : [pv_Cell E a0, pv_Cell E a1] = args) (st : St) :
    Sat (Ω.cf 44 args st) (fun q => q = (PV.d (.bool r), st)) := by
  subst ha
  rcases a0 with ⟨a0_Kind, a0_Name, ⟨a0_Value__Kind, a0_Value__N, a0_Value__S, ⟨a0_Value__L_l, a0_Value__L_x⟩, ⟨a0_Value__F_l, a0_Value__F_x⟩, a0_Value__Elem, a0_Value__Key, a0_Value__HasKey⟩, ⟨a0_Next_Kind, a0_Next_N, a0_Next_S, ⟨a0_Next_L_l, a0_Next_L_x⟩, ⟨a0_Next_F_l, a0_Next_F_x⟩, a0_Next_Elem, a0_Next_Key, a0_Next_HasKey⟩, ⟨a0_Deps_l, a0_Deps_x⟩, ⟨a0_Do_l, a0_Do_x⟩, ⟨a0_Undo_l, a0_Undo_x⟩, ⟨a0_Env_l, a0_Env_x⟩, a0_Runs, a0_Ran, ⟨a0_Old_l, a0_Old_x⟩, ⟨a0_Past_l, a0_Past_x⟩⟩
  rcases a1 with ⟨a1_Kind, a1_Name, ⟨a1_Value__Kind, a1_Value__N, a1_Value__S, ⟨a1_Value__L_l, a1_Value__L_x⟩, ⟨a1_Value__F_l, a1_Value__F_x⟩, a1_Value__Elem, a1_Value__Key, a1_Value__HasKey⟩, ⟨a1_Next_Kind, a1_Next_N, a1_Next_S, ⟨a1_Next_L_l, a1_Next_L_x⟩, ⟨a1_Next_F_l, a1_Next_F_x⟩, a1_Next_Elem, a1_Next_Key, a1_Next_HasKey⟩, ⟨a1_Deps_l, a1_Deps_x⟩, ⟨a1_Do_l, a1_Do_x⟩, ⟨a1_Undo_l, a1_Undo_x⟩, ⟨a1_Env_l, a1_Env_x⟩, a1_Runs, a1_Ran, ⟨a1_Old_l, a1_Old_x⟩, ⟨a1_Past_l, a1_Past_x⟩⟩
  rw [cf_body hΩ (f := 44) (fn := Try.f44) (x := c44) rfl rfl c44_ok rfl rfl]
  unfold P44 at h
  try dsimp only at h
  conv => arg 1; cbv
  obtain ⟨q, hq3, hz⟩ := Option.bind_eq_some_iff.1 h
  clear h
  have h := hz
  clear hz
  refine sat_grp hΩ ((fun (q : Bool) => (match q with | i2 => ([(0, PV.agg [.d (.int .u8 a0_Kind), .d (.str a0_Name), .d (.int .u8 a0_Value__Kind), .d (.int .i64 a0_Value__N), .d (.str a0_Value__S), .d (.sl (E.L_Value a0_Value__L_l) (E.X_Value a0_Value__L_x)), .d (.sl (E.L_Field a0_Value__F_l) (E.X_Field a0_Value__F_x)), .d (.int .u8 a0_Value__Elem), .d (.str a0_Value__Key), .d (.bool a0_Value__HasKey), .d (.int .u8 a0_Next_Kind), .d (.int .i64 a0_Next_N), .d (.str a0_Next_S), .d (.sl (E.L_Value a0_Next_L_l) (E.X_Value a0_Next_L_x)), .d (.sl (E.L_Field a0_Next_F_l) (E.X_Field a0_Next_F_x)), .d (.int .u8 a0_Next_Elem), .d (.str a0_Next_Key), .d (.bool a0_Next_HasKey), .d (.sl (E.L_Value a0_Deps_l) (E.X_Value a0_Deps_x)), .d (.sl (E.L_Act a0_Do_l) (E.X_Act a0_Do_x)), .d (.sl (E.L_Act a0_Undo_l) (E.X_Act a0_Undo_x)), .d (.sl (E.L_Field a0_Env_l) (E.X_Field a0_Env_x)), .d (.bool a0_Runs), .d (.bool a0_Ran), .d (.sl (E.L_Act a0_Old_l) (E.X_Act a0_Old_x)), .d (.sl (E.L_Field a0_Past_l) (E.X_Field a0_Past_x))]), (1, PV.agg [.d (.int .u8 a1_Kind), .d (.str a1_Name), .d (.int .u8 a1_Value__Kind), .d (.int .i64 a1_Value__N), .d (.str a1_Value__S), .d (.sl (E.L_Value a1_Value__L_l) (E.X_Value a1_Value__L_x)), .d (.sl (E.L_Field a1_Value__F_l) (E.X_Field a1_Value__F_x)), .d (.int .u8 a1_Value__Elem), .d (.str a1_Value__Key), .d (.bool a1_Value__HasKey), .d (.int .u8 a1_Next_Kind), .d (.int .i64 a1_Next_N), .d (.str a1_Next_S), .d (.sl (E.L_Value a1_Next_L_l) (E.X_Value a1_Next_L_x)), .d (.sl (E.L_Field a1_Next_F_l) (E.X_Field a1_Next_F_x)), .d (.int .u8 a1_Next_Elem), .d (.str a1_Next_Key), .d (.bool a1_Next_HasKey), .d (.sl (E.L_Value a1_Deps_l) (E.X_Value a1_Deps_x)), .d (.sl (E.L_Act a1_Do_l) (E.X_Act a1_Do_x)), .d (.sl (E.L_Act a1_Undo_l) (E.X_Act a1_Undo_x)), .d (.sl (E.L_Field a1_Env_l) (E.X_Field a1_Env_x)), .d (.bool a1_Runs), .d (.bool a1_Ran), .d (.sl (E.L_Act a1_Old_l) (E.X_Act a1_Old_x)), .d (.sl (E.L_Field a1_Past_l) (E.X_Field a1_Past_x))]), (2, PV.ptr 0 0 0), (3, PV.ptr 0 1 0), (4, PV.d (.bool i2))], ([X.Obj.box 61 [.d (.int .u8 a0_Kind), .d (.str a0_Name), .d (.int .u8 a0_Value__Kind), .d (.int .i64 a0_Value__N), .d (.str a0_Value__S), .d (.sl (E.L_Value a0_Value__L_l) (E.X_Value a0_Value__L_x)), .d (.sl (E.L_Field a0_Value__F_l) (E.X_Field a0_Value__F_x)), .d (.int .u8 a0_Value__Elem), .d (.str a0_Value__Key), .d (.bool a0_Value__HasKey), .d (.int .u8 a0_Next_Kind), .d (.int .i64 a0_Next_N), .d (.str a0_Next_S), .d (.sl (E.L_Value a0_Next_L_l) (E.X_Value a0_Next_L_x)), .d (.sl (E.L_Field a0_Next_F_l) (E.X_Field a0_Next_F_x)), .d (.int .u8 a0_Next_Elem), .d (.str a0_Next_Key), .d (.bool a0_Next_HasKey), .d (.sl (E.L_Value a0_Deps_l) (E.X_Value a0_Deps_x)), .d (.sl (E.L_Act a0_Do_l) (E.X_Act a0_Do_x)), .d (.sl (E.L_Act a0_Undo_l) (E.X_Act a0_Undo_x)), .d (.sl (E.L_Field a0_Env_l) (E.X_Field a0_Env_x)), .d (.bool a0_Runs), .d (.bool a0_Ran), .d (.sl (E.L_Act a0_Old_l) (E.X_Act a0_Old_x)), .d (.sl (E.L_Field a0_Past_l) (E.X_Field a0_Past_x))], X.Obj.box 61 [.d (.int .u8 a1_Kind), .d (.str a1_Name), .d (.int .u8 a1_Value__Kind), .d (.int .i64 a1_Value__N), .d (.str a1_Value__S), .d (.sl (E.L_Value a1_Value__L_l) (E.X_Value a1_Value__L_x)), .d (.sl (E.L_Field a1_Value__F_l) (E.X_Field a1_Value__F_x)), .d (.int .u8 a1_Value__Elem), .d (.str a1_Value__Key), .d (.bool a1_Value__HasKey), .d (.int .u8 a1_Next_Kind), .d (.int .i64 a1_Next_N), .d (.str a1_Next_S), .d (.sl (E.L_Value a1_Next_L_l) (E.X_Value a1_Next_L_x)), .d (.sl (E.L_Field a1_Next_F_l) (E.X_Field a1_Next_F_x)), .d (.int .u8 a1_Next_Elem), .d (.str a1_Next_Key), .d (.bool a1_Next_HasKey), .d (.sl (E.L_Value a1_Deps_l) (E.X_Value a1_Deps_x)), .d (.sl (E.L_Act a1_Do_l) (E.X_Act a1_Do_x)), .d (.sl (E.L_Act a1_Undo_l) (E.X_Act a1_Undo_x)), .d (.sl (E.L_Field a1_Env_l) (E.X_Field a1_Env_x)), .d (.bool a1_Runs), .d (.bool a1_Ran), .d (.sl (E.L_Act a1_Old_l) (E.X_Act a1_Old_x)), .d (.sl (E.L_Field a1_Past_l) (E.X_Field a1_Past_x))]] : List X.Obj) :: st))) q) (fun k hk => ?_) ?_
  · clear h
    have h := hq3
    clear hq3
    conv => arg 1; cbv
    replace h := bif_cases h
    rcases h with ⟨hb1, h⟩ | ⟨hb1, h⟩
    · refine sat_brt (by first | exact hb1 | ((try clear h); subst_vars; first | exact hb1 | rfl)) ?_
      conv => arg 1; cbv
      refine sat_tick hΩ ?_
      conv => arg 1; cbv
      obtain rfl := Option.some.inj h
      subst_vars
      first | exact hk | (simp only [ln_set] at hk ⊢; exact hk)
    · refine sat_brf (by first | exact hb1 | ((try clear h); subst_vars; first | exact hb1 | rfl)) ?_
      conv => arg 1; cbv
      refine sat_tick hΩ ?_
      conv => arg 1; cbv
      obtain rfl := Option.some.inj h
      subst_vars
      first | exact hk | (simp only [ln_set] at hk ⊢; exact hk)
  · clear hq3
    obtain ⟨i2, hqq⟩ : ∃ x, x = q := ⟨_, rfl⟩
    subst hqq
    try dsimp only at h
    conv => arg 1; cbv
    obtain rfl := Option.some.inj h
    subst_vars
    exact sat_pure rfl
set_option maxHeartbeats 4000000 in
theorem ok20 {Ω : Om} {E : Enc} (hΩ : real (call S) = Ω) (hE : theEnc = E) {fu : Nat} {a0 : Sl Cell} {a1 : Sl Cell} {r : Bool} (h : P20 fu a0 a1 = some r) {args : List PV} (ha : [PV.d (.sl (E.L_Cell a0.l) (E.X_Cell a0.x)), PV.d (.sl (E.L_Cell a1.l) (E.X_Cell a1.x))] = args) (st : St) :
    Sat (Ω.cf 20 args st) (fun q => q = (PV.d (.bool r), st)) := by
  subst ha
  rcases a0 with ⟨a0_l, a0_x⟩
  rcases a1 with ⟨a1_l, a1_x⟩
  rw [cf_body hΩ (f := 20) (fn := Try.f20) (x := c20) rfl rfl c20_ok rfl rfl]
  unfold P20 at h
  try dsimp only at h
  conv => arg 1; cbv
  obtain ⟨r1, hx2, hz⟩ := Option.bind_eq_some_iff.1 h
  clear h
  have h := hz
  clear hz
  refine sat_call (ok43 hΩ hE (hf := fun h => @fun args ha st => ok44 hΩ hE h ha st) hx2 (by (try clear h); subst_vars; rfl) _) ?_
  conv => arg 1; cbv
  obtain rfl := Option.some.inj h
  subst_vars
  exact sat_pure rfl
set_option maxHeartbeats 4000000 in
theorem ok22 {Ω : Om} {E : Enc} (hΩ : real (call S) = Ω) (hE : theEnc = E) {fu : Nat} {a0 : Sl Cell} {r : (Sl Cell)} (h : P22 fu a0 = some r) {args : List PV} (ha : [PV.d (.sl (E.L_Cell a0.l) (E.X_Cell a0.x))] = args) (st : St) :
    Sat (Ω.cf 22 args st) (fun q => q = (PV.d (.sl (E.L_Cell r.l) (E.X_Cell r.x)), st)) := by
  subst ha
  rcases a0 with ⟨a0_l, a0_x⟩
  rw [cf_body hΩ (f := 22) (fn := Try.f22) (x := c22) rfl rfl c22_ok rfl rfl]
  unfold P22 at h
  try dsimp only at h
  conv => arg 1; cbv
  obtain ⟨r2, hx1, hz⟩ := Option.bind_eq_some_iff.1 h
  clear h
  have h := hz
  clear hz
  obtain ⟨n3, hn4⟩ : ∃ n, ln r2 = n := ⟨_, rfl⟩
  refine sat_call (ok42 hΩ hE (st := ([] : List X.Obj) :: st) hx1 (by (try clear h); subst_vars; rfl) rfl hn4) ?_
  conv => arg 1; cbv
  obtain ⟨q, hl22, hz⟩ := Option.bind_eq_some_iff.1 h
  clear h
  have h := hz
  clear hz
  refine sat_loop hΩ (fun (a : (List Cell) × Int) => (match a with | (l5, i6) => ([(0, PV.d (.sl (E.L_Cell a0_l) (E.X_Cell a0_x))), (2, PV.d (.sl [] (some []))), (3, PV.row 0 0 (ln l5)), (8, PV.d (.int .i64 n3)), (9, PV.d (.int .i64 i6))], ([X.Obj.row 61 26 (E.L_Cell l5) true none] : List X.Obj) :: st))) (fun (q : ((List Cell) × Int)) => (match q with | (o23, o24) => (.exit 0, [(0, PV.d (.sl (E.L_Cell a0_l) (E.X_Cell a0_x))), (2, PV.d (.sl [] (some []))), (3, PV.row 0 0 (ln o23)), (8, PV.d (.int .i64 n3)), (9, PV.d (.int .i64 o24))], ([X.Obj.row 61 26 (E.L_Cell o23) true none] : List X.Obj) :: st))) (r2, 0) hl22 (by first | rfl | ((try clear h); subst_vars; rfl) | ((try clear h); subst_vars; simp only [ln_set])) ?_ ?_
  · clear h hl22
    rintro ⟨l5, i6⟩ q h
    unfold P22_s0 at h
    dsimp only at h
    obtain ⟨ln_l5, hln_l5⟩ : ∃ n, ln l5 = n := ⟨_, rfl⟩
    simp only [hln_l5]
    conv => arg 1; cbv
    refine sat_in hΩ ?_
    conv => arg 1; cbv
    replace h := bif_cases h
    rcases h with ⟨hb7, h⟩ | ⟨hb7, h⟩
    · refine sat_brt (by first | exact hb7 | ((try clear h); subst_vars; first | exact hb7 | rfl)) ?_
      conv => arg 1; cbv
      refine sat_true (len_ok hΩ (ro_Cell hE) l5 (by first | rfl | ((try clear h); subst_vars; rfl) | ((try clear h); subst_vars; simp only [ln_set])) (by first | rfl | ((try clear h); subst_vars; rfl) | ((try clear h); subst_vars; simp only [ln_set]))) ?_
      conv => arg 1; cbv
      obtain ⟨⟨x8_Kind, x8_Name, ⟨x8_Value__Kind, x8_Value__N, x8_Value__S, ⟨x8_Value__L_l, x8_Value__L_x⟩, ⟨x8_Value__F_l, x8_Value__F_x⟩, x8_Value__Elem, x8_Value__Key, x8_Value__HasKey⟩, ⟨x8_Next_Kind, x8_Next_N, x8_Next_S, ⟨x8_Next_L_l, x8_Next_L_x⟩, ⟨x8_Next_F_l, x8_Next_F_x⟩, x8_Next_Elem, x8_Next_Key, x8_Next_HasKey⟩, ⟨x8_Deps_l, x8_Deps_x⟩, ⟨x8_Do_l, x8_Do_x⟩, ⟨x8_Undo_l, x8_Undo_x⟩, ⟨x8_Env_l, x8_Env_x⟩, x8_Runs, x8_Ran, ⟨x8_Old_l, x8_Old_x⟩, ⟨x8_Past_l, x8_Past_x⟩⟩, hx9, hz⟩ := Option.bind_eq_some_iff.1 h
      clear h
      have h := hz
      clear hz
      try dsimp only at h
      refine sat_bind (nth_ok hΩ (ro_Cell hE) hx9 (by first | rfl | ((try clear h); subst_vars; rfl)) (by first | rfl | ((try clear h); subst_vars; rfl))) ?_
      conv => arg 1; cbv
      refine sat_true (len_ok hΩ (ro_Cell hE) l5 (by first | rfl | ((try clear h); subst_vars; rfl) | ((try clear h); subst_vars; simp only [ln_set])) (by first | rfl | ((try clear h); subst_vars; rfl) | ((try clear h); subst_vars; simp only [ln_set]))) ?_
      conv => arg 1; cbv
      refine sat_bind (nth_ok hΩ (ro_Cell hE) hx9 (by first | rfl | ((try clear h); subst_vars; rfl)) (by first | rfl | ((try clear h); subst_vars; rfl))) ?_
      conv => arg 1; cbv
      obtain ⟨q, hq21, hz⟩ := Option.bind_eq_some_iff.1 h
      clear h
      have h := hz
      clear hz
      refine sat_grp hΩ ((fun (q : (List Cell)) => (match q with | l20 => (.normal, [(0, PV.d (.sl (E.L_Cell a0_l) (E.X_Cell a0_x))), (2, PV.d (.sl [] (some []))), (3, PV.row 0 0 (ln l20)), (4, PV.d (.int .i64 i6)), (8, PV.d (.int .i64 n3)), (9, PV.d (.int .i64 i6))], ([X.Obj.row 61 26 (E.L_Cell l20) true none] : List X.Obj) :: st))) q) (fun k hk => ?_) ?_
      · clear h
        have h := hq21
        clear hq21
        conv => arg 1; cbv
        replace h := bif_cases h
        rcases h with ⟨hb10, h⟩ | ⟨hb10, h⟩
        · refine sat_brt (by first | exact hb10 | ((try clear h); subst_vars; first | exact hb10 | rfl)) ?_
          conv => arg 1; cbv
          refine sat_true (len_ok hΩ (ro_Cell hE) l5 (by first | rfl | ((try clear h); subst_vars; rfl) | ((try clear h); subst_vars; simp only [ln_set])) (by first | rfl | ((try clear h); subst_vars; rfl) | ((try clear h); subst_vars; simp only [ln_set]))) ?_
          conv => arg 1; cbv
          obtain ⟨⟨x11_Kind, x11_Name, ⟨x11_Value__Kind, x11_Value__N, x11_Value__S, ⟨x11_Value__L_l, x11_Value__L_x⟩, ⟨x11_Value__F_l, x11_Value__F_x⟩, x11_Value__Elem, x11_Value__Key, x11_Value__HasKey⟩, ⟨x11_Next_Kind, x11_Next_N, x11_Next_S, ⟨x11_Next_L_l, x11_Next_L_x⟩, ⟨x11_Next_F_l, x11_Next_F_x⟩, x11_Next_Elem, x11_Next_Key, x11_Next_HasKey⟩, ⟨x11_Deps_l, x11_Deps_x⟩, ⟨x11_Do_l, x11_Do_x⟩, ⟨x11_Undo_l, x11_Undo_x⟩, ⟨x11_Env_l, x11_Env_x⟩, x11_Runs, x11_Ran, ⟨x11_Old_l, x11_Old_x⟩, ⟨x11_Past_l, x11_Past_x⟩⟩, hx12, hz⟩ := Option.bind_eq_some_iff.1 h
          clear h
          have h := hz
          clear hz
          try dsimp only at h
          refine sat_bind (nth_ok hΩ (ro_Cell hE) hx12 (by first | rfl | ((try clear h); subst_vars; rfl)) (by first | rfl | ((try clear h); subst_vars; rfl))) ?_
          conv => arg 1; cbv
          refine sat_true (len_ok hΩ (ro_Cell hE) l5 (by first | rfl | ((try clear h); subst_vars; rfl) | ((try clear h); subst_vars; simp only [ln_set])) (by first | rfl | ((try clear h); subst_vars; rfl) | ((try clear h); subst_vars; simp only [ln_set]))) ?_
          conv => arg 1; cbv
          refine sat_bind (nth_ok hΩ (ro_Cell hE) hx12 (by first | rfl | ((try clear h); subst_vars; rfl)) (by first | rfl | ((try clear h); subst_vars; rfl))) ?_
          conv => arg 1; cbv
          obtain ⟨⟨r13_Kind, r13_N, r13_S, ⟨r13_L_l, r13_L_x⟩, ⟨r13_F_l, r13_F_x⟩, r13_Elem, r13_Key, r13_HasKey⟩, hx14, hz⟩ := Option.bind_eq_some_iff.1 h
          clear h
          have h := hz
          clear hz
          try dsimp only at h
          refine sat_call (ok26 hΩ hE hx14 (by (try clear h); subst_vars; rfl) _) ?_
          conv => arg 1; cbv
          refine sat_true (len_ok hΩ (ro_Cell hE) l5 (by first | rfl | ((try clear h); subst_vars; rfl) | ((try clear h); subst_vars; simp only [ln_set])) (by first | rfl | ((try clear h); subst_vars; rfl) | ((try clear h); subst_vars; simp only [ln_set]))) ?_
          conv => arg 1; cbv
          obtain ⟨⟨x15_Kind, x15_Name, ⟨x15_Value__Kind, x15_Value__N, x15_Value__S, ⟨x15_Value__L_l, x15_Value__L_x⟩, ⟨x15_Value__F_l, x15_Value__F_x⟩, x15_Value__Elem, x15_Value__Key, x15_Value__HasKey⟩, ⟨x15_Next_Kind, x15_Next_N, x15_Next_S, ⟨x15_Next_L_l, x15_Next_L_x⟩, ⟨x15_Next_F_l, x15_Next_F_x⟩, x15_Next_Elem, x15_Next_Key, x15_Next_HasKey⟩, ⟨x15_Deps_l, x15_Deps_x⟩, ⟨x15_Do_l, x15_Do_x⟩, ⟨x15_Undo_l, x15_Undo_x⟩, ⟨x15_Env_l, x15_Env_x⟩, x15_Runs, x15_Ran, ⟨x15_Old_l, x15_Old_x⟩, ⟨x15_Past_l, x15_Past_x⟩⟩, hx16, hz⟩ := Option.bind_eq_some_iff.1 h
          clear h
          have h := hz
          clear hz
          try dsimp only at h
          refine sat_bind (nth_ok hΩ (ro_Cell hE) hx16 (by first | rfl | ((try clear h); subst_vars; rfl)) (by first | rfl | ((try clear h); subst_vars; rfl))) ?_
          conv => arg 1; cbv
          refine sat_true (len_ok hΩ (ro_Cell hE) l5 (by first | rfl | ((try clear h); subst_vars; rfl) | ((try clear h); subst_vars; simp only [ln_set])) (by first | rfl | ((try clear h); subst_vars; rfl) | ((try clear h); subst_vars; simp only [ln_set]))) ?_
          conv => arg 1; cbv
          refine sat_bind (nth_ok hΩ (ro_Cell hE) hx16 (by first | rfl | ((try clear h); subst_vars; rfl)) (by first | rfl | ((try clear h); subst_vars; rfl))) ?_
          conv => arg 1; cbv
          refine sat_set hΩ (ro_Cell hE) l5 i6 (Cell.mk x15_Kind x15_Name (Value.mk r13_Kind r13_N r13_S (Sl.mk r13_L_l r13_L_x) (Sl.mk r13_F_l r13_F_x) r13_Elem r13_Key r13_HasKey) (Value.mk x15_Next_Kind x15_Next_N x15_Next_S (Sl.mk x15_Next_L_l x15_Next_L_x) (Sl.mk x15_Next_F_l x15_Next_F_x) x15_Next_Elem x15_Next_Key x15_Next_HasKey) (Sl.mk x15_Deps_l x15_Deps_x) (Sl.mk x15_Do_l x15_Do_x) (Sl.mk x15_Undo_l x15_Undo_x) (Sl.mk x15_Env_l x15_Env_x) x15_Runs x15_Ran (Sl.mk x15_Old_l x15_Old_x) (Sl.mk x15_Past_l x15_Past_x)) (by first | rfl | ((try clear h); subst_vars; rfl)) (by first | rfl | ((try clear h); subst_vars; rfl)) (by first | rfl | ((try clear h); subst_vars; rfl)) fun l17 hl18 => ?_
          conv => arg 1; cbv
          obtain rfl := Option.some.inj h
          subst_vars
          first | exact hk | (simp only [ln_set] at hk ⊢; exact hk)
        · refine sat_brf (by first | exact hb10 | ((try clear h); subst_vars; first | exact hb10 | rfl)) ?_
          conv => arg 1; cbv
          obtain rfl := Option.some.inj h
          subst_vars
          first | exact hk | (simp only [ln_set] at hk ⊢; exact hk)
      · clear hq21
        obtain ⟨l20, hqq⟩ : ∃ x, x = q := ⟨_, rfl⟩
        subst hqq
        try dsimp only at h
        obtain ⟨ln_l20, hln_l20⟩ : ∃ n, ln l20 = n := ⟨_, rfl⟩
        simp only [hln_l20]
        conv => arg 1; cbv
        obtain rfl := Option.some.inj h
        subst_vars
        first | exact sat_pure ⟨rfl, rfl, rfl⟩ | (refine sat_pure ⟨rfl, ?_, ?_⟩ <;> first | rfl | (dsimp only; simp only [ln_set]; rfl))
    · refine sat_brf (by first | exact hb7 | ((try clear h); subst_vars; first | exact hb7 | rfl)) ?_
      conv => arg 1; cbv
      obtain rfl := Option.some.inj h
      subst_vars
      first | exact sat_pure (.inl ⟨⟨_, rfl⟩, rfl⟩) | (refine sat_pure (.inl ⟨⟨_, rfl⟩, ?_⟩); dsimp only; simp only [ln_set]; rfl)
  · clear hl22
    rcases q with ⟨o23, o24⟩
    dsimp only at h
    obtain ⟨ln_o23, hln_o23⟩ : ∃ n, ln o23 = n := ⟨_, rfl⟩
    simp only [hln_o23]
    conv => arg 1; cbv
    refine sat_true (len_ok hΩ (ro_Cell hE) o23 (by first | rfl | ((try clear h); subst_vars; rfl) | ((try clear h); subst_vars; simp only [ln_set])) (by first | rfl | ((try clear h); subst_vars; rfl) | ((try clear h); subst_vars; simp only [ln_set]))) ?_
    conv => arg 1; cbv
    obtain rfl := Option.some.inj h
    subst_vars
    exact sat_pure rfl
set_option maxHeartbeats 4000000 in
theorem ok36 {Ω : Om} {E : Enc} (hΩ : real (call S) = Ω) (hE : theEnc = E) {fu : Nat} {a0 : Sl Value} {a1 : Sl Value} {a2 : (Value → Value → Option (Bool))} {a2_g : Nat} (hf : ∀ {x0 : Value} {x1 : Value} {r : Bool}, a2 x0 x1 = some r → ∀ {args : List PV}, [pv_Value E x0, pv_Value E x1] = args → ∀ (st : St), Sat (Ω.cf a2_g args st) (fun q => q = (PV.d (.bool r), st))) {r : Bool} (h : P36 fu a0 a1 a2 = some r) {args : List PV} (ha : [PV.d (.sl (E.L_Value a0.l) (E.X_Value a0.x)), PV.d (.sl (E.L_Value a1.l) (E.X_Value a1.x)), PV.d (.fn a2_g [])] = args) (st : St) :
    Sat (Ω.cf 36 args st) (fun q => q = (PV.d (.bool r), st)) := by
  subst ha
  rcases a0 with ⟨a0_l, a0_x⟩
  rcases a1 with ⟨a1_l, a1_x⟩
  rw [cf_body hΩ (f := 36) (fn := Try.f36) (x := c36) rfl rfl c36_ok rfl rfl]
  unfold P36 at h
  try dsimp only at h
  conv => arg 1; cbv
  refine sat_len hΩ (ro_Value hE) a0_l (by first | rfl | ((try clear h); subst_vars; rfl)) fun n1 hn2 => ?_
  conv => arg 1; cbv
  refine sat_len hΩ (ro_Value hE) a1_l (by first | rfl | ((try clear h); subst_vars; rfl)) fun n3 hn4 => ?_
  conv => arg 1; cbv
  refine sat_in hΩ ?_
  conv => arg 1; cbv
  replace h := bif_cases h
  rcases h with ⟨hb5, h⟩ | ⟨hb5, h⟩
  · refine sat_brt (by first | exact hb5 | ((try clear h); subst_vars; first | exact hb5 | rfl)) ?_
    conv => arg 1; cbv
    obtain rfl := Option.some.inj h
    subst_vars
    exact sat_pure rfl
  · refine sat_brf (by first | exact hb5 | ((try clear h); subst_vars; first | exact hb5 | rfl)) ?_
    conv => arg 1; cbv
    refine sat_len hΩ (ro_Value hE) a0_l (by first | rfl | ((try clear h); subst_vars; rfl)) fun n6 hn7 => ?_
    conv => arg 1; cbv
    obtain ⟨q, hl17, hz⟩ := Option.bind_eq_some_iff.1 h
    clear h
    have h := hz
    clear hz
    refine sat_loop hΩ (fun (a : Int) => (match a with | i8 => ([(0, PV.d (.sl (E.L_Value a0_l) (E.X_Value a0_x))), (1, PV.d (.sl (E.L_Value a1_l) (E.X_Value a1_x))), (2, PV.d (.fn a2_g [])), (6, PV.d (.bool false)), (15, PV.d (.sl (E.L_Value a0_l) (E.X_Value a0_x))), (16, PV.d (.int .i64 n6)), (17, PV.d (.int .i64 i8))], ([] : List X.Obj) :: st))) (fun (q : Int ⊕ Int) => (match q with | .inl o18 => (.exit 0, [(0, PV.d (.sl (E.L_Value a0_l) (E.X_Value a0_x))), (1, PV.d (.sl (E.L_Value a1_l) (E.X_Value a1_x))), (2, PV.d (.fn a2_g [])), (6, PV.d (.bool false)), (15, PV.d (.sl (E.L_Value a0_l) (E.X_Value a0_x))), (16, PV.d (.int .i64 n6)), (17, PV.d (.int .i64 o18))], ([] : List X.Obj) :: st) | .inr o19 => (.ret, [(0, PV.d (.sl (E.L_Value a0_l) (E.X_Value a0_x))), (1, PV.d (.sl (E.L_Value a1_l) (E.X_Value a1_x))), (2, PV.d (.fn a2_g [])), (6, PV.d (.bool false)), (15, PV.d (.sl (E.L_Value a0_l) (E.X_Value a0_x))), (16, PV.d (.int .i64 n6)), (17, PV.d (.int .i64 o19))], ([] : List X.Obj) :: st))) 0 hl17 (by first | rfl | ((try clear h); subst_vars; rfl) | ((try clear h); subst_vars; simp only [ln_set])) ?_ ?_
    · clear h hl17
      rintro i8 q h
      unfold P36_s0 at h
      dsimp only at h
      conv => arg 1; cbv
      refine sat_in hΩ ?_
      conv => arg 1; cbv
      replace h := bif_cases h
      rcases h with ⟨hb9, h⟩ | ⟨hb9, h⟩
      · refine sat_brt (by first | exact hb9 | ((try clear h); subst_vars; first | exact hb9 | rfl)) ?_
        conv => arg 1; cbv
        refine sat_true (fits_l hΩ (ro_Value hE) a0_l (by first | rfl | ((try clear h); subst_vars; rfl))) ?_
        conv => arg 1; cbv
        obtain ⟨⟨x10_Kind, x10_N, x10_S, ⟨x10_L_l, x10_L_x⟩, ⟨x10_F_l, x10_F_x⟩, x10_Elem, x10_Key, x10_HasKey⟩, hx11, hz⟩ := Option.bind_eq_some_iff.1 h
        clear h
        have h := hz
        clear hz
        try dsimp only at h
        refine sat_bind (nth_ok hΩ (ro_Value hE) hx11 (by first | rfl | ((try clear h); subst_vars; rfl)) (by first | rfl | ((try clear h); subst_vars; rfl))) ?_
        conv => arg 1; cbv
        refine sat_true (fits_l hΩ (ro_Value hE) a1_l (by first | rfl | ((try clear h); subst_vars; rfl))) ?_
        conv => arg 1; cbv
        obtain ⟨⟨x12_Kind, x12_N, x12_S, ⟨x12_L_l, x12_L_x⟩, ⟨x12_F_l, x12_F_x⟩, x12_Elem, x12_Key, x12_HasKey⟩, hx13, hz⟩ := Option.bind_eq_some_iff.1 h
        clear h
        have h := hz
        clear hz
        try dsimp only at h
        refine sat_bind (nth_ok hΩ (ro_Value hE) hx13 (by first | rfl | ((try clear h); subst_vars; rfl)) (by first | rfl | ((try clear h); subst_vars; rfl))) ?_
        conv => arg 1; cbv
        obtain ⟨r14, hx15, hz⟩ := Option.bind_eq_some_iff.1 h
        clear h
        have h := hz
        clear hz
        refine sat_call (hf hx15 (by (try clear h); subst_vars; rfl) _) ?_
        conv => arg 1; cbv
        refine sat_in hΩ ?_
        conv => arg 1; cbv
        replace h := bif_cases h
        rcases h with ⟨hb16, h⟩ | ⟨hb16, h⟩
        · refine sat_brt (by first | exact hb16 | ((try clear h); subst_vars; first | exact hb16 | rfl)) ?_
          conv => arg 1; cbv
          obtain rfl := Option.some.inj h
          subst_vars
          first | exact sat_pure (.inr ⟨rfl, rfl⟩) | (refine sat_pure (.inr ⟨rfl, ?_⟩); dsimp only; simp only [ln_set]; rfl)
        · refine sat_brf (by first | exact hb16 | ((try clear h); subst_vars; first | exact hb16 | rfl)) ?_
          conv => arg 1; cbv
          obtain rfl := Option.some.inj h
          subst_vars
          first | exact sat_pure ⟨rfl, rfl, rfl⟩ | (refine sat_pure ⟨rfl, ?_, ?_⟩ <;> first | rfl | (dsimp only; simp only [ln_set]; rfl))
      · refine sat_brf (by first | exact hb9 | ((try clear h); subst_vars; first | exact hb9 | rfl)) ?_
        conv => arg 1; cbv
        obtain rfl := Option.some.inj h
        subst_vars
        first | exact sat_pure (.inl ⟨⟨_, rfl⟩, rfl⟩) | (refine sat_pure (.inl ⟨⟨_, rfl⟩, ?_⟩); dsimp only; simp only [ln_set]; rfl)
    · clear hl17
      rcases q with o18 | o19
      · dsimp only at h
        conv => arg 1; cbv
        obtain rfl := Option.some.inj h
        subst_vars
        exact sat_pure rfl
      · dsimp only at h
        conv => arg 1; cbv
        obtain rfl := Option.some.inj h
        subst_vars
        exact sat_pure rfl
set_option maxHeartbeats 4000000 in
theorem ok72 {Ω : Om} {E : Enc} (hΩ : real (call S) = Ω) (hE : theEnc = E) {fu : Nat} {a0 : Sl Field} {a1 : Sl Field} {a2 : (Field → Field → Option (Bool))} {a2_g : Nat} (hf : ∀ {x0 : Field} {x1 : Field} {r : Bool}, a2 x0 x1 = some r → ∀ {args : List PV}, [pv_Field E x0, pv_Field E x1] = args → ∀ (st : St), Sat (Ω.cf a2_g args st) (fun q => q = (PV.d (.bool r), st))) {r : Bool} (h : P72 fu a0 a1 a2 = some r) {args : List PV} (ha : [PV.d (.sl (E.L_Field a0.l) (E.X_Field a0.x)), PV.d (.sl (E.L_Field a1.l) (E.X_Field a1.x)), PV.d (.fn a2_g [])] = args) (st : St) :
    Sat (Ω.cf 72 args st) (fun q => q = (PV.d (.bool r), st)) := by
  subst ha
  rcases a0 with ⟨a0_l, a0_x⟩
  rcases a1 with ⟨a1_l, a1_x⟩
  rw [cf_body hΩ (f := 72) (fn := Try.f72) (x := c72) rfl rfl c72_ok rfl rfl]
  unfold P72 at h
  try dsimp only at h
  conv => arg 1; cbv
  refine sat_len hΩ (ro_Field hE) a0_l (by first | rfl | ((try clear h); subst_vars; rfl)) fun n1 hn2 => ?_
  conv => arg 1; cbv
  refine sat_len hΩ (ro_Field hE) a1_l (by first | rfl | ((try clear h); subst_vars; rfl)) fun n3 hn4 => ?_
  conv => arg 1; cbv
  refine sat_in hΩ ?_
  conv => arg 1; cbv
  replace h := bif_cases h
  rcases h with ⟨hb5, h⟩ | ⟨hb5, h⟩
  · refine sat_brt (by first | exact hb5 | ((try clear h); subst_vars; first | exact hb5 | rfl)) ?_
    conv => arg 1; cbv
    obtain rfl := Option.some.inj h
    subst_vars
    exact sat_pure rfl
  · refine sat_brf (by first | exact hb5 | ((try clear h); subst_vars; first | exact hb5 | rfl)) ?_
    conv => arg 1; cbv
    refine sat_len hΩ (ro_Field hE) a0_l (by first | rfl | ((try clear h); subst_vars; rfl)) fun n6 hn7 => ?_
    conv => arg 1; cbv
    obtain ⟨q, hl17, hz⟩ := Option.bind_eq_some_iff.1 h
    clear h
    have h := hz
    clear hz
    refine sat_loop hΩ (fun (a : Int) => (match a with | i8 => ([(0, PV.d (.sl (E.L_Field a0_l) (E.X_Field a0_x))), (1, PV.d (.sl (E.L_Field a1_l) (E.X_Field a1_x))), (2, PV.d (.fn a2_g [])), (6, PV.d (.bool false)), (15, PV.d (.sl (E.L_Field a0_l) (E.X_Field a0_x))), (16, PV.d (.int .i64 n6)), (17, PV.d (.int .i64 i8))], ([] : List X.Obj) :: st))) (fun (q : Int ⊕ Int) => (match q with | .inl o18 => (.exit 0, [(0, PV.d (.sl (E.L_Field a0_l) (E.X_Field a0_x))), (1, PV.d (.sl (E.L_Field a1_l) (E.X_Field a1_x))), (2, PV.d (.fn a2_g [])), (6, PV.d (.bool false)), (15, PV.d (.sl (E.L_Field a0_l) (E.X_Field a0_x))), (16, PV.d (.int .i64 n6)), (17, PV.d (.int .i64 o18))], ([] : List X.Obj) :: st) | .inr o19 => (.ret, [(0, PV.d (.sl (E.L_Field a0_l) (E.X_Field a0_x))), (1, PV.d (.sl (E.L_Field a1_l) (E.X_Field a1_x))), (2, PV.d (.fn a2_g [])), (6, PV.d (.bool false)), (15, PV.d (.sl (E.L_Field a0_l) (E.X_Field a0_x))), (16, PV.d (.int .i64 n6)), (17, PV.d (.int .i64 o19))], ([] : List X.Obj) :: st))) 0 hl17 (by first | rfl | ((try clear h); subst_vars; rfl) | ((try clear h); subst_vars; simp only [ln_set])) ?_ ?_
    · clear h hl17
      rintro i8 q h
      unfold P72_s0 at h
      dsimp only at h
      conv => arg 1; cbv
      refine sat_in hΩ ?_
      conv => arg 1; cbv
      replace h := bif_cases h
      rcases h with ⟨hb9, h⟩ | ⟨hb9, h⟩
      · refine sat_brt (by first | exact hb9 | ((try clear h); subst_vars; first | exact hb9 | rfl)) ?_
        conv => arg 1; cbv
        refine sat_true (fits_l hΩ (ro_Field hE) a0_l (by first | rfl | ((try clear h); subst_vars; rfl))) ?_
        conv => arg 1; cbv
        obtain ⟨⟨x10_Name, ⟨x10_Value__Kind, x10_Value__N, x10_Value__S, ⟨x10_Value__L_l, x10_Value__L_x⟩, ⟨x10_Value__F_l, x10_Value__F_x⟩, x10_Value__Elem, x10_Value__Key, x10_Value__HasKey⟩⟩, hx11, hz⟩ := Option.bind_eq_some_iff.1 h
        clear h
        have h := hz
        clear hz
        try dsimp only at h
        refine sat_bind (nth_ok hΩ (ro_Field hE) hx11 (by first | rfl | ((try clear h); subst_vars; rfl)) (by first | rfl | ((try clear h); subst_vars; rfl))) ?_
        conv => arg 1; cbv
        refine sat_true (fits_l hΩ (ro_Field hE) a1_l (by first | rfl | ((try clear h); subst_vars; rfl))) ?_
        conv => arg 1; cbv
        obtain ⟨⟨x12_Name, ⟨x12_Value__Kind, x12_Value__N, x12_Value__S, ⟨x12_Value__L_l, x12_Value__L_x⟩, ⟨x12_Value__F_l, x12_Value__F_x⟩, x12_Value__Elem, x12_Value__Key, x12_Value__HasKey⟩⟩, hx13, hz⟩ := Option.bind_eq_some_iff.1 h
        clear h
        have h := hz
        clear hz
        try dsimp only at h
        refine sat_bind (nth_ok hΩ (ro_Field hE) hx13 (by first | rfl | ((try clear h); subst_vars; rfl)) (by first | rfl | ((try clear h); subst_vars; rfl))) ?_
        conv => arg 1; cbv
        obtain ⟨r14, hx15, hz⟩ := Option.bind_eq_some_iff.1 h
        clear h
        have h := hz
        clear hz
        refine sat_call (hf hx15 (by (try clear h); subst_vars; rfl) _) ?_
        conv => arg 1; cbv
        refine sat_in hΩ ?_
        conv => arg 1; cbv
        replace h := bif_cases h
        rcases h with ⟨hb16, h⟩ | ⟨hb16, h⟩
        · refine sat_brt (by first | exact hb16 | ((try clear h); subst_vars; first | exact hb16 | rfl)) ?_
          conv => arg 1; cbv
          obtain rfl := Option.some.inj h
          subst_vars
          first | exact sat_pure (.inr ⟨rfl, rfl⟩) | (refine sat_pure (.inr ⟨rfl, ?_⟩); dsimp only; simp only [ln_set]; rfl)
        · refine sat_brf (by first | exact hb16 | ((try clear h); subst_vars; first | exact hb16 | rfl)) ?_
          conv => arg 1; cbv
          obtain rfl := Option.some.inj h
          subst_vars
          first | exact sat_pure ⟨rfl, rfl, rfl⟩ | (refine sat_pure ⟨rfl, ?_, ?_⟩ <;> first | rfl | (dsimp only; simp only [ln_set]; rfl))
      · refine sat_brf (by first | exact hb9 | ((try clear h); subst_vars; first | exact hb9 | rfl)) ?_
        conv => arg 1; cbv
        obtain rfl := Option.some.inj h
        subst_vars
        first | exact sat_pure (.inl ⟨⟨_, rfl⟩, rfl⟩) | (refine sat_pure (.inl ⟨⟨_, rfl⟩, ?_⟩); dsimp only; simp only [ln_set]; rfl)
    · clear hl17
      rcases q with o18 | o19
      · dsimp only at h
        conv => arg 1; cbv
        obtain rfl := Option.some.inj h
        subst_vars
        exact sat_pure rfl
      · dsimp only at h
        conv => arg 1; cbv
        obtain rfl := Option.some.inj h
        subst_vars
        exact sat_pure rfl
set_option maxHeartbeats 4000000 in
theorem okb32 {Ω : Om} {E : Enc} (hΩ : real (call S) = Ω) (hE : theEnc = E) {fu : Nat} {p32 : Value → Value → Option (Bool)} (hp32 : ∀ {a0 : Value} {a1 : Value} {r : Bool}, p32 a0 a1 = some r → ∀ {args : List PV}, [pv_Value E a0, pv_Value E a1] = args → ∀ (st : St), Sat (Ω.cf 32 args st) (fun q => q = (PV.d (.bool r), st))) {p55 : (Sl Field) → (Sl Field) → Option (Bool)} (hp55 : ∀ {a0 : Sl Field} {a1 : Sl Field} {r : Bool}, p55 a0 a1 = some r → ∀ {args : List PV}, [PV.d (.sl (E.L_Field a0.l) (E.X_Field a0.x)), PV.d (.sl (E.L_Field a1.l) (E.X_Field a1.x))] = args → ∀ (st : St), Sat (Ω.cf 55 args st) (fun q => q = (PV.d (.bool r), st))) {p73 : Field → Field → Option (Bool)} (hp73 : ∀ {a0 : Field} {a1 : Field} {r : Bool}, p73 a0 a1 = some r → ∀ {args : List PV}, [pv_Field E a0, pv_Field E a1] = args → ∀ (st : St), Sat (Ω.cf 73 args st) (fun q => q = (PV.d (.bool r), st))) {a0 : Value} {a1 : Value} {r : Bool} (h : Pb32 fu p32 p55 p73 a0 a1 = some r) {args : List PV} (ha : [pv_Value E a0, pv_Value E a1] = args) (st : St) :
    Sat (Ω.cf 32 args st) (fun q => q = (PV.d (.bool r), st)) := by
  subst ha
  rcases a0 with ⟨a0_Kind, a0_N, a0_S, ⟨a0_L_l, a0_L_x⟩, ⟨a0_F_l, a0_F_x⟩, a0_Elem, a0_Key, a0_HasKey⟩
  rcases a1 with ⟨a1_Kind, a1_N, a1_S, ⟨a1_L_l, a1_L_x⟩, ⟨a1_F_l, a1_F_x⟩, a1_Elem, a1_Key, a1_HasKey⟩
  rw [cf_body hΩ (f := 32) (fn := Try.f32) (x := c32) rfl rfl c32_ok rfl rfl]
  unfold Pb32 at h
  try dsimp only at h
  conv => arg 1; cbv
  obtain ⟨q, hq13, hz⟩ := Option.bind_eq_some_iff.1 h
  clear h
  have h := hz
  clear hz
  refine sat_grp hΩ ((fun (q : Bool) => (match q with | i12 => ([(0, PV.agg [.d (.int .u8 a0_Kind), .d (.int .i64 a0_N), .d (.str a0_S), .d (.sl (E.L_Value a0_L_l) (E.X_Value a0_L_x)), .d (.sl (E.L_Field a0_F_l) (E.X_Field a0_F_x)), .d (.int .u8 a0_Elem), .d (.str a0_Key), .d (.bool a0_HasKey)]), (1, PV.agg [.d (.int .u8 a1_Kind), .d (.int .i64 a1_N), .d (.str a1_S), .d (.sl (E.L_Value a1_L_l) (E.X_Value a1_L_x)), .d (.sl (E.L_Field a1_F_l) (E.X_Field a1_F_x)), .d (.int .u8 a1_Elem), .d (.str a1_Key), .d (.bool a1_HasKey)]), (2, PV.ptr 0 0 0), (3, PV.ptr 0 1 0), (4, PV.d (.bool i12))], ([X.Obj.box 27 [.d (.int .u8 a0_Kind), .d (.int .i64 a0_N), .d (.str a0_S), .d (.sl (E.L_Value a0_L_l) (E.X_Value a0_L_x)), .d (.sl (E.L_Field a0_F_l) (E.X_Field a0_F_x)), .d (.int .u8 a0_Elem), .d (.str a0_Key), .d (.bool a0_HasKey)], X.Obj.box 27 [.d (.int .u8 a1_Kind), .d (.int .i64 a1_N), .d (.str a1_S), .d (.sl (E.L_Value a1_L_l) (E.X_Value a1_L_x)), .d (.sl (E.L_Field a1_F_l) (E.X_Field a1_F_x)), .d (.int .u8 a1_Elem), .d (.str a1_Key), .d (.bool a1_HasKey)]] : List X.Obj) :: st))) q) (fun k hk => ?_) ?_
  · clear h
    have h := hq13
    clear hq13
    conv => arg 1; cbv
    replace h := bif_cases h
    rcases h with ⟨hb1, h⟩ | ⟨hb1, h⟩
    · refine sat_brt (by first | exact hb1 | ((try clear h); subst_vars; first | exact hb1 | rfl)) ?_
      conv => arg 1; cbv
      refine sat_tick hΩ ?_
      conv => arg 1; cbv
      replace h := bif_cases h
      rcases h with ⟨hb2, h⟩ | ⟨hb2, h⟩
      · refine sat_brt (by first | exact hb2 | ((try clear h); subst_vars; first | exact hb2 | rfl)) ?_
        conv => arg 1; cbv
        replace h := bif_cases h
        rcases h with ⟨hb3, h⟩ | ⟨hb3, h⟩
        · refine sat_brt (by first | exact hb3 | ((try clear h); subst_vars; first | exact hb3 | rfl)) ?_
          conv => arg 1; cbv
          refine sat_tick hΩ ?_
          conv => arg 1; cbv
          replace h := bif_cases h
          rcases h with ⟨hb4, h⟩ | ⟨hb4, h⟩
          · refine sat_brt (by first | exact hb4 | ((try clear h); subst_vars; first | exact hb4 | rfl)) ?_
            conv => arg 1; cbv
            replace h := bif_cases h
            rcases h with ⟨hb5, h⟩ | ⟨hb5, h⟩
            · refine sat_brt (by first | exact hb5 | ((try clear h); subst_vars; first | exact hb5 | rfl)) ?_
              conv => arg 1; cbv
              refine sat_tick hΩ ?_
              conv => arg 1; cbv
              replace h := bif_cases h
              rcases h with ⟨hb6, h⟩ | ⟨hb6, h⟩
              · refine sat_brt (by first | exact hb6 | ((try clear h); subst_vars; first | exact hb6 | rfl)) ?_
                conv => arg 1; cbv
                obtain ⟨r7, hx8, hz⟩ := Option.bind_eq_some_iff.1 h
                clear h
                have h := hz
                clear hz
                refine sat_call (ok36 hΩ hE (hf := fun h => @fun args ha st => hp32 h ha st) hx8 (by (try clear h); subst_vars; rfl) _) ?_
                conv => arg 1; cbv
                refine sat_tick hΩ ?_
                conv => arg 1; cbv
                replace h := bif_cases h
                rcases h with ⟨hb9, h⟩ | ⟨hb9, h⟩
                · refine sat_brt (by first | exact hb9 | ((try clear h); subst_vars; first | exact hb9 | rfl)) ?_
                  conv => arg 1; cbv
                  obtain ⟨r10, hx11, hz⟩ := Option.bind_eq_some_iff.1 h
                  clear h
                  have h := hz
                  clear hz
                  refine sat_call (hp55 hx11 (by (try clear h); subst_vars; rfl) _) ?_
                  conv => arg 1; cbv
                  obtain rfl := Option.some.inj h
                  subst_vars
                  first | exact hk | (simp only [ln_set] at hk ⊢; exact hk)
                · refine sat_brf (by first | exact hb9 | ((try clear h); subst_vars; first | exact hb9 | rfl)) ?_
                  conv => arg 1; cbv
                  obtain rfl := Option.some.inj h
                  subst_vars
                  first | exact hk | (simp only [ln_set] at hk ⊢; exact hk)
              · refine sat_brf (by first | exact hb6 | ((try clear h); subst_vars; first | exact hb6 | rfl)) ?_
                conv => arg 1; cbv
                refine sat_tick hΩ ?_
                conv => arg 1; cbv
                obtain rfl := Option.some.inj h
                subst_vars
                first | exact hk | (simp only [ln_set] at hk ⊢; exact hk)
            · refine sat_brf (by first | exact hb5 | ((try clear h); subst_vars; first | exact hb5 | rfl)) ?_
              conv => arg 1; cbv
              refine sat_tick hΩ ?_
              conv => arg 1; cbv
              refine sat_tick hΩ ?_
              conv => arg 1; cbv
              obtain rfl := Option.some.inj h
              subst_vars
              first | exact hk | (simp only [ln_set] at hk ⊢; exact hk)
          · refine sat_brf (by first | exact hb4 | ((try clear h); subst_vars; first | exact hb4 | rfl)) ?_
            conv => arg 1; cbv
            refine sat_tick hΩ ?_
            conv => arg 1; cbv
            refine sat_tick hΩ ?_
            conv => arg 1; cbv
            obtain rfl := Option.some.inj h
            subst_vars
            first | exact hk | (simp only [ln_set] at hk ⊢; exact hk)
        · refine sat_brf (by first | exact hb3 | ((try clear h); subst_vars; first | exact hb3 | rfl)) ?_
          conv => arg 1; cbv
          refine sat_tick hΩ ?_
          conv => arg 1; cbv
          refine sat_tick hΩ ?_
          conv => arg 1; cbv
          refine sat_tick hΩ ?_
          conv => arg 1; cbv
          obtain rfl := Option.some.inj h
          subst_vars
          first | exact hk | (simp only [ln_set] at hk ⊢; exact hk)
      · refine sat_brf (by first | exact hb2 | ((try clear h); subst_vars; first | exact hb2 | rfl)) ?_
        conv => arg 1; cbv
        refine sat_tick hΩ ?_
        conv => arg 1; cbv
        refine sat_tick hΩ ?_
        conv => arg 1; cbv
        refine sat_tick hΩ ?_
        conv => arg 1; cbv
        obtain rfl := Option.some.inj h
        subst_vars
        first | exact hk | (simp only [ln_set] at hk ⊢; exact hk)
    · refine sat_brf (by first | exact hb1 | ((try clear h); subst_vars; first | exact hb1 | rfl)) ?_
      conv => arg 1; cbv
      refine sat_tick hΩ ?_
      conv => arg 1; cbv
      refine sat_tick hΩ ?_
      conv => arg 1; cbv
      refine sat_tick hΩ ?_
      conv => arg 1; cbv
      refine sat_tick hΩ ?_
      conv => arg 1; cbv
      obtain rfl := Option.some.inj h
      subst_vars
      first | exact hk | (simp only [ln_set] at hk ⊢; exact hk)
  · clear hq13
    obtain ⟨i12, hqq⟩ : ∃ x, x = q := ⟨_, rfl⟩
    subst hqq
    try dsimp only at h
    conv => arg 1; cbv
    obtain rfl := Option.some.inj h
    subst_vars
    exact sat_pure rfl
set_option maxHeartbeats 4000000 in
theorem okb55 {Ω : Om} {E : Enc} (hΩ : real (call S) = Ω) (hE : theEnc = E) {fu : Nat} {p32 : Value → Value → Option (Bool)} (hp32 : ∀ {a0 : Value} {a1 : Value} {r : Bool}, p32 a0 a1 = some r → ∀ {args : List PV}, [pv_Value E a0, pv_Value E a1] = args → ∀ (st : St), Sat (Ω.cf 32 args st) (fun q => q = (PV.d (.bool r), st))) {p55 : (Sl Field) → (Sl Field) → Option (Bool)} (hp55 : ∀ {a0 : Sl Field} {a1 : Sl Field} {r : Bool}, p55 a0 a1 = some r → ∀ {args : List PV}, [PV.d (.sl (E.L_Field a0.l) (E.X_Field a0.x)), PV.d (.sl (E.L_Field a1.l) (E.X_Field a1.x))] = args → ∀ (st : St), Sat (Ω.cf 55 args st) (fun q => q = (PV.d (.bool r), st))) {p73 : Field → Field → Option (Bool)} (hp73 : ∀ {a0 : Field} {a1 : Field} {r : Bool}, p73 a0 a1 = some r → ∀ {args : List PV}, [pv_Field E a0, pv_Field E a1] = args → ∀ (st : St), Sat (Ω.cf 73 args st) (fun q => q = (PV.d (.bool r), st))) {a0 : Sl Field} {a1 : Sl Field} {r : Bool} (h : Pb55 fu p32 p55 p73 a0 a1 = some r) {args : List PV} (ha : [PV.d (.sl (E.L_Field a0.l) (E.X_Field a0.x)), PV.d (.sl (E.L_Field a1.l) (E.X_Field a1.x))] = args) (st : St) :
    Sat (Ω.cf 55 args st) (fun q => q = (PV.d (.bool r), st)) := by
  subst ha
  rcases a0 with ⟨a0_l, a0_x⟩
  rcases a1 with ⟨a1_l, a1_x⟩
  rw [cf_body hΩ (f := 55) (fn := Try.f55) (x := c55) rfl rfl c55_ok rfl rfl]
  unfold Pb55 at h
  try dsimp only at h
  conv => arg 1; cbv
  obtain ⟨r1, hx2, hz⟩ := Option.bind_eq_some_iff.1 h
  clear h
  have h := hz
  clear hz
  refine sat_call (ok72 hΩ hE (hf := fun h => @fun args ha st => hp73 h ha st) hx2 (by (try clear h); subst_vars; rfl) _) ?_
  conv => arg 1; cbv
  obtain rfl := Option.some.inj h
  subst_vars
  exact sat_pure rfl
set_option maxHeartbeats 4000000 in
theorem okb73 {Ω : Om} {E : Enc} (hΩ : real (call S) = Ω) (hE : theEnc = E) {fu : Nat} {p32 : Value → Value → Option (Bool)} (hp32 : ∀ {a0 : Value} {a1 : Value} {r : Bool}, p32 a0 a1 = some r → ∀ {args : List PV}, [pv_Value E a0, pv_Value E a1] = args → ∀ (st : St), Sat (Ω.cf 32 args st) (fun q => q = (PV.d (.bool r), st))) {p55 : (Sl Field) → (Sl Field) → Option (Bool)} (hp55 : ∀ {a0 : Sl Field} {a1 : Sl Field} {r : Bool}, p55 a0 a1 = some r → ∀ {args : List PV}, [PV.d (.sl (E.L_Field a0.l) (E.X_Field a0.x)), PV.d (.sl (E.L_Field a1.l) (E.X_Field a1.x))] = args → ∀ (st : St), Sat (Ω.cf 55 args st) (fun q => q = (PV.d (.bool r), st))) {p73 : Field → Field → Option (Bool)} (hp73 : ∀ {a0 : Field} {a1 : Field} {r : Bool}, p73 a0 a1 = some r → ∀ {args : List PV}, [pv_Field E a0, pv_Field E a1] = args → ∀ (st : St), Sat (Ω.cf 73 args st) (fun q => q = (PV.d (.bool r), st))) {a0 : Field} {a1 : Field} {r : Bool} (h : Pb73 fu p32 p55 p73 a0 a1 = some r) {args : List PV} (ha : [pv_Field E a0, pv_Field E a1] = args) (st : St) :
    Sat (Ω.cf 73 args st) (fun q => q = (PV.d (.bool r), st)) := by
  subst ha
  rcases a0 with ⟨a0_Name, ⟨a0_Value__Kind, a0_Value__N, a0_Value__S, ⟨a0_Value__L_l, a0_Value__L_x⟩, ⟨a0_Value__F_l, a0_Value__F_x⟩, a0_Value__Elem, a0_Value__Key, a0_Value__HasKey⟩⟩
  rcases a1 with ⟨a1_Name, ⟨a1_Value__Kind, a1_Value__N, a1_Value__S, ⟨a1_Value__L_l, a1_Value__L_x⟩, ⟨a1_Value__F_l, a1_Value__F_x⟩, a1_Value__Elem, a1_Value__Key, a1_Value__HasKey⟩⟩
  rw [cf_body hΩ (f := 73) (fn := Try.f73) (x := c73) rfl rfl c73_ok rfl rfl]
  unfold Pb73 at h
  try dsimp only at h
  conv => arg 1; cbv
  obtain ⟨q, hq5, hz⟩ := Option.bind_eq_some_iff.1 h
  clear h
  have h := hz
  clear hz
  refine sat_grp hΩ ((fun (q : Bool) => (match q with | i4 => ([(0, PV.agg [.d (.str a0_Name), .d (.int .u8 a0_Value__Kind), .d (.int .i64 a0_Value__N), .d (.str a0_Value__S), .d (.sl (E.L_Value a0_Value__L_l) (E.X_Value a0_Value__L_x)), .d (.sl (E.L_Field a0_Value__F_l) (E.X_Field a0_Value__F_x)), .d (.int .u8 a0_Value__Elem), .d (.str a0_Value__Key), .d (.bool a0_Value__HasKey)]), (1, PV.agg [.d (.str a1_Name), .d (.int .u8 a1_Value__Kind), .d (.int .i64 a1_Value__N), .d (.str a1_Value__S), .d (.sl (E.L_Value a1_Value__L_l) (E.X_Value a1_Value__L_x)), .d (.sl (E.L_Field a1_Value__F_l) (E.X_Field a1_Value__F_x)), .d (.int .u8 a1_Value__Elem), .d (.str a1_Value__Key), .d (.bool a1_Value__HasKey)]), (2, PV.ptr 0 0 0), (3, PV.ptr 0 1 0), (4, PV.d (.bool i4))], ([X.Obj.box 49 [.d (.str a0_Name), .d (.int .u8 a0_Value__Kind), .d (.int .i64 a0_Value__N), .d (.str a0_Value__S), .d (.sl (E.L_Value a0_Value__L_l) (E.X_Value a0_Value__L_x)), .d (.sl (E.L_Field a0_Value__F_l) (E.X_Field a0_Value__F_x)), .d (.int .u8 a0_Value__Elem), .d (.str a0_Value__Key), .d (.bool a0_Value__HasKey)], X.Obj.box 49 [.d (.str a1_Name), .d (.int .u8 a1_Value__Kind), .d (.int .i64 a1_Value__N), .d (.str a1_Value__S), .d (.sl (E.L_Value a1_Value__L_l) (E.X_Value a1_Value__L_x)), .d (.sl (E.L_Field a1_Value__F_l) (E.X_Field a1_Value__F_x)), .d (.int .u8 a1_Value__Elem), .d (.str a1_Value__Key), .d (.bool a1_Value__HasKey)]] : List X.Obj) :: st))) q) (fun k hk => ?_) ?_
  · clear h
    have h := hq5
    clear hq5
    conv => arg 1; cbv
    replace h := bif_cases h
    rcases h with ⟨hb1, h⟩ | ⟨hb1, h⟩
    · refine sat_brt (by first | exact hb1 | ((try clear h); subst_vars; first | exact hb1 | rfl)) ?_
      conv => arg 1; cbv
      obtain ⟨r2, hx3, hz⟩ := Option.bind_eq_some_iff.1 h
      clear h
      have h := hz
      clear hz
      refine sat_call (hp32 hx3 (by (try clear h); subst_vars; rfl) _) ?_
      conv => arg 1; cbv
      refine sat_tick hΩ ?_
      conv => arg 1; cbv
      obtain rfl := Option.some.inj h
      subst_vars
      first | exact hk | (simp only [ln_set] at hk ⊢; exact hk)
    · refine sat_brf (by first | exact hb1 | ((try clear h); subst_vars; first | exact hb1 | rfl)) ?_
      conv => arg 1; cbv
      refine sat_tick hΩ ?_
      conv => arg 1; cbv
      obtain rfl := Option.some.inj h
      subst_vars
      first | exact hk | (simp only [ln_set] at hk ⊢; exact hk)
  · clear hq5
    obtain ⟨i4, hqq⟩ : ∃ x, x = q := ⟨_, rfl⟩
    subst hqq
    try dsimp only at h
    conv => arg 1; cbv
    obtain rfl := Option.some.inj h
    subst_vars
    exact sat_pure rfl
theorem okr32 {Ω : Om} {E : Enc} (hΩ : real (call S) = Ω) (hE : theEnc = E) : ∀ fu,
    (∀ {a0 : Value} {a1 : Value} {r : Bool}, P32 fu a0 a1 = some r → ∀ {args : List PV}, [pv_Value E a0, pv_Value E a1] = args → ∀ (st : St), Sat (Ω.cf 32 args st) (fun q => q = (PV.d (.bool r), st))) ∧
    (∀ {a0 : Sl Field} {a1 : Sl Field} {r : Bool}, P55 fu a0 a1 = some r → ∀ {args : List PV}, [PV.d (.sl (E.L_Field a0.l) (E.X_Field a0.x)), PV.d (.sl (E.L_Field a1.l) (E.X_Field a1.x))] = args → ∀ (st : St), Sat (Ω.cf 55 args st) (fun q => q = (PV.d (.bool r), st))) ∧
    (∀ {a0 : Field} {a1 : Field} {r : Bool}, P73 fu a0 a1 = some r → ∀ {args : List PV}, [pv_Field E a0, pv_Field E a1] = args → ∀ (st : St), Sat (Ω.cf 73 args st) (fun q => q = (PV.d (.bool r), st))) := by
  intro fu
  induction fu with
  | zero => exact ⟨(fun h => (by cases h)), (fun h => (by cases h)), (fun h => (by cases h))⟩
  | succ fu ih =>
    obtain ⟨i32, i55, i73⟩ := ih
    exact ⟨(fun h => @fun args ha st => okb32 (fu := fu) hΩ hE i32 i55 i73 h ha st), (fun h => @fun args ha st => okb55 (fu := fu) hΩ hE i32 i55 i73 h ha st), (fun h => @fun args ha st => okb73 (fu := fu) hΩ hE i32 i55 i73 h ha st)⟩
theorem ok32 {Ω : Om} {E : Enc} (hΩ : real (call S) = Ω) (hE : theEnc = E) {fu : Nat} : ∀ {a0 : Value} {a1 : Value} {r : Bool}, P32 fu a0 a1 = some r → ∀ {args : List PV}, [pv_Value E a0, pv_Value E a1] = args → ∀ (st : St), Sat (Ω.cf 32 args st) (fun q => q = (PV.d (.bool r), st)) := (okr32 hΩ hE fu).1
theorem ok55 {Ω : Om} {E : Enc} (hΩ : real (call S) = Ω) (hE : theEnc = E) {fu : Nat} : ∀ {a0 : Sl Field} {a1 : Sl Field} {r : Bool}, P55 fu a0 a1 = some r → ∀ {args : List PV}, [PV.d (.sl (E.L_Field a0.l) (E.X_Field a0.x)), PV.d (.sl (E.L_Field a1.l) (E.X_Field a1.x))] = args → ∀ (st : St), Sat (Ω.cf 55 args st) (fun q => q = (PV.d (.bool r), st)) := (okr32 hΩ hE fu).2.1
theorem ok73 {Ω : Om} {E : Enc} (hΩ : real (call S) = Ω) (hE : theEnc = E) {fu : Nat} : ∀ {a0 : Field} {a1 : Field} {r : Bool}, P73 fu a0 a1 = some r → ∀ {args : List PV}, [pv_Field E a0, pv_Field E a1] = args → ∀ (st : St), Sat (Ω.cf 73 args st) (fun q => q = (PV.d (.bool r), st)) := (okr32 hΩ hE fu).2.2
set_option maxHeartbeats 4000000 in
theorem ok46 {Ω : Om} {E : Enc} (hΩ : real (call S) = Ω) (hE : theEnc = E) {fu : Nat} {a0 : Cell} {r : Bool} (h : P46 fu a0 = some r) {args : List PV} (ha : [pv_Cell E a0] = args) (st : St) :
    Sat (Ω.cf 46 args st) (fun q => q = (PV.d (.bool r), st)) := by
  subst ha
  rcases a0 with ⟨a0_Kind, a0_Name, ⟨a0_Value__Kind, a0_Value__N, a0_Value__S, ⟨a0_Value__L_l, a0_Value__L_x⟩, ⟨a0_Value__F_l, a0_Value__F_x⟩, a0_Value__Elem, a0_Value__Key, a0_Value__HasKey⟩, ⟨a0_Next_Kind, a0_Next_N, a0_Next_S, ⟨a0_Next_L_l, a0_Next_L_x⟩, ⟨a0_Next_F_l, a0_Next_F_x⟩, a0_Next_Elem, a0_Next_Key, a0_Next_HasKey⟩, ⟨a0_Deps_l, a0_Deps_x⟩, ⟨a0_Do_l, a0_Do_x⟩, ⟨a0_Undo_l, a0_Undo_x⟩, ⟨a0_Env_l, a0_Env_x⟩, a0_Runs, a0_Ran, ⟨a0_Old_l, a0_Old_x⟩, ⟨a0_Past_l, a0_Past_x⟩⟩
  rw [cf_body hΩ (f := 46) (fn := Try.f46) (x := c46) rfl rfl c46_ok rfl rfl]
  unfold P46 at h
  try dsimp only at h
  conv => arg 1; cbv
  obtain ⟨r1, hx2, hz⟩ := Option.bind_eq_some_iff.1 h
  clear h
  have h := hz
  clear hz
  refine sat_call (ok32 hΩ hE hx2 (by (try clear h); subst_vars; rfl) _) ?_
  conv => arg 1; cbv
  obtain rfl := Option.some.inj h
  subst_vars
  exact sat_pure rfl
set_option maxHeartbeats 4000000 in
theorem ok67x2 {Ω : Om} {E : Enc} (hΩ : real (call S) = Ω) (hE : theEnc = E) {fu : Nat} {a0 : Cell} {b0 c0 : Sl Int} {S : (Sl Int) → St} {lz0 iz0 iz1 : Nat} (e0 : b0 = c0) (hg0 : ∀ s, X.look (S s) lz0 iz0 = some (X.Obj.box 79 (bx_79 E s))) (hu0 : ∀ s x, X.setO (S s) lz0 iz0 (X.Obj.box 79 (bx_79 E x)) = S x) (hg1 : ∀ s, X.look (S s) lz0 iz1 = some (X.Obj.box 62 [PV.d (.fn 46 [])])) {r : Bool} (h : P67x2 fu a0 b0 = some r) {args : List PV} (ha : [pv_Cell E a0, PV.ptr lz0 iz0 0, PV.ptr lz0 iz1 0] = args) {st : St} (hst : S c0 = st) :
    Sat (Ω.cf 67 args st) (fun q => q = (PV.d (.bool r), S c0)) := by
  subst ha
  subst hst
  subst e0
  rcases a0 with ⟨a0_Kind, a0_Name, ⟨a0_Value__Kind, a0_Value__N, a0_Value__S, ⟨a0_Value__L_l, a0_Value__L_x⟩, ⟨a0_Value__F_l, a0_Value__F_x⟩, a0_Value__Elem, a0_Value__Key, a0_Value__HasKey⟩, ⟨a0_Next_Kind, a0_Next_N, a0_Next_S, ⟨a0_Next_L_l, a0_Next_L_x⟩, ⟨a0_Next_F_l, a0_Next_F_x⟩, a0_Next_Elem, a0_Next_Key, a0_Next_HasKey⟩, ⟨a0_Deps_l, a0_Deps_x⟩, ⟨a0_Do_l, a0_Do_x⟩, ⟨a0_Undo_l, a0_Undo_x⟩, ⟨a0_Env_l, a0_Env_x⟩, a0_Runs, a0_Ran, ⟨a0_Old_l, a0_Old_x⟩, ⟨a0_Past_l, a0_Past_x⟩⟩
  rcases b0 with ⟨b0_l, b0_x⟩
  rw [cf_body hΩ (f := 67) (fn := Try.f67) (x := c67) rfl rfl c67_ok rfl rfl]
  unfold P67x2 at h
  try dsimp only at h
  conv => arg 1; cbv
  obtain ⟨q, hq7, hz⟩ := Option.bind_eq_some_iff.1 h
  clear h
  have h := hz
  clear hz
  refine sat_grp hΩ ((fun (q : Bool) => (match q with | i6 => ([(0, PV.agg [.d (.int .u8 a0_Kind), .d (.str a0_Name), .d (.int .u8 a0_Value__Kind), .d (.int .i64 a0_Value__N), .d (.str a0_Value__S), .d (.sl (E.L_Value a0_Value__L_l) (E.X_Value a0_Value__L_x)), .d (.sl (E.L_Field a0_Value__F_l) (E.X_Field a0_Value__F_x)), .d (.int .u8 a0_Value__Elem), .d (.str a0_Value__Key), .d (.bool a0_Value__HasKey), .d (.int .u8 a0_Next_Kind), .d (.int .i64 a0_Next_N), .d (.str a0_Next_S), .d (.sl (E.L_Value a0_Next_L_l) (E.X_Value a0_Next_L_x)), .d (.sl (E.L_Field a0_Next_F_l) (E.X_Field a0_Next_F_x)), .d (.int .u8 a0_Next_Elem), .d (.str a0_Next_Key), .d (.bool a0_Next_HasKey), .d (.sl (E.L_Value a0_Deps_l) (E.X_Value a0_Deps_x)), .d (.sl (E.L_Act a0_Do_l) (E.X_Act a0_Do_x)), .d (.sl (E.L_Act a0_Undo_l) (E.X_Act a0_Undo_x)), .d (.sl (E.L_Field a0_Env_l) (E.X_Field a0_Env_x)), .d (.bool a0_Runs), .d (.bool a0_Ran), .d (.sl (E.L_Act a0_Old_l) (E.X_Act a0_Old_x)), .d (.sl (E.L_Field a0_Past_l) (E.X_Field a0_Past_x))]), (1, PV.ptr (lz0+1) iz0 0), (2, PV.ptr (lz0+1) iz1 0), (3, PV.ptr 0 0 0), (4, PV.d (.bool i6))], ([X.Obj.box 61 [.d (.int .u8 a0_Kind), .d (.str a0_Name), .d (.int .u8 a0_Value__Kind), .d (.int .i64 a0_Value__N), .d (.str a0_Value__S), .d (.sl (E.L_Value a0_Value__L_l) (E.X_Value a0_Value__L_x)), .d (.sl (E.L_Field a0_Value__F_l) (E.X_Field a0_Value__F_x)), .d (.int .u8 a0_Value__Elem), .d (.str a0_Value__Key), .d (.bool a0_Value__HasKey), .d (.int .u8 a0_Next_Kind), .d (.int .i64 a0_Next_N), .d (.str a0_Next_S), .d (.sl (E.L_Value a0_Next_L_l) (E.X_Value a0_Next_L_x)), .d (.sl (E.L_Field a0_Next_F_l) (E.X_Field a0_Next_F_x)), .d (.int .u8 a0_Next_Elem), .d (.str a0_Next_Key), .d (.bool a0_Next_HasKey), .d (.sl (E.L_Value a0_Deps_l) (E.X_Value a0_Deps_x)), .d (.sl (E.L_Act a0_Do_l) (E.X_Act a0_Do_x)), .d (.sl (E.L_Act a0_Undo_l) (E.X_Act a0_Undo_x)), .d (.sl (E.L_Field a0_Env_l) (E.X_Field a0_Env_x)), .d (.bool a0_Runs), .d (.bool a0_Ran), .d (.sl (E.L_Act a0_Old_l) (E.X_Act a0_Old_x)), .d (.sl (E.L_Field a0_Past_l) (E.X_Field a0_Past_x))]] : List X.Obj) :: S (Sl.mk b0_l b0_x)))) q) (fun k hk => ?_) ?_
  · clear h
    have h := hq7
    clear hq7
    conv => arg 1; cbv
    refine sat_far hΩ (hg0 _) rfl ?_
    conv => arg 1; cbv
    obtain ⟨r1, hx2, hz⟩ := Option.bind_eq_some_iff.1 h
    clear h
    have h := hz
    clear hz
    refine sat_call (ok68 hΩ hE hx2 (by (try clear h); subst_vars; rfl) _) ?_
    conv => arg 1; cbv
    replace h := bif_cases h
    rcases h with ⟨hb3, h⟩ | ⟨hb3, h⟩
    · refine sat_brt (by first | exact hb3 | ((try clear h); subst_vars; first | exact hb3 | rfl)) ?_
      conv => arg 1; cbv
      refine sat_far hΩ (hg1 _) (by exact (show down.downs (lz0+1) [PV.d (.fn 46 [])] = [PV.d (.fn 46 [])] by simp only [down.downs, down, Nat.zero_add])) ?_
      conv => arg 1; cbv
      obtain ⟨r4, hx5, hz⟩ := Option.bind_eq_some_iff.1 h
      clear h
      have h := hz
      clear hz
      refine sat_call (ok46 hΩ hE hx5 (by (try clear h); subst_vars; rfl) _) ?_
      conv => arg 1; cbv
      obtain rfl := Option.some.inj h
      subst_vars
      first | exact hk | (simp only [ln_set] at hk ⊢; exact hk)
    · refine sat_brf (by first | exact hb3 | ((try clear h); subst_vars; first | exact hb3 | rfl)) ?_
      conv => arg 1; cbv
      obtain rfl := Option.some.inj h
      subst_vars
      first | exact hk | (simp only [ln_set] at hk ⊢; exact hk)
  · clear hq7
    obtain ⟨i6, hqq⟩ : ∃ x, x = q := ⟨_, rfl⟩
    subst hqq
    try dsimp only at h
    conv => arg 1; cbv
    obtain rfl := Option.some.inj h
    subst_vars
    exact sat_pure rfl
set_option maxHeartbeats 4000000 in
theorem ok54x2 {Ω : Om} {E : Enc} (hΩ : real (call S) = Ω) (hE : theEnc = E) {fu : Nat} {a0 : Sl Cell} {b0 c0 : Sl Int} {S : (Sl Int) → St} {lz0 iz0 iz1 : Nat} (e0 : b0 = c0) (hg0 : ∀ s, X.look (S s) lz0 iz0 = some (X.Obj.box 79 (bx_79 E s))) (hu0 : ∀ s x, X.setO (S s) lz0 iz0 (X.Obj.box 79 (bx_79 E x)) = S x) (hg1 : ∀ s, X.look (S s) lz0 iz1 = some (X.Obj.box 62 [PV.d (.fn 46 [])])) {r : Int} (h : P54x2 fu a0 b0 = some r) {args : List PV} (ha : [PV.d (.sl (E.L_Cell a0.l) (E.X_Cell a0.x)), PV.fn 67 [.ptr lz0 iz0 0, .ptr lz0 iz1 0]] = args) {st : St} (hst : S c0 = st) :
    Sat (Ω.cf 54 args st) (fun q => q = (PV.d (.int .i64 r), S c0)) := by
  subst ha
  subst hst
  subst e0
  rcases a0 with ⟨a0_l, a0_x⟩
  rcases b0 with ⟨b0_l, b0_x⟩
  rw [cf_body hΩ (f := 54) (fn := Try.f54) (x := c54) rfl rfl c54_ok rfl rfl]
  unfold P54x2 at h
  try dsimp only at h
  conv => arg 1; cbv
  refine sat_len hΩ (ro_Cell hE) a0_l (by first | rfl | ((try clear h); subst_vars; rfl)) fun n1 hn2 => ?_
  conv => arg 1; cbv
  obtain ⟨q, hl11, hz⟩ := Option.bind_eq_some_iff.1 h
  clear h
  have h := hz
  clear hz
  refine sat_loop hΩ (fun (a : Int × Int) => (match a with | (i3, i4) => ([(0, PV.d (.sl (E.L_Cell a0_l) (E.X_Cell a0_x))), (1, PV.fn 67 [.ptr (lz0+1) iz0 0, .ptr (lz0+1) iz1 0]), (4, PV.d (.int .i64 i3)), (7, PV.d (.int .i64 n1)), (8, PV.d (.int .i64 i4))], ([] : List X.Obj) :: S (Sl.mk b0_l b0_x)))) (fun (q : (Int × Int) ⊕ (Int × Int)) => (match q with | .inl (o12, o13) => (.exit 0, [(0, PV.d (.sl (E.L_Cell a0_l) (E.X_Cell a0_x))), (1, PV.fn 67 [.ptr (lz0+1) iz0 0, .ptr (lz0+1) iz1 0]), (4, PV.d (.int .i64 o12)), (7, PV.d (.int .i64 n1)), (8, PV.d (.int .i64 o13))], ([] : List X.Obj) :: S (Sl.mk b0_l b0_x)) | .inr (o14, o15) => (.ret, [(0, PV.d (.sl (E.L_Cell a0_l) (E.X_Cell a0_x))), (1, PV.fn 67 [.ptr (lz0+1) iz0 0, .ptr (lz0+1) iz1 0]), (4, PV.d (.int .i64 o14)), (7, PV.d (.int .i64 n1)), (8, PV.d (.int .i64 o15))], ([] : List X.Obj) :: S (Sl.mk b0_l b0_x)))) (0, 0) hl11 (by first | rfl | ((try clear h); subst_vars; rfl) | ((try clear h); subst_vars; simp only [ln_set])) ?_ ?_
  · clear h hl11
    rintro ⟨i3, i4⟩ q h
    unfold P54x2_s0 at h
    dsimp only at h
    conv => arg 1; cbv
    refine sat_in hΩ ?_
    conv => arg 1; cbv
    replace h := bif_cases h
    rcases h with ⟨hb5, h⟩ | ⟨hb5, h⟩
    · refine sat_brt (by first | exact hb5 | ((try clear h); subst_vars; first | exact hb5 | rfl)) ?_
      conv => arg 1; cbv
      refine sat_true (fits_l hΩ (ro_Cell hE) a0_l (by first | rfl | ((try clear h); subst_vars; rfl))) ?_
      conv => arg 1; cbv
      obtain ⟨⟨x6_Kind, x6_Name, ⟨x6_Value__Kind, x6_Value__N, x6_Value__S, ⟨x6_Value__L_l, x6_Value__L_x⟩, ⟨x6_Value__F_l, x6_Value__F_x⟩, x6_Value__Elem, x6_Value__Key, x6_Value__HasKey⟩, ⟨x6_Next_Kind, x6_Next_N, x6_Next_S, ⟨x6_Next_L_l, x6_Next_L_x⟩, ⟨x6_Next_F_l, x6_Next_F_x⟩, x6_Next_Elem, x6_Next_Key, x6_Next_HasKey⟩, ⟨x6_Deps_l, x6_Deps_x⟩, ⟨x6_Do_l, x6_Do_x⟩, ⟨x6_Undo_l, x6_Undo_x⟩, ⟨x6_Env_l, x6_Env_x⟩, x6_Runs, x6_Ran, ⟨x6_Old_l, x6_Old_x⟩, ⟨x6_Past_l, x6_Past_x⟩⟩, hx7, hz⟩ := Option.bind_eq_some_iff.1 h
      clear h
      have h := hz
      clear hz
      try dsimp only at h
      refine sat_bind (nth_ok hΩ (ro_Cell hE) hx7 (by first | rfl | ((try clear h); subst_vars; rfl)) (by first | rfl | ((try clear h); subst_vars; rfl))) ?_
      conv => arg 1; cbv
      obtain ⟨r9, hx8, hz⟩ := Option.bind_eq_some_iff.1 h
      clear h
      have h := hz
      clear hz
      refine sat_call (ok67x2 hΩ hE (S := (fun (s : (Sl Int)) => ([] : List X.Obj) :: S s)) (lz0 := (lz0+1)) (iz0 := iz0) (iz1 := iz1) (c0 := (Sl.mk b0_l b0_x)) (by (try clear h); subst_vars; rfl) (fun s => hg0 s) (fun s x => congrArg (List.cons _) (hu0 s x)) (fun s => hg1 s) hx8 (by (try clear h); subst_vars; rfl) (by (try clear h); subst_vars; rfl)) ?_
      conv => arg 1; cbv
      refine sat_in hΩ ?_
      conv => arg 1; cbv
      replace h := bif_cases h
      rcases h with ⟨hb10, h⟩ | ⟨hb10, h⟩
      · refine sat_brt (by first | exact hb10 | ((try clear h); subst_vars; first | exact hb10 | rfl)) ?_
        conv => arg 1; cbv
        obtain rfl := Option.some.inj h
        subst_vars
        first | exact sat_pure (.inr ⟨rfl, rfl⟩) | (refine sat_pure (.inr ⟨rfl, ?_⟩); dsimp only; simp only [ln_set]; rfl)
      · refine sat_brf (by first | exact hb10 | ((try clear h); subst_vars; first | exact hb10 | rfl)) ?_
        conv => arg 1; cbv
        obtain rfl := Option.some.inj h
        subst_vars
        first | exact sat_pure ⟨rfl, rfl, rfl⟩ | (refine sat_pure ⟨rfl, ?_, ?_⟩ <;> first | rfl | (dsimp only; simp only [ln_set]; rfl))
    · refine sat_brf (by first | exact hb5 | ((try clear h); subst_vars; first | exact hb5 | rfl)) ?_
      conv => arg 1; cbv
      obtain rfl := Option.some.inj h
      subst_vars
      first | exact sat_pure (.inl ⟨⟨_, rfl⟩, rfl⟩) | (refine sat_pure (.inl ⟨⟨_, rfl⟩, ?_⟩); dsimp only; simp only [ln_set]; rfl)
  · clear hl11
    rcases q with ⟨o12, o13⟩ | ⟨o14, o15⟩
    · dsimp only at h
      conv => arg 1; cbv
      obtain rfl := Option.some.inj h
      subst_vars
      exact sat_pure rfl
    · dsimp only at h
      conv => arg 1; cbv
      obtain rfl := Option.some.inj h
      subst_vars
      exact sat_pure rfl
set_option maxHeartbeats 4000000 in
theorem ok45x2 {Ω : Om} {E : Enc} (hΩ : real (call S) = Ω) (hE : theEnc = E) {fu : Nat} {a0 : Sl Cell} {a2 : Sl Int} {r : Int} (h : P45x2 fu a0 a2 = some r) {args : List PV} (ha : [PV.d (.sl (E.L_Cell a0.l) (E.X_Cell a0.x)), PV.d (.fn 46 []), PV.d (.sl (E.L_i_u8 a2.l) (E.X_i_u8 a2.x))] = args) (st : St) :
    Sat (Ω.cf 45 args st) (fun q => q = (PV.d (.int .i64 r), st)) := by
  subst ha
  rcases a0 with ⟨a0_l, a0_x⟩
  rcases a2 with ⟨a2_l, a2_x⟩
  rw [cf_body hΩ (f := 45) (fn := Try.f45) (x := c45) rfl rfl c45_ok rfl rfl]
  unfold P45x2 at h
  try dsimp only at h
  conv => arg 1; cbv
  obtain ⟨r2, hx1, hz⟩ := Option.bind_eq_some_iff.1 h
  clear h
  have h := hz
  clear hz
  refine sat_call (ok54x2 hΩ hE (S := (fun (s : (Sl Int)) => ([X.Obj.box 62 [.d (.fn 46 [])], X.Obj.box 79 (bx_79 E s)] : List X.Obj) :: st)) (lz0 := 0) (iz0 := 1) (iz1 := 0) (c0 := (Sl.mk a2_l a2_x)) (by (try clear h); subst_vars; rfl) (fun s => rfl) (fun s x => rfl) (fun s => rfl) hx1 (by (try clear h); subst_vars; rfl) (by (try clear h); subst_vars; rfl)) ?_
  conv => arg 1; cbv
  obtain rfl := Option.some.inj h
  subst_vars
  exact sat_pure rfl
set_option maxHeartbeats 4000000 in
theorem ok21 {Ω : Om} {E : Enc} (hΩ : real (call S) = Ω) (hE : theEnc = E) {fu : Nat} {a0 : Sl Cell} {r : Bool} (h : P21 fu a0 = some r) {args : List PV} (ha : [PV.d (.sl (E.L_Cell a0.l) (E.X_Cell a0.x))] = args) (st : St) :
    Sat (Ω.cf 21 args st) (fun q => q = (PV.d (.bool r), st)) := by
  subst ha
  rcases a0 with ⟨a0_l, a0_x⟩
  rw [cf_body hΩ (f := 21) (fn := Try.f21) (x := c21) rfl rfl c21_ok rfl rfl]
  unfold P21 at h
  try dsimp only at h
  conv => arg 1; cbv
  obtain ⟨r1, hx2, hz⟩ := Option.bind_eq_some_iff.1 h
  clear h
  have h := hz
  clear hz
  refine sat_call (ok45x2 hΩ hE hx2 (by (try clear h); subst_vars; rfl) _) ?_
  conv => arg 1; cbv
  obtain rfl := Option.some.inj h
  subst_vars
  exact sat_pure rfl
end Go.Proofs.Ytipkggkbldgmjaa
