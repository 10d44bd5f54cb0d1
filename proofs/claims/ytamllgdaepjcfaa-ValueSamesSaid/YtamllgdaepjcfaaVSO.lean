/- The interpreter computes just these functions: printed by a small program. -/
import Derived.Test.YtamllgdaepjcfaaVSD
namespace Go.Proofs.Ytamllgdaepjcfaa
open Go Go.X
set_option linter.unusedVariables false
set_option linter.unusedSimpArgs false
set_option maxRecDepth 100000
set_option maxHeartbeats 4000000 in
theorem ok19 {Ω : Om} {E : Enc} (hΩ : real (call S) = Ω) (hE : theEnc = E) {fu : Nat} {a0 : Sl Int} {r : Bool} (h : P19 fu a0 = some r) {args : List PV} (ha : [PV.d (.sl (E.L_i_i64 a0.l) (E.X_i_i64 a0.x))] = args) (st : St) :
    Sat (Ω.cf 19 args st) (fun q => q = (PV.d (.bool r), st)) := by
  subst ha
  rcases a0 with ⟨a0_l, a0_x⟩
  rw [cf_body hΩ (f := 19) (fn := Try.f19) (x := c19) rfl rfl c19_ok rfl]
  unfold P19 at h
  try dsimp only at h
  conv => arg 1; cbv
  obtain ⟨q, hl10, hz⟩ := Option.bind_eq_some_iff.1 h
  clear h
  have h := hz
  clear hz
  refine sat_loop hΩ (fun (a : Bool × Int × Int) => (match a with | (i1, i2, i3) => ([(0, PV.d (.sl (E.L_i_i64 a0_l) (E.X_i_i64 a0_x))), (2, PV.d (.bool i1)), (3, PV.d (.int .i64 i2)), (4, PV.d (.int .i64 i3))], ([] : List X.Obj) :: st))) (fun (q : (Bool × Int × Int) ⊕ (Bool × Int × Int)) => (match q with | .inl (o11, o12, o13) => (.exit 0, [(0, PV.d (.sl (E.L_i_i64 a0_l) (E.X_i_i64 a0_x))), (2, PV.d (.bool o11)), (3, PV.d (.int .i64 o12)), (4, PV.d (.int .i64 o13))], ([] : List X.Obj) :: st) | .inr (o14, o15, o16) => (.ret, [(0, PV.d (.sl (E.L_i_i64 a0_l) (E.X_i_i64 a0_x))), (2, PV.d (.bool o14)), (3, PV.d (.int .i64 o15)), (4, PV.d (.int .i64 o16))], ([] : List X.Obj) :: st))) (false, 0, 0) hl10 (by first | rfl | (subst_vars; rfl)) ?_ ?_
  · clear h hl10
    rintro ⟨i1, i2, i3⟩ q h
    unfold P19_s0 at h
    dsimp only at h
    conv => arg 1; cbv
    refine sat_len hΩ (ro_i_i64 hE) a0_l (by first | rfl | (subst_vars; rfl)) fun n4 hn5 => ?_
    conv => arg 1; cbv
    refine sat_in hΩ ?_
    conv => arg 1; cbv
    replace h := bif_cases h
    rcases h with ⟨hb6, h⟩ | ⟨hb6, h⟩
    · refine sat_brt (by first | exact hb6 | (subst_vars; first | exact hb6 | rfl)) ?_
      conv => arg 1; cbv
      refine sat_true (fits_l hΩ (ro_i_i64 hE) a0_l (by first | rfl | (subst_vars; rfl))) ?_
      conv => arg 1; cbv
      obtain ⟨x7, hx8, hz⟩ := Option.bind_eq_some_iff.1 h
      clear h
      have h := hz
      clear hz
      refine sat_bind (nth_ok hΩ (ro_i_i64 hE) hx8 (by first | rfl | (subst_vars; rfl)) (by first | rfl | (subst_vars; rfl))) ?_
      conv => arg 1; cbv
      refine sat_in hΩ ?_
      conv => arg 1; cbv
      replace h := bif_cases h
      rcases h with ⟨hb9, h⟩ | ⟨hb9, h⟩
      · refine sat_brt (by first | exact hb9 | (subst_vars; first | exact hb9 | rfl)) ?_
        conv => arg 1; cbv
        obtain rfl := Option.some.inj h
        subst_vars
        exact sat_pure (.inr ⟨rfl, rfl⟩)
      · refine sat_brf (by first | exact hb9 | (subst_vars; first | exact hb9 | rfl)) ?_
        conv => arg 1; cbv
        obtain rfl := Option.some.inj h
        subst_vars
        exact sat_pure ⟨rfl, rfl, rfl⟩
    · refine sat_brf (by first | exact hb6 | (subst_vars; first | exact hb6 | rfl)) ?_
      conv => arg 1; cbv
      obtain rfl := Option.some.inj h
      subst_vars
      exact sat_pure (.inl ⟨⟨_, rfl⟩, rfl⟩)
  · clear hl10
    rcases q with ⟨o11, o12, o13⟩ | ⟨o14, o15, o16⟩
    · dsimp only at h
      conv => arg 1; cbv
      obtain rfl := Option.some.inj h
      subst_vars
      exact sat_pure rfl
    · dsimp only at h
      conv => arg 1; cbv
      obtain rfl := Option.some.inj h
      subst_vars
      exact sat_pure rfl
set_option maxHeartbeats 4000000 in
theorem okb28 {Ω : Om} {E : Enc} (hΩ : real (call S) = Ω) (hE : theEnc = E) {fu : Nat} {p28 : Value → Option (Int)} (hp28 : ∀ {a0 : Value} {r : Int}, p28 a0 = some r → ∀ {args : List PV}, [pv_Value E a0] = args → ∀ (st : St), Sat (Ω.cf 28 args st) (fun q => q = (PV.d (.int .i64 r), st))) {p53 : (Sl Value) → Option (Int)} (hp53 : ∀ {a0 : Sl Value} {r : Int}, p53 a0 = some r → ∀ {args : List PV}, [PV.d (.sl (E.L_Value a0.l) (E.X_Value a0.x))] = args → ∀ (st : St), Sat (Ω.cf 53 args st) (fun q => q = (PV.d (.int .i64 r), st))) {p54 : (Sl Field) → Option (Int)} (hp54 : ∀ {a0 : Sl Field} {r : Int}, p54 a0 = some r → ∀ {args : List PV}, [PV.d (.sl (E.L_Field a0.l) (E.X_Field a0.x))] = args → ∀ (st : St), Sat (Ω.cf 54 args st) (fun q => q = (PV.d (.int .i64 r), st))) {p66 : Field → Option (Int)} (hp66 : ∀ {a0 : Field} {r : Int}, p66 a0 = some r → ∀ {args : List PV}, [pv_Field E a0] = args → ∀ (st : St), Sat (Ω.cf 66 args st) (fun q => q = (PV.d (.int .i64 r), st))) {a0 : Value} {r : Int} (h : Pb28 fu p28 p53 p54 p66 a0 = some r) {args : List PV} (ha : [pv_Value E a0] = args) (st : St) :
    Sat (Ω.cf 28 args st) (fun q => q = (PV.d (.int .i64 r), st)) := by
  subst ha
  rcases a0 with ⟨a0_Kind, a0_N, a0_S, ⟨a0_L_l, a0_L_x⟩, ⟨a0_F_l, a0_F_x⟩, a0_Elem, a0_Key, a0_HasKey⟩
  rw [cf_body hΩ (f := 28) (fn := Try.f28) (x := c28) rfl rfl c28_ok rfl]
  unfold Pb28 at h
  try dsimp only at h
  conv => arg 1; cbv
  refine sat_in hΩ ?_
  conv => arg 1; cbv
  replace h := bif_cases h
  rcases h with ⟨hb1, h⟩ | ⟨hb1, h⟩
  · refine sat_brt (by first | exact hb1 | (subst_vars; first | exact hb1 | rfl)) ?_
    conv => arg 1; cbv
    obtain ⟨r2, hx3, hz⟩ := Option.bind_eq_some_iff.1 h
    clear h
    have h := hz
    clear hz
    refine sat_call (hp53 hx3 (by subst_vars; rfl) _) ?_
    conv => arg 1; cbv
    refine sat_in hΩ ?_
    conv => arg 1; cbv
    replace h := bif_cases h
    rcases h with ⟨hb4, h⟩ | ⟨hb4, h⟩
    · refine sat_brt (by first | exact hb4 | (subst_vars; first | exact hb4 | rfl)) ?_
      conv => arg 1; cbv
      obtain ⟨r5, hx6, hz⟩ := Option.bind_eq_some_iff.1 h
      clear h
      have h := hz
      clear hz
      refine sat_call (hp54 hx6 (by subst_vars; rfl) _) ?_
      conv => arg 1; cbv
      obtain rfl := Option.some.inj h
      subst_vars
      exact sat_pure rfl
    · refine sat_brf (by first | exact hb4 | (subst_vars; first | exact hb4 | rfl)) ?_
      conv => arg 1; cbv
      obtain rfl := Option.some.inj h
      subst_vars
      exact sat_pure rfl
  · refine sat_brf (by first | exact hb1 | (subst_vars; first | exact hb1 | rfl)) ?_
    conv => arg 1; cbv
    refine sat_in hΩ ?_
    conv => arg 1; cbv
    replace h := bif_cases h
    rcases h with ⟨hb7, h⟩ | ⟨hb7, h⟩
    · refine sat_brt (by first | exact hb7 | (subst_vars; first | exact hb7 | rfl)) ?_
      conv => arg 1; cbv
      obtain ⟨r8, hx9, hz⟩ := Option.bind_eq_some_iff.1 h
      clear h
      have h := hz
      clear hz
      refine sat_call (hp54 hx9 (by subst_vars; rfl) _) ?_
      conv => arg 1; cbv
      obtain rfl := Option.some.inj h
      subst_vars
      exact sat_pure rfl
    · refine sat_brf (by first | exact hb7 | (subst_vars; first | exact hb7 | rfl)) ?_
      conv => arg 1; cbv
      obtain rfl := Option.some.inj h
      subst_vars
      exact sat_pure rfl
set_option maxHeartbeats 4000000 in
theorem okb53 {Ω : Om} {E : Enc} (hΩ : real (call S) = Ω) (hE : theEnc = E) {fu : Nat} {p28 : Value → Option (Int)} (hp28 : ∀ {a0 : Value} {r : Int}, p28 a0 = some r → ∀ {args : List PV}, [pv_Value E a0] = args → ∀ (st : St), Sat (Ω.cf 28 args st) (fun q => q = (PV.d (.int .i64 r), st))) {p53 : (Sl Value) → Option (Int)} (hp53 : ∀ {a0 : Sl Value} {r : Int}, p53 a0 = some r → ∀ {args : List PV}, [PV.d (.sl (E.L_Value a0.l) (E.X_Value a0.x))] = args → ∀ (st : St), Sat (Ω.cf 53 args st) (fun q => q = (PV.d (.int .i64 r), st))) {p54 : (Sl Field) → Option (Int)} (hp54 : ∀ {a0 : Sl Field} {r : Int}, p54 a0 = some r → ∀ {args : List PV}, [PV.d (.sl (E.L_Field a0.l) (E.X_Field a0.x))] = args → ∀ (st : St), Sat (Ω.cf 54 args st) (fun q => q = (PV.d (.int .i64 r), st))) {p66 : Field → Option (Int)} (hp66 : ∀ {a0 : Field} {r : Int}, p66 a0 = some r → ∀ {args : List PV}, [pv_Field E a0] = args → ∀ (st : St), Sat (Ω.cf 66 args st) (fun q => q = (PV.d (.int .i64 r), st))) {a0 : Sl Value} {r : Int} (h : Pb53 fu p28 p53 p54 p66 a0 = some r) {args : List PV} (ha : [PV.d (.sl (E.L_Value a0.l) (E.X_Value a0.x))] = args) (st : St) :
    Sat (Ω.cf 53 args st) (fun q => q = (PV.d (.int .i64 r), st)) := by
  subst ha
  rcases a0 with ⟨a0_l, a0_x⟩
  rw [cf_body hΩ (f := 53) (fn := Try.f53) (x := c53) rfl rfl c53_ok rfl]
  unfold Pb53 at h
  try dsimp only at h
  conv => arg 1; cbv
  refine sat_len hΩ (ro_Value hE) a0_l (by first | rfl | (subst_vars; rfl)) fun n1 hn2 => ?_
  conv => arg 1; cbv
  obtain ⟨q, hl13, hz⟩ := Option.bind_eq_some_iff.1 h
  clear h
  have h := hz
  clear hz
  refine sat_loop hΩ (fun (a : Int × Int) => (match a with | (i3, i4) => ([(0, PV.d (.sl (E.L_Value a0_l) (E.X_Value a0_x))), (2, PV.d (.int .i64 0)), (3, PV.d (.int .i64 i3)), (4, PV.d (.int .i64 i4))], ([] : List X.Obj) :: st))) (fun (q : (Int × Int)) => (match q with | (o14, o15) => (.exit 0, [(0, PV.d (.sl (E.L_Value a0_l) (E.X_Value a0_x))), (2, PV.d (.int .i64 0)), (3, PV.d (.int .i64 o14)), (4, PV.d (.int .i64 o15))], ([] : List X.Obj) :: st))) (ln a0_l, 0) hl13 (by first | rfl | (subst_vars; rfl)) ?_ ?_
  · clear h hl13
    rintro ⟨i3, i4⟩ q h
    unfold P53_s0 at h
    dsimp only at h
    conv => arg 1; cbv
    refine sat_len hΩ (ro_Value hE) a0_l (by first | rfl | (subst_vars; rfl)) fun n5 hn6 => ?_
    conv => arg 1; cbv
    replace h := bif_cases h
    rcases h with ⟨hb7, h⟩ | ⟨hb7, h⟩
    · refine sat_brt (by first | exact hb7 | (subst_vars; first | exact hb7 | rfl)) ?_
      conv => arg 1; cbv
      refine sat_in hΩ ?_
      conv => arg 1; cbv
      replace h := bif_cases h
      rcases h with ⟨hb8, h⟩ | ⟨hb8, h⟩
      · refine sat_brt (by first | exact hb8 | (subst_vars; first | exact hb8 | rfl)) ?_
        conv => arg 1; cbv
        refine sat_true (fits_l hΩ (ro_Value hE) a0_l (by first | rfl | (subst_vars; rfl))) ?_
        conv => arg 1; cbv
        obtain ⟨⟨x9_Kind, x9_N, x9_S, ⟨x9_L_l, x9_L_x⟩, ⟨x9_F_l, x9_F_x⟩, x9_Elem, x9_Key, x9_HasKey⟩, hx10, hz⟩ := Option.bind_eq_some_iff.1 h
        clear h
        have h := hz
        clear hz
        try dsimp only at h
        refine sat_bind (nth_ok hΩ (ro_Value hE) hx10 (by first | rfl | (subst_vars; rfl)) (by first | rfl | (subst_vars; rfl))) ?_
        conv => arg 1; cbv
        obtain ⟨r11, hx12, hz⟩ := Option.bind_eq_some_iff.1 h
        clear h
        have h := hz
        clear hz
        refine sat_call (hp28 hx12 (by subst_vars; rfl) _) ?_
        conv => arg 1; cbv
        obtain rfl := Option.some.inj h
        subst_vars
        exact sat_pure ⟨rfl, rfl, rfl⟩
      · refine sat_brf (by first | exact hb8 | (subst_vars; first | exact hb8 | rfl)) ?_
        conv => arg 1; cbv
        obtain rfl := Option.some.inj h
        subst_vars
        exact sat_pure (.inl ⟨⟨_, rfl⟩, rfl⟩)
    · refine sat_brf (by first | exact hb7 | (subst_vars; first | exact hb7 | rfl)) ?_
      conv => arg 1; cbv
      refine sat_in hΩ ?_
      conv => arg 1; cbv
      obtain rfl := Option.some.inj h
      subst_vars
      exact sat_pure (.inl ⟨⟨_, rfl⟩, rfl⟩)
  · clear hl13
    rcases q with ⟨o14, o15⟩
    dsimp only at h
    conv => arg 1; cbv
    obtain rfl := Option.some.inj h
    subst_vars
    exact sat_pure rfl
set_option maxHeartbeats 4000000 in
theorem okb54 {Ω : Om} {E : Enc} (hΩ : real (call S) = Ω) (hE : theEnc = E) {fu : Nat} {p28 : Value → Option (Int)} (hp28 : ∀ {a0 : Value} {r : Int}, p28 a0 = some r → ∀ {args : List PV}, [pv_Value E a0] = args → ∀ (st : St), Sat (Ω.cf 28 args st) (fun q => q = (PV.d (.int .i64 r), st))) {p53 : (Sl Value) → Option (Int)} (hp53 : ∀ {a0 : Sl Value} {r : Int}, p53 a0 = some r → ∀ {args : List PV}, [PV.d (.sl (E.L_Value a0.l) (E.X_Value a0.x))] = args → ∀ (st : St), Sat (Ω.cf 53 args st) (fun q => q = (PV.d (.int .i64 r), st))) {p54 : (Sl Field) → Option (Int)} (hp54 : ∀ {a0 : Sl Field} {r : Int}, p54 a0 = some r → ∀ {args : List PV}, [PV.d (.sl (E.L_Field a0.l) (E.X_Field a0.x))] = args → ∀ (st : St), Sat (Ω.cf 54 args st) (fun q => q = (PV.d (.int .i64 r), st))) {p66 : Field → Option (Int)} (hp66 : ∀ {a0 : Field} {r : Int}, p66 a0 = some r → ∀ {args : List PV}, [pv_Field E a0] = args → ∀ (st : St), Sat (Ω.cf 66 args st) (fun q => q = (PV.d (.int .i64 r), st))) {a0 : Sl Field} {r : Int} (h : Pb54 fu p28 p53 p54 p66 a0 = some r) {args : List PV} (ha : [PV.d (.sl (E.L_Field a0.l) (E.X_Field a0.x))] = args) (st : St) :
    Sat (Ω.cf 54 args st) (fun q => q = (PV.d (.int .i64 r), st)) := by
  subst ha
  rcases a0 with ⟨a0_l, a0_x⟩
  rw [cf_body hΩ (f := 54) (fn := Try.f54) (x := c54) rfl rfl c54_ok rfl]
  unfold Pb54 at h
  try dsimp only at h
  conv => arg 1; cbv
  refine sat_len hΩ (ro_Field hE) a0_l (by first | rfl | (subst_vars; rfl)) fun n1 hn2 => ?_
  conv => arg 1; cbv
  obtain ⟨q, hl13, hz⟩ := Option.bind_eq_some_iff.1 h
  clear h
  have h := hz
  clear hz
  refine sat_loop hΩ (fun (a : Int × Int) => (match a with | (i3, i4) => ([(0, PV.d (.sl (E.L_Field a0_l) (E.X_Field a0_x))), (2, PV.d (.int .i64 0)), (3, PV.d (.int .i64 i3)), (4, PV.d (.int .i64 i4))], ([] : List X.Obj) :: st))) (fun (q : (Int × Int)) => (match q with | (o14, o15) => (.exit 0, [(0, PV.d (.sl (E.L_Field a0_l) (E.X_Field a0_x))), (2, PV.d (.int .i64 0)), (3, PV.d (.int .i64 o14)), (4, PV.d (.int .i64 o15))], ([] : List X.Obj) :: st))) (ln a0_l, 0) hl13 (by first | rfl | (subst_vars; rfl)) ?_ ?_
  · clear h hl13
    rintro ⟨i3, i4⟩ q h
    unfold P54_s0 at h
    dsimp only at h
    conv => arg 1; cbv
    refine sat_len hΩ (ro_Field hE) a0_l (by first | rfl | (subst_vars; rfl)) fun n5 hn6 => ?_
    conv => arg 1; cbv
    replace h := bif_cases h
    rcases h with ⟨hb7, h⟩ | ⟨hb7, h⟩
    · refine sat_brt (by first | exact hb7 | (subst_vars; first | exact hb7 | rfl)) ?_
      conv => arg 1; cbv
      refine sat_in hΩ ?_
      conv => arg 1; cbv
      replace h := bif_cases h
      rcases h with ⟨hb8, h⟩ | ⟨hb8, h⟩
      · refine sat_brt (by first | exact hb8 | (subst_vars; first | exact hb8 | rfl)) ?_
        conv => arg 1; cbv
        refine sat_true (fits_l hΩ (ro_Field hE) a0_l (by first | rfl | (subst_vars; rfl))) ?_
        conv => arg 1; cbv
        obtain ⟨⟨x9_Name, ⟨x9_Value_Kind, x9_Value_N, x9_Value_S, ⟨x9_Value_L_l, x9_Value_L_x⟩, ⟨x9_Value_F_l, x9_Value_F_x⟩, x9_Value_Elem, x9_Value_Key, x9_Value_HasKey⟩⟩, hx10, hz⟩ := Option.bind_eq_some_iff.1 h
        clear h
        have h := hz
        clear hz
        try dsimp only at h
        refine sat_bind (nth_ok hΩ (ro_Field hE) hx10 (by first | rfl | (subst_vars; rfl)) (by first | rfl | (subst_vars; rfl))) ?_
        conv => arg 1; cbv
        obtain ⟨r11, hx12, hz⟩ := Option.bind_eq_some_iff.1 h
        clear h
        have h := hz
        clear hz
        refine sat_call (hp66 hx12 (by subst_vars; rfl) _) ?_
        conv => arg 1; cbv
        obtain rfl := Option.some.inj h
        subst_vars
        exact sat_pure ⟨rfl, rfl, rfl⟩
      · refine sat_brf (by first | exact hb8 | (subst_vars; first | exact hb8 | rfl)) ?_
        conv => arg 1; cbv
        obtain rfl := Option.some.inj h
        subst_vars
        exact sat_pure (.inl ⟨⟨_, rfl⟩, rfl⟩)
    · refine sat_brf (by first | exact hb7 | (subst_vars; first | exact hb7 | rfl)) ?_
      conv => arg 1; cbv
      refine sat_in hΩ ?_
      conv => arg 1; cbv
      obtain rfl := Option.some.inj h
      subst_vars
      exact sat_pure (.inl ⟨⟨_, rfl⟩, rfl⟩)
  · clear hl13
    rcases q with ⟨o14, o15⟩
    dsimp only at h
    conv => arg 1; cbv
    obtain rfl := Option.some.inj h
    subst_vars
    exact sat_pure rfl
set_option maxHeartbeats 4000000 in
theorem okb66 {Ω : Om} {E : Enc} (hΩ : real (call S) = Ω) (hE : theEnc = E) {fu : Nat} {p28 : Value → Option (Int)} (hp28 : ∀ {a0 : Value} {r : Int}, p28 a0 = some r → ∀ {args : List PV}, [pv_Value E a0] = args → ∀ (st : St), Sat (Ω.cf 28 args st) (fun q => q = (PV.d (.int .i64 r), st))) {p53 : (Sl Value) → Option (Int)} (hp53 : ∀ {a0 : Sl Value} {r : Int}, p53 a0 = some r → ∀ {args : List PV}, [PV.d (.sl (E.L_Value a0.l) (E.X_Value a0.x))] = args → ∀ (st : St), Sat (Ω.cf 53 args st) (fun q => q = (PV.d (.int .i64 r), st))) {p54 : (Sl Field) → Option (Int)} (hp54 : ∀ {a0 : Sl Field} {r : Int}, p54 a0 = some r → ∀ {args : List PV}, [PV.d (.sl (E.L_Field a0.l) (E.X_Field a0.x))] = args → ∀ (st : St), Sat (Ω.cf 54 args st) (fun q => q = (PV.d (.int .i64 r), st))) {p66 : Field → Option (Int)} (hp66 : ∀ {a0 : Field} {r : Int}, p66 a0 = some r → ∀ {args : List PV}, [pv_Field E a0] = args → ∀ (st : St), Sat (Ω.cf 66 args st) (fun q => q = (PV.d (.int .i64 r), st))) {a0 : Field} {r : Int} (h : Pb66 fu p28 p53 p54 p66 a0 = some r) {args : List PV} (ha : [pv_Field E a0] = args) (st : St) :
    Sat (Ω.cf 66 args st) (fun q => q = (PV.d (.int .i64 r), st)) := by
  subst ha
  rcases a0 with ⟨a0_Name, ⟨a0_Value_Kind, a0_Value_N, a0_Value_S, ⟨a0_Value_L_l, a0_Value_L_x⟩, ⟨a0_Value_F_l, a0_Value_F_x⟩, a0_Value_Elem, a0_Value_Key, a0_Value_HasKey⟩⟩
  rw [cf_body hΩ (f := 66) (fn := Try.f66) (x := c66) rfl rfl c66_ok rfl]
  unfold Pb66 at h
  try dsimp only at h
  conv => arg 1; cbv
  refine sat_in hΩ ?_
  conv => arg 1; cbv
  replace h := bif_cases h
  rcases h with ⟨hb1, h⟩ | ⟨hb1, h⟩
  · refine sat_brt (by first | exact hb1 | (subst_vars; first | exact hb1 | rfl)) ?_
    conv => arg 1; cbv
    obtain ⟨r2, hx3, hz⟩ := Option.bind_eq_some_iff.1 h
    clear h
    have h := hz
    clear hz
    refine sat_call (hp28 hx3 (by subst_vars; rfl) _) ?_
    conv => arg 1; cbv
    obtain rfl := Option.some.inj h
    subst_vars
    exact sat_pure rfl
  · refine sat_brf (by first | exact hb1 | (subst_vars; first | exact hb1 | rfl)) ?_
    conv => arg 1; cbv
    obtain rfl := Option.some.inj h
    subst_vars
    exact sat_pure rfl
theorem okr28 {Ω : Om} {E : Enc} (hΩ : real (call S) = Ω) (hE : theEnc = E) : ∀ fu,
    (∀ {a0 : Value} {r : Int}, P28 fu a0 = some r → ∀ {args : List PV}, [pv_Value E a0] = args → ∀ (st : St), Sat (Ω.cf 28 args st) (fun q => q = (PV.d (.int .i64 r), st))) ∧
    (∀ {a0 : Sl Value} {r : Int}, P53 fu a0 = some r → ∀ {args : List PV}, [PV.d (.sl (E.L_Value a0.l) (E.X_Value a0.x))] = args → ∀ (st : St), Sat (Ω.cf 53 args st) (fun q => q = (PV.d (.int .i64 r), st))) ∧
    (∀ {a0 : Sl Field} {r : Int}, P54 fu a0 = some r → ∀ {args : List PV}, [PV.d (.sl (E.L_Field a0.l) (E.X_Field a0.x))] = args → ∀ (st : St), Sat (Ω.cf 54 args st) (fun q => q = (PV.d (.int .i64 r), st))) ∧
    (∀ {a0 : Field} {r : Int}, P66 fu a0 = some r → ∀ {args : List PV}, [pv_Field E a0] = args → ∀ (st : St), Sat (Ω.cf 66 args st) (fun q => q = (PV.d (.int .i64 r), st))) := by
  intro fu
  induction fu with
  | zero => exact ⟨(fun h => (by cases h)), (fun h => (by cases h)), (fun h => (by cases h)), (fun h => (by cases h))⟩
  | succ fu ih =>
    obtain ⟨i28, i53, i54, i66⟩ := ih
    exact ⟨(fun h => @fun args ha st => okb28 (fu := fu) hΩ hE i28 i53 i54 i66 h ha st), (fun h => @fun args ha st => okb53 (fu := fu) hΩ hE i28 i53 i54 i66 h ha st), (fun h => @fun args ha st => okb54 (fu := fu) hΩ hE i28 i53 i54 i66 h ha st), (fun h => @fun args ha st => okb66 (fu := fu) hΩ hE i28 i53 i54 i66 h ha st)⟩
theorem ok28 {Ω : Om} {E : Enc} (hΩ : real (call S) = Ω) (hE : theEnc = E) {fu : Nat} : ∀ {a0 : Value} {r : Int}, P28 fu a0 = some r → ∀ {args : List PV}, [pv_Value E a0] = args → ∀ (st : St), Sat (Ω.cf 28 args st) (fun q => q = (PV.d (.int .i64 r), st)) := (okr28 hΩ hE fu).1
theorem ok53 {Ω : Om} {E : Enc} (hΩ : real (call S) = Ω) (hE : theEnc = E) {fu : Nat} : ∀ {a0 : Sl Value} {r : Int}, P53 fu a0 = some r → ∀ {args : List PV}, [PV.d (.sl (E.L_Value a0.l) (E.X_Value a0.x))] = args → ∀ (st : St), Sat (Ω.cf 53 args st) (fun q => q = (PV.d (.int .i64 r), st)) := (okr28 hΩ hE fu).2.1
theorem ok54 {Ω : Om} {E : Enc} (hΩ : real (call S) = Ω) (hE : theEnc = E) {fu : Nat} : ∀ {a0 : Sl Field} {r : Int}, P54 fu a0 = some r → ∀ {args : List PV}, [PV.d (.sl (E.L_Field a0.l) (E.X_Field a0.x))] = args → ∀ (st : St), Sat (Ω.cf 54 args st) (fun q => q = (PV.d (.int .i64 r), st)) := (okr28 hΩ hE fu).2.2.1
theorem ok66 {Ω : Om} {E : Enc} (hΩ : real (call S) = Ω) (hE : theEnc = E) {fu : Nat} : ∀ {a0 : Field} {r : Int}, P66 fu a0 = some r → ∀ {args : List PV}, [pv_Field E a0] = args → ∀ (st : St), Sat (Ω.cf 66 args st) (fun q => q = (PV.d (.int .i64 r), st)) := (okr28 hΩ hE fu).2.2.2
set_option maxHeartbeats 4000000 in
theorem ok55 {Ω : Om} {E : Enc} (hΩ : real (call S) = Ω) (hE : theEnc = E) {fu : Nat} {a0 : Sl Value} {a1 : Sl Value} {a2 : (Value → Value → Option (Bool))} {a2_g : Nat} (hf : ∀ {x0 : Value} {x1 : Value} {r : Bool}, a2 x0 x1 = some r → ∀ {args : List PV}, [pv_Value E x0, pv_Value E x1] = args → ∀ (st : St), Sat (Ω.cf a2_g args st) (fun q => q = (PV.d (.bool r), st))) {r : Bool} (h : P55 fu a0 a1 a2 = some r) {args : List PV} (ha : [PV.d (.sl (E.L_Value a0.l) (E.X_Value a0.x)), PV.d (.sl (E.L_Value a1.l) (E.X_Value a1.x)), PV.d (.fn a2_g [])] = args) (st : St) :
    Sat (Ω.cf 55 args st) (fun q => q = (PV.d (.bool r), st)) := by
  subst ha
  rcases a0 with ⟨a0_l, a0_x⟩
  rcases a1 with ⟨a1_l, a1_x⟩
  rw [cf_body hΩ (f := 55) (fn := Try.f55) (x := c55) rfl rfl c55_ok rfl]
  unfold P55 at h
  try dsimp only at h
  conv => arg 1; cbv
  refine sat_len hΩ (ro_Value hE) a0_l (by first | rfl | (subst_vars; rfl)) fun n1 hn2 => ?_
  conv => arg 1; cbv
  refine sat_len hΩ (ro_Value hE) a1_l (by first | rfl | (subst_vars; rfl)) fun n3 hn4 => ?_
  conv => arg 1; cbv
  refine sat_in hΩ ?_
  conv => arg 1; cbv
  replace h := bif_cases h
  rcases h with ⟨hb5, h⟩ | ⟨hb5, h⟩
  · refine sat_brt (by first | exact hb5 | (subst_vars; first | exact hb5 | rfl)) ?_
    conv => arg 1; cbv
    obtain rfl := Option.some.inj h
    subst_vars
    exact sat_pure rfl
  · refine sat_brf (by first | exact hb5 | (subst_vars; first | exact hb5 | rfl)) ?_
    conv => arg 1; cbv
    refine sat_len hΩ (ro_Value hE) a0_l (by first | rfl | (subst_vars; rfl)) fun n6 hn7 => ?_
    conv => arg 1; cbv
    obtain ⟨q, hl17, hz⟩ := Option.bind_eq_some_iff.1 h
    clear h
    have h := hz
    clear hz
    refine sat_loop hΩ (fun (a : Int) => (match a with | i8 => ([(0, PV.d (.sl (E.L_Value a0_l) (E.X_Value a0_x))), (1, PV.d (.sl (E.L_Value a1_l) (E.X_Value a1_x))), (2, PV.d (.fn a2_g [])), (6, PV.d (.bool false)), (15, PV.d (.sl (E.L_Value a0_l) (E.X_Value a0_x))), (16, PV.d (.int .i64 n6)), (17, PV.d (.int .i64 i8))], ([] : List X.Obj) :: st))) (fun (q : Int ⊕ Int) => (match q with | .inl o18 => (.exit 0, [(0, PV.d (.sl (E.L_Value a0_l) (E.X_Value a0_x))), (1, PV.d (.sl (E.L_Value a1_l) (E.X_Value a1_x))), (2, PV.d (.fn a2_g [])), (6, PV.d (.bool false)), (15, PV.d (.sl (E.L_Value a0_l) (E.X_Value a0_x))), (16, PV.d (.int .i64 n6)), (17, PV.d (.int .i64 o18))], ([] : List X.Obj) :: st) | .inr o19 => (.ret, [(0, PV.d (.sl (E.L_Value a0_l) (E.X_Value a0_x))), (1, PV.d (.sl (E.L_Value a1_l) (E.X_Value a1_x))), (2, PV.d (.fn a2_g [])), (6, PV.d (.bool false)), (15, PV.d (.sl (E.L_Value a0_l) (E.X_Value a0_x))), (16, PV.d (.int .i64 n6)), (17, PV.d (.int .i64 o19))], ([] : List X.Obj) :: st))) 0 hl17 (by first | rfl | (subst_vars; rfl)) ?_ ?_
    · clear h hl17
      rintro i8 q h
      unfold P55_s0 at h
      dsimp only at h
      conv => arg 1; cbv
      refine sat_in hΩ ?_
      conv => arg 1; cbv
      replace h := bif_cases h
      rcases h with ⟨hb9, h⟩ | ⟨hb9, h⟩
      · refine sat_brt (by first | exact hb9 | (subst_vars; first | exact hb9 | rfl)) ?_
        conv => arg 1; cbv
        refine sat_true (fits_l hΩ (ro_Value hE) a0_l (by first | rfl | (subst_vars; rfl))) ?_
        conv => arg 1; cbv
        obtain ⟨⟨x10_Kind, x10_N, x10_S, ⟨x10_L_l, x10_L_x⟩, ⟨x10_F_l, x10_F_x⟩, x10_Elem, x10_Key, x10_HasKey⟩, hx11, hz⟩ := Option.bind_eq_some_iff.1 h
        clear h
        have h := hz
        clear hz
        try dsimp only at h
        refine sat_bind (nth_ok hΩ (ro_Value hE) hx11 (by first | rfl | (subst_vars; rfl)) (by first | rfl | (subst_vars; rfl))) ?_
        conv => arg 1; cbv
        refine sat_true (fits_l hΩ (ro_Value hE) a1_l (by first | rfl | (subst_vars; rfl))) ?_
        conv => arg 1; cbv
        obtain ⟨⟨x12_Kind, x12_N, x12_S, ⟨x12_L_l, x12_L_x⟩, ⟨x12_F_l, x12_F_x⟩, x12_Elem, x12_Key, x12_HasKey⟩, hx13, hz⟩ := Option.bind_eq_some_iff.1 h
        clear h
        have h := hz
        clear hz
        try dsimp only at h
        refine sat_bind (nth_ok hΩ (ro_Value hE) hx13 (by first | rfl | (subst_vars; rfl)) (by first | rfl | (subst_vars; rfl))) ?_
        conv => arg 1; cbv
        obtain ⟨r14, hx15, hz⟩ := Option.bind_eq_some_iff.1 h
        clear h
        have h := hz
        clear hz
        refine sat_call (hf hx15 (by subst_vars; rfl) _) ?_
        conv => arg 1; cbv
        refine sat_in hΩ ?_
        conv => arg 1; cbv
        replace h := bif_cases h
        rcases h with ⟨hb16, h⟩ | ⟨hb16, h⟩
        · refine sat_brt (by first | exact hb16 | (subst_vars; first | exact hb16 | rfl)) ?_
          conv => arg 1; cbv
          obtain rfl := Option.some.inj h
          subst_vars
          exact sat_pure (.inr ⟨rfl, rfl⟩)
        · refine sat_brf (by first | exact hb16 | (subst_vars; first | exact hb16 | rfl)) ?_
          conv => arg 1; cbv
          obtain rfl := Option.some.inj h
          subst_vars
          exact sat_pure ⟨rfl, rfl, rfl⟩
      · refine sat_brf (by first | exact hb9 | (subst_vars; first | exact hb9 | rfl)) ?_
        conv => arg 1; cbv
        obtain rfl := Option.some.inj h
        subst_vars
        exact sat_pure (.inl ⟨⟨_, rfl⟩, rfl⟩)
    · clear hl17
      rcases q with o18 | o19
      · dsimp only at h
        conv => arg 1; cbv
        obtain rfl := Option.some.inj h
        subst_vars
        exact sat_pure rfl
      · dsimp only at h
        conv => arg 1; cbv
        obtain rfl := Option.some.inj h
        subst_vars
        exact sat_pure rfl
set_option maxHeartbeats 4000000 in
theorem ok67 {Ω : Om} {E : Enc} (hΩ : real (call S) = Ω) (hE : theEnc = E) {fu : Nat} {a0 : Sl Field} {a1 : Sl Field} {a2 : (Field → Field → Option (Bool))} {a2_g : Nat} (hf : ∀ {x0 : Field} {x1 : Field} {r : Bool}, a2 x0 x1 = some r → ∀ {args : List PV}, [pv_Field E x0, pv_Field E x1] = args → ∀ (st : St), Sat (Ω.cf a2_g args st) (fun q => q = (PV.d (.bool r), st))) {r : Bool} (h : P67 fu a0 a1 a2 = some r) {args : List PV} (ha : [PV.d (.sl (E.L_Field a0.l) (E.X_Field a0.x)), PV.d (.sl (E.L_Field a1.l) (E.X_Field a1.x)), PV.d (.fn a2_g [])] = args) (st : St) :
    Sat (Ω.cf 67 args st) (fun q => q = (PV.d (.bool r), st)) := by
  subst ha
  rcases a0 with ⟨a0_l, a0_x⟩
  rcases a1 with ⟨a1_l, a1_x⟩
  rw [cf_body hΩ (f := 67) (fn := Try.f67) (x := c67) rfl rfl c67_ok rfl]
  unfold P67 at h
  try dsimp only at h
  conv => arg 1; cbv
  refine sat_len hΩ (ro_Field hE) a0_l (by first | rfl | (subst_vars; rfl)) fun n1 hn2 => ?_
  conv => arg 1; cbv
  refine sat_len hΩ (ro_Field hE) a1_l (by first | rfl | (subst_vars; rfl)) fun n3 hn4 => ?_
  conv => arg 1; cbv
  refine sat_in hΩ ?_
  conv => arg 1; cbv
  replace h := bif_cases h
  rcases h with ⟨hb5, h⟩ | ⟨hb5, h⟩
  · refine sat_brt (by first | exact hb5 | (subst_vars; first | exact hb5 | rfl)) ?_
    conv => arg 1; cbv
    obtain rfl := Option.some.inj h
    subst_vars
    exact sat_pure rfl
  · refine sat_brf (by first | exact hb5 | (subst_vars; first | exact hb5 | rfl)) ?_
    conv => arg 1; cbv
    refine sat_len hΩ (ro_Field hE) a0_l (by first | rfl | (subst_vars; rfl)) fun n6 hn7 => ?_
    conv => arg 1; cbv
    obtain ⟨q, hl17, hz⟩ := Option.bind_eq_some_iff.1 h
    clear h
    have h := hz
    clear hz
    refine sat_loop hΩ (fun (a : Int) => (match a with | i8 => ([(0, PV.d (.sl (E.L_Field a0_l) (E.X_Field a0_x))), (1, PV.d (.sl (E.L_Field a1_l) (E.X_Field a1_x))), (2, PV.d (.fn a2_g [])), (6, PV.d (.bool false)), (15, PV.d (.sl (E.L_Field a0_l) (E.X_Field a0_x))), (16, PV.d (.int .i64 n6)), (17, PV.d (.int .i64 i8))], ([] : List X.Obj) :: st))) (fun (q : Int ⊕ Int) => (match q with | .inl o18 => (.exit 0, [(0, PV.d (.sl (E.L_Field a0_l) (E.X_Field a0_x))), (1, PV.d (.sl (E.L_Field a1_l) (E.X_Field a1_x))), (2, PV.d (.fn a2_g [])), (6, PV.d (.bool false)), (15, PV.d (.sl (E.L_Field a0_l) (E.X_Field a0_x))), (16, PV.d (.int .i64 n6)), (17, PV.d (.int .i64 o18))], ([] : List X.Obj) :: st) | .inr o19 => (.ret, [(0, PV.d (.sl (E.L_Field a0_l) (E.X_Field a0_x))), (1, PV.d (.sl (E.L_Field a1_l) (E.X_Field a1_x))), (2, PV.d (.fn a2_g [])), (6, PV.d (.bool false)), (15, PV.d (.sl (E.L_Field a0_l) (E.X_Field a0_x))), (16, PV.d (.int .i64 n6)), (17, PV.d (.int .i64 o19))], ([] : List X.Obj) :: st))) 0 hl17 (by first | rfl | (subst_vars; rfl)) ?_ ?_
    · clear h hl17
      rintro i8 q h
      unfold P67_s0 at h
      dsimp only at h
      conv => arg 1; cbv
      refine sat_in hΩ ?_
      conv => arg 1; cbv
      replace h := bif_cases h
      rcases h with ⟨hb9, h⟩ | ⟨hb9, h⟩
      · refine sat_brt (by first | exact hb9 | (subst_vars; first | exact hb9 | rfl)) ?_
        conv => arg 1; cbv
        refine sat_true (fits_l hΩ (ro_Field hE) a0_l (by first | rfl | (subst_vars; rfl))) ?_
        conv => arg 1; cbv
        obtain ⟨⟨x10_Name, ⟨x10_Value_Kind, x10_Value_N, x10_Value_S, ⟨x10_Value_L_l, x10_Value_L_x⟩, ⟨x10_Value_F_l, x10_Value_F_x⟩, x10_Value_Elem, x10_Value_Key, x10_Value_HasKey⟩⟩, hx11, hz⟩ := Option.bind_eq_some_iff.1 h
        clear h
        have h := hz
        clear hz
        try dsimp only at h
        refine sat_bind (nth_ok hΩ (ro_Field hE) hx11 (by first | rfl | (subst_vars; rfl)) (by first | rfl | (subst_vars; rfl))) ?_
        conv => arg 1; cbv
        refine sat_true (fits_l hΩ (ro_Field hE) a1_l (by first | rfl | (subst_vars; rfl))) ?_
        conv => arg 1; cbv
        obtain ⟨⟨x12_Name, ⟨x12_Value_Kind, x12_Value_N, x12_Value_S, ⟨x12_Value_L_l, x12_Value_L_x⟩, ⟨x12_Value_F_l, x12_Value_F_x⟩, x12_Value_Elem, x12_Value_Key, x12_Value_HasKey⟩⟩, hx13, hz⟩ := Option.bind_eq_some_iff.1 h
        clear h
        have h := hz
        clear hz
        try dsimp only at h
        refine sat_bind (nth_ok hΩ (ro_Field hE) hx13 (by first | rfl | (subst_vars; rfl)) (by first | rfl | (subst_vars; rfl))) ?_
        conv => arg 1; cbv
        obtain ⟨r14, hx15, hz⟩ := Option.bind_eq_some_iff.1 h
        clear h
        have h := hz
        clear hz
        refine sat_call (hf hx15 (by subst_vars; rfl) _) ?_
        conv => arg 1; cbv
        refine sat_in hΩ ?_
        conv => arg 1; cbv
        replace h := bif_cases h
        rcases h with ⟨hb16, h⟩ | ⟨hb16, h⟩
        · refine sat_brt (by first | exact hb16 | (subst_vars; first | exact hb16 | rfl)) ?_
          conv => arg 1; cbv
          obtain rfl := Option.some.inj h
          subst_vars
          exact sat_pure (.inr ⟨rfl, rfl⟩)
        · refine sat_brf (by first | exact hb16 | (subst_vars; first | exact hb16 | rfl)) ?_
          conv => arg 1; cbv
          obtain rfl := Option.some.inj h
          subst_vars
          exact sat_pure ⟨rfl, rfl, rfl⟩
      · refine sat_brf (by first | exact hb9 | (subst_vars; first | exact hb9 | rfl)) ?_
        conv => arg 1; cbv
        obtain rfl := Option.some.inj h
        subst_vars
        exact sat_pure (.inl ⟨⟨_, rfl⟩, rfl⟩)
    · clear hl17
      rcases q with o18 | o19
      · dsimp only at h
        conv => arg 1; cbv
        obtain rfl := Option.some.inj h
        subst_vars
        exact sat_pure rfl
      · dsimp only at h
        conv => arg 1; cbv
        obtain rfl := Option.some.inj h
        subst_vars
        exact sat_pure rfl
set_option maxHeartbeats 4000000 in
theorem okb29 {Ω : Om} {E : Enc} (hΩ : real (call S) = Ω) (hE : theEnc = E) {fu : Nat} {p29 : Value → Value → Option (Bool)} (hp29 : ∀ {a0 : Value} {a1 : Value} {r : Bool}, p29 a0 a1 = some r → ∀ {args : List PV}, [pv_Value E a0, pv_Value E a1] = args → ∀ (st : St), Sat (Ω.cf 29 args st) (fun q => q = (PV.d (.bool r), st))) {p56 : (Sl Field) → (Sl Field) → Option (Bool)} (hp56 : ∀ {a0 : Sl Field} {a1 : Sl Field} {r : Bool}, p56 a0 a1 = some r → ∀ {args : List PV}, [PV.d (.sl (E.L_Field a0.l) (E.X_Field a0.x)), PV.d (.sl (E.L_Field a1.l) (E.X_Field a1.x))] = args → ∀ (st : St), Sat (Ω.cf 56 args st) (fun q => q = (PV.d (.bool r), st))) {p68 : Field → Field → Option (Bool)} (hp68 : ∀ {a0 : Field} {a1 : Field} {r : Bool}, p68 a0 a1 = some r → ∀ {args : List PV}, [pv_Field E a0, pv_Field E a1] = args → ∀ (st : St), Sat (Ω.cf 68 args st) (fun q => q = (PV.d (.bool r), st))) {a0 : Value} {a1 : Value} {r : Bool} (h : Pb29 fu p29 p56 p68 a0 a1 = some r) {args : List PV} (ha : [pv_Value E a0, pv_Value E a1] = args) (st : St) :
    Sat (Ω.cf 29 args st) (fun q => q = (PV.d (.bool r), st)) := by
  subst ha
  rcases a0 with ⟨a0_Kind, a0_N, a0_S, ⟨a0_L_l, a0_L_x⟩, ⟨a0_F_l, a0_F_x⟩, a0_Elem, a0_Key, a0_HasKey⟩
  rcases a1 with ⟨a1_Kind, a1_N, a1_S, ⟨a1_L_l, a1_L_x⟩, ⟨a1_F_l, a1_F_x⟩, a1_Elem, a1_Key, a1_HasKey⟩
  rw [cf_body hΩ (f := 29) (fn := Try.f29) (x := c29) rfl rfl c29_ok rfl]
  unfold Pb29 at h
  try dsimp only at h
  conv => arg 1; cbv
  replace h := bif_cases h
  rcases h with ⟨hb1, h⟩ | ⟨hb1, h⟩
  · refine sat_brt (by first | exact hb1 | (subst_vars; first | exact hb1 | rfl)) ?_
    conv => arg 1; cbv
    refine sat_tick hΩ ?_
    conv => arg 1; cbv
    replace h := bif_cases h
    rcases h with ⟨hb2, h⟩ | ⟨hb2, h⟩
    · refine sat_brt (by first | exact hb2 | (subst_vars; first | exact hb2 | rfl)) ?_
      conv => arg 1; cbv
      replace h := bif_cases h
      rcases h with ⟨hb3, h⟩ | ⟨hb3, h⟩
      · refine sat_brt (by first | exact hb3 | (subst_vars; first | exact hb3 | rfl)) ?_
        conv => arg 1; cbv
        refine sat_tick hΩ ?_
        conv => arg 1; cbv
        replace h := bif_cases h
        rcases h with ⟨hb4, h⟩ | ⟨hb4, h⟩
        · refine sat_brt (by first | exact hb4 | (subst_vars; first | exact hb4 | rfl)) ?_
          conv => arg 1; cbv
          replace h := bif_cases h
          rcases h with ⟨hb5, h⟩ | ⟨hb5, h⟩
          · refine sat_brt (by first | exact hb5 | (subst_vars; first | exact hb5 | rfl)) ?_
            conv => arg 1; cbv
            refine sat_tick hΩ ?_
            conv => arg 1; cbv
            replace h := bif_cases h
            rcases h with ⟨hb6, h⟩ | ⟨hb6, h⟩
            · refine sat_brt (by first | exact hb6 | (subst_vars; first | exact hb6 | rfl)) ?_
              conv => arg 1; cbv
              obtain ⟨r7, hx8, hz⟩ := Option.bind_eq_some_iff.1 h
              clear h
              have h := hz
              clear hz
              refine sat_call (ok55 hΩ hE (hf := fun h => @fun args ha st => hp29 h ha st) hx8 (by subst_vars; rfl) _) ?_
              conv => arg 1; cbv
              refine sat_tick hΩ ?_
              conv => arg 1; cbv
              replace h := bif_cases h
              rcases h with ⟨hb9, h⟩ | ⟨hb9, h⟩
              · refine sat_brt (by first | exact hb9 | (subst_vars; first | exact hb9 | rfl)) ?_
                conv => arg 1; cbv
                obtain ⟨r10, hx11, hz⟩ := Option.bind_eq_some_iff.1 h
                clear h
                have h := hz
                clear hz
                refine sat_call (hp56 hx11 (by subst_vars; rfl) _) ?_
                conv => arg 1; cbv
                obtain rfl := Option.some.inj h
                subst_vars
                exact sat_pure rfl
              · refine sat_brf (by first | exact hb9 | (subst_vars; first | exact hb9 | rfl)) ?_
                conv => arg 1; cbv
                obtain rfl := Option.some.inj h
                subst_vars
                exact sat_pure rfl
            · refine sat_brf (by first | exact hb6 | (subst_vars; first | exact hb6 | rfl)) ?_
              conv => arg 1; cbv
              refine sat_tick hΩ ?_
              conv => arg 1; cbv
              obtain rfl := Option.some.inj h
              subst_vars
              exact sat_pure rfl
          · refine sat_brf (by first | exact hb5 | (subst_vars; first | exact hb5 | rfl)) ?_
            conv => arg 1; cbv
            refine sat_tick hΩ ?_
            conv => arg 1; cbv
            refine sat_tick hΩ ?_
            conv => arg 1; cbv
            obtain rfl := Option.some.inj h
            subst_vars
            exact sat_pure rfl
        · refine sat_brf (by first | exact hb4 | (subst_vars; first | exact hb4 | rfl)) ?_
          conv => arg 1; cbv
          refine sat_tick hΩ ?_
          conv => arg 1; cbv
          refine sat_tick hΩ ?_
          conv => arg 1; cbv
          obtain rfl := Option.some.inj h
          subst_vars
          exact sat_pure rfl
      · refine sat_brf (by first | exact hb3 | (subst_vars; first | exact hb3 | rfl)) ?_
        conv => arg 1; cbv
        refine sat_tick hΩ ?_
        conv => arg 1; cbv
        refine sat_tick hΩ ?_
        conv => arg 1; cbv
        refine sat_tick hΩ ?_
        conv => arg 1; cbv
        obtain rfl := Option.some.inj h
        subst_vars
        exact sat_pure rfl
    · refine sat_brf (by first | exact hb2 | (subst_vars; first | exact hb2 | rfl)) ?_
      conv => arg 1; cbv
      refine sat_tick hΩ ?_
      conv => arg 1; cbv
      refine sat_tick hΩ ?_
      conv => arg 1; cbv
      refine sat_tick hΩ ?_
      conv => arg 1; cbv
      obtain rfl := Option.some.inj h
      subst_vars
      exact sat_pure rfl
  · refine sat_brf (by first | exact hb1 | (subst_vars; first | exact hb1 | rfl)) ?_
    conv => arg 1; cbv
    refine sat_tick hΩ ?_
    conv => arg 1; cbv
    refine sat_tick hΩ ?_
    conv => arg 1; cbv
    refine sat_tick hΩ ?_
    conv => arg 1; cbv
    refine sat_tick hΩ ?_
    conv => arg 1; cbv
    obtain rfl := Option.some.inj h
    subst_vars
    exact sat_pure rfl
set_option maxHeartbeats 4000000 in
theorem okb56 {Ω : Om} {E : Enc} (hΩ : real (call S) = Ω) (hE : theEnc = E) {fu : Nat} {p29 : Value → Value → Option (Bool)} (hp29 : ∀ {a0 : Value} {a1 : Value} {r : Bool}, p29 a0 a1 = some r → ∀ {args : List PV}, [pv_Value E a0, pv_Value E a1] = args → ∀ (st : St), Sat (Ω.cf 29 args st) (fun q => q = (PV.d (.bool r), st))) {p56 : (Sl Field) → (Sl Field) → Option (Bool)} (hp56 : ∀ {a0 : Sl Field} {a1 : Sl Field} {r : Bool}, p56 a0 a1 = some r → ∀ {args : List PV}, [PV.d (.sl (E.L_Field a0.l) (E.X_Field a0.x)), PV.d (.sl (E.L_Field a1.l) (E.X_Field a1.x))] = args → ∀ (st : St), Sat (Ω.cf 56 args st) (fun q => q = (PV.d (.bool r), st))) {p68 : Field → Field → Option (Bool)} (hp68 : ∀ {a0 : Field} {a1 : Field} {r : Bool}, p68 a0 a1 = some r → ∀ {args : List PV}, [pv_Field E a0, pv_Field E a1] = args → ∀ (st : St), Sat (Ω.cf 68 args st) (fun q => q = (PV.d (.bool r), st))) {a0 : Sl Field} {a1 : Sl Field} {r : Bool} (h : Pb56 fu p29 p56 p68 a0 a1 = some r) {args : List PV} (ha : [PV.d (.sl (E.L_Field a0.l) (E.X_Field a0.x)), PV.d (.sl (E.L_Field a1.l) (E.X_Field a1.x))] = args) (st : St) :
    Sat (Ω.cf 56 args st) (fun q => q = (PV.d (.bool r), st)) := by
  subst ha
  rcases a0 with ⟨a0_l, a0_x⟩
  rcases a1 with ⟨a1_l, a1_x⟩
  rw [cf_body hΩ (f := 56) (fn := Try.f56) (x := c56) rfl rfl c56_ok rfl]
  unfold Pb56 at h
  try dsimp only at h
  conv => arg 1; cbv
  obtain ⟨r1, hx2, hz⟩ := Option.bind_eq_some_iff.1 h
  clear h
  have h := hz
  clear hz
  refine sat_call (ok67 hΩ hE (hf := fun h => @fun args ha st => hp68 h ha st) hx2 (by subst_vars; rfl) _) ?_
  conv => arg 1; cbv
  obtain rfl := Option.some.inj h
  subst_vars
  exact sat_pure rfl
set_option maxHeartbeats 4000000 in
theorem okb68 {Ω : Om} {E : Enc} (hΩ : real (call S) = Ω) (hE : theEnc = E) {fu : Nat} {p29 : Value → Value → Option (Bool)} (hp29 : ∀ {a0 : Value} {a1 : Value} {r : Bool}, p29 a0 a1 = some r → ∀ {args : List PV}, [pv_Value E a0, pv_Value E a1] = args → ∀ (st : St), Sat (Ω.cf 29 args st) (fun q => q = (PV.d (.bool r), st))) {p56 : (Sl Field) → (Sl Field) → Option (Bool)} (hp56 : ∀ {a0 : Sl Field} {a1 : Sl Field} {r : Bool}, p56 a0 a1 = some r → ∀ {args : List PV}, [PV.d (.sl (E.L_Field a0.l) (E.X_Field a0.x)), PV.d (.sl (E.L_Field a1.l) (E.X_Field a1.x))] = args → ∀ (st : St), Sat (Ω.cf 56 args st) (fun q => q = (PV.d (.bool r), st))) {p68 : Field → Field → Option (Bool)} (hp68 : ∀ {a0 : Field} {a1 : Field} {r : Bool}, p68 a0 a1 = some r → ∀ {args : List PV}, [pv_Field E a0, pv_Field E a1] = args → ∀ (st : St), Sat (Ω.cf 68 args st) (fun q => q = (PV.d (.bool r), st))) {a0 : Field} {a1 : Field} {r : Bool} (h : Pb68 fu p29 p56 p68 a0 a1 = some r) {args : List PV} (ha : [pv_Field E a0, pv_Field E a1] = args) (st : St) :
    Sat (Ω.cf 68 args st) (fun q => q = (PV.d (.bool r), st)) := by
  subst ha
  rcases a0 with ⟨a0_Name, ⟨a0_Value_Kind, a0_Value_N, a0_Value_S, ⟨a0_Value_L_l, a0_Value_L_x⟩, ⟨a0_Value_F_l, a0_Value_F_x⟩, a0_Value_Elem, a0_Value_Key, a0_Value_HasKey⟩⟩
  rcases a1 with ⟨a1_Name, ⟨a1_Value_Kind, a1_Value_N, a1_Value_S, ⟨a1_Value_L_l, a1_Value_L_x⟩, ⟨a1_Value_F_l, a1_Value_F_x⟩, a1_Value_Elem, a1_Value_Key, a1_Value_HasKey⟩⟩
  rw [cf_body hΩ (f := 68) (fn := Try.f68) (x := c68) rfl rfl c68_ok rfl]
  unfold Pb68 at h
  try dsimp only at h
  conv => arg 1; cbv
  replace h := bif_cases h
  rcases h with ⟨hb1, h⟩ | ⟨hb1, h⟩
  · refine sat_brt (by first | exact hb1 | (subst_vars; first | exact hb1 | rfl)) ?_
    conv => arg 1; cbv
    obtain ⟨r2, hx3, hz⟩ := Option.bind_eq_some_iff.1 h
    clear h
    have h := hz
    clear hz
    refine sat_call (hp29 hx3 (by subst_vars; rfl) _) ?_
    conv => arg 1; cbv
    refine sat_tick hΩ ?_
    conv => arg 1; cbv
    obtain rfl := Option.some.inj h
    subst_vars
    exact sat_pure rfl
  · refine sat_brf (by first | exact hb1 | (subst_vars; first | exact hb1 | rfl)) ?_
    conv => arg 1; cbv
    refine sat_tick hΩ ?_
    conv => arg 1; cbv
    obtain rfl := Option.some.inj h
    subst_vars
    exact sat_pure rfl
theorem okr29 {Ω : Om} {E : Enc} (hΩ : real (call S) = Ω) (hE : theEnc = E) : ∀ fu,
    (∀ {a0 : Value} {a1 : Value} {r : Bool}, P29 fu a0 a1 = some r → ∀ {args : List PV}, [pv_Value E a0, pv_Value E a1] = args → ∀ (st : St), Sat (Ω.cf 29 args st) (fun q => q = (PV.d (.bool r), st))) ∧
    (∀ {a0 : Sl Field} {a1 : Sl Field} {r : Bool}, P56 fu a0 a1 = some r → ∀ {args : List PV}, [PV.d (.sl (E.L_Field a0.l) (E.X_Field a0.x)), PV.d (.sl (E.L_Field a1.l) (E.X_Field a1.x))] = args → ∀ (st : St), Sat (Ω.cf 56 args st) (fun q => q = (PV.d (.bool r), st))) ∧
    (∀ {a0 : Field} {a1 : Field} {r : Bool}, P68 fu a0 a1 = some r → ∀ {args : List PV}, [pv_Field E a0, pv_Field E a1] = args → ∀ (st : St), Sat (Ω.cf 68 args st) (fun q => q = (PV.d (.bool r), st))) := by
  intro fu
  induction fu with
  | zero => exact ⟨(fun h => (by cases h)), (fun h => (by cases h)), (fun h => (by cases h))⟩
  | succ fu ih =>
    obtain ⟨i29, i56, i68⟩ := ih
    exact ⟨(fun h => @fun args ha st => okb29 (fu := fu) hΩ hE i29 i56 i68 h ha st), (fun h => @fun args ha st => okb56 (fu := fu) hΩ hE i29 i56 i68 h ha st), (fun h => @fun args ha st => okb68 (fu := fu) hΩ hE i29 i56 i68 h ha st)⟩
theorem ok29 {Ω : Om} {E : Enc} (hΩ : real (call S) = Ω) (hE : theEnc = E) {fu : Nat} : ∀ {a0 : Value} {a1 : Value} {r : Bool}, P29 fu a0 a1 = some r → ∀ {args : List PV}, [pv_Value E a0, pv_Value E a1] = args → ∀ (st : St), Sat (Ω.cf 29 args st) (fun q => q = (PV.d (.bool r), st)) := (okr29 hΩ hE fu).1
theorem ok56 {Ω : Om} {E : Enc} (hΩ : real (call S) = Ω) (hE : theEnc = E) {fu : Nat} : ∀ {a0 : Sl Field} {a1 : Sl Field} {r : Bool}, P56 fu a0 a1 = some r → ∀ {args : List PV}, [PV.d (.sl (E.L_Field a0.l) (E.X_Field a0.x)), PV.d (.sl (E.L_Field a1.l) (E.X_Field a1.x))] = args → ∀ (st : St), Sat (Ω.cf 56 args st) (fun q => q = (PV.d (.bool r), st)) := (okr29 hΩ hE fu).2.1
theorem ok68 {Ω : Om} {E : Enc} (hΩ : real (call S) = Ω) (hE : theEnc = E) {fu : Nat} : ∀ {a0 : Field} {a1 : Field} {r : Bool}, P68 fu a0 a1 = some r → ∀ {args : List PV}, [pv_Field E a0, pv_Field E a1] = args → ∀ (st : St), Sat (Ω.cf 68 args st) (fun q => q = (PV.d (.bool r), st)) := (okr29 hΩ hE fu).2.2
set_option maxHeartbeats 4000000 in
theorem okb30 {Ω : Om} {E : Enc} (hΩ : real (call S) = Ω) (hE : theEnc = E) {fu : Nat} {p30 : Value → Value → Option (Bool)} (hp30 : ∀ {a0 : Value} {a1 : Value} {r : Bool}, p30 a0 a1 = some r → ∀ {args : List PV}, [pv_Value E a0, pv_Value E a1] = args → ∀ (st : St), Sat (Ω.cf 30 args st) (fun q => q = (PV.d (.bool r), st))) {p57 : (Sl Field) → (Sl Field) → Option (Bool)} (hp57 : ∀ {a0 : Sl Field} {a1 : Sl Field} {r : Bool}, p57 a0 a1 = some r → ∀ {args : List PV}, [PV.d (.sl (E.L_Field a0.l) (E.X_Field a0.x)), PV.d (.sl (E.L_Field a1.l) (E.X_Field a1.x))] = args → ∀ (st : St), Sat (Ω.cf 57 args st) (fun q => q = (PV.d (.bool r), st))) {a0 : Value} {a1 : Value} {r : Bool} (h : Pb30 fu p30 p57 a0 a1 = some r) {args : List PV} (ha : [pv_Value E a0, pv_Value E a1] = args) (st : St) :
    Sat (Ω.cf 30 args st) (fun q => q = (PV.d (.bool r), st)) := by
  subst ha
  rcases a0 with ⟨a0_Kind, a0_N, a0_S, ⟨a0_L_l, a0_L_x⟩, ⟨a0_F_l, a0_F_x⟩, a0_Elem, a0_Key, a0_HasKey⟩
  rcases a1 with ⟨a1_Kind, a1_N, a1_S, ⟨a1_L_l, a1_L_x⟩, ⟨a1_F_l, a1_F_x⟩, a1_Elem, a1_Key, a1_HasKey⟩
  rw [cf_body hΩ (f := 30) (fn := Try.f30) (x := c30) rfl rfl c30_ok rfl]
  unfold Pb30 at h
  try dsimp only at h
  conv => arg 1; cbv
  replace h := bif_cases h
  rcases h with ⟨hb1, h⟩ | ⟨hb1, h⟩
  · refine sat_brt (by first | exact hb1 | (subst_vars; first | exact hb1 | rfl)) ?_
    conv => arg 1; cbv
    refine sat_tick hΩ ?_
    conv => arg 1; cbv
    replace h := bif_cases h
    rcases h with ⟨hb2, h⟩ | ⟨hb2, h⟩
    · refine sat_brt (by first | exact hb2 | (subst_vars; first | exact hb2 | rfl)) ?_
      conv => arg 1; cbv
      replace h := bif_cases h
      rcases h with ⟨hb3, h⟩ | ⟨hb3, h⟩
      · refine sat_brt (by first | exact hb3 | (subst_vars; first | exact hb3 | rfl)) ?_
        conv => arg 1; cbv
        refine sat_tick hΩ ?_
        conv => arg 1; cbv
        replace h := bif_cases h
        rcases h with ⟨hb4, h⟩ | ⟨hb4, h⟩
        · refine sat_brt (by first | exact hb4 | (subst_vars; first | exact hb4 | rfl)) ?_
          conv => arg 1; cbv
          replace h := bif_cases h
          rcases h with ⟨hb5, h⟩ | ⟨hb5, h⟩
          · refine sat_brt (by first | exact hb5 | (subst_vars; first | exact hb5 | rfl)) ?_
            conv => arg 1; cbv
            refine sat_tick hΩ ?_
            conv => arg 1; cbv
            replace h := bif_cases h
            rcases h with ⟨hb6, h⟩ | ⟨hb6, h⟩
            · refine sat_brt (by first | exact hb6 | (subst_vars; first | exact hb6 | rfl)) ?_
              conv => arg 1; cbv
              refine sat_len hΩ (ro_Value hE) a0_L_l (by first | rfl | (subst_vars; rfl)) fun n7 hn8 => ?_
              conv => arg 1; cbv
              refine sat_len hΩ (ro_Value hE) a1_L_l (by first | rfl | (subst_vars; rfl)) fun n9 hn10 => ?_
              conv => arg 1; cbv
              refine sat_tick hΩ ?_
              conv => arg 1; cbv
              refine sat_in hΩ ?_
              conv => arg 1; cbv
              replace h := bif_cases h
              rcases h with ⟨hb11, h⟩ | ⟨hb11, h⟩
              · refine sat_brt (by first | exact hb11 | (subst_vars; first | exact hb11 | rfl)) ?_
                conv => arg 1; cbv
                obtain rfl := Option.some.inj h
                subst_vars
                exact sat_pure rfl
              · refine sat_brf (by first | exact hb11 | (subst_vars; first | exact hb11 | rfl)) ?_
                conv => arg 1; cbv
                obtain ⟨q, hl23, hz⟩ := Option.bind_eq_some_iff.1 h
                clear h
                have h := hz
                clear hz
                refine sat_loop hΩ (fun (a : Int) => (match a with | i12 => ([(0, PV.agg [.d (.int .u8 a0_Kind), .d (.int .i64 a0_N), .d (.str a0_S), .d (.sl (E.L_Value a0_L_l) (E.X_Value a0_L_x)), .d (.sl (E.L_Field a0_F_l) (E.X_Field a0_F_x)), .d (.int .u8 a0_Elem), .d (.str a0_Key), .d (.bool a0_HasKey)]), (1, PV.agg [.d (.int .u8 a1_Kind), .d (.int .i64 a1_N), .d (.str a1_S), .d (.sl (E.L_Value a1_L_l) (E.X_Value a1_L_x)), .d (.sl (E.L_Field a1_F_l) (E.X_Field a1_F_x)), .d (.int .u8 a1_Elem), .d (.str a1_Key), .d (.bool a1_HasKey)]), (2, PV.ptr 0 0 0), (3, PV.ptr 0 1 0), (4, PV.d (.bool false)), (5, PV.d (.int .i64 i12))], ([X.Obj.box 27 [.d (.int .u8 a0_Kind), .d (.int .i64 a0_N), .d (.str a0_S), .d (.sl (E.L_Value a0_L_l) (E.X_Value a0_L_x)), .d (.sl (E.L_Field a0_F_l) (E.X_Field a0_F_x)), .d (.int .u8 a0_Elem), .d (.str a0_Key), .d (.bool a0_HasKey)], X.Obj.box 27 [.d (.int .u8 a1_Kind), .d (.int .i64 a1_N), .d (.str a1_S), .d (.sl (E.L_Value a1_L_l) (E.X_Value a1_L_x)), .d (.sl (E.L_Field a1_F_l) (E.X_Field a1_F_x)), .d (.int .u8 a1_Elem), .d (.str a1_Key), .d (.bool a1_HasKey)]] : List X.Obj) :: st))) (fun (q : Int ⊕ Int) => (match q with | .inl o24 => (.exit 0, [(0, PV.agg [.d (.int .u8 a0_Kind), .d (.int .i64 a0_N), .d (.str a0_S), .d (.sl (E.L_Value a0_L_l) (E.X_Value a0_L_x)), .d (.sl (E.L_Field a0_F_l) (E.X_Field a0_F_x)), .d (.int .u8 a0_Elem), .d (.str a0_Key), .d (.bool a0_HasKey)]), (1, PV.agg [.d (.int .u8 a1_Kind), .d (.int .i64 a1_N), .d (.str a1_S), .d (.sl (E.L_Value a1_L_l) (E.X_Value a1_L_x)), .d (.sl (E.L_Field a1_F_l) (E.X_Field a1_F_x)), .d (.int .u8 a1_Elem), .d (.str a1_Key), .d (.bool a1_HasKey)]), (2, PV.ptr 0 0 0), (3, PV.ptr 0 1 0), (4, PV.d (.bool false)), (5, PV.d (.int .i64 o24))], ([X.Obj.box 27 [.d (.int .u8 a0_Kind), .d (.int .i64 a0_N), .d (.str a0_S), .d (.sl (E.L_Value a0_L_l) (E.X_Value a0_L_x)), .d (.sl (E.L_Field a0_F_l) (E.X_Field a0_F_x)), .d (.int .u8 a0_Elem), .d (.str a0_Key), .d (.bool a0_HasKey)], X.Obj.box 27 [.d (.int .u8 a1_Kind), .d (.int .i64 a1_N), .d (.str a1_S), .d (.sl (E.L_Value a1_L_l) (E.X_Value a1_L_x)), .d (.sl (E.L_Field a1_F_l) (E.X_Field a1_F_x)), .d (.int .u8 a1_Elem), .d (.str a1_Key), .d (.bool a1_HasKey)]] : List X.Obj) :: st) | .inr o27 => (.ret, [(0, PV.agg [.d (.int .u8 a0_Kind), .d (.int .i64 a0_N), .d (.str a0_S), .d (.sl (E.L_Value a0_L_l) (E.X_Value a0_L_x)), .d (.sl (E.L_Field a0_F_l) (E.X_Field a0_F_x)), .d (.int .u8 a0_Elem), .d (.str a0_Key), .d (.bool a0_HasKey)]), (1, PV.agg [.d (.int .u8 a1_Kind), .d (.int .i64 a1_N), .d (.str a1_S), .d (.sl (E.L_Value a1_L_l) (E.X_Value a1_L_x)), .d (.sl (E.L_Field a1_F_l) (E.X_Field a1_F_x)), .d (.int .u8 a1_Elem), .d (.str a1_Key), .d (.bool a1_HasKey)]), (2, PV.ptr 0 0 0), (3, PV.ptr 0 1 0), (4, PV.d (.bool false)), (5, PV.d (.int .i64 o27))], ([X.Obj.box 27 [.d (.int .u8 a0_Kind), .d (.int .i64 a0_N), .d (.str a0_S), .d (.sl (E.L_Value a0_L_l) (E.X_Value a0_L_x)), .d (.sl (E.L_Field a0_F_l) (E.X_Field a0_F_x)), .d (.int .u8 a0_Elem), .d (.str a0_Key), .d (.bool a0_HasKey)], X.Obj.box 27 [.d (.int .u8 a1_Kind), .d (.int .i64 a1_N), .d (.str a1_S), .d (.sl (E.L_Value a1_L_l) (E.X_Value a1_L_x)), .d (.sl (E.L_Field a1_F_l) (E.X_Field a1_F_x)), .d (.int .u8 a1_Elem), .d (.str a1_Key), .d (.bool a1_HasKey)]] : List X.Obj) :: st))) 0 hl23 (by first | rfl | (subst_vars; rfl)) ?_ ?_
                · clear h hl23
                  rintro i12 q h
                  unfold P30_s0 at h
                  dsimp only at h
                  conv => arg 1; cbv
                  refine sat_len hΩ (ro_Value hE) a0_L_l (by first | rfl | (subst_vars; rfl)) fun n13 hn14 => ?_
                  conv => arg 1; cbv
                  refine sat_in hΩ ?_
                  conv => arg 1; cbv
                  replace h := bif_cases h
                  rcases h with ⟨hb15, h⟩ | ⟨hb15, h⟩
                  · refine sat_brt (by first | exact hb15 | (subst_vars; first | exact hb15 | rfl)) ?_
                    conv => arg 1; cbv
                    refine sat_true (fits_l hΩ (ro_Value hE) a0_L_l (by first | rfl | (subst_vars; rfl))) ?_
                    conv => arg 1; cbv
                    obtain ⟨⟨x16_Kind, x16_N, x16_S, ⟨x16_L_l, x16_L_x⟩, ⟨x16_F_l, x16_F_x⟩, x16_Elem, x16_Key, x16_HasKey⟩, hx17, hz⟩ := Option.bind_eq_some_iff.1 h
                    clear h
                    have h := hz
                    clear hz
                    try dsimp only at h
                    refine sat_bind (nth_ok hΩ (ro_Value hE) hx17 (by first | rfl | (subst_vars; rfl)) (by first | rfl | (subst_vars; rfl))) ?_
                    conv => arg 1; cbv
                    refine sat_true (fits_l hΩ (ro_Value hE) a1_L_l (by first | rfl | (subst_vars; rfl))) ?_
                    conv => arg 1; cbv
                    obtain ⟨⟨x18_Kind, x18_N, x18_S, ⟨x18_L_l, x18_L_x⟩, ⟨x18_F_l, x18_F_x⟩, x18_Elem, x18_Key, x18_HasKey⟩, hx19, hz⟩ := Option.bind_eq_some_iff.1 h
                    clear h
                    have h := hz
                    clear hz
                    try dsimp only at h
                    refine sat_bind (nth_ok hΩ (ro_Value hE) hx19 (by first | rfl | (subst_vars; rfl)) (by first | rfl | (subst_vars; rfl))) ?_
                    conv => arg 1; cbv
                    obtain ⟨r20, hx21, hz⟩ := Option.bind_eq_some_iff.1 h
                    clear h
                    have h := hz
                    clear hz
                    refine sat_call (hp30 hx21 (by subst_vars; rfl) _) ?_
                    conv => arg 1; cbv
                    refine sat_true (same_ok hΩ _) ?_
                    conv => arg 1; cbv
                    refine sat_in hΩ ?_
                    conv => arg 1; cbv
                    replace h := bif_cases h
                    rcases h with ⟨hb22, h⟩ | ⟨hb22, h⟩
                    · refine sat_brt (by first | exact hb22 | (subst_vars; first | exact hb22 | rfl)) ?_
                      conv => arg 1; cbv
                      obtain rfl := Option.some.inj h
                      subst_vars
                      exact sat_pure (.inr ⟨rfl, rfl⟩)
                    · refine sat_brf (by first | exact hb22 | (subst_vars; first | exact hb22 | rfl)) ?_
                      conv => arg 1; cbv
                      obtain rfl := Option.some.inj h
                      subst_vars
                      exact sat_pure ⟨rfl, rfl, rfl⟩
                  · refine sat_brf (by first | exact hb15 | (subst_vars; first | exact hb15 | rfl)) ?_
                    conv => arg 1; cbv
                    obtain rfl := Option.some.inj h
                    subst_vars
                    exact sat_pure (.inl ⟨⟨_, rfl⟩, rfl⟩)
                · clear hl23
                  rcases q with o24 | o27
                  · dsimp only at h
                    conv => arg 1; cbv
                    obtain ⟨r25, hx26, hz⟩ := Option.bind_eq_some_iff.1 h
                    clear h
                    have h := hz
                    clear hz
                    refine sat_call (hp57 hx26 (by subst_vars; rfl) _) ?_
                    conv => arg 1; cbv
                    obtain rfl := Option.some.inj h
                    subst_vars
                    exact sat_pure rfl
                  · dsimp only at h
                    conv => arg 1; cbv
                    obtain rfl := Option.some.inj h
                    subst_vars
                    exact sat_pure rfl
            · refine sat_brf (by first | exact hb6 | (subst_vars; first | exact hb6 | rfl)) ?_
              conv => arg 1; cbv
              refine sat_tick hΩ ?_
              conv => arg 1; cbv
              refine sat_in hΩ ?_
              conv => arg 1; cbv
              obtain rfl := Option.some.inj h
              subst_vars
              exact sat_pure rfl
          · refine sat_brf (by first | exact hb5 | (subst_vars; first | exact hb5 | rfl)) ?_
            conv => arg 1; cbv
            refine sat_tick hΩ ?_
            conv => arg 1; cbv
            refine sat_tick hΩ ?_
            conv => arg 1; cbv
            refine sat_in hΩ ?_
            conv => arg 1; cbv
            obtain rfl := Option.some.inj h
            subst_vars
            exact sat_pure rfl
        · refine sat_brf (by first | exact hb4 | (subst_vars; first | exact hb4 | rfl)) ?_
          conv => arg 1; cbv
          refine sat_tick hΩ ?_
          conv => arg 1; cbv
          refine sat_tick hΩ ?_
          conv => arg 1; cbv
          refine sat_in hΩ ?_
          conv => arg 1; cbv
          obtain rfl := Option.some.inj h
          subst_vars
          exact sat_pure rfl
      · refine sat_brf (by first | exact hb3 | (subst_vars; first | exact hb3 | rfl)) ?_
        conv => arg 1; cbv
        refine sat_tick hΩ ?_
        conv => arg 1; cbv
        refine sat_tick hΩ ?_
        conv => arg 1; cbv
        refine sat_tick hΩ ?_
        conv => arg 1; cbv
        refine sat_in hΩ ?_
        conv => arg 1; cbv
        obtain rfl := Option.some.inj h
        subst_vars
        exact sat_pure rfl
    · refine sat_brf (by first | exact hb2 | (subst_vars; first | exact hb2 | rfl)) ?_
      conv => arg 1; cbv
      refine sat_tick hΩ ?_
      conv => arg 1; cbv
      refine sat_tick hΩ ?_
      conv => arg 1; cbv
      refine sat_tick hΩ ?_
      conv => arg 1; cbv
      refine sat_in hΩ ?_
      conv => arg 1; cbv
      obtain rfl := Option.some.inj h
      subst_vars
      exact sat_pure rfl
  · refine sat_brf (by first | exact hb1 | (subst_vars; first | exact hb1 | rfl)) ?_
    conv => arg 1; cbv
    refine sat_tick hΩ ?_
    conv => arg 1; cbv
    refine sat_tick hΩ ?_
    conv => arg 1; cbv
    refine sat_tick hΩ ?_
    conv => arg 1; cbv
    refine sat_tick hΩ ?_
    conv => arg 1; cbv
    refine sat_in hΩ ?_
    conv => arg 1; cbv
    obtain rfl := Option.some.inj h
    subst_vars
    exact sat_pure rfl
set_option maxHeartbeats 4000000 in
theorem okb57 {Ω : Om} {E : Enc} (hΩ : real (call S) = Ω) (hE : theEnc = E) {fu : Nat} {p30 : Value → Value → Option (Bool)} (hp30 : ∀ {a0 : Value} {a1 : Value} {r : Bool}, p30 a0 a1 = some r → ∀ {args : List PV}, [pv_Value E a0, pv_Value E a1] = args → ∀ (st : St), Sat (Ω.cf 30 args st) (fun q => q = (PV.d (.bool r), st))) {p57 : (Sl Field) → (Sl Field) → Option (Bool)} (hp57 : ∀ {a0 : Sl Field} {a1 : Sl Field} {r : Bool}, p57 a0 a1 = some r → ∀ {args : List PV}, [PV.d (.sl (E.L_Field a0.l) (E.X_Field a0.x)), PV.d (.sl (E.L_Field a1.l) (E.X_Field a1.x))] = args → ∀ (st : St), Sat (Ω.cf 57 args st) (fun q => q = (PV.d (.bool r), st))) {a0 : Sl Field} {a1 : Sl Field} {r : Bool} (h : Pb57 fu p30 p57 a0 a1 = some r) {args : List PV} (ha : [PV.d (.sl (E.L_Field a0.l) (E.X_Field a0.x)), PV.d (.sl (E.L_Field a1.l) (E.X_Field a1.x))] = args) (st : St) :
    Sat (Ω.cf 57 args st) (fun q => q = (PV.d (.bool r), st)) := by
  subst ha
  rcases a0 with ⟨a0_l, a0_x⟩
  rcases a1 with ⟨a1_l, a1_x⟩
  rw [cf_body hΩ (f := 57) (fn := Try.f57) (x := c57) rfl rfl c57_ok rfl]
  unfold Pb57 at h
  try dsimp only at h
  conv => arg 1; cbv
  refine sat_len hΩ (ro_Field hE) a0_l (by first | rfl | (subst_vars; rfl)) fun n1 hn2 => ?_
  conv => arg 1; cbv
  refine sat_len hΩ (ro_Field hE) a1_l (by first | rfl | (subst_vars; rfl)) fun n3 hn4 => ?_
  conv => arg 1; cbv
  refine sat_in hΩ ?_
  conv => arg 1; cbv
  replace h := bif_cases h
  rcases h with ⟨hb5, h⟩ | ⟨hb5, h⟩
  · refine sat_brt (by first | exact hb5 | (subst_vars; first | exact hb5 | rfl)) ?_
    conv => arg 1; cbv
    obtain rfl := Option.some.inj h
    subst_vars
    exact sat_pure rfl
  · refine sat_brf (by first | exact hb5 | (subst_vars; first | exact hb5 | rfl)) ?_
    conv => arg 1; cbv
    obtain ⟨q, hl22, hz⟩ := Option.bind_eq_some_iff.1 h
    clear h
    have h := hz
    clear hz
    refine sat_loop hΩ (fun (a : Int) => (match a with | i6 => ([(0, PV.d (.sl (E.L_Field a0_l) (E.X_Field a0_x))), (1, PV.d (.sl (E.L_Field a1_l) (E.X_Field a1_x))), (4, PV.d (.bool false)), (5, PV.d (.int .i64 i6))], ([] : List X.Obj) :: st))) (fun (q : Int ⊕ Int) => (match q with | .inl o23 => (.exit 0, [(0, PV.d (.sl (E.L_Field a0_l) (E.X_Field a0_x))), (1, PV.d (.sl (E.L_Field a1_l) (E.X_Field a1_x))), (4, PV.d (.bool false)), (5, PV.d (.int .i64 o23))], ([] : List X.Obj) :: st) | .inr o24 => (.ret, [(0, PV.d (.sl (E.L_Field a0_l) (E.X_Field a0_x))), (1, PV.d (.sl (E.L_Field a1_l) (E.X_Field a1_x))), (4, PV.d (.bool false)), (5, PV.d (.int .i64 o24))], ([] : List X.Obj) :: st))) 0 hl22 (by first | rfl | (subst_vars; rfl)) ?_ ?_
    · clear h hl22
      rintro i6 q h
      unfold P57_s0 at h
      dsimp only at h
      conv => arg 1; cbv
      refine sat_len hΩ (ro_Field hE) a0_l (by first | rfl | (subst_vars; rfl)) fun n7 hn8 => ?_
      conv => arg 1; cbv
      refine sat_in hΩ ?_
      conv => arg 1; cbv
      replace h := bif_cases h
      rcases h with ⟨hb9, h⟩ | ⟨hb9, h⟩
      · refine sat_brt (by first | exact hb9 | (subst_vars; first | exact hb9 | rfl)) ?_
        conv => arg 1; cbv
        refine sat_true (fits_l hΩ (ro_Field hE) a0_l (by first | rfl | (subst_vars; rfl))) ?_
        conv => arg 1; cbv
        obtain ⟨⟨x10_Name, ⟨x10_Value_Kind, x10_Value_N, x10_Value_S, ⟨x10_Value_L_l, x10_Value_L_x⟩, ⟨x10_Value_F_l, x10_Value_F_x⟩, x10_Value_Elem, x10_Value_Key, x10_Value_HasKey⟩⟩, hx11, hz⟩ := Option.bind_eq_some_iff.1 h
        clear h
        have h := hz
        clear hz
        try dsimp only at h
        refine sat_bind (nth_ok hΩ (ro_Field hE) hx11 (by first | rfl | (subst_vars; rfl)) (by first | rfl | (subst_vars; rfl))) ?_
        conv => arg 1; cbv
        refine sat_true (fits_l hΩ (ro_Field hE) a1_l (by first | rfl | (subst_vars; rfl))) ?_
        conv => arg 1; cbv
        obtain ⟨⟨x12_Name, ⟨x12_Value_Kind, x12_Value_N, x12_Value_S, ⟨x12_Value_L_l, x12_Value_L_x⟩, ⟨x12_Value_F_l, x12_Value_F_x⟩, x12_Value_Elem, x12_Value_Key, x12_Value_HasKey⟩⟩, hx13, hz⟩ := Option.bind_eq_some_iff.1 h
        clear h
        have h := hz
        clear hz
        try dsimp only at h
        refine sat_bind (nth_ok hΩ (ro_Field hE) hx13 (by first | rfl | (subst_vars; rfl)) (by first | rfl | (subst_vars; rfl))) ?_
        conv => arg 1; cbv
        refine sat_tick hΩ ?_
        conv => arg 1; cbv
        replace h := bif_cases h
        rcases h with ⟨hb14, h⟩ | ⟨hb14, h⟩
        · refine sat_brt (by first | exact hb14 | (subst_vars; first | exact hb14 | rfl)) ?_
          conv => arg 1; cbv
          refine sat_true (fits_l hΩ (ro_Field hE) a0_l (by first | rfl | (subst_vars; rfl))) ?_
          conv => arg 1; cbv
          obtain ⟨⟨x15_Name, ⟨x15_Value_Kind, x15_Value_N, x15_Value_S, ⟨x15_Value_L_l, x15_Value_L_x⟩, ⟨x15_Value_F_l, x15_Value_F_x⟩, x15_Value_Elem, x15_Value_Key, x15_Value_HasKey⟩⟩, hx16, hz⟩ := Option.bind_eq_some_iff.1 h
          clear h
          have h := hz
          clear hz
          try dsimp only at h
          refine sat_bind (nth_ok hΩ (ro_Field hE) hx16 (by first | rfl | (subst_vars; rfl)) (by first | rfl | (subst_vars; rfl))) ?_
          conv => arg 1; cbv
          refine sat_true (fits_l hΩ (ro_Field hE) a1_l (by first | rfl | (subst_vars; rfl))) ?_
          conv => arg 1; cbv
          obtain ⟨⟨x17_Name, ⟨x17_Value_Kind, x17_Value_N, x17_Value_S, ⟨x17_Value_L_l, x17_Value_L_x⟩, ⟨x17_Value_F_l, x17_Value_F_x⟩, x17_Value_Elem, x17_Value_Key, x17_Value_HasKey⟩⟩, hx18, hz⟩ := Option.bind_eq_some_iff.1 h
          clear h
          have h := hz
          clear hz
          try dsimp only at h
          refine sat_bind (nth_ok hΩ (ro_Field hE) hx18 (by first | rfl | (subst_vars; rfl)) (by first | rfl | (subst_vars; rfl))) ?_
          conv => arg 1; cbv
          obtain ⟨r19, hx20, hz⟩ := Option.bind_eq_some_iff.1 h
          clear h
          have h := hz
          clear hz
          refine sat_call (hp30 hx20 (by subst_vars; rfl) _) ?_
          conv => arg 1; cbv
          refine sat_true (same_ok hΩ _) ?_
          conv => arg 1; cbv
          refine sat_tick hΩ ?_
          conv => arg 1; cbv
          refine sat_in hΩ ?_
          conv => arg 1; cbv
          replace h := bif_cases h
          rcases h with ⟨hb21, h⟩ | ⟨hb21, h⟩
          · refine sat_brt (by first | exact hb21 | (subst_vars; first | exact hb21 | rfl)) ?_
            conv => arg 1; cbv
            obtain rfl := Option.some.inj h
            subst_vars
            exact sat_pure (.inr ⟨rfl, rfl⟩)
          · refine sat_brf (by first | exact hb21 | (subst_vars; first | exact hb21 | rfl)) ?_
            conv => arg 1; cbv
            obtain rfl := Option.some.inj h
            subst_vars
            exact sat_pure ⟨rfl, rfl, rfl⟩
        · refine sat_brf (by first | exact hb14 | (subst_vars; first | exact hb14 | rfl)) ?_
          conv => arg 1; cbv
          refine sat_tick hΩ ?_
          conv => arg 1; cbv
          refine sat_in hΩ ?_
          conv => arg 1; cbv
          obtain rfl := Option.some.inj h
          subst_vars
          exact sat_pure (.inr ⟨rfl, rfl⟩)
      · refine sat_brf (by first | exact hb9 | (subst_vars; first | exact hb9 | rfl)) ?_
        conv => arg 1; cbv
        obtain rfl := Option.some.inj h
        subst_vars
        exact sat_pure (.inl ⟨⟨_, rfl⟩, rfl⟩)
    · clear hl22
      rcases q with o23 | o24
      · dsimp only at h
        conv => arg 1; cbv
        obtain rfl := Option.some.inj h
        subst_vars
        exact sat_pure rfl
      · dsimp only at h
        conv => arg 1; cbv
        obtain rfl := Option.some.inj h
        subst_vars
        exact sat_pure rfl
theorem okr30 {Ω : Om} {E : Enc} (hΩ : real (call S) = Ω) (hE : theEnc = E) : ∀ fu,
    (∀ {a0 : Value} {a1 : Value} {r : Bool}, P30 fu a0 a1 = some r → ∀ {args : List PV}, [pv_Value E a0, pv_Value E a1] = args → ∀ (st : St), Sat (Ω.cf 30 args st) (fun q => q = (PV.d (.bool r), st))) ∧
    (∀ {a0 : Sl Field} {a1 : Sl Field} {r : Bool}, P57 fu a0 a1 = some r → ∀ {args : List PV}, [PV.d (.sl (E.L_Field a0.l) (E.X_Field a0.x)), PV.d (.sl (E.L_Field a1.l) (E.X_Field a1.x))] = args → ∀ (st : St), Sat (Ω.cf 57 args st) (fun q => q = (PV.d (.bool r), st))) := by
  intro fu
  induction fu with
  | zero => exact ⟨(fun h => (by cases h)), (fun h => (by cases h))⟩
  | succ fu ih =>
    obtain ⟨i30, i57⟩ := ih
    exact ⟨(fun h => @fun args ha st => okb30 (fu := fu) hΩ hE i30 i57 h ha st), (fun h => @fun args ha st => okb57 (fu := fu) hΩ hE i30 i57 h ha st)⟩
theorem ok30 {Ω : Om} {E : Enc} (hΩ : real (call S) = Ω) (hE : theEnc = E) {fu : Nat} : ∀ {a0 : Value} {a1 : Value} {r : Bool}, P30 fu a0 a1 = some r → ∀ {args : List PV}, [pv_Value E a0, pv_Value E a1] = args → ∀ (st : St), Sat (Ω.cf 30 args st) (fun q => q = (PV.d (.bool r), st)) := (okr30 hΩ hE fu).1
theorem ok57 {Ω : Om} {E : Enc} (hΩ : real (call S) = Ω) (hE : theEnc = E) {fu : Nat} : ∀ {a0 : Sl Field} {a1 : Sl Field} {r : Bool}, P57 fu a0 a1 = some r → ∀ {args : List PV}, [PV.d (.sl (E.L_Field a0.l) (E.X_Field a0.x)), PV.d (.sl (E.L_Field a1.l) (E.X_Field a1.x))] = args → ∀ (st : St), Sat (Ω.cf 57 args st) (fun q => q = (PV.d (.bool r), st)) := (okr30 hΩ hE fu).2
set_option maxHeartbeats 4000000 in
theorem ok31 {Ω : Om} {E : Enc} (hΩ : real (call S) = Ω) (hE : theEnc = E) {fu : Nat} {a0 : Value} {a1 : Value} {r : Bool} (h : P31 fu a0 a1 = some r) {args : List PV} (ha : [pv_Value E a0, pv_Value E a1] = args) (st : St) :
    Sat (Ω.cf 31 args st) (fun q => q = (PV.d (.bool r), st)) := by
  subst ha
  rcases a0 with ⟨a0_Kind, a0_N, a0_S, ⟨a0_L_l, a0_L_x⟩, ⟨a0_F_l, a0_F_x⟩, a0_Elem, a0_Key, a0_HasKey⟩
  rcases a1 with ⟨a1_Kind, a1_N, a1_S, ⟨a1_L_l, a1_L_x⟩, ⟨a1_F_l, a1_F_x⟩, a1_Elem, a1_Key, a1_HasKey⟩
  rw [cf_body hΩ (f := 31) (fn := Try.f31) (x := c31) rfl rfl c31_ok rfl]
  unfold P31 at h
  try dsimp only at h
  conv => arg 1; cbv
  replace h := bif_cases h
  rcases h with ⟨hb1, h⟩ | ⟨hb1, h⟩
  · refine sat_brt (by first | exact hb1 | (subst_vars; first | exact hb1 | rfl)) ?_
    conv => arg 1; cbv
    replace h := bif_cases h
    rcases h with ⟨hb2, h⟩ | ⟨hb2, h⟩
    · refine sat_brt (by first | exact hb2 | (subst_vars; first | exact hb2 | rfl)) ?_
      conv => arg 1; cbv
      refine sat_tick hΩ ?_
      conv => arg 1; cbv
      obtain ⟨r3, hx4, hz⟩ := Option.bind_eq_some_iff.1 h
      clear h
      have h := hz
      clear hz
      refine sat_call (ok56 hΩ hE hx4 (by subst_vars; rfl) _) ?_
      conv => arg 1; cbv
      obtain rfl := Option.some.inj h
      subst_vars
      exact sat_pure rfl
    · refine sat_brf (by first | exact hb2 | (subst_vars; first | exact hb2 | rfl)) ?_
      conv => arg 1; cbv
      refine sat_tick hΩ ?_
      conv => arg 1; cbv
      obtain rfl := Option.some.inj h
      subst_vars
      exact sat_pure rfl
  · refine sat_brf (by first | exact hb1 | (subst_vars; first | exact hb1 | rfl)) ?_
    conv => arg 1; cbv
    refine sat_tick hΩ ?_
    conv => arg 1; cbv
    obtain rfl := Option.some.inj h
    subst_vars
    exact sat_pure rfl
set_option maxHeartbeats 4000000 in
theorem ok32 {Ω : Om} {E : Enc} (hΩ : real (call S) = Ω) (hE : theEnc = E) {fu : Nat} {a0 : Value} {a1 : Value} {r : Bool} (h : P32 fu a0 a1 = some r) {args : List PV} (ha : [pv_Value E a0, pv_Value E a1] = args) (st : St) :
    Sat (Ω.cf 32 args st) (fun q => q = (PV.d (.bool r), st)) := by
  subst ha
  rcases a0 with ⟨a0_Kind, a0_N, a0_S, ⟨a0_L_l, a0_L_x⟩, ⟨a0_F_l, a0_F_x⟩, a0_Elem, a0_Key, a0_HasKey⟩
  rcases a1 with ⟨a1_Kind, a1_N, a1_S, ⟨a1_L_l, a1_L_x⟩, ⟨a1_F_l, a1_F_x⟩, a1_Elem, a1_Key, a1_HasKey⟩
  rw [cf_body hΩ (f := 32) (fn := Try.f32) (x := c32) rfl rfl c32_ok rfl]
  unfold P32 at h
  try dsimp only at h
  conv => arg 1; cbv
  replace h := bif_cases h
  rcases h with ⟨hb1, h⟩ | ⟨hb1, h⟩
  · refine sat_brt (by first | exact hb1 | (subst_vars; first | exact hb1 | rfl)) ?_
    conv => arg 1; cbv
    replace h := bif_cases h
    rcases h with ⟨hb2, h⟩ | ⟨hb2, h⟩
    · refine sat_brt (by first | exact hb2 | (subst_vars; first | exact hb2 | rfl)) ?_
      conv => arg 1; cbv
      refine sat_tick hΩ ?_
      conv => arg 1; cbv
      obtain ⟨r3, hx4, hz⟩ := Option.bind_eq_some_iff.1 h
      clear h
      have h := hz
      clear hz
      refine sat_call (ok57 hΩ hE hx4 (by subst_vars; rfl) _) ?_
      conv => arg 1; cbv
      obtain rfl := Option.some.inj h
      subst_vars
      exact sat_pure rfl
    · refine sat_brf (by first | exact hb2 | (subst_vars; first | exact hb2 | rfl)) ?_
      conv => arg 1; cbv
      refine sat_tick hΩ ?_
      conv => arg 1; cbv
      obtain rfl := Option.some.inj h
      subst_vars
      exact sat_pure rfl
  · refine sat_brf (by first | exact hb1 | (subst_vars; first | exact hb1 | rfl)) ?_
    conv => arg 1; cbv
    refine sat_tick hΩ ?_
    conv => arg 1; cbv
    obtain rfl := Option.some.inj h
    subst_vars
    exact sat_pure rfl
set_option maxHeartbeats 4000000 in
theorem ok7 {Ω : Om} {E : Enc} (hΩ : real (call S) = Ω) (hE : theEnc = E) {fu : Nat} {a0 : Value} {a1 : Value} {r : Bool} (h : P7 fu a0 a1 = some r) {args : List PV} (ha : [pv_Value E a0, pv_Value E a1] = args) (st : St) :
    Sat (Ω.cf 7 args st) (fun q => q = (PV.d (.bool r), st)) := by
  subst ha
  rcases a0 with ⟨a0_Kind, a0_N, a0_S, ⟨a0_L_l, a0_L_x⟩, ⟨a0_F_l, a0_F_x⟩, a0_Elem, a0_Key, a0_HasKey⟩
  rcases a1 with ⟨a1_Kind, a1_N, a1_S, ⟨a1_L_l, a1_L_x⟩, ⟨a1_F_l, a1_F_x⟩, a1_Elem, a1_Key, a1_HasKey⟩
  rw [cf_body hΩ (f := 7) (fn := Try.f7) (x := c7) rfl rfl c7_ok rfl]
  unfold P7 at h
  try dsimp only at h
  conv => arg 1; cbv
  obtain ⟨r1, hx2, hz⟩ := Option.bind_eq_some_iff.1 h
  clear h
  have h := hz
  clear hz
  refine sat_call (ok28 hΩ hE hx2 (by subst_vars; rfl) _) ?_
  conv => arg 1; cbv
  refine sat_true (same_ok hΩ _) ?_
  conv => arg 1; cbv
  obtain ⟨r3, hx4, hz⟩ := Option.bind_eq_some_iff.1 h
  clear h
  have h := hz
  clear hz
  refine sat_call (ok28 hΩ hE hx4 (by subst_vars; rfl) _) ?_
  conv => arg 1; cbv
  refine sat_true (same_ok hΩ _) ?_
  conv => arg 1; cbv
  refine sat_true (same_ok hΩ _) ?_
  conv => arg 1; cbv
  obtain ⟨r5, hx6, hz⟩ := Option.bind_eq_some_iff.1 h
  clear h
  have h := hz
  clear hz
  refine sat_call (ok19 hΩ hE hx6 (by subst_vars; rfl) _) ?_
  conv => arg 1; cbv
  refine sat_true (same_ok hΩ _) ?_
  conv => arg 1; cbv
  refine sat_in hΩ ?_
  conv => arg 1; cbv
  replace h := bif_cases h
  rcases h with ⟨hb7, h⟩ | ⟨hb7, h⟩
  · refine sat_brt (by first | exact hb7 | (subst_vars; first | exact hb7 | rfl)) ?_
    conv => arg 1; cbv
    obtain rfl := Option.some.inj h
    subst_vars
    exact sat_pure rfl
  · refine sat_brf (by first | exact hb7 | (subst_vars; first | exact hb7 | rfl)) ?_
    conv => arg 1; cbv
    obtain ⟨r8, hx9, hz⟩ := Option.bind_eq_some_iff.1 h
    clear h
    have h := hz
    clear hz
    refine sat_call (ok29 hΩ hE hx9 (by subst_vars; rfl) _) ?_
    conv => arg 1; cbv
    refine sat_true (same_ok hΩ _) ?_
    conv => arg 1; cbv
    obtain ⟨r10, hx11, hz⟩ := Option.bind_eq_some_iff.1 h
    clear h
    have h := hz
    clear hz
    refine sat_call (ok30 hΩ hE hx11 (by subst_vars; rfl) _) ?_
    conv => arg 1; cbv
    refine sat_true (same_ok hΩ _) ?_
    conv => arg 1; cbv
    replace h := bif_cases h
    rcases h with ⟨hb12, h⟩ | ⟨hb12, h⟩
    · refine sat_brt (by first | exact hb12 | (subst_vars; first | exact hb12 | rfl)) ?_
      conv => arg 1; cbv
      obtain ⟨r13, hx14, hz⟩ := Option.bind_eq_some_iff.1 h
      clear h
      have h := hz
      clear hz
      refine sat_call (ok31 hΩ hE hx14 (by subst_vars; rfl) _) ?_
      conv => arg 1; cbv
      refine sat_true (same_ok hΩ _) ?_
      conv => arg 1; cbv
      refine sat_tick hΩ ?_
      conv => arg 1; cbv
      obtain ⟨r15, hx16, hz⟩ := Option.bind_eq_some_iff.1 h
      clear h
      have h := hz
      clear hz
      refine sat_call (ok32 hΩ hE hx16 (by subst_vars; rfl) _) ?_
      conv => arg 1; cbv
      refine sat_true (same_ok hΩ _) ?_
      conv => arg 1; cbv
      obtain rfl := Option.some.inj h
      subst_vars
      exact sat_pure rfl
    · refine sat_brf (by first | exact hb12 | (subst_vars; first | exact hb12 | rfl)) ?_
      conv => arg 1; cbv
      refine sat_tick hΩ ?_
      conv => arg 1; cbv
      obtain rfl := Option.some.inj h
      subst_vars
      exact sat_pure rfl
end Go.Proofs.Ytamllgdaepjcfaa
