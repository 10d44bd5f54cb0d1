/- The interpreter computes just these functions: printed by a small program. -/
import Derived.Test.YtjoinlfkebgfkaaDoorNUD
namespace Go.Proofs.YtjoinlfkebgfkaaDoor
open Go Go.X
set_option linter.unusedVariables false
set_option linter.unusedSimpArgs false
set_option maxRecDepth 100000
theorem ok6 {Ω : Om} {E : Enc} (hΩ : real (call S) = Ω) (hE : theEnc = E) {fu : Nat} {r : Bool} (h : P6 fu = some r) {args : List PV} (ha : [] = args) (st : St) :
    Sat (Ω.cf 6 args st) (fun q => q = (PV.d (.bool r), st)) := by
  subst ha
  subst hΩ
  obtain rfl := Option.some.inj h
  exact ⟨_, closed_call (S := S) (f := 6) rfl st, rfl⟩
set_option maxHeartbeats 4000000 in
theorem okb13 {Ω : Om} {E : Enc} (hΩ : real (call S) = Ω) (hE : theEnc = E) {fu : Nat} {p13 : Value → Option (Int)} (hp13 : ∀ {a0 : Value} {r : Int}, p13 a0 = some r → ∀ {args : List PV}, [pv_Value E a0] = args → ∀ (st : St), Sat (Ω.cf 13 args st) (fun q => q = (PV.d (.int .i64 r), st))) {p20 : (Sl Field) → Option (Int)} (hp20 : ∀ {a0 : Sl Field} {r : Int}, p20 a0 = some r → ∀ {args : List PV}, [PV.d (.sl (E.L_Field a0.l) (E.X_Field a0.x))] = args → ∀ (st : St), Sat (Ω.cf 20 args st) (fun q => q = (PV.d (.int .i64 r), st))) {p28 : Field → Option (Int)} (hp28 : ∀ {a0 : Field} {r : Int}, p28 a0 = some r → ∀ {args : List PV}, [pv_Field E a0] = args → ∀ (st : St), Sat (Ω.cf 28 args st) (fun q => q = (PV.d (.int .i64 r), st))) {p8 : (Sl Value) → Option (Int)} (hp8 : ∀ {a0 : Sl Value} {r : Int}, p8 a0 = some r → ∀ {args : List PV}, [PV.d (.sl (E.L_Value a0.l) (E.X_Value a0.x))] = args → ∀ (st : St), Sat (Ω.cf 8 args st) (fun q => q = (PV.d (.int .i64 r), st))) {a0 : Value} {r : Int} (h : Pb13 fu p13 p20 p28 p8 a0 = some r) {args : List PV} (ha : [pv_Value E a0] = args) (st : St) :
    Sat (Ω.cf 13 args st) (fun q => q = (PV.d (.int .i64 r), st)) := by
  subst ha
  rcases a0 with ⟨a0_a, a0_b, a0_c, ⟨a0_dl, a0_dx⟩, ⟨a0_el, a0_ex⟩, a0_f, a0_g, a0_h⟩
  rw [cf_body hΩ (f := 13) (fn := Tryd.f13) (x := c13) rfl rfl c13_ok rfl rfl rfl]
  unfold Pb13 at h
  try dsimp only at h
  conv => arg 1; cbv
  replace h := Option.bind_eq_some_iff.1 h
  obtain ⟨q, hq10, h⟩ := h
  refine sat_grp hΩ ((fun (q : Int) => (match q with | i4 => (.normal, [(0, PV.agg [.d (.int .u8 a0_a), .d (.int .i64 a0_b), .d (.str a0_c), .d (.sl (E.L_Value a0_dl) (E.X_Value a0_dx)), .d (.sl (E.L_Field a0_el) (E.X_Field a0_ex)), .d (.int .u8 a0_f), .d (.str a0_g), .d (.bool a0_h)]), (1, PV.eptr [.int .u8 a0_a, .int .i64 a0_b, .str a0_c, .sl (E.L_Value a0_dl) (E.X_Value a0_dx), .sl (E.L_Field a0_el) (E.X_Field a0_ex), .int .u8 a0_f, .str a0_g, .bool a0_h]), (2, PV.d (.int .i64 0)), (3, PV.d (.int .i64 i4))], ([] : List X.Obj) :: st))) q) (fun k hk => ?_) ?_
  · clear h
    have h := hq10
    clear hq10
    conv => arg 1; cbv
    replace h := bif_cases h
    rcases h with ⟨hb1, h⟩ | ⟨hb1, h⟩
    · refine sat_brt (by first | exact hb1 | ((try clear h); subst_vars; first | exact hb1 | rfl)) ?_
      conv => arg 1; cbv
      replace h := Option.bind_eq_some_iff.1 h
      obtain ⟨r2, hx3, h⟩ := h
      refine sat_call (hp8 hx3 (by (try clear h); subst_vars; rfl) _) ?_
      conv => arg 1; cbv
      obtain rfl := Option.some.inj h
      subst_vars
      first | exact hk | (simp only [ln_set] at hk ⊢; exact hk)
    · refine sat_brf (by first | exact hb1 | ((try clear h); subst_vars; first | exact hb1 | rfl)) ?_
      conv => arg 1; cbv
      obtain rfl := Option.some.inj h
      subst_vars
      first | exact hk | (simp only [ln_set] at hk ⊢; exact hk)
  · clear hq10
    obtain ⟨i4, hqq⟩ : ∃ x, x = q := ⟨_, rfl⟩
    subst hqq
    try dsimp only at h
    conv => arg 1; cbv
    replace h := Option.bind_eq_some_iff.1 h
    obtain ⟨q, hq9, h⟩ := h
    refine sat_grp hΩ ((fun (q : Int) => (match q with | i8 => (.normal, [(0, PV.agg [.d (.int .u8 a0_a), .d (.int .i64 a0_b), .d (.str a0_c), .d (.sl (E.L_Value a0_dl) (E.X_Value a0_dx)), .d (.sl (E.L_Field a0_el) (E.X_Field a0_ex)), .d (.int .u8 a0_f), .d (.str a0_g), .d (.bool a0_h)]), (1, PV.eptr [.int .u8 a0_a, .int .i64 a0_b, .str a0_c, .sl (E.L_Value a0_dl) (E.X_Value a0_dx), .sl (E.L_Field a0_el) (E.X_Field a0_ex), .int .u8 a0_f, .str a0_g, .bool a0_h]), (2, PV.d (.int .i64 0)), (3, PV.d (.int .i64 i8))], ([] : List X.Obj) :: st))) q) (fun k hk => ?_) ?_
    · clear h
      have h := hq9
      clear hq9
      conv => arg 1; cbv
      replace h := bif_cases h
      rcases h with ⟨hb5, h⟩ | ⟨hb5, h⟩
      · refine sat_brt (by first | exact hb5 | ((try clear h); subst_vars; first | exact hb5 | rfl)) ?_
        conv => arg 1; cbv
        replace h := Option.bind_eq_some_iff.1 h
        obtain ⟨r6, hx7, h⟩ := h
        refine sat_call (hp20 hx7 (by (try clear h); subst_vars; rfl) _) ?_
        conv => arg 1; cbv
        obtain rfl := Option.some.inj h
        subst_vars
        first | exact hk | (simp only [ln_set] at hk ⊢; exact hk)
      · refine sat_brf (by first | exact hb5 | ((try clear h); subst_vars; first | exact hb5 | rfl)) ?_
        conv => arg 1; cbv
        obtain rfl := Option.some.inj h
        subst_vars
        first | exact hk | (simp only [ln_set] at hk ⊢; exact hk)
    · clear hq9
      obtain ⟨i8, hqq⟩ : ∃ x, x = q := ⟨_, rfl⟩
      subst hqq
      try dsimp only at h
      conv => arg 1; cbv
      obtain rfl := Option.some.inj h
      subst_vars
      exact sat_pure rfl
set_option maxHeartbeats 4000000 in
theorem okb20 {Ω : Om} {E : Enc} (hΩ : real (call S) = Ω) (hE : theEnc = E) {fu : Nat} {p13 : Value → Option (Int)} (hp13 : ∀ {a0 : Value} {r : Int}, p13 a0 = some r → ∀ {args : List PV}, [pv_Value E a0] = args → ∀ (st : St), Sat (Ω.cf 13 args st) (fun q => q = (PV.d (.int .i64 r), st))) {p20 : (Sl Field) → Option (Int)} (hp20 : ∀ {a0 : Sl Field} {r : Int}, p20 a0 = some r → ∀ {args : List PV}, [PV.d (.sl (E.L_Field a0.l) (E.X_Field a0.x))] = args → ∀ (st : St), Sat (Ω.cf 20 args st) (fun q => q = (PV.d (.int .i64 r), st))) {p28 : Field → Option (Int)} (hp28 : ∀ {a0 : Field} {r : Int}, p28 a0 = some r → ∀ {args : List PV}, [pv_Field E a0] = args → ∀ (st : St), Sat (Ω.cf 28 args st) (fun q => q = (PV.d (.int .i64 r), st))) {p8 : (Sl Value) → Option (Int)} (hp8 : ∀ {a0 : Sl Value} {r : Int}, p8 a0 = some r → ∀ {args : List PV}, [PV.d (.sl (E.L_Value a0.l) (E.X_Value a0.x))] = args → ∀ (st : St), Sat (Ω.cf 8 args st) (fun q => q = (PV.d (.int .i64 r), st))) {a0 : Sl Field} {r : Int} (h : Pb20 fu p13 p20 p28 p8 a0 = some r) {args : List PV} (ha : [PV.d (.sl (E.L_Field a0.l) (E.X_Field a0.x))] = args) (st : St) :
    Sat (Ω.cf 20 args st) (fun q => q = (PV.d (.int .i64 r), st)) := by
  subst ha
  rcases a0 with ⟨a0_l, a0_x⟩
  rw [cf_body hΩ (f := 20) (fn := Tryd.f20) (x := c20) rfl rfl c20_ok rfl rfl rfl]
  unfold Pb20 at h
  try dsimp only at h
  conv => arg 1; cbv
  refine sat_len hΩ (ro_Field hE) a0_l fun n1 hn2 => ?_
  conv => arg 1; cbv
  replace h := Option.bind_eq_some_iff.1 h
  obtain ⟨q, hl15, h⟩ := h
  refine sat_loop hΩ (fun (a : Int × Int) => (match a with | (i3, i4) => ([(0, PV.d (.sl (E.L_Field a0_l) (E.X_Field a0_x))), (2, PV.d (.int .i64 0)), (3, PV.d (.int .i64 i3)), (4, PV.d (.int .i64 i4))], ([] : List X.Obj) :: st))) (fun (q : (Int × Int)) => (match q with | (o16, o17) => (.exit 0, [(0, PV.d (.sl (E.L_Field a0_l) (E.X_Field a0_x))), (2, PV.d (.int .i64 0)), (3, PV.d (.int .i64 o16)), (4, PV.d (.int .i64 o17))], ([] : List X.Obj) :: st))) (ln a0_l, 0) hl15 ?_ ?_
  · clear h hl15
    rintro ⟨i3, i4⟩ q h
    unfold P20_s0 at h
    dsimp only at h
    conv => arg 1; cbv
    replace h := Option.bind_eq_some_iff.1 h
    obtain ⟨q, hq14, h⟩ := h
    refine sat_grp hΩ ((fun (q : Bool) => (match q with | i8 => ([(0, PV.d (.sl (E.L_Field a0_l) (E.X_Field a0_x))), (2, PV.d (.int .i64 0)), (3, PV.d (.int .i64 i3)), (4, PV.d (.int .i64 i4)), (14, PV.d (.bool i8))], ([] : List X.Obj) :: st))) q) (fun k hk => ?_) ?_
    · clear h
      have h := hq14
      clear hq14
      conv => arg 1; cbv
      refine sat_len hΩ (ro_Field hE) a0_l fun n5 hn6 => ?_
      conv => arg 1; cbv
      replace h := bif_cases h
      rcases h with ⟨hb7, h⟩ | ⟨hb7, h⟩
      · refine sat_brt (by first | exact hb7 | ((try clear h); subst_vars; first | exact hb7 | rfl)) ?_
        conv => arg 1; cbv
        obtain rfl := Option.some.inj h
        subst_vars
        first | exact hk | (simp only [ln_set] at hk ⊢; exact hk)
      · refine sat_brf (by first | exact hb7 | ((try clear h); subst_vars; first | exact hb7 | rfl)) ?_
        conv => arg 1; cbv
        obtain rfl := Option.some.inj h
        subst_vars
        first | exact hk | (simp only [ln_set] at hk ⊢; exact hk)
    · clear hq14
      obtain ⟨i8, hqq⟩ : ∃ x, x = q := ⟨_, rfl⟩
      subst hqq
      try dsimp only at h
      conv => arg 1; cbv
      refine sat_in hΩ ?_
      conv => arg 1; cbv
      replace h := bif_cases h
      rcases h with ⟨hb9, h⟩ | ⟨hb9, h⟩
      · refine sat_brt (by first | exact hb9 | ((try clear h); subst_vars; first | exact hb9 | rfl)) ?_
        conv => arg 1; cbv
        refine sat_true (fits_l hΩ (ro_Field hE) a0_l) ?_
        conv => arg 1; cbv
        replace h := Option.bind_eq_some_iff.1 h
        obtain ⟨⟨x10_a, ⟨x10_ba, x10_bb, x10_bc, ⟨x10_bdl, x10_bdx⟩, ⟨x10_bel, x10_bex⟩, x10_bf, x10_bg, x10_bh⟩⟩, hx11, h⟩ := h
        try dsimp only at h
        refine sat_bind (nth_ok hΩ (ro_Field hE) hx11) ?_
        conv => arg 1; cbv
        replace h := Option.bind_eq_some_iff.1 h
        obtain ⟨r12, hx13, h⟩ := h
        refine sat_call (hp28 hx13 (by (try clear h); subst_vars; rfl) _) ?_
        conv => arg 1; cbv
        obtain rfl := Option.some.inj h
        subst_vars
        first | exact sat_pure ⟨rfl, rfl, rfl⟩ | (refine sat_pure ⟨rfl, ?_, ?_⟩ <;> first | rfl | (dsimp only; simp only [ln_set]; rfl))
      · refine sat_brf (by first | exact hb9 | ((try clear h); subst_vars; first | exact hb9 | rfl)) ?_
        conv => arg 1; cbv
        obtain rfl := Option.some.inj h
        subst_vars
        first | exact sat_pure (.inl ⟨⟨_, rfl⟩, rfl⟩) | (refine sat_pure (.inl ⟨⟨_, rfl⟩, ?_⟩); dsimp only; simp only [ln_set]; rfl)
  · clear hl15
    rcases q with ⟨o16, o17⟩
    dsimp only at h
    conv => arg 1; cbv
    obtain rfl := Option.some.inj h
    subst_vars
    exact sat_pure rfl
set_option maxHeartbeats 4000000 in
theorem okb28 {Ω : Om} {E : Enc} (hΩ : real (call S) = Ω) (hE : theEnc = E) {fu : Nat} {p13 : Value → Option (Int)} (hp13 : ∀ {a0 : Value} {r : Int}, p13 a0 = some r → ∀ {args : List PV}, [pv_Value E a0] = args → ∀ (st : St), Sat (Ω.cf 13 args st) (fun q => q = (PV.d (.int .i64 r), st))) {p20 : (Sl Field) → Option (Int)} (hp20 : ∀ {a0 : Sl Field} {r : Int}, p20 a0 = some r → ∀ {args : List PV}, [PV.d (.sl (E.L_Field a0.l) (E.X_Field a0.x))] = args → ∀ (st : St), Sat (Ω.cf 20 args st) (fun q => q = (PV.d (.int .i64 r), st))) {p28 : Field → Option (Int)} (hp28 : ∀ {a0 : Field} {r : Int}, p28 a0 = some r → ∀ {args : List PV}, [pv_Field E a0] = args → ∀ (st : St), Sat (Ω.cf 28 args st) (fun q => q = (PV.d (.int .i64 r), st))) {p8 : (Sl Value) → Option (Int)} (hp8 : ∀ {a0 : Sl Value} {r : Int}, p8 a0 = some r → ∀ {args : List PV}, [PV.d (.sl (E.L_Value a0.l) (E.X_Value a0.x))] = args → ∀ (st : St), Sat (Ω.cf 8 args st) (fun q => q = (PV.d (.int .i64 r), st))) {a0 : Field} {r : Int} (h : Pb28 fu p13 p20 p28 p8 a0 = some r) {args : List PV} (ha : [pv_Field E a0] = args) (st : St) :
    Sat (Ω.cf 28 args st) (fun q => q = (PV.d (.int .i64 r), st)) := by
  subst ha
  rcases a0 with ⟨a0_a, ⟨a0_ba, a0_bb, a0_bc, ⟨a0_bdl, a0_bdx⟩, ⟨a0_bel, a0_bex⟩, a0_bf, a0_bg, a0_bh⟩⟩
  rw [cf_body hΩ (f := 28) (fn := Tryd.f28) (x := c28) rfl rfl c28_ok rfl rfl rfl]
  unfold Pb28 at h
  try dsimp only at h
  conv => arg 1; cbv
  replace h := Option.bind_eq_some_iff.1 h
  obtain ⟨q, hq5, h⟩ := h
  refine sat_grp hΩ ((fun (q : Int) => (match q with | i4 => (.normal, [(0, PV.agg [.d (.str a0_a), .d (.int .u8 a0_ba), .d (.int .i64 a0_bb), .d (.str a0_bc), .d (.sl (E.L_Value a0_bdl) (E.X_Value a0_bdx)), .d (.sl (E.L_Field a0_bel) (E.X_Field a0_bex)), .d (.int .u8 a0_bf), .d (.str a0_bg), .d (.bool a0_bh)]), (1, PV.eptr [.str a0_a, .int .u8 a0_ba, .int .i64 a0_bb, .str a0_bc, .sl (E.L_Value a0_bdl) (E.X_Value a0_bdx), .sl (E.L_Field a0_bel) (E.X_Field a0_bex), .int .u8 a0_bf, .str a0_bg, .bool a0_bh]), (2, PV.d (.int .i64 0)), (3, PV.d (.int .i64 i4))], ([] : List X.Obj) :: st))) q) (fun k hk => ?_) ?_
  · clear h
    have h := hq5
    clear hq5
    conv => arg 1; cbv
    replace h := bif_cases h
    rcases h with ⟨hb1, h⟩ | ⟨hb1, h⟩
    · refine sat_brt (by first | exact hb1 | ((try clear h); subst_vars; first | exact hb1 | rfl)) ?_
      conv => arg 1; cbv
      replace h := Option.bind_eq_some_iff.1 h
      obtain ⟨r2, hx3, h⟩ := h
      refine sat_call (hp13 hx3 (by (try clear h); subst_vars; rfl) _) ?_
      conv => arg 1; cbv
      obtain rfl := Option.some.inj h
      subst_vars
      first | exact hk | (simp only [ln_set] at hk ⊢; exact hk)
    · refine sat_brf (by first | exact hb1 | ((try clear h); subst_vars; first | exact hb1 | rfl)) ?_
      conv => arg 1; cbv
      obtain rfl := Option.some.inj h
      subst_vars
      first | exact hk | (simp only [ln_set] at hk ⊢; exact hk)
  · clear hq5
    obtain ⟨i4, hqq⟩ : ∃ x, x = q := ⟨_, rfl⟩
    subst hqq
    try dsimp only at h
    conv => arg 1; cbv
    obtain rfl := Option.some.inj h
    subst_vars
    exact sat_pure rfl
set_option maxHeartbeats 4000000 in
theorem okb8 {Ω : Om} {E : Enc} (hΩ : real (call S) = Ω) (hE : theEnc = E) {fu : Nat} {p13 : Value → Option (Int)} (hp13 : ∀ {a0 : Value} {r : Int}, p13 a0 = some r → ∀ {args : List PV}, [pv_Value E a0] = args → ∀ (st : St), Sat (Ω.cf 13 args st) (fun q => q = (PV.d (.int .i64 r), st))) {p20 : (Sl Field) → Option (Int)} (hp20 : ∀ {a0 : Sl Field} {r : Int}, p20 a0 = some r → ∀ {args : List PV}, [PV.d (.sl (E.L_Field a0.l) (E.X_Field a0.x))] = args → ∀ (st : St), Sat (Ω.cf 20 args st) (fun q => q = (PV.d (.int .i64 r), st))) {p28 : Field → Option (Int)} (hp28 : ∀ {a0 : Field} {r : Int}, p28 a0 = some r → ∀ {args : List PV}, [pv_Field E a0] = args → ∀ (st : St), Sat (Ω.cf 28 args st) (fun q => q = (PV.d (.int .i64 r), st))) {p8 : (Sl Value) → Option (Int)} (hp8 : ∀ {a0 : Sl Value} {r : Int}, p8 a0 = some r → ∀ {args : List PV}, [PV.d (.sl (E.L_Value a0.l) (E.X_Value a0.x))] = args → ∀ (st : St), Sat (Ω.cf 8 args st) (fun q => q = (PV.d (.int .i64 r), st))) {a0 : Sl Value} {r : Int} (h : Pb8 fu p13 p20 p28 p8 a0 = some r) {args : List PV} (ha : [PV.d (.sl (E.L_Value a0.l) (E.X_Value a0.x))] = args) (st : St) :
    Sat (Ω.cf 8 args st) (fun q => q = (PV.d (.int .i64 r), st)) := by
  subst ha
  rcases a0 with ⟨a0_l, a0_x⟩
  rw [cf_body hΩ (f := 8) (fn := Tryd.f8) (x := c8) rfl rfl c8_ok rfl rfl rfl]
  unfold Pb8 at h
  try dsimp only at h
  conv => arg 1; cbv
  refine sat_len hΩ (ro_Value hE) a0_l fun n1 hn2 => ?_
  conv => arg 1; cbv
  replace h := Option.bind_eq_some_iff.1 h
  obtain ⟨q, hl15, h⟩ := h
  refine sat_loop hΩ (fun (a : Int × Int) => (match a with | (i3, i4) => ([(0, PV.d (.sl (E.L_Value a0_l) (E.X_Value a0_x))), (2, PV.d (.int .i64 0)), (3, PV.d (.int .i64 i3)), (4, PV.d (.int .i64 i4))], ([] : List X.Obj) :: st))) (fun (q : (Int × Int)) => (match q with | (o16, o17) => (.exit 0, [(0, PV.d (.sl (E.L_Value a0_l) (E.X_Value a0_x))), (2, PV.d (.int .i64 0)), (3, PV.d (.int .i64 o16)), (4, PV.d (.int .i64 o17))], ([] : List X.Obj) :: st))) (ln a0_l, 0) hl15 ?_ ?_
  · clear h hl15
    rintro ⟨i3, i4⟩ q h
    unfold P8_s0 at h
    dsimp only at h
    conv => arg 1; cbv
    replace h := Option.bind_eq_some_iff.1 h
    obtain ⟨q, hq14, h⟩ := h
    refine sat_grp hΩ ((fun (q : Bool) => (match q with | i8 => ([(0, PV.d (.sl (E.L_Value a0_l) (E.X_Value a0_x))), (2, PV.d (.int .i64 0)), (3, PV.d (.int .i64 i3)), (4, PV.d (.int .i64 i4)), (14, PV.d (.bool i8))], ([] : List X.Obj) :: st))) q) (fun k hk => ?_) ?_
    · clear h
      have h := hq14
      clear hq14
      conv => arg 1; cbv
      refine sat_len hΩ (ro_Value hE) a0_l fun n5 hn6 => ?_
      conv => arg 1; cbv
      replace h := bif_cases h
      rcases h with ⟨hb7, h⟩ | ⟨hb7, h⟩
      · refine sat_brt (by first | exact hb7 | ((try clear h); subst_vars; first | exact hb7 | rfl)) ?_
        conv => arg 1; cbv
        obtain rfl := Option.some.inj h
        subst_vars
        first | exact hk | (simp only [ln_set] at hk ⊢; exact hk)
      · refine sat_brf (by first | exact hb7 | ((try clear h); subst_vars; first | exact hb7 | rfl)) ?_
        conv => arg 1; cbv
        obtain rfl := Option.some.inj h
        subst_vars
        first | exact hk | (simp only [ln_set] at hk ⊢; exact hk)
    · clear hq14
      obtain ⟨i8, hqq⟩ : ∃ x, x = q := ⟨_, rfl⟩
      subst hqq
      try dsimp only at h
      conv => arg 1; cbv
      refine sat_in hΩ ?_
      conv => arg 1; cbv
      replace h := bif_cases h
      rcases h with ⟨hb9, h⟩ | ⟨hb9, h⟩
      · refine sat_brt (by first | exact hb9 | ((try clear h); subst_vars; first | exact hb9 | rfl)) ?_
        conv => arg 1; cbv
        refine sat_true (fits_l hΩ (ro_Value hE) a0_l) ?_
        conv => arg 1; cbv
        replace h := Option.bind_eq_some_iff.1 h
        obtain ⟨⟨x10_a, x10_b, x10_c, ⟨x10_dl, x10_dx⟩, ⟨x10_el, x10_ex⟩, x10_f, x10_g, x10_h⟩, hx11, h⟩ := h
        try dsimp only at h
        refine sat_bind (nth_ok hΩ (ro_Value hE) hx11) ?_
        conv => arg 1; cbv
        replace h := Option.bind_eq_some_iff.1 h
        obtain ⟨r12, hx13, h⟩ := h
        refine sat_call (hp13 hx13 (by (try clear h); subst_vars; rfl) _) ?_
        conv => arg 1; cbv
        obtain rfl := Option.some.inj h
        subst_vars
        first | exact sat_pure ⟨rfl, rfl, rfl⟩ | (refine sat_pure ⟨rfl, ?_, ?_⟩ <;> first | rfl | (dsimp only; simp only [ln_set]; rfl))
      · refine sat_brf (by first | exact hb9 | ((try clear h); subst_vars; first | exact hb9 | rfl)) ?_
        conv => arg 1; cbv
        obtain rfl := Option.some.inj h
        subst_vars
        first | exact sat_pure (.inl ⟨⟨_, rfl⟩, rfl⟩) | (refine sat_pure (.inl ⟨⟨_, rfl⟩, ?_⟩); dsimp only; simp only [ln_set]; rfl)
  · clear hl15
    rcases q with ⟨o16, o17⟩
    dsimp only at h
    conv => arg 1; cbv
    obtain rfl := Option.some.inj h
    subst_vars
    exact sat_pure rfl
theorem okr13 {Ω : Om} {E : Enc} (hΩ : real (call S) = Ω) (hE : theEnc = E) : ∀ fu,
    (∀ {a0 : Value} {r : Int}, P13 fu a0 = some r → ∀ {args : List PV}, [pv_Value E a0] = args → ∀ (st : St), Sat (Ω.cf 13 args st) (fun q => q = (PV.d (.int .i64 r), st))) ∧
    (∀ {a0 : Sl Field} {r : Int}, P20 fu a0 = some r → ∀ {args : List PV}, [PV.d (.sl (E.L_Field a0.l) (E.X_Field a0.x))] = args → ∀ (st : St), Sat (Ω.cf 20 args st) (fun q => q = (PV.d (.int .i64 r), st))) ∧
    (∀ {a0 : Field} {r : Int}, P28 fu a0 = some r → ∀ {args : List PV}, [pv_Field E a0] = args → ∀ (st : St), Sat (Ω.cf 28 args st) (fun q => q = (PV.d (.int .i64 r), st))) ∧
    (∀ {a0 : Sl Value} {r : Int}, P8 fu a0 = some r → ∀ {args : List PV}, [PV.d (.sl (E.L_Value a0.l) (E.X_Value a0.x))] = args → ∀ (st : St), Sat (Ω.cf 8 args st) (fun q => q = (PV.d (.int .i64 r), st))) := by
  intro fu
  induction fu with
  | zero => exact ⟨(fun h => (by cases h)), (fun h => (by cases h)), (fun h => (by cases h)), (fun h => (by cases h))⟩
  | succ fu ih =>
    obtain ⟨i13, i20, i28, i8⟩ := ih
    exact ⟨(fun h => @fun args ha st => okb13 (fu := fu) hΩ hE i13 i20 i28 i8 h ha st), (fun h => @fun args ha st => okb20 (fu := fu) hΩ hE i13 i20 i28 i8 h ha st), (fun h => @fun args ha st => okb28 (fu := fu) hΩ hE i13 i20 i28 i8 h ha st), (fun h => @fun args ha st => okb8 (fu := fu) hΩ hE i13 i20 i28 i8 h ha st)⟩
theorem ok13 {Ω : Om} {E : Enc} (hΩ : real (call S) = Ω) (hE : theEnc = E) {fu : Nat} : ∀ {a0 : Value} {r : Int}, P13 fu a0 = some r → ∀ {args : List PV}, [pv_Value E a0] = args → ∀ (st : St), Sat (Ω.cf 13 args st) (fun q => q = (PV.d (.int .i64 r), st)) := (okr13 hΩ hE fu).1
theorem ok20 {Ω : Om} {E : Enc} (hΩ : real (call S) = Ω) (hE : theEnc = E) {fu : Nat} : ∀ {a0 : Sl Field} {r : Int}, P20 fu a0 = some r → ∀ {args : List PV}, [PV.d (.sl (E.L_Field a0.l) (E.X_Field a0.x))] = args → ∀ (st : St), Sat (Ω.cf 20 args st) (fun q => q = (PV.d (.int .i64 r), st)) := (okr13 hΩ hE fu).2.1
theorem ok28 {Ω : Om} {E : Enc} (hΩ : real (call S) = Ω) (hE : theEnc = E) {fu : Nat} : ∀ {a0 : Field} {r : Int}, P28 fu a0 = some r → ∀ {args : List PV}, [pv_Field E a0] = args → ∀ (st : St), Sat (Ω.cf 28 args st) (fun q => q = (PV.d (.int .i64 r), st)) := (okr13 hΩ hE fu).2.2.1
theorem ok8 {Ω : Om} {E : Enc} (hΩ : real (call S) = Ω) (hE : theEnc = E) {fu : Nat} : ∀ {a0 : Sl Value} {r : Int}, P8 fu a0 = some r → ∀ {args : List PV}, [PV.d (.sl (E.L_Value a0.l) (E.X_Value a0.x))] = args → ∀ (st : St), Sat (Ω.cf 8 args st) (fun q => q = (PV.d (.int .i64 r), st)) := (okr13 hΩ hE fu).2.2.2
set_option maxHeartbeats 4000000 in
theorem ok7 {Ω : Om} {E : Enc} (hΩ : real (call S) = Ω) (hE : theEnc = E) {fu : Nat} {a0 : Sl Int} {r : Bool} (h : P7 fu a0 = some r) {args : List PV} (ha : [PV.d (.sl (E.L_i_i64 a0.l) (E.X_i_i64 a0.x))] = args) (st : St) :
    Sat (Ω.cf 7 args st) (fun q => q = (PV.d (.bool r), st)) := by
  subst ha
  rcases a0 with ⟨a0_l, a0_x⟩
  rw [cf_body hΩ (f := 7) (fn := Tryd.f7) (x := c7) rfl rfl c7_ok rfl rfl rfl]
  unfold P7 at h
  try dsimp only at h
  conv => arg 1; cbv
  replace h := Option.bind_eq_some_iff.1 h
  obtain ⟨q, hl10, h⟩ := h
  refine sat_loop hΩ (fun (a : Bool × Int × Int) => (match a with | (i1, i2, i3) => ([(0, PV.d (.sl (E.L_i_i64 a0_l) (E.X_i_i64 a0_x))), (2, PV.d (.bool i1)), (3, PV.d (.int .i64 i2)), (4, PV.d (.int .i64 i3))], ([] : List X.Obj) :: st))) (fun (q : (Bool × Int × Int) ⊕ (Bool × Int × Int)) => (match q with | .inl (o11, o12, o13) => (.exit 0, [(0, PV.d (.sl (E.L_i_i64 a0_l) (E.X_i_i64 a0_x))), (2, PV.d (.bool o11)), (3, PV.d (.int .i64 o12)), (4, PV.d (.int .i64 o13))], ([] : List X.Obj) :: st) | .inr (o14, o15, o16) => (.ret, [(0, PV.d (.sl (E.L_i_i64 a0_l) (E.X_i_i64 a0_x))), (2, PV.d (.bool o14)), (3, PV.d (.int .i64 o15)), (4, PV.d (.int .i64 o16))], ([] : List X.Obj) :: st))) (false, 0, 0) hl10 ?_ ?_
  · clear h hl10
    rintro ⟨i1, i2, i3⟩ q h
    unfold P7_s0 at h
    dsimp only at h
    conv => arg 1; cbv
    refine sat_len hΩ (ro_i_i64 hE) a0_l fun n4 hn5 => ?_
    conv => arg 1; cbv
    refine sat_in hΩ ?_
    conv => arg 1; cbv
    replace h := bif_cases h
    rcases h with ⟨hb6, h⟩ | ⟨hb6, h⟩
    · refine sat_brt (by first | exact hb6 | ((try clear h); subst_vars; first | exact hb6 | rfl)) ?_
      conv => arg 1; cbv
      refine sat_true (fits_l hΩ (ro_i_i64 hE) a0_l) ?_
      conv => arg 1; cbv
      replace h := Option.bind_eq_some_iff.1 h
      obtain ⟨x7, hx8, h⟩ := h
      refine sat_bind (nth_ok hΩ (ro_i_i64 hE) hx8) ?_
      conv => arg 1; cbv
      refine sat_in hΩ ?_
      conv => arg 1; cbv
      replace h := bif_cases h
      rcases h with ⟨hb9, h⟩ | ⟨hb9, h⟩
      · refine sat_brt (by first | exact hb9 | ((try clear h); subst_vars; first | exact hb9 | rfl)) ?_
        conv => arg 1; cbv
        obtain rfl := Option.some.inj h
        subst_vars
        first | exact sat_pure (.inr ⟨rfl, rfl⟩) | (refine sat_pure (.inr ⟨rfl, ?_⟩); dsimp only; simp only [ln_set]; rfl)
      · refine sat_brf (by first | exact hb9 | ((try clear h); subst_vars; first | exact hb9 | rfl)) ?_
        conv => arg 1; cbv
        obtain rfl := Option.some.inj h
        subst_vars
        first | exact sat_pure ⟨rfl, rfl, rfl⟩ | (refine sat_pure ⟨rfl, ?_, ?_⟩ <;> first | rfl | (dsimp only; simp only [ln_set]; rfl))
    · refine sat_brf (by first | exact hb6 | ((try clear h); subst_vars; first | exact hb6 | rfl)) ?_
      conv => arg 1; cbv
      obtain rfl := Option.some.inj h
      subst_vars
      first | exact sat_pure (.inl ⟨⟨_, rfl⟩, rfl⟩) | (refine sat_pure (.inl ⟨⟨_, rfl⟩, ?_⟩); dsimp only; simp only [ln_set]; rfl)
  · clear hl10
    rcases q with ⟨o11, o12, o13⟩ | ⟨o14, o15, o16⟩
    · dsimp only at h
      conv => arg 1; cbv
      obtain rfl := Option.some.inj h
      subst_vars
      exact sat_pure rfl
    · dsimp only at h
      conv => arg 1; cbv
      obtain rfl := Option.some.inj h
      subst_vars
      exact sat_pure rfl
theorem ok14 {Ω : Om} {E : Enc} (hΩ : real (call S) = Ω) (hE : theEnc = E) {a0 : Sl Value} {args : List PV} (ha : [PV.d (.sl (E.L_Value a0.l) (E.X_Value a0.x))] = args) (st : St) :
    Sat (Ω.cf 14 args st) (fun q => q = (PV.fn 21 [.eptr [.sl (E.L_Value a0.l) (E.X_Value a0.x)]], st)) := by
  subst ha
  rw [cf_body hΩ (f := 14) (fn := Tryd.f14) (x := c14) rfl rfl c14_ok rfl rfl rfl]
  conv => arg 1; cbv
  exact sat_pure rfl
theorem ok23 {Ω : Om} {E : Enc} (hΩ : real (call S) = Ω) (hE : theEnc = E) {fu : Nat} {a0 a1 : Int} {r : ByteArray} (h : P23 fu a0 a1 = some r) {args : List PV} (ha : [PV.d (.int .i64 a0), PV.d (.int .i64 a1)] = args) (st : St) :
    Sat (Ω.cf 23 args st) (fun q => q = (PV.d (.str r), st)) := by
  subst ha
  subst hΩ
  exact ⟨_, itoa_call (S := S) (f := 23) rfl h st, rfl⟩
set_option maxHeartbeats 4000000 in
theorem ok16 {Ω : Om} {E : Enc} (hΩ : real (call S) = Ω) (hE : theEnc = E) {fu : Nat} {a0 : Int} {a1 : Int} {r : ByteArray} (h : P16 fu a0 a1 = some r) {args : List PV} (ha : [PV.d (.int .i64 a0), PV.d (.int .i64 a1)] = args) (st : St) :
    Sat (Ω.cf 16 args st) (fun q => q = (PV.d (.str r), st)) := by
  subst ha
  rw [cf_body hΩ (f := 16) (fn := Tryd.f16) (x := c16) rfl rfl c16_ok rfl rfl rfl]
  unfold P16 at h
  try dsimp only at h
  conv => arg 1; cbv
  replace h := Option.bind_eq_some_iff.1 h
  obtain ⟨r1, hx2, h⟩ := h
  refine sat_call (ok23 hΩ hE hx2 (by (try clear h); subst_vars; rfl) _) ?_
  conv => arg 1; cbv
  obtain rfl := Option.some.inj h
  subst_vars
  exact sat_pure rfl
set_option maxHeartbeats 4000000 in
theorem ok15 {Ω : Om} {E : Enc} (hΩ : real (call S) = Ω) (hE : theEnc = E) {fu : Nat} {a0 : ByteArray} {r : Child} (h : P15 fu a0 = some r) {args : List PV} (ha : [PV.d (.str a0)] = args) (st : St) :
    Sat (Ω.cf 15 args st) (fun q => q = (pv_Child E r, st)) := by
  subst ha
  rw [cf_body hΩ (f := 15) (fn := Tryd.f15) (x := c15) rfl rfl c15_ok rfl rfl rfl]
  unfold P15 at h
  try dsimp only at h
  conv => arg 1; cbv
  obtain rfl := Option.some.inj h
  subst_vars
  exact sat_pure rfl
set_option maxHeartbeats 4000000 in
theorem ok43 {Ω : Om} {E : Enc} (hΩ : real (call S) = Ω) (hE : theEnc = E) {fu : Nat} {a0 : Sl Value} {r : (List Value)} (h : P43 fu a0 = some r) {args : List PV} (ha : [PV.d (.sl (E.L_Value a0.l) (E.X_Value a0.x))] = args) {st : St} (hH : X.hasL st 0 = true) {n : Int} (hn : ln r = n) :
    Sat (Ω.cf 43 args st) (fun q => q = (PV.row 0 (X.numO st 0) n, X.addO st 0 (X.Obj.row 32 8 (E.L_Value r) true none))) := by
  subst ha
  rcases a0 with ⟨a0_l, a0_x⟩
  rw [cf_body hΩ (f := 43) (fn := Tryd.f43) (x := c43) rfl rfl c43_ok rfl rfl rfl]
  unfold P43 at h
  try dsimp only at h
  conv => arg 1; cbv
  refine sat_nil hΩ (ro_Value hE) fun l1 hl2 => ?_
  conv => arg 1; cbv
  refine sat_in hΩ ?_
  conv => arg 1; cbv
  replace h := bif_cases h
  rcases h with ⟨hb3, h⟩ | ⟨hb3, h⟩
  · refine sat_brt (len_zero hΩ (ro_Value hE) (l := a0_l) hb3) ?_
    conv => arg 1; cbv
    obtain ⟨ha16, hb17⟩ := agree_some h
    clear h
    refine sat_both hΩ ?_ ?_
    · clear hb17
      have h := ha16
      clear ha16
      conv => arg 1; cbv
      refine sat_nil hΩ (ro_Value hE) fun l4 hl5 => ?_
      conv => arg 1; cbv
      refine sat_addfar' hΩ hH fun kk st2 hk2 hs2 => ?_
      conv => arg 1; cbv
      obtain rfl := Option.some.inj h
      subst_vars
      exact sat_pure rfl
    · clear ha16
      have h := hb17
      clear hb17
      conv => arg 1; cbv
      replace h := Option.bind_eq_some_iff.1 h
      obtain ⟨q, hq15, h⟩ := h
      refine sat_grp hΩ ((fun (q : (List Value)) => (match q with | l14 => ([(0, PV.d (.sl (E.L_Value a0_l) (E.X_Value a0_x))), (2, PV.row 0 1 (ln l14))], ([X.Obj.row 32 8 (E.L_Value l1) true none, X.Obj.row 32 8 (E.L_Value l14) true none] : List X.Obj) :: st))) q) (fun k hk => ?_) ?_
      · clear h
        have h := hq15
        clear hq15
        conv => arg 1; cbv
        refine sat_nil hΩ (ro_Value hE) fun l6 hl7 => ?_
        conv => arg 1; cbv
        refine sat_true (ieq_ok hΩ _) ?_
        conv => arg 1; cbv
        refine sat_true (fits_l hΩ (ro_Value hE) a0_l) ?_
        conv => arg 1; cbv
        refine sat_true (len_ok hΩ (ro_Value hE) ([] : List Value)) ?_
        conv => arg 1; cbv
        replace h := bif_cases h
        rcases h with ⟨hb8, h⟩ | ⟨hb8, h⟩
        · refine sat_brt (len_zero hΩ (ro_Value hE) (l := a0_l) hb8) ?_
          conv => arg 1; cbv
          obtain rfl := Option.some.inj h
          subst_vars
          first | exact hk | (simp only [ln_set] at hk ⊢; exact hk)
        · refine sat_brf (len_zero hΩ (ro_Value hE) (l := a0_l) hb8) ?_
          conv => arg 1; cbv
          refine sat_cat hΩ (ro_Value hE) ([] : List Value) a0_l fun l9 hl10 n11 hn12 => ?_
          conv => arg 1; cbv
          replace h := bif_some h
          obtain ⟨hb13, h⟩ := h
          refine sat_true (by first | exact hb13 | ((try clear h); subst_vars; first | exact hb13 | rfl)) ?_
          conv => arg 1; cbv
          obtain rfl := Option.some.inj h
          subst_vars
          first | exact hk | (simp only [ln_set] at hk ⊢; exact hk)
      · clear hq15
        obtain ⟨l14, hqq⟩ : ∃ x, x = q := ⟨_, rfl⟩
        subst hqq
        try dsimp only at h
        obtain ⟨ln_l14, hln_l14⟩ : ∃ n, ln l14 = n := ⟨_, rfl⟩
        simp only [hln_l14]
        conv => arg 1; cbv
        refine sat_addfar' hΩ hH fun kk st2 hk2 hs2 => ?_
        conv => arg 1; cbv
        obtain rfl := Option.some.inj h
        subst_vars
        exact sat_pure rfl
  · refine sat_brf (len_zero hΩ (ro_Value hE) (l := a0_l) hb3) ?_
    conv => arg 1; cbv
    refine sat_in hΩ ?_
    conv => arg 1; cbv
    replace h := Option.bind_eq_some_iff.1 h
    obtain ⟨q, hq27, h⟩ := h
    refine sat_grp hΩ ((fun (q : (List Value)) => (match q with | l26 => ([(0, PV.d (.sl (E.L_Value a0_l) (E.X_Value a0_x))), (2, PV.row 0 1 (ln l26))], ([X.Obj.row 32 8 (E.L_Value l1) true none, X.Obj.row 32 8 (E.L_Value l26) true none] : List X.Obj) :: st))) q) (fun k hk => ?_) ?_
    · clear h
      have h := hq27
      clear hq27
      conv => arg 1; cbv
      refine sat_nil hΩ (ro_Value hE) fun l18 hl19 => ?_
      conv => arg 1; cbv
      refine sat_true (ieq_ok hΩ _) ?_
      conv => arg 1; cbv
      refine sat_true (fits_l hΩ (ro_Value hE) a0_l) ?_
      conv => arg 1; cbv
      refine sat_true (len_ok hΩ (ro_Value hE) ([] : List Value)) ?_
      conv => arg 1; cbv
      replace h := bif_cases h
      rcases h with ⟨hb20, h⟩ | ⟨hb20, h⟩
      · refine sat_brt (len_zero hΩ (ro_Value hE) (l := a0_l) hb20) ?_
        conv => arg 1; cbv
        obtain rfl := Option.some.inj h
        subst_vars
        first | exact hk | (simp only [ln_set] at hk ⊢; exact hk)
      · refine sat_brf (len_zero hΩ (ro_Value hE) (l := a0_l) hb20) ?_
        conv => arg 1; cbv
        refine sat_cat hΩ (ro_Value hE) ([] : List Value) a0_l fun l21 hl22 n23 hn24 => ?_
        conv => arg 1; cbv
        replace h := bif_some h
        obtain ⟨hb25, h⟩ := h
        refine sat_true (by first | exact hb25 | ((try clear h); subst_vars; first | exact hb25 | rfl)) ?_
        conv => arg 1; cbv
        obtain rfl := Option.some.inj h
        subst_vars
        first | exact hk | (simp only [ln_set] at hk ⊢; exact hk)
    · clear hq27
      obtain ⟨l26, hqq⟩ : ∃ x, x = q := ⟨_, rfl⟩
      subst hqq
      try dsimp only at h
      obtain ⟨ln_l26, hln_l26⟩ : ∃ n, ln l26 = n := ⟨_, rfl⟩
      simp only [hln_l26]
      conv => arg 1; cbv
      refine sat_addfar' hΩ hH fun kk st2 hk2 hs2 => ?_
      conv => arg 1; cbv
      obtain rfl := Option.some.inj h
      subst_vars
      exact sat_pure rfl
set_option maxHeartbeats 4000000 in
theorem ok33 {Ω : Om} {E : Enc} (hΩ : real (call S) = Ω) (hE : theEnc = E) {fu : Nat} {a0 : Sl Value} {a1 : (Value → Option (Value))} {a1_g : Nat} (hf : ∀ {x0 : Value} {r : Value}, a1 x0 = some r → ∀ {args : List PV}, [pv_Value E x0] = args → ∀ (st : St), Sat (Ω.cf a1_g args st) (fun q => q = (pv_Value E r, st))) {r : (Sl Value)} (h : P33 fu a0 a1 = some r) {args : List PV} (ha : [PV.d (.sl (E.L_Value a0.l) (E.X_Value a0.x)), PV.d (.fn a1_g [])] = args) (st : St) :
    Sat (Ω.cf 33 args st) (fun q => q = (PV.d (.sl (E.L_Value r.l) (E.X_Value r.x)), st)) := by
  subst ha
  rcases a0 with ⟨a0_l, a0_x⟩
  rw [cf_body hΩ (f := 33) (fn := Tryd.f33) (x := c33) rfl rfl c33_ok rfl rfl rfl]
  unfold P33 at h
  try dsimp only at h
  conv => arg 1; cbv
  replace h := Option.bind_eq_some_iff.1 h
  obtain ⟨r2, hx1, h⟩ := h
  obtain ⟨n3, hn4⟩ : ∃ n, ln r2 = n := ⟨_, rfl⟩
  refine sat_call (ok43 hΩ hE (st := ([] : List X.Obj) :: st) hx1 (by (try clear h); subst_vars; rfl) rfl hn4) ?_
  conv => arg 1; cbv
  replace h := Option.bind_eq_some_iff.1 h
  obtain ⟨q, hl17, h⟩ := h
  refine sat_loop hΩ (fun (a : (List Value) × Int) => (match a with | (l5, i6) => ([(0, PV.d (.sl (E.L_Value a0_l) (E.X_Value a0_x))), (1, PV.d (.fn a1_g [])), (4, PV.d (.sl [] (some []))), (5, PV.row 0 0 (ln l5)), (10, PV.row 0 0 (ln l5)), (11, PV.d (.int .i64 n3)), (12, PV.d (.int .i64 i6))], ([X.Obj.row 32 8 (E.L_Value l5) true none] : List X.Obj) :: st))) (fun (q : ((List Value) × Int)) => (match q with | (o18, o19) => (.exit 0, [(0, PV.d (.sl (E.L_Value a0_l) (E.X_Value a0_x))), (1, PV.d (.fn a1_g [])), (4, PV.d (.sl [] (some []))), (5, PV.row 0 0 (ln o18)), (10, PV.row 0 0 (ln o18)), (11, PV.d (.int .i64 n3)), (12, PV.d (.int .i64 o19))], ([X.Obj.row 32 8 (E.L_Value o18) true none] : List X.Obj) :: st))) (r2, 0) hl17 ?_ ?_
  · clear h hl17
    rintro ⟨l5, i6⟩ q h
    unfold P33_s0 at h
    dsimp only at h
    obtain ⟨ln_l5, hln_l5⟩ : ∃ n, ln l5 = n := ⟨_, rfl⟩
    simp only [hln_l5]
    conv => arg 1; cbv
    refine sat_in hΩ ?_
    conv => arg 1; cbv
    replace h := bif_cases h
    rcases h with ⟨hb7, h⟩ | ⟨hb7, h⟩
    · refine sat_brt (by first | exact hb7 | ((try clear h); subst_vars; first | exact hb7 | rfl)) ?_
      conv => arg 1; cbv
      refine sat_true (len_ok hΩ (ro_Value hE) l5) ?_
      conv => arg 1; cbv
      replace h := Option.bind_eq_some_iff.1 h
      obtain ⟨⟨x8_a, x8_b, x8_c, ⟨x8_dl, x8_dx⟩, ⟨x8_el, x8_ex⟩, x8_f, x8_g, x8_h⟩, hx9, h⟩ := h
      try dsimp only at h
      refine sat_bind (nth_ok hΩ (ro_Value hE) hx9) ?_
      conv => arg 1; cbv
      refine sat_true (len_ok hΩ (ro_Value hE) l5) ?_
      conv => arg 1; cbv
      refine sat_bind (nth_ok hΩ (ro_Value hE) hx9) ?_
      conv => arg 1; cbv
      replace h := Option.bind_eq_some_iff.1 h
      obtain ⟨⟨r10_a, r10_b, r10_c, ⟨r10_dl, r10_dx⟩, ⟨r10_el, r10_ex⟩, r10_f, r10_g, r10_h⟩, hx11, h⟩ := h
      try dsimp only at h
      refine sat_call (hf hx11 (by (try clear h); subst_vars; rfl) _) ?_
      conv => arg 1; cbv
      refine sat_true (len_ok hΩ (ro_Value hE) l5) ?_
      conv => arg 1; cbv
      replace h := Option.bind_eq_some_iff.1 h
      obtain ⟨⟨x12_a, x12_b, x12_c, ⟨x12_dl, x12_dx⟩, ⟨x12_el, x12_ex⟩, x12_f, x12_g, x12_h⟩, hx13, h⟩ := h
      try dsimp only at h
      refine sat_bind (nth_ok hΩ (ro_Value hE) hx13) ?_
      conv => arg 1; cbv
      refine sat_true (len_ok hΩ (ro_Value hE) l5) ?_
      conv => arg 1; cbv
      refine sat_bind (nth_ok hΩ (ro_Value hE) hx13) ?_
      conv => arg 1; cbv
      refine sat_set hΩ (ro_Value hE) l5 i6 (Value.mk r10_a r10_b r10_c (Sl.mk r10_dl r10_dx) (Sl.mk r10_el r10_ex) r10_f r10_g r10_h) fun l14 hl15 => ?_
      conv => arg 1; cbv
      obtain rfl := Option.some.inj h
      subst_vars
      first | exact sat_pure ⟨rfl, rfl, rfl⟩ | (refine sat_pure ⟨rfl, ?_, ?_⟩ <;> first | rfl | (dsimp only; simp only [ln_set]; rfl))
    · refine sat_brf (by first | exact hb7 | ((try clear h); subst_vars; first | exact hb7 | rfl)) ?_
      conv => arg 1; cbv
      obtain rfl := Option.some.inj h
      subst_vars
      first | exact sat_pure (.inl ⟨⟨_, rfl⟩, rfl⟩) | (refine sat_pure (.inl ⟨⟨_, rfl⟩, ?_⟩); dsimp only; simp only [ln_set]; rfl)
  · clear hl17
    rcases q with ⟨o18, o19⟩
    dsimp only at h
    obtain ⟨ln_o18, hln_o18⟩ : ∃ n, ln o18 = n := ⟨_, rfl⟩
    simp only [hln_o18]
    conv => arg 1; cbv
    refine sat_true (len_ok hΩ (ro_Value hE) o18) ?_
    conv => arg 1; cbv
    obtain rfl := Option.some.inj h
    subst_vars
    exact sat_pure rfl
set_option maxHeartbeats 4000000 in
theorem ok44 {Ω : Om} {E : Enc} (hΩ : real (call S) = Ω) (hE : theEnc = E) {fu : Nat} {a0 : Sl Field} {r : (List Field)} (h : P44 fu a0 = some r) {args : List PV} (ha : [PV.d (.sl (E.L_Field a0.l) (E.X_Field a0.x))] = args) {st : St} (hH : X.hasL st 0 = true) {n : Int} (hn : ln r = n) :
    Sat (Ω.cf 44 args st) (fun q => q = (PV.row 0 (X.numO st 0) n, X.addO st 0 (X.Obj.row 57 9 (E.L_Field r) true none))) := by
  subst ha
  rcases a0 with ⟨a0_l, a0_x⟩
  rw [cf_body hΩ (f := 44) (fn := Tryd.f44) (x := c44) rfl rfl c44_ok rfl rfl rfl]
  unfold P44 at h
  try dsimp only at h
  conv => arg 1; cbv
  refine sat_nil hΩ (ro_Field hE) fun l1 hl2 => ?_
  conv => arg 1; cbv
  refine sat_in hΩ ?_
  conv => arg 1; cbv
  replace h := bif_cases h
  rcases h with ⟨hb3, h⟩ | ⟨hb3, h⟩
  · refine sat_brt (len_zero hΩ (ro_Field hE) (l := a0_l) hb3) ?_
    conv => arg 1; cbv
    obtain ⟨ha16, hb17⟩ := agree_some h
    clear h
    refine sat_both hΩ ?_ ?_
    · clear hb17
      have h := ha16
      clear ha16
      conv => arg 1; cbv
      refine sat_nil hΩ (ro_Field hE) fun l4 hl5 => ?_
      conv => arg 1; cbv
      refine sat_addfar' hΩ hH fun kk st2 hk2 hs2 => ?_
      conv => arg 1; cbv
      obtain rfl := Option.some.inj h
      subst_vars
      exact sat_pure rfl
    · clear ha16
      have h := hb17
      clear hb17
      conv => arg 1; cbv
      replace h := Option.bind_eq_some_iff.1 h
      obtain ⟨q, hq15, h⟩ := h
      refine sat_grp hΩ ((fun (q : (List Field)) => (match q with | l14 => ([(0, PV.d (.sl (E.L_Field a0_l) (E.X_Field a0_x))), (2, PV.row 0 1 (ln l14))], ([X.Obj.row 57 9 (E.L_Field l1) true none, X.Obj.row 57 9 (E.L_Field l14) true none] : List X.Obj) :: st))) q) (fun k hk => ?_) ?_
      · clear h
        have h := hq15
        clear hq15
        conv => arg 1; cbv
        refine sat_nil hΩ (ro_Field hE) fun l6 hl7 => ?_
        conv => arg 1; cbv
        refine sat_true (ieq_ok hΩ _) ?_
        conv => arg 1; cbv
        refine sat_true (fits_l hΩ (ro_Field hE) a0_l) ?_
        conv => arg 1; cbv
        refine sat_true (len_ok hΩ (ro_Field hE) ([] : List Field)) ?_
        conv => arg 1; cbv
        replace h := bif_cases h
        rcases h with ⟨hb8, h⟩ | ⟨hb8, h⟩
        · refine sat_brt (len_zero hΩ (ro_Field hE) (l := a0_l) hb8) ?_
          conv => arg 1; cbv
          obtain rfl := Option.some.inj h
          subst_vars
          first | exact hk | (simp only [ln_set] at hk ⊢; exact hk)
        · refine sat_brf (len_zero hΩ (ro_Field hE) (l := a0_l) hb8) ?_
          conv => arg 1; cbv
          refine sat_cat hΩ (ro_Field hE) ([] : List Field) a0_l fun l9 hl10 n11 hn12 => ?_
          conv => arg 1; cbv
          replace h := bif_some h
          obtain ⟨hb13, h⟩ := h
          refine sat_true (by first | exact hb13 | ((try clear h); subst_vars; first | exact hb13 | rfl)) ?_
          conv => arg 1; cbv
          obtain rfl := Option.some.inj h
          subst_vars
          first | exact hk | (simp only [ln_set] at hk ⊢; exact hk)
      · clear hq15
        obtain ⟨l14, hqq⟩ : ∃ x, x = q := ⟨_, rfl⟩
        subst hqq
        try dsimp only at h
        obtain ⟨ln_l14, hln_l14⟩ : ∃ n, ln l14 = n := ⟨_, rfl⟩
        simp only [hln_l14]
        conv => arg 1; cbv
        refine sat_addfar' hΩ hH fun kk st2 hk2 hs2 => ?_
        conv => arg 1; cbv
        obtain rfl := Option.some.inj h
        subst_vars
        exact sat_pure rfl
  · refine sat_brf (len_zero hΩ (ro_Field hE) (l := a0_l) hb3) ?_
    conv => arg 1; cbv
    refine sat_in hΩ ?_
    conv => arg 1; cbv
    replace h := Option.bind_eq_some_iff.1 h
    obtain ⟨q, hq27, h⟩ := h
    refine sat_grp hΩ ((fun (q : (List Field)) => (match q with | l26 => ([(0, PV.d (.sl (E.L_Field a0_l) (E.X_Field a0_x))), (2, PV.row 0 1 (ln l26))], ([X.Obj.row 57 9 (E.L_Field l1) true none, X.Obj.row 57 9 (E.L_Field l26) true none] : List X.Obj) :: st))) q) (fun k hk => ?_) ?_
    · clear h
      have h := hq27
      clear hq27
      conv => arg 1; cbv
      refine sat_nil hΩ (ro_Field hE) fun l18 hl19 => ?_
      conv => arg 1; cbv
      refine sat_true (ieq_ok hΩ _) ?_
      conv => arg 1; cbv
      refine sat_true (fits_l hΩ (ro_Field hE) a0_l) ?_
      conv => arg 1; cbv
      refine sat_true (len_ok hΩ (ro_Field hE) ([] : List Field)) ?_
      conv => arg 1; cbv
      replace h := bif_cases h
      rcases h with ⟨hb20, h⟩ | ⟨hb20, h⟩
      · refine sat_brt (len_zero hΩ (ro_Field hE) (l := a0_l) hb20) ?_
        conv => arg 1; cbv
        obtain rfl := Option.some.inj h
        subst_vars
        first | exact hk | (simp only [ln_set] at hk ⊢; exact hk)
      · refine sat_brf (len_zero hΩ (ro_Field hE) (l := a0_l) hb20) ?_
        conv => arg 1; cbv
        refine sat_cat hΩ (ro_Field hE) ([] : List Field) a0_l fun l21 hl22 n23 hn24 => ?_
        conv => arg 1; cbv
        replace h := bif_some h
        obtain ⟨hb25, h⟩ := h
        refine sat_true (by first | exact hb25 | ((try clear h); subst_vars; first | exact hb25 | rfl)) ?_
        conv => arg 1; cbv
        obtain rfl := Option.some.inj h
        subst_vars
        first | exact hk | (simp only [ln_set] at hk ⊢; exact hk)
    · clear hq27
      obtain ⟨l26, hqq⟩ : ∃ x, x = q := ⟨_, rfl⟩
      subst hqq
      try dsimp only at h
      obtain ⟨ln_l26, hln_l26⟩ : ∃ n, ln l26 = n := ⟨_, rfl⟩
      simp only [hln_l26]
      conv => arg 1; cbv
      refine sat_addfar' hΩ hH fun kk st2 hk2 hs2 => ?_
      conv => arg 1; cbv
      obtain rfl := Option.some.inj h
      subst_vars
      exact sat_pure rfl
set_option maxHeartbeats 4000000 in
theorem ok34 {Ω : Om} {E : Enc} (hΩ : real (call S) = Ω) (hE : theEnc = E) {fu : Nat} {a0 : Sl Field} {a1 : (Field → Option (Field))} {a1_g : Nat} (hf : ∀ {x0 : Field} {r : Field}, a1 x0 = some r → ∀ {args : List PV}, [pv_Field E x0] = args → ∀ (st : St), Sat (Ω.cf a1_g args st) (fun q => q = (pv_Field E r, st))) {r : (Sl Field)} (h : P34 fu a0 a1 = some r) {args : List PV} (ha : [PV.d (.sl (E.L_Field a0.l) (E.X_Field a0.x)), PV.d (.fn a1_g [])] = args) (st : St) :
    Sat (Ω.cf 34 args st) (fun q => q = (PV.d (.sl (E.L_Field r.l) (E.X_Field r.x)), st)) := by
  subst ha
  rcases a0 with ⟨a0_l, a0_x⟩
  rw [cf_body hΩ (f := 34) (fn := Tryd.f34) (x := c34) rfl rfl c34_ok rfl rfl rfl]
  unfold P34 at h
  try dsimp only at h
  conv => arg 1; cbv
  replace h := Option.bind_eq_some_iff.1 h
  obtain ⟨r2, hx1, h⟩ := h
  obtain ⟨n3, hn4⟩ : ∃ n, ln r2 = n := ⟨_, rfl⟩
  refine sat_call (ok44 hΩ hE (st := ([] : List X.Obj) :: st) hx1 (by (try clear h); subst_vars; rfl) rfl hn4) ?_
  conv => arg 1; cbv
  replace h := Option.bind_eq_some_iff.1 h
  obtain ⟨q, hl17, h⟩ := h
  refine sat_loop hΩ (fun (a : (List Field) × Int) => (match a with | (l5, i6) => ([(0, PV.d (.sl (E.L_Field a0_l) (E.X_Field a0_x))), (1, PV.d (.fn a1_g [])), (4, PV.d (.sl [] (some []))), (5, PV.row 0 0 (ln l5)), (10, PV.row 0 0 (ln l5)), (11, PV.d (.int .i64 n3)), (12, PV.d (.int .i64 i6))], ([X.Obj.row 57 9 (E.L_Field l5) true none] : List X.Obj) :: st))) (fun (q : ((List Field) × Int)) => (match q with | (o18, o19) => (.exit 0, [(0, PV.d (.sl (E.L_Field a0_l) (E.X_Field a0_x))), (1, PV.d (.fn a1_g [])), (4, PV.d (.sl [] (some []))), (5, PV.row 0 0 (ln o18)), (10, PV.row 0 0 (ln o18)), (11, PV.d (.int .i64 n3)), (12, PV.d (.int .i64 o19))], ([X.Obj.row 57 9 (E.L_Field o18) true none] : List X.Obj) :: st))) (r2, 0) hl17 ?_ ?_
  · clear h hl17
    rintro ⟨l5, i6⟩ q h
    unfold P34_s0 at h
    dsimp only at h
    obtain ⟨ln_l5, hln_l5⟩ : ∃ n, ln l5 = n := ⟨_, rfl⟩
    simp only [hln_l5]
    conv => arg 1; cbv
    refine sat_in hΩ ?_
    conv => arg 1; cbv
    replace h := bif_cases h
    rcases h with ⟨hb7, h⟩ | ⟨hb7, h⟩
    · refine sat_brt (by first | exact hb7 | ((try clear h); subst_vars; first | exact hb7 | rfl)) ?_
      conv => arg 1; cbv
      refine sat_true (len_ok hΩ (ro_Field hE) l5) ?_
      conv => arg 1; cbv
      replace h := Option.bind_eq_some_iff.1 h
      obtain ⟨⟨x8_a, ⟨x8_ba, x8_bb, x8_bc, ⟨x8_bdl, x8_bdx⟩, ⟨x8_bel, x8_bex⟩, x8_bf, x8_bg, x8_bh⟩⟩, hx9, h⟩ := h
      try dsimp only at h
      refine sat_bind (nth_ok hΩ (ro_Field hE) hx9) ?_
      conv => arg 1; cbv
      refine sat_true (len_ok hΩ (ro_Field hE) l5) ?_
      conv => arg 1; cbv
      refine sat_bind (nth_ok hΩ (ro_Field hE) hx9) ?_
      conv => arg 1; cbv
      replace h := Option.bind_eq_some_iff.1 h
      obtain ⟨⟨r10_a, ⟨r10_ba, r10_bb, r10_bc, ⟨r10_bdl, r10_bdx⟩, ⟨r10_bel, r10_bex⟩, r10_bf, r10_bg, r10_bh⟩⟩, hx11, h⟩ := h
      try dsimp only at h
      refine sat_call (hf hx11 (by (try clear h); subst_vars; rfl) _) ?_
      conv => arg 1; cbv
      refine sat_true (len_ok hΩ (ro_Field hE) l5) ?_
      conv => arg 1; cbv
      replace h := Option.bind_eq_some_iff.1 h
      obtain ⟨⟨x12_a, ⟨x12_ba, x12_bb, x12_bc, ⟨x12_bdl, x12_bdx⟩, ⟨x12_bel, x12_bex⟩, x12_bf, x12_bg, x12_bh⟩⟩, hx13, h⟩ := h
      try dsimp only at h
      refine sat_bind (nth_ok hΩ (ro_Field hE) hx13) ?_
      conv => arg 1; cbv
      refine sat_true (len_ok hΩ (ro_Field hE) l5) ?_
      conv => arg 1; cbv
      refine sat_bind (nth_ok hΩ (ro_Field hE) hx13) ?_
      conv => arg 1; cbv
      refine sat_set hΩ (ro_Field hE) l5 i6 (Field.mk r10_a (Value.mk r10_ba r10_bb r10_bc (Sl.mk r10_bdl r10_bdx) (Sl.mk r10_bel r10_bex) r10_bf r10_bg r10_bh)) fun l14 hl15 => ?_
      conv => arg 1; cbv
      obtain rfl := Option.some.inj h
      subst_vars
      first | exact sat_pure ⟨rfl, rfl, rfl⟩ | (refine sat_pure ⟨rfl, ?_, ?_⟩ <;> first | rfl | (dsimp only; simp only [ln_set]; rfl))
    · refine sat_brf (by first | exact hb7 | ((try clear h); subst_vars; first | exact hb7 | rfl)) ?_
      conv => arg 1; cbv
      obtain rfl := Option.some.inj h
      subst_vars
      first | exact sat_pure (.inl ⟨⟨_, rfl⟩, rfl⟩) | (refine sat_pure (.inl ⟨⟨_, rfl⟩, ?_⟩); dsimp only; simp only [ln_set]; rfl)
  · clear hl17
    rcases q with ⟨o18, o19⟩
    dsimp only at h
    obtain ⟨ln_o18, hln_o18⟩ : ∃ n, ln o18 = n := ⟨_, rfl⟩
    simp only [hln_o18]
    conv => arg 1; cbv
    refine sat_true (len_ok hΩ (ro_Field hE) o18) ?_
    conv => arg 1; cbv
    obtain rfl := Option.some.inj h
    subst_vars
    exact sat_pure rfl
set_option maxHeartbeats 4000000 in
theorem okb17 {Ω : Om} {E : Enc} (hΩ : real (call S) = Ω) (hE : theEnc = E) {fu : Nat} {p17 : Value → Option (Value)} (hp17 : ∀ {a0 : Value} {r : Value}, p17 a0 = some r → ∀ {args : List PV}, [pv_Value E a0] = args → ∀ (st : St), Sat (Ω.cf 17 args st) (fun q => q = (pv_Value E r, st))) {p24 : (Sl Value) → Option ((Sl Value))} (hp24 : ∀ {a0 : Sl Value} {r : (Sl Value)}, p24 a0 = some r → ∀ {args : List PV}, [PV.d (.sl (E.L_Value a0.l) (E.X_Value a0.x))] = args → ∀ (st : St), Sat (Ω.cf 24 args st) (fun q => q = (PV.d (.sl (E.L_Value r.l) (E.X_Value r.x)), st))) {p25 : (Sl Field) → Option ((Sl Field))} (hp25 : ∀ {a0 : Sl Field} {r : (Sl Field)}, p25 a0 = some r → ∀ {args : List PV}, [PV.d (.sl (E.L_Field a0.l) (E.X_Field a0.x))] = args → ∀ (st : St), Sat (Ω.cf 25 args st) (fun q => q = (PV.d (.sl (E.L_Field r.l) (E.X_Field r.x)), st))) {p35 : Field → Option (Field)} (hp35 : ∀ {a0 : Field} {r : Field}, p35 a0 = some r → ∀ {args : List PV}, [pv_Field E a0] = args → ∀ (st : St), Sat (Ω.cf 35 args st) (fun q => q = (pv_Field E r, st))) {a0 : Value} {r : Value} (h : Pb17 fu p17 p24 p25 p35 a0 = some r) {args : List PV} (ha : [pv_Value E a0] = args) (st : St) :
    Sat (Ω.cf 17 args st) (fun q => q = (pv_Value E r, st)) := by
  subst ha
  rcases a0 with ⟨a0_a, a0_b, a0_c, ⟨a0_dl, a0_dx⟩, ⟨a0_el, a0_ex⟩, a0_f, a0_g, a0_h⟩
  rw [cf_body hΩ (f := 17) (fn := Tryd.f17) (x := c17) rfl rfl c17_ok rfl rfl rfl]
  unfold Pb17 at h
  try dsimp only at h
  conv => arg 1; cbv
  replace h := Option.bind_eq_some_iff.1 h
  obtain ⟨⟨r1_l, r1_x⟩, hx2, h⟩ := h
  try dsimp only at h
  refine sat_call (hp24 hx2 (by (try clear h); subst_vars; rfl) _) ?_
  conv => arg 1; cbv
  refine sat_true (same_ok hΩ _) ?_
  conv => arg 1; cbv
  replace h := Option.bind_eq_some_iff.1 h
  obtain ⟨⟨r3_l, r3_x⟩, hx4, h⟩ := h
  try dsimp only at h
  refine sat_call (hp25 hx4 (by (try clear h); subst_vars; rfl) _) ?_
  conv => arg 1; cbv
  refine sat_true (same_ok hΩ _) ?_
  conv => arg 1; cbv
  obtain rfl := Option.some.inj h
  subst_vars
  exact sat_pure rfl
set_option maxHeartbeats 4000000 in
theorem okb24 {Ω : Om} {E : Enc} (hΩ : real (call S) = Ω) (hE : theEnc = E) {fu : Nat} {p17 : Value → Option (Value)} (hp17 : ∀ {a0 : Value} {r : Value}, p17 a0 = some r → ∀ {args : List PV}, [pv_Value E a0] = args → ∀ (st : St), Sat (Ω.cf 17 args st) (fun q => q = (pv_Value E r, st))) {p24 : (Sl Value) → Option ((Sl Value))} (hp24 : ∀ {a0 : Sl Value} {r : (Sl Value)}, p24 a0 = some r → ∀ {args : List PV}, [PV.d (.sl (E.L_Value a0.l) (E.X_Value a0.x))] = args → ∀ (st : St), Sat (Ω.cf 24 args st) (fun q => q = (PV.d (.sl (E.L_Value r.l) (E.X_Value r.x)), st))) {p25 : (Sl Field) → Option ((Sl Field))} (hp25 : ∀ {a0 : Sl Field} {r : (Sl Field)}, p25 a0 = some r → ∀ {args : List PV}, [PV.d (.sl (E.L_Field a0.l) (E.X_Field a0.x))] = args → ∀ (st : St), Sat (Ω.cf 25 args st) (fun q => q = (PV.d (.sl (E.L_Field r.l) (E.X_Field r.x)), st))) {p35 : Field → Option (Field)} (hp35 : ∀ {a0 : Field} {r : Field}, p35 a0 = some r → ∀ {args : List PV}, [pv_Field E a0] = args → ∀ (st : St), Sat (Ω.cf 35 args st) (fun q => q = (pv_Field E r, st))) {a0 : Sl Value} {r : (Sl Value)} (h : Pb24 fu p17 p24 p25 p35 a0 = some r) {args : List PV} (ha : [PV.d (.sl (E.L_Value a0.l) (E.X_Value a0.x))] = args) (st : St) :
    Sat (Ω.cf 24 args st) (fun q => q = (PV.d (.sl (E.L_Value r.l) (E.X_Value r.x)), st)) := by
  subst ha
  rcases a0 with ⟨a0_l, a0_x⟩
  rw [cf_body hΩ (f := 24) (fn := Tryd.f24) (x := c24) rfl rfl c24_ok rfl rfl rfl]
  unfold Pb24 at h
  try dsimp only at h
  conv => arg 1; cbv
  replace h := Option.bind_eq_some_iff.1 h
  obtain ⟨⟨r1_l, r1_x⟩, hx2, h⟩ := h
  try dsimp only at h
  refine sat_call (ok33 hΩ hE (hf := fun h => @fun args ha st => hp17 h ha st) hx2 (by (try clear h); subst_vars; rfl) _) ?_
  conv => arg 1; cbv
  obtain rfl := Option.some.inj h
  subst_vars
  exact sat_pure rfl
set_option maxHeartbeats 4000000 in
theorem okb25 {Ω : Om} {E : Enc} (hΩ : real (call S) = Ω) (hE : theEnc = E) {fu : Nat} {p17 : Value → Option (Value)} (hp17 : ∀ {a0 : Value} {r : Value}, p17 a0 = some r → ∀ {args : List PV}, [pv_Value E a0] = args → ∀ (st : St), Sat (Ω.cf 17 args st) (fun q => q = (pv_Value E r, st))) {p24 : (Sl Value) → Option ((Sl Value))} (hp24 : ∀ {a0 : Sl Value} {r : (Sl Value)}, p24 a0 = some r → ∀ {args : List PV}, [PV.d (.sl (E.L_Value a0.l) (E.X_Value a0.x))] = args → ∀ (st : St), Sat (Ω.cf 24 args st) (fun q => q = (PV.d (.sl (E.L_Value r.l) (E.X_Value r.x)), st))) {p25 : (Sl Field) → Option ((Sl Field))} (hp25 : ∀ {a0 : Sl Field} {r : (Sl Field)}, p25 a0 = some r → ∀ {args : List PV}, [PV.d (.sl (E.L_Field a0.l) (E.X_Field a0.x))] = args → ∀ (st : St), Sat (Ω.cf 25 args st) (fun q => q = (PV.d (.sl (E.L_Field r.l) (E.X_Field r.x)), st))) {p35 : Field → Option (Field)} (hp35 : ∀ {a0 : Field} {r : Field}, p35 a0 = some r → ∀ {args : List PV}, [pv_Field E a0] = args → ∀ (st : St), Sat (Ω.cf 35 args st) (fun q => q = (pv_Field E r, st))) {a0 : Sl Field} {r : (Sl Field)} (h : Pb25 fu p17 p24 p25 p35 a0 = some r) {args : List PV} (ha : [PV.d (.sl (E.L_Field a0.l) (E.X_Field a0.x))] = args) (st : St) :
    Sat (Ω.cf 25 args st) (fun q => q = (PV.d (.sl (E.L_Field r.l) (E.X_Field r.x)), st)) := by
  subst ha
  rcases a0 with ⟨a0_l, a0_x⟩
  rw [cf_body hΩ (f := 25) (fn := Tryd.f25) (x := c25) rfl rfl c25_ok rfl rfl rfl]
  unfold Pb25 at h
  try dsimp only at h
  conv => arg 1; cbv
  replace h := Option.bind_eq_some_iff.1 h
  obtain ⟨⟨r1_l, r1_x⟩, hx2, h⟩ := h
  try dsimp only at h
  refine sat_call (ok34 hΩ hE (hf := fun h => @fun args ha st => hp35 h ha st) hx2 (by (try clear h); subst_vars; rfl) _) ?_
  conv => arg 1; cbv
  obtain rfl := Option.some.inj h
  subst_vars
  exact sat_pure rfl
set_option maxHeartbeats 4000000 in
theorem okb35 {Ω : Om} {E : Enc} (hΩ : real (call S) = Ω) (hE : theEnc = E) {fu : Nat} {p17 : Value → Option (Value)} (hp17 : ∀ {a0 : Value} {r : Value}, p17 a0 = some r → ∀ {args : List PV}, [pv_Value E a0] = args → ∀ (st : St), Sat (Ω.cf 17 args st) (fun q => q = (pv_Value E r, st))) {p24 : (Sl Value) → Option ((Sl Value))} (hp24 : ∀ {a0 : Sl Value} {r : (Sl Value)}, p24 a0 = some r → ∀ {args : List PV}, [PV.d (.sl (E.L_Value a0.l) (E.X_Value a0.x))] = args → ∀ (st : St), Sat (Ω.cf 24 args st) (fun q => q = (PV.d (.sl (E.L_Value r.l) (E.X_Value r.x)), st))) {p25 : (Sl Field) → Option ((Sl Field))} (hp25 : ∀ {a0 : Sl Field} {r : (Sl Field)}, p25 a0 = some r → ∀ {args : List PV}, [PV.d (.sl (E.L_Field a0.l) (E.X_Field a0.x))] = args → ∀ (st : St), Sat (Ω.cf 25 args st) (fun q => q = (PV.d (.sl (E.L_Field r.l) (E.X_Field r.x)), st))) {p35 : Field → Option (Field)} (hp35 : ∀ {a0 : Field} {r : Field}, p35 a0 = some r → ∀ {args : List PV}, [pv_Field E a0] = args → ∀ (st : St), Sat (Ω.cf 35 args st) (fun q => q = (pv_Field E r, st))) {a0 : Field} {r : Field} (h : Pb35 fu p17 p24 p25 p35 a0 = some r) {args : List PV} (ha : [pv_Field E a0] = args) (st : St) :
    Sat (Ω.cf 35 args st) (fun q => q = (pv_Field E r, st)) := by
  subst ha
  rcases a0 with ⟨a0_a, ⟨a0_ba, a0_bb, a0_bc, ⟨a0_bdl, a0_bdx⟩, ⟨a0_bel, a0_bex⟩, a0_bf, a0_bg, a0_bh⟩⟩
  rw [cf_body hΩ (f := 35) (fn := Tryd.f35) (x := c35) rfl rfl c35_ok rfl rfl rfl]
  unfold Pb35 at h
  try dsimp only at h
  conv => arg 1; cbv
  replace h := Option.bind_eq_some_iff.1 h
  obtain ⟨⟨r1_a, r1_b, r1_c, ⟨r1_dl, r1_dx⟩, ⟨r1_el, r1_ex⟩, r1_f, r1_g, r1_h⟩, hx2, h⟩ := h
  try dsimp only at h
  refine sat_call (hp17 hx2 (by (try clear h); subst_vars; rfl) _) ?_
  conv => arg 1; cbv
  refine sat_true (same_ok hΩ _) ?_
  conv => arg 1; cbv
  obtain rfl := Option.some.inj h
  subst_vars
  exact sat_pure rfl
theorem okr17 {Ω : Om} {E : Enc} (hΩ : real (call S) = Ω) (hE : theEnc = E) : ∀ fu,
    (∀ {a0 : Value} {r : Value}, P17 fu a0 = some r → ∀ {args : List PV}, [pv_Value E a0] = args → ∀ (st : St), Sat (Ω.cf 17 args st) (fun q => q = (pv_Value E r, st))) ∧
    (∀ {a0 : Sl Value} {r : (Sl Value)}, P24 fu a0 = some r → ∀ {args : List PV}, [PV.d (.sl (E.L_Value a0.l) (E.X_Value a0.x))] = args → ∀ (st : St), Sat (Ω.cf 24 args st) (fun q => q = (PV.d (.sl (E.L_Value r.l) (E.X_Value r.x)), st))) ∧
    (∀ {a0 : Sl Field} {r : (Sl Field)}, P25 fu a0 = some r → ∀ {args : List PV}, [PV.d (.sl (E.L_Field a0.l) (E.X_Field a0.x))] = args → ∀ (st : St), Sat (Ω.cf 25 args st) (fun q => q = (PV.d (.sl (E.L_Field r.l) (E.X_Field r.x)), st))) ∧
    (∀ {a0 : Field} {r : Field}, P35 fu a0 = some r → ∀ {args : List PV}, [pv_Field E a0] = args → ∀ (st : St), Sat (Ω.cf 35 args st) (fun q => q = (pv_Field E r, st))) := by
  intro fu
  induction fu with
  | zero => exact ⟨(fun h => (by cases h)), (fun h => (by cases h)), (fun h => (by cases h)), (fun h => (by cases h))⟩
  | succ fu ih =>
    obtain ⟨i17, i24, i25, i35⟩ := ih
    exact ⟨(fun h => @fun args ha st => okb17 (fu := fu) hΩ hE i17 i24 i25 i35 h ha st), (fun h => @fun args ha st => okb24 (fu := fu) hΩ hE i17 i24 i25 i35 h ha st), (fun h => @fun args ha st => okb25 (fu := fu) hΩ hE i17 i24 i25 i35 h ha st), (fun h => @fun args ha st => okb35 (fu := fu) hΩ hE i17 i24 i25 i35 h ha st)⟩
theorem ok17 {Ω : Om} {E : Enc} (hΩ : real (call S) = Ω) (hE : theEnc = E) {fu : Nat} : ∀ {a0 : Value} {r : Value}, P17 fu a0 = some r → ∀ {args : List PV}, [pv_Value E a0] = args → ∀ (st : St), Sat (Ω.cf 17 args st) (fun q => q = (pv_Value E r, st)) := (okr17 hΩ hE fu).1
theorem ok24 {Ω : Om} {E : Enc} (hΩ : real (call S) = Ω) (hE : theEnc = E) {fu : Nat} : ∀ {a0 : Sl Value} {r : (Sl Value)}, P24 fu a0 = some r → ∀ {args : List PV}, [PV.d (.sl (E.L_Value a0.l) (E.X_Value a0.x))] = args → ∀ (st : St), Sat (Ω.cf 24 args st) (fun q => q = (PV.d (.sl (E.L_Value r.l) (E.X_Value r.x)), st)) := (okr17 hΩ hE fu).2.1
theorem ok25 {Ω : Om} {E : Enc} (hΩ : real (call S) = Ω) (hE : theEnc = E) {fu : Nat} : ∀ {a0 : Sl Field} {r : (Sl Field)}, P25 fu a0 = some r → ∀ {args : List PV}, [PV.d (.sl (E.L_Field a0.l) (E.X_Field a0.x))] = args → ∀ (st : St), Sat (Ω.cf 25 args st) (fun q => q = (PV.d (.sl (E.L_Field r.l) (E.X_Field r.x)), st)) := (okr17 hΩ hE fu).2.2.1
theorem ok35 {Ω : Om} {E : Enc} (hΩ : real (call S) = Ω) (hE : theEnc = E) {fu : Nat} : ∀ {a0 : Field} {r : Field}, P35 fu a0 = some r → ∀ {args : List PV}, [pv_Field E a0] = args → ∀ (st : St), Sat (Ω.cf 35 args st) (fun q => q = (pv_Field E r, st)) := (okr17 hΩ hE fu).2.2.2
set_option maxHeartbeats 4000000 in
theorem ok26 {Ω : Om} {E : Enc} (hΩ : real (call S) = Ω) (hE : theEnc = E) {fu : Nat} {a0 : Int} {r : ByteArray} (h : P26 fu a0 = some r) {args : List PV} (ha : [PV.d (.int .i64 a0)] = args) (st : St) :
    Sat (Ω.cf 26 args st) (fun q => q = (PV.d (.str r), st)) := by
  subst ha
  rw [cf_body hΩ (f := 26) (fn := Tryd.f26) (x := c26) rfl rfl c26_ok rfl rfl rfl]
  unfold P26 at h
  try dsimp only at h
  conv => arg 1; cbv
  replace h := Option.bind_eq_some_iff.1 h
  obtain ⟨r1, hx2, h⟩ := h
  refine sat_call (ok23 hΩ hE hx2 (by (try clear h); subst_vars; rfl) _) ?_
  conv => arg 1; cbv
  obtain rfl := Option.some.inj h
  subst_vars
  exact sat_pure rfl
set_option maxHeartbeats 4000000 in
theorem ok18 {Ω : Om} {E : Enc} (hΩ : real (call S) = Ω) (hE : theEnc = E) {fu : Nat} {a0 : Int} {r : ByteArray} (h : P18 fu a0 = some r) {args : List PV} (ha : [PV.d (.int .i64 a0)] = args) (st : St) :
    Sat (Ω.cf 18 args st) (fun q => q = (PV.d (.str r), st)) := by
  subst ha
  rw [cf_body hΩ (f := 18) (fn := Tryd.f18) (x := c18) rfl rfl c18_ok rfl rfl rfl]
  unfold P18 at h
  try dsimp only at h
  conv => arg 1; cbv
  replace h := Option.bind_eq_some_iff.1 h
  obtain ⟨r1, hx2, h⟩ := h
  refine sat_call (ok26 hΩ hE hx2 (by (try clear h); subst_vars; rfl) _) ?_
  conv => arg 1; cbv
  obtain rfl := Option.some.inj h
  subst_vars
  exact sat_pure rfl
set_option maxHeartbeats 4000000 in
theorem ok70x1 {Ω : Om} {E : Enc} (hΩ : real (call S) = Ω) (hE : theEnc = E) {fu : Nat} {a1 : Int} {a2 : Value} {b0 c0 : Option X.Ex} {b2 c2 : List Child} {b4 c4 : List (ByteArray × Bool)} {rn2 : Int} {S : ((Option X.Ex) × Int × (List Child) × (List (ByteArray × Bool))) → St} {lz0 iz0 iz1 iz2 iz3 iz4 : Nat} (e0 : b0 = c0) (e2 : b2 = c2) (e4 : b4 = c4) (hrn2 : ln b2 = rn2) (hg0 : ∀ s, X.look (S s) lz0 iz0 = some (X.Obj.loop 70 [(2, PV.ptr 0 iz1 0), (3, PV.ptr 0 iz3 0)] s.1)) (hu0 : ∀ s x, X.setO (S s) lz0 iz0 (X.Obj.loop 70 [(2, PV.ptr 0 iz1 0), (3, PV.ptr 0 iz3 0)] x) = S (x, s.2.1, s.2.2.1, s.2.2.2)) (hg1 : ∀ s, X.look (S s) lz0 iz1 = some (X.Obj.box 26 [PV.row 0 iz2 s.2.1])) (hu1 : ∀ s x, X.setO (S s) lz0 iz1 (X.Obj.box 26 [PV.row 0 iz2 x]) = S (s.1, x, s.2.2.1, s.2.2.2)) (hg2 : ∀ s, X.look (S s) lz0 iz2 = some (X.Obj.row 34 11 (E.L_Child s.2.2.1) true none)) (hu2 : ∀ s x, X.setO (S s) lz0 iz2 (X.Obj.row 34 11 (E.L_Child x) true none) = S (s.1, s.2.1, x, s.2.2.2)) (hg3 : ∀ s, X.look (S s) lz0 iz3 = some (X.Obj.box 43 [PV.map 0 iz4])) (hg4 : ∀ s, X.look (S s) lz0 iz4 = some (X.Obj.map .str true (E.M_str_bool s.2.2.2))) (hu4 : ∀ s x, X.setO (S s) lz0 iz4 (X.Obj.map .str true (E.M_str_bool x)) = S (s.1, s.2.1, s.2.2.1, x)) {r : Bool × (Option X.Ex) × (List Child) × (List (ByteArray × Bool))} (h : P70x1 fu a1 a2 b0 b2 b4 = some r) {args : List PV} (ha : [PV.yld lz0 iz0, PV.d (.int .i64 a1), pv_Value E a2] = args) {st : St} (hst : S (c0, rn2, c2, c4) = st) {rm2 : Int} (hrm2 : ln r.2.2.1 = rm2) :
    Sat (Ω.rd 70 args st) (fun q => q = (PV.d (.bool r.1), S (r.2.1, rm2, r.2.2.1, r.2.2.2))) := by
  subst ha
  subst hst
  subst e0
  subst e2
  subst e4
  rcases a2 with ⟨a2_a, a2_b, a2_c, ⟨a2_dl, a2_dx⟩, ⟨a2_el, a2_ex⟩, a2_f, a2_g, a2_h⟩
  rw [cf_round hΩ (g := 70) rfl rfl cs70_ok]
  unfold P70x1 at h
  try dsimp only at h
  rcases b0 with _ | _
  · try dsimp only at h
    refine sat_round hΩ (hg0 _) (by exact (show downE (lz0+1) [(2, PV.ptr 0 iz1 0), (3, PV.ptr 0 iz3 0)] = [(2, PV.ptr (lz0+1) iz1 0), (3, PV.ptr (lz0+1) iz3 0)] by simp only [downE, down, down.downs, Nat.zero_add])) ?_
    conv => arg 1; cbv
    refine sat_loopfar hΩ (hg0 _) ?_
    conv => arg 1; cbv
    refine sat_setfar hΩ (hu0 _ _) ?_
    conv => arg 1; cbv
    refine sat_far hΩ (hg1 _) (by exact (show down.downs (lz0+1) [PV.row 0 iz2 rn2] = [PV.row (lz0+1) iz2 rn2] by simp only [down.downs, down, Nat.zero_add])) ?_
    conv => arg 1; cbv
    refine sat_in hΩ ?_
    conv => arg 1; cbv
    replace h := bif_cases h
    rcases h with ⟨hb1, h⟩ | ⟨hb1, h⟩
    · refine sat_brt (by first | exact hb1 | ((try clear h); subst_vars; first | exact hb1 | rfl)) ?_
      conv => arg 1; cbv
      refine sat_loopfar hΩ (hg0 _) ?_
      conv => arg 1; cbv
      refine sat_setfar hΩ (hu0 _ _) ?_
      conv => arg 1; cbv
      obtain rfl := Option.some.inj h
      subst_vars
      exact sat_pure rfl
    · refine sat_brf (by first | exact hb1 | ((try clear h); subst_vars; first | exact hb1 | rfl)) ?_
      conv => arg 1; cbv
      replace h := Option.bind_eq_some_iff.1 h
      obtain ⟨q, hq61, h⟩ := h
      refine sat_grp hΩ ((fun (q : (ByteArray × Int × ByteArray × Int × Int × ByteArray × (List Value) × (Option (List Value)) × (List Field) × (Option (List Field)) × Int × ByteArray × Bool) ⊕ Unit) => (match q with | .inl (c29, c30, c31, c32, c33, c34, c35_l, c35_x, c36_l, c36_x, c37, c38, c39) => (.normal, [(2, PV.ptr (lz0+1) iz1 0), (3, PV.ptr (lz0+1) iz3 0), (4, PV.d (.int .i64 a1)), (5, PV.ptr 0 0 0), (6, PV.ptr 0 1 0), (10, PV.d (.int .i64 a1)), (11, PV.agg [.d (.int .u8 a2_a), .d (.int .i64 a2_b), .d (.str a2_c), .d (.sl (E.L_Value a2_dl) (E.X_Value a2_dx)), .d (.sl (E.L_Field a2_el) (E.X_Field a2_ex)), .d (.int .u8 a2_f), .d (.str a2_g), .d (.bool a2_h)])], ([X.Obj.box 32 [.d (.int .u8 a2_a), .d (.int .i64 a2_b), .d (.str a2_c), .d (.sl (E.L_Value a2_dl) (E.X_Value a2_dx)), .d (.sl (E.L_Field a2_el) (E.X_Field a2_ex)), .d (.int .u8 a2_f), .d (.str a2_g), .d (.bool a2_h)], X.Obj.box 34 [.d (.str c29), .d (.int .u8 c30), .d (.str c31), .d (.int .u8 c32), .d (.int .i64 c33), .d (.str c34), .d (.sl (E.L_Value c35_l) (E.X_Value c35_x)), .d (.sl (E.L_Field c36_l) (E.X_Field c36_x)), .d (.int .u8 c37), .d (.str c38), .d (.bool c39)]] : List X.Obj) :: S ((some .normal), rn2, b2, b4)) | .inr _ => (.exit 1, [(2, PV.ptr (lz0+1) iz1 0), (3, PV.ptr (lz0+1) iz3 0), (4, PV.d (.int .i64 a1)), (5, PV.ptr 0 0 0), (6, PV.ptr 0 1 0), (10, PV.d (.int .i64 a1)), (11, PV.agg [.d (.int .u8 a2_a), .d (.int .i64 a2_b), .d (.str a2_c), .d (.sl (E.L_Value a2_dl) (E.X_Value a2_dx)), .d (.sl (E.L_Field a2_el) (E.X_Field a2_ex)), .d (.int .u8 a2_f), .d (.str a2_g), .d (.bool a2_h)])], ([X.Obj.box 32 [.d (.int .u8 a2_a), .d (.int .i64 a2_b), .d (.str a2_c), .d (.sl (E.L_Value a2_dl) (E.X_Value a2_dx)), .d (.sl (E.L_Field a2_el) (E.X_Field a2_ex)), .d (.int .u8 a2_f), .d (.str a2_g), .d (.bool a2_h)], X.Obj.box 34 [.d (.str ByteArray.empty), .d (.int .u8 0), .d (.str ByteArray.empty), .d (.int .u8 0), .d (.int .i64 0), .d (.str ByteArray.empty), .d (.sl [] (some [])), .d (.sl [] (some [])), .d (.int .u8 0), .d (.str ByteArray.empty), .d (.bool false)]] : List X.Obj) :: S ((some .normal), rn2, b2, b4)))) q) (fun k hk => ?_) ?_
      · clear h
        have h := hq61
        clear hq61
        conv => arg 1; cbv
        replace h := bif_cases h
        rcases h with ⟨hb2, h⟩ | ⟨hb2, h⟩
        · refine sat_brt (by first | exact hb2 | ((try clear h); subst_vars; first | exact hb2 | rfl)) ?_
          conv => arg 1; cbv
          replace h := Option.bind_eq_some_iff.1 h
          obtain ⟨r3, hx4, h⟩ := h
          refine sat_call (ok16 hΩ hE hx4 (by (try clear h); subst_vars; rfl) _) ?_
          conv => arg 1; cbv
          replace h := Option.bind_eq_some_iff.1 h
          obtain ⟨⟨r5_a, r5_b, r5_c, ⟨r5_da, r5_db, r5_dc, ⟨r5_ddl, r5_ddx⟩, ⟨r5_del, r5_dex⟩, r5_df, r5_dg, r5_dh⟩⟩, hx6, h⟩ := h
          try dsimp only at h
          refine sat_call (ok15 hΩ hE hx6 (by (try clear h); subst_vars; rfl) _) ?_
          conv => arg 1; cbv
          obtain rfl := Option.some.inj h
          subst_vars
          first | exact hk | (simp only [ln_set] at hk ⊢; exact hk)
        · refine sat_brf (by first | exact hb2 | ((try clear h); subst_vars; first | exact hb2 | rfl)) ?_
          conv => arg 1; cbv
          replace h := Option.bind_eq_some_iff.1 h
          obtain ⟨q, hq28, h⟩ := h
          refine sat_grp hΩ ((fun (q : (ByteArray × Int × ByteArray × Int × Int × ByteArray × (List Value) × (Option (List Value)) × (List Field) × (Option (List Field)) × Int × ByteArray × Bool) ⊕ Unit) => (match q with | .inl (c17, c18, c19, c20, c21, c22, c23_l, c23_x, c24_l, c24_x, c25, c26, c27) => (.normal, [(2, PV.ptr (lz0+1) iz1 0), (3, PV.ptr (lz0+1) iz3 0), (4, PV.d (.int .i64 a1)), (5, PV.ptr 0 0 0), (6, PV.ptr 0 1 0), (10, PV.d (.int .i64 a1)), (11, PV.agg [.d (.int .u8 a2_a), .d (.int .i64 a2_b), .d (.str a2_c), .d (.sl (E.L_Value a2_dl) (E.X_Value a2_dx)), .d (.sl (E.L_Field a2_el) (E.X_Field a2_ex)), .d (.int .u8 a2_f), .d (.str a2_g), .d (.bool a2_h)])], ([X.Obj.box 32 [.d (.int .u8 a2_a), .d (.int .i64 a2_b), .d (.str a2_c), .d (.sl (E.L_Value a2_dl) (E.X_Value a2_dx)), .d (.sl (E.L_Field a2_el) (E.X_Field a2_ex)), .d (.int .u8 a2_f), .d (.str a2_g), .d (.bool a2_h)], X.Obj.box 34 [.d (.str c17), .d (.int .u8 c18), .d (.str c19), .d (.int .u8 c20), .d (.int .i64 c21), .d (.str c22), .d (.sl (E.L_Value c23_l) (E.X_Value c23_x)), .d (.sl (E.L_Field c24_l) (E.X_Field c24_x)), .d (.int .u8 c25), .d (.str c26), .d (.bool c27)]] : List X.Obj) :: S ((some .normal), rn2, b2, b4)) | .inr _ => (.exit 1, [(2, PV.ptr (lz0+1) iz1 0), (3, PV.ptr (lz0+1) iz3 0), (4, PV.d (.int .i64 a1)), (5, PV.ptr 0 0 0), (6, PV.ptr 0 1 0), (10, PV.d (.int .i64 a1)), (11, PV.agg [.d (.int .u8 a2_a), .d (.int .i64 a2_b), .d (.str a2_c), .d (.sl (E.L_Value a2_dl) (E.X_Value a2_dx)), .d (.sl (E.L_Field a2_el) (E.X_Field a2_ex)), .d (.int .u8 a2_f), .d (.str a2_g), .d (.bool a2_h)])], ([X.Obj.box 32 [.d (.int .u8 a2_a), .d (.int .i64 a2_b), .d (.str a2_c), .d (.sl (E.L_Value a2_dl) (E.X_Value a2_dx)), .d (.sl (E.L_Field a2_el) (E.X_Field a2_ex)), .d (.int .u8 a2_f), .d (.str a2_g), .d (.bool a2_h)], X.Obj.box 34 [.d (.str ByteArray.empty), .d (.int .u8 0), .d (.str ByteArray.empty), .d (.int .u8 0), .d (.int .i64 0), .d (.str ByteArray.empty), .d (.sl [] (some [])), .d (.sl [] (some [])), .d (.int .u8 0), .d (.str ByteArray.empty), .d (.bool false)]] : List X.Obj) :: S ((some .normal), rn2, b2, b4)))) q) (fun k hk => ?_) ?_
          · clear h
            have h := hq28
            clear hq28
            conv => arg 1; cbv
            replace h := bif_cases h
            rcases h with ⟨hb7, h⟩ | ⟨hb7, h⟩
            · refine sat_brt (by first | exact hb7 | ((try clear h); subst_vars; first | exact hb7 | rfl)) ?_
              conv => arg 1; cbv
              replace h := Option.bind_eq_some_iff.1 h
              obtain ⟨⟨r8_a, r8_b, r8_c, ⟨r8_da, r8_db, r8_dc, ⟨r8_ddl, r8_ddx⟩, ⟨r8_del, r8_dex⟩, r8_df, r8_dg, r8_dh⟩⟩, hx9, h⟩ := h
              try dsimp only at h
              refine sat_call (ok15 hΩ hE hx9 (by (try clear h); subst_vars; rfl) _) ?_
              conv => arg 1; cbv
              obtain rfl := Option.some.inj h
              subst_vars
              first | exact hk | (simp only [ln_set] at hk ⊢; exact hk)
            · refine sat_brf (by first | exact hb7 | ((try clear h); subst_vars; first | exact hb7 | rfl)) ?_
              conv => arg 1; cbv
              replace h := Option.bind_eq_some_iff.1 h
              obtain ⟨q, hq16, h⟩ := h
              refine sat_grp hΩ ((fun (q : Bool) => (match q with | i12 => ([(2, PV.ptr (lz0+1) iz1 0), (3, PV.ptr (lz0+1) iz3 0), (4, PV.d (.int .i64 a1)), (5, PV.ptr 0 0 0), (6, PV.ptr 0 1 0), (10, PV.d (.int .i64 a1)), (11, PV.agg [.d (.int .u8 a2_a), .d (.int .i64 a2_b), .d (.str a2_c), .d (.sl (E.L_Value a2_dl) (E.X_Value a2_dx)), .d (.sl (E.L_Field a2_el) (E.X_Field a2_ex)), .d (.int .u8 a2_f), .d (.str a2_g), .d (.bool a2_h)]), (30, PV.d (.bool i12))], ([X.Obj.box 32 [.d (.int .u8 a2_a), .d (.int .i64 a2_b), .d (.str a2_c), .d (.sl (E.L_Value a2_dl) (E.X_Value a2_dx)), .d (.sl (E.L_Field a2_el) (E.X_Field a2_ex)), .d (.int .u8 a2_f), .d (.str a2_g), .d (.bool a2_h)], X.Obj.box 34 [.d (.str ByteArray.empty), .d (.int .u8 0), .d (.str ByteArray.empty), .d (.int .u8 0), .d (.int .i64 0), .d (.str ByteArray.empty), .d (.sl [] (some [])), .d (.sl [] (some [])), .d (.int .u8 0), .d (.str ByteArray.empty), .d (.bool false)]] : List X.Obj) :: S ((some .normal), rn2, b2, b4)))) q) (fun k hk => ?_) ?_
              · clear h
                have h := hq16
                clear hq16
                conv => arg 1; cbv
                replace h := bif_cases h
                rcases h with ⟨hb10, h⟩ | ⟨hb10, h⟩
                · refine sat_brt (by first | exact hb10 | ((try clear h); subst_vars; first | exact hb10 | rfl)) ?_
                  conv => arg 1; cbv
                  replace h := bif_cases h
                  rcases h with ⟨hb11, h⟩ | ⟨hb11, h⟩
                  · refine sat_brt (by first | exact hb11 | ((try clear h); subst_vars; first | exact hb11 | rfl)) ?_
                    conv => arg 1; cbv
                    refine sat_tick hΩ ?_
                    conv => arg 1; cbv
                    obtain rfl := Option.some.inj h
                    subst_vars
                    first | exact hk | (simp only [ln_set] at hk ⊢; exact hk)
                  · refine sat_brf (by first | exact hb11 | ((try clear h); subst_vars; first | exact hb11 | rfl)) ?_
                    conv => arg 1; cbv
                    refine sat_tick hΩ ?_
                    conv => arg 1; cbv
                    obtain rfl := Option.some.inj h
                    subst_vars
                    first | exact hk | (simp only [ln_set] at hk ⊢; exact hk)
                · refine sat_brf (by first | exact hb10 | ((try clear h); subst_vars; first | exact hb10 | rfl)) ?_
                  conv => arg 1; cbv
                  refine sat_tick hΩ ?_
                  conv => arg 1; cbv
                  obtain rfl := Option.some.inj h
                  subst_vars
                  first | exact hk | (simp only [ln_set] at hk ⊢; exact hk)
              · clear hq16
                obtain ⟨i12, hqq⟩ : ∃ x, x = q := ⟨_, rfl⟩
                subst hqq
                try dsimp only at h
                conv => arg 1; cbv
                refine sat_in hΩ ?_
                conv => arg 1; cbv
                replace h := bif_cases h
                rcases h with ⟨hb13, h⟩ | ⟨hb13, h⟩
                · refine sat_brt (by first | exact hb13 | ((try clear h); subst_vars; first | exact hb13 | rfl)) ?_
                  conv => arg 1; cbv
                  replace h := Option.bind_eq_some_iff.1 h
                  obtain ⟨⟨r14_a, r14_b, r14_c, ⟨r14_dl, r14_dx⟩, ⟨r14_el, r14_ex⟩, r14_f, r14_g, r14_h⟩, hx15, h⟩ := h
                  try dsimp only at h
                  refine sat_call (ok17 hΩ hE hx15 (by (try clear h); subst_vars; rfl) _) ?_
                  conv => arg 1; cbv
                  refine sat_true (same_ok hΩ _) ?_
                  conv => arg 1; cbv
                  obtain rfl := Option.some.inj h
                  subst_vars
                  first | exact hk | (simp only [ln_set] at hk ⊢; exact hk)
                · refine sat_brf (by first | exact hb13 | ((try clear h); subst_vars; first | exact hb13 | rfl)) ?_
                  conv => arg 1; cbv
                  obtain rfl := Option.some.inj h
                  subst_vars
                  first | exact hk | (simp only [ln_set] at hk ⊢; exact hk)
          · clear hq28
            rcases q with ⟨c17, c18, c19, c20, c21, c22, c23_l, c23_x, c24_l, c24_x, c25, c26, c27⟩ | _
            · try dsimp only at h
              conv => arg 1; cbv
              obtain rfl := Option.some.inj h
              subst_vars
              first | exact hk | (simp only [ln_set] at hk ⊢; exact hk)
            · try dsimp only at h
              conv => arg 1; cbv
              obtain rfl := Option.some.inj h
              subst_vars
              first | exact hk | (simp only [ln_set] at hk ⊢; exact hk)
      · clear hq61
        rcases q with ⟨c29, c30, c31, c32, c33, c34, c35_l, c35_x, c36_l, c36_x, c37, c38, c39⟩ | _
        · try dsimp only at h
          conv => arg 1; cbv
          replace h := Option.bind_eq_some_iff.1 h
          obtain ⟨r40, hx41, h⟩ := h
          refine sat_call (ok18 hΩ hE hx41 (by (try clear h); subst_vars; rfl) _) ?_
          conv => arg 1; cbv
          replace h := bif_some h
          obtain ⟨hb42, h⟩ := h
          refine sat_true (by first | exact hb42 | ((try clear h); subst_vars; first | exact hb42 | rfl)) ?_
          conv => arg 1; cbv
          replace h := Option.bind_eq_some_iff.1 h
          obtain ⟨q, hq60, h⟩ := h
          refine sat_grp hΩ ((fun (q : Bool) => (match q with | i47 => ([(2, PV.ptr (lz0+1) iz1 0), (3, PV.ptr (lz0+1) iz3 0), (4, PV.d (.int .i64 a1)), (5, PV.ptr 0 0 0), (6, PV.ptr 0 1 0), (10, PV.d (.int .i64 a1)), (11, PV.agg [.d (.int .u8 a2_a), .d (.int .i64 a2_b), .d (.str a2_c), .d (.sl (E.L_Value a2_dl) (E.X_Value a2_dx)), .d (.sl (E.L_Field a2_el) (E.X_Field a2_ex)), .d (.int .u8 a2_f), .d (.str a2_g), .d (.bool a2_h)]), (68, PV.d (.bool i47))], ([X.Obj.box 32 [.d (.int .u8 a2_a), .d (.int .i64 a2_b), .d (.str a2_c), .d (.sl (E.L_Value a2_dl) (E.X_Value a2_dx)), .d (.sl (E.L_Field a2_el) (E.X_Field a2_ex)), .d (.int .u8 a2_f), .d (.str a2_g), .d (.bool a2_h)], X.Obj.box 34 [.d (.str (Ω.sapp (⟨#[105, 58]⟩ : ByteArray) r40)), .d (.int .u8 c30), .d (.str c31), .d (.int .u8 c32), .d (.int .i64 c33), .d (.str c34), .d (.sl (E.L_Value c35_l) (E.X_Value c35_x)), .d (.sl (E.L_Field c36_l) (E.X_Field c36_x)), .d (.int .u8 c37), .d (.str c38), .d (.bool c39)]] : List X.Obj) :: S ((some .normal), rn2, b2, b4)))) q) (fun k hk => ?_) ?_
          · clear h
            have h := hq60
            clear hq60
            conv => arg 1; cbv
            replace h := bif_cases h
            rcases h with ⟨hb43, h⟩ | ⟨hb43, h⟩
            · refine sat_brt (by first | exact hb43 | ((try clear h); subst_vars; first | exact hb43 | rfl)) ?_
              conv => arg 1; cbv
              replace h := bif_cases h
              rcases h with ⟨hb44, h⟩ | ⟨hb44, h⟩
              · refine sat_brt (by first | exact hb44 | ((try clear h); subst_vars; first | exact hb44 | rfl)) ?_
                conv => arg 1; cbv
                refine sat_far hΩ (hg3 _) (by exact (show down.downs (lz0+1) [PV.map 0 iz4] = [PV.map (lz0+1) iz4] by simp only [down.downs, down, Nat.zero_add])) ?_
                conv => arg 1; cbv
                refine sat_mapfar hΩ (hg4 _) ?_
                conv => arg 1; cbv
                rcases hq46 : mget b4 a2_g with _ | x45
                · rw [hq46] at h
                  dsimp only at h
                  refine sat_find_none hΩ (mo_str_bool hE) hq46 ?_
                  conv => arg 1; cbv
                  refine sat_tick hΩ ?_
                  conv => arg 1; cbv
                  obtain rfl := Option.some.inj h
                  subst_vars
                  first | exact hk | (simp only [ln_set] at hk ⊢; exact hk)
                · rw [hq46] at h
                  dsimp only at h
                  refine sat_find_some hΩ (mo_str_bool hE) hq46 ?_
                  conv => arg 1; cbv
                  refine sat_tick hΩ ?_
                  conv => arg 1; cbv
                  obtain rfl := Option.some.inj h
                  subst_vars
                  first | exact hk | (simp only [ln_set] at hk ⊢; exact hk)
              · refine sat_brf (by first | exact hb44 | ((try clear h); subst_vars; first | exact hb44 | rfl)) ?_
                conv => arg 1; cbv
                refine sat_tick hΩ ?_
                conv => arg 1; cbv
                obtain rfl := Option.some.inj h
                subst_vars
                first | exact hk | (simp only [ln_set] at hk ⊢; exact hk)
            · refine sat_brf (by first | exact hb43 | ((try clear h); subst_vars; first | exact hb43 | rfl)) ?_
              conv => arg 1; cbv
              refine sat_tick hΩ ?_
              conv => arg 1; cbv
              obtain rfl := Option.some.inj h
              subst_vars
              first | exact hk | (simp only [ln_set] at hk ⊢; exact hk)
          · clear hq60
            obtain ⟨i47, hqq⟩ : ∃ x, x = q := ⟨_, rfl⟩
            subst hqq
            try dsimp only at h
            conv => arg 1; cbv
            replace h := Option.bind_eq_some_iff.1 h
            obtain ⟨q, hq59, h⟩ := h
            refine sat_grp hΩ ((fun (q : ByteArray × (List (ByteArray × Bool))) => (match q with | (c52, g53) => (.normal, [(2, PV.ptr (lz0+1) iz1 0), (3, PV.ptr (lz0+1) iz3 0), (4, PV.d (.int .i64 a1)), (5, PV.ptr 0 0 0), (6, PV.ptr 0 1 0), (10, PV.d (.int .i64 a1)), (11, PV.agg [.d (.int .u8 a2_a), .d (.int .i64 a2_b), .d (.str a2_c), .d (.sl (E.L_Value a2_dl) (E.X_Value a2_dx)), .d (.sl (E.L_Field a2_el) (E.X_Field a2_ex)), .d (.int .u8 a2_f), .d (.str a2_g), .d (.bool a2_h)])], ([X.Obj.box 32 [.d (.int .u8 a2_a), .d (.int .i64 a2_b), .d (.str a2_c), .d (.sl (E.L_Value a2_dl) (E.X_Value a2_dx)), .d (.sl (E.L_Field a2_el) (E.X_Field a2_ex)), .d (.int .u8 a2_f), .d (.str a2_g), .d (.bool a2_h)], X.Obj.box 34 [.d (.str c52), .d (.int .u8 c30), .d (.str c31), .d (.int .u8 c32), .d (.int .i64 c33), .d (.str c34), .d (.sl (E.L_Value c35_l) (E.X_Value c35_x)), .d (.sl (E.L_Field c36_l) (E.X_Field c36_x)), .d (.int .u8 c37), .d (.str c38), .d (.bool c39)]] : List X.Obj) :: S ((some .normal), rn2, b2, g53)))) q) (fun k hk => ?_) ?_
            · clear h
              have h := hq59
              clear hq59
              conv => arg 1; cbv
              replace h := bif_cases h
              rcases h with ⟨hb48, h⟩ | ⟨hb48, h⟩
              · refine sat_brt (by first | exact hb48 | ((try clear h); subst_vars; first | exact hb48 | rfl)) ?_
                conv => arg 1; cbv
                refine sat_far hΩ (hg3 _) (by exact (show down.downs (lz0+1) [PV.map 0 iz4] = [PV.map (lz0+1) iz4] by simp only [down.downs, down, Nat.zero_add])) ?_
                conv => arg 1; cbv
                refine sat_mapfar hΩ (hg4 _) ?_
                conv => arg 1; cbv
                refine sat_put hΩ (mo_str_bool hE) b4 a2_g true fun m49 hm50 => ?_
                conv => arg 1; cbv
                refine sat_setfar hΩ (hu4 _ _) ?_
                conv => arg 1; cbv
                replace h := bif_some h
                obtain ⟨hb51, h⟩ := h
                refine sat_true (by first | exact hb51 | ((try clear h); subst_vars; first | exact hb51 | rfl)) ?_
                conv => arg 1; cbv
                obtain rfl := Option.some.inj h
                subst_vars
                first | exact hk | (simp only [ln_set] at hk ⊢; exact hk)
              · refine sat_brf (by first | exact hb48 | ((try clear h); subst_vars; first | exact hb48 | rfl)) ?_
                conv => arg 1; cbv
                obtain rfl := Option.some.inj h
                subst_vars
                first | exact hk | (simp only [ln_set] at hk ⊢; exact hk)
            · clear hq59
              rcases q with ⟨c52, g53⟩
              try dsimp only at h
              conv => arg 1; cbv
              refine sat_in hΩ ?_
              conv => arg 1; cbv
              refine sat_far hΩ (hg1 _) (by exact (show down.downs (lz0+1) [PV.row 0 iz2 rn2] = [PV.row (lz0+1) iz2 rn2] by simp only [down.downs, down, Nat.zero_add])) ?_
              conv => arg 1; cbv
              refine sat_true (ieq_ok hΩ _) ?_
              conv => arg 1; cbv
              refine sat_true (fits_l hΩ (ro_Child hE) [(Child.mk c52 c30 c31 (Value.mk c32 c33 c34 (Sl.mk c35_l c35_x) (Sl.mk c36_l c36_x) c37 c38 c39))]) ?_
              conv => arg 1; cbv
              refine sat_rowfar hΩ (hg2 _) ?_
              conv => arg 1; cbv
              refine sat_true (len_ok hΩ (ro_Child hE) b2) ?_
              conv => arg 1; cbv
              refine sat_brf (len_zero hΩ (ro_Child hE) (l := [(Child.mk c52 c30 c31 (Value.mk c32 c33 c34 (Sl.mk c35_l c35_x) (Sl.mk c36_l c36_x) c37 c38 c39))]) (b := false) (by rfl)) ?_
              conv => arg 1; cbv
              refine sat_cat hΩ (ro_Child hE) b2 [(Child.mk c52 c30 c31 (Value.mk c32 c33 c34 (Sl.mk c35_l c35_x) (Sl.mk c36_l c36_x) c37 c38 c39))] fun l54 hl55 n56 hn57 => ?_
              conv => arg 1; cbv
              replace h := bif_some h
              obtain ⟨hb58, h⟩ := h
              refine sat_true (by first | exact hb58 | ((try clear h); subst_vars; first | exact hb58 | rfl)) ?_
              conv => arg 1; cbv
              refine sat_setfar hΩ (hu2 _ l54) ?_
              conv => arg 1; cbv
              refine sat_putfar2 hΩ (hg1 _) (hu1 _ n56) (show up.ups (lz0+1) [PV.row (lz0+1) iz2 n56] = [PV.row 0 iz2 n56] from ups_cons (up_row (by omega)) (rfl)) rfl rfl ?_
              conv => arg 1; cbv
              refine sat_loopfar hΩ (hg0 _) ?_
              conv => arg 1; cbv
              refine sat_setfar hΩ (hu0 _ _) ?_
              conv => arg 1; cbv
              obtain rfl := Option.some.inj h
              subst_vars
              exact sat_pure rfl
        · try dsimp only at h
          conv => arg 1; cbv
          refine sat_loopfar hΩ (hg0 _) ?_
          conv => arg 1; cbv
          refine sat_setfar hΩ (hu0 _ _) ?_
          conv => arg 1; cbv
          obtain rfl := Option.some.inj h
          subst_vars
          exact sat_pure rfl
  · try dsimp only at h
    cases h
set_option maxHeartbeats 4000000 in
theorem okb22x1 {Ω : Om} {E : Enc} (hΩ : real (call S) = Ω) (hE : theEnc = E) {fu : Nat} {p22x1 : (Sl Value) → (Option X.Ex) → (List Child) → (List (ByteArray × Bool)) → Int → Option (Bool × (Option X.Ex) × (List Child) × (List (ByteArray × Bool)) × Int)} (hp22x1 : ∀ {a0 : Sl Value} {b2 c2 : Option X.Ex} {b4 c4 : List Child} {b6 c6 : List (ByteArray × Bool)} {b7 c7 : Int} {rn4 : Int} {S : ((Option X.Ex) × Int × (List Child) × (List (ByteArray × Bool)) × Int) → St} {lz0 lz1 ly1 iz0 iz1 iz2 iz3 iz4 iz5 iz6 iz7 : Nat} (hl1 : ly1 + lz0 = lz1) (e2 : b2 = c2) (e4 : b4 = c4) (e6 : b6 = c6) (e7 : b7 = c7) (hrn4 : ln b4 = rn4) (hg0 : ∀ s, X.look (S s) lz0 iz0 = some (X.Obj.box 35 [PV.fn 22 [.ptr 0 iz0 0, .ptr 0 iz1 0, .ptr 0 iz7 0]])) (hg1 : ∀ s, X.look (S s) lz0 iz1 = some (X.Obj.box 51 [PV.yld ly1 iz2])) (hg2 : ∀ s, X.look (S s) lz1 iz2 = some (X.Obj.loop 70 [(2, PV.ptr 0 iz3 0), (3, PV.ptr 0 iz5 0)] s.1)) (hu2 : ∀ s x, X.setO (S s) lz1 iz2 (X.Obj.loop 70 [(2, PV.ptr 0 iz3 0), (3, PV.ptr 0 iz5 0)] x) = S (x, s.2.1, s.2.2.1, s.2.2.2.1, s.2.2.2.2)) (hg3 : ∀ s, X.look (S s) lz1 iz3 = some (X.Obj.box 26 [PV.row 0 iz4 s.2.1])) (hu3 : ∀ s x, X.setO (S s) lz1 iz3 (X.Obj.box 26 [PV.row 0 iz4 x]) = S (s.1, x, s.2.2.1, s.2.2.2.1, s.2.2.2.2)) (hg4 : ∀ s, X.look (S s) lz1 iz4 = some (X.Obj.row 34 11 (E.L_Child s.2.2.1) true none)) (hu4 : ∀ s x, X.setO (S s) lz1 iz4 (X.Obj.row 34 11 (E.L_Child x) true none) = S (s.1, s.2.1, x, s.2.2.2.1, s.2.2.2.2)) (hg5 : ∀ s, X.look (S s) lz1 iz5 = some (X.Obj.box 43 [PV.map 0 iz6])) (hg6 : ∀ s, X.look (S s) lz1 iz6 = some (X.Obj.map .str true (E.M_str_bool s.2.2.2.1))) (hu6 : ∀ s x, X.setO (S s) lz1 iz6 (X.Obj.map .str true (E.M_str_bool x)) = S (s.1, s.2.1, s.2.2.1, x, s.2.2.2.2)) (hg7 : ∀ s, X.look (S s) lz0 iz7 = some (X.Obj.box 3 (bx_3 E s.2.2.2.2))) (hu7 : ∀ s x, X.setO (S s) lz0 iz7 (X.Obj.box 3 (bx_3 E x)) = S (s.1, s.2.1, s.2.2.1, s.2.2.2.1, x)) {r : Bool × (Option X.Ex) × (List Child) × (List (ByteArray × Bool)) × Int}, p22x1 a0 b2 b4 b6 b7 = some r → ∀ {args : List PV}, [PV.d (.sl (E.L_Value a0.l) (E.X_Value a0.x)), PV.ptr lz0 iz0 0, PV.ptr lz0 iz1 0, PV.ptr lz0 iz7 0] = args → ∀ {st : St}, S (c2, rn4, c4, c6, c7) = st → ∀ {rm4 : Int}, ln r.2.2.1 = rm4 → Sat (Ω.cf 22 args st) (fun q => q = (PV.d (.bool r.1), S (r.2.1, rm4, r.2.2.1, r.2.2.2.1, r.2.2.2.2)))) {a0 : Sl Value} {b2 c2 : Option X.Ex} {b4 c4 : List Child} {b6 c6 : List (ByteArray × Bool)} {b7 c7 : Int} {rn4 : Int} {S : ((Option X.Ex) × Int × (List Child) × (List (ByteArray × Bool)) × Int) → St} {lz0 lz1 ly1 iz0 iz1 iz2 iz3 iz4 iz5 iz6 iz7 : Nat} (hl1 : ly1 + lz0 = lz1) (e2 : b2 = c2) (e4 : b4 = c4) (e6 : b6 = c6) (e7 : b7 = c7) (hrn4 : ln b4 = rn4) (hg0 : ∀ s, X.look (S s) lz0 iz0 = some (X.Obj.box 35 [PV.fn 22 [.ptr 0 iz0 0, .ptr 0 iz1 0, .ptr 0 iz7 0]])) (hg1 : ∀ s, X.look (S s) lz0 iz1 = some (X.Obj.box 51 [PV.yld ly1 iz2])) (hg2 : ∀ s, X.look (S s) lz1 iz2 = some (X.Obj.loop 70 [(2, PV.ptr 0 iz3 0), (3, PV.ptr 0 iz5 0)] s.1)) (hu2 : ∀ s x, X.setO (S s) lz1 iz2 (X.Obj.loop 70 [(2, PV.ptr 0 iz3 0), (3, PV.ptr 0 iz5 0)] x) = S (x, s.2.1, s.2.2.1, s.2.2.2.1, s.2.2.2.2)) (hg3 : ∀ s, X.look (S s) lz1 iz3 = some (X.Obj.box 26 [PV.row 0 iz4 s.2.1])) (hu3 : ∀ s x, X.setO (S s) lz1 iz3 (X.Obj.box 26 [PV.row 0 iz4 x]) = S (s.1, x, s.2.2.1, s.2.2.2.1, s.2.2.2.2)) (hg4 : ∀ s, X.look (S s) lz1 iz4 = some (X.Obj.row 34 11 (E.L_Child s.2.2.1) true none)) (hu4 : ∀ s x, X.setO (S s) lz1 iz4 (X.Obj.row 34 11 (E.L_Child x) true none) = S (s.1, s.2.1, x, s.2.2.2.1, s.2.2.2.2)) (hg5 : ∀ s, X.look (S s) lz1 iz5 = some (X.Obj.box 43 [PV.map 0 iz6])) (hg6 : ∀ s, X.look (S s) lz1 iz6 = some (X.Obj.map .str true (E.M_str_bool s.2.2.2.1))) (hu6 : ∀ s x, X.setO (S s) lz1 iz6 (X.Obj.map .str true (E.M_str_bool x)) = S (s.1, s.2.1, s.2.2.1, x, s.2.2.2.2)) (hg7 : ∀ s, X.look (S s) lz0 iz7 = some (X.Obj.box 3 (bx_3 E s.2.2.2.2))) (hu7 : ∀ s x, X.setO (S s) lz0 iz7 (X.Obj.box 3 (bx_3 E x)) = S (s.1, s.2.1, s.2.2.1, s.2.2.2.1, x)) {r : Bool × (Option X.Ex) × (List Child) × (List (ByteArray × Bool)) × Int} (h : Pb22x1 fu p22x1 a0 b2 b4 b6 b7 = some r) {args : List PV} (ha : [PV.d (.sl (E.L_Value a0.l) (E.X_Value a0.x)), PV.ptr lz0 iz0 0, PV.ptr lz0 iz1 0, PV.ptr lz0 iz7 0] = args) {st : St} (hst : S (c2, rn4, c4, c6, c7) = st) {rm4 : Int} (hrm4 : ln r.2.2.1 = rm4) :
    Sat (Ω.cf 22 args st) (fun q => q = (PV.d (.bool r.1), S (r.2.1, rm4, r.2.2.1, r.2.2.2.1, r.2.2.2.2))) := by
  subst ha
  subst hst
  subst e2
  subst e4
  subst e6
  subst e7
  rcases a0 with ⟨a0_l, a0_x⟩
  rw [cf_body hΩ (f := 22) (fn := Tryd.f22) (x := c22) rfl rfl c22_ok rfl rfl rfl]
  unfold Pb22x1 at h
  try dsimp only at h
  conv => arg 1; cbv
  refine sat_len hΩ (ro_Value hE) a0_l fun n1 hn2 => ?_
  conv => arg 1; cbv
  replace h := Option.bind_eq_some_iff.1 h
  obtain ⟨q, hl29, h⟩ := h
  refine sat_loop hΩ (fun (a : (Option X.Ex) × (List Child) × (List (ByteArray × Bool)) × Int × Int) => (match a with | (g3, g4, g5, g6, i7) => ([(0, PV.d (.sl (E.L_Value a0_l) (E.X_Value a0_x))), (1, PV.ptr (lz0+1) iz0 0), (2, PV.ptr (lz0+1) iz1 0), (3, PV.ptr (lz0+1) iz7 0), (5, PV.d (.bool false)), (8, PV.d (.sl (E.L_Value a0_l) (E.X_Value a0_x))), (9, PV.d (.int .i64 n1)), (10, PV.d (.int .i64 i7))], ([] : List X.Obj) :: S (g3, (ln g4), g4, g5, g6)))) (fun (q : ((Option X.Ex) × (List Child) × (List (ByteArray × Bool)) × Int × Int) ⊕ ((Option X.Ex) × (List Child) × (List (ByteArray × Bool)) × Int × Int)) => (match q with | .inl (o30, o31, o32, o33, o34) => (.exit 0, [(0, PV.d (.sl (E.L_Value a0_l) (E.X_Value a0_x))), (1, PV.ptr (lz0+1) iz0 0), (2, PV.ptr (lz0+1) iz1 0), (3, PV.ptr (lz0+1) iz7 0), (5, PV.d (.bool false)), (8, PV.d (.sl (E.L_Value a0_l) (E.X_Value a0_x))), (9, PV.d (.int .i64 n1)), (10, PV.d (.int .i64 o34))], ([] : List X.Obj) :: S (o30, (ln o31), o31, o32, o33)) | .inr (o35, o36, o37, o38, o39) => (.ret, [(0, PV.d (.sl (E.L_Value a0_l) (E.X_Value a0_x))), (1, PV.ptr (lz0+1) iz0 0), (2, PV.ptr (lz0+1) iz1 0), (3, PV.ptr (lz0+1) iz7 0), (5, PV.d (.bool false)), (8, PV.d (.sl (E.L_Value a0_l) (E.X_Value a0_x))), (9, PV.d (.int .i64 n1)), (10, PV.d (.int .i64 o39))], ([] : List X.Obj) :: S (o35, (ln o36), o36, o37, o38)))) (b2, b4, b6, b7, 0) hl29 ?_ ?_
  · clear h hl29
    rintro ⟨g3, g4, g5, g6, i7⟩ q h
    unfold P22x1_s0 at h
    dsimp only at h
    obtain ⟨ln_g4, hln_g4⟩ : ∃ n, ln g4 = n := ⟨_, rfl⟩
    simp only [hln_g4]
    conv => arg 1; cbv
    refine sat_in hΩ ?_
    conv => arg 1; cbv
    replace h := bif_cases h
    rcases h with ⟨hb8, h⟩ | ⟨hb8, h⟩
    · refine sat_brt (by first | exact hb8 | ((try clear h); subst_vars; first | exact hb8 | rfl)) ?_
      conv => arg 1; cbv
      refine sat_true (fits_l hΩ (ro_Value hE) a0_l) ?_
      conv => arg 1; cbv
      replace h := Option.bind_eq_some_iff.1 h
      obtain ⟨⟨x9_a, x9_b, x9_c, ⟨x9_dl, x9_dx⟩, ⟨x9_el, x9_ex⟩, x9_f, x9_g, x9_h⟩, hx10, h⟩ := h
      try dsimp only at h
      refine sat_bind (nth_ok hΩ (ro_Value hE) hx10) ?_
      conv => arg 1; cbv
      refine sat_in hΩ ?_
      conv => arg 1; cbv
      replace h := bif_cases h
      rcases h with ⟨hb11, h⟩ | ⟨hb11, h⟩
      · refine sat_brt (by first | exact hb11 | ((try clear h); subst_vars; first | exact hb11 | rfl)) ?_
        conv => arg 1; cbv
        refine sat_far hΩ (hg0 _) (by exact (show down.downs (lz0+1) [PV.fn 22 [.ptr 0 iz0 0, .ptr 0 iz1 0, .ptr 0 iz7 0]] = [PV.fn 22 [.ptr (lz0+1) iz0 0, .ptr (lz0+1) iz1 0, .ptr (lz0+1) iz7 0]] by simp only [down.downs, down, Nat.zero_add, ← hl1, Nat.add_assoc])) ?_
        conv => arg 1; cbv
        replace h := Option.bind_eq_some_iff.1 h
        obtain ⟨⟨r13, wr14, wr15, wr18, wr19⟩, hx12, h⟩ := h
        try dsimp only at h
        obtain ⟨n16, hn17⟩ : ∃ n, ln wr15 = n := ⟨_, rfl⟩
        refine sat_call (hp22x1 (S := (fun (s : (Option X.Ex) × Int × (List Child) × (List (ByteArray × Bool)) × Int) => ([X.Obj.box 32 [.d (.int .u8 x9_a), .d (.int .i64 x9_b), .d (.str x9_c), .d (.sl (E.L_Value x9_dl) (E.X_Value x9_dx)), .d (.sl (E.L_Field x9_el) (E.X_Field x9_ex)), .d (.int .u8 x9_f), .d (.str x9_g), .d (.bool x9_h)]] : List X.Obj) :: S (s.1, s.2.1, s.2.2.1, s.2.2.2.1, s.2.2.2.2))) (lz0 := (lz0+1)) (lz1 := (lz1+1)) (ly1 := ly1) (iz0 := iz0) (iz1 := iz1) (iz2 := iz2) (iz3 := iz3) (iz4 := iz4) (iz5 := iz5) (iz6 := iz6) (iz7 := iz7) (c2 := g3) (c4 := g4) (c6 := g5) (c7 := g6) (rn4 := ln_g4) (by first | rfl | omega) (by (try clear h); subst_vars; rfl) (by (try clear h); subst_vars; rfl) (by (try clear h); subst_vars; rfl) (by (try clear h); subst_vars; rfl) (by  first | rfl | ((try clear h); subst_vars; rfl) | ((try clear h); subst_vars; simp only [ln_set]) | assumption | ((try clear h); subst_vars; assumption)) (fun s => hg0 (s.1, s.2.1, s.2.2.1, s.2.2.2.1, s.2.2.2.2)) (fun s => hg1 (s.1, s.2.1, s.2.2.1, s.2.2.2.1, s.2.2.2.2)) (fun s => hg2 (s.1, s.2.1, s.2.2.1, s.2.2.2.1, s.2.2.2.2)) (fun s x => congrArg (List.cons _) (hu2 (s.1, s.2.1, s.2.2.1, s.2.2.2.1, s.2.2.2.2) x)) (fun s => hg3 (s.1, s.2.1, s.2.2.1, s.2.2.2.1, s.2.2.2.2)) (fun s x => congrArg (List.cons _) (hu3 (s.1, s.2.1, s.2.2.1, s.2.2.2.1, s.2.2.2.2) x)) (fun s => hg4 (s.1, s.2.1, s.2.2.1, s.2.2.2.1, s.2.2.2.2)) (fun s x => congrArg (List.cons _) (hu4 (s.1, s.2.1, s.2.2.1, s.2.2.2.1, s.2.2.2.2) x)) (fun s => hg5 (s.1, s.2.1, s.2.2.1, s.2.2.2.1, s.2.2.2.2)) (fun s => hg6 (s.1, s.2.1, s.2.2.1, s.2.2.2.1, s.2.2.2.2)) (fun s x => congrArg (List.cons _) (hu6 (s.1, s.2.1, s.2.2.1, s.2.2.2.1, s.2.2.2.2) x)) (fun s => hg7 (s.1, s.2.1, s.2.2.1, s.2.2.2.1, s.2.2.2.2)) (fun s x => congrArg (List.cons _) (hu7 (s.1, s.2.1, s.2.2.1, s.2.2.2.1, s.2.2.2.2) x)) hx12 (by (try clear h); subst_vars; rfl) (by (try clear h); subst_vars; rfl) hn17) ?_
        conv => arg 1; cbv
        refine sat_in hΩ ?_
        conv => arg 1; cbv
        replace h := bif_cases h
        rcases h with ⟨hb20, h⟩ | ⟨hb20, h⟩
        · refine sat_brt (by first | exact hb20 | ((try clear h); subst_vars; first | exact hb20 | rfl)) ?_
          conv => arg 1; cbv
          obtain rfl := Option.some.inj h
          subst_vars
          first | exact sat_pure (.inr ⟨rfl, rfl⟩) | (refine sat_pure (.inr ⟨rfl, ?_⟩); dsimp only; simp only [ln_set]; rfl)
        · refine sat_brf (by first | exact hb20 | ((try clear h); subst_vars; first | exact hb20 | rfl)) ?_
          conv => arg 1; cbv
          obtain rfl := Option.some.inj h
          subst_vars
          first | exact sat_pure ⟨rfl, rfl, rfl⟩ | (refine sat_pure ⟨rfl, ?_, ?_⟩ <;> first | rfl | (dsimp only; simp only [ln_set]; rfl))
      · refine sat_brf (by first | exact hb11 | ((try clear h); subst_vars; first | exact hb11 | rfl)) ?_
        conv => arg 1; cbv
        refine sat_far hΩ (hg1 _) (by exact (show down.downs (lz0+1) [PV.yld ly1 iz2] = [PV.yld (lz1+1) iz2] by simp only [down.downs, down, Nat.zero_add, ← hl1, Nat.add_assoc])) ?_
        conv => arg 1; cbv
        refine sat_far hΩ (hg7 _) rfl ?_
        conv => arg 1; cbv
        rcases g3 with _ | _
        · try dsimp only at h
          refine sat_loopfar hΩ (hg2 _) ?_
          conv => arg 1; cbv
          replace h := Option.bind_eq_some_iff.1 h
          obtain ⟨⟨r22, wr23, wr24, wr27⟩, hx21, h⟩ := h
          try dsimp only at h
          obtain ⟨n25, hn26⟩ : ∃ n, ln wr24 = n := ⟨_, rfl⟩
          refine sat_call (ok70x1 hΩ hE (S := (fun (s : (Option X.Ex) × Int × (List Child) × (List (ByteArray × Bool))) => ([X.Obj.box 32 [.d (.int .u8 x9_a), .d (.int .i64 x9_b), .d (.str x9_c), .d (.sl (E.L_Value x9_dl) (E.X_Value x9_dx)), .d (.sl (E.L_Field x9_el) (E.X_Field x9_ex)), .d (.int .u8 x9_f), .d (.str x9_g), .d (.bool x9_h)]] : List X.Obj) :: S (s.1, s.2.1, s.2.2.1, s.2.2.2, g6))) (lz0 := (lz1+1)) (iz0 := iz2) (iz1 := iz3) (iz2 := iz4) (iz3 := iz5) (iz4 := iz6) (c0 := none) (c2 := g4) (c4 := g5) (rn2 := ln_g4) (by (try clear h); subst_vars; rfl) (by (try clear h); subst_vars; rfl) (by (try clear h); subst_vars; rfl) (by  first | rfl | ((try clear h); subst_vars; rfl) | ((try clear h); subst_vars; simp only [ln_set]) | assumption | ((try clear h); subst_vars; assumption)) (fun s => hg2 (s.1, s.2.1, s.2.2.1, s.2.2.2, g6)) (fun s x => congrArg (List.cons _) (hu2 (s.1, s.2.1, s.2.2.1, s.2.2.2, g6) x)) (fun s => hg3 (s.1, s.2.1, s.2.2.1, s.2.2.2, g6)) (fun s x => congrArg (List.cons _) (hu3 (s.1, s.2.1, s.2.2.1, s.2.2.2, g6) x)) (fun s => hg4 (s.1, s.2.1, s.2.2.1, s.2.2.2, g6)) (fun s x => congrArg (List.cons _) (hu4 (s.1, s.2.1, s.2.2.1, s.2.2.2, g6) x)) (fun s => hg5 (s.1, s.2.1, s.2.2.1, s.2.2.2, g6)) (fun s => hg6 (s.1, s.2.1, s.2.2.1, s.2.2.2, g6)) (fun s x => congrArg (List.cons _) (hu6 (s.1, s.2.1, s.2.2.1, s.2.2.2, g6) x)) hx21 (by (try clear h); subst_vars; rfl) (by (try clear h); subst_vars; rfl) hn26) ?_
          conv => arg 1; cbv
          refine sat_in hΩ ?_
          conv => arg 1; cbv
          replace h := bif_cases h
          rcases h with ⟨hb28, h⟩ | ⟨hb28, h⟩
          · refine sat_brt (by first | exact hb28 | ((try clear h); subst_vars; first | exact hb28 | rfl)) ?_
            conv => arg 1; cbv
            obtain rfl := Option.some.inj h
            subst_vars
            first | exact sat_pure (.inr ⟨rfl, rfl⟩) | (refine sat_pure (.inr ⟨rfl, ?_⟩); dsimp only; simp only [ln_set]; rfl)
          · refine sat_brf (by first | exact hb28 | ((try clear h); subst_vars; first | exact hb28 | rfl)) ?_
            conv => arg 1; cbv
            refine sat_far hΩ (hg7 _) rfl ?_
            conv => arg 1; cbv
            refine sat_putfar hΩ (hg7 _) (hu7 _ (Ω.wrap .i64 (Ω.add g6 1))) rfl rfl ?_
            conv => arg 1; cbv
            obtain rfl := Option.some.inj h
            subst_vars
            first | exact sat_pure ⟨rfl, rfl, rfl⟩ | (refine sat_pure ⟨rfl, ?_, ?_⟩ <;> first | rfl | (dsimp only; simp only [ln_set]; rfl))
        · try dsimp only at h
          cases h
    · refine sat_brf (by first | exact hb8 | ((try clear h); subst_vars; first | exact hb8 | rfl)) ?_
      conv => arg 1; cbv
      obtain rfl := Option.some.inj h
      subst_vars
      first | exact sat_pure (.inl ⟨⟨_, rfl⟩, rfl⟩) | (refine sat_pure (.inl ⟨⟨_, rfl⟩, ?_⟩); dsimp only; simp only [ln_set]; rfl)
  · clear hl29
    rcases q with ⟨o30, o31, o32, o33, o34⟩ | ⟨o35, o36, o37, o38, o39⟩
    · dsimp only at h
      obtain ⟨ln_o31, hln_o31⟩ : ∃ n, ln o31 = n := ⟨_, rfl⟩
      simp only [hln_o31]
      conv => arg 1; cbv
      obtain rfl := Option.some.inj h
      subst_vars
      exact sat_pure rfl
    · dsimp only at h
      obtain ⟨ln_o36, hln_o36⟩ : ∃ n, ln o36 = n := ⟨_, rfl⟩
      simp only [hln_o36]
      conv => arg 1; cbv
      obtain rfl := Option.some.inj h
      subst_vars
      exact sat_pure rfl
theorem okr22x1 {Ω : Om} {E : Enc} (hΩ : real (call S) = Ω) (hE : theEnc = E) : ∀ fu,
    (∀ {a0 : Sl Value} {b2 c2 : Option X.Ex} {b4 c4 : List Child} {b6 c6 : List (ByteArray × Bool)} {b7 c7 : Int} {rn4 : Int} {S : ((Option X.Ex) × Int × (List Child) × (List (ByteArray × Bool)) × Int) → St} {lz0 lz1 ly1 iz0 iz1 iz2 iz3 iz4 iz5 iz6 iz7 : Nat} (hl1 : ly1 + lz0 = lz1) (e2 : b2 = c2) (e4 : b4 = c4) (e6 : b6 = c6) (e7 : b7 = c7) (hrn4 : ln b4 = rn4) (hg0 : ∀ s, X.look (S s) lz0 iz0 = some (X.Obj.box 35 [PV.fn 22 [.ptr 0 iz0 0, .ptr 0 iz1 0, .ptr 0 iz7 0]])) (hg1 : ∀ s, X.look (S s) lz0 iz1 = some (X.Obj.box 51 [PV.yld ly1 iz2])) (hg2 : ∀ s, X.look (S s) lz1 iz2 = some (X.Obj.loop 70 [(2, PV.ptr 0 iz3 0), (3, PV.ptr 0 iz5 0)] s.1)) (hu2 : ∀ s x, X.setO (S s) lz1 iz2 (X.Obj.loop 70 [(2, PV.ptr 0 iz3 0), (3, PV.ptr 0 iz5 0)] x) = S (x, s.2.1, s.2.2.1, s.2.2.2.1, s.2.2.2.2)) (hg3 : ∀ s, X.look (S s) lz1 iz3 = some (X.Obj.box 26 [PV.row 0 iz4 s.2.1])) (hu3 : ∀ s x, X.setO (S s) lz1 iz3 (X.Obj.box 26 [PV.row 0 iz4 x]) = S (s.1, x, s.2.2.1, s.2.2.2.1, s.2.2.2.2)) (hg4 : ∀ s, X.look (S s) lz1 iz4 = some (X.Obj.row 34 11 (E.L_Child s.2.2.1) true none)) (hu4 : ∀ s x, X.setO (S s) lz1 iz4 (X.Obj.row 34 11 (E.L_Child x) true none) = S (s.1, s.2.1, x, s.2.2.2.1, s.2.2.2.2)) (hg5 : ∀ s, X.look (S s) lz1 iz5 = some (X.Obj.box 43 [PV.map 0 iz6])) (hg6 : ∀ s, X.look (S s) lz1 iz6 = some (X.Obj.map .str true (E.M_str_bool s.2.2.2.1))) (hu6 : ∀ s x, X.setO (S s) lz1 iz6 (X.Obj.map .str true (E.M_str_bool x)) = S (s.1, s.2.1, s.2.2.1, x, s.2.2.2.2)) (hg7 : ∀ s, X.look (S s) lz0 iz7 = some (X.Obj.box 3 (bx_3 E s.2.2.2.2))) (hu7 : ∀ s x, X.setO (S s) lz0 iz7 (X.Obj.box 3 (bx_3 E x)) = S (s.1, s.2.1, s.2.2.1, s.2.2.2.1, x)) {r : Bool × (Option X.Ex) × (List Child) × (List (ByteArray × Bool)) × Int}, P22x1 fu a0 b2 b4 b6 b7 = some r → ∀ {args : List PV}, [PV.d (.sl (E.L_Value a0.l) (E.X_Value a0.x)), PV.ptr lz0 iz0 0, PV.ptr lz0 iz1 0, PV.ptr lz0 iz7 0] = args → ∀ {st : St}, S (c2, rn4, c4, c6, c7) = st → ∀ {rm4 : Int}, ln r.2.2.1 = rm4 → Sat (Ω.cf 22 args st) (fun q => q = (PV.d (.bool r.1), S (r.2.1, rm4, r.2.2.1, r.2.2.2.1, r.2.2.2.2)))) := by
  intro fu
  induction fu with
  | zero => exact (@fun _ _ _ _ _ _ _ _ _ _ _ _ _ _ _ _ _ _ _ _ _ _ _ _ _ _ _ _ _ _ _ _ _ _ _ _ _ _ _ _ _ _ h => by cases h)
  | succ fu ih =>
    have i22x1 := @ih
    exact (@fun a0 b2 c2 b4 c4 b6 c6 b7 c7 rn4 S lz0 lz1 ly1 iz0 iz1 iz2 iz3 iz4 iz5 iz6 iz7 hl1 e2 e4 e6 e7 hrn4 hg0 hg1 hg2 hu2 hg3 hu3 hg4 hu4 hg5 hg6 hu6 hg7 hu7 r h args ha st hs rm4 hrm4 => okb22x1 (fu := fu) hΩ hE i22x1 hl1 e2 e4 e6 e7 hrn4 hg0 hg1 hg2 hu2 hg3 hu3 hg4 hu4 hg5 hg6 hu6 hg7 hu7 h ha hs hrm4)
theorem ok22x1 {Ω : Om} {E : Enc} (hΩ : real (call S) = Ω) (hE : theEnc = E) {fu : Nat} : ∀ {a0 : Sl Value} {b2 c2 : Option X.Ex} {b4 c4 : List Child} {b6 c6 : List (ByteArray × Bool)} {b7 c7 : Int} {rn4 : Int} {S : ((Option X.Ex) × Int × (List Child) × (List (ByteArray × Bool)) × Int) → St} {lz0 lz1 ly1 iz0 iz1 iz2 iz3 iz4 iz5 iz6 iz7 : Nat} (hl1 : ly1 + lz0 = lz1) (e2 : b2 = c2) (e4 : b4 = c4) (e6 : b6 = c6) (e7 : b7 = c7) (hrn4 : ln b4 = rn4) (hg0 : ∀ s, X.look (S s) lz0 iz0 = some (X.Obj.box 35 [PV.fn 22 [.ptr 0 iz0 0, .ptr 0 iz1 0, .ptr 0 iz7 0]])) (hg1 : ∀ s, X.look (S s) lz0 iz1 = some (X.Obj.box 51 [PV.yld ly1 iz2])) (hg2 : ∀ s, X.look (S s) lz1 iz2 = some (X.Obj.loop 70 [(2, PV.ptr 0 iz3 0), (3, PV.ptr 0 iz5 0)] s.1)) (hu2 : ∀ s x, X.setO (S s) lz1 iz2 (X.Obj.loop 70 [(2, PV.ptr 0 iz3 0), (3, PV.ptr 0 iz5 0)] x) = S (x, s.2.1, s.2.2.1, s.2.2.2.1, s.2.2.2.2)) (hg3 : ∀ s, X.look (S s) lz1 iz3 = some (X.Obj.box 26 [PV.row 0 iz4 s.2.1])) (hu3 : ∀ s x, X.setO (S s) lz1 iz3 (X.Obj.box 26 [PV.row 0 iz4 x]) = S (s.1, x, s.2.2.1, s.2.2.2.1, s.2.2.2.2)) (hg4 : ∀ s, X.look (S s) lz1 iz4 = some (X.Obj.row 34 11 (E.L_Child s.2.2.1) true none)) (hu4 : ∀ s x, X.setO (S s) lz1 iz4 (X.Obj.row 34 11 (E.L_Child x) true none) = S (s.1, s.2.1, x, s.2.2.2.1, s.2.2.2.2)) (hg5 : ∀ s, X.look (S s) lz1 iz5 = some (X.Obj.box 43 [PV.map 0 iz6])) (hg6 : ∀ s, X.look (S s) lz1 iz6 = some (X.Obj.map .str true (E.M_str_bool s.2.2.2.1))) (hu6 : ∀ s x, X.setO (S s) lz1 iz6 (X.Obj.map .str true (E.M_str_bool x)) = S (s.1, s.2.1, s.2.2.1, x, s.2.2.2.2)) (hg7 : ∀ s, X.look (S s) lz0 iz7 = some (X.Obj.box 3 (bx_3 E s.2.2.2.2))) (hu7 : ∀ s x, X.setO (S s) lz0 iz7 (X.Obj.box 3 (bx_3 E x)) = S (s.1, s.2.1, s.2.2.1, s.2.2.2.1, x)) {r : Bool × (Option X.Ex) × (List Child) × (List (ByteArray × Bool)) × Int}, P22x1 fu a0 b2 b4 b6 b7 = some r → ∀ {args : List PV}, [PV.d (.sl (E.L_Value a0.l) (E.X_Value a0.x)), PV.ptr lz0 iz0 0, PV.ptr lz0 iz1 0, PV.ptr lz0 iz7 0] = args → ∀ {st : St}, S (c2, rn4, c4, c6, c7) = st → ∀ {rm4 : Int}, ln r.2.2.1 = rm4 → Sat (Ω.cf 22 args st) (fun q => q = (PV.d (.bool r.1), S (r.2.1, rm4, r.2.2.1, r.2.2.2.1, r.2.2.2.2))) := (okr22x1 hΩ hE fu)
set_option maxHeartbeats 4000000 in
theorem ok21x1 {Ω : Om} {E : Enc} (hΩ : real (call S) = Ω) (hE : theEnc = E) {fu : Nat} {a1 : Sl Value} {b0 c0 : Option X.Ex} {b2 c2 : List Child} {b4 c4 : List (ByteArray × Bool)} {rn2 : Int} {S : ((Option X.Ex) × Int × (List Child) × (List (ByteArray × Bool))) → St} {lz0 iz0 iz1 iz2 iz3 iz4 : Nat} (e0 : b0 = c0) (e2 : b2 = c2) (e4 : b4 = c4) (hrn2 : ln b2 = rn2) (hg0 : ∀ s, X.look (S s) lz0 iz0 = some (X.Obj.loop 70 [(2, PV.ptr 0 iz1 0), (3, PV.ptr 0 iz3 0)] s.1)) (hu0 : ∀ s x, X.setO (S s) lz0 iz0 (X.Obj.loop 70 [(2, PV.ptr 0 iz1 0), (3, PV.ptr 0 iz3 0)] x) = S (x, s.2.1, s.2.2.1, s.2.2.2)) (hg1 : ∀ s, X.look (S s) lz0 iz1 = some (X.Obj.box 26 [PV.row 0 iz2 s.2.1])) (hu1 : ∀ s x, X.setO (S s) lz0 iz1 (X.Obj.box 26 [PV.row 0 iz2 x]) = S (s.1, x, s.2.2.1, s.2.2.2)) (hg2 : ∀ s, X.look (S s) lz0 iz2 = some (X.Obj.row 34 11 (E.L_Child s.2.2.1) true none)) (hu2 : ∀ s x, X.setO (S s) lz0 iz2 (X.Obj.row 34 11 (E.L_Child x) true none) = S (s.1, s.2.1, x, s.2.2.2)) (hg3 : ∀ s, X.look (S s) lz0 iz3 = some (X.Obj.box 43 [PV.map 0 iz4])) (hg4 : ∀ s, X.look (S s) lz0 iz4 = some (X.Obj.map .str true (E.M_str_bool s.2.2.2))) (hu4 : ∀ s x, X.setO (S s) lz0 iz4 (X.Obj.map .str true (E.M_str_bool x)) = S (s.1, s.2.1, s.2.2.1, x)) {r : (Option X.Ex) × (List Child) × (List (ByteArray × Bool))} (h : P21x1 fu a1 b0 b2 b4 = some r) {args : List PV} (ha : [PV.yld lz0 iz0, PV.eptr [.sl (E.L_Value a1.l) (E.X_Value a1.x)]] = args) {st : St} (hst : S (c0, rn2, c2, c4) = st) {rm2 : Int} (hrm2 : ln r.2.1 = rm2) :
    Sat (Ω.cf 21 args st) (fun q => q = (PV.tup [], S (r.1, rm2, r.2.1, r.2.2))) := by
  subst ha
  subst hst
  subst e0
  subst e2
  subst e4
  rcases a1 with ⟨a1_l, a1_x⟩
  rw [cf_body hΩ (f := 21) (fn := Tryd.f21) (x := c21) rfl rfl c21_ok rfl rfl rfl]
  unfold P21x1 at h
  try dsimp only at h
  conv => arg 1; cbv
  replace h := Option.bind_eq_some_iff.1 h
  obtain ⟨⟨r2, wr3, wr4, wr7, wr8⟩, hx1, h⟩ := h
  try dsimp only at h
  obtain ⟨n5, hn6⟩ : ∃ n, ln wr4 = n := ⟨_, rfl⟩
  refine sat_call (ok22x1 hΩ hE (S := (fun (s : (Option X.Ex) × Int × (List Child) × (List (ByteArray × Bool)) × Int) => ([X.Obj.box 51 [.yld (lz0+1) iz0], X.Obj.box 3 (bx_3 E s.2.2.2.2), X.Obj.box 35 [.fn 22 [.ptr 0 2 0, .ptr 0 0 0, .ptr 0 1 0]]] : List X.Obj) :: S (s.1, s.2.1, s.2.2.1, s.2.2.2.1))) (lz0 := 0) (lz1 := (lz0+1)) (ly1 := (lz0+1)) (iz0 := 2) (iz1 := 0) (iz2 := iz0) (iz3 := iz1) (iz4 := iz2) (iz5 := iz3) (iz6 := iz4) (iz7 := 1) (c2 := b0) (c4 := b2) (c6 := b4) (c7 := 0) (rn4 := rn2) (by first | rfl | omega) (by (try clear h); subst_vars; rfl) (by (try clear h); subst_vars; rfl) (by (try clear h); subst_vars; rfl) (by (try clear h); subst_vars; rfl) (by  first | rfl | ((try clear h); subst_vars; rfl) | ((try clear h); subst_vars; simp only [ln_set]) | assumption | ((try clear h); subst_vars; assumption)) (fun s => rfl) (fun s => rfl) (fun s => hg0 (s.1, s.2.1, s.2.2.1, s.2.2.2.1)) (fun s x => congrArg (List.cons _) (hu0 (s.1, s.2.1, s.2.2.1, s.2.2.2.1) x)) (fun s => hg1 (s.1, s.2.1, s.2.2.1, s.2.2.2.1)) (fun s x => congrArg (List.cons _) (hu1 (s.1, s.2.1, s.2.2.1, s.2.2.2.1) x)) (fun s => hg2 (s.1, s.2.1, s.2.2.1, s.2.2.2.1)) (fun s x => congrArg (List.cons _) (hu2 (s.1, s.2.1, s.2.2.1, s.2.2.2.1) x)) (fun s => hg3 (s.1, s.2.1, s.2.2.1, s.2.2.2.1)) (fun s => hg4 (s.1, s.2.1, s.2.2.1, s.2.2.2.1)) (fun s x => congrArg (List.cons _) (hu4 (s.1, s.2.1, s.2.2.1, s.2.2.2.1) x)) (fun s => rfl) (fun s x => rfl) hx1 (by (try clear h); subst_vars; rfl) (by (try clear h); subst_vars; rfl) hn6) ?_
  conv => arg 1; cbv
  obtain rfl := Option.some.inj h
  subst_vars
  exact sat_pure rfl
end Go.Proofs.YtjoinlfkebgfkaaDoor
