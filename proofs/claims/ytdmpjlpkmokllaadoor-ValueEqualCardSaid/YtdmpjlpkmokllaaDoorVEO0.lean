/- The interpreter computes just these functions: printed by a small program. -/
import Derived.Test.YtdmpjlpkmokllaaDoorVED
namespace Go.Proofs.YtdmpjlpkmokllaaDoor
open Go Go.X
set_option linter.unusedVariables false
set_option linter.unusedSimpArgs false
set_option maxRecDepth 100000
theorem ok12 {Ω : Om} {E : Enc} (hΩ : real (call S) = Ω) (hE : theEnc = E) {fu : Nat} {r : Bool} (h : P12 fu = some r) {args : List PV} (ha : [] = args) (st : St) :
    Sat (Ω.cf 12 args st) (fun q => q = (PV.d (.bool r), st)) := by
  subst ha
  subst hΩ
  obtain rfl := Option.some.inj h
  exact ⟨_, closed_call (S := S) (f := 12) rfl st, rfl⟩
set_option maxHeartbeats 4000000 in
theorem okb14 {Ω : Om} {E : Enc} (hΩ : real (call S) = Ω) (hE : theEnc = E) {fu : Nat} {p14 : Value → Option (Int)} (hp14 : ∀ {a0 : Value} {r : Int}, p14 a0 = some r → ∀ {args : List PV}, [pv_Value E a0] = args → ∀ (st : St), Sat (Ω.cf 14 args st) (fun q => q = (PV.d (.int .i64 r), st))) {p27 : (Sl Value) → Option (Int)} (hp27 : ∀ {a0 : Sl Value} {r : Int}, p27 a0 = some r → ∀ {args : List PV}, [PV.d (.sl (E.L_Value a0.l) (E.X_Value a0.x))] = args → ∀ (st : St), Sat (Ω.cf 27 args st) (fun q => q = (PV.d (.int .i64 r), st))) {p32 : (Sl Field) → Option (Int)} (hp32 : ∀ {a0 : Sl Field} {r : Int}, p32 a0 = some r → ∀ {args : List PV}, [PV.d (.sl (E.L_Field a0.l) (E.X_Field a0.x))] = args → ∀ (st : St), Sat (Ω.cf 32 args st) (fun q => q = (PV.d (.int .i64 r), st))) {p49 : Field → Option (Int)} (hp49 : ∀ {a0 : Field} {r : Int}, p49 a0 = some r → ∀ {args : List PV}, [pv_Field E a0] = args → ∀ (st : St), Sat (Ω.cf 49 args st) (fun q => q = (PV.d (.int .i64 r), st))) {a0 : Value} {r : Int} (h : Pb14 fu p14 p27 p32 p49 a0 = some r) {args : List PV} (ha : [pv_Value E a0] = args) (st : St) :
    Sat (Ω.cf 14 args st) (fun q => q = (PV.d (.int .i64 r), st)) := by
  subst ha
  rcases a0 with ⟨a0_a, a0_b, a0_c, ⟨a0_dl, a0_dx⟩, ⟨a0_el, a0_ex⟩, a0_f, a0_g, a0_h⟩
  rw [cf_body hΩ (f := 14) (fn := Tryd.f14) (x := c14) rfl rfl c14_ok rfl rfl rfl]
  unfold Pb14 at h
  try dsimp only at h
  conv => arg 1; cbv
  replace h := Option.bind_eq_some_iff.1 h
  obtain ⟨q, hq10, h⟩ := h
  refine sat_grp hΩ ((fun (q : Int) => (match q with | i4 => (.normal, [(0, PV.agg [.d (.int .u8 a0_a), .d (.int .i64 a0_b), .d (.str a0_c), .d (.sl (E.L_Value a0_dl) (E.X_Value a0_dx)), .d (.sl (E.L_Field a0_el) (E.X_Field a0_ex)), .d (.int .u8 a0_f), .d (.str a0_g), .d (.bool a0_h)]), (1, PV.eptr [.int .u8 a0_a, .int .i64 a0_b, .str a0_c, .sl (E.L_Value a0_dl) (E.X_Value a0_dx), .sl (E.L_Field a0_el) (E.X_Field a0_ex), .int .u8 a0_f, .str a0_g, .bool a0_h]), (2, PV.d (.int .i64 0)), (3, PV.d (.int .i64 i4))], ([] : List X.Obj) :: st))) q) (fun k hk => ?_) ?_
  · clear h
    have h := hq10
    clear hq10
    conv => arg 1; cbv
    replace h := bif_cases h
    rcases h with ⟨hb1, h⟩ | ⟨hb1, h⟩
    · refine sat_brt (by first | exact hb1 | ((try clear h); subst_vars; first | exact hb1 | rfl)) ?_
      conv => arg 1; cbv
      replace h := Option.bind_eq_some_iff.1 h
      obtain ⟨r2, hx3, h⟩ := h
      refine sat_call (hp27 hx3 (by (try clear h); subst_vars; rfl) _) ?_
      conv => arg 1; cbv
      obtain rfl := Option.some.inj h
      subst_vars
      first | exact hk | (simp only [ln_set] at hk ⊢; exact hk)
    · refine sat_brf (by first | exact hb1 | ((try clear h); subst_vars; first | exact hb1 | rfl)) ?_
      conv => arg 1; cbv
      obtain rfl := Option.some.inj h
      subst_vars
      first | exact hk | (simp only [ln_set] at hk ⊢; exact hk)
  · clear hq10
    obtain ⟨i4, hqq⟩ : ∃ x, x = q := ⟨_, rfl⟩
    subst hqq
    try dsimp only at h
    conv => arg 1; cbv
    replace h := Option.bind_eq_some_iff.1 h
    obtain ⟨q, hq9, h⟩ := h
    refine sat_grp hΩ ((fun (q : Int) => (match q with | i8 => (.normal, [(0, PV.agg [.d (.int .u8 a0_a), .d (.int .i64 a0_b), .d (.str a0_c), .d (.sl (E.L_Value a0_dl) (E.X_Value a0_dx)), .d (.sl (E.L_Field a0_el) (E.X_Field a0_ex)), .d (.int .u8 a0_f), .d (.str a0_g), .d (.bool a0_h)]), (1, PV.eptr [.int .u8 a0_a, .int .i64 a0_b, .str a0_c, .sl (E.L_Value a0_dl) (E.X_Value a0_dx), .sl (E.L_Field a0_el) (E.X_Field a0_ex), .int .u8 a0_f, .str a0_g, .bool a0_h]), (2, PV.d (.int .i64 0)), (3, PV.d (.int .i64 i8))], ([] : List X.Obj) :: st))) q) (fun k hk => ?_) ?_
    · clear h
      have h := hq9
      clear hq9
      conv => arg 1; cbv
      replace h := bif_cases h
      rcases h with ⟨hb5, h⟩ | ⟨hb5, h⟩
      · refine sat_brt (by first | exact hb5 | ((try clear h); subst_vars; first | exact hb5 | rfl)) ?_
        conv => arg 1; cbv
        replace h := Option.bind_eq_some_iff.1 h
        obtain ⟨r6, hx7, h⟩ := h
        refine sat_call (hp32 hx7 (by (try clear h); subst_vars; rfl) _) ?_
        conv => arg 1; cbv
        obtain rfl := Option.some.inj h
        subst_vars
        first | exact hk | (simp only [ln_set] at hk ⊢; exact hk)
      · refine sat_brf (by first | exact hb5 | ((try clear h); subst_vars; first | exact hb5 | rfl)) ?_
        conv => arg 1; cbv
        obtain rfl := Option.some.inj h
        subst_vars
        first | exact hk | (simp only [ln_set] at hk ⊢; exact hk)
    · clear hq9
      obtain ⟨i8, hqq⟩ : ∃ x, x = q := ⟨_, rfl⟩
      subst hqq
      try dsimp only at h
      conv => arg 1; cbv
      obtain rfl := Option.some.inj h
      subst_vars
      exact sat_pure rfl
set_option maxHeartbeats 4000000 in
theorem okb27 {Ω : Om} {E : Enc} (hΩ : real (call S) = Ω) (hE : theEnc = E) {fu : Nat} {p14 : Value → Option (Int)} (hp14 : ∀ {a0 : Value} {r : Int}, p14 a0 = some r → ∀ {args : List PV}, [pv_Value E a0] = args → ∀ (st : St), Sat (Ω.cf 14 args st) (fun q => q = (PV.d (.int .i64 r), st))) {p27 : (Sl Value) → Option (Int)} (hp27 : ∀ {a0 : Sl Value} {r : Int}, p27 a0 = some r → ∀ {args : List PV}, [PV.d (.sl (E.L_Value a0.l) (E.X_Value a0.x))] = args → ∀ (st : St), Sat (Ω.cf 27 args st) (fun q => q = (PV.d (.int .i64 r), st))) {p32 : (Sl Field) → Option (Int)} (hp32 : ∀ {a0 : Sl Field} {r : Int}, p32 a0 = some r → ∀ {args : List PV}, [PV.d (.sl (E.L_Field a0.l) (E.X_Field a0.x))] = args → ∀ (st : St), Sat (Ω.cf 32 args st) (fun q => q = (PV.d (.int .i64 r), st))) {p49 : Field → Option (Int)} (hp49 : ∀ {a0 : Field} {r : Int}, p49 a0 = some r → ∀ {args : List PV}, [pv_Field E a0] = args → ∀ (st : St), Sat (Ω.cf 49 args st) (fun q => q = (PV.d (.int .i64 r), st))) {a0 : Sl Value} {r : Int} (h : Pb27 fu p14 p27 p32 p49 a0 = some r) {args : List PV} (ha : [PV.d (.sl (E.L_Value a0.l) (E.X_Value a0.x))] = args) (st : St) :
    Sat (Ω.cf 27 args st) (fun q => q = (PV.d (.int .i64 r), st)) := by
  subst ha
  rcases a0 with ⟨a0_l, a0_x⟩
  rw [cf_body hΩ (f := 27) (fn := Tryd.f27) (x := c27) rfl rfl c27_ok rfl rfl rfl]
  unfold Pb27 at h
  try dsimp only at h
  conv => arg 1; cbv
  refine sat_len hΩ (ro_Value hE) a0_l fun n1 hn2 => ?_
  conv => arg 1; cbv
  replace h := Option.bind_eq_some_iff.1 h
  obtain ⟨q, hl15, h⟩ := h
  refine sat_loop hΩ (fun (a : Int × Int) => (match a with | (i3, i4) => ([(0, PV.d (.sl (E.L_Value a0_l) (E.X_Value a0_x))), (2, PV.d (.int .i64 0)), (3, PV.d (.int .i64 i3)), (4, PV.d (.int .i64 i4))], ([] : List X.Obj) :: st))) (fun (q : (Int × Int)) => (match q with | (o16, o17) => (.exit 0, [(0, PV.d (.sl (E.L_Value a0_l) (E.X_Value a0_x))), (2, PV.d (.int .i64 0)), (3, PV.d (.int .i64 o16)), (4, PV.d (.int .i64 o17))], ([] : List X.Obj) :: st))) (ln a0_l, 0) hl15 ?_ ?_
  · clear h hl15
    rintro ⟨i3, i4⟩ q h
    unfold P27_s0 at h
    dsimp only at h
    conv => arg 1; cbv
    replace h := Option.bind_eq_some_iff.1 h
    obtain ⟨q, hq14, h⟩ := h
    refine sat_grp hΩ ((fun (q : Bool) => (match q with | i8 => ([(0, PV.d (.sl (E.L_Value a0_l) (E.X_Value a0_x))), (2, PV.d (.int .i64 0)), (3, PV.d (.int .i64 i3)), (4, PV.d (.int .i64 i4)), (14, PV.d (.bool i8))], ([] : List X.Obj) :: st))) q) (fun k hk => ?_) ?_
    · clear h
      have h := hq14
      clear hq14
      conv => arg 1; cbv
      refine sat_len hΩ (ro_Value hE) a0_l fun n5 hn6 => ?_
      conv => arg 1; cbv
      replace h := bif_cases h
      rcases h with ⟨hb7, h⟩ | ⟨hb7, h⟩
      · refine sat_brt (by first | exact hb7 | ((try clear h); subst_vars; first | exact hb7 | rfl)) ?_
        conv => arg 1; cbv
        obtain rfl := Option.some.inj h
        subst_vars
        first | exact hk | (simp only [ln_set] at hk ⊢; exact hk)
      · refine sat_brf (by first | exact hb7 | ((try clear h); subst_vars; first | exact hb7 | rfl)) ?_
        conv => arg 1; cbv
        obtain rfl := Option.some.inj h
        subst_vars
        first | exact hk | (simp only [ln_set] at hk ⊢; exact hk)
    · clear hq14
      obtain ⟨i8, hqq⟩ : ∃ x, x = q := ⟨_, rfl⟩
      subst hqq
      try dsimp only at h
      conv => arg 1; cbv
      refine sat_in hΩ ?_
      conv => arg 1; cbv
      replace h := bif_cases h
      rcases h with ⟨hb9, h⟩ | ⟨hb9, h⟩
      · refine sat_brt (by first | exact hb9 | ((try clear h); subst_vars; first | exact hb9 | rfl)) ?_
        conv => arg 1; cbv
        refine sat_true (fits_l hΩ (ro_Value hE) a0_l) ?_
        conv => arg 1; cbv
        replace h := Option.bind_eq_some_iff.1 h
        obtain ⟨⟨x10_a, x10_b, x10_c, ⟨x10_dl, x10_dx⟩, ⟨x10_el, x10_ex⟩, x10_f, x10_g, x10_h⟩, hx11, h⟩ := h
        try dsimp only at h
        refine sat_bind (nth_ok hΩ (ro_Value hE) hx11) ?_
        conv => arg 1; cbv
        replace h := Option.bind_eq_some_iff.1 h
        obtain ⟨r12, hx13, h⟩ := h
        refine sat_call (hp14 hx13 (by (try clear h); subst_vars; rfl) _) ?_
        conv => arg 1; cbv
        obtain rfl := Option.some.inj h
        subst_vars
        first | exact sat_pure ⟨rfl, rfl, rfl⟩ | (refine sat_pure ⟨rfl, ?_, ?_⟩ <;> first | rfl | (dsimp only; simp only [ln_set]; rfl))
      · refine sat_brf (by first | exact hb9 | ((try clear h); subst_vars; first | exact hb9 | rfl)) ?_
        conv => arg 1; cbv
        obtain rfl := Option.some.inj h
        subst_vars
        first | exact sat_pure (.inl ⟨⟨_, rfl⟩, rfl⟩) | (refine sat_pure (.inl ⟨⟨_, rfl⟩, ?_⟩); dsimp only; simp only [ln_set]; rfl)
  · clear hl15
    rcases q with ⟨o16, o17⟩
    dsimp only at h
    conv => arg 1; cbv
    obtain rfl := Option.some.inj h
    subst_vars
    exact sat_pure rfl
set_option maxHeartbeats 4000000 in
theorem okb32 {Ω : Om} {E : Enc} (hΩ : real (call S) = Ω) (hE : theEnc = E) {fu : Nat} {p14 : Value → Option (Int)} (hp14 : ∀ {a0 : Value} {r : Int}, p14 a0 = some r → ∀ {args : List PV}, [pv_Value E a0] = args → ∀ (st : St), Sat (Ω.cf 14 args st) (fun q => q = (PV.d (.int .i64 r), st))) {p27 : (Sl Value) → Option (Int)} (hp27 : ∀ {a0 : Sl Value} {r : Int}, p27 a0 = some r → ∀ {args : List PV}, [PV.d (.sl (E.L_Value a0.l) (E.X_Value a0.x))] = args → ∀ (st : St), Sat (Ω.cf 27 args st) (fun q => q = (PV.d (.int .i64 r), st))) {p32 : (Sl Field) → Option (Int)} (hp32 : ∀ {a0 : Sl Field} {r : Int}, p32 a0 = some r → ∀ {args : List PV}, [PV.d (.sl (E.L_Field a0.l) (E.X_Field a0.x))] = args → ∀ (st : St), Sat (Ω.cf 32 args st) (fun q => q = (PV.d (.int .i64 r), st))) {p49 : Field → Option (Int)} (hp49 : ∀ {a0 : Field} {r : Int}, p49 a0 = some r → ∀ {args : List PV}, [pv_Field E a0] = args → ∀ (st : St), Sat (Ω.cf 49 args st) (fun q => q = (PV.d (.int .i64 r), st))) {a0 : Sl Field} {r : Int} (h : Pb32 fu p14 p27 p32 p49 a0 = some r) {args : List PV} (ha : [PV.d (.sl (E.L_Field a0.l) (E.X_Field a0.x))] = args) (st : St) :
    Sat (Ω.cf 32 args st) (fun q => q = (PV.d (.int .i64 r), st)) := by
  subst ha
  rcases a0 with ⟨a0_l, a0_x⟩
  rw [cf_body hΩ (f := 32) (fn := Tryd.f32) (x := c32) rfl rfl c32_ok rfl rfl rfl]
  unfold Pb32 at h
  try dsimp only at h
  conv => arg 1; cbv
  refine sat_len hΩ (ro_Field hE) a0_l fun n1 hn2 => ?_
  conv => arg 1; cbv
  replace h := Option.bind_eq_some_iff.1 h
  obtain ⟨q, hl15, h⟩ := h
  refine sat_loop hΩ (fun (a : Int × Int) => (match a with | (i3, i4) => ([(0, PV.d (.sl (E.L_Field a0_l) (E.X_Field a0_x))), (2, PV.d (.int .i64 0)), (3, PV.d (.int .i64 i3)), (4, PV.d (.int .i64 i4))], ([] : List X.Obj) :: st))) (fun (q : (Int × Int)) => (match q with | (o16, o17) => (.exit 0, [(0, PV.d (.sl (E.L_Field a0_l) (E.X_Field a0_x))), (2, PV.d (.int .i64 0)), (3, PV.d (.int .i64 o16)), (4, PV.d (.int .i64 o17))], ([] : List X.Obj) :: st))) (ln a0_l, 0) hl15 ?_ ?_
  · clear h hl15
    rintro ⟨i3, i4⟩ q h
    unfold P32_s0 at h
    dsimp only at h
    conv => arg 1; cbv
    replace h := Option.bind_eq_some_iff.1 h
    obtain ⟨q, hq14, h⟩ := h
    refine sat_grp hΩ ((fun (q : Bool) => (match q with | i8 => ([(0, PV.d (.sl (E.L_Field a0_l) (E.X_Field a0_x))), (2, PV.d (.int .i64 0)), (3, PV.d (.int .i64 i3)), (4, PV.d (.int .i64 i4)), (14, PV.d (.bool i8))], ([] : List X.Obj) :: st))) q) (fun k hk => ?_) ?_
    · clear h
      have h := hq14
      clear hq14
      conv => arg 1; cbv
      refine sat_len hΩ (ro_Field hE) a0_l fun n5 hn6 => ?_
      conv => arg 1; cbv
      replace h := bif_cases h
      rcases h with ⟨hb7, h⟩ | ⟨hb7, h⟩
      · refine sat_brt (by first | exact hb7 | ((try clear h); subst_vars; first | exact hb7 | rfl)) ?_
        conv => arg 1; cbv
        obtain rfl := Option.some.inj h
        subst_vars
        first | exact hk | (simp only [ln_set] at hk ⊢; exact hk)
      · refine sat_brf (by first | exact hb7 | ((try clear h); subst_vars; first | exact hb7 | rfl)) ?_
        conv => arg 1; cbv
        obtain rfl := Option.some.inj h
        subst_vars
        first | exact hk | (simp only [ln_set] at hk ⊢; exact hk)
    · clear hq14
      obtain ⟨i8, hqq⟩ : ∃ x, x = q := ⟨_, rfl⟩
      subst hqq
      try dsimp only at h
      conv => arg 1; cbv
      refine sat_in hΩ ?_
      conv => arg 1; cbv
      replace h := bif_cases h
      rcases h with ⟨hb9, h⟩ | ⟨hb9, h⟩
      · refine sat_brt (by first | exact hb9 | ((try clear h); subst_vars; first | exact hb9 | rfl)) ?_
        conv => arg 1; cbv
        refine sat_true (fits_l hΩ (ro_Field hE) a0_l) ?_
        conv => arg 1; cbv
        replace h := Option.bind_eq_some_iff.1 h
        obtain ⟨⟨x10_a, ⟨x10_ba, x10_bb, x10_bc, ⟨x10_bdl, x10_bdx⟩, ⟨x10_bel, x10_bex⟩, x10_bf, x10_bg, x10_bh⟩⟩, hx11, h⟩ := h
        try dsimp only at h
        refine sat_bind (nth_ok hΩ (ro_Field hE) hx11) ?_
        conv => arg 1; cbv
        replace h := Option.bind_eq_some_iff.1 h
        obtain ⟨r12, hx13, h⟩ := h
        refine sat_call (hp49 hx13 (by (try clear h); subst_vars; rfl) _) ?_
        conv => arg 1; cbv
        obtain rfl := Option.some.inj h
        subst_vars
        first | exact sat_pure ⟨rfl, rfl, rfl⟩ | (refine sat_pure ⟨rfl, ?_, ?_⟩ <;> first | rfl | (dsimp only; simp only [ln_set]; rfl))
      · refine sat_brf (by first | exact hb9 | ((try clear h); subst_vars; first | exact hb9 | rfl)) ?_
        conv => arg 1; cbv
        obtain rfl := Option.some.inj h
        subst_vars
        first | exact sat_pure (.inl ⟨⟨_, rfl⟩, rfl⟩) | (refine sat_pure (.inl ⟨⟨_, rfl⟩, ?_⟩); dsimp only; simp only [ln_set]; rfl)
  · clear hl15
    rcases q with ⟨o16, o17⟩
    dsimp only at h
    conv => arg 1; cbv
    obtain rfl := Option.some.inj h
    subst_vars
    exact sat_pure rfl
set_option maxHeartbeats 4000000 in
theorem okb49 {Ω : Om} {E : Enc} (hΩ : real (call S) = Ω) (hE : theEnc = E) {fu : Nat} {p14 : Value → Option (Int)} (hp14 : ∀ {a0 : Value} {r : Int}, p14 a0 = some r → ∀ {args : List PV}, [pv_Value E a0] = args → ∀ (st : St), Sat (Ω.cf 14 args st) (fun q => q = (PV.d (.int .i64 r), st))) {p27 : (Sl Value) → Option (Int)} (hp27 : ∀ {a0 : Sl Value} {r : Int}, p27 a0 = some r → ∀ {args : List PV}, [PV.d (.sl (E.L_Value a0.l) (E.X_Value a0.x))] = args → ∀ (st : St), Sat (Ω.cf 27 args st) (fun q => q = (PV.d (.int .i64 r), st))) {p32 : (Sl Field) → Option (Int)} (hp32 : ∀ {a0 : Sl Field} {r : Int}, p32 a0 = some r → ∀ {args : List PV}, [PV.d (.sl (E.L_Field a0.l) (E.X_Field a0.x))] = args → ∀ (st : St), Sat (Ω.cf 32 args st) (fun q => q = (PV.d (.int .i64 r), st))) {p49 : Field → Option (Int)} (hp49 : ∀ {a0 : Field} {r : Int}, p49 a0 = some r → ∀ {args : List PV}, [pv_Field E a0] = args → ∀ (st : St), Sat (Ω.cf 49 args st) (fun q => q = (PV.d (.int .i64 r), st))) {a0 : Field} {r : Int} (h : Pb49 fu p14 p27 p32 p49 a0 = some r) {args : List PV} (ha : [pv_Field E a0] = args) (st : St) :
    Sat (Ω.cf 49 args st) (fun q => q = (PV.d (.int .i64 r), st)) := by
  subst ha
  rcases a0 with ⟨a0_a, ⟨a0_ba, a0_bb, a0_bc, ⟨a0_bdl, a0_bdx⟩, ⟨a0_bel, a0_bex⟩, a0_bf, a0_bg, a0_bh⟩⟩
  rw [cf_body hΩ (f := 49) (fn := Tryd.f49) (x := c49) rfl rfl c49_ok rfl rfl rfl]
  unfold Pb49 at h
  try dsimp only at h
  conv => arg 1; cbv
  replace h := Option.bind_eq_some_iff.1 h
  obtain ⟨q, hq5, h⟩ := h
  refine sat_grp hΩ ((fun (q : Int) => (match q with | i4 => (.normal, [(0, PV.agg [.d (.str a0_a), .d (.int .u8 a0_ba), .d (.int .i64 a0_bb), .d (.str a0_bc), .d (.sl (E.L_Value a0_bdl) (E.X_Value a0_bdx)), .d (.sl (E.L_Field a0_bel) (E.X_Field a0_bex)), .d (.int .u8 a0_bf), .d (.str a0_bg), .d (.bool a0_bh)]), (1, PV.eptr [.str a0_a, .int .u8 a0_ba, .int .i64 a0_bb, .str a0_bc, .sl (E.L_Value a0_bdl) (E.X_Value a0_bdx), .sl (E.L_Field a0_bel) (E.X_Field a0_bex), .int .u8 a0_bf, .str a0_bg, .bool a0_bh]), (2, PV.d (.int .i64 0)), (3, PV.d (.int .i64 i4))], ([] : List X.Obj) :: st))) q) (fun k hk => ?_) ?_
  · clear h
    have h := hq5
    clear hq5
    conv => arg 1; cbv
    replace h := bif_cases h
    rcases h with ⟨hb1, h⟩ | ⟨hb1, h⟩
    · refine sat_brt (by first | exact hb1 | ((try clear h); subst_vars; first | exact hb1 | rfl)) ?_
      conv => arg 1; cbv
      replace h := Option.bind_eq_some_iff.1 h
      obtain ⟨r2, hx3, h⟩ := h
      refine sat_call (hp14 hx3 (by (try clear h); subst_vars; rfl) _) ?_
      conv => arg 1; cbv
      obtain rfl := Option.some.inj h
      subst_vars
      first | exact hk | (simp only [ln_set] at hk ⊢; exact hk)
    · refine sat_brf (by first | exact hb1 | ((try clear h); subst_vars; first | exact hb1 | rfl)) ?_
      conv => arg 1; cbv
      obtain rfl := Option.some.inj h
      subst_vars
      first | exact hk | (simp only [ln_set] at hk ⊢; exact hk)
  · clear hq5
    obtain ⟨i4, hqq⟩ : ∃ x, x = q := ⟨_, rfl⟩
    subst hqq
    try dsimp only at h
    conv => arg 1; cbv
    obtain rfl := Option.some.inj h
    subst_vars
    exact sat_pure rfl
theorem okr14 {Ω : Om} {E : Enc} (hΩ : real (call S) = Ω) (hE : theEnc = E) : ∀ fu,
    (∀ {a0 : Value} {r : Int}, P14 fu a0 = some r → ∀ {args : List PV}, [pv_Value E a0] = args → ∀ (st : St), Sat (Ω.cf 14 args st) (fun q => q = (PV.d (.int .i64 r), st))) ∧
    (∀ {a0 : Sl Value} {r : Int}, P27 fu a0 = some r → ∀ {args : List PV}, [PV.d (.sl (E.L_Value a0.l) (E.X_Value a0.x))] = args → ∀ (st : St), Sat (Ω.cf 27 args st) (fun q => q = (PV.d (.int .i64 r), st))) ∧
    (∀ {a0 : Sl Field} {r : Int}, P32 fu a0 = some r → ∀ {args : List PV}, [PV.d (.sl (E.L_Field a0.l) (E.X_Field a0.x))] = args → ∀ (st : St), Sat (Ω.cf 32 args st) (fun q => q = (PV.d (.int .i64 r), st))) ∧
    (∀ {a0 : Field} {r : Int}, P49 fu a0 = some r → ∀ {args : List PV}, [pv_Field E a0] = args → ∀ (st : St), Sat (Ω.cf 49 args st) (fun q => q = (PV.d (.int .i64 r), st))) := by
  intro fu
  induction fu with
  | zero => exact ⟨(fun h => (by cases h)), (fun h => (by cases h)), (fun h => (by cases h)), (fun h => (by cases h))⟩
  | succ fu ih =>
    obtain ⟨i14, i27, i32, i49⟩ := ih
    exact ⟨(fun h => @fun args ha st => okb14 (fu := fu) hΩ hE i14 i27 i32 i49 h ha st), (fun h => @fun args ha st => okb27 (fu := fu) hΩ hE i14 i27 i32 i49 h ha st), (fun h => @fun args ha st => okb32 (fu := fu) hΩ hE i14 i27 i32 i49 h ha st), (fun h => @fun args ha st => okb49 (fu := fu) hΩ hE i14 i27 i32 i49 h ha st)⟩
theorem ok14 {Ω : Om} {E : Enc} (hΩ : real (call S) = Ω) (hE : theEnc = E) {fu : Nat} : ∀ {a0 : Value} {r : Int}, P14 fu a0 = some r → ∀ {args : List PV}, [pv_Value E a0] = args → ∀ (st : St), Sat (Ω.cf 14 args st) (fun q => q = (PV.d (.int .i64 r), st)) := (okr14 hΩ hE fu).1
theorem ok27 {Ω : Om} {E : Enc} (hΩ : real (call S) = Ω) (hE : theEnc = E) {fu : Nat} : ∀ {a0 : Sl Value} {r : Int}, P27 fu a0 = some r → ∀ {args : List PV}, [PV.d (.sl (E.L_Value a0.l) (E.X_Value a0.x))] = args → ∀ (st : St), Sat (Ω.cf 27 args st) (fun q => q = (PV.d (.int .i64 r), st)) := (okr14 hΩ hE fu).2.1
theorem ok32 {Ω : Om} {E : Enc} (hΩ : real (call S) = Ω) (hE : theEnc = E) {fu : Nat} : ∀ {a0 : Sl Field} {r : Int}, P32 fu a0 = some r → ∀ {args : List PV}, [PV.d (.sl (E.L_Field a0.l) (E.X_Field a0.x))] = args → ∀ (st : St), Sat (Ω.cf 32 args st) (fun q => q = (PV.d (.int .i64 r), st)) := (okr14 hΩ hE fu).2.2.1
theorem ok49 {Ω : Om} {E : Enc} (hΩ : real (call S) = Ω) (hE : theEnc = E) {fu : Nat} : ∀ {a0 : Field} {r : Int}, P49 fu a0 = some r → ∀ {args : List PV}, [pv_Field E a0] = args → ∀ (st : St), Sat (Ω.cf 49 args st) (fun q => q = (PV.d (.int .i64 r), st)) := (okr14 hΩ hE fu).2.2.2
set_option maxHeartbeats 4000000 in
theorem ok13 {Ω : Om} {E : Enc} (hΩ : real (call S) = Ω) (hE : theEnc = E) {fu : Nat} {a0 : Sl Int} {r : Bool} (h : P13 fu a0 = some r) {args : List PV} (ha : [PV.d (.sl (E.L_i_i64 a0.l) (E.X_i_i64 a0.x))] = args) (st : St) :
    Sat (Ω.cf 13 args st) (fun q => q = (PV.d (.bool r), st)) := by
  subst ha
  rcases a0 with ⟨a0_l, a0_x⟩
  rw [cf_body hΩ (f := 13) (fn := Tryd.f13) (x := c13) rfl rfl c13_ok rfl rfl rfl]
  unfold P13 at h
  try dsimp only at h
  conv => arg 1; cbv
  replace h := Option.bind_eq_some_iff.1 h
  obtain ⟨q, hl10, h⟩ := h
  refine sat_loop hΩ (fun (a : Bool × Int × Int) => (match a with | (i1, i2, i3) => ([(0, PV.d (.sl (E.L_i_i64 a0_l) (E.X_i_i64 a0_x))), (2, PV.d (.bool i1)), (3, PV.d (.int .i64 i2)), (4, PV.d (.int .i64 i3))], ([] : List X.Obj) :: st))) (fun (q : (Bool × Int × Int) ⊕ (Bool × Int × Int)) => (match q with | .inl (o11, o12, o13) => (.exit 0, [(0, PV.d (.sl (E.L_i_i64 a0_l) (E.X_i_i64 a0_x))), (2, PV.d (.bool o11)), (3, PV.d (.int .i64 o12)), (4, PV.d (.int .i64 o13))], ([] : List X.Obj) :: st) | .inr (o14, o15, o16) => (.ret, [(0, PV.d (.sl (E.L_i_i64 a0_l) (E.X_i_i64 a0_x))), (2, PV.d (.bool o14)), (3, PV.d (.int .i64 o15)), (4, PV.d (.int .i64 o16))], ([] : List X.Obj) :: st))) (false, 0, 0) hl10 ?_ ?_
  · clear h hl10
    rintro ⟨i1, i2, i3⟩ q h
    unfold P13_s0 at h
    dsimp only at h
    conv => arg 1; cbv
    refine sat_len hΩ (ro_i_i64 hE) a0_l fun n4 hn5 => ?_
    conv => arg 1; cbv
    refine sat_in hΩ ?_
    conv => arg 1; cbv
    replace h := bif_cases h
    rcases h with ⟨hb6, h⟩ | ⟨hb6, h⟩
    · refine sat_brt (by first | exact hb6 | ((try clear h); subst_vars; first | exact hb6 | rfl)) ?_
      conv => arg 1; cbv
      refine sat_true (fits_l hΩ (ro_i_i64 hE) a0_l) ?_
      conv => arg 1; cbv
      replace h := Option.bind_eq_some_iff.1 h
      obtain ⟨x7, hx8, h⟩ := h
      refine sat_bind (nth_ok hΩ (ro_i_i64 hE) hx8) ?_
      conv => arg 1; cbv
      refine sat_in hΩ ?_
      conv => arg 1; cbv
      replace h := bif_cases h
      rcases h with ⟨hb9, h⟩ | ⟨hb9, h⟩
      · refine sat_brt (by first | exact hb9 | ((try clear h); subst_vars; first | exact hb9 | rfl)) ?_
        conv => arg 1; cbv
        obtain rfl := Option.some.inj h
        subst_vars
        first | exact sat_pure (.inr ⟨rfl, rfl⟩) | (refine sat_pure (.inr ⟨rfl, ?_⟩); dsimp only; simp only [ln_set]; rfl)
      · refine sat_brf (by first | exact hb9 | ((try clear h); subst_vars; first | exact hb9 | rfl)) ?_
        conv => arg 1; cbv
        obtain rfl := Option.some.inj h
        subst_vars
        first | exact sat_pure ⟨rfl, rfl, rfl⟩ | (refine sat_pure ⟨rfl, ?_, ?_⟩ <;> first | rfl | (dsimp only; simp only [ln_set]; rfl))
    · refine sat_brf (by first | exact hb6 | ((try clear h); subst_vars; first | exact hb6 | rfl)) ?_
      conv => arg 1; cbv
      obtain rfl := Option.some.inj h
      subst_vars
      first | exact sat_pure (.inl ⟨⟨_, rfl⟩, rfl⟩) | (refine sat_pure (.inl ⟨⟨_, rfl⟩, ?_⟩); dsimp only; simp only [ln_set]; rfl)
  · clear hl10
    rcases q with ⟨o11, o12, o13⟩ | ⟨o14, o15, o16⟩
    · dsimp only at h
      conv => arg 1; cbv
      obtain rfl := Option.some.inj h
      subst_vars
      exact sat_pure rfl
    · dsimp only at h
      conv => arg 1; cbv
      obtain rfl := Option.some.inj h
      subst_vars
      exact sat_pure rfl
set_option maxHeartbeats 4000000 in
theorem ok38 {Ω : Om} {E : Enc} (hΩ : real (call S) = Ω) (hE : theEnc = E) {fu : Nat} {a0 : Sl Value} {a1 : Sl Value} {a2 : (Value → Value → Option (Bool))} {a2_g : Nat} (hf : ∀ {x0 : Value} {x1 : Value} {r : Bool}, a2 x0 x1 = some r → ∀ {args : List PV}, [pv_Value E x0, pv_Value E x1] = args → ∀ (st : St), Sat (Ω.cf a2_g args st) (fun q => q = (PV.d (.bool r), st))) {r : Bool} (h : P38 fu a0 a1 a2 = some r) {args : List PV} (ha : [PV.d (.sl (E.L_Value a0.l) (E.X_Value a0.x)), PV.d (.sl (E.L_Value a1.l) (E.X_Value a1.x)), PV.d (.fn a2_g [])] = args) (st : St) :
    Sat (Ω.cf 38 args st) (fun q => q = (PV.d (.bool r), st)) := by
  subst ha
  rcases a0 with ⟨a0_l, a0_x⟩
  rcases a1 with ⟨a1_l, a1_x⟩
  rw [cf_body hΩ (f := 38) (fn := Tryd.f38) (x := c38) rfl rfl c38_ok rfl rfl rfl]
  unfold P38 at h
  try dsimp only at h
  conv => arg 1; cbv
  refine sat_len hΩ (ro_Value hE) a0_l fun n1 hn2 => ?_
  conv => arg 1; cbv
  refine sat_len hΩ (ro_Value hE) a1_l fun n3 hn4 => ?_
  conv => arg 1; cbv
  refine sat_in hΩ ?_
  conv => arg 1; cbv
  replace h := bif_cases h
  rcases h with ⟨hb5, h⟩ | ⟨hb5, h⟩
  · refine sat_brt (by first | exact hb5 | ((try clear h); subst_vars; first | exact hb5 | rfl)) ?_
    conv => arg 1; cbv
    obtain rfl := Option.some.inj h
    subst_vars
    exact sat_pure rfl
  · refine sat_brf (by first | exact hb5 | ((try clear h); subst_vars; first | exact hb5 | rfl)) ?_
    conv => arg 1; cbv
    refine sat_len hΩ (ro_Value hE) a0_l fun n6 hn7 => ?_
    conv => arg 1; cbv
    replace h := Option.bind_eq_some_iff.1 h
    obtain ⟨q, hl17, h⟩ := h
    refine sat_loop hΩ (fun (a : Int) => (match a with | i8 => ([(0, PV.d (.sl (E.L_Value a0_l) (E.X_Value a0_x))), (1, PV.d (.sl (E.L_Value a1_l) (E.X_Value a1_x))), (2, PV.d (.fn a2_g [])), (6, PV.d (.bool false)), (15, PV.d (.sl (E.L_Value a0_l) (E.X_Value a0_x))), (16, PV.d (.int .i64 n6)), (17, PV.d (.int .i64 i8))], ([] : List X.Obj) :: st))) (fun (q : Int ⊕ Int) => (match q with | .inl o18 => (.exit 0, [(0, PV.d (.sl (E.L_Value a0_l) (E.X_Value a0_x))), (1, PV.d (.sl (E.L_Value a1_l) (E.X_Value a1_x))), (2, PV.d (.fn a2_g [])), (6, PV.d (.bool false)), (15, PV.d (.sl (E.L_Value a0_l) (E.X_Value a0_x))), (16, PV.d (.int .i64 n6)), (17, PV.d (.int .i64 o18))], ([] : List X.Obj) :: st) | .inr o19 => (.ret, [(0, PV.d (.sl (E.L_Value a0_l) (E.X_Value a0_x))), (1, PV.d (.sl (E.L_Value a1_l) (E.X_Value a1_x))), (2, PV.d (.fn a2_g [])), (6, PV.d (.bool false)), (15, PV.d (.sl (E.L_Value a0_l) (E.X_Value a0_x))), (16, PV.d (.int .i64 n6)), (17, PV.d (.int .i64 o19))], ([] : List X.Obj) :: st))) 0 hl17 ?_ ?_
    · clear h hl17
      rintro i8 q h
      unfold P38_s0 at h
      dsimp only at h
      conv => arg 1; cbv
      refine sat_in hΩ ?_
      conv => arg 1; cbv
      replace h := bif_cases h
      rcases h with ⟨hb9, h⟩ | ⟨hb9, h⟩
      · refine sat_brt (by first | exact hb9 | ((try clear h); subst_vars; first | exact hb9 | rfl)) ?_
        conv => arg 1; cbv
        refine sat_true (fits_l hΩ (ro_Value hE) a0_l) ?_
        conv => arg 1; cbv
        replace h := Option.bind_eq_some_iff.1 h
        obtain ⟨⟨x10_a, x10_b, x10_c, ⟨x10_dl, x10_dx⟩, ⟨x10_el, x10_ex⟩, x10_f, x10_g, x10_h⟩, hx11, h⟩ := h
        try dsimp only at h
        refine sat_bind (nth_ok hΩ (ro_Value hE) hx11) ?_
        conv => arg 1; cbv
        refine sat_true (fits_l hΩ (ro_Value hE) a1_l) ?_
        conv => arg 1; cbv
        replace h := Option.bind_eq_some_iff.1 h
        obtain ⟨⟨x12_a, x12_b, x12_c, ⟨x12_dl, x12_dx⟩, ⟨x12_el, x12_ex⟩, x12_f, x12_g, x12_h⟩, hx13, h⟩ := h
        try dsimp only at h
        refine sat_bind (nth_ok hΩ (ro_Value hE) hx13) ?_
        conv => arg 1; cbv
        replace h := Option.bind_eq_some_iff.1 h
        obtain ⟨r14, hx15, h⟩ := h
        refine sat_call (hf hx15 (by (try clear h); subst_vars; rfl) _) ?_
        conv => arg 1; cbv
        refine sat_in hΩ ?_
        conv => arg 1; cbv
        replace h := bif_cases h
        rcases h with ⟨hb16, h⟩ | ⟨hb16, h⟩
        · refine sat_brt (by first | exact hb16 | ((try clear h); subst_vars; first | exact hb16 | rfl)) ?_
          conv => arg 1; cbv
          obtain rfl := Option.some.inj h
          subst_vars
          first | exact sat_pure (.inr ⟨rfl, rfl⟩) | (refine sat_pure (.inr ⟨rfl, ?_⟩); dsimp only; simp only [ln_set]; rfl)
        · refine sat_brf (by first | exact hb16 | ((try clear h); subst_vars; first | exact hb16 | rfl)) ?_
          conv => arg 1; cbv
          obtain rfl := Option.some.inj h
          subst_vars
          first | exact sat_pure ⟨rfl, rfl, rfl⟩ | (refine sat_pure ⟨rfl, ?_, ?_⟩ <;> first | rfl | (dsimp only; simp only [ln_set]; rfl))
      · refine sat_brf (by first | exact hb9 | ((try clear h); subst_vars; first | exact hb9 | rfl)) ?_
        conv => arg 1; cbv
        obtain rfl := Option.some.inj h
        subst_vars
        first | exact sat_pure (.inl ⟨⟨_, rfl⟩, rfl⟩) | (refine sat_pure (.inl ⟨⟨_, rfl⟩, ?_⟩); dsimp only; simp only [ln_set]; rfl)
    · clear hl17
      rcases q with o18 | o19
      · dsimp only at h
        conv => arg 1; cbv
        obtain rfl := Option.some.inj h
        subst_vars
        exact sat_pure rfl
      · dsimp only at h
        conv => arg 1; cbv
        obtain rfl := Option.some.inj h
        subst_vars
        exact sat_pure rfl
set_option maxHeartbeats 4000000 in
theorem ok62 {Ω : Om} {E : Enc} (hΩ : real (call S) = Ω) (hE : theEnc = E) {fu : Nat} {a0 : Sl Field} {a1 : Sl Field} {a2 : (Field → Field → Option (Bool))} {a2_g : Nat} (hf : ∀ {x0 : Field} {x1 : Field} {r : Bool}, a2 x0 x1 = some r → ∀ {args : List PV}, [pv_Field E x0, pv_Field E x1] = args → ∀ (st : St), Sat (Ω.cf a2_g args st) (fun q => q = (PV.d (.bool r), st))) {r : Bool} (h : P62 fu a0 a1 a2 = some r) {args : List PV} (ha : [PV.d (.sl (E.L_Field a0.l) (E.X_Field a0.x)), PV.d (.sl (E.L_Field a1.l) (E.X_Field a1.x)), PV.d (.fn a2_g [])] = args) (st : St) :
    Sat (Ω.cf 62 args st) (fun q => q = (PV.d (.bool r), st)) := by
  subst ha
  rcases a0 with ⟨a0_l, a0_x⟩
  rcases a1 with ⟨a1_l, a1_x⟩
  rw [cf_body hΩ (f := 62) (fn := Tryd.f62) (x := c62) rfl rfl c62_ok rfl rfl rfl]
  unfold P62 at h
  try dsimp only at h
  conv => arg 1; cbv
  refine sat_len hΩ (ro_Field hE) a0_l fun n1 hn2 => ?_
  conv => arg 1; cbv
  refine sat_len hΩ (ro_Field hE) a1_l fun n3 hn4 => ?_
  conv => arg 1; cbv
  refine sat_in hΩ ?_
  conv => arg 1; cbv
  replace h := bif_cases h
  rcases h with ⟨hb5, h⟩ | ⟨hb5, h⟩
  · refine sat_brt (by first | exact hb5 | ((try clear h); subst_vars; first | exact hb5 | rfl)) ?_
    conv => arg 1; cbv
    obtain rfl := Option.some.inj h
    subst_vars
    exact sat_pure rfl
  · refine sat_brf (by first | exact hb5 | ((try clear h); subst_vars; first | exact hb5 | rfl)) ?_
    conv => arg 1; cbv
    refine sat_len hΩ (ro_Field hE) a0_l fun n6 hn7 => ?_
    conv => arg 1; cbv
    replace h := Option.bind_eq_some_iff.1 h
    obtain ⟨q, hl17, h⟩ := h
    refine sat_loop hΩ (fun (a : Int) => (match a with | i8 => ([(0, PV.d (.sl (E.L_Field a0_l) (E.X_Field a0_x))), (1, PV.d (.sl (E.L_Field a1_l) (E.X_Field a1_x))), (2, PV.d (.fn a2_g [])), (6, PV.d (.bool false)), (15, PV.d (.sl (E.L_Field a0_l) (E.X_Field a0_x))), (16, PV.d (.int .i64 n6)), (17, PV.d (.int .i64 i8))], ([] : List X.Obj) :: st))) (fun (q : Int ⊕ Int) => (match q with | .inl o18 => (.exit 0, [(0, PV.d (.sl (E.L_Field a0_l) (E.X_Field a0_x))), (1, PV.d (.sl (E.L_Field a1_l) (E.X_Field a1_x))), (2, PV.d (.fn a2_g [])), (6, PV.d (.bool false)), (15, PV.d (.sl (E.L_Field a0_l) (E.X_Field a0_x))), (16, PV.d (.int .i64 n6)), (17, PV.d (.int .i64 o18))], ([] : List X.Obj) :: st) | .inr o19 => (.ret, [(0, PV.d (.sl (E.L_Field a0_l) (E.X_Field a0_x))), (1, PV.d (.sl (E.L_Field a1_l) (E.X_Field a1_x))), (2, PV.d (.fn a2_g [])), (6, PV.d (.bool false)), (15, PV.d (.sl (E.L_Field a0_l) (E.X_Field a0_x))), (16, PV.d (.int .i64 n6)), (17, PV.d (.int .i64 o19))], ([] : List X.Obj) :: st))) 0 hl17 ?_ ?_
    · clear h hl17
      rintro i8 q h
      unfold P62_s0 at h
      dsimp only at h
      conv => arg 1; cbv
      refine sat_in hΩ ?_
      conv => arg 1; cbv
      replace h := bif_cases h
      rcases h with ⟨hb9, h⟩ | ⟨hb9, h⟩
      · refine sat_brt (by first | exact hb9 | ((try clear h); subst_vars; first | exact hb9 | rfl)) ?_
        conv => arg 1; cbv
        refine sat_true (fits_l hΩ (ro_Field hE) a0_l) ?_
        conv => arg 1; cbv
        replace h := Option.bind_eq_some_iff.1 h
        obtain ⟨⟨x10_a, ⟨x10_ba, x10_bb, x10_bc, ⟨x10_bdl, x10_bdx⟩, ⟨x10_bel, x10_bex⟩, x10_bf, x10_bg, x10_bh⟩⟩, hx11, h⟩ := h
        try dsimp only at h
        refine sat_bind (nth_ok hΩ (ro_Field hE) hx11) ?_
        conv => arg 1; cbv
        refine sat_true (fits_l hΩ (ro_Field hE) a1_l) ?_
        conv => arg 1; cbv
        replace h := Option.bind_eq_some_iff.1 h
        obtain ⟨⟨x12_a, ⟨x12_ba, x12_bb, x12_bc, ⟨x12_bdl, x12_bdx⟩, ⟨x12_bel, x12_bex⟩, x12_bf, x12_bg, x12_bh⟩⟩, hx13, h⟩ := h
        try dsimp only at h
        refine sat_bind (nth_ok hΩ (ro_Field hE) hx13) ?_
        conv => arg 1; cbv
        replace h := Option.bind_eq_some_iff.1 h
        obtain ⟨r14, hx15, h⟩ := h
        refine sat_call (hf hx15 (by (try clear h); subst_vars; rfl) _) ?_
        conv => arg 1; cbv
        refine sat_in hΩ ?_
        conv => arg 1; cbv
        replace h := bif_cases h
        rcases h with ⟨hb16, h⟩ | ⟨hb16, h⟩
        · refine sat_brt (by first | exact hb16 | ((try clear h); subst_vars; first | exact hb16 | rfl)) ?_
          conv => arg 1; cbv
          obtain rfl := Option.some.inj h
          subst_vars
          first | exact sat_pure (.inr ⟨rfl, rfl⟩) | (refine sat_pure (.inr ⟨rfl, ?_⟩); dsimp only; simp only [ln_set]; rfl)
        · refine sat_brf (by first | exact hb16 | ((try clear h); subst_vars; first | exact hb16 | rfl)) ?_
          conv => arg 1; cbv
          obtain rfl := Option.some.inj h
          subst_vars
          first | exact sat_pure ⟨rfl, rfl, rfl⟩ | (refine sat_pure ⟨rfl, ?_, ?_⟩ <;> first | rfl | (dsimp only; simp only [ln_set]; rfl))
      · refine sat_brf (by first | exact hb9 | ((try clear h); subst_vars; first | exact hb9 | rfl)) ?_
        conv => arg 1; cbv
        obtain rfl := Option.some.inj h
        subst_vars
        first | exact sat_pure (.inl ⟨⟨_, rfl⟩, rfl⟩) | (refine sat_pure (.inl ⟨⟨_, rfl⟩, ?_⟩); dsimp only; simp only [ln_set]; rfl)
    · clear hl17
      rcases q with o18 | o19
      · dsimp only at h
        conv => arg 1; cbv
        obtain rfl := Option.some.inj h
        subst_vars
        exact sat_pure rfl
      · dsimp only at h
        conv => arg 1; cbv
        obtain rfl := Option.some.inj h
        subst_vars
        exact sat_pure rfl
set_option maxHeartbeats 4000000 in
theorem okb17 {Ω : Om} {E : Enc} (hΩ : real (call S) = Ω) (hE : theEnc = E) {fu : Nat} {p17 : Value → Value → Option (Bool)} (hp17 : ∀ {a0 : Value} {a1 : Value} {r : Bool}, p17 a0 a1 = some r → ∀ {args : List PV}, [pv_Value E a0, pv_Value E a1] = args → ∀ (st : St), Sat (Ω.cf 17 args st) (fun q => q = (PV.d (.bool r), st))) {p39 : (Sl Field) → (Sl Field) → Option (Bool)} (hp39 : ∀ {a0 : Sl Field} {a1 : Sl Field} {r : Bool}, p39 a0 a1 = some r → ∀ {args : List PV}, [PV.d (.sl (E.L_Field a0.l) (E.X_Field a0.x)), PV.d (.sl (E.L_Field a1.l) (E.X_Field a1.x))] = args → ∀ (st : St), Sat (Ω.cf 39 args st) (fun q => q = (PV.d (.bool r), st))) {p63 : Field → Field → Option (Bool)} (hp63 : ∀ {a0 : Field} {a1 : Field} {r : Bool}, p63 a0 a1 = some r → ∀ {args : List PV}, [pv_Field E a0, pv_Field E a1] = args → ∀ (st : St), Sat (Ω.cf 63 args st) (fun q => q = (PV.d (.bool r), st))) {a0 : Value} {a1 : Value} {r : Bool} (h : Pb17 fu p17 p39 p63 a0 a1 = some r) {args : List PV} (ha : [pv_Value E a0, pv_Value E a1] = args) (st : St) :
    Sat (Ω.cf 17 args st) (fun q => q = (PV.d (.bool r), st)) := by
  subst ha
  rcases a0 with ⟨a0_a, a0_b, a0_c, ⟨a0_dl, a0_dx⟩, ⟨a0_el, a0_ex⟩, a0_f, a0_g, a0_h⟩
  rcases a1 with ⟨a1_a, a1_b, a1_c, ⟨a1_dl, a1_dx⟩, ⟨a1_el, a1_ex⟩, a1_f, a1_g, a1_h⟩
  rw [cf_body hΩ (f := 17) (fn := Tryd.f17) (x := c17) rfl rfl c17_ok rfl rfl rfl]
  unfold Pb17 at h
  try dsimp only at h
  conv => arg 1; cbv
  replace h := Option.bind_eq_some_iff.1 h
  obtain ⟨q, hq13, h⟩ := h
  refine sat_grp hΩ ((fun (q : Bool) => (match q with | i12 => ([(0, PV.agg [.d (.int .u8 a0_a), .d (.int .i64 a0_b), .d (.str a0_c), .d (.sl (E.L_Value a0_dl) (E.X_Value a0_dx)), .d (.sl (E.L_Field a0_el) (E.X_Field a0_ex)), .d (.int .u8 a0_f), .d (.str a0_g), .d (.bool a0_h)]), (1, PV.agg [.d (.int .u8 a1_a), .d (.int .i64 a1_b), .d (.str a1_c), .d (.sl (E.L_Value a1_dl) (E.X_Value a1_dx)), .d (.sl (E.L_Field a1_el) (E.X_Field a1_ex)), .d (.int .u8 a1_f), .d (.str a1_g), .d (.bool a1_h)]), (2, PV.eptr [.int .u8 a0_a, .int .i64 a0_b, .str a0_c, .sl (E.L_Value a0_dl) (E.X_Value a0_dx), .sl (E.L_Field a0_el) (E.X_Field a0_ex), .int .u8 a0_f, .str a0_g, .bool a0_h]), (3, PV.eptr [.int .u8 a1_a, .int .i64 a1_b, .str a1_c, .sl (E.L_Value a1_dl) (E.X_Value a1_dx), .sl (E.L_Field a1_el) (E.X_Field a1_ex), .int .u8 a1_f, .str a1_g, .bool a1_h]), (4, PV.d (.bool i12))], ([] : List X.Obj) :: st))) q) (fun k hk => ?_) ?_
  · clear h
    have h := hq13
    clear hq13
    conv => arg 1; cbv
    replace h := bif_cases h
    rcases h with ⟨hb1, h⟩ | ⟨hb1, h⟩
    · refine sat_brt (by first | exact hb1 | ((try clear h); subst_vars; first | exact hb1 | rfl)) ?_
      conv => arg 1; cbv
      refine sat_tick hΩ ?_
      conv => arg 1; cbv
      replace h := bif_cases h
      rcases h with ⟨hb2, h⟩ | ⟨hb2, h⟩
      · refine sat_brt (by first | exact hb2 | ((try clear h); subst_vars; first | exact hb2 | rfl)) ?_
        conv => arg 1; cbv
        replace h := bif_cases h
        rcases h with ⟨hb3, h⟩ | ⟨hb3, h⟩
        · refine sat_brt (by first | exact hb3 | ((try clear h); subst_vars; first | exact hb3 | rfl)) ?_
          conv => arg 1; cbv
          refine sat_tick hΩ ?_
          conv => arg 1; cbv
          replace h := bif_cases h
          rcases h with ⟨hb4, h⟩ | ⟨hb4, h⟩
          · refine sat_brt (by first | exact hb4 | ((try clear h); subst_vars; first | exact hb4 | rfl)) ?_
            conv => arg 1; cbv
            replace h := bif_cases h
            rcases h with ⟨hb5, h⟩ | ⟨hb5, h⟩
            · refine sat_brt (by first | exact hb5 | ((try clear h); subst_vars; first | exact hb5 | rfl)) ?_
              conv => arg 1; cbv
              refine sat_tick hΩ ?_
              conv => arg 1; cbv
              replace h := bif_cases h
              rcases h with ⟨hb6, h⟩ | ⟨hb6, h⟩
              · refine sat_brt (by first | exact hb6 | ((try clear h); subst_vars; first | exact hb6 | rfl)) ?_
                conv => arg 1; cbv
                replace h := Option.bind_eq_some_iff.1 h
                obtain ⟨r7, hx8, h⟩ := h
                refine sat_call (ok38 hΩ hE (hf := fun h => @fun args ha st => hp17 h ha st) hx8 (by (try clear h); subst_vars; rfl) _) ?_
                conv => arg 1; cbv
                refine sat_tick hΩ ?_
                conv => arg 1; cbv
                replace h := bif_cases h
                rcases h with ⟨hb9, h⟩ | ⟨hb9, h⟩
                · refine sat_brt (by first | exact hb9 | ((try clear h); subst_vars; first | exact hb9 | rfl)) ?_
                  conv => arg 1; cbv
                  replace h := Option.bind_eq_some_iff.1 h
                  obtain ⟨r10, hx11, h⟩ := h
                  refine sat_call (hp39 hx11 (by (try clear h); subst_vars; rfl) _) ?_
                  conv => arg 1; cbv
                  obtain rfl := Option.some.inj h
                  subst_vars
                  first | exact hk | (simp only [ln_set] at hk ⊢; exact hk)
                · refine sat_brf (by first | exact hb9 | ((try clear h); subst_vars; first | exact hb9 | rfl)) ?_
                  conv => arg 1; cbv
                  obtain rfl := Option.some.inj h
                  subst_vars
                  first | exact hk | (simp only [ln_set] at hk ⊢; exact hk)
              · refine sat_brf (by first | exact hb6 | ((try clear h); subst_vars; first | exact hb6 | rfl)) ?_
                conv => arg 1; cbv
                refine sat_tick hΩ ?_
                conv => arg 1; cbv
                obtain rfl := Option.some.inj h
                subst_vars
                first | exact hk | (simp only [ln_set] at hk ⊢; exact hk)
            · refine sat_brf (by first | exact hb5 | ((try clear h); subst_vars; first | exact hb5 | rfl)) ?_
              conv => arg 1; cbv
              refine sat_tick hΩ ?_
              conv => arg 1; cbv
              refine sat_tick hΩ ?_
              conv => arg 1; cbv
              obtain rfl := Option.some.inj h
              subst_vars
              first | exact hk | (simp only [ln_set] at hk ⊢; exact hk)
          · refine sat_brf (by first | exact hb4 | ((try clear h); subst_vars; first | exact hb4 | rfl)) ?_
            conv => arg 1; cbv
            refine sat_tick hΩ ?_
            conv => arg 1; cbv
            refine sat_tick hΩ ?_
            conv => arg 1; cbv
            obtain rfl := Option.some.inj h
            subst_vars
            first | exact hk | (simp only [ln_set] at hk ⊢; exact hk)
        · refine sat_brf (by first | exact hb3 | ((try clear h); subst_vars; first | exact hb3 | rfl)) ?_
          conv => arg 1; cbv
          refine sat_tick hΩ ?_
          conv => arg 1; cbv
          refine sat_tick hΩ ?_
          conv => arg 1; cbv
          refine sat_tick hΩ ?_
          conv => arg 1; cbv
          obtain rfl := Option.some.inj h
          subst_vars
          first | exact hk | (simp only [ln_set] at hk ⊢; exact hk)
      · refine sat_brf (by first | exact hb2 | ((try clear h); subst_vars; first | exact hb2 | rfl)) ?_
        conv => arg 1; cbv
        refine sat_tick hΩ ?_
        conv => arg 1; cbv
        refine sat_tick hΩ ?_
        conv => arg 1; cbv
        refine sat_tick hΩ ?_
        conv => arg 1; cbv
        obtain rfl := Option.some.inj h
        subst_vars
        first | exact hk | (simp only [ln_set] at hk ⊢; exact hk)
    · refine sat_brf (by first | exact hb1 | ((try clear h); subst_vars; first | exact hb1 | rfl)) ?_
      conv => arg 1; cbv
      refine sat_tick hΩ ?_
      conv => arg 1; cbv
      refine sat_tick hΩ ?_
      conv => arg 1; cbv
      refine sat_tick hΩ ?_
      conv => arg 1; cbv
      refine sat_tick hΩ ?_
      conv => arg 1; cbv
      obtain rfl := Option.some.inj h
      subst_vars
      first | exact hk | (simp only [ln_set] at hk ⊢; exact hk)
  · clear hq13
    obtain ⟨i12, hqq⟩ : ∃ x, x = q := ⟨_, rfl⟩
    subst hqq
    try dsimp only at h
    conv => arg 1; cbv
    obtain rfl := Option.some.inj h
    subst_vars
    exact sat_pure rfl
set_option maxHeartbeats 4000000 in
theorem okb39 {Ω : Om} {E : Enc} (hΩ : real (call S) = Ω) (hE : theEnc = E) {fu : Nat} {p17 : Value → Value → Option (Bool)} (hp17 : ∀ {a0 : Value} {a1 : Value} {r : Bool}, p17 a0 a1 = some r → ∀ {args : List PV}, [pv_Value E a0, pv_Value E a1] = args → ∀ (st : St), Sat (Ω.cf 17 args st) (fun q => q = (PV.d (.bool r), st))) {p39 : (Sl Field) → (Sl Field) → Option (Bool)} (hp39 : ∀ {a0 : Sl Field} {a1 : Sl Field} {r : Bool}, p39 a0 a1 = some r → ∀ {args : List PV}, [PV.d (.sl (E.L_Field a0.l) (E.X_Field a0.x)), PV.d (.sl (E.L_Field a1.l) (E.X_Field a1.x))] = args → ∀ (st : St), Sat (Ω.cf 39 args st) (fun q => q = (PV.d (.bool r), st))) {p63 : Field → Field → Option (Bool)} (hp63 : ∀ {a0 : Field} {a1 : Field} {r : Bool}, p63 a0 a1 = some r → ∀ {args : List PV}, [pv_Field E a0, pv_Field E a1] = args → ∀ (st : St), Sat (Ω.cf 63 args st) (fun q => q = (PV.d (.bool r), st))) {a0 : Sl Field} {a1 : Sl Field} {r : Bool} (h : Pb39 fu p17 p39 p63 a0 a1 = some r) {args : List PV} (ha : [PV.d (.sl (E.L_Field a0.l) (E.X_Field a0.x)), PV.d (.sl (E.L_Field a1.l) (E.X_Field a1.x))] = args) (st : St) :
    Sat (Ω.cf 39 args st) (fun q => q = (PV.d (.bool r), st)) := by
  subst ha
  rcases a0 with ⟨a0_l, a0_x⟩
  rcases a1 with ⟨a1_l, a1_x⟩
  rw [cf_body hΩ (f := 39) (fn := Tryd.f39) (x := c39) rfl rfl c39_ok rfl rfl rfl]
  unfold Pb39 at h
  try dsimp only at h
  conv => arg 1; cbv
  replace h := Option.bind_eq_some_iff.1 h
  obtain ⟨r1, hx2, h⟩ := h
  refine sat_call (ok62 hΩ hE (hf := fun h => @fun args ha st => hp63 h ha st) hx2 (by (try clear h); subst_vars; rfl) _) ?_
  conv => arg 1; cbv
  obtain rfl := Option.some.inj h
  subst_vars
  exact sat_pure rfl
set_option maxHeartbeats 4000000 in
theorem okb63 {Ω : Om} {E : Enc} (hΩ : real (call S) = Ω) (hE : theEnc = E) {fu : Nat} {p17 : Value → Value → Option (Bool)} (hp17 : ∀ {a0 : Value} {a1 : Value} {r : Bool}, p17 a0 a1 = some r → ∀ {args : List PV}, [pv_Value E a0, pv_Value E a1] = args → ∀ (st : St), Sat (Ω.cf 17 args st) (fun q => q = (PV.d (.bool r), st))) {p39 : (Sl Field) → (Sl Field) → Option (Bool)} (hp39 : ∀ {a0 : Sl Field} {a1 : Sl Field} {r : Bool}, p39 a0 a1 = some r → ∀ {args : List PV}, [PV.d (.sl (E.L_Field a0.l) (E.X_Field a0.x)), PV.d (.sl (E.L_Field a1.l) (E.X_Field a1.x))] = args → ∀ (st : St), Sat (Ω.cf 39 args st) (fun q => q = (PV.d (.bool r), st))) {p63 : Field → Field → Option (Bool)} (hp63 : ∀ {a0 : Field} {a1 : Field} {r : Bool}, p63 a0 a1 = some r → ∀ {args : List PV}, [pv_Field E a0, pv_Field E a1] = args → ∀ (st : St), Sat (Ω.cf 63 args st) (fun q => q = (PV.d (.bool r), st))) {a0 : Field} {a1 : Field} {r : Bool} (h : Pb63 fu p17 p39 p63 a0 a1 = some r) {args : List PV} (ha : [pv_Field E a0, pv_Field E a1] = args) (st : St) :
    Sat (Ω.cf 63 args st) (fun q => q = (PV.d (.bool r), st)) := by
  subst ha
  rcases a0 with ⟨a0_a, ⟨a0_ba, a0_bb, a0_bc, ⟨a0_bdl, a0_bdx⟩, ⟨a0_bel, a0_bex⟩, a0_bf, a0_bg, a0_bh⟩⟩
  rcases a1 with ⟨a1_a, ⟨a1_ba, a1_bb, a1_bc, ⟨a1_bdl, a1_bdx⟩, ⟨a1_bel, a1_bex⟩, a1_bf, a1_bg, a1_bh⟩⟩
  rw [cf_body hΩ (f := 63) (fn := Tryd.f63) (x := c63) rfl rfl c63_ok rfl rfl rfl]
  unfold Pb63 at h
  try dsimp only at h
  conv => arg 1; cbv
  replace h := Option.bind_eq_some_iff.1 h
  obtain ⟨q, hq5, h⟩ := h
  refine sat_grp hΩ ((fun (q : Bool) => (match q with | i4 => ([(0, PV.agg [.d (.str a0_a), .d (.int .u8 a0_ba), .d (.int .i64 a0_bb), .d (.str a0_bc), .d (.sl (E.L_Value a0_bdl) (E.X_Value a0_bdx)), .d (.sl (E.L_Field a0_bel) (E.X_Field a0_bex)), .d (.int .u8 a0_bf), .d (.str a0_bg), .d (.bool a0_bh)]), (1, PV.agg [.d (.str a1_a), .d (.int .u8 a1_ba), .d (.int .i64 a1_bb), .d (.str a1_bc), .d (.sl (E.L_Value a1_bdl) (E.X_Value a1_bdx)), .d (.sl (E.L_Field a1_bel) (E.X_Field a1_bex)), .d (.int .u8 a1_bf), .d (.str a1_bg), .d (.bool a1_bh)]), (2, PV.eptr [.str a0_a, .int .u8 a0_ba, .int .i64 a0_bb, .str a0_bc, .sl (E.L_Value a0_bdl) (E.X_Value a0_bdx), .sl (E.L_Field a0_bel) (E.X_Field a0_bex), .int .u8 a0_bf, .str a0_bg, .bool a0_bh]), (3, PV.eptr [.str a1_a, .int .u8 a1_ba, .int .i64 a1_bb, .str a1_bc, .sl (E.L_Value a1_bdl) (E.X_Value a1_bdx), .sl (E.L_Field a1_bel) (E.X_Field a1_bex), .int .u8 a1_bf, .str a1_bg, .bool a1_bh]), (4, PV.d (.bool i4))], ([] : List X.Obj) :: st))) q) (fun k hk => ?_) ?_
  · clear h
    have h := hq5
    clear hq5
    conv => arg 1; cbv
    replace h := bif_cases h
    rcases h with ⟨hb1, h⟩ | ⟨hb1, h⟩
    · refine sat_brt (by first | exact hb1 | ((try clear h); subst_vars; first | exact hb1 | rfl)) ?_
      conv => arg 1; cbv
      replace h := Option.bind_eq_some_iff.1 h
      obtain ⟨r2, hx3, h⟩ := h
      refine sat_call (hp17 hx3 (by (try clear h); subst_vars; rfl) _) ?_
      conv => arg 1; cbv
      refine sat_tick hΩ ?_
      conv => arg 1; cbv
      obtain rfl := Option.some.inj h
      subst_vars
      first | exact hk | (simp only [ln_set] at hk ⊢; exact hk)
    · refine sat_brf (by first | exact hb1 | ((try clear h); subst_vars; first | exact hb1 | rfl)) ?_
      conv => arg 1; cbv
      refine sat_tick hΩ ?_
      conv => arg 1; cbv
      obtain rfl := Option.some.inj h
      subst_vars
      first | exact hk | (simp only [ln_set] at hk ⊢; exact hk)
  · clear hq5
    obtain ⟨i4, hqq⟩ : ∃ x, x = q := ⟨_, rfl⟩
    subst hqq
    try dsimp only at h
    conv => arg 1; cbv
    obtain rfl := Option.some.inj h
    subst_vars
    exact sat_pure rfl
theorem okr17 {Ω : Om} {E : Enc} (hΩ : real (call S) = Ω) (hE : theEnc = E) : ∀ fu,
    (∀ {a0 : Value} {a1 : Value} {r : Bool}, P17 fu a0 a1 = some r → ∀ {args : List PV}, [pv_Value E a0, pv_Value E a1] = args → ∀ (st : St), Sat (Ω.cf 17 args st) (fun q => q = (PV.d (.bool r), st))) ∧
    (∀ {a0 : Sl Field} {a1 : Sl Field} {r : Bool}, P39 fu a0 a1 = some r → ∀ {args : List PV}, [PV.d (.sl (E.L_Field a0.l) (E.X_Field a0.x)), PV.d (.sl (E.L_Field a1.l) (E.X_Field a1.x))] = args → ∀ (st : St), Sat (Ω.cf 39 args st) (fun q => q = (PV.d (.bool r), st))) ∧
    (∀ {a0 : Field} {a1 : Field} {r : Bool}, P63 fu a0 a1 = some r → ∀ {args : List PV}, [pv_Field E a0, pv_Field E a1] = args → ∀ (st : St), Sat (Ω.cf 63 args st) (fun q => q = (PV.d (.bool r), st))) := by
  intro fu
  induction fu with
  | zero => exact ⟨(fun h => (by cases h)), (fun h => (by cases h)), (fun h => (by cases h))⟩
  | succ fu ih =>
    obtain ⟨i17, i39, i63⟩ := ih
    exact ⟨(fun h => @fun args ha st => okb17 (fu := fu) hΩ hE i17 i39 i63 h ha st), (fun h => @fun args ha st => okb39 (fu := fu) hΩ hE i17 i39 i63 h ha st), (fun h => @fun args ha st => okb63 (fu := fu) hΩ hE i17 i39 i63 h ha st)⟩
theorem ok17 {Ω : Om} {E : Enc} (hΩ : real (call S) = Ω) (hE : theEnc = E) {fu : Nat} : ∀ {a0 : Value} {a1 : Value} {r : Bool}, P17 fu a0 a1 = some r → ∀ {args : List PV}, [pv_Value E a0, pv_Value E a1] = args → ∀ (st : St), Sat (Ω.cf 17 args st) (fun q => q = (PV.d (.bool r), st)) := (okr17 hΩ hE fu).1
theorem ok39 {Ω : Om} {E : Enc} (hΩ : real (call S) = Ω) (hE : theEnc = E) {fu : Nat} : ∀ {a0 : Sl Field} {a1 : Sl Field} {r : Bool}, P39 fu a0 a1 = some r → ∀ {args : List PV}, [PV.d (.sl (E.L_Field a0.l) (E.X_Field a0.x)), PV.d (.sl (E.L_Field a1.l) (E.X_Field a1.x))] = args → ∀ (st : St), Sat (Ω.cf 39 args st) (fun q => q = (PV.d (.bool r), st)) := (okr17 hΩ hE fu).2.1
theorem ok63 {Ω : Om} {E : Enc} (hΩ : real (call S) = Ω) (hE : theEnc = E) {fu : Nat} : ∀ {a0 : Field} {a1 : Field} {r : Bool}, P63 fu a0 a1 = some r → ∀ {args : List PV}, [pv_Field E a0, pv_Field E a1] = args → ∀ (st : St), Sat (Ω.cf 63 args st) (fun q => q = (PV.d (.bool r), st)) := (okr17 hΩ hE fu).2.2
set_option maxHeartbeats 4000000 in
theorem okb21 {Ω : Om} {E : Enc} (hΩ : real (call S) = Ω) (hE : theEnc = E) {fu : Nat} {p21 : Value → Option (Value)} (hp21 : ∀ {a0 : Value} {r : Value}, p21 a0 = some r → ∀ {args : List PV}, [pv_Value E a0] = args → ∀ (st : St), Sat (Ω.cf 21 args st) (fun q => q = (pv_Value E r, st))) {p42 : (Sl Value) → Option ((Sl Value))} (hp42 : ∀ {a0 : Sl Value} {r : (Sl Value)}, p42 a0 = some r → ∀ {args : List PV}, [PV.d (.sl (E.L_Value a0.l) (E.X_Value a0.x))] = args → ∀ (st : St), Sat (Ω.cf 42 args st) (fun q => q = (PV.d (.sl (E.L_Value r.l) (E.X_Value r.x)), st))) {p43 : (Sl Field) → Option ((Sl Field))} (hp43 : ∀ {a0 : Sl Field} {r : (Sl Field)}, p43 a0 = some r → ∀ {args : List PV}, [PV.d (.sl (E.L_Field a0.l) (E.X_Field a0.x))] = args → ∀ (st : St), Sat (Ω.cf 43 args st) (fun q => q = (PV.d (.sl (E.L_Field r.l) (E.X_Field r.x)), st))) {p64 : Field → Option (Field)} (hp64 : ∀ {a0 : Field} {r : Field}, p64 a0 = some r → ∀ {args : List PV}, [pv_Field E a0] = args → ∀ (st : St), Sat (Ω.cf 64 args st) (fun q => q = (pv_Field E r, st))) {a0 : Value} {r : Value} (h : Pb21 fu p21 p42 p43 p64 a0 = some r) {args : List PV} (ha : [pv_Value E a0] = args) (st : St) :
    Sat (Ω.cf 21 args st) (fun q => q = (pv_Value E r, st)) := by
  subst ha
  rcases a0 with ⟨a0_a, a0_b, a0_c, ⟨a0_dl, a0_dx⟩, ⟨a0_el, a0_ex⟩, a0_f, a0_g, a0_h⟩
  rw [cf_body hΩ (f := 21) (fn := Tryd.f21) (x := c21) rfl rfl c21_ok rfl rfl rfl]
  unfold Pb21 at h
  try dsimp only at h
  conv => arg 1; cbv
  replace h := Option.bind_eq_some_iff.1 h
  obtain ⟨⟨r1_l, r1_x⟩, hx2, h⟩ := h
  try dsimp only at h
  refine sat_call (hp42 hx2 (by (try clear h); subst_vars; rfl) _) ?_
  conv => arg 1; cbv
  refine sat_true (same_ok hΩ _) ?_
  conv => arg 1; cbv
  replace h := Option.bind_eq_some_iff.1 h
  obtain ⟨⟨r3_l, r3_x⟩, hx4, h⟩ := h
  try dsimp only at h
  refine sat_call (hp43 hx4 (by (try clear h); subst_vars; rfl) _) ?_
  conv => arg 1; cbv
  refine sat_true (same_ok hΩ _) ?_
  conv => arg 1; cbv
  refine sat_tick hΩ ?_
  conv => arg 1; cbv
  obtain rfl := Option.some.inj h
  subst_vars
  exact sat_pure rfl
set_option maxHeartbeats 4000000 in
theorem okb42 {Ω : Om} {E : Enc} (hΩ : real (call S) = Ω) (hE : theEnc = E) {fu : Nat} {p21 : Value → Option (Value)} (hp21 : ∀ {a0 : Value} {r : Value}, p21 a0 = some r → ∀ {args : List PV}, [pv_Value E a0] = args → ∀ (st : St), Sat (Ω.cf 21 args st) (fun q => q = (pv_Value E r, st))) {p42 : (Sl Value) → Option ((Sl Value))} (hp42 : ∀ {a0 : Sl Value} {r : (Sl Value)}, p42 a0 = some r → ∀ {args : List PV}, [PV.d (.sl (E.L_Value a0.l) (E.X_Value a0.x))] = args → ∀ (st : St), Sat (Ω.cf 42 args st) (fun q => q = (PV.d (.sl (E.L_Value r.l) (E.X_Value r.x)), st))) {p43 : (Sl Field) → Option ((Sl Field))} (hp43 : ∀ {a0 : Sl Field} {r : (Sl Field)}, p43 a0 = some r → ∀ {args : List PV}, [PV.d (.sl (E.L_Field a0.l) (E.X_Field a0.x))] = args → ∀ (st : St), Sat (Ω.cf 43 args st) (fun q => q = (PV.d (.sl (E.L_Field r.l) (E.X_Field r.x)), st))) {p64 : Field → Option (Field)} (hp64 : ∀ {a0 : Field} {r : Field}, p64 a0 = some r → ∀ {args : List PV}, [pv_Field E a0] = args → ∀ (st : St), Sat (Ω.cf 64 args st) (fun q => q = (pv_Field E r, st))) {a0 : Sl Value} {r : (Sl Value)} (h : Pb42 fu p21 p42 p43 p64 a0 = some r) {args : List PV} (ha : [PV.d (.sl (E.L_Value a0.l) (E.X_Value a0.x))] = args) (st : St) :
    Sat (Ω.cf 42 args st) (fun q => q = (PV.d (.sl (E.L_Value r.l) (E.X_Value r.x)), st)) := by
  subst ha
  rcases a0 with ⟨a0_l, a0_x⟩
  rw [cf_body hΩ (f := 42) (fn := Tryd.f42) (x := c42) rfl rfl c42_ok rfl rfl rfl]
  unfold Pb42 at h
  try dsimp only at h
  conv => arg 1; cbv
  refine sat_len hΩ (ro_Value hE) a0_l fun n1 hn2 => ?_
  conv => arg 1; cbv
  replace h := bif_some h
  obtain ⟨hb7, h⟩ := h
  refine sat_true (by first | exact hb7 | ((try clear h); subst_vars; first | exact hb7 | rfl)) ?_
  conv => arg 1; cbv
  replace h := bif_some h
  obtain ⟨hb8, h⟩ := h
  refine sat_true (by first | exact hb8 | ((try clear h); subst_vars; first | exact hb8 | rfl)) ?_
  conv => arg 1; cbv
  replace h := bif_some h
  obtain ⟨hb9, h⟩ := h
  refine sat_true (by first | exact hb9 | ((try clear h); subst_vars; first | exact hb9 | rfl)) ?_
  conv => arg 1; cbv
  refine sat_fill hΩ (ro_Value hE) (Value.mk 0 0 ByteArray.empty (Sl.mk [] (some [])) (Sl.mk [] (some [])) 0 ByteArray.empty false) 0 fun l3 hl4 n5 hn6 => ?_
  conv => arg 1; cbv
  replace h := Option.bind_eq_some_iff.1 h
  obtain ⟨q, hl25, h⟩ := h
  refine sat_loop hΩ (fun (a : (List Value) × Int) => (match a with | (l10, i11) => ([(0, PV.d (.sl (E.L_Value a0_l) (E.X_Value a0_x))), (2, PV.d (.sl [] (some []))), (3, PV.row 0 0 (ln l10)), (4, PV.d (.int .i64 i11))], ([X.Obj.row 27 8 (E.L_Value l10) false (some (Ω.wrap .i64 (Ω.add n1 1)))] : List X.Obj) :: st))) (fun (q : ((List Value) × Int)) => (match q with | (o26, o27) => (.exit 0, [(0, PV.d (.sl (E.L_Value a0_l) (E.X_Value a0_x))), (2, PV.d (.sl [] (some []))), (3, PV.row 0 0 (ln o26)), (4, PV.d (.int .i64 o27))], ([X.Obj.row 27 8 (E.L_Value o26) false (some (Ω.wrap .i64 (Ω.add n1 1)))] : List X.Obj) :: st))) ((List.replicate (Int.toNat 0) (Value.mk 0 0 ByteArray.empty (Sl.mk [] (some [])) (Sl.mk [] (some [])) 0 ByteArray.empty false)), 0) hl25 ?_ ?_
  · clear h hl25
    rintro ⟨l10, i11⟩ q h
    unfold P42_s0 at h
    dsimp only at h
    obtain ⟨ln_l10, hln_l10⟩ : ∃ n, ln l10 = n := ⟨_, rfl⟩
    simp only [hln_l10]
    conv => arg 1; cbv
    refine sat_len hΩ (ro_Value hE) a0_l fun n12 hn13 => ?_
    conv => arg 1; cbv
    refine sat_in hΩ ?_
    conv => arg 1; cbv
    replace h := bif_cases h
    rcases h with ⟨hb14, h⟩ | ⟨hb14, h⟩
    · refine sat_brt (by first | exact hb14 | ((try clear h); subst_vars; first | exact hb14 | rfl)) ?_
      conv => arg 1; cbv
      refine sat_in hΩ ?_
      conv => arg 1; cbv
      refine sat_true (fits_l hΩ (ro_Value hE) a0_l) ?_
      conv => arg 1; cbv
      replace h := Option.bind_eq_some_iff.1 h
      obtain ⟨⟨x15_a, x15_b, x15_c, ⟨x15_dl, x15_dx⟩, ⟨x15_el, x15_ex⟩, x15_f, x15_g, x15_h⟩, hx16, h⟩ := h
      try dsimp only at h
      refine sat_bind (nth_ok hΩ (ro_Value hE) hx16) ?_
      conv => arg 1; cbv
      replace h := Option.bind_eq_some_iff.1 h
      obtain ⟨⟨r17_a, r17_b, r17_c, ⟨r17_dl, r17_dx⟩, ⟨r17_el, r17_ex⟩, r17_f, r17_g, r17_h⟩, hx18, h⟩ := h
      try dsimp only at h
      refine sat_call (hp21 hx18 (by (try clear h); subst_vars; rfl) _) ?_
      conv => arg 1; cbv
      refine sat_true (ieq_ok hΩ _) ?_
      conv => arg 1; cbv
      refine sat_true (fits_l hΩ (ro_Value hE) [(Value.mk r17_a r17_b r17_c (Sl.mk r17_dl r17_dx) (Sl.mk r17_el r17_ex) r17_f r17_g r17_h)]) ?_
      conv => arg 1; cbv
      refine sat_true (len_ok hΩ (ro_Value hE) l10) ?_
      conv => arg 1; cbv
      refine sat_brf (len_zero hΩ (ro_Value hE) (l := [(Value.mk r17_a r17_b r17_c (Sl.mk r17_dl r17_dx) (Sl.mk r17_el r17_ex) r17_f r17_g r17_h)]) (b := false) (by rfl)) ?_
      conv => arg 1; cbv
      refine sat_cat hΩ (ro_Value hE) l10 [(Value.mk r17_a r17_b r17_c (Sl.mk r17_dl r17_dx) (Sl.mk r17_el r17_ex) r17_f r17_g r17_h)] fun l19 hl20 n21 hn22 => ?_
      conv => arg 1; cbv
      replace h := bif_some h
      obtain ⟨hb23, h⟩ := h
      refine sat_true (by first | exact hb23 | ((try clear h); subst_vars; first | exact hb23 | rfl)) ?_
      conv => arg 1; cbv
      replace h := bif_some h
      obtain ⟨hb24, h⟩ := h
      refine sat_true (by first | exact hb24 | ((try clear h); subst_vars; first | exact hb24 | rfl)) ?_
      conv => arg 1; cbv
      obtain rfl := Option.some.inj h
      subst_vars
      first | exact sat_pure ⟨rfl, rfl, rfl⟩ | (refine sat_pure ⟨rfl, ?_, ?_⟩ <;> first | rfl | (dsimp only; simp only [ln_set]; rfl))
    · refine sat_brf (by first | exact hb14 | ((try clear h); subst_vars; first | exact hb14 | rfl)) ?_
      conv => arg 1; cbv
      obtain rfl := Option.some.inj h
      subst_vars
      first | exact sat_pure (.inl ⟨⟨_, rfl⟩, rfl⟩) | (refine sat_pure (.inl ⟨⟨_, rfl⟩, ?_⟩); dsimp only; simp only [ln_set]; rfl)
  · clear hl25
    rcases q with ⟨o26, o27⟩
    dsimp only at h
    obtain ⟨ln_o26, hln_o26⟩ : ∃ n, ln o26 = n := ⟨_, rfl⟩
    simp only [hln_o26]
    conv => arg 1; cbv
    refine sat_in hΩ ?_
    conv => arg 1; cbv
    refine sat_true (ieq_ok hΩ _) ?_
    conv => arg 1; cbv
    refine sat_true (fits_l hΩ (ro_Value hE) [(Value.mk 0 0 (⟨#[115, 112, 97, 114, 101]⟩ : ByteArray) (Sl.mk [] (some [])) (Sl.mk [] (some [])) 0 ByteArray.empty false)]) ?_
    conv => arg 1; cbv
    refine sat_true (len_ok hΩ (ro_Value hE) o26) ?_
    conv => arg 1; cbv
    refine sat_brf (len_zero hΩ (ro_Value hE) (l := [(Value.mk 0 0 (⟨#[115, 112, 97, 114, 101]⟩ : ByteArray) (Sl.mk [] (some [])) (Sl.mk [] (some [])) 0 ByteArray.empty false)]) (b := false) (by rfl)) ?_
    conv => arg 1; cbv
    refine sat_cat hΩ (ro_Value hE) o26 [(Value.mk 0 0 (⟨#[115, 112, 97, 114, 101]⟩ : ByteArray) (Sl.mk [] (some [])) (Sl.mk [] (some [])) 0 ByteArray.empty false)] fun l28 hl29 n30 hn31 => ?_
    conv => arg 1; cbv
    replace h := bif_some h
    obtain ⟨hb32, h⟩ := h
    refine sat_true (by first | exact hb32 | ((try clear h); subst_vars; first | exact hb32 | rfl)) ?_
    conv => arg 1; cbv
    replace h := bif_some h
    obtain ⟨hb33, h⟩ := h
    refine sat_true (by first | exact hb33 | ((try clear h); subst_vars; first | exact hb33 | rfl)) ?_
    conv => arg 1; cbv
    refine sat_len hΩ (ro_Value hE) a0_l fun n34 hn35 => ?_
    conv => arg 1; cbv
    refine sat_true (len_ok hΩ (ro_Value hE) (o26 ++ [(Value.mk 0 0 (⟨#[115, 112, 97, 114, 101]⟩ : ByteArray) (Sl.mk [] (some [])) (Sl.mk [] (some [])) 0 ByteArray.empty false)])) ?_
    conv => arg 1; cbv
    replace h := bif_cases h
    rcases h with ⟨hb36, h⟩ | ⟨hb36, h⟩
    · refine sat_brt (by first | exact hb36 | ((try clear h); subst_vars; first | exact hb36 | rfl)) ?_
      conv => arg 1; cbv
      refine sat_len hΩ (ro_Value hE) (o26 ++ [(Value.mk 0 0 (⟨#[115, 112, 97, 114, 101]⟩ : ByteArray) (Sl.mk [] (some [])) (Sl.mk [] (some [])) 0 ByteArray.empty false)]) fun n37 hn38 => ?_
      conv => arg 1; cbv
      refine sat_cat hΩ (ro_Value hE) (o26 ++ [(Value.mk 0 0 (⟨#[115, 112, 97, 114, 101]⟩ : ByteArray) (Sl.mk [] (some [])) (Sl.mk [] (some [])) 0 ByteArray.empty false)]) [] fun l39 hl40 n41 hn42 => ?_
      conv => arg 1; cbv
      replace h := bif_some h
      obtain ⟨hb43, h⟩ := h
      refine sat_true (by first | exact hb43 | ((try clear h); subst_vars; first | exact hb43 | rfl)) ?_
      conv => arg 1; cbv
      replace h := bif_some h
      obtain ⟨hb44, h⟩ := h
      refine sat_true (by first | exact hb44 | ((try clear h); subst_vars; first | exact hb44 | rfl)) ?_
      conv => arg 1; cbv
      replace h := bif_some h
      obtain ⟨hb45, h⟩ := h
      refine sat_true (by first | exact hb45 | ((try clear h); subst_vars; first | exact hb45 | rfl)) ?_
      conv => arg 1; cbv
      refine sat_cut hΩ (ro_Value hE) ((o26 ++ [(Value.mk 0 0 (⟨#[115, 112, 97, 114, 101]⟩ : ByteArray) (Sl.mk [] (some [])) (Sl.mk [] (some [])) 0 ByteArray.empty false)]) ++ []) 0 (ln a0_l) fun l46 hl47 => ?_
      conv => arg 1; cbv
      refine sat_cut hΩ (ro_Value hE) ((o26 ++ [(Value.mk 0 0 (⟨#[115, 112, 97, 114, 101]⟩ : ByteArray) (Sl.mk [] (some [])) (Sl.mk [] (some [])) 0 ByteArray.empty false)]) ++ []) (ln a0_l) (ln ((o26 ++ [(Value.mk 0 0 (⟨#[115, 112, 97, 114, 101]⟩ : ByteArray) (Sl.mk [] (some [])) (Sl.mk [] (some [])) 0 ByteArray.empty false)]) ++ [])) fun l48 hl49 => ?_
      conv => arg 1; cbv
      obtain rfl := Option.some.inj h
      subst_vars
      exact sat_pure rfl
    · refine sat_brf (by first | exact hb36 | ((try clear h); subst_vars; first | exact hb36 | rfl)) ?_
      conv => arg 1; cbv
      refine sat_len hΩ (ro_Value hE) (o26 ++ [(Value.mk 0 0 (⟨#[115, 112, 97, 114, 101]⟩ : ByteArray) (Sl.mk [] (some [])) (Sl.mk [] (some [])) 0 ByteArray.empty false)]) fun n50 hn51 => ?_
      conv => arg 1; cbv
      replace h := bif_some h
      obtain ⟨hb52, h⟩ := h
      refine sat_true (by first | exact hb52 | ((try clear h); subst_vars; first | exact hb52 | rfl)) ?_
      conv => arg 1; cbv
      replace h := bif_some h
      obtain ⟨hb53, h⟩ := h
      refine sat_true (by first | exact hb53 | ((try clear h); subst_vars; first | exact hb53 | rfl)) ?_
      conv => arg 1; cbv
      replace h := bif_some h
      obtain ⟨hb54, h⟩ := h
      refine sat_true (by first | exact hb54 | ((try clear h); subst_vars; first | exact hb54 | rfl)) ?_
      conv => arg 1; cbv
      refine sat_cut hΩ (ro_Value hE) (o26 ++ [(Value.mk 0 0 (⟨#[115, 112, 97, 114, 101]⟩ : ByteArray) (Sl.mk [] (some [])) (Sl.mk [] (some [])) 0 ByteArray.empty false)]) 0 (ln a0_l) fun l55 hl56 => ?_
      conv => arg 1; cbv
      obtain rfl := Option.some.inj h
      subst_vars
      exact sat_pure rfl
set_option maxHeartbeats 4000000 in
theorem okb43 {Ω : Om} {E : Enc} (hΩ : real (call S) = Ω) (hE : theEnc = E) {fu : Nat} {p21 : Value → Option (Value)} (hp21 : ∀ {a0 : Value} {r : Value}, p21 a0 = some r → ∀ {args : List PV}, [pv_Value E a0] = args → ∀ (st : St), Sat (Ω.cf 21 args st) (fun q => q = (pv_Value E r, st))) {p42 : (Sl Value) → Option ((Sl Value))} (hp42 : ∀ {a0 : Sl Value} {r : (Sl Value)}, p42 a0 = some r → ∀ {args : List PV}, [PV.d (.sl (E.L_Value a0.l) (E.X_Value a0.x))] = args → ∀ (st : St), Sat (Ω.cf 42 args st) (fun q => q = (PV.d (.sl (E.L_Value r.l) (E.X_Value r.x)), st))) {p43 : (Sl Field) → Option ((Sl Field))} (hp43 : ∀ {a0 : Sl Field} {r : (Sl Field)}, p43 a0 = some r → ∀ {args : List PV}, [PV.d (.sl (E.L_Field a0.l) (E.X_Field a0.x))] = args → ∀ (st : St), Sat (Ω.cf 43 args st) (fun q => q = (PV.d (.sl (E.L_Field r.l) (E.X_Field r.x)), st))) {p64 : Field → Option (Field)} (hp64 : ∀ {a0 : Field} {r : Field}, p64 a0 = some r → ∀ {args : List PV}, [pv_Field E a0] = args → ∀ (st : St), Sat (Ω.cf 64 args st) (fun q => q = (pv_Field E r, st))) {a0 : Sl Field} {r : (Sl Field)} (h : Pb43 fu p21 p42 p43 p64 a0 = some r) {args : List PV} (ha : [PV.d (.sl (E.L_Field a0.l) (E.X_Field a0.x))] = args) (st : St) :
    Sat (Ω.cf 43 args st) (fun q => q = (PV.d (.sl (E.L_Field r.l) (E.X_Field r.x)), st)) := by
  subst ha
  rcases a0 with ⟨a0_l, a0_x⟩
  rw [cf_body hΩ (f := 43) (fn := Tryd.f43) (x := c43) rfl rfl c43_ok rfl rfl rfl]
  unfold Pb43 at h
  try dsimp only at h
  conv => arg 1; cbv
  refine sat_len hΩ (ro_Field hE) a0_l fun n1 hn2 => ?_
  conv => arg 1; cbv
  replace h := bif_some h
  obtain ⟨hb7, h⟩ := h
  refine sat_true (by first | exact hb7 | ((try clear h); subst_vars; first | exact hb7 | rfl)) ?_
  conv => arg 1; cbv
  replace h := bif_some h
  obtain ⟨hb8, h⟩ := h
  refine sat_true (by first | exact hb8 | ((try clear h); subst_vars; first | exact hb8 | rfl)) ?_
  conv => arg 1; cbv
  replace h := bif_some h
  obtain ⟨hb9, h⟩ := h
  refine sat_true (by first | exact hb9 | ((try clear h); subst_vars; first | exact hb9 | rfl)) ?_
  conv => arg 1; cbv
  refine sat_fill hΩ (ro_Field hE) (Field.mk ByteArray.empty (Value.mk 0 0 ByteArray.empty (Sl.mk [] (some [])) (Sl.mk [] (some [])) 0 ByteArray.empty false)) 0 fun l3 hl4 n5 hn6 => ?_
  conv => arg 1; cbv
  replace h := Option.bind_eq_some_iff.1 h
  obtain ⟨q, hl25, h⟩ := h
  refine sat_loop hΩ (fun (a : (List Field) × Int) => (match a with | (l10, i11) => ([(0, PV.d (.sl (E.L_Field a0_l) (E.X_Field a0_x))), (2, PV.d (.sl [] (some []))), (3, PV.row 0 0 (ln l10)), (4, PV.d (.int .i64 i11))], ([X.Obj.row 36 9 (E.L_Field l10) false (some (Ω.wrap .i64 (Ω.add n1 1)))] : List X.Obj) :: st))) (fun (q : ((List Field) × Int)) => (match q with | (o26, o27) => (.exit 0, [(0, PV.d (.sl (E.L_Field a0_l) (E.X_Field a0_x))), (2, PV.d (.sl [] (some []))), (3, PV.row 0 0 (ln o26)), (4, PV.d (.int .i64 o27))], ([X.Obj.row 36 9 (E.L_Field o26) false (some (Ω.wrap .i64 (Ω.add n1 1)))] : List X.Obj) :: st))) ((List.replicate (Int.toNat 0) (Field.mk ByteArray.empty (Value.mk 0 0 ByteArray.empty (Sl.mk [] (some [])) (Sl.mk [] (some [])) 0 ByteArray.empty false))), 0) hl25 ?_ ?_
  · clear h hl25
    rintro ⟨l10, i11⟩ q h
    unfold P43_s0 at h
    dsimp only at h
    obtain ⟨ln_l10, hln_l10⟩ : ∃ n, ln l10 = n := ⟨_, rfl⟩
    simp only [hln_l10]
    conv => arg 1; cbv
    refine sat_len hΩ (ro_Field hE) a0_l fun n12 hn13 => ?_
    conv => arg 1; cbv
    refine sat_in hΩ ?_
    conv => arg 1; cbv
    replace h := bif_cases h
    rcases h with ⟨hb14, h⟩ | ⟨hb14, h⟩
    · refine sat_brt (by first | exact hb14 | ((try clear h); subst_vars; first | exact hb14 | rfl)) ?_
      conv => arg 1; cbv
      refine sat_in hΩ ?_
      conv => arg 1; cbv
      refine sat_true (fits_l hΩ (ro_Field hE) a0_l) ?_
      conv => arg 1; cbv
      replace h := Option.bind_eq_some_iff.1 h
      obtain ⟨⟨x15_a, ⟨x15_ba, x15_bb, x15_bc, ⟨x15_bdl, x15_bdx⟩, ⟨x15_bel, x15_bex⟩, x15_bf, x15_bg, x15_bh⟩⟩, hx16, h⟩ := h
      try dsimp only at h
      refine sat_bind (nth_ok hΩ (ro_Field hE) hx16) ?_
      conv => arg 1; cbv
      replace h := Option.bind_eq_some_iff.1 h
      obtain ⟨⟨r17_a, ⟨r17_ba, r17_bb, r17_bc, ⟨r17_bdl, r17_bdx⟩, ⟨r17_bel, r17_bex⟩, r17_bf, r17_bg, r17_bh⟩⟩, hx18, h⟩ := h
      try dsimp only at h
      refine sat_call (hp64 hx18 (by (try clear h); subst_vars; rfl) _) ?_
      conv => arg 1; cbv
      refine sat_true (ieq_ok hΩ _) ?_
      conv => arg 1; cbv
      refine sat_true (fits_l hΩ (ro_Field hE) [(Field.mk r17_a (Value.mk r17_ba r17_bb r17_bc (Sl.mk r17_bdl r17_bdx) (Sl.mk r17_bel r17_bex) r17_bf r17_bg r17_bh))]) ?_
      conv => arg 1; cbv
      refine sat_true (len_ok hΩ (ro_Field hE) l10) ?_
      conv => arg 1; cbv
      refine sat_brf (len_zero hΩ (ro_Field hE) (l := [(Field.mk r17_a (Value.mk r17_ba r17_bb r17_bc (Sl.mk r17_bdl r17_bdx) (Sl.mk r17_bel r17_bex) r17_bf r17_bg r17_bh))]) (b := false) (by rfl)) ?_
      conv => arg 1; cbv
      refine sat_cat hΩ (ro_Field hE) l10 [(Field.mk r17_a (Value.mk r17_ba r17_bb r17_bc (Sl.mk r17_bdl r17_bdx) (Sl.mk r17_bel r17_bex) r17_bf r17_bg r17_bh))] fun l19 hl20 n21 hn22 => ?_
      conv => arg 1; cbv
      replace h := bif_some h
      obtain ⟨hb23, h⟩ := h
      refine sat_true (by first | exact hb23 | ((try clear h); subst_vars; first | exact hb23 | rfl)) ?_
      conv => arg 1; cbv
      replace h := bif_some h
      obtain ⟨hb24, h⟩ := h
      refine sat_true (by first | exact hb24 | ((try clear h); subst_vars; first | exact hb24 | rfl)) ?_
      conv => arg 1; cbv
      obtain rfl := Option.some.inj h
      subst_vars
      first | exact sat_pure ⟨rfl, rfl, rfl⟩ | (refine sat_pure ⟨rfl, ?_, ?_⟩ <;> first | rfl | (dsimp only; simp only [ln_set]; rfl))
    · refine sat_brf (by first | exact hb14 | ((try clear h); subst_vars; first | exact hb14 | rfl)) ?_
      conv => arg 1; cbv
      obtain rfl := Option.some.inj h
      subst_vars
      first | exact sat_pure (.inl ⟨⟨_, rfl⟩, rfl⟩) | (refine sat_pure (.inl ⟨⟨_, rfl⟩, ?_⟩); dsimp only; simp only [ln_set]; rfl)
  · clear hl25
    rcases q with ⟨o26, o27⟩
    dsimp only at h
    obtain ⟨ln_o26, hln_o26⟩ : ∃ n, ln o26 = n := ⟨_, rfl⟩
    simp only [hln_o26]
    conv => arg 1; cbv
    refine sat_in hΩ ?_
    conv => arg 1; cbv
    refine sat_true (ieq_ok hΩ _) ?_
    conv => arg 1; cbv
    refine sat_true (fits_l hΩ (ro_Field hE) [(Field.mk (⟨#[115, 112, 97, 114, 101]⟩ : ByteArray) (Value.mk 0 0 ByteArray.empty (Sl.mk [] (some [])) (Sl.mk [] (some [])) 0 ByteArray.empty false))]) ?_
    conv => arg 1; cbv
    refine sat_true (len_ok hΩ (ro_Field hE) o26) ?_
    conv => arg 1; cbv
    refine sat_brf (len_zero hΩ (ro_Field hE) (l := [(Field.mk (⟨#[115, 112, 97, 114, 101]⟩ : ByteArray) (Value.mk 0 0 ByteArray.empty (Sl.mk [] (some [])) (Sl.mk [] (some [])) 0 ByteArray.empty false))]) (b := false) (by rfl)) ?_
    conv => arg 1; cbv
    refine sat_cat hΩ (ro_Field hE) o26 [(Field.mk (⟨#[115, 112, 97, 114, 101]⟩ : ByteArray) (Value.mk 0 0 ByteArray.empty (Sl.mk [] (some [])) (Sl.mk [] (some [])) 0 ByteArray.empty false))] fun l28 hl29 n30 hn31 => ?_
    conv => arg 1; cbv
    replace h := bif_some h
    obtain ⟨hb32, h⟩ := h
    refine sat_true (by first | exact hb32 | ((try clear h); subst_vars; first | exact hb32 | rfl)) ?_
    conv => arg 1; cbv
    replace h := bif_some h
    obtain ⟨hb33, h⟩ := h
    refine sat_true (by first | exact hb33 | ((try clear h); subst_vars; first | exact hb33 | rfl)) ?_
    conv => arg 1; cbv
    refine sat_len hΩ (ro_Field hE) a0_l fun n34 hn35 => ?_
    conv => arg 1; cbv
    refine sat_true (len_ok hΩ (ro_Field hE) (o26 ++ [(Field.mk (⟨#[115, 112, 97, 114, 101]⟩ : ByteArray) (Value.mk 0 0 ByteArray.empty (Sl.mk [] (some [])) (Sl.mk [] (some [])) 0 ByteArray.empty false))])) ?_
    conv => arg 1; cbv
    replace h := bif_cases h
    rcases h with ⟨hb36, h⟩ | ⟨hb36, h⟩
    · refine sat_brt (by first | exact hb36 | ((try clear h); subst_vars; first | exact hb36 | rfl)) ?_
      conv => arg 1; cbv
      refine sat_len hΩ (ro_Field hE) (o26 ++ [(Field.mk (⟨#[115, 112, 97, 114, 101]⟩ : ByteArray) (Value.mk 0 0 ByteArray.empty (Sl.mk [] (some [])) (Sl.mk [] (some [])) 0 ByteArray.empty false))]) fun n37 hn38 => ?_
      conv => arg 1; cbv
      refine sat_cat hΩ (ro_Field hE) (o26 ++ [(Field.mk (⟨#[115, 112, 97, 114, 101]⟩ : ByteArray) (Value.mk 0 0 ByteArray.empty (Sl.mk [] (some [])) (Sl.mk [] (some [])) 0 ByteArray.empty false))]) [] fun l39 hl40 n41 hn42 => ?_
      conv => arg 1; cbv
      replace h := bif_some h
      obtain ⟨hb43, h⟩ := h
      refine sat_true (by first | exact hb43 | ((try clear h); subst_vars; first | exact hb43 | rfl)) ?_
      conv => arg 1; cbv
      replace h := bif_some h
      obtain ⟨hb44, h⟩ := h
      refine sat_true (by first | exact hb44 | ((try clear h); subst_vars; first | exact hb44 | rfl)) ?_
      conv => arg 1; cbv
      replace h := bif_some h
      obtain ⟨hb45, h⟩ := h
      refine sat_true (by first | exact hb45 | ((try clear h); subst_vars; first | exact hb45 | rfl)) ?_
      conv => arg 1; cbv
      refine sat_cut hΩ (ro_Field hE) ((o26 ++ [(Field.mk (⟨#[115, 112, 97, 114, 101]⟩ : ByteArray) (Value.mk 0 0 ByteArray.empty (Sl.mk [] (some [])) (Sl.mk [] (some [])) 0 ByteArray.empty false))]) ++ []) 0 (ln a0_l) fun l46 hl47 => ?_
      conv => arg 1; cbv
      refine sat_cut hΩ (ro_Field hE) ((o26 ++ [(Field.mk (⟨#[115, 112, 97, 114, 101]⟩ : ByteArray) (Value.mk 0 0 ByteArray.empty (Sl.mk [] (some [])) (Sl.mk [] (some [])) 0 ByteArray.empty false))]) ++ []) (ln a0_l) (ln ((o26 ++ [(Field.mk (⟨#[115, 112, 97, 114, 101]⟩ : ByteArray) (Value.mk 0 0 ByteArray.empty (Sl.mk [] (some [])) (Sl.mk [] (some [])) 0 ByteArray.empty false))]) ++ [])) fun l48 hl49 => ?_
      conv => arg 1; cbv
      obtain rfl := Option.some.inj h
      subst_vars
      exact sat_pure rfl
    · refine sat_brf (by first | exact hb36 | ((try clear h); subst_vars; first | exact hb36 | rfl)) ?_
      conv => arg 1; cbv
      refine sat_len hΩ (ro_Field hE) (o26 ++ [(Field.mk (⟨#[115, 112, 97, 114, 101]⟩ : ByteArray) (Value.mk 0 0 ByteArray.empty (Sl.mk [] (some [])) (Sl.mk [] (some [])) 0 ByteArray.empty false))]) fun n50 hn51 => ?_
      conv => arg 1; cbv
      replace h := bif_some h
      obtain ⟨hb52, h⟩ := h
      refine sat_true (by first | exact hb52 | ((try clear h); subst_vars; first | exact hb52 | rfl)) ?_
      conv => arg 1; cbv
      replace h := bif_some h
      obtain ⟨hb53, h⟩ := h
      refine sat_true (by first | exact hb53 | ((try clear h); subst_vars; first | exact hb53 | rfl)) ?_
      conv => arg 1; cbv
      replace h := bif_some h
      obtain ⟨hb54, h⟩ := h
      refine sat_true (by first | exact hb54 | ((try clear h); subst_vars; first | exact hb54 | rfl)) ?_
      conv => arg 1; cbv
      refine sat_cut hΩ (ro_Field hE) (o26 ++ [(Field.mk (⟨#[115, 112, 97, 114, 101]⟩ : ByteArray) (Value.mk 0 0 ByteArray.empty (Sl.mk [] (some [])) (Sl.mk [] (some [])) 0 ByteArray.empty false))]) 0 (ln a0_l) fun l55 hl56 => ?_
      conv => arg 1; cbv
      obtain rfl := Option.some.inj h
      subst_vars
      exact sat_pure rfl
set_option maxHeartbeats 4000000 in
theorem okb64 {Ω : Om} {E : Enc} (hΩ : real (call S) = Ω) (hE : theEnc = E) {fu : Nat} {p21 : Value → Option (Value)} (hp21 : ∀ {a0 : Value} {r : Value}, p21 a0 = some r → ∀ {args : List PV}, [pv_Value E a0] = args → ∀ (st : St), Sat (Ω.cf 21 args st) (fun q => q = (pv_Value E r, st))) {p42 : (Sl Value) → Option ((Sl Value))} (hp42 : ∀ {a0 : Sl Value} {r : (Sl Value)}, p42 a0 = some r → ∀ {args : List PV}, [PV.d (.sl (E.L_Value a0.l) (E.X_Value a0.x))] = args → ∀ (st : St), Sat (Ω.cf 42 args st) (fun q => q = (PV.d (.sl (E.L_Value r.l) (E.X_Value r.x)), st))) {p43 : (Sl Field) → Option ((Sl Field))} (hp43 : ∀ {a0 : Sl Field} {r : (Sl Field)}, p43 a0 = some r → ∀ {args : List PV}, [PV.d (.sl (E.L_Field a0.l) (E.X_Field a0.x))] = args → ∀ (st : St), Sat (Ω.cf 43 args st) (fun q => q = (PV.d (.sl (E.L_Field r.l) (E.X_Field r.x)), st))) {p64 : Field → Option (Field)} (hp64 : ∀ {a0 : Field} {r : Field}, p64 a0 = some r → ∀ {args : List PV}, [pv_Field E a0] = args → ∀ (st : St), Sat (Ω.cf 64 args st) (fun q => q = (pv_Field E r, st))) {a0 : Field} {r : Field} (h : Pb64 fu p21 p42 p43 p64 a0 = some r) {args : List PV} (ha : [pv_Field E a0] = args) (st : St) :
    Sat (Ω.cf 64 args st) (fun q => q = (pv_Field E r, st)) := by
  subst ha
  rcases a0 with ⟨a0_a, ⟨a0_ba, a0_bb, a0_bc, ⟨a0_bdl, a0_bdx⟩, ⟨a0_bel, a0_bex⟩, a0_bf, a0_bg, a0_bh⟩⟩
  rw [cf_body hΩ (f := 64) (fn := Tryd.f64) (x := c64) rfl rfl c64_ok rfl rfl rfl]
  unfold Pb64 at h
  try dsimp only at h
  conv => arg 1; cbv
  replace h := Option.bind_eq_some_iff.1 h
  obtain ⟨⟨r1_a, r1_b, r1_c, ⟨r1_dl, r1_dx⟩, ⟨r1_el, r1_ex⟩, r1_f, r1_g, r1_h⟩, hx2, h⟩ := h
  try dsimp only at h
  refine sat_call (hp21 hx2 (by (try clear h); subst_vars; rfl) _) ?_
  conv => arg 1; cbv
  refine sat_true (same_ok hΩ _) ?_
  conv => arg 1; cbv
  obtain rfl := Option.some.inj h
  subst_vars
  exact sat_pure rfl
theorem okr21 {Ω : Om} {E : Enc} (hΩ : real (call S) = Ω) (hE : theEnc = E) : ∀ fu,
    (∀ {a0 : Value} {r : Value}, P21 fu a0 = some r → ∀ {args : List PV}, [pv_Value E a0] = args → ∀ (st : St), Sat (Ω.cf 21 args st) (fun q => q = (pv_Value E r, st))) ∧
    (∀ {a0 : Sl Value} {r : (Sl Value)}, P42 fu a0 = some r → ∀ {args : List PV}, [PV.d (.sl (E.L_Value a0.l) (E.X_Value a0.x))] = args → ∀ (st : St), Sat (Ω.cf 42 args st) (fun q => q = (PV.d (.sl (E.L_Value r.l) (E.X_Value r.x)), st))) ∧
    (∀ {a0 : Sl Field} {r : (Sl Field)}, P43 fu a0 = some r → ∀ {args : List PV}, [PV.d (.sl (E.L_Field a0.l) (E.X_Field a0.x))] = args → ∀ (st : St), Sat (Ω.cf 43 args st) (fun q => q = (PV.d (.sl (E.L_Field r.l) (E.X_Field r.x)), st))) ∧
    (∀ {a0 : Field} {r : Field}, P64 fu a0 = some r → ∀ {args : List PV}, [pv_Field E a0] = args → ∀ (st : St), Sat (Ω.cf 64 args st) (fun q => q = (pv_Field E r, st))) := by
  intro fu
  induction fu with
  | zero => exact ⟨(fun h => (by cases h)), (fun h => (by cases h)), (fun h => (by cases h)), (fun h => (by cases h))⟩
  | succ fu ih =>
    obtain ⟨i21, i42, i43, i64⟩ := ih
    exact ⟨(fun h => @fun args ha st => okb21 (fu := fu) hΩ hE i21 i42 i43 i64 h ha st), (fun h => @fun args ha st => okb42 (fu := fu) hΩ hE i21 i42 i43 i64 h ha st), (fun h => @fun args ha st => okb43 (fu := fu) hΩ hE i21 i42 i43 i64 h ha st), (fun h => @fun args ha st => okb64 (fu := fu) hΩ hE i21 i42 i43 i64 h ha st)⟩
theorem ok21 {Ω : Om} {E : Enc} (hΩ : real (call S) = Ω) (hE : theEnc = E) {fu : Nat} : ∀ {a0 : Value} {r : Value}, P21 fu a0 = some r → ∀ {args : List PV}, [pv_Value E a0] = args → ∀ (st : St), Sat (Ω.cf 21 args st) (fun q => q = (pv_Value E r, st)) := (okr21 hΩ hE fu).1
theorem ok42 {Ω : Om} {E : Enc} (hΩ : real (call S) = Ω) (hE : theEnc = E) {fu : Nat} : ∀ {a0 : Sl Value} {r : (Sl Value)}, P42 fu a0 = some r → ∀ {args : List PV}, [PV.d (.sl (E.L_Value a0.l) (E.X_Value a0.x))] = args → ∀ (st : St), Sat (Ω.cf 42 args st) (fun q => q = (PV.d (.sl (E.L_Value r.l) (E.X_Value r.x)), st)) := (okr21 hΩ hE fu).2.1
theorem ok43 {Ω : Om} {E : Enc} (hΩ : real (call S) = Ω) (hE : theEnc = E) {fu : Nat} : ∀ {a0 : Sl Field} {r : (Sl Field)}, P43 fu a0 = some r → ∀ {args : List PV}, [PV.d (.sl (E.L_Field a0.l) (E.X_Field a0.x))] = args → ∀ (st : St), Sat (Ω.cf 43 args st) (fun q => q = (PV.d (.sl (E.L_Field r.l) (E.X_Field r.x)), st)) := (okr21 hΩ hE fu).2.2.1
theorem ok64 {Ω : Om} {E : Enc} (hΩ : real (call S) = Ω) (hE : theEnc = E) {fu : Nat} : ∀ {a0 : Field} {r : Field}, P64 fu a0 = some r → ∀ {args : List PV}, [pv_Field E a0] = args → ∀ (st : St), Sat (Ω.cf 64 args st) (fun q => q = (pv_Field E r, st)) := (okr21 hΩ hE fu).2.2.2
set_option maxHeartbeats 4000000 in
theorem ok22 {Ω : Om} {E : Enc} (hΩ : real (call S) = Ω) (hE : theEnc = E) {fu : Nat} {a0 : Value} {a1 : Value} {r : Bool} (h : P22 fu a0 a1 = some r) {args : List PV} (ha : [pv_Value E a0, pv_Value E a1] = args) (st : St) :
    Sat (Ω.cf 22 args st) (fun q => q = (PV.d (.bool r), st)) := by
  subst ha
  rcases a0 with ⟨a0_a, a0_b, a0_c, ⟨a0_dl, a0_dx⟩, ⟨a0_el, a0_ex⟩, a0_f, a0_g, a0_h⟩
  rcases a1 with ⟨a1_a, a1_b, a1_c, ⟨a1_dl, a1_dx⟩, ⟨a1_el, a1_ex⟩, a1_f, a1_g, a1_h⟩
  rw [cf_body hΩ (f := 22) (fn := Tryd.f22) (x := c22) rfl rfl c22_ok rfl rfl rfl]
  unfold P22 at h
  try dsimp only at h
  conv => arg 1; cbv
  replace h := Option.bind_eq_some_iff.1 h
  obtain ⟨q, hq6, h⟩ := h
  refine sat_grp hΩ ((fun (q : Bool) => (match q with | i5 => ([(0, PV.agg [.d (.int .u8 a0_a), .d (.int .i64 a0_b), .d (.str a0_c), .d (.sl (E.L_Value a0_dl) (E.X_Value a0_dx)), .d (.sl (E.L_Field a0_el) (E.X_Field a0_ex)), .d (.int .u8 a0_f), .d (.str a0_g), .d (.bool a0_h)]), (1, PV.agg [.d (.int .u8 a1_a), .d (.int .i64 a1_b), .d (.str a1_c), .d (.sl (E.L_Value a1_dl) (E.X_Value a1_dx)), .d (.sl (E.L_Field a1_el) (E.X_Field a1_ex)), .d (.int .u8 a1_f), .d (.str a1_g), .d (.bool a1_h)]), (2, PV.eptr [.int .u8 a0_a, .int .i64 a0_b, .str a0_c, .sl (E.L_Value a0_dl) (E.X_Value a0_dx), .sl (E.L_Field a0_el) (E.X_Field a0_ex), .int .u8 a0_f, .str a0_g, .bool a0_h]), (3, PV.eptr [.int .u8 a1_a, .int .i64 a1_b, .str a1_c, .sl (E.L_Value a1_dl) (E.X_Value a1_dx), .sl (E.L_Field a1_el) (E.X_Field a1_ex), .int .u8 a1_f, .str a1_g, .bool a1_h]), (4, PV.d (.bool i5))], ([] : List X.Obj) :: st))) q) (fun k hk => ?_) ?_
  · clear h
    have h := hq6
    clear hq6
    conv => arg 1; cbv
    replace h := bif_cases h
    rcases h with ⟨hb1, h⟩ | ⟨hb1, h⟩
    · refine sat_brt (by first | exact hb1 | ((try clear h); subst_vars; first | exact hb1 | rfl)) ?_
      conv => arg 1; cbv
      replace h := bif_cases h
      rcases h with ⟨hb2, h⟩ | ⟨hb2, h⟩
      · refine sat_brt (by first | exact hb2 | ((try clear h); subst_vars; first | exact hb2 | rfl)) ?_
        conv => arg 1; cbv
        refine sat_tick hΩ ?_
        conv => arg 1; cbv
        replace h := Option.bind_eq_some_iff.1 h
        obtain ⟨r3, hx4, h⟩ := h
        refine sat_call (ok39 hΩ hE hx4 (by (try clear h); subst_vars; rfl) _) ?_
        conv => arg 1; cbv
        obtain rfl := Option.some.inj h
        subst_vars
        first | exact hk | (simp only [ln_set] at hk ⊢; exact hk)
      · refine sat_brf (by first | exact hb2 | ((try clear h); subst_vars; first | exact hb2 | rfl)) ?_
        conv => arg 1; cbv
        refine sat_tick hΩ ?_
        conv => arg 1; cbv
        obtain rfl := Option.some.inj h
        subst_vars
        first | exact hk | (simp only [ln_set] at hk ⊢; exact hk)
    · refine sat_brf (by first | exact hb1 | ((try clear h); subst_vars; first | exact hb1 | rfl)) ?_
      conv => arg 1; cbv
      refine sat_tick hΩ ?_
      conv => arg 1; cbv
      obtain rfl := Option.some.inj h
      subst_vars
      first | exact hk | (simp only [ln_set] at hk ⊢; exact hk)
  · clear hq6
    obtain ⟨i5, hqq⟩ : ∃ x, x = q := ⟨_, rfl⟩
    subst hqq
    try dsimp only at h
    conv => arg 1; cbv
    obtain rfl := Option.some.inj h
    subst_vars
    exact sat_pure rfl
set_option maxHeartbeats 4000000 in
theorem ok51 {Ω : Om} {E : Enc} (hΩ : real (call S) = Ω) (hE : theEnc = E) {fu : Nat} {a0 : ByteArray} {r : Bool} (h : P51 fu a0 = some r) {args : List PV} (ha : [PV.d (.str a0)] = args) (st : St) :
    Sat (Ω.cf 51 args st) (fun q => q = (PV.d (.bool r), st)) := by
  subst ha
  rw [cf_body hΩ (f := 51) (fn := Tryd.f51) (x := c51) rfl rfl c51_ok rfl rfl rfl]
  unfold P51 at h
  try dsimp only at h
  conv => arg 1; cbv
  replace h := Option.bind_eq_some_iff.1 h
  obtain ⟨q, hq3, h⟩ := h
  refine sat_grp hΩ ((fun (q : Bool) => (match q with | i2 => ([(0, PV.d (.str a0)), (2, PV.d (.bool i2))], ([] : List X.Obj) :: st))) q) (fun k hk => ?_) ?_
  · clear h
    have h := hq3
    clear hq3
    conv => arg 1; cbv
    replace h := bif_cases h
    rcases h with ⟨hb1, h⟩ | ⟨hb1, h⟩
    · refine sat_brt (by first | exact hb1 | ((try clear h); subst_vars; first | exact hb1 | rfl)) ?_
      conv => arg 1; cbv
      obtain rfl := Option.some.inj h
      subst_vars
      first | exact hk | (simp only [ln_set] at hk ⊢; exact hk)
    · refine sat_brf (by first | exact hb1 | ((try clear h); subst_vars; first | exact hb1 | rfl)) ?_
      conv => arg 1; cbv
      obtain rfl := Option.some.inj h
      subst_vars
      first | exact hk | (simp only [ln_set] at hk ⊢; exact hk)
  · clear hq3
    obtain ⟨i2, hqq⟩ : ∃ x, x = q := ⟨_, rfl⟩
    subst hqq
    try dsimp only at h
    conv => arg 1; cbv
    obtain rfl := Option.some.inj h
    subst_vars
    exact sat_pure rfl
set_option maxHeartbeats 4000000 in
theorem ok84 {Ω : Om} {E : Enc} (hΩ : real (call S) = Ω) (hE : theEnc = E) {fu : Nat} {a0 : Int} {r : (Sl ByteArray) × Bool} (h : P84 fu a0 = some r) {args : List PV} (ha : [PV.d (.int .u8 a0)] = args) (st : St) :
    Sat (Ω.cf 84 args st) (fun q => q = (PV.tup [PV.d (.sl (E.L_str r.1.l) (E.X_str r.1.x)), PV.d (.bool r.2)], st)) := by
  subst ha
  rw [cf_body hΩ (f := 84) (fn := Tryd.f84) (x := c84) rfl rfl c84_ok rfl rfl rfl]
  unfold P84 at h
  try dsimp only at h
  conv => arg 1; cbv
  replace h := Option.bind_eq_some_iff.1 h
  obtain ⟨q, hq16, h⟩ := h
  refine sat_grp hΩ ((fun (q : Unit ⊕ ((List ByteArray) × (Option (List ByteArray)))) => (match q with | .inl _ => (.normal, [(0, PV.d (.int .u8 a0)), (2, PV.d (.sl [] (some []))), (3, PV.d (.bool false)), (4, PV.d (.int .u8 a0))], ([] : List X.Obj) :: st) | .inr (i15_l, i15_x) => (.ret, [(0, PV.d (.int .u8 a0)), (2, PV.d (.sl (E.L_str i15_l) (E.X_str i15_x))), (3, PV.d (.bool true)), (4, PV.d (.int .u8 a0))], ([] : List X.Obj) :: st))) q) (fun k hk => ?_) ?_
  · clear h
    have h := hq16
    clear hq16
    conv => arg 1; cbv
    replace h := bif_cases h
    rcases h with ⟨hb1, h⟩ | ⟨hb1, h⟩
    · refine sat_brt (by first | exact hb1 | ((try clear h); subst_vars; first | exact hb1 | rfl)) ?_
      conv => arg 1; cbv
      obtain rfl := Option.some.inj h
      subst_vars
      first | exact hk | (simp only [ln_set] at hk ⊢; exact hk)
    · refine sat_brf (by first | exact hb1 | ((try clear h); subst_vars; first | exact hb1 | rfl)) ?_
      conv => arg 1; cbv
      replace h := Option.bind_eq_some_iff.1 h
      obtain ⟨q, hq14, h⟩ := h
      refine sat_grp hΩ ((fun (q : Unit ⊕ ((List ByteArray) × (Option (List ByteArray)))) => (match q with | .inl _ => (.normal, [(0, PV.d (.int .u8 a0)), (2, PV.d (.sl [] (some []))), (3, PV.d (.bool false)), (4, PV.d (.int .u8 a0))], ([] : List X.Obj) :: st) | .inr (i13_l, i13_x) => (.ret, [(0, PV.d (.int .u8 a0)), (2, PV.d (.sl (E.L_str i13_l) (E.X_str i13_x))), (3, PV.d (.bool true)), (4, PV.d (.int .u8 a0))], ([] : List X.Obj) :: st))) q) (fun k hk => ?_) ?_
      · clear h
        have h := hq14
        clear hq14
        conv => arg 1; cbv
        replace h := bif_cases h
        rcases h with ⟨hb2, h⟩ | ⟨hb2, h⟩
        · refine sat_brt (by first | exact hb2 | ((try clear h); subst_vars; first | exact hb2 | rfl)) ?_
          conv => arg 1; cbv
          replace h := Option.bind_eq_some_iff.1 h
          obtain ⟨l3, hx4, h⟩ := h
          have hL5 : ([[.str (⟨#[97, 103, 97, 105, 110]⟩ : ByteArray)], [.str (⟨#[101, 108, 115, 101]⟩ : ByteArray)]] : List (List D)) = E.L_str l3 := by (have hy := Option.some.inj hx4; clear h; subst hy; subst hE; rfl)
          rw [hL5]
          clear hL5
          conv => arg 1; cbv
          obtain rfl := Option.some.inj h
          subst_vars
          first | exact hk | (simp only [ln_set] at hk ⊢; exact hk)
        · refine sat_brf (by first | exact hb2 | ((try clear h); subst_vars; first | exact hb2 | rfl)) ?_
          conv => arg 1; cbv
          replace h := Option.bind_eq_some_iff.1 h
          obtain ⟨q, hq12, h⟩ := h
          refine sat_grp hΩ ((fun (q : Unit ⊕ ((List ByteArray) × (Option (List ByteArray)))) => (match q with | .inl _ => (.normal, [(0, PV.d (.int .u8 a0)), (2, PV.d (.sl [] (some []))), (3, PV.d (.bool false)), (4, PV.d (.int .u8 a0))], ([] : List X.Obj) :: st) | .inr (i11_l, i11_x) => (.ret, [(0, PV.d (.int .u8 a0)), (2, PV.d (.sl (E.L_str i11_l) (E.X_str i11_x))), (3, PV.d (.bool true)), (4, PV.d (.int .u8 a0))], ([] : List X.Obj) :: st))) q) (fun k hk => ?_) ?_
          · clear h
            have h := hq12
            clear hq12
            conv => arg 1; cbv
            replace h := bif_cases h
            rcases h with ⟨hb6, h⟩ | ⟨hb6, h⟩
            · refine sat_brt (by first | exact hb6 | ((try clear h); subst_vars; first | exact hb6 | rfl)) ?_
              conv => arg 1; cbv
              obtain rfl := Option.some.inj h
              subst_vars
              first | exact hk | (simp only [ln_set] at hk ⊢; exact hk)
            · refine sat_brf (by first | exact hb6 | ((try clear h); subst_vars; first | exact hb6 | rfl)) ?_
              conv => arg 1; cbv
              replace h := Option.bind_eq_some_iff.1 h
              obtain ⟨q, hq10, h⟩ := h
              refine sat_grp hΩ ((fun (q : Bool) => (match q with | i8 => (.normal, [(0, PV.d (.int .u8 a0)), (2, PV.d (.sl [] (some []))), (3, PV.d (.bool false)), (4, PV.d (.int .u8 a0)), (14, PV.d (.bool i8))], ([] : List X.Obj) :: st))) q) (fun k hk => ?_) ?_
              · clear h
                have h := hq10
                clear hq10
                conv => arg 1; cbv
                replace h := bif_cases h
                rcases h with ⟨hb7, h⟩ | ⟨hb7, h⟩
                · refine sat_brt (by first | exact hb7 | ((try clear h); subst_vars; first | exact hb7 | rfl)) ?_
                  conv => arg 1; cbv
                  obtain rfl := Option.some.inj h
                  subst_vars
                  first | exact hk | (simp only [ln_set] at hk ⊢; exact hk)
                · refine sat_brf (by first | exact hb7 | ((try clear h); subst_vars; first | exact hb7 | rfl)) ?_
                  conv => arg 1; cbv
                  obtain rfl := Option.some.inj h
                  subst_vars
                  first | exact hk | (simp only [ln_set] at hk ⊢; exact hk)
              · clear hq10
                obtain ⟨i8, hqq⟩ : ∃ x, x = q := ⟨_, rfl⟩
                subst hqq
                try dsimp only at h
                conv => arg 1; cbv
                refine sat_in hΩ ?_
                conv => arg 1; cbv
                replace h := bif_cases h
                rcases h with ⟨hb9, h⟩ | ⟨hb9, h⟩
                · refine sat_brt (by first | exact hb9 | ((try clear h); subst_vars; first | exact hb9 | rfl)) ?_
                  conv => arg 1; cbv
                  obtain rfl := Option.some.inj h
                  subst_vars
                  first | exact hk | (simp only [ln_set] at hk ⊢; exact hk)
                · refine sat_brf (by first | exact hb9 | ((try clear h); subst_vars; first | exact hb9 | rfl)) ?_
                  conv => arg 1; cbv
                  obtain rfl := Option.some.inj h
                  subst_vars
                  first | exact hk | (simp only [ln_set] at hk ⊢; exact hk)
          · clear hq12
            rcases q with _ | ⟨i11_l, i11_x⟩
            · try dsimp only at h
              conv => arg 1; cbv
              obtain rfl := Option.some.inj h
              subst_vars
              first | exact hk | (simp only [ln_set] at hk ⊢; exact hk)
            · try dsimp only at h
              conv => arg 1; cbv
              obtain rfl := Option.some.inj h
              subst_vars
              first | exact hk | (simp only [ln_set] at hk ⊢; exact hk)
      · clear hq14
        rcases q with _ | ⟨i13_l, i13_x⟩
        · try dsimp only at h
          conv => arg 1; cbv
          obtain rfl := Option.some.inj h
          subst_vars
          first | exact hk | (simp only [ln_set] at hk ⊢; exact hk)
        · try dsimp only at h
          conv => arg 1; cbv
          obtain rfl := Option.some.inj h
          subst_vars
          first | exact hk | (simp only [ln_set] at hk ⊢; exact hk)
  · clear hq16
    rcases q with _ | ⟨i15_l, i15_x⟩
    · try dsimp only at h
      conv => arg 1; cbv
      obtain rfl := Option.some.inj h
      subst_vars
      exact sat_pure rfl
    · try dsimp only at h
      conv => arg 1; cbv
      obtain rfl := Option.some.inj h
      subst_vars
      exact sat_pure rfl
set_option maxHeartbeats 4000000 in
theorem ok85 {Ω : Om} {E : Enc} (hΩ : real (call S) = Ω) (hE : theEnc = E) {fu : Nat} {a0 : Sl Field} {a1 : Sl ByteArray} {a2 : (Field → ByteArray → Option (Bool))} {a2_g : Nat} (hf : ∀ {x0 : Field} {x1 : ByteArray} {r : Bool}, a2 x0 x1 = some r → ∀ {args : List PV}, [pv_Field E x0, PV.d (.str x1)] = args → ∀ (st : St), Sat (Ω.cf a2_g args st) (fun q => q = (PV.d (.bool r), st))) {r : Bool} (h : P85 fu a0 a1 a2 = some r) {args : List PV} (ha : [PV.d (.sl (E.L_Field a0.l) (E.X_Field a0.x)), PV.d (.sl (E.L_str a1.l) (E.X_str a1.x)), PV.d (.fn a2_g [])] = args) (st : St) :
    Sat (Ω.cf 85 args st) (fun q => q = (PV.d (.bool r), st)) := by
  subst ha
  rcases a0 with ⟨a0_l, a0_x⟩
  rcases a1 with ⟨a1_l, a1_x⟩
  rw [cf_body hΩ (f := 85) (fn := Tryd.f85) (x := c85) rfl rfl c85_ok rfl rfl rfl]
  unfold P85 at h
  try dsimp only at h
  conv => arg 1; cbv
  refine sat_len hΩ (ro_Field hE) a0_l fun n1 hn2 => ?_
  conv => arg 1; cbv
  refine sat_len hΩ (ro_str hE) a1_l fun n3 hn4 => ?_
  conv => arg 1; cbv
  refine sat_in hΩ ?_
  conv => arg 1; cbv
  replace h := bif_cases h
  rcases h with ⟨hb5, h⟩ | ⟨hb5, h⟩
  · refine sat_brt (by first | exact hb5 | ((try clear h); subst_vars; first | exact hb5 | rfl)) ?_
    conv => arg 1; cbv
    obtain rfl := Option.some.inj h
    subst_vars
    exact sat_pure rfl
  · refine sat_brf (by first | exact hb5 | ((try clear h); subst_vars; first | exact hb5 | rfl)) ?_
    conv => arg 1; cbv
    refine sat_len hΩ (ro_Field hE) a0_l fun n6 hn7 => ?_
    conv => arg 1; cbv
    replace h := Option.bind_eq_some_iff.1 h
    obtain ⟨q, hl17, h⟩ := h
    refine sat_loop hΩ (fun (a : Int) => (match a with | i8 => ([(0, PV.d (.sl (E.L_Field a0_l) (E.X_Field a0_x))), (1, PV.d (.sl (E.L_str a1_l) (E.X_str a1_x))), (2, PV.d (.fn a2_g [])), (6, PV.d (.bool false)), (15, PV.d (.sl (E.L_Field a0_l) (E.X_Field a0_x))), (16, PV.d (.int .i64 n6)), (17, PV.d (.int .i64 i8))], ([] : List X.Obj) :: st))) (fun (q : Int ⊕ Int) => (match q with | .inl o18 => (.exit 0, [(0, PV.d (.sl (E.L_Field a0_l) (E.X_Field a0_x))), (1, PV.d (.sl (E.L_str a1_l) (E.X_str a1_x))), (2, PV.d (.fn a2_g [])), (6, PV.d (.bool false)), (15, PV.d (.sl (E.L_Field a0_l) (E.X_Field a0_x))), (16, PV.d (.int .i64 n6)), (17, PV.d (.int .i64 o18))], ([] : List X.Obj) :: st) | .inr o19 => (.ret, [(0, PV.d (.sl (E.L_Field a0_l) (E.X_Field a0_x))), (1, PV.d (.sl (E.L_str a1_l) (E.X_str a1_x))), (2, PV.d (.fn a2_g [])), (6, PV.d (.bool false)), (15, PV.d (.sl (E.L_Field a0_l) (E.X_Field a0_x))), (16, PV.d (.int .i64 n6)), (17, PV.d (.int .i64 o19))], ([] : List X.Obj) :: st))) 0 hl17 ?_ ?_
    · clear h hl17
      rintro i8 q h
      unfold P85_s0 at h
      dsimp only at h
      conv => arg 1; cbv
      refine sat_in hΩ ?_
      conv => arg 1; cbv
      replace h := bif_cases h
      rcases h with ⟨hb9, h⟩ | ⟨hb9, h⟩
      · refine sat_brt (by first | exact hb9 | ((try clear h); subst_vars; first | exact hb9 | rfl)) ?_
        conv => arg 1; cbv
        refine sat_true (fits_l hΩ (ro_Field hE) a0_l) ?_
        conv => arg 1; cbv
        replace h := Option.bind_eq_some_iff.1 h
        obtain ⟨⟨x10_a, ⟨x10_ba, x10_bb, x10_bc, ⟨x10_bdl, x10_bdx⟩, ⟨x10_bel, x10_bex⟩, x10_bf, x10_bg, x10_bh⟩⟩, hx11, h⟩ := h
        try dsimp only at h
        refine sat_bind (nth_ok hΩ (ro_Field hE) hx11) ?_
        conv => arg 1; cbv
        refine sat_true (fits_l hΩ (ro_str hE) a1_l) ?_
        conv => arg 1; cbv
        replace h := Option.bind_eq_some_iff.1 h
        obtain ⟨x12, hx13, h⟩ := h
        refine sat_bind (nth_ok hΩ (ro_str hE) hx13) ?_
        conv => arg 1; cbv
        replace h := Option.bind_eq_some_iff.1 h
        obtain ⟨r14, hx15, h⟩ := h
        refine sat_call (hf hx15 (by (try clear h); subst_vars; rfl) _) ?_
        conv => arg 1; cbv
        refine sat_in hΩ ?_
        conv => arg 1; cbv
        replace h := bif_cases h
        rcases h with ⟨hb16, h⟩ | ⟨hb16, h⟩
        · refine sat_brt (by first | exact hb16 | ((try clear h); subst_vars; first | exact hb16 | rfl)) ?_
          conv => arg 1; cbv
          obtain rfl := Option.some.inj h
          subst_vars
          first | exact sat_pure (.inr ⟨rfl, rfl⟩) | (refine sat_pure (.inr ⟨rfl, ?_⟩); dsimp only; simp only [ln_set]; rfl)
        · refine sat_brf (by first | exact hb16 | ((try clear h); subst_vars; first | exact hb16 | rfl)) ?_
          conv => arg 1; cbv
          obtain rfl := Option.some.inj h
          subst_vars
          first | exact sat_pure ⟨rfl, rfl, rfl⟩ | (refine sat_pure ⟨rfl, ?_, ?_⟩ <;> first | rfl | (dsimp only; simp only [ln_set]; rfl))
      · refine sat_brf (by first | exact hb9 | ((try clear h); subst_vars; first | exact hb9 | rfl)) ?_
        conv => arg 1; cbv
        obtain rfl := Option.some.inj h
        subst_vars
        first | exact sat_pure (.inl ⟨⟨_, rfl⟩, rfl⟩) | (refine sat_pure (.inl ⟨⟨_, rfl⟩, ?_⟩); dsimp only; simp only [ln_set]; rfl)
    · clear hl17
      rcases q with o18 | o19
      · dsimp only at h
        conv => arg 1; cbv
        obtain rfl := Option.some.inj h
        subst_vars
        exact sat_pure rfl
      · dsimp only at h
        conv => arg 1; cbv
        obtain rfl := Option.some.inj h
        subst_vars
        exact sat_pure rfl
set_option maxHeartbeats 4000000 in
theorem ok86 {Ω : Om} {E : Enc} (hΩ : real (call S) = Ω) (hE : theEnc = E) {fu : Nat} {a0 : Field} {a1 : ByteArray} {r : Bool} (h : P86 fu a0 a1 = some r) {args : List PV} (ha : [pv_Field E a0, PV.d (.str a1)] = args) (st : St) :
    Sat (Ω.cf 86 args st) (fun q => q = (PV.d (.bool r), st)) := by
  subst ha
  rcases a0 with ⟨a0_a, ⟨a0_ba, a0_bb, a0_bc, ⟨a0_bdl, a0_bdx⟩, ⟨a0_bel, a0_bex⟩, a0_bf, a0_bg, a0_bh⟩⟩
  rw [cf_body hΩ (f := 86) (fn := Tryd.f86) (x := c86) rfl rfl c86_ok rfl rfl rfl]
  unfold P86 at h
  try dsimp only at h
  conv => arg 1; cbv
  obtain rfl := Option.some.inj h
  subst_vars
  exact sat_pure rfl
set_option maxHeartbeats 4000000 in
theorem ok52 {Ω : Om} {E : Enc} (hΩ : real (call S) = Ω) (hE : theEnc = E) {fu : Nat} {a0 : Value} {r : Bool} (h : P52 fu a0 = some r) {args : List PV} (ha : [pv_Value E a0] = args) (st : St) :
    Sat (Ω.cf 52 args st) (fun q => q = (PV.d (.bool r), st)) := by
  subst ha
  rcases a0 with ⟨a0_a, a0_b, a0_c, ⟨a0_dl, a0_dx⟩, ⟨a0_el, a0_ex⟩, a0_f, a0_g, a0_h⟩
  rw [cf_body hΩ (f := 52) (fn := Tryd.f52) (x := c52) rfl rfl c52_ok rfl rfl rfl]
  unfold P52 at h
  try dsimp only at h
  conv => arg 1; cbv
  replace h := Option.bind_eq_some_iff.1 h
  obtain ⟨q, hq26, h⟩ := h
  refine sat_grp hΩ ((fun (q : Bool) => (match q with | i6 => ([(0, PV.agg [.d (.int .u8 a0_a), .d (.int .i64 a0_b), .d (.str a0_c), .d (.sl (E.L_Value a0_dl) (E.X_Value a0_dx)), .d (.sl (E.L_Field a0_el) (E.X_Field a0_ex)), .d (.int .u8 a0_f), .d (.str a0_g), .d (.bool a0_h)]), (1, PV.eptr [.int .u8 a0_a, .int .i64 a0_b, .str a0_c, .sl (E.L_Value a0_dl) (E.X_Value a0_dx), .sl (E.L_Field a0_el) (E.X_Field a0_ex), .int .u8 a0_f, .str a0_g, .bool a0_h]), (2, PV.d (.bool false)), (33, PV.d (.bool i6))], ([] : List X.Obj) :: st))) q) (fun k hk => ?_) ?_
  · clear h
    have h := hq26
    clear hq26
    conv => arg 1; cbv
    replace h := bif_cases h
    rcases h with ⟨hb1, h⟩ | ⟨hb1, h⟩
    · refine sat_brt (by first | exact hb1 | ((try clear h); subst_vars; first | exact hb1 | rfl)) ?_
      conv => arg 1; cbv
      replace h := bif_cases h
      rcases h with ⟨hb2, h⟩ | ⟨hb2, h⟩
      · refine sat_brt (by first | exact hb2 | ((try clear h); subst_vars; first | exact hb2 | rfl)) ?_
        conv => arg 1; cbv
        refine sat_tick hΩ ?_
        conv => arg 1; cbv
        replace h := bif_cases h
        rcases h with ⟨hb3, h⟩ | ⟨hb3, h⟩
        · refine sat_brt (by first | exact hb3 | ((try clear h); subst_vars; first | exact hb3 | rfl)) ?_
          conv => arg 1; cbv
          replace h := bif_cases h
          rcases h with ⟨hb4, h⟩ | ⟨hb4, h⟩
          · refine sat_brt (by first | exact hb4 | ((try clear h); subst_vars; first | exact hb4 | rfl)) ?_
            conv => arg 1; cbv
            refine sat_tick hΩ ?_
            conv => arg 1; cbv
            replace h := bif_cases h
            rcases h with ⟨hb5, h⟩ | ⟨hb5, h⟩
            · refine sat_brt (by first | exact hb5 | ((try clear h); subst_vars; first | exact hb5 | rfl)) ?_
              conv => arg 1; cbv
              obtain rfl := Option.some.inj h
              subst_vars
              first | exact hk | (simp only [ln_set] at hk ⊢; exact hk)
            · refine sat_brf (by first | exact hb5 | ((try clear h); subst_vars; first | exact hb5 | rfl)) ?_
              conv => arg 1; cbv
              obtain rfl := Option.some.inj h
              subst_vars
              first | exact hk | (simp only [ln_set] at hk ⊢; exact hk)
          · refine sat_brf (by first | exact hb4 | ((try clear h); subst_vars; first | exact hb4 | rfl)) ?_
            conv => arg 1; cbv
            refine sat_tick hΩ ?_
            conv => arg 1; cbv
            obtain rfl := Option.some.inj h
            subst_vars
            first | exact hk | (simp only [ln_set] at hk ⊢; exact hk)
        · refine sat_brf (by first | exact hb3 | ((try clear h); subst_vars; first | exact hb3 | rfl)) ?_
          conv => arg 1; cbv
          refine sat_tick hΩ ?_
          conv => arg 1; cbv
          obtain rfl := Option.some.inj h
          subst_vars
          first | exact hk | (simp only [ln_set] at hk ⊢; exact hk)
      · refine sat_brf (by first | exact hb2 | ((try clear h); subst_vars; first | exact hb2 | rfl)) ?_
        conv => arg 1; cbv
        refine sat_tick hΩ ?_
        conv => arg 1; cbv
        refine sat_tick hΩ ?_
        conv => arg 1; cbv
        obtain rfl := Option.some.inj h
        subst_vars
        first | exact hk | (simp only [ln_set] at hk ⊢; exact hk)
    · refine sat_brf (by first | exact hb1 | ((try clear h); subst_vars; first | exact hb1 | rfl)) ?_
      conv => arg 1; cbv
      refine sat_tick hΩ ?_
      conv => arg 1; cbv
      refine sat_tick hΩ ?_
      conv => arg 1; cbv
      obtain rfl := Option.some.inj h
      subst_vars
      first | exact hk | (simp only [ln_set] at hk ⊢; exact hk)
  · clear hq26
    obtain ⟨i6, hqq⟩ : ∃ x, x = q := ⟨_, rfl⟩
    subst hqq
    try dsimp only at h
    conv => arg 1; cbv
    refine sat_in hΩ ?_
    conv => arg 1; cbv
    replace h := bif_cases h
    rcases h with ⟨hb7, h⟩ | ⟨hb7, h⟩
    · refine sat_brt (by first | exact hb7 | ((try clear h); subst_vars; first | exact hb7 | rfl)) ?_
      conv => arg 1; cbv
      obtain rfl := Option.some.inj h
      subst_vars
      exact sat_pure rfl
    · refine sat_brf (by first | exact hb7 | ((try clear h); subst_vars; first | exact hb7 | rfl)) ?_
      conv => arg 1; cbv
      replace h := Option.bind_eq_some_iff.1 h
      obtain ⟨⟨⟨r8_l, r8_x⟩, r9⟩, hx10, h⟩ := h
      try dsimp only at h
      refine sat_call (ok84 hΩ hE hx10 (by (try clear h); subst_vars; rfl) _) ?_
      conv => arg 1; cbv
      replace h := Option.bind_eq_some_iff.1 h
      obtain ⟨q, hq25, h⟩ := h
      refine sat_grp hΩ ((fun (q : Bool) => (match q with | i14 => ([(0, PV.agg [.d (.int .u8 a0_a), .d (.int .i64 a0_b), .d (.str a0_c), .d (.sl (E.L_Value a0_dl) (E.X_Value a0_dx)), .d (.sl (E.L_Field a0_el) (E.X_Field a0_ex)), .d (.int .u8 a0_f), .d (.str a0_g), .d (.bool a0_h)]), (1, PV.eptr [.int .u8 a0_a, .int .i64 a0_b, .str a0_c, .sl (E.L_Value a0_dl) (E.X_Value a0_dx), .sl (E.L_Field a0_el) (E.X_Field a0_ex), .int .u8 a0_f, .str a0_g, .bool a0_h]), (2, PV.d (.bool false)), (3, PV.d (.sl (E.L_str r8_l) (E.X_str r8_x))), (4, PV.d (.bool r9)), (47, PV.d (.bool i14))], ([] : List X.Obj) :: st))) q) (fun k hk => ?_) ?_
      · clear h
        have h := hq25
        clear hq25
        conv => arg 1; cbv
        replace h := bif_cases h
        rcases h with ⟨hb11, h⟩ | ⟨hb11, h⟩
        · refine sat_brt (by first | exact hb11 | ((try clear h); subst_vars; first | exact hb11 | rfl)) ?_
          conv => arg 1; cbv
          replace h := Option.bind_eq_some_iff.1 h
          obtain ⟨r12, hx13, h⟩ := h
          refine sat_call (ok85 hΩ hE (hf := fun h => @fun args ha st => ok86 hΩ hE h ha st) hx13 (by (try clear h); subst_vars; rfl) _) ?_
          conv => arg 1; cbv
          obtain rfl := Option.some.inj h
          subst_vars
          first | exact hk | (simp only [ln_set] at hk ⊢; exact hk)
        · refine sat_brf (by first | exact hb11 | ((try clear h); subst_vars; first | exact hb11 | rfl)) ?_
          conv => arg 1; cbv
          obtain rfl := Option.some.inj h
          subst_vars
          first | exact hk | (simp only [ln_set] at hk ⊢; exact hk)
      · clear hq25
        obtain ⟨i14, hqq⟩ : ∃ x, x = q := ⟨_, rfl⟩
        subst hqq
        try dsimp only at h
        conv => arg 1; cbv
        refine sat_in hΩ ?_
        conv => arg 1; cbv
        replace h := bif_cases h
        rcases h with ⟨hb15, h⟩ | ⟨hb15, h⟩
        · refine sat_brt (by first | exact hb15 | ((try clear h); subst_vars; first | exact hb15 | rfl)) ?_
          conv => arg 1; cbv
          obtain rfl := Option.some.inj h
          subst_vars
          exact sat_pure rfl
        · refine sat_brf (by first | exact hb15 | ((try clear h); subst_vars; first | exact hb15 | rfl)) ?_
          conv => arg 1; cbv
          replace h := Option.bind_eq_some_iff.1 h
          obtain ⟨q, hq24, h⟩ := h
          refine sat_grp hΩ ((fun (q : Bool) => (match q with | i20 => (.normal, [(0, PV.agg [.d (.int .u8 a0_a), .d (.int .i64 a0_b), .d (.str a0_c), .d (.sl (E.L_Value a0_dl) (E.X_Value a0_dx)), .d (.sl (E.L_Field a0_el) (E.X_Field a0_ex)), .d (.int .u8 a0_f), .d (.str a0_g), .d (.bool a0_h)]), (1, PV.eptr [.int .u8 a0_a, .int .i64 a0_b, .str a0_c, .sl (E.L_Value a0_dl) (E.X_Value a0_dx), .sl (E.L_Field a0_el) (E.X_Field a0_ex), .int .u8 a0_f, .str a0_g, .bool a0_h]), (2, PV.d (.bool false)), (3, PV.d (.sl (E.L_str r8_l) (E.X_str r8_x))), (4, PV.d (.bool r9)), (49, PV.d (.int .u8 a0_f)), (50, PV.d (.bool i20))], ([] : List X.Obj) :: st))) q) (fun k hk => ?_) ?_
          · clear h
            have h := hq24
            clear hq24
            conv => arg 1; cbv
            replace h := bif_cases h
            rcases h with ⟨hb16, h⟩ | ⟨hb16, h⟩
            · refine sat_brt (by first | exact hb16 | ((try clear h); subst_vars; first | exact hb16 | rfl)) ?_
              conv => arg 1; cbv
              obtain rfl := Option.some.inj h
              subst_vars
              first | exact hk | (simp only [ln_set] at hk ⊢; exact hk)
            · refine sat_brf (by first | exact hb16 | ((try clear h); subst_vars; first | exact hb16 | rfl)) ?_
              conv => arg 1; cbv
              replace h := Option.bind_eq_some_iff.1 h
              obtain ⟨q, hq19, h⟩ := h
              refine sat_grp hΩ ((fun (q : Bool) => (match q with | i18 => (.normal, [(0, PV.agg [.d (.int .u8 a0_a), .d (.int .i64 a0_b), .d (.str a0_c), .d (.sl (E.L_Value a0_dl) (E.X_Value a0_dx)), .d (.sl (E.L_Field a0_el) (E.X_Field a0_ex)), .d (.int .u8 a0_f), .d (.str a0_g), .d (.bool a0_h)]), (1, PV.eptr [.int .u8 a0_a, .int .i64 a0_b, .str a0_c, .sl (E.L_Value a0_dl) (E.X_Value a0_dx), .sl (E.L_Field a0_el) (E.X_Field a0_ex), .int .u8 a0_f, .str a0_g, .bool a0_h]), (2, PV.d (.bool false)), (3, PV.d (.sl (E.L_str r8_l) (E.X_str r8_x))), (4, PV.d (.bool r9)), (49, PV.d (.int .u8 a0_f)), (50, PV.d (.bool i18))], ([] : List X.Obj) :: st))) q) (fun k hk => ?_) ?_
              · clear h
                have h := hq19
                clear hq19
                conv => arg 1; cbv
                replace h := bif_cases h
                rcases h with ⟨hb17, h⟩ | ⟨hb17, h⟩
                · refine sat_brt (by first | exact hb17 | ((try clear h); subst_vars; first | exact hb17 | rfl)) ?_
                  conv => arg 1; cbv
                  obtain rfl := Option.some.inj h
                  subst_vars
                  first | exact hk | (simp only [ln_set] at hk ⊢; exact hk)
                · refine sat_brf (by first | exact hb17 | ((try clear h); subst_vars; first | exact hb17 | rfl)) ?_
                  conv => arg 1; cbv
                  obtain rfl := Option.some.inj h
                  subst_vars
                  first | exact hk | (simp only [ln_set] at hk ⊢; exact hk)
              · clear hq19
                obtain ⟨i18, hqq⟩ : ∃ x, x = q := ⟨_, rfl⟩
                subst hqq
                try dsimp only at h
                conv => arg 1; cbv
                obtain rfl := Option.some.inj h
                subst_vars
                first | exact hk | (simp only [ln_set] at hk ⊢; exact hk)
          · clear hq24
            obtain ⟨i20, hqq⟩ : ∃ x, x = q := ⟨_, rfl⟩
            subst hqq
            try dsimp only at h
            conv => arg 1; cbv
            refine sat_in hΩ ?_
            conv => arg 1; cbv
            replace h := bif_cases h
            rcases h with ⟨hb21, h⟩ | ⟨hb21, h⟩
            · refine sat_brt (by first | exact hb21 | ((try clear h); subst_vars; first | exact hb21 | rfl)) ?_
              conv => arg 1; cbv
              obtain rfl := Option.some.inj h
              subst_vars
              exact sat_pure rfl
            · refine sat_brf (by first | exact hb21 | ((try clear h); subst_vars; first | exact hb21 | rfl)) ?_
              conv => arg 1; cbv
              replace h := Option.bind_eq_some_iff.1 h
              obtain ⟨r22, hx23, h⟩ := h
              refine sat_call (ok51 hΩ hE hx23 (by (try clear h); subst_vars; rfl) _) ?_
              conv => arg 1; cbv
              obtain rfl := Option.some.inj h
              subst_vars
              exact sat_pure rfl
set_option maxHeartbeats 4000000 in
theorem ok87 {Ω : Om} {E : Enc} (hΩ : real (call S) = Ω) (hE : theEnc = E) {fu : Nat} {a0 : Sl Int} {a1 : Int} {r : Int} (h : P87 fu a0 a1 = some r) {args : List PV} (ha : [PV.d (.sl (E.L_i_u8 a0.l) (E.X_i_u8 a0.x)), PV.d (.int .u8 a1)] = args) (st : St) :
    Sat (Ω.cf 87 args st) (fun q => q = (PV.d (.int .i64 r), st)) := by
  subst ha
  rcases a0 with ⟨a0_l, a0_x⟩
  rw [cf_body hΩ (f := 87) (fn := Tryd.f87) (x := c87) rfl rfl c87_ok rfl rfl rfl]
  unfold P87 at h
  try dsimp only at h
  conv => arg 1; cbv
  refine sat_len hΩ (ro_i_u8 hE) a0_l fun n1 hn2 => ?_
  conv => arg 1; cbv
  replace h := Option.bind_eq_some_iff.1 h
  obtain ⟨q, hl9, h⟩ := h
  refine sat_loop hΩ (fun (a : Int × Int) => (match a with | (i3, i4) => ([(0, PV.d (.sl (E.L_i_u8 a0_l) (E.X_i_u8 a0_x))), (1, PV.d (.int .u8 a1)), (4, PV.d (.int .i64 i3)), (7, PV.d (.int .i64 n1)), (8, PV.d (.int .i64 i4))], ([] : List X.Obj) :: st))) (fun (q : (Int × Int) ⊕ (Int × Int)) => (match q with | .inl (o10, o11) => (.exit 0, [(0, PV.d (.sl (E.L_i_u8 a0_l) (E.X_i_u8 a0_x))), (1, PV.d (.int .u8 a1)), (4, PV.d (.int .i64 o10)), (7, PV.d (.int .i64 n1)), (8, PV.d (.int .i64 o11))], ([] : List X.Obj) :: st) | .inr (o12, o13) => (.ret, [(0, PV.d (.sl (E.L_i_u8 a0_l) (E.X_i_u8 a0_x))), (1, PV.d (.int .u8 a1)), (4, PV.d (.int .i64 o12)), (7, PV.d (.int .i64 n1)), (8, PV.d (.int .i64 o13))], ([] : List X.Obj) :: st))) (0, 0) hl9 ?_ ?_
  · clear h hl9
    rintro ⟨i3, i4⟩ q h
    unfold P87_s0 at h
    dsimp only at h
    conv => arg 1; cbv
    refine sat_in hΩ ?_
    conv => arg 1; cbv
    replace h := bif_cases h
    rcases h with ⟨hb5, h⟩ | ⟨hb5, h⟩
    · refine sat_brt (by first | exact hb5 | ((try clear h); subst_vars; first | exact hb5 | rfl)) ?_
      conv => arg 1; cbv
      refine sat_true (fits_l hΩ (ro_i_u8 hE) a0_l) ?_
      conv => arg 1; cbv
      replace h := Option.bind_eq_some_iff.1 h
      obtain ⟨x6, hx7, h⟩ := h
      refine sat_bind (nth_ok hΩ (ro_i_u8 hE) hx7) ?_
      conv => arg 1; cbv
      refine sat_in hΩ ?_
      conv => arg 1; cbv
      replace h := bif_cases h
      rcases h with ⟨hb8, h⟩ | ⟨hb8, h⟩
      · refine sat_brt (by first | exact hb8 | ((try clear h); subst_vars; first | exact hb8 | rfl)) ?_
        conv => arg 1; cbv
        obtain rfl := Option.some.inj h
        subst_vars
        first | exact sat_pure (.inr ⟨rfl, rfl⟩) | (refine sat_pure (.inr ⟨rfl, ?_⟩); dsimp only; simp only [ln_set]; rfl)
      · refine sat_brf (by first | exact hb8 | ((try clear h); subst_vars; first | exact hb8 | rfl)) ?_
        conv => arg 1; cbv
        obtain rfl := Option.some.inj h
        subst_vars
        first | exact sat_pure ⟨rfl, rfl, rfl⟩ | (refine sat_pure ⟨rfl, ?_, ?_⟩ <;> first | rfl | (dsimp only; simp only [ln_set]; rfl))
    · refine sat_brf (by first | exact hb5 | ((try clear h); subst_vars; first | exact hb5 | rfl)) ?_
      conv => arg 1; cbv
      obtain rfl := Option.some.inj h
      subst_vars
      first | exact sat_pure (.inl ⟨⟨_, rfl⟩, rfl⟩) | (refine sat_pure (.inl ⟨⟨_, rfl⟩, ?_⟩); dsimp only; simp only [ln_set]; rfl)
  · clear hl9
    rcases q with ⟨o10, o11⟩ | ⟨o12, o13⟩
    · dsimp only at h
      conv => arg 1; cbv
      obtain rfl := Option.some.inj h
      subst_vars
      exact sat_pure rfl
    · dsimp only at h
      conv => arg 1; cbv
      obtain rfl := Option.some.inj h
      subst_vars
      exact sat_pure rfl
set_option maxHeartbeats 4000000 in
theorem ok54 {Ω : Om} {E : Enc} (hΩ : real (call S) = Ω) (hE : theEnc = E) {fu : Nat} {a0 : Sl Int} {a1 : Int} {r : Bool} (h : P54 fu a0 a1 = some r) {args : List PV} (ha : [PV.d (.sl (E.L_i_u8 a0.l) (E.X_i_u8 a0.x)), PV.d (.int .u8 a1)] = args) (st : St) :
    Sat (Ω.cf 54 args st) (fun q => q = (PV.d (.bool r), st)) := by
  subst ha
  rcases a0 with ⟨a0_l, a0_x⟩
  rw [cf_body hΩ (f := 54) (fn := Tryd.f54) (x := c54) rfl rfl c54_ok rfl rfl rfl]
  unfold P54 at h
  try dsimp only at h
  conv => arg 1; cbv
  replace h := Option.bind_eq_some_iff.1 h
  obtain ⟨r1, hx2, h⟩ := h
  refine sat_call (ok87 hΩ hE hx2 (by (try clear h); subst_vars; rfl) _) ?_
  conv => arg 1; cbv
  obtain rfl := Option.some.inj h
  subst_vars
  exact sat_pure rfl
set_option maxHeartbeats 4000000 in
theorem ok53x1 {Ω : Om} {E : Enc} (hΩ : real (call S) = Ω) (hE : theEnc = E) {fu : Nat} {a0 : Sl Int} {a1 : Value} {r : Bool} (h : P53x1 fu a0 a1 = some r) {args : List PV} (ha : [PV.d (.sl (E.L_i_u8 a0.l) (E.X_i_u8 a0.x)), PV.eptr (ce_Value E a1)] = args) (st : St) :
    Sat (Ω.cf 53 args st) (fun q => q = (PV.d (.bool r), st)) := by
  subst ha
  rcases a0 with ⟨a0_l, a0_x⟩
  rcases a1 with ⟨a1_a, a1_b, a1_c, ⟨a1_dl, a1_dx⟩, ⟨a1_el, a1_ex⟩, a1_f, a1_g, a1_h⟩
  rw [cf_body hΩ (f := 53) (fn := Tryd.f53) (x := c53) rfl rfl c53_ok rfl rfl rfl]
  unfold P53x1 at h
  try dsimp only at h
  conv => arg 1; cbv
  replace h := Option.bind_eq_some_iff.1 h
  obtain ⟨r1, hx2, h⟩ := h
  refine sat_call (ok54 hΩ hE hx2 (by (try clear h); subst_vars; rfl) _) ?_
  conv => arg 1; cbv
  obtain rfl := Option.some.inj h
  subst_vars
  exact sat_pure rfl
end Go.Proofs.YtdmpjlpkmokllaaDoor
