/- The interpreter computes just these functions: printed by a small program. -/
import Derived.Test.YtipkggkbldgmjaaKQO3
namespace Go.Proofs.Ytipkggkbldgmjaa
open Go Go.X
set_option linter.unusedVariables false
set_option linter.unusedSimpArgs false
set_option maxRecDepth 100000
set_option maxHeartbeats 4000000 in
theorem ok6 {Ω : Om} {E : Enc} (hΩ : real (call S) = Ω) (hE : theEnc = E) {fu : Nat} {a0 : Law13Kept} {r : Bool} (h : P6 fu a0 = some r) {args : List PV} (ha : [pv_Law13Kept E a0] = args) (st : St) :
    Sat (Ω.cf 6 args st) (fun q => q = (PV.d (.bool r), st)) := by
  subst ha
  rcases a0 with ⟨⟨a0_L_l, a0_L_x⟩, a0_Name, a0_Other, ⟨a0_Value__Kind, a0_Value__N, a0_Value__S, ⟨a0_Value__L_l, a0_Value__L_x⟩, ⟨a0_Value__F_l, a0_Value__F_x⟩, a0_Value__Elem, a0_Value__Key, a0_Value__HasKey⟩⟩
  rw [cf_body hΩ (f := 6) (fn := Try.f6) (x := c6) rfl rfl c6_ok rfl rfl]
  unfold P6 at h
  try dsimp only at h
  conv => arg 1; cbv
  obtain ⟨⟨⟨r1_l, r1_x⟩, r2⟩, hx3, hz⟩ := Option.bind_eq_some_iff.1 h
  clear h
  have h := hz
  clear hz
  try dsimp only at h
  refine sat_call (ok18 hΩ hE hx3 (by (try clear h); subst_vars; rfl) _) ?_
  conv => arg 1; cbv
  refine sat_in hΩ ?_
  conv => arg 1; cbv
  replace h := bif_cases h
  rcases h with ⟨hb4, h⟩ | ⟨hb4, h⟩
  · refine sat_brt (by first | exact hb4 | ((try clear h); subst_vars; first | exact hb4 | rfl)) ?_
    conv => arg 1; cbv
    obtain ⟨q, hq11, hz⟩ := Option.bind_eq_some_iff.1 h
    clear h
    have h := hz
    clear hz
    refine sat_grp hΩ ((fun (q : Bool) => (match q with | i10 => ([(0, PV.agg [.d (.sl (E.L_Cell a0_L_l) (E.X_Cell a0_L_x)), .d (.str a0_Name), .d (.str a0_Other), .d (.int .u8 a0_Value__Kind), .d (.int .i64 a0_Value__N), .d (.str a0_Value__S), .d (.sl (E.L_Value a0_Value__L_l) (E.X_Value a0_Value__L_x)), .d (.sl (E.L_Field a0_Value__F_l) (E.X_Field a0_Value__F_x)), .d (.int .u8 a0_Value__Elem), .d (.str a0_Value__Key), .d (.bool a0_Value__HasKey)]), (1, PV.ptr 0 0 0), (2, PV.d (.bool i10)), (3, PV.d (.sl (E.L_Cell a0_L_l) (E.X_Cell a0_L_x))), (4, PV.d (.str a0_Name)), (5, PV.d (.str a0_Other)), (6, PV.ptr 0 1 0), (7, PV.d (.sl (E.L_Cell r1_l) (E.X_Cell r1_x))), (8, PV.d (.bool r2))], ([X.Obj.box 38 [.d (.sl (E.L_Cell a0_L_l) (E.X_Cell a0_L_x)), .d (.str a0_Name), .d (.str a0_Other), .d (.int .u8 a0_Value__Kind), .d (.int .i64 a0_Value__N), .d (.str a0_Value__S), .d (.sl (E.L_Value a0_Value__L_l) (E.X_Value a0_Value__L_x)), .d (.sl (E.L_Field a0_Value__F_l) (E.X_Field a0_Value__F_x)), .d (.int .u8 a0_Value__Elem), .d (.str a0_Value__Key), .d (.bool a0_Value__HasKey)], X.Obj.box 27 [.d (.int .u8 a0_Value__Kind), .d (.int .i64 a0_Value__N), .d (.str a0_Value__S), .d (.sl (E.L_Value a0_Value__L_l) (E.X_Value a0_Value__L_x)), .d (.sl (E.L_Field a0_Value__F_l) (E.X_Field a0_Value__F_x)), .d (.int .u8 a0_Value__Elem), .d (.str a0_Value__Key), .d (.bool a0_Value__HasKey)]] : List X.Obj) :: st))) q) (fun k hk => ?_) ?_
    · clear h
      have h := hq11
      clear hq11
      conv => arg 1; cbv
      refine sat_len hΩ (ro_Cell hE) r1_l (by first | rfl | ((try clear h); subst_vars; rfl)) fun n5 hn6 => ?_
      conv => arg 1; cbv
      replace h := bif_cases h
      rcases h with ⟨hb7, h⟩ | ⟨hb7, h⟩
      · refine sat_brt (by first | exact hb7 | ((try clear h); subst_vars; first | exact hb7 | rfl)) ?_
        conv => arg 1; cbv
        obtain ⟨r8, hx9, hz⟩ := Option.bind_eq_some_iff.1 h
        clear h
        have h := hz
        clear hz
        refine sat_call (ok17 hΩ hE hx9 (by (try clear h); subst_vars; rfl) _) ?_
        conv => arg 1; cbv
        obtain rfl := Option.some.inj h
        subst_vars
        first | exact hk | (simp only [ln_set] at hk ⊢; exact hk)
      · refine sat_brf (by first | exact hb7 | ((try clear h); subst_vars; first | exact hb7 | rfl)) ?_
        conv => arg 1; cbv
        obtain rfl := Option.some.inj h
        subst_vars
        first | exact hk | (simp only [ln_set] at hk ⊢; exact hk)
    · clear hq11
      obtain ⟨i10, hqq⟩ : ∃ x, x = q := ⟨_, rfl⟩
      subst hqq
      try dsimp only at h
      conv => arg 1; cbv
      obtain rfl := Option.some.inj h
      subst_vars
      exact sat_pure rfl
  · refine sat_brf (by first | exact hb4 | ((try clear h); subst_vars; first | exact hb4 | rfl)) ?_
    conv => arg 1; cbv
    obtain ⟨⟨⟨r12_Kind, r12_N, r12_S, ⟨r12_L_l, r12_L_x⟩, ⟨r12_F_l, r12_F_x⟩, r12_Elem, r12_Key, r12_HasKey⟩, r13⟩, hx14, hz⟩ := Option.bind_eq_some_iff.1 h
    clear h
    have h := hz
    clear hz
    try dsimp only at h
    refine sat_call (ok19 hΩ hE hx14 (by (try clear h); subst_vars; rfl) _) ?_
    conv => arg 1; cbv
    obtain ⟨⟨⟨r15_Kind, r15_N, r15_S, ⟨r15_L_l, r15_L_x⟩, ⟨r15_F_l, r15_F_x⟩, r15_Elem, r15_Key, r15_HasKey⟩, r16⟩, hx17, hz⟩ := Option.bind_eq_some_iff.1 h
    clear h
    have h := hz
    clear hz
    try dsimp only at h
    refine sat_call (ok19 hΩ hE hx17 (by (try clear h); subst_vars; rfl) _) ?_
    conv => arg 1; cbv
    obtain ⟨⟨⟨r18_Kind, r18_N, r18_S, ⟨r18_L_l, r18_L_x⟩, ⟨r18_F_l, r18_F_x⟩, r18_Elem, r18_Key, r18_HasKey⟩, r19⟩, hx20, hz⟩ := Option.bind_eq_some_iff.1 h
    clear h
    have h := hz
    clear hz
    try dsimp only at h
    refine sat_call (ok19 hΩ hE hx20 (by (try clear h); subst_vars; rfl) _) ?_
    conv => arg 1; cbv
    obtain ⟨q, hq43, hz⟩ := Option.bind_eq_some_iff.1 h
    clear h
    have h := hz
    clear hz
    refine sat_grp hΩ ((fun (q : Bool) => (match q with | i29 => ([(0, PV.agg [.d (.sl (E.L_Cell a0_L_l) (E.X_Cell a0_L_x)), .d (.str a0_Name), .d (.str a0_Other), .d (.int .u8 a0_Value__Kind), .d (.int .i64 a0_Value__N), .d (.str a0_Value__S), .d (.sl (E.L_Value a0_Value__L_l) (E.X_Value a0_Value__L_x)), .d (.sl (E.L_Field a0_Value__F_l) (E.X_Field a0_Value__F_x)), .d (.int .u8 a0_Value__Elem), .d (.str a0_Value__Key), .d (.bool a0_Value__HasKey)]), (1, PV.ptr 0 0 0), (2, PV.d (.bool false)), (3, PV.d (.sl (E.L_Cell a0_L_l) (E.X_Cell a0_L_x))), (4, PV.d (.str a0_Name)), (5, PV.d (.str a0_Other)), (6, PV.ptr 0 1 0), (7, PV.d (.sl (E.L_Cell r1_l) (E.X_Cell r1_x))), (8, PV.d (.bool r2)), (9, PV.ptr 0 2 0), (10, PV.d (.bool r13)), (11, PV.ptr 0 3 0), (12, PV.d (.bool r16)), (13, PV.ptr 0 4 0), (14, PV.d (.bool r19)), (79, PV.d (.bool i29))], ([X.Obj.box 38 [.d (.sl (E.L_Cell a0_L_l) (E.X_Cell a0_L_x)), .d (.str a0_Name), .d (.str a0_Other), .d (.int .u8 a0_Value__Kind), .d (.int .i64 a0_Value__N), .d (.str a0_Value__S), .d (.sl (E.L_Value a0_Value__L_l) (E.X_Value a0_Value__L_x)), .d (.sl (E.L_Field a0_Value__F_l) (E.X_Field a0_Value__F_x)), .d (.int .u8 a0_Value__Elem), .d (.str a0_Value__Key), .d (.bool a0_Value__HasKey)], X.Obj.box 27 [.d (.int .u8 a0_Value__Kind), .d (.int .i64 a0_Value__N), .d (.str a0_Value__S), .d (.sl (E.L_Value a0_Value__L_l) (E.X_Value a0_Value__L_x)), .d (.sl (E.L_Field a0_Value__F_l) (E.X_Field a0_Value__F_x)), .d (.int .u8 a0_Value__Elem), .d (.str a0_Value__Key), .d (.bool a0_Value__HasKey)], X.Obj.box 27 [.d (.int .u8 r12_Kind), .d (.int .i64 r12_N), .d (.str r12_S), .d (.sl (E.L_Value r12_L_l) (E.X_Value r12_L_x)), .d (.sl (E.L_Field r12_F_l) (E.X_Field r12_F_x)), .d (.int .u8 r12_Elem), .d (.str r12_Key), .d (.bool r12_HasKey)], X.Obj.box 27 [.d (.int .u8 r15_Kind), .d (.int .i64 r15_N), .d (.str r15_S), .d (.sl (E.L_Value r15_L_l) (E.X_Value r15_L_x)), .d (.sl (E.L_Field r15_F_l) (E.X_Field r15_F_x)), .d (.int .u8 r15_Elem), .d (.str r15_Key), .d (.bool r15_HasKey)], X.Obj.box 27 [.d (.int .u8 r18_Kind), .d (.int .i64 r18_N), .d (.str r18_S), .d (.sl (E.L_Value r18_L_l) (E.X_Value r18_L_x)), .d (.sl (E.L_Field r18_F_l) (E.X_Field r18_F_x)), .d (.int .u8 r18_Elem), .d (.str r18_Key), .d (.bool r18_HasKey)]] : List X.Obj) :: st))) q) (fun k hk => ?_) ?_
    · clear h
      have h := hq43
      clear hq43
      conv => arg 1; cbv
      replace h := bif_cases h
      rcases h with ⟨hb21, h⟩ | ⟨hb21, h⟩
      · refine sat_brt (by first | exact hb21 | ((try clear h); subst_vars; first | exact hb21 | rfl)) ?_
        conv => arg 1; cbv
        obtain ⟨r22, hx23, hz⟩ := Option.bind_eq_some_iff.1 h
        clear h
        have h := hz
        clear hz
        refine sat_call (ok8 hΩ hE hx23 (by (try clear h); subst_vars; rfl) _) ?_
        conv => arg 1; cbv
        replace h := bif_cases h
        rcases h with ⟨hb24, h⟩ | ⟨hb24, h⟩
        · refine sat_brt (by first | exact hb24 | ((try clear h); subst_vars; first | exact hb24 | rfl)) ?_
          conv => arg 1; cbv
          refine sat_tick hΩ ?_
          conv => arg 1; cbv
          replace h := bif_cases h
          rcases h with ⟨hb25, h⟩ | ⟨hb25, h⟩
          · refine sat_brt (by first | exact hb25 | ((try clear h); subst_vars; first | exact hb25 | rfl)) ?_
            conv => arg 1; cbv
            replace h := bif_cases h
            rcases h with ⟨hb26, h⟩ | ⟨hb26, h⟩
            · refine sat_brt (by first | exact hb26 | ((try clear h); subst_vars; first | exact hb26 | rfl)) ?_
              conv => arg 1; cbv
              obtain ⟨r27, hx28, hz⟩ := Option.bind_eq_some_iff.1 h
              clear h
              have h := hz
              clear hz
              refine sat_call (ok8 hΩ hE hx28 (by (try clear h); subst_vars; rfl) _) ?_
              conv => arg 1; cbv
              obtain rfl := Option.some.inj h
              subst_vars
              first | exact hk | (simp only [ln_set] at hk ⊢; exact hk)
            · refine sat_brf (by first | exact hb26 | ((try clear h); subst_vars; first | exact hb26 | rfl)) ?_
              conv => arg 1; cbv
              obtain rfl := Option.some.inj h
              subst_vars
              first | exact hk | (simp only [ln_set] at hk ⊢; exact hk)
          · refine sat_brf (by first | exact hb25 | ((try clear h); subst_vars; first | exact hb25 | rfl)) ?_
            conv => arg 1; cbv
            obtain rfl := Option.some.inj h
            subst_vars
            first | exact hk | (simp only [ln_set] at hk ⊢; exact hk)
        · refine sat_brf (by first | exact hb24 | ((try clear h); subst_vars; first | exact hb24 | rfl)) ?_
          conv => arg 1; cbv
          refine sat_tick hΩ ?_
          conv => arg 1; cbv
          obtain rfl := Option.some.inj h
          subst_vars
          first | exact hk | (simp only [ln_set] at hk ⊢; exact hk)
      · refine sat_brf (by first | exact hb21 | ((try clear h); subst_vars; first | exact hb21 | rfl)) ?_
        conv => arg 1; cbv
        refine sat_tick hΩ ?_
        conv => arg 1; cbv
        obtain rfl := Option.some.inj h
        subst_vars
        first | exact hk | (simp only [ln_set] at hk ⊢; exact hk)
    · clear hq43
      obtain ⟨i29, hqq⟩ : ∃ x, x = q := ⟨_, rfl⟩
      subst hqq
      try dsimp only at h
      conv => arg 1; cbv
      refine sat_in hΩ ?_
      conv => arg 1; cbv
      replace h := bif_cases h
      rcases h with ⟨hb30, h⟩ | ⟨hb30, h⟩
      · refine sat_brt (by first | exact hb30 | ((try clear h); subst_vars; first | exact hb30 | rfl)) ?_
        conv => arg 1; cbv
        obtain rfl := Option.some.inj h
        subst_vars
        exact sat_pure rfl
      · refine sat_brf (by first | exact hb30 | ((try clear h); subst_vars; first | exact hb30 | rfl)) ?_
        conv => arg 1; cbv
        obtain ⟨q, hq42, hz⟩ := Option.bind_eq_some_iff.1 h
        clear h
        have h := hz
        clear hz
        refine sat_grp hΩ ((fun (q : Bool) => (match q with | i41 => ([(0, PV.agg [.d (.sl (E.L_Cell a0_L_l) (E.X_Cell a0_L_x)), .d (.str a0_Name), .d (.str a0_Other), .d (.int .u8 a0_Value__Kind), .d (.int .i64 a0_Value__N), .d (.str a0_Value__S), .d (.sl (E.L_Value a0_Value__L_l) (E.X_Value a0_Value__L_x)), .d (.sl (E.L_Field a0_Value__F_l) (E.X_Field a0_Value__F_x)), .d (.int .u8 a0_Value__Elem), .d (.str a0_Value__Key), .d (.bool a0_Value__HasKey)]), (1, PV.ptr 0 0 0), (2, PV.d (.bool i41)), (3, PV.d (.sl (E.L_Cell a0_L_l) (E.X_Cell a0_L_x))), (4, PV.d (.str a0_Name)), (5, PV.d (.str a0_Other)), (6, PV.ptr 0 1 0), (7, PV.d (.sl (E.L_Cell r1_l) (E.X_Cell r1_x))), (8, PV.d (.bool r2)), (9, PV.ptr 0 2 0), (10, PV.d (.bool r13)), (11, PV.ptr 0 3 0), (12, PV.d (.bool r16)), (13, PV.ptr 0 4 0), (14, PV.d (.bool r19))], ([X.Obj.box 38 [.d (.sl (E.L_Cell a0_L_l) (E.X_Cell a0_L_x)), .d (.str a0_Name), .d (.str a0_Other), .d (.int .u8 a0_Value__Kind), .d (.int .i64 a0_Value__N), .d (.str a0_Value__S), .d (.sl (E.L_Value a0_Value__L_l) (E.X_Value a0_Value__L_x)), .d (.sl (E.L_Field a0_Value__F_l) (E.X_Field a0_Value__F_x)), .d (.int .u8 a0_Value__Elem), .d (.str a0_Value__Key), .d (.bool a0_Value__HasKey)], X.Obj.box 27 [.d (.int .u8 a0_Value__Kind), .d (.int .i64 a0_Value__N), .d (.str a0_Value__S), .d (.sl (E.L_Value a0_Value__L_l) (E.X_Value a0_Value__L_x)), .d (.sl (E.L_Field a0_Value__F_l) (E.X_Field a0_Value__F_x)), .d (.int .u8 a0_Value__Elem), .d (.str a0_Value__Key), .d (.bool a0_Value__HasKey)], X.Obj.box 27 [.d (.int .u8 r12_Kind), .d (.int .i64 r12_N), .d (.str r12_S), .d (.sl (E.L_Value r12_L_l) (E.X_Value r12_L_x)), .d (.sl (E.L_Field r12_F_l) (E.X_Field r12_F_x)), .d (.int .u8 r12_Elem), .d (.str r12_Key), .d (.bool r12_HasKey)], X.Obj.box 27 [.d (.int .u8 r15_Kind), .d (.int .i64 r15_N), .d (.str r15_S), .d (.sl (E.L_Value r15_L_l) (E.X_Value r15_L_x)), .d (.sl (E.L_Field r15_F_l) (E.X_Field r15_F_x)), .d (.int .u8 r15_Elem), .d (.str r15_Key), .d (.bool r15_HasKey)], X.Obj.box 27 [.d (.int .u8 r18_Kind), .d (.int .i64 r18_N), .d (.str r18_S), .d (.sl (E.L_Value r18_L_l) (E.X_Value r18_L_x)), .d (.sl (E.L_Field r18_F_l) (E.X_Field r18_F_x)), .d (.int .u8 r18_Elem), .d (.str r18_Key), .d (.bool r18_HasKey)]] : List X.Obj) :: st))) q) (fun k hk => ?_) ?_
        · clear h
          have h := hq42
          clear hq42
          conv => arg 1; cbv
          obtain ⟨r31, hx32, hz⟩ := Option.bind_eq_some_iff.1 h
          clear h
          have h := hz
          clear hz
          refine sat_call (ok20 hΩ hE hx32 (by (try clear h); subst_vars; rfl) _) ?_
          conv => arg 1; cbv
          replace h := bif_cases h
          rcases h with ⟨hb33, h⟩ | ⟨hb33, h⟩
          · refine sat_brt (by first | exact hb33 | ((try clear h); subst_vars; first | exact hb33 | rfl)) ?_
            conv => arg 1; cbv
            obtain ⟨⟨r34_l, r34_x⟩, hx35, hz⟩ := Option.bind_eq_some_iff.1 h
            clear h
            have h := hz
            clear hz
            try dsimp only at h
            refine sat_call (ok22 hΩ hE hx35 (by (try clear h); subst_vars; rfl) _) ?_
            conv => arg 1; cbv
            obtain ⟨r36, hx37, hz⟩ := Option.bind_eq_some_iff.1 h
            clear h
            have h := hz
            clear hz
            refine sat_call (ok21 hΩ hE hx37 (by (try clear h); subst_vars; rfl) _) ?_
            conv => arg 1; cbv
            replace h := bif_cases h
            rcases h with ⟨hb38, h⟩ | ⟨hb38, h⟩
            · refine sat_brt (by first | exact hb38 | ((try clear h); subst_vars; first | exact hb38 | rfl)) ?_
              conv => arg 1; cbv
              obtain ⟨r39, hx40, hz⟩ := Option.bind_eq_some_iff.1 h
              clear h
              have h := hz
              clear hz
              refine sat_call (ok17 hΩ hE hx40 (by (try clear h); subst_vars; rfl) _) ?_
              conv => arg 1; cbv
              refine sat_tick hΩ ?_
              conv => arg 1; cbv
              obtain rfl := Option.some.inj h
              subst_vars
              first | exact hk | (simp only [ln_set] at hk ⊢; exact hk)
            · refine sat_brf (by first | exact hb38 | ((try clear h); subst_vars; first | exact hb38 | rfl)) ?_
              conv => arg 1; cbv
              refine sat_tick hΩ ?_
              conv => arg 1; cbv
              obtain rfl := Option.some.inj h
              subst_vars
              first | exact hk | (simp only [ln_set] at hk ⊢; exact hk)
          · refine sat_brf (by first | exact hb33 | ((try clear h); subst_vars; first | exact hb33 | rfl)) ?_
            conv => arg 1; cbv
            refine sat_tick hΩ ?_
            conv => arg 1; cbv
            obtain rfl := Option.some.inj h
            subst_vars
            first | exact hk | (simp only [ln_set] at hk ⊢; exact hk)
        · clear hq42
          obtain ⟨i41, hqq⟩ : ∃ x, x = q := ⟨_, rfl⟩
          subst hqq
          try dsimp only at h
          conv => arg 1; cbv
          obtain rfl := Option.some.inj h
          subst_vars
          exact sat_pure rfl
end Go.Proofs.Ytipkggkbldgmjaa
