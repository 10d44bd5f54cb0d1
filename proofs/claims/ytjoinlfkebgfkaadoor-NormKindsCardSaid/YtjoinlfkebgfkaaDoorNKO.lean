/- The interpreter computes just these functions: printed by a small program. -/
import Derived.Test.YtjoinlfkebgfkaaDoorNKD
namespace Go.Proofs.YtjoinlfkebgfkaaDoor
open Go Go.X
set_option linter.unusedVariables false
set_option linter.unusedSimpArgs false
set_option maxRecDepth 100000
set_option maxHeartbeats 4000000 in
theorem ok11 {Ω : Om} {E : Enc} (hΩ : real (call S) = Ω) (hE : theEnc = E) {fu : Nat} {a0 : Child} {a1 : Child} {r : Bool} (h : P11 fu a0 a1 = some r) {args : List PV} (ha : [pv_Child E a0, pv_Child E a1] = args) (st : St) :
    Sat (Ω.cf 11 args st) (fun q => q = (PV.d (.bool r), st)) := by
  subst ha
  rcases a0 with ⟨a0_Key, a0_Kind, a0_Name, ⟨a0_Value__Kind, a0_Value__N, a0_Value__S, ⟨a0_Value__L_l, a0_Value__L_x⟩, ⟨a0_Value__F_l, a0_Value__F_x⟩, a0_Value__Elem, a0_Value__Key, a0_Value__HasKey⟩⟩
  rcases a1 with ⟨a1_Key, a1_Kind, a1_Name, ⟨a1_Value__Kind, a1_Value__N, a1_Value__S, ⟨a1_Value__L_l, a1_Value__L_x⟩, ⟨a1_Value__F_l, a1_Value__F_x⟩, a1_Value__Elem, a1_Value__Key, a1_Value__HasKey⟩⟩
  rw [cf_body hΩ (f := 11) (fn := Tryd.f11) (x := c11) rfl rfl c11_ok rfl rfl]
  unfold P11 at h
  try dsimp only at h
  conv => arg 1; cbv
  obtain ⟨q, hq3, hz⟩ := Option.bind_eq_some_iff.1 h
  clear h
  have h := hz
  clear hz
  refine sat_grp hΩ ((fun (q : Bool) => (match q with | i2 => ([(0, PV.agg [.d (.str a0_Key), .d (.int .u8 a0_Kind), .d (.str a0_Name), .d (.int .u8 a0_Value__Kind), .d (.int .i64 a0_Value__N), .d (.str a0_Value__S), .d (.sl (E.L_Value a0_Value__L_l) (E.X_Value a0_Value__L_x)), .d (.sl (E.L_Field a0_Value__F_l) (E.X_Field a0_Value__F_x)), .d (.int .u8 a0_Value__Elem), .d (.str a0_Value__Key), .d (.bool a0_Value__HasKey)]), (1, PV.agg [.d (.str a1_Key), .d (.int .u8 a1_Kind), .d (.str a1_Name), .d (.int .u8 a1_Value__Kind), .d (.int .i64 a1_Value__N), .d (.str a1_Value__S), .d (.sl (E.L_Value a1_Value__L_l) (E.X_Value a1_Value__L_x)), .d (.sl (E.L_Field a1_Value__F_l) (E.X_Field a1_Value__F_x)), .d (.int .u8 a1_Value__Elem), .d (.str a1_Value__Key), .d (.bool a1_Value__HasKey)]), (2, PV.ptr 0 0 0), (3, PV.ptr 0 1 0), (4, PV.d (.bool i2))], ([X.Obj.box 34 [.d (.str a0_Key), .d (.int .u8 a0_Kind), .d (.str a0_Name), .d (.int .u8 a0_Value__Kind), .d (.int .i64 a0_Value__N), .d (.str a0_Value__S), .d (.sl (E.L_Value a0_Value__L_l) (E.X_Value a0_Value__L_x)), .d (.sl (E.L_Field a0_Value__F_l) (E.X_Field a0_Value__F_x)), .d (.int .u8 a0_Value__Elem), .d (.str a0_Value__Key), .d (.bool a0_Value__HasKey)], X.Obj.box 34 [.d (.str a1_Key), .d (.int .u8 a1_Kind), .d (.str a1_Name), .d (.int .u8 a1_Value__Kind), .d (.int .i64 a1_Value__N), .d (.str a1_Value__S), .d (.sl (E.L_Value a1_Value__L_l) (E.X_Value a1_Value__L_x)), .d (.sl (E.L_Field a1_Value__F_l) (E.X_Field a1_Value__F_x)), .d (.int .u8 a1_Value__Elem), .d (.str a1_Value__Key), .d (.bool a1_Value__HasKey)]] : List X.Obj) :: st))) q) (fun k hk => ?_) ?_
  · clear h
    have h := hq3
    clear hq3
    conv => arg 1; cbv
    replace h := bif_cases h
    rcases h with ⟨hb1, h⟩ | ⟨hb1, h⟩
    · refine sat_brt (by first | exact hb1 | ((try clear h); subst_vars; first | exact hb1 | rfl)) ?_
      conv => arg 1; cbv
      refine sat_tick hΩ ?_
      conv => arg 1; cbv
      obtain rfl := Option.some.inj h
      subst_vars
      first | exact hk | (simp only [ln_set] at hk ⊢; exact hk)
    · refine sat_brf (by first | exact hb1 | ((try clear h); subst_vars; first | exact hb1 | rfl)) ?_
      conv => arg 1; cbv
      refine sat_tick hΩ ?_
      conv => arg 1; cbv
      obtain rfl := Option.some.inj h
      subst_vars
      first | exact hk | (simp only [ln_set] at hk ⊢; exact hk)
  · clear hq3
    obtain ⟨i2, hqq⟩ : ∃ x, x = q := ⟨_, rfl⟩
    subst hqq
    try dsimp only at h
    conv => arg 1; cbv
    obtain rfl := Option.some.inj h
    subst_vars
    exact sat_pure rfl
theorem ok6 {Ω : Om} {E : Enc} (hΩ : real (call S) = Ω) (hE : theEnc = E) {fu : Nat} {r : Bool} (h : P6 fu = some r) {args : List PV} (ha : [] = args) (st : St) :
    Sat (Ω.cf 6 args st) (fun q => q = (PV.d (.bool r), st)) := by
  subst ha
  subst hΩ
  obtain rfl := Option.some.inj h
  exact ⟨_, closed_call (S := S) (f := 6) rfl st, rfl⟩
set_option maxHeartbeats 4000000 in
theorem ok5 {Ω : Om} {E : Enc} (hΩ : real (call S) = Ω) (hE : theEnc = E) {fu : Nat} {a0 : Child} {a1 : Child} {a2 : Child} {r : Bool} (h : P5 fu a0 a1 a2 = some r) {args : List PV} (ha : [pv_Child E a0, pv_Child E a1, pv_Child E a2] = args) (st : St) :
    Sat (Ω.cf 5 args st) (fun q => q = (PV.d (.bool r), st)) := by
  subst ha
  rcases a0 with ⟨a0_Key, a0_Kind, a0_Name, ⟨a0_Value__Kind, a0_Value__N, a0_Value__S, ⟨a0_Value__L_l, a0_Value__L_x⟩, ⟨a0_Value__F_l, a0_Value__F_x⟩, a0_Value__Elem, a0_Value__Key, a0_Value__HasKey⟩⟩
  rcases a1 with ⟨a1_Key, a1_Kind, a1_Name, ⟨a1_Value__Kind, a1_Value__N, a1_Value__S, ⟨a1_Value__L_l, a1_Value__L_x⟩, ⟨a1_Value__F_l, a1_Value__F_x⟩, a1_Value__Elem, a1_Value__Key, a1_Value__HasKey⟩⟩
  rcases a2 with ⟨a2_Key, a2_Kind, a2_Name, ⟨a2_Value__Kind, a2_Value__N, a2_Value__S, ⟨a2_Value__L_l, a2_Value__L_x⟩, ⟨a2_Value__F_l, a2_Value__F_x⟩, a2_Value__Elem, a2_Value__Key, a2_Value__HasKey⟩⟩
  rw [cf_body hΩ (f := 5) (fn := Tryd.f5) (x := c5) rfl rfl c5_ok rfl rfl]
  unfold P5 at h
  try dsimp only at h
  conv => arg 1; cbv
  obtain ⟨r1, hx2, hz⟩ := Option.bind_eq_some_iff.1 h
  clear h
  have h := hz
  clear hz
  refine sat_call (ok11 hΩ hE hx2 (by (try clear h); subst_vars; rfl) _) ?_
  conv => arg 1; cbv
  refine sat_true (same_ok hΩ _) ?_
  conv => arg 1; cbv
  obtain ⟨r3, hx4, hz⟩ := Option.bind_eq_some_iff.1 h
  clear h
  have h := hz
  clear hz
  refine sat_call (ok11 hΩ hE hx4 (by (try clear h); subst_vars; rfl) _) ?_
  conv => arg 1; cbv
  refine sat_true (same_ok hΩ _) ?_
  conv => arg 1; cbv
  obtain ⟨r5, hx6, hz⟩ := Option.bind_eq_some_iff.1 h
  clear h
  have h := hz
  clear hz
  refine sat_call (ok11 hΩ hE hx6 (by (try clear h); subst_vars; rfl) _) ?_
  conv => arg 1; cbv
  refine sat_true (same_ok hΩ _) ?_
  conv => arg 1; cbv
  obtain ⟨q, hq26, hz⟩ := Option.bind_eq_some_iff.1 h
  clear h
  have h := hz
  clear hz
  refine sat_grp hΩ ((fun (q : Bool) => (match q with | i25 => ([(0, PV.agg [.d (.str a0_Key), .d (.int .u8 a0_Kind), .d (.str a0_Name), .d (.int .u8 a0_Value__Kind), .d (.int .i64 a0_Value__N), .d (.str a0_Value__S), .d (.sl (E.L_Value a0_Value__L_l) (E.X_Value a0_Value__L_x)), .d (.sl (E.L_Field a0_Value__F_l) (E.X_Field a0_Value__F_x)), .d (.int .u8 a0_Value__Elem), .d (.str a0_Value__Key), .d (.bool a0_Value__HasKey)]), (1, PV.agg [.d (.str a1_Key), .d (.int .u8 a1_Kind), .d (.str a1_Name), .d (.int .u8 a1_Value__Kind), .d (.int .i64 a1_Value__N), .d (.str a1_Value__S), .d (.sl (E.L_Value a1_Value__L_l) (E.X_Value a1_Value__L_x)), .d (.sl (E.L_Field a1_Value__F_l) (E.X_Field a1_Value__F_x)), .d (.int .u8 a1_Value__Elem), .d (.str a1_Value__Key), .d (.bool a1_Value__HasKey)]), (2, PV.agg [.d (.str a2_Key), .d (.int .u8 a2_Kind), .d (.str a2_Name), .d (.int .u8 a2_Value__Kind), .d (.int .i64 a2_Value__N), .d (.str a2_Value__S), .d (.sl (E.L_Value a2_Value__L_l) (E.X_Value a2_Value__L_x)), .d (.sl (E.L_Field a2_Value__F_l) (E.X_Field a2_Value__F_x)), .d (.int .u8 a2_Value__Elem), .d (.str a2_Value__Key), .d (.bool a2_Value__HasKey)]), (3, PV.ptr 0 0 0), (4, PV.ptr 0 1 0), (5, PV.ptr 0 2 0), (6, PV.d (.bool i25)), (7, PV.d (.bool r1)), (8, PV.d (.bool r3)), (9, PV.d (.bool r5)), (10, PV.ptr 0 3 0)], ([X.Obj.box 34 [.d (.str a0_Key), .d (.int .u8 a0_Kind), .d (.str a0_Name), .d (.int .u8 a0_Value__Kind), .d (.int .i64 a0_Value__N), .d (.str a0_Value__S), .d (.sl (E.L_Value a0_Value__L_l) (E.X_Value a0_Value__L_x)), .d (.sl (E.L_Field a0_Value__F_l) (E.X_Field a0_Value__F_x)), .d (.int .u8 a0_Value__Elem), .d (.str a0_Value__Key), .d (.bool a0_Value__HasKey)], X.Obj.box 34 [.d (.str a1_Key), .d (.int .u8 a1_Kind), .d (.str a1_Name), .d (.int .u8 a1_Value__Kind), .d (.int .i64 a1_Value__N), .d (.str a1_Value__S), .d (.sl (E.L_Value a1_Value__L_l) (E.X_Value a1_Value__L_x)), .d (.sl (E.L_Field a1_Value__F_l) (E.X_Field a1_Value__F_x)), .d (.int .u8 a1_Value__Elem), .d (.str a1_Value__Key), .d (.bool a1_Value__HasKey)], X.Obj.box 34 [.d (.str a2_Key), .d (.int .u8 a2_Kind), .d (.str a2_Name), .d (.int .u8 a2_Value__Kind), .d (.int .i64 a2_Value__N), .d (.str a2_Value__S), .d (.sl (E.L_Value a2_Value__L_l) (E.X_Value a2_Value__L_x)), .d (.sl (E.L_Field a2_Value__F_l) (E.X_Field a2_Value__F_x)), .d (.int .u8 a2_Value__Elem), .d (.str a2_Value__Key), .d (.bool a2_Value__HasKey)], X.Obj.box 34 [.d (.str a2_Key), .d (.int .u8 a0_Kind), .d (.str a0_Name), .d (.int .u8 a2_Value__Kind), .d (.int .i64 a2_Value__N), .d (.str a2_Value__S), .d (.sl (E.L_Value a2_Value__L_l) (E.X_Value a2_Value__L_x)), .d (.sl (E.L_Field a2_Value__F_l) (E.X_Field a2_Value__F_x)), .d (.int .u8 a2_Value__Elem), .d (.str a2_Value__Key), .d (.bool a2_Value__HasKey)]] : List X.Obj) :: st))) q) (fun k hk => ?_) ?_
  · clear h
    have h := hq26
    clear hq26
    conv => arg 1; cbv
    obtain ⟨r7, hx8, hz⟩ := Option.bind_eq_some_iff.1 h
    clear h
    have h := hz
    clear hz
    refine sat_call (ok6 hΩ hE hx8 (by (try clear h); subst_vars; rfl) _) ?_
    conv => arg 1; cbv
    replace h := bif_cases h
    rcases h with ⟨hb9, h⟩ | ⟨hb9, h⟩
    · refine sat_brt (by first | exact hb9 | ((try clear h); subst_vars; first | exact hb9 | rfl)) ?_
      conv => arg 1; cbv
      obtain ⟨r10, hx11, hz⟩ := Option.bind_eq_some_iff.1 h
      clear h
      have h := hz
      clear hz
      refine sat_call (ok11 hΩ hE hx11 (by (try clear h); subst_vars; rfl) _) ?_
      conv => arg 1; cbv
      replace h := bif_cases h
      rcases h with ⟨hb12, h⟩ | ⟨hb12, h⟩
      · refine sat_brt (by first | exact hb12 | ((try clear h); subst_vars; first | exact hb12 | rfl)) ?_
        conv => arg 1; cbv
        obtain ⟨r13, hx14, hz⟩ := Option.bind_eq_some_iff.1 h
        clear h
        have h := hz
        clear hz
        refine sat_call (ok11 hΩ hE hx14 (by (try clear h); subst_vars; rfl) _) ?_
        conv => arg 1; cbv
        refine sat_tick hΩ ?_
        conv => arg 1; cbv
        replace h := bif_cases h
        rcases h with ⟨hb15, h⟩ | ⟨hb15, h⟩
        · refine sat_brt (by first | exact hb15 | ((try clear h); subst_vars; first | exact hb15 | rfl)) ?_
          conv => arg 1; cbv
          replace h := bif_cases h
          rcases h with ⟨hb16, h⟩ | ⟨hb16, h⟩
          · refine sat_brt (by first | exact hb16 | ((try clear h); subst_vars; first | exact hb16 | rfl)) ?_
            conv => arg 1; cbv
            replace h := bif_cases h
            rcases h with ⟨hb17, h⟩ | ⟨hb17, h⟩
            · refine sat_brt (by first | exact hb17 | ((try clear h); subst_vars; first | exact hb17 | rfl)) ?_
              conv => arg 1; cbv
              refine sat_tick hΩ ?_
              conv => arg 1; cbv
              replace h := bif_cases h
              rcases h with ⟨hb18, h⟩ | ⟨hb18, h⟩
              · refine sat_brt (by first | exact hb18 | ((try clear h); subst_vars; first | exact hb18 | rfl)) ?_
                conv => arg 1; cbv
                obtain ⟨r19, hx20, hz⟩ := Option.bind_eq_some_iff.1 h
                clear h
                have h := hz
                clear hz
                refine sat_call (ok11 hΩ hE hx20 (by (try clear h); subst_vars; rfl) _) ?_
                conv => arg 1; cbv
                obtain rfl := Option.some.inj h
                subst_vars
                first | exact hk | (simp only [ln_set] at hk ⊢; exact hk)
              · refine sat_brf (by first | exact hb18 | ((try clear h); subst_vars; first | exact hb18 | rfl)) ?_
                conv => arg 1; cbv
                obtain rfl := Option.some.inj h
                subst_vars
                first | exact hk | (simp only [ln_set] at hk ⊢; exact hk)
            · refine sat_brf (by first | exact hb17 | ((try clear h); subst_vars; first | exact hb17 | rfl)) ?_
              conv => arg 1; cbv
              refine sat_tick hΩ ?_
              conv => arg 1; cbv
              obtain ⟨r21, hx22, hz⟩ := Option.bind_eq_some_iff.1 h
              clear h
              have h := hz
              clear hz
              refine sat_call (ok11 hΩ hE hx22 (by (try clear h); subst_vars; rfl) _) ?_
              conv => arg 1; cbv
              obtain rfl := Option.some.inj h
              subst_vars
              first | exact hk | (simp only [ln_set] at hk ⊢; exact hk)
          · refine sat_brf (by first | exact hb16 | ((try clear h); subst_vars; first | exact hb16 | rfl)) ?_
            conv => arg 1; cbv
            refine sat_tick hΩ ?_
            conv => arg 1; cbv
            obtain ⟨r23, hx24, hz⟩ := Option.bind_eq_some_iff.1 h
            clear h
            have h := hz
            clear hz
            refine sat_call (ok11 hΩ hE hx24 (by (try clear h); subst_vars; rfl) _) ?_
            conv => arg 1; cbv
            obtain rfl := Option.some.inj h
            subst_vars
            first | exact hk | (simp only [ln_set] at hk ⊢; exact hk)
        · refine sat_brf (by first | exact hb15 | ((try clear h); subst_vars; first | exact hb15 | rfl)) ?_
          conv => arg 1; cbv
          refine sat_tick hΩ ?_
          conv => arg 1; cbv
          obtain rfl := Option.some.inj h
          subst_vars
          first | exact hk | (simp only [ln_set] at hk ⊢; exact hk)
      · refine sat_brf (by first | exact hb12 | ((try clear h); subst_vars; first | exact hb12 | rfl)) ?_
        conv => arg 1; cbv
        refine sat_tick hΩ ?_
        conv => arg 1; cbv
        refine sat_tick hΩ ?_
        conv => arg 1; cbv
        obtain rfl := Option.some.inj h
        subst_vars
        first | exact hk | (simp only [ln_set] at hk ⊢; exact hk)
    · refine sat_brf (by first | exact hb9 | ((try clear h); subst_vars; first | exact hb9 | rfl)) ?_
      conv => arg 1; cbv
      refine sat_tick hΩ ?_
      conv => arg 1; cbv
      refine sat_tick hΩ ?_
      conv => arg 1; cbv
      obtain rfl := Option.some.inj h
      subst_vars
      first | exact hk | (simp only [ln_set] at hk ⊢; exact hk)
  · clear hq26
    obtain ⟨i25, hqq⟩ : ∃ x, x = q := ⟨_, rfl⟩
    subst hqq
    try dsimp only at h
    conv => arg 1; cbv
    obtain rfl := Option.some.inj h
    subst_vars
    exact sat_pure rfl
end Go.Proofs.YtjoinlfkebgfkaaDoor
