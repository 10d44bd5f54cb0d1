/- The interpreter computes just these functions: printed by a small program. -/
import Derived.Test.YtdmpjlpkmokllaaDoorVEO0
namespace Go.Proofs.YtdmpjlpkmokllaaDoor
open Go Go.X
set_option linter.unusedVariables false
set_option linter.unusedSimpArgs false
set_option maxRecDepth 100000
set_option maxHeartbeats 4000000 in
theorem ok35 {Ω : Om} {E : Enc} (hΩ : real (call S) = Ω) (hE : theEnc = E) {fu : Nat} {a0 : Value} {r : Bool} (h : P35 fu a0 = some r) {args : List PV} (ha : [pv_Value E a0] = args) (st : St) :
    Sat (Ω.cf 35 args st) (fun q => q = (PV.d (.bool r), st)) := by
  subst ha
  rcases a0 with ⟨a0_a, a0_b, a0_c, ⟨a0_dl, a0_dx⟩, ⟨a0_el, a0_ex⟩, a0_f, a0_g, a0_h⟩
  rw [cf_body hΩ (f := 35) (fn := Tryd.f35) (x := c35) rfl rfl c35_ok rfl rfl rfl]
  unfold P35 at h
  try dsimp only at h
  conv => arg 1; cbv
  refine sat_len hΩ (ro_Field hE) a0_el fun n1 hn2 => ?_
  conv => arg 1; cbv
  replace h := Option.bind_eq_some_iff.1 h
  obtain ⟨q, hl16, h⟩ := h
  refine sat_loop hΩ (fun (a : Int) => (match a with | i3 => ([(0, PV.agg [.d (.int .u8 a0_a), .d (.int .i64 a0_b), .d (.str a0_c), .d (.sl (E.L_Value a0_dl) (E.X_Value a0_dx)), .d (.sl (E.L_Field a0_el) (E.X_Field a0_ex)), .d (.int .u8 a0_f), .d (.str a0_g), .d (.bool a0_h)]), (1, PV.eptr [.int .u8 a0_a, .int .i64 a0_b, .str a0_c, .sl (E.L_Value a0_dl) (E.X_Value a0_dx), .sl (E.L_Field a0_el) (E.X_Field a0_ex), .int .u8 a0_f, .str a0_g, .bool a0_h]), (2, PV.d (.bool false)), (7, PV.d (.sl (E.L_Field a0_el) (E.X_Field a0_ex))), (8, PV.d (.int .i64 n1)), (9, PV.d (.int .i64 i3))], ([] : List X.Obj) :: st))) (fun (q : Int ⊕ Int) => (match q with | .inl o17 => (.exit 0, [(0, PV.agg [.d (.int .u8 a0_a), .d (.int .i64 a0_b), .d (.str a0_c), .d (.sl (E.L_Value a0_dl) (E.X_Value a0_dx)), .d (.sl (E.L_Field a0_el) (E.X_Field a0_ex)), .d (.int .u8 a0_f), .d (.str a0_g), .d (.bool a0_h)]), (1, PV.eptr [.int .u8 a0_a, .int .i64 a0_b, .str a0_c, .sl (E.L_Value a0_dl) (E.X_Value a0_dx), .sl (E.L_Field a0_el) (E.X_Field a0_ex), .int .u8 a0_f, .str a0_g, .bool a0_h]), (2, PV.d (.bool false)), (7, PV.d (.sl (E.L_Field a0_el) (E.X_Field a0_ex))), (8, PV.d (.int .i64 n1)), (9, PV.d (.int .i64 o17))], ([] : List X.Obj) :: st) | .inr o192 => (.ret, [(0, PV.agg [.d (.int .u8 a0_a), .d (.int .i64 a0_b), .d (.str a0_c), .d (.sl (E.L_Value a0_dl) (E.X_Value a0_dx)), .d (.sl (E.L_Field a0_el) (E.X_Field a0_ex)), .d (.int .u8 a0_f), .d (.str a0_g), .d (.bool a0_h)]), (1, PV.eptr [.int .u8 a0_a, .int .i64 a0_b, .str a0_c, .sl (E.L_Value a0_dl) (E.X_Value a0_dx), .sl (E.L_Field a0_el) (E.X_Field a0_ex), .int .u8 a0_f, .str a0_g, .bool a0_h]), (2, PV.d (.bool false)), (7, PV.d (.sl (E.L_Field a0_el) (E.X_Field a0_ex))), (8, PV.d (.int .i64 n1)), (9, PV.d (.int .i64 o192))], ([] : List X.Obj) :: st))) 0 hl16 ?_ ?_
  · clear h hl16
    rintro i3 q h
    unfold P35_s0 at h
    dsimp only at h
    conv => arg 1; cbv
    refine sat_in hΩ ?_
    conv => arg 1; cbv
    replace h := bif_cases h
    rcases h with ⟨hb4, h⟩ | ⟨hb4, h⟩
    · refine sat_brt (by first | exact hb4 | ((try clear h); subst_vars; first | exact hb4 | rfl)) ?_
      conv => arg 1; cbv
      refine sat_true (fits_l hΩ (ro_Field hE) a0_el) ?_
      conv => arg 1; cbv
      replace h := Option.bind_eq_some_iff.1 h
      obtain ⟨⟨x5_a, ⟨x5_ba, x5_bb, x5_bc, ⟨x5_bdl, x5_bdx⟩, ⟨x5_bel, x5_bex⟩, x5_bf, x5_bg, x5_bh⟩⟩, hx6, h⟩ := h
      try dsimp only at h
      refine sat_bind (nth_ok hΩ (ro_Field hE) hx6) ?_
      conv => arg 1; cbv
      replace h := Option.bind_eq_some_iff.1 h
      obtain ⟨q, hq15, h⟩ := h
      refine sat_grp hΩ ((fun (q : Bool) => (match q with | i13 => ([(0, PV.agg [.d (.int .u8 a0_a), .d (.int .i64 a0_b), .d (.str a0_c), .d (.sl (E.L_Value a0_dl) (E.X_Value a0_dx)), .d (.sl (E.L_Field a0_el) (E.X_Field a0_ex)), .d (.int .u8 a0_f), .d (.str a0_g), .d (.bool a0_h)]), (1, PV.eptr [.int .u8 a0_a, .int .i64 a0_b, .str a0_c, .sl (E.L_Value a0_dl) (E.X_Value a0_dx), .sl (E.L_Field a0_el) (E.X_Field a0_ex), .int .u8 a0_f, .str a0_g, .bool a0_h]), (2, PV.d (.bool false)), (3, PV.d (.int .i64 i3)), (4, PV.ptr 0 0 0), (7, PV.d (.sl (E.L_Field a0_el) (E.X_Field a0_ex))), (8, PV.d (.int .i64 n1)), (9, PV.d (.int .i64 i3)), (33, PV.d (.bool i13))], ([X.Obj.box 36 [.d (.str x5_a), .d (.int .u8 x5_ba), .d (.int .i64 x5_bb), .d (.str x5_bc), .d (.sl (E.L_Value x5_bdl) (E.X_Value x5_bdx)), .d (.sl (E.L_Field x5_bel) (E.X_Field x5_bex)), .d (.int .u8 x5_bf), .d (.str x5_bg), .d (.bool x5_bh)]] : List X.Obj) :: st))) q) (fun k hk => ?_) ?_
      · clear h
        have h := hq15
        clear hq15
        conv => arg 1; cbv
        replace h := Option.bind_eq_some_iff.1 h
        obtain ⟨r7, hx8, h⟩ := h
        refine sat_call (ok51 hΩ hE hx8 (by (try clear h); subst_vars; rfl) _) ?_
        conv => arg 1; cbv
        replace h := bif_cases h
        rcases h with ⟨hb9, h⟩ | ⟨hb9, h⟩
        · refine sat_brt (by first | exact hb9 | ((try clear h); subst_vars; first | exact hb9 | rfl)) ?_
          conv => arg 1; cbv
          replace h := bif_cases h
          rcases h with ⟨hb10, h⟩ | ⟨hb10, h⟩
          · refine sat_brt (by first | exact hb10 | ((try clear h); subst_vars; first | exact hb10 | rfl)) ?_
            conv => arg 1; cbv
            refine sat_tick hΩ ?_
            conv => arg 1; cbv
            refine sat_true (fits_l hΩ (ro_Field hE) a0_el) ?_
            conv => arg 1; cbv
            replace h := Option.bind_eq_some_iff.1 h
            obtain ⟨⟨x11_a, ⟨x11_ba, x11_bb, x11_bc, ⟨x11_bdl, x11_bdx⟩, ⟨x11_bel, x11_bex⟩, x11_bf, x11_bg, x11_bh⟩⟩, hx12, h⟩ := h
            try dsimp only at h
            refine sat_bind (nth_ok hΩ (ro_Field hE) hx12) ?_
            conv => arg 1; cbv
            obtain rfl := Option.some.inj h
            subst_vars
            first | exact hk | (simp only [ln_set] at hk ⊢; exact hk)
          · refine sat_brf (by first | exact hb10 | ((try clear h); subst_vars; first | exact hb10 | rfl)) ?_
            conv => arg 1; cbv
            refine sat_tick hΩ ?_
            conv => arg 1; cbv
            obtain rfl := Option.some.inj h
            subst_vars
            first | exact hk | (simp only [ln_set] at hk ⊢; exact hk)
        · refine sat_brf (by first | exact hb9 | ((try clear h); subst_vars; first | exact hb9 | rfl)) ?_
          conv => arg 1; cbv
          refine sat_tick hΩ ?_
          conv => arg 1; cbv
          obtain rfl := Option.some.inj h
          subst_vars
          first | exact hk | (simp only [ln_set] at hk ⊢; exact hk)
      · clear hq15
        obtain ⟨i13, hqq⟩ : ∃ x, x = q := ⟨_, rfl⟩
        subst hqq
        try dsimp only at h
        conv => arg 1; cbv
        refine sat_in hΩ ?_
        conv => arg 1; cbv
        replace h := bif_cases h
        rcases h with ⟨hb14, h⟩ | ⟨hb14, h⟩
        · refine sat_brt (by first | exact hb14 | ((try clear h); subst_vars; first | exact hb14 | rfl)) ?_
          conv => arg 1; cbv
          obtain rfl := Option.some.inj h
          subst_vars
          first | exact sat_pure (.inr ⟨rfl, rfl⟩) | (refine sat_pure (.inr ⟨rfl, ?_⟩); dsimp only; simp only [ln_set]; rfl)
        · refine sat_brf (by first | exact hb14 | ((try clear h); subst_vars; first | exact hb14 | rfl)) ?_
          conv => arg 1; cbv
          obtain rfl := Option.some.inj h
          subst_vars
          first | exact sat_pure ⟨rfl, rfl, rfl⟩ | (refine sat_pure ⟨rfl, ?_, ?_⟩ <;> first | rfl | (dsimp only; simp only [ln_set]; rfl))
    · refine sat_brf (by first | exact hb4 | ((try clear h); subst_vars; first | exact hb4 | rfl)) ?_
      conv => arg 1; cbv
      obtain rfl := Option.some.inj h
      subst_vars
      first | exact sat_pure (.inl ⟨⟨_, rfl⟩, rfl⟩) | (refine sat_pure (.inl ⟨⟨_, rfl⟩, ?_⟩); dsimp only; simp only [ln_set]; rfl)
  · clear hl16
    rcases q with o17 | o192
    · dsimp only at h
      conv => arg 1; cbv
      refine sat_in hΩ ?_
      conv => arg 1; cbv
      replace h := bif_cases h
      rcases h with ⟨hb18, h⟩ | ⟨hb18, h⟩
      · refine sat_brt (by first | exact hb18 | ((try clear h); subst_vars; first | exact hb18 | rfl)) ?_
        conv => arg 1; cbv
        replace h := Option.bind_eq_some_iff.1 h
        obtain ⟨r19, hx20, h⟩ := h
        refine sat_call (ok52 hΩ hE hx20 (by (try clear h); subst_vars; rfl) _) ?_
        conv => arg 1; cbv
        obtain rfl := Option.some.inj h
        subst_vars
        exact sat_pure rfl
      · refine sat_brf (by first | exact hb18 | ((try clear h); subst_vars; first | exact hb18 | rfl)) ?_
        conv => arg 1; cbv
        replace h := Option.bind_eq_some_iff.1 h
        obtain ⟨q, hq191, h⟩ := h
        refine sat_grp hΩ ((fun (q : Bool) => (match q with | i190 => ([(0, PV.agg [.d (.int .u8 a0_a), .d (.int .i64 a0_b), .d (.str a0_c), .d (.sl (E.L_Value a0_dl) (E.X_Value a0_dx)), .d (.sl (E.L_Field a0_el) (E.X_Field a0_ex)), .d (.int .u8 a0_f), .d (.str a0_g), .d (.bool a0_h)]), (1, PV.eptr [.int .u8 a0_a, .int .i64 a0_b, .str a0_c, .sl (E.L_Value a0_dl) (E.X_Value a0_dx), .sl (E.L_Field a0_el) (E.X_Field a0_ex), .int .u8 a0_f, .str a0_g, .bool a0_h]), (2, PV.d (.bool i190)), (5, PV.fn 53 [.eptr [.int .u8 a0_a, .int .i64 a0_b, .str a0_c, .sl (E.L_Value a0_dl) (E.X_Value a0_dx), .sl (E.L_Field a0_el) (E.X_Field a0_ex), .int .u8 a0_f, .str a0_g, .bool a0_h]]), (7, PV.d (.sl (E.L_Field a0_el) (E.X_Field a0_ex))), (8, PV.d (.int .i64 n1)), (9, PV.d (.int .i64 o17))], ([] : List X.Obj) :: st))) q) (fun k hk => ?_) ?_
        · clear h
          have h := hq191
          clear hq191
          conv => arg 1; cbv
          replace h := bif_cases h
          rcases h with ⟨hb21, h⟩ | ⟨hb21, h⟩
          · refine sat_brt (by first | exact hb21 | ((try clear h); subst_vars; first | exact hb21 | rfl)) ?_
            conv => arg 1; cbv
            replace h := bif_cases h
            rcases h with ⟨hb22, h⟩ | ⟨hb22, h⟩
            · refine sat_brt (by first | exact hb22 | ((try clear h); subst_vars; first | exact hb22 | rfl)) ?_
              conv => arg 1; cbv
              refine sat_tick hΩ ?_
              conv => arg 1; cbv
              replace h := bif_cases h
              rcases h with ⟨hb23, h⟩ | ⟨hb23, h⟩
              · refine sat_brt (by first | exact hb23 | ((try clear h); subst_vars; first | exact hb23 | rfl)) ?_
                conv => arg 1; cbv
                replace h := bif_cases h
                rcases h with ⟨hb24, h⟩ | ⟨hb24, h⟩
                · refine sat_brt (by first | exact hb24 | ((try clear h); subst_vars; first | exact hb24 | rfl)) ?_
                  conv => arg 1; cbv
                  refine sat_tick hΩ ?_
                  conv => arg 1; cbv
                  replace h := bif_cases h
                  rcases h with ⟨hb25, h⟩ | ⟨hb25, h⟩
                  · refine sat_brt (by first | exact hb25 | ((try clear h); subst_vars; first | exact hb25 | rfl)) ?_
                    conv => arg 1; cbv
                    replace h := bif_cases h
                    rcases h with ⟨hb26, h⟩ | ⟨hb26, h⟩
                    · refine sat_brt (by first | exact hb26 | ((try clear h); subst_vars; first | exact hb26 | rfl)) ?_
                      conv => arg 1; cbv
                      replace h := Option.bind_eq_some_iff.1 h
                      obtain ⟨l27, hx28, h⟩ := h
                      have hL29 : ([[.int .u8 1], [.int .u8 7]] : List (List D)) = E.L_i_u8 l27 := by (have hy := Option.some.inj hx28; clear h; subst hy; subst hE; rfl)
                      rw [hL29]
                      clear hL29
                      conv => arg 1; cbv
                      replace h := Option.bind_eq_some_iff.1 h
                      obtain ⟨r30, hx31, h⟩ := h
                      refine sat_call (ok53x1 hΩ hE hx31 (by (try clear h); subst_vars; rfl) _) ?_
                      conv => arg 1; cbv
                      replace h := bif_cases h
                      rcases h with ⟨hb32, h⟩ | ⟨hb32, h⟩
                      · refine sat_brt (by first | exact hb32 | ((try clear h); subst_vars; first | exact hb32 | rfl)) ?_
                        conv => arg 1; cbv
                        refine sat_tick hΩ ?_
                        conv => arg 1; cbv
                        replace h := Option.bind_eq_some_iff.1 h
                        obtain ⟨r33, hx34, h⟩ := h
                        refine sat_call (ok53x1 hΩ hE hx34 (by (try clear h); subst_vars; rfl) _) ?_
                        conv => arg 1; cbv
                        replace h := bif_cases h
                        rcases h with ⟨hb35, h⟩ | ⟨hb35, h⟩
                        · refine sat_brt (by first | exact hb35 | ((try clear h); subst_vars; first | exact hb35 | rfl)) ?_
                          conv => arg 1; cbv
                          replace h := bif_cases h
                          rcases h with ⟨hb36, h⟩ | ⟨hb36, h⟩
                          · refine sat_brt (by first | exact hb36 | ((try clear h); subst_vars; first | exact hb36 | rfl)) ?_
                            conv => arg 1; cbv
                            refine sat_tick hΩ ?_
                            conv => arg 1; cbv
                            replace h := bif_cases h
                            rcases h with ⟨hb37, h⟩ | ⟨hb37, h⟩
                            · refine sat_brt (by first | exact hb37 | ((try clear h); subst_vars; first | exact hb37 | rfl)) ?_
                              conv => arg 1; cbv
                              replace h := Option.bind_eq_some_iff.1 h
                              obtain ⟨l38, hx39, h⟩ := h
                              have hL40 : ([[.int .u8 3], [.int .u8 7]] : List (List D)) = E.L_i_u8 l38 := by (have hy := Option.some.inj hx39; clear h; subst hy; subst hE; rfl)
                              rw [hL40]
                              clear hL40
                              conv => arg 1; cbv
                              replace h := Option.bind_eq_some_iff.1 h
                              obtain ⟨r41, hx42, h⟩ := h
                              refine sat_call (ok53x1 hΩ hE hx42 (by (try clear h); subst_vars; rfl) _) ?_
                              conv => arg 1; cbv
                              replace h := bif_cases h
                              rcases h with ⟨hb43, h⟩ | ⟨hb43, h⟩
                              · refine sat_brt (by first | exact hb43 | ((try clear h); subst_vars; first | exact hb43 | rfl)) ?_
                                conv => arg 1; cbv
                                refine sat_len hΩ (ro_Value hE) a0_dl fun n44 hn45 => ?_
                                conv => arg 1; cbv
                                refine sat_tick hΩ ?_
                                conv => arg 1; cbv
                                replace h := bif_cases h
                                rcases h with ⟨hb46, h⟩ | ⟨hb46, h⟩
                                · refine sat_brt (by first | exact hb46 | ((try clear h); subst_vars; first | exact hb46 | rfl)) ?_
                                  conv => arg 1; cbv
                                  replace h := Option.bind_eq_some_iff.1 h
                                  obtain ⟨r47, hx48, h⟩ := h
                                  refine sat_call (ok53x1 hΩ hE hx48 (by (try clear h); subst_vars; rfl) _) ?_
                                  conv => arg 1; cbv
                                  replace h := bif_cases h
                                  rcases h with ⟨hb49, h⟩ | ⟨hb49, h⟩
                                  · refine sat_brt (by first | exact hb49 | ((try clear h); subst_vars; first | exact hb49 | rfl)) ?_
                                    conv => arg 1; cbv
                                    refine sat_len hΩ (ro_Field hE) a0_el fun n50 hn51 => ?_
                                    conv => arg 1; cbv
                                    replace h := bif_cases h
                                    rcases h with ⟨hb52, h⟩ | ⟨hb52, h⟩
                                    · refine sat_brt (by first | exact hb52 | ((try clear h); subst_vars; first | exact hb52 | rfl)) ?_
                                      conv => arg 1; cbv
                                      refine sat_tick hΩ ?_
                                      conv => arg 1; cbv
                                      replace h := Option.bind_eq_some_iff.1 h
                                      obtain ⟨l53, hx54, h⟩ := h
                                      have hL55 : ([[.int .u8 5], [.int .u8 7]] : List (List D)) = E.L_i_u8 l53 := by (have hy := Option.some.inj hx54; clear h; subst hy; subst hE; rfl)
                                      rw [hL55]
                                      clear hL55
                                      conv => arg 1; cbv
                                      replace h := Option.bind_eq_some_iff.1 h
                                      obtain ⟨r56, hx57, h⟩ := h
                                      refine sat_call (ok53x1 hΩ hE hx57 (by (try clear h); subst_vars; rfl) _) ?_
                                      conv => arg 1; cbv
                                      obtain rfl := Option.some.inj h
                                      subst_vars
                                      first | exact hk | (simp only [ln_set] at hk ⊢; exact hk)
                                    · refine sat_brf (by first | exact hb52 | ((try clear h); subst_vars; first | exact hb52 | rfl)) ?_
                                      conv => arg 1; cbv
                                      refine sat_tick hΩ ?_
                                      conv => arg 1; cbv
                                      obtain rfl := Option.some.inj h
                                      subst_vars
                                      first | exact hk | (simp only [ln_set] at hk ⊢; exact hk)
                                  · refine sat_brf (by first | exact hb49 | ((try clear h); subst_vars; first | exact hb49 | rfl)) ?_
                                    conv => arg 1; cbv
                                    refine sat_tick hΩ ?_
                                    conv => arg 1; cbv
                                    obtain rfl := Option.some.inj h
                                    subst_vars
                                    first | exact hk | (simp only [ln_set] at hk ⊢; exact hk)
                                · refine sat_brf (by first | exact hb46 | ((try clear h); subst_vars; first | exact hb46 | rfl)) ?_
                                  conv => arg 1; cbv
                                  refine sat_len hΩ (ro_Field hE) a0_el fun n58 hn59 => ?_
                                  conv => arg 1; cbv
                                  replace h := bif_cases h
                                  rcases h with ⟨hb60, h⟩ | ⟨hb60, h⟩
                                  · refine sat_brt (by first | exact hb60 | ((try clear h); subst_vars; first | exact hb60 | rfl)) ?_
                                    conv => arg 1; cbv
                                    refine sat_tick hΩ ?_
                                    conv => arg 1; cbv
                                    replace h := Option.bind_eq_some_iff.1 h
                                    obtain ⟨l61, hx62, h⟩ := h
                                    have hL63 : ([[.int .u8 5], [.int .u8 7]] : List (List D)) = E.L_i_u8 l61 := by (have hy := Option.some.inj hx62; clear h; subst hy; subst hE; rfl)
                                    rw [hL63]
                                    clear hL63
                                    conv => arg 1; cbv
                                    replace h := Option.bind_eq_some_iff.1 h
                                    obtain ⟨r64, hx65, h⟩ := h
                                    refine sat_call (ok53x1 hΩ hE hx65 (by (try clear h); subst_vars; rfl) _) ?_
                                    conv => arg 1; cbv
                                    obtain rfl := Option.some.inj h
                                    subst_vars
                                    first | exact hk | (simp only [ln_set] at hk ⊢; exact hk)
                                  · refine sat_brf (by first | exact hb60 | ((try clear h); subst_vars; first | exact hb60 | rfl)) ?_
                                    conv => arg 1; cbv
                                    refine sat_tick hΩ ?_
                                    conv => arg 1; cbv
                                    obtain rfl := Option.some.inj h
                                    subst_vars
                                    first | exact hk | (simp only [ln_set] at hk ⊢; exact hk)
                              · refine sat_brf (by first | exact hb43 | ((try clear h); subst_vars; first | exact hb43 | rfl)) ?_
                                conv => arg 1; cbv
                                refine sat_tick hΩ ?_
                                conv => arg 1; cbv
                                refine sat_tick hΩ ?_
                                conv => arg 1; cbv
                                obtain rfl := Option.some.inj h
                                subst_vars
                                first | exact hk | (simp only [ln_set] at hk ⊢; exact hk)
                            · refine sat_brf (by first | exact hb37 | ((try clear h); subst_vars; first | exact hb37 | rfl)) ?_
                              conv => arg 1; cbv
                              refine sat_len hΩ (ro_Value hE) a0_dl fun n66 hn67 => ?_
                              conv => arg 1; cbv
                              refine sat_tick hΩ ?_
                              conv => arg 1; cbv
                              replace h := bif_cases h
                              rcases h with ⟨hb68, h⟩ | ⟨hb68, h⟩
                              · refine sat_brt (by first | exact hb68 | ((try clear h); subst_vars; first | exact hb68 | rfl)) ?_
                                conv => arg 1; cbv
                                replace h := Option.bind_eq_some_iff.1 h
                                obtain ⟨r69, hx70, h⟩ := h
                                refine sat_call (ok53x1 hΩ hE hx70 (by (try clear h); subst_vars; rfl) _) ?_
                                conv => arg 1; cbv
                                replace h := bif_cases h
                                rcases h with ⟨hb71, h⟩ | ⟨hb71, h⟩
                                · refine sat_brt (by first | exact hb71 | ((try clear h); subst_vars; first | exact hb71 | rfl)) ?_
                                  conv => arg 1; cbv
                                  refine sat_len hΩ (ro_Field hE) a0_el fun n72 hn73 => ?_
                                  conv => arg 1; cbv
                                  replace h := bif_cases h
                                  rcases h with ⟨hb74, h⟩ | ⟨hb74, h⟩
                                  · refine sat_brt (by first | exact hb74 | ((try clear h); subst_vars; first | exact hb74 | rfl)) ?_
                                    conv => arg 1; cbv
                                    refine sat_tick hΩ ?_
                                    conv => arg 1; cbv
                                    replace h := Option.bind_eq_some_iff.1 h
                                    obtain ⟨l75, hx76, h⟩ := h
                                    have hL77 : ([[.int .u8 5], [.int .u8 7]] : List (List D)) = E.L_i_u8 l75 := by (have hy := Option.some.inj hx76; clear h; subst hy; subst hE; rfl)
                                    rw [hL77]
                                    clear hL77
                                    conv => arg 1; cbv
                                    replace h := Option.bind_eq_some_iff.1 h
                                    obtain ⟨r78, hx79, h⟩ := h
                                    refine sat_call (ok53x1 hΩ hE hx79 (by (try clear h); subst_vars; rfl) _) ?_
                                    conv => arg 1; cbv
                                    obtain rfl := Option.some.inj h
                                    subst_vars
                                    first | exact hk | (simp only [ln_set] at hk ⊢; exact hk)
                                  · refine sat_brf (by first | exact hb74 | ((try clear h); subst_vars; first | exact hb74 | rfl)) ?_
                                    conv => arg 1; cbv
                                    refine sat_tick hΩ ?_
                                    conv => arg 1; cbv
                                    obtain rfl := Option.some.inj h
                                    subst_vars
                                    first | exact hk | (simp only [ln_set] at hk ⊢; exact hk)
                                · refine sat_brf (by first | exact hb71 | ((try clear h); subst_vars; first | exact hb71 | rfl)) ?_
                                  conv => arg 1; cbv
                                  refine sat_tick hΩ ?_
                                  conv => arg 1; cbv
                                  obtain rfl := Option.some.inj h
                                  subst_vars
                                  first | exact hk | (simp only [ln_set] at hk ⊢; exact hk)
                              · refine sat_brf (by first | exact hb68 | ((try clear h); subst_vars; first | exact hb68 | rfl)) ?_
                                conv => arg 1; cbv
                                refine sat_len hΩ (ro_Field hE) a0_el fun n80 hn81 => ?_
                                conv => arg 1; cbv
                                replace h := bif_cases h
                                rcases h with ⟨hb82, h⟩ | ⟨hb82, h⟩
                                · refine sat_brt (by first | exact hb82 | ((try clear h); subst_vars; first | exact hb82 | rfl)) ?_
                                  conv => arg 1; cbv
                                  refine sat_tick hΩ ?_
                                  conv => arg 1; cbv
                                  replace h := Option.bind_eq_some_iff.1 h
                                  obtain ⟨l83, hx84, h⟩ := h
                                  have hL85 : ([[.int .u8 5], [.int .u8 7]] : List (List D)) = E.L_i_u8 l83 := by (have hy := Option.some.inj hx84; clear h; subst hy; subst hE; rfl)
                                  rw [hL85]
                                  clear hL85
                                  conv => arg 1; cbv
                                  replace h := Option.bind_eq_some_iff.1 h
                                  obtain ⟨r86, hx87, h⟩ := h
                                  refine sat_call (ok53x1 hΩ hE hx87 (by (try clear h); subst_vars; rfl) _) ?_
                                  conv => arg 1; cbv
                                  obtain rfl := Option.some.inj h
                                  subst_vars
                                  first | exact hk | (simp only [ln_set] at hk ⊢; exact hk)
                                · refine sat_brf (by first | exact hb82 | ((try clear h); subst_vars; first | exact hb82 | rfl)) ?_
                                  conv => arg 1; cbv
                                  refine sat_tick hΩ ?_
                                  conv => arg 1; cbv
                                  obtain rfl := Option.some.inj h
                                  subst_vars
                                  first | exact hk | (simp only [ln_set] at hk ⊢; exact hk)
                          · refine sat_brf (by first | exact hb36 | ((try clear h); subst_vars; first | exact hb36 | rfl)) ?_
                            conv => arg 1; cbv
                            refine sat_tick hΩ ?_
                            conv => arg 1; cbv
                            refine sat_tick hΩ ?_
                            conv => arg 1; cbv
                            refine sat_tick hΩ ?_
                            conv => arg 1; cbv
                            obtain rfl := Option.some.inj h
                            subst_vars
                            first | exact hk | (simp only [ln_set] at hk ⊢; exact hk)
                        · refine sat_brf (by first | exact hb35 | ((try clear h); subst_vars; first | exact hb35 | rfl)) ?_
                          conv => arg 1; cbv
                          refine sat_tick hΩ ?_
                          conv => arg 1; cbv
                          refine sat_tick hΩ ?_
                          conv => arg 1; cbv
                          refine sat_tick hΩ ?_
                          conv => arg 1; cbv
                          obtain rfl := Option.some.inj h
                          subst_vars
                          first | exact hk | (simp only [ln_set] at hk ⊢; exact hk)
                      · refine sat_brf (by first | exact hb32 | ((try clear h); subst_vars; first | exact hb32 | rfl)) ?_
                        conv => arg 1; cbv
                        refine sat_tick hΩ ?_
                        conv => arg 1; cbv
                        refine sat_tick hΩ ?_
                        conv => arg 1; cbv
                        replace h := bif_cases h
                        rcases h with ⟨hb88, h⟩ | ⟨hb88, h⟩
                        · refine sat_brt (by first | exact hb88 | ((try clear h); subst_vars; first | exact hb88 | rfl)) ?_
                          conv => arg 1; cbv
                          replace h := Option.bind_eq_some_iff.1 h
                          obtain ⟨l89, hx90, h⟩ := h
                          have hL91 : ([[.int .u8 3], [.int .u8 7]] : List (List D)) = E.L_i_u8 l89 := by (have hy := Option.some.inj hx90; clear h; subst hy; subst hE; rfl)
                          rw [hL91]
                          clear hL91
                          conv => arg 1; cbv
                          replace h := Option.bind_eq_some_iff.1 h
                          obtain ⟨r92, hx93, h⟩ := h
                          refine sat_call (ok53x1 hΩ hE hx93 (by (try clear h); subst_vars; rfl) _) ?_
                          conv => arg 1; cbv
                          replace h := bif_cases h
                          rcases h with ⟨hb94, h⟩ | ⟨hb94, h⟩
                          · refine sat_brt (by first | exact hb94 | ((try clear h); subst_vars; first | exact hb94 | rfl)) ?_
                            conv => arg 1; cbv
                            refine sat_len hΩ (ro_Value hE) a0_dl fun n95 hn96 => ?_
                            conv => arg 1; cbv
                            refine sat_tick hΩ ?_
                            conv => arg 1; cbv
                            replace h := bif_cases h
                            rcases h with ⟨hb97, h⟩ | ⟨hb97, h⟩
                            · refine sat_brt (by first | exact hb97 | ((try clear h); subst_vars; first | exact hb97 | rfl)) ?_
                              conv => arg 1; cbv
                              replace h := Option.bind_eq_some_iff.1 h
                              obtain ⟨r98, hx99, h⟩ := h
                              refine sat_call (ok53x1 hΩ hE hx99 (by (try clear h); subst_vars; rfl) _) ?_
                              conv => arg 1; cbv
                              replace h := bif_cases h
                              rcases h with ⟨hb100, h⟩ | ⟨hb100, h⟩
                              · refine sat_brt (by first | exact hb100 | ((try clear h); subst_vars; first | exact hb100 | rfl)) ?_
                                conv => arg 1; cbv
                                refine sat_len hΩ (ro_Field hE) a0_el fun n101 hn102 => ?_
                                conv => arg 1; cbv
                                replace h := bif_cases h
                                rcases h with ⟨hb103, h⟩ | ⟨hb103, h⟩
                                · refine sat_brt (by first | exact hb103 | ((try clear h); subst_vars; first | exact hb103 | rfl)) ?_
                                  conv => arg 1; cbv
                                  refine sat_tick hΩ ?_
                                  conv => arg 1; cbv
                                  replace h := Option.bind_eq_some_iff.1 h
                                  obtain ⟨l104, hx105, h⟩ := h
                                  have hL106 : ([[.int .u8 5], [.int .u8 7]] : List (List D)) = E.L_i_u8 l104 := by (have hy := Option.some.inj hx105; clear h; subst hy; subst hE; rfl)
                                  rw [hL106]
                                  clear hL106
                                  conv => arg 1; cbv
                                  replace h := Option.bind_eq_some_iff.1 h
                                  obtain ⟨r107, hx108, h⟩ := h
                                  refine sat_call (ok53x1 hΩ hE hx108 (by (try clear h); subst_vars; rfl) _) ?_
                                  conv => arg 1; cbv
                                  obtain rfl := Option.some.inj h
                                  subst_vars
                                  first | exact hk | (simp only [ln_set] at hk ⊢; exact hk)
                                · refine sat_brf (by first | exact hb103 | ((try clear h); subst_vars; first | exact hb103 | rfl)) ?_
                                  conv => arg 1; cbv
                                  refine sat_tick hΩ ?_
                                  conv => arg 1; cbv
                                  obtain rfl := Option.some.inj h
                                  subst_vars
                                  first | exact hk | (simp only [ln_set] at hk ⊢; exact hk)
                              · refine sat_brf (by first | exact hb100 | ((try clear h); subst_vars; first | exact hb100 | rfl)) ?_
                                conv => arg 1; cbv
                                refine sat_tick hΩ ?_
                                conv => arg 1; cbv
                                obtain rfl := Option.some.inj h
                                subst_vars
                                first | exact hk | (simp only [ln_set] at hk ⊢; exact hk)
                            · refine sat_brf (by first | exact hb97 | ((try clear h); subst_vars; first | exact hb97 | rfl)) ?_
                              conv => arg 1; cbv
                              refine sat_len hΩ (ro_Field hE) a0_el fun n109 hn110 => ?_
                              conv => arg 1; cbv
                              replace h := bif_cases h
                              rcases h with ⟨hb111, h⟩ | ⟨hb111, h⟩
                              · refine sat_brt (by first | exact hb111 | ((try clear h); subst_vars; first | exact hb111 | rfl)) ?_
                                conv => arg 1; cbv
                                refine sat_tick hΩ ?_
                                conv => arg 1; cbv
                                replace h := Option.bind_eq_some_iff.1 h
                                obtain ⟨l112, hx113, h⟩ := h
                                have hL114 : ([[.int .u8 5], [.int .u8 7]] : List (List D)) = E.L_i_u8 l112 := by (have hy := Option.some.inj hx113; clear h; subst hy; subst hE; rfl)
                                rw [hL114]
                                clear hL114
                                conv => arg 1; cbv
                                replace h := Option.bind_eq_some_iff.1 h
                                obtain ⟨r115, hx116, h⟩ := h
                                refine sat_call (ok53x1 hΩ hE hx116 (by (try clear h); subst_vars; rfl) _) ?_
                                conv => arg 1; cbv
                                obtain rfl := Option.some.inj h
                                subst_vars
                                first | exact hk | (simp only [ln_set] at hk ⊢; exact hk)
                              · refine sat_brf (by first | exact hb111 | ((try clear h); subst_vars; first | exact hb111 | rfl)) ?_
                                conv => arg 1; cbv
                                refine sat_tick hΩ ?_
                                conv => arg 1; cbv
                                obtain rfl := Option.some.inj h
                                subst_vars
                                first | exact hk | (simp only [ln_set] at hk ⊢; exact hk)
                          · refine sat_brf (by first | exact hb94 | ((try clear h); subst_vars; first | exact hb94 | rfl)) ?_
                            conv => arg 1; cbv
                            refine sat_tick hΩ ?_
                            conv => arg 1; cbv
                            refine sat_tick hΩ ?_
                            conv => arg 1; cbv
                            obtain rfl := Option.some.inj h
                            subst_vars
                            first | exact hk | (simp only [ln_set] at hk ⊢; exact hk)
                        · refine sat_brf (by first | exact hb88 | ((try clear h); subst_vars; first | exact hb88 | rfl)) ?_
                          conv => arg 1; cbv
                          refine sat_len hΩ (ro_Value hE) a0_dl fun n117 hn118 => ?_
                          conv => arg 1; cbv
                          refine sat_tick hΩ ?_
                          conv => arg 1; cbv
                          replace h := bif_cases h
                          rcases h with ⟨hb119, h⟩ | ⟨hb119, h⟩
                          · refine sat_brt (by first | exact hb119 | ((try clear h); subst_vars; first | exact hb119 | rfl)) ?_
                            conv => arg 1; cbv
                            replace h := Option.bind_eq_some_iff.1 h
                            obtain ⟨r120, hx121, h⟩ := h
                            refine sat_call (ok53x1 hΩ hE hx121 (by (try clear h); subst_vars; rfl) _) ?_
                            conv => arg 1; cbv
                            replace h := bif_cases h
                            rcases h with ⟨hb122, h⟩ | ⟨hb122, h⟩
                            · refine sat_brt (by first | exact hb122 | ((try clear h); subst_vars; first | exact hb122 | rfl)) ?_
                              conv => arg 1; cbv
                              refine sat_len hΩ (ro_Field hE) a0_el fun n123 hn124 => ?_
                              conv => arg 1; cbv
                              replace h := bif_cases h
                              rcases h with ⟨hb125, h⟩ | ⟨hb125, h⟩
                              · refine sat_brt (by first | exact hb125 | ((try clear h); subst_vars; first | exact hb125 | rfl)) ?_
                                conv => arg 1; cbv
                                refine sat_tick hΩ ?_
                                conv => arg 1; cbv
                                replace h := Option.bind_eq_some_iff.1 h
                                obtain ⟨l126, hx127, h⟩ := h
                                have hL128 : ([[.int .u8 5], [.int .u8 7]] : List (List D)) = E.L_i_u8 l126 := by (have hy := Option.some.inj hx127; clear h; subst hy; subst hE; rfl)
                                rw [hL128]
                                clear hL128
                                conv => arg 1; cbv
                                replace h := Option.bind_eq_some_iff.1 h
                                obtain ⟨r129, hx130, h⟩ := h
                                refine sat_call (ok53x1 hΩ hE hx130 (by (try clear h); subst_vars; rfl) _) ?_
                                conv => arg 1; cbv
                                obtain rfl := Option.some.inj h
                                subst_vars
                                first | exact hk | (simp only [ln_set] at hk ⊢; exact hk)
                              · refine sat_brf (by first | exact hb125 | ((try clear h); subst_vars; first | exact hb125 | rfl)) ?_
                                conv => arg 1; cbv
                                refine sat_tick hΩ ?_
                                conv => arg 1; cbv
                                obtain rfl := Option.some.inj h
                                subst_vars
                                first | exact hk | (simp only [ln_set] at hk ⊢; exact hk)
                            · refine sat_brf (by first | exact hb122 | ((try clear h); subst_vars; first | exact hb122 | rfl)) ?_
                              conv => arg 1; cbv
                              refine sat_tick hΩ ?_
                              conv => arg 1; cbv
                              obtain rfl := Option.some.inj h
                              subst_vars
                              first | exact hk | (simp only [ln_set] at hk ⊢; exact hk)
                          · refine sat_brf (by first | exact hb119 | ((try clear h); subst_vars; first | exact hb119 | rfl)) ?_
                            conv => arg 1; cbv
                            refine sat_len hΩ (ro_Field hE) a0_el fun n131 hn132 => ?_
                            conv => arg 1; cbv
                            replace h := bif_cases h
                            rcases h with ⟨hb133, h⟩ | ⟨hb133, h⟩
                            · refine sat_brt (by first | exact hb133 | ((try clear h); subst_vars; first | exact hb133 | rfl)) ?_
                              conv => arg 1; cbv
                              refine sat_tick hΩ ?_
                              conv => arg 1; cbv
                              replace h := Option.bind_eq_some_iff.1 h
                              obtain ⟨l134, hx135, h⟩ := h
                              have hL136 : ([[.int .u8 5], [.int .u8 7]] : List (List D)) = E.L_i_u8 l134 := by (have hy := Option.some.inj hx135; clear h; subst hy; subst hE; rfl)
                              rw [hL136]
                              clear hL136
                              conv => arg 1; cbv
                              replace h := Option.bind_eq_some_iff.1 h
                              obtain ⟨r137, hx138, h⟩ := h
                              refine sat_call (ok53x1 hΩ hE hx138 (by (try clear h); subst_vars; rfl) _) ?_
                              conv => arg 1; cbv
                              obtain rfl := Option.some.inj h
                              subst_vars
                              first | exact hk | (simp only [ln_set] at hk ⊢; exact hk)
                            · refine sat_brf (by first | exact hb133 | ((try clear h); subst_vars; first | exact hb133 | rfl)) ?_
                              conv => arg 1; cbv
                              refine sat_tick hΩ ?_
                              conv => arg 1; cbv
                              obtain rfl := Option.some.inj h
                              subst_vars
                              first | exact hk | (simp only [ln_set] at hk ⊢; exact hk)
                    · refine sat_brf (by first | exact hb26 | ((try clear h); subst_vars; first | exact hb26 | rfl)) ?_
                      conv => arg 1; cbv
                      refine sat_tick hΩ ?_
                      conv => arg 1; cbv
                      refine sat_tick hΩ ?_
                      conv => arg 1; cbv
                      replace h := bif_cases h
                      rcases h with ⟨hb139, h⟩ | ⟨hb139, h⟩
                      · refine sat_brt (by first | exact hb139 | ((try clear h); subst_vars; first | exact hb139 | rfl)) ?_
                        conv => arg 1; cbv
                        replace h := Option.bind_eq_some_iff.1 h
                        obtain ⟨l140, hx141, h⟩ := h
                        have hL142 : ([[.int .u8 3], [.int .u8 7]] : List (List D)) = E.L_i_u8 l140 := by (have hy := Option.some.inj hx141; clear h; subst hy; subst hE; rfl)
                        rw [hL142]
                        clear hL142
                        conv => arg 1; cbv
                        replace h := Option.bind_eq_some_iff.1 h
                        obtain ⟨r143, hx144, h⟩ := h
                        refine sat_call (ok53x1 hΩ hE hx144 (by (try clear h); subst_vars; rfl) _) ?_
                        conv => arg 1; cbv
                        replace h := bif_cases h
                        rcases h with ⟨hb145, h⟩ | ⟨hb145, h⟩
                        · refine sat_brt (by first | exact hb145 | ((try clear h); subst_vars; first | exact hb145 | rfl)) ?_
                          conv => arg 1; cbv
                          refine sat_len hΩ (ro_Value hE) a0_dl fun n146 hn147 => ?_
                          conv => arg 1; cbv
                          refine sat_tick hΩ ?_
                          conv => arg 1; cbv
                          replace h := bif_cases h
                          rcases h with ⟨hb148, h⟩ | ⟨hb148, h⟩
                          · refine sat_brt (by first | exact hb148 | ((try clear h); subst_vars; first | exact hb148 | rfl)) ?_
                            conv => arg 1; cbv
                            replace h := Option.bind_eq_some_iff.1 h
                            obtain ⟨r149, hx150, h⟩ := h
                            refine sat_call (ok53x1 hΩ hE hx150 (by (try clear h); subst_vars; rfl) _) ?_
                            conv => arg 1; cbv
                            replace h := bif_cases h
                            rcases h with ⟨hb151, h⟩ | ⟨hb151, h⟩
                            · refine sat_brt (by first | exact hb151 | ((try clear h); subst_vars; first | exact hb151 | rfl)) ?_
                              conv => arg 1; cbv
                              refine sat_len hΩ (ro_Field hE) a0_el fun n152 hn153 => ?_
                              conv => arg 1; cbv
                              replace h := bif_cases h
                              rcases h with ⟨hb154, h⟩ | ⟨hb154, h⟩
                              · refine sat_brt (by first | exact hb154 | ((try clear h); subst_vars; first | exact hb154 | rfl)) ?_
                                conv => arg 1; cbv
                                refine sat_tick hΩ ?_
                                conv => arg 1; cbv
                                replace h := Option.bind_eq_some_iff.1 h
                                obtain ⟨l155, hx156, h⟩ := h
                                have hL157 : ([[.int .u8 5], [.int .u8 7]] : List (List D)) = E.L_i_u8 l155 := by (have hy := Option.some.inj hx156; clear h; subst hy; subst hE; rfl)
                                rw [hL157]
                                clear hL157
                                conv => arg 1; cbv
                                replace h := Option.bind_eq_some_iff.1 h
                                obtain ⟨r158, hx159, h⟩ := h
                                refine sat_call (ok53x1 hΩ hE hx159 (by (try clear h); subst_vars; rfl) _) ?_
                                conv => arg 1; cbv
                                obtain rfl := Option.some.inj h
                                subst_vars
                                first | exact hk | (simp only [ln_set] at hk ⊢; exact hk)
                              · refine sat_brf (by first | exact hb154 | ((try clear h); subst_vars; first | exact hb154 | rfl)) ?_
                                conv => arg 1; cbv
                                refine sat_tick hΩ ?_
                                conv => arg 1; cbv
                                obtain rfl := Option.some.inj h
                                subst_vars
                                first | exact hk | (simp only [ln_set] at hk ⊢; exact hk)
                            · refine sat_brf (by first | exact hb151 | ((try clear h); subst_vars; first | exact hb151 | rfl)) ?_
                              conv => arg 1; cbv
                              refine sat_tick hΩ ?_
                              conv => arg 1; cbv
                              obtain rfl := Option.some.inj h
                              subst_vars
                              first | exact hk | (simp only [ln_set] at hk ⊢; exact hk)
                          · refine sat_brf (by first | exact hb148 | ((try clear h); subst_vars; first | exact hb148 | rfl)) ?_
                            conv => arg 1; cbv
                            refine sat_len hΩ (ro_Field hE) a0_el fun n160 hn161 => ?_
                            conv => arg 1; cbv
                            replace h := bif_cases h
                            rcases h with ⟨hb162, h⟩ | ⟨hb162, h⟩
                            · refine sat_brt (by first | exact hb162 | ((try clear h); subst_vars; first | exact hb162 | rfl)) ?_
                              conv => arg 1; cbv
                              refine sat_tick hΩ ?_
                              conv => arg 1; cbv
                              replace h := Option.bind_eq_some_iff.1 h
                              obtain ⟨l163, hx164, h⟩ := h
                              have hL165 : ([[.int .u8 5], [.int .u8 7]] : List (List D)) = E.L_i_u8 l163 := by (have hy := Option.some.inj hx164; clear h; subst hy; subst hE; rfl)
                              rw [hL165]
                              clear hL165
                              conv => arg 1; cbv
                              replace h := Option.bind_eq_some_iff.1 h
                              obtain ⟨r166, hx167, h⟩ := h
                              refine sat_call (ok53x1 hΩ hE hx167 (by (try clear h); subst_vars; rfl) _) ?_
                              conv => arg 1; cbv
                              obtain rfl := Option.some.inj h
                              subst_vars
                              first | exact hk | (simp only [ln_set] at hk ⊢; exact hk)
                            · refine sat_brf (by first | exact hb162 | ((try clear h); subst_vars; first | exact hb162 | rfl)) ?_
                              conv => arg 1; cbv
                              refine sat_tick hΩ ?_
                              conv => arg 1; cbv
                              obtain rfl := Option.some.inj h
                              subst_vars
                              first | exact hk | (simp only [ln_set] at hk ⊢; exact hk)
                        · refine sat_brf (by first | exact hb145 | ((try clear h); subst_vars; first | exact hb145 | rfl)) ?_
                          conv => arg 1; cbv
                          refine sat_tick hΩ ?_
                          conv => arg 1; cbv
                          refine sat_tick hΩ ?_
                          conv => arg 1; cbv
                          obtain rfl := Option.some.inj h
                          subst_vars
                          first | exact hk | (simp only [ln_set] at hk ⊢; exact hk)
                      · refine sat_brf (by first | exact hb139 | ((try clear h); subst_vars; first | exact hb139 | rfl)) ?_
                        conv => arg 1; cbv
                        refine sat_len hΩ (ro_Value hE) a0_dl fun n168 hn169 => ?_
                        conv => arg 1; cbv
                        refine sat_tick hΩ ?_
                        conv => arg 1; cbv
                        replace h := bif_cases h
                        rcases h with ⟨hb170, h⟩ | ⟨hb170, h⟩
                        · refine sat_brt (by first | exact hb170 | ((try clear h); subst_vars; first | exact hb170 | rfl)) ?_
                          conv => arg 1; cbv
                          replace h := Option.bind_eq_some_iff.1 h
                          obtain ⟨r171, hx172, h⟩ := h
                          refine sat_call (ok53x1 hΩ hE hx172 (by (try clear h); subst_vars; rfl) _) ?_
                          conv => arg 1; cbv
                          replace h := bif_cases h
                          rcases h with ⟨hb173, h⟩ | ⟨hb173, h⟩
                          · refine sat_brt (by first | exact hb173 | ((try clear h); subst_vars; first | exact hb173 | rfl)) ?_
                            conv => arg 1; cbv
                            refine sat_len hΩ (ro_Field hE) a0_el fun n174 hn175 => ?_
                            conv => arg 1; cbv
                            replace h := bif_cases h
                            rcases h with ⟨hb176, h⟩ | ⟨hb176, h⟩
                            · refine sat_brt (by first | exact hb176 | ((try clear h); subst_vars; first | exact hb176 | rfl)) ?_
                              conv => arg 1; cbv
                              refine sat_tick hΩ ?_
                              conv => arg 1; cbv
                              replace h := Option.bind_eq_some_iff.1 h
                              obtain ⟨l177, hx178, h⟩ := h
                              have hL179 : ([[.int .u8 5], [.int .u8 7]] : List (List D)) = E.L_i_u8 l177 := by (have hy := Option.some.inj hx178; clear h; subst hy; subst hE; rfl)
                              rw [hL179]
                              clear hL179
                              conv => arg 1; cbv
                              replace h := Option.bind_eq_some_iff.1 h
                              obtain ⟨r180, hx181, h⟩ := h
                              refine sat_call (ok53x1 hΩ hE hx181 (by (try clear h); subst_vars; rfl) _) ?_
                              conv => arg 1; cbv
                              obtain rfl := Option.some.inj h
                              subst_vars
                              first | exact hk | (simp only [ln_set] at hk ⊢; exact hk)
                            · refine sat_brf (by first | exact hb176 | ((try clear h); subst_vars; first | exact hb176 | rfl)) ?_
                              conv => arg 1; cbv
                              refine sat_tick hΩ ?_
                              conv => arg 1; cbv
                              obtain rfl := Option.some.inj h
                              subst_vars
                              first | exact hk | (simp only [ln_set] at hk ⊢; exact hk)
                          · refine sat_brf (by first | exact hb173 | ((try clear h); subst_vars; first | exact hb173 | rfl)) ?_
                            conv => arg 1; cbv
                            refine sat_tick hΩ ?_
                            conv => arg 1; cbv
                            obtain rfl := Option.some.inj h
                            subst_vars
                            first | exact hk | (simp only [ln_set] at hk ⊢; exact hk)
                        · refine sat_brf (by first | exact hb170 | ((try clear h); subst_vars; first | exact hb170 | rfl)) ?_
                          conv => arg 1; cbv
                          refine sat_len hΩ (ro_Field hE) a0_el fun n182 hn183 => ?_
                          conv => arg 1; cbv
                          replace h := bif_cases h
                          rcases h with ⟨hb184, h⟩ | ⟨hb184, h⟩
                          · refine sat_brt (by first | exact hb184 | ((try clear h); subst_vars; first | exact hb184 | rfl)) ?_
                            conv => arg 1; cbv
                            refine sat_tick hΩ ?_
                            conv => arg 1; cbv
                            replace h := Option.bind_eq_some_iff.1 h
                            obtain ⟨l185, hx186, h⟩ := h
                            have hL187 : ([[.int .u8 5], [.int .u8 7]] : List (List D)) = E.L_i_u8 l185 := by (have hy := Option.some.inj hx186; clear h; subst hy; subst hE; rfl)
                            rw [hL187]
                            clear hL187
                            conv => arg 1; cbv
                            replace h := Option.bind_eq_some_iff.1 h
                            obtain ⟨r188, hx189, h⟩ := h
                            refine sat_call (ok53x1 hΩ hE hx189 (by (try clear h); subst_vars; rfl) _) ?_
                            conv => arg 1; cbv
                            obtain rfl := Option.some.inj h
                            subst_vars
                            first | exact hk | (simp only [ln_set] at hk ⊢; exact hk)
                          · refine sat_brf (by first | exact hb184 | ((try clear h); subst_vars; first | exact hb184 | rfl)) ?_
                            conv => arg 1; cbv
                            refine sat_tick hΩ ?_
                            conv => arg 1; cbv
                            obtain rfl := Option.some.inj h
                            subst_vars
                            first | exact hk | (simp only [ln_set] at hk ⊢; exact hk)
                  · refine sat_brf (by first | exact hb25 | ((try clear h); subst_vars; first | exact hb25 | rfl)) ?_
                    conv => arg 1; cbv
                    refine sat_tick hΩ ?_
                    conv => arg 1; cbv
                    refine sat_tick hΩ ?_
                    conv => arg 1; cbv
                    refine sat_tick hΩ ?_
                    conv => arg 1; cbv
                    refine sat_tick hΩ ?_
                    conv => arg 1; cbv
                    obtain rfl := Option.some.inj h
                    subst_vars
                    first | exact hk | (simp only [ln_set] at hk ⊢; exact hk)
                · refine sat_brf (by first | exact hb24 | ((try clear h); subst_vars; first | exact hb24 | rfl)) ?_
                  conv => arg 1; cbv
                  refine sat_tick hΩ ?_
                  conv => arg 1; cbv
                  refine sat_tick hΩ ?_
                  conv => arg 1; cbv
                  refine sat_tick hΩ ?_
                  conv => arg 1; cbv
                  refine sat_tick hΩ ?_
                  conv => arg 1; cbv
                  refine sat_tick hΩ ?_
                  conv => arg 1; cbv
                  obtain rfl := Option.some.inj h
                  subst_vars
                  first | exact hk | (simp only [ln_set] at hk ⊢; exact hk)
              · refine sat_brf (by first | exact hb23 | ((try clear h); subst_vars; first | exact hb23 | rfl)) ?_
                conv => arg 1; cbv
                refine sat_tick hΩ ?_
                conv => arg 1; cbv
                refine sat_tick hΩ ?_
                conv => arg 1; cbv
                refine sat_tick hΩ ?_
                conv => arg 1; cbv
                refine sat_tick hΩ ?_
                conv => arg 1; cbv
                refine sat_tick hΩ ?_
                conv => arg 1; cbv
                obtain rfl := Option.some.inj h
                subst_vars
                first | exact hk | (simp only [ln_set] at hk ⊢; exact hk)
            · refine sat_brf (by first | exact hb22 | ((try clear h); subst_vars; first | exact hb22 | rfl)) ?_
              conv => arg 1; cbv
              refine sat_tick hΩ ?_
              conv => arg 1; cbv
              refine sat_tick hΩ ?_
              conv => arg 1; cbv
              refine sat_tick hΩ ?_
              conv => arg 1; cbv
              refine sat_tick hΩ ?_
              conv => arg 1; cbv
              refine sat_tick hΩ ?_
              conv => arg 1; cbv
              refine sat_tick hΩ ?_
              conv => arg 1; cbv
              obtain rfl := Option.some.inj h
              subst_vars
              first | exact hk | (simp only [ln_set] at hk ⊢; exact hk)
          · refine sat_brf (by first | exact hb21 | ((try clear h); subst_vars; first | exact hb21 | rfl)) ?_
            conv => arg 1; cbv
            refine sat_tick hΩ ?_
            conv => arg 1; cbv
            refine sat_tick hΩ ?_
            conv => arg 1; cbv
            refine sat_tick hΩ ?_
            conv => arg 1; cbv
            refine sat_tick hΩ ?_
            conv => arg 1; cbv
            refine sat_tick hΩ ?_
            conv => arg 1; cbv
            refine sat_tick hΩ ?_
            conv => arg 1; cbv
            obtain rfl := Option.some.inj h
            subst_vars
            first | exact hk | (simp only [ln_set] at hk ⊢; exact hk)
        · clear hq191
          obtain ⟨i190, hqq⟩ : ∃ x, x = q := ⟨_, rfl⟩
          subst hqq
          try dsimp only at h
          conv => arg 1; cbv
          obtain rfl := Option.some.inj h
          subst_vars
          exact sat_pure rfl
    · dsimp only at h
      conv => arg 1; cbv
      obtain rfl := Option.some.inj h
      subst_vars
      exact sat_pure rfl
set_option maxHeartbeats 4000000 in
theorem ok34x1 {Ω : Om} {E : Enc} (hΩ : real (call S) = Ω) (hE : theEnc = E) {fu : Nat} {a0 : Value} {a1 : Int} {b0 c0 : Int} {b1 c1 : Bool} {S : (Int × Bool) → St} {lz0 iz0 iz1 : Nat} (e0 : b0 = c0) (e1 : b1 = c1) (hg0 : ∀ s, X.look (S s) lz0 iz0 = some (X.Obj.box 3 (bx_3 E s.1))) (hu0 : ∀ s x, X.setO (S s) lz0 iz0 (X.Obj.box 3 (bx_3 E x)) = S (x, s.2)) (hg1 : ∀ s, X.look (S s) lz0 iz1 = some (X.Obj.box 4 (bx_4 E s.2))) (hu1 : ∀ s x, X.setO (S s) lz0 iz1 (X.Obj.box 4 (bx_4 E x)) = S (s.1, x)) {r : Bool × Int × Bool} (h : P34x1 fu a0 a1 b0 b1 = some r) {args : List PV} (ha : [pv_Value E a0, PV.d (.int .i64 a1), PV.ptr lz0 iz0 0, PV.ptr lz0 iz1 0] = args) {st : St} (hst : S (c0, c1) = st) :
    Sat (Ω.cf 34 args st) (fun q => q = (PV.d (.bool r.1), S (r.2.1, r.2.2))) := by
  subst ha
  subst hst
  subst e0
  subst e1
  rcases a0 with ⟨a0_a, a0_b, a0_c, ⟨a0_dl, a0_dx⟩, ⟨a0_el, a0_ex⟩, a0_f, a0_g, a0_h⟩
  rw [cf_body hΩ (f := 34) (fn := Tryd.f34) (x := c34) rfl rfl c34_ok rfl rfl rfl]
  unfold P34x1 at h
  try dsimp only at h
  conv => arg 1; cbv
  refine sat_far hΩ (hg0 _) rfl ?_
  conv => arg 1; cbv
  refine sat_putfar hΩ (hg0 _) (hu0 _ (Ω.wrap .i64 (Ω.add b0 1))) rfl rfl ?_
  conv => arg 1; cbv
  replace h := Option.bind_eq_some_iff.1 h
  obtain ⟨q, hq6, h⟩ := h
  refine sat_grp hΩ ((fun (q : Bool) => (match q with | g5 => ([(0, PV.agg [.d (.int .u8 a0_a), .d (.int .i64 a0_b), .d (.str a0_c), .d (.sl (E.L_Value a0_dl) (E.X_Value a0_dx)), .d (.sl (E.L_Field a0_el) (E.X_Field a0_ex)), .d (.int .u8 a0_f), .d (.str a0_g), .d (.bool a0_h)]), (1, PV.d (.int .i64 a1)), (2, PV.ptr (lz0+1) iz0 0), (3, PV.ptr (lz0+1) iz1 0), (4, PV.eptr [.int .u8 a0_a, .int .i64 a0_b, .str a0_c, .sl (E.L_Value a0_dl) (E.X_Value a0_dx), .sl (E.L_Field a0_el) (E.X_Field a0_ex), .int .u8 a0_f, .str a0_g, .bool a0_h]), (6, PV.d (.bool false))], ([] : List X.Obj) :: S (Ω.wrap .i64 (Ω.add b0 1), g5)))) q) (fun k hk => ?_) ?_
  · clear h
    have h := hq6
    clear hq6
    conv => arg 1; cbv
    replace h := Option.bind_eq_some_iff.1 h
    obtain ⟨r1, hx2, h⟩ := h
    refine sat_call (ok35 hΩ hE hx2 (by (try clear h); subst_vars; rfl) _) ?_
    conv => arg 1; cbv
    replace h := bif_cases h
    rcases h with ⟨hb3, h⟩ | ⟨hb3, h⟩
    · refine sat_brt (by first | exact hb3 | ((try clear h); subst_vars; first | exact hb3 | rfl)) ?_
      conv => arg 1; cbv
      refine sat_far hΩ (hg0 _) rfl ?_
      conv => arg 1; cbv
      replace h := bif_cases h
      rcases h with ⟨hb4, h⟩ | ⟨hb4, h⟩
      · refine sat_brt (by first | exact hb4 | ((try clear h); subst_vars; first | exact hb4 | rfl)) ?_
        conv => arg 1; cbv
        refine sat_putfar hΩ (hg1 _) (hu1 _ (Ω.ile a1 64)) rfl rfl ?_
        conv => arg 1; cbv
        obtain rfl := Option.some.inj h
        subst_vars
        first | exact hk | (simp only [ln_set] at hk ⊢; exact hk)
      · refine sat_brf (by first | exact hb4 | ((try clear h); subst_vars; first | exact hb4 | rfl)) ?_
        conv => arg 1; cbv
        refine sat_putfar hΩ (hg1 _) (hu1 _ false) rfl rfl ?_
        conv => arg 1; cbv
        obtain rfl := Option.some.inj h
        subst_vars
        first | exact hk | (simp only [ln_set] at hk ⊢; exact hk)
    · refine sat_brf (by first | exact hb3 | ((try clear h); subst_vars; first | exact hb3 | rfl)) ?_
      conv => arg 1; cbv
      refine sat_putfar hΩ (hg1 _) (hu1 _ false) rfl rfl ?_
      conv => arg 1; cbv
      obtain rfl := Option.some.inj h
      subst_vars
      first | exact hk | (simp only [ln_set] at hk ⊢; exact hk)
  · clear hq6
    obtain ⟨g5, hqq⟩ : ∃ x, x = q := ⟨_, rfl⟩
    subst hqq
    try dsimp only at h
    conv => arg 1; cbv
    refine sat_far hΩ (hg1 _) rfl ?_
    conv => arg 1; cbv
    obtain rfl := Option.some.inj h
    subst_vars
    exact sat_pure rfl
set_option maxHeartbeats 4000000 in
theorem okb50x1 {Ω : Om} {E : Enc} (hΩ : real (call S) = Ω) (hE : theEnc = E) {fu : Nat} {p50x1 : Value → Int → Int → Bool → Option (Bool × Int × Bool)} (hp50x1 : ∀ {a0 : Value} {a1 : Int} {b1 c1 : Int} {b2 c2 : Bool} {S : (Int × Bool) → St} {lz0 lz1 ly1 iz0 iz1 iz2 iz3 : Nat} (hl1 : ly1 + lz0 = lz1) (e1 : b1 = c1) (e2 : b2 = c2) (hg0 : ∀ s, X.look (S s) lz0 iz0 = some (X.Obj.box 60 [PV.fn 34 [.ptr ly1 iz1 0, .ptr ly1 iz2 0]])) (hg1 : ∀ s, X.look (S s) lz1 iz1 = some (X.Obj.box 3 (bx_3 E s.1))) (hu1 : ∀ s x, X.setO (S s) lz1 iz1 (X.Obj.box 3 (bx_3 E x)) = S (x, s.2)) (hg2 : ∀ s, X.look (S s) lz1 iz2 = some (X.Obj.box 4 (bx_4 E s.2))) (hu2 : ∀ s x, X.setO (S s) lz1 iz2 (X.Obj.box 4 (bx_4 E x)) = S (s.1, x)) (hg3 : ∀ s, X.look (S s) lz0 iz3 = some (X.Obj.box 60 [PV.fn 50 [.ptr 0 iz0 0, .ptr 0 iz3 0]])) {r : Bool × Int × Bool}, p50x1 a0 a1 b1 b2 = some r → ∀ {args : List PV}, [pv_Value E a0, PV.d (.int .i64 a1), PV.ptr lz0 iz0 0, PV.ptr lz0 iz3 0] = args → ∀ {st : St}, S (c1, c2) = st → Sat (Ω.cf 50 args st) (fun q => q = (PV.d (.bool r.1), S (r.2.1, r.2.2)))) {a0 : Value} {a1 : Int} {b1 c1 : Int} {b2 c2 : Bool} {S : (Int × Bool) → St} {lz0 lz1 ly1 iz0 iz1 iz2 iz3 : Nat} (hl1 : ly1 + lz0 = lz1) (e1 : b1 = c1) (e2 : b2 = c2) (hg0 : ∀ s, X.look (S s) lz0 iz0 = some (X.Obj.box 60 [PV.fn 34 [.ptr ly1 iz1 0, .ptr ly1 iz2 0]])) (hg1 : ∀ s, X.look (S s) lz1 iz1 = some (X.Obj.box 3 (bx_3 E s.1))) (hu1 : ∀ s x, X.setO (S s) lz1 iz1 (X.Obj.box 3 (bx_3 E x)) = S (x, s.2)) (hg2 : ∀ s, X.look (S s) lz1 iz2 = some (X.Obj.box 4 (bx_4 E s.2))) (hu2 : ∀ s x, X.setO (S s) lz1 iz2 (X.Obj.box 4 (bx_4 E x)) = S (s.1, x)) (hg3 : ∀ s, X.look (S s) lz0 iz3 = some (X.Obj.box 60 [PV.fn 50 [.ptr 0 iz0 0, .ptr 0 iz3 0]])) {r : Bool × Int × Bool} (h : Pb50x1 fu p50x1 a0 a1 b1 b2 = some r) {args : List PV} (ha : [pv_Value E a0, PV.d (.int .i64 a1), PV.ptr lz0 iz0 0, PV.ptr lz0 iz3 0] = args) {st : St} (hst : S (c1, c2) = st) :
    Sat (Ω.cf 50 args st) (fun q => q = (PV.d (.bool r.1), S (r.2.1, r.2.2))) := by
  subst ha
  subst hst
  subst e1
  subst e2
  rcases a0 with ⟨a0_a, a0_b, a0_c, ⟨a0_dl, a0_dx⟩, ⟨a0_el, a0_ex⟩, a0_f, a0_g, a0_h⟩
  rw [cf_body hΩ (f := 50) (fn := Tryd.f50) (x := c50) rfl rfl c50_ok rfl rfl rfl]
  unfold Pb50x1 at h
  try dsimp only at h
  conv => arg 1; cbv
  refine sat_far hΩ (hg0 _) (by exact (show down.downs (lz0+1) [PV.fn 34 [.ptr ly1 iz1 0, .ptr ly1 iz2 0]] = [PV.fn 34 [.ptr (lz1+1) iz1 0, .ptr (lz1+1) iz2 0]] by simp only [down.downs, down, Nat.zero_add, ← hl1, Nat.add_assoc])) ?_
  conv => arg 1; cbv
  replace h := Option.bind_eq_some_iff.1 h
  obtain ⟨⟨r2, wr3, wr4⟩, hx1, h⟩ := h
  try dsimp only at h
  refine sat_call (ok34x1 hΩ hE (S := (fun (s : Int × Bool) => ([] : List X.Obj) :: S (s.1, s.2))) (lz0 := (lz1+1)) (iz0 := iz1) (iz1 := iz2) (c0 := b1) (c1 := b2) (by (try clear h); subst_vars; rfl) (by (try clear h); subst_vars; rfl) (fun s => hg1 (s.1, s.2)) (fun s x => congrArg (List.cons _) (hu1 (s.1, s.2) x)) (fun s => hg2 (s.1, s.2)) (fun s x => congrArg (List.cons _) (hu2 (s.1, s.2) x)) hx1 (by (try clear h); subst_vars; rfl) (by (try clear h); subst_vars; rfl)) ?_
  conv => arg 1; cbv
  refine sat_in hΩ ?_
  conv => arg 1; cbv
  replace h := bif_cases h
  rcases h with ⟨hb5, h⟩ | ⟨hb5, h⟩
  · refine sat_brt (by first | exact hb5 | ((try clear h); subst_vars; first | exact hb5 | rfl)) ?_
    conv => arg 1; cbv
    obtain rfl := Option.some.inj h
    subst_vars
    exact sat_pure rfl
  · refine sat_brf (by first | exact hb5 | ((try clear h); subst_vars; first | exact hb5 | rfl)) ?_
    conv => arg 1; cbv
    refine sat_len hΩ (ro_Value hE) a0_dl fun n6 hn7 => ?_
    conv => arg 1; cbv
    replace h := Option.bind_eq_some_iff.1 h
    obtain ⟨q, hl19, h⟩ := h
    refine sat_loop hΩ (fun (a : Int × Bool × Int) => (match a with | (g8, g9, i10) => ([(0, PV.agg [.d (.int .u8 a0_a), .d (.int .i64 a0_b), .d (.str a0_c), .d (.sl (E.L_Value a0_dl) (E.X_Value a0_dx)), .d (.sl (E.L_Field a0_el) (E.X_Field a0_ex)), .d (.int .u8 a0_f), .d (.str a0_g), .d (.bool a0_h)]), (1, PV.d (.int .i64 a1)), (2, PV.ptr (lz0+1) iz0 0), (3, PV.ptr (lz0+1) iz3 0), (4, PV.eptr [.int .u8 a0_a, .int .i64 a0_b, .str a0_c, .sl (E.L_Value a0_dl) (E.X_Value a0_dx), .sl (E.L_Field a0_el) (E.X_Field a0_ex), .int .u8 a0_f, .str a0_g, .bool a0_h]), (6, PV.d (.bool false)), (17, PV.d (.sl (E.L_Value a0_dl) (E.X_Value a0_dx))), (18, PV.d (.int .i64 n6)), (19, PV.d (.int .i64 i10))], ([] : List X.Obj) :: S (g8, g9)))) (fun (q : (Int × Bool × Int) ⊕ (Int × Bool × Int)) => (match q with | .inl (o20, o21, o22) => (.exit 0, [(0, PV.agg [.d (.int .u8 a0_a), .d (.int .i64 a0_b), .d (.str a0_c), .d (.sl (E.L_Value a0_dl) (E.X_Value a0_dx)), .d (.sl (E.L_Field a0_el) (E.X_Field a0_ex)), .d (.int .u8 a0_f), .d (.str a0_g), .d (.bool a0_h)]), (1, PV.d (.int .i64 a1)), (2, PV.ptr (lz0+1) iz0 0), (3, PV.ptr (lz0+1) iz3 0), (4, PV.eptr [.int .u8 a0_a, .int .i64 a0_b, .str a0_c, .sl (E.L_Value a0_dl) (E.X_Value a0_dx), .sl (E.L_Field a0_el) (E.X_Field a0_ex), .int .u8 a0_f, .str a0_g, .bool a0_h]), (6, PV.d (.bool false)), (17, PV.d (.sl (E.L_Value a0_dl) (E.X_Value a0_dx))), (18, PV.d (.int .i64 n6)), (19, PV.d (.int .i64 o22))], ([] : List X.Obj) :: S (o20, o21)) | .inr (o43, o44, o45) => (.ret, [(0, PV.agg [.d (.int .u8 a0_a), .d (.int .i64 a0_b), .d (.str a0_c), .d (.sl (E.L_Value a0_dl) (E.X_Value a0_dx)), .d (.sl (E.L_Field a0_el) (E.X_Field a0_ex)), .d (.int .u8 a0_f), .d (.str a0_g), .d (.bool a0_h)]), (1, PV.d (.int .i64 a1)), (2, PV.ptr (lz0+1) iz0 0), (3, PV.ptr (lz0+1) iz3 0), (4, PV.eptr [.int .u8 a0_a, .int .i64 a0_b, .str a0_c, .sl (E.L_Value a0_dl) (E.X_Value a0_dx), .sl (E.L_Field a0_el) (E.X_Field a0_ex), .int .u8 a0_f, .str a0_g, .bool a0_h]), (6, PV.d (.bool false)), (17, PV.d (.sl (E.L_Value a0_dl) (E.X_Value a0_dx))), (18, PV.d (.int .i64 n6)), (19, PV.d (.int .i64 o45))], ([] : List X.Obj) :: S (o43, o44)))) (wr3, wr4, 0) hl19 ?_ ?_
    · clear h hl19
      rintro ⟨g8, g9, i10⟩ q h
      unfold P50x1_s0 at h
      dsimp only at h
      conv => arg 1; cbv
      refine sat_in hΩ ?_
      conv => arg 1; cbv
      replace h := bif_cases h
      rcases h with ⟨hb11, h⟩ | ⟨hb11, h⟩
      · refine sat_brt (by first | exact hb11 | ((try clear h); subst_vars; first | exact hb11 | rfl)) ?_
        conv => arg 1; cbv
        refine sat_true (fits_l hΩ (ro_Value hE) a0_dl) ?_
        conv => arg 1; cbv
        replace h := Option.bind_eq_some_iff.1 h
        obtain ⟨⟨x12_a, x12_b, x12_c, ⟨x12_dl, x12_dx⟩, ⟨x12_el, x12_ex⟩, x12_f, x12_g, x12_h⟩, hx13, h⟩ := h
        try dsimp only at h
        refine sat_bind (nth_ok hΩ (ro_Value hE) hx13) ?_
        conv => arg 1; cbv
        refine sat_far hΩ (hg3 _) (by exact (show down.downs (lz0+1) [PV.fn 50 [.ptr 0 iz0 0, .ptr 0 iz3 0]] = [PV.fn 50 [.ptr (lz0+1) iz0 0, .ptr (lz0+1) iz3 0]] by simp only [down.downs, down, Nat.zero_add, ← hl1, Nat.add_assoc])) ?_
        conv => arg 1; cbv
        replace h := Option.bind_eq_some_iff.1 h
        obtain ⟨⟨r15, wr16, wr17⟩, hx14, h⟩ := h
        try dsimp only at h
        refine sat_call (hp50x1 (S := (fun (s : Int × Bool) => ([X.Obj.box 27 [.d (.int .u8 x12_a), .d (.int .i64 x12_b), .d (.str x12_c), .d (.sl (E.L_Value x12_dl) (E.X_Value x12_dx)), .d (.sl (E.L_Field x12_el) (E.X_Field x12_ex)), .d (.int .u8 x12_f), .d (.str x12_g), .d (.bool x12_h)]] : List X.Obj) :: S (s.1, s.2))) (lz0 := (lz0+1)) (lz1 := (lz1+1)) (ly1 := ly1) (iz0 := iz0) (iz1 := iz1) (iz2 := iz2) (iz3 := iz3) (c1 := g8) (c2 := g9) (by first | rfl | omega) (by (try clear h); subst_vars; rfl) (by (try clear h); subst_vars; rfl) (fun s => hg0 (s.1, s.2)) (fun s => hg1 (s.1, s.2)) (fun s x => congrArg (List.cons _) (hu1 (s.1, s.2) x)) (fun s => hg2 (s.1, s.2)) (fun s x => congrArg (List.cons _) (hu2 (s.1, s.2) x)) (fun s => hg3 (s.1, s.2)) hx14 (by (try clear h); subst_vars; rfl) (by (try clear h); subst_vars; rfl)) ?_
        conv => arg 1; cbv
        refine sat_in hΩ ?_
        conv => arg 1; cbv
        replace h := bif_cases h
        rcases h with ⟨hb18, h⟩ | ⟨hb18, h⟩
        · refine sat_brt (by first | exact hb18 | ((try clear h); subst_vars; first | exact hb18 | rfl)) ?_
          conv => arg 1; cbv
          obtain rfl := Option.some.inj h
          subst_vars
          first | exact sat_pure (.inr ⟨rfl, rfl⟩) | (refine sat_pure (.inr ⟨rfl, ?_⟩); dsimp only; simp only [ln_set]; rfl)
        · refine sat_brf (by first | exact hb18 | ((try clear h); subst_vars; first | exact hb18 | rfl)) ?_
          conv => arg 1; cbv
          obtain rfl := Option.some.inj h
          subst_vars
          first | exact sat_pure ⟨rfl, rfl, rfl⟩ | (refine sat_pure ⟨rfl, ?_, ?_⟩ <;> first | rfl | (dsimp only; simp only [ln_set]; rfl))
      · refine sat_brf (by first | exact hb11 | ((try clear h); subst_vars; first | exact hb11 | rfl)) ?_
        conv => arg 1; cbv
        obtain rfl := Option.some.inj h
        subst_vars
        first | exact sat_pure (.inl ⟨⟨_, rfl⟩, rfl⟩) | (refine sat_pure (.inl ⟨⟨_, rfl⟩, ?_⟩); dsimp only; simp only [ln_set]; rfl)
    · clear hl19
      rcases q with ⟨o20, o21, o22⟩ | ⟨o43, o44, o45⟩
      · dsimp only at h
        conv => arg 1; cbv
        refine sat_len hΩ (ro_Field hE) a0_el fun n23 hn24 => ?_
        conv => arg 1; cbv
        replace h := Option.bind_eq_some_iff.1 h
        obtain ⟨q, hl36, h⟩ := h
        refine sat_loop hΩ (fun (a : Int × Bool × Int) => (match a with | (g25, g26, i27) => ([(0, PV.agg [.d (.int .u8 a0_a), .d (.int .i64 a0_b), .d (.str a0_c), .d (.sl (E.L_Value a0_dl) (E.X_Value a0_dx)), .d (.sl (E.L_Field a0_el) (E.X_Field a0_ex)), .d (.int .u8 a0_f), .d (.str a0_g), .d (.bool a0_h)]), (1, PV.d (.int .i64 a1)), (2, PV.ptr (lz0+1) iz0 0), (3, PV.ptr (lz0+1) iz3 0), (4, PV.eptr [.int .u8 a0_a, .int .i64 a0_b, .str a0_c, .sl (E.L_Value a0_dl) (E.X_Value a0_dx), .sl (E.L_Field a0_el) (E.X_Field a0_ex), .int .u8 a0_f, .str a0_g, .bool a0_h]), (6, PV.d (.bool false)), (17, PV.d (.sl (E.L_Value a0_dl) (E.X_Value a0_dx))), (18, PV.d (.int .i64 n6)), (19, PV.d (.int .i64 o22)), (31, PV.d (.sl (E.L_Field a0_el) (E.X_Field a0_ex))), (32, PV.d (.int .i64 n23)), (33, PV.d (.int .i64 i27))], ([] : List X.Obj) :: S (g25, g26)))) (fun (q : (Int × Bool × Int) ⊕ (Int × Bool × Int)) => (match q with | .inl (o37, o38, o39) => (.exit 2, [(0, PV.agg [.d (.int .u8 a0_a), .d (.int .i64 a0_b), .d (.str a0_c), .d (.sl (E.L_Value a0_dl) (E.X_Value a0_dx)), .d (.sl (E.L_Field a0_el) (E.X_Field a0_ex)), .d (.int .u8 a0_f), .d (.str a0_g), .d (.bool a0_h)]), (1, PV.d (.int .i64 a1)), (2, PV.ptr (lz0+1) iz0 0), (3, PV.ptr (lz0+1) iz3 0), (4, PV.eptr [.int .u8 a0_a, .int .i64 a0_b, .str a0_c, .sl (E.L_Value a0_dl) (E.X_Value a0_dx), .sl (E.L_Field a0_el) (E.X_Field a0_ex), .int .u8 a0_f, .str a0_g, .bool a0_h]), (6, PV.d (.bool false)), (17, PV.d (.sl (E.L_Value a0_dl) (E.X_Value a0_dx))), (18, PV.d (.int .i64 n6)), (19, PV.d (.int .i64 o22)), (31, PV.d (.sl (E.L_Field a0_el) (E.X_Field a0_ex))), (32, PV.d (.int .i64 n23)), (33, PV.d (.int .i64 o39))], ([] : List X.Obj) :: S (o37, o38)) | .inr (o40, o41, o42) => (.ret, [(0, PV.agg [.d (.int .u8 a0_a), .d (.int .i64 a0_b), .d (.str a0_c), .d (.sl (E.L_Value a0_dl) (E.X_Value a0_dx)), .d (.sl (E.L_Field a0_el) (E.X_Field a0_ex)), .d (.int .u8 a0_f), .d (.str a0_g), .d (.bool a0_h)]), (1, PV.d (.int .i64 a1)), (2, PV.ptr (lz0+1) iz0 0), (3, PV.ptr (lz0+1) iz3 0), (4, PV.eptr [.int .u8 a0_a, .int .i64 a0_b, .str a0_c, .sl (E.L_Value a0_dl) (E.X_Value a0_dx), .sl (E.L_Field a0_el) (E.X_Field a0_ex), .int .u8 a0_f, .str a0_g, .bool a0_h]), (6, PV.d (.bool false)), (17, PV.d (.sl (E.L_Value a0_dl) (E.X_Value a0_dx))), (18, PV.d (.int .i64 n6)), (19, PV.d (.int .i64 o22)), (31, PV.d (.sl (E.L_Field a0_el) (E.X_Field a0_ex))), (32, PV.d (.int .i64 n23)), (33, PV.d (.int .i64 o42))], ([] : List X.Obj) :: S (o40, o41)))) (o20, o21, 0) hl36 ?_ ?_
        · clear h hl36
          rintro ⟨g25, g26, i27⟩ q h
          unfold P50x1_s1 at h
          dsimp only at h
          conv => arg 1; cbv
          refine sat_in hΩ ?_
          conv => arg 1; cbv
          replace h := bif_cases h
          rcases h with ⟨hb28, h⟩ | ⟨hb28, h⟩
          · refine sat_brt (by first | exact hb28 | ((try clear h); subst_vars; first | exact hb28 | rfl)) ?_
            conv => arg 1; cbv
            refine sat_true (fits_l hΩ (ro_Field hE) a0_el) ?_
            conv => arg 1; cbv
            replace h := Option.bind_eq_some_iff.1 h
            obtain ⟨⟨x29_a, ⟨x29_ba, x29_bb, x29_bc, ⟨x29_bdl, x29_bdx⟩, ⟨x29_bel, x29_bex⟩, x29_bf, x29_bg, x29_bh⟩⟩, hx30, h⟩ := h
            try dsimp only at h
            refine sat_bind (nth_ok hΩ (ro_Field hE) hx30) ?_
            conv => arg 1; cbv
            refine sat_far hΩ (hg3 _) (by exact (show down.downs (lz0+1) [PV.fn 50 [.ptr 0 iz0 0, .ptr 0 iz3 0]] = [PV.fn 50 [.ptr (lz0+1) iz0 0, .ptr (lz0+1) iz3 0]] by simp only [down.downs, down, Nat.zero_add, ← hl1, Nat.add_assoc])) ?_
            conv => arg 1; cbv
            replace h := Option.bind_eq_some_iff.1 h
            obtain ⟨⟨r32, wr33, wr34⟩, hx31, h⟩ := h
            try dsimp only at h
            refine sat_call (hp50x1 (S := (fun (s : Int × Bool) => ([X.Obj.box 36 [.d (.str x29_a), .d (.int .u8 x29_ba), .d (.int .i64 x29_bb), .d (.str x29_bc), .d (.sl (E.L_Value x29_bdl) (E.X_Value x29_bdx)), .d (.sl (E.L_Field x29_bel) (E.X_Field x29_bex)), .d (.int .u8 x29_bf), .d (.str x29_bg), .d (.bool x29_bh)]] : List X.Obj) :: S (s.1, s.2))) (lz0 := (lz0+1)) (lz1 := (lz1+1)) (ly1 := ly1) (iz0 := iz0) (iz1 := iz1) (iz2 := iz2) (iz3 := iz3) (c1 := g25) (c2 := g26) (by first | rfl | omega) (by (try clear h); subst_vars; rfl) (by (try clear h); subst_vars; rfl) (fun s => hg0 (s.1, s.2)) (fun s => hg1 (s.1, s.2)) (fun s x => congrArg (List.cons _) (hu1 (s.1, s.2) x)) (fun s => hg2 (s.1, s.2)) (fun s x => congrArg (List.cons _) (hu2 (s.1, s.2) x)) (fun s => hg3 (s.1, s.2)) hx31 (by (try clear h); subst_vars; rfl) (by (try clear h); subst_vars; rfl)) ?_
            conv => arg 1; cbv
            refine sat_in hΩ ?_
            conv => arg 1; cbv
            replace h := bif_cases h
            rcases h with ⟨hb35, h⟩ | ⟨hb35, h⟩
            · refine sat_brt (by first | exact hb35 | ((try clear h); subst_vars; first | exact hb35 | rfl)) ?_
              conv => arg 1; cbv
              obtain rfl := Option.some.inj h
              subst_vars
              first | exact sat_pure (.inr ⟨rfl, rfl⟩) | (refine sat_pure (.inr ⟨rfl, ?_⟩); dsimp only; simp only [ln_set]; rfl)
            · refine sat_brf (by first | exact hb35 | ((try clear h); subst_vars; first | exact hb35 | rfl)) ?_
              conv => arg 1; cbv
              obtain rfl := Option.some.inj h
              subst_vars
              first | exact sat_pure ⟨rfl, rfl, rfl⟩ | (refine sat_pure ⟨rfl, ?_, ?_⟩ <;> first | rfl | (dsimp only; simp only [ln_set]; rfl))
          · refine sat_brf (by first | exact hb28 | ((try clear h); subst_vars; first | exact hb28 | rfl)) ?_
            conv => arg 1; cbv
            obtain rfl := Option.some.inj h
            subst_vars
            first | exact sat_pure (.inl ⟨⟨_, rfl⟩, rfl⟩) | (refine sat_pure (.inl ⟨⟨_, rfl⟩, ?_⟩); dsimp only; simp only [ln_set]; rfl)
        · clear hl36
          rcases q with ⟨o37, o38, o39⟩ | ⟨o40, o41, o42⟩
          · dsimp only at h
            conv => arg 1; cbv
            obtain rfl := Option.some.inj h
            subst_vars
            exact sat_pure rfl
          · dsimp only at h
            conv => arg 1; cbv
            obtain rfl := Option.some.inj h
            subst_vars
            exact sat_pure rfl
      · dsimp only at h
        conv => arg 1; cbv
        obtain rfl := Option.some.inj h
        subst_vars
        exact sat_pure rfl
theorem okr50x1 {Ω : Om} {E : Enc} (hΩ : real (call S) = Ω) (hE : theEnc = E) : ∀ fu,
    (∀ {a0 : Value} {a1 : Int} {b1 c1 : Int} {b2 c2 : Bool} {S : (Int × Bool) → St} {lz0 lz1 ly1 iz0 iz1 iz2 iz3 : Nat} (hl1 : ly1 + lz0 = lz1) (e1 : b1 = c1) (e2 : b2 = c2) (hg0 : ∀ s, X.look (S s) lz0 iz0 = some (X.Obj.box 60 [PV.fn 34 [.ptr ly1 iz1 0, .ptr ly1 iz2 0]])) (hg1 : ∀ s, X.look (S s) lz1 iz1 = some (X.Obj.box 3 (bx_3 E s.1))) (hu1 : ∀ s x, X.setO (S s) lz1 iz1 (X.Obj.box 3 (bx_3 E x)) = S (x, s.2)) (hg2 : ∀ s, X.look (S s) lz1 iz2 = some (X.Obj.box 4 (bx_4 E s.2))) (hu2 : ∀ s x, X.setO (S s) lz1 iz2 (X.Obj.box 4 (bx_4 E x)) = S (s.1, x)) (hg3 : ∀ s, X.look (S s) lz0 iz3 = some (X.Obj.box 60 [PV.fn 50 [.ptr 0 iz0 0, .ptr 0 iz3 0]])) {r : Bool × Int × Bool}, P50x1 fu a0 a1 b1 b2 = some r → ∀ {args : List PV}, [pv_Value E a0, PV.d (.int .i64 a1), PV.ptr lz0 iz0 0, PV.ptr lz0 iz3 0] = args → ∀ {st : St}, S (c1, c2) = st → Sat (Ω.cf 50 args st) (fun q => q = (PV.d (.bool r.1), S (r.2.1, r.2.2)))) := by
  intro fu
  induction fu with
  | zero => exact (@fun _ _ _ _ _ _ _ _ _ _ _ _ _ _ _ _ _ _ _ _ _ _ _ _ h => by cases h)
  | succ fu ih =>
    have i50x1 := @ih
    exact (@fun a0 a1 b1 c1 b2 c2 S lz0 lz1 ly1 iz0 iz1 iz2 iz3 hl1 e1 e2 hg0 hg1 hu1 hg2 hu2 hg3 r h args ha st hs => okb50x1 (fu := fu) hΩ hE i50x1 hl1 e1 e2 hg0 hg1 hu1 hg2 hu2 hg3 h ha hs)
theorem ok50x1 {Ω : Om} {E : Enc} (hΩ : real (call S) = Ω) (hE : theEnc = E) {fu : Nat} : ∀ {a0 : Value} {a1 : Int} {b1 c1 : Int} {b2 c2 : Bool} {S : (Int × Bool) → St} {lz0 lz1 ly1 iz0 iz1 iz2 iz3 : Nat} (hl1 : ly1 + lz0 = lz1) (e1 : b1 = c1) (e2 : b2 = c2) (hg0 : ∀ s, X.look (S s) lz0 iz0 = some (X.Obj.box 60 [PV.fn 34 [.ptr ly1 iz1 0, .ptr ly1 iz2 0]])) (hg1 : ∀ s, X.look (S s) lz1 iz1 = some (X.Obj.box 3 (bx_3 E s.1))) (hu1 : ∀ s x, X.setO (S s) lz1 iz1 (X.Obj.box 3 (bx_3 E x)) = S (x, s.2)) (hg2 : ∀ s, X.look (S s) lz1 iz2 = some (X.Obj.box 4 (bx_4 E s.2))) (hu2 : ∀ s x, X.setO (S s) lz1 iz2 (X.Obj.box 4 (bx_4 E x)) = S (s.1, x)) (hg3 : ∀ s, X.look (S s) lz0 iz3 = some (X.Obj.box 60 [PV.fn 50 [.ptr 0 iz0 0, .ptr 0 iz3 0]])) {r : Bool × Int × Bool}, P50x1 fu a0 a1 b1 b2 = some r → ∀ {args : List PV}, [pv_Value E a0, PV.d (.int .i64 a1), PV.ptr lz0 iz0 0, PV.ptr lz0 iz3 0] = args → ∀ {st : St}, S (c1, c2) = st → Sat (Ω.cf 50 args st) (fun q => q = (PV.d (.bool r.1), S (r.2.1, r.2.2))) := (okr50x1 hΩ hE fu)
set_option maxHeartbeats 4000000 in
theorem ok33x1 {Ω : Om} {E : Enc} (hΩ : real (call S) = Ω) (hE : theEnc = E) {fu : Nat} {a0 : Value} {b0 c0 : Int} {b1 c1 : Bool} {S : (Int × Bool) → St} {lz0 iz0 iz1 : Nat} (e0 : b0 = c0) (e1 : b1 = c1) (hg0 : ∀ s, X.look (S s) lz0 iz0 = some (X.Obj.box 3 (bx_3 E s.1))) (hu0 : ∀ s x, X.setO (S s) lz0 iz0 (X.Obj.box 3 (bx_3 E x)) = S (x, s.2)) (hg1 : ∀ s, X.look (S s) lz0 iz1 = some (X.Obj.box 4 (bx_4 E s.2))) (hu1 : ∀ s x, X.setO (S s) lz0 iz1 (X.Obj.box 4 (bx_4 E x)) = S (s.1, x)) {r : Int × Bool} (h : P33x1 fu a0 b0 b1 = some r) {args : List PV} (ha : [pv_Value E a0, PV.fn 34 [.ptr lz0 iz0 0, .ptr lz0 iz1 0]] = args) {st : St} (hst : S (c0, c1) = st) :
    Sat (Ω.cf 33 args st) (fun q => q = (PV.tup [], S (r.1, r.2))) := by
  subst ha
  subst hst
  subst e0
  subst e1
  rcases a0 with ⟨a0_a, a0_b, a0_c, ⟨a0_dl, a0_dx⟩, ⟨a0_el, a0_ex⟩, a0_f, a0_g, a0_h⟩
  rw [cf_body hΩ (f := 33) (fn := Tryd.f33) (x := c33) rfl rfl c33_ok rfl rfl rfl]
  unfold P33x1 at h
  try dsimp only at h
  conv => arg 1; cbv
  replace h := Option.bind_eq_some_iff.1 h
  obtain ⟨⟨r2, wr3, wr4⟩, hx1, h⟩ := h
  try dsimp only at h
  refine sat_call (ok50x1 hΩ hE (S := (fun (s : Int × Bool) => ([X.Obj.box 60 [.fn 34 [.ptr (lz0+1) iz0 0, .ptr (lz0+1) iz1 0]], X.Obj.box 60 [.fn 50 [.ptr 0 0 0, .ptr 0 1 0]]] : List X.Obj) :: S (s.1, s.2))) (lz0 := 0) (lz1 := (lz0+1)) (ly1 := (lz0+1)) (iz0 := 0) (iz1 := iz0) (iz2 := iz1) (iz3 := 1) (c1 := b0) (c2 := b1) (by first | rfl | omega) (by (try clear h); subst_vars; rfl) (by (try clear h); subst_vars; rfl) (fun s => rfl) (fun s => hg0 (s.1, s.2)) (fun s x => congrArg (List.cons _) (hu0 (s.1, s.2) x)) (fun s => hg1 (s.1, s.2)) (fun s x => congrArg (List.cons _) (hu1 (s.1, s.2) x)) (fun s => rfl) hx1 (by (try clear h); subst_vars; rfl) (by (try clear h); subst_vars; rfl)) ?_
  conv => arg 1; cbv
  obtain rfl := Option.some.inj h
  subst_vars
  exact sat_pure rfl
set_option maxHeartbeats 4000000 in
theorem ok15 {Ω : Om} {E : Enc} (hΩ : real (call S) = Ω) (hE : theEnc = E) {fu : Nat} {a0 : Value} {r : Bool} (h : P15 fu a0 = some r) {args : List PV} (ha : [pv_Value E a0] = args) (st : St) :
    Sat (Ω.cf 15 args st) (fun q => q = (PV.d (.bool r), st)) := by
  subst ha
  rcases a0 with ⟨a0_a, a0_b, a0_c, ⟨a0_dl, a0_dx⟩, ⟨a0_el, a0_ex⟩, a0_f, a0_g, a0_h⟩
  rw [cf_body hΩ (f := 15) (fn := Tryd.f15) (x := c15) rfl rfl c15_ok rfl rfl rfl]
  unfold P15 at h
  try dsimp only at h
  conv => arg 1; cbv
  replace h := Option.bind_eq_some_iff.1 h
  obtain ⟨⟨wr2, wr3⟩, hx1, h⟩ := h
  try dsimp only at h
  refine sat_call (ok33x1 hΩ hE (S := (fun (s : Int × Bool) => ([X.Obj.box 3 (bx_3 E s.1), X.Obj.box 4 (bx_4 E s.2)] : List X.Obj) :: st)) (lz0 := 0) (iz0 := 0) (iz1 := 1) (c0 := 0) (c1 := true) (by (try clear h); subst_vars; rfl) (by (try clear h); subst_vars; rfl) (fun s => rfl) (fun s x => rfl) (fun s => rfl) (fun s x => rfl) hx1 (by (try clear h); subst_vars; rfl) (by (try clear h); subst_vars; rfl)) ?_
  conv => arg 1; cbv
  obtain rfl := Option.some.inj h
  subst_vars
  exact sat_pure rfl
set_option maxHeartbeats 4000000 in
theorem ok6 {Ω : Om} {E : Enc} (hΩ : real (call S) = Ω) (hE : theEnc = E) {fu : Nat} {a0 : Value} {a1 : Value} {a2 : Value} {r : Bool} (h : P6 fu a0 a1 a2 = some r) {args : List PV} (ha : [pv_Value E a0, pv_Value E a1, pv_Value E a2] = args) (st : St) :
    Sat (Ω.cf 6 args st) (fun q => q = (PV.d (.bool r), st)) := by
  subst ha
  rcases a0 with ⟨a0_a, a0_b, a0_c, ⟨a0_dl, a0_dx⟩, ⟨a0_el, a0_ex⟩, a0_f, a0_g, a0_h⟩
  rcases a1 with ⟨a1_a, a1_b, a1_c, ⟨a1_dl, a1_dx⟩, ⟨a1_el, a1_ex⟩, a1_f, a1_g, a1_h⟩
  rcases a2 with ⟨a2_a, a2_b, a2_c, ⟨a2_dl, a2_dx⟩, ⟨a2_el, a2_ex⟩, a2_f, a2_g, a2_h⟩
  rw [cf_body hΩ (f := 6) (fn := Tryd.f6) (x := c6) rfl rfl c6_ok rfl rfl rfl]
  unfold P6 at h
  try dsimp only at h
  conv => arg 1; cbv
  replace h := Option.bind_eq_some_iff.1 h
  obtain ⟨q, hq71, h⟩ := h
  refine sat_grp hΩ ((fun (q : Bool) => (match q with | i15 => ([(0, PV.agg [.d (.int .u8 a0_a), .d (.int .i64 a0_b), .d (.str a0_c), .d (.sl (E.L_Value a0_dl) (E.X_Value a0_dx)), .d (.sl (E.L_Field a0_el) (E.X_Field a0_ex)), .d (.int .u8 a0_f), .d (.str a0_g), .d (.bool a0_h)]), (1, PV.agg [.d (.int .u8 a1_a), .d (.int .i64 a1_b), .d (.str a1_c), .d (.sl (E.L_Value a1_dl) (E.X_Value a1_dx)), .d (.sl (E.L_Field a1_el) (E.X_Field a1_ex)), .d (.int .u8 a1_f), .d (.str a1_g), .d (.bool a1_h)]), (2, PV.agg [.d (.int .u8 a2_a), .d (.int .i64 a2_b), .d (.str a2_c), .d (.sl (E.L_Value a2_dl) (E.X_Value a2_dx)), .d (.sl (E.L_Field a2_el) (E.X_Field a2_ex)), .d (.int .u8 a2_f), .d (.str a2_g), .d (.bool a2_h)]), (3, PV.eptr [.int .u8 a0_a, .int .i64 a0_b, .str a0_c, .sl (E.L_Value a0_dl) (E.X_Value a0_dx), .sl (E.L_Field a0_el) (E.X_Field a0_ex), .int .u8 a0_f, .str a0_g, .bool a0_h]), (4, PV.eptr [.int .u8 a1_a, .int .i64 a1_b, .str a1_c, .sl (E.L_Value a1_dl) (E.X_Value a1_dx), .sl (E.L_Field a1_el) (E.X_Field a1_ex), .int .u8 a1_f, .str a1_g, .bool a1_h]), (5, PV.eptr [.int .u8 a2_a, .int .i64 a2_b, .str a2_c, .sl (E.L_Value a2_dl) (E.X_Value a2_dx), .sl (E.L_Field a2_el) (E.X_Field a2_ex), .int .u8 a2_f, .str a2_g, .bool a2_h]), (6, PV.d (.bool false)), (22, PV.d (.bool i15))], ([] : List X.Obj) :: st))) q) (fun k hk => ?_) ?_
  · clear h
    have h := hq71
    clear hq71
    conv => arg 1; cbv
    replace h := Option.bind_eq_some_iff.1 h
    obtain ⟨r1, hx2, h⟩ := h
    refine sat_call (ok12 hΩ hE hx2 (by (try clear h); subst_vars; rfl) _) ?_
    conv => arg 1; cbv
    replace h := bif_cases h
    rcases h with ⟨hb3, h⟩ | ⟨hb3, h⟩
    · refine sat_brt (by first | exact hb3 | ((try clear h); subst_vars; first | exact hb3 | rfl)) ?_
      conv => arg 1; cbv
      replace h := Option.bind_eq_some_iff.1 h
      obtain ⟨r4, hx5, h⟩ := h
      refine sat_call (ok14 hΩ hE hx5 (by (try clear h); subst_vars; rfl) _) ?_
      conv => arg 1; cbv
      refine sat_true (same_ok hΩ _) ?_
      conv => arg 1; cbv
      replace h := Option.bind_eq_some_iff.1 h
      obtain ⟨r6, hx7, h⟩ := h
      refine sat_call (ok14 hΩ hE hx7 (by (try clear h); subst_vars; rfl) _) ?_
      conv => arg 1; cbv
      refine sat_true (same_ok hΩ _) ?_
      conv => arg 1; cbv
      replace h := Option.bind_eq_some_iff.1 h
      obtain ⟨r8, hx9, h⟩ := h
      refine sat_call (ok14 hΩ hE hx9 (by (try clear h); subst_vars; rfl) _) ?_
      conv => arg 1; cbv
      replace h := Option.bind_eq_some_iff.1 h
      obtain ⟨l10, hx11, h⟩ := h
      have hL12 : ([[.int .i64 r4], [.int .i64 r6], [.int .i64 r8]] : List (List D)) = E.L_i_i64 l10 := by (have hy := Option.some.inj hx11; clear h; subst hy; subst hE; rfl)
      rw [hL12]
      clear hL12
      conv => arg 1; cbv
      replace h := Option.bind_eq_some_iff.1 h
      obtain ⟨r13, hx14, h⟩ := h
      refine sat_call (ok13 hΩ hE hx14 (by (try clear h); subst_vars; rfl) _) ?_
      conv => arg 1; cbv
      obtain rfl := Option.some.inj h
      subst_vars
      first | exact hk | (simp only [ln_set] at hk ⊢; exact hk)
    · refine sat_brf (by first | exact hb3 | ((try clear h); subst_vars; first | exact hb3 | rfl)) ?_
      conv => arg 1; cbv
      obtain rfl := Option.some.inj h
      subst_vars
      first | exact hk | (simp only [ln_set] at hk ⊢; exact hk)
  · clear hq71
    obtain ⟨i15, hqq⟩ : ∃ x, x = q := ⟨_, rfl⟩
    subst hqq
    try dsimp only at h
    conv => arg 1; cbv
    refine sat_in hΩ ?_
    conv => arg 1; cbv
    replace h := bif_cases h
    rcases h with ⟨hb16, h⟩ | ⟨hb16, h⟩
    · refine sat_brt (by first | exact hb16 | ((try clear h); subst_vars; first | exact hb16 | rfl)) ?_
      conv => arg 1; cbv
      replace h := Option.bind_eq_some_iff.1 h
      obtain ⟨r17, hx18, h⟩ := h
      refine sat_call (ok12 hΩ hE hx18 (by (try clear h); subst_vars; rfl) _) ?_
      conv => arg 1; cbv
      obtain rfl := Option.some.inj h
      subst_vars
      exact sat_pure rfl
    · refine sat_brf (by first | exact hb16 | ((try clear h); subst_vars; first | exact hb16 | rfl)) ?_
      conv => arg 1; cbv
      replace h := Option.bind_eq_some_iff.1 h
      obtain ⟨r19, hx20, h⟩ := h
      refine sat_call (ok17 hΩ hE hx20 (by (try clear h); subst_vars; rfl) _) ?_
      conv => arg 1; cbv
      refine sat_true (same_ok hΩ _) ?_
      conv => arg 1; cbv
      replace h := Option.bind_eq_some_iff.1 h
      obtain ⟨r21, hx22, h⟩ := h
      refine sat_call (ok17 hΩ hE hx22 (by (try clear h); subst_vars; rfl) _) ?_
      conv => arg 1; cbv
      refine sat_true (same_ok hΩ _) ?_
      conv => arg 1; cbv
      replace h := Option.bind_eq_some_iff.1 h
      obtain ⟨r23, hx24, h⟩ := h
      refine sat_call (ok17 hΩ hE hx24 (by (try clear h); subst_vars; rfl) _) ?_
      conv => arg 1; cbv
      replace h := Option.bind_eq_some_iff.1 h
      obtain ⟨q, hq70, h⟩ := h
      refine sat_grp hΩ ((fun (q : Bool) => (match q with | i48 => ([(0, PV.agg [.d (.int .u8 a0_a), .d (.int .i64 a0_b), .d (.str a0_c), .d (.sl (E.L_Value a0_dl) (E.X_Value a0_dx)), .d (.sl (E.L_Field a0_el) (E.X_Field a0_ex)), .d (.int .u8 a0_f), .d (.str a0_g), .d (.bool a0_h)]), (1, PV.agg [.d (.int .u8 a1_a), .d (.int .i64 a1_b), .d (.str a1_c), .d (.sl (E.L_Value a1_dl) (E.X_Value a1_dx)), .d (.sl (E.L_Field a1_el) (E.X_Field a1_ex)), .d (.int .u8 a1_f), .d (.str a1_g), .d (.bool a1_h)]), (2, PV.agg [.d (.int .u8 a2_a), .d (.int .i64 a2_b), .d (.str a2_c), .d (.sl (E.L_Value a2_dl) (E.X_Value a2_dx)), .d (.sl (E.L_Field a2_el) (E.X_Field a2_ex)), .d (.int .u8 a2_f), .d (.str a2_g), .d (.bool a2_h)]), (3, PV.eptr [.int .u8 a0_a, .int .i64 a0_b, .str a0_c, .sl (E.L_Value a0_dl) (E.X_Value a0_dx), .sl (E.L_Field a0_el) (E.X_Field a0_ex), .int .u8 a0_f, .str a0_g, .bool a0_h]), (4, PV.eptr [.int .u8 a1_a, .int .i64 a1_b, .str a1_c, .sl (E.L_Value a1_dl) (E.X_Value a1_dx), .sl (E.L_Field a1_el) (E.X_Field a1_ex), .int .u8 a1_f, .str a1_g, .bool a1_h]), (5, PV.eptr [.int .u8 a2_a, .int .i64 a2_b, .str a2_c, .sl (E.L_Value a2_dl) (E.X_Value a2_dx), .sl (E.L_Field a2_el) (E.X_Field a2_ex), .int .u8 a2_f, .str a2_g, .bool a2_h]), (6, PV.d (.bool false)), (7, PV.d (.bool r19)), (8, PV.d (.bool r21)), (9, PV.d (.bool r23)), (63, PV.d (.bool i48))], ([] : List X.Obj) :: st))) q) (fun k hk => ?_) ?_
      · clear h
        have h := hq70
        clear hq70
        conv => arg 1; cbv
        replace h := Option.bind_eq_some_iff.1 h
        obtain ⟨⟨r25_a, r25_b, r25_c, ⟨r25_dl, r25_dx⟩, ⟨r25_el, r25_ex⟩, r25_f, r25_g, r25_h⟩, hx26, h⟩ := h
        try dsimp only at h
        refine sat_call (ok21 hΩ hE hx26 (by (try clear h); subst_vars; rfl) _) ?_
        conv => arg 1; cbv
        refine sat_true (same_ok hΩ _) ?_
        conv => arg 1; cbv
        replace h := Option.bind_eq_some_iff.1 h
        obtain ⟨r27, hx28, h⟩ := h
        refine sat_call (ok17 hΩ hE hx28 (by (try clear h); subst_vars; rfl) _) ?_
        conv => arg 1; cbv
        replace h := bif_cases h
        rcases h with ⟨hb29, h⟩ | ⟨hb29, h⟩
        · refine sat_brt (by first | exact hb29 | ((try clear h); subst_vars; first | exact hb29 | rfl)) ?_
          conv => arg 1; cbv
          replace h := Option.bind_eq_some_iff.1 h
          obtain ⟨r30, hx31, h⟩ := h
          refine sat_call (ok17 hΩ hE hx31 (by (try clear h); subst_vars; rfl) _) ?_
          conv => arg 1; cbv
          refine sat_true (same_ok hΩ _) ?_
          conv => arg 1; cbv
          refine sat_tick hΩ ?_
          conv => arg 1; cbv
          replace h := bif_cases h
          rcases h with ⟨hb32, h⟩ | ⟨hb32, h⟩
          · refine sat_brt (by first | exact hb32 | ((try clear h); subst_vars; first | exact hb32 | rfl)) ?_
            conv => arg 1; cbv
            replace h := bif_cases h
            rcases h with ⟨hb33, h⟩ | ⟨hb33, h⟩
            · refine sat_brt (by first | exact hb33 | ((try clear h); subst_vars; first | exact hb33 | rfl)) ?_
              conv => arg 1; cbv
              replace h := bif_cases h
              rcases h with ⟨hb34, h⟩ | ⟨hb34, h⟩
              · refine sat_brt (by first | exact hb34 | ((try clear h); subst_vars; first | exact hb34 | rfl)) ?_
                conv => arg 1; cbv
                replace h := bif_cases h
                rcases h with ⟨hb35, h⟩ | ⟨hb35, h⟩
                · refine sat_brt (by first | exact hb35 | ((try clear h); subst_vars; first | exact hb35 | rfl)) ?_
                  conv => arg 1; cbv
                  refine sat_tick hΩ ?_
                  conv => arg 1; cbv
                  replace h := Option.bind_eq_some_iff.1 h
                  obtain ⟨r36, hx37, h⟩ := h
                  refine sat_call (ok22 hΩ hE hx37 (by (try clear h); subst_vars; rfl) _) ?_
                  conv => arg 1; cbv
                  refine sat_true (same_ok hΩ _) ?_
                  conv => arg 1; cbv
                  replace h := Option.bind_eq_some_iff.1 h
                  obtain ⟨r38, hx39, h⟩ := h
                  refine sat_call (ok22 hΩ hE hx39 (by (try clear h); subst_vars; rfl) _) ?_
                  conv => arg 1; cbv
                  obtain rfl := Option.some.inj h
                  subst_vars
                  first | exact hk | (simp only [ln_set] at hk ⊢; exact hk)
                · refine sat_brf (by first | exact hb35 | ((try clear h); subst_vars; first | exact hb35 | rfl)) ?_
                  conv => arg 1; cbv
                  refine sat_tick hΩ ?_
                  conv => arg 1; cbv
                  obtain rfl := Option.some.inj h
                  subst_vars
                  first | exact hk | (simp only [ln_set] at hk ⊢; exact hk)
              · refine sat_brf (by first | exact hb34 | ((try clear h); subst_vars; first | exact hb34 | rfl)) ?_
                conv => arg 1; cbv
                refine sat_tick hΩ ?_
                conv => arg 1; cbv
                replace h := Option.bind_eq_some_iff.1 h
                obtain ⟨r40, hx41, h⟩ := h
                refine sat_call (ok22 hΩ hE hx41 (by (try clear h); subst_vars; rfl) _) ?_
                conv => arg 1; cbv
                refine sat_true (same_ok hΩ _) ?_
                conv => arg 1; cbv
                replace h := Option.bind_eq_some_iff.1 h
                obtain ⟨r42, hx43, h⟩ := h
                refine sat_call (ok22 hΩ hE hx43 (by (try clear h); subst_vars; rfl) _) ?_
                conv => arg 1; cbv
                obtain rfl := Option.some.inj h
                subst_vars
                first | exact hk | (simp only [ln_set] at hk ⊢; exact hk)
            · refine sat_brf (by first | exact hb33 | ((try clear h); subst_vars; first | exact hb33 | rfl)) ?_
              conv => arg 1; cbv
              refine sat_tick hΩ ?_
              conv => arg 1; cbv
              replace h := Option.bind_eq_some_iff.1 h
              obtain ⟨r44, hx45, h⟩ := h
              refine sat_call (ok22 hΩ hE hx45 (by (try clear h); subst_vars; rfl) _) ?_
              conv => arg 1; cbv
              refine sat_true (same_ok hΩ _) ?_
              conv => arg 1; cbv
              replace h := Option.bind_eq_some_iff.1 h
              obtain ⟨r46, hx47, h⟩ := h
              refine sat_call (ok22 hΩ hE hx47 (by (try clear h); subst_vars; rfl) _) ?_
              conv => arg 1; cbv
              obtain rfl := Option.some.inj h
              subst_vars
              first | exact hk | (simp only [ln_set] at hk ⊢; exact hk)
          · refine sat_brf (by first | exact hb32 | ((try clear h); subst_vars; first | exact hb32 | rfl)) ?_
            conv => arg 1; cbv
            refine sat_tick hΩ ?_
            conv => arg 1; cbv
            obtain rfl := Option.some.inj h
            subst_vars
            first | exact hk | (simp only [ln_set] at hk ⊢; exact hk)
        · refine sat_brf (by first | exact hb29 | ((try clear h); subst_vars; first | exact hb29 | rfl)) ?_
          conv => arg 1; cbv
          refine sat_tick hΩ ?_
          conv => arg 1; cbv
          refine sat_tick hΩ ?_
          conv => arg 1; cbv
          obtain rfl := Option.some.inj h
          subst_vars
          first | exact hk | (simp only [ln_set] at hk ⊢; exact hk)
      · clear hq70
        obtain ⟨i48, hqq⟩ : ∃ x, x = q := ⟨_, rfl⟩
        subst hqq
        try dsimp only at h
        conv => arg 1; cbv
        refine sat_in hΩ ?_
        conv => arg 1; cbv
        replace h := bif_cases h
        rcases h with ⟨hb49, h⟩ | ⟨hb49, h⟩
        · refine sat_brt (by first | exact hb49 | ((try clear h); subst_vars; first | exact hb49 | rfl)) ?_
          conv => arg 1; cbv
          obtain rfl := Option.some.inj h
          subst_vars
          exact sat_pure rfl
        · refine sat_brf (by first | exact hb49 | ((try clear h); subst_vars; first | exact hb49 | rfl)) ?_
          conv => arg 1; cbv
          replace h := Option.bind_eq_some_iff.1 h
          obtain ⟨q, hq69, h⟩ := h
          refine sat_grp hΩ ((fun (q : Bool) => (match q with | i51 => ([(0, PV.agg [.d (.int .u8 a0_a), .d (.int .i64 a0_b), .d (.str a0_c), .d (.sl (E.L_Value a0_dl) (E.X_Value a0_dx)), .d (.sl (E.L_Field a0_el) (E.X_Field a0_ex)), .d (.int .u8 a0_f), .d (.str a0_g), .d (.bool a0_h)]), (1, PV.agg [.d (.int .u8 a1_a), .d (.int .i64 a1_b), .d (.str a1_c), .d (.sl (E.L_Value a1_dl) (E.X_Value a1_dx)), .d (.sl (E.L_Field a1_el) (E.X_Field a1_ex)), .d (.int .u8 a1_f), .d (.str a1_g), .d (.bool a1_h)]), (2, PV.agg [.d (.int .u8 a2_a), .d (.int .i64 a2_b), .d (.str a2_c), .d (.sl (E.L_Value a2_dl) (E.X_Value a2_dx)), .d (.sl (E.L_Field a2_el) (E.X_Field a2_ex)), .d (.int .u8 a2_f), .d (.str a2_g), .d (.bool a2_h)]), (3, PV.eptr [.int .u8 a0_a, .int .i64 a0_b, .str a0_c, .sl (E.L_Value a0_dl) (E.X_Value a0_dx), .sl (E.L_Field a0_el) (E.X_Field a0_ex), .int .u8 a0_f, .str a0_g, .bool a0_h]), (4, PV.eptr [.int .u8 a1_a, .int .i64 a1_b, .str a1_c, .sl (E.L_Value a1_dl) (E.X_Value a1_dx), .sl (E.L_Field a1_el) (E.X_Field a1_ex), .int .u8 a1_f, .str a1_g, .bool a1_h]), (5, PV.eptr [.int .u8 a2_a, .int .i64 a2_b, .str a2_c, .sl (E.L_Value a2_dl) (E.X_Value a2_dx), .sl (E.L_Field a2_el) (E.X_Field a2_ex), .int .u8 a2_f, .str a2_g, .bool a2_h]), (6, PV.d (.bool false)), (7, PV.d (.bool r19)), (8, PV.d (.bool r21)), (9, PV.d (.bool r23)), (10, PV.d (.bool i51))], ([] : List X.Obj) :: st))) q) (fun k hk => ?_) ?_
          · clear h
            have h := hq69
            clear hq69
            conv => arg 1; cbv
            replace h := bif_cases h
            rcases h with ⟨hb50, h⟩ | ⟨hb50, h⟩
            · refine sat_brt (by first | exact hb50 | ((try clear h); subst_vars; first | exact hb50 | rfl)) ?_
              conv => arg 1; cbv
              obtain rfl := Option.some.inj h
              subst_vars
              first | exact hk | (simp only [ln_set] at hk ⊢; exact hk)
            · refine sat_brf (by first | exact hb50 | ((try clear h); subst_vars; first | exact hb50 | rfl)) ?_
              conv => arg 1; cbv
              obtain rfl := Option.some.inj h
              subst_vars
              first | exact hk | (simp only [ln_set] at hk ⊢; exact hk)
          · clear hq69
            obtain ⟨i51, hqq⟩ : ∃ x, x = q := ⟨_, rfl⟩
            subst hqq
            try dsimp only at h
            conv => arg 1; cbv
            replace h := Option.bind_eq_some_iff.1 h
            obtain ⟨q, hq68, h⟩ := h
            refine sat_grp hΩ ((fun (q : Bool) => (match q with | i55 => ([(0, PV.agg [.d (.int .u8 a0_a), .d (.int .i64 a0_b), .d (.str a0_c), .d (.sl (E.L_Value a0_dl) (E.X_Value a0_dx)), .d (.sl (E.L_Field a0_el) (E.X_Field a0_ex)), .d (.int .u8 a0_f), .d (.str a0_g), .d (.bool a0_h)]), (1, PV.agg [.d (.int .u8 a1_a), .d (.int .i64 a1_b), .d (.str a1_c), .d (.sl (E.L_Value a1_dl) (E.X_Value a1_dx)), .d (.sl (E.L_Field a1_el) (E.X_Field a1_ex)), .d (.int .u8 a1_f), .d (.str a1_g), .d (.bool a1_h)]), (2, PV.agg [.d (.int .u8 a2_a), .d (.int .i64 a2_b), .d (.str a2_c), .d (.sl (E.L_Value a2_dl) (E.X_Value a2_dx)), .d (.sl (E.L_Field a2_el) (E.X_Field a2_ex)), .d (.int .u8 a2_f), .d (.str a2_g), .d (.bool a2_h)]), (3, PV.eptr [.int .u8 a0_a, .int .i64 a0_b, .str a0_c, .sl (E.L_Value a0_dl) (E.X_Value a0_dx), .sl (E.L_Field a0_el) (E.X_Field a0_ex), .int .u8 a0_f, .str a0_g, .bool a0_h]), (4, PV.eptr [.int .u8 a1_a, .int .i64 a1_b, .str a1_c, .sl (E.L_Value a1_dl) (E.X_Value a1_dx), .sl (E.L_Field a1_el) (E.X_Field a1_ex), .int .u8 a1_f, .str a1_g, .bool a1_h]), (5, PV.eptr [.int .u8 a2_a, .int .i64 a2_b, .str a2_c, .sl (E.L_Value a2_dl) (E.X_Value a2_dx), .sl (E.L_Field a2_el) (E.X_Field a2_ex), .int .u8 a2_f, .str a2_g, .bool a2_h]), (6, PV.d (.bool false)), (7, PV.d (.bool r19)), (8, PV.d (.bool r21)), (9, PV.d (.bool r23)), (10, PV.d (.bool i51)), (78, PV.d (.bool i55))], ([] : List X.Obj) :: st))) q) (fun k hk => ?_) ?_
            · clear h
              have h := hq68
              clear hq68
              conv => arg 1; cbv
              replace h := bif_cases h
              rcases h with ⟨hb52, h⟩ | ⟨hb52, h⟩
              · refine sat_brt (by first | exact hb52 | ((try clear h); subst_vars; first | exact hb52 | rfl)) ?_
                conv => arg 1; cbv
                replace h := Option.bind_eq_some_iff.1 h
                obtain ⟨r53, hx54, h⟩ := h
                refine sat_call (ok22 hΩ hE hx54 (by (try clear h); subst_vars; rfl) _) ?_
                conv => arg 1; cbv
                obtain rfl := Option.some.inj h
                subst_vars
                first | exact hk | (simp only [ln_set] at hk ⊢; exact hk)
              · refine sat_brf (by first | exact hb52 | ((try clear h); subst_vars; first | exact hb52 | rfl)) ?_
                conv => arg 1; cbv
                obtain rfl := Option.some.inj h
                subst_vars
                first | exact hk | (simp only [ln_set] at hk ⊢; exact hk)
            · clear hq68
              obtain ⟨i55, hqq⟩ : ∃ x, x = q := ⟨_, rfl⟩
              subst hqq
              try dsimp only at h
              conv => arg 1; cbv
              refine sat_in hΩ ?_
              conv => arg 1; cbv
              replace h := bif_cases h
              rcases h with ⟨hb56, h⟩ | ⟨hb56, h⟩
              · refine sat_brt (by first | exact hb56 | ((try clear h); subst_vars; first | exact hb56 | rfl)) ?_
                conv => arg 1; cbv
                obtain rfl := Option.some.inj h
                subst_vars
                exact sat_pure rfl
              · refine sat_brf (by first | exact hb56 | ((try clear h); subst_vars; first | exact hb56 | rfl)) ?_
                conv => arg 1; cbv
                replace h := Option.bind_eq_some_iff.1 h
                obtain ⟨q, hq67, h⟩ := h
                refine sat_grp hΩ ((fun (q : Bool) => (match q with | i66 => ([(0, PV.agg [.d (.int .u8 a0_a), .d (.int .i64 a0_b), .d (.str a0_c), .d (.sl (E.L_Value a0_dl) (E.X_Value a0_dx)), .d (.sl (E.L_Field a0_el) (E.X_Field a0_ex)), .d (.int .u8 a0_f), .d (.str a0_g), .d (.bool a0_h)]), (1, PV.agg [.d (.int .u8 a1_a), .d (.int .i64 a1_b), .d (.str a1_c), .d (.sl (E.L_Value a1_dl) (E.X_Value a1_dx)), .d (.sl (E.L_Field a1_el) (E.X_Field a1_ex)), .d (.int .u8 a1_f), .d (.str a1_g), .d (.bool a1_h)]), (2, PV.agg [.d (.int .u8 a2_a), .d (.int .i64 a2_b), .d (.str a2_c), .d (.sl (E.L_Value a2_dl) (E.X_Value a2_dx)), .d (.sl (E.L_Field a2_el) (E.X_Field a2_ex)), .d (.int .u8 a2_f), .d (.str a2_g), .d (.bool a2_h)]), (3, PV.eptr [.int .u8 a0_a, .int .i64 a0_b, .str a0_c, .sl (E.L_Value a0_dl) (E.X_Value a0_dx), .sl (E.L_Field a0_el) (E.X_Field a0_ex), .int .u8 a0_f, .str a0_g, .bool a0_h]), (4, PV.eptr [.int .u8 a1_a, .int .i64 a1_b, .str a1_c, .sl (E.L_Value a1_dl) (E.X_Value a1_dx), .sl (E.L_Field a1_el) (E.X_Field a1_ex), .int .u8 a1_f, .str a1_g, .bool a1_h]), (5, PV.eptr [.int .u8 a2_a, .int .i64 a2_b, .str a2_c, .sl (E.L_Value a2_dl) (E.X_Value a2_dx), .sl (E.L_Field a2_el) (E.X_Field a2_ex), .int .u8 a2_f, .str a2_g, .bool a2_h]), (6, PV.d (.bool i66)), (7, PV.d (.bool r19)), (8, PV.d (.bool r21)), (9, PV.d (.bool r23)), (10, PV.d (.bool i51))], ([] : List X.Obj) :: st))) q) (fun k hk => ?_) ?_
                · clear h
                  have h := hq67
                  clear hq67
                  conv => arg 1; cbv
                  replace h := bif_cases h
                  rcases h with ⟨hb57, h⟩ | ⟨hb57, h⟩
                  · refine sat_brt (by first | exact hb57 | ((try clear h); subst_vars; first | exact hb57 | rfl)) ?_
                    conv => arg 1; cbv
                    replace h := Option.bind_eq_some_iff.1 h
                    obtain ⟨r58, hx59, h⟩ := h
                    refine sat_call (ok15 hΩ hE hx59 (by (try clear h); subst_vars; rfl) _) ?_
                    conv => arg 1; cbv
                    replace h := bif_cases h
                    rcases h with ⟨hb60, h⟩ | ⟨hb60, h⟩
                    · refine sat_brt (by first | exact hb60 | ((try clear h); subst_vars; first | exact hb60 | rfl)) ?_
                      conv => arg 1; cbv
                      replace h := Option.bind_eq_some_iff.1 h
                      obtain ⟨r61, hx62, h⟩ := h
                      refine sat_call (ok15 hΩ hE hx62 (by (try clear h); subst_vars; rfl) _) ?_
                      conv => arg 1; cbv
                      refine sat_tick hΩ ?_
                      conv => arg 1; cbv
                      replace h := bif_cases h
                      rcases h with ⟨hb63, h⟩ | ⟨hb63, h⟩
                      · refine sat_brt (by first | exact hb63 | ((try clear h); subst_vars; first | exact hb63 | rfl)) ?_
                        conv => arg 1; cbv
                        replace h := Option.bind_eq_some_iff.1 h
                        obtain ⟨r64, hx65, h⟩ := h
                        refine sat_call (ok22 hΩ hE hx65 (by (try clear h); subst_vars; rfl) _) ?_
                        conv => arg 1; cbv
                        obtain rfl := Option.some.inj h
                        subst_vars
                        first | exact hk | (simp only [ln_set] at hk ⊢; exact hk)
                      · refine sat_brf (by first | exact hb63 | ((try clear h); subst_vars; first | exact hb63 | rfl)) ?_
                        conv => arg 1; cbv
                        obtain rfl := Option.some.inj h
                        subst_vars
                        first | exact hk | (simp only [ln_set] at hk ⊢; exact hk)
                    · refine sat_brf (by first | exact hb60 | ((try clear h); subst_vars; first | exact hb60 | rfl)) ?_
                      conv => arg 1; cbv
                      refine sat_tick hΩ ?_
                      conv => arg 1; cbv
                      obtain rfl := Option.some.inj h
                      subst_vars
                      first | exact hk | (simp only [ln_set] at hk ⊢; exact hk)
                  · refine sat_brf (by first | exact hb57 | ((try clear h); subst_vars; first | exact hb57 | rfl)) ?_
                    conv => arg 1; cbv
                    refine sat_tick hΩ ?_
                    conv => arg 1; cbv
                    obtain rfl := Option.some.inj h
                    subst_vars
                    first | exact hk | (simp only [ln_set] at hk ⊢; exact hk)
                · clear hq67
                  obtain ⟨i66, hqq⟩ : ∃ x, x = q := ⟨_, rfl⟩
                  subst hqq
                  try dsimp only at h
                  conv => arg 1; cbv
                  obtain rfl := Option.some.inj h
                  subst_vars
                  exact sat_pure rfl
end Go.Proofs.YtdmpjlpkmokllaaDoor
