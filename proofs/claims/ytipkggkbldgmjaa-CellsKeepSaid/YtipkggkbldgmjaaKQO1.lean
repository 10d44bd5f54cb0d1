/- The interpreter computes just these functions: printed by a small program. -/
import Derived.Test.YtipkggkbldgmjaaKQO0
namespace Go.Proofs.Ytipkggkbldgmjaa
open Go Go.X
set_option linter.unusedVariables false
set_option linter.unusedSimpArgs false
set_option maxRecDepth 100000
set_option maxHeartbeats 4000000 in
theorem ok63 {Ω : Om} {E : Enc} (hΩ : real (call S) = Ω) (hE : theEnc = E) {fu : Nat} {a0 : Value} {r : Bool} (h : P63 fu a0 = some r) {args : List PV} (ha : [pv_Value E a0] = args) (st : St) :
    Sat (Ω.cf 63 args st) (fun q => q = (PV.d (.bool r), st)) := by
  subst ha
  rcases a0 with ⟨a0_Kind, a0_N, a0_S, ⟨a0_L_l, a0_L_x⟩, ⟨a0_F_l, a0_F_x⟩, a0_Elem, a0_Key, a0_HasKey⟩
  rw [cf_body hΩ (f := 63) (fn := Try.f63) (x := c63) rfl rfl c63_ok rfl rfl]
  unfold P63 at h
  try dsimp only at h
  conv => arg 1; cbv
  refine sat_len hΩ (ro_Field hE) a0_F_l (by first | rfl | ((try clear h); subst_vars; rfl)) fun n1 hn2 => ?_
  conv => arg 1; cbv
  obtain ⟨q, hl16, hz⟩ := Option.bind_eq_some_iff.1 h
  clear h
  have h := hz
  clear hz
  refine sat_loop hΩ (fun (a : Int) => (match a with | i3 => ([(0, PV.agg [.d (.int .u8 a0_Kind), .d (.int .i64 a0_N), .d (.str a0_S), .d (.sl (E.L_Value a0_L_l) (E.X_Value a0_L_x)), .d (.sl (E.L_Field a0_F_l) (E.X_Field a0_F_x)), .d (.int .u8 a0_Elem), .d (.str a0_Key), .d (.bool a0_HasKey)]), (1, PV.ptr 0 0 0), (2, PV.d (.bool false)), (7, PV.d (.sl (E.L_Field a0_F_l) (E.X_Field a0_F_x))), (8, PV.d (.int .i64 n1)), (9, PV.d (.int .i64 i3))], ([X.Obj.box 27 [.d (.int .u8 a0_Kind), .d (.int .i64 a0_N), .d (.str a0_S), .d (.sl (E.L_Value a0_L_l) (E.X_Value a0_L_x)), .d (.sl (E.L_Field a0_F_l) (E.X_Field a0_F_x)), .d (.int .u8 a0_Elem), .d (.str a0_Key), .d (.bool a0_HasKey)]] : List X.Obj) :: st))) (fun (q : Int ⊕ Int) => (match q with | .inl o17 => (.exit 0, [(0, PV.agg [.d (.int .u8 a0_Kind), .d (.int .i64 a0_N), .d (.str a0_S), .d (.sl (E.L_Value a0_L_l) (E.X_Value a0_L_x)), .d (.sl (E.L_Field a0_F_l) (E.X_Field a0_F_x)), .d (.int .u8 a0_Elem), .d (.str a0_Key), .d (.bool a0_HasKey)]), (1, PV.ptr 0 0 0), (2, PV.d (.bool false)), (7, PV.d (.sl (E.L_Field a0_F_l) (E.X_Field a0_F_x))), (8, PV.d (.int .i64 n1)), (9, PV.d (.int .i64 o17))], ([X.Obj.box 27 [.d (.int .u8 a0_Kind), .d (.int .i64 a0_N), .d (.str a0_S), .d (.sl (E.L_Value a0_L_l) (E.X_Value a0_L_x)), .d (.sl (E.L_Field a0_F_l) (E.X_Field a0_F_x)), .d (.int .u8 a0_Elem), .d (.str a0_Key), .d (.bool a0_HasKey)]] : List X.Obj) :: st) | .inr o192 => (.ret, [(0, PV.agg [.d (.int .u8 a0_Kind), .d (.int .i64 a0_N), .d (.str a0_S), .d (.sl (E.L_Value a0_L_l) (E.X_Value a0_L_x)), .d (.sl (E.L_Field a0_F_l) (E.X_Field a0_F_x)), .d (.int .u8 a0_Elem), .d (.str a0_Key), .d (.bool a0_HasKey)]), (1, PV.ptr 0 0 0), (2, PV.d (.bool false)), (7, PV.d (.sl (E.L_Field a0_F_l) (E.X_Field a0_F_x))), (8, PV.d (.int .i64 n1)), (9, PV.d (.int .i64 o192))], ([X.Obj.box 27 [.d (.int .u8 a0_Kind), .d (.int .i64 a0_N), .d (.str a0_S), .d (.sl (E.L_Value a0_L_l) (E.X_Value a0_L_x)), .d (.sl (E.L_Field a0_F_l) (E.X_Field a0_F_x)), .d (.int .u8 a0_Elem), .d (.str a0_Key), .d (.bool a0_HasKey)]] : List X.Obj) :: st))) 0 hl16 (by first | rfl | ((try clear h); subst_vars; rfl) | ((try clear h); subst_vars; simp only [ln_set])) ?_ ?_
  · clear h hl16
    rintro i3 q h
    unfold P63_s0 at h
    dsimp only at h
    conv => arg 1; cbv
    refine sat_in hΩ ?_
    conv => arg 1; cbv
    replace h := bif_cases h
    rcases h with ⟨hb4, h⟩ | ⟨hb4, h⟩
    · refine sat_brt (by first | exact hb4 | ((try clear h); subst_vars; first | exact hb4 | rfl)) ?_
      conv => arg 1; cbv
      refine sat_true (fits_l hΩ (ro_Field hE) a0_F_l (by first | rfl | ((try clear h); subst_vars; rfl))) ?_
      conv => arg 1; cbv
      obtain ⟨⟨x5_Name, ⟨x5_Value__Kind, x5_Value__N, x5_Value__S, ⟨x5_Value__L_l, x5_Value__L_x⟩, ⟨x5_Value__F_l, x5_Value__F_x⟩, x5_Value__Elem, x5_Value__Key, x5_Value__HasKey⟩⟩, hx6, hz⟩ := Option.bind_eq_some_iff.1 h
      clear h
      have h := hz
      clear hz
      try dsimp only at h
      refine sat_bind (nth_ok hΩ (ro_Field hE) hx6 (by first | rfl | ((try clear h); subst_vars; rfl)) (by first | rfl | ((try clear h); subst_vars; rfl))) ?_
      conv => arg 1; cbv
      obtain ⟨q, hq15, hz⟩ := Option.bind_eq_some_iff.1 h
      clear h
      have h := hz
      clear hz
      refine sat_grp hΩ ((fun (q : Bool) => (match q with | i13 => ([(0, PV.agg [.d (.int .u8 a0_Kind), .d (.int .i64 a0_N), .d (.str a0_S), .d (.sl (E.L_Value a0_L_l) (E.X_Value a0_L_x)), .d (.sl (E.L_Field a0_F_l) (E.X_Field a0_F_x)), .d (.int .u8 a0_Elem), .d (.str a0_Key), .d (.bool a0_HasKey)]), (1, PV.ptr 0 0 0), (2, PV.d (.bool false)), (3, PV.d (.int .i64 i3)), (4, PV.ptr 0 1 0), (7, PV.d (.sl (E.L_Field a0_F_l) (E.X_Field a0_F_x))), (8, PV.d (.int .i64 n1)), (9, PV.d (.int .i64 i3)), (33, PV.d (.bool i13))], ([X.Obj.box 27 [.d (.int .u8 a0_Kind), .d (.int .i64 a0_N), .d (.str a0_S), .d (.sl (E.L_Value a0_L_l) (E.X_Value a0_L_x)), .d (.sl (E.L_Field a0_F_l) (E.X_Field a0_F_x)), .d (.int .u8 a0_Elem), .d (.str a0_Key), .d (.bool a0_HasKey)], X.Obj.box 49 [.d (.str x5_Name), .d (.int .u8 x5_Value__Kind), .d (.int .i64 x5_Value__N), .d (.str x5_Value__S), .d (.sl (E.L_Value x5_Value__L_l) (E.X_Value x5_Value__L_x)), .d (.sl (E.L_Field x5_Value__F_l) (E.X_Field x5_Value__F_x)), .d (.int .u8 x5_Value__Elem), .d (.str x5_Value__Key), .d (.bool x5_Value__HasKey)]] : List X.Obj) :: st))) q) (fun k hk => ?_) ?_
      · clear h
        have h := hq15
        clear hq15
        conv => arg 1; cbv
        obtain ⟨r7, hx8, hz⟩ := Option.bind_eq_some_iff.1 h
        clear h
        have h := hz
        clear hz
        refine sat_call (ok82 hΩ hE hx8 (by (try clear h); subst_vars; rfl) _) ?_
        conv => arg 1; cbv
        refine sat_true (same_ok hΩ _) ?_
        conv => arg 1; cbv
        replace h := bif_cases h
        rcases h with ⟨hb9, h⟩ | ⟨hb9, h⟩
        · refine sat_brt (by first | exact hb9 | ((try clear h); subst_vars; first | exact hb9 | rfl)) ?_
          conv => arg 1; cbv
          replace h := bif_cases h
          rcases h with ⟨hb10, h⟩ | ⟨hb10, h⟩
          · refine sat_brt (by first | exact hb10 | ((try clear h); subst_vars; first | exact hb10 | rfl)) ?_
            conv => arg 1; cbv
            refine sat_tick hΩ ?_
            conv => arg 1; cbv
            refine sat_true (fits_l hΩ (ro_Field hE) a0_F_l (by first | rfl | ((try clear h); subst_vars; rfl))) ?_
            conv => arg 1; cbv
            obtain ⟨⟨x11_Name, ⟨x11_Value__Kind, x11_Value__N, x11_Value__S, ⟨x11_Value__L_l, x11_Value__L_x⟩, ⟨x11_Value__F_l, x11_Value__F_x⟩, x11_Value__Elem, x11_Value__Key, x11_Value__HasKey⟩⟩, hx12, hz⟩ := Option.bind_eq_some_iff.1 h
            clear h
            have h := hz
            clear hz
            try dsimp only at h
            refine sat_bind (nth_ok hΩ (ro_Field hE) hx12 (by first | rfl | ((try clear h); subst_vars; rfl)) (by first | rfl | ((try clear h); subst_vars; rfl))) ?_
            conv => arg 1; cbv
            obtain rfl := Option.some.inj h
            subst_vars
            first | exact hk | (simp only [ln_set] at hk ⊢; exact hk)
          · refine sat_brf (by first | exact hb10 | ((try clear h); subst_vars; first | exact hb10 | rfl)) ?_
            conv => arg 1; cbv
            refine sat_tick hΩ ?_
            conv => arg 1; cbv
            obtain rfl := Option.some.inj h
            subst_vars
            first | exact hk | (simp only [ln_set] at hk ⊢; exact hk)
        · refine sat_brf (by first | exact hb9 | ((try clear h); subst_vars; first | exact hb9 | rfl)) ?_
          conv => arg 1; cbv
          refine sat_tick hΩ ?_
          conv => arg 1; cbv
          obtain rfl := Option.some.inj h
          subst_vars
          first | exact hk | (simp only [ln_set] at hk ⊢; exact hk)
      · clear hq15
        obtain ⟨i13, hqq⟩ : ∃ x, x = q := ⟨_, rfl⟩
        subst hqq
        try dsimp only at h
        conv => arg 1; cbv
        refine sat_in hΩ ?_
        conv => arg 1; cbv
        replace h := bif_cases h
        rcases h with ⟨hb14, h⟩ | ⟨hb14, h⟩
        · refine sat_brt (by first | exact hb14 | ((try clear h); subst_vars; first | exact hb14 | rfl)) ?_
          conv => arg 1; cbv
          obtain rfl := Option.some.inj h
          subst_vars
          first | exact sat_pure (.inr ⟨rfl, rfl⟩) | (refine sat_pure (.inr ⟨rfl, ?_⟩); dsimp only; simp only [ln_set]; rfl)
        · refine sat_brf (by first | exact hb14 | ((try clear h); subst_vars; first | exact hb14 | rfl)) ?_
          conv => arg 1; cbv
          obtain rfl := Option.some.inj h
          subst_vars
          first | exact sat_pure ⟨rfl, rfl, rfl⟩ | (refine sat_pure ⟨rfl, ?_, ?_⟩ <;> first | rfl | (dsimp only; simp only [ln_set]; rfl))
    · refine sat_brf (by first | exact hb4 | ((try clear h); subst_vars; first | exact hb4 | rfl)) ?_
      conv => arg 1; cbv
      obtain rfl := Option.some.inj h
      subst_vars
      first | exact sat_pure (.inl ⟨⟨_, rfl⟩, rfl⟩) | (refine sat_pure (.inl ⟨⟨_, rfl⟩, ?_⟩); dsimp only; simp only [ln_set]; rfl)
  · clear hl16
    rcases q with o17 | o192
    · dsimp only at h
      conv => arg 1; cbv
      refine sat_in hΩ ?_
      conv => arg 1; cbv
      replace h := bif_cases h
      rcases h with ⟨hb18, h⟩ | ⟨hb18, h⟩
      · refine sat_brt (by first | exact hb18 | ((try clear h); subst_vars; first | exact hb18 | rfl)) ?_
        conv => arg 1; cbv
        obtain ⟨r19, hx20, hz⟩ := Option.bind_eq_some_iff.1 h
        clear h
        have h := hz
        clear hz
        refine sat_call (ok83 hΩ hE hx20 (by (try clear h); subst_vars; rfl) _) ?_
        conv => arg 1; cbv
        obtain rfl := Option.some.inj h
        subst_vars
        exact sat_pure rfl
      · refine sat_brf (by first | exact hb18 | ((try clear h); subst_vars; first | exact hb18 | rfl)) ?_
        conv => arg 1; cbv
        obtain ⟨q, hq191, hz⟩ := Option.bind_eq_some_iff.1 h
        clear h
        have h := hz
        clear hz
        refine sat_grp hΩ ((fun (q : Bool) => (match q with | i190 => ([(0, PV.agg [.d (.int .u8 a0_Kind), .d (.int .i64 a0_N), .d (.str a0_S), .d (.sl (E.L_Value a0_L_l) (E.X_Value a0_L_x)), .d (.sl (E.L_Field a0_F_l) (E.X_Field a0_F_x)), .d (.int .u8 a0_Elem), .d (.str a0_Key), .d (.bool a0_HasKey)]), (1, PV.ptr 0 0 0), (2, PV.d (.bool i190)), (5, PV.fn 84 [.ptr 0 0 0]), (7, PV.d (.sl (E.L_Field a0_F_l) (E.X_Field a0_F_x))), (8, PV.d (.int .i64 n1)), (9, PV.d (.int .i64 o17))], ([X.Obj.box 27 [.d (.int .u8 a0_Kind), .d (.int .i64 a0_N), .d (.str a0_S), .d (.sl (E.L_Value a0_L_l) (E.X_Value a0_L_x)), .d (.sl (E.L_Field a0_F_l) (E.X_Field a0_F_x)), .d (.int .u8 a0_Elem), .d (.str a0_Key), .d (.bool a0_HasKey)]] : List X.Obj) :: st))) q) (fun k hk => ?_) ?_
        · clear h
          have h := hq191
          clear hq191
          conv => arg 1; cbv
          replace h := bif_cases h
          rcases h with ⟨hb21, h⟩ | ⟨hb21, h⟩
          · refine sat_brt (by first | exact hb21 | ((try clear h); subst_vars; first | exact hb21 | rfl)) ?_
            conv => arg 1; cbv
            replace h := bif_cases h
            rcases h with ⟨hb22, h⟩ | ⟨hb22, h⟩
            · refine sat_brt (by first | exact hb22 | ((try clear h); subst_vars; first | exact hb22 | rfl)) ?_
              conv => arg 1; cbv
              refine sat_tick hΩ ?_
              conv => arg 1; cbv
              replace h := bif_cases h
              rcases h with ⟨hb23, h⟩ | ⟨hb23, h⟩
              · refine sat_brt (by first | exact hb23 | ((try clear h); subst_vars; first | exact hb23 | rfl)) ?_
                conv => arg 1; cbv
                replace h := bif_cases h
                rcases h with ⟨hb24, h⟩ | ⟨hb24, h⟩
                · refine sat_brt (by first | exact hb24 | ((try clear h); subst_vars; first | exact hb24 | rfl)) ?_
                  conv => arg 1; cbv
                  refine sat_tick hΩ ?_
                  conv => arg 1; cbv
                  replace h := bif_cases h
                  rcases h with ⟨hb25, h⟩ | ⟨hb25, h⟩
                  · refine sat_brt (by first | exact hb25 | ((try clear h); subst_vars; first | exact hb25 | rfl)) ?_
                    conv => arg 1; cbv
                    replace h := bif_cases h
                    rcases h with ⟨hb26, h⟩ | ⟨hb26, h⟩
                    · refine sat_brt (by first | exact hb26 | ((try clear h); subst_vars; first | exact hb26 | rfl)) ?_
                      conv => arg 1; cbv
                      obtain ⟨l27, hx28, hz⟩ := Option.bind_eq_some_iff.1 h
                      clear h
                      have h := hz
                      clear hz
                      have hL29 : ([[.int .u8 1], [.int .u8 7]] : List (List D)) = E.L_i_u8 l27 := by (have hy := Option.some.inj hx28; clear h; subst hy; subst hE; rfl)
                      rw [hL29]
                      clear hL29
                      conv => arg 1; cbv
                      obtain ⟨r31, hx30, hz⟩ := Option.bind_eq_some_iff.1 h
                      clear h
                      have h := hz
                      clear hz
                      refine sat_call (ok84x1 hΩ hE (S := (fun (s : Value) => ([X.Obj.box 27 (bx_27 E s)] : List X.Obj) :: st)) (lz0 := 0) (iz0 := 0) (c0 := (Value.mk a0_Kind a0_N a0_S (Sl.mk a0_L_l a0_L_x) (Sl.mk a0_F_l a0_F_x) a0_Elem a0_Key a0_HasKey)) (by (try clear h); subst_vars; rfl) (fun s => rfl) (fun s x => rfl) hx30 (by (try clear h); subst_vars; rfl) (by (try clear h); subst_vars; rfl)) ?_
                      conv => arg 1; cbv
                      replace h := bif_cases h
                      rcases h with ⟨hb32, h⟩ | ⟨hb32, h⟩
                      · refine sat_brt (by first | exact hb32 | ((try clear h); subst_vars; first | exact hb32 | rfl)) ?_
                        conv => arg 1; cbv
                        refine sat_tick hΩ ?_
                        conv => arg 1; cbv
                        obtain ⟨r34, hx33, hz⟩ := Option.bind_eq_some_iff.1 h
                        clear h
                        have h := hz
                        clear hz
                        refine sat_call (ok84x1 hΩ hE (S := (fun (s : Value) => ([X.Obj.box 27 (bx_27 E s)] : List X.Obj) :: st)) (lz0 := 0) (iz0 := 0) (c0 := (Value.mk a0_Kind a0_N a0_S (Sl.mk a0_L_l a0_L_x) (Sl.mk a0_F_l a0_F_x) a0_Elem a0_Key a0_HasKey)) (by (try clear h); subst_vars; rfl) (fun s => rfl) (fun s x => rfl) hx33 (by (try clear h); subst_vars; rfl) (by (try clear h); subst_vars; rfl)) ?_
                        conv => arg 1; cbv
                        replace h := bif_cases h
                        rcases h with ⟨hb35, h⟩ | ⟨hb35, h⟩
                        · refine sat_brt (by first | exact hb35 | ((try clear h); subst_vars; first | exact hb35 | rfl)) ?_
                          conv => arg 1; cbv
                          replace h := bif_cases h
                          rcases h with ⟨hb36, h⟩ | ⟨hb36, h⟩
                          · refine sat_brt (by first | exact hb36 | ((try clear h); subst_vars; first | exact hb36 | rfl)) ?_
                            conv => arg 1; cbv
                            refine sat_tick hΩ ?_
                            conv => arg 1; cbv
                            replace h := bif_cases h
                            rcases h with ⟨hb37, h⟩ | ⟨hb37, h⟩
                            · refine sat_brt (by first | exact hb37 | ((try clear h); subst_vars; first | exact hb37 | rfl)) ?_
                              conv => arg 1; cbv
                              obtain ⟨l38, hx39, hz⟩ := Option.bind_eq_some_iff.1 h
                              clear h
                              have h := hz
                              clear hz
                              have hL40 : ([[.int .u8 3], [.int .u8 7]] : List (List D)) = E.L_i_u8 l38 := by (have hy := Option.some.inj hx39; clear h; subst hy; subst hE; rfl)
                              rw [hL40]
                              clear hL40
                              conv => arg 1; cbv
                              obtain ⟨r42, hx41, hz⟩ := Option.bind_eq_some_iff.1 h
                              clear h
                              have h := hz
                              clear hz
                              refine sat_call (ok84x1 hΩ hE (S := (fun (s : Value) => ([X.Obj.box 27 (bx_27 E s)] : List X.Obj) :: st)) (lz0 := 0) (iz0 := 0) (c0 := (Value.mk a0_Kind a0_N a0_S (Sl.mk a0_L_l a0_L_x) (Sl.mk a0_F_l a0_F_x) a0_Elem a0_Key a0_HasKey)) (by (try clear h); subst_vars; rfl) (fun s => rfl) (fun s x => rfl) hx41 (by (try clear h); subst_vars; rfl) (by (try clear h); subst_vars; rfl)) ?_
                              conv => arg 1; cbv
                              replace h := bif_cases h
                              rcases h with ⟨hb43, h⟩ | ⟨hb43, h⟩
                              · refine sat_brt (by first | exact hb43 | ((try clear h); subst_vars; first | exact hb43 | rfl)) ?_
                                conv => arg 1; cbv
                                refine sat_len hΩ (ro_Value hE) a0_L_l (by first | rfl | ((try clear h); subst_vars; rfl)) fun n44 hn45 => ?_
                                conv => arg 1; cbv
                                refine sat_tick hΩ ?_
                                conv => arg 1; cbv
                                replace h := bif_cases h
                                rcases h with ⟨hb46, h⟩ | ⟨hb46, h⟩
                                · refine sat_brt (by first | exact hb46 | ((try clear h); subst_vars; first | exact hb46 | rfl)) ?_
                                  conv => arg 1; cbv
                                  obtain ⟨r48, hx47, hz⟩ := Option.bind_eq_some_iff.1 h
                                  clear h
                                  have h := hz
                                  clear hz
                                  refine sat_call (ok84x1 hΩ hE (S := (fun (s : Value) => ([X.Obj.box 27 (bx_27 E s)] : List X.Obj) :: st)) (lz0 := 0) (iz0 := 0) (c0 := (Value.mk a0_Kind a0_N a0_S (Sl.mk a0_L_l a0_L_x) (Sl.mk a0_F_l a0_F_x) a0_Elem a0_Key a0_HasKey)) (by (try clear h); subst_vars; rfl) (fun s => rfl) (fun s x => rfl) hx47 (by (try clear h); subst_vars; rfl) (by (try clear h); subst_vars; rfl)) ?_
                                  conv => arg 1; cbv
                                  replace h := bif_cases h
                                  rcases h with ⟨hb49, h⟩ | ⟨hb49, h⟩
                                  · refine sat_brt (by first | exact hb49 | ((try clear h); subst_vars; first | exact hb49 | rfl)) ?_
                                    conv => arg 1; cbv
                                    refine sat_len hΩ (ro_Field hE) a0_F_l (by first | rfl | ((try clear h); subst_vars; rfl)) fun n50 hn51 => ?_
                                    conv => arg 1; cbv
                                    replace h := bif_cases h
                                    rcases h with ⟨hb52, h⟩ | ⟨hb52, h⟩
                                    · refine sat_brt (by first | exact hb52 | ((try clear h); subst_vars; first | exact hb52 | rfl)) ?_
                                      conv => arg 1; cbv
                                      refine sat_tick hΩ ?_
                                      conv => arg 1; cbv
                                      obtain ⟨l53, hx54, hz⟩ := Option.bind_eq_some_iff.1 h
                                      clear h
                                      have h := hz
                                      clear hz
                                      have hL55 : ([[.int .u8 5], [.int .u8 7]] : List (List D)) = E.L_i_u8 l53 := by (have hy := Option.some.inj hx54; clear h; subst hy; subst hE; rfl)
                                      rw [hL55]
                                      clear hL55
                                      conv => arg 1; cbv
                                      obtain ⟨r57, hx56, hz⟩ := Option.bind_eq_some_iff.1 h
                                      clear h
                                      have h := hz
                                      clear hz
                                      refine sat_call (ok84x1 hΩ hE (S := (fun (s : Value) => ([X.Obj.box 27 (bx_27 E s)] : List X.Obj) :: st)) (lz0 := 0) (iz0 := 0) (c0 := (Value.mk a0_Kind a0_N a0_S (Sl.mk a0_L_l a0_L_x) (Sl.mk a0_F_l a0_F_x) a0_Elem a0_Key a0_HasKey)) (by (try clear h); subst_vars; rfl) (fun s => rfl) (fun s x => rfl) hx56 (by (try clear h); subst_vars; rfl) (by (try clear h); subst_vars; rfl)) ?_
                                      conv => arg 1; cbv
                                      obtain rfl := Option.some.inj h
                                      subst_vars
                                      first | exact hk | (simp only [ln_set] at hk ⊢; exact hk)
                                    · refine sat_brf (by first | exact hb52 | ((try clear h); subst_vars; first | exact hb52 | rfl)) ?_
                                      conv => arg 1; cbv
                                      refine sat_tick hΩ ?_
                                      conv => arg 1; cbv
                                      obtain rfl := Option.some.inj h
                                      subst_vars
                                      first | exact hk | (simp only [ln_set] at hk ⊢; exact hk)
                                  · refine sat_brf (by first | exact hb49 | ((try clear h); subst_vars; first | exact hb49 | rfl)) ?_
                                    conv => arg 1; cbv
                                    refine sat_tick hΩ ?_
                                    conv => arg 1; cbv
                                    obtain rfl := Option.some.inj h
                                    subst_vars
                                    first | exact hk | (simp only [ln_set] at hk ⊢; exact hk)
                                · refine sat_brf (by first | exact hb46 | ((try clear h); subst_vars; first | exact hb46 | rfl)) ?_
                                  conv => arg 1; cbv
                                  refine sat_len hΩ (ro_Field hE) a0_F_l (by first | rfl | ((try clear h); subst_vars; rfl)) fun n58 hn59 => ?_
                                  conv => arg 1; cbv
                                  replace h := bif_cases h
                                  rcases h with ⟨hb60, h⟩ | ⟨hb60, h⟩
                                  · refine sat_brt (by first | exact hb60 | ((try clear h); subst_vars; first | exact hb60 | rfl)) ?_
                                    conv => arg 1; cbv
                                    refine sat_tick hΩ ?_
                                    conv => arg 1; cbv
                                    obtain ⟨l61, hx62, hz⟩ := Option.bind_eq_some_iff.1 h
                                    clear h
                                    have h := hz
                                    clear hz
                                    have hL63 : ([[.int .u8 5], [.int .u8 7]] : List (List D)) = E.L_i_u8 l61 := by (have hy := Option.some.inj hx62; clear h; subst hy; subst hE; rfl)
                                    rw [hL63]
                                    clear hL63
                                    conv => arg 1; cbv
                                    obtain ⟨r65, hx64, hz⟩ := Option.bind_eq_some_iff.1 h
                                    clear h
                                    have h := hz
                                    clear hz
                                    refine sat_call (ok84x1 hΩ hE (S := (fun (s : Value) => ([X.Obj.box 27 (bx_27 E s)] : List X.Obj) :: st)) (lz0 := 0) (iz0 := 0) (c0 := (Value.mk a0_Kind a0_N a0_S (Sl.mk a0_L_l a0_L_x) (Sl.mk a0_F_l a0_F_x) a0_Elem a0_Key a0_HasKey)) (by (try clear h); subst_vars; rfl) (fun s => rfl) (fun s x => rfl) hx64 (by (try clear h); subst_vars; rfl) (by (try clear h); subst_vars; rfl)) ?_
                                    conv => arg 1; cbv
                                    obtain rfl := Option.some.inj h
                                    subst_vars
                                    first | exact hk | (simp only [ln_set] at hk ⊢; exact hk)
                                  · refine sat_brf (by first | exact hb60 | ((try clear h); subst_vars; first | exact hb60 | rfl)) ?_
                                    conv => arg 1; cbv
                                    refine sat_tick hΩ ?_
                                    conv => arg 1; cbv
                                    obtain rfl := Option.some.inj h
                                    subst_vars
                                    first | exact hk | (simp only [ln_set] at hk ⊢; exact hk)
                              · refine sat_brf (by first | exact hb43 | ((try clear h); subst_vars; first | exact hb43 | rfl)) ?_
                                conv => arg 1; cbv
                                refine sat_tick hΩ ?_
                                conv => arg 1; cbv
                                refine sat_tick hΩ ?_
                                conv => arg 1; cbv
                                obtain rfl := Option.some.inj h
                                subst_vars
                                first | exact hk | (simp only [ln_set] at hk ⊢; exact hk)
                            · refine sat_brf (by first | exact hb37 | ((try clear h); subst_vars; first | exact hb37 | rfl)) ?_
                              conv => arg 1; cbv
                              refine sat_len hΩ (ro_Value hE) a0_L_l (by first | rfl | ((try clear h); subst_vars; rfl)) fun n66 hn67 => ?_
                              conv => arg 1; cbv
                              refine sat_tick hΩ ?_
                              conv => arg 1; cbv
                              replace h := bif_cases h
                              rcases h with ⟨hb68, h⟩ | ⟨hb68, h⟩
                              · refine sat_brt (by first | exact hb68 | ((try clear h); subst_vars; first | exact hb68 | rfl)) ?_
                                conv => arg 1; cbv
                                obtain ⟨r70, hx69, hz⟩ := Option.bind_eq_some_iff.1 h
                                clear h
                                have h := hz
                                clear hz
                                refine sat_call (ok84x1 hΩ hE (S := (fun (s : Value) => ([X.Obj.box 27 (bx_27 E s)] : List X.Obj) :: st)) (lz0 := 0) (iz0 := 0) (c0 := (Value.mk a0_Kind a0_N a0_S (Sl.mk a0_L_l a0_L_x) (Sl.mk a0_F_l a0_F_x) a0_Elem a0_Key a0_HasKey)) (by (try clear h); subst_vars; rfl) (fun s => rfl) (fun s x => rfl) hx69 (by (try clear h); subst_vars; rfl) (by (try clear h); subst_vars; rfl)) ?_
                                conv => arg 1; cbv
                                replace h := bif_cases h
                                rcases h with ⟨hb71, h⟩ | ⟨hb71, h⟩
                                · refine sat_brt (by first | exact hb71 | ((try clear h); subst_vars; first | exact hb71 | rfl)) ?_
                                  conv => arg 1; cbv
                                  refine sat_len hΩ (ro_Field hE) a0_F_l (by first | rfl | ((try clear h); subst_vars; rfl)) fun n72 hn73 => ?_
                                  conv => arg 1; cbv
                                  replace h := bif_cases h
                                  rcases h with ⟨hb74, h⟩ | ⟨hb74, h⟩
                                  · refine sat_brt (by first | exact hb74 | ((try clear h); subst_vars; first | exact hb74 | rfl)) ?_
                                    conv => arg 1; cbv
                                    refine sat_tick hΩ ?_
                                    conv => arg 1; cbv
                                    obtain ⟨l75, hx76, hz⟩ := Option.bind_eq_some_iff.1 h
                                    clear h
                                    have h := hz
                                    clear hz
                                    have hL77 : ([[.int .u8 5], [.int .u8 7]] : List (List D)) = E.L_i_u8 l75 := by (have hy := Option.some.inj hx76; clear h; subst hy; subst hE; rfl)
                                    rw [hL77]
                                    clear hL77
                                    conv => arg 1; cbv
                                    obtain ⟨r79, hx78, hz⟩ := Option.bind_eq_some_iff.1 h
                                    clear h
                                    have h := hz
                                    clear hz
                                    refine sat_call (ok84x1 hΩ hE (S := (fun (s : Value) => ([X.Obj.box 27 (bx_27 E s)] : List X.Obj) :: st)) (lz0 := 0) (iz0 := 0) (c0 := (Value.mk a0_Kind a0_N a0_S (Sl.mk a0_L_l a0_L_x) (Sl.mk a0_F_l a0_F_x) a0_Elem a0_Key a0_HasKey)) (by (try clear h); subst_vars; rfl) (fun s => rfl) (fun s x => rfl) hx78 (by (try clear h); subst_vars; rfl) (by (try clear h); subst_vars; rfl)) ?_
                                    conv => arg 1; cbv
                                    obtain rfl := Option.some.inj h
                                    subst_vars
                                    first | exact hk | (simp only [ln_set] at hk ⊢; exact hk)
                                  · refine sat_brf (by first | exact hb74 | ((try clear h); subst_vars; first | exact hb74 | rfl)) ?_
                                    conv => arg 1; cbv
                                    refine sat_tick hΩ ?_
                                    conv => arg 1; cbv
                                    obtain rfl := Option.some.inj h
                                    subst_vars
                                    first | exact hk | (simp only [ln_set] at hk ⊢; exact hk)
                                · refine sat_brf (by first | exact hb71 | ((try clear h); subst_vars; first | exact hb71 | rfl)) ?_
                                  conv => arg 1; cbv
                                  refine sat_tick hΩ ?_
                                  conv => arg 1; cbv
                                  obtain rfl := Option.some.inj h
                                  subst_vars
                                  first | exact hk | (simp only [ln_set] at hk ⊢; exact hk)
                              · refine sat_brf (by first | exact hb68 | ((try clear h); subst_vars; first | exact hb68 | rfl)) ?_
                                conv => arg 1; cbv
                                refine sat_len hΩ (ro_Field hE) a0_F_l (by first | rfl | ((try clear h); subst_vars; rfl)) fun n80 hn81 => ?_
                                conv => arg 1; cbv
                                replace h := bif_cases h
                                rcases h with ⟨hb82, h⟩ | ⟨hb82, h⟩
                                · refine sat_brt (by first | exact hb82 | ((try clear h); subst_vars; first | exact hb82 | rfl)) ?_
                                  conv => arg 1; cbv
                                  refine sat_tick hΩ ?_
                                  conv => arg 1; cbv
                                  obtain ⟨l83, hx84, hz⟩ := Option.bind_eq_some_iff.1 h
                                  clear h
                                  have h := hz
                                  clear hz
                                  have hL85 : ([[.int .u8 5], [.int .u8 7]] : List (List D)) = E.L_i_u8 l83 := by (have hy := Option.some.inj hx84; clear h; subst hy; subst hE; rfl)
                                  rw [hL85]
                                  clear hL85
                                  conv => arg 1; cbv
                                  obtain ⟨r87, hx86, hz⟩ := Option.bind_eq_some_iff.1 h
                                  clear h
                                  have h := hz
                                  clear hz
                                  refine sat_call (ok84x1 hΩ hE (S := (fun (s : Value) => ([X.Obj.box 27 (bx_27 E s)] : List X.Obj) :: st)) (lz0 := 0) (iz0 := 0) (c0 := (Value.mk a0_Kind a0_N a0_S (Sl.mk a0_L_l a0_L_x) (Sl.mk a0_F_l a0_F_x) a0_Elem a0_Key a0_HasKey)) (by (try clear h); subst_vars; rfl) (fun s => rfl) (fun s x => rfl) hx86 (by (try clear h); subst_vars; rfl) (by (try clear h); subst_vars; rfl)) ?_
                                  conv => arg 1; cbv
                                  obtain rfl := Option.some.inj h
                                  subst_vars
                                  first | exact hk | (simp only [ln_set] at hk ⊢; exact hk)
                                · refine sat_brf (by first | exact hb82 | ((try clear h); subst_vars; first | exact hb82 | rfl)) ?_
                                  conv => arg 1; cbv
                                  refine sat_tick hΩ ?_
                                  conv => arg 1; cbv
                                  obtain rfl := Option.some.inj h
                                  subst_vars
                                  first | exact hk | (simp only [ln_set] at hk ⊢; exact hk)
                          · refine sat_brf (by first | exact hb36 | ((try clear h); subst_vars; first | exact hb36 | rfl)) ?_
                            conv => arg 1; cbv
                            refine sat_tick hΩ ?_
                            conv => arg 1; cbv
                            refine sat_tick hΩ ?_
                            conv => arg 1; cbv
                            refine sat_tick hΩ ?_
                            conv => arg 1; cbv
                            obtain rfl := Option.some.inj h
                            subst_vars
                            first | exact hk | (simp only [ln_set] at hk ⊢; exact hk)
                        · refine sat_brf (by first | exact hb35 | ((try clear h); subst_vars; first | exact hb35 | rfl)) ?_
                          conv => arg 1; cbv
                          refine sat_tick hΩ ?_
                          conv => arg 1; cbv
                          refine sat_tick hΩ ?_
                          conv => arg 1; cbv
                          refine sat_tick hΩ ?_
                          conv => arg 1; cbv
                          obtain rfl := Option.some.inj h
                          subst_vars
                          first | exact hk | (simp only [ln_set] at hk ⊢; exact hk)
                      · refine sat_brf (by first | exact hb32 | ((try clear h); subst_vars; first | exact hb32 | rfl)) ?_
                        conv => arg 1; cbv
                        refine sat_tick hΩ ?_
                        conv => arg 1; cbv
                        refine sat_tick hΩ ?_
                        conv => arg 1; cbv
                        replace h := bif_cases h
                        rcases h with ⟨hb88, h⟩ | ⟨hb88, h⟩
                        · refine sat_brt (by first | exact hb88 | ((try clear h); subst_vars; first | exact hb88 | rfl)) ?_
                          conv => arg 1; cbv
                          obtain ⟨l89, hx90, hz⟩ := Option.bind_eq_some_iff.1 h
                          clear h
                          have h := hz
                          clear hz
                          have hL91 : ([[.int .u8 3], [.int .u8 7]] : List (List D)) = E.L_i_u8 l89 := by (have hy := Option.some.inj hx90; clear h; subst hy; subst hE; rfl)
                          rw [hL91]
                          clear hL91
                          conv => arg 1; cbv
                          obtain ⟨r93, hx92, hz⟩ := Option.bind_eq_some_iff.1 h
                          clear h
                          have h := hz
                          clear hz
                          refine sat_call (ok84x1 hΩ hE (S := (fun (s : Value) => ([X.Obj.box 27 (bx_27 E s)] : List X.Obj) :: st)) (lz0 := 0) (iz0 := 0) (c0 := (Value.mk a0_Kind a0_N a0_S (Sl.mk a0_L_l a0_L_x) (Sl.mk a0_F_l a0_F_x) a0_Elem a0_Key a0_HasKey)) (by (try clear h); subst_vars; rfl) (fun s => rfl) (fun s x => rfl) hx92 (by (try clear h); subst_vars; rfl) (by (try clear h); subst_vars; rfl)) ?_
                          conv => arg 1; cbv
                          replace h := bif_cases h
                          rcases h with ⟨hb94, h⟩ | ⟨hb94, h⟩
                          · refine sat_brt (by first | exact hb94 | ((try clear h); subst_vars; first | exact hb94 | rfl)) ?_
                            conv => arg 1; cbv
                            refine sat_len hΩ (ro_Value hE) a0_L_l (by first | rfl | ((try clear h); subst_vars; rfl)) fun n95 hn96 => ?_
                            conv => arg 1; cbv
                            refine sat_tick hΩ ?_
                            conv => arg 1; cbv
                            replace h := bif_cases h
                            rcases h with ⟨hb97, h⟩ | ⟨hb97, h⟩
                            · refine sat_brt (by first | exact hb97 | ((try clear h); subst_vars; first | exact hb97 | rfl)) ?_
                              conv => arg 1; cbv
                              obtain ⟨r99, hx98, hz⟩ := Option.bind_eq_some_iff.1 h
                              clear h
                              have h := hz
                              clear hz
                              refine sat_call (ok84x1 hΩ hE (S := (fun (s : Value) => ([X.Obj.box 27 (bx_27 E s)] : List X.Obj) :: st)) (lz0 := 0) (iz0 := 0) (c0 := (Value.mk a0_Kind a0_N a0_S (Sl.mk a0_L_l a0_L_x) (Sl.mk a0_F_l a0_F_x) a0_Elem a0_Key a0_HasKey)) (by (try clear h); subst_vars; rfl) (fun s => rfl) (fun s x => rfl) hx98 (by (try clear h); subst_vars; rfl) (by (try clear h); subst_vars; rfl)) ?_
                              conv => arg 1; cbv
                              replace h := bif_cases h
                              rcases h with ⟨hb100, h⟩ | ⟨hb100, h⟩
                              · refine sat_brt (by first | exact hb100 | ((try clear h); subst_vars; first | exact hb100 | rfl)) ?_
                                conv => arg 1; cbv
                                refine sat_len hΩ (ro_Field hE) a0_F_l (by first | rfl | ((try clear h); subst_vars; rfl)) fun n101 hn102 => ?_
                                conv => arg 1; cbv
                                replace h := bif_cases h
                                rcases h with ⟨hb103, h⟩ | ⟨hb103, h⟩
                                · refine sat_brt (by first | exact hb103 | ((try clear h); subst_vars; first | exact hb103 | rfl)) ?_
                                  conv => arg 1; cbv
                                  refine sat_tick hΩ ?_
                                  conv => arg 1; cbv
                                  obtain ⟨l104, hx105, hz⟩ := Option.bind_eq_some_iff.1 h
                                  clear h
                                  have h := hz
                                  clear hz
                                  have hL106 : ([[.int .u8 5], [.int .u8 7]] : List (List D)) = E.L_i_u8 l104 := by (have hy := Option.some.inj hx105; clear h; subst hy; subst hE; rfl)
                                  rw [hL106]
                                  clear hL106
                                  conv => arg 1; cbv
                                  obtain ⟨r108, hx107, hz⟩ := Option.bind_eq_some_iff.1 h
                                  clear h
                                  have h := hz
                                  clear hz
                                  refine sat_call (ok84x1 hΩ hE (S := (fun (s : Value) => ([X.Obj.box 27 (bx_27 E s)] : List X.Obj) :: st)) (lz0 := 0) (iz0 := 0) (c0 := (Value.mk a0_Kind a0_N a0_S (Sl.mk a0_L_l a0_L_x) (Sl.mk a0_F_l a0_F_x) a0_Elem a0_Key a0_HasKey)) (by (try clear h); subst_vars; rfl) (fun s => rfl) (fun s x => rfl) hx107 (by (try clear h); subst_vars; rfl) (by (try clear h); subst_vars; rfl)) ?_
                                  conv => arg 1; cbv
                                  obtain rfl := Option.some.inj h
                                  subst_vars
                                  first | exact hk | (simp only [ln_set] at hk ⊢; exact hk)
                                · refine sat_brf (by first | exact hb103 | ((try clear h); subst_vars; first | exact hb103 | rfl)) ?_
                                  conv => arg 1; cbv
                                  refine sat_tick hΩ ?_
                                  conv => arg 1; cbv
                                  obtain rfl := Option.some.inj h
                                  subst_vars
                                  first | exact hk | (simp only [ln_set] at hk ⊢; exact hk)
                              · refine sat_brf (by first | exact hb100 | ((try clear h); subst_vars; first | exact hb100 | rfl)) ?_
                                conv => arg 1; cbv
                                refine sat_tick hΩ ?_
                                conv => arg 1; cbv
                                obtain rfl := Option.some.inj h
                                subst_vars
                                first | exact hk | (simp only [ln_set] at hk ⊢; exact hk)
                            · refine sat_brf (by first | exact hb97 | ((try clear h); subst_vars; first | exact hb97 | rfl)) ?_
                              conv => arg 1; cbv
                              refine sat_len hΩ (ro_Field hE) a0_F_l (by first | rfl | ((try clear h); subst_vars; rfl)) fun n109 hn110 => ?_
                              conv => arg 1; cbv
                              replace h := bif_cases h
                              rcases h with ⟨hb111, h⟩ | ⟨hb111, h⟩
                              · refine sat_brt (by first | exact hb111 | ((try clear h); subst_vars; first | exact hb111 | rfl)) ?_
                                conv => arg 1; cbv
                                refine sat_tick hΩ ?_
                                conv => arg 1; cbv
                                obtain ⟨l112, hx113, hz⟩ := Option.bind_eq_some_iff.1 h
                                clear h
                                have h := hz
                                clear hz
                                have hL114 : ([[.int .u8 5], [.int .u8 7]] : List (List D)) = E.L_i_u8 l112 := by (have hy := Option.some.inj hx113; clear h; subst hy; subst hE; rfl)
                                rw [hL114]
                                clear hL114
                                conv => arg 1; cbv
                                obtain ⟨r116, hx115, hz⟩ := Option.bind_eq_some_iff.1 h
                                clear h
                                have h := hz
                                clear hz
                                refine sat_call (ok84x1 hΩ hE (S := (fun (s : Value) => ([X.Obj.box 27 (bx_27 E s)] : List X.Obj) :: st)) (lz0 := 0) (iz0 := 0) (c0 := (Value.mk a0_Kind a0_N a0_S (Sl.mk a0_L_l a0_L_x) (Sl.mk a0_F_l a0_F_x) a0_Elem a0_Key a0_HasKey)) (by (try clear h); subst_vars; rfl) (fun s => rfl) (fun s x => rfl) hx115 (by (try clear h); subst_vars; rfl) (by (try clear h); subst_vars; rfl)) ?_
                                conv => arg 1; cbv
                                obtain rfl := Option.some.inj h
                                subst_vars
                                first | exact hk | (simp only [ln_set] at hk ⊢; exact hk)
                              · refine sat_brf (by first | exact hb111 | ((try clear h); subst_vars; first | exact hb111 | rfl)) ?_
                                conv => arg 1; cbv
                                refine sat_tick hΩ ?_
                                conv => arg 1; cbv
                                obtain rfl := Option.some.inj h
                                subst_vars
                                first | exact hk | (simp only [ln_set] at hk ⊢; exact hk)
                          · refine sat_brf (by first | exact hb94 | ((try clear h); subst_vars; first | exact hb94 | rfl)) ?_
                            conv => arg 1; cbv
                            refine sat_tick hΩ ?_
                            conv => arg 1; cbv
                            refine sat_tick hΩ ?_
                            conv => arg 1; cbv
                            obtain rfl := Option.some.inj h
                            subst_vars
                            first | exact hk | (simp only [ln_set] at hk ⊢; exact hk)
                        · refine sat_brf (by first | exact hb88 | ((try clear h); subst_vars; first | exact hb88 | rfl)) ?_
                          conv => arg 1; cbv
                          refine sat_len hΩ (ro_Value hE) a0_L_l (by first | rfl | ((try clear h); subst_vars; rfl)) fun n117 hn118 => ?_
                          conv => arg 1; cbv
                          refine sat_tick hΩ ?_
                          conv => arg 1; cbv
                          replace h := bif_cases h
                          rcases h with ⟨hb119, h⟩ | ⟨hb119, h⟩
                          · refine sat_brt (by first | exact hb119 | ((try clear h); subst_vars; first | exact hb119 | rfl)) ?_
                            conv => arg 1; cbv
                            obtain ⟨r121, hx120, hz⟩ := Option.bind_eq_some_iff.1 h
                            clear h
                            have h := hz
                            clear hz
                            refine sat_call (ok84x1 hΩ hE (S := (fun (s : Value) => ([X.Obj.box 27 (bx_27 E s)] : List X.Obj) :: st)) (lz0 := 0) (iz0 := 0) (c0 := (Value.mk a0_Kind a0_N a0_S (Sl.mk a0_L_l a0_L_x) (Sl.mk a0_F_l a0_F_x) a0_Elem a0_Key a0_HasKey)) (by (try clear h); subst_vars; rfl) (fun s => rfl) (fun s x => rfl) hx120 (by (try clear h); subst_vars; rfl) (by (try clear h); subst_vars; rfl)) ?_
                            conv => arg 1; cbv
                            replace h := bif_cases h
                            rcases h with ⟨hb122, h⟩ | ⟨hb122, h⟩
                            · refine sat_brt (by first | exact hb122 | ((try clear h); subst_vars; first | exact hb122 | rfl)) ?_
                              conv => arg 1; cbv
                              refine sat_len hΩ (ro_Field hE) a0_F_l (by first | rfl | ((try clear h); subst_vars; rfl)) fun n123 hn124 => ?_
                              conv => arg 1; cbv
                              replace h := bif_cases h
                              rcases h with ⟨hb125, h⟩ | ⟨hb125, h⟩
                              · refine sat_brt (by first | exact hb125 | ((try clear h); subst_vars; first | exact hb125 | rfl)) ?_
                                conv => arg 1; cbv
                                refine sat_tick hΩ ?_
                                conv => arg 1; cbv
                                obtain ⟨l126, hx127, hz⟩ := Option.bind_eq_some_iff.1 h
                                clear h
                                have h := hz
                                clear hz
                                have hL128 : ([[.int .u8 5], [.int .u8 7]] : List (List D)) = E.L_i_u8 l126 := by (have hy := Option.some.inj hx127; clear h; subst hy; subst hE; rfl)
                                rw [hL128]
                                clear hL128
                                conv => arg 1; cbv
                                obtain ⟨r130, hx129, hz⟩ := Option.bind_eq_some_iff.1 h
                                clear h
                                have h := hz
                                clear hz
                                refine sat_call (ok84x1 hΩ hE (S := (fun (s : Value) => ([X.Obj.box 27 (bx_27 E s)] : List X.Obj) :: st)) (lz0 := 0) (iz0 := 0) (c0 := (Value.mk a0_Kind a0_N a0_S (Sl.mk a0_L_l a0_L_x) (Sl.mk a0_F_l a0_F_x) a0_Elem a0_Key a0_HasKey)) (by (try clear h); subst_vars; rfl) (fun s => rfl) (fun s x => rfl) hx129 (by (try clear h); subst_vars; rfl) (by (try clear h); subst_vars; rfl)) ?_
                                conv => arg 1; cbv
                                obtain rfl := Option.some.inj h
                                subst_vars
                                first | exact hk | (simp only [ln_set] at hk ⊢; exact hk)
                              · refine sat_brf (by first | exact hb125 | ((try clear h); subst_vars; first | exact hb125 | rfl)) ?_
                                conv => arg 1; cbv
                                refine sat_tick hΩ ?_
                                conv => arg 1; cbv
                                obtain rfl := Option.some.inj h
                                subst_vars
                                first | exact hk | (simp only [ln_set] at hk ⊢; exact hk)
                            · refine sat_brf (by first | exact hb122 | ((try clear h); subst_vars; first | exact hb122 | rfl)) ?_
                              conv => arg 1; cbv
                              refine sat_tick hΩ ?_
                              conv => arg 1; cbv
                              obtain rfl := Option.some.inj h
                              subst_vars
                              first | exact hk | (simp only [ln_set] at hk ⊢; exact hk)
                          · refine sat_brf (by first | exact hb119 | ((try clear h); subst_vars; first | exact hb119 | rfl)) ?_
                            conv => arg 1; cbv
                            refine sat_len hΩ (ro_Field hE) a0_F_l (by first | rfl | ((try clear h); subst_vars; rfl)) fun n131 hn132 => ?_
                            conv => arg 1; cbv
                            replace h := bif_cases h
                            rcases h with ⟨hb133, h⟩ | ⟨hb133, h⟩
                            · refine sat_brt (by first | exact hb133 | ((try clear h); subst_vars; first | exact hb133 | rfl)) ?_
                              conv => arg 1; cbv
                              refine sat_tick hΩ ?_
                              conv => arg 1; cbv
                              obtain ⟨l134, hx135, hz⟩ := Option.bind_eq_some_iff.1 h
                              clear h
                              have h := hz
                              clear hz
                              have hL136 : ([[.int .u8 5], [.int .u8 7]] : List (List D)) = E.L_i_u8 l134 := by (have hy := Option.some.inj hx135; clear h; subst hy; subst hE; rfl)
                              rw [hL136]
                              clear hL136
                              conv => arg 1; cbv
                              obtain ⟨r138, hx137, hz⟩ := Option.bind_eq_some_iff.1 h
                              clear h
                              have h := hz
                              clear hz
                              refine sat_call (ok84x1 hΩ hE (S := (fun (s : Value) => ([X.Obj.box 27 (bx_27 E s)] : List X.Obj) :: st)) (lz0 := 0) (iz0 := 0) (c0 := (Value.mk a0_Kind a0_N a0_S (Sl.mk a0_L_l a0_L_x) (Sl.mk a0_F_l a0_F_x) a0_Elem a0_Key a0_HasKey)) (by (try clear h); subst_vars; rfl) (fun s => rfl) (fun s x => rfl) hx137 (by (try clear h); subst_vars; rfl) (by (try clear h); subst_vars; rfl)) ?_
                              conv => arg 1; cbv
                              obtain rfl := Option.some.inj h
                              subst_vars
                              first | exact hk | (simp only [ln_set] at hk ⊢; exact hk)
                            · refine sat_brf (by first | exact hb133 | ((try clear h); subst_vars; first | exact hb133 | rfl)) ?_
                              conv => arg 1; cbv
                              refine sat_tick hΩ ?_
                              conv => arg 1; cbv
                              obtain rfl := Option.some.inj h
                              subst_vars
                              first | exact hk | (simp only [ln_set] at hk ⊢; exact hk)
                    · refine sat_brf (by first | exact hb26 | ((try clear h); subst_vars; first | exact hb26 | rfl)) ?_
                      conv => arg 1; cbv
                      refine sat_tick hΩ ?_
                      conv => arg 1; cbv
                      refine sat_tick hΩ ?_
                      conv => arg 1; cbv
                      replace h := bif_cases h
                      rcases h with ⟨hb139, h⟩ | ⟨hb139, h⟩
                      · refine sat_brt (by first | exact hb139 | ((try clear h); subst_vars; first | exact hb139 | rfl)) ?_
                        conv => arg 1; cbv
                        obtain ⟨l140, hx141, hz⟩ := Option.bind_eq_some_iff.1 h
                        clear h
                        have h := hz
                        clear hz
                        have hL142 : ([[.int .u8 3], [.int .u8 7]] : List (List D)) = E.L_i_u8 l140 := by (have hy := Option.some.inj hx141; clear h; subst hy; subst hE; rfl)
                        rw [hL142]
                        clear hL142
                        conv => arg 1; cbv
                        obtain ⟨r144, hx143, hz⟩ := Option.bind_eq_some_iff.1 h
                        clear h
                        have h := hz
                        clear hz
                        refine sat_call (ok84x1 hΩ hE (S := (fun (s : Value) => ([X.Obj.box 27 (bx_27 E s)] : List X.Obj) :: st)) (lz0 := 0) (iz0 := 0) (c0 := (Value.mk a0_Kind a0_N a0_S (Sl.mk a0_L_l a0_L_x) (Sl.mk a0_F_l a0_F_x) a0_Elem a0_Key a0_HasKey)) (by (try clear h); subst_vars; rfl) (fun s => rfl) (fun s x => rfl) hx143 (by (try clear h); subst_vars; rfl) (by (try clear h); subst_vars; rfl)) ?_
                        conv => arg 1; cbv
                        replace h := bif_cases h
                        rcases h with ⟨hb145, h⟩ | ⟨hb145, h⟩
                        · refine sat_brt (by first | exact hb145 | ((try clear h); subst_vars; first | exact hb145 | rfl)) ?_
                          conv => arg 1; cbv
                          refine sat_len hΩ (ro_Value hE) a0_L_l (by first | rfl | ((try clear h); subst_vars; rfl)) fun n146 hn147 => ?_
                          conv => arg 1; cbv
                          refine sat_tick hΩ ?_
                          conv => arg 1; cbv
                          replace h := bif_cases h
                          rcases h with ⟨hb148, h⟩ | ⟨hb148, h⟩
                          · refine sat_brt (by first | exact hb148 | ((try clear h); subst_vars; first | exact hb148 | rfl)) ?_
                            conv => arg 1; cbv
                            obtain ⟨r150, hx149, hz⟩ := Option.bind_eq_some_iff.1 h
                            clear h
                            have h := hz
                            clear hz
                            refine sat_call (ok84x1 hΩ hE (S := (fun (s : Value) => ([X.Obj.box 27 (bx_27 E s)] : List X.Obj) :: st)) (lz0 := 0) (iz0 := 0) (c0 := (Value.mk a0_Kind a0_N a0_S (Sl.mk a0_L_l a0_L_x) (Sl.mk a0_F_l a0_F_x) a0_Elem a0_Key a0_HasKey)) (by (try clear h); subst_vars; rfl) (fun s => rfl) (fun s x => rfl) hx149 (by (try clear h); subst_vars; rfl) (by (try clear h); subst_vars; rfl)) ?_
                            conv => arg 1; cbv
                            replace h := bif_cases h
                            rcases h with ⟨hb151, h⟩ | ⟨hb151, h⟩
                            · refine sat_brt (by first | exact hb151 | ((try clear h); subst_vars; first | exact hb151 | rfl)) ?_
                              conv => arg 1; cbv
                              refine sat_len hΩ (ro_Field hE) a0_F_l (by first | rfl | ((try clear h); subst_vars; rfl)) fun n152 hn153 => ?_
                              conv => arg 1; cbv
                              replace h := bif_cases h
                              rcases h with ⟨hb154, h⟩ | ⟨hb154, h⟩
                              · refine sat_brt (by first | exact hb154 | ((try clear h); subst_vars; first | exact hb154 | rfl)) ?_
                                conv => arg 1; cbv
                                refine sat_tick hΩ ?_
                                conv => arg 1; cbv
                                obtain ⟨l155, hx156, hz⟩ := Option.bind_eq_some_iff.1 h
                                clear h
                                have h := hz
                                clear hz
                                have hL157 : ([[.int .u8 5], [.int .u8 7]] : List (List D)) = E.L_i_u8 l155 := by (have hy := Option.some.inj hx156; clear h; subst hy; subst hE; rfl)
                                rw [hL157]
                                clear hL157
                                conv => arg 1; cbv
                                obtain ⟨r159, hx158, hz⟩ := Option.bind_eq_some_iff.1 h
                                clear h
                                have h := hz
                                clear hz
                                refine sat_call (ok84x1 hΩ hE (S := (fun (s : Value) => ([X.Obj.box 27 (bx_27 E s)] : List X.Obj) :: st)) (lz0 := 0) (iz0 := 0) (c0 := (Value.mk a0_Kind a0_N a0_S (Sl.mk a0_L_l a0_L_x) (Sl.mk a0_F_l a0_F_x) a0_Elem a0_Key a0_HasKey)) (by (try clear h); subst_vars; rfl) (fun s => rfl) (fun s x => rfl) hx158 (by (try clear h); subst_vars; rfl) (by (try clear h); subst_vars; rfl)) ?_
                                conv => arg 1; cbv
                                obtain rfl := Option.some.inj h
                                subst_vars
                                first | exact hk | (simp only [ln_set] at hk ⊢; exact hk)
                              · refine sat_brf (by first | exact hb154 | ((try clear h); subst_vars; first | exact hb154 | rfl)) ?_
                                conv => arg 1; cbv
                                refine sat_tick hΩ ?_
                                conv => arg 1; cbv
                                obtain rfl := Option.some.inj h
                                subst_vars
                                first | exact hk | (simp only [ln_set] at hk ⊢; exact hk)
                            · refine sat_brf (by first | exact hb151 | ((try clear h); subst_vars; first | exact hb151 | rfl)) ?_
                              conv => arg 1; cbv
                              refine sat_tick hΩ ?_
                              conv => arg 1; cbv
                              obtain rfl := Option.some.inj h
                              subst_vars
                              first | exact hk | (simp only [ln_set] at hk ⊢; exact hk)
                          · refine sat_brf (by first | exact hb148 | ((try clear h); subst_vars; first | exact hb148 | rfl)) ?_
                            conv => arg 1; cbv
                            refine sat_len hΩ (ro_Field hE) a0_F_l (by first | rfl | ((try clear h); subst_vars; rfl)) fun n160 hn161 => ?_
                            conv => arg 1; cbv
                            replace h := bif_cases h
                            rcases h with ⟨hb162, h⟩ | ⟨hb162, h⟩
                            · refine sat_brt (by first | exact hb162 | ((try clear h); subst_vars; first | exact hb162 | rfl)) ?_
                              conv => arg 1; cbv
                              refine sat_tick hΩ ?_
                              conv => arg 1; cbv
                              obtain ⟨l163, hx164, hz⟩ := Option.bind_eq_some_iff.1 h
                              clear h
                              have h := hz
                              clear hz
                              have hL165 : ([[.int .u8 5], [.int .u8 7]] : List (List D)) = E.L_i_u8 l163 := by (have hy := Option.some.inj hx164; clear h; subst hy; subst hE; rfl)
                              rw [hL165]
                              clear hL165
                              conv => arg 1; cbv
                              obtain ⟨r167, hx166, hz⟩ := Option.bind_eq_some_iff.1 h
                              clear h
                              have h := hz
                              clear hz
                              refine sat_call (ok84x1 hΩ hE (S := (fun (s : Value) => ([X.Obj.box 27 (bx_27 E s)] : List X.Obj) :: st)) (lz0 := 0) (iz0 := 0) (c0 := (Value.mk a0_Kind a0_N a0_S (Sl.mk a0_L_l a0_L_x) (Sl.mk a0_F_l a0_F_x) a0_Elem a0_Key a0_HasKey)) (by (try clear h); subst_vars; rfl) (fun s => rfl) (fun s x => rfl) hx166 (by (try clear h); subst_vars; rfl) (by (try clear h); subst_vars; rfl)) ?_
                              conv => arg 1; cbv
                              obtain rfl := Option.some.inj h
                              subst_vars
                              first | exact hk | (simp only [ln_set] at hk ⊢; exact hk)
                            · refine sat_brf (by first | exact hb162 | ((try clear h); subst_vars; first | exact hb162 | rfl)) ?_
                              conv => arg 1; cbv
                              refine sat_tick hΩ ?_
                              conv => arg 1; cbv
                              obtain rfl := Option.some.inj h
                              subst_vars
                              first | exact hk | (simp only [ln_set] at hk ⊢; exact hk)
                        · refine sat_brf (by first | exact hb145 | ((try clear h); subst_vars; first | exact hb145 | rfl)) ?_
                          conv => arg 1; cbv
                          refine sat_tick hΩ ?_
                          conv => arg 1; cbv
                          refine sat_tick hΩ ?_
                          conv => arg 1; cbv
                          obtain rfl := Option.some.inj h
                          subst_vars
                          first | exact hk | (simp only [ln_set] at hk ⊢; exact hk)
                      · refine sat_brf (by first | exact hb139 | ((try clear h); subst_vars; first | exact hb139 | rfl)) ?_
                        conv => arg 1; cbv
                        refine sat_len hΩ (ro_Value hE) a0_L_l (by first | rfl | ((try clear h); subst_vars; rfl)) fun n168 hn169 => ?_
                        conv => arg 1; cbv
                        refine sat_tick hΩ ?_
                        conv => arg 1; cbv
                        replace h := bif_cases h
                        rcases h with ⟨hb170, h⟩ | ⟨hb170, h⟩
                        · refine sat_brt (by first | exact hb170 | ((try clear h); subst_vars; first | exact hb170 | rfl)) ?_
                          conv => arg 1; cbv
                          obtain ⟨r172, hx171, hz⟩ := Option.bind_eq_some_iff.1 h
                          clear h
                          have h := hz
                          clear hz
                          refine sat_call (ok84x1 hΩ hE (S := (fun (s : Value) => ([X.Obj.box 27 (bx_27 E s)] : List X.Obj) :: st)) (lz0 := 0) (iz0 := 0) (c0 := (Value.mk a0_Kind a0_N a0_S (Sl.mk a0_L_l a0_L_x) (Sl.mk a0_F_l a0_F_x) a0_Elem a0_Key a0_HasKey)) (by (try clear h); subst_vars; rfl) (fun s => rfl) (fun s x => rfl) hx171 (by (try clear h); subst_vars; rfl) (by (try clear h); subst_vars; rfl)) ?_
                          conv => arg 1; cbv
                          replace h := bif_cases h
                          rcases h with ⟨hb173, h⟩ | ⟨hb173, h⟩
                          · refine sat_brt (by first | exact hb173 | ((try clear h); subst_vars; first | exact hb173 | rfl)) ?_
                            conv => arg 1; cbv
                            refine sat_len hΩ (ro_Field hE) a0_F_l (by first | rfl | ((try clear h); subst_vars; rfl)) fun n174 hn175 => ?_
                            conv => arg 1; cbv
                            replace h := bif_cases h
                            rcases h with ⟨hb176, h⟩ | ⟨hb176, h⟩
                            · refine sat_brt (by first | exact hb176 | ((try clear h); subst_vars; first | exact hb176 | rfl)) ?_
                              conv => arg 1; cbv
                              refine sat_tick hΩ ?_
                              conv => arg 1; cbv
                              obtain ⟨l177, hx178, hz⟩ := Option.bind_eq_some_iff.1 h
                              clear h
                              have h := hz
                              clear hz
                              have hL179 : ([[.int .u8 5], [.int .u8 7]] : List (List D)) = E.L_i_u8 l177 := by (have hy := Option.some.inj hx178; clear h; subst hy; subst hE; rfl)
                              rw [hL179]
                              clear hL179
                              conv => arg 1; cbv
                              obtain ⟨r181, hx180, hz⟩ := Option.bind_eq_some_iff.1 h
                              clear h
                              have h := hz
                              clear hz
                              refine sat_call (ok84x1 hΩ hE (S := (fun (s : Value) => ([X.Obj.box 27 (bx_27 E s)] : List X.Obj) :: st)) (lz0 := 0) (iz0 := 0) (c0 := (Value.mk a0_Kind a0_N a0_S (Sl.mk a0_L_l a0_L_x) (Sl.mk a0_F_l a0_F_x) a0_Elem a0_Key a0_HasKey)) (by (try clear h); subst_vars; rfl) (fun s => rfl) (fun s x => rfl) hx180 (by (try clear h); subst_vars; rfl) (by (try clear h); subst_vars; rfl)) ?_
                              conv => arg 1; cbv
                              obtain rfl := Option.some.inj h
                              subst_vars
                              first | exact hk | (simp only [ln_set] at hk ⊢; exact hk)
                            · refine sat_brf (by first | exact hb176 | ((try clear h); subst_vars; first | exact hb176 | rfl)) ?_
                              conv => arg 1; cbv
                              refine sat_tick hΩ ?_
                              conv => arg 1; cbv
                              obtain rfl := Option.some.inj h
                              subst_vars
                              first | exact hk | (simp only [ln_set] at hk ⊢; exact hk)
                          · refine sat_brf (by first | exact hb173 | ((try clear h); subst_vars; first | exact hb173 | rfl)) ?_
                            conv => arg 1; cbv
                            refine sat_tick hΩ ?_
                            conv => arg 1; cbv
                            obtain rfl := Option.some.inj h
                            subst_vars
                            first | exact hk | (simp only [ln_set] at hk ⊢; exact hk)
                        · refine sat_brf (by first | exact hb170 | ((try clear h); subst_vars; first | exact hb170 | rfl)) ?_
                          conv => arg 1; cbv
                          refine sat_len hΩ (ro_Field hE) a0_F_l (by first | rfl | ((try clear h); subst_vars; rfl)) fun n182 hn183 => ?_
                          conv => arg 1; cbv
                          replace h := bif_cases h
                          rcases h with ⟨hb184, h⟩ | ⟨hb184, h⟩
                          · refine sat_brt (by first | exact hb184 | ((try clear h); subst_vars; first | exact hb184 | rfl)) ?_
                            conv => arg 1; cbv
                            refine sat_tick hΩ ?_
                            conv => arg 1; cbv
                            obtain ⟨l185, hx186, hz⟩ := Option.bind_eq_some_iff.1 h
                            clear h
                            have h := hz
                            clear hz
                            have hL187 : ([[.int .u8 5], [.int .u8 7]] : List (List D)) = E.L_i_u8 l185 := by (have hy := Option.some.inj hx186; clear h; subst hy; subst hE; rfl)
                            rw [hL187]
                            clear hL187
                            conv => arg 1; cbv
                            obtain ⟨r189, hx188, hz⟩ := Option.bind_eq_some_iff.1 h
                            clear h
                            have h := hz
                            clear hz
                            refine sat_call (ok84x1 hΩ hE (S := (fun (s : Value) => ([X.Obj.box 27 (bx_27 E s)] : List X.Obj) :: st)) (lz0 := 0) (iz0 := 0) (c0 := (Value.mk a0_Kind a0_N a0_S (Sl.mk a0_L_l a0_L_x) (Sl.mk a0_F_l a0_F_x) a0_Elem a0_Key a0_HasKey)) (by (try clear h); subst_vars; rfl) (fun s => rfl) (fun s x => rfl) hx188 (by (try clear h); subst_vars; rfl) (by (try clear h); subst_vars; rfl)) ?_
                            conv => arg 1; cbv
                            obtain rfl := Option.some.inj h
                            subst_vars
                            first | exact hk | (simp only [ln_set] at hk ⊢; exact hk)
                          · refine sat_brf (by first | exact hb184 | ((try clear h); subst_vars; first | exact hb184 | rfl)) ?_
                            conv => arg 1; cbv
                            refine sat_tick hΩ ?_
                            conv => arg 1; cbv
                            obtain rfl := Option.some.inj h
                            subst_vars
                            first | exact hk | (simp only [ln_set] at hk ⊢; exact hk)
                  · refine sat_brf (by first | exact hb25 | ((try clear h); subst_vars; first | exact hb25 | rfl)) ?_
                    conv => arg 1; cbv
                    refine sat_tick hΩ ?_
                    conv => arg 1; cbv
                    refine sat_tick hΩ ?_
                    conv => arg 1; cbv
                    refine sat_tick hΩ ?_
                    conv => arg 1; cbv
                    refine sat_tick hΩ ?_
                    conv => arg 1; cbv
                    obtain rfl := Option.some.inj h
                    subst_vars
                    first | exact hk | (simp only [ln_set] at hk ⊢; exact hk)
                · refine sat_brf (by first | exact hb24 | ((try clear h); subst_vars; first | exact hb24 | rfl)) ?_
                  conv => arg 1; cbv
                  refine sat_tick hΩ ?_
                  conv => arg 1; cbv
                  refine sat_tick hΩ ?_
                  conv => arg 1; cbv
                  refine sat_tick hΩ ?_
                  conv => arg 1; cbv
                  refine sat_tick hΩ ?_
                  conv => arg 1; cbv
                  refine sat_tick hΩ ?_
                  conv => arg 1; cbv
                  obtain rfl := Option.some.inj h
                  subst_vars
                  first | exact hk | (simp only [ln_set] at hk ⊢; exact hk)
              · refine sat_brf (by first | exact hb23 | ((try clear h); subst_vars; first | exact hb23 | rfl)) ?_
                conv => arg 1; cbv
                refine sat_tick hΩ ?_
                conv => arg 1; cbv
                refine sat_tick hΩ ?_
                conv => arg 1; cbv
                refine sat_tick hΩ ?_
                conv => arg 1; cbv
                refine sat_tick hΩ ?_
                conv => arg 1; cbv
                refine sat_tick hΩ ?_
                conv => arg 1; cbv
                obtain rfl := Option.some.inj h
                subst_vars
                first | exact hk | (simp only [ln_set] at hk ⊢; exact hk)
            · refine sat_brf (by first | exact hb22 | ((try clear h); subst_vars; first | exact hb22 | rfl)) ?_
              conv => arg 1; cbv
              refine sat_tick hΩ ?_
              conv => arg 1; cbv
              refine sat_tick hΩ ?_
              conv => arg 1; cbv
              refine sat_tick hΩ ?_
              conv => arg 1; cbv
              refine sat_tick hΩ ?_
              conv => arg 1; cbv
              refine sat_tick hΩ ?_
              conv => arg 1; cbv
              refine sat_tick hΩ ?_
              conv => arg 1; cbv
              obtain rfl := Option.some.inj h
              subst_vars
              first | exact hk | (simp only [ln_set] at hk ⊢; exact hk)
          · refine sat_brf (by first | exact hb21 | ((try clear h); subst_vars; first | exact hb21 | rfl)) ?_
            conv => arg 1; cbv
            refine sat_tick hΩ ?_
            conv => arg 1; cbv
            refine sat_tick hΩ ?_
            conv => arg 1; cbv
            refine sat_tick hΩ ?_
            conv => arg 1; cbv
            refine sat_tick hΩ ?_
            conv => arg 1; cbv
            refine sat_tick hΩ ?_
            conv => arg 1; cbv
            refine sat_tick hΩ ?_
            conv => arg 1; cbv
            obtain rfl := Option.some.inj h
            subst_vars
            first | exact hk | (simp only [ln_set] at hk ⊢; exact hk)
        · clear hq191
          obtain ⟨i190, hqq⟩ : ∃ x, x = q := ⟨_, rfl⟩
          subst hqq
          try dsimp only at h
          conv => arg 1; cbv
          obtain rfl := Option.some.inj h
          subst_vars
          exact sat_pure rfl
    · dsimp only at h
      conv => arg 1; cbv
      obtain rfl := Option.some.inj h
      subst_vars
      exact sat_pure rfl
set_option maxHeartbeats 4000000 in
theorem ok62x1 {Ω : Om} {E : Enc} (hΩ : real (call S) = Ω) (hE : theEnc = E) {fu : Nat} {a0 : Value} {a1 : Int} {b0 c0 : Int} {b1 c1 : Bool} {S : (Int × Bool) → St} {lz0 iz0 iz1 : Nat} (e0 : b0 = c0) (e1 : b1 = c1) (hg0 : ∀ s, X.look (S s) lz0 iz0 = some (X.Obj.box 3 (bx_3 E s.1))) (hu0 : ∀ s x, X.setO (S s) lz0 iz0 (X.Obj.box 3 (bx_3 E x)) = S (x, s.2)) (hg1 : ∀ s, X.look (S s) lz0 iz1 = some (X.Obj.box 4 (bx_4 E s.2))) (hu1 : ∀ s x, X.setO (S s) lz0 iz1 (X.Obj.box 4 (bx_4 E x)) = S (s.1, x)) {r : Bool × Int × Bool} (h : P62x1 fu a0 a1 b0 b1 = some r) {args : List PV} (ha : [pv_Value E a0, PV.d (.int .i64 a1), PV.ptr lz0 iz0 0, PV.ptr lz0 iz1 0] = args) {st : St} (hst : S (c0, c1) = st) :
    Sat (Ω.cf 62 args st) (fun q => q = (PV.d (.bool r.1), S (r.2.1, r.2.2))) := by
  subst ha
  subst hst
  subst e0
  subst e1
  rcases a0 with ⟨a0_Kind, a0_N, a0_S, ⟨a0_L_l, a0_L_x⟩, ⟨a0_F_l, a0_F_x⟩, a0_Elem, a0_Key, a0_HasKey⟩
  rw [cf_body hΩ (f := 62) (fn := Try.f62) (x := c62) rfl rfl c62_ok rfl rfl]
  unfold P62x1 at h
  try dsimp only at h
  conv => arg 1; cbv
  refine sat_far hΩ (hg0 _) rfl ?_
  conv => arg 1; cbv
  refine sat_putfar hΩ (hg0 _) (hu0 _ (Ω.wrap .i64 (Ω.add b0 1))) rfl rfl (by first | rfl | ((try clear h); subst_vars; rfl)) ?_
  conv => arg 1; cbv
  obtain ⟨q, hq6, hz⟩ := Option.bind_eq_some_iff.1 h
  clear h
  have h := hz
  clear hz
  refine sat_grp hΩ ((fun (q : Bool) => (match q with | g5 => ([(0, PV.agg [.d (.int .u8 a0_Kind), .d (.int .i64 a0_N), .d (.str a0_S), .d (.sl (E.L_Value a0_L_l) (E.X_Value a0_L_x)), .d (.sl (E.L_Field a0_F_l) (E.X_Field a0_F_x)), .d (.int .u8 a0_Elem), .d (.str a0_Key), .d (.bool a0_HasKey)]), (1, PV.d (.int .i64 a1)), (2, PV.ptr (lz0+1) iz0 0), (3, PV.ptr (lz0+1) iz1 0), (4, PV.ptr 0 0 0), (6, PV.d (.bool false))], ([X.Obj.box 27 [.d (.int .u8 a0_Kind), .d (.int .i64 a0_N), .d (.str a0_S), .d (.sl (E.L_Value a0_L_l) (E.X_Value a0_L_x)), .d (.sl (E.L_Field a0_F_l) (E.X_Field a0_F_x)), .d (.int .u8 a0_Elem), .d (.str a0_Key), .d (.bool a0_HasKey)]] : List X.Obj) :: S (Ω.wrap .i64 (Ω.add b0 1), g5)))) q) (fun k hk => ?_) ?_
  · clear h
    have h := hq6
    clear hq6
    conv => arg 1; cbv
    obtain ⟨r1, hx2, hz⟩ := Option.bind_eq_some_iff.1 h
    clear h
    have h := hz
    clear hz
    refine sat_call (ok63 hΩ hE hx2 (by (try clear h); subst_vars; rfl) _) ?_
    conv => arg 1; cbv
    replace h := bif_cases h
    rcases h with ⟨hb3, h⟩ | ⟨hb3, h⟩
    · refine sat_brt (by first | exact hb3 | ((try clear h); subst_vars; first | exact hb3 | rfl)) ?_
      conv => arg 1; cbv
      refine sat_far hΩ (hg0 _) rfl ?_
      conv => arg 1; cbv
      replace h := bif_cases h
      rcases h with ⟨hb4, h⟩ | ⟨hb4, h⟩
      · refine sat_brt (by first | exact hb4 | ((try clear h); subst_vars; first | exact hb4 | rfl)) ?_
        conv => arg 1; cbv
        refine sat_putfar hΩ (hg1 _) (hu1 _ (Ω.ile a1 64)) rfl rfl (by first | rfl | ((try clear h); subst_vars; rfl)) ?_
        conv => arg 1; cbv
        obtain rfl := Option.some.inj h
        subst_vars
        first | exact hk | (simp only [ln_set] at hk ⊢; exact hk)
      · refine sat_brf (by first | exact hb4 | ((try clear h); subst_vars; first | exact hb4 | rfl)) ?_
        conv => arg 1; cbv
        refine sat_putfar hΩ (hg1 _) (hu1 _ false) rfl rfl (by first | rfl | ((try clear h); subst_vars; rfl)) ?_
        conv => arg 1; cbv
        obtain rfl := Option.some.inj h
        subst_vars
        first | exact hk | (simp only [ln_set] at hk ⊢; exact hk)
    · refine sat_brf (by first | exact hb3 | ((try clear h); subst_vars; first | exact hb3 | rfl)) ?_
      conv => arg 1; cbv
      refine sat_putfar hΩ (hg1 _) (hu1 _ false) rfl rfl (by first | rfl | ((try clear h); subst_vars; rfl)) ?_
      conv => arg 1; cbv
      obtain rfl := Option.some.inj h
      subst_vars
      first | exact hk | (simp only [ln_set] at hk ⊢; exact hk)
  · clear hq6
    obtain ⟨g5, hqq⟩ : ∃ x, x = q := ⟨_, rfl⟩
    subst hqq
    try dsimp only at h
    conv => arg 1; cbv
    refine sat_far hΩ (hg1 _) rfl ?_
    conv => arg 1; cbv
    obtain rfl := Option.some.inj h
    subst_vars
    exact sat_pure rfl
set_option maxHeartbeats 4000000 in
theorem okb81x1 {Ω : Om} {E : Enc} (hΩ : real (call S) = Ω) (hE : theEnc = E) {fu : Nat} {p81x1 : Value → Int → Int → Bool → Option (Bool × Int × Bool)} (hp81x1 : ∀ {a0 : Value} {a1 : Int} {b1 c1 : Int} {b2 c2 : Bool} {S : (Int × Bool) → St} {lz0 lz1 ly1 iz0 iz1 iz2 iz3 : Nat} (hl1 : ly1 + lz0 = lz1) (e1 : b1 = c1) (e2 : b2 = c2) (hg0 : ∀ s, X.look (S s) lz0 iz0 = some (X.Obj.box 77 [PV.fn 62 [.ptr ly1 iz1 0, .ptr ly1 iz2 0]])) (hg1 : ∀ s, X.look (S s) lz1 iz1 = some (X.Obj.box 3 (bx_3 E s.1))) (hu1 : ∀ s x, X.setO (S s) lz1 iz1 (X.Obj.box 3 (bx_3 E x)) = S (x, s.2)) (hg2 : ∀ s, X.look (S s) lz1 iz2 = some (X.Obj.box 4 (bx_4 E s.2))) (hu2 : ∀ s x, X.setO (S s) lz1 iz2 (X.Obj.box 4 (bx_4 E x)) = S (s.1, x)) (hg3 : ∀ s, X.look (S s) lz0 iz3 = some (X.Obj.box 77 [PV.fn 81 [.ptr 0 iz0 0, .ptr 0 iz3 0]])) {r : Bool × Int × Bool}, p81x1 a0 a1 b1 b2 = some r → ∀ {args : List PV}, [pv_Value E a0, PV.d (.int .i64 a1), PV.ptr lz0 iz0 0, PV.ptr lz0 iz3 0] = args → ∀ {st : St}, S (c1, c2) = st → Sat (Ω.cf 81 args st) (fun q => q = (PV.d (.bool r.1), S (r.2.1, r.2.2)))) {a0 : Value} {a1 : Int} {b1 c1 : Int} {b2 c2 : Bool} {S : (Int × Bool) → St} {lz0 lz1 ly1 iz0 iz1 iz2 iz3 : Nat} (hl1 : ly1 + lz0 = lz1) (e1 : b1 = c1) (e2 : b2 = c2) (hg0 : ∀ s, X.look (S s) lz0 iz0 = some (X.Obj.box 77 [PV.fn 62 [.ptr ly1 iz1 0, .ptr ly1 iz2 0]])) (hg1 : ∀ s, X.look (S s) lz1 iz1 = some (X.Obj.box 3 (bx_3 E s.1))) (hu1 : ∀ s x, X.setO (S s) lz1 iz1 (X.Obj.box 3 (bx_3 E x)) = S (x, s.2)) (hg2 : ∀ s, X.look (S s) lz1 iz2 = some (X.Obj.box 4 (bx_4 E s.2))) (hu2 : ∀ s x, X.setO (S s) lz1 iz2 (X.Obj.box 4 (bx_4 E x)) = S (s.1, x)) (hg3 : ∀ s, X.look (S s) lz0 iz3 = some (X.Obj.box 77 [PV.fn 81 [.ptr 0 iz0 0, .ptr 0 iz3 0]])) {r : Bool × Int × Bool} (h : Pb81x1 fu p81x1 a0 a1 b1 b2 = some r) {args : List PV} (ha : [pv_Value E a0, PV.d (.int .i64 a1), PV.ptr lz0 iz0 0, PV.ptr lz0 iz3 0] = args) {st : St} (hst : S (c1, c2) = st) :
    Sat (Ω.cf 81 args st) (fun q => q = (PV.d (.bool r.1), S (r.2.1, r.2.2))) := by
  subst ha
  subst hst
  subst e1
  subst e2
  rcases a0 with ⟨a0_Kind, a0_N, a0_S, ⟨a0_L_l, a0_L_x⟩, ⟨a0_F_l, a0_F_x⟩, a0_Elem, a0_Key, a0_HasKey⟩
  rw [cf_body hΩ (f := 81) (fn := Try.f81) (x := c81) rfl rfl c81_ok rfl rfl]
  unfold Pb81x1 at h
  try dsimp only at h
  conv => arg 1; cbv
  refine sat_far hΩ (hg0 _) (by exact (show down.downs (lz0+1) [PV.fn 62 [.ptr ly1 iz1 0, .ptr ly1 iz2 0]] = [PV.fn 62 [.ptr (lz1+1) iz1 0, .ptr (lz1+1) iz2 0]] by simp only [down.downs, down, Nat.zero_add, ← hl1, Nat.add_assoc])) ?_
  conv => arg 1; cbv
  obtain ⟨⟨r2, wr3, wr4⟩, hx1, hz⟩ := Option.bind_eq_some_iff.1 h
  clear h
  have h := hz
  clear hz
  try dsimp only at h
  refine sat_call (ok62x1 hΩ hE (S := (fun (s : Int × Bool) => ([X.Obj.box 27 [.d (.int .u8 a0_Kind), .d (.int .i64 a0_N), .d (.str a0_S), .d (.sl (E.L_Value a0_L_l) (E.X_Value a0_L_x)), .d (.sl (E.L_Field a0_F_l) (E.X_Field a0_F_x)), .d (.int .u8 a0_Elem), .d (.str a0_Key), .d (.bool a0_HasKey)]] : List X.Obj) :: S (s.1, s.2))) (lz0 := (lz1+1)) (iz0 := iz1) (iz1 := iz2) (c0 := b1) (c1 := b2) (by (try clear h); subst_vars; rfl) (by (try clear h); subst_vars; rfl) (fun s => hg1 (s.1, s.2)) (fun s x => congrArg (List.cons _) (hu1 (s.1, s.2) x)) (fun s => hg2 (s.1, s.2)) (fun s x => congrArg (List.cons _) (hu2 (s.1, s.2) x)) hx1 (by (try clear h); subst_vars; rfl) (by (try clear h); subst_vars; rfl)) ?_
  conv => arg 1; cbv
  refine sat_in hΩ ?_
  conv => arg 1; cbv
  replace h := bif_cases h
  rcases h with ⟨hb5, h⟩ | ⟨hb5, h⟩
  · refine sat_brt (by first | exact hb5 | ((try clear h); subst_vars; first | exact hb5 | rfl)) ?_
    conv => arg 1; cbv
    obtain rfl := Option.some.inj h
    subst_vars
    exact sat_pure rfl
  · refine sat_brf (by first | exact hb5 | ((try clear h); subst_vars; first | exact hb5 | rfl)) ?_
    conv => arg 1; cbv
    refine sat_len hΩ (ro_Value hE) a0_L_l (by first | rfl | ((try clear h); subst_vars; rfl)) fun n6 hn7 => ?_
    conv => arg 1; cbv
    obtain ⟨q, hl19, hz⟩ := Option.bind_eq_some_iff.1 h
    clear h
    have h := hz
    clear hz
    refine sat_loop hΩ (fun (a : Int × Bool × Int) => (match a with | (g8, g9, i10) => ([(0, PV.agg [.d (.int .u8 a0_Kind), .d (.int .i64 a0_N), .d (.str a0_S), .d (.sl (E.L_Value a0_L_l) (E.X_Value a0_L_x)), .d (.sl (E.L_Field a0_F_l) (E.X_Field a0_F_x)), .d (.int .u8 a0_Elem), .d (.str a0_Key), .d (.bool a0_HasKey)]), (1, PV.d (.int .i64 a1)), (2, PV.ptr (lz0+1) iz0 0), (3, PV.ptr (lz0+1) iz3 0), (4, PV.ptr 0 0 0), (6, PV.d (.bool false)), (17, PV.d (.sl (E.L_Value a0_L_l) (E.X_Value a0_L_x))), (18, PV.d (.int .i64 n6)), (19, PV.d (.int .i64 i10))], ([X.Obj.box 27 [.d (.int .u8 a0_Kind), .d (.int .i64 a0_N), .d (.str a0_S), .d (.sl (E.L_Value a0_L_l) (E.X_Value a0_L_x)), .d (.sl (E.L_Field a0_F_l) (E.X_Field a0_F_x)), .d (.int .u8 a0_Elem), .d (.str a0_Key), .d (.bool a0_HasKey)]] : List X.Obj) :: S (g8, g9)))) (fun (q : (Int × Bool × Int) ⊕ (Int × Bool × Int)) => (match q with | .inl (o20, o21, o22) => (.exit 0, [(0, PV.agg [.d (.int .u8 a0_Kind), .d (.int .i64 a0_N), .d (.str a0_S), .d (.sl (E.L_Value a0_L_l) (E.X_Value a0_L_x)), .d (.sl (E.L_Field a0_F_l) (E.X_Field a0_F_x)), .d (.int .u8 a0_Elem), .d (.str a0_Key), .d (.bool a0_HasKey)]), (1, PV.d (.int .i64 a1)), (2, PV.ptr (lz0+1) iz0 0), (3, PV.ptr (lz0+1) iz3 0), (4, PV.ptr 0 0 0), (6, PV.d (.bool false)), (17, PV.d (.sl (E.L_Value a0_L_l) (E.X_Value a0_L_x))), (18, PV.d (.int .i64 n6)), (19, PV.d (.int .i64 o22))], ([X.Obj.box 27 [.d (.int .u8 a0_Kind), .d (.int .i64 a0_N), .d (.str a0_S), .d (.sl (E.L_Value a0_L_l) (E.X_Value a0_L_x)), .d (.sl (E.L_Field a0_F_l) (E.X_Field a0_F_x)), .d (.int .u8 a0_Elem), .d (.str a0_Key), .d (.bool a0_HasKey)]] : List X.Obj) :: S (o20, o21)) | .inr (o43, o44, o45) => (.ret, [(0, PV.agg [.d (.int .u8 a0_Kind), .d (.int .i64 a0_N), .d (.str a0_S), .d (.sl (E.L_Value a0_L_l) (E.X_Value a0_L_x)), .d (.sl (E.L_Field a0_F_l) (E.X_Field a0_F_x)), .d (.int .u8 a0_Elem), .d (.str a0_Key), .d (.bool a0_HasKey)]), (1, PV.d (.int .i64 a1)), (2, PV.ptr (lz0+1) iz0 0), (3, PV.ptr (lz0+1) iz3 0), (4, PV.ptr 0 0 0), (6, PV.d (.bool false)), (17, PV.d (.sl (E.L_Value a0_L_l) (E.X_Value a0_L_x))), (18, PV.d (.int .i64 n6)), (19, PV.d (.int .i64 o45))], ([X.Obj.box 27 [.d (.int .u8 a0_Kind), .d (.int .i64 a0_N), .d (.str a0_S), .d (.sl (E.L_Value a0_L_l) (E.X_Value a0_L_x)), .d (.sl (E.L_Field a0_F_l) (E.X_Field a0_F_x)), .d (.int .u8 a0_Elem), .d (.str a0_Key), .d (.bool a0_HasKey)]] : List X.Obj) :: S (o43, o44)))) (wr3, wr4, 0) hl19 (by first | rfl | ((try clear h); subst_vars; rfl) | ((try clear h); subst_vars; simp only [ln_set])) ?_ ?_
    · clear h hl19
      rintro ⟨g8, g9, i10⟩ q h
      unfold P81x1_s0 at h
      dsimp only at h
      conv => arg 1; cbv
      refine sat_in hΩ ?_
      conv => arg 1; cbv
      replace h := bif_cases h
      rcases h with ⟨hb11, h⟩ | ⟨hb11, h⟩
      · refine sat_brt (by first | exact hb11 | ((try clear h); subst_vars; first | exact hb11 | rfl)) ?_
        conv => arg 1; cbv
        refine sat_true (fits_l hΩ (ro_Value hE) a0_L_l (by first | rfl | ((try clear h); subst_vars; rfl))) ?_
        conv => arg 1; cbv
        obtain ⟨⟨x12_Kind, x12_N, x12_S, ⟨x12_L_l, x12_L_x⟩, ⟨x12_F_l, x12_F_x⟩, x12_Elem, x12_Key, x12_HasKey⟩, hx13, hz⟩ := Option.bind_eq_some_iff.1 h
        clear h
        have h := hz
        clear hz
        try dsimp only at h
        refine sat_bind (nth_ok hΩ (ro_Value hE) hx13 (by first | rfl | ((try clear h); subst_vars; rfl)) (by first | rfl | ((try clear h); subst_vars; rfl))) ?_
        conv => arg 1; cbv
        refine sat_far hΩ (hg3 _) (by exact (show down.downs (lz0+1) [PV.fn 81 [.ptr 0 iz0 0, .ptr 0 iz3 0]] = [PV.fn 81 [.ptr (lz0+1) iz0 0, .ptr (lz0+1) iz3 0]] by simp only [down.downs, down, Nat.zero_add, ← hl1, Nat.add_assoc])) ?_
        conv => arg 1; cbv
        obtain ⟨⟨r15, wr16, wr17⟩, hx14, hz⟩ := Option.bind_eq_some_iff.1 h
        clear h
        have h := hz
        clear hz
        try dsimp only at h
        refine sat_call (hp81x1 (S := (fun (s : Int × Bool) => ([X.Obj.box 27 [.d (.int .u8 a0_Kind), .d (.int .i64 a0_N), .d (.str a0_S), .d (.sl (E.L_Value a0_L_l) (E.X_Value a0_L_x)), .d (.sl (E.L_Field a0_F_l) (E.X_Field a0_F_x)), .d (.int .u8 a0_Elem), .d (.str a0_Key), .d (.bool a0_HasKey)], X.Obj.box 27 [.d (.int .u8 x12_Kind), .d (.int .i64 x12_N), .d (.str x12_S), .d (.sl (E.L_Value x12_L_l) (E.X_Value x12_L_x)), .d (.sl (E.L_Field x12_F_l) (E.X_Field x12_F_x)), .d (.int .u8 x12_Elem), .d (.str x12_Key), .d (.bool x12_HasKey)]] : List X.Obj) :: S (s.1, s.2))) (lz0 := (lz0+1)) (lz1 := (lz1+1)) (ly1 := ly1) (iz0 := iz0) (iz1 := iz1) (iz2 := iz2) (iz3 := iz3) (c1 := g8) (c2 := g9) (by first | rfl | omega) (by (try clear h); subst_vars; rfl) (by (try clear h); subst_vars; rfl) (fun s => hg0 (s.1, s.2)) (fun s => hg1 (s.1, s.2)) (fun s x => congrArg (List.cons _) (hu1 (s.1, s.2) x)) (fun s => hg2 (s.1, s.2)) (fun s x => congrArg (List.cons _) (hu2 (s.1, s.2) x)) (fun s => hg3 (s.1, s.2)) hx14 (by (try clear h); subst_vars; rfl) (by (try clear h); subst_vars; rfl)) ?_
        conv => arg 1; cbv
        refine sat_in hΩ ?_
        conv => arg 1; cbv
        replace h := bif_cases h
        rcases h with ⟨hb18, h⟩ | ⟨hb18, h⟩
        · refine sat_brt (by first | exact hb18 | ((try clear h); subst_vars; first | exact hb18 | rfl)) ?_
          conv => arg 1; cbv
          obtain rfl := Option.some.inj h
          subst_vars
          first | exact sat_pure (.inr ⟨rfl, rfl⟩) | (refine sat_pure (.inr ⟨rfl, ?_⟩); dsimp only; simp only [ln_set]; rfl)
        · refine sat_brf (by first | exact hb18 | ((try clear h); subst_vars; first | exact hb18 | rfl)) ?_
          conv => arg 1; cbv
          obtain rfl := Option.some.inj h
          subst_vars
          first | exact sat_pure ⟨rfl, rfl, rfl⟩ | (refine sat_pure ⟨rfl, ?_, ?_⟩ <;> first | rfl | (dsimp only; simp only [ln_set]; rfl))
      · refine sat_brf (by first | exact hb11 | ((try clear h); subst_vars; first | exact hb11 | rfl)) ?_
        conv => arg 1; cbv
        obtain rfl := Option.some.inj h
        subst_vars
        first | exact sat_pure (.inl ⟨⟨_, rfl⟩, rfl⟩) | (refine sat_pure (.inl ⟨⟨_, rfl⟩, ?_⟩); dsimp only; simp only [ln_set]; rfl)
    · clear hl19
      rcases q with ⟨o20, o21, o22⟩ | ⟨o43, o44, o45⟩
      · dsimp only at h
        conv => arg 1; cbv
        refine sat_len hΩ (ro_Field hE) a0_F_l (by first | rfl | ((try clear h); subst_vars; rfl)) fun n23 hn24 => ?_
        conv => arg 1; cbv
        obtain ⟨q, hl36, hz⟩ := Option.bind_eq_some_iff.1 h
        clear h
        have h := hz
        clear hz
        refine sat_loop hΩ (fun (a : Int × Bool × Int) => (match a with | (g25, g26, i27) => ([(0, PV.agg [.d (.int .u8 a0_Kind), .d (.int .i64 a0_N), .d (.str a0_S), .d (.sl (E.L_Value a0_L_l) (E.X_Value a0_L_x)), .d (.sl (E.L_Field a0_F_l) (E.X_Field a0_F_x)), .d (.int .u8 a0_Elem), .d (.str a0_Key), .d (.bool a0_HasKey)]), (1, PV.d (.int .i64 a1)), (2, PV.ptr (lz0+1) iz0 0), (3, PV.ptr (lz0+1) iz3 0), (4, PV.ptr 0 0 0), (6, PV.d (.bool false)), (17, PV.d (.sl (E.L_Value a0_L_l) (E.X_Value a0_L_x))), (18, PV.d (.int .i64 n6)), (19, PV.d (.int .i64 o22)), (31, PV.d (.sl (E.L_Field a0_F_l) (E.X_Field a0_F_x))), (32, PV.d (.int .i64 n23)), (33, PV.d (.int .i64 i27))], ([X.Obj.box 27 [.d (.int .u8 a0_Kind), .d (.int .i64 a0_N), .d (.str a0_S), .d (.sl (E.L_Value a0_L_l) (E.X_Value a0_L_x)), .d (.sl (E.L_Field a0_F_l) (E.X_Field a0_F_x)), .d (.int .u8 a0_Elem), .d (.str a0_Key), .d (.bool a0_HasKey)]] : List X.Obj) :: S (g25, g26)))) (fun (q : (Int × Bool × Int) ⊕ (Int × Bool × Int)) => (match q with | .inl (o37, o38, o39) => (.exit 2, [(0, PV.agg [.d (.int .u8 a0_Kind), .d (.int .i64 a0_N), .d (.str a0_S), .d (.sl (E.L_Value a0_L_l) (E.X_Value a0_L_x)), .d (.sl (E.L_Field a0_F_l) (E.X_Field a0_F_x)), .d (.int .u8 a0_Elem), .d (.str a0_Key), .d (.bool a0_HasKey)]), (1, PV.d (.int .i64 a1)), (2, PV.ptr (lz0+1) iz0 0), (3, PV.ptr (lz0+1) iz3 0), (4, PV.ptr 0 0 0), (6, PV.d (.bool false)), (17, PV.d (.sl (E.L_Value a0_L_l) (E.X_Value a0_L_x))), (18, PV.d (.int .i64 n6)), (19, PV.d (.int .i64 o22)), (31, PV.d (.sl (E.L_Field a0_F_l) (E.X_Field a0_F_x))), (32, PV.d (.int .i64 n23)), (33, PV.d (.int .i64 o39))], ([X.Obj.box 27 [.d (.int .u8 a0_Kind), .d (.int .i64 a0_N), .d (.str a0_S), .d (.sl (E.L_Value a0_L_l) (E.X_Value a0_L_x)), .d (.sl (E.L_Field a0_F_l) (E.X_Field a0_F_x)), .d (.int .u8 a0_Elem), .d (.str a0_Key), .d (.bool a0_HasKey)]] : List X.Obj) :: S (o37, o38)) | .inr (o40, o41, o42) => (.ret, [(0, PV.agg [.d (.int .u8 a0_Kind), .d (.int .i64 a0_N), .d (.str a0_S), .d (.sl (E.L_Value a0_L_l) (E.X_Value a0_L_x)), .d (.sl (E.L_Field a0_F_l) (E.X_Field a0_F_x)), .d (.int .u8 a0_Elem), .d (.str a0_Key), .d (.bool a0_HasKey)]), (1, PV.d (.int .i64 a1)), (2, PV.ptr (lz0+1) iz0 0), (3, PV.ptr (lz0+1) iz3 0), (4, PV.ptr 0 0 0), (6, PV.d (.bool false)), (17, PV.d (.sl (E.L_Value a0_L_l) (E.X_Value a0_L_x))), (18, PV.d (.int .i64 n6)), (19, PV.d (.int .i64 o22)), (31, PV.d (.sl (E.L_Field a0_F_l) (E.X_Field a0_F_x))), (32, PV.d (.int .i64 n23)), (33, PV.d (.int .i64 o42))], ([X.Obj.box 27 [.d (.int .u8 a0_Kind), .d (.int .i64 a0_N), .d (.str a0_S), .d (.sl (E.L_Value a0_L_l) (E.X_Value a0_L_x)), .d (.sl (E.L_Field a0_F_l) (E.X_Field a0_F_x)), .d (.int .u8 a0_Elem), .d (.str a0_Key), .d (.bool a0_HasKey)]] : List X.Obj) :: S (o40, o41)))) (o20, o21, 0) hl36 (by first | rfl | ((try clear h); subst_vars; rfl) | ((try clear h); subst_vars; simp only [ln_set])) ?_ ?_
        · clear h hl36
          rintro ⟨g25, g26, i27⟩ q h
          unfold P81x1_s1 at h
          dsimp only at h
          conv => arg 1; cbv
          refine sat_in hΩ ?_
          conv => arg 1; cbv
          replace h := bif_cases h
          rcases h with ⟨hb28, h⟩ | ⟨hb28, h⟩
          · refine sat_brt (by first | exact hb28 | ((try clear h); subst_vars; first | exact hb28 | rfl)) ?_
            conv => arg 1; cbv
            refine sat_true (fits_l hΩ (ro_Field hE) a0_F_l (by first | rfl | ((try clear h); subst_vars; rfl))) ?_
            conv => arg 1; cbv
            obtain ⟨⟨x29_Name, ⟨x29_Value__Kind, x29_Value__N, x29_Value__S, ⟨x29_Value__L_l, x29_Value__L_x⟩, ⟨x29_Value__F_l, x29_Value__F_x⟩, x29_Value__Elem, x29_Value__Key, x29_Value__HasKey⟩⟩, hx30, hz⟩ := Option.bind_eq_some_iff.1 h
            clear h
            have h := hz
            clear hz
            try dsimp only at h
            refine sat_bind (nth_ok hΩ (ro_Field hE) hx30 (by first | rfl | ((try clear h); subst_vars; rfl)) (by first | rfl | ((try clear h); subst_vars; rfl))) ?_
            conv => arg 1; cbv
            refine sat_far hΩ (hg3 _) (by exact (show down.downs (lz0+1) [PV.fn 81 [.ptr 0 iz0 0, .ptr 0 iz3 0]] = [PV.fn 81 [.ptr (lz0+1) iz0 0, .ptr (lz0+1) iz3 0]] by simp only [down.downs, down, Nat.zero_add, ← hl1, Nat.add_assoc])) ?_
            conv => arg 1; cbv
            obtain ⟨⟨r32, wr33, wr34⟩, hx31, hz⟩ := Option.bind_eq_some_iff.1 h
            clear h
            have h := hz
            clear hz
            try dsimp only at h
            refine sat_call (hp81x1 (S := (fun (s : Int × Bool) => ([X.Obj.box 27 [.d (.int .u8 a0_Kind), .d (.int .i64 a0_N), .d (.str a0_S), .d (.sl (E.L_Value a0_L_l) (E.X_Value a0_L_x)), .d (.sl (E.L_Field a0_F_l) (E.X_Field a0_F_x)), .d (.int .u8 a0_Elem), .d (.str a0_Key), .d (.bool a0_HasKey)], X.Obj.box 49 [.d (.str x29_Name), .d (.int .u8 x29_Value__Kind), .d (.int .i64 x29_Value__N), .d (.str x29_Value__S), .d (.sl (E.L_Value x29_Value__L_l) (E.X_Value x29_Value__L_x)), .d (.sl (E.L_Field x29_Value__F_l) (E.X_Field x29_Value__F_x)), .d (.int .u8 x29_Value__Elem), .d (.str x29_Value__Key), .d (.bool x29_Value__HasKey)]] : List X.Obj) :: S (s.1, s.2))) (lz0 := (lz0+1)) (lz1 := (lz1+1)) (ly1 := ly1) (iz0 := iz0) (iz1 := iz1) (iz2 := iz2) (iz3 := iz3) (c1 := g25) (c2 := g26) (by first | rfl | omega) (by (try clear h); subst_vars; rfl) (by (try clear h); subst_vars; rfl) (fun s => hg0 (s.1, s.2)) (fun s => hg1 (s.1, s.2)) (fun s x => congrArg (List.cons _) (hu1 (s.1, s.2) x)) (fun s => hg2 (s.1, s.2)) (fun s x => congrArg (List.cons _) (hu2 (s.1, s.2) x)) (fun s => hg3 (s.1, s.2)) hx31 (by (try clear h); subst_vars; rfl) (by (try clear h); subst_vars; rfl)) ?_
            conv => arg 1; cbv
            refine sat_in hΩ ?_
            conv => arg 1; cbv
            replace h := bif_cases h
            rcases h with ⟨hb35, h⟩ | ⟨hb35, h⟩
            · refine sat_brt (by first | exact hb35 | ((try clear h); subst_vars; first | exact hb35 | rfl)) ?_
              conv => arg 1; cbv
              obtain rfl := Option.some.inj h
              subst_vars
              first | exact sat_pure (.inr ⟨rfl, rfl⟩) | (refine sat_pure (.inr ⟨rfl, ?_⟩); dsimp only; simp only [ln_set]; rfl)
            · refine sat_brf (by first | exact hb35 | ((try clear h); subst_vars; first | exact hb35 | rfl)) ?_
              conv => arg 1; cbv
              obtain rfl := Option.some.inj h
              subst_vars
              first | exact sat_pure ⟨rfl, rfl, rfl⟩ | (refine sat_pure ⟨rfl, ?_, ?_⟩ <;> first | rfl | (dsimp only; simp only [ln_set]; rfl))
          · refine sat_brf (by first | exact hb28 | ((try clear h); subst_vars; first | exact hb28 | rfl)) ?_
            conv => arg 1; cbv
            obtain rfl := Option.some.inj h
            subst_vars
            first | exact sat_pure (.inl ⟨⟨_, rfl⟩, rfl⟩) | (refine sat_pure (.inl ⟨⟨_, rfl⟩, ?_⟩); dsimp only; simp only [ln_set]; rfl)
        · clear hl36
          rcases q with ⟨o37, o38, o39⟩ | ⟨o40, o41, o42⟩
          · dsimp only at h
            conv => arg 1; cbv
            obtain rfl := Option.some.inj h
            subst_vars
            exact sat_pure rfl
          · dsimp only at h
            conv => arg 1; cbv
            obtain rfl := Option.some.inj h
            subst_vars
            exact sat_pure rfl
      · dsimp only at h
        conv => arg 1; cbv
        obtain rfl := Option.some.inj h
        subst_vars
        exact sat_pure rfl
theorem okr81x1 {Ω : Om} {E : Enc} (hΩ : real (call S) = Ω) (hE : theEnc = E) : ∀ fu,
    (∀ {a0 : Value} {a1 : Int} {b1 c1 : Int} {b2 c2 : Bool} {S : (Int × Bool) → St} {lz0 lz1 ly1 iz0 iz1 iz2 iz3 : Nat} (hl1 : ly1 + lz0 = lz1) (e1 : b1 = c1) (e2 : b2 = c2) (hg0 : ∀ s, X.look (S s) lz0 iz0 = some (X.Obj.box 77 [PV.fn 62 [.ptr ly1 iz1 0, .ptr ly1 iz2 0]])) (hg1 : ∀ s, X.look (S s) lz1 iz1 = some (X.Obj.box 3 (bx_3 E s.1))) (hu1 : ∀ s x, X.setO (S s) lz1 iz1 (X.Obj.box 3 (bx_3 E x)) = S (x, s.2)) (hg2 : ∀ s, X.look (S s) lz1 iz2 = some (X.Obj.box 4 (bx_4 E s.2))) (hu2 : ∀ s x, X.setO (S s) lz1 iz2 (X.Obj.box 4 (bx_4 E x)) = S (s.1, x)) (hg3 : ∀ s, X.look (S s) lz0 iz3 = some (X.Obj.box 77 [PV.fn 81 [.ptr 0 iz0 0, .ptr 0 iz3 0]])) {r : Bool × Int × Bool}, P81x1 fu a0 a1 b1 b2 = some r → ∀ {args : List PV}, [pv_Value E a0, PV.d (.int .i64 a1), PV.ptr lz0 iz0 0, PV.ptr lz0 iz3 0] = args → ∀ {st : St}, S (c1, c2) = st → Sat (Ω.cf 81 args st) (fun q => q = (PV.d (.bool r.1), S (r.2.1, r.2.2)))) := by
  intro fu
  induction fu with
  | zero => exact (@fun _ _ _ _ _ _ _ _ _ _ _ _ _ _ _ _ _ _ _ _ _ _ _ _ h => by cases h)
  | succ fu ih =>
    have i81x1 := @ih
    exact (@fun a0 a1 b1 c1 b2 c2 S lz0 lz1 ly1 iz0 iz1 iz2 iz3 hl1 e1 e2 hg0 hg1 hu1 hg2 hu2 hg3 r h args ha st hs => okb81x1 (fu := fu) hΩ hE i81x1 hl1 e1 e2 hg0 hg1 hu1 hg2 hu2 hg3 h ha hs)
theorem ok81x1 {Ω : Om} {E : Enc} (hΩ : real (call S) = Ω) (hE : theEnc = E) {fu : Nat} : ∀ {a0 : Value} {a1 : Int} {b1 c1 : Int} {b2 c2 : Bool} {S : (Int × Bool) → St} {lz0 lz1 ly1 iz0 iz1 iz2 iz3 : Nat} (hl1 : ly1 + lz0 = lz1) (e1 : b1 = c1) (e2 : b2 = c2) (hg0 : ∀ s, X.look (S s) lz0 iz0 = some (X.Obj.box 77 [PV.fn 62 [.ptr ly1 iz1 0, .ptr ly1 iz2 0]])) (hg1 : ∀ s, X.look (S s) lz1 iz1 = some (X.Obj.box 3 (bx_3 E s.1))) (hu1 : ∀ s x, X.setO (S s) lz1 iz1 (X.Obj.box 3 (bx_3 E x)) = S (x, s.2)) (hg2 : ∀ s, X.look (S s) lz1 iz2 = some (X.Obj.box 4 (bx_4 E s.2))) (hu2 : ∀ s x, X.setO (S s) lz1 iz2 (X.Obj.box 4 (bx_4 E x)) = S (s.1, x)) (hg3 : ∀ s, X.look (S s) lz0 iz3 = some (X.Obj.box 77 [PV.fn 81 [.ptr 0 iz0 0, .ptr 0 iz3 0]])) {r : Bool × Int × Bool}, P81x1 fu a0 a1 b1 b2 = some r → ∀ {args : List PV}, [pv_Value E a0, PV.d (.int .i64 a1), PV.ptr lz0 iz0 0, PV.ptr lz0 iz3 0] = args → ∀ {st : St}, S (c1, c2) = st → Sat (Ω.cf 81 args st) (fun q => q = (PV.d (.bool r.1), S (r.2.1, r.2.2))) := (okr81x1 hΩ hE fu)
set_option maxHeartbeats 4000000 in
theorem ok61x1 {Ω : Om} {E : Enc} (hΩ : real (call S) = Ω) (hE : theEnc = E) {fu : Nat} {a0 : Value} {b0 c0 : Int} {b1 c1 : Bool} {S : (Int × Bool) → St} {lz0 iz0 iz1 : Nat} (e0 : b0 = c0) (e1 : b1 = c1) (hg0 : ∀ s, X.look (S s) lz0 iz0 = some (X.Obj.box 3 (bx_3 E s.1))) (hu0 : ∀ s x, X.setO (S s) lz0 iz0 (X.Obj.box 3 (bx_3 E x)) = S (x, s.2)) (hg1 : ∀ s, X.look (S s) lz0 iz1 = some (X.Obj.box 4 (bx_4 E s.2))) (hu1 : ∀ s x, X.setO (S s) lz0 iz1 (X.Obj.box 4 (bx_4 E x)) = S (s.1, x)) {r : Int × Bool} (h : P61x1 fu a0 b0 b1 = some r) {args : List PV} (ha : [pv_Value E a0, PV.fn 62 [.ptr lz0 iz0 0, .ptr lz0 iz1 0]] = args) {st : St} (hst : S (c0, c1) = st) :
    Sat (Ω.cf 61 args st) (fun q => q = (PV.tup [], S (r.1, r.2))) := by
  subst ha
  subst hst
  subst e0
  subst e1
  rcases a0 with ⟨a0_Kind, a0_N, a0_S, ⟨a0_L_l, a0_L_x⟩, ⟨a0_F_l, a0_F_x⟩, a0_Elem, a0_Key, a0_HasKey⟩
  rw [cf_body hΩ (f := 61) (fn := Try.f61) (x := c61) rfl rfl c61_ok rfl rfl]
  unfold P61x1 at h
  try dsimp only at h
  conv => arg 1; cbv
  obtain ⟨⟨r2, wr3, wr4⟩, hx1, hz⟩ := Option.bind_eq_some_iff.1 h
  clear h
  have h := hz
  clear hz
  try dsimp only at h
  refine sat_call (ok81x1 hΩ hE (S := (fun (s : Int × Bool) => ([X.Obj.box 27 [.d (.int .u8 a0_Kind), .d (.int .i64 a0_N), .d (.str a0_S), .d (.sl (E.L_Value a0_L_l) (E.X_Value a0_L_x)), .d (.sl (E.L_Field a0_F_l) (E.X_Field a0_F_x)), .d (.int .u8 a0_Elem), .d (.str a0_Key), .d (.bool a0_HasKey)], X.Obj.box 77 [.fn 62 [.ptr (lz0+1) iz0 0, .ptr (lz0+1) iz1 0]], X.Obj.box 77 [.fn 81 [.ptr 0 1 0, .ptr 0 2 0]]] : List X.Obj) :: S (s.1, s.2))) (lz0 := 0) (lz1 := (lz0+1)) (ly1 := (lz0+1)) (iz0 := 1) (iz1 := iz0) (iz2 := iz1) (iz3 := 2) (c1 := b0) (c2 := b1) (by first | rfl | omega) (by (try clear h); subst_vars; rfl) (by (try clear h); subst_vars; rfl) (fun s => rfl) (fun s => hg0 (s.1, s.2)) (fun s x => congrArg (List.cons _) (hu0 (s.1, s.2) x)) (fun s => hg1 (s.1, s.2)) (fun s x => congrArg (List.cons _) (hu1 (s.1, s.2) x)) (fun s => rfl) hx1 (by (try clear h); subst_vars; rfl) (by (try clear h); subst_vars; rfl)) ?_
  conv => arg 1; cbv
  obtain rfl := Option.some.inj h
  subst_vars
  exact sat_pure rfl
set_option maxHeartbeats 4000000 in
theorem ok41 {Ω : Om} {E : Enc} (hΩ : real (call S) = Ω) (hE : theEnc = E) {fu : Nat} {a0 : Value} {r : Bool} (h : P41 fu a0 = some r) {args : List PV} (ha : [pv_Value E a0] = args) (st : St) :
    Sat (Ω.cf 41 args st) (fun q => q = (PV.d (.bool r), st)) := by
  subst ha
  rcases a0 with ⟨a0_Kind, a0_N, a0_S, ⟨a0_L_l, a0_L_x⟩, ⟨a0_F_l, a0_F_x⟩, a0_Elem, a0_Key, a0_HasKey⟩
  rw [cf_body hΩ (f := 41) (fn := Try.f41) (x := c41) rfl rfl c41_ok rfl rfl]
  unfold P41 at h
  try dsimp only at h
  conv => arg 1; cbv
  obtain ⟨⟨wr2, wr3⟩, hx1, hz⟩ := Option.bind_eq_some_iff.1 h
  clear h
  have h := hz
  clear hz
  try dsimp only at h
  refine sat_call (ok61x1 hΩ hE (S := (fun (s : Int × Bool) => ([X.Obj.box 27 [.d (.int .u8 a0_Kind), .d (.int .i64 a0_N), .d (.str a0_S), .d (.sl (E.L_Value a0_L_l) (E.X_Value a0_L_x)), .d (.sl (E.L_Field a0_F_l) (E.X_Field a0_F_x)), .d (.int .u8 a0_Elem), .d (.str a0_Key), .d (.bool a0_HasKey)], X.Obj.box 3 (bx_3 E s.1), X.Obj.box 4 (bx_4 E s.2)] : List X.Obj) :: st)) (lz0 := 0) (iz0 := 1) (iz1 := 2) (c0 := 0) (c1 := true) (by (try clear h); subst_vars; rfl) (by (try clear h); subst_vars; rfl) (fun s => rfl) (fun s x => rfl) (fun s => rfl) (fun s x => rfl) hx1 (by (try clear h); subst_vars; rfl) (by (try clear h); subst_vars; rfl)) ?_
  conv => arg 1; cbv
  obtain rfl := Option.some.inj h
  subst_vars
  exact sat_pure rfl
set_option maxHeartbeats 4000000 in
theorem ok64 {Ω : Om} {E : Enc} (hΩ : real (call S) = Ω) (hE : theEnc = E) {fu : Nat} {a0 : Sl Cell} {r : (List Cell)} (h : P64 fu a0 = some r) {args : List PV} (ha : [PV.d (.sl (E.L_Cell a0.l) (E.X_Cell a0.x))] = args) {st : St} (hH : X.hasL st 0 = true) {n : Int} (hn : ln r = n) :
    Sat (Ω.cf 64 args st) (fun q => q = (PV.row 0 (X.numO st 0) n, X.addO st 0 (X.Obj.row 61 26 (E.L_Cell r) true none))) := by
  subst ha
  rcases a0 with ⟨a0_l, a0_x⟩
  rw [cf_body hΩ (f := 64) (fn := Try.f64) (x := c64) rfl rfl c64_ok rfl rfl]
  unfold P64 at h
  try dsimp only at h
  conv => arg 1; cbv
  refine sat_nil hΩ (ro_Cell hE) fun l1 hl2 => ?_
  conv => arg 1; cbv
  refine sat_in hΩ ?_
  conv => arg 1; cbv
  replace h := bif_cases h
  rcases h with ⟨hb3, h⟩ | ⟨hb3, h⟩
  · refine sat_brt (len_zero hΩ (ro_Cell hE) (l := a0_l) hb3 (by first | rfl | ((try clear h); subst_vars; rfl))) ?_
    conv => arg 1; cbv
    obtain ⟨ha16, hb17⟩ := agree_some h
    clear h
    refine sat_both hΩ ?_ ?_
    · clear hb17
      have h := ha16
      clear ha16
      conv => arg 1; cbv
      refine sat_nil hΩ (ro_Cell hE) fun l4 hl5 => ?_
      conv => arg 1; cbv
      refine sat_addfar' hΩ hH fun kk st2 hk2 hs2 => ?_
      conv => arg 1; cbv
      obtain rfl := Option.some.inj h
      subst_vars
      exact sat_pure rfl
    · clear ha16
      have h := hb17
      clear hb17
      conv => arg 1; cbv
      obtain ⟨q, hq15, hz⟩ := Option.bind_eq_some_iff.1 h
      clear h
      have h := hz
      clear hz
      refine sat_grp hΩ ((fun (q : (List Cell)) => (match q with | l14 => ([(0, PV.d (.sl (E.L_Cell a0_l) (E.X_Cell a0_x))), (2, PV.row 0 1 (ln l14))], ([X.Obj.row 61 26 (E.L_Cell l1) true none, X.Obj.row 61 26 (E.L_Cell l14) true none] : List X.Obj) :: st))) q) (fun k hk => ?_) ?_
      · clear h
        have h := hq15
        clear hq15
        conv => arg 1; cbv
        refine sat_nil hΩ (ro_Cell hE) fun l6 hl7 => ?_
        conv => arg 1; cbv
        refine sat_true (ieq_ok hΩ _) ?_
        conv => arg 1; cbv
        refine sat_true (fits_l hΩ (ro_Cell hE) a0_l (by first | rfl | ((try clear h); subst_vars; rfl))) ?_
        conv => arg 1; cbv
        refine sat_true (len_ok hΩ (ro_Cell hE) ([] : List Cell) (by first | rfl | ((try clear h); subst_vars; rfl) | ((try clear h); subst_vars; simp only [ln_set])) (by first | rfl | ((try clear h); subst_vars; rfl) | ((try clear h); subst_vars; simp only [ln_set]))) ?_
        conv => arg 1; cbv
        replace h := bif_cases h
        rcases h with ⟨hb8, h⟩ | ⟨hb8, h⟩
        · refine sat_brt (len_zero hΩ (ro_Cell hE) (l := a0_l) hb8 (by first | rfl | ((try clear h); subst_vars; rfl))) ?_
          conv => arg 1; cbv
          obtain rfl := Option.some.inj h
          subst_vars
          first | exact hk | (simp only [ln_set] at hk ⊢; exact hk)
        · refine sat_brf (len_zero hΩ (ro_Cell hE) (l := a0_l) hb8 (by first | rfl | ((try clear h); subst_vars; rfl))) ?_
          conv => arg 1; cbv
          refine sat_cat hΩ (ro_Cell hE) ([] : List Cell) a0_l (by first | rfl | ((try clear h); subst_vars; rfl)) (by first | rfl | ((try clear h); subst_vars; rfl)) fun l9 hl10 n11 hn12 => ?_
          conv => arg 1; cbv
          replace h := bif_some h
          obtain ⟨hb13, h⟩ := h
          refine sat_true (by first | exact hb13 | ((try clear h); subst_vars; first | exact hb13 | rfl)) ?_
          conv => arg 1; cbv
          obtain rfl := Option.some.inj h
          subst_vars
          first | exact hk | (simp only [ln_set] at hk ⊢; exact hk)
      · clear hq15
        obtain ⟨l14, hqq⟩ : ∃ x, x = q := ⟨_, rfl⟩
        subst hqq
        try dsimp only at h
        obtain ⟨ln_l14, hln_l14⟩ : ∃ n, ln l14 = n := ⟨_, rfl⟩
        simp only [hln_l14]
        conv => arg 1; cbv
        refine sat_addfar' hΩ hH fun kk st2 hk2 hs2 => ?_
        conv => arg 1; cbv
        obtain rfl := Option.some.inj h
        subst_vars
        exact sat_pure rfl
  · refine sat_brf (len_zero hΩ (ro_Cell hE) (l := a0_l) hb3 (by first | rfl | ((try clear h); subst_vars; rfl))) ?_
    conv => arg 1; cbv
    refine sat_in hΩ ?_
    conv => arg 1; cbv
    obtain ⟨q, hq27, hz⟩ := Option.bind_eq_some_iff.1 h
    clear h
    have h := hz
    clear hz
    refine sat_grp hΩ ((fun (q : (List Cell)) => (match q with | l26 => ([(0, PV.d (.sl (E.L_Cell a0_l) (E.X_Cell a0_x))), (2, PV.row 0 1 (ln l26))], ([X.Obj.row 61 26 (E.L_Cell l1) true none, X.Obj.row 61 26 (E.L_Cell l26) true none] : List X.Obj) :: st))) q) (fun k hk => ?_) ?_
    · clear h
      have h := hq27
      clear hq27
      conv => arg 1; cbv
      refine sat_nil hΩ (ro_Cell hE) fun l18 hl19 => ?_
      conv => arg 1; cbv
      refine sat_true (ieq_ok hΩ _) ?_
      conv => arg 1; cbv
      refine sat_true (fits_l hΩ (ro_Cell hE) a0_l (by first | rfl | ((try clear h); subst_vars; rfl))) ?_
      conv => arg 1; cbv
      refine sat_true (len_ok hΩ (ro_Cell hE) ([] : List Cell) (by first | rfl | ((try clear h); subst_vars; rfl) | ((try clear h); subst_vars; simp only [ln_set])) (by first | rfl | ((try clear h); subst_vars; rfl) | ((try clear h); subst_vars; simp only [ln_set]))) ?_
      conv => arg 1; cbv
      replace h := bif_cases h
      rcases h with ⟨hb20, h⟩ | ⟨hb20, h⟩
      · refine sat_brt (len_zero hΩ (ro_Cell hE) (l := a0_l) hb20 (by first | rfl | ((try clear h); subst_vars; rfl))) ?_
        conv => arg 1; cbv
        obtain rfl := Option.some.inj h
        subst_vars
        first | exact hk | (simp only [ln_set] at hk ⊢; exact hk)
      · refine sat_brf (len_zero hΩ (ro_Cell hE) (l := a0_l) hb20 (by first | rfl | ((try clear h); subst_vars; rfl))) ?_
        conv => arg 1; cbv
        refine sat_cat hΩ (ro_Cell hE) ([] : List Cell) a0_l (by first | rfl | ((try clear h); subst_vars; rfl)) (by first | rfl | ((try clear h); subst_vars; rfl)) fun l21 hl22 n23 hn24 => ?_
        conv => arg 1; cbv
        replace h := bif_some h
        obtain ⟨hb25, h⟩ := h
        refine sat_true (by first | exact hb25 | ((try clear h); subst_vars; first | exact hb25 | rfl)) ?_
        conv => arg 1; cbv
        obtain rfl := Option.some.inj h
        subst_vars
        first | exact hk | (simp only [ln_set] at hk ⊢; exact hk)
    · clear hq27
      obtain ⟨l26, hqq⟩ : ∃ x, x = q := ⟨_, rfl⟩
      subst hqq
      try dsimp only at h
      obtain ⟨ln_l26, hln_l26⟩ : ∃ n, ln l26 = n := ⟨_, rfl⟩
      simp only [hln_l26]
      conv => arg 1; cbv
      refine sat_addfar' hΩ hH fun kk st2 hk2 hs2 => ?_
      conv => arg 1; cbv
      obtain rfl := Option.some.inj h
      subst_vars
      exact sat_pure rfl
end Go.Proofs.Ytipkggkbldgmjaa
