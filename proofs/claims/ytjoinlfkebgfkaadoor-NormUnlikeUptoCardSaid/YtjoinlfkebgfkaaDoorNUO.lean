/- The interpreter computes just these functions: printed by a small program. -/
import Derived.Test.YtjoinlfkebgfkaaDoorNUO0
namespace Go.Proofs.YtjoinlfkebgfkaaDoor
open Go Go.X
set_option linter.unusedVariables false
set_option linter.unusedSimpArgs false
set_option maxRecDepth 100000
set_option maxHeartbeats 4000000 in
theorem ok9 {Ω : Om} {E : Enc} (hΩ : real (call S) = Ω) (hE : theEnc = E) {fu : Nat} {a0 : Sl Value} {r : (Sl Child)} (h : P9 fu a0 = some r) {args : List PV} (ha : [PV.d (.sl (E.L_Value a0.l) (E.X_Value a0.x))] = args) (st : St) :
    Sat (Ω.cf 9 args st) (fun q => q = (PV.d (.sl (E.L_Child r.l) (E.X_Child r.x)), st)) := by
  subst ha
  rcases a0 with ⟨a0_l, a0_x⟩
  rw [cf_body hΩ (f := 9) (fn := Tryd.f9) (x := c9) rfl rfl c9_ok rfl rfl rfl]
  unfold P9 at h
  try dsimp only at h
  conv => arg 1; cbv
  refine sat_nil hΩ (ro_Child hE) fun l1 hl2 => ?_
  conv => arg 1; cbv
  refine sat_empty hΩ (mo_str_bool hE) fun m3 hm4 => ?_
  conv => arg 1; cbv
  refine sat_call (ok14 hΩ hE (a0 := (Sl.mk a0_l a0_x)) (by (try clear h); subst_vars; rfl) _) ?_
  conv => arg 1; cbv
  replace h := Option.bind_eq_some_iff.1 h
  obtain ⟨⟨wr6, wr7, wr10⟩, hx5, h⟩ := h
  try dsimp only at h
  obtain ⟨n8, hn9⟩ : ∃ n, ln wr7 = n := ⟨_, rfl⟩
  refine sat_call (ok21x1 hΩ hE (S := (fun (s : (Option X.Ex) × Int × (List Child) × (List (ByteArray × Bool))) => ([X.Obj.row 34 11 (E.L_Child s.2.2.1) true none, X.Obj.box 26 [PV.row 0 0 s.2.1], X.Obj.map .str true (E.M_str_bool s.2.2.2), X.Obj.box 43 [.map 0 2], X.Obj.loop 70 [(2, PV.ptr 0 1 0), (3, PV.ptr 0 3 0)] s.1] : List X.Obj) :: st)) (lz0 := 0) (iz0 := 4) (iz1 := 1) (iz2 := 0) (iz3 := 3) (iz4 := 2) (c0 := none) (c2 := l1) (c4 := m3) (rn2 := 0) (by (try clear h); subst_vars; rfl) (by (try clear h); subst_vars; rfl) (by (try clear h); subst_vars; rfl) (by  first | rfl | ((try clear h); subst_vars; rfl) | ((try clear h); subst_vars; simp only [ln_set]) | assumption | ((try clear h); subst_vars; assumption)) (fun s => rfl) (fun s x => rfl) (fun s => rfl) (fun s x => rfl) (fun s => rfl) (fun s x => rfl) (fun s => rfl) (fun s => rfl) (fun s x => rfl) hx5 (by (try clear h); subst_vars; rfl) (by (try clear h); subst_vars; rfl) hn9) ?_
  conv => arg 1; cbv
  rcases wr6 with _ | (_ | id | _)
  · try dsimp only at h
    conv => arg 1; cbv
    refine sat_true (len_ok hΩ (ro_Child hE) wr7) ?_
    conv => arg 1; cbv
    obtain rfl := Option.some.inj h
    subst_vars
    exact sat_pure rfl
  · try dsimp only at h
    cases h
  ·
    rcases id with _ | id
    · try dsimp only at h
      conv => arg 1; cbv
      refine sat_true (len_ok hΩ (ro_Child hE) wr7) ?_
      conv => arg 1; cbv
      obtain rfl := Option.some.inj h
      subst_vars
      exact sat_pure rfl
    ·
      try dsimp only at h
      cases h
  · try dsimp only at h
    cases h
set_option maxHeartbeats 4000000 in
theorem ok3 {Ω : Om} {E : Enc} (hΩ : real (call S) = Ω) (hE : theEnc = E) {fu : Nat} {a0 : Sl Value} {r : Bool} (h : P3 fu a0 = some r) {args : List PV} (ha : [PV.d (.sl (E.L_Value a0.l) (E.X_Value a0.x))] = args) (st : St) :
    Sat (Ω.cf 3 args st) (fun q => q = (PV.d (.bool r), st)) := by
  subst ha
  rcases a0 with ⟨a0_l, a0_x⟩
  rw [cf_body hΩ (f := 3) (fn := Tryd.f3) (x := c3) rfl rfl c3_ok rfl rfl rfl]
  unfold P3 at h
  try dsimp only at h
  conv => arg 1; cbv
  replace h := Option.bind_eq_some_iff.1 h
  obtain ⟨q, hq71, h⟩ := h
  refine sat_grp hΩ ((fun (q : Bool) => (match q with | i8 => ([(0, PV.d (.sl (E.L_Value a0_l) (E.X_Value a0_x))), (2, PV.d (.bool false)), (14, PV.d (.bool i8))], ([] : List X.Obj) :: st))) q) (fun k hk => ?_) ?_
  · clear h
    have h := hq71
    clear hq71
    conv => arg 1; cbv
    replace h := Option.bind_eq_some_iff.1 h
    obtain ⟨r1, hx2, h⟩ := h
    refine sat_call (ok6 hΩ hE hx2 (by (try clear h); subst_vars; rfl) _) ?_
    conv => arg 1; cbv
    replace h := bif_cases h
    rcases h with ⟨hb3, h⟩ | ⟨hb3, h⟩
    · refine sat_brt (by first | exact hb3 | ((try clear h); subst_vars; first | exact hb3 | rfl)) ?_
      conv => arg 1; cbv
      replace h := Option.bind_eq_some_iff.1 h
      obtain ⟨r4, hx5, h⟩ := h
      refine sat_call (ok8 hΩ hE hx5 (by (try clear h); subst_vars; rfl) _) ?_
      conv => arg 1; cbv
      replace h := Option.bind_eq_some_iff.1 h
      obtain ⟨r6, hx7, h⟩ := h
      refine sat_call (ok7 hΩ hE hx7 (by (try clear h); subst_vars; rfl) _) ?_
      conv => arg 1; cbv
      obtain rfl := Option.some.inj h
      subst_vars
      first | exact hk | (simp only [ln_set] at hk ⊢; exact hk)
    · refine sat_brf (by first | exact hb3 | ((try clear h); subst_vars; first | exact hb3 | rfl)) ?_
      conv => arg 1; cbv
      obtain rfl := Option.some.inj h
      subst_vars
      first | exact hk | (simp only [ln_set] at hk ⊢; exact hk)
  · clear hq71
    obtain ⟨i8, hqq⟩ : ∃ x, x = q := ⟨_, rfl⟩
    subst hqq
    try dsimp only at h
    conv => arg 1; cbv
    refine sat_in hΩ ?_
    conv => arg 1; cbv
    replace h := bif_cases h
    rcases h with ⟨hb9, h⟩ | ⟨hb9, h⟩
    · refine sat_brt (by first | exact hb9 | ((try clear h); subst_vars; first | exact hb9 | rfl)) ?_
      conv => arg 1; cbv
      replace h := Option.bind_eq_some_iff.1 h
      obtain ⟨r10, hx11, h⟩ := h
      refine sat_call (ok6 hΩ hE hx11 (by (try clear h); subst_vars; rfl) _) ?_
      conv => arg 1; cbv
      obtain rfl := Option.some.inj h
      subst_vars
      exact sat_pure rfl
    · refine sat_brf (by first | exact hb9 | ((try clear h); subst_vars; first | exact hb9 | rfl)) ?_
      conv => arg 1; cbv
      replace h := Option.bind_eq_some_iff.1 h
      obtain ⟨⟨r12_l, r12_x⟩, hx13, h⟩ := h
      try dsimp only at h
      refine sat_call (ok9 hΩ hE hx13 (by (try clear h); subst_vars; rfl) _) ?_
      conv => arg 1; cbv
      refine sat_len hΩ (ro_Child hE) r12_l fun n14 hn15 => ?_
      conv => arg 1; cbv
      refine sat_in hΩ ?_
      conv => arg 1; cbv
      replace h := bif_cases h
      rcases h with ⟨hb16, h⟩ | ⟨hb16, h⟩
      · refine sat_brt (by first | exact hb16 | ((try clear h); subst_vars; first | exact hb16 | rfl)) ?_
        conv => arg 1; cbv
        obtain rfl := Option.some.inj h
        subst_vars
        exact sat_pure rfl
      · refine sat_brf (by first | exact hb16 | ((try clear h); subst_vars; first | exact hb16 | rfl)) ?_
        conv => arg 1; cbv
        replace h := Option.bind_eq_some_iff.1 h
        obtain ⟨q, hl68, h⟩ := h
        refine sat_loop hΩ (fun (a : Int) => (match a with | i17 => ([(0, PV.d (.sl (E.L_Value a0_l) (E.X_Value a0_x))), (2, PV.d (.bool false)), (3, PV.d (.sl (E.L_Child r12_l) (E.X_Child r12_x))), (4, PV.d (.int .i64 i17))], ([] : List X.Obj) :: st))) (fun (q : Int ⊕ Int) => (match q with | .inl o69 => (.exit 0, [(0, PV.d (.sl (E.L_Value a0_l) (E.X_Value a0_x))), (2, PV.d (.bool false)), (3, PV.d (.sl (E.L_Child r12_l) (E.X_Child r12_x))), (4, PV.d (.int .i64 o69))], ([] : List X.Obj) :: st) | .inr o70 => (.ret, [(0, PV.d (.sl (E.L_Value a0_l) (E.X_Value a0_x))), (2, PV.d (.bool false)), (3, PV.d (.sl (E.L_Child r12_l) (E.X_Child r12_x))), (4, PV.d (.int .i64 o70))], ([] : List X.Obj) :: st))) 0 hl68 ?_ ?_
        · clear h hl68
          rintro i17 q h
          unfold P3_s0 at h
          dsimp only at h
          conv => arg 1; cbv
          refine sat_len hΩ (ro_Child hE) r12_l fun n18 hn19 => ?_
          conv => arg 1; cbv
          refine sat_in hΩ ?_
          conv => arg 1; cbv
          replace h := bif_cases h
          rcases h with ⟨hb20, h⟩ | ⟨hb20, h⟩
          · refine sat_brt (by first | exact hb20 | ((try clear h); subst_vars; first | exact hb20 | rfl)) ?_
            conv => arg 1; cbv
            refine sat_true (fits_l hΩ (ro_Child hE) r12_l) ?_
            conv => arg 1; cbv
            replace h := Option.bind_eq_some_iff.1 h
            obtain ⟨⟨x21_a, x21_b, x21_c, ⟨x21_da, x21_db, x21_dc, ⟨x21_ddl, x21_ddx⟩, ⟨x21_del, x21_dex⟩, x21_df, x21_dg, x21_dh⟩⟩, hx22, h⟩ := h
            try dsimp only at h
            refine sat_bind (nth_ok hΩ (ro_Child hE) hx22) ?_
            conv => arg 1; cbv
            replace h := Option.bind_eq_some_iff.1 h
            obtain ⟨q, hq67, h⟩ := h
            refine sat_grp hΩ ((fun (q : Bool) => (match q with | i54 => ([(0, PV.d (.sl (E.L_Value a0_l) (E.X_Value a0_x))), (2, PV.d (.bool false)), (3, PV.d (.sl (E.L_Child r12_l) (E.X_Child r12_x))), (4, PV.d (.int .i64 i17)), (5, PV.d (.str x21_a)), (76, PV.d (.bool i54))], ([] : List X.Obj) :: st))) q) (fun k hk => ?_) ?_
            · clear h
              have h := hq67
              clear hq67
              conv => arg 1; cbv
              replace h := bif_cases h
              rcases h with ⟨hb23, h⟩ | ⟨hb23, h⟩
              · refine sat_brt (by first | exact hb23 | ((try clear h); subst_vars; first | exact hb23 | rfl)) ?_
                conv => arg 1; cbv
                replace h := bif_some h
                obtain ⟨hb24, h⟩ := h
                refine sat_true (by first | exact hb24 | ((try clear h); subst_vars; first | exact hb24 | rfl)) ?_
                conv => arg 1; cbv
                replace h := bif_some h
                obtain ⟨hb25, h⟩ := h
                refine sat_true (by first | exact hb25 | ((try clear h); subst_vars; first | exact hb25 | rfl)) ?_
                conv => arg 1; cbv
                replace h := bif_some h
                obtain ⟨hb26, h⟩ := h
                refine sat_true (by first | exact hb26 | ((try clear h); subst_vars; first | exact hb26 | rfl)) ?_
                conv => arg 1; cbv
                replace h := bif_cases h
                rcases h with ⟨hb27, h⟩ | ⟨hb27, h⟩
                · refine sat_brt (by first | exact hb27 | ((try clear h); subst_vars; first | exact hb27 | rfl)) ?_
                  conv => arg 1; cbv
                  replace h := bif_some h
                  obtain ⟨hb28, h⟩ := h
                  refine sat_true (by first | exact hb28 | ((try clear h); subst_vars; first | exact hb28 | rfl)) ?_
                  conv => arg 1; cbv
                  replace h := bif_some h
                  obtain ⟨hb29, h⟩ := h
                  refine sat_true (by first | exact hb29 | ((try clear h); subst_vars; first | exact hb29 | rfl)) ?_
                  conv => arg 1; cbv
                  replace h := bif_some h
                  obtain ⟨hb30, h⟩ := h
                  refine sat_true (by first | exact hb30 | ((try clear h); subst_vars; first | exact hb30 | rfl)) ?_
                  conv => arg 1; cbv
                  refine sat_tick hΩ ?_
                  conv => arg 1; cbv
                  replace h := bif_cases h
                  rcases h with ⟨hb31, h⟩ | ⟨hb31, h⟩
                  · refine sat_brt (by first | exact hb31 | ((try clear h); subst_vars; first | exact hb31 | rfl)) ?_
                    conv => arg 1; cbv
                    refine sat_true (fits_l hΩ (ro_Child hE) r12_l) ?_
                    conv => arg 1; cbv
                    replace h := Option.bind_eq_some_iff.1 h
                    obtain ⟨⟨x32_a, x32_b, x32_c, ⟨x32_da, x32_db, x32_dc, ⟨x32_ddl, x32_ddx⟩, ⟨x32_del, x32_dex⟩, x32_df, x32_dg, x32_dh⟩⟩, hx33, h⟩ := h
                    try dsimp only at h
                    refine sat_bind (nth_ok hΩ (ro_Child hE) hx33) ?_
                    conv => arg 1; cbv
                    replace h := bif_cases h
                    rcases h with ⟨hb34, h⟩ | ⟨hb34, h⟩
                    · refine sat_brt (by first | exact hb34 | ((try clear h); subst_vars; first | exact hb34 | rfl)) ?_
                      conv => arg 1; cbv
                      refine sat_tick hΩ ?_
                      conv => arg 1; cbv
                      refine sat_true (fits_l hΩ (ro_Child hE) r12_l) ?_
                      conv => arg 1; cbv
                      replace h := Option.bind_eq_some_iff.1 h
                      obtain ⟨⟨x35_a, x35_b, x35_c, ⟨x35_da, x35_db, x35_dc, ⟨x35_ddl, x35_ddx⟩, ⟨x35_del, x35_dex⟩, x35_df, x35_dg, x35_dh⟩⟩, hx36, h⟩ := h
                      try dsimp only at h
                      refine sat_bind (nth_ok hΩ (ro_Child hE) hx36) ?_
                      conv => arg 1; cbv
                      replace h := bif_cases h
                      rcases h with ⟨hb37, h⟩ | ⟨hb37, h⟩
                      · refine sat_brt (by first | exact hb37 | ((try clear h); subst_vars; first | exact hb37 | rfl)) ?_
                        conv => arg 1; cbv
                        refine sat_true (fits_l hΩ (ro_Child hE) r12_l) ?_
                        conv => arg 1; cbv
                        replace h := Option.bind_eq_some_iff.1 h
                        obtain ⟨⟨x38_a, x38_b, x38_c, ⟨x38_da, x38_db, x38_dc, ⟨x38_ddl, x38_ddx⟩, ⟨x38_del, x38_dex⟩, x38_df, x38_dg, x38_dh⟩⟩, hx39, h⟩ := h
                        try dsimp only at h
                        refine sat_bind (nth_ok hΩ (ro_Child hE) hx39) ?_
                        conv => arg 1; cbv
                        refine sat_tick hΩ ?_
                        conv => arg 1; cbv
                        replace h := bif_cases h
                        rcases h with ⟨hb40, h⟩ | ⟨hb40, h⟩
                        · refine sat_brt (by first | exact hb40 | ((try clear h); subst_vars; first | exact hb40 | rfl)) ?_
                          conv => arg 1; cbv
                          refine sat_true (fits_l hΩ (ro_Child hE) r12_l) ?_
                          conv => arg 1; cbv
                          replace h := Option.bind_eq_some_iff.1 h
                          obtain ⟨⟨x41_a, x41_b, x41_c, ⟨x41_da, x41_db, x41_dc, ⟨x41_ddl, x41_ddx⟩, ⟨x41_del, x41_dex⟩, x41_df, x41_dg, x41_dh⟩⟩, hx42, h⟩ := h
                          try dsimp only at h
                          refine sat_bind (nth_ok hΩ (ro_Child hE) hx42) ?_
                          conv => arg 1; cbv
                          obtain rfl := Option.some.inj h
                          subst_vars
                          first | exact hk | (simp only [ln_set] at hk ⊢; exact hk)
                        · refine sat_brf (by first | exact hb40 | ((try clear h); subst_vars; first | exact hb40 | rfl)) ?_
                          conv => arg 1; cbv
                          obtain rfl := Option.some.inj h
                          subst_vars
                          first | exact hk | (simp only [ln_set] at hk ⊢; exact hk)
                      · refine sat_brf (by first | exact hb37 | ((try clear h); subst_vars; first | exact hb37 | rfl)) ?_
                        conv => arg 1; cbv
                        refine sat_tick hΩ ?_
                        conv => arg 1; cbv
                        obtain rfl := Option.some.inj h
                        subst_vars
                        first | exact hk | (simp only [ln_set] at hk ⊢; exact hk)
                    · refine sat_brf (by first | exact hb34 | ((try clear h); subst_vars; first | exact hb34 | rfl)) ?_
                      conv => arg 1; cbv
                      refine sat_tick hΩ ?_
                      conv => arg 1; cbv
                      refine sat_tick hΩ ?_
                      conv => arg 1; cbv
                      obtain rfl := Option.some.inj h
                      subst_vars
                      first | exact hk | (simp only [ln_set] at hk ⊢; exact hk)
                  · refine sat_brf (by first | exact hb31 | ((try clear h); subst_vars; first | exact hb31 | rfl)) ?_
                    conv => arg 1; cbv
                    refine sat_tick hΩ ?_
                    conv => arg 1; cbv
                    refine sat_tick hΩ ?_
                    conv => arg 1; cbv
                    obtain rfl := Option.some.inj h
                    subst_vars
                    first | exact hk | (simp only [ln_set] at hk ⊢; exact hk)
                · refine sat_brf (by first | exact hb27 | ((try clear h); subst_vars; first | exact hb27 | rfl)) ?_
                  conv => arg 1; cbv
                  refine sat_tick hΩ ?_
                  conv => arg 1; cbv
                  refine sat_true (fits_l hΩ (ro_Child hE) r12_l) ?_
                  conv => arg 1; cbv
                  replace h := Option.bind_eq_some_iff.1 h
                  obtain ⟨⟨x43_a, x43_b, x43_c, ⟨x43_da, x43_db, x43_dc, ⟨x43_ddl, x43_ddx⟩, ⟨x43_del, x43_dex⟩, x43_df, x43_dg, x43_dh⟩⟩, hx44, h⟩ := h
                  try dsimp only at h
                  refine sat_bind (nth_ok hΩ (ro_Child hE) hx44) ?_
                  conv => arg 1; cbv
                  replace h := bif_cases h
                  rcases h with ⟨hb45, h⟩ | ⟨hb45, h⟩
                  · refine sat_brt (by first | exact hb45 | ((try clear h); subst_vars; first | exact hb45 | rfl)) ?_
                    conv => arg 1; cbv
                    refine sat_tick hΩ ?_
                    conv => arg 1; cbv
                    refine sat_true (fits_l hΩ (ro_Child hE) r12_l) ?_
                    conv => arg 1; cbv
                    replace h := Option.bind_eq_some_iff.1 h
                    obtain ⟨⟨x46_a, x46_b, x46_c, ⟨x46_da, x46_db, x46_dc, ⟨x46_ddl, x46_ddx⟩, ⟨x46_del, x46_dex⟩, x46_df, x46_dg, x46_dh⟩⟩, hx47, h⟩ := h
                    try dsimp only at h
                    refine sat_bind (nth_ok hΩ (ro_Child hE) hx47) ?_
                    conv => arg 1; cbv
                    replace h := bif_cases h
                    rcases h with ⟨hb48, h⟩ | ⟨hb48, h⟩
                    · refine sat_brt (by first | exact hb48 | ((try clear h); subst_vars; first | exact hb48 | rfl)) ?_
                      conv => arg 1; cbv
                      refine sat_true (fits_l hΩ (ro_Child hE) r12_l) ?_
                      conv => arg 1; cbv
                      replace h := Option.bind_eq_some_iff.1 h
                      obtain ⟨⟨x49_a, x49_b, x49_c, ⟨x49_da, x49_db, x49_dc, ⟨x49_ddl, x49_ddx⟩, ⟨x49_del, x49_dex⟩, x49_df, x49_dg, x49_dh⟩⟩, hx50, h⟩ := h
                      try dsimp only at h
                      refine sat_bind (nth_ok hΩ (ro_Child hE) hx50) ?_
                      conv => arg 1; cbv
                      refine sat_tick hΩ ?_
                      conv => arg 1; cbv
                      replace h := bif_cases h
                      rcases h with ⟨hb51, h⟩ | ⟨hb51, h⟩
                      · refine sat_brt (by first | exact hb51 | ((try clear h); subst_vars; first | exact hb51 | rfl)) ?_
                        conv => arg 1; cbv
                        refine sat_true (fits_l hΩ (ro_Child hE) r12_l) ?_
                        conv => arg 1; cbv
                        replace h := Option.bind_eq_some_iff.1 h
                        obtain ⟨⟨x52_a, x52_b, x52_c, ⟨x52_da, x52_db, x52_dc, ⟨x52_ddl, x52_ddx⟩, ⟨x52_del, x52_dex⟩, x52_df, x52_dg, x52_dh⟩⟩, hx53, h⟩ := h
                        try dsimp only at h
                        refine sat_bind (nth_ok hΩ (ro_Child hE) hx53) ?_
                        conv => arg 1; cbv
                        obtain rfl := Option.some.inj h
                        subst_vars
                        first | exact hk | (simp only [ln_set] at hk ⊢; exact hk)
                      · refine sat_brf (by first | exact hb51 | ((try clear h); subst_vars; first | exact hb51 | rfl)) ?_
                        conv => arg 1; cbv
                        obtain rfl := Option.some.inj h
                        subst_vars
                        first | exact hk | (simp only [ln_set] at hk ⊢; exact hk)
                    · refine sat_brf (by first | exact hb48 | ((try clear h); subst_vars; first | exact hb48 | rfl)) ?_
                      conv => arg 1; cbv
                      refine sat_tick hΩ ?_
                      conv => arg 1; cbv
                      obtain rfl := Option.some.inj h
                      subst_vars
                      first | exact hk | (simp only [ln_set] at hk ⊢; exact hk)
                  · refine sat_brf (by first | exact hb45 | ((try clear h); subst_vars; first | exact hb45 | rfl)) ?_
                    conv => arg 1; cbv
                    refine sat_tick hΩ ?_
                    conv => arg 1; cbv
                    refine sat_tick hΩ ?_
                    conv => arg 1; cbv
                    obtain rfl := Option.some.inj h
                    subst_vars
                    first | exact hk | (simp only [ln_set] at hk ⊢; exact hk)
              · refine sat_brf (by first | exact hb23 | ((try clear h); subst_vars; first | exact hb23 | rfl)) ?_
                conv => arg 1; cbv
                refine sat_tick hΩ ?_
                conv => arg 1; cbv
                refine sat_tick hΩ ?_
                conv => arg 1; cbv
                refine sat_tick hΩ ?_
                conv => arg 1; cbv
                obtain rfl := Option.some.inj h
                subst_vars
                first | exact hk | (simp only [ln_set] at hk ⊢; exact hk)
            · clear hq67
              obtain ⟨i54, hqq⟩ : ∃ x, x = q := ⟨_, rfl⟩
              subst hqq
              try dsimp only at h
              conv => arg 1; cbv
              refine sat_in hΩ ?_
              conv => arg 1; cbv
              replace h := bif_cases h
              rcases h with ⟨hb55, h⟩ | ⟨hb55, h⟩
              · refine sat_brt (by first | exact hb55 | ((try clear h); subst_vars; first | exact hb55 | rfl)) ?_
                conv => arg 1; cbv
                obtain rfl := Option.some.inj h
                subst_vars
                first | exact sat_pure (.inr ⟨rfl, rfl⟩) | (refine sat_pure (.inr ⟨rfl, ?_⟩); dsimp only; simp only [ln_set]; rfl)
              · refine sat_brf (by first | exact hb55 | ((try clear h); subst_vars; first | exact hb55 | rfl)) ?_
                conv => arg 1; cbv
                replace h := Option.bind_eq_some_iff.1 h
                obtain ⟨q, hl64, h⟩ := h
                refine sat_loop hΩ (fun (a : Int) => (match a with | i56 => ([(0, PV.d (.sl (E.L_Value a0_l) (E.X_Value a0_x))), (2, PV.d (.bool false)), (3, PV.d (.sl (E.L_Child r12_l) (E.X_Child r12_x))), (4, PV.d (.int .i64 i17)), (5, PV.d (.str x21_a)), (6, PV.d (.int .i64 i56))], ([] : List X.Obj) :: st))) (fun (q : Int ⊕ Int) => (match q with | .inl o65 => (.exit 2, [(0, PV.d (.sl (E.L_Value a0_l) (E.X_Value a0_x))), (2, PV.d (.bool false)), (3, PV.d (.sl (E.L_Child r12_l) (E.X_Child r12_x))), (4, PV.d (.int .i64 i17)), (5, PV.d (.str x21_a)), (6, PV.d (.int .i64 o65))], ([] : List X.Obj) :: st) | .inr o66 => (.ret, [(0, PV.d (.sl (E.L_Value a0_l) (E.X_Value a0_x))), (2, PV.d (.bool false)), (3, PV.d (.sl (E.L_Child r12_l) (E.X_Child r12_x))), (4, PV.d (.int .i64 i17)), (5, PV.d (.str x21_a)), (6, PV.d (.int .i64 o66))], ([] : List X.Obj) :: st))) 0 hl64 ?_ ?_
                · clear h hl64
                  rintro i56 q h
                  unfold P3_s1 at h
                  dsimp only at h
                  conv => arg 1; cbv
                  replace h := Option.bind_eq_some_iff.1 h
                  obtain ⟨q, hq63, h⟩ := h
                  refine sat_grp hΩ ((fun (q : Bool) => (match q with | i58 => ([(0, PV.d (.sl (E.L_Value a0_l) (E.X_Value a0_x))), (2, PV.d (.bool false)), (3, PV.d (.sl (E.L_Child r12_l) (E.X_Child r12_x))), (4, PV.d (.int .i64 i17)), (5, PV.d (.str x21_a)), (6, PV.d (.int .i64 i56)), (83, PV.d (.bool i58))], ([] : List X.Obj) :: st))) q) (fun k hk => ?_) ?_
                  · clear h
                    have h := hq63
                    clear hq63
                    conv => arg 1; cbv
                    replace h := bif_cases h
                    rcases h with ⟨hb57, h⟩ | ⟨hb57, h⟩
                    · refine sat_brt (by first | exact hb57 | ((try clear h); subst_vars; first | exact hb57 | rfl)) ?_
                      conv => arg 1; cbv
                      obtain rfl := Option.some.inj h
                      subst_vars
                      first | exact hk | (simp only [ln_set] at hk ⊢; exact hk)
                    · refine sat_brf (by first | exact hb57 | ((try clear h); subst_vars; first | exact hb57 | rfl)) ?_
                      conv => arg 1; cbv
                      obtain rfl := Option.some.inj h
                      subst_vars
                      first | exact hk | (simp only [ln_set] at hk ⊢; exact hk)
                  · clear hq63
                    obtain ⟨i58, hqq⟩ : ∃ x, x = q := ⟨_, rfl⟩
                    subst hqq
                    try dsimp only at h
                    conv => arg 1; cbv
                    refine sat_in hΩ ?_
                    conv => arg 1; cbv
                    replace h := bif_cases h
                    rcases h with ⟨hb59, h⟩ | ⟨hb59, h⟩
                    · refine sat_brt (by first | exact hb59 | ((try clear h); subst_vars; first | exact hb59 | rfl)) ?_
                      conv => arg 1; cbv
                      refine sat_true (fits_l hΩ (ro_Child hE) r12_l) ?_
                      conv => arg 1; cbv
                      replace h := Option.bind_eq_some_iff.1 h
                      obtain ⟨⟨x60_a, x60_b, x60_c, ⟨x60_da, x60_db, x60_dc, ⟨x60_ddl, x60_ddx⟩, ⟨x60_del, x60_dex⟩, x60_df, x60_dg, x60_dh⟩⟩, hx61, h⟩ := h
                      try dsimp only at h
                      refine sat_bind (nth_ok hΩ (ro_Child hE) hx61) ?_
                      conv => arg 1; cbv
                      refine sat_in hΩ ?_
                      conv => arg 1; cbv
                      replace h := bif_cases h
                      rcases h with ⟨hb62, h⟩ | ⟨hb62, h⟩
                      · refine sat_brt (by first | exact hb62 | ((try clear h); subst_vars; first | exact hb62 | rfl)) ?_
                        conv => arg 1; cbv
                        obtain rfl := Option.some.inj h
                        subst_vars
                        first | exact sat_pure (.inr ⟨rfl, rfl⟩) | (refine sat_pure (.inr ⟨rfl, ?_⟩); dsimp only; simp only [ln_set]; rfl)
                      · refine sat_brf (by first | exact hb62 | ((try clear h); subst_vars; first | exact hb62 | rfl)) ?_
                        conv => arg 1; cbv
                        obtain rfl := Option.some.inj h
                        subst_vars
                        first | exact sat_pure ⟨rfl, rfl, rfl⟩ | (refine sat_pure ⟨rfl, ?_, ?_⟩ <;> first | rfl | (dsimp only; simp only [ln_set]; rfl))
                    · refine sat_brf (by first | exact hb59 | ((try clear h); subst_vars; first | exact hb59 | rfl)) ?_
                      conv => arg 1; cbv
                      obtain rfl := Option.some.inj h
                      subst_vars
                      first | exact sat_pure (.inl ⟨⟨_, rfl⟩, rfl⟩) | (refine sat_pure (.inl ⟨⟨_, rfl⟩, ?_⟩); dsimp only; simp only [ln_set]; rfl)
                · clear hl64
                  rcases q with o65 | o66
                  · dsimp only at h
                    conv => arg 1; cbv
                    obtain rfl := Option.some.inj h
                    subst_vars
                    first | exact sat_pure ⟨rfl, rfl, rfl⟩ | (refine sat_pure ⟨rfl, ?_, ?_⟩ <;> first | rfl | (dsimp only; simp only [ln_set]; rfl))
                  · dsimp only at h
                    conv => arg 1; cbv
                    obtain rfl := Option.some.inj h
                    subst_vars
                    first | exact sat_pure (.inr ⟨rfl, rfl⟩) | (refine sat_pure (.inr ⟨rfl, ?_⟩); dsimp only; simp only [ln_set]; rfl)
          · refine sat_brf (by first | exact hb20 | ((try clear h); subst_vars; first | exact hb20 | rfl)) ?_
            conv => arg 1; cbv
            obtain rfl := Option.some.inj h
            subst_vars
            first | exact sat_pure (.inl ⟨⟨_, rfl⟩, rfl⟩) | (refine sat_pure (.inl ⟨⟨_, rfl⟩, ?_⟩); dsimp only; simp only [ln_set]; rfl)
        · clear hl68
          rcases q with o69 | o70
          · dsimp only at h
            conv => arg 1; cbv
            obtain rfl := Option.some.inj h
            subst_vars
            exact sat_pure rfl
          · dsimp only at h
            conv => arg 1; cbv
            obtain rfl := Option.some.inj h
            subst_vars
            exact sat_pure rfl
set_option maxHeartbeats 4000000 in
theorem okb27 {Ω : Om} {E : Enc} (hΩ : real (call S) = Ω) (hE : theEnc = E) {fu : Nat} {p27 : Value → Value → Option (Bool)} (hp27 : ∀ {a0 : Value} {a1 : Value} {r : Bool}, p27 a0 a1 = some r → ∀ {args : List PV}, [pv_Value E a0, pv_Value E a1] = args → ∀ (st : St), Sat (Ω.cf 27 args st) (fun q => q = (PV.d (.bool r), st))) {p36 : (Sl Value) → (Sl Value) → Option (Bool)} (hp36 : ∀ {a0 : Sl Value} {a1 : Sl Value} {r : Bool}, p36 a0 a1 = some r → ∀ {args : List PV}, [PV.d (.sl (E.L_Value a0.l) (E.X_Value a0.x)), PV.d (.sl (E.L_Value a1.l) (E.X_Value a1.x))] = args → ∀ (st : St), Sat (Ω.cf 36 args st) (fun q => q = (PV.d (.bool r), st))) {p37 : (Sl Field) → (Sl Field) → Option (Bool)} (hp37 : ∀ {a0 : Sl Field} {a1 : Sl Field} {r : Bool}, p37 a0 a1 = some r → ∀ {args : List PV}, [PV.d (.sl (E.L_Field a0.l) (E.X_Field a0.x)), PV.d (.sl (E.L_Field a1.l) (E.X_Field a1.x))] = args → ∀ (st : St), Sat (Ω.cf 37 args st) (fun q => q = (PV.d (.bool r), st))) {p45 : Field → Field → Option (Bool)} (hp45 : ∀ {a0 : Field} {a1 : Field} {r : Bool}, p45 a0 a1 = some r → ∀ {args : List PV}, [pv_Field E a0, pv_Field E a1] = args → ∀ (st : St), Sat (Ω.cf 45 args st) (fun q => q = (PV.d (.bool r), st))) {a0 : Value} {a1 : Value} {r : Bool} (h : Pb27 fu p27 p36 p37 p45 a0 a1 = some r) {args : List PV} (ha : [pv_Value E a0, pv_Value E a1] = args) (st : St) :
    Sat (Ω.cf 27 args st) (fun q => q = (PV.d (.bool r), st)) := by
  subst ha
  rcases a0 with ⟨a0_a, a0_b, a0_c, ⟨a0_dl, a0_dx⟩, ⟨a0_el, a0_ex⟩, a0_f, a0_g, a0_h⟩
  rcases a1 with ⟨a1_a, a1_b, a1_c, ⟨a1_dl, a1_dx⟩, ⟨a1_el, a1_ex⟩, a1_f, a1_g, a1_h⟩
  rw [cf_body hΩ (f := 27) (fn := Tryd.f27) (x := c27) rfl rfl c27_ok rfl rfl rfl]
  unfold Pb27 at h
  try dsimp only at h
  conv => arg 1; cbv
  replace h := Option.bind_eq_some_iff.1 h
  obtain ⟨q, hq13, h⟩ := h
  refine sat_grp hΩ ((fun (q : Bool) => (match q with | i12 => ([(0, PV.agg [.d (.int .u8 a0_a), .d (.int .i64 a0_b), .d (.str a0_c), .d (.sl (E.L_Value a0_dl) (E.X_Value a0_dx)), .d (.sl (E.L_Field a0_el) (E.X_Field a0_ex)), .d (.int .u8 a0_f), .d (.str a0_g), .d (.bool a0_h)]), (1, PV.agg [.d (.int .u8 a1_a), .d (.int .i64 a1_b), .d (.str a1_c), .d (.sl (E.L_Value a1_dl) (E.X_Value a1_dx)), .d (.sl (E.L_Field a1_el) (E.X_Field a1_ex)), .d (.int .u8 a1_f), .d (.str a1_g), .d (.bool a1_h)]), (2, PV.eptr [.int .u8 a0_a, .int .i64 a0_b, .str a0_c, .sl (E.L_Value a0_dl) (E.X_Value a0_dx), .sl (E.L_Field a0_el) (E.X_Field a0_ex), .int .u8 a0_f, .str a0_g, .bool a0_h]), (3, PV.eptr [.int .u8 a1_a, .int .i64 a1_b, .str a1_c, .sl (E.L_Value a1_dl) (E.X_Value a1_dx), .sl (E.L_Field a1_el) (E.X_Field a1_ex), .int .u8 a1_f, .str a1_g, .bool a1_h]), (4, PV.d (.bool i12))], ([] : List X.Obj) :: st))) q) (fun k hk => ?_) ?_
  · clear h
    have h := hq13
    clear hq13
    conv => arg 1; cbv
    replace h := bif_cases h
    rcases h with ⟨hb1, h⟩ | ⟨hb1, h⟩
    · refine sat_brt (by first | exact hb1 | ((try clear h); subst_vars; first | exact hb1 | rfl)) ?_
      conv => arg 1; cbv
      refine sat_tick hΩ ?_
      conv => arg 1; cbv
      replace h := bif_cases h
      rcases h with ⟨hb2, h⟩ | ⟨hb2, h⟩
      · refine sat_brt (by first | exact hb2 | ((try clear h); subst_vars; first | exact hb2 | rfl)) ?_
        conv => arg 1; cbv
        replace h := bif_cases h
        rcases h with ⟨hb3, h⟩ | ⟨hb3, h⟩
        · refine sat_brt (by first | exact hb3 | ((try clear h); subst_vars; first | exact hb3 | rfl)) ?_
          conv => arg 1; cbv
          refine sat_tick hΩ ?_
          conv => arg 1; cbv
          replace h := Option.bind_eq_some_iff.1 h
          obtain ⟨r4, hx5, h⟩ := h
          refine sat_call (hp36 hx5 (by (try clear h); subst_vars; rfl) _) ?_
          conv => arg 1; cbv
          replace h := bif_cases h
          rcases h with ⟨hb6, h⟩ | ⟨hb6, h⟩
          · refine sat_brt (by first | exact hb6 | ((try clear h); subst_vars; first | exact hb6 | rfl)) ?_
            conv => arg 1; cbv
            replace h := Option.bind_eq_some_iff.1 h
            obtain ⟨r7, hx8, h⟩ := h
            refine sat_call (hp37 hx8 (by (try clear h); subst_vars; rfl) _) ?_
            conv => arg 1; cbv
            replace h := bif_cases h
            rcases h with ⟨hb9, h⟩ | ⟨hb9, h⟩
            · refine sat_brt (by first | exact hb9 | ((try clear h); subst_vars; first | exact hb9 | rfl)) ?_
              conv => arg 1; cbv
              refine sat_tick hΩ ?_
              conv => arg 1; cbv
              replace h := bif_cases h
              rcases h with ⟨hb10, h⟩ | ⟨hb10, h⟩
              · refine sat_brt (by first | exact hb10 | ((try clear h); subst_vars; first | exact hb10 | rfl)) ?_
                conv => arg 1; cbv
                refine sat_tick hΩ ?_
                conv => arg 1; cbv
                replace h := bif_cases h
                rcases h with ⟨hb11, h⟩ | ⟨hb11, h⟩
                · refine sat_brt (by first | exact hb11 | ((try clear h); subst_vars; first | exact hb11 | rfl)) ?_
                  conv => arg 1; cbv
                  obtain rfl := Option.some.inj h
                  subst_vars
                  first | exact hk | (simp only [ln_set] at hk ⊢; exact hk)
                · refine sat_brf (by first | exact hb11 | ((try clear h); subst_vars; first | exact hb11 | rfl)) ?_
                  conv => arg 1; cbv
                  obtain rfl := Option.some.inj h
                  subst_vars
                  first | exact hk | (simp only [ln_set] at hk ⊢; exact hk)
              · refine sat_brf (by first | exact hb10 | ((try clear h); subst_vars; first | exact hb10 | rfl)) ?_
                conv => arg 1; cbv
                refine sat_tick hΩ ?_
                conv => arg 1; cbv
                obtain rfl := Option.some.inj h
                subst_vars
                first | exact hk | (simp only [ln_set] at hk ⊢; exact hk)
            · refine sat_brf (by first | exact hb9 | ((try clear h); subst_vars; first | exact hb9 | rfl)) ?_
              conv => arg 1; cbv
              refine sat_tick hΩ ?_
              conv => arg 1; cbv
              refine sat_tick hΩ ?_
              conv => arg 1; cbv
              obtain rfl := Option.some.inj h
              subst_vars
              first | exact hk | (simp only [ln_set] at hk ⊢; exact hk)
          · refine sat_brf (by first | exact hb6 | ((try clear h); subst_vars; first | exact hb6 | rfl)) ?_
            conv => arg 1; cbv
            refine sat_tick hΩ ?_
            conv => arg 1; cbv
            refine sat_tick hΩ ?_
            conv => arg 1; cbv
            obtain rfl := Option.some.inj h
            subst_vars
            first | exact hk | (simp only [ln_set] at hk ⊢; exact hk)
        · refine sat_brf (by first | exact hb3 | ((try clear h); subst_vars; first | exact hb3 | rfl)) ?_
          conv => arg 1; cbv
          refine sat_tick hΩ ?_
          conv => arg 1; cbv
          refine sat_tick hΩ ?_
          conv => arg 1; cbv
          refine sat_tick hΩ ?_
          conv => arg 1; cbv
          obtain rfl := Option.some.inj h
          subst_vars
          first | exact hk | (simp only [ln_set] at hk ⊢; exact hk)
      · refine sat_brf (by first | exact hb2 | ((try clear h); subst_vars; first | exact hb2 | rfl)) ?_
        conv => arg 1; cbv
        refine sat_tick hΩ ?_
        conv => arg 1; cbv
        refine sat_tick hΩ ?_
        conv => arg 1; cbv
        refine sat_tick hΩ ?_
        conv => arg 1; cbv
        obtain rfl := Option.some.inj h
        subst_vars
        first | exact hk | (simp only [ln_set] at hk ⊢; exact hk)
    · refine sat_brf (by first | exact hb1 | ((try clear h); subst_vars; first | exact hb1 | rfl)) ?_
      conv => arg 1; cbv
      refine sat_tick hΩ ?_
      conv => arg 1; cbv
      refine sat_tick hΩ ?_
      conv => arg 1; cbv
      refine sat_tick hΩ ?_
      conv => arg 1; cbv
      refine sat_tick hΩ ?_
      conv => arg 1; cbv
      obtain rfl := Option.some.inj h
      subst_vars
      first | exact hk | (simp only [ln_set] at hk ⊢; exact hk)
  · clear hq13
    obtain ⟨i12, hqq⟩ : ∃ x, x = q := ⟨_, rfl⟩
    subst hqq
    try dsimp only at h
    conv => arg 1; cbv
    obtain rfl := Option.some.inj h
    subst_vars
    exact sat_pure rfl
set_option maxHeartbeats 4000000 in
theorem okb36 {Ω : Om} {E : Enc} (hΩ : real (call S) = Ω) (hE : theEnc = E) {fu : Nat} {p27 : Value → Value → Option (Bool)} (hp27 : ∀ {a0 : Value} {a1 : Value} {r : Bool}, p27 a0 a1 = some r → ∀ {args : List PV}, [pv_Value E a0, pv_Value E a1] = args → ∀ (st : St), Sat (Ω.cf 27 args st) (fun q => q = (PV.d (.bool r), st))) {p36 : (Sl Value) → (Sl Value) → Option (Bool)} (hp36 : ∀ {a0 : Sl Value} {a1 : Sl Value} {r : Bool}, p36 a0 a1 = some r → ∀ {args : List PV}, [PV.d (.sl (E.L_Value a0.l) (E.X_Value a0.x)), PV.d (.sl (E.L_Value a1.l) (E.X_Value a1.x))] = args → ∀ (st : St), Sat (Ω.cf 36 args st) (fun q => q = (PV.d (.bool r), st))) {p37 : (Sl Field) → (Sl Field) → Option (Bool)} (hp37 : ∀ {a0 : Sl Field} {a1 : Sl Field} {r : Bool}, p37 a0 a1 = some r → ∀ {args : List PV}, [PV.d (.sl (E.L_Field a0.l) (E.X_Field a0.x)), PV.d (.sl (E.L_Field a1.l) (E.X_Field a1.x))] = args → ∀ (st : St), Sat (Ω.cf 37 args st) (fun q => q = (PV.d (.bool r), st))) {p45 : Field → Field → Option (Bool)} (hp45 : ∀ {a0 : Field} {a1 : Field} {r : Bool}, p45 a0 a1 = some r → ∀ {args : List PV}, [pv_Field E a0, pv_Field E a1] = args → ∀ (st : St), Sat (Ω.cf 45 args st) (fun q => q = (PV.d (.bool r), st))) {a0 : Sl Value} {a1 : Sl Value} {r : Bool} (h : Pb36 fu p27 p36 p37 p45 a0 a1 = some r) {args : List PV} (ha : [PV.d (.sl (E.L_Value a0.l) (E.X_Value a0.x)), PV.d (.sl (E.L_Value a1.l) (E.X_Value a1.x))] = args) (st : St) :
    Sat (Ω.cf 36 args st) (fun q => q = (PV.d (.bool r), st)) := by
  subst ha
  rcases a0 with ⟨a0_l, a0_x⟩
  rcases a1 with ⟨a1_l, a1_x⟩
  rw [cf_body hΩ (f := 36) (fn := Tryd.f36) (x := c36) rfl rfl c36_ok rfl rfl rfl]
  unfold Pb36 at h
  try dsimp only at h
  conv => arg 1; cbv
  refine sat_len hΩ (ro_Value hE) a0_l fun n1 hn2 => ?_
  conv => arg 1; cbv
  refine sat_len hΩ (ro_Value hE) a1_l fun n3 hn4 => ?_
  conv => arg 1; cbv
  refine sat_in hΩ ?_
  conv => arg 1; cbv
  replace h := bif_cases h
  rcases h with ⟨hb5, h⟩ | ⟨hb5, h⟩
  · refine sat_brt (by first | exact hb5 | ((try clear h); subst_vars; first | exact hb5 | rfl)) ?_
    conv => arg 1; cbv
    obtain rfl := Option.some.inj h
    subst_vars
    exact sat_pure rfl
  · refine sat_brf (by first | exact hb5 | ((try clear h); subst_vars; first | exact hb5 | rfl)) ?_
    conv => arg 1; cbv
    replace h := Option.bind_eq_some_iff.1 h
    obtain ⟨q, hl17, h⟩ := h
    refine sat_loop hΩ (fun (a : Int) => (match a with | i6 => ([(0, PV.d (.sl (E.L_Value a0_l) (E.X_Value a0_x))), (1, PV.d (.sl (E.L_Value a1_l) (E.X_Value a1_x))), (4, PV.d (.bool false)), (5, PV.d (.int .i64 i6))], ([] : List X.Obj) :: st))) (fun (q : Int ⊕ Int) => (match q with | .inl o18 => (.exit 0, [(0, PV.d (.sl (E.L_Value a0_l) (E.X_Value a0_x))), (1, PV.d (.sl (E.L_Value a1_l) (E.X_Value a1_x))), (4, PV.d (.bool false)), (5, PV.d (.int .i64 o18))], ([] : List X.Obj) :: st) | .inr o19 => (.ret, [(0, PV.d (.sl (E.L_Value a0_l) (E.X_Value a0_x))), (1, PV.d (.sl (E.L_Value a1_l) (E.X_Value a1_x))), (4, PV.d (.bool false)), (5, PV.d (.int .i64 o19))], ([] : List X.Obj) :: st))) 0 hl17 ?_ ?_
    · clear h hl17
      rintro i6 q h
      unfold P36_s0 at h
      dsimp only at h
      conv => arg 1; cbv
      refine sat_len hΩ (ro_Value hE) a0_l fun n7 hn8 => ?_
      conv => arg 1; cbv
      refine sat_in hΩ ?_
      conv => arg 1; cbv
      replace h := bif_cases h
      rcases h with ⟨hb9, h⟩ | ⟨hb9, h⟩
      · refine sat_brt (by first | exact hb9 | ((try clear h); subst_vars; first | exact hb9 | rfl)) ?_
        conv => arg 1; cbv
        refine sat_true (fits_l hΩ (ro_Value hE) a0_l) ?_
        conv => arg 1; cbv
        replace h := Option.bind_eq_some_iff.1 h
        obtain ⟨⟨x10_a, x10_b, x10_c, ⟨x10_dl, x10_dx⟩, ⟨x10_el, x10_ex⟩, x10_f, x10_g, x10_h⟩, hx11, h⟩ := h
        try dsimp only at h
        refine sat_bind (nth_ok hΩ (ro_Value hE) hx11) ?_
        conv => arg 1; cbv
        refine sat_true (fits_l hΩ (ro_Value hE) a1_l) ?_
        conv => arg 1; cbv
        replace h := Option.bind_eq_some_iff.1 h
        obtain ⟨⟨x12_a, x12_b, x12_c, ⟨x12_dl, x12_dx⟩, ⟨x12_el, x12_ex⟩, x12_f, x12_g, x12_h⟩, hx13, h⟩ := h
        try dsimp only at h
        refine sat_bind (nth_ok hΩ (ro_Value hE) hx13) ?_
        conv => arg 1; cbv
        replace h := Option.bind_eq_some_iff.1 h
        obtain ⟨r14, hx15, h⟩ := h
        refine sat_call (hp27 hx15 (by (try clear h); subst_vars; rfl) _) ?_
        conv => arg 1; cbv
        refine sat_in hΩ ?_
        conv => arg 1; cbv
        replace h := bif_cases h
        rcases h with ⟨hb16, h⟩ | ⟨hb16, h⟩
        · refine sat_brt (by first | exact hb16 | ((try clear h); subst_vars; first | exact hb16 | rfl)) ?_
          conv => arg 1; cbv
          obtain rfl := Option.some.inj h
          subst_vars
          first | exact sat_pure (.inr ⟨rfl, rfl⟩) | (refine sat_pure (.inr ⟨rfl, ?_⟩); dsimp only; simp only [ln_set]; rfl)
        · refine sat_brf (by first | exact hb16 | ((try clear h); subst_vars; first | exact hb16 | rfl)) ?_
          conv => arg 1; cbv
          obtain rfl := Option.some.inj h
          subst_vars
          first | exact sat_pure ⟨rfl, rfl, rfl⟩ | (refine sat_pure ⟨rfl, ?_, ?_⟩ <;> first | rfl | (dsimp only; simp only [ln_set]; rfl))
      · refine sat_brf (by first | exact hb9 | ((try clear h); subst_vars; first | exact hb9 | rfl)) ?_
        conv => arg 1; cbv
        obtain rfl := Option.some.inj h
        subst_vars
        first | exact sat_pure (.inl ⟨⟨_, rfl⟩, rfl⟩) | (refine sat_pure (.inl ⟨⟨_, rfl⟩, ?_⟩); dsimp only; simp only [ln_set]; rfl)
    · clear hl17
      rcases q with o18 | o19
      · dsimp only at h
        conv => arg 1; cbv
        obtain rfl := Option.some.inj h
        subst_vars
        exact sat_pure rfl
      · dsimp only at h
        conv => arg 1; cbv
        obtain rfl := Option.some.inj h
        subst_vars
        exact sat_pure rfl
set_option maxHeartbeats 4000000 in
theorem okb37 {Ω : Om} {E : Enc} (hΩ : real (call S) = Ω) (hE : theEnc = E) {fu : Nat} {p27 : Value → Value → Option (Bool)} (hp27 : ∀ {a0 : Value} {a1 : Value} {r : Bool}, p27 a0 a1 = some r → ∀ {args : List PV}, [pv_Value E a0, pv_Value E a1] = args → ∀ (st : St), Sat (Ω.cf 27 args st) (fun q => q = (PV.d (.bool r), st))) {p36 : (Sl Value) → (Sl Value) → Option (Bool)} (hp36 : ∀ {a0 : Sl Value} {a1 : Sl Value} {r : Bool}, p36 a0 a1 = some r → ∀ {args : List PV}, [PV.d (.sl (E.L_Value a0.l) (E.X_Value a0.x)), PV.d (.sl (E.L_Value a1.l) (E.X_Value a1.x))] = args → ∀ (st : St), Sat (Ω.cf 36 args st) (fun q => q = (PV.d (.bool r), st))) {p37 : (Sl Field) → (Sl Field) → Option (Bool)} (hp37 : ∀ {a0 : Sl Field} {a1 : Sl Field} {r : Bool}, p37 a0 a1 = some r → ∀ {args : List PV}, [PV.d (.sl (E.L_Field a0.l) (E.X_Field a0.x)), PV.d (.sl (E.L_Field a1.l) (E.X_Field a1.x))] = args → ∀ (st : St), Sat (Ω.cf 37 args st) (fun q => q = (PV.d (.bool r), st))) {p45 : Field → Field → Option (Bool)} (hp45 : ∀ {a0 : Field} {a1 : Field} {r : Bool}, p45 a0 a1 = some r → ∀ {args : List PV}, [pv_Field E a0, pv_Field E a1] = args → ∀ (st : St), Sat (Ω.cf 45 args st) (fun q => q = (PV.d (.bool r), st))) {a0 : Sl Field} {a1 : Sl Field} {r : Bool} (h : Pb37 fu p27 p36 p37 p45 a0 a1 = some r) {args : List PV} (ha : [PV.d (.sl (E.L_Field a0.l) (E.X_Field a0.x)), PV.d (.sl (E.L_Field a1.l) (E.X_Field a1.x))] = args) (st : St) :
    Sat (Ω.cf 37 args st) (fun q => q = (PV.d (.bool r), st)) := by
  subst ha
  rcases a0 with ⟨a0_l, a0_x⟩
  rcases a1 with ⟨a1_l, a1_x⟩
  rw [cf_body hΩ (f := 37) (fn := Tryd.f37) (x := c37) rfl rfl c37_ok rfl rfl rfl]
  unfold Pb37 at h
  try dsimp only at h
  conv => arg 1; cbv
  refine sat_len hΩ (ro_Field hE) a0_l fun n1 hn2 => ?_
  conv => arg 1; cbv
  refine sat_len hΩ (ro_Field hE) a1_l fun n3 hn4 => ?_
  conv => arg 1; cbv
  refine sat_in hΩ ?_
  conv => arg 1; cbv
  replace h := bif_cases h
  rcases h with ⟨hb5, h⟩ | ⟨hb5, h⟩
  · refine sat_brt (by first | exact hb5 | ((try clear h); subst_vars; first | exact hb5 | rfl)) ?_
    conv => arg 1; cbv
    obtain rfl := Option.some.inj h
    subst_vars
    exact sat_pure rfl
  · refine sat_brf (by first | exact hb5 | ((try clear h); subst_vars; first | exact hb5 | rfl)) ?_
    conv => arg 1; cbv
    replace h := Option.bind_eq_some_iff.1 h
    obtain ⟨q, hl17, h⟩ := h
    refine sat_loop hΩ (fun (a : Int) => (match a with | i6 => ([(0, PV.d (.sl (E.L_Field a0_l) (E.X_Field a0_x))), (1, PV.d (.sl (E.L_Field a1_l) (E.X_Field a1_x))), (4, PV.d (.bool false)), (5, PV.d (.int .i64 i6))], ([] : List X.Obj) :: st))) (fun (q : Int ⊕ Int) => (match q with | .inl o18 => (.exit 0, [(0, PV.d (.sl (E.L_Field a0_l) (E.X_Field a0_x))), (1, PV.d (.sl (E.L_Field a1_l) (E.X_Field a1_x))), (4, PV.d (.bool false)), (5, PV.d (.int .i64 o18))], ([] : List X.Obj) :: st) | .inr o19 => (.ret, [(0, PV.d (.sl (E.L_Field a0_l) (E.X_Field a0_x))), (1, PV.d (.sl (E.L_Field a1_l) (E.X_Field a1_x))), (4, PV.d (.bool false)), (5, PV.d (.int .i64 o19))], ([] : List X.Obj) :: st))) 0 hl17 ?_ ?_
    · clear h hl17
      rintro i6 q h
      unfold P37_s0 at h
      dsimp only at h
      conv => arg 1; cbv
      refine sat_len hΩ (ro_Field hE) a0_l fun n7 hn8 => ?_
      conv => arg 1; cbv
      refine sat_in hΩ ?_
      conv => arg 1; cbv
      replace h := bif_cases h
      rcases h with ⟨hb9, h⟩ | ⟨hb9, h⟩
      · refine sat_brt (by first | exact hb9 | ((try clear h); subst_vars; first | exact hb9 | rfl)) ?_
        conv => arg 1; cbv
        refine sat_true (fits_l hΩ (ro_Field hE) a0_l) ?_
        conv => arg 1; cbv
        replace h := Option.bind_eq_some_iff.1 h
        obtain ⟨⟨x10_a, ⟨x10_ba, x10_bb, x10_bc, ⟨x10_bdl, x10_bdx⟩, ⟨x10_bel, x10_bex⟩, x10_bf, x10_bg, x10_bh⟩⟩, hx11, h⟩ := h
        try dsimp only at h
        refine sat_bind (nth_ok hΩ (ro_Field hE) hx11) ?_
        conv => arg 1; cbv
        refine sat_true (fits_l hΩ (ro_Field hE) a1_l) ?_
        conv => arg 1; cbv
        replace h := Option.bind_eq_some_iff.1 h
        obtain ⟨⟨x12_a, ⟨x12_ba, x12_bb, x12_bc, ⟨x12_bdl, x12_bdx⟩, ⟨x12_bel, x12_bex⟩, x12_bf, x12_bg, x12_bh⟩⟩, hx13, h⟩ := h
        try dsimp only at h
        refine sat_bind (nth_ok hΩ (ro_Field hE) hx13) ?_
        conv => arg 1; cbv
        replace h := Option.bind_eq_some_iff.1 h
        obtain ⟨r14, hx15, h⟩ := h
        refine sat_call (hp45 hx15 (by (try clear h); subst_vars; rfl) _) ?_
        conv => arg 1; cbv
        refine sat_in hΩ ?_
        conv => arg 1; cbv
        replace h := bif_cases h
        rcases h with ⟨hb16, h⟩ | ⟨hb16, h⟩
        · refine sat_brt (by first | exact hb16 | ((try clear h); subst_vars; first | exact hb16 | rfl)) ?_
          conv => arg 1; cbv
          obtain rfl := Option.some.inj h
          subst_vars
          first | exact sat_pure (.inr ⟨rfl, rfl⟩) | (refine sat_pure (.inr ⟨rfl, ?_⟩); dsimp only; simp only [ln_set]; rfl)
        · refine sat_brf (by first | exact hb16 | ((try clear h); subst_vars; first | exact hb16 | rfl)) ?_
          conv => arg 1; cbv
          obtain rfl := Option.some.inj h
          subst_vars
          first | exact sat_pure ⟨rfl, rfl, rfl⟩ | (refine sat_pure ⟨rfl, ?_, ?_⟩ <;> first | rfl | (dsimp only; simp only [ln_set]; rfl))
      · refine sat_brf (by first | exact hb9 | ((try clear h); subst_vars; first | exact hb9 | rfl)) ?_
        conv => arg 1; cbv
        obtain rfl := Option.some.inj h
        subst_vars
        first | exact sat_pure (.inl ⟨⟨_, rfl⟩, rfl⟩) | (refine sat_pure (.inl ⟨⟨_, rfl⟩, ?_⟩); dsimp only; simp only [ln_set]; rfl)
    · clear hl17
      rcases q with o18 | o19
      · dsimp only at h
        conv => arg 1; cbv
        obtain rfl := Option.some.inj h
        subst_vars
        exact sat_pure rfl
      · dsimp only at h
        conv => arg 1; cbv
        obtain rfl := Option.some.inj h
        subst_vars
        exact sat_pure rfl
set_option maxHeartbeats 4000000 in
theorem okb45 {Ω : Om} {E : Enc} (hΩ : real (call S) = Ω) (hE : theEnc = E) {fu : Nat} {p27 : Value → Value → Option (Bool)} (hp27 : ∀ {a0 : Value} {a1 : Value} {r : Bool}, p27 a0 a1 = some r → ∀ {args : List PV}, [pv_Value E a0, pv_Value E a1] = args → ∀ (st : St), Sat (Ω.cf 27 args st) (fun q => q = (PV.d (.bool r), st))) {p36 : (Sl Value) → (Sl Value) → Option (Bool)} (hp36 : ∀ {a0 : Sl Value} {a1 : Sl Value} {r : Bool}, p36 a0 a1 = some r → ∀ {args : List PV}, [PV.d (.sl (E.L_Value a0.l) (E.X_Value a0.x)), PV.d (.sl (E.L_Value a1.l) (E.X_Value a1.x))] = args → ∀ (st : St), Sat (Ω.cf 36 args st) (fun q => q = (PV.d (.bool r), st))) {p37 : (Sl Field) → (Sl Field) → Option (Bool)} (hp37 : ∀ {a0 : Sl Field} {a1 : Sl Field} {r : Bool}, p37 a0 a1 = some r → ∀ {args : List PV}, [PV.d (.sl (E.L_Field a0.l) (E.X_Field a0.x)), PV.d (.sl (E.L_Field a1.l) (E.X_Field a1.x))] = args → ∀ (st : St), Sat (Ω.cf 37 args st) (fun q => q = (PV.d (.bool r), st))) {p45 : Field → Field → Option (Bool)} (hp45 : ∀ {a0 : Field} {a1 : Field} {r : Bool}, p45 a0 a1 = some r → ∀ {args : List PV}, [pv_Field E a0, pv_Field E a1] = args → ∀ (st : St), Sat (Ω.cf 45 args st) (fun q => q = (PV.d (.bool r), st))) {a0 : Field} {a1 : Field} {r : Bool} (h : Pb45 fu p27 p36 p37 p45 a0 a1 = some r) {args : List PV} (ha : [pv_Field E a0, pv_Field E a1] = args) (st : St) :
    Sat (Ω.cf 45 args st) (fun q => q = (PV.d (.bool r), st)) := by
  subst ha
  rcases a0 with ⟨a0_a, ⟨a0_ba, a0_bb, a0_bc, ⟨a0_bdl, a0_bdx⟩, ⟨a0_bel, a0_bex⟩, a0_bf, a0_bg, a0_bh⟩⟩
  rcases a1 with ⟨a1_a, ⟨a1_ba, a1_bb, a1_bc, ⟨a1_bdl, a1_bdx⟩, ⟨a1_bel, a1_bex⟩, a1_bf, a1_bg, a1_bh⟩⟩
  rw [cf_body hΩ (f := 45) (fn := Tryd.f45) (x := c45) rfl rfl c45_ok rfl rfl rfl]
  unfold Pb45 at h
  try dsimp only at h
  conv => arg 1; cbv
  replace h := Option.bind_eq_some_iff.1 h
  obtain ⟨q, hq5, h⟩ := h
  refine sat_grp hΩ ((fun (q : Bool) => (match q with | i4 => ([(0, PV.agg [.d (.str a0_a), .d (.int .u8 a0_ba), .d (.int .i64 a0_bb), .d (.str a0_bc), .d (.sl (E.L_Value a0_bdl) (E.X_Value a0_bdx)), .d (.sl (E.L_Field a0_bel) (E.X_Field a0_bex)), .d (.int .u8 a0_bf), .d (.str a0_bg), .d (.bool a0_bh)]), (1, PV.agg [.d (.str a1_a), .d (.int .u8 a1_ba), .d (.int .i64 a1_bb), .d (.str a1_bc), .d (.sl (E.L_Value a1_bdl) (E.X_Value a1_bdx)), .d (.sl (E.L_Field a1_bel) (E.X_Field a1_bex)), .d (.int .u8 a1_bf), .d (.str a1_bg), .d (.bool a1_bh)]), (2, PV.eptr [.str a0_a, .int .u8 a0_ba, .int .i64 a0_bb, .str a0_bc, .sl (E.L_Value a0_bdl) (E.X_Value a0_bdx), .sl (E.L_Field a0_bel) (E.X_Field a0_bex), .int .u8 a0_bf, .str a0_bg, .bool a0_bh]), (3, PV.eptr [.str a1_a, .int .u8 a1_ba, .int .i64 a1_bb, .str a1_bc, .sl (E.L_Value a1_bdl) (E.X_Value a1_bdx), .sl (E.L_Field a1_bel) (E.X_Field a1_bex), .int .u8 a1_bf, .str a1_bg, .bool a1_bh]), (4, PV.d (.bool i4))], ([] : List X.Obj) :: st))) q) (fun k hk => ?_) ?_
  · clear h
    have h := hq5
    clear hq5
    conv => arg 1; cbv
    replace h := bif_cases h
    rcases h with ⟨hb1, h⟩ | ⟨hb1, h⟩
    · refine sat_brt (by first | exact hb1 | ((try clear h); subst_vars; first | exact hb1 | rfl)) ?_
      conv => arg 1; cbv
      replace h := Option.bind_eq_some_iff.1 h
      obtain ⟨r2, hx3, h⟩ := h
      refine sat_call (hp27 hx3 (by (try clear h); subst_vars; rfl) _) ?_
      conv => arg 1; cbv
      refine sat_tick hΩ ?_
      conv => arg 1; cbv
      obtain rfl := Option.some.inj h
      subst_vars
      first | exact hk | (simp only [ln_set] at hk ⊢; exact hk)
    · refine sat_brf (by first | exact hb1 | ((try clear h); subst_vars; first | exact hb1 | rfl)) ?_
      conv => arg 1; cbv
      refine sat_tick hΩ ?_
      conv => arg 1; cbv
      obtain rfl := Option.some.inj h
      subst_vars
      first | exact hk | (simp only [ln_set] at hk ⊢; exact hk)
  · clear hq5
    obtain ⟨i4, hqq⟩ : ∃ x, x = q := ⟨_, rfl⟩
    subst hqq
    try dsimp only at h
    conv => arg 1; cbv
    obtain rfl := Option.some.inj h
    subst_vars
    exact sat_pure rfl
theorem okr27 {Ω : Om} {E : Enc} (hΩ : real (call S) = Ω) (hE : theEnc = E) : ∀ fu,
    (∀ {a0 : Value} {a1 : Value} {r : Bool}, P27 fu a0 a1 = some r → ∀ {args : List PV}, [pv_Value E a0, pv_Value E a1] = args → ∀ (st : St), Sat (Ω.cf 27 args st) (fun q => q = (PV.d (.bool r), st))) ∧
    (∀ {a0 : Sl Value} {a1 : Sl Value} {r : Bool}, P36 fu a0 a1 = some r → ∀ {args : List PV}, [PV.d (.sl (E.L_Value a0.l) (E.X_Value a0.x)), PV.d (.sl (E.L_Value a1.l) (E.X_Value a1.x))] = args → ∀ (st : St), Sat (Ω.cf 36 args st) (fun q => q = (PV.d (.bool r), st))) ∧
    (∀ {a0 : Sl Field} {a1 : Sl Field} {r : Bool}, P37 fu a0 a1 = some r → ∀ {args : List PV}, [PV.d (.sl (E.L_Field a0.l) (E.X_Field a0.x)), PV.d (.sl (E.L_Field a1.l) (E.X_Field a1.x))] = args → ∀ (st : St), Sat (Ω.cf 37 args st) (fun q => q = (PV.d (.bool r), st))) ∧
    (∀ {a0 : Field} {a1 : Field} {r : Bool}, P45 fu a0 a1 = some r → ∀ {args : List PV}, [pv_Field E a0, pv_Field E a1] = args → ∀ (st : St), Sat (Ω.cf 45 args st) (fun q => q = (PV.d (.bool r), st))) := by
  intro fu
  induction fu with
  | zero => exact ⟨(fun h => (by cases h)), (fun h => (by cases h)), (fun h => (by cases h)), (fun h => (by cases h))⟩
  | succ fu ih =>
    obtain ⟨i27, i36, i37, i45⟩ := ih
    exact ⟨(fun h => @fun args ha st => okb27 (fu := fu) hΩ hE i27 i36 i37 i45 h ha st), (fun h => @fun args ha st => okb36 (fu := fu) hΩ hE i27 i36 i37 i45 h ha st), (fun h => @fun args ha st => okb37 (fu := fu) hΩ hE i27 i36 i37 i45 h ha st), (fun h => @fun args ha st => okb45 (fu := fu) hΩ hE i27 i36 i37 i45 h ha st)⟩
theorem ok27 {Ω : Om} {E : Enc} (hΩ : real (call S) = Ω) (hE : theEnc = E) {fu : Nat} : ∀ {a0 : Value} {a1 : Value} {r : Bool}, P27 fu a0 a1 = some r → ∀ {args : List PV}, [pv_Value E a0, pv_Value E a1] = args → ∀ (st : St), Sat (Ω.cf 27 args st) (fun q => q = (PV.d (.bool r), st)) := (okr27 hΩ hE fu).1
theorem ok36 {Ω : Om} {E : Enc} (hΩ : real (call S) = Ω) (hE : theEnc = E) {fu : Nat} : ∀ {a0 : Sl Value} {a1 : Sl Value} {r : Bool}, P36 fu a0 a1 = some r → ∀ {args : List PV}, [PV.d (.sl (E.L_Value a0.l) (E.X_Value a0.x)), PV.d (.sl (E.L_Value a1.l) (E.X_Value a1.x))] = args → ∀ (st : St), Sat (Ω.cf 36 args st) (fun q => q = (PV.d (.bool r), st)) := (okr27 hΩ hE fu).2.1
theorem ok37 {Ω : Om} {E : Enc} (hΩ : real (call S) = Ω) (hE : theEnc = E) {fu : Nat} : ∀ {a0 : Sl Field} {a1 : Sl Field} {r : Bool}, P37 fu a0 a1 = some r → ∀ {args : List PV}, [PV.d (.sl (E.L_Field a0.l) (E.X_Field a0.x)), PV.d (.sl (E.L_Field a1.l) (E.X_Field a1.x))] = args → ∀ (st : St), Sat (Ω.cf 37 args st) (fun q => q = (PV.d (.bool r), st)) := (okr27 hΩ hE fu).2.2.1
theorem ok45 {Ω : Om} {E : Enc} (hΩ : real (call S) = Ω) (hE : theEnc = E) {fu : Nat} : ∀ {a0 : Field} {a1 : Field} {r : Bool}, P45 fu a0 a1 = some r → ∀ {args : List PV}, [pv_Field E a0, pv_Field E a1] = args → ∀ (st : St), Sat (Ω.cf 45 args st) (fun q => q = (PV.d (.bool r), st)) := (okr27 hΩ hE fu).2.2.2
set_option maxHeartbeats 4000000 in
theorem ok19 {Ω : Om} {E : Enc} (hΩ : real (call S) = Ω) (hE : theEnc = E) {fu : Nat} {a0 : Child} {a1 : Child} {r : Bool} (h : P19 fu a0 a1 = some r) {args : List PV} (ha : [pv_Child E a0, pv_Child E a1] = args) (st : St) :
    Sat (Ω.cf 19 args st) (fun q => q = (PV.d (.bool r), st)) := by
  subst ha
  rcases a0 with ⟨a0_a, a0_b, a0_c, ⟨a0_da, a0_db, a0_dc, ⟨a0_ddl, a0_ddx⟩, ⟨a0_del, a0_dex⟩, a0_df, a0_dg, a0_dh⟩⟩
  rcases a1 with ⟨a1_a, a1_b, a1_c, ⟨a1_da, a1_db, a1_dc, ⟨a1_ddl, a1_ddx⟩, ⟨a1_del, a1_dex⟩, a1_df, a1_dg, a1_dh⟩⟩
  rw [cf_body hΩ (f := 19) (fn := Tryd.f19) (x := c19) rfl rfl c19_ok rfl rfl rfl]
  unfold P19 at h
  try dsimp only at h
  conv => arg 1; cbv
  replace h := Option.bind_eq_some_iff.1 h
  obtain ⟨q, hq7, h⟩ := h
  refine sat_grp hΩ ((fun (q : Bool) => (match q with | i6 => ([(0, PV.agg [.d (.str a0_a), .d (.int .u8 a0_b), .d (.str a0_c), .d (.int .u8 a0_da), .d (.int .i64 a0_db), .d (.str a0_dc), .d (.sl (E.L_Value a0_ddl) (E.X_Value a0_ddx)), .d (.sl (E.L_Field a0_del) (E.X_Field a0_dex)), .d (.int .u8 a0_df), .d (.str a0_dg), .d (.bool a0_dh)]), (1, PV.agg [.d (.str a1_a), .d (.int .u8 a1_b), .d (.str a1_c), .d (.int .u8 a1_da), .d (.int .i64 a1_db), .d (.str a1_dc), .d (.sl (E.L_Value a1_ddl) (E.X_Value a1_ddx)), .d (.sl (E.L_Field a1_del) (E.X_Field a1_dex)), .d (.int .u8 a1_df), .d (.str a1_dg), .d (.bool a1_dh)]), (2, PV.eptr [.str a0_a, .int .u8 a0_b, .str a0_c, .int .u8 a0_da, .int .i64 a0_db, .str a0_dc, .sl (E.L_Value a0_ddl) (E.X_Value a0_ddx), .sl (E.L_Field a0_del) (E.X_Field a0_dex), .int .u8 a0_df, .str a0_dg, .bool a0_dh]), (3, PV.eptr [.str a1_a, .int .u8 a1_b, .str a1_c, .int .u8 a1_da, .int .i64 a1_db, .str a1_dc, .sl (E.L_Value a1_ddl) (E.X_Value a1_ddx), .sl (E.L_Field a1_del) (E.X_Field a1_dex), .int .u8 a1_df, .str a1_dg, .bool a1_dh]), (4, PV.d (.bool i6))], ([] : List X.Obj) :: st))) q) (fun k hk => ?_) ?_
  · clear h
    have h := hq7
    clear hq7
    conv => arg 1; cbv
    replace h := bif_cases h
    rcases h with ⟨hb1, h⟩ | ⟨hb1, h⟩
    · refine sat_brt (by first | exact hb1 | ((try clear h); subst_vars; first | exact hb1 | rfl)) ?_
      conv => arg 1; cbv
      refine sat_tick hΩ ?_
      conv => arg 1; cbv
      replace h := bif_cases h
      rcases h with ⟨hb2, h⟩ | ⟨hb2, h⟩
      · refine sat_brt (by first | exact hb2 | ((try clear h); subst_vars; first | exact hb2 | rfl)) ?_
        conv => arg 1; cbv
        replace h := bif_cases h
        rcases h with ⟨hb3, h⟩ | ⟨hb3, h⟩
        · refine sat_brt (by first | exact hb3 | ((try clear h); subst_vars; first | exact hb3 | rfl)) ?_
          conv => arg 1; cbv
          refine sat_tick hΩ ?_
          conv => arg 1; cbv
          replace h := Option.bind_eq_some_iff.1 h
          obtain ⟨r4, hx5, h⟩ := h
          refine sat_call (ok27 hΩ hE hx5 (by (try clear h); subst_vars; rfl) _) ?_
          conv => arg 1; cbv
          obtain rfl := Option.some.inj h
          subst_vars
          first | exact hk | (simp only [ln_set] at hk ⊢; exact hk)
        · refine sat_brf (by first | exact hb3 | ((try clear h); subst_vars; first | exact hb3 | rfl)) ?_
          conv => arg 1; cbv
          refine sat_tick hΩ ?_
          conv => arg 1; cbv
          obtain rfl := Option.some.inj h
          subst_vars
          first | exact hk | (simp only [ln_set] at hk ⊢; exact hk)
      · refine sat_brf (by first | exact hb2 | ((try clear h); subst_vars; first | exact hb2 | rfl)) ?_
        conv => arg 1; cbv
        refine sat_tick hΩ ?_
        conv => arg 1; cbv
        obtain rfl := Option.some.inj h
        subst_vars
        first | exact hk | (simp only [ln_set] at hk ⊢; exact hk)
    · refine sat_brf (by first | exact hb1 | ((try clear h); subst_vars; first | exact hb1 | rfl)) ?_
      conv => arg 1; cbv
      refine sat_tick hΩ ?_
      conv => arg 1; cbv
      refine sat_tick hΩ ?_
      conv => arg 1; cbv
      obtain rfl := Option.some.inj h
      subst_vars
      first | exact hk | (simp only [ln_set] at hk ⊢; exact hk)
  · clear hq7
    obtain ⟨i6, hqq⟩ : ∃ x, x = q := ⟨_, rfl⟩
    subst hqq
    try dsimp only at h
    conv => arg 1; cbv
    obtain rfl := Option.some.inj h
    subst_vars
    exact sat_pure rfl
set_option maxHeartbeats 4000000 in
theorem ok10 {Ω : Om} {E : Enc} (hΩ : real (call S) = Ω) (hE : theEnc = E) {fu : Nat} {a0 : Sl Child} {a1 : Sl Child} {r : Bool} (h : P10 fu a0 a1 = some r) {args : List PV} (ha : [PV.d (.sl (E.L_Child a0.l) (E.X_Child a0.x)), PV.d (.sl (E.L_Child a1.l) (E.X_Child a1.x))] = args) (st : St) :
    Sat (Ω.cf 10 args st) (fun q => q = (PV.d (.bool r), st)) := by
  subst ha
  rcases a0 with ⟨a0_l, a0_x⟩
  rcases a1 with ⟨a1_l, a1_x⟩
  rw [cf_body hΩ (f := 10) (fn := Tryd.f10) (x := c10) rfl rfl c10_ok rfl rfl rfl]
  unfold P10 at h
  try dsimp only at h
  conv => arg 1; cbv
  refine sat_len hΩ (ro_Child hE) a0_l fun n1 hn2 => ?_
  conv => arg 1; cbv
  refine sat_len hΩ (ro_Child hE) a1_l fun n3 hn4 => ?_
  conv => arg 1; cbv
  refine sat_in hΩ ?_
  conv => arg 1; cbv
  replace h := bif_cases h
  rcases h with ⟨hb5, h⟩ | ⟨hb5, h⟩
  · refine sat_brt (by first | exact hb5 | ((try clear h); subst_vars; first | exact hb5 | rfl)) ?_
    conv => arg 1; cbv
    obtain rfl := Option.some.inj h
    subst_vars
    exact sat_pure rfl
  · refine sat_brf (by first | exact hb5 | ((try clear h); subst_vars; first | exact hb5 | rfl)) ?_
    conv => arg 1; cbv
    replace h := Option.bind_eq_some_iff.1 h
    obtain ⟨q, hl17, h⟩ := h
    refine sat_loop hΩ (fun (a : Int) => (match a with | i6 => ([(0, PV.d (.sl (E.L_Child a0_l) (E.X_Child a0_x))), (1, PV.d (.sl (E.L_Child a1_l) (E.X_Child a1_x))), (4, PV.d (.bool false)), (5, PV.d (.int .i64 i6))], ([] : List X.Obj) :: st))) (fun (q : Int ⊕ Int) => (match q with | .inl o18 => (.exit 0, [(0, PV.d (.sl (E.L_Child a0_l) (E.X_Child a0_x))), (1, PV.d (.sl (E.L_Child a1_l) (E.X_Child a1_x))), (4, PV.d (.bool false)), (5, PV.d (.int .i64 o18))], ([] : List X.Obj) :: st) | .inr o19 => (.ret, [(0, PV.d (.sl (E.L_Child a0_l) (E.X_Child a0_x))), (1, PV.d (.sl (E.L_Child a1_l) (E.X_Child a1_x))), (4, PV.d (.bool false)), (5, PV.d (.int .i64 o19))], ([] : List X.Obj) :: st))) 0 hl17 ?_ ?_
    · clear h hl17
      rintro i6 q h
      unfold P10_s0 at h
      dsimp only at h
      conv => arg 1; cbv
      refine sat_len hΩ (ro_Child hE) a0_l fun n7 hn8 => ?_
      conv => arg 1; cbv
      refine sat_in hΩ ?_
      conv => arg 1; cbv
      replace h := bif_cases h
      rcases h with ⟨hb9, h⟩ | ⟨hb9, h⟩
      · refine sat_brt (by first | exact hb9 | ((try clear h); subst_vars; first | exact hb9 | rfl)) ?_
        conv => arg 1; cbv
        refine sat_true (fits_l hΩ (ro_Child hE) a0_l) ?_
        conv => arg 1; cbv
        replace h := Option.bind_eq_some_iff.1 h
        obtain ⟨⟨x10_a, x10_b, x10_c, ⟨x10_da, x10_db, x10_dc, ⟨x10_ddl, x10_ddx⟩, ⟨x10_del, x10_dex⟩, x10_df, x10_dg, x10_dh⟩⟩, hx11, h⟩ := h
        try dsimp only at h
        refine sat_bind (nth_ok hΩ (ro_Child hE) hx11) ?_
        conv => arg 1; cbv
        refine sat_true (fits_l hΩ (ro_Child hE) a1_l) ?_
        conv => arg 1; cbv
        replace h := Option.bind_eq_some_iff.1 h
        obtain ⟨⟨x12_a, x12_b, x12_c, ⟨x12_da, x12_db, x12_dc, ⟨x12_ddl, x12_ddx⟩, ⟨x12_del, x12_dex⟩, x12_df, x12_dg, x12_dh⟩⟩, hx13, h⟩ := h
        try dsimp only at h
        refine sat_bind (nth_ok hΩ (ro_Child hE) hx13) ?_
        conv => arg 1; cbv
        replace h := Option.bind_eq_some_iff.1 h
        obtain ⟨r14, hx15, h⟩ := h
        refine sat_call (ok19 hΩ hE hx15 (by (try clear h); subst_vars; rfl) _) ?_
        conv => arg 1; cbv
        refine sat_in hΩ ?_
        conv => arg 1; cbv
        replace h := bif_cases h
        rcases h with ⟨hb16, h⟩ | ⟨hb16, h⟩
        · refine sat_brt (by first | exact hb16 | ((try clear h); subst_vars; first | exact hb16 | rfl)) ?_
          conv => arg 1; cbv
          obtain rfl := Option.some.inj h
          subst_vars
          first | exact sat_pure (.inr ⟨rfl, rfl⟩) | (refine sat_pure (.inr ⟨rfl, ?_⟩); dsimp only; simp only [ln_set]; rfl)
        · refine sat_brf (by first | exact hb16 | ((try clear h); subst_vars; first | exact hb16 | rfl)) ?_
          conv => arg 1; cbv
          obtain rfl := Option.some.inj h
          subst_vars
          first | exact sat_pure ⟨rfl, rfl, rfl⟩ | (refine sat_pure ⟨rfl, ?_, ?_⟩ <;> first | rfl | (dsimp only; simp only [ln_set]; rfl))
      · refine sat_brf (by first | exact hb9 | ((try clear h); subst_vars; first | exact hb9 | rfl)) ?_
        conv => arg 1; cbv
        obtain rfl := Option.some.inj h
        subst_vars
        first | exact sat_pure (.inl ⟨⟨_, rfl⟩, rfl⟩) | (refine sat_pure (.inl ⟨⟨_, rfl⟩, ?_⟩); dsimp only; simp only [ln_set]; rfl)
    · clear hl17
      rcases q with o18 | o19
      · dsimp only at h
        conv => arg 1; cbv
        obtain rfl := Option.some.inj h
        subst_vars
        exact sat_pure rfl
      · dsimp only at h
        conv => arg 1; cbv
        obtain rfl := Option.some.inj h
        subst_vars
        exact sat_pure rfl
set_option maxHeartbeats 4000000 in
theorem ok4 {Ω : Om} {E : Enc} (hΩ : real (call S) = Ω) (hE : theEnc = E) {fu : Nat} {a0 : Sl Value} {a1 : Int} {a2 : Int} {r : Bool} (h : P4 fu a0 a1 a2 = some r) {args : List PV} (ha : [PV.d (.sl (E.L_Value a0.l) (E.X_Value a0.x)), PV.d (.int .u8 a1), PV.d (.int .u8 a2)] = args) (st : St) :
    Sat (Ω.cf 4 args st) (fun q => q = (PV.d (.bool r), st)) := by
  subst ha
  rcases a0 with ⟨a0_l, _ | a0_h⟩
  · rw [cf_body hΩ (f := 4) (fn := Tryd.f4) (x := c4) rfl rfl c4_ok rfl rfl rfl]
    unfold P4 at h
    try dsimp only at h
    dsimp only []
    rw [show E.X_Value none = none from by rw [(ro_Value hE).2.1]; rfl]
    conv => arg 1; cbv
    replace h := Option.bind_eq_some_iff.1 h
    obtain ⟨q, hq75, h⟩ := h
    refine sat_grp hΩ ((fun (q : Bool) => (match q with | i8 => ([(0, PV.d (.sl (E.L_Value a0_l) none)), (1, PV.d (.int .u8 a1)), (2, PV.d (.int .u8 a2)), (6, PV.d (.bool false)), (19, PV.d (.bool i8))], ([] : List X.Obj) :: st))) q) (fun k hk => ?_) ?_
    · clear h
      have h := hq75
      clear hq75
      conv => arg 1; cbv
      replace h := Option.bind_eq_some_iff.1 h
      obtain ⟨r1, hx2, h⟩ := h
      refine sat_call (ok6 hΩ hE hx2 (by (try clear h); subst_vars; rfl) _) ?_
      conv => arg 1; cbv
      replace h := bif_cases h
      rcases h with ⟨hb3, h⟩ | ⟨hb3, h⟩
      · refine sat_brt (by first | exact hb3 | ((try clear h); subst_vars; first | exact hb3 | rfl)) ?_
        conv => arg 1; cbv
        replace h := Option.bind_eq_some_iff.1 h
        obtain ⟨r4, hx5, h⟩ := h
        refine sat_call (ok8 hΩ hE hx5 (by (try clear h); subst_vars; rfl) _) ?_
        conv => arg 1; cbv
        replace h := Option.bind_eq_some_iff.1 h
        obtain ⟨r6, hx7, h⟩ := h
        refine sat_call (ok7 hΩ hE hx7 (by (try clear h); subst_vars; rfl) _) ?_
        conv => arg 1; cbv
        obtain rfl := Option.some.inj h
        subst_vars
        first | exact hk | (simp only [ln_set] at hk ⊢; exact hk)
      · refine sat_brf (by first | exact hb3 | ((try clear h); subst_vars; first | exact hb3 | rfl)) ?_
        conv => arg 1; cbv
        obtain rfl := Option.some.inj h
        subst_vars
        first | exact hk | (simp only [ln_set] at hk ⊢; exact hk)
    · clear hq75
      obtain ⟨i8, hqq⟩ : ∃ x, x = q := ⟨_, rfl⟩
      subst hqq
      try dsimp only at h
      conv => arg 1; cbv
      refine sat_in hΩ ?_
      conv => arg 1; cbv
      replace h := bif_cases h
      rcases h with ⟨hb9, h⟩ | ⟨hb9, h⟩
      · refine sat_brt (by first | exact hb9 | ((try clear h); subst_vars; first | exact hb9 | rfl)) ?_
        conv => arg 1; cbv
        replace h := Option.bind_eq_some_iff.1 h
        obtain ⟨r10, hx11, h⟩ := h
        refine sat_call (ok6 hΩ hE hx11 (by (try clear h); subst_vars; rfl) _) ?_
        conv => arg 1; cbv
        obtain rfl := Option.some.inj h
        subst_vars
        exact sat_pure rfl
      · refine sat_brf (by first | exact hb9 | ((try clear h); subst_vars; first | exact hb9 | rfl)) ?_
        conv => arg 1; cbv
        refine sat_len hΩ (ro_Value hE) a0_l fun n12 hn13 => ?_
        conv => arg 1; cbv
        replace h := bif_cases h
        rcases h with ⟨hb14, h⟩ | ⟨hb14, h⟩
        · cases h
        refine sat_false (by first | exact hb14 | ((try clear h); subst_vars; first | exact hb14 | rfl)) ?_
        conv => arg 1; cbv
        refine sat_len hΩ (ro_Value hE) a0_l fun n15 hn16 => ?_
        conv => arg 1; cbv
        replace h := bif_cases h
        rcases h with ⟨hb17, h⟩ | ⟨hb17, h⟩
        · cases h
        refine sat_false (by first | exact hb17 | ((try clear h); subst_vars; first | exact hb17 | rfl)) ?_
        conv => arg 1; cbv
        refine sat_nil hΩ (ro_Value hE) fun l18 hl19 => ?_
        conv => arg 1; cbv
        replace h := Option.bind_eq_some_iff.1 h
        obtain ⟨q, hq74, h⟩ := h
        refine sat_grp hΩ ((fun (q : (List Value)) => (match q with | l33 => ([(0, PV.d (.sl (E.L_Value a0_l) none)), (1, PV.d (.int .u8 a1)), (2, PV.d (.int .u8 a2)), (6, PV.d (.bool false)), (7, PV.d (.int .i64 (Ω.tmod (Ω.wrap .i64 a1) (Ω.wrap .i64 (Ω.add n12 1))))), (8, PV.d (.int .i64 (Ω.wrap .i64 (Ω.add (Ω.tmod (Ω.wrap .i64 a1) (Ω.wrap .i64 (Ω.add n12 1))) (Ω.tmod (Ω.wrap .i64 a2) (Ω.wrap .i64 (Ω.add (Ω.wrap .i64 (Ω.sub n15 (Ω.tmod (Ω.wrap .i64 a1) (Ω.wrap .i64 (Ω.add n12 1))))) 1))))))), (9, PV.row 0 0 (ln l33))], ([X.Obj.row 32 8 (E.L_Value l33) false none] : List X.Obj) :: st))) q) (fun k hk => ?_) ?_
        · clear h
          have h := hq74
          clear hq74
          conv => arg 1; cbv
          refine sat_true (fits_x hΩ (ro_Value hE) a0_l none) ?_
          conv => arg 1; cbv
          refine sat_len hΩ (ro_Value hE) a0_l fun n20 hn21 => ?_
          conv => arg 1; cbv
          replace h := bif_some h
          obtain ⟨hb22, h⟩ := h
          refine sat_true (by first | exact hb22 | ((try clear h); subst_vars; first | exact hb22 | rfl)) ?_
          conv => arg 1; cbv
          replace h := bif_some h
          obtain ⟨hb23, h⟩ := h
          refine sat_true (by first | exact hb23 | ((try clear h); subst_vars; first | exact hb23 | rfl)) ?_
          conv => arg 1; cbv
          replace h := bif_some h
          obtain ⟨hb24, h⟩ := h
          refine sat_true (by first | exact hb24 | ((try clear h); subst_vars; first | exact hb24 | rfl)) ?_
          conv => arg 1; cbv
          refine sat_cut hΩ (ro_Value hE) a0_l 0 (Int.tmod (w64 a1) (w64 ((ln a0_l) + 1))) fun l25 hl26 => ?_
          conv => arg 1; cbv
          refine sat_true (ieq_ok hΩ _) ?_
          conv => arg 1; cbv
          refine sat_true (fits_l hΩ (ro_Value hE) (cut a0_l 0 (Int.tmod (w64 a1) (w64 ((ln a0_l) + 1))))) ?_
          conv => arg 1; cbv
          refine sat_true (len_ok hΩ (ro_Value hE) ([] : List Value)) ?_
          conv => arg 1; cbv
          replace h := bif_cases h
          rcases h with ⟨hb27, h⟩ | ⟨hb27, h⟩
          · refine sat_brt (len_zero hΩ (ro_Value hE) (l := (cut a0_l 0 (Int.tmod (w64 a1) (w64 ((ln a0_l) + 1))))) hb27) ?_
            conv => arg 1; cbv
            obtain rfl := Option.some.inj h
            subst_vars
            first | exact hk | (simp only [ln_set] at hk ⊢; exact hk)
          · refine sat_brf (len_zero hΩ (ro_Value hE) (l := (cut a0_l 0 (Int.tmod (w64 a1) (w64 ((ln a0_l) + 1))))) hb27) ?_
            conv => arg 1; cbv
            refine sat_cat hΩ (ro_Value hE) ([] : List Value) (cut a0_l 0 (Int.tmod (w64 a1) (w64 ((ln a0_l) + 1)))) fun l28 hl29 n30 hn31 => ?_
            conv => arg 1; cbv
            replace h := bif_some h
            obtain ⟨hb32, h⟩ := h
            refine sat_true (by first | exact hb32 | ((try clear h); subst_vars; first | exact hb32 | rfl)) ?_
            conv => arg 1; cbv
            obtain rfl := Option.some.inj h
            subst_vars
            first | exact hk | (simp only [ln_set] at hk ⊢; exact hk)
        · clear hq74
          obtain ⟨l33, hqq⟩ : ∃ x, x = q := ⟨_, rfl⟩
          subst hqq
          try dsimp only at h
          obtain ⟨ln_l33, hln_l33⟩ : ∃ n, ln l33 = n := ⟨_, rfl⟩
          simp only [hln_l33]
          conv => arg 1; cbv
          refine sat_in hΩ ?_
          conv => arg 1; cbv
          refine sat_true (fits_x hΩ (ro_Value hE) a0_l none) ?_
          conv => arg 1; cbv
          refine sat_len hΩ (ro_Value hE) a0_l fun n34 hn35 => ?_
          conv => arg 1; cbv
          replace h := bif_some h
          obtain ⟨hb36, h⟩ := h
          refine sat_true (by first | exact hb36 | ((try clear h); subst_vars; first | exact hb36 | rfl)) ?_
          conv => arg 1; cbv
          replace h := bif_some h
          obtain ⟨hb37, h⟩ := h
          refine sat_true (by first | exact hb37 | ((try clear h); subst_vars; first | exact hb37 | rfl)) ?_
          conv => arg 1; cbv
          replace h := bif_some h
          obtain ⟨hb38, h⟩ := h
          refine sat_true (by first | exact hb38 | ((try clear h); subst_vars; first | exact hb38 | rfl)) ?_
          conv => arg 1; cbv
          refine sat_cut hΩ (ro_Value hE) a0_l (Int.tmod (w64 a1) (w64 ((ln a0_l) + 1))) (w64 ((Int.tmod (w64 a1) (w64 ((ln a0_l) + 1))) + (Int.tmod (w64 a2) (w64 ((w64 ((ln a0_l) - (Int.tmod (w64 a1) (w64 ((ln a0_l) + 1))))) + 1))))) fun l39 hl40 => ?_
          conv => arg 1; cbv
          refine sat_true (ieq_ok hΩ _) ?_
          conv => arg 1; cbv
          refine sat_true (fits_l hΩ (ro_Value hE) [(Value.mk 4 0 ByteArray.empty (Sl.mk (cut a0_l (Int.tmod (w64 a1) (w64 ((ln a0_l) + 1))) (w64 ((Int.tmod (w64 a1) (w64 ((ln a0_l) + 1))) + (Int.tmod (w64 a2) (w64 ((w64 ((ln a0_l) - (Int.tmod (w64 a1) (w64 ((ln a0_l) + 1))))) + 1)))))) none) (Sl.mk [] (some [])) 0 ByteArray.empty false)]) ?_
          conv => arg 1; cbv
          refine sat_true (len_ok hΩ (ro_Value hE) l33) ?_
          conv => arg 1; cbv
          refine sat_brf (len_zero hΩ (ro_Value hE) (l := [(Value.mk 4 0 ByteArray.empty (Sl.mk (cut a0_l (Int.tmod (w64 a1) (w64 ((ln a0_l) + 1))) (w64 ((Int.tmod (w64 a1) (w64 ((ln a0_l) + 1))) + (Int.tmod (w64 a2) (w64 ((w64 ((ln a0_l) - (Int.tmod (w64 a1) (w64 ((ln a0_l) + 1))))) + 1)))))) none) (Sl.mk [] (some [])) 0 ByteArray.empty false)]) (b := false) (by rfl)) ?_
          conv => arg 1; cbv
          refine sat_cat hΩ (ro_Value hE) l33 [(Value.mk 4 0 ByteArray.empty (Sl.mk (cut a0_l (Int.tmod (w64 a1) (w64 ((ln a0_l) + 1))) (w64 ((Int.tmod (w64 a1) (w64 ((ln a0_l) + 1))) + (Int.tmod (w64 a2) (w64 ((w64 ((ln a0_l) - (Int.tmod (w64 a1) (w64 ((ln a0_l) + 1))))) + 1)))))) none) (Sl.mk [] (some [])) 0 ByteArray.empty false)] fun l41 hl42 n43 hn44 => ?_
          conv => arg 1; cbv
          replace h := bif_some h
          obtain ⟨hb45, h⟩ := h
          refine sat_true (by first | exact hb45 | ((try clear h); subst_vars; first | exact hb45 | rfl)) ?_
          conv => arg 1; cbv
          replace h := Option.bind_eq_some_iff.1 h
          obtain ⟨q, hq73, h⟩ := h
          refine sat_grp hΩ ((fun (q : (List Value)) => (match q with | l59 => ([(0, PV.d (.sl (E.L_Value a0_l) none)), (1, PV.d (.int .u8 a1)), (2, PV.d (.int .u8 a2)), (6, PV.d (.bool false)), (7, PV.d (.int .i64 (Ω.tmod (Ω.wrap .i64 a1) (Ω.wrap .i64 (Ω.add n12 1))))), (8, PV.d (.int .i64 (Ω.wrap .i64 (Ω.add (Ω.tmod (Ω.wrap .i64 a1) (Ω.wrap .i64 (Ω.add n12 1))) (Ω.tmod (Ω.wrap .i64 a2) (Ω.wrap .i64 (Ω.add (Ω.wrap .i64 (Ω.sub n15 (Ω.tmod (Ω.wrap .i64 a1) (Ω.wrap .i64 (Ω.add n12 1))))) 1))))))), (9, PV.row 0 0 (ln l59))], ([X.Obj.row 32 8 (E.L_Value l59) false none] : List X.Obj) :: st))) q) (fun k hk => ?_) ?_
          · clear h
            have h := hq73
            clear hq73
            conv => arg 1; cbv
            refine sat_true (fits_x hΩ (ro_Value hE) a0_l none) ?_
            conv => arg 1; cbv
            refine sat_len hΩ (ro_Value hE) a0_l fun n46 hn47 => ?_
            conv => arg 1; cbv
            replace h := bif_some h
            obtain ⟨hb48, h⟩ := h
            refine sat_true (by first | exact hb48 | ((try clear h); subst_vars; first | exact hb48 | rfl)) ?_
            conv => arg 1; cbv
            replace h := bif_some h
            obtain ⟨hb49, h⟩ := h
            refine sat_true (by first | exact hb49 | ((try clear h); subst_vars; first | exact hb49 | rfl)) ?_
            conv => arg 1; cbv
            replace h := bif_some h
            obtain ⟨hb50, h⟩ := h
            refine sat_true (by first | exact hb50 | ((try clear h); subst_vars; first | exact hb50 | rfl)) ?_
            conv => arg 1; cbv
            refine sat_cut hΩ (ro_Value hE) a0_l (w64 ((Int.tmod (w64 a1) (w64 ((ln a0_l) + 1))) + (Int.tmod (w64 a2) (w64 ((w64 ((ln a0_l) - (Int.tmod (w64 a1) (w64 ((ln a0_l) + 1))))) + 1))))) (ln a0_l) fun l51 hl52 => ?_
            conv => arg 1; cbv
            refine sat_true (ieq_ok hΩ _) ?_
            conv => arg 1; cbv
            refine sat_true (fits_l hΩ (ro_Value hE) (cut a0_l (w64 ((Int.tmod (w64 a1) (w64 ((ln a0_l) + 1))) + (Int.tmod (w64 a2) (w64 ((w64 ((ln a0_l) - (Int.tmod (w64 a1) (w64 ((ln a0_l) + 1))))) + 1))))) (ln a0_l))) ?_
            conv => arg 1; cbv
            refine sat_true (len_ok hΩ (ro_Value hE) (l33 ++ [(Value.mk 4 0 ByteArray.empty (Sl.mk (cut a0_l (Int.tmod (w64 a1) (w64 ((ln a0_l) + 1))) (w64 ((Int.tmod (w64 a1) (w64 ((ln a0_l) + 1))) + (Int.tmod (w64 a2) (w64 ((w64 ((ln a0_l) - (Int.tmod (w64 a1) (w64 ((ln a0_l) + 1))))) + 1)))))) none) (Sl.mk [] (some [])) 0 ByteArray.empty false)])) ?_
            conv => arg 1; cbv
            replace h := bif_cases h
            rcases h with ⟨hb53, h⟩ | ⟨hb53, h⟩
            · refine sat_brt (len_zero hΩ (ro_Value hE) (l := (cut a0_l (w64 ((Int.tmod (w64 a1) (w64 ((ln a0_l) + 1))) + (Int.tmod (w64 a2) (w64 ((w64 ((ln a0_l) - (Int.tmod (w64 a1) (w64 ((ln a0_l) + 1))))) + 1))))) (ln a0_l))) hb53) ?_
              conv => arg 1; cbv
              obtain rfl := Option.some.inj h
              subst_vars
              first | exact hk | (simp only [ln_set] at hk ⊢; exact hk)
            · refine sat_brf (len_zero hΩ (ro_Value hE) (l := (cut a0_l (w64 ((Int.tmod (w64 a1) (w64 ((ln a0_l) + 1))) + (Int.tmod (w64 a2) (w64 ((w64 ((ln a0_l) - (Int.tmod (w64 a1) (w64 ((ln a0_l) + 1))))) + 1))))) (ln a0_l))) hb53) ?_
              conv => arg 1; cbv
              refine sat_cat hΩ (ro_Value hE) (l33 ++ [(Value.mk 4 0 ByteArray.empty (Sl.mk (cut a0_l (Int.tmod (w64 a1) (w64 ((ln a0_l) + 1))) (w64 ((Int.tmod (w64 a1) (w64 ((ln a0_l) + 1))) + (Int.tmod (w64 a2) (w64 ((w64 ((ln a0_l) - (Int.tmod (w64 a1) (w64 ((ln a0_l) + 1))))) + 1)))))) none) (Sl.mk [] (some [])) 0 ByteArray.empty false)]) (cut a0_l (w64 ((Int.tmod (w64 a1) (w64 ((ln a0_l) + 1))) + (Int.tmod (w64 a2) (w64 ((w64 ((ln a0_l) - (Int.tmod (w64 a1) (w64 ((ln a0_l) + 1))))) + 1))))) (ln a0_l)) fun l54 hl55 n56 hn57 => ?_
              conv => arg 1; cbv
              replace h := bif_some h
              obtain ⟨hb58, h⟩ := h
              refine sat_true (by first | exact hb58 | ((try clear h); subst_vars; first | exact hb58 | rfl)) ?_
              conv => arg 1; cbv
              obtain rfl := Option.some.inj h
              subst_vars
              first | exact hk | (simp only [ln_set] at hk ⊢; exact hk)
          · clear hq73
            obtain ⟨l59, hqq⟩ : ∃ x, x = q := ⟨_, rfl⟩
            subst hqq
            try dsimp only at h
            obtain ⟨ln_l59, hln_l59⟩ : ∃ n, ln l59 = n := ⟨_, rfl⟩
            simp only [hln_l59]
            conv => arg 1; cbv
            refine sat_true (len_ok hΩ (ro_Value hE) l59) ?_
            conv => arg 1; cbv
            replace h := Option.bind_eq_some_iff.1 h
            obtain ⟨⟨r60_l, r60_x⟩, hx61, h⟩ := h
            try dsimp only at h
            refine sat_call (ok9 hΩ hE hx61 (by (try clear h); subst_vars; rfl) _) ?_
            conv => arg 1; cbv
            replace h := Option.bind_eq_some_iff.1 h
            obtain ⟨q, hq72, h⟩ := h
            refine sat_grp hΩ ((fun (q : Bool) => (match q with | i71 => ([(0, PV.d (.sl (E.L_Value a0_l) none)), (1, PV.d (.int .u8 a1)), (2, PV.d (.int .u8 a2)), (6, PV.d (.bool i71)), (7, PV.d (.int .i64 (Ω.tmod (Ω.wrap .i64 a1) (Ω.wrap .i64 (Ω.add n12 1))))), (8, PV.d (.int .i64 (Ω.wrap .i64 (Ω.add (Ω.tmod (Ω.wrap .i64 a1) (Ω.wrap .i64 (Ω.add n12 1))) (Ω.tmod (Ω.wrap .i64 a2) (Ω.wrap .i64 (Ω.add (Ω.wrap .i64 (Ω.sub n15 (Ω.tmod (Ω.wrap .i64 a1) (Ω.wrap .i64 (Ω.add n12 1))))) 1))))))), (9, PV.row 0 0 (ln l59)), (10, PV.d (.sl [[.int .u8 4, .int .i64 0, .str ByteArray.empty, .sl [[.int .u8 4, .int .i64 0, .str ByteArray.empty, .sl (E.L_Value l59) none, .sl [] (some []), .int .u8 0, .str ByteArray.empty, .bool false]] (some []), .sl [] (some []), .int .u8 0, .str ByteArray.empty, .bool false]] (some []))), (11, PV.d (.sl (E.L_Child r60_l) (E.X_Child r60_x)))], ([X.Obj.row 32 8 (E.L_Value l59) false none] : List X.Obj) :: st))) q) (fun k hk => ?_) ?_
            · clear h
              have h := hq72
              clear hq72
              conv => arg 1; cbv
              refine sat_true (len_ok hΩ (ro_Value hE) l59) ?_
              conv => arg 1; cbv
              replace h := Option.bind_eq_some_iff.1 h
              obtain ⟨⟨r62_l, r62_x⟩, hx63, h⟩ := h
              try dsimp only at h
              refine sat_call (ok9 hΩ hE hx63 (by (try clear h); subst_vars; rfl) _) ?_
              conv => arg 1; cbv
              replace h := Option.bind_eq_some_iff.1 h
              obtain ⟨r64, hx65, h⟩ := h
              refine sat_call (ok10 hΩ hE hx65 (by (try clear h); subst_vars; rfl) _) ?_
              conv => arg 1; cbv
              replace h := bif_cases h
              rcases h with ⟨hb66, h⟩ | ⟨hb66, h⟩
              · refine sat_brt (by first | exact hb66 | ((try clear h); subst_vars; first | exact hb66 | rfl)) ?_
                conv => arg 1; cbv
                replace h := Option.bind_eq_some_iff.1 h
                obtain ⟨⟨r67_l, r67_x⟩, hx68, h⟩ := h
                try dsimp only at h
                refine sat_call (ok9 hΩ hE hx68 (by (try clear h); subst_vars; rfl) _) ?_
                conv => arg 1; cbv
                replace h := Option.bind_eq_some_iff.1 h
                obtain ⟨r69, hx70, h⟩ := h
                refine sat_call (ok10 hΩ hE hx70 (by (try clear h); subst_vars; rfl) _) ?_
                conv => arg 1; cbv
                obtain rfl := Option.some.inj h
                subst_vars
                first | exact hk | (simp only [ln_set] at hk ⊢; exact hk)
              · refine sat_brf (by first | exact hb66 | ((try clear h); subst_vars; first | exact hb66 | rfl)) ?_
                conv => arg 1; cbv
                obtain rfl := Option.some.inj h
                subst_vars
                first | exact hk | (simp only [ln_set] at hk ⊢; exact hk)
            · clear hq72
              obtain ⟨i71, hqq⟩ : ∃ x, x = q := ⟨_, rfl⟩
              subst hqq
              try dsimp only at h
              obtain ⟨ln_l59, hln_l59⟩ : ∃ n, ln l59 = n := ⟨_, rfl⟩
              simp only [hln_l59]
              conv => arg 1; cbv
              obtain rfl := Option.some.inj h
              subst_vars
              exact sat_pure rfl
  · rw [cf_body hΩ (f := 4) (fn := Tryd.f4) (x := c4) rfl rfl c4_ok rfl rfl rfl]
    unfold P4 at h
    try dsimp only at h
    dsimp only []
    rw [show E.X_Value (some a0_h) = some (E.L_Value a0_h) from by rw [(ro_Value hE).2.1]; rfl]
    conv => arg 1; cbv
    replace h := Option.bind_eq_some_iff.1 h
    obtain ⟨q, hq168, h⟩ := h
    refine sat_grp hΩ ((fun (q : Bool) => (match q with | i83 => ([(0, PV.d (.sl (E.L_Value a0_l) (some (E.L_Value a0_h)))), (1, PV.d (.int .u8 a1)), (2, PV.d (.int .u8 a2)), (6, PV.d (.bool false)), (19, PV.d (.bool i83))], ([] : List X.Obj) :: st))) q) (fun k hk => ?_) ?_
    · clear h
      have h := hq168
      clear hq168
      conv => arg 1; cbv
      replace h := Option.bind_eq_some_iff.1 h
      obtain ⟨r76, hx77, h⟩ := h
      refine sat_call (ok6 hΩ hE hx77 (by (try clear h); subst_vars; rfl) _) ?_
      conv => arg 1; cbv
      replace h := bif_cases h
      rcases h with ⟨hb78, h⟩ | ⟨hb78, h⟩
      · refine sat_brt (by first | exact hb78 | ((try clear h); subst_vars; first | exact hb78 | rfl)) ?_
        conv => arg 1; cbv
        replace h := Option.bind_eq_some_iff.1 h
        obtain ⟨r79, hx80, h⟩ := h
        refine sat_call (ok8 hΩ hE hx80 (by (try clear h); subst_vars; rfl) _) ?_
        conv => arg 1; cbv
        replace h := Option.bind_eq_some_iff.1 h
        obtain ⟨r81, hx82, h⟩ := h
        refine sat_call (ok7 hΩ hE hx82 (by (try clear h); subst_vars; rfl) _) ?_
        conv => arg 1; cbv
        obtain rfl := Option.some.inj h
        subst_vars
        first | exact hk | (simp only [ln_set] at hk ⊢; exact hk)
      · refine sat_brf (by first | exact hb78 | ((try clear h); subst_vars; first | exact hb78 | rfl)) ?_
        conv => arg 1; cbv
        obtain rfl := Option.some.inj h
        subst_vars
        first | exact hk | (simp only [ln_set] at hk ⊢; exact hk)
    · clear hq168
      obtain ⟨i83, hqq⟩ : ∃ x, x = q := ⟨_, rfl⟩
      subst hqq
      try dsimp only at h
      conv => arg 1; cbv
      refine sat_in hΩ ?_
      conv => arg 1; cbv
      replace h := bif_cases h
      rcases h with ⟨hb84, h⟩ | ⟨hb84, h⟩
      · refine sat_brt (by first | exact hb84 | ((try clear h); subst_vars; first | exact hb84 | rfl)) ?_
        conv => arg 1; cbv
        replace h := Option.bind_eq_some_iff.1 h
        obtain ⟨r85, hx86, h⟩ := h
        refine sat_call (ok6 hΩ hE hx86 (by (try clear h); subst_vars; rfl) _) ?_
        conv => arg 1; cbv
        obtain rfl := Option.some.inj h
        subst_vars
        exact sat_pure rfl
      · refine sat_brf (by first | exact hb84 | ((try clear h); subst_vars; first | exact hb84 | rfl)) ?_
        conv => arg 1; cbv
        refine sat_len hΩ (ro_Value hE) a0_l fun n87 hn88 => ?_
        conv => arg 1; cbv
        replace h := bif_cases h
        rcases h with ⟨hb89, h⟩ | ⟨hb89, h⟩
        · cases h
        refine sat_false (by first | exact hb89 | ((try clear h); subst_vars; first | exact hb89 | rfl)) ?_
        conv => arg 1; cbv
        refine sat_len hΩ (ro_Value hE) a0_l fun n90 hn91 => ?_
        conv => arg 1; cbv
        replace h := bif_cases h
        rcases h with ⟨hb92, h⟩ | ⟨hb92, h⟩
        · cases h
        refine sat_false (by first | exact hb92 | ((try clear h); subst_vars; first | exact hb92 | rfl)) ?_
        conv => arg 1; cbv
        refine sat_nil hΩ (ro_Value hE) fun l93 hl94 => ?_
        conv => arg 1; cbv
        replace h := Option.bind_eq_some_iff.1 h
        obtain ⟨q, hq167, h⟩ := h
        refine sat_grp hΩ ((fun (q : (List Value)) => (match q with | l114 => ([(0, PV.d (.sl (E.L_Value a0_l) (some (E.L_Value a0_h)))), (1, PV.d (.int .u8 a1)), (2, PV.d (.int .u8 a2)), (6, PV.d (.bool false)), (7, PV.d (.int .i64 (Ω.tmod (Ω.wrap .i64 a1) (Ω.wrap .i64 (Ω.add n87 1))))), (8, PV.d (.int .i64 (Ω.wrap .i64 (Ω.add (Ω.tmod (Ω.wrap .i64 a1) (Ω.wrap .i64 (Ω.add n87 1))) (Ω.tmod (Ω.wrap .i64 a2) (Ω.wrap .i64 (Ω.add (Ω.wrap .i64 (Ω.sub n90 (Ω.tmod (Ω.wrap .i64 a1) (Ω.wrap .i64 (Ω.add n87 1))))) 1))))))), (9, PV.row 0 0 (ln l114))], ([X.Obj.row 32 8 (E.L_Value l114) false none] : List X.Obj) :: st))) q) (fun k hk => ?_) ?_
        · clear h
          have h := hq167
          clear hq167
          conv => arg 1; cbv
          refine sat_true (fits_x hΩ (ro_Value hE) a0_l (some a0_h)) ?_
          conv => arg 1; cbv
          refine sat_len hΩ (ro_Value hE) a0_l fun n95 hn96 => ?_
          conv => arg 1; cbv
          refine sat_cat hΩ (ro_Value hE) a0_l a0_h fun l97 hl98 n99 hn100 => ?_
          conv => arg 1; cbv
          replace h := bif_some h
          obtain ⟨hb101, h⟩ := h
          refine sat_true (by first | exact hb101 | ((try clear h); subst_vars; first | exact hb101 | rfl)) ?_
          conv => arg 1; cbv
          replace h := bif_some h
          obtain ⟨hb102, h⟩ := h
          refine sat_true (by first | exact hb102 | ((try clear h); subst_vars; first | exact hb102 | rfl)) ?_
          conv => arg 1; cbv
          replace h := bif_some h
          obtain ⟨hb103, h⟩ := h
          refine sat_true (by first | exact hb103 | ((try clear h); subst_vars; first | exact hb103 | rfl)) ?_
          conv => arg 1; cbv
          refine sat_cut hΩ (ro_Value hE) (a0_l ++ a0_h) 0 (Int.tmod (w64 a1) (w64 ((ln a0_l) + 1))) fun l104 hl105 => ?_
          conv => arg 1; cbv
          refine sat_cut hΩ (ro_Value hE) (a0_l ++ a0_h) (Int.tmod (w64 a1) (w64 ((ln a0_l) + 1))) (ln (a0_l ++ a0_h)) fun l106 hl107 => ?_
          conv => arg 1; cbv
          refine sat_true (ieq_ok hΩ _) ?_
          conv => arg 1; cbv
          refine sat_true (fits_l hΩ (ro_Value hE) (cut (a0_l ++ a0_h) 0 (Int.tmod (w64 a1) (w64 ((ln a0_l) + 1))))) ?_
          conv => arg 1; cbv
          refine sat_true (len_ok hΩ (ro_Value hE) ([] : List Value)) ?_
          conv => arg 1; cbv
          replace h := bif_cases h
          rcases h with ⟨hb108, h⟩ | ⟨hb108, h⟩
          · refine sat_brt (len_zero hΩ (ro_Value hE) (l := (cut (a0_l ++ a0_h) 0 (Int.tmod (w64 a1) (w64 ((ln a0_l) + 1))))) hb108) ?_
            conv => arg 1; cbv
            obtain rfl := Option.some.inj h
            subst_vars
            first | exact hk | (simp only [ln_set] at hk ⊢; exact hk)
          · refine sat_brf (len_zero hΩ (ro_Value hE) (l := (cut (a0_l ++ a0_h) 0 (Int.tmod (w64 a1) (w64 ((ln a0_l) + 1))))) hb108) ?_
            conv => arg 1; cbv
            refine sat_cat hΩ (ro_Value hE) ([] : List Value) (cut (a0_l ++ a0_h) 0 (Int.tmod (w64 a1) (w64 ((ln a0_l) + 1)))) fun l109 hl110 n111 hn112 => ?_
            conv => arg 1; cbv
            replace h := bif_some h
            obtain ⟨hb113, h⟩ := h
            refine sat_true (by first | exact hb113 | ((try clear h); subst_vars; first | exact hb113 | rfl)) ?_
            conv => arg 1; cbv
            obtain rfl := Option.some.inj h
            subst_vars
            first | exact hk | (simp only [ln_set] at hk ⊢; exact hk)
        · clear hq167
          obtain ⟨l114, hqq⟩ : ∃ x, x = q := ⟨_, rfl⟩
          subst hqq
          try dsimp only at h
          obtain ⟨ln_l114, hln_l114⟩ : ∃ n, ln l114 = n := ⟨_, rfl⟩
          simp only [hln_l114]
          conv => arg 1; cbv
          refine sat_in hΩ ?_
          conv => arg 1; cbv
          refine sat_true (fits_x hΩ (ro_Value hE) a0_l (some a0_h)) ?_
          conv => arg 1; cbv
          refine sat_len hΩ (ro_Value hE) a0_l fun n115 hn116 => ?_
          conv => arg 1; cbv
          refine sat_cat hΩ (ro_Value hE) a0_l a0_h fun l117 hl118 n119 hn120 => ?_
          conv => arg 1; cbv
          replace h := bif_some h
          obtain ⟨hb121, h⟩ := h
          refine sat_true (by first | exact hb121 | ((try clear h); subst_vars; first | exact hb121 | rfl)) ?_
          conv => arg 1; cbv
          replace h := bif_some h
          obtain ⟨hb122, h⟩ := h
          refine sat_true (by first | exact hb122 | ((try clear h); subst_vars; first | exact hb122 | rfl)) ?_
          conv => arg 1; cbv
          replace h := bif_some h
          obtain ⟨hb123, h⟩ := h
          refine sat_true (by first | exact hb123 | ((try clear h); subst_vars; first | exact hb123 | rfl)) ?_
          conv => arg 1; cbv
          refine sat_cut hΩ (ro_Value hE) (a0_l ++ a0_h) (Int.tmod (w64 a1) (w64 ((ln a0_l) + 1))) (w64 ((Int.tmod (w64 a1) (w64 ((ln a0_l) + 1))) + (Int.tmod (w64 a2) (w64 ((w64 ((ln a0_l) - (Int.tmod (w64 a1) (w64 ((ln a0_l) + 1))))) + 1))))) fun l124 hl125 => ?_
          conv => arg 1; cbv
          refine sat_cut hΩ (ro_Value hE) (a0_l ++ a0_h) (w64 ((Int.tmod (w64 a1) (w64 ((ln a0_l) + 1))) + (Int.tmod (w64 a2) (w64 ((w64 ((ln a0_l) - (Int.tmod (w64 a1) (w64 ((ln a0_l) + 1))))) + 1))))) (ln (a0_l ++ a0_h)) fun l126 hl127 => ?_
          conv => arg 1; cbv
          refine sat_true (ieq_ok hΩ _) ?_
          conv => arg 1; cbv
          refine sat_true (fits_l hΩ (ro_Value hE) [(Value.mk 4 0 ByteArray.empty (Sl.mk (cut (a0_l ++ a0_h) (Int.tmod (w64 a1) (w64 ((ln a0_l) + 1))) (w64 ((Int.tmod (w64 a1) (w64 ((ln a0_l) + 1))) + (Int.tmod (w64 a2) (w64 ((w64 ((ln a0_l) - (Int.tmod (w64 a1) (w64 ((ln a0_l) + 1))))) + 1)))))) (some (cut (a0_l ++ a0_h) (w64 ((Int.tmod (w64 a1) (w64 ((ln a0_l) + 1))) + (Int.tmod (w64 a2) (w64 ((w64 ((ln a0_l) - (Int.tmod (w64 a1) (w64 ((ln a0_l) + 1))))) + 1))))) (ln (a0_l ++ a0_h))))) (Sl.mk [] (some [])) 0 ByteArray.empty false)]) ?_
          conv => arg 1; cbv
          refine sat_true (len_ok hΩ (ro_Value hE) l114) ?_
          conv => arg 1; cbv
          refine sat_brf (len_zero hΩ (ro_Value hE) (l := [(Value.mk 4 0 ByteArray.empty (Sl.mk (cut (a0_l ++ a0_h) (Int.tmod (w64 a1) (w64 ((ln a0_l) + 1))) (w64 ((Int.tmod (w64 a1) (w64 ((ln a0_l) + 1))) + (Int.tmod (w64 a2) (w64 ((w64 ((ln a0_l) - (Int.tmod (w64 a1) (w64 ((ln a0_l) + 1))))) + 1)))))) (some (cut (a0_l ++ a0_h) (w64 ((Int.tmod (w64 a1) (w64 ((ln a0_l) + 1))) + (Int.tmod (w64 a2) (w64 ((w64 ((ln a0_l) - (Int.tmod (w64 a1) (w64 ((ln a0_l) + 1))))) + 1))))) (ln (a0_l ++ a0_h))))) (Sl.mk [] (some [])) 0 ByteArray.empty false)]) (b := false) (by rfl)) ?_
          conv => arg 1; cbv
          refine sat_cat hΩ (ro_Value hE) l114 [(Value.mk 4 0 ByteArray.empty (Sl.mk (cut (a0_l ++ a0_h) (Int.tmod (w64 a1) (w64 ((ln a0_l) + 1))) (w64 ((Int.tmod (w64 a1) (w64 ((ln a0_l) + 1))) + (Int.tmod (w64 a2) (w64 ((w64 ((ln a0_l) - (Int.tmod (w64 a1) (w64 ((ln a0_l) + 1))))) + 1)))))) (some (cut (a0_l ++ a0_h) (w64 ((Int.tmod (w64 a1) (w64 ((ln a0_l) + 1))) + (Int.tmod (w64 a2) (w64 ((w64 ((ln a0_l) - (Int.tmod (w64 a1) (w64 ((ln a0_l) + 1))))) + 1))))) (ln (a0_l ++ a0_h))))) (Sl.mk [] (some [])) 0 ByteArray.empty false)] fun l128 hl129 n130 hn131 => ?_
          conv => arg 1; cbv
          replace h := bif_some h
          obtain ⟨hb132, h⟩ := h
          refine sat_true (by first | exact hb132 | ((try clear h); subst_vars; first | exact hb132 | rfl)) ?_
          conv => arg 1; cbv
          replace h := Option.bind_eq_some_iff.1 h
          obtain ⟨q, hq166, h⟩ := h
          refine sat_grp hΩ ((fun (q : (List Value)) => (match q with | l152 => ([(0, PV.d (.sl (E.L_Value a0_l) (some (E.L_Value a0_h)))), (1, PV.d (.int .u8 a1)), (2, PV.d (.int .u8 a2)), (6, PV.d (.bool false)), (7, PV.d (.int .i64 (Ω.tmod (Ω.wrap .i64 a1) (Ω.wrap .i64 (Ω.add n87 1))))), (8, PV.d (.int .i64 (Ω.wrap .i64 (Ω.add (Ω.tmod (Ω.wrap .i64 a1) (Ω.wrap .i64 (Ω.add n87 1))) (Ω.tmod (Ω.wrap .i64 a2) (Ω.wrap .i64 (Ω.add (Ω.wrap .i64 (Ω.sub n90 (Ω.tmod (Ω.wrap .i64 a1) (Ω.wrap .i64 (Ω.add n87 1))))) 1))))))), (9, PV.row 0 0 (ln l152))], ([X.Obj.row 32 8 (E.L_Value l152) false none] : List X.Obj) :: st))) q) (fun k hk => ?_) ?_
          · clear h
            have h := hq166
            clear hq166
            conv => arg 1; cbv
            refine sat_true (fits_x hΩ (ro_Value hE) a0_l (some a0_h)) ?_
            conv => arg 1; cbv
            refine sat_len hΩ (ro_Value hE) a0_l fun n133 hn134 => ?_
            conv => arg 1; cbv
            refine sat_cat hΩ (ro_Value hE) a0_l a0_h fun l135 hl136 n137 hn138 => ?_
            conv => arg 1; cbv
            replace h := bif_some h
            obtain ⟨hb139, h⟩ := h
            refine sat_true (by first | exact hb139 | ((try clear h); subst_vars; first | exact hb139 | rfl)) ?_
            conv => arg 1; cbv
            replace h := bif_some h
            obtain ⟨hb140, h⟩ := h
            refine sat_true (by first | exact hb140 | ((try clear h); subst_vars; first | exact hb140 | rfl)) ?_
            conv => arg 1; cbv
            replace h := bif_some h
            obtain ⟨hb141, h⟩ := h
            refine sat_true (by first | exact hb141 | ((try clear h); subst_vars; first | exact hb141 | rfl)) ?_
            conv => arg 1; cbv
            refine sat_cut hΩ (ro_Value hE) (a0_l ++ a0_h) (w64 ((Int.tmod (w64 a1) (w64 ((ln a0_l) + 1))) + (Int.tmod (w64 a2) (w64 ((w64 ((ln a0_l) - (Int.tmod (w64 a1) (w64 ((ln a0_l) + 1))))) + 1))))) (ln a0_l) fun l142 hl143 => ?_
            conv => arg 1; cbv
            refine sat_cut hΩ (ro_Value hE) (a0_l ++ a0_h) (ln a0_l) (ln (a0_l ++ a0_h)) fun l144 hl145 => ?_
            conv => arg 1; cbv
            refine sat_true (ieq_ok hΩ _) ?_
            conv => arg 1; cbv
            refine sat_true (fits_l hΩ (ro_Value hE) (cut (a0_l ++ a0_h) (w64 ((Int.tmod (w64 a1) (w64 ((ln a0_l) + 1))) + (Int.tmod (w64 a2) (w64 ((w64 ((ln a0_l) - (Int.tmod (w64 a1) (w64 ((ln a0_l) + 1))))) + 1))))) (ln a0_l))) ?_
            conv => arg 1; cbv
            refine sat_true (len_ok hΩ (ro_Value hE) (l114 ++ [(Value.mk 4 0 ByteArray.empty (Sl.mk (cut (a0_l ++ a0_h) (Int.tmod (w64 a1) (w64 ((ln a0_l) + 1))) (w64 ((Int.tmod (w64 a1) (w64 ((ln a0_l) + 1))) + (Int.tmod (w64 a2) (w64 ((w64 ((ln a0_l) - (Int.tmod (w64 a1) (w64 ((ln a0_l) + 1))))) + 1)))))) (some (cut (a0_l ++ a0_h) (w64 ((Int.tmod (w64 a1) (w64 ((ln a0_l) + 1))) + (Int.tmod (w64 a2) (w64 ((w64 ((ln a0_l) - (Int.tmod (w64 a1) (w64 ((ln a0_l) + 1))))) + 1))))) (ln (a0_l ++ a0_h))))) (Sl.mk [] (some [])) 0 ByteArray.empty false)])) ?_
            conv => arg 1; cbv
            replace h := bif_cases h
            rcases h with ⟨hb146, h⟩ | ⟨hb146, h⟩
            · refine sat_brt (len_zero hΩ (ro_Value hE) (l := (cut (a0_l ++ a0_h) (w64 ((Int.tmod (w64 a1) (w64 ((ln a0_l) + 1))) + (Int.tmod (w64 a2) (w64 ((w64 ((ln a0_l) - (Int.tmod (w64 a1) (w64 ((ln a0_l) + 1))))) + 1))))) (ln a0_l))) hb146) ?_
              conv => arg 1; cbv
              obtain rfl := Option.some.inj h
              subst_vars
              first | exact hk | (simp only [ln_set] at hk ⊢; exact hk)
            · refine sat_brf (len_zero hΩ (ro_Value hE) (l := (cut (a0_l ++ a0_h) (w64 ((Int.tmod (w64 a1) (w64 ((ln a0_l) + 1))) + (Int.tmod (w64 a2) (w64 ((w64 ((ln a0_l) - (Int.tmod (w64 a1) (w64 ((ln a0_l) + 1))))) + 1))))) (ln a0_l))) hb146) ?_
              conv => arg 1; cbv
              refine sat_cat hΩ (ro_Value hE) (l114 ++ [(Value.mk 4 0 ByteArray.empty (Sl.mk (cut (a0_l ++ a0_h) (Int.tmod (w64 a1) (w64 ((ln a0_l) + 1))) (w64 ((Int.tmod (w64 a1) (w64 ((ln a0_l) + 1))) + (Int.tmod (w64 a2) (w64 ((w64 ((ln a0_l) - (Int.tmod (w64 a1) (w64 ((ln a0_l) + 1))))) + 1)))))) (some (cut (a0_l ++ a0_h) (w64 ((Int.tmod (w64 a1) (w64 ((ln a0_l) + 1))) + (Int.tmod (w64 a2) (w64 ((w64 ((ln a0_l) - (Int.tmod (w64 a1) (w64 ((ln a0_l) + 1))))) + 1))))) (ln (a0_l ++ a0_h))))) (Sl.mk [] (some [])) 0 ByteArray.empty false)]) (cut (a0_l ++ a0_h) (w64 ((Int.tmod (w64 a1) (w64 ((ln a0_l) + 1))) + (Int.tmod (w64 a2) (w64 ((w64 ((ln a0_l) - (Int.tmod (w64 a1) (w64 ((ln a0_l) + 1))))) + 1))))) (ln a0_l)) fun l147 hl148 n149 hn150 => ?_
              conv => arg 1; cbv
              replace h := bif_some h
              obtain ⟨hb151, h⟩ := h
              refine sat_true (by first | exact hb151 | ((try clear h); subst_vars; first | exact hb151 | rfl)) ?_
              conv => arg 1; cbv
              obtain rfl := Option.some.inj h
              subst_vars
              first | exact hk | (simp only [ln_set] at hk ⊢; exact hk)
          · clear hq166
            obtain ⟨l152, hqq⟩ : ∃ x, x = q := ⟨_, rfl⟩
            subst hqq
            try dsimp only at h
            obtain ⟨ln_l152, hln_l152⟩ : ∃ n, ln l152 = n := ⟨_, rfl⟩
            simp only [hln_l152]
            conv => arg 1; cbv
            refine sat_true (len_ok hΩ (ro_Value hE) l152) ?_
            conv => arg 1; cbv
            replace h := Option.bind_eq_some_iff.1 h
            obtain ⟨⟨r153_l, r153_x⟩, hx154, h⟩ := h
            try dsimp only at h
            refine sat_call (ok9 hΩ hE hx154 (by (try clear h); subst_vars; rfl) _) ?_
            conv => arg 1; cbv
            replace h := Option.bind_eq_some_iff.1 h
            obtain ⟨q, hq165, h⟩ := h
            refine sat_grp hΩ ((fun (q : Bool) => (match q with | i164 => ([(0, PV.d (.sl (E.L_Value a0_l) (some (E.L_Value a0_h)))), (1, PV.d (.int .u8 a1)), (2, PV.d (.int .u8 a2)), (6, PV.d (.bool i164)), (7, PV.d (.int .i64 (Ω.tmod (Ω.wrap .i64 a1) (Ω.wrap .i64 (Ω.add n87 1))))), (8, PV.d (.int .i64 (Ω.wrap .i64 (Ω.add (Ω.tmod (Ω.wrap .i64 a1) (Ω.wrap .i64 (Ω.add n87 1))) (Ω.tmod (Ω.wrap .i64 a2) (Ω.wrap .i64 (Ω.add (Ω.wrap .i64 (Ω.sub n90 (Ω.tmod (Ω.wrap .i64 a1) (Ω.wrap .i64 (Ω.add n87 1))))) 1))))))), (9, PV.row 0 0 (ln l152)), (10, PV.d (.sl [[.int .u8 4, .int .i64 0, .str ByteArray.empty, .sl [[.int .u8 4, .int .i64 0, .str ByteArray.empty, .sl (E.L_Value l152) none, .sl [] (some []), .int .u8 0, .str ByteArray.empty, .bool false]] (some []), .sl [] (some []), .int .u8 0, .str ByteArray.empty, .bool false]] (some []))), (11, PV.d (.sl (E.L_Child r153_l) (E.X_Child r153_x)))], ([X.Obj.row 32 8 (E.L_Value l152) false none] : List X.Obj) :: st))) q) (fun k hk => ?_) ?_
            · clear h
              have h := hq165
              clear hq165
              conv => arg 1; cbv
              refine sat_true (len_ok hΩ (ro_Value hE) l152) ?_
              conv => arg 1; cbv
              replace h := Option.bind_eq_some_iff.1 h
              obtain ⟨⟨r155_l, r155_x⟩, hx156, h⟩ := h
              try dsimp only at h
              refine sat_call (ok9 hΩ hE hx156 (by (try clear h); subst_vars; rfl) _) ?_
              conv => arg 1; cbv
              replace h := Option.bind_eq_some_iff.1 h
              obtain ⟨r157, hx158, h⟩ := h
              refine sat_call (ok10 hΩ hE hx158 (by (try clear h); subst_vars; rfl) _) ?_
              conv => arg 1; cbv
              replace h := bif_cases h
              rcases h with ⟨hb159, h⟩ | ⟨hb159, h⟩
              · refine sat_brt (by first | exact hb159 | ((try clear h); subst_vars; first | exact hb159 | rfl)) ?_
                conv => arg 1; cbv
                replace h := Option.bind_eq_some_iff.1 h
                obtain ⟨⟨r160_l, r160_x⟩, hx161, h⟩ := h
                try dsimp only at h
                refine sat_call (ok9 hΩ hE hx161 (by (try clear h); subst_vars; rfl) _) ?_
                conv => arg 1; cbv
                replace h := Option.bind_eq_some_iff.1 h
                obtain ⟨r162, hx163, h⟩ := h
                refine sat_call (ok10 hΩ hE hx163 (by (try clear h); subst_vars; rfl) _) ?_
                conv => arg 1; cbv
                obtain rfl := Option.some.inj h
                subst_vars
                first | exact hk | (simp only [ln_set] at hk ⊢; exact hk)
              · refine sat_brf (by first | exact hb159 | ((try clear h); subst_vars; first | exact hb159 | rfl)) ?_
                conv => arg 1; cbv
                obtain rfl := Option.some.inj h
                subst_vars
                first | exact hk | (simp only [ln_set] at hk ⊢; exact hk)
            · clear hq165
              obtain ⟨i164, hqq⟩ : ∃ x, x = q := ⟨_, rfl⟩
              subst hqq
              try dsimp only at h
              obtain ⟨ln_l152, hln_l152⟩ : ∃ n, ln l152 = n := ⟨_, rfl⟩
              simp only [hln_l152]
              conv => arg 1; cbv
              obtain rfl := Option.some.inj h
              subst_vars
              exact sat_pure rfl
end Go.Proofs.YtjoinlfkebgfkaaDoor
