/- The interpreter computes just these functions: printed by a small program. -/
import Derived.Test.YtamllgdaepjcfaaTTD2
namespace Go.Proofs.Ytamllgdaepjcfaa
open Go Go.X
set_option linter.unusedVariables false
set_option linter.unusedSimpArgs false
set_option maxRecDepth 100000
set_option maxHeartbeats 4000000 in
theorem ok49 {Ω : Om} {E : Enc} (hΩ : real (call S) = Ω) (hE : theEnc = E) {fu : Nat} {a0 : Int} {a1 : Int} {r : Note} (h : P49 fu a0 a1 = some r) {args : List PV} (ha : [PV.d (.int .u8 a0), PV.d (.int .i64 a1)] = args) (st : St) :
    Sat (Ω.cf 49 args st) (fun q => q = (pv_Note E r, st)) := by
  subst ha
  rw [cf_body hΩ (f := 49) (fn := Try.f49) (x := c49) rfl rfl c49_ok rfl rfl]
  unfold P49 at h
  try dsimp only at h
  conv => arg 1; cbv
  obtain rfl := Option.some.inj h
  subst_vars
  exact sat_pure rfl
set_option maxHeartbeats 4000000 in
theorem ok48 {Ω : Om} {E : Enc} (hΩ : real (call S) = Ω) (hE : theEnc = E) {fu : Nat} {a0 : Sl Note} {a1 : Int} {r : Int} (h : P48 fu a0 a1 = some r) {args : List PV} (ha : [PV.d (.sl (E.L_Note a0.l) (E.X_Note a0.x)), PV.d (.int .u8 a1)] = args) (st : St) :
    Sat (Ω.cf 48 args st) (fun q => q = (PV.d (.int .i64 r), st)) := by
  subst ha
  rcases a0 with ⟨a0_l, a0_x⟩
  rw [cf_body hΩ (f := 48) (fn := Try.f48) (x := c48) rfl rfl c48_ok rfl rfl]
  unfold P48 at h
  try dsimp only at h
  conv => arg 1; cbv
  refine sat_len hΩ (ro_Note hE) a0_l (by first | rfl | ((try clear h); subst_vars; rfl)) fun n1 hn2 => ?_
  conv => arg 1; cbv
  obtain ⟨q, hl11, hz⟩ := Option.bind_eq_some_iff.1 h
  clear h
  have h := hz
  clear hz
  refine sat_loop hΩ (fun (a : Int × Int) => (match a with | (i3, i4) => ([(0, PV.d (.sl (E.L_Note a0_l) (E.X_Note a0_x))), (1, PV.d (.int .u8 a1)), (4, PV.d (.int .i64 i3)), (7, PV.d (.sl (E.L_Note a0_l) (E.X_Note a0_x))), (8, PV.d (.int .i64 n1)), (9, PV.d (.int .i64 i4))], ([] : List X.Obj) :: st))) (fun (q : (Int × Int)) => (match q with | (o12, o13) => (.exit 0, [(0, PV.d (.sl (E.L_Note a0_l) (E.X_Note a0_x))), (1, PV.d (.int .u8 a1)), (4, PV.d (.int .i64 o12)), (7, PV.d (.sl (E.L_Note a0_l) (E.X_Note a0_x))), (8, PV.d (.int .i64 n1)), (9, PV.d (.int .i64 o13))], ([] : List X.Obj) :: st))) (0, 0) hl11 (by first | rfl | ((try clear h); subst_vars; rfl) | ((try clear h); subst_vars; simp only [ln_set])) ?_ ?_
  · clear h hl11
    rintro ⟨i3, i4⟩ q h
    unfold P48_s0 at h
    dsimp only at h
    conv => arg 1; cbv
    refine sat_in hΩ ?_
    conv => arg 1; cbv
    replace h := bif_cases h
    rcases h with ⟨hb5, h⟩ | ⟨hb5, h⟩
    · refine sat_brt (by first | exact hb5 | ((try clear h); subst_vars; first | exact hb5 | rfl)) ?_
      conv => arg 1; cbv
      refine sat_true (fits_l hΩ (ro_Note hE) a0_l (by first | rfl | ((try clear h); subst_vars; rfl))) ?_
      conv => arg 1; cbv
      obtain ⟨⟨x6_Kind, x6_Inst, x6_Name, x6_Late, x6_Text⟩, hx7, hz⟩ := Option.bind_eq_some_iff.1 h
      clear h
      have h := hz
      clear hz
      try dsimp only at h
      refine sat_bind (nth_ok hΩ (ro_Note hE) hx7 (by first | rfl | ((try clear h); subst_vars; rfl)) (by first | rfl | ((try clear h); subst_vars; rfl))) ?_
      conv => arg 1; cbv
      obtain ⟨q, hq10, hz⟩ := Option.bind_eq_some_iff.1 h
      clear h
      have h := hz
      clear hz
      refine sat_grp hΩ ((fun (q : Int) => (match q with | i9 => (.normal, [(0, PV.d (.sl (E.L_Note a0_l) (E.X_Note a0_x))), (1, PV.d (.int .u8 a1)), (4, PV.d (.int .i64 i9)), (6, PV.ptr 0 0 0), (7, PV.d (.sl (E.L_Note a0_l) (E.X_Note a0_x))), (8, PV.d (.int .i64 n1)), (9, PV.d (.int .i64 i4))], ([X.Obj.box 70 [.d (.int .u8 x6_Kind), .d (.int .i64 x6_Inst), .d (.str x6_Name), .d (.bool x6_Late), .d (.str x6_Text)]] : List X.Obj) :: st))) q) (fun k hk => ?_) ?_
      · clear h
        have h := hq10
        clear hq10
        conv => arg 1; cbv
        replace h := bif_cases h
        rcases h with ⟨hb8, h⟩ | ⟨hb8, h⟩
        · refine sat_brt (by first | exact hb8 | ((try clear h); subst_vars; first | exact hb8 | rfl)) ?_
          conv => arg 1; cbv
          obtain rfl := Option.some.inj h
          subst_vars
          first | exact hk | (simp only [ln_set] at hk ⊢; exact hk)
        · refine sat_brf (by first | exact hb8 | ((try clear h); subst_vars; first | exact hb8 | rfl)) ?_
          conv => arg 1; cbv
          obtain rfl := Option.some.inj h
          subst_vars
          first | exact hk | (simp only [ln_set] at hk ⊢; exact hk)
      · clear hq10
        obtain ⟨i9, hqq⟩ : ∃ x, x = q := ⟨_, rfl⟩
        subst hqq
        try dsimp only at h
        conv => arg 1; cbv
        obtain rfl := Option.some.inj h
        subst_vars
        first | exact sat_pure ⟨rfl, rfl, rfl⟩ | (refine sat_pure ⟨rfl, ?_, ?_⟩ <;> first | rfl | (dsimp only; simp only [ln_set]; rfl))
    · refine sat_brf (by first | exact hb5 | ((try clear h); subst_vars; first | exact hb5 | rfl)) ?_
      conv => arg 1; cbv
      obtain rfl := Option.some.inj h
      subst_vars
      first | exact sat_pure (.inl ⟨⟨_, rfl⟩, rfl⟩) | (refine sat_pure (.inl ⟨⟨_, rfl⟩, ?_⟩); dsimp only; simp only [ln_set]; rfl)
  · clear hl11
    rcases q with ⟨o12, o13⟩
    dsimp only at h
    conv => arg 1; cbv
    obtain rfl := Option.some.inj h
    subst_vars
    exact sat_pure rfl
set_option maxHeartbeats 4000000 in
theorem ok47 {Ω : Om} {E : Enc} (hΩ : real (call S) = Ω) (hE : theEnc = E) {fu : Nat} {a0 : Sl Note} {a1 : Int} {r : (Sl Note)} (h : P47 fu a0 a1 = some r) {args : List PV} (ha : [PV.d (.sl (E.L_Note a0.l) (E.X_Note a0.x)), PV.d (.int .i64 a1)] = args) (st : St) :
    Sat (Ω.cf 47 args st) (fun q => q = (PV.d (.sl (E.L_Note r.l) (E.X_Note r.x)), st)) := by
  subst ha
  rcases a0 with ⟨a0_l, a0_x⟩
  rw [cf_body hΩ (f := 47) (fn := Try.f47) (x := c47) rfl rfl c47_ok rfl rfl]
  unfold P47 at h
  try dsimp only at h
  conv => arg 1; cbv
  refine sat_nil hΩ (ro_Note hE) fun l1 hl2 => ?_
  conv => arg 1; cbv
  refine sat_len hΩ (ro_Note hE) a0_l (by first | rfl | ((try clear h); subst_vars; rfl)) fun n3 hn4 => ?_
  conv => arg 1; cbv
  obtain ⟨q, hl18, hz⟩ := Option.bind_eq_some_iff.1 h
  clear h
  have h := hz
  clear hz
  refine sat_loop hΩ (fun (a : (List Note) × Int) => (match a with | (l5, i6) => ([(0, PV.d (.sl (E.L_Note a0_l) (E.X_Note a0_x))), (1, PV.d (.int .i64 a1)), (4, PV.row 0 0 (ln l5)), (7, PV.d (.sl (E.L_Note a0_l) (E.X_Note a0_x))), (8, PV.d (.int .i64 n3)), (9, PV.d (.int .i64 i6))], ([X.Obj.row 70 5 (E.L_Note l5) false none] : List X.Obj) :: st))) (fun (q : ((List Note) × Int)) => (match q with | (o19, o20) => (.exit 0, [(0, PV.d (.sl (E.L_Note a0_l) (E.X_Note a0_x))), (1, PV.d (.int .i64 a1)), (4, PV.row 0 0 (ln o19)), (7, PV.d (.sl (E.L_Note a0_l) (E.X_Note a0_x))), (8, PV.d (.int .i64 n3)), (9, PV.d (.int .i64 o20))], ([X.Obj.row 70 5 (E.L_Note o19) false none] : List X.Obj) :: st))) (([] : List Note), 0) hl18 (by first | rfl | ((try clear h); subst_vars; rfl) | ((try clear h); subst_vars; simp only [ln_set])) ?_ ?_
  · clear h hl18
    rintro ⟨l5, i6⟩ q h
    unfold P47_s0 at h
    dsimp only at h
    obtain ⟨ln_l5, hln_l5⟩ : ∃ n, ln l5 = n := ⟨_, rfl⟩
    simp only [hln_l5]
    conv => arg 1; cbv
    refine sat_in hΩ ?_
    conv => arg 1; cbv
    replace h := bif_cases h
    rcases h with ⟨hb7, h⟩ | ⟨hb7, h⟩
    · refine sat_brt (by first | exact hb7 | ((try clear h); subst_vars; first | exact hb7 | rfl)) ?_
      conv => arg 1; cbv
      refine sat_true (fits_l hΩ (ro_Note hE) a0_l (by first | rfl | ((try clear h); subst_vars; rfl))) ?_
      conv => arg 1; cbv
      obtain ⟨⟨x8_Kind, x8_Inst, x8_Name, x8_Late, x8_Text⟩, hx9, hz⟩ := Option.bind_eq_some_iff.1 h
      clear h
      have h := hz
      clear hz
      try dsimp only at h
      refine sat_bind (nth_ok hΩ (ro_Note hE) hx9 (by first | rfl | ((try clear h); subst_vars; rfl)) (by first | rfl | ((try clear h); subst_vars; rfl))) ?_
      conv => arg 1; cbv
      obtain ⟨q, hq17, hz⟩ := Option.bind_eq_some_iff.1 h
      clear h
      have h := hz
      clear hz
      refine sat_grp hΩ ((fun (q : (List Note)) => (match q with | l16 => (.normal, [(0, PV.d (.sl (E.L_Note a0_l) (E.X_Note a0_x))), (1, PV.d (.int .i64 a1)), (4, PV.row 0 0 (ln l16)), (6, PV.ptr 0 1 0), (7, PV.d (.sl (E.L_Note a0_l) (E.X_Note a0_x))), (8, PV.d (.int .i64 n3)), (9, PV.d (.int .i64 i6))], ([X.Obj.row 70 5 (E.L_Note l16) false none, X.Obj.box 70 [.d (.int .u8 x8_Kind), .d (.int .i64 x8_Inst), .d (.str x8_Name), .d (.bool x8_Late), .d (.str x8_Text)]] : List X.Obj) :: st))) q) (fun k hk => ?_) ?_
      · clear h
        have h := hq17
        clear hq17
        conv => arg 1; cbv
        replace h := bif_cases h
        rcases h with ⟨hb10, h⟩ | ⟨hb10, h⟩
        · refine sat_brt (by first | exact hb10 | ((try clear h); subst_vars; first | exact hb10 | rfl)) ?_
          conv => arg 1; cbv
          refine sat_in hΩ ?_
          conv => arg 1; cbv
          refine sat_true (ieq_ok hΩ _) ?_
          conv => arg 1; cbv
          refine sat_true (fits_l hΩ (ro_Note hE) [(Note.mk x8_Kind x8_Inst x8_Name x8_Late x8_Text)] (by first | rfl | ((try clear h); subst_vars; rfl))) ?_
          conv => arg 1; cbv
          refine sat_true (len_ok hΩ (ro_Note hE) l5 (by first | rfl | ((try clear h); subst_vars; rfl) | ((try clear h); subst_vars; simp only [ln_set])) (by first | rfl | ((try clear h); subst_vars; rfl) | ((try clear h); subst_vars; simp only [ln_set]))) ?_
          conv => arg 1; cbv
          refine sat_brf (len_zero hΩ (ro_Note hE) (l := [(Note.mk x8_Kind x8_Inst x8_Name x8_Late x8_Text)]) (b := false) (by rfl) (by first | rfl | ((try clear h); subst_vars; rfl))) ?_
          conv => arg 1; cbv
          refine sat_cat hΩ (ro_Note hE) l5 [(Note.mk x8_Kind x8_Inst x8_Name x8_Late x8_Text)] (by first | rfl | ((try clear h); subst_vars; rfl)) (by first | rfl | ((try clear h); subst_vars; rfl)) fun l11 hl12 n13 hn14 => ?_
          conv => arg 1; cbv
          replace h := bif_some h
          obtain ⟨hb15, h⟩ := h
          refine sat_true (by first | exact hb15 | ((try clear h); subst_vars; first | exact hb15 | rfl)) ?_
          conv => arg 1; cbv
          obtain rfl := Option.some.inj h
          subst_vars
          first | exact hk | (simp only [ln_set] at hk ⊢; exact hk)
        · refine sat_brf (by first | exact hb10 | ((try clear h); subst_vars; first | exact hb10 | rfl)) ?_
          conv => arg 1; cbv
          obtain rfl := Option.some.inj h
          subst_vars
          first | exact hk | (simp only [ln_set] at hk ⊢; exact hk)
      · clear hq17
        obtain ⟨l16, hqq⟩ : ∃ x, x = q := ⟨_, rfl⟩
        subst hqq
        try dsimp only at h
        obtain ⟨ln_l16, hln_l16⟩ : ∃ n, ln l16 = n := ⟨_, rfl⟩
        simp only [hln_l16]
        conv => arg 1; cbv
        obtain rfl := Option.some.inj h
        subst_vars
        first | exact sat_pure ⟨rfl, rfl, rfl⟩ | (refine sat_pure ⟨rfl, ?_, ?_⟩ <;> first | rfl | (dsimp only; simp only [ln_set]; rfl))
    · refine sat_brf (by first | exact hb7 | ((try clear h); subst_vars; first | exact hb7 | rfl)) ?_
      conv => arg 1; cbv
      obtain rfl := Option.some.inj h
      subst_vars
      first | exact sat_pure (.inl ⟨⟨_, rfl⟩, rfl⟩) | (refine sat_pure (.inl ⟨⟨_, rfl⟩, ?_⟩); dsimp only; simp only [ln_set]; rfl)
  · clear hl18
    rcases q with ⟨o19, o20⟩
    dsimp only at h
    obtain ⟨ln_o19, hln_o19⟩ : ∃ n, ln o19 = n := ⟨_, rfl⟩
    simp only [hln_o19]
    conv => arg 1; cbv
    refine sat_true (len_ok hΩ (ro_Note hE) o19 (by first | rfl | ((try clear h); subst_vars; rfl) | ((try clear h); subst_vars; simp only [ln_set])) (by first | rfl | ((try clear h); subst_vars; rfl) | ((try clear h); subst_vars; simp only [ln_set]))) ?_
    conv => arg 1; cbv
    obtain rfl := Option.some.inj h
    subst_vars
    exact sat_pure rfl
set_option maxHeartbeats 4000000 in
theorem ok46 {Ω : Om} {E : Enc} (hΩ : real (call S) = Ω) (hE : theEnc = E) {fu : Nat} {r : Bool} (h : P46 fu = some r) {args : List PV} (ha : [] = args) (st : St) :
    Sat (Ω.cf 46 args st) (fun q => q = (PV.d (.bool r), st)) := by
  subst ha
  rw [cf_body hΩ (f := 46) (fn := Try.f46) (x := c46) rfl rfl c46_ok rfl rfl]
  unfold P46 at h
  try dsimp only at h
  conv => arg 1; cbv
  obtain ⟨⟨r1_Kind, r1_Inst, r1_Name, r1_Late, r1_Text⟩, hx2, hz⟩ := Option.bind_eq_some_iff.1 h
  clear h
  have h := hz
  clear hz
  try dsimp only at h
  refine sat_call (ok49 hΩ hE hx2 (by (try clear h); subst_vars; rfl) _) ?_
  conv => arg 1; cbv
  obtain ⟨⟨r3_Kind, r3_Inst, r3_Name, r3_Late, r3_Text⟩, hx4, hz⟩ := Option.bind_eq_some_iff.1 h
  clear h
  have h := hz
  clear hz
  try dsimp only at h
  refine sat_call (ok49 hΩ hE hx4 (by (try clear h); subst_vars; rfl) _) ?_
  conv => arg 1; cbv
  obtain ⟨⟨r5_Kind, r5_Inst, r5_Name, r5_Late, r5_Text⟩, hx6, hz⟩ := Option.bind_eq_some_iff.1 h
  clear h
  have h := hz
  clear hz
  try dsimp only at h
  refine sat_call (ok49 hΩ hE hx6 (by (try clear h); subst_vars; rfl) _) ?_
  conv => arg 1; cbv
  refine sat_true (same_ok hΩ _) ?_
  conv => arg 1; cbv
  obtain ⟨⟨r7_Kind, r7_Inst, r7_Name, r7_Late, r7_Text⟩, hx8, hz⟩ := Option.bind_eq_some_iff.1 h
  clear h
  have h := hz
  clear hz
  try dsimp only at h
  refine sat_call (ok49 hΩ hE hx8 (by (try clear h); subst_vars; rfl) _) ?_
  conv => arg 1; cbv
  refine sat_true (same_ok hΩ _) ?_
  conv => arg 1; cbv
  obtain ⟨⟨r9_Kind, r9_Inst, r9_Name, r9_Late, r9_Text⟩, hx10, hz⟩ := Option.bind_eq_some_iff.1 h
  clear h
  have h := hz
  clear hz
  try dsimp only at h
  refine sat_call (ok49 hΩ hE hx10 (by (try clear h); subst_vars; rfl) _) ?_
  conv => arg 1; cbv
  refine sat_true (same_ok hΩ _) ?_
  conv => arg 1; cbv
  obtain ⟨⟨r11_Kind, r11_Inst, r11_Name, r11_Late, r11_Text⟩, hx12, hz⟩ := Option.bind_eq_some_iff.1 h
  clear h
  have h := hz
  clear hz
  try dsimp only at h
  refine sat_call (ok49 hΩ hE hx12 (by (try clear h); subst_vars; rfl) _) ?_
  conv => arg 1; cbv
  refine sat_true (same_ok hΩ _) ?_
  conv => arg 1; cbv
  obtain ⟨l13, hx14, hz⟩ := Option.bind_eq_some_iff.1 h
  clear h
  have h := hz
  clear hz
  have hL15 : ([[.int .u8 r5_Kind, .int .i64 r5_Inst, .str r5_Name, .bool r5_Late, .str r5_Text], [.int .u8 r7_Kind, .int .i64 r7_Inst, .str r7_Name, .bool r7_Late, .str r7_Text], [.int .u8 r1_Kind, .int .i64 r1_Inst, .str r1_Name, .bool r1_Late, .str r1_Text], [.int .u8 r3_Kind, .int .i64 r3_Inst, .str r3_Name, .bool r3_Late, .str r3_Text], [.int .u8 r9_Kind, .int .i64 r9_Inst, .str r9_Name, .bool r9_Late, .str r9_Text], [.int .u8 r11_Kind, .int .i64 r11_Inst, .str r11_Name, .bool r11_Late, .str r11_Text]] : List (List D)) = E.L_Note l13 := by (have hy := Option.some.inj hx14; clear h; subst hy; subst hE; rfl)
  rw [hL15]
  clear hL15
  conv => arg 1; cbv
  refine sat_true (same_ok hΩ _) ?_
  conv => arg 1; cbv
  obtain ⟨⟨r16, r17⟩, hx18, hz⟩ := Option.bind_eq_some_iff.1 h
  clear h
  have h := hz
  clear hz
  try dsimp only at h
  refine sat_call (ok35 hΩ hE hx18 (by (try clear h); subst_vars; rfl) _) ?_
  conv => arg 1; cbv
  refine sat_true (fits_x hΩ (ro_Note hE) l13 (some []) (by first | rfl | ((try clear h); subst_vars; rfl)) (by first | rfl | ((try clear h); subst_vars; rfl))) ?_
  conv => arg 1; cbv
  refine sat_len hΩ (ro_Note hE) l13 (by first | rfl | ((try clear h); subst_vars; rfl)) fun n19 hn20 => ?_
  conv => arg 1; cbv
  refine sat_cat hΩ (ro_Note hE) l13 [] (by first | rfl | ((try clear h); subst_vars; rfl)) (by first | rfl | ((try clear h); subst_vars; rfl)) fun l21 hl22 n23 hn24 => ?_
  conv => arg 1; cbv
  replace h := bif_some h
  obtain ⟨hb25, h⟩ := h
  refine sat_true (by first | exact hb25 | ((try clear h); subst_vars; first | exact hb25 | rfl)) ?_
  conv => arg 1; cbv
  replace h := bif_some h
  obtain ⟨hb26, h⟩ := h
  refine sat_true (by first | exact hb26 | ((try clear h); subst_vars; first | exact hb26 | rfl)) ?_
  conv => arg 1; cbv
  replace h := bif_some h
  obtain ⟨hb27, h⟩ := h
  refine sat_true (by first | exact hb27 | ((try clear h); subst_vars; first | exact hb27 | rfl)) ?_
  conv => arg 1; cbv
  refine sat_cut hΩ (ro_Note hE) (l13 ++ []) 1 (ln l13) (by first | rfl | ((try clear h); subst_vars; rfl)) (by first | rfl | ((try clear h); subst_vars; rfl)) (by first | rfl | ((try clear h); subst_vars; rfl)) fun l28 hl29 => ?_
  conv => arg 1; cbv
  refine sat_cut hΩ (ro_Note hE) (l13 ++ []) (ln l13) (ln (l13 ++ [])) (by first | rfl | ((try clear h); subst_vars; rfl)) (by first | rfl | ((try clear h); subst_vars; rfl)) (by first | rfl | ((try clear h); subst_vars; rfl)) fun l30 hl31 => ?_
  conv => arg 1; cbv
  obtain ⟨⟨r32, r33⟩, hx34, hz⟩ := Option.bind_eq_some_iff.1 h
  clear h
  have h := hz
  clear hz
  try dsimp only at h
  refine sat_call (ok35 hΩ hE hx34 (by (try clear h); subst_vars; rfl) _) ?_
  conv => arg 1; cbv
  refine sat_in hΩ ?_
  conv => arg 1; cbv
  obtain ⟨⟨r35_Kind, r35_Inst, r35_Name, r35_Late, r35_Text⟩, hx36, hz⟩ := Option.bind_eq_some_iff.1 h
  clear h
  have h := hz
  clear hz
  try dsimp only at h
  refine sat_call (ok49 hΩ hE hx36 (by (try clear h); subst_vars; rfl) _) ?_
  conv => arg 1; cbv
  refine sat_true (ieq_ok hΩ _) ?_
  conv => arg 1; cbv
  refine sat_true (fits_l hΩ (ro_Note hE) [(Note.mk r35_Kind r35_Inst r35_Name r35_Late r35_Text)] (by first | rfl | ((try clear h); subst_vars; rfl))) ?_
  conv => arg 1; cbv
  refine sat_brf (len_zero hΩ (ro_Note hE) (l := [(Note.mk r35_Kind r35_Inst r35_Name r35_Late r35_Text)]) (b := false) (by rfl) (by first | rfl | ((try clear h); subst_vars; rfl))) ?_
  conv => arg 1; cbv
  refine sat_true (fits_x hΩ (ro_Note hE) l13 (some []) (by first | rfl | ((try clear h); subst_vars; rfl)) (by first | rfl | ((try clear h); subst_vars; rfl))) ?_
  conv => arg 1; cbv
  refine sat_cat hΩ (ro_Note hE) l13 [(Note.mk r35_Kind r35_Inst r35_Name r35_Late r35_Text)] (by first | rfl | ((try clear h); subst_vars; rfl)) (by first | rfl | ((try clear h); subst_vars; rfl)) fun l37 hl38 n39 hn40 => ?_
  conv => arg 1; cbv
  refine sat_len hΩ (ro_Note hE) (l13 ++ [(Note.mk r35_Kind r35_Inst r35_Name r35_Late r35_Text)]) (by first | rfl | ((try clear h); subst_vars; rfl)) fun n41 hn42 => ?_
  conv => arg 1; cbv
  replace h := bif_some h
  obtain ⟨hb43, h⟩ := h
  refine sat_true (by first | exact hb43 | ((try clear h); subst_vars; first | exact hb43 | rfl)) ?_
  conv => arg 1; cbv
  refine sat_true (len_ok hΩ (ro_Note hE) (l13 ++ [(Note.mk r35_Kind r35_Inst r35_Name r35_Late r35_Text)]) (by first | rfl | ((try clear h); subst_vars; rfl) | ((try clear h); subst_vars; simp only [ln_set])) (by first | rfl | ((try clear h); subst_vars; rfl) | ((try clear h); subst_vars; simp only [ln_set]))) ?_
  conv => arg 1; cbv
  obtain ⟨⟨r44, r45⟩, hx46, hz⟩ := Option.bind_eq_some_iff.1 h
  clear h
  have h := hz
  clear hz
  try dsimp only at h
  refine sat_call (ok35 hΩ hE hx46 (by (try clear h); subst_vars; rfl) _) ?_
  conv => arg 1; cbv
  obtain ⟨q, hq61, hz⟩ := Option.bind_eq_some_iff.1 h
  clear h
  have h := hz
  clear hz
  refine sat_grp hΩ ((fun (q : Bool) => (match q with | i60 => ([(0, PV.d (.bool i60)), (1, PV.ptr 0 0 0), (2, PV.ptr 0 1 0), (3, PV.d (.sl (E.L_Note l13) (some []))), (4, PV.d (.int .i64 r16)), (5, PV.d (.int .i64 r17)), (6, PV.d (.int .i64 r32)), (7, PV.d (.int .i64 r33)), (8, PV.d (.int .i64 r44)), (9, PV.d (.int .i64 r45))], ([X.Obj.box 70 [.d (.int .u8 r1_Kind), .d (.int .i64 r1_Inst), .d (.str r1_Name), .d (.bool r1_Late), .d (.str r1_Text)], X.Obj.box 70 [.d (.int .u8 r3_Kind), .d (.int .i64 r3_Inst), .d (.str r3_Name), .d (.bool r3_Late), .d (.str r3_Text)], X.Obj.row 70 5 (E.L_Note l37) false none] : List X.Obj) :: st))) q) (fun k hk => ?_) ?_
  · clear h
    have h := hq61
    clear hq61
    conv => arg 1; cbv
    replace h := bif_cases h
    rcases h with ⟨hb47, h⟩ | ⟨hb47, h⟩
    · refine sat_brt (by first | exact hb47 | ((try clear h); subst_vars; first | exact hb47 | rfl)) ?_
      conv => arg 1; cbv
      replace h := bif_cases h
      rcases h with ⟨hb48, h⟩ | ⟨hb48, h⟩
      · refine sat_brt (by first | exact hb48 | ((try clear h); subst_vars; first | exact hb48 | rfl)) ?_
        conv => arg 1; cbv
        replace h := bif_cases h
        rcases h with ⟨hb49, h⟩ | ⟨hb49, h⟩
        · refine sat_brt (by first | exact hb49 | ((try clear h); subst_vars; first | exact hb49 | rfl)) ?_
          conv => arg 1; cbv
          refine sat_tick hΩ ?_
          conv => arg 1; cbv
          replace h := bif_cases h
          rcases h with ⟨hb50, h⟩ | ⟨hb50, h⟩
          · refine sat_brt (by first | exact hb50 | ((try clear h); subst_vars; first | exact hb50 | rfl)) ?_
            conv => arg 1; cbv
            replace h := bif_cases h
            rcases h with ⟨hb51, h⟩ | ⟨hb51, h⟩
            · refine sat_brt (by first | exact hb51 | ((try clear h); subst_vars; first | exact hb51 | rfl)) ?_
              conv => arg 1; cbv
              replace h := bif_cases h
              rcases h with ⟨hb52, h⟩ | ⟨hb52, h⟩
              · refine sat_brt (by first | exact hb52 | ((try clear h); subst_vars; first | exact hb52 | rfl)) ?_
                conv => arg 1; cbv
                refine sat_tick hΩ ?_
                conv => arg 1; cbv
                obtain ⟨r53, hx54, hz⟩ := Option.bind_eq_some_iff.1 h
                clear h
                have h := hz
                clear hz
                refine sat_call (ok48 hΩ hE hx54 (by (try clear h); subst_vars; rfl) _) ?_
                conv => arg 1; cbv
                replace h := bif_cases h
                rcases h with ⟨hb55, h⟩ | ⟨hb55, h⟩
                · refine sat_brt (by first | exact hb55 | ((try clear h); subst_vars; first | exact hb55 | rfl)) ?_
                  conv => arg 1; cbv
                  obtain ⟨⟨r56_l, r56_x⟩, hx57, hz⟩ := Option.bind_eq_some_iff.1 h
                  clear h
                  have h := hz
                  clear hz
                  try dsimp only at h
                  refine sat_call (ok47 hΩ hE hx57 (by (try clear h); subst_vars; rfl) _) ?_
                  conv => arg 1; cbv
                  refine sat_len hΩ (ro_Note hE) r56_l (by first | rfl | ((try clear h); subst_vars; rfl)) fun n58 hn59 => ?_
                  conv => arg 1; cbv
                  obtain rfl := Option.some.inj h
                  subst_vars
                  first | exact hk | (simp only [ln_set] at hk ⊢; exact hk)
                · refine sat_brf (by first | exact hb55 | ((try clear h); subst_vars; first | exact hb55 | rfl)) ?_
                  conv => arg 1; cbv
                  obtain rfl := Option.some.inj h
                  subst_vars
                  first | exact hk | (simp only [ln_set] at hk ⊢; exact hk)
              · refine sat_brf (by first | exact hb52 | ((try clear h); subst_vars; first | exact hb52 | rfl)) ?_
                conv => arg 1; cbv
                refine sat_tick hΩ ?_
                conv => arg 1; cbv
                obtain rfl := Option.some.inj h
                subst_vars
                first | exact hk | (simp only [ln_set] at hk ⊢; exact hk)
            · refine sat_brf (by first | exact hb51 | ((try clear h); subst_vars; first | exact hb51 | rfl)) ?_
              conv => arg 1; cbv
              refine sat_tick hΩ ?_
              conv => arg 1; cbv
              obtain rfl := Option.some.inj h
              subst_vars
              first | exact hk | (simp only [ln_set] at hk ⊢; exact hk)
          · refine sat_brf (by first | exact hb50 | ((try clear h); subst_vars; first | exact hb50 | rfl)) ?_
            conv => arg 1; cbv
            refine sat_tick hΩ ?_
            conv => arg 1; cbv
            obtain rfl := Option.some.inj h
            subst_vars
            first | exact hk | (simp only [ln_set] at hk ⊢; exact hk)
        · refine sat_brf (by first | exact hb49 | ((try clear h); subst_vars; first | exact hb49 | rfl)) ?_
          conv => arg 1; cbv
          refine sat_tick hΩ ?_
          conv => arg 1; cbv
          refine sat_tick hΩ ?_
          conv => arg 1; cbv
          obtain rfl := Option.some.inj h
          subst_vars
          first | exact hk | (simp only [ln_set] at hk ⊢; exact hk)
      · refine sat_brf (by first | exact hb48 | ((try clear h); subst_vars; first | exact hb48 | rfl)) ?_
        conv => arg 1; cbv
        refine sat_tick hΩ ?_
        conv => arg 1; cbv
        refine sat_tick hΩ ?_
        conv => arg 1; cbv
        obtain rfl := Option.some.inj h
        subst_vars
        first | exact hk | (simp only [ln_set] at hk ⊢; exact hk)
    · refine sat_brf (by first | exact hb47 | ((try clear h); subst_vars; first | exact hb47 | rfl)) ?_
      conv => arg 1; cbv
      refine sat_tick hΩ ?_
      conv => arg 1; cbv
      refine sat_tick hΩ ?_
      conv => arg 1; cbv
      obtain rfl := Option.some.inj h
      subst_vars
      first | exact hk | (simp only [ln_set] at hk ⊢; exact hk)
  · clear hq61
    obtain ⟨i60, hqq⟩ : ∃ x, x = q := ⟨_, rfl⟩
    subst hqq
    try dsimp only at h
    conv => arg 1; cbv
    obtain rfl := Option.some.inj h
    subst_vars
    exact sat_pure rfl
set_option maxHeartbeats 4000000 in
theorem ok50 {Ω : Om} {E : Enc} (hΩ : real (call S) = Ω) (hE : theEnc = E) {fu : Nat} {a0 : Sl Note} {a1 : Sl Note} {r : Bool} (h : P50 fu a0 a1 = some r) {args : List PV} (ha : [PV.d (.sl (E.L_Note a0.l) (E.X_Note a0.x)), PV.d (.sl (E.L_Note a1.l) (E.X_Note a1.x))] = args) (st : St) :
    Sat (Ω.cf 50 args st) (fun q => q = (PV.d (.bool r), st)) := by
  subst ha
  rcases a0 with ⟨a0_l, a0_x⟩
  rcases a1 with ⟨a1_l, a1_x⟩
  rw [cf_body hΩ (f := 50) (fn := Try.f50) (x := c50) rfl rfl c50_ok rfl rfl]
  unfold P50 at h
  try dsimp only at h
  conv => arg 1; cbv
  refine sat_len hΩ (ro_Note hE) a0_l (by first | rfl | ((try clear h); subst_vars; rfl)) fun n1 hn2 => ?_
  conv => arg 1; cbv
  refine sat_len hΩ (ro_Note hE) a1_l (by first | rfl | ((try clear h); subst_vars; rfl)) fun n3 hn4 => ?_
  conv => arg 1; cbv
  refine sat_in hΩ ?_
  conv => arg 1; cbv
  replace h := bif_cases h
  rcases h with ⟨hb5, h⟩ | ⟨hb5, h⟩
  · refine sat_brt (by first | exact hb5 | ((try clear h); subst_vars; first | exact hb5 | rfl)) ?_
    conv => arg 1; cbv
    obtain rfl := Option.some.inj h
    subst_vars
    exact sat_pure rfl
  · refine sat_brf (by first | exact hb5 | ((try clear h); subst_vars; first | exact hb5 | rfl)) ?_
    conv => arg 1; cbv
    obtain ⟨q, hl15, hz⟩ := Option.bind_eq_some_iff.1 h
    clear h
    have h := hz
    clear hz
    refine sat_loop hΩ (fun (a : Int) => (match a with | i6 => ([(0, PV.d (.sl (E.L_Note a0_l) (E.X_Note a0_x))), (1, PV.d (.sl (E.L_Note a1_l) (E.X_Note a1_x))), (4, PV.d (.bool false)), (5, PV.d (.int .i64 i6))], ([] : List X.Obj) :: st))) (fun (q : Int ⊕ Int) => (match q with | .inl o16 => (.exit 0, [(0, PV.d (.sl (E.L_Note a0_l) (E.X_Note a0_x))), (1, PV.d (.sl (E.L_Note a1_l) (E.X_Note a1_x))), (4, PV.d (.bool false)), (5, PV.d (.int .i64 o16))], ([] : List X.Obj) :: st) | .inr o17 => (.ret, [(0, PV.d (.sl (E.L_Note a0_l) (E.X_Note a0_x))), (1, PV.d (.sl (E.L_Note a1_l) (E.X_Note a1_x))), (4, PV.d (.bool false)), (5, PV.d (.int .i64 o17))], ([] : List X.Obj) :: st))) 0 hl15 (by first | rfl | ((try clear h); subst_vars; rfl) | ((try clear h); subst_vars; simp only [ln_set])) ?_ ?_
    · clear h hl15
      rintro i6 q h
      unfold P50_s0 at h
      dsimp only at h
      conv => arg 1; cbv
      refine sat_len hΩ (ro_Note hE) a0_l (by first | rfl | ((try clear h); subst_vars; rfl)) fun n7 hn8 => ?_
      conv => arg 1; cbv
      refine sat_in hΩ ?_
      conv => arg 1; cbv
      replace h := bif_cases h
      rcases h with ⟨hb9, h⟩ | ⟨hb9, h⟩
      · refine sat_brt (by first | exact hb9 | ((try clear h); subst_vars; first | exact hb9 | rfl)) ?_
        conv => arg 1; cbv
        refine sat_true (fits_l hΩ (ro_Note hE) a0_l (by first | rfl | ((try clear h); subst_vars; rfl))) ?_
        conv => arg 1; cbv
        obtain ⟨⟨x10_Kind, x10_Inst, x10_Name, x10_Late, x10_Text⟩, hx11, hz⟩ := Option.bind_eq_some_iff.1 h
        clear h
        have h := hz
        clear hz
        try dsimp only at h
        refine sat_bind (nth_ok hΩ (ro_Note hE) hx11 (by first | rfl | ((try clear h); subst_vars; rfl)) (by first | rfl | ((try clear h); subst_vars; rfl))) ?_
        conv => arg 1; cbv
        refine sat_true (fits_l hΩ (ro_Note hE) a1_l (by first | rfl | ((try clear h); subst_vars; rfl))) ?_
        conv => arg 1; cbv
        obtain ⟨⟨x12_Kind, x12_Inst, x12_Name, x12_Late, x12_Text⟩, hx13, hz⟩ := Option.bind_eq_some_iff.1 h
        clear h
        have h := hz
        clear hz
        try dsimp only at h
        refine sat_bind (nth_ok hΩ (ro_Note hE) hx13 (by first | rfl | ((try clear h); subst_vars; rfl)) (by first | rfl | ((try clear h); subst_vars; rfl))) ?_
        conv => arg 1; cbv
        refine sat_in hΩ ?_
        conv => arg 1; cbv
        replace h := bif_cases h
        rcases h with ⟨hb14, h⟩ | ⟨hb14, h⟩
        · refine sat_brt (by first | exact hb14 | ((try clear h); subst_vars; first | exact hb14 | rfl)) ?_
          conv => arg 1; cbv
          obtain rfl := Option.some.inj h
          subst_vars
          first | exact sat_pure (.inr ⟨rfl, rfl⟩) | (refine sat_pure (.inr ⟨rfl, ?_⟩); dsimp only; simp only [ln_set]; rfl)
        · refine sat_brf (by first | exact hb14 | ((try clear h); subst_vars; first | exact hb14 | rfl)) ?_
          conv => arg 1; cbv
          obtain rfl := Option.some.inj h
          subst_vars
          first | exact sat_pure ⟨rfl, rfl, rfl⟩ | (refine sat_pure ⟨rfl, ?_, ?_⟩ <;> first | rfl | (dsimp only; simp only [ln_set]; rfl))
      · refine sat_brf (by first | exact hb9 | ((try clear h); subst_vars; first | exact hb9 | rfl)) ?_
        conv => arg 1; cbv
        obtain rfl := Option.some.inj h
        subst_vars
        first | exact sat_pure (.inl ⟨⟨_, rfl⟩, rfl⟩) | (refine sat_pure (.inl ⟨⟨_, rfl⟩, ?_⟩); dsimp only; simp only [ln_set]; rfl)
    · clear hl15
      rcases q with o16 | o17
      · dsimp only at h
        conv => arg 1; cbv
        obtain rfl := Option.some.inj h
        subst_vars
        exact sat_pure rfl
      · dsimp only at h
        conv => arg 1; cbv
        obtain rfl := Option.some.inj h
        subst_vars
        exact sat_pure rfl
set_option maxHeartbeats 4000000 in
theorem ok16 {Ω : Om} {E : Enc} (hΩ : real (call S) = Ω) (hE : theEnc = E) {fu : Nat} {a0 : Sl Note} {a1 : Int} {a2 : Int} {a3 : Int} {r : Bool} (h : P16 fu a0 a1 a2 a3 = some r) {args : List PV} (ha : [PV.d (.sl (E.L_Note a0.l) (E.X_Note a0.x)), PV.d (.int .u16 a1), PV.d (.int .u8 a2), PV.d (.int .i64 a3)] = args) (st : St) :
    Sat (Ω.cf 16 args st) (fun q => q = (PV.d (.bool r), st)) := by
  subst ha
  rcases a0 with ⟨a0_l, _ | a0_h⟩
  · rw [cf_body hΩ (f := 16) (fn := Try.f16) (x := c16) rfl rfl c16_ok rfl rfl]
    unfold P16 at h
    try dsimp only at h
    dsimp only []
    rw [show E.X_Note none = none from by rw [(ro_Note hE).2.1]; rfl]
    conv => arg 1; cbv
    obtain ⟨q, hq87, hz⟩ := Option.bind_eq_some_iff.1 h
    clear h
    have h := hz
    clear hz
    refine sat_grp hΩ ((fun (q : Bool) => (match q with | i6 => ([(0, PV.d (.sl (E.L_Note a0_l) none)), (1, PV.d (.int .u16 a1)), (2, PV.d (.int .u8 a2)), (3, PV.d (.int .i64 a3)), (8, PV.d (.bool false)), (22, PV.d (.bool i6))], ([] : List X.Obj) :: st))) q) (fun k hk => ?_) ?_
    · clear h
      have h := hq87
      clear hq87
      conv => arg 1; cbv
      obtain ⟨r1, hx2, hz⟩ := Option.bind_eq_some_iff.1 h
      clear h
      have h := hz
      clear hz
      refine sat_call (ok46 hΩ hE hx2 (by (try clear h); subst_vars; rfl) _) ?_
      conv => arg 1; cbv
      replace h := bif_cases h
      rcases h with ⟨hb3, h⟩ | ⟨hb3, h⟩
      · refine sat_brt (by first | exact hb3 | ((try clear h); subst_vars; first | exact hb3 | rfl)) ?_
        conv => arg 1; cbv
        refine sat_len hΩ (ro_Note hE) a0_l (by first | rfl | ((try clear h); subst_vars; rfl)) fun n4 hn5 => ?_
        conv => arg 1; cbv
        obtain rfl := Option.some.inj h
        subst_vars
        first | exact hk | (simp only [ln_set] at hk ⊢; exact hk)
      · refine sat_brf (by first | exact hb3 | ((try clear h); subst_vars; first | exact hb3 | rfl)) ?_
        conv => arg 1; cbv
        obtain rfl := Option.some.inj h
        subst_vars
        first | exact hk | (simp only [ln_set] at hk ⊢; exact hk)
    · clear hq87
      obtain ⟨i6, hqq⟩ : ∃ x, x = q := ⟨_, rfl⟩
      subst hqq
      try dsimp only at h
      conv => arg 1; cbv
      refine sat_in hΩ ?_
      conv => arg 1; cbv
      replace h := bif_cases h
      rcases h with ⟨hb7, h⟩ | ⟨hb7, h⟩
      · refine sat_brt (by first | exact hb7 | ((try clear h); subst_vars; first | exact hb7 | rfl)) ?_
        conv => arg 1; cbv
        obtain ⟨r8, hx9, hz⟩ := Option.bind_eq_some_iff.1 h
        clear h
        have h := hz
        clear hz
        refine sat_call (ok46 hΩ hE hx9 (by (try clear h); subst_vars; rfl) _) ?_
        conv => arg 1; cbv
        obtain rfl := Option.some.inj h
        subst_vars
        exact sat_pure rfl
      · refine sat_brf (by first | exact hb7 | ((try clear h); subst_vars; first | exact hb7 | rfl)) ?_
        conv => arg 1; cbv
        obtain ⟨q, hq86, hz⟩ := Option.bind_eq_some_iff.1 h
        clear h
        have h := hz
        clear hz
        refine sat_grp hΩ ((fun (q : Bool) => (match q with | i11 => ([(0, PV.d (.sl (E.L_Note a0_l) none)), (1, PV.d (.int .u16 a1)), (2, PV.d (.int .u8 a2)), (3, PV.d (.int .i64 a3)), (8, PV.d (.bool false)), (9, PV.d (.int .u8 a2)), (30, PV.d (.bool i11))], ([] : List X.Obj) :: st))) q) (fun k hk => ?_) ?_
        · clear h
          have h := hq86
          clear hq86
          conv => arg 1; cbv
          replace h := bif_cases h
          rcases h with ⟨hb10, h⟩ | ⟨hb10, h⟩
          · refine sat_brt (by first | exact hb10 | ((try clear h); subst_vars; first | exact hb10 | rfl)) ?_
            conv => arg 1; cbv
            obtain rfl := Option.some.inj h
            subst_vars
            first | exact hk | (simp only [ln_set] at hk ⊢; exact hk)
          · refine sat_brf (by first | exact hb10 | ((try clear h); subst_vars; first | exact hb10 | rfl)) ?_
            conv => arg 1; cbv
            obtain rfl := Option.some.inj h
            subst_vars
            first | exact hk | (simp only [ln_set] at hk ⊢; exact hk)
        · clear hq86
          obtain ⟨i11, hqq⟩ : ∃ x, x = q := ⟨_, rfl⟩
          subst hqq
          try dsimp only at h
          conv => arg 1; cbv
          refine sat_in hΩ ?_
          conv => arg 1; cbv
          replace h := bif_cases h
          rcases h with ⟨hb12, h⟩ | ⟨hb12, h⟩
          · refine sat_brt (by first | exact hb12 | ((try clear h); subst_vars; first | exact hb12 | rfl)) ?_
            conv => arg 1; cbv
            obtain rfl := Option.some.inj h
            subst_vars
            exact sat_pure rfl
          · refine sat_brf (by first | exact hb12 | ((try clear h); subst_vars; first | exact hb12 | rfl)) ?_
            conv => arg 1; cbv
            refine sat_len hΩ (ro_Note hE) a0_l (by first | rfl | ((try clear h); subst_vars; rfl)) fun n13 hn14 => ?_
            conv => arg 1; cbv
            replace h := bif_cases h
            rcases h with ⟨hb15, h⟩ | ⟨hb15, h⟩
            · cases h
            refine sat_false (by first | exact hb15 | ((try clear h); subst_vars; first | exact hb15 | rfl)) ?_
            conv => arg 1; cbv
            refine sat_nil hΩ (ro_Note hE) fun l16 hl17 => ?_
            conv => arg 1; cbv
            obtain ⟨q, hq85, hz⟩ := Option.bind_eq_some_iff.1 h
            clear h
            have h := hz
            clear hz
            refine sat_grp hΩ ((fun (q : (List Note)) => (match q with | l31 => ([(0, PV.d (.sl (E.L_Note a0_l) none)), (1, PV.d (.int .u16 a1)), (2, PV.d (.int .u8 a2)), (3, PV.d (.int .i64 a3)), (8, PV.d (.bool false)), (9, PV.d (.int .u8 a2)), (10, PV.d (.int .i64 (Ω.tmod (Ω.wrap .i64 a1) (Ω.wrap .i64 (Ω.add n13 1))))), (11, PV.row 0 0 (ln l31))], ([X.Obj.row 70 5 (E.L_Note l31) false none] : List X.Obj) :: st))) q) (fun k hk => ?_) ?_
            · clear h
              have h := hq85
              clear hq85
              conv => arg 1; cbv
              refine sat_true (fits_x hΩ (ro_Note hE) a0_l none (by first | rfl | ((try clear h); subst_vars; rfl)) (by first | rfl | ((try clear h); subst_vars; rfl))) ?_
              conv => arg 1; cbv
              refine sat_len hΩ (ro_Note hE) a0_l (by first | rfl | ((try clear h); subst_vars; rfl)) fun n18 hn19 => ?_
              conv => arg 1; cbv
              replace h := bif_some h
              obtain ⟨hb20, h⟩ := h
              refine sat_true (by first | exact hb20 | ((try clear h); subst_vars; first | exact hb20 | rfl)) ?_
              conv => arg 1; cbv
              replace h := bif_some h
              obtain ⟨hb21, h⟩ := h
              refine sat_true (by first | exact hb21 | ((try clear h); subst_vars; first | exact hb21 | rfl)) ?_
              conv => arg 1; cbv
              replace h := bif_some h
              obtain ⟨hb22, h⟩ := h
              refine sat_true (by first | exact hb22 | ((try clear h); subst_vars; first | exact hb22 | rfl)) ?_
              conv => arg 1; cbv
              refine sat_cut hΩ (ro_Note hE) a0_l 0 (Int.tmod (w64 a1) (w64 ((ln a0_l) + 1))) (by first | rfl | ((try clear h); subst_vars; rfl)) (by first | rfl | ((try clear h); subst_vars; rfl)) (by first | rfl | ((try clear h); subst_vars; rfl)) fun l23 hl24 => ?_
              conv => arg 1; cbv
              refine sat_true (ieq_ok hΩ _) ?_
              conv => arg 1; cbv
              refine sat_true (fits_l hΩ (ro_Note hE) (cut a0_l 0 (Int.tmod (w64 a1) (w64 ((ln a0_l) + 1)))) (by first | rfl | ((try clear h); subst_vars; rfl))) ?_
              conv => arg 1; cbv
              refine sat_true (len_ok hΩ (ro_Note hE) ([] : List Note) (by first | rfl | ((try clear h); subst_vars; rfl) | ((try clear h); subst_vars; simp only [ln_set])) (by first | rfl | ((try clear h); subst_vars; rfl) | ((try clear h); subst_vars; simp only [ln_set]))) ?_
              conv => arg 1; cbv
              replace h := bif_cases h
              rcases h with ⟨hb25, h⟩ | ⟨hb25, h⟩
              · refine sat_brt (len_zero hΩ (ro_Note hE) (l := (cut a0_l 0 (Int.tmod (w64 a1) (w64 ((ln a0_l) + 1))))) hb25 (by first | rfl | ((try clear h); subst_vars; rfl))) ?_
                conv => arg 1; cbv
                obtain rfl := Option.some.inj h
                subst_vars
                first | exact hk | (simp only [ln_set] at hk ⊢; exact hk)
              · refine sat_brf (len_zero hΩ (ro_Note hE) (l := (cut a0_l 0 (Int.tmod (w64 a1) (w64 ((ln a0_l) + 1))))) hb25 (by first | rfl | ((try clear h); subst_vars; rfl))) ?_
                conv => arg 1; cbv
                refine sat_cat hΩ (ro_Note hE) ([] : List Note) (cut a0_l 0 (Int.tmod (w64 a1) (w64 ((ln a0_l) + 1)))) (by first | rfl | ((try clear h); subst_vars; rfl)) (by first | rfl | ((try clear h); subst_vars; rfl)) fun l26 hl27 n28 hn29 => ?_
                conv => arg 1; cbv
                replace h := bif_some h
                obtain ⟨hb30, h⟩ := h
                refine sat_true (by first | exact hb30 | ((try clear h); subst_vars; first | exact hb30 | rfl)) ?_
                conv => arg 1; cbv
                obtain rfl := Option.some.inj h
                subst_vars
                first | exact hk | (simp only [ln_set] at hk ⊢; exact hk)
            · clear hq85
              obtain ⟨l31, hqq⟩ : ∃ x, x = q := ⟨_, rfl⟩
              subst hqq
              try dsimp only at h
              obtain ⟨ln_l31, hln_l31⟩ : ∃ n, ln l31 = n := ⟨_, rfl⟩
              simp only [hln_l31]
              conv => arg 1; cbv
              refine sat_in hΩ ?_
              conv => arg 1; cbv
              obtain ⟨⟨r32_Kind, r32_Inst, r32_Name, r32_Late, r32_Text⟩, hx33, hz⟩ := Option.bind_eq_some_iff.1 h
              clear h
              have h := hz
              clear hz
              try dsimp only at h
              refine sat_call (ok49 hΩ hE hx33 (by (try clear h); subst_vars; rfl) _) ?_
              conv => arg 1; cbv
              refine sat_true (ieq_ok hΩ _) ?_
              conv => arg 1; cbv
              refine sat_true (fits_l hΩ (ro_Note hE) [(Note.mk r32_Kind r32_Inst r32_Name r32_Late r32_Text)] (by first | rfl | ((try clear h); subst_vars; rfl))) ?_
              conv => arg 1; cbv
              refine sat_true (len_ok hΩ (ro_Note hE) l31 (by first | rfl | ((try clear h); subst_vars; rfl) | ((try clear h); subst_vars; simp only [ln_set])) (by first | rfl | ((try clear h); subst_vars; rfl) | ((try clear h); subst_vars; simp only [ln_set]))) ?_
              conv => arg 1; cbv
              refine sat_brf (len_zero hΩ (ro_Note hE) (l := [(Note.mk r32_Kind r32_Inst r32_Name r32_Late r32_Text)]) (b := false) (by rfl) (by first | rfl | ((try clear h); subst_vars; rfl))) ?_
              conv => arg 1; cbv
              refine sat_cat hΩ (ro_Note hE) l31 [(Note.mk r32_Kind r32_Inst r32_Name r32_Late r32_Text)] (by first | rfl | ((try clear h); subst_vars; rfl)) (by first | rfl | ((try clear h); subst_vars; rfl)) fun l34 hl35 n36 hn37 => ?_
              conv => arg 1; cbv
              replace h := bif_some h
              obtain ⟨hb38, h⟩ := h
              refine sat_true (by first | exact hb38 | ((try clear h); subst_vars; first | exact hb38 | rfl)) ?_
              conv => arg 1; cbv
              obtain ⟨q, hq84, hz⟩ := Option.bind_eq_some_iff.1 h
              clear h
              have h := hz
              clear hz
              refine sat_grp hΩ ((fun (q : (List Note)) => (match q with | l52 => ([(0, PV.d (.sl (E.L_Note a0_l) none)), (1, PV.d (.int .u16 a1)), (2, PV.d (.int .u8 a2)), (3, PV.d (.int .i64 a3)), (8, PV.d (.bool false)), (9, PV.d (.int .u8 a2)), (10, PV.d (.int .i64 (Ω.tmod (Ω.wrap .i64 a1) (Ω.wrap .i64 (Ω.add n13 1))))), (11, PV.row 0 0 (ln l52))], ([X.Obj.row 70 5 (E.L_Note l52) false none] : List X.Obj) :: st))) q) (fun k hk => ?_) ?_
              · clear h
                have h := hq84
                clear hq84
                conv => arg 1; cbv
                refine sat_true (fits_x hΩ (ro_Note hE) a0_l none (by first | rfl | ((try clear h); subst_vars; rfl)) (by first | rfl | ((try clear h); subst_vars; rfl))) ?_
                conv => arg 1; cbv
                refine sat_len hΩ (ro_Note hE) a0_l (by first | rfl | ((try clear h); subst_vars; rfl)) fun n39 hn40 => ?_
                conv => arg 1; cbv
                replace h := bif_some h
                obtain ⟨hb41, h⟩ := h
                refine sat_true (by first | exact hb41 | ((try clear h); subst_vars; first | exact hb41 | rfl)) ?_
                conv => arg 1; cbv
                replace h := bif_some h
                obtain ⟨hb42, h⟩ := h
                refine sat_true (by first | exact hb42 | ((try clear h); subst_vars; first | exact hb42 | rfl)) ?_
                conv => arg 1; cbv
                replace h := bif_some h
                obtain ⟨hb43, h⟩ := h
                refine sat_true (by first | exact hb43 | ((try clear h); subst_vars; first | exact hb43 | rfl)) ?_
                conv => arg 1; cbv
                refine sat_cut hΩ (ro_Note hE) a0_l (Int.tmod (w64 a1) (w64 ((ln a0_l) + 1))) (ln a0_l) (by first | rfl | ((try clear h); subst_vars; rfl)) (by first | rfl | ((try clear h); subst_vars; rfl)) (by first | rfl | ((try clear h); subst_vars; rfl)) fun l44 hl45 => ?_
                conv => arg 1; cbv
                refine sat_true (ieq_ok hΩ _) ?_
                conv => arg 1; cbv
                refine sat_true (fits_l hΩ (ro_Note hE) (cut a0_l (Int.tmod (w64 a1) (w64 ((ln a0_l) + 1))) (ln a0_l)) (by first | rfl | ((try clear h); subst_vars; rfl))) ?_
                conv => arg 1; cbv
                refine sat_true (len_ok hΩ (ro_Note hE) (l31 ++ [(Note.mk r32_Kind r32_Inst r32_Name r32_Late r32_Text)]) (by first | rfl | ((try clear h); subst_vars; rfl) | ((try clear h); subst_vars; simp only [ln_set])) (by first | rfl | ((try clear h); subst_vars; rfl) | ((try clear h); subst_vars; simp only [ln_set]))) ?_
                conv => arg 1; cbv
                replace h := bif_cases h
                rcases h with ⟨hb46, h⟩ | ⟨hb46, h⟩
                · refine sat_brt (len_zero hΩ (ro_Note hE) (l := (cut a0_l (Int.tmod (w64 a1) (w64 ((ln a0_l) + 1))) (ln a0_l))) hb46 (by first | rfl | ((try clear h); subst_vars; rfl))) ?_
                  conv => arg 1; cbv
                  obtain rfl := Option.some.inj h
                  subst_vars
                  first | exact hk | (simp only [ln_set] at hk ⊢; exact hk)
                · refine sat_brf (len_zero hΩ (ro_Note hE) (l := (cut a0_l (Int.tmod (w64 a1) (w64 ((ln a0_l) + 1))) (ln a0_l))) hb46 (by first | rfl | ((try clear h); subst_vars; rfl))) ?_
                  conv => arg 1; cbv
                  refine sat_cat hΩ (ro_Note hE) (l31 ++ [(Note.mk r32_Kind r32_Inst r32_Name r32_Late r32_Text)]) (cut a0_l (Int.tmod (w64 a1) (w64 ((ln a0_l) + 1))) (ln a0_l)) (by first | rfl | ((try clear h); subst_vars; rfl)) (by first | rfl | ((try clear h); subst_vars; rfl)) fun l47 hl48 n49 hn50 => ?_
                  conv => arg 1; cbv
                  replace h := bif_some h
                  obtain ⟨hb51, h⟩ := h
                  refine sat_true (by first | exact hb51 | ((try clear h); subst_vars; first | exact hb51 | rfl)) ?_
                  conv => arg 1; cbv
                  obtain rfl := Option.some.inj h
                  subst_vars
                  first | exact hk | (simp only [ln_set] at hk ⊢; exact hk)
              · clear hq84
                obtain ⟨l52, hqq⟩ : ∃ x, x = q := ⟨_, rfl⟩
                subst hqq
                try dsimp only at h
                obtain ⟨ln_l52, hln_l52⟩ : ∃ n, ln l52 = n := ⟨_, rfl⟩
                simp only [hln_l52]
                conv => arg 1; cbv
                obtain ⟨⟨r53, r54⟩, hx55, hz⟩ := Option.bind_eq_some_iff.1 h
                clear h
                have h := hz
                clear hz
                try dsimp only at h
                refine sat_call (ok35 hΩ hE hx55 (by (try clear h); subst_vars; rfl) _) ?_
                conv => arg 1; cbv
                refine sat_true (len_ok hΩ (ro_Note hE) l52 (by first | rfl | ((try clear h); subst_vars; rfl) | ((try clear h); subst_vars; simp only [ln_set])) (by first | rfl | ((try clear h); subst_vars; rfl) | ((try clear h); subst_vars; simp only [ln_set]))) ?_
                conv => arg 1; cbv
                obtain ⟨⟨r56, r57⟩, hx58, hz⟩ := Option.bind_eq_some_iff.1 h
                clear h
                have h := hz
                clear hz
                try dsimp only at h
                refine sat_call (ok35 hΩ hE hx58 (by (try clear h); subst_vars; rfl) _) ?_
                conv => arg 1; cbv
                obtain ⟨q, hq83, hz⟩ := Option.bind_eq_some_iff.1 h
                clear h
                have h := hz
                clear hz
                refine sat_grp hΩ ((fun (q : Bool) => (match q with | i60 => ([(0, PV.d (.sl (E.L_Note a0_l) none)), (1, PV.d (.int .u16 a1)), (2, PV.d (.int .u8 a2)), (3, PV.d (.int .i64 a3)), (8, PV.d (.bool false)), (9, PV.d (.int .u8 a2)), (10, PV.d (.int .i64 (Ω.tmod (Ω.wrap .i64 a1) (Ω.wrap .i64 (Ω.add n13 1))))), (11, PV.row 0 0 (ln l52)), (12, PV.d (.int .i64 r53)), (13, PV.d (.int .i64 r54)), (14, PV.d (.int .i64 r56)), (15, PV.d (.int .i64 r57)), (69, PV.d (.bool i60))], ([X.Obj.row 70 5 (E.L_Note l52) false none] : List X.Obj) :: st))) q) (fun k hk => ?_) ?_
                · clear h
                  have h := hq83
                  clear hq83
                  conv => arg 1; cbv
                  replace h := bif_cases h
                  rcases h with ⟨hb59, h⟩ | ⟨hb59, h⟩
                  · refine sat_brt (by first | exact hb59 | ((try clear h); subst_vars; first | exact hb59 | rfl)) ?_
                    conv => arg 1; cbv
                    obtain rfl := Option.some.inj h
                    subst_vars
                    first | exact hk | (simp only [ln_set] at hk ⊢; exact hk)
                  · refine sat_brf (by first | exact hb59 | ((try clear h); subst_vars; first | exact hb59 | rfl)) ?_
                    conv => arg 1; cbv
                    obtain rfl := Option.some.inj h
                    subst_vars
                    first | exact hk | (simp only [ln_set] at hk ⊢; exact hk)
                · clear hq83
                  obtain ⟨i60, hqq⟩ : ∃ x, x = q := ⟨_, rfl⟩
                  subst hqq
                  try dsimp only at h
                  obtain ⟨ln_l52, hln_l52⟩ : ∃ n, ln l52 = n := ⟨_, rfl⟩
                  simp only [hln_l52]
                  conv => arg 1; cbv
                  obtain ⟨q, hq82, hz⟩ := Option.bind_eq_some_iff.1 h
                  clear h
                  have h := hz
                  clear hz
                  refine sat_grp hΩ ((fun (q : Int) => (match q with | i62 => (.normal, [(0, PV.d (.sl (E.L_Note a0_l) none)), (1, PV.d (.int .u16 a1)), (2, PV.d (.int .u8 a2)), (3, PV.d (.int .i64 a3)), (8, PV.d (.bool false)), (9, PV.d (.int .u8 a2)), (10, PV.d (.int .i64 (Ω.tmod (Ω.wrap .i64 a1) (Ω.wrap .i64 (Ω.add n13 1))))), (11, PV.row 0 0 (ln l52)), (12, PV.d (.int .i64 i62)), (13, PV.d (.int .i64 r54)), (14, PV.d (.int .i64 r56)), (15, PV.d (.int .i64 r57))], ([X.Obj.row 70 5 (E.L_Note l52) false none] : List X.Obj) :: st))) q) (fun k hk => ?_) ?_
                  · clear h
                    have h := hq82
                    clear hq82
                    conv => arg 1; cbv
                    replace h := bif_cases h
                    rcases h with ⟨hb61, h⟩ | ⟨hb61, h⟩
                    · refine sat_brt (by first | exact hb61 | ((try clear h); subst_vars; first | exact hb61 | rfl)) ?_
                      conv => arg 1; cbv
                      obtain rfl := Option.some.inj h
                      subst_vars
                      first | exact hk | (simp only [ln_set] at hk ⊢; exact hk)
                    · refine sat_brf (by first | exact hb61 | ((try clear h); subst_vars; first | exact hb61 | rfl)) ?_
                      conv => arg 1; cbv
                      obtain rfl := Option.some.inj h
                      subst_vars
                      first | exact hk | (simp only [ln_set] at hk ⊢; exact hk)
                  · clear hq82
                    obtain ⟨i62, hqq⟩ : ∃ x, x = q := ⟨_, rfl⟩
                    subst hqq
                    try dsimp only at h
                    obtain ⟨ln_l52, hln_l52⟩ : ∃ n, ln l52 = n := ⟨_, rfl⟩
                    simp only [hln_l52]
                    conv => arg 1; cbv
                    obtain ⟨q, hq81, hz⟩ := Option.bind_eq_some_iff.1 h
                    clear h
                    have h := hz
                    clear hz
                    refine sat_grp hΩ ((fun (q : Bool) => (match q with | i80 => ([(0, PV.d (.sl (E.L_Note a0_l) none)), (1, PV.d (.int .u16 a1)), (2, PV.d (.int .u8 a2)), (3, PV.d (.int .i64 a3)), (8, PV.d (.bool i80)), (9, PV.d (.int .u8 a2)), (10, PV.d (.int .i64 (Ω.tmod (Ω.wrap .i64 a1) (Ω.wrap .i64 (Ω.add n13 1))))), (11, PV.row 0 0 (ln l52)), (12, PV.d (.int .i64 i62)), (13, PV.d (.int .i64 r54)), (14, PV.d (.int .i64 r56)), (15, PV.d (.int .i64 r57))], ([X.Obj.row 70 5 (E.L_Note l52) false none] : List X.Obj) :: st))) q) (fun k hk => ?_) ?_
                    · clear h
                      have h := hq81
                      clear hq81
                      conv => arg 1; cbv
                      replace h := bif_cases h
                      rcases h with ⟨hb63, h⟩ | ⟨hb63, h⟩
                      · refine sat_brt (by first | exact hb63 | ((try clear h); subst_vars; first | exact hb63 | rfl)) ?_
                        conv => arg 1; cbv
                        replace h := bif_cases h
                        rcases h with ⟨hb64, h⟩ | ⟨hb64, h⟩
                        · refine sat_brt (by first | exact hb64 | ((try clear h); subst_vars; first | exact hb64 | rfl)) ?_
                          conv => arg 1; cbv
                          refine sat_true (len_ok hΩ (ro_Note hE) l52 (by first | rfl | ((try clear h); subst_vars; rfl) | ((try clear h); subst_vars; simp only [ln_set])) (by first | rfl | ((try clear h); subst_vars; rfl) | ((try clear h); subst_vars; simp only [ln_set]))) ?_
                          conv => arg 1; cbv
                          obtain ⟨⟨r65_l, r65_x⟩, hx66, hz⟩ := Option.bind_eq_some_iff.1 h
                          clear h
                          have h := hz
                          clear hz
                          try dsimp only at h
                          refine sat_call (ok47 hΩ hE hx66 (by (try clear h); subst_vars; rfl) _) ?_
                          conv => arg 1; cbv
                          refine sat_tick hΩ ?_
                          conv => arg 1; cbv
                          refine sat_len hΩ (ro_Note hE) r65_l (by first | rfl | ((try clear h); subst_vars; rfl)) fun n67 hn68 => ?_
                          conv => arg 1; cbv
                          obtain ⟨⟨r69_l, r69_x⟩, hx70, hz⟩ := Option.bind_eq_some_iff.1 h
                          clear h
                          have h := hz
                          clear hz
                          try dsimp only at h
                          refine sat_call (ok47 hΩ hE hx70 (by (try clear h); subst_vars; rfl) _) ?_
                          conv => arg 1; cbv
                          refine sat_len hΩ (ro_Note hE) r69_l (by first | rfl | ((try clear h); subst_vars; rfl)) fun n71 hn72 => ?_
                          conv => arg 1; cbv
                          replace h := bif_cases h
                          rcases h with ⟨hb73, h⟩ | ⟨hb73, h⟩
                          · refine sat_brt (by first | exact hb73 | ((try clear h); subst_vars; first | exact hb73 | rfl)) ?_
                            conv => arg 1; cbv
                            refine sat_tick hΩ ?_
                            conv => arg 1; cbv
                            refine sat_true (len_ok hΩ (ro_Note hE) l52 (by first | rfl | ((try clear h); subst_vars; rfl) | ((try clear h); subst_vars; simp only [ln_set])) (by first | rfl | ((try clear h); subst_vars; rfl) | ((try clear h); subst_vars; simp only [ln_set]))) ?_
                            conv => arg 1; cbv
                            obtain ⟨⟨r74_l, r74_x⟩, hx75, hz⟩ := Option.bind_eq_some_iff.1 h
                            clear h
                            have h := hz
                            clear hz
                            try dsimp only at h
                            refine sat_call (ok47 hΩ hE hx75 (by (try clear h); subst_vars; rfl) _) ?_
                            conv => arg 1; cbv
                            obtain ⟨⟨r76_l, r76_x⟩, hx77, hz⟩ := Option.bind_eq_some_iff.1 h
                            clear h
                            have h := hz
                            clear hz
                            try dsimp only at h
                            refine sat_call (ok47 hΩ hE hx77 (by (try clear h); subst_vars; rfl) _) ?_
                            conv => arg 1; cbv
                            obtain ⟨r78, hx79, hz⟩ := Option.bind_eq_some_iff.1 h
                            clear h
                            have h := hz
                            clear hz
                            refine sat_call (ok50 hΩ hE hx79 (by (try clear h); subst_vars; rfl) _) ?_
                            conv => arg 1; cbv
                            obtain rfl := Option.some.inj h
                            subst_vars
                            first | exact hk | (simp only [ln_set] at hk ⊢; exact hk)
                          · refine sat_brf (by first | exact hb73 | ((try clear h); subst_vars; first | exact hb73 | rfl)) ?_
                            conv => arg 1; cbv
                            refine sat_tick hΩ ?_
                            conv => arg 1; cbv
                            obtain rfl := Option.some.inj h
                            subst_vars
                            first | exact hk | (simp only [ln_set] at hk ⊢; exact hk)
                        · refine sat_brf (by first | exact hb64 | ((try clear h); subst_vars; first | exact hb64 | rfl)) ?_
                          conv => arg 1; cbv
                          refine sat_tick hΩ ?_
                          conv => arg 1; cbv
                          refine sat_tick hΩ ?_
                          conv => arg 1; cbv
                          obtain rfl := Option.some.inj h
                          subst_vars
                          first | exact hk | (simp only [ln_set] at hk ⊢; exact hk)
                      · refine sat_brf (by first | exact hb63 | ((try clear h); subst_vars; first | exact hb63 | rfl)) ?_
                        conv => arg 1; cbv
                        refine sat_tick hΩ ?_
                        conv => arg 1; cbv
                        refine sat_tick hΩ ?_
                        conv => arg 1; cbv
                        obtain rfl := Option.some.inj h
                        subst_vars
                        first | exact hk | (simp only [ln_set] at hk ⊢; exact hk)
                    · clear hq81
                      obtain ⟨i80, hqq⟩ : ∃ x, x = q := ⟨_, rfl⟩
                      subst hqq
                      try dsimp only at h
                      obtain ⟨ln_l52, hln_l52⟩ : ∃ n, ln l52 = n := ⟨_, rfl⟩
                      simp only [hln_l52]
                      conv => arg 1; cbv
                      obtain rfl := Option.some.inj h
                      subst_vars
                      exact sat_pure rfl
  · rw [cf_body hΩ (f := 16) (fn := Try.f16) (x := c16) rfl rfl c16_ok rfl rfl]
    unfold P16 at h
    try dsimp only at h
    dsimp only []
    rw [show E.X_Note (some a0_h) = some (E.L_Note a0_h) from by rw [(ro_Note hE).2.1]; rfl]
    conv => arg 1; cbv
    obtain ⟨q, hq186, hz⟩ := Option.bind_eq_some_iff.1 h
    clear h
    have h := hz
    clear hz
    refine sat_grp hΩ ((fun (q : Bool) => (match q with | i93 => ([(0, PV.d (.sl (E.L_Note a0_l) (some (E.L_Note a0_h)))), (1, PV.d (.int .u16 a1)), (2, PV.d (.int .u8 a2)), (3, PV.d (.int .i64 a3)), (8, PV.d (.bool false)), (22, PV.d (.bool i93))], ([] : List X.Obj) :: st))) q) (fun k hk => ?_) ?_
    · clear h
      have h := hq186
      clear hq186
      conv => arg 1; cbv
      obtain ⟨r88, hx89, hz⟩ := Option.bind_eq_some_iff.1 h
      clear h
      have h := hz
      clear hz
      refine sat_call (ok46 hΩ hE hx89 (by (try clear h); subst_vars; rfl) _) ?_
      conv => arg 1; cbv
      replace h := bif_cases h
      rcases h with ⟨hb90, h⟩ | ⟨hb90, h⟩
      · refine sat_brt (by first | exact hb90 | ((try clear h); subst_vars; first | exact hb90 | rfl)) ?_
        conv => arg 1; cbv
        refine sat_len hΩ (ro_Note hE) a0_l (by first | rfl | ((try clear h); subst_vars; rfl)) fun n91 hn92 => ?_
        conv => arg 1; cbv
        obtain rfl := Option.some.inj h
        subst_vars
        first | exact hk | (simp only [ln_set] at hk ⊢; exact hk)
      · refine sat_brf (by first | exact hb90 | ((try clear h); subst_vars; first | exact hb90 | rfl)) ?_
        conv => arg 1; cbv
        obtain rfl := Option.some.inj h
        subst_vars
        first | exact hk | (simp only [ln_set] at hk ⊢; exact hk)
    · clear hq186
      obtain ⟨i93, hqq⟩ : ∃ x, x = q := ⟨_, rfl⟩
      subst hqq
      try dsimp only at h
      conv => arg 1; cbv
      refine sat_in hΩ ?_
      conv => arg 1; cbv
      replace h := bif_cases h
      rcases h with ⟨hb94, h⟩ | ⟨hb94, h⟩
      · refine sat_brt (by first | exact hb94 | ((try clear h); subst_vars; first | exact hb94 | rfl)) ?_
        conv => arg 1; cbv
        obtain ⟨r95, hx96, hz⟩ := Option.bind_eq_some_iff.1 h
        clear h
        have h := hz
        clear hz
        refine sat_call (ok46 hΩ hE hx96 (by (try clear h); subst_vars; rfl) _) ?_
        conv => arg 1; cbv
        obtain rfl := Option.some.inj h
        subst_vars
        exact sat_pure rfl
      · refine sat_brf (by first | exact hb94 | ((try clear h); subst_vars; first | exact hb94 | rfl)) ?_
        conv => arg 1; cbv
        obtain ⟨q, hq185, hz⟩ := Option.bind_eq_some_iff.1 h
        clear h
        have h := hz
        clear hz
        refine sat_grp hΩ ((fun (q : Bool) => (match q with | i98 => ([(0, PV.d (.sl (E.L_Note a0_l) (some (E.L_Note a0_h)))), (1, PV.d (.int .u16 a1)), (2, PV.d (.int .u8 a2)), (3, PV.d (.int .i64 a3)), (8, PV.d (.bool false)), (9, PV.d (.int .u8 a2)), (30, PV.d (.bool i98))], ([] : List X.Obj) :: st))) q) (fun k hk => ?_) ?_
        · clear h
          have h := hq185
          clear hq185
          conv => arg 1; cbv
          replace h := bif_cases h
          rcases h with ⟨hb97, h⟩ | ⟨hb97, h⟩
          · refine sat_brt (by first | exact hb97 | ((try clear h); subst_vars; first | exact hb97 | rfl)) ?_
            conv => arg 1; cbv
            obtain rfl := Option.some.inj h
            subst_vars
            first | exact hk | (simp only [ln_set] at hk ⊢; exact hk)
          · refine sat_brf (by first | exact hb97 | ((try clear h); subst_vars; first | exact hb97 | rfl)) ?_
            conv => arg 1; cbv
            obtain rfl := Option.some.inj h
            subst_vars
            first | exact hk | (simp only [ln_set] at hk ⊢; exact hk)
        · clear hq185
          obtain ⟨i98, hqq⟩ : ∃ x, x = q := ⟨_, rfl⟩
          subst hqq
          try dsimp only at h
          conv => arg 1; cbv
          refine sat_in hΩ ?_
          conv => arg 1; cbv
          replace h := bif_cases h
          rcases h with ⟨hb99, h⟩ | ⟨hb99, h⟩
          · refine sat_brt (by first | exact hb99 | ((try clear h); subst_vars; first | exact hb99 | rfl)) ?_
            conv => arg 1; cbv
            obtain rfl := Option.some.inj h
            subst_vars
            exact sat_pure rfl
          · refine sat_brf (by first | exact hb99 | ((try clear h); subst_vars; first | exact hb99 | rfl)) ?_
            conv => arg 1; cbv
            refine sat_len hΩ (ro_Note hE) a0_l (by first | rfl | ((try clear h); subst_vars; rfl)) fun n100 hn101 => ?_
            conv => arg 1; cbv
            replace h := bif_cases h
            rcases h with ⟨hb102, h⟩ | ⟨hb102, h⟩
            · cases h
            refine sat_false (by first | exact hb102 | ((try clear h); subst_vars; first | exact hb102 | rfl)) ?_
            conv => arg 1; cbv
            refine sat_nil hΩ (ro_Note hE) fun l103 hl104 => ?_
            conv => arg 1; cbv
            obtain ⟨q, hq184, hz⟩ := Option.bind_eq_some_iff.1 h
            clear h
            have h := hz
            clear hz
            refine sat_grp hΩ ((fun (q : (List Note)) => (match q with | l124 => ([(0, PV.d (.sl (E.L_Note a0_l) (some (E.L_Note a0_h)))), (1, PV.d (.int .u16 a1)), (2, PV.d (.int .u8 a2)), (3, PV.d (.int .i64 a3)), (8, PV.d (.bool false)), (9, PV.d (.int .u8 a2)), (10, PV.d (.int .i64 (Ω.tmod (Ω.wrap .i64 a1) (Ω.wrap .i64 (Ω.add n100 1))))), (11, PV.row 0 0 (ln l124))], ([X.Obj.row 70 5 (E.L_Note l124) false none] : List X.Obj) :: st))) q) (fun k hk => ?_) ?_
            · clear h
              have h := hq184
              clear hq184
              conv => arg 1; cbv
              refine sat_true (fits_x hΩ (ro_Note hE) a0_l (some a0_h) (by first | rfl | ((try clear h); subst_vars; rfl)) (by first | rfl | ((try clear h); subst_vars; rfl))) ?_
              conv => arg 1; cbv
              refine sat_len hΩ (ro_Note hE) a0_l (by first | rfl | ((try clear h); subst_vars; rfl)) fun n105 hn106 => ?_
              conv => arg 1; cbv
              refine sat_cat hΩ (ro_Note hE) a0_l a0_h (by first | rfl | ((try clear h); subst_vars; rfl)) (by first | rfl | ((try clear h); subst_vars; rfl)) fun l107 hl108 n109 hn110 => ?_
              conv => arg 1; cbv
              replace h := bif_some h
              obtain ⟨hb111, h⟩ := h
              refine sat_true (by first | exact hb111 | ((try clear h); subst_vars; first | exact hb111 | rfl)) ?_
              conv => arg 1; cbv
              replace h := bif_some h
              obtain ⟨hb112, h⟩ := h
              refine sat_true (by first | exact hb112 | ((try clear h); subst_vars; first | exact hb112 | rfl)) ?_
              conv => arg 1; cbv
              replace h := bif_some h
              obtain ⟨hb113, h⟩ := h
              refine sat_true (by first | exact hb113 | ((try clear h); subst_vars; first | exact hb113 | rfl)) ?_
              conv => arg 1; cbv
              refine sat_cut hΩ (ro_Note hE) (a0_l ++ a0_h) 0 (Int.tmod (w64 a1) (w64 ((ln a0_l) + 1))) (by first | rfl | ((try clear h); subst_vars; rfl)) (by first | rfl | ((try clear h); subst_vars; rfl)) (by first | rfl | ((try clear h); subst_vars; rfl)) fun l114 hl115 => ?_
              conv => arg 1; cbv
              refine sat_cut hΩ (ro_Note hE) (a0_l ++ a0_h) (Int.tmod (w64 a1) (w64 ((ln a0_l) + 1))) (ln (a0_l ++ a0_h)) (by first | rfl | ((try clear h); subst_vars; rfl)) (by first | rfl | ((try clear h); subst_vars; rfl)) (by first | rfl | ((try clear h); subst_vars; rfl)) fun l116 hl117 => ?_
              conv => arg 1; cbv
              refine sat_true (ieq_ok hΩ _) ?_
              conv => arg 1; cbv
              refine sat_true (fits_l hΩ (ro_Note hE) (cut (a0_l ++ a0_h) 0 (Int.tmod (w64 a1) (w64 ((ln a0_l) + 1)))) (by first | rfl | ((try clear h); subst_vars; rfl))) ?_
              conv => arg 1; cbv
              refine sat_true (len_ok hΩ (ro_Note hE) ([] : List Note) (by first | rfl | ((try clear h); subst_vars; rfl) | ((try clear h); subst_vars; simp only [ln_set])) (by first | rfl | ((try clear h); subst_vars; rfl) | ((try clear h); subst_vars; simp only [ln_set]))) ?_
              conv => arg 1; cbv
              replace h := bif_cases h
              rcases h with ⟨hb118, h⟩ | ⟨hb118, h⟩
              · refine sat_brt (len_zero hΩ (ro_Note hE) (l := (cut (a0_l ++ a0_h) 0 (Int.tmod (w64 a1) (w64 ((ln a0_l) + 1))))) hb118 (by first | rfl | ((try clear h); subst_vars; rfl))) ?_
                conv => arg 1; cbv
                obtain rfl := Option.some.inj h
                subst_vars
                first | exact hk | (simp only [ln_set] at hk ⊢; exact hk)
              · refine sat_brf (len_zero hΩ (ro_Note hE) (l := (cut (a0_l ++ a0_h) 0 (Int.tmod (w64 a1) (w64 ((ln a0_l) + 1))))) hb118 (by first | rfl | ((try clear h); subst_vars; rfl))) ?_
                conv => arg 1; cbv
                refine sat_cat hΩ (ro_Note hE) ([] : List Note) (cut (a0_l ++ a0_h) 0 (Int.tmod (w64 a1) (w64 ((ln a0_l) + 1)))) (by first | rfl | ((try clear h); subst_vars; rfl)) (by first | rfl | ((try clear h); subst_vars; rfl)) fun l119 hl120 n121 hn122 => ?_
                conv => arg 1; cbv
                replace h := bif_some h
                obtain ⟨hb123, h⟩ := h
                refine sat_true (by first | exact hb123 | ((try clear h); subst_vars; first | exact hb123 | rfl)) ?_
                conv => arg 1; cbv
                obtain rfl := Option.some.inj h
                subst_vars
                first | exact hk | (simp only [ln_set] at hk ⊢; exact hk)
            · clear hq184
              obtain ⟨l124, hqq⟩ : ∃ x, x = q := ⟨_, rfl⟩
              subst hqq
              try dsimp only at h
              obtain ⟨ln_l124, hln_l124⟩ : ∃ n, ln l124 = n := ⟨_, rfl⟩
              simp only [hln_l124]
              conv => arg 1; cbv
              refine sat_in hΩ ?_
              conv => arg 1; cbv
              obtain ⟨⟨r125_Kind, r125_Inst, r125_Name, r125_Late, r125_Text⟩, hx126, hz⟩ := Option.bind_eq_some_iff.1 h
              clear h
              have h := hz
              clear hz
              try dsimp only at h
              refine sat_call (ok49 hΩ hE hx126 (by (try clear h); subst_vars; rfl) _) ?_
              conv => arg 1; cbv
              refine sat_true (ieq_ok hΩ _) ?_
              conv => arg 1; cbv
              refine sat_true (fits_l hΩ (ro_Note hE) [(Note.mk r125_Kind r125_Inst r125_Name r125_Late r125_Text)] (by first | rfl | ((try clear h); subst_vars; rfl))) ?_
              conv => arg 1; cbv
              refine sat_true (len_ok hΩ (ro_Note hE) l124 (by first | rfl | ((try clear h); subst_vars; rfl) | ((try clear h); subst_vars; simp only [ln_set])) (by first | rfl | ((try clear h); subst_vars; rfl) | ((try clear h); subst_vars; simp only [ln_set]))) ?_
              conv => arg 1; cbv
              refine sat_brf (len_zero hΩ (ro_Note hE) (l := [(Note.mk r125_Kind r125_Inst r125_Name r125_Late r125_Text)]) (b := false) (by rfl) (by first | rfl | ((try clear h); subst_vars; rfl))) ?_
              conv => arg 1; cbv
              refine sat_cat hΩ (ro_Note hE) l124 [(Note.mk r125_Kind r125_Inst r125_Name r125_Late r125_Text)] (by first | rfl | ((try clear h); subst_vars; rfl)) (by first | rfl | ((try clear h); subst_vars; rfl)) fun l127 hl128 n129 hn130 => ?_
              conv => arg 1; cbv
              replace h := bif_some h
              obtain ⟨hb131, h⟩ := h
              refine sat_true (by first | exact hb131 | ((try clear h); subst_vars; first | exact hb131 | rfl)) ?_
              conv => arg 1; cbv
              obtain ⟨q, hq183, hz⟩ := Option.bind_eq_some_iff.1 h
              clear h
              have h := hz
              clear hz
              refine sat_grp hΩ ((fun (q : (List Note)) => (match q with | l151 => ([(0, PV.d (.sl (E.L_Note a0_l) (some (E.L_Note a0_h)))), (1, PV.d (.int .u16 a1)), (2, PV.d (.int .u8 a2)), (3, PV.d (.int .i64 a3)), (8, PV.d (.bool false)), (9, PV.d (.int .u8 a2)), (10, PV.d (.int .i64 (Ω.tmod (Ω.wrap .i64 a1) (Ω.wrap .i64 (Ω.add n100 1))))), (11, PV.row 0 0 (ln l151))], ([X.Obj.row 70 5 (E.L_Note l151) false none] : List X.Obj) :: st))) q) (fun k hk => ?_) ?_
              · clear h
                have h := hq183
                clear hq183
                conv => arg 1; cbv
                refine sat_true (fits_x hΩ (ro_Note hE) a0_l (some a0_h) (by first | rfl | ((try clear h); subst_vars; rfl)) (by first | rfl | ((try clear h); subst_vars; rfl))) ?_
                conv => arg 1; cbv
                refine sat_len hΩ (ro_Note hE) a0_l (by first | rfl | ((try clear h); subst_vars; rfl)) fun n132 hn133 => ?_
                conv => arg 1; cbv
                refine sat_cat hΩ (ro_Note hE) a0_l a0_h (by first | rfl | ((try clear h); subst_vars; rfl)) (by first | rfl | ((try clear h); subst_vars; rfl)) fun l134 hl135 n136 hn137 => ?_
                conv => arg 1; cbv
                replace h := bif_some h
                obtain ⟨hb138, h⟩ := h
                refine sat_true (by first | exact hb138 | ((try clear h); subst_vars; first | exact hb138 | rfl)) ?_
                conv => arg 1; cbv
                replace h := bif_some h
                obtain ⟨hb139, h⟩ := h
                refine sat_true (by first | exact hb139 | ((try clear h); subst_vars; first | exact hb139 | rfl)) ?_
                conv => arg 1; cbv
                replace h := bif_some h
                obtain ⟨hb140, h⟩ := h
                refine sat_true (by first | exact hb140 | ((try clear h); subst_vars; first | exact hb140 | rfl)) ?_
                conv => arg 1; cbv
                refine sat_cut hΩ (ro_Note hE) (a0_l ++ a0_h) (Int.tmod (w64 a1) (w64 ((ln a0_l) + 1))) (ln a0_l) (by first | rfl | ((try clear h); subst_vars; rfl)) (by first | rfl | ((try clear h); subst_vars; rfl)) (by first | rfl | ((try clear h); subst_vars; rfl)) fun l141 hl142 => ?_
                conv => arg 1; cbv
                refine sat_cut hΩ (ro_Note hE) (a0_l ++ a0_h) (ln a0_l) (ln (a0_l ++ a0_h)) (by first | rfl | ((try clear h); subst_vars; rfl)) (by first | rfl | ((try clear h); subst_vars; rfl)) (by first | rfl | ((try clear h); subst_vars; rfl)) fun l143 hl144 => ?_
                conv => arg 1; cbv
                refine sat_true (ieq_ok hΩ _) ?_
                conv => arg 1; cbv
                refine sat_true (fits_l hΩ (ro_Note hE) (cut (a0_l ++ a0_h) (Int.tmod (w64 a1) (w64 ((ln a0_l) + 1))) (ln a0_l)) (by first | rfl | ((try clear h); subst_vars; rfl))) ?_
                conv => arg 1; cbv
                refine sat_true (len_ok hΩ (ro_Note hE) (l124 ++ [(Note.mk r125_Kind r125_Inst r125_Name r125_Late r125_Text)]) (by first | rfl | ((try clear h); subst_vars; rfl) | ((try clear h); subst_vars; simp only [ln_set])) (by first | rfl | ((try clear h); subst_vars; rfl) | ((try clear h); subst_vars; simp only [ln_set]))) ?_
                conv => arg 1; cbv
                replace h := bif_cases h
                rcases h with ⟨hb145, h⟩ | ⟨hb145, h⟩
                · refine sat_brt (len_zero hΩ (ro_Note hE) (l := (cut (a0_l ++ a0_h) (Int.tmod (w64 a1) (w64 ((ln a0_l) + 1))) (ln a0_l))) hb145 (by first | rfl | ((try clear h); subst_vars; rfl))) ?_
                  conv => arg 1; cbv
                  obtain rfl := Option.some.inj h
                  subst_vars
                  first | exact hk | (simp only [ln_set] at hk ⊢; exact hk)
                · refine sat_brf (len_zero hΩ (ro_Note hE) (l := (cut (a0_l ++ a0_h) (Int.tmod (w64 a1) (w64 ((ln a0_l) + 1))) (ln a0_l))) hb145 (by first | rfl | ((try clear h); subst_vars; rfl))) ?_
                  conv => arg 1; cbv
                  refine sat_cat hΩ (ro_Note hE) (l124 ++ [(Note.mk r125_Kind r125_Inst r125_Name r125_Late r125_Text)]) (cut (a0_l ++ a0_h) (Int.tmod (w64 a1) (w64 ((ln a0_l) + 1))) (ln a0_l)) (by first | rfl | ((try clear h); subst_vars; rfl)) (by first | rfl | ((try clear h); subst_vars; rfl)) fun l146 hl147 n148 hn149 => ?_
                  conv => arg 1; cbv
                  replace h := bif_some h
                  obtain ⟨hb150, h⟩ := h
                  refine sat_true (by first | exact hb150 | ((try clear h); subst_vars; first | exact hb150 | rfl)) ?_
                  conv => arg 1; cbv
                  obtain rfl := Option.some.inj h
                  subst_vars
                  first | exact hk | (simp only [ln_set] at hk ⊢; exact hk)
              · clear hq183
                obtain ⟨l151, hqq⟩ : ∃ x, x = q := ⟨_, rfl⟩
                subst hqq
                try dsimp only at h
                obtain ⟨ln_l151, hln_l151⟩ : ∃ n, ln l151 = n := ⟨_, rfl⟩
                simp only [hln_l151]
                conv => arg 1; cbv
                obtain ⟨⟨r152, r153⟩, hx154, hz⟩ := Option.bind_eq_some_iff.1 h
                clear h
                have h := hz
                clear hz
                try dsimp only at h
                refine sat_call (ok35 hΩ hE hx154 (by (try clear h); subst_vars; rfl) _) ?_
                conv => arg 1; cbv
                refine sat_true (len_ok hΩ (ro_Note hE) l151 (by first | rfl | ((try clear h); subst_vars; rfl) | ((try clear h); subst_vars; simp only [ln_set])) (by first | rfl | ((try clear h); subst_vars; rfl) | ((try clear h); subst_vars; simp only [ln_set]))) ?_
                conv => arg 1; cbv
                obtain ⟨⟨r155, r156⟩, hx157, hz⟩ := Option.bind_eq_some_iff.1 h
                clear h
                have h := hz
                clear hz
                try dsimp only at h
                refine sat_call (ok35 hΩ hE hx157 (by (try clear h); subst_vars; rfl) _) ?_
                conv => arg 1; cbv
                obtain ⟨q, hq182, hz⟩ := Option.bind_eq_some_iff.1 h
                clear h
                have h := hz
                clear hz
                refine sat_grp hΩ ((fun (q : Bool) => (match q with | i159 => ([(0, PV.d (.sl (E.L_Note a0_l) (some (E.L_Note a0_h)))), (1, PV.d (.int .u16 a1)), (2, PV.d (.int .u8 a2)), (3, PV.d (.int .i64 a3)), (8, PV.d (.bool false)), (9, PV.d (.int .u8 a2)), (10, PV.d (.int .i64 (Ω.tmod (Ω.wrap .i64 a1) (Ω.wrap .i64 (Ω.add n100 1))))), (11, PV.row 0 0 (ln l151)), (12, PV.d (.int .i64 r152)), (13, PV.d (.int .i64 r153)), (14, PV.d (.int .i64 r155)), (15, PV.d (.int .i64 r156)), (69, PV.d (.bool i159))], ([X.Obj.row 70 5 (E.L_Note l151) false none] : List X.Obj) :: st))) q) (fun k hk => ?_) ?_
                · clear h
                  have h := hq182
                  clear hq182
                  conv => arg 1; cbv
                  replace h := bif_cases h
                  rcases h with ⟨hb158, h⟩ | ⟨hb158, h⟩
                  · refine sat_brt (by first | exact hb158 | ((try clear h); subst_vars; first | exact hb158 | rfl)) ?_
                    conv => arg 1; cbv
                    obtain rfl := Option.some.inj h
                    subst_vars
                    first | exact hk | (simp only [ln_set] at hk ⊢; exact hk)
                  · refine sat_brf (by first | exact hb158 | ((try clear h); subst_vars; first | exact hb158 | rfl)) ?_
                    conv => arg 1; cbv
                    obtain rfl := Option.some.inj h
                    subst_vars
                    first | exact hk | (simp only [ln_set] at hk ⊢; exact hk)
                · clear hq182
                  obtain ⟨i159, hqq⟩ : ∃ x, x = q := ⟨_, rfl⟩
                  subst hqq
                  try dsimp only at h
                  obtain ⟨ln_l151, hln_l151⟩ : ∃ n, ln l151 = n := ⟨_, rfl⟩
                  simp only [hln_l151]
                  conv => arg 1; cbv
                  obtain ⟨q, hq181, hz⟩ := Option.bind_eq_some_iff.1 h
                  clear h
                  have h := hz
                  clear hz
                  refine sat_grp hΩ ((fun (q : Int) => (match q with | i161 => (.normal, [(0, PV.d (.sl (E.L_Note a0_l) (some (E.L_Note a0_h)))), (1, PV.d (.int .u16 a1)), (2, PV.d (.int .u8 a2)), (3, PV.d (.int .i64 a3)), (8, PV.d (.bool false)), (9, PV.d (.int .u8 a2)), (10, PV.d (.int .i64 (Ω.tmod (Ω.wrap .i64 a1) (Ω.wrap .i64 (Ω.add n100 1))))), (11, PV.row 0 0 (ln l151)), (12, PV.d (.int .i64 i161)), (13, PV.d (.int .i64 r153)), (14, PV.d (.int .i64 r155)), (15, PV.d (.int .i64 r156))], ([X.Obj.row 70 5 (E.L_Note l151) false none] : List X.Obj) :: st))) q) (fun k hk => ?_) ?_
                  · clear h
                    have h := hq181
                    clear hq181
                    conv => arg 1; cbv
                    replace h := bif_cases h
                    rcases h with ⟨hb160, h⟩ | ⟨hb160, h⟩
                    · refine sat_brt (by first | exact hb160 | ((try clear h); subst_vars; first | exact hb160 | rfl)) ?_
                      conv => arg 1; cbv
                      obtain rfl := Option.some.inj h
                      subst_vars
                      first | exact hk | (simp only [ln_set] at hk ⊢; exact hk)
                    · refine sat_brf (by first | exact hb160 | ((try clear h); subst_vars; first | exact hb160 | rfl)) ?_
                      conv => arg 1; cbv
                      obtain rfl := Option.some.inj h
                      subst_vars
                      first | exact hk | (simp only [ln_set] at hk ⊢; exact hk)
                  · clear hq181
                    obtain ⟨i161, hqq⟩ : ∃ x, x = q := ⟨_, rfl⟩
                    subst hqq
                    try dsimp only at h
                    obtain ⟨ln_l151, hln_l151⟩ : ∃ n, ln l151 = n := ⟨_, rfl⟩
                    simp only [hln_l151]
                    conv => arg 1; cbv
                    obtain ⟨q, hq180, hz⟩ := Option.bind_eq_some_iff.1 h
                    clear h
                    have h := hz
                    clear hz
                    refine sat_grp hΩ ((fun (q : Bool) => (match q with | i179 => ([(0, PV.d (.sl (E.L_Note a0_l) (some (E.L_Note a0_h)))), (1, PV.d (.int .u16 a1)), (2, PV.d (.int .u8 a2)), (3, PV.d (.int .i64 a3)), (8, PV.d (.bool i179)), (9, PV.d (.int .u8 a2)), (10, PV.d (.int .i64 (Ω.tmod (Ω.wrap .i64 a1) (Ω.wrap .i64 (Ω.add n100 1))))), (11, PV.row 0 0 (ln l151)), (12, PV.d (.int .i64 i161)), (13, PV.d (.int .i64 r153)), (14, PV.d (.int .i64 r155)), (15, PV.d (.int .i64 r156))], ([X.Obj.row 70 5 (E.L_Note l151) false none] : List X.Obj) :: st))) q) (fun k hk => ?_) ?_
                    · clear h
                      have h := hq180
                      clear hq180
                      conv => arg 1; cbv
                      replace h := bif_cases h
                      rcases h with ⟨hb162, h⟩ | ⟨hb162, h⟩
                      · refine sat_brt (by first | exact hb162 | ((try clear h); subst_vars; first | exact hb162 | rfl)) ?_
                        conv => arg 1; cbv
                        replace h := bif_cases h
                        rcases h with ⟨hb163, h⟩ | ⟨hb163, h⟩
                        · refine sat_brt (by first | exact hb163 | ((try clear h); subst_vars; first | exact hb163 | rfl)) ?_
                          conv => arg 1; cbv
                          refine sat_true (len_ok hΩ (ro_Note hE) l151 (by first | rfl | ((try clear h); subst_vars; rfl) | ((try clear h); subst_vars; simp only [ln_set])) (by first | rfl | ((try clear h); subst_vars; rfl) | ((try clear h); subst_vars; simp only [ln_set]))) ?_
                          conv => arg 1; cbv
                          obtain ⟨⟨r164_l, r164_x⟩, hx165, hz⟩ := Option.bind_eq_some_iff.1 h
                          clear h
                          have h := hz
                          clear hz
                          try dsimp only at h
                          refine sat_call (ok47 hΩ hE hx165 (by (try clear h); subst_vars; rfl) _) ?_
                          conv => arg 1; cbv
                          refine sat_tick hΩ ?_
                          conv => arg 1; cbv
                          refine sat_len hΩ (ro_Note hE) r164_l (by first | rfl | ((try clear h); subst_vars; rfl)) fun n166 hn167 => ?_
                          conv => arg 1; cbv
                          obtain ⟨⟨r168_l, r168_x⟩, hx169, hz⟩ := Option.bind_eq_some_iff.1 h
                          clear h
                          have h := hz
                          clear hz
                          try dsimp only at h
                          refine sat_call (ok47 hΩ hE hx169 (by (try clear h); subst_vars; rfl) _) ?_
                          conv => arg 1; cbv
                          refine sat_len hΩ (ro_Note hE) r168_l (by first | rfl | ((try clear h); subst_vars; rfl)) fun n170 hn171 => ?_
                          conv => arg 1; cbv
                          replace h := bif_cases h
                          rcases h with ⟨hb172, h⟩ | ⟨hb172, h⟩
                          · refine sat_brt (by first | exact hb172 | ((try clear h); subst_vars; first | exact hb172 | rfl)) ?_
                            conv => arg 1; cbv
                            refine sat_tick hΩ ?_
                            conv => arg 1; cbv
                            refine sat_true (len_ok hΩ (ro_Note hE) l151 (by first | rfl | ((try clear h); subst_vars; rfl) | ((try clear h); subst_vars; simp only [ln_set])) (by first | rfl | ((try clear h); subst_vars; rfl) | ((try clear h); subst_vars; simp only [ln_set]))) ?_
                            conv => arg 1; cbv
                            obtain ⟨⟨r173_l, r173_x⟩, hx174, hz⟩ := Option.bind_eq_some_iff.1 h
                            clear h
                            have h := hz
                            clear hz
                            try dsimp only at h
                            refine sat_call (ok47 hΩ hE hx174 (by (try clear h); subst_vars; rfl) _) ?_
                            conv => arg 1; cbv
                            obtain ⟨⟨r175_l, r175_x⟩, hx176, hz⟩ := Option.bind_eq_some_iff.1 h
                            clear h
                            have h := hz
                            clear hz
                            try dsimp only at h
                            refine sat_call (ok47 hΩ hE hx176 (by (try clear h); subst_vars; rfl) _) ?_
                            conv => arg 1; cbv
                            obtain ⟨r177, hx178, hz⟩ := Option.bind_eq_some_iff.1 h
                            clear h
                            have h := hz
                            clear hz
                            refine sat_call (ok50 hΩ hE hx178 (by (try clear h); subst_vars; rfl) _) ?_
                            conv => arg 1; cbv
                            obtain rfl := Option.some.inj h
                            subst_vars
                            first | exact hk | (simp only [ln_set] at hk ⊢; exact hk)
                          · refine sat_brf (by first | exact hb172 | ((try clear h); subst_vars; first | exact hb172 | rfl)) ?_
                            conv => arg 1; cbv
                            refine sat_tick hΩ ?_
                            conv => arg 1; cbv
                            obtain rfl := Option.some.inj h
                            subst_vars
                            first | exact hk | (simp only [ln_set] at hk ⊢; exact hk)
                        · refine sat_brf (by first | exact hb163 | ((try clear h); subst_vars; first | exact hb163 | rfl)) ?_
                          conv => arg 1; cbv
                          refine sat_tick hΩ ?_
                          conv => arg 1; cbv
                          refine sat_tick hΩ ?_
                          conv => arg 1; cbv
                          obtain rfl := Option.some.inj h
                          subst_vars
                          first | exact hk | (simp only [ln_set] at hk ⊢; exact hk)
                      · refine sat_brf (by first | exact hb162 | ((try clear h); subst_vars; first | exact hb162 | rfl)) ?_
                        conv => arg 1; cbv
                        refine sat_tick hΩ ?_
                        conv => arg 1; cbv
                        refine sat_tick hΩ ?_
                        conv => arg 1; cbv
                        obtain rfl := Option.some.inj h
                        subst_vars
                        first | exact hk | (simp only [ln_set] at hk ⊢; exact hk)
                    · clear hq180
                      obtain ⟨i179, hqq⟩ : ∃ x, x = q := ⟨_, rfl⟩
                      subst hqq
                      try dsimp only at h
                      obtain ⟨ln_l151, hln_l151⟩ : ∃ n, ln l151 = n := ⟨_, rfl⟩
                      simp only [hln_l151]
                      conv => arg 1; cbv
                      obtain rfl := Option.some.inj h
                      subst_vars
                      exact sat_pure rfl
end Go.Proofs.Ytamllgdaepjcfaa
