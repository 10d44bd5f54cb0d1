/- The interpreter computes just these functions: printed by a small program. -/
import Derived.Test.YtamllgdaepjcfaaTVD2
namespace Go.Proofs.Ytamllgdaepjcfaa
open Go Go.X
set_option linter.unusedVariables false
set_option linter.unusedSimpArgs false
set_option maxRecDepth 100000
set_option maxHeartbeats 4000000 in
theorem ok49 {Ω : Om} {E : Enc} (hΩ : real (call S) = Ω) (hE : theEnc = E) {fu : Nat} {a0 : Int} {a1 : Int} {r : Note} (h : P49 fu a0 a1 = some r) {args : List PV} (ha : [PV.d (.int .u8 a0), PV.d (.int .i64 a1)] = args) (st : St) :
    Sat (Ω.cf 49 args st) (fun q => q = (pv_Note E r, st)) := by
  subst ha
  rw [cf_body hΩ (f := 49) (fn := Try.f49) (x := c49) rfl rfl c49_ok rfl rfl]
  unfold P49 at h
  try dsimp only at h
  conv => arg 1; cbv
  obtain rfl := Option.some.inj h
  subst_vars
  exact sat_pure rfl
set_option maxHeartbeats 4000000 in
theorem ok48 {Ω : Om} {E : Enc} (hΩ : real (call S) = Ω) (hE : theEnc = E) {fu : Nat} {a0 : Sl Note} {a1 : Int} {r : Int} (h : P48 fu a0 a1 = some r) {args : List PV} (ha : [PV.d (.sl (E.L_Note a0.l) (E.X_Note a0.x)), PV.d (.int .u8 a1)] = args) (st : St) :
    Sat (Ω.cf 48 args st) (fun q => q = (PV.d (.int .i64 r), st)) := by
  subst ha
  rcases a0 with ⟨a0_l, a0_x⟩
  rw [cf_body hΩ (f := 48) (fn := Try.f48) (x := c48) rfl rfl c48_ok rfl rfl]
  unfold P48 at h
  try dsimp only at h
  conv => arg 1; cbv
  refine sat_len hΩ (ro_Note hE) a0_l (by first | rfl | ((try clear h); subst_vars; rfl)) fun n1 hn2 => ?_
  conv => arg 1; cbv
  obtain ⟨q, hl11, hz⟩ := Option.bind_eq_some_iff.1 h
  clear h
  have h := hz
  clear hz
  refine sat_loop hΩ (fun (a : Int × Int) => (match a with | (i3, i4) => ([(0, PV.d (.sl (E.L_Note a0_l) (E.X_Note a0_x))), (1, PV.d (.int .u8 a1)), (4, PV.d (.int .i64 i3)), (7, PV.d (.sl (E.L_Note a0_l) (E.X_Note a0_x))), (8, PV.d (.int .i64 n1)), (9, PV.d (.int .i64 i4))], ([] : List X.Obj) :: st))) (fun (q : (Int × Int)) => (match q with | (o12, o13) => (.exit 0, [(0, PV.d (.sl (E.L_Note a0_l) (E.X_Note a0_x))), (1, PV.d (.int .u8 a1)), (4, PV.d (.int .i64 o12)), (7, PV.d (.sl (E.L_Note a0_l) (E.X_Note a0_x))), (8, PV.d (.int .i64 n1)), (9, PV.d (.int .i64 o13))], ([] : List X.Obj) :: st))) (0, 0) hl11 (by first | rfl | ((try clear h); subst_vars; rfl) | ((try clear h); subst_vars; simp only [ln_set])) ?_ ?_
  · clear h hl11
    rintro ⟨i3, i4⟩ q h
    unfold P48_s0 at h
    dsimp only at h
    conv => arg 1; cbv
    refine sat_in hΩ ?_
    conv => arg 1; cbv
    replace h := bif_cases h
    rcases h with ⟨hb5, h⟩ | ⟨hb5, h⟩
    · refine sat_brt (by first | exact hb5 | ((try clear h); subst_vars; first | exact hb5 | rfl)) ?_
      conv => arg 1; cbv
      refine sat_true (fits_l hΩ (ro_Note hE) a0_l (by first | rfl | ((try clear h); subst_vars; rfl))) ?_
      conv => arg 1; cbv
      obtain ⟨⟨x6_Kind, x6_Inst, x6_Name, x6_Late, x6_Text⟩, hx7, hz⟩ := Option.bind_eq_some_iff.1 h
      clear h
      have h := hz
      clear hz
      try dsimp only at h
      refine sat_bind (nth_ok hΩ (ro_Note hE) hx7 (by first | rfl | ((try clear h); subst_vars; rfl)) (by first | rfl | ((try clear h); subst_vars; rfl))) ?_
      conv => arg 1; cbv
      obtain ⟨q, hq10, hz⟩ := Option.bind_eq_some_iff.1 h
      clear h
      have h := hz
      clear hz
      refine sat_grp hΩ ((fun (q : Int) => (match q with | i9 => (.normal, [(0, PV.d (.sl (E.L_Note a0_l) (E.X_Note a0_x))), (1, PV.d (.int .u8 a1)), (4, PV.d (.int .i64 i9)), (6, PV.ptr 0 0 0), (7, PV.d (.sl (E.L_Note a0_l) (E.X_Note a0_x))), (8, PV.d (.int .i64 n1)), (9, PV.d (.int .i64 i4))], ([X.Obj.box 70 [.d (.int .u8 x6_Kind), .d (.int .i64 x6_Inst), .d (.str x6_Name), .d (.bool x6_Late), .d (.str x6_Text)]] : List X.Obj) :: st))) q) (fun k hk => ?_) ?_
      · clear h
        have h := hq10
        clear hq10
        conv => arg 1; cbv
        replace h := bif_cases h
        rcases h with ⟨hb8, h⟩ | ⟨hb8, h⟩
        · refine sat_brt (by first | exact hb8 | ((try clear h); subst_vars; first | exact hb8 | rfl)) ?_
          conv => arg 1; cbv
          obtain rfl := Option.some.inj h
          subst_vars
          first | exact hk | (simp only [ln_set] at hk ⊢; exact hk)
        · refine sat_brf (by first | exact hb8 | ((try clear h); subst_vars; first | exact hb8 | rfl)) ?_
          conv => arg 1; cbv
          obtain rfl := Option.some.inj h
          subst_vars
          first | exact hk | (simp only [ln_set] at hk ⊢; exact hk)
      · clear hq10
        obtain ⟨i9, hqq⟩ : ∃ x, x = q := ⟨_, rfl⟩
        subst hqq
        try dsimp only at h
        conv => arg 1; cbv
        obtain rfl := Option.some.inj h
        subst_vars
        first | exact sat_pure ⟨rfl, rfl, rfl⟩ | (refine sat_pure ⟨rfl, ?_, ?_⟩ <;> first | rfl | (dsimp only; simp only [ln_set]; rfl))
    · refine sat_brf (by first | exact hb5 | ((try clear h); subst_vars; first | exact hb5 | rfl)) ?_
      conv => arg 1; cbv
      obtain rfl := Option.some.inj h
      subst_vars
      first | exact sat_pure (.inl ⟨⟨_, rfl⟩, rfl⟩) | (refine sat_pure (.inl ⟨⟨_, rfl⟩, ?_⟩); dsimp only; simp only [ln_set]; rfl)
  · clear hl11
    rcases q with ⟨o12, o13⟩
    dsimp only at h
    conv => arg 1; cbv
    obtain rfl := Option.some.inj h
    subst_vars
    exact sat_pure rfl
set_option maxHeartbeats 4000000 in
theorem ok47 {Ω : Om} {E : Enc} (hΩ : real (call S) = Ω) (hE : theEnc = E) {fu : Nat} {a0 : Sl Note} {a1 : Int} {r : (Sl Note)} (h : P47 fu a0 a1 = some r) {args : List PV} (ha : [PV.d (.sl (E.L_Note a0.l) (E.X_Note a0.x)), PV.d (.int .i64 a1)] = args) (st : St) :
    Sat (Ω.cf 47 args st) (fun q => q = (PV.d (.sl (E.L_Note r.l) (E.X_Note r.x)), st)) := by
  subst ha
  rcases a0 with ⟨a0_l, a0_x⟩
  rw [cf_body hΩ (f := 47) (fn := Try.f47) (x := c47) rfl rfl c47_ok rfl rfl]
  unfold P47 at h
  try dsimp only at h
  conv => arg 1; cbv
  refine sat_nil hΩ (ro_Note hE) fun l1 hl2 => ?_
  conv => arg 1; cbv
  refine sat_len hΩ (ro_Note hE) a0_l (by first | rfl | ((try clear h); subst_vars; rfl)) fun n3 hn4 => ?_
  conv => arg 1; cbv
  obtain ⟨q, hl18, hz⟩ := Option.bind_eq_some_iff.1 h
  clear h
  have h := hz
  clear hz
  refine sat_loop hΩ (fun (a : (List Note) × Int) => (match a with | (l5, i6) => ([(0, PV.d (.sl (E.L_Note a0_l) (E.X_Note a0_x))), (1, PV.d (.int .i64 a1)), (4, PV.row 0 0 (ln l5)), (7, PV.d (.sl (E.L_Note a0_l) (E.X_Note a0_x))), (8, PV.d (.int .i64 n3)), (9, PV.d (.int .i64 i6))], ([X.Obj.row 70 5 (E.L_Note l5) false none] : List X.Obj) :: st))) (fun (q : ((List Note) × Int)) => (match q with | (o19, o20) => (.exit 0, [(0, PV.d (.sl (E.L_Note a0_l) (E.X_Note a0_x))), (1, PV.d (.int .i64 a1)), (4, PV.row 0 0 (ln o19)), (7, PV.d (.sl (E.L_Note a0_l) (E.X_Note a0_x))), (8, PV.d (.int .i64 n3)), (9, PV.d (.int .i64 o20))], ([X.Obj.row 70 5 (E.L_Note o19) false none] : List X.Obj) :: st))) (([] : List Note), 0) hl18 (by first | rfl | ((try clear h); subst_vars; rfl) | ((try clear h); subst_vars; simp only [ln_set])) ?_ ?_
  · clear h hl18
    rintro ⟨l5, i6⟩ q h
    unfold P47_s0 at h
    dsimp only at h
    obtain ⟨ln_l5, hln_l5⟩ : ∃ n, ln l5 = n := ⟨_, rfl⟩
    simp only [hln_l5]
    conv => arg 1; cbv
    refine sat_in hΩ ?_
    conv => arg 1; cbv
    replace h := bif_cases h
    rcases h with ⟨hb7, h⟩ | ⟨hb7, h⟩
    · refine sat_brt (by first | exact hb7 | ((try clear h); subst_vars; first | exact hb7 | rfl)) ?_
      conv => arg 1; cbv
      refine sat_true (fits_l hΩ (ro_Note hE) a0_l (by first | rfl | ((try clear h); subst_vars; rfl))) ?_
      conv => arg 1; cbv
      obtain ⟨⟨x8_Kind, x8_Inst, x8_Name, x8_Late, x8_Text⟩, hx9, hz⟩ := Option.bind_eq_some_iff.1 h
      clear h
      have h := hz
      clear hz
      try dsimp only at h
      refine sat_bind (nth_ok hΩ (ro_Note hE) hx9 (by first | rfl | ((try clear h); subst_vars; rfl)) (by first | rfl | ((try clear h); subst_vars; rfl))) ?_
      conv => arg 1; cbv
      obtain ⟨q, hq17, hz⟩ := Option.bind_eq_some_iff.1 h
      clear h
      have h := hz
      clear hz
      refine sat_grp hΩ ((fun (q : (List Note)) => (match q with | l16 => (.normal, [(0, PV.d (.sl (E.L_Note a0_l) (E.X_Note a0_x))), (1, PV.d (.int .i64 a1)), (4, PV.row 0 0 (ln l16)), (6, PV.ptr 0 1 0), (7, PV.d (.sl (E.L_Note a0_l) (E.X_Note a0_x))), (8, PV.d (.int .i64 n3)), (9, PV.d (.int .i64 i6))], ([X.Obj.row 70 5 (E.L_Note l16) false none, X.Obj.box 70 [.d (.int .u8 x8_Kind), .d (.int .i64 x8_Inst), .d (.str x8_Name), .d (.bool x8_Late), .d (.str x8_Text)]] : List X.Obj) :: st))) q) (fun k hk => ?_) ?_
      · clear h
        have h := hq17
        clear hq17
        conv => arg 1; cbv
        replace h := bif_cases h
        rcases h with ⟨hb10, h⟩ | ⟨hb10, h⟩
        · refine sat_brt (by first | exact hb10 | ((try clear h); subst_vars; first | exact hb10 | rfl)) ?_
          conv => arg 1; cbv
          refine sat_in hΩ ?_
          conv => arg 1; cbv
          refine sat_true (ieq_ok hΩ _) ?_
          conv => arg 1; cbv
          refine sat_true (fits_l hΩ (ro_Note hE) [(Note.mk x8_Kind x8_Inst x8_Name x8_Late x8_Text)] (by first | rfl | ((try clear h); subst_vars; rfl))) ?_
          conv => arg 1; cbv
          refine sat_true (len_ok hΩ (ro_Note hE) l5 (by first | rfl | ((try clear h); subst_vars; rfl) | ((try clear h); subst_vars; simp only [ln_set])) (by first | rfl | ((try clear h); subst_vars; rfl) | ((try clear h); subst_vars; simp only [ln_set]))) ?_
          conv => arg 1; cbv
          refine sat_brf (len_zero hΩ (ro_Note hE) (l := [(Note.mk x8_Kind x8_Inst x8_Name x8_Late x8_Text)]) (b := false) (by rfl) (by first | rfl | ((try clear h); subst_vars; rfl))) ?_
          conv => arg 1; cbv
          refine sat_cat hΩ (ro_Note hE) l5 [(Note.mk x8_Kind x8_Inst x8_Name x8_Late x8_Text)] (by first | rfl | ((try clear h); subst_vars; rfl)) (by first | rfl | ((try clear h); subst_vars; rfl)) fun l11 hl12 n13 hn14 => ?_
          conv => arg 1; cbv
          replace h := bif_some h
          obtain ⟨hb15, h⟩ := h
          refine sat_true (by first | exact hb15 | ((try clear h); subst_vars; first | exact hb15 | rfl)) ?_
          conv => arg 1; cbv
          obtain rfl := Option.some.inj h
          subst_vars
          first | exact hk | (simp only [ln_set] at hk ⊢; exact hk)
        · refine sat_brf (by first | exact hb10 | ((try clear h); subst_vars; first | exact hb10 | rfl)) ?_
          conv => arg 1; cbv
          obtain rfl := Option.some.inj h
          subst_vars
          first | exact hk | (simp only [ln_set] at hk ⊢; exact hk)
      · clear hq17
        obtain ⟨l16, hqq⟩ : ∃ x, x = q := ⟨_, rfl⟩
        subst hqq
        try dsimp only at h
        obtain ⟨ln_l16, hln_l16⟩ : ∃ n, ln l16 = n := ⟨_, rfl⟩
        simp only [hln_l16]
        conv => arg 1; cbv
        obtain rfl := Option.some.inj h
        subst_vars
        first | exact sat_pure ⟨rfl, rfl, rfl⟩ | (refine sat_pure ⟨rfl, ?_, ?_⟩ <;> first | rfl | (dsimp only; simp only [ln_set]; rfl))
    · refine sat_brf (by first | exact hb7 | ((try clear h); subst_vars; first | exact hb7 | rfl)) ?_
      conv => arg 1; cbv
      obtain rfl := Option.some.inj h
      subst_vars
      first | exact sat_pure (.inl ⟨⟨_, rfl⟩, rfl⟩) | (refine sat_pure (.inl ⟨⟨_, rfl⟩, ?_⟩); dsimp only; simp only [ln_set]; rfl)
  · clear hl18
    rcases q with ⟨o19, o20⟩
    dsimp only at h
    obtain ⟨ln_o19, hln_o19⟩ : ∃ n, ln o19 = n := ⟨_, rfl⟩
    simp only [hln_o19]
    conv => arg 1; cbv
    refine sat_true (len_ok hΩ (ro_Note hE) o19 (by first | rfl | ((try clear h); subst_vars; rfl) | ((try clear h); subst_vars; simp only [ln_set])) (by first | rfl | ((try clear h); subst_vars; rfl) | ((try clear h); subst_vars; simp only [ln_set]))) ?_
    conv => arg 1; cbv
    obtain rfl := Option.some.inj h
    subst_vars
    exact sat_pure rfl
set_option maxHeartbeats 4000000 in
theorem ok46 {Ω : Om} {E : Enc} (hΩ : real (call S) = Ω) (hE : theEnc = E) {fu : Nat} {r : Bool} (h : P46 fu = some r) {args : List PV} (ha : [] = args) (st : St) :
    Sat (Ω.cf 46 args st) (fun q => q = (PV.d (.bool r), st)) := by
  subst ha
  rw [cf_body hΩ (f := 46) (fn := Try.f46) (x := c46) rfl rfl c46_ok rfl rfl]
  unfold P46 at h
  try dsimp only at h
  conv => arg 1; cbv
  obtain ⟨⟨r1_Kind, r1_Inst, r1_Name, r1_Late, r1_Text⟩, hx2, hz⟩ := Option.bind_eq_some_iff.1 h
  clear h
  have h := hz
  clear hz
  try dsimp only at h
  refine sat_call (ok49 hΩ hE hx2 (by (try clear h); subst_vars; rfl) _) ?_
  conv => arg 1; cbv
  obtain ⟨⟨r3_Kind, r3_Inst, r3_Name, r3_Late, r3_Text⟩, hx4, hz⟩ := Option.bind_eq_some_iff.1 h
  clear h
  have h := hz
  clear hz
  try dsimp only at h
  refine sat_call (ok49 hΩ hE hx4 (by (try clear h); subst_vars; rfl) _) ?_
  conv => arg 1; cbv
  obtain ⟨⟨r5_Kind, r5_Inst, r5_Name, r5_Late, r5_Text⟩, hx6, hz⟩ := Option.bind_eq_some_iff.1 h
  clear h
  have h := hz
  clear hz
  try dsimp only at h
  refine sat_call (ok49 hΩ hE hx6 (by (try clear h); subst_vars; rfl) _) ?_
  conv => arg 1; cbv
  refine sat_true (same_ok hΩ _) ?_
  conv => arg 1; cbv
  obtain ⟨⟨r7_Kind, r7_Inst, r7_Name, r7_Late, r7_Text⟩, hx8, hz⟩ := Option.bind_eq_some_iff.1 h
  clear h
  have h := hz
  clear hz
  try dsimp only at h
  refine sat_call (ok49 hΩ hE hx8 (by (try clear h); subst_vars; rfl) _) ?_
  conv => arg 1; cbv
  refine sat_true (same_ok hΩ _) ?_
  conv => arg 1; cbv
  obtain ⟨⟨r9_Kind, r9_Inst, r9_Name, r9_Late, r9_Text⟩, hx10, hz⟩ := Option.bind_eq_some_iff.1 h
  clear h
  have h := hz
  clear hz
  try dsimp only at h
  refine sat_call (ok49 hΩ hE hx10 (by (try clear h); subst_vars; rfl) _) ?_
  conv => arg 1; cbv
  refine sat_true (same_ok hΩ _) ?_
  conv => arg 1; cbv
  obtain ⟨⟨r11_Kind, r11_Inst, r11_Name, r11_Late, r11_Text⟩, hx12, hz⟩ := Option.bind_eq_some_iff.1 h
  clear h
  have h := hz
  clear hz
  try dsimp only at h
  refine sat_call (ok49 hΩ hE hx12 (by (try clear h); subst_vars; rfl) _) ?_
  conv => arg 1; cbv
  refine sat_true (same_ok hΩ _) ?_
  conv => arg 1; cbv
  obtain ⟨l13, hx14, hz⟩ := Option.bind_eq_some_iff.1 h
  clear h
  have h := hz
  clear hz
  have hL15 : ([[.int .u8 r5_Kind, .int .i64 r5_Inst, .str r5_Name, .bool r5_Late, .str r5_Text], [.int .u8 r7_Kind, .int .i64 r7_Inst, .str r7_Name, .bool r7_Late, .str r7_Text], [.int .u8 r1_Kind, .int .i64 r1_Inst, .str r1_Name, .bool r1_Late, .str r1_Text], [.int .u8 r3_Kind, .int .i64 r3_Inst, .str r3_Name, .bool r3_Late, .str r3_Text], [.int .u8 r9_Kind, .int .i64 r9_Inst, .str r9_Name, .bool r9_Late, .str r9_Text], [.int .u8 r11_Kind, .int .i64 r11_Inst, .str r11_Name, .bool r11_Late, .str r11_Text]] : List (List D)) = E.L_Note l13 := by (have hy := Option.some.inj hx14; clear h; subst hy; subst hE; rfl)
  rw [hL15]
  clear hL15
  conv => arg 1; cbv
  refine sat_true (same_ok hΩ _) ?_
  conv => arg 1; cbv
  obtain ⟨⟨r16, r17⟩, hx18, hz⟩ := Option.bind_eq_some_iff.1 h
  clear h
  have h := hz
  clear hz
  try dsimp only at h
  refine sat_call (ok35 hΩ hE hx18 (by (try clear h); subst_vars; rfl) _) ?_
  conv => arg 1; cbv
  refine sat_true (fits_x hΩ (ro_Note hE) l13 (some []) (by first | rfl | ((try clear h); subst_vars; rfl)) (by first | rfl | ((try clear h); subst_vars; rfl))) ?_
  conv => arg 1; cbv
  refine sat_len hΩ (ro_Note hE) l13 (by first | rfl | ((try clear h); subst_vars; rfl)) fun n19 hn20 => ?_
  conv => arg 1; cbv
  refine sat_cat hΩ (ro_Note hE) l13 [] (by first | rfl | ((try clear h); subst_vars; rfl)) (by first | rfl | ((try clear h); subst_vars; rfl)) fun l21 hl22 n23 hn24 => ?_
  conv => arg 1; cbv
  replace h := bif_some h
  obtain ⟨hb25, h⟩ := h
  refine sat_true (by first | exact hb25 | ((try clear h); subst_vars; first | exact hb25 | rfl)) ?_
  conv => arg 1; cbv
  replace h := bif_some h
  obtain ⟨hb26, h⟩ := h
  refine sat_true (by first | exact hb26 | ((try clear h); subst_vars; first | exact hb26 | rfl)) ?_
  conv => arg 1; cbv
  replace h := bif_some h
  obtain ⟨hb27, h⟩ := h
  refine sat_true (by first | exact hb27 | ((try clear h); subst_vars; first | exact hb27 | rfl)) ?_
  conv => arg 1; cbv
  refine sat_cut hΩ (ro_Note hE) (l13 ++ []) 1 (ln l13) (by first | rfl | ((try clear h); subst_vars; rfl)) (by first | rfl | ((try clear h); subst_vars; rfl)) (by first | rfl | ((try clear h); subst_vars; rfl)) fun l28 hl29 => ?_
  conv => arg 1; cbv
  refine sat_cut hΩ (ro_Note hE) (l13 ++ []) (ln l13) (ln (l13 ++ [])) (by first | rfl | ((try clear h); subst_vars; rfl)) (by first | rfl | ((try clear h); subst_vars; rfl)) (by first | rfl | ((try clear h); subst_vars; rfl)) fun l30 hl31 => ?_
  conv => arg 1; cbv
  obtain ⟨⟨r32, r33⟩, hx34, hz⟩ := Option.bind_eq_some_iff.1 h
  clear h
  have h := hz
  clear hz
  try dsimp only at h
  refine sat_call (ok35 hΩ hE hx34 (by (try clear h); subst_vars; rfl) _) ?_
  conv => arg 1; cbv
  refine sat_in hΩ ?_
  conv => arg 1; cbv
  obtain ⟨⟨r35_Kind, r35_Inst, r35_Name, r35_Late, r35_Text⟩, hx36, hz⟩ := Option.bind_eq_some_iff.1 h
  clear h
  have h := hz
  clear hz
  try dsimp only at h
  refine sat_call (ok49 hΩ hE hx36 (by (try clear h); subst_vars; rfl) _) ?_
  conv => arg 1; cbv
  refine sat_true (ieq_ok hΩ _) ?_
  conv => arg 1; cbv
  refine sat_true (fits_l hΩ (ro_Note hE) [(Note.mk r35_Kind r35_Inst r35_Name r35_Late r35_Text)] (by first | rfl | ((try clear h); subst_vars; rfl))) ?_
  conv => arg 1; cbv
  refine sat_brf (len_zero hΩ (ro_Note hE) (l := [(Note.mk r35_Kind r35_Inst r35_Name r35_Late r35_Text)]) (b := false) (by rfl) (by first | rfl | ((try clear h); subst_vars; rfl))) ?_
  conv => arg 1; cbv
  refine sat_true (fits_x hΩ (ro_Note hE) l13 (some []) (by first | rfl | ((try clear h); subst_vars; rfl)) (by first | rfl | ((try clear h); subst_vars; rfl))) ?_
  conv => arg 1; cbv
  refine sat_cat hΩ (ro_Note hE) l13 [(Note.mk r35_Kind r35_Inst r35_Name r35_Late r35_Text)] (by first | rfl | ((try clear h); subst_vars; rfl)) (by first | rfl | ((try clear h); subst_vars; rfl)) fun l37 hl38 n39 hn40 => ?_
  conv => arg 1; cbv
  refine sat_len hΩ (ro_Note hE) (l13 ++ [(Note.mk r35_Kind r35_Inst r35_Name r35_Late r35_Text)]) (by first | rfl | ((try clear h); subst_vars; rfl)) fun n41 hn42 => ?_
  conv => arg 1; cbv
  replace h := bif_some h
  obtain ⟨hb43, h⟩ := h
  refine sat_true (by first | exact hb43 | ((try clear h); subst_vars; first | exact hb43 | rfl)) ?_
  conv => arg 1; cbv
  refine sat_true (len_ok hΩ (ro_Note hE) (l13 ++ [(Note.mk r35_Kind r35_Inst r35_Name r35_Late r35_Text)]) (by first | rfl | ((try clear h); subst_vars; rfl) | ((try clear h); subst_vars; simp only [ln_set])) (by first | rfl | ((try clear h); subst_vars; rfl) | ((try clear h); subst_vars; simp only [ln_set]))) ?_
  conv => arg 1; cbv
  obtain ⟨⟨r44, r45⟩, hx46, hz⟩ := Option.bind_eq_some_iff.1 h
  clear h
  have h := hz
  clear hz
  try dsimp only at h
  refine sat_call (ok35 hΩ hE hx46 (by (try clear h); subst_vars; rfl) _) ?_
  conv => arg 1; cbv
  obtain ⟨q, hq61, hz⟩ := Option.bind_eq_some_iff.1 h
  clear h
  have h := hz
  clear hz
  refine sat_grp hΩ ((fun (q : Bool) => (match q with | i60 => ([(0, PV.d (.bool i60)), (1, PV.ptr 0 0 0), (2, PV.ptr 0 1 0), (3, PV.d (.sl (E.L_Note l13) (some []))), (4, PV.d (.int .i64 r16)), (5, PV.d (.int .i64 r17)), (6, PV.d (.int .i64 r32)), (7, PV.d (.int .i64 r33)), (8, PV.d (.int .i64 r44)), (9, PV.d (.int .i64 r45))], ([X.Obj.box 70 [.d (.int .u8 r1_Kind), .d (.int .i64 r1_Inst), .d (.str r1_Name), .d (.bool r1_Late), .d (.str r1_Text)], X.Obj.box 70 [.d (.int .u8 r3_Kind), .d (.int .i64 r3_Inst), .d (.str r3_Name), .d (.bool r3_Late), .d (.str r3_Text)], X.Obj.row 70 5 (E.L_Note l37) false none] : List X.Obj) :: st))) q) (fun k hk => ?_) ?_
  · clear h
    have h := hq61
    clear hq61
    conv => arg 1; cbv
    replace h := bif_cases h
    rcases h with ⟨hb47, h⟩ | ⟨hb47, h⟩
    · refine sat_brt (by first | exact hb47 | ((try clear h); subst_vars; first | exact hb47 | rfl)) ?_
      conv => arg 1; cbv
      replace h := bif_cases h
      rcases h with ⟨hb48, h⟩ | ⟨hb48, h⟩
      · refine sat_brt (by first | exact hb48 | ((try clear h); subst_vars; first | exact hb48 | rfl)) ?_
        conv => arg 1; cbv
        replace h := bif_cases h
        rcases h with ⟨hb49, h⟩ | ⟨hb49, h⟩
        · refine sat_brt (by first | exact hb49 | ((try clear h); subst_vars; first | exact hb49 | rfl)) ?_
          conv => arg 1; cbv
          refine sat_tick hΩ ?_
          conv => arg 1; cbv
          replace h := bif_cases h
          rcases h with ⟨hb50, h⟩ | ⟨hb50, h⟩
          · refine sat_brt (by first | exact hb50 | ((try clear h); subst_vars; first | exact hb50 | rfl)) ?_
            conv => arg 1; cbv
            replace h := bif_cases h
            rcases h with ⟨hb51, h⟩ | ⟨hb51, h⟩
            · refine sat_brt (by first | exact hb51 | ((try clear h); subst_vars; first | exact hb51 | rfl)) ?_
              conv => arg 1; cbv
              replace h := bif_cases h
              rcases h with ⟨hb52, h⟩ | ⟨hb52, h⟩
              · refine sat_brt (by first | exact hb52 | ((try clear h); subst_vars; first | exact hb52 | rfl)) ?_
                conv => arg 1; cbv
                refine sat_tick hΩ ?_
                conv => arg 1; cbv
                obtain ⟨r53, hx54, hz⟩ := Option.bind_eq_some_iff.1 h
                clear h
                have h := hz
                clear hz
                refine sat_call (ok48 hΩ hE hx54 (by (try clear h); subst_vars; rfl) _) ?_
                conv => arg 1; cbv
                replace h := bif_cases h
                rcases h with ⟨hb55, h⟩ | ⟨hb55, h⟩
                · refine sat_brt (by first | exact hb55 | ((try clear h); subst_vars; first | exact hb55 | rfl)) ?_
                  conv => arg 1; cbv
                  obtain ⟨⟨r56_l, r56_x⟩, hx57, hz⟩ := Option.bind_eq_some_iff.1 h
                  clear h
                  have h := hz
                  clear hz
                  try dsimp only at h
                  refine sat_call (ok47 hΩ hE hx57 (by (try clear h); subst_vars; rfl) _) ?_
                  conv => arg 1; cbv
                  refine sat_len hΩ (ro_Note hE) r56_l (by first | rfl | ((try clear h); subst_vars; rfl)) fun n58 hn59 => ?_
                  conv => arg 1; cbv
                  obtain rfl := Option.some.inj h
                  subst_vars
                  first | exact hk | (simp only [ln_set] at hk ⊢; exact hk)
                · refine sat_brf (by first | exact hb55 | ((try clear h); subst_vars; first | exact hb55 | rfl)) ?_
                  conv => arg 1; cbv
                  obtain rfl := Option.some.inj h
                  subst_vars
                  first | exact hk | (simp only [ln_set] at hk ⊢; exact hk)
              · refine sat_brf (by first | exact hb52 | ((try clear h); subst_vars; first | exact hb52 | rfl)) ?_
                conv => arg 1; cbv
                refine sat_tick hΩ ?_
                conv => arg 1; cbv
                obtain rfl := Option.some.inj h
                subst_vars
                first | exact hk | (simp only [ln_set] at hk ⊢; exact hk)
            · refine sat_brf (by first | exact hb51 | ((try clear h); subst_vars; first | exact hb51 | rfl)) ?_
              conv => arg 1; cbv
              refine sat_tick hΩ ?_
              conv => arg 1; cbv
              obtain rfl := Option.some.inj h
              subst_vars
              first | exact hk | (simp only [ln_set] at hk ⊢; exact hk)
          · refine sat_brf (by first | exact hb50 | ((try clear h); subst_vars; first | exact hb50 | rfl)) ?_
            conv => arg 1; cbv
            refine sat_tick hΩ ?_
            conv => arg 1; cbv
            obtain rfl := Option.some.inj h
            subst_vars
            first | exact hk | (simp only [ln_set] at hk ⊢; exact hk)
        · refine sat_brf (by first | exact hb49 | ((try clear h); subst_vars; first | exact hb49 | rfl)) ?_
          conv => arg 1; cbv
          refine sat_tick hΩ ?_
          conv => arg 1; cbv
          refine sat_tick hΩ ?_
          conv => arg 1; cbv
          obtain rfl := Option.some.inj h
          subst_vars
          first | exact hk | (simp only [ln_set] at hk ⊢; exact hk)
      · refine sat_brf (by first | exact hb48 | ((try clear h); subst_vars; first | exact hb48 | rfl)) ?_
        conv => arg 1; cbv
        refine sat_tick hΩ ?_
        conv => arg 1; cbv
        refine sat_tick hΩ ?_
        conv => arg 1; cbv
        obtain rfl := Option.some.inj h
        subst_vars
        first | exact hk | (simp only [ln_set] at hk ⊢; exact hk)
    · refine sat_brf (by first | exact hb47 | ((try clear h); subst_vars; first | exact hb47 | rfl)) ?_
      conv => arg 1; cbv
      refine sat_tick hΩ ?_
      conv => arg 1; cbv
      refine sat_tick hΩ ?_
      conv => arg 1; cbv
      obtain rfl := Option.some.inj h
      subst_vars
      first | exact hk | (simp only [ln_set] at hk ⊢; exact hk)
  · clear hq61
    obtain ⟨i60, hqq⟩ : ∃ x, x = q := ⟨_, rfl⟩
    subst hqq
    try dsimp only at h
    conv => arg 1; cbv
    obtain rfl := Option.some.inj h
    subst_vars
    exact sat_pure rfl
set_option maxHeartbeats 4000000 in
theorem ok15 {Ω : Om} {E : Enc} (hΩ : real (call S) = Ω) (hE : theEnc = E) {fu : Nat} {a0 : Sl Note} {r : Bool} (h : P15 fu a0 = some r) {args : List PV} (ha : [PV.d (.sl (E.L_Note a0.l) (E.X_Note a0.x))] = args) (st : St) :
    Sat (Ω.cf 15 args st) (fun q => q = (PV.d (.bool r), st)) := by
  subst ha
  rcases a0 with ⟨a0_l, a0_x⟩
  rw [cf_body hΩ (f := 15) (fn := Try.f15) (x := c15) rfl rfl c15_ok rfl rfl]
  unfold P15 at h
  try dsimp only at h
  conv => arg 1; cbv
  obtain ⟨q, hq78, hz⟩ := Option.bind_eq_some_iff.1 h
  clear h
  have h := hz
  clear hz
  refine sat_grp hΩ ((fun (q : Bool) => (match q with | i6 => ([(0, PV.d (.sl (E.L_Note a0_l) (E.X_Note a0_x))), (2, PV.d (.bool false)), (17, PV.d (.bool i6))], ([] : List X.Obj) :: st))) q) (fun k hk => ?_) ?_
  · clear h
    have h := hq78
    clear hq78
    conv => arg 1; cbv
    obtain ⟨r1, hx2, hz⟩ := Option.bind_eq_some_iff.1 h
    clear h
    have h := hz
    clear hz
    refine sat_call (ok46 hΩ hE hx2 (by (try clear h); subst_vars; rfl) _) ?_
    conv => arg 1; cbv
    replace h := bif_cases h
    rcases h with ⟨hb3, h⟩ | ⟨hb3, h⟩
    · refine sat_brt (by first | exact hb3 | ((try clear h); subst_vars; first | exact hb3 | rfl)) ?_
      conv => arg 1; cbv
      refine sat_len hΩ (ro_Note hE) a0_l (by first | rfl | ((try clear h); subst_vars; rfl)) fun n4 hn5 => ?_
      conv => arg 1; cbv
      obtain rfl := Option.some.inj h
      subst_vars
      first | exact hk | (simp only [ln_set] at hk ⊢; exact hk)
    · refine sat_brf (by first | exact hb3 | ((try clear h); subst_vars; first | exact hb3 | rfl)) ?_
      conv => arg 1; cbv
      obtain rfl := Option.some.inj h
      subst_vars
      first | exact hk | (simp only [ln_set] at hk ⊢; exact hk)
  · clear hq78
    obtain ⟨i6, hqq⟩ : ∃ x, x = q := ⟨_, rfl⟩
    subst hqq
    try dsimp only at h
    conv => arg 1; cbv
    refine sat_in hΩ ?_
    conv => arg 1; cbv
    replace h := bif_cases h
    rcases h with ⟨hb7, h⟩ | ⟨hb7, h⟩
    · refine sat_brt (by first | exact hb7 | ((try clear h); subst_vars; first | exact hb7 | rfl)) ?_
      conv => arg 1; cbv
      obtain ⟨r8, hx9, hz⟩ := Option.bind_eq_some_iff.1 h
      clear h
      have h := hz
      clear hz
      refine sat_call (ok46 hΩ hE hx9 (by (try clear h); subst_vars; rfl) _) ?_
      conv => arg 1; cbv
      obtain rfl := Option.some.inj h
      subst_vars
      exact sat_pure rfl
    · refine sat_brf (by first | exact hb7 | ((try clear h); subst_vars; first | exact hb7 | rfl)) ?_
      conv => arg 1; cbv
      obtain ⟨⟨r10, r11⟩, hx12, hz⟩ := Option.bind_eq_some_iff.1 h
      clear h
      have h := hz
      clear hz
      try dsimp only at h
      refine sat_call (ok35 hΩ hE hx12 (by (try clear h); subst_vars; rfl) _) ?_
      conv => arg 1; cbv
      obtain ⟨q, hl75, hz⟩ := Option.bind_eq_some_iff.1 h
      clear h
      have h := hz
      clear hz
      refine sat_loop hΩ (fun (a : Int) => (match a with | i13 => ([(0, PV.d (.sl (E.L_Note a0_l) (E.X_Note a0_x))), (2, PV.d (.bool false)), (4, PV.d (.int .i64 r11)), (5, PV.d (.int .i64 i13))], ([] : List X.Obj) :: st))) (fun (q : Int ⊕ Int) => (match q with | .inl o76 => (.exit 0, [(0, PV.d (.sl (E.L_Note a0_l) (E.X_Note a0_x))), (2, PV.d (.bool false)), (4, PV.d (.int .i64 r11)), (5, PV.d (.int .i64 o76))], ([] : List X.Obj) :: st) | .inr o77 => (.ret, [(0, PV.d (.sl (E.L_Note a0_l) (E.X_Note a0_x))), (2, PV.d (.bool false)), (4, PV.d (.int .i64 r11)), (5, PV.d (.int .i64 o77))], ([] : List X.Obj) :: st))) 0 hl75 (by first | rfl | ((try clear h); subst_vars; rfl) | ((try clear h); subst_vars; simp only [ln_set])) ?_ ?_
      · clear h hl75
        rintro i13 q h
        unfold P15_s0 at h
        dsimp only at h
        conv => arg 1; cbv
        obtain ⟨q, hq74, hz⟩ := Option.bind_eq_some_iff.1 h
        clear h
        have h := hz
        clear hz
        refine sat_grp hΩ ((fun (q : Bool) => (match q with | i17 => ([(0, PV.d (.sl (E.L_Note a0_l) (E.X_Note a0_x))), (2, PV.d (.bool false)), (4, PV.d (.int .i64 r11)), (5, PV.d (.int .i64 i13)), (31, PV.d (.bool i17))], ([] : List X.Obj) :: st))) q) (fun k hk => ?_) ?_
        · clear h
          have h := hq74
          clear hq74
          conv => arg 1; cbv
          refine sat_len hΩ (ro_Note hE) a0_l (by first | rfl | ((try clear h); subst_vars; rfl)) fun n14 hn15 => ?_
          conv => arg 1; cbv
          replace h := bif_cases h
          rcases h with ⟨hb16, h⟩ | ⟨hb16, h⟩
          · refine sat_brt (by first | exact hb16 | ((try clear h); subst_vars; first | exact hb16 | rfl)) ?_
            conv => arg 1; cbv
            obtain rfl := Option.some.inj h
            subst_vars
            first | exact hk | (simp only [ln_set] at hk ⊢; exact hk)
          · refine sat_brf (by first | exact hb16 | ((try clear h); subst_vars; first | exact hb16 | rfl)) ?_
            conv => arg 1; cbv
            obtain rfl := Option.some.inj h
            subst_vars
            first | exact hk | (simp only [ln_set] at hk ⊢; exact hk)
        · clear hq74
          obtain ⟨i17, hqq⟩ : ∃ x, x = q := ⟨_, rfl⟩
          subst hqq
          try dsimp only at h
          conv => arg 1; cbv
          refine sat_in hΩ ?_
          conv => arg 1; cbv
          replace h := bif_cases h
          rcases h with ⟨hb18, h⟩ | ⟨hb18, h⟩
          · refine sat_brt (by first | exact hb18 | ((try clear h); subst_vars; first | exact hb18 | rfl)) ?_
            conv => arg 1; cbv
            refine sat_true (fits_l hΩ (ro_Note hE) a0_l (by first | rfl | ((try clear h); subst_vars; rfl))) ?_
            conv => arg 1; cbv
            obtain ⟨⟨x19_Kind, x19_Inst, x19_Name, x19_Late, x19_Text⟩, hx20, hz⟩ := Option.bind_eq_some_iff.1 h
            clear h
            have h := hz
            clear hz
            try dsimp only at h
            refine sat_bind (nth_ok hΩ (ro_Note hE) hx20 (by first | rfl | ((try clear h); subst_vars; rfl)) (by first | rfl | ((try clear h); subst_vars; rfl))) ?_
            conv => arg 1; cbv
            obtain ⟨⟨r21_l, r21_x⟩, hx22, hz⟩ := Option.bind_eq_some_iff.1 h
            clear h
            have h := hz
            clear hz
            try dsimp only at h
            refine sat_call (ok47 hΩ hE hx22 (by (try clear h); subst_vars; rfl) _) ?_
            conv => arg 1; cbv
            obtain ⟨r23, hx24, hz⟩ := Option.bind_eq_some_iff.1 h
            clear h
            have h := hz
            clear hz
            refine sat_call (ok48 hΩ hE hx24 (by (try clear h); subst_vars; rfl) _) ?_
            conv => arg 1; cbv
            obtain ⟨q, hq73, hz⟩ := Option.bind_eq_some_iff.1 h
            clear h
            have h := hz
            clear hz
            refine sat_grp hΩ ((fun (q : Bool) => (match q with | i37 => ([(0, PV.d (.sl (E.L_Note a0_l) (E.X_Note a0_x))), (2, PV.d (.bool false)), (4, PV.d (.int .i64 r11)), (5, PV.d (.int .i64 i13)), (6, PV.d (.sl (E.L_Note r21_l) (E.X_Note r21_x))), (7, PV.d (.int .i64 r23)), (65, PV.d (.bool i37))], ([] : List X.Obj) :: st))) q) (fun k hk => ?_) ?_
            · clear h
              have h := hq73
              clear hq73
              conv => arg 1; cbv
              obtain ⟨r25, hx26, hz⟩ := Option.bind_eq_some_iff.1 h
              clear h
              have h := hz
              clear hz
              refine sat_call (ok48 hΩ hE hx26 (by (try clear h); subst_vars; rfl) _) ?_
              conv => arg 1; cbv
              replace h := bif_cases h
              rcases h with ⟨hb27, h⟩ | ⟨hb27, h⟩
              · refine sat_brt (by first | exact hb27 | ((try clear h); subst_vars; first | exact hb27 | rfl)) ?_
                conv => arg 1; cbv
                replace h := bif_cases h
                rcases h with ⟨hb28, h⟩ | ⟨hb28, h⟩
                · refine sat_brt (by first | exact hb28 | ((try clear h); subst_vars; first | exact hb28 | rfl)) ?_
                  conv => arg 1; cbv
                  obtain ⟨r29, hx30, hz⟩ := Option.bind_eq_some_iff.1 h
                  clear h
                  have h := hz
                  clear hz
                  refine sat_call (ok48 hΩ hE hx30 (by (try clear h); subst_vars; rfl) _) ?_
                  conv => arg 1; cbv
                  refine sat_tick hΩ ?_
                  conv => arg 1; cbv
                  replace h := bif_cases h
                  rcases h with ⟨hb31, h⟩ | ⟨hb31, h⟩
                  · refine sat_brt (by first | exact hb31 | ((try clear h); subst_vars; first | exact hb31 | rfl)) ?_
                    conv => arg 1; cbv
                    obtain ⟨r32, hx33, hz⟩ := Option.bind_eq_some_iff.1 h
                    clear h
                    have h := hz
                    clear hz
                    refine sat_call (ok48 hΩ hE hx33 (by (try clear h); subst_vars; rfl) _) ?_
                    conv => arg 1; cbv
                    replace h := bif_cases h
                    rcases h with ⟨hb34, h⟩ | ⟨hb34, h⟩
                    · refine sat_brt (by first | exact hb34 | ((try clear h); subst_vars; first | exact hb34 | rfl)) ?_
                      conv => arg 1; cbv
                      obtain ⟨r35, hx36, hz⟩ := Option.bind_eq_some_iff.1 h
                      clear h
                      have h := hz
                      clear hz
                      refine sat_call (ok48 hΩ hE hx36 (by (try clear h); subst_vars; rfl) _) ?_
                      conv => arg 1; cbv
                      obtain rfl := Option.some.inj h
                      subst_vars
                      first | exact hk | (simp only [ln_set] at hk ⊢; exact hk)
                    · refine sat_brf (by first | exact hb34 | ((try clear h); subst_vars; first | exact hb34 | rfl)) ?_
                      conv => arg 1; cbv
                      obtain rfl := Option.some.inj h
                      subst_vars
                      first | exact hk | (simp only [ln_set] at hk ⊢; exact hk)
                  · refine sat_brf (by first | exact hb31 | ((try clear h); subst_vars; first | exact hb31 | rfl)) ?_
                    conv => arg 1; cbv
                    obtain rfl := Option.some.inj h
                    subst_vars
                    first | exact hk | (simp only [ln_set] at hk ⊢; exact hk)
                · refine sat_brf (by first | exact hb28 | ((try clear h); subst_vars; first | exact hb28 | rfl)) ?_
                  conv => arg 1; cbv
                  refine sat_tick hΩ ?_
                  conv => arg 1; cbv
                  obtain rfl := Option.some.inj h
                  subst_vars
                  first | exact hk | (simp only [ln_set] at hk ⊢; exact hk)
              · refine sat_brf (by first | exact hb27 | ((try clear h); subst_vars; first | exact hb27 | rfl)) ?_
                conv => arg 1; cbv
                refine sat_tick hΩ ?_
                conv => arg 1; cbv
                obtain rfl := Option.some.inj h
                subst_vars
                first | exact hk | (simp only [ln_set] at hk ⊢; exact hk)
            · clear hq73
              obtain ⟨i37, hqq⟩ : ∃ x, x = q := ⟨_, rfl⟩
              subst hqq
              try dsimp only at h
              conv => arg 1; cbv
              refine sat_in hΩ ?_
              conv => arg 1; cbv
              replace h := bif_cases h
              rcases h with ⟨hb38, h⟩ | ⟨hb38, h⟩
              · refine sat_brt (by first | exact hb38 | ((try clear h); subst_vars; first | exact hb38 | rfl)) ?_
                conv => arg 1; cbv
                obtain rfl := Option.some.inj h
                subst_vars
                first | exact sat_pure (.inr ⟨rfl, rfl⟩) | (refine sat_pure (.inr ⟨rfl, ?_⟩); dsimp only; simp only [ln_set]; rfl)
              · refine sat_brf (by first | exact hb38 | ((try clear h); subst_vars; first | exact hb38 | rfl)) ?_
                conv => arg 1; cbv
                obtain ⟨r39, hx40, hz⟩ := Option.bind_eq_some_iff.1 h
                clear h
                have h := hz
                clear hz
                refine sat_call (ok48 hΩ hE hx40 (by (try clear h); subst_vars; rfl) _) ?_
                conv => arg 1; cbv
                obtain ⟨r41, hx42, hz⟩ := Option.bind_eq_some_iff.1 h
                clear h
                have h := hz
                clear hz
                refine sat_call (ok48 hΩ hE hx42 (by (try clear h); subst_vars; rfl) _) ?_
                conv => arg 1; cbv
                obtain ⟨q, hq72, hz⟩ := Option.bind_eq_some_iff.1 h
                clear h
                have h := hz
                clear hz
                refine sat_grp hΩ ((fun (q : Bool) => (match q with | i45 => ([(0, PV.d (.sl (E.L_Note a0_l) (E.X_Note a0_x))), (2, PV.d (.bool false)), (4, PV.d (.int .i64 r11)), (5, PV.d (.int .i64 i13)), (6, PV.d (.sl (E.L_Note r21_l) (E.X_Note r21_x))), (7, PV.d (.int .i64 r23)), (8, PV.d (.int .i64 (Ω.wrap .i64 (Ω.sub r39 r41)))), (80, PV.d (.bool i45))], ([] : List X.Obj) :: st))) q) (fun k hk => ?_) ?_
                · clear h
                  have h := hq72
                  clear hq72
                  conv => arg 1; cbv
                  replace h := bif_cases h
                  rcases h with ⟨hb43, h⟩ | ⟨hb43, h⟩
                  · refine sat_brt (by first | exact hb43 | ((try clear h); subst_vars; first | exact hb43 | rfl)) ?_
                    conv => arg 1; cbv
                    replace h := bif_cases h
                    rcases h with ⟨hb44, h⟩ | ⟨hb44, h⟩
                    · refine sat_brt (by first | exact hb44 | ((try clear h); subst_vars; first | exact hb44 | rfl)) ?_
                      conv => arg 1; cbv
                      obtain rfl := Option.some.inj h
                      subst_vars
                      first | exact hk | (simp only [ln_set] at hk ⊢; exact hk)
                    · refine sat_brf (by first | exact hb44 | ((try clear h); subst_vars; first | exact hb44 | rfl)) ?_
                      conv => arg 1; cbv
                      obtain rfl := Option.some.inj h
                      subst_vars
                      first | exact hk | (simp only [ln_set] at hk ⊢; exact hk)
                  · refine sat_brf (by first | exact hb43 | ((try clear h); subst_vars; first | exact hb43 | rfl)) ?_
                    conv => arg 1; cbv
                    obtain rfl := Option.some.inj h
                    subst_vars
                    first | exact hk | (simp only [ln_set] at hk ⊢; exact hk)
                · clear hq72
                  obtain ⟨i45, hqq⟩ : ∃ x, x = q := ⟨_, rfl⟩
                  subst hqq
                  try dsimp only at h
                  conv => arg 1; cbv
                  refine sat_in hΩ ?_
                  conv => arg 1; cbv
                  replace h := bif_cases h
                  rcases h with ⟨hb46, h⟩ | ⟨hb46, h⟩
                  · refine sat_brt (by first | exact hb46 | ((try clear h); subst_vars; first | exact hb46 | rfl)) ?_
                    conv => arg 1; cbv
                    obtain rfl := Option.some.inj h
                    subst_vars
                    first | exact sat_pure (.inr ⟨rfl, rfl⟩) | (refine sat_pure (.inr ⟨rfl, ?_⟩); dsimp only; simp only [ln_set]; rfl)
                  · refine sat_brf (by first | exact hb46 | ((try clear h); subst_vars; first | exact hb46 | rfl)) ?_
                    conv => arg 1; cbv
                    obtain ⟨q, hl69, hz⟩ := Option.bind_eq_some_iff.1 h
                    clear h
                    have h := hz
                    clear hz
                    refine sat_loop hΩ (fun (a : Int) => (match a with | i47 => ([(0, PV.d (.sl (E.L_Note a0_l) (E.X_Note a0_x))), (2, PV.d (.bool false)), (4, PV.d (.int .i64 r11)), (5, PV.d (.int .i64 i13)), (6, PV.d (.sl (E.L_Note r21_l) (E.X_Note r21_x))), (7, PV.d (.int .i64 r23)), (8, PV.d (.int .i64 (Ω.wrap .i64 (Ω.sub r39 r41)))), (9, PV.d (.int .i64 i47))], ([] : List X.Obj) :: st))) (fun (q : Int ⊕ Int) => (match q with | .inl o70 => (.exit 2, [(0, PV.d (.sl (E.L_Note a0_l) (E.X_Note a0_x))), (2, PV.d (.bool false)), (4, PV.d (.int .i64 r11)), (5, PV.d (.int .i64 i13)), (6, PV.d (.sl (E.L_Note r21_l) (E.X_Note r21_x))), (7, PV.d (.int .i64 r23)), (8, PV.d (.int .i64 (Ω.wrap .i64 (Ω.sub r39 r41)))), (9, PV.d (.int .i64 o70))], ([] : List X.Obj) :: st) | .inr o71 => (.ret, [(0, PV.d (.sl (E.L_Note a0_l) (E.X_Note a0_x))), (2, PV.d (.bool false)), (4, PV.d (.int .i64 r11)), (5, PV.d (.int .i64 i13)), (6, PV.d (.sl (E.L_Note r21_l) (E.X_Note r21_x))), (7, PV.d (.int .i64 r23)), (8, PV.d (.int .i64 (Ω.wrap .i64 (Ω.sub r39 r41)))), (9, PV.d (.int .i64 o71))], ([] : List X.Obj) :: st))) 0 hl69 (by first | rfl | ((try clear h); subst_vars; rfl) | ((try clear h); subst_vars; simp only [ln_set])) ?_ ?_
                    · clear h hl69
                      rintro i47 q h
                      unfold P15_s1 at h
                      dsimp only at h
                      conv => arg 1; cbv
                      refine sat_len hΩ (ro_Note hE) r21_l (by first | rfl | ((try clear h); subst_vars; rfl)) fun n48 hn49 => ?_
                      conv => arg 1; cbv
                      refine sat_in hΩ ?_
                      conv => arg 1; cbv
                      replace h := bif_cases h
                      rcases h with ⟨hb50, h⟩ | ⟨hb50, h⟩
                      · refine sat_brt (by first | exact hb50 | ((try clear h); subst_vars; first | exact hb50 | rfl)) ?_
                        conv => arg 1; cbv
                        refine sat_true (fits_l hΩ (ro_Note hE) r21_l (by first | rfl | ((try clear h); subst_vars; rfl))) ?_
                        conv => arg 1; cbv
                        obtain ⟨⟨x51_Kind, x51_Inst, x51_Name, x51_Late, x51_Text⟩, hx52, hz⟩ := Option.bind_eq_some_iff.1 h
                        clear h
                        have h := hz
                        clear hz
                        try dsimp only at h
                        refine sat_bind (nth_ok hΩ (ro_Note hE) hx52 (by first | rfl | ((try clear h); subst_vars; rfl)) (by first | rfl | ((try clear h); subst_vars; rfl))) ?_
                        conv => arg 1; cbv
                        refine sat_in hΩ ?_
                        conv => arg 1; cbv
                        replace h := bif_cases h
                        rcases h with ⟨hb53, h⟩ | ⟨hb53, h⟩
                        · refine sat_brt (by first | exact hb53 | ((try clear h); subst_vars; first | exact hb53 | rfl)) ?_
                          conv => arg 1; cbv
                          obtain rfl := Option.some.inj h
                          subst_vars
                          first | exact sat_pure ⟨rfl, rfl, rfl⟩ | (refine sat_pure ⟨rfl, ?_, ?_⟩ <;> first | rfl | (dsimp only; simp only [ln_set]; rfl))
                        · refine sat_brf (by first | exact hb53 | ((try clear h); subst_vars; first | exact hb53 | rfl)) ?_
                          conv => arg 1; cbv
                          obtain ⟨q, hl66, hz⟩ := Option.bind_eq_some_iff.1 h
                          clear h
                          have h := hz
                          clear hz
                          refine sat_loop hΩ (fun (a : Int) => (match a with | i54 => ([(0, PV.d (.sl (E.L_Note a0_l) (E.X_Note a0_x))), (2, PV.d (.bool false)), (4, PV.d (.int .i64 r11)), (5, PV.d (.int .i64 i13)), (6, PV.d (.sl (E.L_Note r21_l) (E.X_Note r21_x))), (7, PV.d (.int .i64 r23)), (8, PV.d (.int .i64 (Ω.wrap .i64 (Ω.sub r39 r41)))), (9, PV.d (.int .i64 i47)), (10, PV.d (.int .i64 i54))], ([] : List X.Obj) :: st))) (fun (q : Int ⊕ Int) => (match q with | .inl o67 => (.exit 4, [(0, PV.d (.sl (E.L_Note a0_l) (E.X_Note a0_x))), (2, PV.d (.bool false)), (4, PV.d (.int .i64 r11)), (5, PV.d (.int .i64 i13)), (6, PV.d (.sl (E.L_Note r21_l) (E.X_Note r21_x))), (7, PV.d (.int .i64 r23)), (8, PV.d (.int .i64 (Ω.wrap .i64 (Ω.sub r39 r41)))), (9, PV.d (.int .i64 i47)), (10, PV.d (.int .i64 o67))], ([] : List X.Obj) :: st) | .inr o68 => (.ret, [(0, PV.d (.sl (E.L_Note a0_l) (E.X_Note a0_x))), (2, PV.d (.bool false)), (4, PV.d (.int .i64 r11)), (5, PV.d (.int .i64 i13)), (6, PV.d (.sl (E.L_Note r21_l) (E.X_Note r21_x))), (7, PV.d (.int .i64 r23)), (8, PV.d (.int .i64 (Ω.wrap .i64 (Ω.sub r39 r41)))), (9, PV.d (.int .i64 i47)), (10, PV.d (.int .i64 o68))], ([] : List X.Obj) :: st))) (w64 (i47 + 1)) hl66 (by first | rfl | ((try clear h); subst_vars; rfl) | ((try clear h); subst_vars; simp only [ln_set])) ?_ ?_
                          · clear h hl66
                            rintro i54 q h
                            unfold P15_s2 at h
                            dsimp only at h
                            conv => arg 1; cbv
                            refine sat_len hΩ (ro_Note hE) r21_l (by first | rfl | ((try clear h); subst_vars; rfl)) fun n55 hn56 => ?_
                            conv => arg 1; cbv
                            refine sat_in hΩ ?_
                            conv => arg 1; cbv
                            replace h := bif_cases h
                            rcases h with ⟨hb57, h⟩ | ⟨hb57, h⟩
                            · refine sat_brt (by first | exact hb57 | ((try clear h); subst_vars; first | exact hb57 | rfl)) ?_
                              conv => arg 1; cbv
                              obtain ⟨q, hq65, hz⟩ := Option.bind_eq_some_iff.1 h
                              clear h
                              have h := hz
                              clear hz
                              refine sat_grp hΩ ((fun (q : Bool) => (match q with | i63 => ([(0, PV.d (.sl (E.L_Note a0_l) (E.X_Note a0_x))), (2, PV.d (.bool false)), (4, PV.d (.int .i64 r11)), (5, PV.d (.int .i64 i13)), (6, PV.d (.sl (E.L_Note r21_l) (E.X_Note r21_x))), (7, PV.d (.int .i64 r23)), (8, PV.d (.int .i64 (Ω.wrap .i64 (Ω.sub r39 r41)))), (9, PV.d (.int .i64 i47)), (10, PV.d (.int .i64 i54)), (114, PV.d (.bool i63))], ([] : List X.Obj) :: st))) q) (fun k hk => ?_) ?_
                              · clear h
                                have h := hq65
                                clear hq65
                                conv => arg 1; cbv
                                refine sat_true (fits_l hΩ (ro_Note hE) r21_l (by first | rfl | ((try clear h); subst_vars; rfl))) ?_
                                conv => arg 1; cbv
                                obtain ⟨⟨x58_Kind, x58_Inst, x58_Name, x58_Late, x58_Text⟩, hx59, hz⟩ := Option.bind_eq_some_iff.1 h
                                clear h
                                have h := hz
                                clear hz
                                try dsimp only at h
                                refine sat_bind (nth_ok hΩ (ro_Note hE) hx59 (by first | rfl | ((try clear h); subst_vars; rfl)) (by first | rfl | ((try clear h); subst_vars; rfl))) ?_
                                conv => arg 1; cbv
                                replace h := bif_cases h
                                rcases h with ⟨hb60, h⟩ | ⟨hb60, h⟩
                                · refine sat_brt (by first | exact hb60 | ((try clear h); subst_vars; first | exact hb60 | rfl)) ?_
                                  conv => arg 1; cbv
                                  refine sat_true (fits_l hΩ (ro_Note hE) r21_l (by first | rfl | ((try clear h); subst_vars; rfl))) ?_
                                  conv => arg 1; cbv
                                  obtain ⟨⟨x61_Kind, x61_Inst, x61_Name, x61_Late, x61_Text⟩, hx62, hz⟩ := Option.bind_eq_some_iff.1 h
                                  clear h
                                  have h := hz
                                  clear hz
                                  try dsimp only at h
                                  refine sat_bind (nth_ok hΩ (ro_Note hE) hx62 (by first | rfl | ((try clear h); subst_vars; rfl)) (by first | rfl | ((try clear h); subst_vars; rfl))) ?_
                                  conv => arg 1; cbv
                                  refine sat_tick hΩ ?_
                                  conv => arg 1; cbv
                                  obtain rfl := Option.some.inj h
                                  subst_vars
                                  first | exact hk | (simp only [ln_set] at hk ⊢; exact hk)
                                · refine sat_brf (by first | exact hb60 | ((try clear h); subst_vars; first | exact hb60 | rfl)) ?_
                                  conv => arg 1; cbv
                                  refine sat_tick hΩ ?_
                                  conv => arg 1; cbv
                                  obtain rfl := Option.some.inj h
                                  subst_vars
                                  first | exact hk | (simp only [ln_set] at hk ⊢; exact hk)
                              · clear hq65
                                obtain ⟨i63, hqq⟩ : ∃ x, x = q := ⟨_, rfl⟩
                                subst hqq
                                try dsimp only at h
                                conv => arg 1; cbv
                                refine sat_in hΩ ?_
                                conv => arg 1; cbv
                                replace h := bif_cases h
                                rcases h with ⟨hb64, h⟩ | ⟨hb64, h⟩
                                · refine sat_brt (by first | exact hb64 | ((try clear h); subst_vars; first | exact hb64 | rfl)) ?_
                                  conv => arg 1; cbv
                                  obtain rfl := Option.some.inj h
                                  subst_vars
                                  first | exact sat_pure (.inr ⟨rfl, rfl⟩) | (refine sat_pure (.inr ⟨rfl, ?_⟩); dsimp only; simp only [ln_set]; rfl)
                                · refine sat_brf (by first | exact hb64 | ((try clear h); subst_vars; first | exact hb64 | rfl)) ?_
                                  conv => arg 1; cbv
                                  obtain rfl := Option.some.inj h
                                  subst_vars
                                  first | exact sat_pure ⟨rfl, rfl, rfl⟩ | (refine sat_pure ⟨rfl, ?_, ?_⟩ <;> first | rfl | (dsimp only; simp only [ln_set]; rfl))
                            · refine sat_brf (by first | exact hb57 | ((try clear h); subst_vars; first | exact hb57 | rfl)) ?_
                              conv => arg 1; cbv
                              obtain rfl := Option.some.inj h
                              subst_vars
                              first | exact sat_pure (.inl ⟨⟨_, rfl⟩, rfl⟩) | (refine sat_pure (.inl ⟨⟨_, rfl⟩, ?_⟩); dsimp only; simp only [ln_set]; rfl)
                          · clear hl66
                            rcases q with o67 | o68
                            · dsimp only at h
                              conv => arg 1; cbv
                              obtain rfl := Option.some.inj h
                              subst_vars
                              first | exact sat_pure ⟨rfl, rfl, rfl⟩ | (refine sat_pure ⟨rfl, ?_, ?_⟩ <;> first | rfl | (dsimp only; simp only [ln_set]; rfl))
                            · dsimp only at h
                              conv => arg 1; cbv
                              obtain rfl := Option.some.inj h
                              subst_vars
                              first | exact sat_pure (.inr ⟨rfl, rfl⟩) | (refine sat_pure (.inr ⟨rfl, ?_⟩); dsimp only; simp only [ln_set]; rfl)
                      · refine sat_brf (by first | exact hb50 | ((try clear h); subst_vars; first | exact hb50 | rfl)) ?_
                        conv => arg 1; cbv
                        obtain rfl := Option.some.inj h
                        subst_vars
                        first | exact sat_pure (.inl ⟨⟨_, rfl⟩, rfl⟩) | (refine sat_pure (.inl ⟨⟨_, rfl⟩, ?_⟩); dsimp only; simp only [ln_set]; rfl)
                    · clear hl69
                      rcases q with o70 | o71
                      · dsimp only at h
                        conv => arg 1; cbv
                        obtain rfl := Option.some.inj h
                        subst_vars
                        first | exact sat_pure ⟨rfl, rfl, rfl⟩ | (refine sat_pure ⟨rfl, ?_, ?_⟩ <;> first | rfl | (dsimp only; simp only [ln_set]; rfl))
                      · dsimp only at h
                        conv => arg 1; cbv
                        obtain rfl := Option.some.inj h
                        subst_vars
                        first | exact sat_pure (.inr ⟨rfl, rfl⟩) | (refine sat_pure (.inr ⟨rfl, ?_⟩); dsimp only; simp only [ln_set]; rfl)
          · refine sat_brf (by first | exact hb18 | ((try clear h); subst_vars; first | exact hb18 | rfl)) ?_
            conv => arg 1; cbv
            obtain rfl := Option.some.inj h
            subst_vars
            first | exact sat_pure (.inl ⟨⟨_, rfl⟩, rfl⟩) | (refine sat_pure (.inl ⟨⟨_, rfl⟩, ?_⟩); dsimp only; simp only [ln_set]; rfl)
      · clear hl75
        rcases q with o76 | o77
        · dsimp only at h
          conv => arg 1; cbv
          obtain rfl := Option.some.inj h
          subst_vars
          exact sat_pure rfl
        · dsimp only at h
          conv => arg 1; cbv
          obtain rfl := Option.some.inj h
          subst_vars
          exact sat_pure rfl
end Go.Proofs.Ytamllgdaepjcfaa
