/- The interpreter computes just these functions: printed by a small program. -/
import Derived.Test.YtamllgdaepjcfaaTCD2
namespace Go.Proofs.Ytamllgdaepjcfaa
open Go Go.X
set_option linter.unusedVariables false
set_option linter.unusedSimpArgs false
set_option maxRecDepth 100000
set_option maxHeartbeats 4000000 in
theorem ok33 {Ω : Om} {E : Enc} (hΩ : real (call S) = Ω) (hE : theEnc = E) {fu : Nat} {a0 : Sl Note} {r : Int} (h : P33 fu a0 = some r) {args : List PV} (ha : [PV.d (.sl (E.L_Note a0.l) (E.X_Note a0.x))] = args) (st : St) :
    Sat (Ω.cf 33 args st) (fun q => q = (PV.d (.int .i64 r), st)) := by
  subst ha
  rcases a0 with ⟨a0_l, a0_x⟩
  rw [cf_body hΩ (f := 33) (fn := Try.f33) (x := c33) rfl rfl c33_ok rfl rfl]
  unfold P33 at h
  try dsimp only at h
  conv => arg 1; cbv
  refine sat_len hΩ (ro_Note hE) a0_l (by first | rfl | ((try clear h); subst_vars; rfl)) fun n1 hn2 => ?_
  conv => arg 1; cbv
  obtain ⟨q, hl15, hz⟩ := Option.bind_eq_some_iff.1 h
  clear h
  have h := hz
  clear hz
  refine sat_loop hΩ (fun (a : Int × Int) => (match a with | (i3, i4) => ([(0, PV.d (.sl (E.L_Note a0_l) (E.X_Note a0_x))), (2, PV.d (.int .i64 0)), (3, PV.d (.int .i64 i3)), (4, PV.d (.int .i64 i4))], ([] : List X.Obj) :: st))) (fun (q : (Int × Int)) => (match q with | (o16, o17) => (.exit 0, [(0, PV.d (.sl (E.L_Note a0_l) (E.X_Note a0_x))), (2, PV.d (.int .i64 0)), (3, PV.d (.int .i64 o16)), (4, PV.d (.int .i64 o17))], ([] : List X.Obj) :: st))) (ln a0_l, 0) hl15 (by first | rfl | ((try clear h); subst_vars; rfl) | ((try clear h); subst_vars; simp only [ln_set])) ?_ ?_
  · clear h hl15
    rintro ⟨i3, i4⟩ q h
    unfold P33_s0 at h
    dsimp only at h
    conv => arg 1; cbv
    obtain ⟨q, hq14, hz⟩ := Option.bind_eq_some_iff.1 h
    clear h
    have h := hz
    clear hz
    refine sat_grp hΩ ((fun (q : Bool) => (match q with | i8 => ([(0, PV.d (.sl (E.L_Note a0_l) (E.X_Note a0_x))), (2, PV.d (.int .i64 0)), (3, PV.d (.int .i64 i3)), (4, PV.d (.int .i64 i4)), (14, PV.d (.bool i8))], ([] : List X.Obj) :: st))) q) (fun k hk => ?_) ?_
    · clear h
      have h := hq14
      clear hq14
      conv => arg 1; cbv
      refine sat_len hΩ (ro_Note hE) a0_l (by first | rfl | ((try clear h); subst_vars; rfl)) fun n5 hn6 => ?_
      conv => arg 1; cbv
      replace h := bif_cases h
      rcases h with ⟨hb7, h⟩ | ⟨hb7, h⟩
      · refine sat_brt (by first | exact hb7 | ((try clear h); subst_vars; first | exact hb7 | rfl)) ?_
        conv => arg 1; cbv
        obtain rfl := Option.some.inj h
        subst_vars
        first | exact hk | (simp only [ln_set] at hk ⊢; exact hk)
      · refine sat_brf (by first | exact hb7 | ((try clear h); subst_vars; first | exact hb7 | rfl)) ?_
        conv => arg 1; cbv
        obtain rfl := Option.some.inj h
        subst_vars
        first | exact hk | (simp only [ln_set] at hk ⊢; exact hk)
    · clear hq14
      obtain ⟨i8, hqq⟩ : ∃ x, x = q := ⟨_, rfl⟩
      subst hqq
      try dsimp only at h
      conv => arg 1; cbv
      refine sat_in hΩ ?_
      conv => arg 1; cbv
      replace h := bif_cases h
      rcases h with ⟨hb9, h⟩ | ⟨hb9, h⟩
      · refine sat_brt (by first | exact hb9 | ((try clear h); subst_vars; first | exact hb9 | rfl)) ?_
        conv => arg 1; cbv
        refine sat_true (fits_l hΩ (ro_Note hE) a0_l (by first | rfl | ((try clear h); subst_vars; rfl))) ?_
        conv => arg 1; cbv
        obtain ⟨⟨x10_Kind, x10_Inst, x10_Name, x10_Late, x10_Text⟩, hx11, hz⟩ := Option.bind_eq_some_iff.1 h
        clear h
        have h := hz
        clear hz
        try dsimp only at h
        refine sat_bind (nth_ok hΩ (ro_Note hE) hx11 (by first | rfl | ((try clear h); subst_vars; rfl)) (by first | rfl | ((try clear h); subst_vars; rfl))) ?_
        conv => arg 1; cbv
        refine sat_true (fits_l hΩ (ro_Note hE) a0_l (by first | rfl | ((try clear h); subst_vars; rfl))) ?_
        conv => arg 1; cbv
        obtain ⟨⟨x12_Kind, x12_Inst, x12_Name, x12_Late, x12_Text⟩, hx13, hz⟩ := Option.bind_eq_some_iff.1 h
        clear h
        have h := hz
        clear hz
        try dsimp only at h
        refine sat_bind (nth_ok hΩ (ro_Note hE) hx13 (by first | rfl | ((try clear h); subst_vars; rfl)) (by first | rfl | ((try clear h); subst_vars; rfl))) ?_
        conv => arg 1; cbv
        refine sat_tick hΩ ?_
        conv => arg 1; cbv
        obtain rfl := Option.some.inj h
        subst_vars
        first | exact sat_pure ⟨rfl, rfl, rfl⟩ | (refine sat_pure ⟨rfl, ?_, ?_⟩ <;> first | rfl | (dsimp only; simp only [ln_set]; rfl))
      · refine sat_brf (by first | exact hb9 | ((try clear h); subst_vars; first | exact hb9 | rfl)) ?_
        conv => arg 1; cbv
        obtain rfl := Option.some.inj h
        subst_vars
        first | exact sat_pure (.inl ⟨⟨_, rfl⟩, rfl⟩) | (refine sat_pure (.inl ⟨⟨_, rfl⟩, ?_⟩); dsimp only; simp only [ln_set]; rfl)
  · clear hl15
    rcases q with ⟨o16, o17⟩
    dsimp only at h
    conv => arg 1; cbv
    obtain rfl := Option.some.inj h
    subst_vars
    exact sat_pure rfl
set_option maxHeartbeats 4000000 in
theorem ok19 {Ω : Om} {E : Enc} (hΩ : real (call S) = Ω) (hE : theEnc = E) {fu : Nat} {a0 : Sl Int} {r : Bool} (h : P19 fu a0 = some r) {args : List PV} (ha : [PV.d (.sl (E.L_i_i64 a0.l) (E.X_i_i64 a0.x))] = args) (st : St) :
    Sat (Ω.cf 19 args st) (fun q => q = (PV.d (.bool r), st)) := by
  subst ha
  rcases a0 with ⟨a0_l, a0_x⟩
  rw [cf_body hΩ (f := 19) (fn := Try.f19) (x := c19) rfl rfl c19_ok rfl rfl]
  unfold P19 at h
  try dsimp only at h
  conv => arg 1; cbv
  obtain ⟨q, hl10, hz⟩ := Option.bind_eq_some_iff.1 h
  clear h
  have h := hz
  clear hz
  refine sat_loop hΩ (fun (a : Bool × Int × Int) => (match a with | (i1, i2, i3) => ([(0, PV.d (.sl (E.L_i_i64 a0_l) (E.X_i_i64 a0_x))), (2, PV.d (.bool i1)), (3, PV.d (.int .i64 i2)), (4, PV.d (.int .i64 i3))], ([] : List X.Obj) :: st))) (fun (q : (Bool × Int × Int) ⊕ (Bool × Int × Int)) => (match q with | .inl (o11, o12, o13) => (.exit 0, [(0, PV.d (.sl (E.L_i_i64 a0_l) (E.X_i_i64 a0_x))), (2, PV.d (.bool o11)), (3, PV.d (.int .i64 o12)), (4, PV.d (.int .i64 o13))], ([] : List X.Obj) :: st) | .inr (o14, o15, o16) => (.ret, [(0, PV.d (.sl (E.L_i_i64 a0_l) (E.X_i_i64 a0_x))), (2, PV.d (.bool o14)), (3, PV.d (.int .i64 o15)), (4, PV.d (.int .i64 o16))], ([] : List X.Obj) :: st))) (false, 0, 0) hl10 (by first | rfl | ((try clear h); subst_vars; rfl) | ((try clear h); subst_vars; simp only [ln_set])) ?_ ?_
  · clear h hl10
    rintro ⟨i1, i2, i3⟩ q h
    unfold P19_s0 at h
    dsimp only at h
    conv => arg 1; cbv
    refine sat_len hΩ (ro_i_i64 hE) a0_l (by first | rfl | ((try clear h); subst_vars; rfl)) fun n4 hn5 => ?_
    conv => arg 1; cbv
    refine sat_in hΩ ?_
    conv => arg 1; cbv
    replace h := bif_cases h
    rcases h with ⟨hb6, h⟩ | ⟨hb6, h⟩
    · refine sat_brt (by first | exact hb6 | ((try clear h); subst_vars; first | exact hb6 | rfl)) ?_
      conv => arg 1; cbv
      refine sat_true (fits_l hΩ (ro_i_i64 hE) a0_l (by first | rfl | ((try clear h); subst_vars; rfl))) ?_
      conv => arg 1; cbv
      obtain ⟨x7, hx8, hz⟩ := Option.bind_eq_some_iff.1 h
      clear h
      have h := hz
      clear hz
      refine sat_bind (nth_ok hΩ (ro_i_i64 hE) hx8 (by first | rfl | ((try clear h); subst_vars; rfl)) (by first | rfl | ((try clear h); subst_vars; rfl))) ?_
      conv => arg 1; cbv
      refine sat_in hΩ ?_
      conv => arg 1; cbv
      replace h := bif_cases h
      rcases h with ⟨hb9, h⟩ | ⟨hb9, h⟩
      · refine sat_brt (by first | exact hb9 | ((try clear h); subst_vars; first | exact hb9 | rfl)) ?_
        conv => arg 1; cbv
        obtain rfl := Option.some.inj h
        subst_vars
        first | exact sat_pure (.inr ⟨rfl, rfl⟩) | (refine sat_pure (.inr ⟨rfl, ?_⟩); dsimp only; simp only [ln_set]; rfl)
      · refine sat_brf (by first | exact hb9 | ((try clear h); subst_vars; first | exact hb9 | rfl)) ?_
        conv => arg 1; cbv
        obtain rfl := Option.some.inj h
        subst_vars
        first | exact sat_pure ⟨rfl, rfl, rfl⟩ | (refine sat_pure ⟨rfl, ?_, ?_⟩ <;> first | rfl | (dsimp only; simp only [ln_set]; rfl))
    · refine sat_brf (by first | exact hb6 | ((try clear h); subst_vars; first | exact hb6 | rfl)) ?_
      conv => arg 1; cbv
      obtain rfl := Option.some.inj h
      subst_vars
      first | exact sat_pure (.inl ⟨⟨_, rfl⟩, rfl⟩) | (refine sat_pure (.inl ⟨⟨_, rfl⟩, ?_⟩); dsimp only; simp only [ln_set]; rfl)
  · clear hl10
    rcases q with ⟨o11, o12, o13⟩ | ⟨o14, o15, o16⟩
    · dsimp only at h
      conv => arg 1; cbv
      obtain rfl := Option.some.inj h
      subst_vars
      exact sat_pure rfl
    · dsimp only at h
      conv => arg 1; cbv
      obtain rfl := Option.some.inj h
      subst_vars
      exact sat_pure rfl
set_option maxHeartbeats 4000000 in
theorem ok34 {Ω : Om} {E : Enc} (hΩ : real (call S) = Ω) (hE : theEnc = E) {fu : Nat} {a0 : Sl Note} {r : (Sl Note)} (h : P34 fu a0 = some r) {args : List PV} (ha : [PV.d (.sl (E.L_Note a0.l) (E.X_Note a0.x))] = args) (st : St) :
    Sat (Ω.cf 34 args st) (fun q => q = (PV.d (.sl (E.L_Note r.l) (E.X_Note r.x)), st)) := by
  subst ha
  rcases a0 with ⟨a0_l, a0_x⟩
  rw [cf_body hΩ (f := 34) (fn := Try.f34) (x := c34) rfl rfl c34_ok rfl rfl]
  unfold P34 at h
  try dsimp only at h
  conv => arg 1; cbv
  refine sat_len hΩ (ro_Note hE) a0_l (by first | rfl | ((try clear h); subst_vars; rfl)) fun n1 hn2 => ?_
  conv => arg 1; cbv
  replace h := bif_some h
  obtain ⟨hb7, h⟩ := h
  refine sat_true (by first | exact hb7 | ((try clear h); subst_vars; first | exact hb7 | rfl)) ?_
  conv => arg 1; cbv
  replace h := bif_some h
  obtain ⟨hb8, h⟩ := h
  refine sat_true (by first | exact hb8 | ((try clear h); subst_vars; first | exact hb8 | rfl)) ?_
  conv => arg 1; cbv
  replace h := bif_some h
  obtain ⟨hb9, h⟩ := h
  refine sat_true (by first | exact hb9 | ((try clear h); subst_vars; first | exact hb9 | rfl)) ?_
  conv => arg 1; cbv
  refine sat_fill hΩ (ro_Note hE) (Note.mk 0 0 ByteArray.empty false ByteArray.empty) 0 (by first | rfl | ((try clear h); subst_vars; rfl)) (by first | rfl | ((try clear h); subst_vars; rfl)) fun l3 hl4 n5 hn6 => ?_
  conv => arg 1; cbv
  obtain ⟨q, hl23, hz⟩ := Option.bind_eq_some_iff.1 h
  clear h
  have h := hz
  clear hz
  refine sat_loop hΩ (fun (a : (List Note) × Int) => (match a with | (l10, i11) => ([(0, PV.d (.sl (E.L_Note a0_l) (E.X_Note a0_x))), (2, PV.d (.sl [] (some []))), (3, PV.row 0 0 (ln l10)), (4, PV.d (.int .i64 i11))], ([X.Obj.row 70 5 (E.L_Note l10) false (some (Ω.wrap .i64 (Ω.add n1 1)))] : List X.Obj) :: st))) (fun (q : ((List Note) × Int)) => (match q with | (o24, o25) => (.exit 0, [(0, PV.d (.sl (E.L_Note a0_l) (E.X_Note a0_x))), (2, PV.d (.sl [] (some []))), (3, PV.row 0 0 (ln o24)), (4, PV.d (.int .i64 o25))], ([X.Obj.row 70 5 (E.L_Note o24) false (some (Ω.wrap .i64 (Ω.add n1 1)))] : List X.Obj) :: st))) ((List.replicate (Int.toNat 0) (Note.mk 0 0 ByteArray.empty false ByteArray.empty)), 0) hl23 (by first | rfl | ((try clear h); subst_vars; rfl) | ((try clear h); subst_vars; simp only [ln_set])) ?_ ?_
  · clear h hl23
    rintro ⟨l10, i11⟩ q h
    unfold P34_s0 at h
    dsimp only at h
    obtain ⟨ln_l10, hln_l10⟩ : ∃ n, ln l10 = n := ⟨_, rfl⟩
    simp only [hln_l10]
    conv => arg 1; cbv
    refine sat_len hΩ (ro_Note hE) a0_l (by first | rfl | ((try clear h); subst_vars; rfl)) fun n12 hn13 => ?_
    conv => arg 1; cbv
    refine sat_in hΩ ?_
    conv => arg 1; cbv
    replace h := bif_cases h
    rcases h with ⟨hb14, h⟩ | ⟨hb14, h⟩
    · refine sat_brt (by first | exact hb14 | ((try clear h); subst_vars; first | exact hb14 | rfl)) ?_
      conv => arg 1; cbv
      refine sat_in hΩ ?_
      conv => arg 1; cbv
      refine sat_true (fits_l hΩ (ro_Note hE) a0_l (by first | rfl | ((try clear h); subst_vars; rfl))) ?_
      conv => arg 1; cbv
      obtain ⟨⟨x15_Kind, x15_Inst, x15_Name, x15_Late, x15_Text⟩, hx16, hz⟩ := Option.bind_eq_some_iff.1 h
      clear h
      have h := hz
      clear hz
      try dsimp only at h
      refine sat_bind (nth_ok hΩ (ro_Note hE) hx16 (by first | rfl | ((try clear h); subst_vars; rfl)) (by first | rfl | ((try clear h); subst_vars; rfl))) ?_
      conv => arg 1; cbv
      refine sat_true (ieq_ok hΩ _) ?_
      conv => arg 1; cbv
      refine sat_true (fits_l hΩ (ro_Note hE) [(Note.mk x15_Kind x15_Inst x15_Name x15_Late x15_Text)] (by first | rfl | ((try clear h); subst_vars; rfl))) ?_
      conv => arg 1; cbv
      refine sat_true (len_ok hΩ (ro_Note hE) l10 (by first | rfl | ((try clear h); subst_vars; rfl) | ((try clear h); subst_vars; simp only [ln_set])) (by first | rfl | ((try clear h); subst_vars; rfl) | ((try clear h); subst_vars; simp only [ln_set]))) ?_
      conv => arg 1; cbv
      refine sat_brf (len_zero hΩ (ro_Note hE) (l := [(Note.mk x15_Kind x15_Inst x15_Name x15_Late x15_Text)]) (b := false) (by rfl) (by first | rfl | ((try clear h); subst_vars; rfl))) ?_
      conv => arg 1; cbv
      refine sat_cat hΩ (ro_Note hE) l10 [(Note.mk x15_Kind x15_Inst x15_Name x15_Late x15_Text)] (by first | rfl | ((try clear h); subst_vars; rfl)) (by first | rfl | ((try clear h); subst_vars; rfl)) fun l17 hl18 n19 hn20 => ?_
      conv => arg 1; cbv
      replace h := bif_some h
      obtain ⟨hb21, h⟩ := h
      refine sat_true (by first | exact hb21 | ((try clear h); subst_vars; first | exact hb21 | rfl)) ?_
      conv => arg 1; cbv
      replace h := bif_some h
      obtain ⟨hb22, h⟩ := h
      refine sat_true (by first | exact hb22 | ((try clear h); subst_vars; first | exact hb22 | rfl)) ?_
      conv => arg 1; cbv
      obtain rfl := Option.some.inj h
      subst_vars
      first | exact sat_pure ⟨rfl, rfl, rfl⟩ | (refine sat_pure ⟨rfl, ?_, ?_⟩ <;> first | rfl | (dsimp only; simp only [ln_set]; rfl))
    · refine sat_brf (by first | exact hb14 | ((try clear h); subst_vars; first | exact hb14 | rfl)) ?_
      conv => arg 1; cbv
      obtain rfl := Option.some.inj h
      subst_vars
      first | exact sat_pure (.inl ⟨⟨_, rfl⟩, rfl⟩) | (refine sat_pure (.inl ⟨⟨_, rfl⟩, ?_⟩); dsimp only; simp only [ln_set]; rfl)
  · clear hl23
    rcases q with ⟨o24, o25⟩
    dsimp only at h
    obtain ⟨ln_o24, hln_o24⟩ : ∃ n, ln o24 = n := ⟨_, rfl⟩
    simp only [hln_o24]
    conv => arg 1; cbv
    refine sat_in hΩ ?_
    conv => arg 1; cbv
    refine sat_true (ieq_ok hΩ _) ?_
    conv => arg 1; cbv
    refine sat_true (fits_l hΩ (ro_Note hE) [(Note.mk 0 7777 ByteArray.empty false ByteArray.empty)] (by first | rfl | ((try clear h); subst_vars; rfl))) ?_
    conv => arg 1; cbv
    refine sat_true (len_ok hΩ (ro_Note hE) o24 (by first | rfl | ((try clear h); subst_vars; rfl) | ((try clear h); subst_vars; simp only [ln_set])) (by first | rfl | ((try clear h); subst_vars; rfl) | ((try clear h); subst_vars; simp only [ln_set]))) ?_
    conv => arg 1; cbv
    refine sat_brf (len_zero hΩ (ro_Note hE) (l := [(Note.mk 0 7777 ByteArray.empty false ByteArray.empty)]) (b := false) (by rfl) (by first | rfl | ((try clear h); subst_vars; rfl))) ?_
    conv => arg 1; cbv
    refine sat_cat hΩ (ro_Note hE) o24 [(Note.mk 0 7777 ByteArray.empty false ByteArray.empty)] (by first | rfl | ((try clear h); subst_vars; rfl)) (by first | rfl | ((try clear h); subst_vars; rfl)) fun l26 hl27 n28 hn29 => ?_
    conv => arg 1; cbv
    replace h := bif_some h
    obtain ⟨hb30, h⟩ := h
    refine sat_true (by first | exact hb30 | ((try clear h); subst_vars; first | exact hb30 | rfl)) ?_
    conv => arg 1; cbv
    replace h := bif_some h
    obtain ⟨hb31, h⟩ := h
    refine sat_true (by first | exact hb31 | ((try clear h); subst_vars; first | exact hb31 | rfl)) ?_
    conv => arg 1; cbv
    refine sat_len hΩ (ro_Note hE) a0_l (by first | rfl | ((try clear h); subst_vars; rfl)) fun n32 hn33 => ?_
    conv => arg 1; cbv
    refine sat_true (len_ok hΩ (ro_Note hE) (o24 ++ [(Note.mk 0 7777 ByteArray.empty false ByteArray.empty)]) (by first | rfl | ((try clear h); subst_vars; rfl) | ((try clear h); subst_vars; simp only [ln_set])) (by first | rfl | ((try clear h); subst_vars; rfl) | ((try clear h); subst_vars; simp only [ln_set]))) ?_
    conv => arg 1; cbv
    replace h := bif_cases h
    rcases h with ⟨hb34, h⟩ | ⟨hb34, h⟩
    · refine sat_brt (by first | exact hb34 | ((try clear h); subst_vars; first | exact hb34 | rfl)) ?_
      conv => arg 1; cbv
      refine sat_len hΩ (ro_Note hE) (o24 ++ [(Note.mk 0 7777 ByteArray.empty false ByteArray.empty)]) (by first | rfl | ((try clear h); subst_vars; rfl)) fun n35 hn36 => ?_
      conv => arg 1; cbv
      refine sat_cat hΩ (ro_Note hE) (o24 ++ [(Note.mk 0 7777 ByteArray.empty false ByteArray.empty)]) [] (by first | rfl | ((try clear h); subst_vars; rfl)) (by first | rfl | ((try clear h); subst_vars; rfl)) fun l37 hl38 n39 hn40 => ?_
      conv => arg 1; cbv
      replace h := bif_some h
      obtain ⟨hb41, h⟩ := h
      refine sat_true (by first | exact hb41 | ((try clear h); subst_vars; first | exact hb41 | rfl)) ?_
      conv => arg 1; cbv
      replace h := bif_some h
      obtain ⟨hb42, h⟩ := h
      refine sat_true (by first | exact hb42 | ((try clear h); subst_vars; first | exact hb42 | rfl)) ?_
      conv => arg 1; cbv
      replace h := bif_some h
      obtain ⟨hb43, h⟩ := h
      refine sat_true (by first | exact hb43 | ((try clear h); subst_vars; first | exact hb43 | rfl)) ?_
      conv => arg 1; cbv
      refine sat_cut hΩ (ro_Note hE) ((o24 ++ [(Note.mk 0 7777 ByteArray.empty false ByteArray.empty)]) ++ []) 0 (ln a0_l) (by first | rfl | ((try clear h); subst_vars; rfl)) (by first | rfl | ((try clear h); subst_vars; rfl)) (by first | rfl | ((try clear h); subst_vars; rfl)) fun l44 hl45 => ?_
      conv => arg 1; cbv
      refine sat_cut hΩ (ro_Note hE) ((o24 ++ [(Note.mk 0 7777 ByteArray.empty false ByteArray.empty)]) ++ []) (ln a0_l) (ln ((o24 ++ [(Note.mk 0 7777 ByteArray.empty false ByteArray.empty)]) ++ [])) (by first | rfl | ((try clear h); subst_vars; rfl)) (by first | rfl | ((try clear h); subst_vars; rfl)) (by first | rfl | ((try clear h); subst_vars; rfl)) fun l46 hl47 => ?_
      conv => arg 1; cbv
      obtain rfl := Option.some.inj h
      subst_vars
      exact sat_pure rfl
    · refine sat_brf (by first | exact hb34 | ((try clear h); subst_vars; first | exact hb34 | rfl)) ?_
      conv => arg 1; cbv
      refine sat_len hΩ (ro_Note hE) (o24 ++ [(Note.mk 0 7777 ByteArray.empty false ByteArray.empty)]) (by first | rfl | ((try clear h); subst_vars; rfl)) fun n48 hn49 => ?_
      conv => arg 1; cbv
      replace h := bif_some h
      obtain ⟨hb50, h⟩ := h
      refine sat_true (by first | exact hb50 | ((try clear h); subst_vars; first | exact hb50 | rfl)) ?_
      conv => arg 1; cbv
      replace h := bif_some h
      obtain ⟨hb51, h⟩ := h
      refine sat_true (by first | exact hb51 | ((try clear h); subst_vars; first | exact hb51 | rfl)) ?_
      conv => arg 1; cbv
      replace h := bif_some h
      obtain ⟨hb52, h⟩ := h
      refine sat_true (by first | exact hb52 | ((try clear h); subst_vars; first | exact hb52 | rfl)) ?_
      conv => arg 1; cbv
      refine sat_cut hΩ (ro_Note hE) (o24 ++ [(Note.mk 0 7777 ByteArray.empty false ByteArray.empty)]) 0 (ln a0_l) (by first | rfl | ((try clear h); subst_vars; rfl)) (by first | rfl | ((try clear h); subst_vars; rfl)) (by first | rfl | ((try clear h); subst_vars; rfl)) fun l53 hl54 => ?_
      conv => arg 1; cbv
      obtain rfl := Option.some.inj h
      subst_vars
      exact sat_pure rfl
set_option maxHeartbeats 4000000 in
theorem ok60 {Ω : Om} {E : Enc} (hΩ : real (call S) = Ω) (hE : theEnc = E) {fu : Nat} {a0 : Sl Note} {a1 : Int} {r : (Sl Note)} (h : P60 fu a0 a1 = some r) {args : List PV} (ha : [PV.d (.sl (E.L_Note a0.l) (E.X_Note a0.x)), PV.d (.int .i64 a1)] = args) (st : St) :
    Sat (Ω.cf 60 args st) (fun q => q = (PV.d (.sl (E.L_Note r.l) (E.X_Note r.x)), st)) := by
  subst ha
  rcases a0 with ⟨a0_l, a0_x⟩
  rw [cf_body hΩ (f := 60) (fn := Try.f60) (x := c60) rfl rfl c60_ok rfl rfl]
  unfold P60 at h
  try dsimp only at h
  conv => arg 1; cbv
  refine sat_nil hΩ (ro_Note hE) fun l1 hl2 => ?_
  conv => arg 1; cbv
  obtain ⟨q, hl20, hz⟩ := Option.bind_eq_some_iff.1 h
  clear h
  have h := hz
  clear hz
  refine sat_loop hΩ (fun (a : (List Note) × Int) => (match a with | (l3, i4) => ([(0, PV.d (.sl (E.L_Note a0_l) (E.X_Note a0_x))), (1, PV.d (.int .i64 a1)), (4, PV.d (.sl [] (some []))), (5, PV.row 0 0 (ln l3)), (6, PV.d (.int .i64 i4))], ([X.Obj.row 70 5 (E.L_Note l3) false none] : List X.Obj) :: st))) (fun (q : ((List Note) × Int)) => (match q with | (o21, o22) => (.exit 0, [(0, PV.d (.sl (E.L_Note a0_l) (E.X_Note a0_x))), (1, PV.d (.int .i64 a1)), (4, PV.d (.sl [] (some []))), (5, PV.row 0 0 (ln o21)), (6, PV.d (.int .i64 o22))], ([X.Obj.row 70 5 (E.L_Note o21) false none] : List X.Obj) :: st))) (([] : List Note), 0) hl20 (by first | rfl | ((try clear h); subst_vars; rfl) | ((try clear h); subst_vars; simp only [ln_set])) ?_ ?_
  · clear h hl20
    rintro ⟨l3, i4⟩ q h
    unfold P60_s0 at h
    dsimp only at h
    obtain ⟨ln_l3, hln_l3⟩ : ∃ n, ln l3 = n := ⟨_, rfl⟩
    simp only [hln_l3]
    conv => arg 1; cbv
    refine sat_len hΩ (ro_Note hE) a0_l (by first | rfl | ((try clear h); subst_vars; rfl)) fun n5 hn6 => ?_
    conv => arg 1; cbv
    refine sat_in hΩ ?_
    conv => arg 1; cbv
    replace h := bif_cases h
    rcases h with ⟨hb7, h⟩ | ⟨hb7, h⟩
    · refine sat_brt (by first | exact hb7 | ((try clear h); subst_vars; first | exact hb7 | rfl)) ?_
      conv => arg 1; cbv
      refine sat_true (fits_l hΩ (ro_Note hE) a0_l (by first | rfl | ((try clear h); subst_vars; rfl))) ?_
      conv => arg 1; cbv
      obtain ⟨⟨x8_Kind, x8_Inst, x8_Name, x8_Late, x8_Text⟩, hx9, hz⟩ := Option.bind_eq_some_iff.1 h
      clear h
      have h := hz
      clear hz
      try dsimp only at h
      refine sat_bind (nth_ok hΩ (ro_Note hE) hx9 (by first | rfl | ((try clear h); subst_vars; rfl)) (by first | rfl | ((try clear h); subst_vars; rfl))) ?_
      conv => arg 1; cbv
      obtain ⟨q, hq19, hz⟩ := Option.bind_eq_some_iff.1 h
      clear h
      have h := hz
      clear hz
      refine sat_grp hΩ ((fun (q : (List Note)) => (match q with | l18 => (.normal, [(0, PV.d (.sl (E.L_Note a0_l) (E.X_Note a0_x))), (1, PV.d (.int .i64 a1)), (4, PV.d (.sl [] (some []))), (5, PV.row 0 0 (ln l18)), (6, PV.d (.int .i64 i4))], ([X.Obj.row 70 5 (E.L_Note l18) false none] : List X.Obj) :: st))) q) (fun k hk => ?_) ?_
      · clear h
        have h := hq19
        clear hq19
        conv => arg 1; cbv
        replace h := bif_cases h
        rcases h with ⟨hb10, h⟩ | ⟨hb10, h⟩
        · refine sat_brt (by first | exact hb10 | ((try clear h); subst_vars; first | exact hb10 | rfl)) ?_
          conv => arg 1; cbv
          refine sat_in hΩ ?_
          conv => arg 1; cbv
          refine sat_true (fits_l hΩ (ro_Note hE) a0_l (by first | rfl | ((try clear h); subst_vars; rfl))) ?_
          conv => arg 1; cbv
          obtain ⟨⟨x11_Kind, x11_Inst, x11_Name, x11_Late, x11_Text⟩, hx12, hz⟩ := Option.bind_eq_some_iff.1 h
          clear h
          have h := hz
          clear hz
          try dsimp only at h
          refine sat_bind (nth_ok hΩ (ro_Note hE) hx12 (by first | rfl | ((try clear h); subst_vars; rfl)) (by first | rfl | ((try clear h); subst_vars; rfl))) ?_
          conv => arg 1; cbv
          refine sat_true (ieq_ok hΩ _) ?_
          conv => arg 1; cbv
          refine sat_true (fits_l hΩ (ro_Note hE) [(Note.mk x11_Kind x11_Inst x11_Name x11_Late x11_Text)] (by first | rfl | ((try clear h); subst_vars; rfl))) ?_
          conv => arg 1; cbv
          refine sat_true (len_ok hΩ (ro_Note hE) l3 (by first | rfl | ((try clear h); subst_vars; rfl) | ((try clear h); subst_vars; simp only [ln_set])) (by first | rfl | ((try clear h); subst_vars; rfl) | ((try clear h); subst_vars; simp only [ln_set]))) ?_
          conv => arg 1; cbv
          refine sat_brf (len_zero hΩ (ro_Note hE) (l := [(Note.mk x11_Kind x11_Inst x11_Name x11_Late x11_Text)]) (b := false) (by rfl) (by first | rfl | ((try clear h); subst_vars; rfl))) ?_
          conv => arg 1; cbv
          refine sat_cat hΩ (ro_Note hE) l3 [(Note.mk x11_Kind x11_Inst x11_Name x11_Late x11_Text)] (by first | rfl | ((try clear h); subst_vars; rfl)) (by first | rfl | ((try clear h); subst_vars; rfl)) fun l13 hl14 n15 hn16 => ?_
          conv => arg 1; cbv
          replace h := bif_some h
          obtain ⟨hb17, h⟩ := h
          refine sat_true (by first | exact hb17 | ((try clear h); subst_vars; first | exact hb17 | rfl)) ?_
          conv => arg 1; cbv
          obtain rfl := Option.some.inj h
          subst_vars
          first | exact hk | (simp only [ln_set] at hk ⊢; exact hk)
        · refine sat_brf (by first | exact hb10 | ((try clear h); subst_vars; first | exact hb10 | rfl)) ?_
          conv => arg 1; cbv
          obtain rfl := Option.some.inj h
          subst_vars
          first | exact hk | (simp only [ln_set] at hk ⊢; exact hk)
      · clear hq19
        obtain ⟨l18, hqq⟩ : ∃ x, x = q := ⟨_, rfl⟩
        subst hqq
        try dsimp only at h
        obtain ⟨ln_l18, hln_l18⟩ : ∃ n, ln l18 = n := ⟨_, rfl⟩
        simp only [hln_l18]
        conv => arg 1; cbv
        obtain rfl := Option.some.inj h
        subst_vars
        first | exact sat_pure ⟨rfl, rfl, rfl⟩ | (refine sat_pure ⟨rfl, ?_, ?_⟩ <;> first | rfl | (dsimp only; simp only [ln_set]; rfl))
    · refine sat_brf (by first | exact hb7 | ((try clear h); subst_vars; first | exact hb7 | rfl)) ?_
      conv => arg 1; cbv
      obtain rfl := Option.some.inj h
      subst_vars
      first | exact sat_pure (.inl ⟨⟨_, rfl⟩, rfl⟩) | (refine sat_pure (.inl ⟨⟨_, rfl⟩, ?_⟩); dsimp only; simp only [ln_set]; rfl)
  · clear hl20
    rcases q with ⟨o21, o22⟩
    dsimp only at h
    obtain ⟨ln_o21, hln_o21⟩ : ∃ n, ln o21 = n := ⟨_, rfl⟩
    simp only [hln_o21]
    conv => arg 1; cbv
    refine sat_true (len_ok hΩ (ro_Note hE) o21 (by first | rfl | ((try clear h); subst_vars; rfl) | ((try clear h); subst_vars; simp only [ln_set])) (by first | rfl | ((try clear h); subst_vars; rfl) | ((try clear h); subst_vars; simp only [ln_set]))) ?_
    conv => arg 1; cbv
    obtain rfl := Option.some.inj h
    subst_vars
    exact sat_pure rfl
set_option maxHeartbeats 4000000 in
theorem ok69 {Ω : Om} {E : Enc} (hΩ : real (call S) = Ω) (hE : theEnc = E) {fu : Nat} {a0 : Sl Note} {a1 : Int} {r : Int} (h : P69 fu a0 a1 = some r) {args : List PV} (ha : [PV.d (.sl (E.L_Note a0.l) (E.X_Note a0.x)), PV.d (.int .u8 a1)] = args) (st : St) :
    Sat (Ω.cf 69 args st) (fun q => q = (PV.d (.int .i64 r), st)) := by
  subst ha
  rcases a0 with ⟨a0_l, a0_x⟩
  rw [cf_body hΩ (f := 69) (fn := Try.f69) (x := c69) rfl rfl c69_ok rfl rfl]
  unfold P69 at h
  try dsimp only at h
  conv => arg 1; cbv
  obtain ⟨q, hl11, hz⟩ := Option.bind_eq_some_iff.1 h
  clear h
  have h := hz
  clear hz
  refine sat_loop hΩ (fun (a : Int × Int) => (match a with | (i1, i2) => ([(0, PV.d (.sl (E.L_Note a0_l) (E.X_Note a0_x))), (1, PV.d (.int .u8 a1)), (4, PV.d (.int .i64 0)), (5, PV.d (.int .i64 i1)), (6, PV.d (.int .i64 i2))], ([] : List X.Obj) :: st))) (fun (q : (Int × Int)) => (match q with | (o12, o13) => (.exit 0, [(0, PV.d (.sl (E.L_Note a0_l) (E.X_Note a0_x))), (1, PV.d (.int .u8 a1)), (4, PV.d (.int .i64 0)), (5, PV.d (.int .i64 o12)), (6, PV.d (.int .i64 o13))], ([] : List X.Obj) :: st))) (0, 0) hl11 (by first | rfl | ((try clear h); subst_vars; rfl) | ((try clear h); subst_vars; simp only [ln_set])) ?_ ?_
  · clear h hl11
    rintro ⟨i1, i2⟩ q h
    unfold P69_s0 at h
    dsimp only at h
    conv => arg 1; cbv
    refine sat_len hΩ (ro_Note hE) a0_l (by first | rfl | ((try clear h); subst_vars; rfl)) fun n3 hn4 => ?_
    conv => arg 1; cbv
    refine sat_in hΩ ?_
    conv => arg 1; cbv
    replace h := bif_cases h
    rcases h with ⟨hb5, h⟩ | ⟨hb5, h⟩
    · refine sat_brt (by first | exact hb5 | ((try clear h); subst_vars; first | exact hb5 | rfl)) ?_
      conv => arg 1; cbv
      refine sat_true (fits_l hΩ (ro_Note hE) a0_l (by first | rfl | ((try clear h); subst_vars; rfl))) ?_
      conv => arg 1; cbv
      obtain ⟨⟨x6_Kind, x6_Inst, x6_Name, x6_Late, x6_Text⟩, hx7, hz⟩ := Option.bind_eq_some_iff.1 h
      clear h
      have h := hz
      clear hz
      try dsimp only at h
      refine sat_bind (nth_ok hΩ (ro_Note hE) hx7 (by first | rfl | ((try clear h); subst_vars; rfl)) (by first | rfl | ((try clear h); subst_vars; rfl))) ?_
      conv => arg 1; cbv
      obtain ⟨q, hq10, hz⟩ := Option.bind_eq_some_iff.1 h
      clear h
      have h := hz
      clear hz
      refine sat_grp hΩ ((fun (q : Int) => (match q with | i9 => (.normal, [(0, PV.d (.sl (E.L_Note a0_l) (E.X_Note a0_x))), (1, PV.d (.int .u8 a1)), (4, PV.d (.int .i64 0)), (5, PV.d (.int .i64 i9)), (6, PV.d (.int .i64 i2))], ([] : List X.Obj) :: st))) q) (fun k hk => ?_) ?_
      · clear h
        have h := hq10
        clear hq10
        conv => arg 1; cbv
        replace h := bif_cases h
        rcases h with ⟨hb8, h⟩ | ⟨hb8, h⟩
        · refine sat_brt (by first | exact hb8 | ((try clear h); subst_vars; first | exact hb8 | rfl)) ?_
          conv => arg 1; cbv
          obtain rfl := Option.some.inj h
          subst_vars
          first | exact hk | (simp only [ln_set] at hk ⊢; exact hk)
        · refine sat_brf (by first | exact hb8 | ((try clear h); subst_vars; first | exact hb8 | rfl)) ?_
          conv => arg 1; cbv
          obtain rfl := Option.some.inj h
          subst_vars
          first | exact hk | (simp only [ln_set] at hk ⊢; exact hk)
      · clear hq10
        obtain ⟨i9, hqq⟩ : ∃ x, x = q := ⟨_, rfl⟩
        subst hqq
        try dsimp only at h
        conv => arg 1; cbv
        obtain rfl := Option.some.inj h
        subst_vars
        first | exact sat_pure ⟨rfl, rfl, rfl⟩ | (refine sat_pure ⟨rfl, ?_, ?_⟩ <;> first | rfl | (dsimp only; simp only [ln_set]; rfl))
    · refine sat_brf (by first | exact hb5 | ((try clear h); subst_vars; first | exact hb5 | rfl)) ?_
      conv => arg 1; cbv
      obtain rfl := Option.some.inj h
      subst_vars
      first | exact sat_pure (.inl ⟨⟨_, rfl⟩, rfl⟩) | (refine sat_pure (.inl ⟨⟨_, rfl⟩, ?_⟩); dsimp only; simp only [ln_set]; rfl)
  · clear hl11
    rcases q with ⟨o12, o13⟩
    dsimp only at h
    conv => arg 1; cbv
    obtain rfl := Option.some.inj h
    subst_vars
    exact sat_pure rfl
set_option maxHeartbeats 4000000 in
theorem ok70 {Ω : Om} {E : Enc} (hΩ : real (call S) = Ω) (hE : theEnc = E) {fu : Nat} {a0 : Sl Note} {a1 : ByteArray} {a2 : Bool} {r : Bool} (h : P70 fu a0 a1 a2 = some r) {args : List PV} (ha : [PV.d (.sl (E.L_Note a0.l) (E.X_Note a0.x)), PV.d (.str a1), PV.d (.bool a2)] = args) (st : St) :
    Sat (Ω.cf 70 args st) (fun q => q = (PV.d (.bool r), st)) := by
  subst ha
  rcases a0 with ⟨a0_l, a0_x⟩
  rw [cf_body hΩ (f := 70) (fn := Try.f70) (x := c70) rfl rfl c70_ok rfl rfl]
  unfold P70 at h
  try dsimp only at h
  conv => arg 1; cbv
  obtain ⟨q, hl24, hz⟩ := Option.bind_eq_some_iff.1 h
  clear h
  have h := hz
  clear hz
  refine sat_loop hΩ (fun (a : Bool × Int) => (match a with | (i1, i2) => ([(0, PV.d (.sl (E.L_Note a0_l) (E.X_Note a0_x))), (1, PV.d (.str a1)), (2, PV.d (.bool a2)), (6, PV.d (.bool false)), (7, PV.d (.bool i1)), (8, PV.d (.int .i64 i2))], ([] : List X.Obj) :: st))) (fun (q : (Bool × Int)) => (match q with | (o25, o26) => (.exit 0, [(0, PV.d (.sl (E.L_Note a0_l) (E.X_Note a0_x))), (1, PV.d (.str a1)), (2, PV.d (.bool a2)), (6, PV.d (.bool false)), (7, PV.d (.bool o25)), (8, PV.d (.int .i64 o26))], ([] : List X.Obj) :: st))) (false, 0) hl24 (by first | rfl | ((try clear h); subst_vars; rfl) | ((try clear h); subst_vars; simp only [ln_set])) ?_ ?_
  · clear h hl24
    rintro ⟨i1, i2⟩ q h
    unfold P70_s0 at h
    dsimp only at h
    conv => arg 1; cbv
    refine sat_len hΩ (ro_Note hE) a0_l (by first | rfl | ((try clear h); subst_vars; rfl)) fun n3 hn4 => ?_
    conv => arg 1; cbv
    refine sat_in hΩ ?_
    conv => arg 1; cbv
    replace h := bif_cases h
    rcases h with ⟨hb5, h⟩ | ⟨hb5, h⟩
    · refine sat_brt (by first | exact hb5 | ((try clear h); subst_vars; first | exact hb5 | rfl)) ?_
      conv => arg 1; cbv
      obtain ⟨q, hq23, hz⟩ := Option.bind_eq_some_iff.1 h
      clear h
      have h := hz
      clear hz
      refine sat_grp hΩ ((fun (q : Bool) => (match q with | i17 => ([(0, PV.d (.sl (E.L_Note a0_l) (E.X_Note a0_x))), (1, PV.d (.str a1)), (2, PV.d (.bool a2)), (6, PV.d (.bool false)), (7, PV.d (.bool i1)), (8, PV.d (.int .i64 i2)), (46, PV.d (.bool i17))], ([] : List X.Obj) :: st))) q) (fun k hk => ?_) ?_
      · clear h
        have h := hq23
        clear hq23
        conv => arg 1; cbv
        refine sat_true (fits_l hΩ (ro_Note hE) a0_l (by first | rfl | ((try clear h); subst_vars; rfl))) ?_
        conv => arg 1; cbv
        obtain ⟨⟨x6_Kind, x6_Inst, x6_Name, x6_Late, x6_Text⟩, hx7, hz⟩ := Option.bind_eq_some_iff.1 h
        clear h
        have h := hz
        clear hz
        try dsimp only at h
        refine sat_bind (nth_ok hΩ (ro_Note hE) hx7 (by first | rfl | ((try clear h); subst_vars; rfl)) (by first | rfl | ((try clear h); subst_vars; rfl))) ?_
        conv => arg 1; cbv
        replace h := bif_cases h
        rcases h with ⟨hb8, h⟩ | ⟨hb8, h⟩
        · refine sat_brt (by first | exact hb8 | ((try clear h); subst_vars; first | exact hb8 | rfl)) ?_
          conv => arg 1; cbv
          refine sat_true (fits_l hΩ (ro_Note hE) a0_l (by first | rfl | ((try clear h); subst_vars; rfl))) ?_
          conv => arg 1; cbv
          obtain ⟨⟨x9_Kind, x9_Inst, x9_Name, x9_Late, x9_Text⟩, hx10, hz⟩ := Option.bind_eq_some_iff.1 h
          clear h
          have h := hz
          clear hz
          try dsimp only at h
          refine sat_bind (nth_ok hΩ (ro_Note hE) hx10 (by first | rfl | ((try clear h); subst_vars; rfl)) (by first | rfl | ((try clear h); subst_vars; rfl))) ?_
          conv => arg 1; cbv
          refine sat_tick hΩ ?_
          conv => arg 1; cbv
          replace h := bif_cases h
          rcases h with ⟨hb11, h⟩ | ⟨hb11, h⟩
          · refine sat_brt (by first | exact hb11 | ((try clear h); subst_vars; first | exact hb11 | rfl)) ?_
            conv => arg 1; cbv
            refine sat_true (fits_l hΩ (ro_Note hE) a0_l (by first | rfl | ((try clear h); subst_vars; rfl))) ?_
            conv => arg 1; cbv
            obtain ⟨⟨x12_Kind, x12_Inst, x12_Name, x12_Late, x12_Text⟩, hx13, hz⟩ := Option.bind_eq_some_iff.1 h
            clear h
            have h := hz
            clear hz
            try dsimp only at h
            refine sat_bind (nth_ok hΩ (ro_Note hE) hx13 (by first | rfl | ((try clear h); subst_vars; rfl)) (by first | rfl | ((try clear h); subst_vars; rfl))) ?_
            conv => arg 1; cbv
            refine sat_tick hΩ ?_
            conv => arg 1; cbv
            replace h := bif_cases h
            rcases h with ⟨hb14, h⟩ | ⟨hb14, h⟩
            · refine sat_brt (by first | exact hb14 | ((try clear h); subst_vars; first | exact hb14 | rfl)) ?_
              conv => arg 1; cbv
              refine sat_true (fits_l hΩ (ro_Note hE) a0_l (by first | rfl | ((try clear h); subst_vars; rfl))) ?_
              conv => arg 1; cbv
              obtain ⟨⟨x15_Kind, x15_Inst, x15_Name, x15_Late, x15_Text⟩, hx16, hz⟩ := Option.bind_eq_some_iff.1 h
              clear h
              have h := hz
              clear hz
              try dsimp only at h
              refine sat_bind (nth_ok hΩ (ro_Note hE) hx16 (by first | rfl | ((try clear h); subst_vars; rfl)) (by first | rfl | ((try clear h); subst_vars; rfl))) ?_
              conv => arg 1; cbv
              obtain rfl := Option.some.inj h
              subst_vars
              first | exact hk | (simp only [ln_set] at hk ⊢; exact hk)
            · refine sat_brf (by first | exact hb14 | ((try clear h); subst_vars; first | exact hb14 | rfl)) ?_
              conv => arg 1; cbv
              obtain rfl := Option.some.inj h
              subst_vars
              first | exact hk | (simp only [ln_set] at hk ⊢; exact hk)
          · refine sat_brf (by first | exact hb11 | ((try clear h); subst_vars; first | exact hb11 | rfl)) ?_
            conv => arg 1; cbv
            refine sat_tick hΩ ?_
            conv => arg 1; cbv
            obtain rfl := Option.some.inj h
            subst_vars
            first | exact hk | (simp only [ln_set] at hk ⊢; exact hk)
        · refine sat_brf (by first | exact hb8 | ((try clear h); subst_vars; first | exact hb8 | rfl)) ?_
          conv => arg 1; cbv
          refine sat_tick hΩ ?_
          conv => arg 1; cbv
          refine sat_tick hΩ ?_
          conv => arg 1; cbv
          obtain rfl := Option.some.inj h
          subst_vars
          first | exact hk | (simp only [ln_set] at hk ⊢; exact hk)
      · clear hq23
        obtain ⟨i17, hqq⟩ : ∃ x, x = q := ⟨_, rfl⟩
        subst hqq
        try dsimp only at h
        conv => arg 1; cbv
        obtain ⟨q, hq22, hz⟩ := Option.bind_eq_some_iff.1 h
        clear h
        have h := hz
        clear hz
        refine sat_grp hΩ ((fun (q : Bool) => (match q with | i21 => (.normal, [(0, PV.d (.sl (E.L_Note a0_l) (E.X_Note a0_x))), (1, PV.d (.str a1)), (2, PV.d (.bool a2)), (6, PV.d (.bool false)), (7, PV.d (.bool i21)), (8, PV.d (.int .i64 i2))], ([] : List X.Obj) :: st))) q) (fun k hk => ?_) ?_
        · clear h
          have h := hq22
          clear hq22
          conv => arg 1; cbv
          replace h := bif_cases h
          rcases h with ⟨hb18, h⟩ | ⟨hb18, h⟩
          · refine sat_brt (by first | exact hb18 | ((try clear h); subst_vars; first | exact hb18 | rfl)) ?_
            conv => arg 1; cbv
            refine sat_true (fits_l hΩ (ro_Note hE) a0_l (by first | rfl | ((try clear h); subst_vars; rfl))) ?_
            conv => arg 1; cbv
            obtain ⟨⟨x19_Kind, x19_Inst, x19_Name, x19_Late, x19_Text⟩, hx20, hz⟩ := Option.bind_eq_some_iff.1 h
            clear h
            have h := hz
            clear hz
            try dsimp only at h
            refine sat_bind (nth_ok hΩ (ro_Note hE) hx20 (by first | rfl | ((try clear h); subst_vars; rfl)) (by first | rfl | ((try clear h); subst_vars; rfl))) ?_
            conv => arg 1; cbv
            obtain rfl := Option.some.inj h
            subst_vars
            first | exact hk | (simp only [ln_set] at hk ⊢; exact hk)
          · refine sat_brf (by first | exact hb18 | ((try clear h); subst_vars; first | exact hb18 | rfl)) ?_
            conv => arg 1; cbv
            obtain rfl := Option.some.inj h
            subst_vars
            first | exact hk | (simp only [ln_set] at hk ⊢; exact hk)
        · clear hq22
          obtain ⟨i21, hqq⟩ : ∃ x, x = q := ⟨_, rfl⟩
          subst hqq
          try dsimp only at h
          conv => arg 1; cbv
          obtain rfl := Option.some.inj h
          subst_vars
          first | exact sat_pure ⟨rfl, rfl, rfl⟩ | (refine sat_pure ⟨rfl, ?_, ?_⟩ <;> first | rfl | (dsimp only; simp only [ln_set]; rfl))
    · refine sat_brf (by first | exact hb5 | ((try clear h); subst_vars; first | exact hb5 | rfl)) ?_
      conv => arg 1; cbv
      obtain rfl := Option.some.inj h
      subst_vars
      first | exact sat_pure (.inl ⟨⟨_, rfl⟩, rfl⟩) | (refine sat_pure (.inl ⟨⟨_, rfl⟩, ?_⟩); dsimp only; simp only [ln_set]; rfl)
  · clear hl24
    rcases q with ⟨o25, o26⟩
    dsimp only at h
    conv => arg 1; cbv
    obtain rfl := Option.some.inj h
    subst_vars
    exact sat_pure rfl
set_option maxHeartbeats 4000000 in
theorem ok71 {Ω : Om} {E : Enc} (hΩ : real (call S) = Ω) (hE : theEnc = E) {fu : Nat} {a0 : Sl Note} {r : Bool} (h : P71 fu a0 = some r) {args : List PV} (ha : [PV.d (.sl (E.L_Note a0.l) (E.X_Note a0.x))] = args) (st : St) :
    Sat (Ω.cf 71 args st) (fun q => q = (PV.d (.bool r), st)) := by
  subst ha
  rcases a0 with ⟨a0_l, a0_x⟩
  rw [cf_body hΩ (f := 71) (fn := Try.f71) (x := c71) rfl rfl c71_ok rfl rfl]
  unfold P71 at h
  try dsimp only at h
  conv => arg 1; cbv
  obtain ⟨q, hl18, hz⟩ := Option.bind_eq_some_iff.1 h
  clear h
  have h := hz
  clear hz
  refine sat_loop hΩ (fun (a : Bool × Int) => (match a with | (i1, i2) => ([(0, PV.d (.sl (E.L_Note a0_l) (E.X_Note a0_x))), (2, PV.d (.bool i1)), (3, PV.d (.int .i64 i2))], ([] : List X.Obj) :: st))) (fun (q : (Bool × Int) ⊕ (Bool × Int)) => (match q with | .inl (o19, o20) => (.exit 0, [(0, PV.d (.sl (E.L_Note a0_l) (E.X_Note a0_x))), (2, PV.d (.bool o19)), (3, PV.d (.int .i64 o20))], ([] : List X.Obj) :: st) | .inr (o21, o22) => (.ret, [(0, PV.d (.sl (E.L_Note a0_l) (E.X_Note a0_x))), (2, PV.d (.bool o21)), (3, PV.d (.int .i64 o22))], ([] : List X.Obj) :: st))) (false, 0) hl18 (by first | rfl | ((try clear h); subst_vars; rfl) | ((try clear h); subst_vars; simp only [ln_set])) ?_ ?_
  · clear h hl18
    rintro ⟨i1, i2⟩ q h
    unfold P71_s0 at h
    dsimp only at h
    conv => arg 1; cbv
    refine sat_len hΩ (ro_Note hE) a0_l (by first | rfl | ((try clear h); subst_vars; rfl)) fun n3 hn4 => ?_
    conv => arg 1; cbv
    refine sat_in hΩ ?_
    conv => arg 1; cbv
    replace h := bif_cases h
    rcases h with ⟨hb5, h⟩ | ⟨hb5, h⟩
    · refine sat_brt (by first | exact hb5 | ((try clear h); subst_vars; first | exact hb5 | rfl)) ?_
      conv => arg 1; cbv
      obtain ⟨q, hq17, hz⟩ := Option.bind_eq_some_iff.1 h
      clear h
      have h := hz
      clear hz
      refine sat_grp hΩ ((fun (q : Bool) => (match q with | i15 => ([(0, PV.d (.sl (E.L_Note a0_l) (E.X_Note a0_x))), (2, PV.d (.bool i1)), (3, PV.d (.int .i64 i2)), (29, PV.d (.bool i15))], ([] : List X.Obj) :: st))) q) (fun k hk => ?_) ?_
      · clear h
        have h := hq17
        clear hq17
        conv => arg 1; cbv
        refine sat_true (fits_l hΩ (ro_Note hE) a0_l (by first | rfl | ((try clear h); subst_vars; rfl))) ?_
        conv => arg 1; cbv
        obtain ⟨⟨x6_Kind, x6_Inst, x6_Name, x6_Late, x6_Text⟩, hx7, hz⟩ := Option.bind_eq_some_iff.1 h
        clear h
        have h := hz
        clear hz
        try dsimp only at h
        refine sat_bind (nth_ok hΩ (ro_Note hE) hx7 (by first | rfl | ((try clear h); subst_vars; rfl)) (by first | rfl | ((try clear h); subst_vars; rfl))) ?_
        conv => arg 1; cbv
        replace h := bif_cases h
        rcases h with ⟨hb8, h⟩ | ⟨hb8, h⟩
        · refine sat_brt (by first | exact hb8 | ((try clear h); subst_vars; first | exact hb8 | rfl)) ?_
          conv => arg 1; cbv
          refine sat_true (fits_l hΩ (ro_Note hE) a0_l (by first | rfl | ((try clear h); subst_vars; rfl))) ?_
          conv => arg 1; cbv
          obtain ⟨⟨x9_Kind, x9_Inst, x9_Name, x9_Late, x9_Text⟩, hx10, hz⟩ := Option.bind_eq_some_iff.1 h
          clear h
          have h := hz
          clear hz
          try dsimp only at h
          refine sat_bind (nth_ok hΩ (ro_Note hE) hx10 (by first | rfl | ((try clear h); subst_vars; rfl)) (by first | rfl | ((try clear h); subst_vars; rfl))) ?_
          conv => arg 1; cbv
          refine sat_tick hΩ ?_
          conv => arg 1; cbv
          refine sat_true (fits_l hΩ (ro_Note hE) a0_l (by first | rfl | ((try clear h); subst_vars; rfl))) ?_
          conv => arg 1; cbv
          obtain ⟨⟨x11_Kind, x11_Inst, x11_Name, x11_Late, x11_Text⟩, hx12, hz⟩ := Option.bind_eq_some_iff.1 h
          clear h
          have h := hz
          clear hz
          try dsimp only at h
          refine sat_bind (nth_ok hΩ (ro_Note hE) hx12 (by first | rfl | ((try clear h); subst_vars; rfl)) (by first | rfl | ((try clear h); subst_vars; rfl))) ?_
          conv => arg 1; cbv
          obtain ⟨r13, hx14, hz⟩ := Option.bind_eq_some_iff.1 h
          clear h
          have h := hz
          clear hz
          refine sat_call (ok70 hΩ hE hx14 (by (try clear h); subst_vars; rfl) _) ?_
          conv => arg 1; cbv
          refine sat_true (same_ok hΩ _) ?_
          conv => arg 1; cbv
          obtain rfl := Option.some.inj h
          subst_vars
          first | exact hk | (simp only [ln_set] at hk ⊢; exact hk)
        · refine sat_brf (by first | exact hb8 | ((try clear h); subst_vars; first | exact hb8 | rfl)) ?_
          conv => arg 1; cbv
          refine sat_tick hΩ ?_
          conv => arg 1; cbv
          obtain rfl := Option.some.inj h
          subst_vars
          first | exact hk | (simp only [ln_set] at hk ⊢; exact hk)
      · clear hq17
        obtain ⟨i15, hqq⟩ : ∃ x, x = q := ⟨_, rfl⟩
        subst hqq
        try dsimp only at h
        conv => arg 1; cbv
        refine sat_in hΩ ?_
        conv => arg 1; cbv
        replace h := bif_cases h
        rcases h with ⟨hb16, h⟩ | ⟨hb16, h⟩
        · refine sat_brt (by first | exact hb16 | ((try clear h); subst_vars; first | exact hb16 | rfl)) ?_
          conv => arg 1; cbv
          obtain rfl := Option.some.inj h
          subst_vars
          first | exact sat_pure (.inr ⟨rfl, rfl⟩) | (refine sat_pure (.inr ⟨rfl, ?_⟩); dsimp only; simp only [ln_set]; rfl)
        · refine sat_brf (by first | exact hb16 | ((try clear h); subst_vars; first | exact hb16 | rfl)) ?_
          conv => arg 1; cbv
          obtain rfl := Option.some.inj h
          subst_vars
          first | exact sat_pure ⟨rfl, rfl, rfl⟩ | (refine sat_pure ⟨rfl, ?_, ?_⟩ <;> first | rfl | (dsimp only; simp only [ln_set]; rfl))
    · refine sat_brf (by first | exact hb5 | ((try clear h); subst_vars; first | exact hb5 | rfl)) ?_
      conv => arg 1; cbv
      obtain rfl := Option.some.inj h
      subst_vars
      first | exact sat_pure (.inl ⟨⟨_, rfl⟩, rfl⟩) | (refine sat_pure (.inl ⟨⟨_, rfl⟩, ?_⟩); dsimp only; simp only [ln_set]; rfl)
  · clear hl18
    rcases q with ⟨o19, o20⟩ | ⟨o21, o22⟩
    · dsimp only at h
      conv => arg 1; cbv
      obtain rfl := Option.some.inj h
      subst_vars
      exact sat_pure rfl
    · dsimp only at h
      conv => arg 1; cbv
      obtain rfl := Option.some.inj h
      subst_vars
      exact sat_pure rfl
set_option maxHeartbeats 4000000 in
theorem ok59 {Ω : Om} {E : Enc} (hΩ : real (call S) = Ω) (hE : theEnc = E) {fu : Nat} {a0 : Sl Note} {a1 : Note} {r : Bool} (h : P59 fu a0 a1 = some r) {args : List PV} (ha : [PV.d (.sl (E.L_Note a0.l) (E.X_Note a0.x)), pv_Note E a1] = args) (st : St) :
    Sat (Ω.cf 59 args st) (fun q => q = (PV.d (.bool r), st)) := by
  subst ha
  rcases a0 with ⟨a0_l, a0_x⟩
  rcases a1 with ⟨a1_Kind, a1_Inst, a1_Name, a1_Late, a1_Text⟩
  rw [cf_body hΩ (f := 59) (fn := Try.f59) (x := c59) rfl rfl c59_ok rfl rfl]
  unfold P59 at h
  try dsimp only at h
  conv => arg 1; cbv
  obtain ⟨r1, hx2, hz⟩ := Option.bind_eq_some_iff.1 h
  clear h
  have h := hz
  clear hz
  refine sat_call (ok69 hΩ hE hx2 (by (try clear h); subst_vars; rfl) _) ?_
  conv => arg 1; cbv
  obtain ⟨r3, hx4, hz⟩ := Option.bind_eq_some_iff.1 h
  clear h
  have h := hz
  clear hz
  refine sat_call (ok69 hΩ hE hx4 (by (try clear h); subst_vars; rfl) _) ?_
  conv => arg 1; cbv
  obtain ⟨q, hq47, hz⟩ := Option.bind_eq_some_iff.1 h
  clear h
  have h := hz
  clear hz
  refine sat_grp hΩ ((fun (q : Unit ⊕ Bool) => (match q with | .inl _ => (.normal, [(0, PV.d (.sl (E.L_Note a0_l) (E.X_Note a0_x))), (1, PV.agg [.d (.int .u8 a1_Kind), .d (.int .i64 a1_Inst), .d (.str a1_Name), .d (.bool a1_Late), .d (.str a1_Text)]), (3, PV.ptr 0 0 0), (4, PV.d (.bool false)), (5, PV.d (.bool (Ω.ilt 0 r1))), (6, PV.d (.bool (Ω.ilt 0 r3))), (14, PV.d (.int .u8 a1_Kind))], ([X.Obj.box 70 [.d (.int .u8 a1_Kind), .d (.int .i64 a1_Inst), .d (.str a1_Name), .d (.bool a1_Late), .d (.str a1_Text)]] : List X.Obj) :: st) | .inr i46 => (.ret, [(0, PV.d (.sl (E.L_Note a0_l) (E.X_Note a0_x))), (1, PV.agg [.d (.int .u8 a1_Kind), .d (.int .i64 a1_Inst), .d (.str a1_Name), .d (.bool a1_Late), .d (.str a1_Text)]), (3, PV.ptr 0 0 0), (4, PV.d (.bool i46)), (5, PV.d (.bool (Ω.ilt 0 r1))), (6, PV.d (.bool (Ω.ilt 0 r3))), (14, PV.d (.int .u8 a1_Kind))], ([X.Obj.box 70 [.d (.int .u8 a1_Kind), .d (.int .i64 a1_Inst), .d (.str a1_Name), .d (.bool a1_Late), .d (.str a1_Text)]] : List X.Obj) :: st))) q) (fun k hk => ?_) ?_
  · clear h
    have h := hq47
    clear hq47
    conv => arg 1; cbv
    replace h := bif_cases h
    rcases h with ⟨hb5, h⟩ | ⟨hb5, h⟩
    · refine sat_brt (by first | exact hb5 | ((try clear h); subst_vars; first | exact hb5 | rfl)) ?_
      conv => arg 1; cbv
      obtain rfl := Option.some.inj h
      subst_vars
      first | exact hk | (simp only [ln_set] at hk ⊢; exact hk)
    · refine sat_brf (by first | exact hb5 | ((try clear h); subst_vars; first | exact hb5 | rfl)) ?_
      conv => arg 1; cbv
      obtain ⟨q, hq45, hz⟩ := Option.bind_eq_some_iff.1 h
      clear h
      have h := hz
      clear hz
      refine sat_grp hΩ ((fun (q : Unit ⊕ Bool) => (match q with | .inl _ => (.normal, [(0, PV.d (.sl (E.L_Note a0_l) (E.X_Note a0_x))), (1, PV.agg [.d (.int .u8 a1_Kind), .d (.int .i64 a1_Inst), .d (.str a1_Name), .d (.bool a1_Late), .d (.str a1_Text)]), (3, PV.ptr 0 0 0), (4, PV.d (.bool false)), (5, PV.d (.bool (Ω.ilt 0 r1))), (6, PV.d (.bool (Ω.ilt 0 r3))), (14, PV.d (.int .u8 a1_Kind))], ([X.Obj.box 70 [.d (.int .u8 a1_Kind), .d (.int .i64 a1_Inst), .d (.str a1_Name), .d (.bool a1_Late), .d (.str a1_Text)]] : List X.Obj) :: st) | .inr i44 => (.ret, [(0, PV.d (.sl (E.L_Note a0_l) (E.X_Note a0_x))), (1, PV.agg [.d (.int .u8 a1_Kind), .d (.int .i64 a1_Inst), .d (.str a1_Name), .d (.bool a1_Late), .d (.str a1_Text)]), (3, PV.ptr 0 0 0), (4, PV.d (.bool i44)), (5, PV.d (.bool (Ω.ilt 0 r1))), (6, PV.d (.bool (Ω.ilt 0 r3))), (14, PV.d (.int .u8 a1_Kind))], ([X.Obj.box 70 [.d (.int .u8 a1_Kind), .d (.int .i64 a1_Inst), .d (.str a1_Name), .d (.bool a1_Late), .d (.str a1_Text)]] : List X.Obj) :: st))) q) (fun k hk => ?_) ?_
      · clear h
        have h := hq45
        clear hq45
        conv => arg 1; cbv
        replace h := bif_cases h
        rcases h with ⟨hb6, h⟩ | ⟨hb6, h⟩
        · refine sat_brt (by first | exact hb6 | ((try clear h); subst_vars; first | exact hb6 | rfl)) ?_
          conv => arg 1; cbv
          obtain ⟨q, hq12, hz⟩ := Option.bind_eq_some_iff.1 h
          clear h
          have h := hz
          clear hz
          refine sat_grp hΩ ((fun (q : Bool) => (match q with | i11 => ([(0, PV.d (.sl (E.L_Note a0_l) (E.X_Note a0_x))), (1, PV.agg [.d (.int .u8 a1_Kind), .d (.int .i64 a1_Inst), .d (.str a1_Name), .d (.bool a1_Late), .d (.str a1_Text)]), (3, PV.ptr 0 0 0), (4, PV.d (.bool i11)), (5, PV.d (.bool (Ω.ilt 0 r1))), (6, PV.d (.bool (Ω.ilt 0 r3))), (14, PV.d (.int .u8 a1_Kind))], ([X.Obj.box 70 [.d (.int .u8 a1_Kind), .d (.int .i64 a1_Inst), .d (.str a1_Name), .d (.bool a1_Late), .d (.str a1_Text)]] : List X.Obj) :: st))) q) (fun k hk => ?_) ?_
          · clear h
            have h := hq12
            clear hq12
            conv => arg 1; cbv
            obtain ⟨r7, hx8, hz⟩ := Option.bind_eq_some_iff.1 h
            clear h
            have h := hz
            clear hz
            refine sat_call (ok69 hΩ hE hx8 (by (try clear h); subst_vars; rfl) _) ?_
            conv => arg 1; cbv
            replace h := bif_cases h
            rcases h with ⟨hb9, h⟩ | ⟨hb9, h⟩
            · refine sat_brt (by first | exact hb9 | ((try clear h); subst_vars; first | exact hb9 | rfl)) ?_
              conv => arg 1; cbv
              replace h := bif_cases h
              rcases h with ⟨hb10, h⟩ | ⟨hb10, h⟩
              · refine sat_brt (by first | exact hb10 | ((try clear h); subst_vars; first | exact hb10 | rfl)) ?_
                conv => arg 1; cbv
                obtain rfl := Option.some.inj h
                subst_vars
                first | exact hk | (simp only [ln_set] at hk ⊢; exact hk)
              · refine sat_brf (by first | exact hb10 | ((try clear h); subst_vars; first | exact hb10 | rfl)) ?_
                conv => arg 1; cbv
                obtain rfl := Option.some.inj h
                subst_vars
                first | exact hk | (simp only [ln_set] at hk ⊢; exact hk)
            · refine sat_brf (by first | exact hb9 | ((try clear h); subst_vars; first | exact hb9 | rfl)) ?_
              conv => arg 1; cbv
              obtain rfl := Option.some.inj h
              subst_vars
              first | exact hk | (simp only [ln_set] at hk ⊢; exact hk)
          · clear hq12
            obtain ⟨i11, hqq⟩ : ∃ x, x = q := ⟨_, rfl⟩
            subst hqq
            try dsimp only at h
            conv => arg 1; cbv
            obtain rfl := Option.some.inj h
            subst_vars
            first | exact hk | (simp only [ln_set] at hk ⊢; exact hk)
        · refine sat_brf (by first | exact hb6 | ((try clear h); subst_vars; first | exact hb6 | rfl)) ?_
          conv => arg 1; cbv
          obtain ⟨q, hq43, hz⟩ := Option.bind_eq_some_iff.1 h
          clear h
          have h := hz
          clear hz
          refine sat_grp hΩ ((fun (q : Unit ⊕ Bool) => (match q with | .inl _ => (.normal, [(0, PV.d (.sl (E.L_Note a0_l) (E.X_Note a0_x))), (1, PV.agg [.d (.int .u8 a1_Kind), .d (.int .i64 a1_Inst), .d (.str a1_Name), .d (.bool a1_Late), .d (.str a1_Text)]), (3, PV.ptr 0 0 0), (4, PV.d (.bool false)), (5, PV.d (.bool (Ω.ilt 0 r1))), (6, PV.d (.bool (Ω.ilt 0 r3))), (14, PV.d (.int .u8 a1_Kind))], ([X.Obj.box 70 [.d (.int .u8 a1_Kind), .d (.int .i64 a1_Inst), .d (.str a1_Name), .d (.bool a1_Late), .d (.str a1_Text)]] : List X.Obj) :: st) | .inr i42 => (.ret, [(0, PV.d (.sl (E.L_Note a0_l) (E.X_Note a0_x))), (1, PV.agg [.d (.int .u8 a1_Kind), .d (.int .i64 a1_Inst), .d (.str a1_Name), .d (.bool a1_Late), .d (.str a1_Text)]), (3, PV.ptr 0 0 0), (4, PV.d (.bool i42)), (5, PV.d (.bool (Ω.ilt 0 r1))), (6, PV.d (.bool (Ω.ilt 0 r3))), (14, PV.d (.int .u8 a1_Kind))], ([X.Obj.box 70 [.d (.int .u8 a1_Kind), .d (.int .i64 a1_Inst), .d (.str a1_Name), .d (.bool a1_Late), .d (.str a1_Text)]] : List X.Obj) :: st))) q) (fun k hk => ?_) ?_
          · clear h
            have h := hq43
            clear hq43
            conv => arg 1; cbv
            replace h := bif_cases h
            rcases h with ⟨hb13, h⟩ | ⟨hb13, h⟩
            · refine sat_brt (by first | exact hb13 | ((try clear h); subst_vars; first | exact hb13 | rfl)) ?_
              conv => arg 1; cbv
              obtain ⟨q, hq16, hz⟩ := Option.bind_eq_some_iff.1 h
              clear h
              have h := hz
              clear hz
              refine sat_grp hΩ ((fun (q : Bool) => (match q with | i15 => ([(0, PV.d (.sl (E.L_Note a0_l) (E.X_Note a0_x))), (1, PV.agg [.d (.int .u8 a1_Kind), .d (.int .i64 a1_Inst), .d (.str a1_Name), .d (.bool a1_Late), .d (.str a1_Text)]), (3, PV.ptr 0 0 0), (4, PV.d (.bool i15)), (5, PV.d (.bool (Ω.ilt 0 r1))), (6, PV.d (.bool (Ω.ilt 0 r3))), (14, PV.d (.int .u8 a1_Kind))], ([X.Obj.box 70 [.d (.int .u8 a1_Kind), .d (.int .i64 a1_Inst), .d (.str a1_Name), .d (.bool a1_Late), .d (.str a1_Text)]] : List X.Obj) :: st))) q) (fun k hk => ?_) ?_
              · clear h
                have h := hq16
                clear hq16
                conv => arg 1; cbv
                replace h := bif_cases h
                rcases h with ⟨hb14, h⟩ | ⟨hb14, h⟩
                · refine sat_brt (by first | exact hb14 | ((try clear h); subst_vars; first | exact hb14 | rfl)) ?_
                  conv => arg 1; cbv
                  obtain rfl := Option.some.inj h
                  subst_vars
                  first | exact hk | (simp only [ln_set] at hk ⊢; exact hk)
                · refine sat_brf (by first | exact hb14 | ((try clear h); subst_vars; first | exact hb14 | rfl)) ?_
                  conv => arg 1; cbv
                  obtain rfl := Option.some.inj h
                  subst_vars
                  first | exact hk | (simp only [ln_set] at hk ⊢; exact hk)
              · clear hq16
                obtain ⟨i15, hqq⟩ : ∃ x, x = q := ⟨_, rfl⟩
                subst hqq
                try dsimp only at h
                conv => arg 1; cbv
                obtain rfl := Option.some.inj h
                subst_vars
                first | exact hk | (simp only [ln_set] at hk ⊢; exact hk)
            · refine sat_brf (by first | exact hb13 | ((try clear h); subst_vars; first | exact hb13 | rfl)) ?_
              conv => arg 1; cbv
              obtain ⟨q, hq41, hz⟩ := Option.bind_eq_some_iff.1 h
              clear h
              have h := hz
              clear hz
              refine sat_grp hΩ ((fun (q : Unit ⊕ Bool) => (match q with | .inl _ => (.normal, [(0, PV.d (.sl (E.L_Note a0_l) (E.X_Note a0_x))), (1, PV.agg [.d (.int .u8 a1_Kind), .d (.int .i64 a1_Inst), .d (.str a1_Name), .d (.bool a1_Late), .d (.str a1_Text)]), (3, PV.ptr 0 0 0), (4, PV.d (.bool false)), (5, PV.d (.bool (Ω.ilt 0 r1))), (6, PV.d (.bool (Ω.ilt 0 r3))), (14, PV.d (.int .u8 a1_Kind))], ([X.Obj.box 70 [.d (.int .u8 a1_Kind), .d (.int .i64 a1_Inst), .d (.str a1_Name), .d (.bool a1_Late), .d (.str a1_Text)]] : List X.Obj) :: st) | .inr i40 => (.ret, [(0, PV.d (.sl (E.L_Note a0_l) (E.X_Note a0_x))), (1, PV.agg [.d (.int .u8 a1_Kind), .d (.int .i64 a1_Inst), .d (.str a1_Name), .d (.bool a1_Late), .d (.str a1_Text)]), (3, PV.ptr 0 0 0), (4, PV.d (.bool i40)), (5, PV.d (.bool (Ω.ilt 0 r1))), (6, PV.d (.bool (Ω.ilt 0 r3))), (14, PV.d (.int .u8 a1_Kind))], ([X.Obj.box 70 [.d (.int .u8 a1_Kind), .d (.int .i64 a1_Inst), .d (.str a1_Name), .d (.bool a1_Late), .d (.str a1_Text)]] : List X.Obj) :: st))) q) (fun k hk => ?_) ?_
              · clear h
                have h := hq41
                clear hq41
                conv => arg 1; cbv
                replace h := bif_cases h
                rcases h with ⟨hb17, h⟩ | ⟨hb17, h⟩
                · refine sat_brt (by first | exact hb17 | ((try clear h); subst_vars; first | exact hb17 | rfl)) ?_
                  conv => arg 1; cbv
                  obtain ⟨q, hq23, hz⟩ := Option.bind_eq_some_iff.1 h
                  clear h
                  have h := hz
                  clear hz
                  refine sat_grp hΩ ((fun (q : Bool) => (match q with | i22 => ([(0, PV.d (.sl (E.L_Note a0_l) (E.X_Note a0_x))), (1, PV.agg [.d (.int .u8 a1_Kind), .d (.int .i64 a1_Inst), .d (.str a1_Name), .d (.bool a1_Late), .d (.str a1_Text)]), (3, PV.ptr 0 0 0), (4, PV.d (.bool i22)), (5, PV.d (.bool (Ω.ilt 0 r1))), (6, PV.d (.bool (Ω.ilt 0 r3))), (14, PV.d (.int .u8 a1_Kind))], ([X.Obj.box 70 [.d (.int .u8 a1_Kind), .d (.int .i64 a1_Inst), .d (.str a1_Name), .d (.bool a1_Late), .d (.str a1_Text)]] : List X.Obj) :: st))) q) (fun k hk => ?_) ?_
                  · clear h
                    have h := hq23
                    clear hq23
                    conv => arg 1; cbv
                    replace h := bif_cases h
                    rcases h with ⟨hb18, h⟩ | ⟨hb18, h⟩
                    · refine sat_brt (by first | exact hb18 | ((try clear h); subst_vars; first | exact hb18 | rfl)) ?_
                      conv => arg 1; cbv
                      replace h := bif_cases h
                      rcases h with ⟨hb19, h⟩ | ⟨hb19, h⟩
                      · refine sat_brt (by first | exact hb19 | ((try clear h); subst_vars; first | exact hb19 | rfl)) ?_
                        conv => arg 1; cbv
                        obtain ⟨r20, hx21, hz⟩ := Option.bind_eq_some_iff.1 h
                        clear h
                        have h := hz
                        clear hz
                        refine sat_call (ok70 hΩ hE hx21 (by (try clear h); subst_vars; rfl) _) ?_
                        conv => arg 1; cbv
                        refine sat_tick hΩ ?_
                        conv => arg 1; cbv
                        obtain rfl := Option.some.inj h
                        subst_vars
                        first | exact hk | (simp only [ln_set] at hk ⊢; exact hk)
                      · refine sat_brf (by first | exact hb19 | ((try clear h); subst_vars; first | exact hb19 | rfl)) ?_
                        conv => arg 1; cbv
                        refine sat_tick hΩ ?_
                        conv => arg 1; cbv
                        obtain rfl := Option.some.inj h
                        subst_vars
                        first | exact hk | (simp only [ln_set] at hk ⊢; exact hk)
                    · refine sat_brf (by first | exact hb18 | ((try clear h); subst_vars; first | exact hb18 | rfl)) ?_
                      conv => arg 1; cbv
                      refine sat_tick hΩ ?_
                      conv => arg 1; cbv
                      obtain rfl := Option.some.inj h
                      subst_vars
                      first | exact hk | (simp only [ln_set] at hk ⊢; exact hk)
                  · clear hq23
                    obtain ⟨i22, hqq⟩ : ∃ x, x = q := ⟨_, rfl⟩
                    subst hqq
                    try dsimp only at h
                    conv => arg 1; cbv
                    obtain rfl := Option.some.inj h
                    subst_vars
                    first | exact hk | (simp only [ln_set] at hk ⊢; exact hk)
                · refine sat_brf (by first | exact hb17 | ((try clear h); subst_vars; first | exact hb17 | rfl)) ?_
                  conv => arg 1; cbv
                  obtain ⟨q, hq39, hz⟩ := Option.bind_eq_some_iff.1 h
                  clear h
                  have h := hz
                  clear hz
                  refine sat_grp hΩ ((fun (q : Unit ⊕ Bool) => (match q with | .inl _ => (.normal, [(0, PV.d (.sl (E.L_Note a0_l) (E.X_Note a0_x))), (1, PV.agg [.d (.int .u8 a1_Kind), .d (.int .i64 a1_Inst), .d (.str a1_Name), .d (.bool a1_Late), .d (.str a1_Text)]), (3, PV.ptr 0 0 0), (4, PV.d (.bool false)), (5, PV.d (.bool (Ω.ilt 0 r1))), (6, PV.d (.bool (Ω.ilt 0 r3))), (14, PV.d (.int .u8 a1_Kind))], ([X.Obj.box 70 [.d (.int .u8 a1_Kind), .d (.int .i64 a1_Inst), .d (.str a1_Name), .d (.bool a1_Late), .d (.str a1_Text)]] : List X.Obj) :: st) | .inr i38 => (.ret, [(0, PV.d (.sl (E.L_Note a0_l) (E.X_Note a0_x))), (1, PV.agg [.d (.int .u8 a1_Kind), .d (.int .i64 a1_Inst), .d (.str a1_Name), .d (.bool a1_Late), .d (.str a1_Text)]), (3, PV.ptr 0 0 0), (4, PV.d (.bool i38)), (5, PV.d (.bool (Ω.ilt 0 r1))), (6, PV.d (.bool (Ω.ilt 0 r3))), (14, PV.d (.int .u8 a1_Kind))], ([X.Obj.box 70 [.d (.int .u8 a1_Kind), .d (.int .i64 a1_Inst), .d (.str a1_Name), .d (.bool a1_Late), .d (.str a1_Text)]] : List X.Obj) :: st))) q) (fun k hk => ?_) ?_
                  · clear h
                    have h := hq39
                    clear hq39
                    conv => arg 1; cbv
                    replace h := bif_cases h
                    rcases h with ⟨hb24, h⟩ | ⟨hb24, h⟩
                    · refine sat_brt (by first | exact hb24 | ((try clear h); subst_vars; first | exact hb24 | rfl)) ?_
                      conv => arg 1; cbv
                      obtain ⟨q, hq30, hz⟩ := Option.bind_eq_some_iff.1 h
                      clear h
                      have h := hz
                      clear hz
                      refine sat_grp hΩ ((fun (q : Bool) => (match q with | i29 => ([(0, PV.d (.sl (E.L_Note a0_l) (E.X_Note a0_x))), (1, PV.agg [.d (.int .u8 a1_Kind), .d (.int .i64 a1_Inst), .d (.str a1_Name), .d (.bool a1_Late), .d (.str a1_Text)]), (3, PV.ptr 0 0 0), (4, PV.d (.bool i29)), (5, PV.d (.bool (Ω.ilt 0 r1))), (6, PV.d (.bool (Ω.ilt 0 r3))), (14, PV.d (.int .u8 a1_Kind))], ([X.Obj.box 70 [.d (.int .u8 a1_Kind), .d (.int .i64 a1_Inst), .d (.str a1_Name), .d (.bool a1_Late), .d (.str a1_Text)]] : List X.Obj) :: st))) q) (fun k hk => ?_) ?_
                      · clear h
                        have h := hq30
                        clear hq30
                        conv => arg 1; cbv
                        replace h := bif_cases h
                        rcases h with ⟨hb25, h⟩ | ⟨hb25, h⟩
                        · refine sat_brt (by first | exact hb25 | ((try clear h); subst_vars; first | exact hb25 | rfl)) ?_
                          conv => arg 1; cbv
                          replace h := bif_cases h
                          rcases h with ⟨hb26, h⟩ | ⟨hb26, h⟩
                          · refine sat_brt (by first | exact hb26 | ((try clear h); subst_vars; first | exact hb26 | rfl)) ?_
                            conv => arg 1; cbv
                            obtain ⟨r27, hx28, hz⟩ := Option.bind_eq_some_iff.1 h
                            clear h
                            have h := hz
                            clear hz
                            refine sat_call (ok70 hΩ hE hx28 (by (try clear h); subst_vars; rfl) _) ?_
                            conv => arg 1; cbv
                            refine sat_tick hΩ ?_
                            conv => arg 1; cbv
                            obtain rfl := Option.some.inj h
                            subst_vars
                            first | exact hk | (simp only [ln_set] at hk ⊢; exact hk)
                          · refine sat_brf (by first | exact hb26 | ((try clear h); subst_vars; first | exact hb26 | rfl)) ?_
                            conv => arg 1; cbv
                            refine sat_tick hΩ ?_
                            conv => arg 1; cbv
                            obtain rfl := Option.some.inj h
                            subst_vars
                            first | exact hk | (simp only [ln_set] at hk ⊢; exact hk)
                        · refine sat_brf (by first | exact hb25 | ((try clear h); subst_vars; first | exact hb25 | rfl)) ?_
                          conv => arg 1; cbv
                          refine sat_tick hΩ ?_
                          conv => arg 1; cbv
                          obtain rfl := Option.some.inj h
                          subst_vars
                          first | exact hk | (simp only [ln_set] at hk ⊢; exact hk)
                      · clear hq30
                        obtain ⟨i29, hqq⟩ : ∃ x, x = q := ⟨_, rfl⟩
                        subst hqq
                        try dsimp only at h
                        conv => arg 1; cbv
                        obtain rfl := Option.some.inj h
                        subst_vars
                        first | exact hk | (simp only [ln_set] at hk ⊢; exact hk)
                    · refine sat_brf (by first | exact hb24 | ((try clear h); subst_vars; first | exact hb24 | rfl)) ?_
                      conv => arg 1; cbv
                      refine sat_in hΩ ?_
                      conv => arg 1; cbv
                      replace h := bif_cases h
                      rcases h with ⟨hb31, h⟩ | ⟨hb31, h⟩
                      · refine sat_brt (by first | exact hb31 | ((try clear h); subst_vars; first | exact hb31 | rfl)) ?_
                        conv => arg 1; cbv
                        obtain ⟨q, hq37, hz⟩ := Option.bind_eq_some_iff.1 h
                        clear h
                        have h := hz
                        clear hz
                        refine sat_grp hΩ ((fun (q : Bool) => (match q with | i36 => ([(0, PV.d (.sl (E.L_Note a0_l) (E.X_Note a0_x))), (1, PV.agg [.d (.int .u8 a1_Kind), .d (.int .i64 a1_Inst), .d (.str a1_Name), .d (.bool a1_Late), .d (.str a1_Text)]), (3, PV.ptr 0 0 0), (4, PV.d (.bool i36)), (5, PV.d (.bool (Ω.ilt 0 r1))), (6, PV.d (.bool (Ω.ilt 0 r3))), (14, PV.d (.int .u8 a1_Kind))], ([X.Obj.box 70 [.d (.int .u8 a1_Kind), .d (.int .i64 a1_Inst), .d (.str a1_Name), .d (.bool a1_Late), .d (.str a1_Text)]] : List X.Obj) :: st))) q) (fun k hk => ?_) ?_
                        · clear h
                          have h := hq37
                          clear hq37
                          conv => arg 1; cbv
                          replace h := bif_cases h
                          rcases h with ⟨hb32, h⟩ | ⟨hb32, h⟩
                          · refine sat_brt (by first | exact hb32 | ((try clear h); subst_vars; first | exact hb32 | rfl)) ?_
                            conv => arg 1; cbv
                            replace h := bif_cases h
                            rcases h with ⟨hb33, h⟩ | ⟨hb33, h⟩
                            · refine sat_brt (by first | exact hb33 | ((try clear h); subst_vars; first | exact hb33 | rfl)) ?_
                              conv => arg 1; cbv
                              obtain ⟨r34, hx35, hz⟩ := Option.bind_eq_some_iff.1 h
                              clear h
                              have h := hz
                              clear hz
                              refine sat_call (ok71 hΩ hE hx35 (by (try clear h); subst_vars; rfl) _) ?_
                              conv => arg 1; cbv
                              obtain rfl := Option.some.inj h
                              subst_vars
                              first | exact hk | (simp only [ln_set] at hk ⊢; exact hk)
                            · refine sat_brf (by first | exact hb33 | ((try clear h); subst_vars; first | exact hb33 | rfl)) ?_
                              conv => arg 1; cbv
                              obtain rfl := Option.some.inj h
                              subst_vars
                              first | exact hk | (simp only [ln_set] at hk ⊢; exact hk)
                          · refine sat_brf (by first | exact hb32 | ((try clear h); subst_vars; first | exact hb32 | rfl)) ?_
                            conv => arg 1; cbv
                            obtain rfl := Option.some.inj h
                            subst_vars
                            first | exact hk | (simp only [ln_set] at hk ⊢; exact hk)
                        · clear hq37
                          obtain ⟨i36, hqq⟩ : ∃ x, x = q := ⟨_, rfl⟩
                          subst hqq
                          try dsimp only at h
                          conv => arg 1; cbv
                          obtain rfl := Option.some.inj h
                          subst_vars
                          first | exact hk | (simp only [ln_set] at hk ⊢; exact hk)
                      · refine sat_brf (by first | exact hb31 | ((try clear h); subst_vars; first | exact hb31 | rfl)) ?_
                        conv => arg 1; cbv
                        obtain rfl := Option.some.inj h
                        subst_vars
                        first | exact hk | (simp only [ln_set] at hk ⊢; exact hk)
                  · clear hq39
                    rcases q with _ | i38
                    · try dsimp only at h
                      conv => arg 1; cbv
                      obtain rfl := Option.some.inj h
                      subst_vars
                      first | exact hk | (simp only [ln_set] at hk ⊢; exact hk)
                    · try dsimp only at h
                      conv => arg 1; cbv
                      obtain rfl := Option.some.inj h
                      subst_vars
                      first | exact hk | (simp only [ln_set] at hk ⊢; exact hk)
              · clear hq41
                rcases q with _ | i40
                · try dsimp only at h
                  conv => arg 1; cbv
                  obtain rfl := Option.some.inj h
                  subst_vars
                  first | exact hk | (simp only [ln_set] at hk ⊢; exact hk)
                · try dsimp only at h
                  conv => arg 1; cbv
                  obtain rfl := Option.some.inj h
                  subst_vars
                  first | exact hk | (simp only [ln_set] at hk ⊢; exact hk)
          · clear hq43
            rcases q with _ | i42
            · try dsimp only at h
              conv => arg 1; cbv
              obtain rfl := Option.some.inj h
              subst_vars
              first | exact hk | (simp only [ln_set] at hk ⊢; exact hk)
            · try dsimp only at h
              conv => arg 1; cbv
              obtain rfl := Option.some.inj h
              subst_vars
              first | exact hk | (simp only [ln_set] at hk ⊢; exact hk)
      · clear hq45
        rcases q with _ | i44
        · try dsimp only at h
          conv => arg 1; cbv
          obtain rfl := Option.some.inj h
          subst_vars
          first | exact hk | (simp only [ln_set] at hk ⊢; exact hk)
        · try dsimp only at h
          conv => arg 1; cbv
          obtain rfl := Option.some.inj h
          subst_vars
          first | exact hk | (simp only [ln_set] at hk ⊢; exact hk)
  · clear hq47
    rcases q with _ | i46
    · try dsimp only at h
      conv => arg 1; cbv
      obtain rfl := Option.some.inj h
      subst_vars
      exact sat_pure rfl
    · try dsimp only at h
      conv => arg 1; cbv
      obtain rfl := Option.some.inj h
      subst_vars
      exact sat_pure rfl
set_option maxHeartbeats 4000000 in
theorem ok36 {Ω : Om} {E : Enc} (hΩ : real (call S) = Ω) (hE : theEnc = E) {fu : Nat} {a0 : Sl Note} {r : Int × Int} (h : P36 fu a0 = some r) {args : List PV} (ha : [PV.d (.sl (E.L_Note a0.l) (E.X_Note a0.x))] = args) (st : St) :
    Sat (Ω.cf 36 args st) (fun q => q = (PV.tup [PV.d (.int .i64 r.1), PV.d (.int .i64 r.2)], st)) := by
  subst ha
  rcases a0 with ⟨a0_l, _ | a0_h⟩
  · rw [cf_body hΩ (f := 36) (fn := Try.f36) (x := c36) rfl rfl c36_ok rfl rfl]
    unfold P36 at h
    try dsimp only at h
    dsimp only []
    rw [show E.X_Note none = none from by rw [(ro_Note hE).2.1]; rfl]
    conv => arg 1; cbv
    obtain ⟨q, hl23, hz⟩ := Option.bind_eq_some_iff.1 h
    clear h
    have h := hz
    clear hz
    refine sat_loop hΩ (fun (a : Int × Int × Int) => (match a with | (i1, i2, i3) => ([(0, PV.d (.sl (E.L_Note a0_l) none)), (2, PV.d (.int .i64 i1)), (3, PV.d (.int .i64 i2)), (4, PV.d (.int .i64 i3))], ([] : List X.Obj) :: st))) (fun (q : (Int × Int × Int) ⊕ (Int × Int × Int)) => (match q with | .inl (o24, o25, o26) => (.exit 0, [(0, PV.d (.sl (E.L_Note a0_l) none)), (2, PV.d (.int .i64 o24)), (3, PV.d (.int .i64 o25)), (4, PV.d (.int .i64 o26))], ([] : List X.Obj) :: st) | .inr (o29, o30, o31) => (.ret, [(0, PV.d (.sl (E.L_Note a0_l) none)), (2, PV.d (.int .i64 o29)), (3, PV.d (.int .i64 o30)), (4, PV.d (.int .i64 o31))], ([] : List X.Obj) :: st))) (0, 0, 0) hl23 (by first | rfl | ((try clear h); subst_vars; rfl) | ((try clear h); subst_vars; simp only [ln_set])) ?_ ?_
    · clear h hl23
      rintro ⟨i1, i2, i3⟩ q h
      unfold P36_s0 at h
      dsimp only at h
      conv => arg 1; cbv
      refine sat_len hΩ (ro_Note hE) a0_l (by first | rfl | ((try clear h); subst_vars; rfl)) fun n4 hn5 => ?_
      conv => arg 1; cbv
      refine sat_in hΩ ?_
      conv => arg 1; cbv
      replace h := bif_cases h
      rcases h with ⟨hb6, h⟩ | ⟨hb6, h⟩
      · refine sat_brt (by first | exact hb6 | ((try clear h); subst_vars; first | exact hb6 | rfl)) ?_
        conv => arg 1; cbv
        refine sat_true (fits_x hΩ (ro_Note hE) a0_l none (by first | rfl | ((try clear h); subst_vars; rfl)) (by first | rfl | ((try clear h); subst_vars; rfl))) ?_
        conv => arg 1; cbv
        refine sat_len hΩ (ro_Note hE) a0_l (by first | rfl | ((try clear h); subst_vars; rfl)) fun n7 hn8 => ?_
        conv => arg 1; cbv
        replace h := bif_some h
        obtain ⟨hb9, h⟩ := h
        refine sat_true (by first | exact hb9 | ((try clear h); subst_vars; first | exact hb9 | rfl)) ?_
        conv => arg 1; cbv
        replace h := bif_some h
        obtain ⟨hb10, h⟩ := h
        refine sat_true (by first | exact hb10 | ((try clear h); subst_vars; first | exact hb10 | rfl)) ?_
        conv => arg 1; cbv
        replace h := bif_some h
        obtain ⟨hb11, h⟩ := h
        refine sat_true (by first | exact hb11 | ((try clear h); subst_vars; first | exact hb11 | rfl)) ?_
        conv => arg 1; cbv
        refine sat_cut hΩ (ro_Note hE) a0_l 0 i3 (by first | rfl | ((try clear h); subst_vars; rfl)) (by first | rfl | ((try clear h); subst_vars; rfl)) (by first | rfl | ((try clear h); subst_vars; rfl)) fun l12 hl13 => ?_
        conv => arg 1; cbv
        refine sat_true (fits_l hΩ (ro_Note hE) a0_l (by first | rfl | ((try clear h); subst_vars; rfl))) ?_
        conv => arg 1; cbv
        obtain ⟨⟨x14_Kind, x14_Inst, x14_Name, x14_Late, x14_Text⟩, hx15, hz⟩ := Option.bind_eq_some_iff.1 h
        clear h
        have h := hz
        clear hz
        try dsimp only at h
        refine sat_bind (nth_ok hΩ (ro_Note hE) hx15 (by first | rfl | ((try clear h); subst_vars; rfl)) (by first | rfl | ((try clear h); subst_vars; rfl))) ?_
        conv => arg 1; cbv
        obtain ⟨⟨r16_l, r16_x⟩, hx17, hz⟩ := Option.bind_eq_some_iff.1 h
        clear h
        have h := hz
        clear hz
        try dsimp only at h
        refine sat_call (ok60 hΩ hE hx17 (by (try clear h); subst_vars; rfl) _) ?_
        conv => arg 1; cbv
        refine sat_true (same_ok hΩ _) ?_
        conv => arg 1; cbv
        refine sat_true (fits_l hΩ (ro_Note hE) a0_l (by first | rfl | ((try clear h); subst_vars; rfl))) ?_
        conv => arg 1; cbv
        obtain ⟨⟨x18_Kind, x18_Inst, x18_Name, x18_Late, x18_Text⟩, hx19, hz⟩ := Option.bind_eq_some_iff.1 h
        clear h
        have h := hz
        clear hz
        try dsimp only at h
        refine sat_bind (nth_ok hΩ (ro_Note hE) hx19 (by first | rfl | ((try clear h); subst_vars; rfl)) (by first | rfl | ((try clear h); subst_vars; rfl))) ?_
        conv => arg 1; cbv
        refine sat_tick hΩ ?_
        conv => arg 1; cbv
        obtain ⟨r20, hx21, hz⟩ := Option.bind_eq_some_iff.1 h
        clear h
        have h := hz
        clear hz
        refine sat_call (ok59 hΩ hE hx21 (by (try clear h); subst_vars; rfl) _) ?_
        conv => arg 1; cbv
        refine sat_true (same_ok hΩ _) ?_
        conv => arg 1; cbv
        refine sat_in hΩ ?_
        conv => arg 1; cbv
        replace h := bif_cases h
        rcases h with ⟨hb22, h⟩ | ⟨hb22, h⟩
        · refine sat_brt (by first | exact hb22 | ((try clear h); subst_vars; first | exact hb22 | rfl)) ?_
          conv => arg 1; cbv
          obtain rfl := Option.some.inj h
          subst_vars
          first | exact sat_pure (.inr ⟨rfl, rfl⟩) | (refine sat_pure (.inr ⟨rfl, ?_⟩); dsimp only; simp only [ln_set]; rfl)
        · refine sat_brf (by first | exact hb22 | ((try clear h); subst_vars; first | exact hb22 | rfl)) ?_
          conv => arg 1; cbv
          obtain rfl := Option.some.inj h
          subst_vars
          first | exact sat_pure ⟨rfl, rfl, rfl⟩ | (refine sat_pure ⟨rfl, ?_, ?_⟩ <;> first | rfl | (dsimp only; simp only [ln_set]; rfl))
      · refine sat_brf (by first | exact hb6 | ((try clear h); subst_vars; first | exact hb6 | rfl)) ?_
        conv => arg 1; cbv
        obtain rfl := Option.some.inj h
        subst_vars
        first | exact sat_pure (.inl ⟨⟨_, rfl⟩, rfl⟩) | (refine sat_pure (.inl ⟨⟨_, rfl⟩, ?_⟩); dsimp only; simp only [ln_set]; rfl)
    · clear hl23
      rcases q with ⟨o24, o25, o26⟩ | ⟨o29, o30, o31⟩
      · dsimp only at h
        conv => arg 1; cbv
        refine sat_len hΩ (ro_Note hE) a0_l (by first | rfl | ((try clear h); subst_vars; rfl)) fun n27 hn28 => ?_
        conv => arg 1; cbv
        obtain rfl := Option.some.inj h
        subst_vars
        exact sat_pure rfl
      · dsimp only at h
        conv => arg 1; cbv
        obtain rfl := Option.some.inj h
        subst_vars
        exact sat_pure rfl
  · rw [cf_body hΩ (f := 36) (fn := Try.f36) (x := c36) rfl rfl c36_ok rfl rfl]
    unfold P36 at h
    try dsimp only at h
    dsimp only []
    rw [show E.X_Note (some a0_h) = some (E.L_Note a0_h) from by rw [(ro_Note hE).2.1]; rfl]
    conv => arg 1; cbv
    obtain ⟨q, hl60, hz⟩ := Option.bind_eq_some_iff.1 h
    clear h
    have h := hz
    clear hz
    refine sat_loop hΩ (fun (a : Int × Int × Int) => (match a with | (i32, i33, i34) => ([(0, PV.d (.sl (E.L_Note a0_l) (some (E.L_Note a0_h)))), (2, PV.d (.int .i64 i32)), (3, PV.d (.int .i64 i33)), (4, PV.d (.int .i64 i34))], ([] : List X.Obj) :: st))) (fun (q : (Int × Int × Int) ⊕ (Int × Int × Int)) => (match q with | .inl (o61, o62, o63) => (.exit 0, [(0, PV.d (.sl (E.L_Note a0_l) (some (E.L_Note a0_h)))), (2, PV.d (.int .i64 o61)), (3, PV.d (.int .i64 o62)), (4, PV.d (.int .i64 o63))], ([] : List X.Obj) :: st) | .inr (o66, o67, o68) => (.ret, [(0, PV.d (.sl (E.L_Note a0_l) (some (E.L_Note a0_h)))), (2, PV.d (.int .i64 o66)), (3, PV.d (.int .i64 o67)), (4, PV.d (.int .i64 o68))], ([] : List X.Obj) :: st))) (0, 0, 0) hl60 (by first | rfl | ((try clear h); subst_vars; rfl) | ((try clear h); subst_vars; simp only [ln_set])) ?_ ?_
    · clear h hl60
      rintro ⟨i32, i33, i34⟩ q h
      unfold P36_s1 at h
      dsimp only at h
      conv => arg 1; cbv
      refine sat_len hΩ (ro_Note hE) a0_l (by first | rfl | ((try clear h); subst_vars; rfl)) fun n35 hn36 => ?_
      conv => arg 1; cbv
      refine sat_in hΩ ?_
      conv => arg 1; cbv
      replace h := bif_cases h
      rcases h with ⟨hb37, h⟩ | ⟨hb37, h⟩
      · refine sat_brt (by first | exact hb37 | ((try clear h); subst_vars; first | exact hb37 | rfl)) ?_
        conv => arg 1; cbv
        refine sat_true (fits_x hΩ (ro_Note hE) a0_l (some a0_h) (by first | rfl | ((try clear h); subst_vars; rfl)) (by first | rfl | ((try clear h); subst_vars; rfl))) ?_
        conv => arg 1; cbv
        refine sat_len hΩ (ro_Note hE) a0_l (by first | rfl | ((try clear h); subst_vars; rfl)) fun n38 hn39 => ?_
        conv => arg 1; cbv
        refine sat_cat hΩ (ro_Note hE) a0_l a0_h (by first | rfl | ((try clear h); subst_vars; rfl)) (by first | rfl | ((try clear h); subst_vars; rfl)) fun l40 hl41 n42 hn43 => ?_
        conv => arg 1; cbv
        replace h := bif_some h
        obtain ⟨hb44, h⟩ := h
        refine sat_true (by first | exact hb44 | ((try clear h); subst_vars; first | exact hb44 | rfl)) ?_
        conv => arg 1; cbv
        replace h := bif_some h
        obtain ⟨hb45, h⟩ := h
        refine sat_true (by first | exact hb45 | ((try clear h); subst_vars; first | exact hb45 | rfl)) ?_
        conv => arg 1; cbv
        replace h := bif_some h
        obtain ⟨hb46, h⟩ := h
        refine sat_true (by first | exact hb46 | ((try clear h); subst_vars; first | exact hb46 | rfl)) ?_
        conv => arg 1; cbv
        refine sat_cut hΩ (ro_Note hE) (a0_l ++ a0_h) 0 i34 (by first | rfl | ((try clear h); subst_vars; rfl)) (by first | rfl | ((try clear h); subst_vars; rfl)) (by first | rfl | ((try clear h); subst_vars; rfl)) fun l47 hl48 => ?_
        conv => arg 1; cbv
        refine sat_cut hΩ (ro_Note hE) (a0_l ++ a0_h) i34 (ln (a0_l ++ a0_h)) (by first | rfl | ((try clear h); subst_vars; rfl)) (by first | rfl | ((try clear h); subst_vars; rfl)) (by first | rfl | ((try clear h); subst_vars; rfl)) fun l49 hl50 => ?_
        conv => arg 1; cbv
        refine sat_true (fits_l hΩ (ro_Note hE) a0_l (by first | rfl | ((try clear h); subst_vars; rfl))) ?_
        conv => arg 1; cbv
        obtain ⟨⟨x51_Kind, x51_Inst, x51_Name, x51_Late, x51_Text⟩, hx52, hz⟩ := Option.bind_eq_some_iff.1 h
        clear h
        have h := hz
        clear hz
        try dsimp only at h
        refine sat_bind (nth_ok hΩ (ro_Note hE) hx52 (by first | rfl | ((try clear h); subst_vars; rfl)) (by first | rfl | ((try clear h); subst_vars; rfl))) ?_
        conv => arg 1; cbv
        obtain ⟨⟨r53_l, r53_x⟩, hx54, hz⟩ := Option.bind_eq_some_iff.1 h
        clear h
        have h := hz
        clear hz
        try dsimp only at h
        refine sat_call (ok60 hΩ hE hx54 (by (try clear h); subst_vars; rfl) _) ?_
        conv => arg 1; cbv
        refine sat_true (same_ok hΩ _) ?_
        conv => arg 1; cbv
        refine sat_true (fits_l hΩ (ro_Note hE) a0_l (by first | rfl | ((try clear h); subst_vars; rfl))) ?_
        conv => arg 1; cbv
        obtain ⟨⟨x55_Kind, x55_Inst, x55_Name, x55_Late, x55_Text⟩, hx56, hz⟩ := Option.bind_eq_some_iff.1 h
        clear h
        have h := hz
        clear hz
        try dsimp only at h
        refine sat_bind (nth_ok hΩ (ro_Note hE) hx56 (by first | rfl | ((try clear h); subst_vars; rfl)) (by first | rfl | ((try clear h); subst_vars; rfl))) ?_
        conv => arg 1; cbv
        refine sat_tick hΩ ?_
        conv => arg 1; cbv
        obtain ⟨r57, hx58, hz⟩ := Option.bind_eq_some_iff.1 h
        clear h
        have h := hz
        clear hz
        refine sat_call (ok59 hΩ hE hx58 (by (try clear h); subst_vars; rfl) _) ?_
        conv => arg 1; cbv
        refine sat_true (same_ok hΩ _) ?_
        conv => arg 1; cbv
        refine sat_in hΩ ?_
        conv => arg 1; cbv
        replace h := bif_cases h
        rcases h with ⟨hb59, h⟩ | ⟨hb59, h⟩
        · refine sat_brt (by first | exact hb59 | ((try clear h); subst_vars; first | exact hb59 | rfl)) ?_
          conv => arg 1; cbv
          obtain rfl := Option.some.inj h
          subst_vars
          first | exact sat_pure (.inr ⟨rfl, rfl⟩) | (refine sat_pure (.inr ⟨rfl, ?_⟩); dsimp only; simp only [ln_set]; rfl)
        · refine sat_brf (by first | exact hb59 | ((try clear h); subst_vars; first | exact hb59 | rfl)) ?_
          conv => arg 1; cbv
          obtain rfl := Option.some.inj h
          subst_vars
          first | exact sat_pure ⟨rfl, rfl, rfl⟩ | (refine sat_pure ⟨rfl, ?_, ?_⟩ <;> first | rfl | (dsimp only; simp only [ln_set]; rfl))
      · refine sat_brf (by first | exact hb37 | ((try clear h); subst_vars; first | exact hb37 | rfl)) ?_
        conv => arg 1; cbv
        obtain rfl := Option.some.inj h
        subst_vars
        first | exact sat_pure (.inl ⟨⟨_, rfl⟩, rfl⟩) | (refine sat_pure (.inl ⟨⟨_, rfl⟩, ?_⟩); dsimp only; simp only [ln_set]; rfl)
    · clear hl60
      rcases q with ⟨o61, o62, o63⟩ | ⟨o66, o67, o68⟩
      · dsimp only at h
        conv => arg 1; cbv
        refine sat_len hΩ (ro_Note hE) a0_l (by first | rfl | ((try clear h); subst_vars; rfl)) fun n64 hn65 => ?_
        conv => arg 1; cbv
        obtain rfl := Option.some.inj h
        subst_vars
        exact sat_pure rfl
      · dsimp only at h
        conv => arg 1; cbv
        obtain rfl := Option.some.inj h
        subst_vars
        exact sat_pure rfl
set_option maxHeartbeats 4000000 in
theorem ok37 {Ω : Om} {E : Enc} (hΩ : real (call S) = Ω) (hE : theEnc = E) {fu : Nat} {a0 : Sl Note} {a1 : Sl Note} {r : Bool} (h : P37 fu a0 a1 = some r) {args : List PV} (ha : [PV.d (.sl (E.L_Note a0.l) (E.X_Note a0.x)), PV.d (.sl (E.L_Note a1.l) (E.X_Note a1.x))] = args) (st : St) :
    Sat (Ω.cf 37 args st) (fun q => q = (PV.d (.bool r), st)) := by
  subst ha
  rcases a0 with ⟨a0_l, _ | a0_h⟩
  · rcases a1 with ⟨a1_l, a1_x⟩
    rw [cf_body hΩ (f := 37) (fn := Try.f37) (x := c37) rfl rfl c37_ok rfl rfl]
    unfold P37 at h
    try dsimp only at h
    dsimp only []
    rw [show E.X_Note none = none from by rw [(ro_Note hE).2.1]; rfl]
    conv => arg 1; cbv
    refine sat_in hΩ ?_
    conv => arg 1; cbv
    refine sat_len hΩ (ro_Note hE) a0_l (by first | rfl | ((try clear h); subst_vars; rfl)) fun n1 hn2 => ?_
    conv => arg 1; cbv
    refine sat_len hΩ (ro_Note hE) a1_l (by first | rfl | ((try clear h); subst_vars; rfl)) fun n3 hn4 => ?_
    conv => arg 1; cbv
    replace h := bif_cases h
    rcases h with ⟨hb5, h⟩ | ⟨hb5, h⟩
    · cases h
    refine sat_brf (by first | exact hb5 | ((try clear h); subst_vars; first | exact hb5 | rfl)) ?_
    conv => arg 1; cbv
    refine sat_in hΩ ?_
    conv => arg 1; cbv
    obtain rfl := Option.some.inj h
    subst_vars
    exact sat_pure rfl
  · rcases a1 with ⟨a1_l, a1_x⟩
    rw [cf_body hΩ (f := 37) (fn := Try.f37) (x := c37) rfl rfl c37_ok rfl rfl]
    unfold P37 at h
    try dsimp only at h
    dsimp only []
    rw [show E.X_Note (some a0_h) = some (E.L_Note a0_h) from by rw [(ro_Note hE).2.1]; rfl]
    conv => arg 1; cbv
    obtain ⟨q, hq50, hz⟩ := Option.bind_eq_some_iff.1 h
    clear h
    have h := hz
    clear hz
    refine sat_grp hΩ ((fun (q : Bool) => (match q with | i17 => ([(0, PV.d (.sl (E.L_Note a0_l) (some (E.L_Note a0_h)))), (1, PV.d (.sl (E.L_Note a1_l) (E.X_Note a1_x))), (4, PV.d (.bool false)), (18, PV.d (.bool i17))], ([] : List X.Obj) :: st))) q) (fun k hk => ?_) ?_
    · clear h
      have h := hq50
      clear hq50
      conv => arg 1; cbv
      refine sat_len hΩ (ro_Note hE) a0_l (by first | rfl | ((try clear h); subst_vars; rfl)) fun n6 hn7 => ?_
      conv => arg 1; cbv
      refine sat_len hΩ (ro_Note hE) a1_l (by first | rfl | ((try clear h); subst_vars; rfl)) fun n8 hn9 => ?_
      conv => arg 1; cbv
      replace h := bif_cases h
      rcases h with ⟨hb10, h⟩ | ⟨hb10, h⟩
      · refine sat_brt (by first | exact hb10 | ((try clear h); subst_vars; first | exact hb10 | rfl)) ?_
        conv => arg 1; cbv
        refine sat_cat hΩ (ro_Note hE) a0_l a0_h (by first | rfl | ((try clear h); subst_vars; rfl)) (by first | rfl | ((try clear h); subst_vars; rfl)) fun l11 hl12 n13 hn14 => ?_
        conv => arg 1; cbv
        refine sat_len hΩ (ro_Note hE) a1_l (by first | rfl | ((try clear h); subst_vars; rfl)) fun n15 hn16 => ?_
        conv => arg 1; cbv
        obtain rfl := Option.some.inj h
        subst_vars
        first | exact hk | (simp only [ln_set] at hk ⊢; exact hk)
      · refine sat_brf (by first | exact hb10 | ((try clear h); subst_vars; first | exact hb10 | rfl)) ?_
        conv => arg 1; cbv
        obtain rfl := Option.some.inj h
        subst_vars
        first | exact hk | (simp only [ln_set] at hk ⊢; exact hk)
    · clear hq50
      obtain ⟨i17, hqq⟩ : ∃ x, x = q := ⟨_, rfl⟩
      subst hqq
      try dsimp only at h
      conv => arg 1; cbv
      refine sat_in hΩ ?_
      conv => arg 1; cbv
      replace h := bif_cases h
      rcases h with ⟨hb18, h⟩ | ⟨hb18, h⟩
      · refine sat_brt (by first | exact hb18 | ((try clear h); subst_vars; first | exact hb18 | rfl)) ?_
        conv => arg 1; cbv
        obtain rfl := Option.some.inj h
        subst_vars
        exact sat_pure rfl
      · refine sat_brf (by first | exact hb18 | ((try clear h); subst_vars; first | exact hb18 | rfl)) ?_
        conv => arg 1; cbv
        obtain ⟨q, hl28, hz⟩ := Option.bind_eq_some_iff.1 h
        clear h
        have h := hz
        clear hz
        refine sat_loop hΩ (fun (a : Int) => (match a with | i19 => ([(0, PV.d (.sl (E.L_Note a0_l) (some (E.L_Note a0_h)))), (1, PV.d (.sl (E.L_Note a1_l) (E.X_Note a1_x))), (4, PV.d (.bool false)), (5, PV.d (.int .i64 i19))], ([] : List X.Obj) :: st))) (fun (q : Int ⊕ Int) => (match q with | .inl o29 => (.exit 0, [(0, PV.d (.sl (E.L_Note a0_l) (some (E.L_Note a0_h)))), (1, PV.d (.sl (E.L_Note a1_l) (E.X_Note a1_x))), (4, PV.d (.bool false)), (5, PV.d (.int .i64 o29))], ([] : List X.Obj) :: st) | .inr o49 => (.ret, [(0, PV.d (.sl (E.L_Note a0_l) (some (E.L_Note a0_h)))), (1, PV.d (.sl (E.L_Note a1_l) (E.X_Note a1_x))), (4, PV.d (.bool false)), (5, PV.d (.int .i64 o49))], ([] : List X.Obj) :: st))) 0 hl28 (by first | rfl | ((try clear h); subst_vars; rfl) | ((try clear h); subst_vars; simp only [ln_set])) ?_ ?_
        · clear h hl28
          rintro i19 q h
          unfold P37_s0 at h
          dsimp only at h
          conv => arg 1; cbv
          refine sat_len hΩ (ro_Note hE) a1_l (by first | rfl | ((try clear h); subst_vars; rfl)) fun n20 hn21 => ?_
          conv => arg 1; cbv
          refine sat_in hΩ ?_
          conv => arg 1; cbv
          replace h := bif_cases h
          rcases h with ⟨hb22, h⟩ | ⟨hb22, h⟩
          · refine sat_brt (by first | exact hb22 | ((try clear h); subst_vars; first | exact hb22 | rfl)) ?_
            conv => arg 1; cbv
            refine sat_true (fits_l hΩ (ro_Note hE) a0_l (by first | rfl | ((try clear h); subst_vars; rfl))) ?_
            conv => arg 1; cbv
            obtain ⟨⟨x23_Kind, x23_Inst, x23_Name, x23_Late, x23_Text⟩, hx24, hz⟩ := Option.bind_eq_some_iff.1 h
            clear h
            have h := hz
            clear hz
            try dsimp only at h
            refine sat_bind (nth_ok hΩ (ro_Note hE) hx24 (by first | rfl | ((try clear h); subst_vars; rfl)) (by first | rfl | ((try clear h); subst_vars; rfl))) ?_
            conv => arg 1; cbv
            refine sat_true (fits_l hΩ (ro_Note hE) a1_l (by first | rfl | ((try clear h); subst_vars; rfl))) ?_
            conv => arg 1; cbv
            obtain ⟨⟨x25_Kind, x25_Inst, x25_Name, x25_Late, x25_Text⟩, hx26, hz⟩ := Option.bind_eq_some_iff.1 h
            clear h
            have h := hz
            clear hz
            try dsimp only at h
            refine sat_bind (nth_ok hΩ (ro_Note hE) hx26 (by first | rfl | ((try clear h); subst_vars; rfl)) (by first | rfl | ((try clear h); subst_vars; rfl))) ?_
            conv => arg 1; cbv
            refine sat_in hΩ ?_
            conv => arg 1; cbv
            replace h := bif_cases h
            rcases h with ⟨hb27, h⟩ | ⟨hb27, h⟩
            · refine sat_brt (by first | exact hb27 | ((try clear h); subst_vars; first | exact hb27 | rfl)) ?_
              conv => arg 1; cbv
              obtain rfl := Option.some.inj h
              subst_vars
              first | exact sat_pure (.inr ⟨rfl, rfl⟩) | (refine sat_pure (.inr ⟨rfl, ?_⟩); dsimp only; simp only [ln_set]; rfl)
            · refine sat_brf (by first | exact hb27 | ((try clear h); subst_vars; first | exact hb27 | rfl)) ?_
              conv => arg 1; cbv
              obtain rfl := Option.some.inj h
              subst_vars
              first | exact sat_pure ⟨rfl, rfl, rfl⟩ | (refine sat_pure ⟨rfl, ?_, ?_⟩ <;> first | rfl | (dsimp only; simp only [ln_set]; rfl))
          · refine sat_brf (by first | exact hb22 | ((try clear h); subst_vars; first | exact hb22 | rfl)) ?_
            conv => arg 1; cbv
            obtain rfl := Option.some.inj h
            subst_vars
            first | exact sat_pure (.inl ⟨⟨_, rfl⟩, rfl⟩) | (refine sat_pure (.inl ⟨⟨_, rfl⟩, ?_⟩); dsimp only; simp only [ln_set]; rfl)
        · clear hl28
          rcases q with o29 | o49
          · dsimp only at h
            conv => arg 1; cbv
            refine sat_len hΩ (ro_Note hE) a1_l (by first | rfl | ((try clear h); subst_vars; rfl)) fun n30 hn31 => ?_
            conv => arg 1; cbv
            refine sat_true (fits_x hΩ (ro_Note hE) a0_l (some a0_h) (by first | rfl | ((try clear h); subst_vars; rfl)) (by first | rfl | ((try clear h); subst_vars; rfl))) ?_
            conv => arg 1; cbv
            refine sat_len hΩ (ro_Note hE) a0_l (by first | rfl | ((try clear h); subst_vars; rfl)) fun n32 hn33 => ?_
            conv => arg 1; cbv
            refine sat_cat hΩ (ro_Note hE) a0_l a0_h (by first | rfl | ((try clear h); subst_vars; rfl)) (by first | rfl | ((try clear h); subst_vars; rfl)) fun l34 hl35 n36 hn37 => ?_
            conv => arg 1; cbv
            replace h := bif_some h
            obtain ⟨hb38, h⟩ := h
            refine sat_true (by first | exact hb38 | ((try clear h); subst_vars; first | exact hb38 | rfl)) ?_
            conv => arg 1; cbv
            replace h := bif_some h
            obtain ⟨hb39, h⟩ := h
            refine sat_true (by first | exact hb39 | ((try clear h); subst_vars; first | exact hb39 | rfl)) ?_
            conv => arg 1; cbv
            replace h := bif_some h
            obtain ⟨hb40, h⟩ := h
            refine sat_true (by first | exact hb40 | ((try clear h); subst_vars; first | exact hb40 | rfl)) ?_
            conv => arg 1; cbv
            refine sat_cut hΩ (ro_Note hE) (a0_l ++ a0_h) 0 (w64 ((ln a1_l) + 1)) (by first | rfl | ((try clear h); subst_vars; rfl)) (by first | rfl | ((try clear h); subst_vars; rfl)) (by first | rfl | ((try clear h); subst_vars; rfl)) fun l41 hl42 => ?_
            conv => arg 1; cbv
            refine sat_cut hΩ (ro_Note hE) (a0_l ++ a0_h) (w64 ((ln a1_l) + 1)) (ln (a0_l ++ a0_h)) (by first | rfl | ((try clear h); subst_vars; rfl)) (by first | rfl | ((try clear h); subst_vars; rfl)) (by first | rfl | ((try clear h); subst_vars; rfl)) fun l43 hl44 => ?_
            conv => arg 1; cbv
            refine sat_len hΩ (ro_Note hE) a1_l (by first | rfl | ((try clear h); subst_vars; rfl)) fun n45 hn46 => ?_
            conv => arg 1; cbv
            refine sat_true (fits_l hΩ (ro_Note hE) (cut (a0_l ++ a0_h) 0 (w64 ((ln a1_l) + 1))) (by first | rfl | ((try clear h); subst_vars; rfl))) ?_
            conv => arg 1; cbv
            obtain ⟨⟨x47_Kind, x47_Inst, x47_Name, x47_Late, x47_Text⟩, hx48, hz⟩ := Option.bind_eq_some_iff.1 h
            clear h
            have h := hz
            clear hz
            try dsimp only at h
            refine sat_bind (nth_ok hΩ (ro_Note hE) hx48 (by first | rfl | ((try clear h); subst_vars; rfl)) (by first | rfl | ((try clear h); subst_vars; rfl))) ?_
            conv => arg 1; cbv
            obtain rfl := Option.some.inj h
            subst_vars
            exact sat_pure rfl
          · dsimp only at h
            conv => arg 1; cbv
            obtain rfl := Option.some.inj h
            subst_vars
            exact sat_pure rfl
set_option maxHeartbeats 4000000 in
theorem ok8 {Ω : Om} {E : Enc} (hΩ : real (call S) = Ω) (hE : theEnc = E) {fu : Nat} {a0 : Sl Note} {r : Bool} (h : P8 fu a0 = some r) {args : List PV} (ha : [PV.d (.sl (E.L_Note a0.l) (E.X_Note a0.x))] = args) (st : St) :
    Sat (Ω.cf 8 args st) (fun q => q = (PV.d (.bool r), st)) := by
  subst ha
  rcases a0 with ⟨a0_l, a0_x⟩
  rw [cf_body hΩ (f := 8) (fn := Try.f8) (x := c8) rfl rfl c8_ok rfl rfl]
  unfold P8 at h
  try dsimp only at h
  conv => arg 1; cbv
  obtain ⟨q, hq24, hz⟩ := Option.bind_eq_some_iff.1 h
  clear h
  have h := hz
  clear hz
  refine sat_grp hΩ ((fun (q : Bool) => (match q with | i8 => ([(0, PV.d (.sl (E.L_Note a0_l) (E.X_Note a0_x))), (2, PV.d (.bool false)), (16, PV.d (.bool i8))], ([] : List X.Obj) :: st))) q) (fun k hk => ?_) ?_
  · clear h
    have h := hq24
    clear hq24
    conv => arg 1; cbv
    refine sat_len hΩ (ro_Note hE) a0_l (by first | rfl | ((try clear h); subst_vars; rfl)) fun n1 hn2 => ?_
    conv => arg 1; cbv
    replace h := bif_cases h
    rcases h with ⟨hb3, h⟩ | ⟨hb3, h⟩
    · refine sat_brt (by first | exact hb3 | ((try clear h); subst_vars; first | exact hb3 | rfl)) ?_
      conv => arg 1; cbv
      obtain ⟨r4, hx5, hz⟩ := Option.bind_eq_some_iff.1 h
      clear h
      have h := hz
      clear hz
      refine sat_call (ok33 hΩ hE hx5 (by (try clear h); subst_vars; rfl) _) ?_
      conv => arg 1; cbv
      obtain ⟨r6, hx7, hz⟩ := Option.bind_eq_some_iff.1 h
      clear h
      have h := hz
      clear hz
      refine sat_call (ok19 hΩ hE hx7 (by (try clear h); subst_vars; rfl) _) ?_
      conv => arg 1; cbv
      obtain rfl := Option.some.inj h
      subst_vars
      first | exact hk | (simp only [ln_set] at hk ⊢; exact hk)
    · refine sat_brf (by first | exact hb3 | ((try clear h); subst_vars; first | exact hb3 | rfl)) ?_
      conv => arg 1; cbv
      obtain rfl := Option.some.inj h
      subst_vars
      first | exact hk | (simp only [ln_set] at hk ⊢; exact hk)
  · clear hq24
    obtain ⟨i8, hqq⟩ : ∃ x, x = q := ⟨_, rfl⟩
    subst hqq
    try dsimp only at h
    conv => arg 1; cbv
    refine sat_in hΩ ?_
    conv => arg 1; cbv
    replace h := bif_cases h
    rcases h with ⟨hb9, h⟩ | ⟨hb9, h⟩
    · refine sat_brt (by first | exact hb9 | ((try clear h); subst_vars; first | exact hb9 | rfl)) ?_
      conv => arg 1; cbv
      obtain rfl := Option.some.inj h
      subst_vars
      exact sat_pure rfl
    · refine sat_brf (by first | exact hb9 | ((try clear h); subst_vars; first | exact hb9 | rfl)) ?_
      conv => arg 1; cbv
      obtain ⟨⟨r10_l, r10_x⟩, hx11, hz⟩ := Option.bind_eq_some_iff.1 h
      clear h
      have h := hz
      clear hz
      try dsimp only at h
      refine sat_call (ok34 hΩ hE hx11 (by (try clear h); subst_vars; rfl) _) ?_
      conv => arg 1; cbv
      obtain ⟨⟨r12, r13⟩, hx14, hz⟩ := Option.bind_eq_some_iff.1 h
      clear h
      have h := hz
      clear hz
      try dsimp only at h
      refine sat_call (ok35 hΩ hE hx14 (by (try clear h); subst_vars; rfl) _) ?_
      conv => arg 1; cbv
      obtain ⟨⟨r15, r16⟩, hx17, hz⟩ := Option.bind_eq_some_iff.1 h
      clear h
      have h := hz
      clear hz
      try dsimp only at h
      refine sat_call (ok36 hΩ hE hx17 (by (try clear h); subst_vars; rfl) _) ?_
      conv => arg 1; cbv
      obtain ⟨q, hq23, hz⟩ := Option.bind_eq_some_iff.1 h
      clear h
      have h := hz
      clear hz
      refine sat_grp hΩ ((fun (q : Bool) => (match q with | i22 => ([(0, PV.d (.sl (E.L_Note a0_l) (E.X_Note a0_x))), (2, PV.d (.bool i22)), (3, PV.d (.sl (E.L_Note r10_l) (E.X_Note r10_x))), (4, PV.d (.int .i64 r12)), (5, PV.d (.int .i64 r13)), (6, PV.d (.int .i64 r15)), (7, PV.d (.int .i64 r16))], ([] : List X.Obj) :: st))) q) (fun k hk => ?_) ?_
      · clear h
        have h := hq23
        clear hq23
        conv => arg 1; cbv
        replace h := bif_cases h
        rcases h with ⟨hb18, h⟩ | ⟨hb18, h⟩
        · refine sat_brt (by first | exact hb18 | ((try clear h); subst_vars; first | exact hb18 | rfl)) ?_
          conv => arg 1; cbv
          replace h := bif_cases h
          rcases h with ⟨hb19, h⟩ | ⟨hb19, h⟩
          · refine sat_brt (by first | exact hb19 | ((try clear h); subst_vars; first | exact hb19 | rfl)) ?_
            conv => arg 1; cbv
            obtain ⟨r20, hx21, hz⟩ := Option.bind_eq_some_iff.1 h
            clear h
            have h := hz
            clear hz
            refine sat_call (ok37 hΩ hE hx21 (by (try clear h); subst_vars; rfl) _) ?_
            conv => arg 1; cbv
            refine sat_tick hΩ ?_
            conv => arg 1; cbv
            obtain rfl := Option.some.inj h
            subst_vars
            first | exact hk | (simp only [ln_set] at hk ⊢; exact hk)
          · refine sat_brf (by first | exact hb19 | ((try clear h); subst_vars; first | exact hb19 | rfl)) ?_
            conv => arg 1; cbv
            refine sat_tick hΩ ?_
            conv => arg 1; cbv
            obtain rfl := Option.some.inj h
            subst_vars
            first | exact hk | (simp only [ln_set] at hk ⊢; exact hk)
        · refine sat_brf (by first | exact hb18 | ((try clear h); subst_vars; first | exact hb18 | rfl)) ?_
          conv => arg 1; cbv
          refine sat_tick hΩ ?_
          conv => arg 1; cbv
          obtain rfl := Option.some.inj h
          subst_vars
          first | exact hk | (simp only [ln_set] at hk ⊢; exact hk)
      · clear hq23
        obtain ⟨i22, hqq⟩ : ∃ x, x = q := ⟨_, rfl⟩
        subst hqq
        try dsimp only at h
        conv => arg 1; cbv
        obtain rfl := Option.some.inj h
        subst_vars
        exact sat_pure rfl
end Go.Proofs.Ytamllgdaepjcfaa
