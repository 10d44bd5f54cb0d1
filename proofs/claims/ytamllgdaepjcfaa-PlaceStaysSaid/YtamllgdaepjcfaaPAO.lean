/- The interpreter computes just these functions: printed by a small program. -/
import Derived.Test.YtamllgdaepjcfaaPAD
namespace Go.Proofs.Ytamllgdaepjcfaa
open Go Go.X
set_option linter.unusedVariables false
set_option linter.unusedSimpArgs false
set_option maxRecDepth 100000
set_option maxHeartbeats 4000000 in
theorem ok44 {Ω : Om} {E : Enc} (hΩ : real (call S) = Ω) (hE : theEnc = E) {fu : Nat} {a0 : Sl Int} {a1 : Int} {r : Bool} (h : P44 fu a0 a1 = some r) {args : List PV} (ha : [PV.d (.sl (E.L_i_i64 a0.l) (E.X_i_i64 a0.x)), PV.d (.int .i64 a1)] = args) (st : St) :
    Sat (Ω.cf 44 args st) (fun q => q = (PV.d (.bool r), st)) := by
  subst ha
  rcases a0 with ⟨a0_l, a0_x⟩
  rw [cf_body hΩ (f := 44) (fn := Try.f44) (x := c44) rfl rfl c44_ok rfl]
  unfold P44 at h
  try dsimp only at h
  conv => arg 1; cbv
  obtain ⟨q, hl9, hz⟩ := Option.bind_eq_some_iff.1 h
  clear h
  have h := hz
  clear hz
  refine sat_loop hΩ (fun (a : Bool × Int) => (match a with | (i1, i2) => ([(0, PV.d (.sl (E.L_i_i64 a0_l) (E.X_i_i64 a0_x))), (1, PV.d (.int .i64 a1)), (4, PV.d (.bool i1)), (5, PV.d (.int .i64 i2))], ([] : List X.Obj) :: st))) (fun (q : (Bool × Int) ⊕ (Bool × Int)) => (match q with | .inl (o10, o11) => (.exit 0, [(0, PV.d (.sl (E.L_i_i64 a0_l) (E.X_i_i64 a0_x))), (1, PV.d (.int .i64 a1)), (4, PV.d (.bool o10)), (5, PV.d (.int .i64 o11))], ([] : List X.Obj) :: st) | .inr (o12, o13) => (.ret, [(0, PV.d (.sl (E.L_i_i64 a0_l) (E.X_i_i64 a0_x))), (1, PV.d (.int .i64 a1)), (4, PV.d (.bool o12)), (5, PV.d (.int .i64 o13))], ([] : List X.Obj) :: st))) (false, 0) hl9 (by first | rfl | (subst_vars; rfl) | (subst_vars; simp only [ln_set])) ?_ ?_
  · clear h hl9
    rintro ⟨i1, i2⟩ q h
    unfold P44_s0 at h
    dsimp only at h
    conv => arg 1; cbv
    refine sat_len hΩ (ro_i_i64 hE) a0_l (by first | rfl | (subst_vars; rfl)) fun n3 hn4 => ?_
    conv => arg 1; cbv
    refine sat_in hΩ ?_
    conv => arg 1; cbv
    replace h := bif_cases h
    rcases h with ⟨hb5, h⟩ | ⟨hb5, h⟩
    · refine sat_brt (by first | exact hb5 | (subst_vars; first | exact hb5 | rfl)) ?_
      conv => arg 1; cbv
      refine sat_true (fits_l hΩ (ro_i_i64 hE) a0_l (by first | rfl | (subst_vars; rfl))) ?_
      conv => arg 1; cbv
      obtain ⟨x6, hx7, hz⟩ := Option.bind_eq_some_iff.1 h
      clear h
      have h := hz
      clear hz
      refine sat_bind (nth_ok hΩ (ro_i_i64 hE) hx7 (by first | rfl | (subst_vars; rfl)) (by first | rfl | (subst_vars; rfl))) ?_
      conv => arg 1; cbv
      refine sat_in hΩ ?_
      conv => arg 1; cbv
      replace h := bif_cases h
      rcases h with ⟨hb8, h⟩ | ⟨hb8, h⟩
      · refine sat_brt (by first | exact hb8 | (subst_vars; first | exact hb8 | rfl)) ?_
        conv => arg 1; cbv
        obtain rfl := Option.some.inj h
        subst_vars
        first | exact sat_pure (.inr ⟨rfl, rfl⟩) | (refine sat_pure (.inr ⟨rfl, ?_⟩); dsimp only; simp only [ln_set]; rfl)
      · refine sat_brf (by first | exact hb8 | (subst_vars; first | exact hb8 | rfl)) ?_
        conv => arg 1; cbv
        obtain rfl := Option.some.inj h
        subst_vars
        first | exact sat_pure ⟨rfl, rfl, rfl⟩ | (refine sat_pure ⟨rfl, ?_, ?_⟩ <;> first | rfl | (dsimp only; simp only [ln_set]; rfl))
    · refine sat_brf (by first | exact hb5 | (subst_vars; first | exact hb5 | rfl)) ?_
      conv => arg 1; cbv
      obtain rfl := Option.some.inj h
      subst_vars
      first | exact sat_pure (.inl ⟨⟨_, rfl⟩, rfl⟩) | (refine sat_pure (.inl ⟨⟨_, rfl⟩, ?_⟩); dsimp only; simp only [ln_set]; rfl)
  · clear hl9
    rcases q with ⟨o10, o11⟩ | ⟨o12, o13⟩
    · dsimp only at h
      conv => arg 1; cbv
      obtain rfl := Option.some.inj h
      subst_vars
      exact sat_pure rfl
    · dsimp only at h
      conv => arg 1; cbv
      obtain rfl := Option.some.inj h
      subst_vars
      exact sat_pure rfl
set_option maxHeartbeats 4000000 in
theorem ok40 {Ω : Om} {E : Enc} (hΩ : real (call S) = Ω) (hE : theEnc = E) {fu : Nat} {a0 : Sl Int} {r : (Sl Int)} (h : P40 fu a0 = some r) {args : List PV} (ha : [PV.d (.sl (E.L_i_u8 a0.l) (E.X_i_u8 a0.x))] = args) (st : St) :
    Sat (Ω.cf 40 args st) (fun q => q = (PV.d (.sl (E.L_i_i64 r.l) (E.X_i_i64 r.x)), st)) := by
  subst ha
  rcases a0 with ⟨a0_l, a0_x⟩
  rw [cf_body hΩ (f := 40) (fn := Try.f40) (x := c40) rfl rfl c40_ok rfl]
  unfold P40 at h
  try dsimp only at h
  conv => arg 1; cbv
  refine sat_nil hΩ (ro_i_i64 hE) fun l1 hl2 => ?_
  conv => arg 1; cbv
  obtain ⟨q, hl19, hz⟩ := Option.bind_eq_some_iff.1 h
  clear h
  have h := hz
  clear hz
  refine sat_loop hΩ (fun (a : (List Int) × Int) => (match a with | (l3, i4) => ([(0, PV.d (.sl (E.L_i_u8 a0_l) (E.X_i_u8 a0_x))), (2, PV.d (.sl [] (some []))), (3, PV.row 0 0 (ln l3)), (4, PV.d (.int .i64 i4))], ([X.Obj.row 3 1 (E.L_i_i64 l3) false none] : List X.Obj) :: st))) (fun (q : ((List Int) × Int)) => (match q with | (o20, o21) => (.exit 0, [(0, PV.d (.sl (E.L_i_u8 a0_l) (E.X_i_u8 a0_x))), (2, PV.d (.sl [] (some []))), (3, PV.row 0 0 (ln o20)), (4, PV.d (.int .i64 o21))], ([X.Obj.row 3 1 (E.L_i_i64 o20) false none] : List X.Obj) :: st))) (([] : List Int), 0) hl19 (by first | rfl | (subst_vars; rfl) | (subst_vars; simp only [ln_set])) ?_ ?_
  · clear h hl19
    rintro ⟨l3, i4⟩ q h
    unfold P40_s0 at h
    dsimp only at h
    obtain ⟨ln_l3, hln_l3⟩ : ∃ n, ln l3 = n := ⟨_, rfl⟩
    simp only [hln_l3]
    conv => arg 1; cbv
    refine sat_len hΩ (ro_i_u8 hE) a0_l (by first | rfl | (subst_vars; rfl)) fun n5 hn6 => ?_
    conv => arg 1; cbv
    replace h := bif_cases h
    rcases h with ⟨hb7, h⟩ | ⟨hb7, h⟩
    · refine sat_brt (by first | exact hb7 | (subst_vars; first | exact hb7 | rfl)) ?_
      conv => arg 1; cbv
      refine sat_in hΩ ?_
      conv => arg 1; cbv
      replace h := bif_cases h
      rcases h with ⟨hb8, h⟩ | ⟨hb8, h⟩
      · refine sat_brt (by first | exact hb8 | (subst_vars; first | exact hb8 | rfl)) ?_
        conv => arg 1; cbv
        refine sat_true (fits_l hΩ (ro_i_u8 hE) a0_l (by first | rfl | (subst_vars; rfl))) ?_
        conv => arg 1; cbv
        obtain ⟨x9, hx10, hz⟩ := Option.bind_eq_some_iff.1 h
        clear h
        have h := hz
        clear hz
        refine sat_bind (nth_ok hΩ (ro_i_u8 hE) hx10 (by first | rfl | (subst_vars; rfl)) (by first | rfl | (subst_vars; rfl))) ?_
        conv => arg 1; cbv
        refine sat_true (len_ok hΩ (ro_i_i64 hE) l3 (by first | rfl | (subst_vars; rfl)) (by first | rfl | (subst_vars; rfl))) ?_
        conv => arg 1; cbv
        obtain ⟨r11, hx12, hz⟩ := Option.bind_eq_some_iff.1 h
        clear h
        have h := hz
        clear hz
        refine sat_call (ok44 hΩ hE hx12 (by subst_vars; rfl) _) ?_
        conv => arg 1; cbv
        refine sat_in hΩ ?_
        conv => arg 1; cbv
        replace h := bif_cases h
        rcases h with ⟨hb13, h⟩ | ⟨hb13, h⟩
        · refine sat_brt (by first | exact hb13 | (subst_vars; first | exact hb13 | rfl)) ?_
          conv => arg 1; cbv
          refine sat_true (ieq_ok hΩ _) ?_
          conv => arg 1; cbv
          refine sat_true (fits_l hΩ (ro_i_i64 hE) [w64 ((w64 x9) + 1)] (by first | rfl | (subst_vars; rfl))) ?_
          conv => arg 1; cbv
          refine sat_true (len_ok hΩ (ro_i_i64 hE) l3 (by first | rfl | (subst_vars; rfl) | (subst_vars; simp only [ln_set])) (by first | rfl | (subst_vars; rfl) | (subst_vars; simp only [ln_set]))) ?_
          conv => arg 1; cbv
          refine sat_brf (len_zero hΩ (ro_i_i64 hE) (l := [w64 ((w64 x9) + 1)]) (b := false) (by rfl) (by first | rfl | (subst_vars; rfl))) ?_
          conv => arg 1; cbv
          refine sat_cat hΩ (ro_i_i64 hE) l3 [w64 ((w64 x9) + 1)] (by first | rfl | (subst_vars; rfl)) (by first | rfl | (subst_vars; rfl)) fun l14 hl15 n16 hn17 => ?_
          conv => arg 1; cbv
          replace h := bif_some h
          obtain ⟨hb18, h⟩ := h
          refine sat_true (by first | exact hb18 | (subst_vars; first | exact hb18 | rfl)) ?_
          conv => arg 1; cbv
          obtain rfl := Option.some.inj h
          subst_vars
          first | exact sat_pure ⟨rfl, rfl, rfl⟩ | (refine sat_pure ⟨rfl, ?_, ?_⟩ <;> first | rfl | (dsimp only; simp only [ln_set]; rfl))
        · refine sat_brf (by first | exact hb13 | (subst_vars; first | exact hb13 | rfl)) ?_
          conv => arg 1; cbv
          obtain rfl := Option.some.inj h
          subst_vars
          first | exact sat_pure ⟨rfl, rfl, rfl⟩ | (refine sat_pure ⟨rfl, ?_, ?_⟩ <;> first | rfl | (dsimp only; simp only [ln_set]; rfl))
      · refine sat_brf (by first | exact hb8 | (subst_vars; first | exact hb8 | rfl)) ?_
        conv => arg 1; cbv
        obtain rfl := Option.some.inj h
        subst_vars
        first | exact sat_pure (.inl ⟨⟨_, rfl⟩, rfl⟩) | (refine sat_pure (.inl ⟨⟨_, rfl⟩, ?_⟩); dsimp only; simp only [ln_set]; rfl)
    · refine sat_brf (by first | exact hb7 | (subst_vars; first | exact hb7 | rfl)) ?_
      conv => arg 1; cbv
      refine sat_in hΩ ?_
      conv => arg 1; cbv
      obtain rfl := Option.some.inj h
      subst_vars
      first | exact sat_pure (.inl ⟨⟨_, rfl⟩, rfl⟩) | (refine sat_pure (.inl ⟨⟨_, rfl⟩, ?_⟩); dsimp only; simp only [ln_set]; rfl)
  · clear hl19
    rcases q with ⟨o20, o21⟩
    dsimp only at h
    obtain ⟨ln_o20, hln_o20⟩ : ∃ n, ln o20 = n := ⟨_, rfl⟩
    simp only [hln_o20]
    conv => arg 1; cbv
    refine sat_true (len_ok hΩ (ro_i_i64 hE) o20 (by first | rfl | (subst_vars; rfl)) (by first | rfl | (subst_vars; rfl))) ?_
    conv => arg 1; cbv
    obtain rfl := Option.some.inj h
    subst_vars
    exact sat_pure rfl
set_option maxHeartbeats 4000000 in
theorem ok21 {Ω : Om} {E : Enc} (hΩ : real (call S) = Ω) (hE : theEnc = E) {fu : Nat} {a0 : Sl Int} {r : (Sl Bool)} (h : P21 fu a0 = some r) {args : List PV} (ha : [PV.d (.sl (E.L_i_i64 a0.l) (E.X_i_i64 a0.x))] = args) (st : St) :
    Sat (Ω.cf 21 args st) (fun q => q = (PV.d (.sl (E.L_bool r.l) (E.X_bool r.x)), st)) := by
  subst ha
  rcases a0 with ⟨a0_l, a0_x⟩
  rw [cf_body hΩ (f := 21) (fn := Try.f21) (x := c21) rfl rfl c21_ok rfl]
  unfold P21 at h
  try dsimp only at h
  conv => arg 1; cbv
  refine sat_nil hΩ (ro_bool hE) fun l1 hl2 => ?_
  conv => arg 1; cbv
  refine sat_len hΩ (ro_i_i64 hE) a0_l (by first | rfl | (subst_vars; rfl)) fun n3 hn4 => ?_
  conv => arg 1; cbv
  obtain ⟨q, hl22, hz⟩ := Option.bind_eq_some_iff.1 h
  clear h
  have h := hz
  clear hz
  refine sat_loop hΩ (fun (a : (List Bool) × Int × Int) => (match a with | (l5, i6, i7) => ([(0, PV.d (.sl (E.L_i_i64 a0_l) (E.X_i_i64 a0_x))), (2, PV.row 0 0 (ln l5)), (3, PV.d (.int .i64 i6)), (7, PV.d (.sl (E.L_i_i64 a0_l) (E.X_i_i64 a0_x))), (8, PV.d (.int .i64 n3)), (9, PV.d (.int .i64 i7))], ([X.Obj.row 4 1 (E.L_bool l5) false none] : List X.Obj) :: st))) (fun (q : ((List Bool) × Int × Int)) => (match q with | (o23, o24, o25) => (.exit 0, [(0, PV.d (.sl (E.L_i_i64 a0_l) (E.X_i_i64 a0_x))), (2, PV.row 0 0 (ln o23)), (3, PV.d (.int .i64 o24)), (7, PV.d (.sl (E.L_i_i64 a0_l) (E.X_i_i64 a0_x))), (8, PV.d (.int .i64 n3)), (9, PV.d (.int .i64 o25))], ([X.Obj.row 4 1 (E.L_bool o23) false none] : List X.Obj) :: st))) (([] : List Bool), 0, 0) hl22 (by first | rfl | (subst_vars; rfl) | (subst_vars; simp only [ln_set])) ?_ ?_
  · clear h hl22
    rintro ⟨l5, i6, i7⟩ q h
    unfold P21_s0 at h
    dsimp only at h
    obtain ⟨ln_l5, hln_l5⟩ : ∃ n, ln l5 = n := ⟨_, rfl⟩
    simp only [hln_l5]
    conv => arg 1; cbv
    refine sat_in hΩ ?_
    conv => arg 1; cbv
    replace h := bif_cases h
    rcases h with ⟨hb8, h⟩ | ⟨hb8, h⟩
    · refine sat_brt (by first | exact hb8 | (subst_vars; first | exact hb8 | rfl)) ?_
      conv => arg 1; cbv
      refine sat_true (fits_l hΩ (ro_i_i64 hE) a0_l (by first | rfl | (subst_vars; rfl))) ?_
      conv => arg 1; cbv
      obtain ⟨x9, hx10, hz⟩ := Option.bind_eq_some_iff.1 h
      clear h
      have h := hz
      clear hz
      refine sat_bind (nth_ok hΩ (ro_i_i64 hE) hx10 (by first | rfl | (subst_vars; rfl)) (by first | rfl | (subst_vars; rfl))) ?_
      conv => arg 1; cbv
      refine sat_in hΩ ?_
      conv => arg 1; cbv
      replace h := bif_cases h
      rcases h with ⟨hb11, h⟩ | ⟨hb11, h⟩
      · refine sat_brt (by first | exact hb11 | (subst_vars; first | exact hb11 | rfl)) ?_
        conv => arg 1; cbv
        refine sat_true (ieq_ok hΩ _) ?_
        conv => arg 1; cbv
        refine sat_true (fits_l hΩ (ro_bool hE) [decide (x9 < i6)] (by first | rfl | (subst_vars; rfl))) ?_
        conv => arg 1; cbv
        refine sat_true (len_ok hΩ (ro_bool hE) l5 (by first | rfl | (subst_vars; rfl) | (subst_vars; simp only [ln_set])) (by first | rfl | (subst_vars; rfl) | (subst_vars; simp only [ln_set]))) ?_
        conv => arg 1; cbv
        refine sat_brf (len_zero hΩ (ro_bool hE) (l := [decide (x9 < i6)]) (b := false) (by rfl) (by first | rfl | (subst_vars; rfl))) ?_
        conv => arg 1; cbv
        refine sat_cat hΩ (ro_bool hE) l5 [decide (x9 < i6)] (by first | rfl | (subst_vars; rfl)) (by first | rfl | (subst_vars; rfl)) fun l12 hl13 n14 hn15 => ?_
        conv => arg 1; cbv
        replace h := bif_some h
        obtain ⟨hb16, h⟩ := h
        refine sat_true (by first | exact hb16 | (subst_vars; first | exact hb16 | rfl)) ?_
        conv => arg 1; cbv
        obtain rfl := Option.some.inj h
        subst_vars
        first | exact sat_pure ⟨rfl, rfl, rfl⟩ | (refine sat_pure ⟨rfl, ?_, ?_⟩ <;> first | rfl | (dsimp only; simp only [ln_set]; rfl))
      · refine sat_brf (by first | exact hb11 | (subst_vars; first | exact hb11 | rfl)) ?_
        conv => arg 1; cbv
        refine sat_true (ieq_ok hΩ _) ?_
        conv => arg 1; cbv
        refine sat_true (fits_l hΩ (ro_bool hE) [decide (x9 < i6)] (by first | rfl | (subst_vars; rfl))) ?_
        conv => arg 1; cbv
        refine sat_true (len_ok hΩ (ro_bool hE) l5 (by first | rfl | (subst_vars; rfl) | (subst_vars; simp only [ln_set])) (by first | rfl | (subst_vars; rfl) | (subst_vars; simp only [ln_set]))) ?_
        conv => arg 1; cbv
        refine sat_brf (len_zero hΩ (ro_bool hE) (l := [decide (x9 < i6)]) (b := false) (by rfl) (by first | rfl | (subst_vars; rfl))) ?_
        conv => arg 1; cbv
        refine sat_cat hΩ (ro_bool hE) l5 [decide (x9 < i6)] (by first | rfl | (subst_vars; rfl)) (by first | rfl | (subst_vars; rfl)) fun l17 hl18 n19 hn20 => ?_
        conv => arg 1; cbv
        replace h := bif_some h
        obtain ⟨hb21, h⟩ := h
        refine sat_true (by first | exact hb21 | (subst_vars; first | exact hb21 | rfl)) ?_
        conv => arg 1; cbv
        obtain rfl := Option.some.inj h
        subst_vars
        first | exact sat_pure ⟨rfl, rfl, rfl⟩ | (refine sat_pure ⟨rfl, ?_, ?_⟩ <;> first | rfl | (dsimp only; simp only [ln_set]; rfl))
    · refine sat_brf (by first | exact hb8 | (subst_vars; first | exact hb8 | rfl)) ?_
      conv => arg 1; cbv
      obtain rfl := Option.some.inj h
      subst_vars
      first | exact sat_pure (.inl ⟨⟨_, rfl⟩, rfl⟩) | (refine sat_pure (.inl ⟨⟨_, rfl⟩, ?_⟩); dsimp only; simp only [ln_set]; rfl)
  · clear hl22
    rcases q with ⟨o23, o24, o25⟩
    dsimp only at h
    obtain ⟨ln_o23, hln_o23⟩ : ∃ n, ln o23 = n := ⟨_, rfl⟩
    simp only [hln_o23]
    conv => arg 1; cbv
    refine sat_true (len_ok hΩ (ro_bool hE) o23 (by first | rfl | (subst_vars; rfl)) (by first | rfl | (subst_vars; rfl))) ?_
    conv => arg 1; cbv
    obtain rfl := Option.some.inj h
    subst_vars
    exact sat_pure rfl
set_option maxHeartbeats 4000000 in
theorem ok61 {Ω : Om} {E : Enc} (hΩ : real (call S) = Ω) (hE : theEnc = E) {fu : Nat} {a0 : Sl Int} {r : (Sl Int) × (List (Int × Int))} (h : P61 fu a0 = some r) {args : List PV} (ha : [PV.d (.sl (E.L_i_i64 a0.l) (E.X_i_i64 a0.x))] = args) (fr : List X.Obj) (st : St) :
    Sat (Ω.cf 61 args (fr :: st)) (fun q => q = (PV.tup [PV.d (.sl (E.L_i_i64 r.1.l) (E.X_i_i64 r.1.x)), PV.map 0 fr.length], (fr ++ [.map (some .i64) true (E.M_i_i64_i_i64 r.2)]) :: st)) := by
  subst ha
  rcases a0 with ⟨a0_l, a0_x⟩
  rw [cf_body hΩ (f := 61) (fn := Try.f61) (x := c61) rfl rfl c61_ok rfl]
  unfold P61 at h
  try dsimp only at h
  conv => arg 1; cbv
  refine sat_nil hΩ (ro_i_i64 hE) fun l1 hl2 => ?_
  conv => arg 1; cbv
  refine sat_empty hΩ (mo_i_i64_i_i64 hE) fun m3 hm4 => ?_
  conv => arg 1; cbv
  refine sat_len hΩ (ro_i_i64 hE) a0_l (by first | rfl | (subst_vars; rfl)) fun n5 hn6 => ?_
  conv => arg 1; cbv
  obtain ⟨q, hl22, hz⟩ := Option.bind_eq_some_iff.1 h
  clear h
  have h := hz
  clear hz
  refine sat_loop hΩ (fun (a : (List Int) × (List (Int × Int)) × Int) => (match a with | (l7, m8, i9) => ([(0, PV.d (.sl (E.L_i_i64 a0_l) (E.X_i_i64 a0_x))), (2, PV.row 0 0 (ln l7)), (3, PV.map 0 1), (9, PV.d (.sl (E.L_i_i64 a0_l) (E.X_i_i64 a0_x))), (10, PV.d (.int .i64 n5)), (11, PV.d (.int .i64 i9))], ([X.Obj.row 3 1 (E.L_i_i64 l7) false none, X.Obj.map (some .i64) true (E.M_i_i64_i_i64 m8)] : List X.Obj) :: fr :: st))) (fun (q : ((List Int) × (List (Int × Int)) × Int)) => (match q with | (o23, o24, o25) => (.exit 0, [(0, PV.d (.sl (E.L_i_i64 a0_l) (E.X_i_i64 a0_x))), (2, PV.row 0 0 (ln o23)), (3, PV.map 0 1), (9, PV.d (.sl (E.L_i_i64 a0_l) (E.X_i_i64 a0_x))), (10, PV.d (.int .i64 n5)), (11, PV.d (.int .i64 o25))], ([X.Obj.row 3 1 (E.L_i_i64 o23) false none, X.Obj.map (some .i64) true (E.M_i_i64_i_i64 o24)] : List X.Obj) :: fr :: st))) (([] : List Int), ([] : List (Int × Int)), 0) hl22 (by first | rfl | (subst_vars; rfl) | (subst_vars; simp only [ln_set])) ?_ ?_
  · clear h hl22
    rintro ⟨l7, m8, i9⟩ q h
    unfold P61_s0 at h
    dsimp only at h
    obtain ⟨ln_l7, hln_l7⟩ : ∃ n, ln l7 = n := ⟨_, rfl⟩
    simp only [hln_l7]
    conv => arg 1; cbv
    refine sat_in hΩ ?_
    conv => arg 1; cbv
    replace h := bif_cases h
    rcases h with ⟨hb10, h⟩ | ⟨hb10, h⟩
    · refine sat_brt (by first | exact hb10 | (subst_vars; first | exact hb10 | rfl)) ?_
      conv => arg 1; cbv
      refine sat_true (fits_l hΩ (ro_i_i64 hE) a0_l (by first | rfl | (subst_vars; rfl))) ?_
      conv => arg 1; cbv
      obtain ⟨x11, hx12, hz⟩ := Option.bind_eq_some_iff.1 h
      clear h
      have h := hz
      clear hz
      refine sat_bind (nth_ok hΩ (ro_i_i64 hE) hx12 (by first | rfl | (subst_vars; rfl)) (by first | rfl | (subst_vars; rfl))) ?_
      conv => arg 1; cbv
      rcases hq14 : mget m8 x11 with _ | x13
      · rw [hq14] at h
        dsimp only at h
        refine sat_find_none hΩ (mo_i_i64_i_i64 hE) hq14 (by first | rfl | (subst_vars; rfl)) (by first | rfl | (subst_vars; rfl)) ?_
        conv => arg 1; cbv
        refine sat_in hΩ ?_
        conv => arg 1; cbv
        refine sat_put hΩ (mo_i_i64_i_i64 hE) m8 x11 (ln l7) (by first | rfl | (subst_vars; rfl)) (by first | rfl | (subst_vars; rfl)) (by first | rfl | (subst_vars; rfl)) fun m15 hm16 => ?_
        conv => arg 1; cbv
        refine sat_true (ieq_ok hΩ _) ?_
        conv => arg 1; cbv
        refine sat_true (fits_l hΩ (ro_i_i64 hE) [x11] (by first | rfl | (subst_vars; rfl))) ?_
        conv => arg 1; cbv
        refine sat_true (len_ok hΩ (ro_i_i64 hE) l7 (by first | rfl | (subst_vars; rfl) | (subst_vars; simp only [ln_set])) (by first | rfl | (subst_vars; rfl) | (subst_vars; simp only [ln_set]))) ?_
        conv => arg 1; cbv
        refine sat_brf (len_zero hΩ (ro_i_i64 hE) (l := [x11]) (b := false) (by rfl) (by first | rfl | (subst_vars; rfl))) ?_
        conv => arg 1; cbv
        refine sat_cat hΩ (ro_i_i64 hE) l7 [x11] (by first | rfl | (subst_vars; rfl)) (by first | rfl | (subst_vars; rfl)) fun l17 hl18 n19 hn20 => ?_
        conv => arg 1; cbv
        replace h := bif_some h
        obtain ⟨hb21, h⟩ := h
        refine sat_true (by first | exact hb21 | (subst_vars; first | exact hb21 | rfl)) ?_
        conv => arg 1; cbv
        obtain rfl := Option.some.inj h
        subst_vars
        first | exact sat_pure ⟨rfl, rfl, rfl⟩ | (refine sat_pure ⟨rfl, ?_, ?_⟩ <;> first | rfl | (dsimp only; simp only [ln_set]; rfl))
      · rw [hq14] at h
        dsimp only at h
        refine sat_find_some hΩ (mo_i_i64_i_i64 hE) hq14 (by first | rfl | (subst_vars; rfl)) (by first | rfl | (subst_vars; rfl)) ?_
        conv => arg 1; cbv
        refine sat_in hΩ ?_
        conv => arg 1; cbv
        obtain rfl := Option.some.inj h
        subst_vars
        first | exact sat_pure ⟨rfl, rfl, rfl⟩ | (refine sat_pure ⟨rfl, ?_, ?_⟩ <;> first | rfl | (dsimp only; simp only [ln_set]; rfl))
    · refine sat_brf (by first | exact hb10 | (subst_vars; first | exact hb10 | rfl)) ?_
      conv => arg 1; cbv
      obtain rfl := Option.some.inj h
      subst_vars
      first | exact sat_pure (.inl ⟨⟨_, rfl⟩, rfl⟩) | (refine sat_pure (.inl ⟨⟨_, rfl⟩, ?_⟩); dsimp only; simp only [ln_set]; rfl)
  · clear hl22
    rcases q with ⟨o23, o24, o25⟩
    dsimp only at h
    obtain ⟨ln_o23, hln_o23⟩ : ∃ n, ln o23 = n := ⟨_, rfl⟩
    simp only [hln_o23]
    conv => arg 1; cbv
    refine sat_true (len_ok hΩ (ro_i_i64 hE) o23 (by first | rfl | (subst_vars; rfl)) (by first | rfl | (subst_vars; rfl))) ?_
    conv => arg 1; cbv
    obtain rfl := Option.some.inj h
    subst_vars
    exact sat_pure (by cases fr <;> rfl)
set_option maxHeartbeats 4000000 in
theorem ok62x1 {Ω : Om} {E : Enc} (hΩ : real (call S) = Ω) (hE : theEnc = E) {fu : Nat} {a0 : Int} {b0 c0 : Sl Int} {b1 c1 : Sl Bool} {S : ((Sl Int) × (Sl Bool)) → St} {lz0 iz0 : Nat} {lz1 iz1 : Nat} (e0 : b0 = c0) (e1 : b1 = c1) (hg0 : ∀ s, X.look (S s) lz0 iz0 = some (X.Obj.box 31 (bx_31 E s.1))) (hu0 : ∀ s x, X.setO (S s) lz0 iz0 (X.Obj.box 31 (bx_31 E x)) = S (x, s.2)) (hg1 : ∀ s, X.look (S s) lz1 iz1 = some (X.Obj.box 34 (bx_34 E s.2))) (hu1 : ∀ s x, X.setO (S s) lz1 iz1 (X.Obj.box 34 (bx_34 E x)) = S (s.1, x)) {r : Int} (h : P62x1 fu a0 b0 b1 = some r) {args : List PV} (ha : [PV.d (.int .i64 a0), PV.ptr lz0 iz0 0, PV.ptr lz1 iz1 0] = args) {st : St} (hst : S (c0, c1) = st) :
    Sat (Ω.cf 62 args st) (fun q => q = (PV.d (.int .i64 r), S (c0, c1))) := by
  subst ha
  subst hst
  subst e0
  subst e1
  rcases b0 with ⟨b0_l, b0_x⟩
  rcases b1 with ⟨b1_l, b1_x⟩
  rw [cf_body hΩ (f := 62) (fn := Try.f62) (x := c62) rfl rfl c62_ok rfl]
  unfold P62x1 at h
  try dsimp only at h
  conv => arg 1; cbv
  obtain ⟨q, hl11, hz⟩ := Option.bind_eq_some_iff.1 h
  clear h
  have h := hz
  clear hz
  refine sat_loop hΩ (fun (a : Int × Int) => (match a with | (i1, i2) => ([(0, PV.d (.int .i64 a0)), (1, PV.ptr (lz0+1) iz0 0), (2, PV.ptr (lz1+1) iz1 0), (4, PV.d (.int .i64 i1)), (5, PV.d (.int .i64 i2))], ([] : List X.Obj) :: S ((Sl.mk b0_l b0_x), (Sl.mk b1_l b1_x))))) (fun (q : (Int × Int) ⊕ (Int × Int)) => (match q with | .inl (o12, o13) => (.exit 0, [(0, PV.d (.int .i64 a0)), (1, PV.ptr (lz0+1) iz0 0), (2, PV.ptr (lz1+1) iz1 0), (4, PV.d (.int .i64 o12)), (5, PV.d (.int .i64 o13))], ([] : List X.Obj) :: S ((Sl.mk b0_l b0_x), (Sl.mk b1_l b1_x))) | .inr (o14, o15) => (.ret, [(0, PV.d (.int .i64 a0)), (1, PV.ptr (lz0+1) iz0 0), (2, PV.ptr (lz1+1) iz1 0), (4, PV.d (.int .i64 o14)), (5, PV.d (.int .i64 o15))], ([] : List X.Obj) :: S ((Sl.mk b0_l b0_x), (Sl.mk b1_l b1_x))))) (0, w64 (a0 + 1)) hl11 (by first | rfl | (subst_vars; rfl) | (subst_vars; simp only [ln_set])) ?_ ?_
  · clear h hl11
    rintro ⟨i1, i2⟩ q h
    unfold P62x1_s0 at h
    dsimp only at h
    conv => arg 1; cbv
    refine sat_far hΩ (hg0 _) rfl ?_
    conv => arg 1; cbv
    refine sat_len hΩ (ro_i_i64 hE) b0_l (by first | rfl | (subst_vars; rfl)) fun n3 hn4 => ?_
    conv => arg 1; cbv
    refine sat_in hΩ ?_
    conv => arg 1; cbv
    replace h := bif_cases h
    rcases h with ⟨hb5, h⟩ | ⟨hb5, h⟩
    · refine sat_brt (by first | exact hb5 | (subst_vars; first | exact hb5 | rfl)) ?_
      conv => arg 1; cbv
      refine sat_far hΩ (hg1 _) rfl ?_
      conv => arg 1; cbv
      refine sat_true (fits_l hΩ (ro_bool hE) b1_l (by first | rfl | (subst_vars; rfl))) ?_
      conv => arg 1; cbv
      obtain ⟨x6, hx7, hz⟩ := Option.bind_eq_some_iff.1 h
      clear h
      have h := hz
      clear hz
      refine sat_bind (nth_ok hΩ (ro_bool hE) hx7 (by first | rfl | (subst_vars; rfl)) (by first | rfl | (subst_vars; rfl))) ?_
      conv => arg 1; cbv
      refine sat_in hΩ ?_
      conv => arg 1; cbv
      replace h := bif_cases h
      rcases h with ⟨hb8, h⟩ | ⟨hb8, h⟩
      · refine sat_brt (by first | exact hb8 | (subst_vars; first | exact hb8 | rfl)) ?_
        conv => arg 1; cbv
        refine sat_far hΩ (hg0 _) rfl ?_
        conv => arg 1; cbv
        refine sat_true (fits_l hΩ (ro_i_i64 hE) b0_l (by first | rfl | (subst_vars; rfl))) ?_
        conv => arg 1; cbv
        obtain ⟨x9, hx10, hz⟩ := Option.bind_eq_some_iff.1 h
        clear h
        have h := hz
        clear hz
        refine sat_bind (nth_ok hΩ (ro_i_i64 hE) hx10 (by first | rfl | (subst_vars; rfl)) (by first | rfl | (subst_vars; rfl))) ?_
        conv => arg 1; cbv
        obtain rfl := Option.some.inj h
        subst_vars
        first | exact sat_pure (.inr ⟨rfl, rfl⟩) | (refine sat_pure (.inr ⟨rfl, ?_⟩); dsimp only; simp only [ln_set]; rfl)
      · refine sat_brf (by first | exact hb8 | (subst_vars; first | exact hb8 | rfl)) ?_
        conv => arg 1; cbv
        obtain rfl := Option.some.inj h
        subst_vars
        first | exact sat_pure ⟨rfl, rfl, rfl⟩ | (refine sat_pure ⟨rfl, ?_, ?_⟩ <;> first | rfl | (dsimp only; simp only [ln_set]; rfl))
    · refine sat_brf (by first | exact hb5 | (subst_vars; first | exact hb5 | rfl)) ?_
      conv => arg 1; cbv
      obtain rfl := Option.some.inj h
      subst_vars
      first | exact sat_pure (.inl ⟨⟨_, rfl⟩, rfl⟩) | (refine sat_pure (.inl ⟨⟨_, rfl⟩, ?_⟩); dsimp only; simp only [ln_set]; rfl)
  · clear hl11
    rcases q with ⟨o12, o13⟩ | ⟨o14, o15⟩
    · dsimp only at h
      conv => arg 1; cbv
      obtain rfl := Option.some.inj h
      subst_vars
      exact sat_pure rfl
    · dsimp only at h
      conv => arg 1; cbv
      obtain rfl := Option.some.inj h
      subst_vars
      exact sat_pure rfl
set_option maxHeartbeats 4000000 in
theorem ok38 {Ω : Om} {E : Enc} (hΩ : real (call S) = Ω) (hE : theEnc = E) {fu : Nat} {a0 : Sl Int} {a1 : Sl Int} {r : (Sl PlaceStep)} (h : P38 fu a0 a1 = some r) {args : List PV} (ha : [PV.d (.sl (E.L_i_i64 a0.l) (E.X_i_i64 a0.x)), PV.d (.sl (E.L_i_i64 a1.l) (E.X_i_i64 a1.x))] = args) (st : St) :
    Sat (Ω.cf 38 args st) (fun q => q = (PV.d (.sl (E.L_PlaceStep r.l) (E.X_PlaceStep r.x)), st)) := by
  subst ha
  rcases a0 with ⟨a0_l, a0_x⟩
  rcases a1 with ⟨a1_l, a1_x⟩
  rw [cf_body hΩ (f := 38) (fn := Try.f38) (x := c38) rfl rfl c38_ok rfl]
  unfold P38 at h
  try dsimp only at h
  conv => arg 1; cbv
  refine sat_nil hΩ (ro_PlaceStep hE) fun l1 hl2 => ?_
  conv => arg 1; cbv
  obtain ⟨⟨⟨r4_l, r4_x⟩, r5⟩, hx3, hz⟩ := Option.bind_eq_some_iff.1 h
  clear h
  have h := hz
  clear hz
  try dsimp only at h
  refine sat_call (ok61 hΩ hE hx3 (by subst_vars; rfl) _ _) ?_
  conv => arg 1; cbv
  obtain ⟨⟨⟨r7_l, r7_x⟩, r8⟩, hx6, hz⟩ := Option.bind_eq_some_iff.1 h
  clear h
  have h := hz
  clear hz
  try dsimp only at h
  refine sat_call (ok61 hΩ hE hx6 (by subst_vars; rfl) _ _) ?_
  conv => arg 1; cbv
  refine sat_nil hΩ (ro_i_i64 hE) fun l9 hl10 => ?_
  conv => arg 1; cbv
  refine sat_len hΩ (ro_i_i64 hE) r7_l (by first | rfl | (subst_vars; rfl)) fun n11 hn12 => ?_
  conv => arg 1; cbv
  obtain ⟨q, hl30, hz⟩ := Option.bind_eq_some_iff.1 h
  clear h
  have h := hz
  clear hz
  refine sat_loop hΩ (fun (a : (List Int) × Int) => (match a with | (l13, i14) => ([(0, PV.d (.sl (E.L_i_i64 a0_l) (E.X_i_i64 a0_x))), (1, PV.d (.sl (E.L_i_i64 a1_l) (E.X_i_i64 a1_x))), (3, PV.ptr 0 0 0), (4, PV.row 0 1 0), (6, PV.map 0 2), (7, PV.row 0 4 (ln l13)), (26, PV.d (.sl (E.L_i_i64 r7_l) (E.X_i_i64 r7_x))), (27, PV.d (.int .i64 n11)), (28, PV.d (.int .i64 i14))], ([X.Obj.box 31 [.d (.sl (E.L_i_i64 r7_l) (E.X_i_i64 r7_x))], X.Obj.row 58 2 (E.L_PlaceStep l1) false none, X.Obj.map (some .i64) true (E.M_i_i64_i_i64 r5), X.Obj.map (some .i64) true (E.M_i_i64_i_i64 r8), X.Obj.row 3 1 (E.L_i_i64 l13) false none] : List X.Obj) :: st))) (fun (q : ((List Int) × Int)) => (match q with | (o31, o32) => (.exit 0, [(0, PV.d (.sl (E.L_i_i64 a0_l) (E.X_i_i64 a0_x))), (1, PV.d (.sl (E.L_i_i64 a1_l) (E.X_i_i64 a1_x))), (3, PV.ptr 0 0 0), (4, PV.row 0 1 0), (6, PV.map 0 2), (7, PV.row 0 4 (ln o31)), (26, PV.d (.sl (E.L_i_i64 r7_l) (E.X_i_i64 r7_x))), (27, PV.d (.int .i64 n11)), (28, PV.d (.int .i64 o32))], ([X.Obj.box 31 [.d (.sl (E.L_i_i64 r7_l) (E.X_i_i64 r7_x))], X.Obj.row 58 2 (E.L_PlaceStep l1) false none, X.Obj.map (some .i64) true (E.M_i_i64_i_i64 r5), X.Obj.map (some .i64) true (E.M_i_i64_i_i64 r8), X.Obj.row 3 1 (E.L_i_i64 o31) false none] : List X.Obj) :: st))) (([] : List Int), 0) hl30 (by first | rfl | (subst_vars; rfl) | (subst_vars; simp only [ln_set])) ?_ ?_
  · clear h hl30
    rintro ⟨l13, i14⟩ q h
    unfold P38_s0 at h
    dsimp only at h
    obtain ⟨ln_l13, hln_l13⟩ : ∃ n, ln l13 = n := ⟨_, rfl⟩
    simp only [hln_l13]
    conv => arg 1; cbv
    refine sat_in hΩ ?_
    conv => arg 1; cbv
    replace h := bif_cases h
    rcases h with ⟨hb15, h⟩ | ⟨hb15, h⟩
    · refine sat_brt (by first | exact hb15 | (subst_vars; first | exact hb15 | rfl)) ?_
      conv => arg 1; cbv
      refine sat_true (fits_l hΩ (ro_i_i64 hE) r7_l (by first | rfl | (subst_vars; rfl))) ?_
      conv => arg 1; cbv
      obtain ⟨x16, hx17, hz⟩ := Option.bind_eq_some_iff.1 h
      clear h
      have h := hz
      clear hz
      refine sat_bind (nth_ok hΩ (ro_i_i64 hE) hx17 (by first | rfl | (subst_vars; rfl)) (by first | rfl | (subst_vars; rfl))) ?_
      conv => arg 1; cbv
      rcases hq19 : mget r5 x16 with _ | x18
      · rw [hq19] at h
        dsimp only at h
        refine sat_find_none hΩ (mo_i_i64_i_i64 hE) hq19 (by first | rfl | (subst_vars; rfl)) (by first | rfl | (subst_vars; rfl)) ?_
        conv => arg 1; cbv
        refine sat_in hΩ ?_
        conv => arg 1; cbv
        refine sat_true (ieq_ok hΩ _) ?_
        conv => arg 1; cbv
        refine sat_true (fits_l hΩ (ro_i_i64 hE) [(-1)] (by first | rfl | (subst_vars; rfl))) ?_
        conv => arg 1; cbv
        refine sat_true (len_ok hΩ (ro_i_i64 hE) l13 (by first | rfl | (subst_vars; rfl) | (subst_vars; simp only [ln_set])) (by first | rfl | (subst_vars; rfl) | (subst_vars; simp only [ln_set]))) ?_
        conv => arg 1; cbv
        refine sat_brf (len_zero hΩ (ro_i_i64 hE) (l := [(-1)]) (b := false) (by rfl) (by first | rfl | (subst_vars; rfl))) ?_
        conv => arg 1; cbv
        refine sat_cat hΩ (ro_i_i64 hE) l13 [(-1)] (by first | rfl | (subst_vars; rfl)) (by first | rfl | (subst_vars; rfl)) fun l20 hl21 n22 hn23 => ?_
        conv => arg 1; cbv
        replace h := bif_some h
        obtain ⟨hb24, h⟩ := h
        refine sat_true (by first | exact hb24 | (subst_vars; first | exact hb24 | rfl)) ?_
        conv => arg 1; cbv
        obtain rfl := Option.some.inj h
        subst_vars
        first | exact sat_pure ⟨rfl, rfl, rfl⟩ | (refine sat_pure ⟨rfl, ?_, ?_⟩ <;> first | rfl | (dsimp only; simp only [ln_set]; rfl))
      · rw [hq19] at h
        dsimp only at h
        refine sat_find_some hΩ (mo_i_i64_i_i64 hE) hq19 (by first | rfl | (subst_vars; rfl)) (by first | rfl | (subst_vars; rfl)) ?_
        conv => arg 1; cbv
        refine sat_in hΩ ?_
        conv => arg 1; cbv
        refine sat_true (ieq_ok hΩ _) ?_
        conv => arg 1; cbv
        refine sat_true (fits_l hΩ (ro_i_i64 hE) [x18] (by first | rfl | (subst_vars; rfl))) ?_
        conv => arg 1; cbv
        refine sat_true (len_ok hΩ (ro_i_i64 hE) l13 (by first | rfl | (subst_vars; rfl) | (subst_vars; simp only [ln_set])) (by first | rfl | (subst_vars; rfl) | (subst_vars; simp only [ln_set]))) ?_
        conv => arg 1; cbv
        refine sat_brf (len_zero hΩ (ro_i_i64 hE) (l := [x18]) (b := false) (by rfl) (by first | rfl | (subst_vars; rfl))) ?_
        conv => arg 1; cbv
        refine sat_cat hΩ (ro_i_i64 hE) l13 [x18] (by first | rfl | (subst_vars; rfl)) (by first | rfl | (subst_vars; rfl)) fun l25 hl26 n27 hn28 => ?_
        conv => arg 1; cbv
        replace h := bif_some h
        obtain ⟨hb29, h⟩ := h
        refine sat_true (by first | exact hb29 | (subst_vars; first | exact hb29 | rfl)) ?_
        conv => arg 1; cbv
        obtain rfl := Option.some.inj h
        subst_vars
        first | exact sat_pure ⟨rfl, rfl, rfl⟩ | (refine sat_pure ⟨rfl, ?_, ?_⟩ <;> first | rfl | (dsimp only; simp only [ln_set]; rfl))
    · refine sat_brf (by first | exact hb15 | (subst_vars; first | exact hb15 | rfl)) ?_
      conv => arg 1; cbv
      obtain rfl := Option.some.inj h
      subst_vars
      first | exact sat_pure (.inl ⟨⟨_, rfl⟩, rfl⟩) | (refine sat_pure (.inl ⟨⟨_, rfl⟩, ?_⟩); dsimp only; simp only [ln_set]; rfl)
  · clear hl30
    rcases q with ⟨o31, o32⟩
    dsimp only at h
    obtain ⟨ln_o31, hln_o31⟩ : ∃ n, ln o31 = n := ⟨_, rfl⟩
    simp only [hln_o31]
    conv => arg 1; cbv
    refine sat_true (len_ok hΩ (ro_i_i64 hE) o31 (by first | rfl | (subst_vars; rfl)) (by first | rfl | (subst_vars; rfl))) ?_
    conv => arg 1; cbv
    obtain ⟨⟨r33_l, r33_x⟩, hx34, hz⟩ := Option.bind_eq_some_iff.1 h
    clear h
    have h := hz
    clear hz
    try dsimp only at h
    refine sat_call (ok21 hΩ hE hx34 (by subst_vars; rfl) _) ?_
    conv => arg 1; cbv
    refine sat_len hΩ (ro_i_i64 hE) r7_l (by first | rfl | (subst_vars; rfl)) fun n35 hn36 => ?_
    conv => arg 1; cbv
    obtain ⟨q, hl52, hz⟩ := Option.bind_eq_some_iff.1 h
    clear h
    have h := hz
    clear hz
    refine sat_loop hΩ (fun (a : (List PlaceStep) × Int) => (match a with | (l37, i38) => ([(0, PV.d (.sl (E.L_i_i64 a0_l) (E.X_i_i64 a0_x))), (1, PV.d (.sl (E.L_i_i64 a1_l) (E.X_i_i64 a1_x))), (3, PV.ptr 0 0 0), (4, PV.row 0 1 (ln l37)), (6, PV.map 0 2), (7, PV.row 0 4 (ln o31)), (12, PV.ptr 0 5 0), (13, PV.fn 62 [.ptr 0 0 0, .ptr 0 5 0]), (26, PV.d (.sl (E.L_i_i64 r7_l) (E.X_i_i64 r7_x))), (27, PV.d (.int .i64 n11)), (28, PV.d (.int .i64 o32)), (50, PV.d (.sl (E.L_i_i64 r7_l) (E.X_i_i64 r7_x))), (51, PV.d (.int .i64 n35)), (52, PV.d (.int .i64 i38))], ([X.Obj.box 31 [.d (.sl (E.L_i_i64 r7_l) (E.X_i_i64 r7_x))], X.Obj.row 58 2 (E.L_PlaceStep l37) false none, X.Obj.map (some .i64) true (E.M_i_i64_i_i64 r5), X.Obj.map (some .i64) true (E.M_i_i64_i_i64 r8), X.Obj.row 3 1 (E.L_i_i64 o31) false none, X.Obj.box 34 [.d (.sl (E.L_bool r33_l) (E.X_bool r33_x))]] : List X.Obj) :: st))) (fun (q : ((List PlaceStep) × Int)) => (match q with | (o53, o54) => (.exit 2, [(0, PV.d (.sl (E.L_i_i64 a0_l) (E.X_i_i64 a0_x))), (1, PV.d (.sl (E.L_i_i64 a1_l) (E.X_i_i64 a1_x))), (3, PV.ptr 0 0 0), (4, PV.row 0 1 (ln o53)), (6, PV.map 0 2), (7, PV.row 0 4 (ln o31)), (12, PV.ptr 0 5 0), (13, PV.fn 62 [.ptr 0 0 0, .ptr 0 5 0]), (26, PV.d (.sl (E.L_i_i64 r7_l) (E.X_i_i64 r7_x))), (27, PV.d (.int .i64 n11)), (28, PV.d (.int .i64 o32)), (50, PV.d (.sl (E.L_i_i64 r7_l) (E.X_i_i64 r7_x))), (51, PV.d (.int .i64 n35)), (52, PV.d (.int .i64 o54))], ([X.Obj.box 31 [.d (.sl (E.L_i_i64 r7_l) (E.X_i_i64 r7_x))], X.Obj.row 58 2 (E.L_PlaceStep o53) false none, X.Obj.map (some .i64) true (E.M_i_i64_i_i64 r5), X.Obj.map (some .i64) true (E.M_i_i64_i_i64 r8), X.Obj.row 3 1 (E.L_i_i64 o31) false none, X.Obj.box 34 [.d (.sl (E.L_bool r33_l) (E.X_bool r33_x))]] : List X.Obj) :: st))) (([] : List PlaceStep), 0) hl52 (by first | rfl | (subst_vars; rfl) | (subst_vars; simp only [ln_set])) ?_ ?_
    · clear h hl52
      rintro ⟨l37, i38⟩ q h
      unfold P38_s1 at h
      dsimp only at h
      obtain ⟨ln_l37, hln_l37⟩ : ∃ n, ln l37 = n := ⟨_, rfl⟩
      simp only [hln_l37]
      obtain ⟨ln_o31, hln_o31⟩ : ∃ n, ln o31 = n := ⟨_, rfl⟩
      simp only [hln_o31]
      conv => arg 1; cbv
      refine sat_in hΩ ?_
      conv => arg 1; cbv
      replace h := bif_cases h
      rcases h with ⟨hb39, h⟩ | ⟨hb39, h⟩
      · refine sat_brt (by first | exact hb39 | (subst_vars; first | exact hb39 | rfl)) ?_
        conv => arg 1; cbv
        refine sat_true (fits_l hΩ (ro_i_i64 hE) r7_l (by first | rfl | (subst_vars; rfl))) ?_
        conv => arg 1; cbv
        obtain ⟨x40, hx41, hz⟩ := Option.bind_eq_some_iff.1 h
        clear h
        have h := hz
        clear hz
        refine sat_bind (nth_ok hΩ (ro_i_i64 hE) hx41 (by first | rfl | (subst_vars; rfl)) (by first | rfl | (subst_vars; rfl))) ?_
        conv => arg 1; cbv
        refine sat_true (fits_l hΩ (ro_bool hE) r33_l (by first | rfl | (subst_vars; rfl))) ?_
        conv => arg 1; cbv
        obtain ⟨x42, hx43, hz⟩ := Option.bind_eq_some_iff.1 h
        clear h
        have h := hz
        clear hz
        refine sat_bind (nth_ok hΩ (ro_bool hE) hx43 (by first | rfl | (subst_vars; rfl)) (by first | rfl | (subst_vars; rfl))) ?_
        conv => arg 1; cbv
        refine sat_in hΩ ?_
        conv => arg 1; cbv
        replace h := bif_cases h
        rcases h with ⟨hb44, h⟩ | ⟨hb44, h⟩
        · refine sat_brt (by first | exact hb44 | (subst_vars; first | exact hb44 | rfl)) ?_
          conv => arg 1; cbv
          obtain ⟨r46, hx45, hz⟩ := Option.bind_eq_some_iff.1 h
          clear h
          have h := hz
          clear hz
          refine sat_call (ok62x1 hΩ hE (S := (fun (s : (Sl Int) × (Sl Bool)) => ([X.Obj.box 31 (bx_31 E s.1), X.Obj.row 58 2 (E.L_PlaceStep l37) false none, X.Obj.map (some .i64) true (E.M_i_i64_i_i64 r5), X.Obj.map (some .i64) true (E.M_i_i64_i_i64 r8), X.Obj.row 3 1 (E.L_i_i64 o31) false none, X.Obj.box 34 (bx_34 E s.2)] : List X.Obj) :: st)) (lz0 := 0) (iz0 := 0) (c0 := (Sl.mk r7_l r7_x)) (lz1 := 0) (iz1 := 5) (c1 := (Sl.mk r33_l r33_x)) (by subst_vars; rfl) (by subst_vars; rfl) (fun s => rfl) (fun s x => rfl) (fun s => rfl) (fun s x => rfl) hx45 (by subst_vars; rfl) (by subst_vars; rfl)) ?_
          conv => arg 1; cbv
          refine sat_true (ieq_ok hΩ _) ?_
          conv => arg 1; cbv
          refine sat_true (fits_l hΩ (ro_PlaceStep hE) [(PlaceStep.mk x40 r46)] (by first | rfl | (subst_vars; rfl))) ?_
          conv => arg 1; cbv
          refine sat_true (len_ok hΩ (ro_PlaceStep hE) l37 (by first | rfl | (subst_vars; rfl) | (subst_vars; simp only [ln_set])) (by first | rfl | (subst_vars; rfl) | (subst_vars; simp only [ln_set]))) ?_
          conv => arg 1; cbv
          refine sat_brf (len_zero hΩ (ro_PlaceStep hE) (l := [(PlaceStep.mk x40 r46)]) (b := false) (by rfl) (by first | rfl | (subst_vars; rfl))) ?_
          conv => arg 1; cbv
          refine sat_cat hΩ (ro_PlaceStep hE) l37 [(PlaceStep.mk x40 r46)] (by first | rfl | (subst_vars; rfl)) (by first | rfl | (subst_vars; rfl)) fun l47 hl48 n49 hn50 => ?_
          conv => arg 1; cbv
          replace h := bif_some h
          obtain ⟨hb51, h⟩ := h
          refine sat_true (by first | exact hb51 | (subst_vars; first | exact hb51 | rfl)) ?_
          conv => arg 1; cbv
          obtain rfl := Option.some.inj h
          subst_vars
          first | exact sat_pure ⟨rfl, rfl, rfl⟩ | (refine sat_pure ⟨rfl, ?_, ?_⟩ <;> first | rfl | (dsimp only; simp only [ln_set]; rfl))
        · refine sat_brf (by first | exact hb44 | (subst_vars; first | exact hb44 | rfl)) ?_
          conv => arg 1; cbv
          obtain rfl := Option.some.inj h
          subst_vars
          first | exact sat_pure ⟨rfl, rfl, rfl⟩ | (refine sat_pure ⟨rfl, ?_, ?_⟩ <;> first | rfl | (dsimp only; simp only [ln_set]; rfl))
      · refine sat_brf (by first | exact hb39 | (subst_vars; first | exact hb39 | rfl)) ?_
        conv => arg 1; cbv
        obtain rfl := Option.some.inj h
        subst_vars
        first | exact sat_pure (.inl ⟨⟨_, rfl⟩, rfl⟩) | (refine sat_pure (.inl ⟨⟨_, rfl⟩, ?_⟩); dsimp only; simp only [ln_set]; rfl)
    · clear hl52
      rcases q with ⟨o53, o54⟩
      dsimp only at h
      obtain ⟨ln_o53, hln_o53⟩ : ∃ n, ln o53 = n := ⟨_, rfl⟩
      simp only [hln_o53]
      obtain ⟨ln_o31, hln_o31⟩ : ∃ n, ln o31 = n := ⟨_, rfl⟩
      simp only [hln_o31]
      conv => arg 1; cbv
      refine sat_true (len_ok hΩ (ro_PlaceStep hE) o53 (by first | rfl | (subst_vars; rfl)) (by first | rfl | (subst_vars; rfl))) ?_
      conv => arg 1; cbv
      obtain rfl := Option.some.inj h
      subst_vars
      exact sat_pure rfl
set_option maxHeartbeats 4000000 in
theorem ok42 {Ω : Om} {E : Enc} (hΩ : real (call S) = Ω) (hE : theEnc = E) {fu : Nat} {r : Bool} (h : P42 fu = some r) {args : List PV} (ha : [] = args) (st : St) :
    Sat (Ω.cf 42 args st) (fun q => q = (PV.d (.bool r), st)) := by
  subst ha
  rw [cf_body hΩ (f := 42) (fn := Try.f42) (x := c42) rfl rfl c42_ok rfl]
  unfold P42 at h
  try dsimp only at h
  conv => arg 1; cbv
  obtain ⟨⟨r1_l, r1_x⟩, hx2, hz⟩ := Option.bind_eq_some_iff.1 h
  clear h
  have h := hz
  clear hz
  try dsimp only at h
  refine sat_call (ok21 hΩ hE hx2 (by subst_vars; rfl) _) ?_
  conv => arg 1; cbv
  obtain ⟨⟨r3_l, r3_x⟩, hx4, hz⟩ := Option.bind_eq_some_iff.1 h
  clear h
  have h := hz
  clear hz
  try dsimp only at h
  refine sat_call (ok38 hΩ hE hx4 (by subst_vars; rfl) _) ?_
  conv => arg 1; cbv
  obtain ⟨⟨r5_l, r5_x⟩, hx6, hz⟩ := Option.bind_eq_some_iff.1 h
  clear h
  have h := hz
  clear hz
  try dsimp only at h
  refine sat_call (ok38 hΩ hE hx6 (by subst_vars; rfl) _) ?_
  conv => arg 1; cbv
  refine sat_len hΩ (ro_bool hE) r1_l (by first | rfl | (subst_vars; rfl)) fun n7 hn8 => ?_
  conv => arg 1; cbv
  replace h := bif_cases h
  rcases h with ⟨hb9, h⟩ | ⟨hb9, h⟩
  · refine sat_brt (by first | exact hb9 | (subst_vars; first | exact hb9 | rfl)) ?_
    conv => arg 1; cbv
    refine sat_true (fits_l hΩ (ro_bool hE) r1_l (by first | rfl | (subst_vars; rfl))) ?_
    conv => arg 1; cbv
    obtain ⟨x10, hx11, hz⟩ := Option.bind_eq_some_iff.1 h
    clear h
    have h := hz
    clear hz
    refine sat_bind (nth_ok hΩ (ro_bool hE) hx11 (by first | rfl | (subst_vars; rfl)) (by first | rfl | (subst_vars; rfl))) ?_
    conv => arg 1; cbv
    replace h := bif_cases h
    rcases h with ⟨hb12, h⟩ | ⟨hb12, h⟩
    · refine sat_brt (by first | exact hb12 | (subst_vars; first | exact hb12 | rfl)) ?_
      conv => arg 1; cbv
      refine sat_true (fits_l hΩ (ro_bool hE) r1_l (by first | rfl | (subst_vars; rfl))) ?_
      conv => arg 1; cbv
      obtain ⟨x13, hx14, hz⟩ := Option.bind_eq_some_iff.1 h
      clear h
      have h := hz
      clear hz
      refine sat_bind (nth_ok hΩ (ro_bool hE) hx14 (by first | rfl | (subst_vars; rfl)) (by first | rfl | (subst_vars; rfl))) ?_
      conv => arg 1; cbv
      refine sat_tick hΩ ?_
      conv => arg 1; cbv
      replace h := bif_cases h
      rcases h with ⟨hb15, h⟩ | ⟨hb15, h⟩
      · refine sat_brt (by first | exact hb15 | (subst_vars; first | exact hb15 | rfl)) ?_
        conv => arg 1; cbv
        refine sat_true (fits_l hΩ (ro_bool hE) r1_l (by first | rfl | (subst_vars; rfl))) ?_
        conv => arg 1; cbv
        obtain ⟨x16, hx17, hz⟩ := Option.bind_eq_some_iff.1 h
        clear h
        have h := hz
        clear hz
        refine sat_bind (nth_ok hΩ (ro_bool hE) hx17 (by first | rfl | (subst_vars; rfl)) (by first | rfl | (subst_vars; rfl))) ?_
        conv => arg 1; cbv
        replace h := bif_cases h
        rcases h with ⟨hb18, h⟩ | ⟨hb18, h⟩
        · refine sat_brt (by first | exact hb18 | (subst_vars; first | exact hb18 | rfl)) ?_
          conv => arg 1; cbv
          refine sat_true (fits_l hΩ (ro_bool hE) r1_l (by first | rfl | (subst_vars; rfl))) ?_
          conv => arg 1; cbv
          obtain ⟨x19, hx20, hz⟩ := Option.bind_eq_some_iff.1 h
          clear h
          have h := hz
          clear hz
          refine sat_bind (nth_ok hΩ (ro_bool hE) hx20 (by first | rfl | (subst_vars; rfl)) (by first | rfl | (subst_vars; rfl))) ?_
          conv => arg 1; cbv
          refine sat_tick hΩ ?_
          conv => arg 1; cbv
          replace h := bif_cases h
          rcases h with ⟨hb21, h⟩ | ⟨hb21, h⟩
          · refine sat_brt (by first | exact hb21 | (subst_vars; first | exact hb21 | rfl)) ?_
            conv => arg 1; cbv
            refine sat_len hΩ (ro_PlaceStep hE) r3_l (by first | rfl | (subst_vars; rfl)) fun n22 hn23 => ?_
            conv => arg 1; cbv
            replace h := bif_cases h
            rcases h with ⟨hb24, h⟩ | ⟨hb24, h⟩
            · refine sat_brt (by first | exact hb24 | (subst_vars; first | exact hb24 | rfl)) ?_
              conv => arg 1; cbv
              refine sat_true (fits_l hΩ (ro_PlaceStep hE) r3_l (by first | rfl | (subst_vars; rfl))) ?_
              conv => arg 1; cbv
              obtain ⟨⟨x25_Node, x25_Before⟩, hx26, hz⟩ := Option.bind_eq_some_iff.1 h
              clear h
              have h := hz
              clear hz
              try dsimp only at h
              refine sat_bind (nth_ok hΩ (ro_PlaceStep hE) hx26 (by first | rfl | (subst_vars; rfl)) (by first | rfl | (subst_vars; rfl))) ?_
              conv => arg 1; cbv
              refine sat_tick hΩ ?_
              conv => arg 1; cbv
              replace h := bif_cases h
              rcases h with ⟨hb27, h⟩ | ⟨hb27, h⟩
              · refine sat_brt (by first | exact hb27 | (subst_vars; first | exact hb27 | rfl)) ?_
                conv => arg 1; cbv
                refine sat_len hΩ (ro_PlaceStep hE) r5_l (by first | rfl | (subst_vars; rfl)) fun n28 hn29 => ?_
                conv => arg 1; cbv
                replace h := bif_cases h
                rcases h with ⟨hb30, h⟩ | ⟨hb30, h⟩
                · refine sat_brt (by first | exact hb30 | (subst_vars; first | exact hb30 | rfl)) ?_
                  conv => arg 1; cbv
                  refine sat_true (fits_l hΩ (ro_PlaceStep hE) r5_l (by first | rfl | (subst_vars; rfl))) ?_
                  conv => arg 1; cbv
                  obtain ⟨⟨x31_Node, x31_Before⟩, hx32, hz⟩ := Option.bind_eq_some_iff.1 h
                  clear h
                  have h := hz
                  clear hz
                  try dsimp only at h
                  refine sat_bind (nth_ok hΩ (ro_PlaceStep hE) hx32 (by first | rfl | (subst_vars; rfl)) (by first | rfl | (subst_vars; rfl))) ?_
                  conv => arg 1; cbv
                  refine sat_tick hΩ ?_
                  conv => arg 1; cbv
                  obtain rfl := Option.some.inj h
                  subst_vars
                  exact sat_pure rfl
                · refine sat_brf (by first | exact hb30 | (subst_vars; first | exact hb30 | rfl)) ?_
                  conv => arg 1; cbv
                  refine sat_tick hΩ ?_
                  conv => arg 1; cbv
                  obtain rfl := Option.some.inj h
                  subst_vars
                  exact sat_pure rfl
              · refine sat_brf (by first | exact hb27 | (subst_vars; first | exact hb27 | rfl)) ?_
                conv => arg 1; cbv
                refine sat_tick hΩ ?_
                conv => arg 1; cbv
                obtain rfl := Option.some.inj h
                subst_vars
                exact sat_pure rfl
            · refine sat_brf (by first | exact hb24 | (subst_vars; first | exact hb24 | rfl)) ?_
              conv => arg 1; cbv
              refine sat_tick hΩ ?_
              conv => arg 1; cbv
              refine sat_tick hΩ ?_
              conv => arg 1; cbv
              obtain rfl := Option.some.inj h
              subst_vars
              exact sat_pure rfl
          · refine sat_brf (by first | exact hb21 | (subst_vars; first | exact hb21 | rfl)) ?_
            conv => arg 1; cbv
            refine sat_tick hΩ ?_
            conv => arg 1; cbv
            refine sat_tick hΩ ?_
            conv => arg 1; cbv
            obtain rfl := Option.some.inj h
            subst_vars
            exact sat_pure rfl
        · refine sat_brf (by first | exact hb18 | (subst_vars; first | exact hb18 | rfl)) ?_
          conv => arg 1; cbv
          refine sat_tick hΩ ?_
          conv => arg 1; cbv
          refine sat_tick hΩ ?_
          conv => arg 1; cbv
          refine sat_tick hΩ ?_
          conv => arg 1; cbv
          obtain rfl := Option.some.inj h
          subst_vars
          exact sat_pure rfl
      · refine sat_brf (by first | exact hb15 | (subst_vars; first | exact hb15 | rfl)) ?_
        conv => arg 1; cbv
        refine sat_tick hΩ ?_
        conv => arg 1; cbv
        refine sat_tick hΩ ?_
        conv => arg 1; cbv
        refine sat_tick hΩ ?_
        conv => arg 1; cbv
        obtain rfl := Option.some.inj h
        subst_vars
        exact sat_pure rfl
    · refine sat_brf (by first | exact hb12 | (subst_vars; first | exact hb12 | rfl)) ?_
      conv => arg 1; cbv
      refine sat_tick hΩ ?_
      conv => arg 1; cbv
      refine sat_tick hΩ ?_
      conv => arg 1; cbv
      refine sat_tick hΩ ?_
      conv => arg 1; cbv
      refine sat_tick hΩ ?_
      conv => arg 1; cbv
      obtain rfl := Option.some.inj h
      subst_vars
      exact sat_pure rfl
  · refine sat_brf (by first | exact hb9 | (subst_vars; first | exact hb9 | rfl)) ?_
    conv => arg 1; cbv
    refine sat_tick hΩ ?_
    conv => arg 1; cbv
    refine sat_tick hΩ ?_
    conv => arg 1; cbv
    refine sat_tick hΩ ?_
    conv => arg 1; cbv
    refine sat_tick hΩ ?_
    conv => arg 1; cbv
    obtain rfl := Option.some.inj h
    subst_vars
    exact sat_pure rfl
set_option maxHeartbeats 4000000 in
theorem ok41 {Ω : Om} {E : Enc} (hΩ : real (call S) = Ω) (hE : theEnc = E) {fu : Nat} {a0 : Sl Int} {a1 : Sl Int} {r : (Sl Int)} (h : P41 fu a0 a1 = some r) {args : List PV} (ha : [PV.d (.sl (E.L_i_i64 a0.l) (E.X_i_i64 a0.x)), PV.d (.sl (E.L_i_i64 a1.l) (E.X_i_i64 a1.x))] = args) (st : St) :
    Sat (Ω.cf 41 args st) (fun q => q = (PV.d (.sl (E.L_i_i64 r.l) (E.X_i_i64 r.x)), st)) := by
  subst ha
  rcases a0 with ⟨a0_l, a0_x⟩
  rcases a1 with ⟨a1_l, a1_x⟩
  rw [cf_body hΩ (f := 41) (fn := Try.f41) (x := c41) rfl rfl c41_ok rfl]
  unfold P41 at h
  try dsimp only at h
  conv => arg 1; cbv
  refine sat_nil hΩ (ro_i_i64 hE) fun l1 hl2 => ?_
  conv => arg 1; cbv
  obtain ⟨q, hl20, hz⟩ := Option.bind_eq_some_iff.1 h
  clear h
  have h := hz
  clear hz
  refine sat_loop hΩ (fun (a : (List Int) × Int) => (match a with | (l3, i4) => ([(0, PV.d (.sl (E.L_i_i64 a0_l) (E.X_i_i64 a0_x))), (1, PV.d (.sl (E.L_i_i64 a1_l) (E.X_i_i64 a1_x))), (4, PV.d (.sl [] (some []))), (5, PV.row 0 0 (ln l3)), (6, PV.d (.int .i64 i4))], ([X.Obj.row 3 1 (E.L_i_i64 l3) false none] : List X.Obj) :: st))) (fun (q : ((List Int) × Int)) => (match q with | (o21, o22) => (.exit 0, [(0, PV.d (.sl (E.L_i_i64 a0_l) (E.X_i_i64 a0_x))), (1, PV.d (.sl (E.L_i_i64 a1_l) (E.X_i_i64 a1_x))), (4, PV.d (.sl [] (some []))), (5, PV.row 0 0 (ln o21)), (6, PV.d (.int .i64 o22))], ([X.Obj.row 3 1 (E.L_i_i64 o21) false none] : List X.Obj) :: st))) (([] : List Int), 0) hl20 (by first | rfl | (subst_vars; rfl) | (subst_vars; simp only [ln_set])) ?_ ?_
  · clear h hl20
    rintro ⟨l3, i4⟩ q h
    unfold P41_s0 at h
    dsimp only at h
    obtain ⟨ln_l3, hln_l3⟩ : ∃ n, ln l3 = n := ⟨_, rfl⟩
    simp only [hln_l3]
    conv => arg 1; cbv
    refine sat_len hΩ (ro_i_i64 hE) a0_l (by first | rfl | (subst_vars; rfl)) fun n5 hn6 => ?_
    conv => arg 1; cbv
    refine sat_in hΩ ?_
    conv => arg 1; cbv
    replace h := bif_cases h
    rcases h with ⟨hb7, h⟩ | ⟨hb7, h⟩
    · refine sat_brt (by first | exact hb7 | (subst_vars; first | exact hb7 | rfl)) ?_
      conv => arg 1; cbv
      refine sat_true (fits_l hΩ (ro_i_i64 hE) a0_l (by first | rfl | (subst_vars; rfl))) ?_
      conv => arg 1; cbv
      obtain ⟨x8, hx9, hz⟩ := Option.bind_eq_some_iff.1 h
      clear h
      have h := hz
      clear hz
      refine sat_bind (nth_ok hΩ (ro_i_i64 hE) hx9 (by first | rfl | (subst_vars; rfl)) (by first | rfl | (subst_vars; rfl))) ?_
      conv => arg 1; cbv
      obtain ⟨r10, hx11, hz⟩ := Option.bind_eq_some_iff.1 h
      clear h
      have h := hz
      clear hz
      refine sat_call (ok44 hΩ hE hx11 (by subst_vars; rfl) _) ?_
      conv => arg 1; cbv
      refine sat_in hΩ ?_
      conv => arg 1; cbv
      replace h := bif_cases h
      rcases h with ⟨hb12, h⟩ | ⟨hb12, h⟩
      · refine sat_brt (by first | exact hb12 | (subst_vars; first | exact hb12 | rfl)) ?_
        conv => arg 1; cbv
        refine sat_true (fits_l hΩ (ro_i_i64 hE) a0_l (by first | rfl | (subst_vars; rfl))) ?_
        conv => arg 1; cbv
        obtain ⟨x13, hx14, hz⟩ := Option.bind_eq_some_iff.1 h
        clear h
        have h := hz
        clear hz
        refine sat_bind (nth_ok hΩ (ro_i_i64 hE) hx14 (by first | rfl | (subst_vars; rfl)) (by first | rfl | (subst_vars; rfl))) ?_
        conv => arg 1; cbv
        refine sat_true (ieq_ok hΩ _) ?_
        conv => arg 1; cbv
        refine sat_true (fits_l hΩ (ro_i_i64 hE) [x13] (by first | rfl | (subst_vars; rfl))) ?_
        conv => arg 1; cbv
        refine sat_true (len_ok hΩ (ro_i_i64 hE) l3 (by first | rfl | (subst_vars; rfl) | (subst_vars; simp only [ln_set])) (by first | rfl | (subst_vars; rfl) | (subst_vars; simp only [ln_set]))) ?_
        conv => arg 1; cbv
        refine sat_brf (len_zero hΩ (ro_i_i64 hE) (l := [x13]) (b := false) (by rfl) (by first | rfl | (subst_vars; rfl))) ?_
        conv => arg 1; cbv
        refine sat_cat hΩ (ro_i_i64 hE) l3 [x13] (by first | rfl | (subst_vars; rfl)) (by first | rfl | (subst_vars; rfl)) fun l15 hl16 n17 hn18 => ?_
        conv => arg 1; cbv
        replace h := bif_some h
        obtain ⟨hb19, h⟩ := h
        refine sat_true (by first | exact hb19 | (subst_vars; first | exact hb19 | rfl)) ?_
        conv => arg 1; cbv
        obtain rfl := Option.some.inj h
        subst_vars
        first | exact sat_pure ⟨rfl, rfl, rfl⟩ | (refine sat_pure ⟨rfl, ?_, ?_⟩ <;> first | rfl | (dsimp only; simp only [ln_set]; rfl))
      · refine sat_brf (by first | exact hb12 | (subst_vars; first | exact hb12 | rfl)) ?_
        conv => arg 1; cbv
        obtain rfl := Option.some.inj h
        subst_vars
        first | exact sat_pure ⟨rfl, rfl, rfl⟩ | (refine sat_pure ⟨rfl, ?_, ?_⟩ <;> first | rfl | (dsimp only; simp only [ln_set]; rfl))
    · refine sat_brf (by first | exact hb7 | (subst_vars; first | exact hb7 | rfl)) ?_
      conv => arg 1; cbv
      obtain rfl := Option.some.inj h
      subst_vars
      first | exact sat_pure (.inl ⟨⟨_, rfl⟩, rfl⟩) | (refine sat_pure (.inl ⟨⟨_, rfl⟩, ?_⟩); dsimp only; simp only [ln_set]; rfl)
  · clear hl20
    rcases q with ⟨o21, o22⟩
    dsimp only at h
    obtain ⟨ln_o21, hln_o21⟩ : ∃ n, ln o21 = n := ⟨_, rfl⟩
    simp only [hln_o21]
    conv => arg 1; cbv
    refine sat_true (len_ok hΩ (ro_i_i64 hE) o21 (by first | rfl | (subst_vars; rfl)) (by first | rfl | (subst_vars; rfl))) ?_
    conv => arg 1; cbv
    obtain rfl := Option.some.inj h
    subst_vars
    exact sat_pure rfl
set_option maxHeartbeats 4000000 in
theorem ok11 {Ω : Om} {E : Enc} (hΩ : real (call S) = Ω) (hE : theEnc = E) {fu : Nat} {a0 : Sl Int} {a1 : Sl Int} {r : Bool} (h : P11 fu a0 a1 = some r) {args : List PV} (ha : [PV.d (.sl (E.L_i_u8 a0.l) (E.X_i_u8 a0.x)), PV.d (.sl (E.L_i_u8 a1.l) (E.X_i_u8 a1.x))] = args) (st : St) :
    Sat (Ω.cf 11 args st) (fun q => q = (PV.d (.bool r), st)) := by
  subst ha
  rcases a0 with ⟨a0_l, a0_x⟩
  rcases a1 with ⟨a1_l, a1_x⟩
  rw [cf_body hΩ (f := 11) (fn := Try.f11) (x := c11) rfl rfl c11_ok rfl]
  unfold P11 at h
  try dsimp only at h
  conv => arg 1; cbv
  obtain ⟨⟨r1_l, r1_x⟩, hx2, hz⟩ := Option.bind_eq_some_iff.1 h
  clear h
  have h := hz
  clear hz
  try dsimp only at h
  refine sat_call (ok40 hΩ hE hx2 (by subst_vars; rfl) _) ?_
  conv => arg 1; cbv
  obtain ⟨⟨r3_l, r3_x⟩, hx4, hz⟩ := Option.bind_eq_some_iff.1 h
  clear h
  have h := hz
  clear hz
  try dsimp only at h
  refine sat_call (ok40 hΩ hE hx4 (by subst_vars; rfl) _) ?_
  conv => arg 1; cbv
  obtain ⟨r5, hx6, hz⟩ := Option.bind_eq_some_iff.1 h
  clear h
  have h := hz
  clear hz
  refine sat_call (ok42 hΩ hE hx6 (by subst_vars; rfl) _) ?_
  conv => arg 1; cbv
  replace h := bif_cases h
  rcases h with ⟨hb7, h⟩ | ⟨hb7, h⟩
  · refine sat_brt (by first | exact hb7 | (subst_vars; first | exact hb7 | rfl)) ?_
    conv => arg 1; cbv
    obtain ⟨⟨r8_l, r8_x⟩, hx9, hz⟩ := Option.bind_eq_some_iff.1 h
    clear h
    have h := hz
    clear hz
    try dsimp only at h
    refine sat_call (ok38 hΩ hE hx9 (by subst_vars; rfl) _) ?_
    conv => arg 1; cbv
    refine sat_len hΩ (ro_PlaceStep hE) r8_l (by first | rfl | (subst_vars; rfl)) fun n10 hn11 => ?_
    conv => arg 1; cbv
    replace h := bif_cases h
    rcases h with ⟨hb12, h⟩ | ⟨hb12, h⟩
    · refine sat_brt (by first | exact hb12 | (subst_vars; first | exact hb12 | rfl)) ?_
      conv => arg 1; cbv
      refine sat_tick hΩ ?_
      conv => arg 1; cbv
      obtain ⟨⟨r13_l, r13_x⟩, hx14, hz⟩ := Option.bind_eq_some_iff.1 h
      clear h
      have h := hz
      clear hz
      try dsimp only at h
      refine sat_call (ok41 hΩ hE hx14 (by subst_vars; rfl) _) ?_
      conv => arg 1; cbv
      obtain ⟨⟨r15_l, r15_x⟩, hx16, hz⟩ := Option.bind_eq_some_iff.1 h
      clear h
      have h := hz
      clear hz
      try dsimp only at h
      refine sat_call (ok38 hΩ hE hx16 (by subst_vars; rfl) _) ?_
      conv => arg 1; cbv
      refine sat_len hΩ (ro_PlaceStep hE) r15_l (by first | rfl | (subst_vars; rfl)) fun n17 hn18 => ?_
      conv => arg 1; cbv
      refine sat_in hΩ ?_
      conv => arg 1; cbv
      replace h := bif_cases h
      rcases h with ⟨hb19, h⟩ | ⟨hb19, h⟩
      · refine sat_brt (by first | exact hb19 | (subst_vars; first | exact hb19 | rfl)) ?_
        conv => arg 1; cbv
        obtain rfl := Option.some.inj h
        subst_vars
        exact sat_pure rfl
      · refine sat_brf (by first | exact hb19 | (subst_vars; first | exact hb19 | rfl)) ?_
        conv => arg 1; cbv
        obtain ⟨⟨r20_l, r20_x⟩, hx21, hz⟩ := Option.bind_eq_some_iff.1 h
        clear h
        have h := hz
        clear hz
        try dsimp only at h
        refine sat_call (ok38 hΩ hE hx21 (by subst_vars; rfl) _) ?_
        conv => arg 1; cbv
        refine sat_nil hΩ (ro_i_i64 hE) fun l22 hl23 => ?_
        conv => arg 1; cbv
        obtain ⟨q, hl47, hz⟩ := Option.bind_eq_some_iff.1 h
        clear h
        have h := hz
        clear hz
        refine sat_loop hΩ (fun (a : (List Int) × Int) => (match a with | (l24, i25) => ([(0, PV.d (.sl (E.L_i_u8 a0_l) (E.X_i_u8 a0_x))), (1, PV.d (.sl (E.L_i_u8 a1_l) (E.X_i_u8 a1_x))), (4, PV.d (.bool false)), (5, PV.d (.sl (E.L_i_i64 r1_l) (E.X_i_i64 r1_x))), (6, PV.d (.sl (E.L_i_i64 r3_l) (E.X_i_i64 r3_x))), (7, PV.d (.sl (E.L_PlaceStep r20_l) (E.X_PlaceStep r20_x))), (8, PV.row 0 0 (ln l24)), (9, PV.d (.int .i64 i25))], ([X.Obj.row 3 1 (E.L_i_i64 l24) false none] : List X.Obj) :: st))) (fun (q : ((List Int) × Int)) => (match q with | (o48, o49) => (.exit 0, [(0, PV.d (.sl (E.L_i_u8 a0_l) (E.X_i_u8 a0_x))), (1, PV.d (.sl (E.L_i_u8 a1_l) (E.X_i_u8 a1_x))), (4, PV.d (.bool false)), (5, PV.d (.sl (E.L_i_i64 r1_l) (E.X_i_i64 r1_x))), (6, PV.d (.sl (E.L_i_i64 r3_l) (E.X_i_i64 r3_x))), (7, PV.d (.sl (E.L_PlaceStep r20_l) (E.X_PlaceStep r20_x))), (8, PV.row 0 0 (ln o48)), (9, PV.d (.int .i64 o49))], ([X.Obj.row 3 1 (E.L_i_i64 o48) false none] : List X.Obj) :: st))) (([] : List Int), 0) hl47 (by first | rfl | (subst_vars; rfl) | (subst_vars; simp only [ln_set])) ?_ ?_
        · clear h hl47
          rintro ⟨l24, i25⟩ q h
          unfold P11_s0 at h
          dsimp only at h
          obtain ⟨ln_l24, hln_l24⟩ : ∃ n, ln l24 = n := ⟨_, rfl⟩
          simp only [hln_l24]
          conv => arg 1; cbv
          refine sat_len hΩ (ro_i_i64 hE) r3_l (by first | rfl | (subst_vars; rfl)) fun n26 hn27 => ?_
          conv => arg 1; cbv
          refine sat_in hΩ ?_
          conv => arg 1; cbv
          replace h := bif_cases h
          rcases h with ⟨hb28, h⟩ | ⟨hb28, h⟩
          · refine sat_brt (by first | exact hb28 | (subst_vars; first | exact hb28 | rfl)) ?_
            conv => arg 1; cbv
            obtain ⟨q, hl39, hz⟩ := Option.bind_eq_some_iff.1 h
            clear h
            have h := hz
            clear hz
            refine sat_loop hΩ (fun (a : Int × Int) => (match a with | (i29, i30) => ([(0, PV.d (.sl (E.L_i_u8 a0_l) (E.X_i_u8 a0_x))), (1, PV.d (.sl (E.L_i_u8 a1_l) (E.X_i_u8 a1_x))), (4, PV.d (.bool false)), (5, PV.d (.sl (E.L_i_i64 r1_l) (E.X_i_i64 r1_x))), (6, PV.d (.sl (E.L_i_i64 r3_l) (E.X_i_i64 r3_x))), (7, PV.d (.sl (E.L_PlaceStep r20_l) (E.X_PlaceStep r20_x))), (8, PV.row 0 0 (ln l24)), (9, PV.d (.int .i64 i25)), (10, PV.d (.int .i64 i29)), (11, PV.d (.int .i64 i30))], ([X.Obj.row 3 1 (E.L_i_i64 l24) false none] : List X.Obj) :: st))) (fun (q : (Int × Int)) => (match q with | (o40, o41) => (.exit 2, [(0, PV.d (.sl (E.L_i_u8 a0_l) (E.X_i_u8 a0_x))), (1, PV.d (.sl (E.L_i_u8 a1_l) (E.X_i_u8 a1_x))), (4, PV.d (.bool false)), (5, PV.d (.sl (E.L_i_i64 r1_l) (E.X_i_i64 r1_x))), (6, PV.d (.sl (E.L_i_i64 r3_l) (E.X_i_i64 r3_x))), (7, PV.d (.sl (E.L_PlaceStep r20_l) (E.X_PlaceStep r20_x))), (8, PV.row 0 0 (ln l24)), (9, PV.d (.int .i64 i25)), (10, PV.d (.int .i64 o40)), (11, PV.d (.int .i64 o41))], ([X.Obj.row 3 1 (E.L_i_i64 l24) false none] : List X.Obj) :: st))) ((-1), 0) hl39 (by first | rfl | (subst_vars; rfl) | (subst_vars; simp only [ln_set])) ?_ ?_
            · clear h hl39
              rintro ⟨i29, i30⟩ q h
              unfold P11_s1 at h
              dsimp only at h
              obtain ⟨ln_l24, hln_l24⟩ : ∃ n, ln l24 = n := ⟨_, rfl⟩
              simp only [hln_l24]
              conv => arg 1; cbv
              refine sat_len hΩ (ro_i_i64 hE) r1_l (by first | rfl | (subst_vars; rfl)) fun n31 hn32 => ?_
              conv => arg 1; cbv
              refine sat_in hΩ ?_
              conv => arg 1; cbv
              replace h := bif_cases h
              rcases h with ⟨hb33, h⟩ | ⟨hb33, h⟩
              · refine sat_brt (by first | exact hb33 | (subst_vars; first | exact hb33 | rfl)) ?_
                conv => arg 1; cbv
                refine sat_true (fits_l hΩ (ro_i_i64 hE) r1_l (by first | rfl | (subst_vars; rfl))) ?_
                conv => arg 1; cbv
                obtain ⟨x34, hx35, hz⟩ := Option.bind_eq_some_iff.1 h
                clear h
                have h := hz
                clear hz
                refine sat_bind (nth_ok hΩ (ro_i_i64 hE) hx35 (by first | rfl | (subst_vars; rfl)) (by first | rfl | (subst_vars; rfl))) ?_
                conv => arg 1; cbv
                refine sat_true (fits_l hΩ (ro_i_i64 hE) r3_l (by first | rfl | (subst_vars; rfl))) ?_
                conv => arg 1; cbv
                obtain ⟨x36, hx37, hz⟩ := Option.bind_eq_some_iff.1 h
                clear h
                have h := hz
                clear hz
                refine sat_bind (nth_ok hΩ (ro_i_i64 hE) hx37 (by first | rfl | (subst_vars; rfl)) (by first | rfl | (subst_vars; rfl))) ?_
                conv => arg 1; cbv
                refine sat_in hΩ ?_
                conv => arg 1; cbv
                replace h := bif_cases h
                rcases h with ⟨hb38, h⟩ | ⟨hb38, h⟩
                · refine sat_brt (by first | exact hb38 | (subst_vars; first | exact hb38 | rfl)) ?_
                  conv => arg 1; cbv
                  obtain rfl := Option.some.inj h
                  subst_vars
                  first | exact sat_pure ⟨rfl, rfl, rfl⟩ | (refine sat_pure ⟨rfl, ?_, ?_⟩ <;> first | rfl | (dsimp only; simp only [ln_set]; rfl))
                · refine sat_brf (by first | exact hb38 | (subst_vars; first | exact hb38 | rfl)) ?_
                  conv => arg 1; cbv
                  obtain rfl := Option.some.inj h
                  subst_vars
                  first | exact sat_pure ⟨rfl, rfl, rfl⟩ | (refine sat_pure ⟨rfl, ?_, ?_⟩ <;> first | rfl | (dsimp only; simp only [ln_set]; rfl))
              · refine sat_brf (by first | exact hb33 | (subst_vars; first | exact hb33 | rfl)) ?_
                conv => arg 1; cbv
                obtain rfl := Option.some.inj h
                subst_vars
                first | exact sat_pure (.inl ⟨⟨_, rfl⟩, rfl⟩) | (refine sat_pure (.inl ⟨⟨_, rfl⟩, ?_⟩); dsimp only; simp only [ln_set]; rfl)
            · clear hl39
              rcases q with ⟨o40, o41⟩
              dsimp only at h
              obtain ⟨ln_l24, hln_l24⟩ : ∃ n, ln l24 = n := ⟨_, rfl⟩
              simp only [hln_l24]
              conv => arg 1; cbv
              refine sat_true (ieq_ok hΩ _) ?_
              conv => arg 1; cbv
              refine sat_true (fits_l hΩ (ro_i_i64 hE) [o40] (by first | rfl | (subst_vars; rfl))) ?_
              conv => arg 1; cbv
              refine sat_true (len_ok hΩ (ro_i_i64 hE) l24 (by first | rfl | (subst_vars; rfl) | (subst_vars; simp only [ln_set])) (by first | rfl | (subst_vars; rfl) | (subst_vars; simp only [ln_set]))) ?_
              conv => arg 1; cbv
              refine sat_brf (len_zero hΩ (ro_i_i64 hE) (l := [o40]) (b := false) (by rfl) (by first | rfl | (subst_vars; rfl))) ?_
              conv => arg 1; cbv
              refine sat_cat hΩ (ro_i_i64 hE) l24 [o40] (by first | rfl | (subst_vars; rfl)) (by first | rfl | (subst_vars; rfl)) fun l42 hl43 n44 hn45 => ?_
              conv => arg 1; cbv
              replace h := bif_some h
              obtain ⟨hb46, h⟩ := h
              refine sat_true (by first | exact hb46 | (subst_vars; first | exact hb46 | rfl)) ?_
              conv => arg 1; cbv
              obtain rfl := Option.some.inj h
              subst_vars
              first | exact sat_pure ⟨rfl, rfl, rfl⟩ | (refine sat_pure ⟨rfl, ?_, ?_⟩ <;> first | rfl | (dsimp only; simp only [ln_set]; rfl))
          · refine sat_brf (by first | exact hb28 | (subst_vars; first | exact hb28 | rfl)) ?_
            conv => arg 1; cbv
            obtain rfl := Option.some.inj h
            subst_vars
            first | exact sat_pure (.inl ⟨⟨_, rfl⟩, rfl⟩) | (refine sat_pure (.inl ⟨⟨_, rfl⟩, ?_⟩); dsimp only; simp only [ln_set]; rfl)
        · clear hl47
          rcases q with ⟨o48, o49⟩
          dsimp only at h
          obtain ⟨ln_o48, hln_o48⟩ : ∃ n, ln o48 = n := ⟨_, rfl⟩
          simp only [hln_o48]
          conv => arg 1; cbv
          refine sat_true (len_ok hΩ (ro_i_i64 hE) o48 (by first | rfl | (subst_vars; rfl)) (by first | rfl | (subst_vars; rfl))) ?_
          conv => arg 1; cbv
          obtain ⟨⟨r50_l, r50_x⟩, hx51, hz⟩ := Option.bind_eq_some_iff.1 h
          clear h
          have h := hz
          clear hz
          try dsimp only at h
          refine sat_call (ok21 hΩ hE hx51 (by subst_vars; rfl) _) ?_
          conv => arg 1; cbv
          obtain ⟨q, hl68, hz⟩ := Option.bind_eq_some_iff.1 h
          clear h
          have h := hz
          clear hz
          refine sat_loop hΩ (fun (a : Int × Int) => (match a with | (i52, i53) => ([(0, PV.d (.sl (E.L_i_u8 a0_l) (E.X_i_u8 a0_x))), (1, PV.d (.sl (E.L_i_u8 a1_l) (E.X_i_u8 a1_x))), (4, PV.d (.bool false)), (5, PV.d (.sl (E.L_i_i64 r1_l) (E.X_i_i64 r1_x))), (6, PV.d (.sl (E.L_i_i64 r3_l) (E.X_i_i64 r3_x))), (7, PV.d (.sl (E.L_PlaceStep r20_l) (E.X_PlaceStep r20_x))), (8, PV.row 0 0 (ln o48)), (9, PV.d (.int .i64 o49)), (12, PV.d (.sl (E.L_bool r50_l) (E.X_bool r50_x))), (13, PV.d (.int .i64 i52)), (14, PV.d (.int .i64 i53))], ([X.Obj.row 3 1 (E.L_i_i64 o48) false none] : List X.Obj) :: st))) (fun (q : (Int × Int) ⊕ (Int × Int)) => (match q with | .inl (o69, o70) => (.exit 4, [(0, PV.d (.sl (E.L_i_u8 a0_l) (E.X_i_u8 a0_x))), (1, PV.d (.sl (E.L_i_u8 a1_l) (E.X_i_u8 a1_x))), (4, PV.d (.bool false)), (5, PV.d (.sl (E.L_i_i64 r1_l) (E.X_i_i64 r1_x))), (6, PV.d (.sl (E.L_i_i64 r3_l) (E.X_i_i64 r3_x))), (7, PV.d (.sl (E.L_PlaceStep r20_l) (E.X_PlaceStep r20_x))), (8, PV.row 0 0 (ln o48)), (9, PV.d (.int .i64 o49)), (12, PV.d (.sl (E.L_bool r50_l) (E.X_bool r50_x))), (13, PV.d (.int .i64 o69)), (14, PV.d (.int .i64 o70))], ([X.Obj.row 3 1 (E.L_i_i64 o48) false none] : List X.Obj) :: st) | .inr (o78, o79) => (.ret, [(0, PV.d (.sl (E.L_i_u8 a0_l) (E.X_i_u8 a0_x))), (1, PV.d (.sl (E.L_i_u8 a1_l) (E.X_i_u8 a1_x))), (4, PV.d (.bool false)), (5, PV.d (.sl (E.L_i_i64 r1_l) (E.X_i_i64 r1_x))), (6, PV.d (.sl (E.L_i_i64 r3_l) (E.X_i_i64 r3_x))), (7, PV.d (.sl (E.L_PlaceStep r20_l) (E.X_PlaceStep r20_x))), (8, PV.row 0 0 (ln o48)), (9, PV.d (.int .i64 o49)), (12, PV.d (.sl (E.L_bool r50_l) (E.X_bool r50_x))), (13, PV.d (.int .i64 o78)), (14, PV.d (.int .i64 o79))], ([X.Obj.row 3 1 (E.L_i_i64 o48) false none] : List X.Obj) :: st))) (0, 0) hl68 (by first | rfl | (subst_vars; rfl) | (subst_vars; simp only [ln_set])) ?_ ?_
          · clear h hl68
            rintro ⟨i52, i53⟩ q h
            unfold P11_s2 at h
            dsimp only at h
            obtain ⟨ln_o48, hln_o48⟩ : ∃ n, ln o48 = n := ⟨_, rfl⟩
            simp only [hln_o48]
            conv => arg 1; cbv
            refine sat_len hΩ (ro_i_i64 hE) r3_l (by first | rfl | (subst_vars; rfl)) fun n54 hn55 => ?_
            conv => arg 1; cbv
            refine sat_in hΩ ?_
            conv => arg 1; cbv
            replace h := bif_cases h
            rcases h with ⟨hb56, h⟩ | ⟨hb56, h⟩
            · refine sat_brt (by first | exact hb56 | (subst_vars; first | exact hb56 | rfl)) ?_
              conv => arg 1; cbv
              refine sat_true (fits_l hΩ (ro_bool hE) r50_l (by first | rfl | (subst_vars; rfl))) ?_
              conv => arg 1; cbv
              obtain ⟨x57, hx58, hz⟩ := Option.bind_eq_some_iff.1 h
              clear h
              have h := hz
              clear hz
              refine sat_bind (nth_ok hΩ (ro_bool hE) hx58 (by first | rfl | (subst_vars; rfl)) (by first | rfl | (subst_vars; rfl))) ?_
              conv => arg 1; cbv
              refine sat_in hΩ ?_
              conv => arg 1; cbv
              replace h := bif_cases h
              rcases h with ⟨hb59, h⟩ | ⟨hb59, h⟩
              · refine sat_brt (by first | exact hb59 | (subst_vars; first | exact hb59 | rfl)) ?_
                conv => arg 1; cbv
                obtain rfl := Option.some.inj h
                subst_vars
                first | exact sat_pure ⟨rfl, rfl, rfl⟩ | (refine sat_pure ⟨rfl, ?_, ?_⟩ <;> first | rfl | (dsimp only; simp only [ln_set]; rfl))
              · refine sat_brf (by first | exact hb59 | (subst_vars; first | exact hb59 | rfl)) ?_
                conv => arg 1; cbv
                refine sat_len hΩ (ro_PlaceStep hE) r20_l (by first | rfl | (subst_vars; rfl)) fun n60 hn61 => ?_
                conv => arg 1; cbv
                replace h := bif_cases h
                rcases h with ⟨hb62, h⟩ | ⟨hb62, h⟩
                · refine sat_brt (by first | exact hb62 | (subst_vars; first | exact hb62 | rfl)) ?_
                  conv => arg 1; cbv
                  refine sat_true (fits_l hΩ (ro_PlaceStep hE) r20_l (by first | rfl | (subst_vars; rfl))) ?_
                  conv => arg 1; cbv
                  obtain ⟨⟨x63_Node, x63_Before⟩, hx64, hz⟩ := Option.bind_eq_some_iff.1 h
                  clear h
                  have h := hz
                  clear hz
                  try dsimp only at h
                  refine sat_bind (nth_ok hΩ (ro_PlaceStep hE) hx64 (by first | rfl | (subst_vars; rfl)) (by first | rfl | (subst_vars; rfl))) ?_
                  conv => arg 1; cbv
                  refine sat_tick hΩ ?_
                  conv => arg 1; cbv
                  refine sat_true (fits_l hΩ (ro_i_i64 hE) r3_l (by first | rfl | (subst_vars; rfl))) ?_
                  conv => arg 1; cbv
                  obtain ⟨x65, hx66, hz⟩ := Option.bind_eq_some_iff.1 h
                  clear h
                  have h := hz
                  clear hz
                  refine sat_bind (nth_ok hΩ (ro_i_i64 hE) hx66 (by first | rfl | (subst_vars; rfl)) (by first | rfl | (subst_vars; rfl))) ?_
                  conv => arg 1; cbv
                  refine sat_in hΩ ?_
                  conv => arg 1; cbv
                  replace h := bif_cases h
                  rcases h with ⟨hb67, h⟩ | ⟨hb67, h⟩
                  · refine sat_brt (by first | exact hb67 | (subst_vars; first | exact hb67 | rfl)) ?_
                    conv => arg 1; cbv
                    obtain rfl := Option.some.inj h
                    subst_vars
                    first | exact sat_pure (.inr ⟨rfl, rfl⟩) | (refine sat_pure (.inr ⟨rfl, ?_⟩); dsimp only; simp only [ln_set]; rfl)
                  · refine sat_brf (by first | exact hb67 | (subst_vars; first | exact hb67 | rfl)) ?_
                    conv => arg 1; cbv
                    obtain rfl := Option.some.inj h
                    subst_vars
                    first | exact sat_pure ⟨rfl, rfl, rfl⟩ | (refine sat_pure ⟨rfl, ?_, ?_⟩ <;> first | rfl | (dsimp only; simp only [ln_set]; rfl))
                · refine sat_brf (by first | exact hb62 | (subst_vars; first | exact hb62 | rfl)) ?_
                  conv => arg 1; cbv
                  refine sat_tick hΩ ?_
                  conv => arg 1; cbv
                  refine sat_in hΩ ?_
                  conv => arg 1; cbv
                  obtain rfl := Option.some.inj h
                  subst_vars
                  first | exact sat_pure (.inr ⟨rfl, rfl⟩) | (refine sat_pure (.inr ⟨rfl, ?_⟩); dsimp only; simp only [ln_set]; rfl)
            · refine sat_brf (by first | exact hb56 | (subst_vars; first | exact hb56 | rfl)) ?_
              conv => arg 1; cbv
              obtain rfl := Option.some.inj h
              subst_vars
              first | exact sat_pure (.inl ⟨⟨_, rfl⟩, rfl⟩) | (refine sat_pure (.inl ⟨⟨_, rfl⟩, ?_⟩); dsimp only; simp only [ln_set]; rfl)
          · clear hl68
            rcases q with ⟨o69, o70⟩ | ⟨o78, o79⟩
            · dsimp only at h
              obtain ⟨ln_o48, hln_o48⟩ : ∃ n, ln o48 = n := ⟨_, rfl⟩
              simp only [hln_o48]
              conv => arg 1; cbv
              refine sat_len hΩ (ro_PlaceStep hE) r20_l (by first | rfl | (subst_vars; rfl)) fun n71 hn72 => ?_
              conv => arg 1; cbv
              replace h := bif_cases h
              rcases h with ⟨hb73, h⟩ | ⟨hb73, h⟩
              · refine sat_brt (by first | exact hb73 | (subst_vars; first | exact hb73 | rfl)) ?_
                conv => arg 1; cbv
                refine sat_len hΩ (ro_bool hE) r50_l (by first | rfl | (subst_vars; rfl)) fun n74 hn75 => ?_
                conv => arg 1; cbv
                refine sat_len hΩ (ro_i_i64 hE) r3_l (by first | rfl | (subst_vars; rfl)) fun n76 hn77 => ?_
                conv => arg 1; cbv
                obtain rfl := Option.some.inj h
                subst_vars
                exact sat_pure rfl
              · refine sat_brf (by first | exact hb73 | (subst_vars; first | exact hb73 | rfl)) ?_
                conv => arg 1; cbv
                obtain rfl := Option.some.inj h
                subst_vars
                exact sat_pure rfl
            · dsimp only at h
              obtain ⟨ln_o48, hln_o48⟩ : ∃ n, ln o48 = n := ⟨_, rfl⟩
              simp only [hln_o48]
              conv => arg 1; cbv
              obtain rfl := Option.some.inj h
              subst_vars
              exact sat_pure rfl
    · refine sat_brf (by first | exact hb12 | (subst_vars; first | exact hb12 | rfl)) ?_
      conv => arg 1; cbv
      refine sat_tick hΩ ?_
      conv => arg 1; cbv
      refine sat_in hΩ ?_
      conv => arg 1; cbv
      obtain rfl := Option.some.inj h
      subst_vars
      exact sat_pure rfl
  · refine sat_brf (by first | exact hb7 | (subst_vars; first | exact hb7 | rfl)) ?_
    conv => arg 1; cbv
    refine sat_tick hΩ ?_
    conv => arg 1; cbv
    refine sat_in hΩ ?_
    conv => arg 1; cbv
    obtain rfl := Option.some.inj h
    subst_vars
    exact sat_pure rfl
end Go.Proofs.Ytamllgdaepjcfaa
