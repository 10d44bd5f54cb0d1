/- The interpreter computes just these functions: printed by a small program. -/
import Derived.Test.YtamllgdaepjcfaaPCD
namespace Go.Proofs.Ytamllgdaepjcfaa
open Go Go.X
set_option linter.unusedVariables false
set_option linter.unusedSimpArgs false
set_option maxRecDepth 100000
set_option maxHeartbeats 4000000 in
theorem ok20 {Ω : Om} {E : Enc} (hΩ : real (call S) = Ω) (hE : theEnc = E) {fu : Nat} {a0 : Sl Int} {r : (Sl Int)} (h : P20 fu a0 = some r) {args : List PV} (ha : [PV.d (.sl (E.L_i_i64 a0.l) (E.X_i_i64 a0.x))] = args) (st : St) :
    Sat (Ω.cf 20 args st) (fun q => q = (PV.d (.sl (E.L_i_i64 r.l) (E.X_i_i64 r.x)), st)) := by
  subst ha
  rcases a0 with ⟨a0_l, a0_x⟩
  rw [cf_body hΩ (f := 20) (fn := Try.f20) (x := c20) rfl rfl c20_ok rfl]
  unfold P20 at h
  try dsimp only at h
  conv => arg 1; cbv
  refine sat_len hΩ (ro_i_i64 hE) a0_l (by first | rfl | (subst_vars; rfl)) fun n1 hn2 => ?_
  conv => arg 1; cbv
  replace h := bif_some h
  obtain ⟨hb7, h⟩ := h
  refine sat_true (by first | exact hb7 | (subst_vars; first | exact hb7 | rfl)) ?_
  conv => arg 1; cbv
  replace h := bif_some h
  obtain ⟨hb8, h⟩ := h
  refine sat_true (by first | exact hb8 | (subst_vars; first | exact hb8 | rfl)) ?_
  conv => arg 1; cbv
  replace h := bif_some h
  obtain ⟨hb9, h⟩ := h
  refine sat_true (by first | exact hb9 | (subst_vars; first | exact hb9 | rfl)) ?_
  conv => arg 1; cbv
  refine sat_fill hΩ (ro_i_i64 hE) 0 0 (by first | rfl | (subst_vars; rfl)) (by first | rfl | (subst_vars; rfl)) fun l3 hl4 n5 hn6 => ?_
  conv => arg 1; cbv
  obtain ⟨q, hl23, hz⟩ := Option.bind_eq_some_iff.1 h
  clear h
  have h := hz
  clear hz
  refine sat_loop hΩ (fun (a : (List Int) × Int) => (match a with | (l10, i11) => ([(0, PV.d (.sl (E.L_i_i64 a0_l) (E.X_i_i64 a0_x))), (2, PV.d (.sl [] (some []))), (3, PV.row 0 0 (ln l10)), (4, PV.d (.int .i64 i11))], ([X.Obj.row 3 1 (E.L_i_i64 l10) false (some (Ω.wrap .i64 (Ω.add n1 1)))] : List X.Obj) :: st))) (fun (q : ((List Int) × Int)) => (match q with | (o24, o25) => (.exit 0, [(0, PV.d (.sl (E.L_i_i64 a0_l) (E.X_i_i64 a0_x))), (2, PV.d (.sl [] (some []))), (3, PV.row 0 0 (ln o24)), (4, PV.d (.int .i64 o25))], ([X.Obj.row 3 1 (E.L_i_i64 o24) false (some (Ω.wrap .i64 (Ω.add n1 1)))] : List X.Obj) :: st))) ((List.replicate (Int.toNat 0) 0), 0) hl23 (by first | rfl | (subst_vars; rfl) | (subst_vars; simp only [ln_set])) ?_ ?_
  · clear h hl23
    rintro ⟨l10, i11⟩ q h
    unfold P20_s0 at h
    dsimp only at h
    obtain ⟨ln_l10, hln_l10⟩ : ∃ n, ln l10 = n := ⟨_, rfl⟩
    simp only [hln_l10]
    conv => arg 1; cbv
    refine sat_len hΩ (ro_i_i64 hE) a0_l (by first | rfl | (subst_vars; rfl)) fun n12 hn13 => ?_
    conv => arg 1; cbv
    refine sat_in hΩ ?_
    conv => arg 1; cbv
    replace h := bif_cases h
    rcases h with ⟨hb14, h⟩ | ⟨hb14, h⟩
    · refine sat_brt (by first | exact hb14 | (subst_vars; first | exact hb14 | rfl)) ?_
      conv => arg 1; cbv
      refine sat_true (fits_l hΩ (ro_i_i64 hE) a0_l (by first | rfl | (subst_vars; rfl))) ?_
      conv => arg 1; cbv
      obtain ⟨x15, hx16, hz⟩ := Option.bind_eq_some_iff.1 h
      clear h
      have h := hz
      clear hz
      refine sat_bind (nth_ok hΩ (ro_i_i64 hE) hx16 (by first | rfl | (subst_vars; rfl)) (by first | rfl | (subst_vars; rfl))) ?_
      conv => arg 1; cbv
      refine sat_true (ieq_ok hΩ _) ?_
      conv => arg 1; cbv
      refine sat_true (fits_l hΩ (ro_i_i64 hE) [x15] (by first | rfl | (subst_vars; rfl))) ?_
      conv => arg 1; cbv
      refine sat_true (len_ok hΩ (ro_i_i64 hE) l10 (by first | rfl | (subst_vars; rfl) | (subst_vars; simp only [ln_set])) (by first | rfl | (subst_vars; rfl) | (subst_vars; simp only [ln_set]))) ?_
      conv => arg 1; cbv
      refine sat_brf (len_zero hΩ (ro_i_i64 hE) (l := [x15]) (b := false) (by rfl) (by first | rfl | (subst_vars; rfl))) ?_
      conv => arg 1; cbv
      refine sat_cat hΩ (ro_i_i64 hE) l10 [x15] (by first | rfl | (subst_vars; rfl)) (by first | rfl | (subst_vars; rfl)) fun l17 hl18 n19 hn20 => ?_
      conv => arg 1; cbv
      replace h := bif_some h
      obtain ⟨hb21, h⟩ := h
      refine sat_true (by first | exact hb21 | (subst_vars; first | exact hb21 | rfl)) ?_
      conv => arg 1; cbv
      replace h := bif_some h
      obtain ⟨hb22, h⟩ := h
      refine sat_true (by first | exact hb22 | (subst_vars; first | exact hb22 | rfl)) ?_
      conv => arg 1; cbv
      obtain rfl := Option.some.inj h
      subst_vars
      first | exact sat_pure ⟨rfl, rfl, rfl⟩ | (refine sat_pure ⟨rfl, ?_, ?_⟩ <;> first | rfl | (dsimp only; simp only [ln_set]; rfl))
    · refine sat_brf (by first | exact hb14 | (subst_vars; first | exact hb14 | rfl)) ?_
      conv => arg 1; cbv
      obtain rfl := Option.some.inj h
      subst_vars
      first | exact sat_pure (.inl ⟨⟨_, rfl⟩, rfl⟩) | (refine sat_pure (.inl ⟨⟨_, rfl⟩, ?_⟩); dsimp only; simp only [ln_set]; rfl)
  · clear hl23
    rcases q with ⟨o24, o25⟩
    dsimp only at h
    obtain ⟨ln_o24, hln_o24⟩ : ∃ n, ln o24 = n := ⟨_, rfl⟩
    simp only [hln_o24]
    conv => arg 1; cbv
    refine sat_true (ieq_ok hΩ _) ?_
    conv => arg 1; cbv
    refine sat_true (fits_l hΩ (ro_i_i64 hE) [7777] (by first | rfl | (subst_vars; rfl))) ?_
    conv => arg 1; cbv
    refine sat_true (len_ok hΩ (ro_i_i64 hE) o24 (by first | rfl | (subst_vars; rfl) | (subst_vars; simp only [ln_set])) (by first | rfl | (subst_vars; rfl) | (subst_vars; simp only [ln_set]))) ?_
    conv => arg 1; cbv
    refine sat_brf (len_zero hΩ (ro_i_i64 hE) (l := [7777]) (b := false) (by rfl) (by first | rfl | (subst_vars; rfl))) ?_
    conv => arg 1; cbv
    refine sat_cat hΩ (ro_i_i64 hE) o24 [7777] (by first | rfl | (subst_vars; rfl)) (by first | rfl | (subst_vars; rfl)) fun l26 hl27 n28 hn29 => ?_
    conv => arg 1; cbv
    replace h := bif_some h
    obtain ⟨hb30, h⟩ := h
    refine sat_true (by first | exact hb30 | (subst_vars; first | exact hb30 | rfl)) ?_
    conv => arg 1; cbv
    replace h := bif_some h
    obtain ⟨hb31, h⟩ := h
    refine sat_true (by first | exact hb31 | (subst_vars; first | exact hb31 | rfl)) ?_
    conv => arg 1; cbv
    refine sat_len hΩ (ro_i_i64 hE) a0_l (by first | rfl | (subst_vars; rfl)) fun n32 hn33 => ?_
    conv => arg 1; cbv
    refine sat_true (len_ok hΩ (ro_i_i64 hE) (o24 ++ [7777]) (by first | rfl | (subst_vars; rfl) | (subst_vars; simp only [ln_set])) (by first | rfl | (subst_vars; rfl) | (subst_vars; simp only [ln_set]))) ?_
    conv => arg 1; cbv
    replace h := bif_cases h
    rcases h with ⟨hb34, h⟩ | ⟨hb34, h⟩
    · refine sat_brt (by first | exact hb34 | (subst_vars; first | exact hb34 | rfl)) ?_
      conv => arg 1; cbv
      refine sat_len hΩ (ro_i_i64 hE) (o24 ++ [7777]) (by first | rfl | (subst_vars; rfl)) fun n35 hn36 => ?_
      conv => arg 1; cbv
      refine sat_cat hΩ (ro_i_i64 hE) (o24 ++ [7777]) [] (by first | rfl | (subst_vars; rfl)) (by first | rfl | (subst_vars; rfl)) fun l37 hl38 n39 hn40 => ?_
      conv => arg 1; cbv
      replace h := bif_some h
      obtain ⟨hb41, h⟩ := h
      refine sat_true (by first | exact hb41 | (subst_vars; first | exact hb41 | rfl)) ?_
      conv => arg 1; cbv
      replace h := bif_some h
      obtain ⟨hb42, h⟩ := h
      refine sat_true (by first | exact hb42 | (subst_vars; first | exact hb42 | rfl)) ?_
      conv => arg 1; cbv
      replace h := bif_some h
      obtain ⟨hb43, h⟩ := h
      refine sat_true (by first | exact hb43 | (subst_vars; first | exact hb43 | rfl)) ?_
      conv => arg 1; cbv
      refine sat_cut hΩ (ro_i_i64 hE) ((o24 ++ [7777]) ++ []) 0 (ln a0_l) (by first | rfl | (subst_vars; rfl)) (by first | rfl | (subst_vars; rfl)) (by first | rfl | (subst_vars; rfl)) fun l44 hl45 => ?_
      conv => arg 1; cbv
      refine sat_cut hΩ (ro_i_i64 hE) ((o24 ++ [7777]) ++ []) (ln a0_l) (ln ((o24 ++ [7777]) ++ [])) (by first | rfl | (subst_vars; rfl)) (by first | rfl | (subst_vars; rfl)) (by first | rfl | (subst_vars; rfl)) fun l46 hl47 => ?_
      conv => arg 1; cbv
      obtain rfl := Option.some.inj h
      subst_vars
      exact sat_pure rfl
    · refine sat_brf (by first | exact hb34 | (subst_vars; first | exact hb34 | rfl)) ?_
      conv => arg 1; cbv
      refine sat_len hΩ (ro_i_i64 hE) (o24 ++ [7777]) (by first | rfl | (subst_vars; rfl)) fun n48 hn49 => ?_
      conv => arg 1; cbv
      replace h := bif_some h
      obtain ⟨hb50, h⟩ := h
      refine sat_true (by first | exact hb50 | (subst_vars; first | exact hb50 | rfl)) ?_
      conv => arg 1; cbv
      replace h := bif_some h
      obtain ⟨hb51, h⟩ := h
      refine sat_true (by first | exact hb51 | (subst_vars; first | exact hb51 | rfl)) ?_
      conv => arg 1; cbv
      replace h := bif_some h
      obtain ⟨hb52, h⟩ := h
      refine sat_true (by first | exact hb52 | (subst_vars; first | exact hb52 | rfl)) ?_
      conv => arg 1; cbv
      refine sat_cut hΩ (ro_i_i64 hE) (o24 ++ [7777]) 0 (ln a0_l) (by first | rfl | (subst_vars; rfl)) (by first | rfl | (subst_vars; rfl)) (by first | rfl | (subst_vars; rfl)) fun l53 hl54 => ?_
      conv => arg 1; cbv
      obtain rfl := Option.some.inj h
      subst_vars
      exact sat_pure rfl
set_option maxHeartbeats 4000000 in
theorem ok61 {Ω : Om} {E : Enc} (hΩ : real (call S) = Ω) (hE : theEnc = E) {fu : Nat} {a0 : Sl Int} {r : (Sl Int) × (List (Int × Int))} (h : P61 fu a0 = some r) {args : List PV} (ha : [PV.d (.sl (E.L_i_i64 a0.l) (E.X_i_i64 a0.x))] = args) (fr : List X.Obj) (st : St) :
    Sat (Ω.cf 61 args (fr :: st)) (fun q => q = (PV.tup [PV.d (.sl (E.L_i_i64 r.1.l) (E.X_i_i64 r.1.x)), PV.map 0 fr.length], (fr ++ [.map (some .i64) true (E.M_i_i64_i_i64 r.2)]) :: st)) := by
  subst ha
  rcases a0 with ⟨a0_l, a0_x⟩
  rw [cf_body hΩ (f := 61) (fn := Try.f61) (x := c61) rfl rfl c61_ok rfl]
  unfold P61 at h
  try dsimp only at h
  conv => arg 1; cbv
  refine sat_nil hΩ (ro_i_i64 hE) fun l1 hl2 => ?_
  conv => arg 1; cbv
  refine sat_empty hΩ (mo_i_i64_i_i64 hE) fun m3 hm4 => ?_
  conv => arg 1; cbv
  refine sat_len hΩ (ro_i_i64 hE) a0_l (by first | rfl | (subst_vars; rfl)) fun n5 hn6 => ?_
  conv => arg 1; cbv
  obtain ⟨q, hl22, hz⟩ := Option.bind_eq_some_iff.1 h
  clear h
  have h := hz
  clear hz
  refine sat_loop hΩ (fun (a : (List Int) × (List (Int × Int)) × Int) => (match a with | (l7, m8, i9) => ([(0, PV.d (.sl (E.L_i_i64 a0_l) (E.X_i_i64 a0_x))), (2, PV.row 0 0 (ln l7)), (3, PV.map 0 1), (9, PV.d (.sl (E.L_i_i64 a0_l) (E.X_i_i64 a0_x))), (10, PV.d (.int .i64 n5)), (11, PV.d (.int .i64 i9))], ([X.Obj.row 3 1 (E.L_i_i64 l7) false none, X.Obj.map (some .i64) true (E.M_i_i64_i_i64 m8)] : List X.Obj) :: fr :: st))) (fun (q : ((List Int) × (List (Int × Int)) × Int)) => (match q with | (o23, o24, o25) => (.exit 0, [(0, PV.d (.sl (E.L_i_i64 a0_l) (E.X_i_i64 a0_x))), (2, PV.row 0 0 (ln o23)), (3, PV.map 0 1), (9, PV.d (.sl (E.L_i_i64 a0_l) (E.X_i_i64 a0_x))), (10, PV.d (.int .i64 n5)), (11, PV.d (.int .i64 o25))], ([X.Obj.row 3 1 (E.L_i_i64 o23) false none, X.Obj.map (some .i64) true (E.M_i_i64_i_i64 o24)] : List X.Obj) :: fr :: st))) (([] : List Int), ([] : List (Int × Int)), 0) hl22 (by first | rfl | (subst_vars; rfl) | (subst_vars; simp only [ln_set])) ?_ ?_
  · clear h hl22
    rintro ⟨l7, m8, i9⟩ q h
    unfold P61_s0 at h
    dsimp only at h
    obtain ⟨ln_l7, hln_l7⟩ : ∃ n, ln l7 = n := ⟨_, rfl⟩
    simp only [hln_l7]
    conv => arg 1; cbv
    refine sat_in hΩ ?_
    conv => arg 1; cbv
    replace h := bif_cases h
    rcases h with ⟨hb10, h⟩ | ⟨hb10, h⟩
    · refine sat_brt (by first | exact hb10 | (subst_vars; first | exact hb10 | rfl)) ?_
      conv => arg 1; cbv
      refine sat_true (fits_l hΩ (ro_i_i64 hE) a0_l (by first | rfl | (subst_vars; rfl))) ?_
      conv => arg 1; cbv
      obtain ⟨x11, hx12, hz⟩ := Option.bind_eq_some_iff.1 h
      clear h
      have h := hz
      clear hz
      refine sat_bind (nth_ok hΩ (ro_i_i64 hE) hx12 (by first | rfl | (subst_vars; rfl)) (by first | rfl | (subst_vars; rfl))) ?_
      conv => arg 1; cbv
      rcases hq14 : mget m8 x11 with _ | x13
      · rw [hq14] at h
        dsimp only at h
        refine sat_find_none hΩ (mo_i_i64_i_i64 hE) hq14 (by first | rfl | (subst_vars; rfl)) (by first | rfl | (subst_vars; rfl)) ?_
        conv => arg 1; cbv
        refine sat_in hΩ ?_
        conv => arg 1; cbv
        refine sat_put hΩ (mo_i_i64_i_i64 hE) m8 x11 (ln l7) (by first | rfl | (subst_vars; rfl)) (by first | rfl | (subst_vars; rfl)) (by first | rfl | (subst_vars; rfl)) fun m15 hm16 => ?_
        conv => arg 1; cbv
        refine sat_true (ieq_ok hΩ _) ?_
        conv => arg 1; cbv
        refine sat_true (fits_l hΩ (ro_i_i64 hE) [x11] (by first | rfl | (subst_vars; rfl))) ?_
        conv => arg 1; cbv
        refine sat_true (len_ok hΩ (ro_i_i64 hE) l7 (by first | rfl | (subst_vars; rfl) | (subst_vars; simp only [ln_set])) (by first | rfl | (subst_vars; rfl) | (subst_vars; simp only [ln_set]))) ?_
        conv => arg 1; cbv
        refine sat_brf (len_zero hΩ (ro_i_i64 hE) (l := [x11]) (b := false) (by rfl) (by first | rfl | (subst_vars; rfl))) ?_
        conv => arg 1; cbv
        refine sat_cat hΩ (ro_i_i64 hE) l7 [x11] (by first | rfl | (subst_vars; rfl)) (by first | rfl | (subst_vars; rfl)) fun l17 hl18 n19 hn20 => ?_
        conv => arg 1; cbv
        replace h := bif_some h
        obtain ⟨hb21, h⟩ := h
        refine sat_true (by first | exact hb21 | (subst_vars; first | exact hb21 | rfl)) ?_
        conv => arg 1; cbv
        obtain rfl := Option.some.inj h
        subst_vars
        first | exact sat_pure ⟨rfl, rfl, rfl⟩ | (refine sat_pure ⟨rfl, ?_, ?_⟩ <;> first | rfl | (dsimp only; simp only [ln_set]; rfl))
      · rw [hq14] at h
        dsimp only at h
        refine sat_find_some hΩ (mo_i_i64_i_i64 hE) hq14 (by first | rfl | (subst_vars; rfl)) (by first | rfl | (subst_vars; rfl)) ?_
        conv => arg 1; cbv
        refine sat_in hΩ ?_
        conv => arg 1; cbv
        obtain rfl := Option.some.inj h
        subst_vars
        first | exact sat_pure ⟨rfl, rfl, rfl⟩ | (refine sat_pure ⟨rfl, ?_, ?_⟩ <;> first | rfl | (dsimp only; simp only [ln_set]; rfl))
    · refine sat_brf (by first | exact hb10 | (subst_vars; first | exact hb10 | rfl)) ?_
      conv => arg 1; cbv
      obtain rfl := Option.some.inj h
      subst_vars
      first | exact sat_pure (.inl ⟨⟨_, rfl⟩, rfl⟩) | (refine sat_pure (.inl ⟨⟨_, rfl⟩, ?_⟩); dsimp only; simp only [ln_set]; rfl)
  · clear hl22
    rcases q with ⟨o23, o24, o25⟩
    dsimp only at h
    obtain ⟨ln_o23, hln_o23⟩ : ∃ n, ln o23 = n := ⟨_, rfl⟩
    simp only [hln_o23]
    conv => arg 1; cbv
    refine sat_true (len_ok hΩ (ro_i_i64 hE) o23 (by first | rfl | (subst_vars; rfl)) (by first | rfl | (subst_vars; rfl))) ?_
    conv => arg 1; cbv
    obtain rfl := Option.some.inj h
    subst_vars
    exact sat_pure (by cases fr <;> rfl)
set_option maxHeartbeats 4000000 in
theorem ok21 {Ω : Om} {E : Enc} (hΩ : real (call S) = Ω) (hE : theEnc = E) {fu : Nat} {a0 : Sl Int} {r : (Sl Bool)} (h : P21 fu a0 = some r) {args : List PV} (ha : [PV.d (.sl (E.L_i_i64 a0.l) (E.X_i_i64 a0.x))] = args) (st : St) :
    Sat (Ω.cf 21 args st) (fun q => q = (PV.d (.sl (E.L_bool r.l) (E.X_bool r.x)), st)) := by
  subst ha
  rcases a0 with ⟨a0_l, a0_x⟩
  rw [cf_body hΩ (f := 21) (fn := Try.f21) (x := c21) rfl rfl c21_ok rfl]
  unfold P21 at h
  try dsimp only at h
  conv => arg 1; cbv
  refine sat_nil hΩ (ro_bool hE) fun l1 hl2 => ?_
  conv => arg 1; cbv
  refine sat_len hΩ (ro_i_i64 hE) a0_l (by first | rfl | (subst_vars; rfl)) fun n3 hn4 => ?_
  conv => arg 1; cbv
  obtain ⟨q, hl22, hz⟩ := Option.bind_eq_some_iff.1 h
  clear h
  have h := hz
  clear hz
  refine sat_loop hΩ (fun (a : (List Bool) × Int × Int) => (match a with | (l5, i6, i7) => ([(0, PV.d (.sl (E.L_i_i64 a0_l) (E.X_i_i64 a0_x))), (2, PV.row 0 0 (ln l5)), (3, PV.d (.int .i64 i6)), (7, PV.d (.sl (E.L_i_i64 a0_l) (E.X_i_i64 a0_x))), (8, PV.d (.int .i64 n3)), (9, PV.d (.int .i64 i7))], ([X.Obj.row 4 1 (E.L_bool l5) false none] : List X.Obj) :: st))) (fun (q : ((List Bool) × Int × Int)) => (match q with | (o23, o24, o25) => (.exit 0, [(0, PV.d (.sl (E.L_i_i64 a0_l) (E.X_i_i64 a0_x))), (2, PV.row 0 0 (ln o23)), (3, PV.d (.int .i64 o24)), (7, PV.d (.sl (E.L_i_i64 a0_l) (E.X_i_i64 a0_x))), (8, PV.d (.int .i64 n3)), (9, PV.d (.int .i64 o25))], ([X.Obj.row 4 1 (E.L_bool o23) false none] : List X.Obj) :: st))) (([] : List Bool), 0, 0) hl22 (by first | rfl | (subst_vars; rfl) | (subst_vars; simp only [ln_set])) ?_ ?_
  · clear h hl22
    rintro ⟨l5, i6, i7⟩ q h
    unfold P21_s0 at h
    dsimp only at h
    obtain ⟨ln_l5, hln_l5⟩ : ∃ n, ln l5 = n := ⟨_, rfl⟩
    simp only [hln_l5]
    conv => arg 1; cbv
    refine sat_in hΩ ?_
    conv => arg 1; cbv
    replace h := bif_cases h
    rcases h with ⟨hb8, h⟩ | ⟨hb8, h⟩
    · refine sat_brt (by first | exact hb8 | (subst_vars; first | exact hb8 | rfl)) ?_
      conv => arg 1; cbv
      refine sat_true (fits_l hΩ (ro_i_i64 hE) a0_l (by first | rfl | (subst_vars; rfl))) ?_
      conv => arg 1; cbv
      obtain ⟨x9, hx10, hz⟩ := Option.bind_eq_some_iff.1 h
      clear h
      have h := hz
      clear hz
      refine sat_bind (nth_ok hΩ (ro_i_i64 hE) hx10 (by first | rfl | (subst_vars; rfl)) (by first | rfl | (subst_vars; rfl))) ?_
      conv => arg 1; cbv
      refine sat_in hΩ ?_
      conv => arg 1; cbv
      replace h := bif_cases h
      rcases h with ⟨hb11, h⟩ | ⟨hb11, h⟩
      · refine sat_brt (by first | exact hb11 | (subst_vars; first | exact hb11 | rfl)) ?_
        conv => arg 1; cbv
        refine sat_true (ieq_ok hΩ _) ?_
        conv => arg 1; cbv
        refine sat_true (fits_l hΩ (ro_bool hE) [decide (x9 < i6)] (by first | rfl | (subst_vars; rfl))) ?_
        conv => arg 1; cbv
        refine sat_true (len_ok hΩ (ro_bool hE) l5 (by first | rfl | (subst_vars; rfl) | (subst_vars; simp only [ln_set])) (by first | rfl | (subst_vars; rfl) | (subst_vars; simp only [ln_set]))) ?_
        conv => arg 1; cbv
        refine sat_brf (len_zero hΩ (ro_bool hE) (l := [decide (x9 < i6)]) (b := false) (by rfl) (by first | rfl | (subst_vars; rfl))) ?_
        conv => arg 1; cbv
        refine sat_cat hΩ (ro_bool hE) l5 [decide (x9 < i6)] (by first | rfl | (subst_vars; rfl)) (by first | rfl | (subst_vars; rfl)) fun l12 hl13 n14 hn15 => ?_
        conv => arg 1; cbv
        replace h := bif_some h
        obtain ⟨hb16, h⟩ := h
        refine sat_true (by first | exact hb16 | (subst_vars; first | exact hb16 | rfl)) ?_
        conv => arg 1; cbv
        obtain rfl := Option.some.inj h
        subst_vars
        first | exact sat_pure ⟨rfl, rfl, rfl⟩ | (refine sat_pure ⟨rfl, ?_, ?_⟩ <;> first | rfl | (dsimp only; simp only [ln_set]; rfl))
      · refine sat_brf (by first | exact hb11 | (subst_vars; first | exact hb11 | rfl)) ?_
        conv => arg 1; cbv
        refine sat_true (ieq_ok hΩ _) ?_
        conv => arg 1; cbv
        refine sat_true (fits_l hΩ (ro_bool hE) [decide (x9 < i6)] (by first | rfl | (subst_vars; rfl))) ?_
        conv => arg 1; cbv
        refine sat_true (len_ok hΩ (ro_bool hE) l5 (by first | rfl | (subst_vars; rfl) | (subst_vars; simp only [ln_set])) (by first | rfl | (subst_vars; rfl) | (subst_vars; simp only [ln_set]))) ?_
        conv => arg 1; cbv
        refine sat_brf (len_zero hΩ (ro_bool hE) (l := [decide (x9 < i6)]) (b := false) (by rfl) (by first | rfl | (subst_vars; rfl))) ?_
        conv => arg 1; cbv
        refine sat_cat hΩ (ro_bool hE) l5 [decide (x9 < i6)] (by first | rfl | (subst_vars; rfl)) (by first | rfl | (subst_vars; rfl)) fun l17 hl18 n19 hn20 => ?_
        conv => arg 1; cbv
        replace h := bif_some h
        obtain ⟨hb21, h⟩ := h
        refine sat_true (by first | exact hb21 | (subst_vars; first | exact hb21 | rfl)) ?_
        conv => arg 1; cbv
        obtain rfl := Option.some.inj h
        subst_vars
        first | exact sat_pure ⟨rfl, rfl, rfl⟩ | (refine sat_pure ⟨rfl, ?_, ?_⟩ <;> first | rfl | (dsimp only; simp only [ln_set]; rfl))
    · refine sat_brf (by first | exact hb8 | (subst_vars; first | exact hb8 | rfl)) ?_
      conv => arg 1; cbv
      obtain rfl := Option.some.inj h
      subst_vars
      first | exact sat_pure (.inl ⟨⟨_, rfl⟩, rfl⟩) | (refine sat_pure (.inl ⟨⟨_, rfl⟩, ?_⟩); dsimp only; simp only [ln_set]; rfl)
  · clear hl22
    rcases q with ⟨o23, o24, o25⟩
    dsimp only at h
    obtain ⟨ln_o23, hln_o23⟩ : ∃ n, ln o23 = n := ⟨_, rfl⟩
    simp only [hln_o23]
    conv => arg 1; cbv
    refine sat_true (len_ok hΩ (ro_bool hE) o23 (by first | rfl | (subst_vars; rfl)) (by first | rfl | (subst_vars; rfl))) ?_
    conv => arg 1; cbv
    obtain rfl := Option.some.inj h
    subst_vars
    exact sat_pure rfl
set_option maxHeartbeats 4000000 in
theorem ok62x1 {Ω : Om} {E : Enc} (hΩ : real (call S) = Ω) (hE : theEnc = E) {fu : Nat} {a0 : Int} {b0 c0 : Sl Int} {b1 c1 : Sl Bool} {S : ((Sl Int) × (Sl Bool)) → St} {lz0 iz0 : Nat} {lz1 iz1 : Nat} (e0 : b0 = c0) (e1 : b1 = c1) (hg0 : ∀ s, X.look (S s) lz0 iz0 = some (X.Obj.box 31 (bx_31 E s.1))) (hu0 : ∀ s x, X.setO (S s) lz0 iz0 (X.Obj.box 31 (bx_31 E x)) = S (x, s.2)) (hg1 : ∀ s, X.look (S s) lz1 iz1 = some (X.Obj.box 34 (bx_34 E s.2))) (hu1 : ∀ s x, X.setO (S s) lz1 iz1 (X.Obj.box 34 (bx_34 E x)) = S (s.1, x)) {r : Int} (h : P62x1 fu a0 b0 b1 = some r) {args : List PV} (ha : [PV.d (.int .i64 a0), PV.ptr lz0 iz0 0, PV.ptr lz1 iz1 0] = args) {st : St} (hst : S (c0, c1) = st) :
    Sat (Ω.cf 62 args st) (fun q => q = (PV.d (.int .i64 r), S (c0, c1))) := by
  subst ha
  subst hst
  subst e0
  subst e1
  rcases b0 with ⟨b0_l, b0_x⟩
  rcases b1 with ⟨b1_l, b1_x⟩
  rw [cf_body hΩ (f := 62) (fn := Try.f62) (x := c62) rfl rfl c62_ok rfl]
  unfold P62x1 at h
  try dsimp only at h
  conv => arg 1; cbv
  obtain ⟨q, hl11, hz⟩ := Option.bind_eq_some_iff.1 h
  clear h
  have h := hz
  clear hz
  refine sat_loop hΩ (fun (a : Int × Int) => (match a with | (i1, i2) => ([(0, PV.d (.int .i64 a0)), (1, PV.ptr (lz0+1) iz0 0), (2, PV.ptr (lz1+1) iz1 0), (4, PV.d (.int .i64 i1)), (5, PV.d (.int .i64 i2))], ([] : List X.Obj) :: S ((Sl.mk b0_l b0_x), (Sl.mk b1_l b1_x))))) (fun (q : (Int × Int) ⊕ (Int × Int)) => (match q with | .inl (o12, o13) => (.exit 0, [(0, PV.d (.int .i64 a0)), (1, PV.ptr (lz0+1) iz0 0), (2, PV.ptr (lz1+1) iz1 0), (4, PV.d (.int .i64 o12)), (5, PV.d (.int .i64 o13))], ([] : List X.Obj) :: S ((Sl.mk b0_l b0_x), (Sl.mk b1_l b1_x))) | .inr (o14, o15) => (.ret, [(0, PV.d (.int .i64 a0)), (1, PV.ptr (lz0+1) iz0 0), (2, PV.ptr (lz1+1) iz1 0), (4, PV.d (.int .i64 o14)), (5, PV.d (.int .i64 o15))], ([] : List X.Obj) :: S ((Sl.mk b0_l b0_x), (Sl.mk b1_l b1_x))))) (0, w64 (a0 + 1)) hl11 (by first | rfl | (subst_vars; rfl) | (subst_vars; simp only [ln_set])) ?_ ?_
  · clear h hl11
    rintro ⟨i1, i2⟩ q h
    unfold P62x1_s0 at h
    dsimp only at h
    conv => arg 1; cbv
    refine sat_far hΩ (hg0 _) rfl ?_
    conv => arg 1; cbv
    refine sat_len hΩ (ro_i_i64 hE) b0_l (by first | rfl | (subst_vars; rfl)) fun n3 hn4 => ?_
    conv => arg 1; cbv
    refine sat_in hΩ ?_
    conv => arg 1; cbv
    replace h := bif_cases h
    rcases h with ⟨hb5, h⟩ | ⟨hb5, h⟩
    · refine sat_brt (by first | exact hb5 | (subst_vars; first | exact hb5 | rfl)) ?_
      conv => arg 1; cbv
      refine sat_far hΩ (hg1 _) rfl ?_
      conv => arg 1; cbv
      refine sat_true (fits_l hΩ (ro_bool hE) b1_l (by first | rfl | (subst_vars; rfl))) ?_
      conv => arg 1; cbv
      obtain ⟨x6, hx7, hz⟩ := Option.bind_eq_some_iff.1 h
      clear h
      have h := hz
      clear hz
      refine sat_bind (nth_ok hΩ (ro_bool hE) hx7 (by first | rfl | (subst_vars; rfl)) (by first | rfl | (subst_vars; rfl))) ?_
      conv => arg 1; cbv
      refine sat_in hΩ ?_
      conv => arg 1; cbv
      replace h := bif_cases h
      rcases h with ⟨hb8, h⟩ | ⟨hb8, h⟩
      · refine sat_brt (by first | exact hb8 | (subst_vars; first | exact hb8 | rfl)) ?_
        conv => arg 1; cbv
        refine sat_far hΩ (hg0 _) rfl ?_
        conv => arg 1; cbv
        refine sat_true (fits_l hΩ (ro_i_i64 hE) b0_l (by first | rfl | (subst_vars; rfl))) ?_
        conv => arg 1; cbv
        obtain ⟨x9, hx10, hz⟩ := Option.bind_eq_some_iff.1 h
        clear h
        have h := hz
        clear hz
        refine sat_bind (nth_ok hΩ (ro_i_i64 hE) hx10 (by first | rfl | (subst_vars; rfl)) (by first | rfl | (subst_vars; rfl))) ?_
        conv => arg 1; cbv
        obtain rfl := Option.some.inj h
        subst_vars
        first | exact sat_pure (.inr ⟨rfl, rfl⟩) | (refine sat_pure (.inr ⟨rfl, ?_⟩); dsimp only; simp only [ln_set]; rfl)
      · refine sat_brf (by first | exact hb8 | (subst_vars; first | exact hb8 | rfl)) ?_
        conv => arg 1; cbv
        obtain rfl := Option.some.inj h
        subst_vars
        first | exact sat_pure ⟨rfl, rfl, rfl⟩ | (refine sat_pure ⟨rfl, ?_, ?_⟩ <;> first | rfl | (dsimp only; simp only [ln_set]; rfl))
    · refine sat_brf (by first | exact hb5 | (subst_vars; first | exact hb5 | rfl)) ?_
      conv => arg 1; cbv
      obtain rfl := Option.some.inj h
      subst_vars
      first | exact sat_pure (.inl ⟨⟨_, rfl⟩, rfl⟩) | (refine sat_pure (.inl ⟨⟨_, rfl⟩, ?_⟩); dsimp only; simp only [ln_set]; rfl)
  · clear hl11
    rcases q with ⟨o12, o13⟩ | ⟨o14, o15⟩
    · dsimp only at h
      conv => arg 1; cbv
      obtain rfl := Option.some.inj h
      subst_vars
      exact sat_pure rfl
    · dsimp only at h
      conv => arg 1; cbv
      obtain rfl := Option.some.inj h
      subst_vars
      exact sat_pure rfl
set_option maxHeartbeats 4000000 in
theorem ok38 {Ω : Om} {E : Enc} (hΩ : real (call S) = Ω) (hE : theEnc = E) {fu : Nat} {a0 : Sl Int} {a1 : Sl Int} {r : (List PlaceStep)} (h : P38 fu a0 a1 = some r) {args : List PV} (ha : [PV.d (.sl (E.L_i_i64 a0.l) (E.X_i_i64 a0.x)), PV.d (.sl (E.L_i_i64 a1.l) (E.X_i_i64 a1.x))] = args) {n : Int} (hn : ln r = n) (fr : List X.Obj) (st : St) :
    Sat (Ω.cf 38 args (fr :: st)) (fun q => q = (PV.row 0 fr.length n, (fr ++ [.row 58 2 (E.L_PlaceStep r) true none]) :: st)) := by
  subst ha
  rcases a0 with ⟨a0_l, a0_x⟩
  rcases a1 with ⟨a1_l, a1_x⟩
  rw [cf_body hΩ (f := 38) (fn := Try.f38) (x := c38) rfl rfl c38_ok rfl]
  unfold P38 at h
  try dsimp only at h
  conv => arg 1; cbv
  refine sat_nil hΩ (ro_PlaceStep hE) fun l1 hl2 => ?_
  conv => arg 1; cbv
  obtain ⟨⟨⟨r4_l, r4_x⟩, r5⟩, hx3, hz⟩ := Option.bind_eq_some_iff.1 h
  clear h
  have h := hz
  clear hz
  try dsimp only at h
  refine sat_call (ok61 hΩ hE hx3 (by subst_vars; rfl) _ _) ?_
  conv => arg 1; cbv
  obtain ⟨⟨⟨r7_l, r7_x⟩, r8⟩, hx6, hz⟩ := Option.bind_eq_some_iff.1 h
  clear h
  have h := hz
  clear hz
  try dsimp only at h
  refine sat_call (ok61 hΩ hE hx6 (by subst_vars; rfl) _ _) ?_
  conv => arg 1; cbv
  refine sat_nil hΩ (ro_i_i64 hE) fun l9 hl10 => ?_
  conv => arg 1; cbv
  refine sat_len hΩ (ro_i_i64 hE) r7_l (by first | rfl | (subst_vars; rfl)) fun n11 hn12 => ?_
  conv => arg 1; cbv
  obtain ⟨q, hl30, hz⟩ := Option.bind_eq_some_iff.1 h
  clear h
  have h := hz
  clear hz
  refine sat_loop hΩ (fun (a : (List Int) × Int) => (match a with | (l13, i14) => ([(0, PV.d (.sl (E.L_i_i64 a0_l) (E.X_i_i64 a0_x))), (1, PV.d (.sl (E.L_i_i64 a1_l) (E.X_i_i64 a1_x))), (3, PV.ptr 0 0 0), (4, PV.row 0 1 0), (6, PV.map 0 2), (7, PV.row 0 4 (ln l13)), (26, PV.d (.sl (E.L_i_i64 r7_l) (E.X_i_i64 r7_x))), (27, PV.d (.int .i64 n11)), (28, PV.d (.int .i64 i14))], ([X.Obj.box 31 [.d (.sl (E.L_i_i64 r7_l) (E.X_i_i64 r7_x))], X.Obj.row 58 2 (E.L_PlaceStep l1) true none, X.Obj.map (some .i64) true (E.M_i_i64_i_i64 r5), X.Obj.map (some .i64) true (E.M_i_i64_i_i64 r8), X.Obj.row 3 1 (E.L_i_i64 l13) true none] : List X.Obj) :: fr :: st))) (fun (q : ((List Int) × Int)) => (match q with | (o31, o32) => (.exit 0, [(0, PV.d (.sl (E.L_i_i64 a0_l) (E.X_i_i64 a0_x))), (1, PV.d (.sl (E.L_i_i64 a1_l) (E.X_i_i64 a1_x))), (3, PV.ptr 0 0 0), (4, PV.row 0 1 0), (6, PV.map 0 2), (7, PV.row 0 4 (ln o31)), (26, PV.d (.sl (E.L_i_i64 r7_l) (E.X_i_i64 r7_x))), (27, PV.d (.int .i64 n11)), (28, PV.d (.int .i64 o32))], ([X.Obj.box 31 [.d (.sl (E.L_i_i64 r7_l) (E.X_i_i64 r7_x))], X.Obj.row 58 2 (E.L_PlaceStep l1) true none, X.Obj.map (some .i64) true (E.M_i_i64_i_i64 r5), X.Obj.map (some .i64) true (E.M_i_i64_i_i64 r8), X.Obj.row 3 1 (E.L_i_i64 o31) true none] : List X.Obj) :: fr :: st))) (([] : List Int), 0) hl30 (by first | rfl | (subst_vars; rfl) | (subst_vars; simp only [ln_set])) ?_ ?_
  · clear h hl30
    rintro ⟨l13, i14⟩ q h
    unfold P38_s0 at h
    dsimp only at h
    obtain ⟨ln_l13, hln_l13⟩ : ∃ n, ln l13 = n := ⟨_, rfl⟩
    simp only [hln_l13]
    conv => arg 1; cbv
    refine sat_in hΩ ?_
    conv => arg 1; cbv
    replace h := bif_cases h
    rcases h with ⟨hb15, h⟩ | ⟨hb15, h⟩
    · refine sat_brt (by first | exact hb15 | (subst_vars; first | exact hb15 | rfl)) ?_
      conv => arg 1; cbv
      refine sat_true (fits_l hΩ (ro_i_i64 hE) r7_l (by first | rfl | (subst_vars; rfl))) ?_
      conv => arg 1; cbv
      obtain ⟨x16, hx17, hz⟩ := Option.bind_eq_some_iff.1 h
      clear h
      have h := hz
      clear hz
      refine sat_bind (nth_ok hΩ (ro_i_i64 hE) hx17 (by first | rfl | (subst_vars; rfl)) (by first | rfl | (subst_vars; rfl))) ?_
      conv => arg 1; cbv
      rcases hq19 : mget r5 x16 with _ | x18
      · rw [hq19] at h
        dsimp only at h
        refine sat_find_none hΩ (mo_i_i64_i_i64 hE) hq19 (by first | rfl | (subst_vars; rfl)) (by first | rfl | (subst_vars; rfl)) ?_
        conv => arg 1; cbv
        refine sat_in hΩ ?_
        conv => arg 1; cbv
        refine sat_true (ieq_ok hΩ _) ?_
        conv => arg 1; cbv
        refine sat_true (fits_l hΩ (ro_i_i64 hE) [(-1)] (by first | rfl | (subst_vars; rfl))) ?_
        conv => arg 1; cbv
        refine sat_true (len_ok hΩ (ro_i_i64 hE) l13 (by first | rfl | (subst_vars; rfl) | (subst_vars; simp only [ln_set])) (by first | rfl | (subst_vars; rfl) | (subst_vars; simp only [ln_set]))) ?_
        conv => arg 1; cbv
        refine sat_brf (len_zero hΩ (ro_i_i64 hE) (l := [(-1)]) (b := false) (by rfl) (by first | rfl | (subst_vars; rfl))) ?_
        conv => arg 1; cbv
        refine sat_cat hΩ (ro_i_i64 hE) l13 [(-1)] (by first | rfl | (subst_vars; rfl)) (by first | rfl | (subst_vars; rfl)) fun l20 hl21 n22 hn23 => ?_
        conv => arg 1; cbv
        replace h := bif_some h
        obtain ⟨hb24, h⟩ := h
        refine sat_true (by first | exact hb24 | (subst_vars; first | exact hb24 | rfl)) ?_
        conv => arg 1; cbv
        obtain rfl := Option.some.inj h
        subst_vars
        first | exact sat_pure ⟨rfl, rfl, rfl⟩ | (refine sat_pure ⟨rfl, ?_, ?_⟩ <;> first | rfl | (dsimp only; simp only [ln_set]; rfl))
      · rw [hq19] at h
        dsimp only at h
        refine sat_find_some hΩ (mo_i_i64_i_i64 hE) hq19 (by first | rfl | (subst_vars; rfl)) (by first | rfl | (subst_vars; rfl)) ?_
        conv => arg 1; cbv
        refine sat_in hΩ ?_
        conv => arg 1; cbv
        refine sat_true (ieq_ok hΩ _) ?_
        conv => arg 1; cbv
        refine sat_true (fits_l hΩ (ro_i_i64 hE) [x18] (by first | rfl | (subst_vars; rfl))) ?_
        conv => arg 1; cbv
        refine sat_true (len_ok hΩ (ro_i_i64 hE) l13 (by first | rfl | (subst_vars; rfl) | (subst_vars; simp only [ln_set])) (by first | rfl | (subst_vars; rfl) | (subst_vars; simp only [ln_set]))) ?_
        conv => arg 1; cbv
        refine sat_brf (len_zero hΩ (ro_i_i64 hE) (l := [x18]) (b := false) (by rfl) (by first | rfl | (subst_vars; rfl))) ?_
        conv => arg 1; cbv
        refine sat_cat hΩ (ro_i_i64 hE) l13 [x18] (by first | rfl | (subst_vars; rfl)) (by first | rfl | (subst_vars; rfl)) fun l25 hl26 n27 hn28 => ?_
        conv => arg 1; cbv
        replace h := bif_some h
        obtain ⟨hb29, h⟩ := h
        refine sat_true (by first | exact hb29 | (subst_vars; first | exact hb29 | rfl)) ?_
        conv => arg 1; cbv
        obtain rfl := Option.some.inj h
        subst_vars
        first | exact sat_pure ⟨rfl, rfl, rfl⟩ | (refine sat_pure ⟨rfl, ?_, ?_⟩ <;> first | rfl | (dsimp only; simp only [ln_set]; rfl))
    · refine sat_brf (by first | exact hb15 | (subst_vars; first | exact hb15 | rfl)) ?_
      conv => arg 1; cbv
      obtain rfl := Option.some.inj h
      subst_vars
      first | exact sat_pure (.inl ⟨⟨_, rfl⟩, rfl⟩) | (refine sat_pure (.inl ⟨⟨_, rfl⟩, ?_⟩); dsimp only; simp only [ln_set]; rfl)
  · clear hl30
    rcases q with ⟨o31, o32⟩
    dsimp only at h
    obtain ⟨ln_o31, hln_o31⟩ : ∃ n, ln o31 = n := ⟨_, rfl⟩
    simp only [hln_o31]
    conv => arg 1; cbv
    refine sat_true (len_ok hΩ (ro_i_i64 hE) o31 (by first | rfl | (subst_vars; rfl)) (by first | rfl | (subst_vars; rfl))) ?_
    conv => arg 1; cbv
    obtain ⟨⟨r33_l, r33_x⟩, hx34, hz⟩ := Option.bind_eq_some_iff.1 h
    clear h
    have h := hz
    clear hz
    try dsimp only at h
    refine sat_call (ok21 hΩ hE hx34 (by subst_vars; rfl) _) ?_
    conv => arg 1; cbv
    refine sat_len hΩ (ro_i_i64 hE) r7_l (by first | rfl | (subst_vars; rfl)) fun n35 hn36 => ?_
    conv => arg 1; cbv
    obtain ⟨q, hl52, hz⟩ := Option.bind_eq_some_iff.1 h
    clear h
    have h := hz
    clear hz
    refine sat_loop hΩ (fun (a : (List PlaceStep) × Int) => (match a with | (l37, i38) => ([(0, PV.d (.sl (E.L_i_i64 a0_l) (E.X_i_i64 a0_x))), (1, PV.d (.sl (E.L_i_i64 a1_l) (E.X_i_i64 a1_x))), (3, PV.ptr 0 0 0), (4, PV.row 0 1 (ln l37)), (6, PV.map 0 2), (7, PV.row 0 4 (ln o31)), (12, PV.ptr 0 5 0), (13, PV.fn 62 [.ptr 0 0 0, .ptr 0 5 0]), (26, PV.d (.sl (E.L_i_i64 r7_l) (E.X_i_i64 r7_x))), (27, PV.d (.int .i64 n11)), (28, PV.d (.int .i64 o32)), (50, PV.d (.sl (E.L_i_i64 r7_l) (E.X_i_i64 r7_x))), (51, PV.d (.int .i64 n35)), (52, PV.d (.int .i64 i38))], ([X.Obj.box 31 [.d (.sl (E.L_i_i64 r7_l) (E.X_i_i64 r7_x))], X.Obj.row 58 2 (E.L_PlaceStep l37) true none, X.Obj.map (some .i64) true (E.M_i_i64_i_i64 r5), X.Obj.map (some .i64) true (E.M_i_i64_i_i64 r8), X.Obj.row 3 1 (E.L_i_i64 o31) false none, X.Obj.box 34 [.d (.sl (E.L_bool r33_l) (E.X_bool r33_x))]] : List X.Obj) :: fr :: st))) (fun (q : ((List PlaceStep) × Int)) => (match q with | (o53, o54) => (.exit 2, [(0, PV.d (.sl (E.L_i_i64 a0_l) (E.X_i_i64 a0_x))), (1, PV.d (.sl (E.L_i_i64 a1_l) (E.X_i_i64 a1_x))), (3, PV.ptr 0 0 0), (4, PV.row 0 1 (ln o53)), (6, PV.map 0 2), (7, PV.row 0 4 (ln o31)), (12, PV.ptr 0 5 0), (13, PV.fn 62 [.ptr 0 0 0, .ptr 0 5 0]), (26, PV.d (.sl (E.L_i_i64 r7_l) (E.X_i_i64 r7_x))), (27, PV.d (.int .i64 n11)), (28, PV.d (.int .i64 o32)), (50, PV.d (.sl (E.L_i_i64 r7_l) (E.X_i_i64 r7_x))), (51, PV.d (.int .i64 n35)), (52, PV.d (.int .i64 o54))], ([X.Obj.box 31 [.d (.sl (E.L_i_i64 r7_l) (E.X_i_i64 r7_x))], X.Obj.row 58 2 (E.L_PlaceStep o53) true none, X.Obj.map (some .i64) true (E.M_i_i64_i_i64 r5), X.Obj.map (some .i64) true (E.M_i_i64_i_i64 r8), X.Obj.row 3 1 (E.L_i_i64 o31) false none, X.Obj.box 34 [.d (.sl (E.L_bool r33_l) (E.X_bool r33_x))]] : List X.Obj) :: fr :: st))) (([] : List PlaceStep), 0) hl52 (by first | rfl | (subst_vars; rfl) | (subst_vars; simp only [ln_set])) ?_ ?_
    · clear h hl52
      rintro ⟨l37, i38⟩ q h
      unfold P38_s1 at h
      dsimp only at h
      obtain ⟨ln_l37, hln_l37⟩ : ∃ n, ln l37 = n := ⟨_, rfl⟩
      simp only [hln_l37]
      obtain ⟨ln_o31, hln_o31⟩ : ∃ n, ln o31 = n := ⟨_, rfl⟩
      simp only [hln_o31]
      conv => arg 1; cbv
      refine sat_in hΩ ?_
      conv => arg 1; cbv
      replace h := bif_cases h
      rcases h with ⟨hb39, h⟩ | ⟨hb39, h⟩
      · refine sat_brt (by first | exact hb39 | (subst_vars; first | exact hb39 | rfl)) ?_
        conv => arg 1; cbv
        refine sat_true (fits_l hΩ (ro_i_i64 hE) r7_l (by first | rfl | (subst_vars; rfl))) ?_
        conv => arg 1; cbv
        obtain ⟨x40, hx41, hz⟩ := Option.bind_eq_some_iff.1 h
        clear h
        have h := hz
        clear hz
        refine sat_bind (nth_ok hΩ (ro_i_i64 hE) hx41 (by first | rfl | (subst_vars; rfl)) (by first | rfl | (subst_vars; rfl))) ?_
        conv => arg 1; cbv
        refine sat_true (fits_l hΩ (ro_bool hE) r33_l (by first | rfl | (subst_vars; rfl))) ?_
        conv => arg 1; cbv
        obtain ⟨x42, hx43, hz⟩ := Option.bind_eq_some_iff.1 h
        clear h
        have h := hz
        clear hz
        refine sat_bind (nth_ok hΩ (ro_bool hE) hx43 (by first | rfl | (subst_vars; rfl)) (by first | rfl | (subst_vars; rfl))) ?_
        conv => arg 1; cbv
        refine sat_in hΩ ?_
        conv => arg 1; cbv
        replace h := bif_cases h
        rcases h with ⟨hb44, h⟩ | ⟨hb44, h⟩
        · refine sat_brt (by first | exact hb44 | (subst_vars; first | exact hb44 | rfl)) ?_
          conv => arg 1; cbv
          obtain ⟨r46, hx45, hz⟩ := Option.bind_eq_some_iff.1 h
          clear h
          have h := hz
          clear hz
          refine sat_call (ok62x1 hΩ hE (S := (fun (s : (Sl Int) × (Sl Bool)) => ([X.Obj.box 31 (bx_31 E s.1), X.Obj.row 58 2 (E.L_PlaceStep l37) true none, X.Obj.map (some .i64) true (E.M_i_i64_i_i64 r5), X.Obj.map (some .i64) true (E.M_i_i64_i_i64 r8), X.Obj.row 3 1 (E.L_i_i64 o31) false none, X.Obj.box 34 (bx_34 E s.2)] : List X.Obj) :: fr :: st)) (lz0 := 0) (iz0 := 0) (c0 := (Sl.mk r7_l r7_x)) (lz1 := 0) (iz1 := 5) (c1 := (Sl.mk r33_l r33_x)) (by subst_vars; rfl) (by subst_vars; rfl) (fun s => rfl) (fun s x => rfl) (fun s => rfl) (fun s x => rfl) hx45 (by subst_vars; rfl) (by subst_vars; rfl)) ?_
          conv => arg 1; cbv
          refine sat_true (ieq_ok hΩ _) ?_
          conv => arg 1; cbv
          refine sat_true (fits_l hΩ (ro_PlaceStep hE) [(PlaceStep.mk x40 r46)] (by first | rfl | (subst_vars; rfl))) ?_
          conv => arg 1; cbv
          refine sat_true (len_ok hΩ (ro_PlaceStep hE) l37 (by first | rfl | (subst_vars; rfl) | (subst_vars; simp only [ln_set])) (by first | rfl | (subst_vars; rfl) | (subst_vars; simp only [ln_set]))) ?_
          conv => arg 1; cbv
          refine sat_brf (len_zero hΩ (ro_PlaceStep hE) (l := [(PlaceStep.mk x40 r46)]) (b := false) (by rfl) (by first | rfl | (subst_vars; rfl))) ?_
          conv => arg 1; cbv
          refine sat_cat hΩ (ro_PlaceStep hE) l37 [(PlaceStep.mk x40 r46)] (by first | rfl | (subst_vars; rfl)) (by first | rfl | (subst_vars; rfl)) fun l47 hl48 n49 hn50 => ?_
          conv => arg 1; cbv
          replace h := bif_some h
          obtain ⟨hb51, h⟩ := h
          refine sat_true (by first | exact hb51 | (subst_vars; first | exact hb51 | rfl)) ?_
          conv => arg 1; cbv
          obtain rfl := Option.some.inj h
          subst_vars
          first | exact sat_pure ⟨rfl, rfl, rfl⟩ | (refine sat_pure ⟨rfl, ?_, ?_⟩ <;> first | rfl | (dsimp only; simp only [ln_set]; rfl))
        · refine sat_brf (by first | exact hb44 | (subst_vars; first | exact hb44 | rfl)) ?_
          conv => arg 1; cbv
          obtain rfl := Option.some.inj h
          subst_vars
          first | exact sat_pure ⟨rfl, rfl, rfl⟩ | (refine sat_pure ⟨rfl, ?_, ?_⟩ <;> first | rfl | (dsimp only; simp only [ln_set]; rfl))
      · refine sat_brf (by first | exact hb39 | (subst_vars; first | exact hb39 | rfl)) ?_
        conv => arg 1; cbv
        obtain rfl := Option.some.inj h
        subst_vars
        first | exact sat_pure (.inl ⟨⟨_, rfl⟩, rfl⟩) | (refine sat_pure (.inl ⟨⟨_, rfl⟩, ?_⟩); dsimp only; simp only [ln_set]; rfl)
    · clear hl52
      rcases q with ⟨o53, o54⟩
      dsimp only at h
      obtain ⟨ln_o53, hln_o53⟩ : ∃ n, ln o53 = n := ⟨_, rfl⟩
      simp only [hln_o53]
      obtain ⟨ln_o31, hln_o31⟩ : ∃ n, ln o31 = n := ⟨_, rfl⟩
      simp only [hln_o31]
      conv => arg 1; cbv
      obtain rfl := Option.some.inj h
      subst_vars
      exact sat_pure (by cases fr <;> rfl)
set_option maxHeartbeats 4000000 in
theorem ok64 {Ω : Om} {E : Enc} (hΩ : real (call S) = Ω) (hE : theEnc = E) {fu : Nat} {a0 : Sl Int} {a1 : Int} {r : Int} (h : P64 fu a0 a1 = some r) {args : List PV} (ha : [PV.d (.sl (E.L_i_i64 a0.l) (E.X_i_i64 a0.x)), PV.d (.int .i64 a1)] = args) (st : St) :
    Sat (Ω.cf 64 args st) (fun q => q = (PV.d (.int .i64 r), st)) := by
  subst ha
  rcases a0 with ⟨a0_l, a0_x⟩
  rw [cf_body hΩ (f := 64) (fn := Try.f64) (x := c64) rfl rfl c64_ok rfl]
  unfold P64 at h
  try dsimp only at h
  conv => arg 1; cbv
  obtain ⟨q, hl9, hz⟩ := Option.bind_eq_some_iff.1 h
  clear h
  have h := hz
  clear hz
  refine sat_loop hΩ (fun (a : Int × Int) => (match a with | (i1, i2) => ([(0, PV.d (.sl (E.L_i_i64 a0_l) (E.X_i_i64 a0_x))), (1, PV.d (.int .i64 a1)), (4, PV.d (.int .i64 i1)), (5, PV.d (.int .i64 i2))], ([] : List X.Obj) :: st))) (fun (q : (Int × Int) ⊕ (Int × Int)) => (match q with | .inl (o10, o11) => (.exit 0, [(0, PV.d (.sl (E.L_i_i64 a0_l) (E.X_i_i64 a0_x))), (1, PV.d (.int .i64 a1)), (4, PV.d (.int .i64 o10)), (5, PV.d (.int .i64 o11))], ([] : List X.Obj) :: st) | .inr (o12, o13) => (.ret, [(0, PV.d (.sl (E.L_i_i64 a0_l) (E.X_i_i64 a0_x))), (1, PV.d (.int .i64 a1)), (4, PV.d (.int .i64 o12)), (5, PV.d (.int .i64 o13))], ([] : List X.Obj) :: st))) (0, 0) hl9 (by first | rfl | (subst_vars; rfl) | (subst_vars; simp only [ln_set])) ?_ ?_
  · clear h hl9
    rintro ⟨i1, i2⟩ q h
    unfold P64_s0 at h
    dsimp only at h
    conv => arg 1; cbv
    refine sat_len hΩ (ro_i_i64 hE) a0_l (by first | rfl | (subst_vars; rfl)) fun n3 hn4 => ?_
    conv => arg 1; cbv
    refine sat_in hΩ ?_
    conv => arg 1; cbv
    replace h := bif_cases h
    rcases h with ⟨hb5, h⟩ | ⟨hb5, h⟩
    · refine sat_brt (by first | exact hb5 | (subst_vars; first | exact hb5 | rfl)) ?_
      conv => arg 1; cbv
      refine sat_true (fits_l hΩ (ro_i_i64 hE) a0_l (by first | rfl | (subst_vars; rfl))) ?_
      conv => arg 1; cbv
      obtain ⟨x6, hx7, hz⟩ := Option.bind_eq_some_iff.1 h
      clear h
      have h := hz
      clear hz
      refine sat_bind (nth_ok hΩ (ro_i_i64 hE) hx7 (by first | rfl | (subst_vars; rfl)) (by first | rfl | (subst_vars; rfl))) ?_
      conv => arg 1; cbv
      refine sat_in hΩ ?_
      conv => arg 1; cbv
      replace h := bif_cases h
      rcases h with ⟨hb8, h⟩ | ⟨hb8, h⟩
      · refine sat_brt (by first | exact hb8 | (subst_vars; first | exact hb8 | rfl)) ?_
        conv => arg 1; cbv
        obtain rfl := Option.some.inj h
        subst_vars
        first | exact sat_pure (.inr ⟨rfl, rfl⟩) | (refine sat_pure (.inr ⟨rfl, ?_⟩); dsimp only; simp only [ln_set]; rfl)
      · refine sat_brf (by first | exact hb8 | (subst_vars; first | exact hb8 | rfl)) ?_
        conv => arg 1; cbv
        obtain rfl := Option.some.inj h
        subst_vars
        first | exact sat_pure ⟨rfl, rfl, rfl⟩ | (refine sat_pure ⟨rfl, ?_, ?_⟩ <;> first | rfl | (dsimp only; simp only [ln_set]; rfl))
    · refine sat_brf (by first | exact hb5 | (subst_vars; first | exact hb5 | rfl)) ?_
      conv => arg 1; cbv
      obtain rfl := Option.some.inj h
      subst_vars
      first | exact sat_pure (.inl ⟨⟨_, rfl⟩, rfl⟩) | (refine sat_pure (.inl ⟨⟨_, rfl⟩, ?_⟩); dsimp only; simp only [ln_set]; rfl)
  · clear hl9
    rcases q with ⟨o10, o11⟩ | ⟨o12, o13⟩
    · dsimp only at h
      conv => arg 1; cbv
      obtain rfl := Option.some.inj h
      subst_vars
      exact sat_pure rfl
    · dsimp only at h
      conv => arg 1; cbv
      obtain rfl := Option.some.inj h
      subst_vars
      exact sat_pure rfl
set_option maxHeartbeats 4000000 in
theorem ok63 {Ω : Om} {E : Enc} (hΩ : real (call S) = Ω) (hE : theEnc = E) {fu : Nat} {a0 : Sl Int} {r : (Sl Int)} (h : P63 fu a0 = some r) {args : List PV} (ha : [PV.d (.sl (E.L_i_i64 a0.l) (E.X_i_i64 a0.x))] = args) (st : St) :
    Sat (Ω.cf 63 args st) (fun q => q = (PV.d (.sl (E.L_i_i64 r.l) (E.X_i_i64 r.x)), st)) := by
  subst ha
  rcases a0 with ⟨a0_l, a0_x⟩
  rw [cf_body hΩ (f := 63) (fn := Try.f63) (x := c63) rfl rfl c63_ok rfl]
  unfold P63 at h
  try dsimp only at h
  conv => arg 1; cbv
  refine sat_nil hΩ (ro_i_i64 hE) fun l1 hl2 => ?_
  conv => arg 1; cbv
  obtain ⟨q, hl20, hz⟩ := Option.bind_eq_some_iff.1 h
  clear h
  have h := hz
  clear hz
  refine sat_loop hΩ (fun (a : (List Int) × Int) => (match a with | (l3, i4) => ([(0, PV.d (.sl (E.L_i_i64 a0_l) (E.X_i_i64 a0_x))), (2, PV.d (.sl [] (some []))), (3, PV.row 0 0 (ln l3)), (4, PV.d (.int .i64 i4))], ([X.Obj.row 3 1 (E.L_i_i64 l3) false none] : List X.Obj) :: st))) (fun (q : ((List Int) × Int)) => (match q with | (o21, o22) => (.exit 0, [(0, PV.d (.sl (E.L_i_i64 a0_l) (E.X_i_i64 a0_x))), (2, PV.d (.sl [] (some []))), (3, PV.row 0 0 (ln o21)), (4, PV.d (.int .i64 o22))], ([X.Obj.row 3 1 (E.L_i_i64 o21) false none] : List X.Obj) :: st))) (([] : List Int), 0) hl20 (by first | rfl | (subst_vars; rfl) | (subst_vars; simp only [ln_set])) ?_ ?_
  · clear h hl20
    rintro ⟨l3, i4⟩ q h
    unfold P63_s0 at h
    dsimp only at h
    obtain ⟨ln_l3, hln_l3⟩ : ∃ n, ln l3 = n := ⟨_, rfl⟩
    simp only [hln_l3]
    conv => arg 1; cbv
    refine sat_len hΩ (ro_i_i64 hE) a0_l (by first | rfl | (subst_vars; rfl)) fun n5 hn6 => ?_
    conv => arg 1; cbv
    refine sat_in hΩ ?_
    conv => arg 1; cbv
    replace h := bif_cases h
    rcases h with ⟨hb7, h⟩ | ⟨hb7, h⟩
    · refine sat_brt (by first | exact hb7 | (subst_vars; first | exact hb7 | rfl)) ?_
      conv => arg 1; cbv
      refine sat_true (fits_l hΩ (ro_i_i64 hE) a0_l (by first | rfl | (subst_vars; rfl))) ?_
      conv => arg 1; cbv
      obtain ⟨x8, hx9, hz⟩ := Option.bind_eq_some_iff.1 h
      clear h
      have h := hz
      clear hz
      refine sat_bind (nth_ok hΩ (ro_i_i64 hE) hx9 (by first | rfl | (subst_vars; rfl)) (by first | rfl | (subst_vars; rfl))) ?_
      conv => arg 1; cbv
      refine sat_true (len_ok hΩ (ro_i_i64 hE) l3 (by first | rfl | (subst_vars; rfl)) (by first | rfl | (subst_vars; rfl))) ?_
      conv => arg 1; cbv
      obtain ⟨r10, hx11, hz⟩ := Option.bind_eq_some_iff.1 h
      clear h
      have h := hz
      clear hz
      refine sat_call (ok64 hΩ hE hx11 (by subst_vars; rfl) _) ?_
      conv => arg 1; cbv
      refine sat_in hΩ ?_
      conv => arg 1; cbv
      replace h := bif_cases h
      rcases h with ⟨hb12, h⟩ | ⟨hb12, h⟩
      · refine sat_brt (by first | exact hb12 | (subst_vars; first | exact hb12 | rfl)) ?_
        conv => arg 1; cbv
        refine sat_true (fits_l hΩ (ro_i_i64 hE) a0_l (by first | rfl | (subst_vars; rfl))) ?_
        conv => arg 1; cbv
        obtain ⟨x13, hx14, hz⟩ := Option.bind_eq_some_iff.1 h
        clear h
        have h := hz
        clear hz
        refine sat_bind (nth_ok hΩ (ro_i_i64 hE) hx14 (by first | rfl | (subst_vars; rfl)) (by first | rfl | (subst_vars; rfl))) ?_
        conv => arg 1; cbv
        refine sat_true (ieq_ok hΩ _) ?_
        conv => arg 1; cbv
        refine sat_true (fits_l hΩ (ro_i_i64 hE) [x13] (by first | rfl | (subst_vars; rfl))) ?_
        conv => arg 1; cbv
        refine sat_true (len_ok hΩ (ro_i_i64 hE) l3 (by first | rfl | (subst_vars; rfl) | (subst_vars; simp only [ln_set])) (by first | rfl | (subst_vars; rfl) | (subst_vars; simp only [ln_set]))) ?_
        conv => arg 1; cbv
        refine sat_brf (len_zero hΩ (ro_i_i64 hE) (l := [x13]) (b := false) (by rfl) (by first | rfl | (subst_vars; rfl))) ?_
        conv => arg 1; cbv
        refine sat_cat hΩ (ro_i_i64 hE) l3 [x13] (by first | rfl | (subst_vars; rfl)) (by first | rfl | (subst_vars; rfl)) fun l15 hl16 n17 hn18 => ?_
        conv => arg 1; cbv
        replace h := bif_some h
        obtain ⟨hb19, h⟩ := h
        refine sat_true (by first | exact hb19 | (subst_vars; first | exact hb19 | rfl)) ?_
        conv => arg 1; cbv
        obtain rfl := Option.some.inj h
        subst_vars
        first | exact sat_pure ⟨rfl, rfl, rfl⟩ | (refine sat_pure ⟨rfl, ?_, ?_⟩ <;> first | rfl | (dsimp only; simp only [ln_set]; rfl))
      · refine sat_brf (by first | exact hb12 | (subst_vars; first | exact hb12 | rfl)) ?_
        conv => arg 1; cbv
        obtain rfl := Option.some.inj h
        subst_vars
        first | exact sat_pure ⟨rfl, rfl, rfl⟩ | (refine sat_pure ⟨rfl, ?_, ?_⟩ <;> first | rfl | (dsimp only; simp only [ln_set]; rfl))
    · refine sat_brf (by first | exact hb7 | (subst_vars; first | exact hb7 | rfl)) ?_
      conv => arg 1; cbv
      obtain rfl := Option.some.inj h
      subst_vars
      first | exact sat_pure (.inl ⟨⟨_, rfl⟩, rfl⟩) | (refine sat_pure (.inl ⟨⟨_, rfl⟩, ?_⟩); dsimp only; simp only [ln_set]; rfl)
  · clear hl20
    rcases q with ⟨o21, o22⟩
    dsimp only at h
    obtain ⟨ln_o21, hln_o21⟩ : ∃ n, ln o21 = n := ⟨_, rfl⟩
    simp only [hln_o21]
    conv => arg 1; cbv
    refine sat_true (len_ok hΩ (ro_i_i64 hE) o21 (by first | rfl | (subst_vars; rfl)) (by first | rfl | (subst_vars; rfl))) ?_
    conv => arg 1; cbv
    obtain rfl := Option.some.inj h
    subst_vars
    exact sat_pure rfl
set_option maxHeartbeats 4000000 in
theorem ok22 {Ω : Om} {E : Enc} (hΩ : real (call S) = Ω) (hE : theEnc = E) {fu : Nat} {a0 : Sl Int} {r : (Sl Bool)} (h : P22 fu a0 = some r) {args : List PV} (ha : [PV.d (.sl (E.L_i_i64 a0.l) (E.X_i_i64 a0.x))] = args) (st : St) :
    Sat (Ω.cf 22 args st) (fun q => q = (PV.d (.sl (E.L_bool r.l) (E.X_bool r.x)), st)) := by
  subst ha
  rcases a0 with ⟨a0_l, a0_x⟩
  rw [cf_body hΩ (f := 22) (fn := Try.f22) (x := c22) rfl rfl c22_ok rfl]
  unfold P22 at h
  try dsimp only at h
  conv => arg 1; cbv
  refine sat_nil hΩ (ro_bool hE) fun l1 hl2 => ?_
  conv => arg 1; cbv
  obtain ⟨q, hl30, hz⟩ := Option.bind_eq_some_iff.1 h
  clear h
  have h := hz
  clear hz
  refine sat_loop hΩ (fun (a : (List Bool) × Int × Int) => (match a with | (l3, i4, i5) => ([(0, PV.d (.sl (E.L_i_i64 a0_l) (E.X_i_i64 a0_x))), (2, PV.d (.sl [] (some []))), (3, PV.row 0 0 (ln l3)), (4, PV.d (.int .i64 i4)), (5, PV.d (.int .i64 i5))], ([X.Obj.row 4 1 (E.L_bool l3) false none] : List X.Obj) :: st))) (fun (q : ((List Bool) × Int × Int)) => (match q with | (o31, o32, o33) => (.exit 0, [(0, PV.d (.sl (E.L_i_i64 a0_l) (E.X_i_i64 a0_x))), (2, PV.d (.sl [] (some []))), (3, PV.row 0 0 (ln o31)), (4, PV.d (.int .i64 o32)), (5, PV.d (.int .i64 o33))], ([X.Obj.row 4 1 (E.L_bool o31) false none] : List X.Obj) :: st))) (([] : List Bool), (-1), 0) hl30 (by first | rfl | (subst_vars; rfl) | (subst_vars; simp only [ln_set])) ?_ ?_
  · clear h hl30
    rintro ⟨l3, i4, i5⟩ q h
    unfold P22_s0 at h
    dsimp only at h
    obtain ⟨ln_l3, hln_l3⟩ : ∃ n, ln l3 = n := ⟨_, rfl⟩
    simp only [hln_l3]
    conv => arg 1; cbv
    refine sat_len hΩ (ro_i_i64 hE) a0_l (by first | rfl | (subst_vars; rfl)) fun n6 hn7 => ?_
    conv => arg 1; cbv
    refine sat_in hΩ ?_
    conv => arg 1; cbv
    replace h := bif_cases h
    rcases h with ⟨hb8, h⟩ | ⟨hb8, h⟩
    · refine sat_brt (by first | exact hb8 | (subst_vars; first | exact hb8 | rfl)) ?_
      conv => arg 1; cbv
      refine sat_true (fits_l hΩ (ro_i_i64 hE) a0_l (by first | rfl | (subst_vars; rfl))) ?_
      conv => arg 1; cbv
      obtain ⟨x9, hx10, hz⟩ := Option.bind_eq_some_iff.1 h
      clear h
      have h := hz
      clear hz
      refine sat_bind (nth_ok hΩ (ro_i_i64 hE) hx10 (by first | rfl | (subst_vars; rfl)) (by first | rfl | (subst_vars; rfl))) ?_
      conv => arg 1; cbv
      replace h := bif_cases h
      rcases h with ⟨hb11, h⟩ | ⟨hb11, h⟩
      · refine sat_brt (by first | exact hb11 | (subst_vars; first | exact hb11 | rfl)) ?_
        conv => arg 1; cbv
        refine sat_true (fits_l hΩ (ro_i_i64 hE) a0_l (by first | rfl | (subst_vars; rfl))) ?_
        conv => arg 1; cbv
        obtain ⟨x12, hx13, hz⟩ := Option.bind_eq_some_iff.1 h
        clear h
        have h := hz
        clear hz
        refine sat_bind (nth_ok hΩ (ro_i_i64 hE) hx13 (by first | rfl | (subst_vars; rfl)) (by first | rfl | (subst_vars; rfl))) ?_
        conv => arg 1; cbv
        refine sat_tick hΩ ?_
        conv => arg 1; cbv
        refine sat_true (ieq_ok hΩ _) ?_
        conv => arg 1; cbv
        refine sat_true (fits_l hΩ (ro_bool hE) [decide (x12 < 0)] (by first | rfl | (subst_vars; rfl))) ?_
        conv => arg 1; cbv
        refine sat_true (len_ok hΩ (ro_bool hE) l3 (by first | rfl | (subst_vars; rfl) | (subst_vars; simp only [ln_set])) (by first | rfl | (subst_vars; rfl) | (subst_vars; simp only [ln_set]))) ?_
        conv => arg 1; cbv
        refine sat_brf (len_zero hΩ (ro_bool hE) (l := [decide (x12 < 0)]) (b := false) (by rfl) (by first | rfl | (subst_vars; rfl))) ?_
        conv => arg 1; cbv
        refine sat_cat hΩ (ro_bool hE) l3 [decide (x12 < 0)] (by first | rfl | (subst_vars; rfl)) (by first | rfl | (subst_vars; rfl)) fun l14 hl15 n16 hn17 => ?_
        conv => arg 1; cbv
        replace h := bif_some h
        obtain ⟨hb18, h⟩ := h
        refine sat_true (by first | exact hb18 | (subst_vars; first | exact hb18 | rfl)) ?_
        conv => arg 1; cbv
        refine sat_true (fits_l hΩ (ro_i_i64 hE) a0_l (by first | rfl | (subst_vars; rfl))) ?_
        conv => arg 1; cbv
        obtain ⟨x19, hx20, hz⟩ := Option.bind_eq_some_iff.1 h
        clear h
        have h := hz
        clear hz
        refine sat_bind (nth_ok hΩ (ro_i_i64 hE) hx20 (by first | rfl | (subst_vars; rfl)) (by first | rfl | (subst_vars; rfl))) ?_
        conv => arg 1; cbv
        replace h := bif_cases h
        rcases h with ⟨hb21, h⟩ | ⟨hb21, h⟩
        · refine sat_brt (by first | exact hb21 | (subst_vars; first | exact hb21 | rfl)) ?_
          conv => arg 1; cbv
          obtain rfl := Option.some.inj h
          subst_vars
          first | exact sat_pure ⟨rfl, rfl, rfl⟩ | (refine sat_pure ⟨rfl, ?_, ?_⟩ <;> first | rfl | (dsimp only; simp only [ln_set]; rfl))
        · refine sat_brf (by first | exact hb21 | (subst_vars; first | exact hb21 | rfl)) ?_
          conv => arg 1; cbv
          obtain rfl := Option.some.inj h
          subst_vars
          first | exact sat_pure ⟨rfl, rfl, rfl⟩ | (refine sat_pure ⟨rfl, ?_, ?_⟩ <;> first | rfl | (dsimp only; simp only [ln_set]; rfl))
      · refine sat_brf (by first | exact hb11 | (subst_vars; first | exact hb11 | rfl)) ?_
        conv => arg 1; cbv
        refine sat_tick hΩ ?_
        conv => arg 1; cbv
        refine sat_true (ieq_ok hΩ _) ?_
        conv => arg 1; cbv
        refine sat_true (fits_l hΩ (ro_bool hE) [true] (by first | rfl | (subst_vars; rfl))) ?_
        conv => arg 1; cbv
        refine sat_true (len_ok hΩ (ro_bool hE) l3 (by first | rfl | (subst_vars; rfl) | (subst_vars; simp only [ln_set])) (by first | rfl | (subst_vars; rfl) | (subst_vars; simp only [ln_set]))) ?_
        conv => arg 1; cbv
        refine sat_brf (len_zero hΩ (ro_bool hE) (l := [true]) (b := false) (by rfl) (by first | rfl | (subst_vars; rfl))) ?_
        conv => arg 1; cbv
        refine sat_cat hΩ (ro_bool hE) l3 [true] (by first | rfl | (subst_vars; rfl)) (by first | rfl | (subst_vars; rfl)) fun l22 hl23 n24 hn25 => ?_
        conv => arg 1; cbv
        replace h := bif_some h
        obtain ⟨hb26, h⟩ := h
        refine sat_true (by first | exact hb26 | (subst_vars; first | exact hb26 | rfl)) ?_
        conv => arg 1; cbv
        refine sat_true (fits_l hΩ (ro_i_i64 hE) a0_l (by first | rfl | (subst_vars; rfl))) ?_
        conv => arg 1; cbv
        obtain ⟨x27, hx28, hz⟩ := Option.bind_eq_some_iff.1 h
        clear h
        have h := hz
        clear hz
        refine sat_bind (nth_ok hΩ (ro_i_i64 hE) hx28 (by first | rfl | (subst_vars; rfl)) (by first | rfl | (subst_vars; rfl))) ?_
        conv => arg 1; cbv
        replace h := bif_cases h
        rcases h with ⟨hb29, h⟩ | ⟨hb29, h⟩
        · refine sat_brt (by first | exact hb29 | (subst_vars; first | exact hb29 | rfl)) ?_
          conv => arg 1; cbv
          obtain rfl := Option.some.inj h
          subst_vars
          first | exact sat_pure ⟨rfl, rfl, rfl⟩ | (refine sat_pure ⟨rfl, ?_, ?_⟩ <;> first | rfl | (dsimp only; simp only [ln_set]; rfl))
        · refine sat_brf (by first | exact hb29 | (subst_vars; first | exact hb29 | rfl)) ?_
          conv => arg 1; cbv
          obtain rfl := Option.some.inj h
          subst_vars
          first | exact sat_pure ⟨rfl, rfl, rfl⟩ | (refine sat_pure ⟨rfl, ?_, ?_⟩ <;> first | rfl | (dsimp only; simp only [ln_set]; rfl))
    · refine sat_brf (by first | exact hb8 | (subst_vars; first | exact hb8 | rfl)) ?_
      conv => arg 1; cbv
      obtain rfl := Option.some.inj h
      subst_vars
      first | exact sat_pure (.inl ⟨⟨_, rfl⟩, rfl⟩) | (refine sat_pure (.inl ⟨⟨_, rfl⟩, ?_⟩); dsimp only; simp only [ln_set]; rfl)
  · clear hl30
    rcases q with ⟨o31, o32, o33⟩
    dsimp only at h
    obtain ⟨ln_o31, hln_o31⟩ : ∃ n, ln o31 = n := ⟨_, rfl⟩
    simp only [hln_o31]
    conv => arg 1; cbv
    refine sat_true (len_ok hΩ (ro_bool hE) o31 (by first | rfl | (subst_vars; rfl)) (by first | rfl | (subst_vars; rfl))) ?_
    conv => arg 1; cbv
    obtain rfl := Option.some.inj h
    subst_vars
    exact sat_pure rfl
set_option maxHeartbeats 4000000 in
theorem ok39 {Ω : Om} {E : Enc} (hΩ : real (call S) = Ω) (hE : theEnc = E) {fu : Nat} {a0 : Sl Int} {a1 : Sl Int} {r : (Sl Ref09Step)} (h : P39 fu a0 a1 = some r) {args : List PV} (ha : [PV.d (.sl (E.L_i_i64 a0.l) (E.X_i_i64 a0.x)), PV.d (.sl (E.L_i_i64 a1.l) (E.X_i_i64 a1.x))] = args) (st : St) :
    Sat (Ω.cf 39 args st) (fun q => q = (PV.d (.sl (E.L_Ref09Step r.l) (E.X_Ref09Step r.x)), st)) := by
  subst ha
  rcases a0 with ⟨a0_l, a0_x⟩
  rcases a1 with ⟨a1_l, a1_x⟩
  rw [cf_body hΩ (f := 39) (fn := Try.f39) (x := c39) rfl rfl c39_ok rfl]
  unfold P39 at h
  try dsimp only at h
  conv => arg 1; cbv
  obtain ⟨⟨r1_l, r1_x⟩, hx2, hz⟩ := Option.bind_eq_some_iff.1 h
  clear h
  have h := hz
  clear hz
  try dsimp only at h
  refine sat_call (ok63 hΩ hE hx2 (by subst_vars; rfl) _) ?_
  conv => arg 1; cbv
  refine sat_nil hΩ (ro_i_i64 hE) fun l3 hl4 => ?_
  conv => arg 1; cbv
  obtain ⟨q, hl21, hz⟩ := Option.bind_eq_some_iff.1 h
  clear h
  have h := hz
  clear hz
  refine sat_loop hΩ (fun (a : (List Int) × Int) => (match a with | (l5, i6) => ([(0, PV.d (.sl (E.L_i_i64 a0_l) (E.X_i_i64 a0_x))), (1, PV.d (.sl (E.L_i_i64 r1_l) (E.X_i_i64 r1_x))), (4, PV.d (.sl [] (some []))), (5, PV.row 0 0 (ln l5)), (6, PV.d (.int .i64 i6))], ([X.Obj.row 3 1 (E.L_i_i64 l5) false none] : List X.Obj) :: st))) (fun (q : ((List Int) × Int)) => (match q with | (o22, o23) => (.exit 0, [(0, PV.d (.sl (E.L_i_i64 a0_l) (E.X_i_i64 a0_x))), (1, PV.d (.sl (E.L_i_i64 r1_l) (E.X_i_i64 r1_x))), (4, PV.d (.sl [] (some []))), (5, PV.row 0 0 (ln o22)), (6, PV.d (.int .i64 o23))], ([X.Obj.row 3 1 (E.L_i_i64 o22) false none] : List X.Obj) :: st))) (([] : List Int), 0) hl21 (by first | rfl | (subst_vars; rfl) | (subst_vars; simp only [ln_set])) ?_ ?_
  · clear h hl21
    rintro ⟨l5, i6⟩ q h
    unfold P39_s0 at h
    dsimp only at h
    obtain ⟨ln_l5, hln_l5⟩ : ∃ n, ln l5 = n := ⟨_, rfl⟩
    simp only [hln_l5]
    conv => arg 1; cbv
    refine sat_len hΩ (ro_i_i64 hE) r1_l (by first | rfl | (subst_vars; rfl)) fun n7 hn8 => ?_
    conv => arg 1; cbv
    refine sat_in hΩ ?_
    conv => arg 1; cbv
    replace h := bif_cases h
    rcases h with ⟨hb9, h⟩ | ⟨hb9, h⟩
    · refine sat_brt (by first | exact hb9 | (subst_vars; first | exact hb9 | rfl)) ?_
      conv => arg 1; cbv
      obtain ⟨⟨r10_l, r10_x⟩, hx11, hz⟩ := Option.bind_eq_some_iff.1 h
      clear h
      have h := hz
      clear hz
      try dsimp only at h
      refine sat_call (ok63 hΩ hE hx11 (by subst_vars; rfl) _) ?_
      conv => arg 1; cbv
      refine sat_true (same_ok hΩ _) ?_
      conv => arg 1; cbv
      refine sat_true (fits_l hΩ (ro_i_i64 hE) r1_l (by first | rfl | (subst_vars; rfl))) ?_
      conv => arg 1; cbv
      obtain ⟨x12, hx13, hz⟩ := Option.bind_eq_some_iff.1 h
      clear h
      have h := hz
      clear hz
      refine sat_bind (nth_ok hΩ (ro_i_i64 hE) hx13 (by first | rfl | (subst_vars; rfl)) (by first | rfl | (subst_vars; rfl))) ?_
      conv => arg 1; cbv
      obtain ⟨r14, hx15, hz⟩ := Option.bind_eq_some_iff.1 h
      clear h
      have h := hz
      clear hz
      refine sat_call (ok64 hΩ hE hx15 (by subst_vars; rfl) _) ?_
      conv => arg 1; cbv
      refine sat_true (same_ok hΩ _) ?_
      conv => arg 1; cbv
      refine sat_true (same_ok hΩ _) ?_
      conv => arg 1; cbv
      refine sat_true (ieq_ok hΩ _) ?_
      conv => arg 1; cbv
      refine sat_true (fits_l hΩ (ro_i_i64 hE) [r14] (by first | rfl | (subst_vars; rfl))) ?_
      conv => arg 1; cbv
      refine sat_true (len_ok hΩ (ro_i_i64 hE) l5 (by first | rfl | (subst_vars; rfl) | (subst_vars; simp only [ln_set])) (by first | rfl | (subst_vars; rfl) | (subst_vars; simp only [ln_set]))) ?_
      conv => arg 1; cbv
      refine sat_brf (len_zero hΩ (ro_i_i64 hE) (l := [r14]) (b := false) (by rfl) (by first | rfl | (subst_vars; rfl))) ?_
      conv => arg 1; cbv
      refine sat_cat hΩ (ro_i_i64 hE) l5 [r14] (by first | rfl | (subst_vars; rfl)) (by first | rfl | (subst_vars; rfl)) fun l16 hl17 n18 hn19 => ?_
      conv => arg 1; cbv
      replace h := bif_some h
      obtain ⟨hb20, h⟩ := h
      refine sat_true (by first | exact hb20 | (subst_vars; first | exact hb20 | rfl)) ?_
      conv => arg 1; cbv
      obtain rfl := Option.some.inj h
      subst_vars
      first | exact sat_pure ⟨rfl, rfl, rfl⟩ | (refine sat_pure ⟨rfl, ?_, ?_⟩ <;> first | rfl | (dsimp only; simp only [ln_set]; rfl))
    · refine sat_brf (by first | exact hb9 | (subst_vars; first | exact hb9 | rfl)) ?_
      conv => arg 1; cbv
      obtain rfl := Option.some.inj h
      subst_vars
      first | exact sat_pure (.inl ⟨⟨_, rfl⟩, rfl⟩) | (refine sat_pure (.inl ⟨⟨_, rfl⟩, ?_⟩); dsimp only; simp only [ln_set]; rfl)
  · clear hl21
    rcases q with ⟨o22, o23⟩
    dsimp only at h
    obtain ⟨ln_o22, hln_o22⟩ : ∃ n, ln o22 = n := ⟨_, rfl⟩
    simp only [hln_o22]
    conv => arg 1; cbv
    refine sat_true (len_ok hΩ (ro_i_i64 hE) o22 (by first | rfl | (subst_vars; rfl)) (by first | rfl | (subst_vars; rfl))) ?_
    conv => arg 1; cbv
    obtain ⟨⟨r24_l, r24_x⟩, hx25, hz⟩ := Option.bind_eq_some_iff.1 h
    clear h
    have h := hz
    clear hz
    try dsimp only at h
    refine sat_call (ok22 hΩ hE hx25 (by subst_vars; rfl) _) ?_
    conv => arg 1; cbv
    refine sat_nil hΩ (ro_Ref09Step hE) fun l26 hl27 => ?_
    conv => arg 1; cbv
    obtain ⟨q, hl56, hz⟩ := Option.bind_eq_some_iff.1 h
    clear h
    have h := hz
    clear hz
    refine sat_loop hΩ (fun (a : (List Ref09Step) × Int) => (match a with | (l28, i29) => ([(0, PV.d (.sl (E.L_i_i64 a0_l) (E.X_i_i64 a0_x))), (1, PV.d (.sl (E.L_i_i64 r1_l) (E.X_i_i64 r1_x))), (4, PV.d (.sl [] (some []))), (5, PV.row 0 0 (ln o22)), (6, PV.d (.int .i64 o23)), (7, PV.d (.sl (E.L_bool r24_l) (E.X_bool r24_x))), (8, PV.row 0 1 (ln l28)), (9, PV.d (.int .i64 i29))], ([X.Obj.row 3 1 (E.L_i_i64 o22) false none, X.Obj.row 59 2 (E.L_Ref09Step l28) false none] : List X.Obj) :: st))) (fun (q : ((List Ref09Step) × Int)) => (match q with | (o57, o58) => (.exit 2, [(0, PV.d (.sl (E.L_i_i64 a0_l) (E.X_i_i64 a0_x))), (1, PV.d (.sl (E.L_i_i64 r1_l) (E.X_i_i64 r1_x))), (4, PV.d (.sl [] (some []))), (5, PV.row 0 0 (ln o22)), (6, PV.d (.int .i64 o23)), (7, PV.d (.sl (E.L_bool r24_l) (E.X_bool r24_x))), (8, PV.row 0 1 (ln o57)), (9, PV.d (.int .i64 o58))], ([X.Obj.row 3 1 (E.L_i_i64 o22) false none, X.Obj.row 59 2 (E.L_Ref09Step o57) false none] : List X.Obj) :: st))) (([] : List Ref09Step), 0) hl56 (by first | rfl | (subst_vars; rfl) | (subst_vars; simp only [ln_set])) ?_ ?_
    · clear h hl56
      rintro ⟨l28, i29⟩ q h
      unfold P39_s1 at h
      dsimp only at h
      obtain ⟨ln_o22, hln_o22⟩ : ∃ n, ln o22 = n := ⟨_, rfl⟩
      simp only [hln_o22]
      obtain ⟨ln_l28, hln_l28⟩ : ∃ n, ln l28 = n := ⟨_, rfl⟩
      simp only [hln_l28]
      conv => arg 1; cbv
      refine sat_len hΩ (ro_i_i64 hE) r1_l (by first | rfl | (subst_vars; rfl)) fun n30 hn31 => ?_
      conv => arg 1; cbv
      refine sat_in hΩ ?_
      conv => arg 1; cbv
      replace h := bif_cases h
      rcases h with ⟨hb32, h⟩ | ⟨hb32, h⟩
      · refine sat_brt (by first | exact hb32 | (subst_vars; first | exact hb32 | rfl)) ?_
        conv => arg 1; cbv
        refine sat_true (fits_l hΩ (ro_bool hE) r24_l (by first | rfl | (subst_vars; rfl))) ?_
        conv => arg 1; cbv
        obtain ⟨x33, hx34, hz⟩ := Option.bind_eq_some_iff.1 h
        clear h
        have h := hz
        clear hz
        refine sat_bind (nth_ok hΩ (ro_bool hE) hx34 (by first | rfl | (subst_vars; rfl)) (by first | rfl | (subst_vars; rfl))) ?_
        conv => arg 1; cbv
        refine sat_in hΩ ?_
        conv => arg 1; cbv
        replace h := bif_cases h
        rcases h with ⟨hb35, h⟩ | ⟨hb35, h⟩
        · refine sat_brt (by first | exact hb35 | (subst_vars; first | exact hb35 | rfl)) ?_
          conv => arg 1; cbv
          obtain rfl := Option.some.inj h
          subst_vars
          first | exact sat_pure ⟨rfl, rfl, rfl⟩ | (refine sat_pure ⟨rfl, ?_, ?_⟩ <;> first | rfl | (dsimp only; simp only [ln_set]; rfl))
        · refine sat_brf (by first | exact hb35 | (subst_vars; first | exact hb35 | rfl)) ?_
          conv => arg 1; cbv
          refine sat_len hΩ (ro_i_i64 hE) r1_l (by first | rfl | (subst_vars; rfl)) fun n36 hn37 => ?_
          conv => arg 1; cbv
          obtain ⟨q, hl46, hz⟩ := Option.bind_eq_some_iff.1 h
          clear h
          have h := hz
          clear hz
          refine sat_loop hΩ (fun (a : Int × Int) => (match a with | (i38, i39) => ([(0, PV.d (.sl (E.L_i_i64 a0_l) (E.X_i_i64 a0_x))), (1, PV.d (.sl (E.L_i_i64 r1_l) (E.X_i_i64 r1_x))), (4, PV.d (.sl [] (some []))), (5, PV.row 0 0 (ln o22)), (6, PV.d (.int .i64 o23)), (7, PV.d (.sl (E.L_bool r24_l) (E.X_bool r24_x))), (8, PV.row 0 1 (ln l28)), (9, PV.d (.int .i64 i29)), (10, PV.d (.int .i64 i38)), (11, PV.d (.int .i64 i39))], ([X.Obj.row 3 1 (E.L_i_i64 o22) false none, X.Obj.row 59 2 (E.L_Ref09Step l28) false none] : List X.Obj) :: st))) (fun (q : (Int × Int)) => (match q with | (o47, o48) => (.exit 4, [(0, PV.d (.sl (E.L_i_i64 a0_l) (E.X_i_i64 a0_x))), (1, PV.d (.sl (E.L_i_i64 r1_l) (E.X_i_i64 r1_x))), (4, PV.d (.sl [] (some []))), (5, PV.row 0 0 (ln o22)), (6, PV.d (.int .i64 o23)), (7, PV.d (.sl (E.L_bool r24_l) (E.X_bool r24_x))), (8, PV.row 0 1 (ln l28)), (9, PV.d (.int .i64 i29)), (10, PV.d (.int .i64 o47)), (11, PV.d (.int .i64 o48))], ([X.Obj.row 3 1 (E.L_i_i64 o22) false none, X.Obj.row 59 2 (E.L_Ref09Step l28) false none] : List X.Obj) :: st))) (0, w64 ((ln r1_l) - 1)) hl46 (by first | rfl | (subst_vars; rfl) | (subst_vars; simp only [ln_set])) ?_ ?_
          · clear h hl46
            rintro ⟨i38, i39⟩ q h
            unfold P39_s2 at h
            dsimp only at h
            obtain ⟨ln_o22, hln_o22⟩ : ∃ n, ln o22 = n := ⟨_, rfl⟩
            simp only [hln_o22]
            obtain ⟨ln_l28, hln_l28⟩ : ∃ n, ln l28 = n := ⟨_, rfl⟩
            simp only [hln_l28]
            conv => arg 1; cbv
            refine sat_in hΩ ?_
            conv => arg 1; cbv
            replace h := bif_cases h
            rcases h with ⟨hb40, h⟩ | ⟨hb40, h⟩
            · refine sat_brt (by first | exact hb40 | (subst_vars; first | exact hb40 | rfl)) ?_
              conv => arg 1; cbv
              refine sat_true (fits_l hΩ (ro_bool hE) r24_l (by first | rfl | (subst_vars; rfl))) ?_
              conv => arg 1; cbv
              obtain ⟨x41, hx42, hz⟩ := Option.bind_eq_some_iff.1 h
              clear h
              have h := hz
              clear hz
              refine sat_bind (nth_ok hΩ (ro_bool hE) hx42 (by first | rfl | (subst_vars; rfl)) (by first | rfl | (subst_vars; rfl))) ?_
              conv => arg 1; cbv
              refine sat_in hΩ ?_
              conv => arg 1; cbv
              replace h := bif_cases h
              rcases h with ⟨hb43, h⟩ | ⟨hb43, h⟩
              · refine sat_brt (by first | exact hb43 | (subst_vars; first | exact hb43 | rfl)) ?_
                conv => arg 1; cbv
                refine sat_true (fits_l hΩ (ro_i_i64 hE) r1_l (by first | rfl | (subst_vars; rfl))) ?_
                conv => arg 1; cbv
                obtain ⟨x44, hx45, hz⟩ := Option.bind_eq_some_iff.1 h
                clear h
                have h := hz
                clear hz
                refine sat_bind (nth_ok hΩ (ro_i_i64 hE) hx45 (by first | rfl | (subst_vars; rfl)) (by first | rfl | (subst_vars; rfl))) ?_
                conv => arg 1; cbv
                obtain rfl := Option.some.inj h
                subst_vars
                first | exact sat_pure ⟨rfl, rfl, rfl⟩ | (refine sat_pure ⟨rfl, ?_, ?_⟩ <;> first | rfl | (dsimp only; simp only [ln_set]; rfl))
              · refine sat_brf (by first | exact hb43 | (subst_vars; first | exact hb43 | rfl)) ?_
                conv => arg 1; cbv
                obtain rfl := Option.some.inj h
                subst_vars
                first | exact sat_pure ⟨rfl, rfl, rfl⟩ | (refine sat_pure ⟨rfl, ?_, ?_⟩ <;> first | rfl | (dsimp only; simp only [ln_set]; rfl))
            · refine sat_brf (by first | exact hb40 | (subst_vars; first | exact hb40 | rfl)) ?_
              conv => arg 1; cbv
              obtain rfl := Option.some.inj h
              subst_vars
              first | exact sat_pure (.inl ⟨⟨_, rfl⟩, rfl⟩) | (refine sat_pure (.inl ⟨⟨_, rfl⟩, ?_⟩); dsimp only; simp only [ln_set]; rfl)
          · clear hl46
            rcases q with ⟨o47, o48⟩
            dsimp only at h
            obtain ⟨ln_o22, hln_o22⟩ : ∃ n, ln o22 = n := ⟨_, rfl⟩
            simp only [hln_o22]
            obtain ⟨ln_l28, hln_l28⟩ : ∃ n, ln l28 = n := ⟨_, rfl⟩
            simp only [hln_l28]
            conv => arg 1; cbv
            refine sat_true (fits_l hΩ (ro_i_i64 hE) r1_l (by first | rfl | (subst_vars; rfl))) ?_
            conv => arg 1; cbv
            obtain ⟨x49, hx50, hz⟩ := Option.bind_eq_some_iff.1 h
            clear h
            have h := hz
            clear hz
            refine sat_bind (nth_ok hΩ (ro_i_i64 hE) hx50 (by first | rfl | (subst_vars; rfl)) (by first | rfl | (subst_vars; rfl))) ?_
            conv => arg 1; cbv
            refine sat_true (ieq_ok hΩ _) ?_
            conv => arg 1; cbv
            refine sat_true (fits_l hΩ (ro_Ref09Step hE) [(Ref09Step.mk x49 o47)] (by first | rfl | (subst_vars; rfl))) ?_
            conv => arg 1; cbv
            refine sat_true (len_ok hΩ (ro_Ref09Step hE) l28 (by first | rfl | (subst_vars; rfl) | (subst_vars; simp only [ln_set])) (by first | rfl | (subst_vars; rfl) | (subst_vars; simp only [ln_set]))) ?_
            conv => arg 1; cbv
            refine sat_brf (len_zero hΩ (ro_Ref09Step hE) (l := [(Ref09Step.mk x49 o47)]) (b := false) (by rfl) (by first | rfl | (subst_vars; rfl))) ?_
            conv => arg 1; cbv
            refine sat_cat hΩ (ro_Ref09Step hE) l28 [(Ref09Step.mk x49 o47)] (by first | rfl | (subst_vars; rfl)) (by first | rfl | (subst_vars; rfl)) fun l51 hl52 n53 hn54 => ?_
            conv => arg 1; cbv
            replace h := bif_some h
            obtain ⟨hb55, h⟩ := h
            refine sat_true (by first | exact hb55 | (subst_vars; first | exact hb55 | rfl)) ?_
            conv => arg 1; cbv
            obtain rfl := Option.some.inj h
            subst_vars
            first | exact sat_pure ⟨rfl, rfl, rfl⟩ | (refine sat_pure ⟨rfl, ?_, ?_⟩ <;> first | rfl | (dsimp only; simp only [ln_set]; rfl))
      · refine sat_brf (by first | exact hb32 | (subst_vars; first | exact hb32 | rfl)) ?_
        conv => arg 1; cbv
        obtain rfl := Option.some.inj h
        subst_vars
        first | exact sat_pure (.inl ⟨⟨_, rfl⟩, rfl⟩) | (refine sat_pure (.inl ⟨⟨_, rfl⟩, ?_⟩); dsimp only; simp only [ln_set]; rfl)
    · clear hl56
      rcases q with ⟨o57, o58⟩
      dsimp only at h
      obtain ⟨ln_o22, hln_o22⟩ : ∃ n, ln o22 = n := ⟨_, rfl⟩
      simp only [hln_o22]
      obtain ⟨ln_o57, hln_o57⟩ : ∃ n, ln o57 = n := ⟨_, rfl⟩
      simp only [hln_o57]
      conv => arg 1; cbv
      refine sat_true (len_ok hΩ (ro_Ref09Step hE) o57 (by first | rfl | (subst_vars; rfl)) (by first | rfl | (subst_vars; rfl))) ?_
      conv => arg 1; cbv
      obtain rfl := Option.some.inj h
      subst_vars
      exact sat_pure rfl
set_option maxHeartbeats 4000000 in
theorem ok23 {Ω : Om} {E : Enc} (hΩ : real (call S) = Ω) (hE : theEnc = E) {fu : Nat} {a0 : Sl Int} {a1 : Sl Int} {r : Bool} (h : P23 fu a0 a1 = some r) {args : List PV} (ha : [PV.d (.sl (E.L_i_i64 a0.l) (E.X_i_i64 a0.x)), PV.d (.sl (E.L_i_i64 a1.l) (E.X_i_i64 a1.x))] = args) (st : St) :
    Sat (Ω.cf 23 args st) (fun q => q = (PV.d (.bool r), st)) := by
  subst ha
  rcases a0 with ⟨a0_l, _ | a0_h⟩
  · rcases a1 with ⟨a1_l, a1_x⟩
    rw [cf_body hΩ (f := 23) (fn := Try.f23) (x := c23) rfl rfl c23_ok rfl]
    unfold P23 at h
    try dsimp only at h
    dsimp only []
    rw [show E.X_i_i64 none = none from by rw [(ro_i_i64 hE).2.1]; rfl]
    conv => arg 1; cbv
    refine sat_len hΩ (ro_i_i64 hE) a0_l (by first | rfl | (subst_vars; rfl)) fun n1 hn2 => ?_
    conv => arg 1; cbv
    refine sat_len hΩ (ro_i_i64 hE) a1_l (by first | rfl | (subst_vars; rfl)) fun n3 hn4 => ?_
    conv => arg 1; cbv
    replace h := bif_cases h
    rcases h with ⟨hb5, h⟩ | ⟨hb5, h⟩
    · cases h
    refine sat_brf (by first | exact hb5 | (subst_vars; first | exact hb5 | rfl)) ?_
    conv => arg 1; cbv
    refine sat_in hΩ ?_
    conv => arg 1; cbv
    obtain rfl := Option.some.inj h
    subst_vars
    exact sat_pure rfl
  · rcases a1 with ⟨a1_l, a1_x⟩
    rw [cf_body hΩ (f := 23) (fn := Try.f23) (x := c23) rfl rfl c23_ok rfl]
    unfold P23 at h
    try dsimp only at h
    dsimp only []
    rw [show E.X_i_i64 (some a0_h) = some (E.L_i_i64 a0_h) from by rw [(ro_i_i64 hE).2.1]; rfl]
    conv => arg 1; cbv
    refine sat_len hΩ (ro_i_i64 hE) a0_l (by first | rfl | (subst_vars; rfl)) fun n6 hn7 => ?_
    conv => arg 1; cbv
    refine sat_len hΩ (ro_i_i64 hE) a1_l (by first | rfl | (subst_vars; rfl)) fun n8 hn9 => ?_
    conv => arg 1; cbv
    replace h := bif_cases h
    rcases h with ⟨hb10, h⟩ | ⟨hb10, h⟩
    · refine sat_brt (by first | exact hb10 | (subst_vars; first | exact hb10 | rfl)) ?_
      conv => arg 1; cbv
      refine sat_cat hΩ (ro_i_i64 hE) a0_l a0_h (by first | rfl | (subst_vars; rfl)) (by first | rfl | (subst_vars; rfl)) fun l11 hl12 n13 hn14 => ?_
      conv => arg 1; cbv
      refine sat_len hΩ (ro_i_i64 hE) a1_l (by first | rfl | (subst_vars; rfl)) fun n15 hn16 => ?_
      conv => arg 1; cbv
      refine sat_in hΩ ?_
      conv => arg 1; cbv
      replace h := bif_cases h
      rcases h with ⟨hb17, h⟩ | ⟨hb17, h⟩
      · refine sat_brt (by first | exact hb17 | (subst_vars; first | exact hb17 | rfl)) ?_
        conv => arg 1; cbv
        obtain rfl := Option.some.inj h
        subst_vars
        exact sat_pure rfl
      · refine sat_brf (by first | exact hb17 | (subst_vars; first | exact hb17 | rfl)) ?_
        conv => arg 1; cbv
        obtain ⟨q, hl27, hz⟩ := Option.bind_eq_some_iff.1 h
        clear h
        have h := hz
        clear hz
        refine sat_loop hΩ (fun (a : Int) => (match a with | i18 => ([(0, PV.d (.sl (E.L_i_i64 a0_l) (some (E.L_i_i64 a0_h)))), (1, PV.d (.sl (E.L_i_i64 a1_l) (E.X_i_i64 a1_x))), (4, PV.d (.bool false)), (5, PV.d (.int .i64 i18))], ([] : List X.Obj) :: st))) (fun (q : Int ⊕ Int) => (match q with | .inl o28 => (.exit 0, [(0, PV.d (.sl (E.L_i_i64 a0_l) (some (E.L_i_i64 a0_h)))), (1, PV.d (.sl (E.L_i_i64 a1_l) (E.X_i_i64 a1_x))), (4, PV.d (.bool false)), (5, PV.d (.int .i64 o28))], ([] : List X.Obj) :: st) | .inr o48 => (.ret, [(0, PV.d (.sl (E.L_i_i64 a0_l) (some (E.L_i_i64 a0_h)))), (1, PV.d (.sl (E.L_i_i64 a1_l) (E.X_i_i64 a1_x))), (4, PV.d (.bool false)), (5, PV.d (.int .i64 o48))], ([] : List X.Obj) :: st))) 0 hl27 (by first | rfl | (subst_vars; rfl) | (subst_vars; simp only [ln_set])) ?_ ?_
        · clear h hl27
          rintro i18 q h
          unfold P23_s0 at h
          dsimp only at h
          conv => arg 1; cbv
          refine sat_len hΩ (ro_i_i64 hE) a1_l (by first | rfl | (subst_vars; rfl)) fun n19 hn20 => ?_
          conv => arg 1; cbv
          refine sat_in hΩ ?_
          conv => arg 1; cbv
          replace h := bif_cases h
          rcases h with ⟨hb21, h⟩ | ⟨hb21, h⟩
          · refine sat_brt (by first | exact hb21 | (subst_vars; first | exact hb21 | rfl)) ?_
            conv => arg 1; cbv
            refine sat_true (fits_l hΩ (ro_i_i64 hE) a0_l (by first | rfl | (subst_vars; rfl))) ?_
            conv => arg 1; cbv
            obtain ⟨x22, hx23, hz⟩ := Option.bind_eq_some_iff.1 h
            clear h
            have h := hz
            clear hz
            refine sat_bind (nth_ok hΩ (ro_i_i64 hE) hx23 (by first | rfl | (subst_vars; rfl)) (by first | rfl | (subst_vars; rfl))) ?_
            conv => arg 1; cbv
            refine sat_true (fits_l hΩ (ro_i_i64 hE) a1_l (by first | rfl | (subst_vars; rfl))) ?_
            conv => arg 1; cbv
            obtain ⟨x24, hx25, hz⟩ := Option.bind_eq_some_iff.1 h
            clear h
            have h := hz
            clear hz
            refine sat_bind (nth_ok hΩ (ro_i_i64 hE) hx25 (by first | rfl | (subst_vars; rfl)) (by first | rfl | (subst_vars; rfl))) ?_
            conv => arg 1; cbv
            refine sat_in hΩ ?_
            conv => arg 1; cbv
            replace h := bif_cases h
            rcases h with ⟨hb26, h⟩ | ⟨hb26, h⟩
            · refine sat_brt (by first | exact hb26 | (subst_vars; first | exact hb26 | rfl)) ?_
              conv => arg 1; cbv
              obtain rfl := Option.some.inj h
              subst_vars
              first | exact sat_pure (.inr ⟨rfl, rfl⟩) | (refine sat_pure (.inr ⟨rfl, ?_⟩); dsimp only; simp only [ln_set]; rfl)
            · refine sat_brf (by first | exact hb26 | (subst_vars; first | exact hb26 | rfl)) ?_
              conv => arg 1; cbv
              obtain rfl := Option.some.inj h
              subst_vars
              first | exact sat_pure ⟨rfl, rfl, rfl⟩ | (refine sat_pure ⟨rfl, ?_, ?_⟩ <;> first | rfl | (dsimp only; simp only [ln_set]; rfl))
          · refine sat_brf (by first | exact hb21 | (subst_vars; first | exact hb21 | rfl)) ?_
            conv => arg 1; cbv
            obtain rfl := Option.some.inj h
            subst_vars
            first | exact sat_pure (.inl ⟨⟨_, rfl⟩, rfl⟩) | (refine sat_pure (.inl ⟨⟨_, rfl⟩, ?_⟩); dsimp only; simp only [ln_set]; rfl)
        · clear hl27
          rcases q with o28 | o48
          · dsimp only at h
            conv => arg 1; cbv
            refine sat_len hΩ (ro_i_i64 hE) a1_l (by first | rfl | (subst_vars; rfl)) fun n29 hn30 => ?_
            conv => arg 1; cbv
            refine sat_true (fits_x hΩ (ro_i_i64 hE) a0_l (some a0_h) (by first | rfl | (subst_vars; rfl)) (by first | rfl | (subst_vars; rfl))) ?_
            conv => arg 1; cbv
            refine sat_len hΩ (ro_i_i64 hE) a0_l (by first | rfl | (subst_vars; rfl)) fun n31 hn32 => ?_
            conv => arg 1; cbv
            refine sat_cat hΩ (ro_i_i64 hE) a0_l a0_h (by first | rfl | (subst_vars; rfl)) (by first | rfl | (subst_vars; rfl)) fun l33 hl34 n35 hn36 => ?_
            conv => arg 1; cbv
            replace h := bif_some h
            obtain ⟨hb37, h⟩ := h
            refine sat_true (by first | exact hb37 | (subst_vars; first | exact hb37 | rfl)) ?_
            conv => arg 1; cbv
            replace h := bif_some h
            obtain ⟨hb38, h⟩ := h
            refine sat_true (by first | exact hb38 | (subst_vars; first | exact hb38 | rfl)) ?_
            conv => arg 1; cbv
            replace h := bif_some h
            obtain ⟨hb39, h⟩ := h
            refine sat_true (by first | exact hb39 | (subst_vars; first | exact hb39 | rfl)) ?_
            conv => arg 1; cbv
            refine sat_cut hΩ (ro_i_i64 hE) (a0_l ++ a0_h) 0 (w64 ((ln a1_l) + 1)) (by first | rfl | (subst_vars; rfl)) (by first | rfl | (subst_vars; rfl)) (by first | rfl | (subst_vars; rfl)) fun l40 hl41 => ?_
            conv => arg 1; cbv
            refine sat_cut hΩ (ro_i_i64 hE) (a0_l ++ a0_h) (w64 ((ln a1_l) + 1)) (ln (a0_l ++ a0_h)) (by first | rfl | (subst_vars; rfl)) (by first | rfl | (subst_vars; rfl)) (by first | rfl | (subst_vars; rfl)) fun l42 hl43 => ?_
            conv => arg 1; cbv
            refine sat_len hΩ (ro_i_i64 hE) a1_l (by first | rfl | (subst_vars; rfl)) fun n44 hn45 => ?_
            conv => arg 1; cbv
            refine sat_true (fits_l hΩ (ro_i_i64 hE) (cut (a0_l ++ a0_h) 0 (w64 ((ln a1_l) + 1))) (by first | rfl | (subst_vars; rfl))) ?_
            conv => arg 1; cbv
            obtain ⟨x46, hx47, hz⟩ := Option.bind_eq_some_iff.1 h
            clear h
            have h := hz
            clear hz
            refine sat_bind (nth_ok hΩ (ro_i_i64 hE) hx47 (by first | rfl | (subst_vars; rfl)) (by first | rfl | (subst_vars; rfl))) ?_
            conv => arg 1; cbv
            obtain rfl := Option.some.inj h
            subst_vars
            exact sat_pure rfl
          · dsimp only at h
            conv => arg 1; cbv
            obtain rfl := Option.some.inj h
            subst_vars
            exact sat_pure rfl
    · refine sat_brf (by first | exact hb10 | (subst_vars; first | exact hb10 | rfl)) ?_
      conv => arg 1; cbv
      refine sat_in hΩ ?_
      conv => arg 1; cbv
      obtain rfl := Option.some.inj h
      subst_vars
      exact sat_pure rfl
set_option maxHeartbeats 4000000 in
theorem ok9 {Ω : Om} {E : Enc} (hΩ : real (call S) = Ω) (hE : theEnc = E) {fu : Nat} {a0 : Sl Int} {a1 : Sl Int} {r : Bool} (h : P9 fu a0 a1 = some r) {args : List PV} (ha : [PV.d (.sl (E.L_i_i64 a0.l) (E.X_i_i64 a0.x)), PV.d (.sl (E.L_i_i64 a1.l) (E.X_i_i64 a1.x))] = args) (st : St) :
    Sat (Ω.cf 9 args st) (fun q => q = (PV.d (.bool r), st)) := by
  subst ha
  rcases a0 with ⟨a0_l, a0_x⟩
  rcases a1 with ⟨a1_l, a1_x⟩
  rw [cf_body hΩ (f := 9) (fn := Try.f9) (x := c9) rfl rfl c9_ok rfl]
  unfold P9 at h
  try dsimp only at h
  conv => arg 1; cbv
  refine sat_len hΩ (ro_i_i64 hE) a0_l (by first | rfl | (subst_vars; rfl)) fun n1 hn2 => ?_
  conv => arg 1; cbv
  replace h := bif_cases h
  rcases h with ⟨hb3, h⟩ | ⟨hb3, h⟩
  · refine sat_brt (by first | exact hb3 | (subst_vars; first | exact hb3 | rfl)) ?_
    conv => arg 1; cbv
    refine sat_len hΩ (ro_i_i64 hE) a1_l (by first | rfl | (subst_vars; rfl)) fun n4 hn5 => ?_
    conv => arg 1; cbv
    refine sat_in hΩ ?_
    conv => arg 1; cbv
    replace h := bif_cases h
    rcases h with ⟨hb6, h⟩ | ⟨hb6, h⟩
    · refine sat_brt (by first | exact hb6 | (subst_vars; first | exact hb6 | rfl)) ?_
      conv => arg 1; cbv
      obtain rfl := Option.some.inj h
      subst_vars
      exact sat_pure rfl
    · refine sat_brf (by first | exact hb6 | (subst_vars; first | exact hb6 | rfl)) ?_
      conv => arg 1; cbv
      obtain ⟨⟨r7_l, r7_x⟩, hx8, hz⟩ := Option.bind_eq_some_iff.1 h
      clear h
      have h := hz
      clear hz
      try dsimp only at h
      refine sat_call (ok20 hΩ hE hx8 (by subst_vars; rfl) _) ?_
      conv => arg 1; cbv
      obtain ⟨⟨r9_l, r9_x⟩, hx10, hz⟩ := Option.bind_eq_some_iff.1 h
      clear h
      have h := hz
      clear hz
      try dsimp only at h
      refine sat_call (ok20 hΩ hE hx10 (by subst_vars; rfl) _) ?_
      conv => arg 1; cbv
      obtain ⟨r12, hx11, hz⟩ := Option.bind_eq_some_iff.1 h
      clear h
      have h := hz
      clear hz
      obtain ⟨n13, hn14⟩ : ∃ n, ln r12 = n := ⟨_, rfl⟩
      refine sat_call (ok38 hΩ hE hx11 (by subst_vars; rfl) hn14 _ _) ?_
      conv => arg 1; cbv
      obtain ⟨r16, hx15, hz⟩ := Option.bind_eq_some_iff.1 h
      clear h
      have h := hz
      clear hz
      obtain ⟨n17, hn18⟩ : ∃ n, ln r16 = n := ⟨_, rfl⟩
      refine sat_call (ok38 hΩ hE hx15 (by subst_vars; rfl) hn18 _ _) ?_
      conv => arg 1; cbv
      obtain ⟨⟨r19_l, r19_x⟩, hx20, hz⟩ := Option.bind_eq_some_iff.1 h
      clear h
      have h := hz
      clear hz
      try dsimp only at h
      refine sat_call (ok39 hΩ hE hx20 (by subst_vars; rfl) _) ?_
      conv => arg 1; cbv
      refine sat_len hΩ (ro_Ref09Step hE) r19_l (by first | rfl | (subst_vars; rfl)) fun n21 hn22 => ?_
      conv => arg 1; cbv
      replace h := bif_cases h
      rcases h with ⟨hb23, h⟩ | ⟨hb23, h⟩
      · refine sat_brt (by first | exact hb23 | (subst_vars; first | exact hb23 | rfl)) ?_
        conv => arg 1; cbv
        refine sat_len hΩ (ro_Ref09Step hE) r19_l (by first | rfl | (subst_vars; rfl)) fun n24 hn25 => ?_
        conv => arg 1; cbv
        refine sat_tick hΩ ?_
        conv => arg 1; cbv
        replace h := bif_cases h
        rcases h with ⟨hb26, h⟩ | ⟨hb26, h⟩
        · refine sat_brt (by first | exact hb26 | (subst_vars; first | exact hb26 | rfl)) ?_
          conv => arg 1; cbv
          obtain ⟨r27, hx28, hz⟩ := Option.bind_eq_some_iff.1 h
          clear h
          have h := hz
          clear hz
          refine sat_call (ok23 hΩ hE hx28 (by subst_vars; rfl) _) ?_
          conv => arg 1; cbv
          replace h := bif_cases h
          rcases h with ⟨hb29, h⟩ | ⟨hb29, h⟩
          · refine sat_brt (by first | exact hb29 | (subst_vars; first | exact hb29 | rfl)) ?_
            conv => arg 1; cbv
            obtain ⟨r30, hx31, hz⟩ := Option.bind_eq_some_iff.1 h
            clear h
            have h := hz
            clear hz
            refine sat_call (ok23 hΩ hE hx31 (by subst_vars; rfl) _) ?_
            conv => arg 1; cbv
            refine sat_in hΩ ?_
            conv => arg 1; cbv
            replace h := bif_cases h
            rcases h with ⟨hb32, h⟩ | ⟨hb32, h⟩
            · refine sat_brt (by first | exact hb32 | (subst_vars; first | exact hb32 | rfl)) ?_
              conv => arg 1; cbv
              obtain rfl := Option.some.inj h
              subst_vars
              exact sat_pure rfl
            · refine sat_brf (by first | exact hb32 | (subst_vars; first | exact hb32 | rfl)) ?_
              conv => arg 1; cbv
              obtain ⟨q, hl61, hz⟩ := Option.bind_eq_some_iff.1 h
              clear h
              have h := hz
              clear hz
              refine sat_loop hΩ (fun (a : (List PlaceStep) × Int) => (match a with | (l33, i34) => ([(0, PV.d (.sl (E.L_i_i64 a0_l) (E.X_i_i64 a0_x))), (1, PV.d (.sl (E.L_i_i64 a1_l) (E.X_i_i64 a1_x))), (4, PV.d (.bool false)), (5, PV.d (.sl (E.L_i_i64 r7_l) (E.X_i_i64 r7_x))), (6, PV.d (.sl (E.L_i_i64 r9_l) (E.X_i_i64 r9_x))), (7, PV.row 0 0 (ln l33)), (8, PV.row 0 1 n17), (9, PV.d (.sl (E.L_Ref09Step r19_l) (E.X_Ref09Step r19_x))), (10, PV.d (.int .i64 i34))], ([X.Obj.row 58 2 (E.L_PlaceStep l33) true none, X.Obj.row 58 2 (E.L_PlaceStep r16) true none] : List X.Obj) :: st))) (fun (q : ((List PlaceStep) × Int) ⊕ ((List PlaceStep) × Int)) => (match q with | .inl (o62, o63) => (.exit 0, [(0, PV.d (.sl (E.L_i_i64 a0_l) (E.X_i_i64 a0_x))), (1, PV.d (.sl (E.L_i_i64 a1_l) (E.X_i_i64 a1_x))), (4, PV.d (.bool false)), (5, PV.d (.sl (E.L_i_i64 r7_l) (E.X_i_i64 r7_x))), (6, PV.d (.sl (E.L_i_i64 r9_l) (E.X_i_i64 r9_x))), (7, PV.row 0 0 (ln o62)), (8, PV.row 0 1 n17), (9, PV.d (.sl (E.L_Ref09Step r19_l) (E.X_Ref09Step r19_x))), (10, PV.d (.int .i64 o63))], ([X.Obj.row 58 2 (E.L_PlaceStep o62) true none, X.Obj.row 58 2 (E.L_PlaceStep r16) true none] : List X.Obj) :: st) | .inr (o64, o65) => (.ret, [(0, PV.d (.sl (E.L_i_i64 a0_l) (E.X_i_i64 a0_x))), (1, PV.d (.sl (E.L_i_i64 a1_l) (E.X_i_i64 a1_x))), (4, PV.d (.bool false)), (5, PV.d (.sl (E.L_i_i64 r7_l) (E.X_i_i64 r7_x))), (6, PV.d (.sl (E.L_i_i64 r9_l) (E.X_i_i64 r9_x))), (7, PV.row 0 0 (ln o64)), (8, PV.row 0 1 n17), (9, PV.d (.sl (E.L_Ref09Step r19_l) (E.X_Ref09Step r19_x))), (10, PV.d (.int .i64 o65))], ([X.Obj.row 58 2 (E.L_PlaceStep o64) true none, X.Obj.row 58 2 (E.L_PlaceStep r16) true none] : List X.Obj) :: st))) (r12, 0) hl61 (by first | rfl | (subst_vars; rfl) | (subst_vars; simp only [ln_set])) ?_ ?_
              · clear h hl61
                rintro ⟨l33, i34⟩ q h
                unfold P9_s0 at h
                dsimp only at h
                obtain ⟨ln_l33, hln_l33⟩ : ∃ n, ln l33 = n := ⟨_, rfl⟩
                simp only [hln_l33]
                conv => arg 1; cbv
                refine sat_in hΩ ?_
                conv => arg 1; cbv
                replace h := bif_cases h
                rcases h with ⟨hb35, h⟩ | ⟨hb35, h⟩
                · refine sat_brt (by first | exact hb35 | (subst_vars; first | exact hb35 | rfl)) ?_
                  conv => arg 1; cbv
                  refine sat_true (len_ok hΩ (ro_PlaceStep hE) l33 (by first | rfl | (subst_vars; rfl) | (subst_vars; simp only [ln_set])) (by first | rfl | (subst_vars; rfl) | (subst_vars; simp only [ln_set]))) ?_
                  conv => arg 1; cbv
                  obtain ⟨⟨x36_Node, x36_Before⟩, hx37, hz⟩ := Option.bind_eq_some_iff.1 h
                  clear h
                  have h := hz
                  clear hz
                  try dsimp only at h
                  refine sat_bind (nth_ok hΩ (ro_PlaceStep hE) hx37 (by first | rfl | (subst_vars; rfl)) (by first | rfl | (subst_vars; rfl))) ?_
                  conv => arg 1; cbv
                  refine sat_true (len_ok hΩ (ro_PlaceStep hE) l33 (by first | rfl | (subst_vars; rfl) | (subst_vars; simp only [ln_set])) (by first | rfl | (subst_vars; rfl) | (subst_vars; simp only [ln_set]))) ?_
                  conv => arg 1; cbv
                  refine sat_bind (nth_ok hΩ (ro_PlaceStep hE) hx37 (by first | rfl | (subst_vars; rfl)) (by first | rfl | (subst_vars; rfl))) ?_
                  conv => arg 1; cbv
                  refine sat_true (fits_l hΩ (ro_Ref09Step hE) r19_l (by first | rfl | (subst_vars; rfl))) ?_
                  conv => arg 1; cbv
                  obtain ⟨⟨x38_Node, x38_Before⟩, hx39, hz⟩ := Option.bind_eq_some_iff.1 h
                  clear h
                  have h := hz
                  clear hz
                  try dsimp only at h
                  refine sat_bind (nth_ok hΩ (ro_Ref09Step hE) hx39 (by first | rfl | (subst_vars; rfl)) (by first | rfl | (subst_vars; rfl))) ?_
                  conv => arg 1; cbv
                  refine sat_tick hΩ ?_
                  conv => arg 1; cbv
                  replace h := bif_cases h
                  rcases h with ⟨hb40, h⟩ | ⟨hb40, h⟩
                  · refine sat_brt (by first | exact hb40 | (subst_vars; first | exact hb40 | rfl)) ?_
                    conv => arg 1; cbv
                    refine sat_true (len_ok hΩ (ro_PlaceStep hE) l33 (by first | rfl | (subst_vars; rfl) | (subst_vars; simp only [ln_set])) (by first | rfl | (subst_vars; rfl) | (subst_vars; simp only [ln_set]))) ?_
                    conv => arg 1; cbv
                    obtain ⟨⟨x41_Node, x41_Before⟩, hx42, hz⟩ := Option.bind_eq_some_iff.1 h
                    clear h
                    have h := hz
                    clear hz
                    try dsimp only at h
                    refine sat_bind (nth_ok hΩ (ro_PlaceStep hE) hx42 (by first | rfl | (subst_vars; rfl)) (by first | rfl | (subst_vars; rfl))) ?_
                    conv => arg 1; cbv
                    refine sat_true (len_ok hΩ (ro_PlaceStep hE) l33 (by first | rfl | (subst_vars; rfl) | (subst_vars; simp only [ln_set])) (by first | rfl | (subst_vars; rfl) | (subst_vars; simp only [ln_set]))) ?_
                    conv => arg 1; cbv
                    refine sat_bind (nth_ok hΩ (ro_PlaceStep hE) hx42 (by first | rfl | (subst_vars; rfl)) (by first | rfl | (subst_vars; rfl))) ?_
                    conv => arg 1; cbv
                    refine sat_true (fits_l hΩ (ro_Ref09Step hE) r19_l (by first | rfl | (subst_vars; rfl))) ?_
                    conv => arg 1; cbv
                    obtain ⟨⟨x43_Node, x43_Before⟩, hx44, hz⟩ := Option.bind_eq_some_iff.1 h
                    clear h
                    have h := hz
                    clear hz
                    try dsimp only at h
                    refine sat_bind (nth_ok hΩ (ro_Ref09Step hE) hx44 (by first | rfl | (subst_vars; rfl)) (by first | rfl | (subst_vars; rfl))) ?_
                    conv => arg 1; cbv
                    refine sat_tick hΩ ?_
                    conv => arg 1; cbv
                    replace h := bif_cases h
                    rcases h with ⟨hb45, h⟩ | ⟨hb45, h⟩
                    · refine sat_brt (by first | exact hb45 | (subst_vars; first | exact hb45 | rfl)) ?_
                      conv => arg 1; cbv
                      refine sat_true (len_ok hΩ (ro_PlaceStep hE) l33 (by first | rfl | (subst_vars; rfl) | (subst_vars; simp only [ln_set])) (by first | rfl | (subst_vars; rfl) | (subst_vars; simp only [ln_set]))) ?_
                      conv => arg 1; cbv
                      obtain ⟨⟨x46_Node, x46_Before⟩, hx47, hz⟩ := Option.bind_eq_some_iff.1 h
                      clear h
                      have h := hz
                      clear hz
                      try dsimp only at h
                      refine sat_bind (nth_ok hΩ (ro_PlaceStep hE) hx47 (by first | rfl | (subst_vars; rfl)) (by first | rfl | (subst_vars; rfl))) ?_
                      conv => arg 1; cbv
                      refine sat_true (len_ok hΩ (ro_PlaceStep hE) l33 (by first | rfl | (subst_vars; rfl) | (subst_vars; simp only [ln_set])) (by first | rfl | (subst_vars; rfl) | (subst_vars; simp only [ln_set]))) ?_
                      conv => arg 1; cbv
                      refine sat_bind (nth_ok hΩ (ro_PlaceStep hE) hx47 (by first | rfl | (subst_vars; rfl)) (by first | rfl | (subst_vars; rfl))) ?_
                      conv => arg 1; cbv
                      refine sat_true (len_ok hΩ (ro_PlaceStep hE) r16 (by first | rfl | (subst_vars; rfl) | (subst_vars; simp only [ln_set])) (by first | rfl | (subst_vars; rfl) | (subst_vars; simp only [ln_set]))) ?_
                      conv => arg 1; cbv
                      obtain ⟨⟨x48_Node, x48_Before⟩, hx49, hz⟩ := Option.bind_eq_some_iff.1 h
                      clear h
                      have h := hz
                      clear hz
                      try dsimp only at h
                      refine sat_bind (nth_ok hΩ (ro_PlaceStep hE) hx49 (by first | rfl | (subst_vars; rfl)) (by first | rfl | (subst_vars; rfl))) ?_
                      conv => arg 1; cbv
                      refine sat_true (len_ok hΩ (ro_PlaceStep hE) r16 (by first | rfl | (subst_vars; rfl) | (subst_vars; simp only [ln_set])) (by first | rfl | (subst_vars; rfl) | (subst_vars; simp only [ln_set]))) ?_
                      conv => arg 1; cbv
                      refine sat_bind (nth_ok hΩ (ro_PlaceStep hE) hx49 (by first | rfl | (subst_vars; rfl)) (by first | rfl | (subst_vars; rfl))) ?_
                      conv => arg 1; cbv
                      refine sat_in hΩ ?_
                      conv => arg 1; cbv
                      replace h := bif_cases h
                      rcases h with ⟨hb50, h⟩ | ⟨hb50, h⟩
                      · refine sat_brt (by first | exact hb50 | (subst_vars; first | exact hb50 | rfl)) ?_
                        conv => arg 1; cbv
                        obtain rfl := Option.some.inj h
                        subst_vars
                        first | exact sat_pure (.inr ⟨rfl, rfl⟩) | (refine sat_pure (.inr ⟨rfl, ?_⟩); dsimp only; simp only [ln_set]; rfl)
                      · refine sat_brf (by first | exact hb50 | (subst_vars; first | exact hb50 | rfl)) ?_
                        conv => arg 1; cbv
                        refine sat_true (len_ok hΩ (ro_PlaceStep hE) l33 (by first | rfl | (subst_vars; rfl) | (subst_vars; simp only [ln_set])) (by first | rfl | (subst_vars; rfl) | (subst_vars; simp only [ln_set]))) ?_
                        conv => arg 1; cbv
                        obtain ⟨⟨x51_Node, x51_Before⟩, hx52, hz⟩ := Option.bind_eq_some_iff.1 h
                        clear h
                        have h := hz
                        clear hz
                        try dsimp only at h
                        refine sat_bind (nth_ok hΩ (ro_PlaceStep hE) hx52 (by first | rfl | (subst_vars; rfl)) (by first | rfl | (subst_vars; rfl))) ?_
                        conv => arg 1; cbv
                        refine sat_true (len_ok hΩ (ro_PlaceStep hE) l33 (by first | rfl | (subst_vars; rfl) | (subst_vars; simp only [ln_set])) (by first | rfl | (subst_vars; rfl) | (subst_vars; simp only [ln_set]))) ?_
                        conv => arg 1; cbv
                        refine sat_bind (nth_ok hΩ (ro_PlaceStep hE) hx52 (by first | rfl | (subst_vars; rfl)) (by first | rfl | (subst_vars; rfl))) ?_
                        conv => arg 1; cbv
                        refine sat_set hΩ (ro_PlaceStep hE) l33 i34 (PlaceStep.mk (-9) (-9)) (by first | rfl | (subst_vars; rfl)) (by first | rfl | (subst_vars; rfl)) (by first | rfl | (subst_vars; rfl)) fun l53 hl54 => ?_
                        conv => arg 1; cbv
                        refine sat_true (len_ok hΩ (ro_PlaceStep hE) r16 (by first | rfl | (subst_vars; rfl) | (subst_vars; simp only [ln_set])) (by first | rfl | (subst_vars; rfl) | (subst_vars; simp only [ln_set]))) ?_
                        conv => arg 1; cbv
                        obtain ⟨⟨x56_Node, x56_Before⟩, hx57, hz⟩ := Option.bind_eq_some_iff.1 h
                        clear h
                        have h := hz
                        clear hz
                        try dsimp only at h
                        refine sat_bind (nth_ok hΩ (ro_PlaceStep hE) hx57 (by first | rfl | (subst_vars; rfl)) (by first | rfl | (subst_vars; rfl))) ?_
                        conv => arg 1; cbv
                        refine sat_true (len_ok hΩ (ro_PlaceStep hE) r16 (by first | rfl | (subst_vars; rfl) | (subst_vars; simp only [ln_set])) (by first | rfl | (subst_vars; rfl) | (subst_vars; simp only [ln_set]))) ?_
                        conv => arg 1; cbv
                        refine sat_bind (nth_ok hΩ (ro_PlaceStep hE) hx57 (by first | rfl | (subst_vars; rfl)) (by first | rfl | (subst_vars; rfl))) ?_
                        conv => arg 1; cbv
                        refine sat_true (fits_l hΩ (ro_Ref09Step hE) r19_l (by first | rfl | (subst_vars; rfl))) ?_
                        conv => arg 1; cbv
                        obtain ⟨⟨x58_Node, x58_Before⟩, hx59, hz⟩ := Option.bind_eq_some_iff.1 h
                        clear h
                        have h := hz
                        clear hz
                        try dsimp only at h
                        refine sat_bind (nth_ok hΩ (ro_Ref09Step hE) hx59 (by first | rfl | (subst_vars; rfl)) (by first | rfl | (subst_vars; rfl))) ?_
                        conv => arg 1; cbv
                        refine sat_in hΩ ?_
                        conv => arg 1; cbv
                        replace h := bif_cases h
                        rcases h with ⟨hb60, h⟩ | ⟨hb60, h⟩
                        · refine sat_brt (by first | exact hb60 | (subst_vars; first | exact hb60 | rfl)) ?_
                          conv => arg 1; cbv
                          obtain rfl := Option.some.inj h
                          subst_vars
                          first | exact sat_pure (.inr ⟨rfl, rfl⟩) | (refine sat_pure (.inr ⟨rfl, ?_⟩); dsimp only; simp only [ln_set]; rfl)
                        · refine sat_brf (by first | exact hb60 | (subst_vars; first | exact hb60 | rfl)) ?_
                          conv => arg 1; cbv
                          obtain rfl := Option.some.inj h
                          subst_vars
                          first | exact sat_pure ⟨rfl, rfl, rfl⟩ | (refine sat_pure ⟨rfl, ?_, ?_⟩ <;> first | rfl | (dsimp only; simp only [ln_set]; rfl))
                    · refine sat_brf (by first | exact hb45 | (subst_vars; first | exact hb45 | rfl)) ?_
                      conv => arg 1; cbv
                      refine sat_in hΩ ?_
                      conv => arg 1; cbv
                      obtain rfl := Option.some.inj h
                      subst_vars
                      first | exact sat_pure (.inr ⟨rfl, rfl⟩) | (refine sat_pure (.inr ⟨rfl, ?_⟩); dsimp only; simp only [ln_set]; rfl)
                  · refine sat_brf (by first | exact hb40 | (subst_vars; first | exact hb40 | rfl)) ?_
                    conv => arg 1; cbv
                    refine sat_tick hΩ ?_
                    conv => arg 1; cbv
                    refine sat_in hΩ ?_
                    conv => arg 1; cbv
                    obtain rfl := Option.some.inj h
                    subst_vars
                    first | exact sat_pure (.inr ⟨rfl, rfl⟩) | (refine sat_pure (.inr ⟨rfl, ?_⟩); dsimp only; simp only [ln_set]; rfl)
                · refine sat_brf (by first | exact hb35 | (subst_vars; first | exact hb35 | rfl)) ?_
                  conv => arg 1; cbv
                  obtain rfl := Option.some.inj h
                  subst_vars
                  first | exact sat_pure (.inl ⟨⟨_, rfl⟩, rfl⟩) | (refine sat_pure (.inl ⟨⟨_, rfl⟩, ?_⟩); dsimp only; simp only [ln_set]; rfl)
              · clear hl61
                rcases q with ⟨o62, o63⟩ | ⟨o64, o65⟩
                · dsimp only at h
                  obtain ⟨ln_o62, hln_o62⟩ : ∃ n, ln o62 = n := ⟨_, rfl⟩
                  simp only [hln_o62]
                  conv => arg 1; cbv
                  obtain rfl := Option.some.inj h
                  subst_vars
                  exact sat_pure rfl
                · dsimp only at h
                  obtain ⟨ln_o64, hln_o64⟩ : ∃ n, ln o64 = n := ⟨_, rfl⟩
                  simp only [hln_o64]
                  conv => arg 1; cbv
                  obtain rfl := Option.some.inj h
                  subst_vars
                  exact sat_pure rfl
          · refine sat_brf (by first | exact hb29 | (subst_vars; first | exact hb29 | rfl)) ?_
            conv => arg 1; cbv
            refine sat_in hΩ ?_
            conv => arg 1; cbv
            obtain rfl := Option.some.inj h
            subst_vars
            exact sat_pure rfl
        · refine sat_brf (by first | exact hb26 | (subst_vars; first | exact hb26 | rfl)) ?_
          conv => arg 1; cbv
          refine sat_in hΩ ?_
          conv => arg 1; cbv
          obtain rfl := Option.some.inj h
          subst_vars
          exact sat_pure rfl
      · refine sat_brf (by first | exact hb23 | (subst_vars; first | exact hb23 | rfl)) ?_
        conv => arg 1; cbv
        refine sat_tick hΩ ?_
        conv => arg 1; cbv
        refine sat_in hΩ ?_
        conv => arg 1; cbv
        obtain rfl := Option.some.inj h
        subst_vars
        exact sat_pure rfl
  · refine sat_brf (by first | exact hb3 | (subst_vars; first | exact hb3 | rfl)) ?_
    conv => arg 1; cbv
    refine sat_in hΩ ?_
    conv => arg 1; cbv
    obtain rfl := Option.some.inj h
    subst_vars
    exact sat_pure rfl
end Go.Proofs.Ytamllgdaepjcfaa
